/- Proved here: laws for the walk on slices of bytes that a call makes itself: what they hold as a list, append of written-out bytes and of a text, the conversion to a text, a store. No condition. Proved here: what the functions on texts return (reversal, pads). Condition: the text has at most 2^20 bytes. -/
import Derived.Test.YtljblaglfooclaaBase
import Derived.Lib.AppendStr
import Derived.Laws.MakeOwn
namespace Go.Proofs.Ytljblaglfooclaa
open Go.RowKit

/-- The cells of a list of bytes. -/
def bytesV (l : List UInt8) : List Value := l.map fun b => .int .u8 (b.toNat : Int)
theorem bytesV_length (l : List UInt8) : (bytesV l).length = l.length := by simp [bytesV]
theorem bytesV_append (l m : List UInt8) : bytesV (l ++ m) = bytesV l ++ bytesV m := by simp [bytesV]
theorem bytesV_one {l : List UInt8} : ∀ u ∈ bytesV l, u.oneCell' = true := by
  intro u hu; simp only [bytesV, List.mem_map] at hu; obtain ⟨b, _, rfl⟩ := hu; rfl
theorem bytesV_get (l : List UInt8) (j : Nat) (h : j < l.length) : (bytesV l)[j]? = some (.int .u8 (l[j].toNat : Int)) := by simp [bytesV, h]

/-- The slice v is the call's own, from block B on, and holds the bytes l. -/
def Buf (w : World) (B : Nat) (v : Value) (l : List UInt8) : Prop := w.ownsRow B 5 1 v l.length (bytesV l)

theorem info_u8 : (Try.prog.info? 5).map (fun i => (i.zero, i.size, i.bytes)) = some (some (.int .u8 0), 1, 1) := by kernel_rfl

theorem Buf.alloc {w : World} {B : Nat} {v : Value} {l : List UInt8} (h : Buf w B v l) (o : Obj) : Buf (w.alloc o) B v l := World.ownsRow.alloc h o
theorem Buf.drewN {w : World} {B : Nat} {v : Value} {l : List UInt8} (h : Buf w B v l) (n : Nat) : Buf (w.drewN n) B v l := h
theorem Buf.lit (w : World) (B : Nat) (l : List UInt8) (hb : B ≤ w.heap.size) (hm : l.length ≤ maxLen) : Buf (w.alloc (.cells (bytesV l).toArray 5)) B (.slice (some ⟨w.heap.size, 0, none⟩) l.length l.length) l := by
  have := World.ownsRow_lit (base := B) (e := 5) (size := 1) w (bytesV l).toArray l.length hb hm (by simp [bytesV])
  simpa [Buf] using this
theorem Buf.empty (w : World) (B : Nat) (hb : B ≤ w.heap.size) : Buf (w.alloc (.cells #[] 5)) B (.slice (some ⟨w.heap.size, 0, none⟩) 0 0) [] := Buf.lit w B [] hb (by simp [maxLen])
theorem Buf.empty' {w : World} {B g : Nat} (hg : g = w.heap.size) (hb : B ≤ w.heap.size) : Buf (w.alloc (.cells #[] 5)) B (.slice (some ⟨g, 0, none⟩) 0 0) [] := by subst hg; exact Buf.empty w B hb
theorem Buf.below {w w' : World} {B B' : Nat} {v : Value} {l : List UInt8} (h : Buf w B v l) (hb : Below B' w w') (hB : ∀ k, v.ownBlock = some k → k < B') : Buf w' B v l := by
  refine ⟨h.1, ?_⟩
  rcases h.2 with h0 | ⟨g, cap, cur, rfl, hg, hh, r⟩
  · exact .inl h0
  · exact .inr ⟨g, cap, cur, rfl, hg, (hb.block g (hB g rfl)).trans hh, r⟩
theorem Buf.kept {w w' : World} {B : Nat} {v : Value} {l : List UInt8} (h : Buf w B v l) (hb : Below w.heap.size w w') : Buf w' B v l :=
  h.below hb (fun k hk => (World.ownsRow.lt h k hk).2)

theorem Buf.drew {w : World} {B : Nat} {v : Value} {l : List UInt8} (h : Buf w B v l) : Buf w.drew B v l := h

/-- append of bytes, wherever they lie. -/
theorem wp_append_bytes {o : Oper} {a : Act} {K : Act → World → Prop} {Q : Exit → Act → World → Prop} {w : World} (s x : Operand)
    (ho : o.op = .call { callee := .builtin .append, args := #[s, x], argTypes := #[73, 73] })
    {B : Nat} {v : Value} {l : List UInt8} (hs : a.eval s = v) (hown : Buf w B v l) (m c : Nat) {ad : Addr} (hx : a.eval x = .slice (some ad) m c)
    (news : List UInt8) (hn : news.length = m) (hcell : ∀ j u, (bytesV news)[j]? = some u → w.cell? (ad.add j) = some u) (hlen : l.length + m ≤ 140737488355328) (hB : B ≤ w.heap.size)
    (h : ∀ v' w', Buf w' B v' (l ++ news) → Below B w w' → K (a.put o.dst v') w') : o.wp Try.prog a w K Q := by
  obtain ⟨i0, hi, hz0, hz1, hz2⟩ := info_parts info_u8
  refine wp_append_own _ s x 73 ho B 5 i0 (.int .u8 0) 1 1 Try.underlying73 hi hz0 hz1 hz2 rfl (by omega) v l.length (bytesV l) hs hown ad m c (bytesV news) hx
    (by rw [bytesV_length, hn]; omega) hcell bytesV_one (by unfold maxLen; omega) (by omega) hB (fun v' w' h1 h2 _ => ?_)
  refine h v' w' ?_ ((Below.refl B w).grown h2 hB (fun k hk => (World.ownsRow.lt hown k hk).1))
  have e : l.length + m = (l ++ news).length := by rw [List.length_append, hn]
  rw [Buf, bytesV_append, ← e]
  exact h1
theorem news_lit {w : World} {cs : Array Value} {news : List UInt8} {g : Nat} (hg : g = w.heap.size) (hcs : cs.toList = bytesV news) :
    ∀ j u, (bytesV news)[j]? = some u → (w.alloc (.cells cs 5)).cell? ((⟨g, 0, none⟩ : Addr).add j) = some u := by
  intro j u hu
  have e : (⟨g, 0, none⟩ : Addr).add j = ⟨g, j, none⟩ := by unfold Addr.add; split <;> simp_all
  rw [e, World.cell?_alloc_at _ _ _ _ hg, ← Array.getElem?_toList, hcs]
  exact hu

/-- append of written-out bytes. -/
theorem wpList_append_lit {ops : Array Oper} {rest : List Oper} {o : Oper} {a : Act} {Q : Exit → Act → World → Prop} {w : World} {cs : Array Value} (hgd : o.guard = none) (s x : Operand)
    (ho : o.op = .call { callee := .builtin .append, args := #[s, x], argTypes := #[73, 73] })
    {B : Nat} {v : Value} {l : List UInt8} (hs : a.eval s = v) (hown : Buf w B v l) (m : Nat) {g : Nat} (hx : a.eval x = .slice (some ⟨g, 0, none⟩) m m) (hg : g = w.heap.size)
    (news : List UInt8) (hn : news.length = m) (hcs : cs.toList = bytesV news) (hlen : l.length + m ≤ 140737488355328) (hB : B ≤ w.heap.size)
    (h : ∀ v' w', Buf w' B v' (l ++ news) → Below B w w' → wpList Try.prog ops Q rest (a.put o.dst v') w') : wpList Try.prog ops Q (o :: rest) a (w.alloc (.cells cs 5)) :=
  wpList_plain hgd fun _ hK => wp_append_bytes s x ho hs (hown.alloc _) m m hx news hn (news_lit hg hcs) hlen (by simp; omega) fun v' w' h1 h2 => hK _ _ (h v' w' h1 (((Below.refl B w).alloc hB _).trans h2))

/-- The same as a step of a region that draws its order. -/
theorem step_append_lit {ops : Array Oper} {o : Oper} {a : Act} {K : Act → World → Prop} {Q : Exit → Act → World → Prop} {E : Prop} {w : World} {cs : Array Value} (hgd : o.guard = none) (s x : Operand)
    (ho : o.op = .call { callee := .builtin .append, args := #[s, x], argTypes := #[73, 73] })
    {B : Nat} {v : Value} {l : List UInt8} (hs : a.eval s = v) (hown : Buf w B v l) (m : Nat) {g : Nat} (hx : a.eval x = .slice (some ⟨g, 0, none⟩) m m) (hg : g = w.heap.size)
    (news : List UInt8) (hn : news.length = m) (hcs : cs.toList = bytesV news) (hlen : l.length + m ≤ 140737488355328) (hB : B ≤ w.heap.size)
    (h : ∀ v' w', Buf w' B v' (l ++ news) → Below B w w' → K (a.put o.dst v') w') :
    if Region.wanted o (yielded ops a.tmps) = true then Oper.wp Try.prog o a (w.alloc (.cells cs 5)).drew K Q else E := by
  have hw : Region.wanted o (yielded ops a.tmps) = true := by simp [Region.wanted, hgd]
  rw [if_pos hw]
  exact wp_append_bytes s x ho hs (hown.alloc _).drew m m hx news hn (news_lit hg hcs) hlen (by simp; omega) fun v' w' h1 h2 => h v' w' h1 (((Below.refl B w).alloc hB _).trans (undrew h2))

/-- append of a text's bytes. -/
theorem wpList_append_text {ops : Array Oper} {rest : List Oper} {o : Oper} {a : Act} {Q : Exit → Act → World → Prop} {w : World} (hgd : o.guard = none) (s x : Operand)
    (ho : o.op = .call { callee := .builtin .append, args := #[s, x], argTypes := #[73, 9] })
    {B : Nat} {v : Value} {l : List UInt8} (hs : a.eval s = v) (hown : Buf w B v l) (t : ByteArray) (hx : a.eval x = .string t)
    (hlen : l.length + t.size ≤ 140737488355328) (hB : B ≤ w.heap.size)
    (h : ∀ v' w', Buf w' B v' (l ++ t.data.toList) → Below B w w' → wpList Try.prog ops Q rest (a.put o.dst v') w') : wpList Try.prog ops Q (o :: rest) a w := by
  obtain ⟨i0, hi, hz0, hz1, hz2⟩ := info_parts info_u8
  refine Lib.wpList_append_own_string _ hgd s x 73 9 ho B 5 i0 Try.underlying73 Try.underlying9 hi hz0 hz1 hz2 v l.length (bytesV l) hs hown t hx (by unfold maxLen; omega) hlen hB (fun v' w' h1 h2 _ => ?_)
  refine h v' w' ?_ ((Below.refl B w).grown h2 hB (fun k hk => (World.ownsRow.lt hown k hk).1))
  have e : l.length + t.size = (l ++ t.data.toList).length := by rw [List.length_append]; rfl
  rw [Buf, bytesV_append, ← e]
  exact h1

theorem Buf.cellAt {w : World} {B g n cap : Nat} {l : List UInt8} (h : Buf w B (.slice (some ⟨g, 0, none⟩) n cap) l) (hn : l.length = n) (j : Nat) (hj : j < n) : ∃ v, w.cell? ⟨g, j, none⟩ = some v := by
  subst hn
  exact ⟨_, (World.ownsRow.cellAt h j (by omega)).trans (bytesV_get l j hj)⟩
theorem Buf.frozenAt {w : World} {B g n cap : Nat} {l : List UInt8} (h : Buf w B (.slice (some ⟨g, 0, none⟩) n cap) l) (hn : l.length = n) (j : Nat) : w.frozen? ⟨g, j, none⟩ = false := by
  subst hn
  exact World.ownsRow.frozenAt h j
theorem Buf.stored {w : World} {B g n cap : Nat} {l : List UInt8} (h : Buf w B (.slice (some ⟨g, 0, none⟩) n cap) l) (hn : l.length = n) (j : Nat) (b : UInt8) : Buf (w.setCell ⟨g, j, none⟩ (.int .u8 (b.toNat : Int))) B (.slice (some ⟨g, 0, none⟩) n cap) (l.set j b) := by
  subst hn
  have := (World.ownsRow.stored h j (.int .u8 (b.toNat : Int))).1
  simpa [Buf, bytesV, List.map_set] using this

/-- make([]byte, n) -/
def zerosB (n : Nat) : Obj := .cells (madeCells #[.int .u8 0] n) 5
theorem make_bytes (n : Nat) (hn : n ≤ 281474976710656) (w : World) : (Instr.makeSlice 73 (.int .i64 (n : Int)) (.int .i64 (n : Int))).run Try.prog w = .ok (.slice (some ⟨w.heap.size, 0, none⟩) n n) (w.alloc (zerosB n)) := by
  obtain ⟨i0, hi, hz0, hz1, hz2⟩ := info_parts info_u8
  have hr := run_make (P := Try.prog) w 73 5 i0 (.int .u8 0) Try.underlying73 hi hz0 .i64 .i64 n n (by omega) (by omega) (by rw [hz2]; omega) (by omega)
  simpa [hz1, zerosB, Value.cells] using hr
theorem Buf.zeros (w : World) (B n : Nat) (hb : B ≤ w.heap.size) (hm : n ≤ maxLen) : Buf (w.alloc (zerosB n)) B (.slice (some ⟨w.heap.size, 0, none⟩) n n) (List.replicate n 0) := by
  have h := World.ownsRow_lit (base := B) (e := 5) (size := 1) w (madeCells #[.int .u8 0] n) n hb hm (by simp [madeCells])
  rw [toList_madeCells_one] at h
  simpa [Buf, bytesV, zerosB] using h

/-- string(b): the text of the bytes. -/
theorem run_text {w : World} {B : Nat} {v : Value} {l : List UInt8} (h : Buf w B v l) : (convert 73 9 v).run Try.prog w = .ok (.string ⟨l.toArray⟩) w := by
  have hz : (l.map fun b => (b.toNat : Int)).map (fun n => UInt8.ofNat n.toNat) = l := by simp [List.map_map, Function.comp_def]
  rcases h.2 with ⟨rfl, h0⟩ | ⟨g, cap, cur, rfl, _, hh, hnc, hcm, hcs, htake⟩
  · have : l = [] := List.eq_nil_of_length_eq_zero h0
    subst this
    exact run_convert_bytes_nil w 73 5 Try.underlying73 Try.underlying5 0 0 9 Try.underlying9
  · have := run_convert_bytes_arg (P := Try.prog) w 73 5 Try.underlying73 Try.underlying5 g 0 l.length cap (l.map fun b => (b.toNat : Int)) (by simp) (fun i hi => by
      have hc := World.ownsRow.cells h (g := g) rfl i _ (bytesV_get l i hi)
      have e : (⟨g, 0, none⟩ : Addr).add i = ⟨g, 0 + i, none⟩ := by unfold Addr.add; split <;> simp_all
      rw [← e, hc]
      simp [hi]) 9 Try.underlying9
    rw [this, strOfNums, hz]
end Go.Proofs.Ytljblaglfooclaa

namespace Go.Proofs.Ytljblaglfooclaa
open Go.RowKit

/-- A text of a list of bytes. -/
abbrev txt (l : List UInt8) : Value := .string ⟨l.toArray⟩

theorem drop_rev (s : ByteArray) (k : Nat) (h : k < s.size) : (s.data.toList.drop k).reverse = (s.data.toList.drop (k + 1)).reverse ++ [s[k]] := by
  rw [List.drop_eq_getElem_cons (by simpa using h), List.reverse_cons]; rfl

theorem rev_set (n k : Nat) (h : k < n) (r : List UInt8) (x : UInt8) : (List.replicate (n - k) 0 ++ r).set (n - 1 - k) x = List.replicate (n - (k + 1)) 0 ++ (x :: r) := by
  obtain ⟨m, hm⟩ : ∃ m, n - k = m + 1 := ⟨n - k - 1, by omega⟩
  have e1 : n - 1 - k = m := by omega
  have e2 : n - (k + 1) = m := by omega
  rw [hm, e1, e2, List.replicate_succ', List.append_assoc, List.set_append_right _ _ (by simp)]
  simp
theorem take_rev (s : ByteArray) (k : Nat) (h : k < s.size) : (s.data.toList.take (k + 1)).reverse = s[k] :: (s.data.toList.take k).reverse := by
  rw [List.take_succ_eq_append_getElem (by simpa using h), List.reverse_append]; rfl

theorem u8_of {b : Int} (h : 0 ≤ b ∧ b ≤ 255) : ∃ x : UInt8, b = (x.toNat : Int) := ⟨UInt8.ofNat b.toNat, by simp; omega⟩
theorem ofNat_u8 (x : UInt8) : UInt8.ofNat ((x.toNat : Int)).toNat = x := by simp
theorem rep_snoc (k : Nat) (x : UInt8) : List.replicate (k + 1) x = List.replicate k x ++ [x] := List.replicate_succ'
theorem set_rep (m : Nat) (x : UInt8) : (List.replicate (m + 1) (0 : UInt8)).set 0 x = x :: List.replicate m 0 := rfl
theorem rep_set (n k : Nat) (h : k < n) (x : UInt8) : (List.replicate k x ++ List.replicate (n - k) 0).set k x = List.replicate (k + 1) x ++ List.replicate (n - (k + 1)) 0 := by
  obtain ⟨m, hm⟩ : ∃ m, n - k = m + 1 := ⟨n - k - 1, by omega⟩
  have e2 : n - (k + 1) = m := by omega
  rw [hm, e2, List.set_append_right _ _ (by simp), List.length_replicate, Nat.sub_self, set_rep, rep_snoc, List.append_assoc]
  rfl

end Go.Proofs.Ytljblaglfooclaa
