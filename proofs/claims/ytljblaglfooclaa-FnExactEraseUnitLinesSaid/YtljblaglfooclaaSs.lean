/- Proved here: laws for the walk on slices of texts that a call makes itself: what they hold as a list, append of one text, a store. No condition. Proved here: how a list of texts lies in memory, and what the law's small functions on such lists do: szStringS, toStringS, eqStringS. Condition: the list fits. -/
import Derived.Test.YtljblaglfooclaaBase
import Derived.Test.YtljblaglfooclaaXp
import Derived.Test.YtljblaglfooclaaHeld
import Derived.Laws.MakeOwn
import Derived.Deep.AppendLies
import Derived.SliceStrings
namespace Go.Proofs.Ytljblaglfooclaa
open Go.RowKit

/-- The cells of a list of texts. -/
def textsV (l : List ByteArray) : List Value := l.map .string
theorem textsV_length (l : List ByteArray) : (textsV l).length = l.length := by simp [textsV]
theorem textsV_append (l m : List ByteArray) : textsV (l ++ m) = textsV l ++ textsV m := by simp [textsV]
theorem textsV_one {l : List ByteArray} : ∀ u ∈ textsV l, u.oneCell' = true := by
  intro u hu; simp only [textsV, List.mem_map] at hu; obtain ⟨b, _, rfl⟩ := hu; rfl
theorem textsV_get (l : List ByteArray) (j : Nat) (h : j < l.length) : (textsV l)[j]? = some (.string l[j]) := by simp [textsV, h]

/-- The slice v is the call's own, from block B on, and holds the texts l. -/
def SBuf (w : World) (B : Nat) (v : Value) (l : List ByteArray) : Prop := w.ownsRow B 9 1 v l.length (textsV l)

theorem info_str : (Try.prog.info? 9).map (fun i => (i.zero, i.size, i.bytes)) = some (some (.string ⟨#[]⟩), 1, 16) := by kernel_rfl

theorem SBuf.alloc {w : World} {B : Nat} {v : Value} {l : List ByteArray} (h : SBuf w B v l) (o : Obj) : SBuf (w.alloc o) B v l := World.ownsRow.alloc h o
theorem SBuf.drewN {w : World} {B : Nat} {v : Value} {l : List ByteArray} (h : SBuf w B v l) (n : Nat) : SBuf (w.drewN n) B v l := h
theorem SBuf.drew {w : World} {B : Nat} {v : Value} {l : List ByteArray} (h : SBuf w B v l) : SBuf w.drew B v l := h
theorem SBuf.lit (w : World) (B : Nat) (l : List ByteArray) (hb : B ≤ w.heap.size) (hm : l.length ≤ maxLen) : SBuf (w.alloc (.cells (textsV l).toArray 9)) B (.slice (some ⟨w.heap.size, 0, none⟩) l.length l.length) l := by
  have := World.ownsRow_lit (base := B) (e := 9) (size := 1) w (textsV l).toArray l.length hb hm (by simp [textsV])
  simpa [SBuf] using this
theorem SBuf.below {w w' : World} {B B' : Nat} {v : Value} {l : List ByteArray} (h : SBuf w B v l) (hb : Below B' w w') (hB : ∀ k, v.ownBlock = some k → k < B') : SBuf w' B v l := by
  refine ⟨h.1, ?_⟩
  rcases h.2 with h0 | ⟨g, cap, cur, rfl, hg, hh, r⟩
  · exact .inl h0
  · exact .inr ⟨g, cap, cur, rfl, hg, (hb.block g (hB g rfl)).trans hh, r⟩
theorem SBuf.kept {w w' : World} {B : Nat} {v : Value} {l : List ByteArray} (h : SBuf w B v l) (hb : Below w.heap.size w w') : SBuf w' B v l :=
  h.below hb (fun k hk => (World.ownsRow.lt h k hk).2)
/-- append of texts, wherever they lie. -/
theorem wp_append_texts {o : Oper} {a : Act} {K : Act → World → Prop} {Q : Exit → Act → World → Prop} {w : World} (s x : Operand)
    (ho : o.op = .call { callee := .builtin .append, args := #[s, x], argTypes := #[23, 23] })
    {B : Nat} {v : Value} {l : List ByteArray} (hs : a.eval s = v) (hown : SBuf w B v l) (m c : Nat) {ad : Addr} (hx : a.eval x = .slice (some ad) m c)
    (news : List ByteArray) (hn : news.length = m) (hcell : ∀ j u, (textsV news)[j]? = some u → w.cell? (ad.add j) = some u) (hlen : l.length + m ≤ 4398046511104) (hB : B ≤ w.heap.size)
    (h : ∀ v' w', SBuf w' B v' (l ++ news) → Below B w w' → K (a.put o.dst v') w') : o.wp Try.prog a w K Q := by
  obtain ⟨i0, hi, hz0, hz1, hz2⟩ := info_parts info_str
  refine wp_append_own _ s x 23 ho B 9 i0 (.string ⟨#[]⟩) 1 16 Try.underlying23 hi hz0 hz1 hz2 rfl (by omega) v l.length (textsV l) hs hown ad m c (textsV news) hx
    (by rw [textsV_length, hn]; omega) hcell textsV_one (by unfold maxLen; omega) (by omega) hB (fun v' w' h1 h2 _ => ?_)
  refine h v' w' ?_ ((Below.refl B w).grown h2 hB (fun k hk => (World.ownsRow.lt hown k hk).1))
  have e : l.length + m = (l ++ news).length := by rw [List.length_append, hn]
  rw [SBuf, textsV_append, ← e]
  exact h1
theorem newsS_lit {w : World} {cs : Array Value} {news : List ByteArray} {g : Nat} (hg : g = w.heap.size) (hcs : cs.toList = textsV news) :
    ∀ j u, (textsV news)[j]? = some u → (w.alloc (.cells cs 9)).cell? ((⟨g, 0, none⟩ : Addr).add j) = some u := by
  intro j u hu
  have e : (⟨g, 0, none⟩ : Addr).add j = ⟨g, j, none⟩ := by unfold Addr.add; split <;> simp_all
  rw [e, World.cell?_alloc_at _ _ _ _ hg, ← Array.getElem?_toList, hcs]
  exact hu
/-- append of written-out texts. -/
theorem wpList_appendS_lit {ops : Array Oper} {rest : List Oper} {o : Oper} {a : Act} {Q : Exit → Act → World → Prop} {w : World} {cs : Array Value} (hgd : o.guard = none) (s x : Operand)
    (ho : o.op = .call { callee := .builtin .append, args := #[s, x], argTypes := #[23, 23] })
    {B : Nat} {v : Value} {l : List ByteArray} (hs : a.eval s = v) (hown : SBuf w B v l) (m : Nat) {g : Nat} (hx : a.eval x = .slice (some ⟨g, 0, none⟩) m m) (hg : g = w.heap.size)
    (news : List ByteArray) (hn : news.length = m) (hcs : cs.toList = textsV news) (hlen : l.length + m ≤ 4398046511104) (hB : B ≤ w.heap.size)
    (h : ∀ v' w', SBuf w' B v' (l ++ news) → Below B w w' → wpList Try.prog ops Q rest (a.put o.dst v') w') : wpList Try.prog ops Q (o :: rest) a (w.alloc (.cells cs 9)) :=
  wpList_plain hgd fun _ hK => wp_append_texts s x ho hs (hown.alloc _) m m hx news hn (newsS_lit hg hcs) hlen (by simp; omega) fun v' w' h1 h2 => hK _ _ (h v' w' h1 (((Below.refl B w).alloc hB _).trans h2))
theorem SBuf.cellAt {w : World} {B g n cap : Nat} {l : List ByteArray} (h : SBuf w B (.slice (some ⟨g, 0, none⟩) n cap) l) (hn : l.length = n) (j : Nat) (hj : j < l.length) : w.cell? ⟨g, j, none⟩ = some (.string l[j]) := by
  subst hn
  exact (World.ownsRow.cellAt h j (by omega)).trans (textsV_get l j hj)
theorem SBuf.frozenAt {w : World} {B g n cap : Nat} {l : List ByteArray} (h : SBuf w B (.slice (some ⟨g, 0, none⟩) n cap) l) (hn : l.length = n) (j : Nat) : w.frozen? ⟨g, j, none⟩ = false := by
  subst hn
  exact World.ownsRow.frozenAt h j
theorem SBuf.stored {w : World} {B g n cap : Nat} {l : List ByteArray} (h : SBuf w B (.slice (some ⟨g, 0, none⟩) n cap) l) (hn : l.length = n) (j : Nat) (b : ByteArray) : SBuf (w.setCell ⟨g, j, none⟩ (.string b)) B (.slice (some ⟨g, 0, none⟩) n cap) (l.set j b) := by
  subst hn
  have := (World.ownsRow.stored h j (.string b)).1
  simpa [SBuf, textsV, List.map_set] using this
end Go.Proofs.Ytljblaglfooclaa

namespace Go.Proofs.Ytljblaglfooclaa
open Go.RowKit

/-- The texts l lie one behind the other from A on, in a block that meets P. -/
def SrA (w : World) (P : Nat → Prop) (A : Option Addr) (l : List ByteArray) : Prop :=
  0 < l.length → ∃ b o, A = some ⟨b, o, none⟩ ∧ P b ∧ ∀ i (h : i < l.length), w.cell? ⟨b, o + i, none⟩ = some (.string l[i])
/-- The slice s reads as the texts l. -/
def Sr (w : World) (P : Nat → Prop) (s : Value) (l : List ByteArray) : Prop := ∃ A cap, s = .slice A l.length cap ∧ l.length ≤ cap ∧ SrA w P A l
section
variable {w w' : World} {P P' : Nat → Prop} {s : Value} {l : List ByteArray}
theorem Sr.form (h : Sr w P s l) : ∃ A cap, s = .slice A l.length cap := by
  obtain ⟨A, cap, e, _⟩ := h
  exact ⟨A, cap, e⟩
theorem Sr.cap_ {A : Option Addr} {n cap : Nat} (h : Sr w P (.slice A n cap) l) : l.length ≤ cap := by
  obtain ⟨A', cap', e, h, _⟩ := h
  simp only [Value.slice.injEq] at e
  omega
theorem Sr.row {A : Option Addr} {n cap : Nat} (h : Sr w P (.slice A n cap) l) (hl : 0 < l.length) : ∃ b o, A = some ⟨b, o, none⟩ ∧ P b ∧ ∀ i (h : i < l.length), w.cell? ⟨b, o + i, none⟩ = some (.string l[i]) := by
  obtain ⟨A', cap', e, _, h⟩ := h
  simp only [Value.slice.injEq] at e
  obtain ⟨rfl, _, _⟩ := e
  exact h hl
theorem Sr.at_ {A : Option Addr} {n cap : Nat} (h : Sr w P (.slice A n cap) l) {i : Nat} (hi : i < l.length) : ∃ b o, A = some ⟨b, o, none⟩ ∧ P b ∧ w.cell? ⟨b, o + i, none⟩ = some (.string l[i]) := by
  obtain ⟨A', cap', e, _, h⟩ := h
  simp only [Value.slice.injEq] at e
  obtain ⟨rfl, _, _⟩ := e
  obtain ⟨b, o, e, hb, hc⟩ := h (by omega)
  exact ⟨b, o, e, hb, hc i hi⟩
theorem Sr.keep (h : Sr w P s l) (hk : ∀ p : Addr, P p.block → w'.cell? p = w.cell? p) (hP : ∀ b, P b → P' b) : Sr w' P' s l := by
  obtain ⟨A, cap, e, hc, h⟩ := h
  refine ⟨A, cap, e, hc, fun hl => ?_⟩
  obtain ⟨b, o, e, hb, hc⟩ := h hl
  exact ⟨b, o, e, hP b hb, fun i hi => (hk ⟨b, _, none⟩ hb).trans (hc i hi)⟩
theorem Sr.below {B : Nat} (h : Sr w P s l) (hb : Below B w w') (hP : ∀ b, P b → b < B) : Sr w' P s l := h.keep (fun _ hp => hb.cell (hP _ hp)) (fun _ h => h)
end
/-- What the law takes from its bound for a list of texts: their bytes. -/
def sizS (l : List ByteArray) : Nat := (l.map ByteArray.size).sum
theorem sizS_take (l : List ByteArray) {i : Nat} (h : i < l.length) : sizS (l.take (i + 1)) = sizS (l.take i) + l[i].size := by
  unfold sizS
  rw [List.take_succ_eq_append_getElem h, List.map_append, List.sum_append]
  simp only [List.map_cons, List.map_nil, List.sum_cons, List.sum_nil, Nat.add_zero]
theorem sizS_le (l : List ByteArray) (i : Nat) : sizS (l.take i) ≤ sizS l := by
  conv => rhs; rw [← List.take_append_drop i l]
  unfold sizS
  rw [List.map_append, List.sum_append]; omega
theorem siz_at (l : List ByteArray) {i : Nat} (h : i < l.length) : l[i].size ≤ sizS l := by
  have h1 := sizS_take l h
  have h2 := sizS_le l (i + 1)
  omega
theorem SBuf.form {w : World} {B : Nat} {s : Value} {l : List ByteArray} (h : SBuf w B s l) : ∃ A cap, s = .slice A l.length cap := by
  rcases h.2 with ⟨rfl, h0⟩ | ⟨g, cap, cur, rfl, _⟩
  · exact ⟨none, 0, by rw [h0]⟩
  · exact ⟨_, _, rfl⟩
theorem SBuf.sr {w : World} {B : Nat} {P : Nat → Prop} {s : Value} {l : List ByteArray} (h : SBuf w B s l) (hP : ∀ b, B ≤ b → b < w.heap.size → P b) : Sr w P s l := by
  have hlt := World.ownsRow.lt h
  rcases h.2 with ⟨rfl, h0⟩ | ⟨g, cap, cur, rfl, hg, _, hnc, _⟩
  · exact ⟨none, 0, by rw [h0], by omega, fun hl => by omega⟩
  · refine ⟨_, _, rfl, hnc, fun _ => ⟨g, 0, rfl, hP g hg (hlt g rfl).2, fun i hi => ?_⟩⟩
    have := World.ownsRow.cells h (g := g) rfl i _ (textsV_get l i hi)
    have e : (⟨g, 0, none⟩ : Addr).add i = ⟨g, 0 + i, none⟩ := by unfold Addr.add; split <;> simp_all
    rw [← e]; exact this
theorem SBuf.lt {w : World} {B : Nat} {s : Value} {l : List ByteArray} (h : SBuf w B s l) : ∀ k, s.ownBlock = some k → B ≤ k ∧ k < w.heap.size := World.ownsRow.lt h
theorem SBuf.mono {w : World} {B B' : Nat} {s : Value} {l : List ByteArray} (h : SBuf w B s l) (hB : B' ≤ B) : SBuf w B' s l := by
  refine ⟨h.1, ?_⟩
  rcases h.2 with h0 | ⟨g, cap, cur, rfl, hg, rest⟩
  · exact .inl h0
  · exact .inr ⟨g, cap, cur, rfl, Nat.le_trans hB hg, rest⟩
theorem SBuf.sr_in {w W : World} {B : Nat} {s : Value} {l : List ByteArray} (h : SBuf w B s l) (hb : Below w.heap.size w W) : Sr W (· < W.heap.size) s l :=
  ((h.sr (P := (· < w.heap.size)) fun _ _ h => h).below hb fun _ h => h).keep (fun _ _ => rfl) fun _ hp => Nat.lt_of_lt_of_le hp hb.size
section
open Go.ChangeShapes Go.WideShapes
theorem cells_str : Try.prog.cellsOf 9 = 1 := by kernel_rfl
variable {H : Type} {enc : TypeId × Value → H} {w : World} {spare : Nat → Bool} {held : Bool}
set_option maxRecDepth 20000 in
/-- A list of texts that came in, by its cells. -/
theorem open_srC {fuel : Nat} {s : Value} {x : DataW H × List MemPlace} (h : DataW.trod enc Try.prog w 0 spare held fuel 23 [s] = some x) :
    ∃ l, Sr w (· < w.heap.size) s l ∧ l.length ≤ maxLen ∧ ∀ i (h : i < l.length), l[i].size ≤ maxLen := by
  rcases open_strings Try.underlying23 Try.underlying9 cells_str h with ⟨e, _⟩ | ⟨a, len, cap, ss, e, _, hlc, hcm, hss, _, hcell, hsz⟩
  · simp only [List.cons.injEq, and_true] at e
    subst e
    exact ⟨[], ⟨none, 0, rfl, Nat.le_refl _, fun h => by simp at h⟩, by simp, fun i h => by simp at h⟩
  · simp only [List.cons.injEq, and_true] at e
    subst e
    have hle : len ≤ ss.length := by split at hss <;> omega
    have hll : (ss.take len).length = len := by simp; omega
    refine ⟨ss.take len, ⟨some a, cap, by rw [hll], by omega, fun h0 => ?_⟩, by omega, fun i hi => hsz _ (List.mem_of_mem_take (List.getElem_mem hi))⟩
    have hc0 := hcell 0 (by omega)
    have hsp : a.spot = none := by simpa [Addr.add] using World.cell?_spot hc0
    obtain ⟨b, o, sp⟩ := a
    simp only at hsp
    subst hsp
    refine ⟨b, o, rfl, ?_, fun i hi => ?_⟩
    · have := World.block_lt_of_cell? _ _ hc0
      simpa [Addr.add] using this
    · have hi' : i < ss.length := by omega
      have := hcell i hi'
      have e : (⟨b, o, none⟩ : Addr).add i = ⟨b, o + i, none⟩ := by unfold Addr.add; split <;> simp_all
      rw [e, List.getD_eq_getElem?_getD, List.getElem?_eq_getElem hi', Option.getD_some] at this
      rw [this, List.getElem_take]
set_option maxRecDepth 20000 in
theorem open_sr {r : Reach} {b0 : Nat} {v : Value} {d : DataW H} {p : List MemPlace} (hv : Value.okWide Try.prog w r b0 23 v) (h : DataW.Trod enc Try.prog w 0 spare held 23 v d p) :
    ∃ l, Sr w (· < w.heap.size) v l ∧ l.length ≤ maxLen ∧ ∀ i (h : i < l.length), l[i].size ≤ maxLen := by
  obtain ⟨a, len, cap, rfl⟩ := okWide_slice Try.underlying23 hv
  obtain ⟨fuel, hf⟩ := h
  exact open_srC (fuel := fuel) hf
end
set_option maxHeartbeats 2000000 in
theorem szS (l : List ByteArray) (s : Value) (P : Nat → Prop) (w : World) (left : Nat) (hK : Sr w P s l) (hl : l.length ≤ maxLen) (hw : ∀ i (h : i < l.length), l[i].size ≤ maxLen) (hleft : left ≤ 1099511627776) :
    Calls Try.prog 12 #[s, .int .i64 (left : Int)] w fun e w' => e = .returned (.int .i64 (X.leftOf (l.length + sizS l) left)) ∧ w = w' := by
  unfold maxLen at hl hw
  obtain ⟨A, cap, rfl⟩ := hK.form
  by_cases h0 : l.length ≤ left
  · obtain ⟨m0, hm0⟩ : ∃ m0, m0 = left - l.length := ⟨_, rfl⟩
    have hz : (left : Int) - (l.length : Int) = (m0 : Int) := by omega
    have HM0 := Lib.hid hm0
    have hm0' : m0 ≤ left := by omega
    clear hm0
    have b0 : decide ((m0 : Int) < 0) = false := by simp
    go_enter Try.func12, Try.ntmps12
    go_wp2_with fail
    go_loop [1, 5] (fun a i => ∃ j m : Nat, i = .int .i64 j ∧ a = .int .i64 m ∧ Hid (m + sizS (l.take j) = m0) ∧ m ≤ m0 ∧ j ≤ l.length)
      (fun _ i => l.length - (intOf i).toNat)
    case atStart => exact ⟨0, m0, rfl, rfl, Lib.hid (by simp [sizS]), by omega, by omega⟩
    case round =>
      obtain ⟨j, m, rfl, rfl, HM, hm, hj⟩ := hrel
      by_cases hlt : j < l.length
      · obtain ⟨b, o, rfl, hPb, c0⟩ := Sr.at_ hK hlt
        have h1 := sizS_take l hlt
        have h2 := sizS_le l (j + 1)
        have h3 := HM.out
        have h4 := hw j hlt
        by_cases hn : l[j].size ≤ m
        · obtain ⟨m1, hm1⟩ : ∃ m1, m1 = m - l[j].size := ⟨_, rfl⟩
          have hz1 : (m : Int) - (l[j].size : Int) = (m1 : Int) := by omega
          have HN := Lib.hid (show m1 + sizS (l.take (j + 1)) = m0 by omega)
          have hm1' : m1 ≤ m := by omega
          have b1 : decide ((m1 : Int) < 0) = false := by simp
          clear hm1 hn h1 h2 h3 HM hz
          go_wp2_with fail
          go_round
          case rel => exact ⟨j + 1, _, by go_num, rfl, HN, by omega, by omega⟩
          case measure => simp [intOf]; omega
        · have b1 : decide ((m : Int) - (l[j].size : Int) < 0) = true := by simp; omega
          have HN := Lib.hid (show X.leftOf (l.length + sizS l) left = -1 by rw [X.leftOf_no]; have := HM0.out; omega)
          clear hn h1 h2 h3 HM hz
          go_wp2_with fail
          go_ret
          exact ⟨X.ret_z HN.out.symm, rfl⟩
      · obtain rfl : j = l.length := by omega
        have HN := Lib.hid (show X.leftOf (l.length + sizS l) left = (m : Int) by
          have h1 := HM.out; have h2 := HM0.out; rw [List.take_length] at h1; rw [X.leftOf_yes (by omega)]; omega)
        clear HM
        go_wp2_with fail
        go_ret
        exact ⟨X.ret_z HN.out.symm, rfl⟩
  · have HN := Lib.hid (X.leftOf_not (b := sizS l) h0)
    have b0 : decide ((left : Int) - (l.length : Int) < 0) = true := by simp; omega
    go_enter Try.func12, Try.ntmps12
    go_wp2_with fail
    go_ret
    exact ⟨X.ret_z HN.out, rfl⟩
/-- make([]string, n) -/
def zerosS (n : Nat) : Obj := .cells (madeCells #[.string ⟨#[]⟩] n) 9
theorem make_s (n : Nat) (hn : n ≤ 4398046511104) (w : World) : (Instr.makeSlice 23 (.int .i64 (n : Int)) (.int .i64 (n : Int))).run Try.prog w = .ok (.slice (some ⟨w.heap.size, 0, none⟩) n n) (w.alloc (zerosS n)) := by
  obtain ⟨i0, hi, hz0, hz1, hz2⟩ := info_parts info_str
  have hr := run_make (P := Try.prog) w 23 9 i0 _ Try.underlying23 hi hz0 .i64 .i64 n n (by omega) (by omega) (by rw [hz2]; omega) (by omega)
  simpa [hz1, zerosS, Value.cells] using hr
theorem SBuf.zeros (w : World) (B n : Nat) (hb : B ≤ w.heap.size) (hm : n ≤ maxLen) : SBuf (w.alloc (zerosS n)) B (.slice (some ⟨w.heap.size, 0, none⟩) n n) (List.replicate n ⟨#[]⟩) := by
  have h := World.ownsRow_lit (base := B) (e := 9) (size := 1) w (madeCells #[.string ⟨#[]⟩] n) n hb hm (by simp [madeCells])
  rw [toList_madeCells_one] at h
  simpa [SBuf, textsV, zerosS] using h
theorem set_fillT (l : List ByteArray) (j n : Nat) (h : j < l.length) (hn : n = l.length) (z : ByteArray) : (l.take j ++ List.replicate (n - j) z).set j l[j] = l.take (j + 1) ++ List.replicate (n - (j + 1)) z := by
  subst hn
  rw [List.set_append_right _ _ (by simp; omega), List.take_succ_eq_append_getElem h, List.append_assoc]
  congr 1
  have e : l.length - j = (l.length - (j + 1)) + 1 := by omega
  rw [e, List.replicate_succ, show j - (l.take j).length = 0 by simp; omega]
  rfl
set_option maxHeartbeats 2000000 in
theorem toS (l : List ByteArray) (s : Value) (P : Nat → Prop) (w : World) (hK : Sr w P s l) (hP : ∀ b, P b → b < w.heap.size) (hl : l.length ≤ 1099511627776) :
    Calls Try.prog 16 #[s] w fun e w' => ∃ A cap, e = .returned (.slice A l.length cap) ∧ SBuf w' w.heap.size (.slice A l.length cap) l ∧ Below w.heap.size w w' := by
  obtain ⟨A, cap, rfl⟩ := hK.form
  have hmk := make_s l.length (by omega) w
  go_enter Try.func16, Try.ntmps16
  go_wp2_with fail
  go_loopw [4] (fun i wr => ∃ j : Nat, i = .int .i64 j ∧ Hid (SBuf wr w.heap.size (.slice (some ⟨w.heap.size, 0, none⟩) l.length l.length) (l.take j ++ List.replicate (l.length - j) ⟨#[]⟩)) ∧ j ≤ l.length ∧ Below w.heap.size w wr)
    (fun i _ => l.length - (intOf i).toNat)
  case atStart => exact ⟨0, rfl, Lib.hid (by simpa using SBuf.zeros w w.heap.size l.length (Nat.le_refl _) (by unfold maxLen; omega)), by omega, (Below.refl _ _).alloc (Nat.le_refl _) _⟩
  case round =>
    obtain ⟨j, rfl, HO, hj, hb⟩ := hrel
    clear hmk
    have hll : (l.take j ++ List.replicate (l.length - j) (⟨#[]⟩ : ByteArray)).length = l.length := by simp; omega
    by_cases hlt : j < l.length
    · obtain ⟨b, o, rfl, hPb, c0⟩ := Sr.at_ (hK.below hb hP) hlt
      have ho := HO.out
      have hc := ho.cellAt hll j (by omega)
      have hf := ho.frozenAt hll j
      have hN := Lib.hid (ho.stored hll j l[j])
      rw [set_fillT l j l.length hlt rfl] at hN
      clear ho HO
      go_wp2_with fail
      go_roundw
      case rel => exact ⟨j + 1, by go_num, hN, by omega, hb.setCell (Nat.le_refl _) _⟩
      case measure => simp [intOf]; omega
    · obtain rfl : j = l.length := by omega
      have ho := HO.out
      rw [Nat.sub_self, List.replicate_zero, List.append_nil, List.take_length] at ho
      have HN := Lib.hid ho
      clear ho HO
      go_wp2_with fail
      go_ret
      exact ⟨_, _, rfl, HN.out, hb⟩
theorem ret_bb {a b : Bool} (h : a = b) : Ending.returned (.bool a) = .returned (.bool b) := by rw [h]
theorem eqT (t t' : ByteArray) : (t.toList == t'.toList) = decide (t = t') := by
  rw [ByteArray.toList_eq, ByteArray.toList_eq, Bool.eq_iff_iff, beq_iff_eq, decide_eq_true_eq]
  constructor
  · intro h; obtain ⟨⟨a⟩⟩ := t; obtain ⟨⟨b⟩⟩ := t'; simp at h; rw [h]
  · intro h; rw [h]
set_option maxHeartbeats 2000000 in
theorem eqS (l l' : List ByteArray) (s s' : Value) (P : Nat → Prop) (w : World) (hK : Sr w P s l) (hK' : Sr w P s' l') (hl : l.length ≤ maxLen) :
    Calls Try.prog 20 #[s, s'] w fun e w' => e = .returned (.bool (decide (l = l'))) ∧ ∃ n, w' = w.drewN n := by
  unfold maxLen at hl
  obtain ⟨A, cap, rfl⟩ := hK.form
  obtain ⟨A', cap', rfl⟩ := hK'.form
  by_cases h0 : l.length = l'.length
  · have b0 : ((l.length : Int) != (l'.length : Int)) = false := by rw [bne_eq_false_iff_eq]; omega
    have H0 := Lib.hid h0
    have h0' : l'.length ≤ l.length := by omega
    have h0'' : l.length ≤ l'.length := by omega
    clear h0
    go_enter Try.func20, Try.ntmps20
    go_wp2_with fail
    go_loopw [5] (fun i wr => ∃ j : Nat, i = .int .i64 j ∧ Hid (∀ i (h : i < l.length) (h' : i < l'.length), i < j → l[i] = l'[i]) ∧ j ≤ l.length ∧ Hid (∃ n, wr = w.drewN n))
      (fun i _ => l.length - (intOf i).toNat)
    case atStart => exact ⟨0, rfl, Lib.hid (fun i _ _ h => by omega), by omega, Lib.hid ⟨0, rfl⟩⟩
    case round =>
      obtain ⟨j, rfl, HM, hj, HB⟩ := hrel
      obtain ⟨dn, hdn⟩ := HB.out
      subst hdn
      by_cases hlt : j < l.length
      · have hlt' : j < l'.length := by omega
        have i1 : (j : Int) < (l.length : Int) := by omega
        have i2 : (j : Int) < (l'.length : Int) := by omega
        obtain ⟨b, o, rfl, hPb, c0⟩ := Sr.at_ hK hlt
        obtain ⟨b', o', rfl, hPb', d0⟩ := Sr.at_ hK' hlt'
        by_cases he : l[j] = l'[j]
        · have b1 : (l[j].toList == l'[j].toList) = true := by rw [eqT]; simpa using he
          have HN : Hid (∀ i (h : i < l.length) (h' : i < l'.length), i < j + 1 → l[i] = l'[i]) := Lib.hid fun i h h' hi => by
            by_cases hij : i = j
            · subst hij; exact he
            · exact HM.out i h h' (by omega)
          clear he HM HB
          go_wp2_with fail
          go_quiet (fail)
          go_wp2_with fail
          go_roundw
          case rel => exact ⟨j + 1, by go_num, HN, by omega, Lib.hid ⟨dn + nq, by first | rfl | rw [World.drewN_drewN]⟩⟩
          case measure => simp [intOf]; omega
        · have b1 : (l[j].toList == l'[j].toList) = false := by rw [eqT]; simpa using he
          have HN := Lib.hid (show decide (l = l') = false by
            rw [decide_eq_false_iff_not]; rintro rfl; exact he rfl)
          clear he HM HB
          go_wp2_with fail
          go_quiet (fail)
          go_wp2_with fail
          go_ret
          exact ⟨ret_bb HN.out.symm, dn + nq, by first | rfl | rw [World.drewN_drewN]⟩
      · obtain rfl : j = l.length := by omega
        have HN := Lib.hid (show decide (l = l') = true by
          rw [decide_eq_true_eq]; exact List.ext_getElem H0.out fun i h h' => HM.out i h h' h)
        clear HM
        go_wp2_with fail
        go_ret
        exact ⟨ret_bb HN.out.symm, dn, rfl⟩
  · have b0 : ((l.length : Int) != (l'.length : Int)) = true := by rw [bne_iff_ne]; omega
    have HN := Lib.hid (show decide (l = l') = false by rw [decide_eq_false_iff_not]; intro e; exact h0 (by rw [e]))
    clear h0
    go_enter Try.func20, Try.ntmps20
    go_wp2_with fail
    go_ret
    exact ⟨ret_bb HN.out.symm, 0, rfl⟩
end Go.Proofs.Ytljblaglfooclaa
