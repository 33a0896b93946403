/- Proved here: laws for the walk on slices of texts that a call makes itself: what they hold as a list, append of one text, a store. No condition. -/
import Derived.Test.YtljblaglfooclaaDoorBase
namespace Go.Proofs.YtljblaglfooclaaDoor
open Go.RowKit

/-- The cells of a list of texts. -/
def textsV (l : List ByteArray) : List Value := l.map .string
theorem textsV_length (l : List ByteArray) : (textsV l).length = l.length := by simp [textsV]
theorem textsV_append (l m : List ByteArray) : textsV (l ++ m) = textsV l ++ textsV m := by simp [textsV]
theorem textsV_one {l : List ByteArray} : ∀ u ∈ textsV l, u.oneCell' = true := by
  intro u hu; simp only [textsV, List.mem_map] at hu; obtain ⟨b, _, rfl⟩ := hu; rfl
theorem textsV_get (l : List ByteArray) (j : Nat) (h : j < l.length) : (textsV l)[j]? = some (.string l[j]) := by simp [textsV, h]

/-- The slice v is the call's own, from block B on, and holds the texts l. -/
def SBuf (w : World) (B : Nat) (v : Value) (l : List ByteArray) : Prop := w.ownsRow B 9 1 v l.length (textsV l)

theorem info_str : (Tryd.prog.info? 9).map (fun i => (i.zero, i.size, i.bytes)) = some (some (.string ⟨#[]⟩), 1, 16) := by kernel_rfl

theorem SBuf.alloc {w : World} {B : Nat} {v : Value} {l : List ByteArray} (h : SBuf w B v l) (o : Obj) : SBuf (w.alloc o) B v l := World.ownsRow.alloc h o
theorem SBuf.drewN {w : World} {B : Nat} {v : Value} {l : List ByteArray} (h : SBuf w B v l) (n : Nat) : SBuf (w.drewN n) B v l := h
theorem SBuf.drew {w : World} {B : Nat} {v : Value} {l : List ByteArray} (h : SBuf w B v l) : SBuf w.drew B v l := h
theorem SBuf.lit (w : World) (B : Nat) (l : List ByteArray) (hb : B ≤ w.heap.size) (hm : l.length ≤ maxLen) : SBuf (w.alloc (.cells (textsV l).toArray 9)) B (.slice (some ⟨w.heap.size, 0, none⟩) l.length l.length) l := by
  have := World.ownsRow_lit (base := B) (e := 9) (size := 1) w (textsV l).toArray l.length hb hm (by simp [textsV])
  simpa [SBuf] using this
theorem SBuf.below {w w' : World} {B B' : Nat} {v : Value} {l : List ByteArray} (h : SBuf w B v l) (hb : Below B' w w') (hB : ∀ k, v.ownBlock = some k → k < B') : SBuf w' B v l := by
  refine ⟨h.1, ?_⟩
  rcases h.2 with h0 | ⟨g, cap, cur, rfl, hg, hh, r⟩
  · exact .inl h0
  · exact .inr ⟨g, cap, cur, rfl, hg, (hb.block g (hB g rfl)).trans hh, r⟩
theorem SBuf.kept {w w' : World} {B : Nat} {v : Value} {l : List ByteArray} (h : SBuf w B v l) (hb : Below w.heap.size w w') : SBuf w' B v l :=
  h.below hb (fun k hk => (World.ownsRow.lt h k hk).2)
/-- append of texts, wherever they lie. -/
theorem wp_append_texts {o : Oper} {a : Act} {K : Act → World → Prop} {Q : Exit → Act → World → Prop} {w : World} (s x : Operand)
    (ho : o.op = .call { callee := .builtin .append, args := #[s, x], argTypes := #[23, 23] })
    {B : Nat} {v : Value} {l : List ByteArray} (hs : a.eval s = v) (hown : SBuf w B v l) (m c : Nat) {ad : Addr} (hx : a.eval x = .slice (some ad) m c)
    (news : List ByteArray) (hn : news.length = m) (hcell : ∀ j u, (textsV news)[j]? = some u → w.cell? (ad.add j) = some u) (hlen : l.length + m ≤ 4398046511104) (hB : B ≤ w.heap.size)
    (h : ∀ v' w', SBuf w' B v' (l ++ news) → Below B w w' → K (a.put o.dst v') w') : o.wp Tryd.prog a w K Q := by
  obtain ⟨i0, hi, hz0, hz1, hz2⟩ := info_parts info_str
  refine wp_append_own _ s x 23 ho B 9 i0 (.string ⟨#[]⟩) 1 16 Tryd.underlying23 hi hz0 hz1 hz2 rfl (by omega) v l.length (textsV l) hs hown ad m c (textsV news) hx
    (by rw [textsV_length, hn]; omega) hcell textsV_one (by unfold maxLen; omega) (by omega) hB (fun v' w' h1 h2 _ => ?_)
  refine h v' w' ?_ ((Below.refl B w).grown h2 hB (fun k hk => (World.ownsRow.lt hown k hk).1))
  have e : l.length + m = (l ++ news).length := by rw [List.length_append, hn]
  rw [SBuf, textsV_append, ← e]
  exact h1
theorem newsS_lit {w : World} {cs : Array Value} {news : List ByteArray} {g : Nat} (hg : g = w.heap.size) (hcs : cs.toList = textsV news) :
    ∀ j u, (textsV news)[j]? = some u → (w.alloc (.cells cs 9)).cell? ((⟨g, 0, none⟩ : Addr).add j) = some u := by
  intro j u hu
  have e : (⟨g, 0, none⟩ : Addr).add j = ⟨g, j, none⟩ := by unfold Addr.add; split <;> simp_all
  rw [e, World.cell?_alloc_at _ _ _ _ hg, ← Array.getElem?_toList, hcs]
  exact hu
/-- append of written-out texts. -/
theorem wpList_appendS_lit {ops : Array Oper} {rest : List Oper} {o : Oper} {a : Act} {Q : Exit → Act → World → Prop} {w : World} {cs : Array Value} (hgd : o.guard = none) (s x : Operand)
    (ho : o.op = .call { callee := .builtin .append, args := #[s, x], argTypes := #[23, 23] })
    {B : Nat} {v : Value} {l : List ByteArray} (hs : a.eval s = v) (hown : SBuf w B v l) (m : Nat) {g : Nat} (hx : a.eval x = .slice (some ⟨g, 0, none⟩) m m) (hg : g = w.heap.size)
    (news : List ByteArray) (hn : news.length = m) (hcs : cs.toList = textsV news) (hlen : l.length + m ≤ 4398046511104) (hB : B ≤ w.heap.size)
    (h : ∀ v' w', SBuf w' B v' (l ++ news) → Below B w w' → wpList Tryd.prog ops Q rest (a.put o.dst v') w') : wpList Tryd.prog ops Q (o :: rest) a (w.alloc (.cells cs 9)) :=
  wpList_plain hgd fun _ hK => wp_append_texts s x ho hs (hown.alloc _) m m hx news hn (newsS_lit hg hcs) hlen (by simp; omega) fun v' w' h1 h2 => hK _ _ (h v' w' h1 (((Below.refl B w).alloc hB _).trans h2))
theorem SBuf.cellAt {w : World} {B g n cap : Nat} {l : List ByteArray} (h : SBuf w B (.slice (some ⟨g, 0, none⟩) n cap) l) (hn : l.length = n) (j : Nat) (hj : j < l.length) : w.cell? ⟨g, j, none⟩ = some (.string l[j]) := by
  subst hn
  exact (World.ownsRow.cellAt h j (by omega)).trans (textsV_get l j hj)
theorem SBuf.frozenAt {w : World} {B g n cap : Nat} {l : List ByteArray} (h : SBuf w B (.slice (some ⟨g, 0, none⟩) n cap) l) (hn : l.length = n) (j : Nat) : w.frozen? ⟨g, j, none⟩ = false := by
  subst hn
  exact World.ownsRow.frozenAt h j
theorem SBuf.stored {w : World} {B g n cap : Nat} {l : List ByteArray} (h : SBuf w B (.slice (some ⟨g, 0, none⟩) n cap) l) (hn : l.length = n) (j : Nat) (b : ByteArray) : SBuf (w.setCell ⟨g, j, none⟩ (.string b)) B (.slice (some ⟨g, 0, none⟩) n cap) (l.set j b) := by
  subst hn
  have := (World.ownsRow.stored h j (.string b)).1
  simpa [SBuf, textsV, List.map_set] using this
end Go.Proofs.YtljblaglfooclaaDoor
