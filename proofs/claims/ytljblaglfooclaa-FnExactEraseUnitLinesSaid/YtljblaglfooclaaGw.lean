/- Proved here: which blocks a world has turned: one row's, and what is new. No condition. Proved here: rows of structs in memory: their cells, append of one struct, a store into one. Condition: the row fits. -/
import Derived.Test.YtljblaglfooclaaBase
import Derived.Laws.MakeOwn
import Derived.Laws.OwnMore
import Derived.Maps.AppendAt
import Derived.Deep.AppendLies
import Derived.Deep.RegionLaw
import Derived.StillTailTactics
namespace Go.Proofs.Ytljblaglfooclaa
open Go.RowKit

theorem only_set {a w : World} {g : Nat} (h : a.grownBy w (some g)) (j : Nat) (u : Value) : a.grownBy (w.setCell ⟨g, j, none⟩ u) (some g) :=
  ⟨h.os, h.tape, h.output, by simpa [World.setCell] using h.size, fun i hi hne => (Below.heap_setCell w ⟨g, j, none⟩ u i (fun e => hne (by rw [e]))).trans (h.block i hi hne)⟩
theorem only_drewN {a w : World} {row : Option Nat} (h : a.grownBy w row) (n : Nat) : a.grownBy (w.drewN n) row := ⟨h.os, h.tape, h.output, h.size, h.block⟩
theorem only_refl (a : World) (row : Option Nat) : a.grownBy a row := ⟨rfl, rfl, rfl, Nat.le_refl _, fun _ _ _ => rfl⟩
theorem only_alloc {a w : World} {row : Option Nat} (h : a.grownBy w row) (o : Obj) : a.grownBy (w.alloc o) row :=
  ⟨h.os, h.tape, h.output, Nat.le_trans h.size (by simp), fun i hi hne => (Below.heap_alloc w o i (Nat.lt_of_lt_of_le hi h.size)).trans (h.block i hi hne)⟩
theorem only_trans {a b c : World} {row : Option Nat} (h : a.grownBy b row) (k : b.grownBy c row) : a.grownBy c row :=
  ⟨k.os.trans h.os, k.tape.trans h.tape, k.output.trans h.output, Nat.le_trans h.size k.size, fun i hi hne => (k.block i (Nat.lt_of_lt_of_le hi h.size) hne).trans (h.block i hi hne)⟩
theorem only_below {a b c : World} {row : Option Nat} (h : a.grownBy b row) (k : Below b.heap.size b c) : a.grownBy c row :=
  only_trans h ⟨k.os, k.tape, k.output, k.size, fun i hi _ => k.block i hi⟩
theorem only_own {w w1 w' : World} {g : Nat} (hb : Below w.heap.size w w1) (hg : w1.grownBy w' (some g)) (h : w.heap.size ≤ g) : Below w.heap.size w w' :=
  ⟨hg.os.trans hb.os, hg.tape.trans hb.tape, hg.output.trans hb.output, Nat.le_trans hb.size hg.size, fun k hk => (hg.block k (Nat.lt_of_lt_of_le hk hb.size) (by simp; omega)).trans (hb.block k hk)⟩
end Go.Proofs.Ytljblaglfooclaa

namespace Go.Proofs.Ytljblaglfooclaa
open Go.RowKit

section
variable {α : Type} {f : α → List Value} {z : Nat}
theorem flat_len (hf : ∀ x, (f x).length = z) : ∀ l : List α, (l.flatMap f).length = l.length * z
  | [] => by simp
  | x :: l => by rw [List.flatMap_cons, List.length_append, hf, flat_len hf l, List.length_cons, Nat.succ_mul]; omega
theorem flat_get (hf : ∀ x, (f x).length = z) : ∀ (l : List α) {i : Nat} (h : i < l.length) (j : Nat), j < z → (l.flatMap f)[i * z + j]? = (f l[i])[j]?
  | x :: l, 0, _, j, hj => by rw [List.flatMap_cons, Nat.zero_mul, Nat.zero_add, List.getElem?_append_left (by rw [hf]; exact hj)]; rfl
  | x :: l, i + 1, h, j, hj => by
    have ih := flat_get hf l (i := i) (by simpa using h) j hj
    rw [List.flatMap_cons, List.getElem?_append_right (by rw [hf, Nat.succ_mul]; omega), hf, show (i + 1) * z + j - z = i * z + j by rw [Nat.succ_mul]; omega, ih]; rfl
theorem flat_set (hf : ∀ x, (f x).length = z) : ∀ (l : List α) {i : Nat} (h : i < l.length) (j : Nat) (_ : j < z) (v : Value) (y : α) (_ : f y = (f l[i]).set j v), (l.flatMap f).set (i * z + j) v = (l.set i y).flatMap f
  | x :: l, 0, _, j, hj, v, y, e => by
    rw [List.flatMap_cons, Nat.zero_mul, Nat.zero_add, List.set_append_left _ _ (by rw [hf]; exact hj), List.set_cons_zero, List.flatMap_cons, e]; rfl
  | x :: l, i + 1, h, j, hj, v, y, e => by
    have ih := flat_set hf l (i := i) (by simpa using h) j hj v y (by simpa using e)
    rw [List.flatMap_cons, List.set_append_right _ _ (by rw [hf, Nat.succ_mul]; omega), hf, show (i + 1) * z + j - z = i * z + j by rw [Nat.succ_mul]; omega, ih, List.set_cons_succ, List.flatMap_cons]
theorem flat_snoc (l : List α) (x : α) : (l ++ [x]).flatMap f = l.flatMap f ++ f x := by simp
theorem flat_one (h1 : ∀ x, ∀ u ∈ f x, u.oneCell' = true) (l : List α) : ∀ u ∈ l.flatMap f, u.oneCell' = true := by
  intro u hu
  rw [List.mem_flatMap] at hu
  obtain ⟨x, _, hx⟩ := hu
  exact h1 x u hx
end
theorem ownsRow_keep {w w' : World} {B : Nat} {e : TypeId} {size : Nat} {v : Value} {n : Nat} {xs : List Value} (h : w.ownsRow B e size v n xs) (hk : ∀ k, v.ownBlock = some k → w'.heap[k]? = w.heap[k]?) : w'.ownsRow B e size v n xs := by
  refine ⟨h.1, ?_⟩
  rcases h.2 with h0 | ⟨g, cap, cur, rfl, hg, hh, r⟩
  · exact .inl h0
  · exact .inr ⟨g, cap, cur, rfl, hg, (hk g rfl).trans hh, r⟩
theorem ownsRow_form {w : World} {B : Nat} {e : TypeId} {size : Nat} {v : Value} {n : Nat} {xs : List Value} (h : w.ownsRow B e size v n xs) : ∃ A cap, v = .slice A n cap := by
  rcases h.2 with ⟨rfl, h0⟩ | ⟨g, cap, cur, rfl, _⟩
  · exact ⟨none, 0, by rw [h0]⟩
  · exact ⟨_, _, rfl⟩
/-- append of one struct, written out, to a row of the call's own. -/
theorem wp_append_g {E T : TypeId} {z bs : Nat} {z0 : Value} (hinfo : (Try.prog.info? E).map (fun i => (i.zero, i.size, i.bytes)) = some (some z0, z, bs)) (hzs : z0.cells.size = z) (h0 : 0 < z) (hU : Try.prog.underlying T = some (.slice E))
    {o : Oper} {a : Act} {K : Act → World → Prop} {Q : Exit → Act → World → Prop} {w W : World} {cs : Array Value} (s x : Operand)
    (ho : o.op = .call { callee := .builtin .append, args := #[s, x], argTypes := #[T, T] })
    {B n : Nat} {v : Value} {xs : List Value} (hs : a.eval s = v) (hown : w.ownsRow B E z v n xs) {g : Nat} (hx : a.eval x = .slice (some ⟨g, 0, none⟩) 1 1) (hg : g = w.heap.size)
    (hW : W.heap = (w.alloc (.cells cs E)).heap ∧ W.os = w.os ∧ W.tape = w.tape ∧ W.output = w.output)
    (news : List Value) (hcs : cs.toList = news) (hnl : news.length = z) (hu : ∀ u ∈ news, u.oneCell' = true) (hlen : n + 1 ≤ maxLen) (hby : (n + 1) * bs ≤ 140737488355328) (hB : B ≤ w.heap.size)
    (h : ∀ g' cap' w', w'.ownsRow B E z (.slice (some ⟨g', 0, none⟩) (n + 1) cap') (n + 1) (xs ++ news) → w.grownBy w' v.ownBlock → (v.ownBlock = some g' ∨ w.heap.size < g') → K (a.put o.dst (.slice (some ⟨g', 0, none⟩) (n + 1) cap')) w') :
    o.wp Try.prog a W K Q := by
  obtain ⟨i0, hi, hz0, hz1, hz2⟩ := info_parts hinfo
  have hgr : w.grownBy W none := ⟨hW.2.1, hW.2.2.1, hW.2.2.2, by rw [hW.1]; simp, fun k hk _ => by rw [hW.1]; exact heap_alloc_old w _ hk⟩
  have hW' : W.ownsRow B E z v n xs := hown.kept hgr (by cases v.ownBlock <;> simp)
  have hWs : W.heap.size = w.heap.size + 1 := by rw [hW.1]; simp
  have hnews : ∀ j y, news[j]? = some y → W.cell? ((⟨g, 0, none⟩ : Addr).add j) = some y := by
    intro j y hy
    have e : (⟨g, 0, none⟩ : Addr).add j = ⟨g, j, none⟩ := by unfold Addr.add; split <;> simp_all
    have hc : W.cell? ⟨g, j, none⟩ = (w.alloc (.cells cs E)).cell? ⟨g, j, none⟩ := by unfold World.cell?; rw [hW.1]
    rw [e, hc, World.cell?_alloc_at _ _ _ _ hg, ← Array.getElem?_toList, hcs]
    exact hy
  obtain ⟨v', w', hr, h2, h3, _, h5⟩ := run_append_own_at (P := Try.prog) W B T o.type E i0 _ z bs hU hi hz0 hz1 hz2 hzs h0 v n xs hW' ⟨g, 0, none⟩ 1 1 news (by omega) hnews hu hlen hby (by omega)
  obtain ⟨g', cap', rfl, hg1, hg2⟩ := h2.form (by omega)
  unfold Oper.wp execOp
  simp only [ho, resolve, invoke, builtin, Sem.run_bind, Sem.run_pure, Result.andThen_ok, List.map_toArray, List.map_cons, List.map_nil, hs, hx, hr]
  refine h g' cap' w' h2 ?_ ?_
  · exact ⟨h3.os.trans hgr.os, h3.tape.trans hgr.tape, h3.output.trans hgr.output, Nat.le_trans hgr.size h3.size, fun k hk hne => (h3.block k (by omega) hne).trans (hgr.block k hk (by simp))⟩
  · rcases h5 with h5 | h5
    · exact .inl h5.symm
    · right; simp [Value.ownBlock] at h5; omega
theorem wpList_append_g {E T : TypeId} {z bs : Nat} {z0 : Value} (hinfo : (Try.prog.info? E).map (fun i => (i.zero, i.size, i.bytes)) = some (some z0, z, bs)) (hzs : z0.cells.size = z) (h0 : 0 < z) (hU : Try.prog.underlying T = some (.slice E))
    {ops : Array Oper} {rest : List Oper} {o : Oper} {a : Act} {Q : Exit → Act → World → Prop} {w : World} {cs : Array Value} (hgd : o.guard = none) (s x : Operand)
    (ho : o.op = .call { callee := .builtin .append, args := #[s, x], argTypes := #[T, T] })
    {B n : Nat} {v : Value} {xs : List Value} (hs : a.eval s = v) (hown : w.ownsRow B E z v n xs) {g : Nat} (hx : a.eval x = .slice (some ⟨g, 0, none⟩) 1 1) (hg : g = w.heap.size)
    (news : List Value) (hcs : cs.toList = news) (hnl : news.length = z) (hu : ∀ u ∈ news, u.oneCell' = true) (hlen : n + 1 ≤ maxLen) (hby : (n + 1) * bs ≤ 140737488355328) (hB : B ≤ w.heap.size)
    (h : ∀ g' cap' w', w'.ownsRow B E z (.slice (some ⟨g', 0, none⟩) (n + 1) cap') (n + 1) (xs ++ news) → w.grownBy w' v.ownBlock → (v.ownBlock = some g' ∨ w.heap.size < g') → wpList Try.prog ops Q rest (a.put o.dst (.slice (some ⟨g', 0, none⟩) (n + 1) cap')) w') :
    wpList Try.prog ops Q (o :: rest) a (w.alloc (.cells cs E)) :=
  wpList_plain hgd fun _ hK => wp_append_g hinfo hzs h0 hU s x ho hs hown hx hg ⟨rfl, rfl, rfl, rfl⟩ news hcs hnl hu hlen hby hB fun g' cap' w' h1 h2 h3 => hK _ _ (h g' cap' w' h1 h2 h3)
theorem step_append_g {E T : TypeId} {z bs : Nat} {z0 : Value} (hinfo : (Try.prog.info? E).map (fun i => (i.zero, i.size, i.bytes)) = some (some z0, z, bs)) (hzs : z0.cells.size = z) (h0 : 0 < z) (hU : Try.prog.underlying T = some (.slice E))
    {ops : Array Oper} {o : Oper} {a : Act} {K : Act → World → Prop} {Q : Exit → Act → World → Prop} {F : Prop} {w W : World} {cs : Array Value} (hgd : o.guard = none) (s x : Operand)
    (ho : o.op = .call { callee := .builtin .append, args := #[s, x], argTypes := #[T, T] })
    {B n : Nat} {v : Value} {xs : List Value} (hs : a.eval s = v) (hown : w.ownsRow B E z v n xs) {g : Nat} (hx : a.eval x = .slice (some ⟨g, 0, none⟩) 1 1) (hg : g = w.heap.size)
    (hW : W.heap = (w.alloc (.cells cs E)).heap ∧ W.os = w.os ∧ W.tape = w.tape ∧ W.output = w.output)
    (news : List Value) (hcs : cs.toList = news) (hnl : news.length = z) (hu : ∀ u ∈ news, u.oneCell' = true) (hlen : n + 1 ≤ maxLen) (hby : (n + 1) * bs ≤ 140737488355328) (hB : B ≤ w.heap.size)
    (h : ∀ g' cap' w', w'.ownsRow B E z (.slice (some ⟨g', 0, none⟩) (n + 1) cap') (n + 1) (xs ++ news) → w.grownBy w' v.ownBlock → (v.ownBlock = some g' ∨ w.heap.size < g') → K (a.put o.dst (.slice (some ⟨g', 0, none⟩) (n + 1) cap')) w') :
    if Region.wanted o (yielded ops a.tmps) = true then Oper.wp Try.prog o a W K Q else F := by
  have hw : Region.wanted o (yielded ops a.tmps) = true := by simp [Region.wanted, hgd]
  rw [if_pos hw]
  exact wp_append_g hinfo hzs h0 hU s x ho hs hown hx hg hW news hcs hnl hu hlen hby hB h
/-- What grows a row from block B on leaves all below B as it was. -/
theorem below_grown {w a b : World} {row : Option Nat} {B : Nat} (hb : Below B w a) (hs : B ≤ a.heap.size) (hg : a.grownBy b row) (h : ∀ k, row = some k → B ≤ k) : Below B w b :=
  ⟨hg.os.trans hb.os, hg.tape.trans hb.tape, hg.output.trans hb.output, Nat.le_trans hb.size hg.size, fun k hk => (hg.block k (by omega) (fun e => by have := h k e.symm; omega)).trans (hb.block k hk)⟩
end Go.Proofs.Ytljblaglfooclaa
