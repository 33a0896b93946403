/- Proved here: units without lines, in plain data; facts for the rounds that append to a row of the call's own. No condition. -/
import Derived.Test.YtljblaglfooclaaUa
import Derived.Test.YtljblaglfooclaaEr
import Derived.Test.YtljblaglfooclaaUm
namespace Go.Proofs.Ytljblaglfooclaa
open Go.RowKit

def Rt.er (a : Rt) : Rt := ⟨a.t, a.f, 0⟩
def Pd.er (a : Pd) : Pd := ⟨a.t, a.p, a.q, X.er a.x, 0⟩
def Un.er (u : Un) : Un := ⟨u.r.map Rt.er, u.g, u.p.map Pd.er⟩
theorem map_take_er {α : Type} (f : α → α) (l : List α) {j : Nat} (h : j < l.length) : (l.take (j + 1)).map f = (l.take j).map f ++ [f l[j]] := by
  rw [List.take_succ_eq_append_getElem h, List.map_append]; rfl
section
variable {α : Type} {I : Hold α} {c : α → List Value} {z : Nat} {e : TypeId}
/-- A row that a loop appends to, from block B on: its items L, the blocks F of what they hold. -/
structure Gro (I : Hold α) (c : α → List Value) (z : Nat) (e : TypeId) (B : Nat) (w : World) (L : List α) (v : Value) (F : List Nat) : Prop where
  own : w.ownsRow B e z v L.length (L.flatMap c)
  its : OwG I w B L F
  nd : (X.blkL v ++ F).Nodup
theorem Gro.keep (hI : IL I) {w w' : World} {B : Nat} {L : List α} {v : Value} {F : List Nat} (h : Gro I c z e B w L v F) (hk : ∀ b, B ≤ b → b < w.heap.size → w'.heap[b]? = w.heap[b]?) : Gro I c z e B w' L v F :=
  ⟨own_keepL h.own fun b hb => hk b (blkL_own h.own b hb).1 (blkL_own h.own b hb).2, h.its.keep hI fun b hb => hk b (h.its.lt hI b hb).1 (h.its.lt hI b hb).2, h.nd⟩
theorem Gro.nil (w : World) (B : Nat) : Gro I c z e B w [] (.slice none 0 0) [] :=
  ⟨⟨by simp, .inl ⟨rfl, rfl⟩⟩, rfl, by simp [X.blkL, Value.ownBlock]⟩
theorem Gro.form {w : World} {B : Nat} {L : List α} {v : Value} {F : List Nat} (h : Gro I c z e B w L v F) : ∃ A cap, v = .slice A L.length cap := ownsRow_form h.own
theorem Gro.ok {w : World} {B : Nat} {L : List α} {v : Value} {F : List Nat} (h : Gro I c z e B w L v F) : OkG I e z c w B L v (X.blkL v ++ F) := ⟨F, h.own, h.its, rfl⟩
/-- One round: an item more, and a store into a box below the row. -/
theorem gro_round (hI : IL I) {wr wa wb : World} {B j : Nat} {L : List α} {v : Value} {F fy : List Nat} {y : α} {g' cap' : Nat} (h : Gro I c z e B wr L v F) (hj : L.length = j) (hB : B ≤ wr.heap.size)
    (hba : Below wr.heap.size wr wa) (hy : I wa wr.heap.size y fy) (hndy : fy.Nodup)
    (ho2 : wb.ownsRow B e z (.slice (some ⟨g', 0, none⟩) (j + 1) cap') (j + 1) (L.flatMap c ++ c y)) (hgr : wa.grownBy wb v.ownBlock) (hor : v.ownBlock = some g' ∨ wa.heap.size < g') (p : Addr) (hp : p.block < B) (u : Value) :
    Gro I c z e B (wb.setCell p u) (L ++ [y]) (.slice (some ⟨g', 0, none⟩) (j + 1) cap') (F ++ fy) ∧ (∀ b, b < B → b ≠ p.block → (wb.setCell p u).heap[b]? = wr.heap[b]?) ∧ wb.heap[p.block]? = wr.heap[p.block]? ∧ wr.heap.size ≤ (wb.setCell p u).heap.size ∧
      ((wb.setCell p u).os = wr.os ∧ (wb.setCell p u).tape = wr.tape ∧ (wb.setCell p u).output = wr.output) := by
  obtain ⟨ho, hF, hnd⟩ := h
  have hba' := hba.size
  have hvl : ∀ b, v.ownBlock = some b → B ≤ b ∧ b < wr.heap.size := fun b hb => ho.lt b hb
  have hFl := hF.lt hI
  have hyl := hI.lt hy
  have d := List.nodup_append.1 hnd
  have hne : ∀ b ∈ F, some b ≠ v.ownBlock := fun b hb e => d.2.2 b (by unfold X.blkL; rw [← e]; simp) b hb rfl
  have hbk : ∀ b, b < wr.heap.size → some b ≠ v.ownBlock → wb.heap[b]? = wr.heap[b]? := fun b hb hn => (hgr.block b (by omega) hn).trans (hba.block b hb)
  have hlow : ∀ b, b < B → some b ≠ v.ownBlock := fun b hb e => by have := hvl b e.symm; omega
  have ho3 : wb.ownsRow B e z (.slice (some ⟨g', 0, none⟩) (j + 1) cap') (j + 1) ((L ++ [y]).flatMap c) := by rw [flat_snoc]; exact ho2
  have hF3 : OwG I wb B (L ++ [y]) (F ++ fy) := OwG.append (hF.keep hI fun b hb => hbk b (hFl b hb).2 (hne b hb)) (OwG.one (hI.keep (hI.mono hB hy) fun b hb => hgr.block b (hyl b hb).2 fun e => by have := hvl b e.symm; have := hyl b hb; omega))
  have hnd3 : (X.blkL (.slice (some ⟨g', 0, none⟩) (j + 1) cap') ++ (F ++ fy)).Nodup := by
    show (g' :: (F ++ fy)).Nodup
    refine List.nodup_cons.2 ⟨fun hm => ?_, List.nodup_append.2 ⟨d.2.1, hndy, fun a ha b hb => by have := hFl a ha; have := hyl b hb; omega⟩⟩
    rcases hor with hor | hor
    · rcases List.mem_append.1 hm with hm | hm
      · exact hne g' hm hor.symm
      · have := hvl g' hor; have := hyl g' hm; omega
    · rcases List.mem_append.1 hm with hm | hm
      · have := hFl g' hm; omega
      · have := hyl g' hm; omega
  have hG : Gro I c z e B wb (L ++ [y]) (.slice (some ⟨g', 0, none⟩) (j + 1) cap') (F ++ fy) := ⟨by rw [List.length_append, hj]; exact ho3, hF3, hnd3⟩
  have hs := hgr.size
  refine ⟨hG.keep hI fun b hb _ => heap_setCell_other _ _ _ _ (by omega), fun b hb hn => (heap_setCell_other _ _ _ _ hn).trans (hbk b (by omega) (hlow b hb)), hbk _ (by omega) (hlow _ hp), by simp [World.setCell]; omega, hgr.os.trans hba.os, hgr.tape.trans hba.tape, hgr.output.trans hba.output⟩
end
/-- What a round of a loop over a unit's parts leaves. -/
theorem roundE {α : Type} {I : Hold α} {c : α → List Value} {z : Nat} {e : TypeId} (hI : IL I) {w wr wa wb : World} {Bs gO bg j n cg B0 : Nat} {L : List α} {v : Value} {F fy : List Nat} {y : α} {g' cap' : Nat} {PT RT OT : TypeId} {pc rc oc : Array Value} {gl : List ByteArray}
    (h : Gro I c z e Bs wr L v F) (hj : L.length = j) (hgO : gO < Bs) (hB : Bs ≤ wr.heap.size) (hba : Below wr.heap.size wr wa) (hy : I wa wr.heap.size y fy) (hndy : fy.Nodup)
    (ho2 : wb.ownsRow Bs e z (.slice (some ⟨g', 0, none⟩) (j + 1) cap') (j + 1) (L.flatMap c ++ c y)) (hgr : wa.grownBy wb v.ownBlock) (hor : v.ownBlock = some g' ∨ wa.heap.size < g') (q : Nat) (u : Value)
    (hb : Below w.heap.size w wr) (hlt : w.heap.size + 2 < gO) (hP : Blk wr w.heap.size PT pc) (hR : Blk wr (w.heap.size + 1) RT rc) (hO : Blk wr gO OT oc) (hG : SBuf wr B0 (.slice (some ⟨bg, 0, none⟩) n cg) gl) (hbg : bg < gO) :
    Gro I c z e Bs (wb.setCell ⟨gO, q, none⟩ u) (L ++ [y]) (.slice (some ⟨g', 0, none⟩) (j + 1) cap') (F ++ fy) ∧ Bs ≤ (wb.setCell ⟨gO, q, none⟩ u).heap.size ∧ Blk (wb.setCell ⟨gO, q, none⟩ u) gO OT (oc.setIfInBounds q u) ∧
      Below w.heap.size w (wb.setCell ⟨gO, q, none⟩ u) ∧ Blk (wb.setCell ⟨gO, q, none⟩ u) w.heap.size PT pc ∧ Blk (wb.setCell ⟨gO, q, none⟩ u) (w.heap.size + 1) RT rc ∧ SBuf (wb.setCell ⟨gO, q, none⟩ u) B0 (.slice (some ⟨bg, 0, none⟩) n cg) gl ∧
      (∀ b, b < Bs → b ≠ gO → (wb.setCell ⟨gO, q, none⟩ u).heap[b]? = wr.heap[b]?) := by
  obtain ⟨h1, h2, h3, h4, h5⟩ := gro_round hI h hj hB hba hy hndy ho2 hgr hor ⟨gO, q, none⟩ hgO u
  have hsz := hb.size
  refine ⟨h1, by omega, Blk.set_ (h3.trans hO) q u, ⟨h5.1.trans hb.os, h5.2.1.trans hb.tape, h5.2.2.trans hb.output, by omega, fun b hbl => (h2 b (by omega) (by show b ≠ gO; omega)).trans (hb.block b hbl)⟩,
    (h2 _ (by omega) (by show w.heap.size ≠ gO; omega)).trans hP, (h2 _ (by omega) (by show w.heap.size + 1 ≠ gO; omega)).trans hR, hG.keepL fun b hbl => ?_, h2⟩
  have e : b = bg := by simpa [X.blkL, Value.ownBlock] using hbl
  subst e
  exact h2 b (by omega) (by show b ≠ gO; omega)
theorem ORs.at_ {e : TypeId} {w : World} {B : Nat} {r : List Rt} {A : Option Addr} {n cap : Nat} {F : List Nat} (h : ORs e w B r (.slice A n cap) F) {i : Nat} (hi : i < r.length) :
    ∃ g s1, A = some ⟨g, 0, none⟩ ∧ SBuf w B s1 r[i].f ∧ w.cell? ⟨g, i * 3, none⟩ = some (.string r[i].t) ∧ w.cell? ⟨g, i * 3 + 1, none⟩ = some s1 ∧ w.cell? ⟨g, i * 3 + 2, none⟩ = some (.int .i64 r[i].l) := by
  obtain ⟨L, rfl, h⟩ := h
  obtain ⟨A', cap', e, hh⟩ := h.read cR_len
  simp only [Value.slice.injEq] at e
  obtain ⟨rfl, _, _⟩ := e
  rw [List.length_map] at hi
  obtain ⟨g, rfl, _, hc⟩ := hh (by omega)
  obtain ⟨⟨f, _, hI⟩, hcell⟩ := hc i hi
  simp only [List.getElem_map]
  have c0 := hcell 0 _ rfl
  have c1 := hcell 1 _ rfl
  have c2 := hcell 2 _ rfl
  simp only [Nat.zero_add, Nat.add_zero] at c0 c1 c2
  exact ⟨g, L[i].2, rfl, hI.1, c0, c1, c2⟩
theorem OPs.at_ {e : TypeId} {w : World} {B : Nat} {p : List Pd} {A : Option Addr} {n cap : Nat} {F : List Nat} (h : OPs e w B p (.slice A n cap) F) {i : Nat} (hi : i < p.length) :
    ∃ g s1 s2 s3 F3, A = some ⟨g, 0, none⟩ ∧ SBuf w B s1 p[i].p ∧ SBuf w B s2 p[i].q ∧ X.Ok w B p[i].x.r s3 F3 ∧ w.cell? ⟨g, i * 9, none⟩ = some (.string p[i].t) ∧ w.cell? ⟨g, i * 9 + 1, none⟩ = some s1 ∧ w.cell? ⟨g, i * 9 + 2, none⟩ = some s2 ∧
      w.cell? ⟨g, i * 9 + 3, none⟩ = some (.int .i64 p[i].x.k) ∧ w.cell? ⟨g, i * 9 + 4, none⟩ = some (.string p[i].x.t) ∧ w.cell? ⟨g, i * 9 + 5, none⟩ = some (.int .i64 p[i].x.n) ∧ w.cell? ⟨g, i * 9 + 6, none⟩ = some (.int .i64 p[i].x.l) ∧ w.cell? ⟨g, i * 9 + 7, none⟩ = some s3 ∧ w.cell? ⟨g, i * 9 + 8, none⟩ = some (.int .i64 p[i].l) := by
  obtain ⟨L, rfl, h⟩ := h
  obtain ⟨A', cap', e, hh⟩ := h.read cP_len
  simp only [Value.slice.injEq] at e
  obtain ⟨rfl, _, _⟩ := e
  rw [List.length_map] at hi
  obtain ⟨g, rfl, _, hc⟩ := hh (by omega)
  obtain ⟨⟨f, _, F3, h1, h2, h3, _⟩, hcell⟩ := hc i hi
  simp only [List.getElem_map]
  have c0 := hcell 0 _ rfl
  have c1 := hcell 1 _ rfl
  have c2 := hcell 2 _ rfl
  have c3 := hcell 3 _ rfl
  have c4 := hcell 4 _ rfl
  have c5 := hcell 5 _ rfl
  have c6 := hcell 6 _ rfl
  have c7 := hcell 7 _ rfl
  have c8 := hcell 8 _ rfl
  simp only [Nat.zero_add, Nat.add_zero] at c0 c1 c2 c3 c4 c5 c6 c7 c8
  exact ⟨g, L[i].2.1, L[i].2.2.1, L[i].2.2.2, F3, rfl, h1, h2, h3, c0, c1, c2, c3, c4, c5, c6, c7, c8⟩
theorem oneR (a b d : Value) (ha : a.oneCell' = true) (hb : b.oneCell' = true) (hd : d.oneCell' = true) : ∀ u ∈ [a, b, d], u.oneCell' = true := by
  intro u hu
  simp only [List.mem_cons, List.not_mem_nil, or_false] at hu
  rcases hu with rfl | rfl | rfl <;> assumption
theorem keepS2 {w w' : World} {p0 p1 : Addr} {v0 v1 : Value} (h : w.cell? p0 = some v0 ∧ w.cell? p1 = some v1) (hb : Below w.heap.size w w') : w'.cell? p0 = some v0 ∧ w'.cell? p1 = some v1 := ⟨kc1 hb h.1, kc1 hb h.2⟩
theorem growS2 {w w' : World} {p0 p1 : Addr} {v0 v1 : Value} {row : Option Nat} (hg : w.grownBy w' row) (h : w.cell? p0 = some v0 ∧ w.cell? p1 = some v1) (n0 : some p0.block ≠ row) (n1 : some p1.block ≠ row) : w'.cell? p0 = some v0 ∧ w'.cell? p1 = some v1 := ⟨hg.cell h.1 n0, hg.cell h.2 n1⟩
theorem setS2 {w : World} {p p0 p1 : Addr} {v0 v1 : Value} (h : w.cell? p0 = some v0 ∧ w.cell? p1 = some v1) (u : Value) (n0 : p ≠ p0) (n1 : p ≠ p1) : (w.setCell p u).cell? p0 = some v0 ∧ (w.setCell p u).cell? p1 = some v1 := ⟨(World.cell?_setCell_other w p p0 u n0).trans (h.1), (World.cell?_setCell_other w p p1 u n1).trans (h.2)⟩
theorem keepS3 {w w' : World} {p0 p1 p2 : Addr} {v0 v1 v2 : Value} (h : w.cell? p0 = some v0 ∧ w.cell? p1 = some v1 ∧ w.cell? p2 = some v2) (hb : Below w.heap.size w w') : w'.cell? p0 = some v0 ∧ w'.cell? p1 = some v1 ∧ w'.cell? p2 = some v2 := ⟨kc1 hb h.1, kc1 hb h.2.1, kc1 hb h.2.2⟩
theorem growS3 {w w' : World} {p0 p1 p2 : Addr} {v0 v1 v2 : Value} {row : Option Nat} (hg : w.grownBy w' row) (h : w.cell? p0 = some v0 ∧ w.cell? p1 = some v1 ∧ w.cell? p2 = some v2) (n0 : some p0.block ≠ row) (n1 : some p1.block ≠ row) (n2 : some p2.block ≠ row) : w'.cell? p0 = some v0 ∧ w'.cell? p1 = some v1 ∧ w'.cell? p2 = some v2 := ⟨hg.cell h.1 n0, hg.cell h.2.1 n1, hg.cell h.2.2 n2⟩
theorem setS3 {w : World} {p p0 p1 p2 : Addr} {v0 v1 v2 : Value} (h : w.cell? p0 = some v0 ∧ w.cell? p1 = some v1 ∧ w.cell? p2 = some v2) (u : Value) (n0 : p ≠ p0) (n1 : p ≠ p1) (n2 : p ≠ p2) : (w.setCell p u).cell? p0 = some v0 ∧ (w.setCell p u).cell? p1 = some v1 ∧ (w.setCell p u).cell? p2 = some v2 := ⟨(World.cell?_setCell_other w p p0 u n0).trans (h.1), (World.cell?_setCell_other w p p1 u n1).trans (h.2.1), (World.cell?_setCell_other w p p2 u n2).trans (h.2.2)⟩
theorem keepS8 {w w' : World} {p0 p1 p2 p3 p4 p5 p6 p7 : Addr} {v0 v1 v2 v3 v4 v5 v6 v7 : Value} (h : w.cell? p0 = some v0 ∧ w.cell? p1 = some v1 ∧ w.cell? p2 = some v2 ∧ w.cell? p3 = some v3 ∧ w.cell? p4 = some v4 ∧ w.cell? p5 = some v5 ∧ w.cell? p6 = some v6 ∧ w.cell? p7 = some v7) (hb : Below w.heap.size w w') : w'.cell? p0 = some v0 ∧ w'.cell? p1 = some v1 ∧ w'.cell? p2 = some v2 ∧ w'.cell? p3 = some v3 ∧ w'.cell? p4 = some v4 ∧ w'.cell? p5 = some v5 ∧ w'.cell? p6 = some v6 ∧ w'.cell? p7 = some v7 := ⟨kc1 hb h.1, kc1 hb h.2.1, kc1 hb h.2.2.1, kc1 hb h.2.2.2.1, kc1 hb h.2.2.2.2.1, kc1 hb h.2.2.2.2.2.1, kc1 hb h.2.2.2.2.2.2.1, kc1 hb h.2.2.2.2.2.2.2⟩
theorem growS8 {w w' : World} {p0 p1 p2 p3 p4 p5 p6 p7 : Addr} {v0 v1 v2 v3 v4 v5 v6 v7 : Value} {row : Option Nat} (hg : w.grownBy w' row) (h : w.cell? p0 = some v0 ∧ w.cell? p1 = some v1 ∧ w.cell? p2 = some v2 ∧ w.cell? p3 = some v3 ∧ w.cell? p4 = some v4 ∧ w.cell? p5 = some v5 ∧ w.cell? p6 = some v6 ∧ w.cell? p7 = some v7) (n0 : some p0.block ≠ row) (n1 : some p1.block ≠ row) (n2 : some p2.block ≠ row) (n3 : some p3.block ≠ row) (n4 : some p4.block ≠ row) (n5 : some p5.block ≠ row) (n6 : some p6.block ≠ row) (n7 : some p7.block ≠ row) : w'.cell? p0 = some v0 ∧ w'.cell? p1 = some v1 ∧ w'.cell? p2 = some v2 ∧ w'.cell? p3 = some v3 ∧ w'.cell? p4 = some v4 ∧ w'.cell? p5 = some v5 ∧ w'.cell? p6 = some v6 ∧ w'.cell? p7 = some v7 := ⟨hg.cell h.1 n0, hg.cell h.2.1 n1, hg.cell h.2.2.1 n2, hg.cell h.2.2.2.1 n3, hg.cell h.2.2.2.2.1 n4, hg.cell h.2.2.2.2.2.1 n5, hg.cell h.2.2.2.2.2.2.1 n6, hg.cell h.2.2.2.2.2.2.2 n7⟩
theorem setS8 {w : World} {p p0 p1 p2 p3 p4 p5 p6 p7 : Addr} {v0 v1 v2 v3 v4 v5 v6 v7 : Value} (h : w.cell? p0 = some v0 ∧ w.cell? p1 = some v1 ∧ w.cell? p2 = some v2 ∧ w.cell? p3 = some v3 ∧ w.cell? p4 = some v4 ∧ w.cell? p5 = some v5 ∧ w.cell? p6 = some v6 ∧ w.cell? p7 = some v7) (u : Value) (n0 : p ≠ p0) (n1 : p ≠ p1) (n2 : p ≠ p2) (n3 : p ≠ p3) (n4 : p ≠ p4) (n5 : p ≠ p5) (n6 : p ≠ p6) (n7 : p ≠ p7) : (w.setCell p u).cell? p0 = some v0 ∧ (w.setCell p u).cell? p1 = some v1 ∧ (w.setCell p u).cell? p2 = some v2 ∧ (w.setCell p u).cell? p3 = some v3 ∧ (w.setCell p u).cell? p4 = some v4 ∧ (w.setCell p u).cell? p5 = some v5 ∧ (w.setCell p u).cell? p6 = some v6 ∧ (w.setCell p u).cell? p7 = some v7 := ⟨(World.cell?_setCell_other w p p0 u n0).trans (h.1), (World.cell?_setCell_other w p p1 u n1).trans (h.2.1), (World.cell?_setCell_other w p p2 u n2).trans (h.2.2.1), (World.cell?_setCell_other w p p3 u n3).trans (h.2.2.2.1), (World.cell?_setCell_other w p p4 u n4).trans (h.2.2.2.2.1), (World.cell?_setCell_other w p p5 u n5).trans (h.2.2.2.2.2.1), (World.cell?_setCell_other w p p6 u n6).trans (h.2.2.2.2.2.2.1), (World.cell?_setCell_other w p p7 u n7).trans (h.2.2.2.2.2.2.2)⟩
theorem oneP (a b c d e f g h i : Value) (ha : a.oneCell' = true) (hb : b.oneCell' = true) (hc : c.oneCell' = true) (hd : d.oneCell' = true) (he : e.oneCell' = true) (hf : f.oneCell' = true) (hg : g.oneCell' = true) (hh : h.oneCell' = true) (hi : i.oneCell' = true) : ∀ u ∈ [a, b, c, d, e, f, g, h, i], u.oneCell' = true := by
  intro u hu
  simp only [List.mem_cons, List.not_mem_nil, or_false] at hu
  rcases hu with rfl | rfl | rfl | rfl | rfl | rfl | rfl | rfl | rfl <;> assumption
theorem er_eq (a : Pd) : Pd.er a = ⟨a.t, a.p, a.q, .mk a.x.k a.x.t a.x.n 0 (X.erL a.x.r), 0⟩ := by obtain ⟨t, p, q, ⟨k, u, n, y, r⟩, l⟩ := a; rfl
end Go.Proofs.Ytljblaglfooclaa
