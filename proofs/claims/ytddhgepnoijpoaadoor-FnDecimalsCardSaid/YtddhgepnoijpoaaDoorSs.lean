/- Proved here: how a list of texts lies in memory, and what the law's small functions on such lists do: szStringS, toStringS, eqStringS. Condition: the list fits. -/
import Derived.Test.YtddhgepnoijpoaaDoorSb
import Derived.Test.YtddhgepnoijpoaaDoorXp
import Derived.Test.YtddhgepnoijpoaaDoorHeld
import Derived.Laws.MakeOwn
import Derived.Deep.AppendLies
import Derived.SliceStrings
namespace Go.Proofs.YtddhgepnoijpoaaDoor
open Go.RowKit

/-- The texts l lie one behind the other from A on, in a block that meets P. -/
def SrA (w : World) (P : Nat → Prop) (A : Option Addr) (l : List ByteArray) : Prop :=
  0 < l.length → ∃ b o, A = some ⟨b, o, none⟩ ∧ P b ∧ ∀ i (h : i < l.length), w.cell? ⟨b, o + i, none⟩ = some (.string l[i])
/-- The slice s reads as the texts l. -/
def Sr (w : World) (P : Nat → Prop) (s : Value) (l : List ByteArray) : Prop := ∃ A cap, s = .slice A l.length cap ∧ l.length ≤ cap ∧ SrA w P A l
section
variable {w w' : World} {P P' : Nat → Prop} {s : Value} {l : List ByteArray}
theorem Sr.form (h : Sr w P s l) : ∃ A cap, s = .slice A l.length cap := by
  obtain ⟨A, cap, e, _⟩ := h
  exact ⟨A, cap, e⟩
theorem Sr.cap_ {A : Option Addr} {n cap : Nat} (h : Sr w P (.slice A n cap) l) : l.length ≤ cap := by
  obtain ⟨A', cap', e, h, _⟩ := h
  simp only [Value.slice.injEq] at e
  omega
theorem Sr.row {A : Option Addr} {n cap : Nat} (h : Sr w P (.slice A n cap) l) (hl : 0 < l.length) : ∃ b o, A = some ⟨b, o, none⟩ ∧ P b ∧ ∀ i (h : i < l.length), w.cell? ⟨b, o + i, none⟩ = some (.string l[i]) := by
  obtain ⟨A', cap', e, _, h⟩ := h
  simp only [Value.slice.injEq] at e
  obtain ⟨rfl, _, _⟩ := e
  exact h hl
theorem Sr.at_ {A : Option Addr} {n cap : Nat} (h : Sr w P (.slice A n cap) l) {i : Nat} (hi : i < l.length) : ∃ b o, A = some ⟨b, o, none⟩ ∧ P b ∧ w.cell? ⟨b, o + i, none⟩ = some (.string l[i]) := by
  obtain ⟨A', cap', e, _, h⟩ := h
  simp only [Value.slice.injEq] at e
  obtain ⟨rfl, _, _⟩ := e
  obtain ⟨b, o, e, hb, hc⟩ := h (by omega)
  exact ⟨b, o, e, hb, hc i hi⟩
theorem Sr.keep (h : Sr w P s l) (hk : ∀ p : Addr, P p.block → w'.cell? p = w.cell? p) (hP : ∀ b, P b → P' b) : Sr w' P' s l := by
  obtain ⟨A, cap, e, hc, h⟩ := h
  refine ⟨A, cap, e, hc, fun hl => ?_⟩
  obtain ⟨b, o, e, hb, hc⟩ := h hl
  exact ⟨b, o, e, hP b hb, fun i hi => (hk ⟨b, _, none⟩ hb).trans (hc i hi)⟩
theorem Sr.below {B : Nat} (h : Sr w P s l) (hb : Below B w w') (hP : ∀ b, P b → b < B) : Sr w' P s l := h.keep (fun _ hp => hb.cell (hP _ hp)) (fun _ h => h)
end
/-- What the law takes from its bound for a list of texts: their bytes. -/
def sizS (l : List ByteArray) : Nat := (l.map ByteArray.size).sum
theorem sizS_take (l : List ByteArray) {i : Nat} (h : i < l.length) : sizS (l.take (i + 1)) = sizS (l.take i) + l[i].size := by
  unfold sizS
  rw [List.take_succ_eq_append_getElem h, List.map_append, List.sum_append]
  simp only [List.map_cons, List.map_nil, List.sum_cons, List.sum_nil, Nat.add_zero]
theorem sizS_le (l : List ByteArray) (i : Nat) : sizS (l.take i) ≤ sizS l := by
  conv => rhs; rw [← List.take_append_drop i l]
  unfold sizS
  rw [List.map_append, List.sum_append]; omega
theorem siz_at (l : List ByteArray) {i : Nat} (h : i < l.length) : l[i].size ≤ sizS l := by
  have h1 := sizS_take l h
  have h2 := sizS_le l (i + 1)
  omega
theorem SBuf.form {w : World} {B : Nat} {s : Value} {l : List ByteArray} (h : SBuf w B s l) : ∃ A cap, s = .slice A l.length cap := by
  rcases h.2 with ⟨rfl, h0⟩ | ⟨g, cap, cur, rfl, _⟩
  · exact ⟨none, 0, by rw [h0]⟩
  · exact ⟨_, _, rfl⟩
theorem SBuf.sr {w : World} {B : Nat} {P : Nat → Prop} {s : Value} {l : List ByteArray} (h : SBuf w B s l) (hP : ∀ b, B ≤ b → b < w.heap.size → P b) : Sr w P s l := by
  have hlt := World.ownsRow.lt h
  rcases h.2 with ⟨rfl, h0⟩ | ⟨g, cap, cur, rfl, hg, _, hnc, _⟩
  · exact ⟨none, 0, by rw [h0], by omega, fun hl => by omega⟩
  · refine ⟨_, _, rfl, hnc, fun _ => ⟨g, 0, rfl, hP g hg (hlt g rfl).2, fun i hi => ?_⟩⟩
    have := World.ownsRow.cells h (g := g) rfl i _ (textsV_get l i hi)
    have e : (⟨g, 0, none⟩ : Addr).add i = ⟨g, 0 + i, none⟩ := by unfold Addr.add; split <;> simp_all
    rw [← e]; exact this
theorem SBuf.lt {w : World} {B : Nat} {s : Value} {l : List ByteArray} (h : SBuf w B s l) : ∀ k, s.ownBlock = some k → B ≤ k ∧ k < w.heap.size := World.ownsRow.lt h
theorem SBuf.mono {w : World} {B B' : Nat} {s : Value} {l : List ByteArray} (h : SBuf w B s l) (hB : B' ≤ B) : SBuf w B' s l := by
  refine ⟨h.1, ?_⟩
  rcases h.2 with h0 | ⟨g, cap, cur, rfl, hg, rest⟩
  · exact .inl h0
  · exact .inr ⟨g, cap, cur, rfl, Nat.le_trans hB hg, rest⟩
theorem SBuf.sr_in {w W : World} {B : Nat} {s : Value} {l : List ByteArray} (h : SBuf w B s l) (hb : Below w.heap.size w W) : Sr W (· < W.heap.size) s l :=
  ((h.sr (P := (· < w.heap.size)) fun _ _ h => h).below hb fun _ h => h).keep (fun _ _ => rfl) fun _ hp => Nat.lt_of_lt_of_le hp hb.size
section
open Go.ChangeShapes Go.WideShapes
theorem cells_str : Tryd.prog.cellsOf 9 = 1 := by kernel_rfl
variable {H : Type} {enc : TypeId × Value → H} {w : World} {spare : Nat → Bool} {held : Bool}
set_option maxRecDepth 20000 in
/-- A list of texts that came in, by its cells. -/
theorem open_srC {fuel : Nat} {s : Value} {x : DataW H × List MemPlace} (h : DataW.trod enc Tryd.prog w 0 spare held fuel 41 [s] = some x) :
    ∃ l, Sr w (· < w.heap.size) s l ∧ l.length ≤ maxLen ∧ ∀ i (h : i < l.length), l[i].size ≤ maxLen := by
  rcases open_strings Tryd.underlying41 Tryd.underlying9 cells_str h with ⟨e, _⟩ | ⟨a, len, cap, ss, e, _, hlc, hcm, hss, _, hcell, hsz⟩
  · simp only [List.cons.injEq, and_true] at e
    subst e
    exact ⟨[], ⟨none, 0, rfl, Nat.le_refl _, fun h => by simp at h⟩, by simp, fun i h => by simp at h⟩
  · simp only [List.cons.injEq, and_true] at e
    subst e
    have hle : len ≤ ss.length := by split at hss <;> omega
    have hll : (ss.take len).length = len := by simp; omega
    refine ⟨ss.take len, ⟨some a, cap, by rw [hll], by omega, fun h0 => ?_⟩, by omega, fun i hi => hsz _ (List.mem_of_mem_take (List.getElem_mem hi))⟩
    have hc0 := hcell 0 (by omega)
    have hsp : a.spot = none := by simpa [Addr.add] using World.cell?_spot hc0
    obtain ⟨b, o, sp⟩ := a
    simp only at hsp
    subst hsp
    refine ⟨b, o, rfl, ?_, fun i hi => ?_⟩
    · have := World.block_lt_of_cell? _ _ hc0
      simpa [Addr.add] using this
    · have hi' : i < ss.length := by omega
      have := hcell i hi'
      have e : (⟨b, o, none⟩ : Addr).add i = ⟨b, o + i, none⟩ := by unfold Addr.add; split <;> simp_all
      rw [e, List.getD_eq_getElem?_getD, List.getElem?_eq_getElem hi', Option.getD_some] at this
      rw [this, List.getElem_take]
set_option maxRecDepth 20000 in
theorem open_sr {r : Reach} {b0 : Nat} {v : Value} {d : DataW H} {p : List MemPlace} (hv : Value.okWide Tryd.prog w r b0 41 v) (h : DataW.Trod enc Tryd.prog w 0 spare held 41 v d p) :
    ∃ l, Sr w (· < w.heap.size) v l ∧ l.length ≤ maxLen ∧ ∀ i (h : i < l.length), l[i].size ≤ maxLen := by
  obtain ⟨a, len, cap, rfl⟩ := okWide_slice Tryd.underlying41 hv
  obtain ⟨fuel, hf⟩ := h
  exact open_srC (fuel := fuel) hf
end
end Go.Proofs.YtddhgepnoijpoaaDoor
