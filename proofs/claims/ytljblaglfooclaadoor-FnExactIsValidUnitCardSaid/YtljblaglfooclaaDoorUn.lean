/- Proved here: units (record types, global names, procedures) as plain data, their sizes, and how they lie in memory, read. No condition. -/
import Derived.Test.YtljblaglfooclaaDoorXm
import Derived.Test.YtljblaglfooclaaDoorSs
namespace Go.Proofs.YtljblaglfooclaaDoor
open Go.RowKit

/-- A record type: its name, the names of its fields, its line. -/
structure Rt where
  t : ByteArray
  f : List ByteArray
  l : Int
/-- A procedure: its name, its parameters, its locals, its body, its line. -/
structure Pd where
  t : ByteArray
  p : List ByteArray
  q : List ByteArray
  x : X
  l : Int
/-- A unit. -/
structure Un where
  r : List Rt
  g : List ByteArray
  p : List Pd
def Rt.siz (a : Rt) : Nat := a.t.size + (a.f.length + sizS a.f)
def Pd.siz (a : Pd) : Nat := a.t.size + ((a.p.length + sizS a.p) + ((a.q.length + sizS a.q) + X.siz a.x))
/-- The sum of a measure over a list. -/
def sumF {α : Type} (f : α → Nat) (l : List α) : Nat := (l.map f).sum
theorem sumF_take {α : Type} (f : α → Nat) (l : List α) {i : Nat} (h : i < l.length) : sumF f (l.take (i + 1)) = sumF f (l.take i) + f l[i] := by
  unfold sumF
  rw [List.take_succ_eq_append_getElem h, List.map_append, List.sum_append]
  simp only [List.map_cons, List.map_nil, List.sum_cons, List.sum_nil, Nat.add_zero]
theorem sumF_le {α : Type} (f : α → Nat) (l : List α) (i : Nat) : sumF f (l.take i) ≤ sumF f l := by
  conv => rhs; rw [← List.take_append_drop i l]
  unfold sumF
  rw [List.map_append, List.sum_append]; omega
theorem sumF_at {α : Type} (f : α → Nat) (l : List α) {i : Nat} (h : i < l.length) : f l[i] ≤ sumF f l := by
  have h1 := sumF_take f l h
  have h2 := sumF_le f l (i + 1)
  omega
def Un.siz (u : Un) : Nat := (u.r.length + sumF Rt.siz u.r) + ((u.g.length + sizS u.g) + (u.p.length + sumF Pd.siz u.p))
/-- Texts that fit. -/
def fitS (l : List ByteArray) : Prop := l.length ≤ maxLen ∧ ∀ i (h : i < l.length), l[i].size ≤ maxLen
def Rt.Wf (a : Rt) : Prop := a.t.size ≤ maxLen ∧ fitS a.f
def Pd.Wf (a : Pd) : Prop := a.t.size ≤ maxLen ∧ fitS a.p ∧ fitS a.q ∧ X.Wf a.x
def Un.Wf (u : Un) : Prop := (u.r.length ≤ maxLen ∧ ∀ i (h : i < u.r.length), u.r[i].Wf) ∧ fitS u.g ∧ (u.p.length ≤ maxLen ∧ ∀ i (h : i < u.p.length), u.p[i].Wf)
/-- The record types r lie at the slice s, in blocks that meet P. -/
def Rts (w : World) (P : Nat → Prop) (r : List Rt) (s : Value) : Prop :=
  ∃ A cap, s = .slice A r.length cap ∧ (0 < r.length → ∃ b o, A = some ⟨b, o, none⟩ ∧ P b ∧ ∀ i (h : i < r.length), ∃ s1, Sr w P s1 r[i].f ∧
    w.cell? ⟨b, o + i * 3, none⟩ = some (.string r[i].t) ∧ w.cell? ⟨b, o + i * 3 + 1, none⟩ = some s1 ∧ w.cell? ⟨b, o + i * 3 + 2, none⟩ = some (.int .i64 r[i].l))
/-- How the kids of a body lie. -/
abbrev KP := World → (Nat → Prop) → List X → Value → Prop
/-- The procedures p lie at the slice s. -/
def Pds (K : KP) (w : World) (P : Nat → Prop) (p : List Pd) (s : Value) : Prop :=
  ∃ A cap, s = .slice A p.length cap ∧ (0 < p.length → ∃ b o, A = some ⟨b, o, none⟩ ∧ P b ∧ ∀ i (h : i < p.length), ∃ s1 s2 s3, Sr w P s1 p[i].p ∧ Sr w P s2 p[i].q ∧ K w P p[i].x.r s3 ∧
    w.cell? ⟨b, o + i * 9, none⟩ = some (.string p[i].t) ∧ w.cell? ⟨b, o + i * 9 + 1, none⟩ = some s1 ∧ w.cell? ⟨b, o + i * 9 + 2, none⟩ = some s2 ∧
    w.cell? ⟨b, o + i * 9 + 3, none⟩ = some (.int .i64 p[i].x.k) ∧ w.cell? ⟨b, o + i * 9 + 4, none⟩ = some (.string p[i].x.t) ∧ w.cell? ⟨b, o + i * 9 + 5, none⟩ = some (.int .i64 p[i].x.n) ∧
    w.cell? ⟨b, o + i * 9 + 6, none⟩ = some (.int .i64 p[i].x.l) ∧ w.cell? ⟨b, o + i * 9 + 7, none⟩ = some s3 ∧ w.cell? ⟨b, o + i * 9 + 8, none⟩ = some (.int .i64 p[i].l))
theorem Rts.form {w : World} {P : Nat → Prop} {r : List Rt} {s : Value} (h : Rts w P r s) : ∃ A cap, s = .slice A r.length cap := by
  obtain ⟨A, cap, e, _⟩ := h
  exact ⟨A, cap, e⟩
theorem Pds.form {K : KP} {w : World} {P : Nat → Prop} {p : List Pd} {s : Value} (h : Pds K w P p s) : ∃ A cap, s = .slice A p.length cap := by
  obtain ⟨A, cap, e, _⟩ := h
  exact ⟨A, cap, e⟩
theorem Rts.at_ {w : World} {P : Nat → Prop} {r : List Rt} {A : Option Addr} {n cap : Nat} (h : Rts w P r (.slice A n cap)) {i : Nat} (hi : i < r.length) :
    ∃ b o s1, A = some ⟨b, o, none⟩ ∧ P b ∧ Sr w P s1 r[i].f ∧ w.cell? ⟨b, o + i * 3, none⟩ = some (.string r[i].t) ∧ w.cell? ⟨b, o + i * 3 + 1, none⟩ = some s1 ∧ w.cell? ⟨b, o + i * 3 + 2, none⟩ = some (.int .i64 r[i].l) := by
  obtain ⟨A', cap', e, h⟩ := h
  simp only [Value.slice.injEq] at e
  obtain ⟨rfl, _, _⟩ := e
  obtain ⟨b, o, e, hb, hc⟩ := h (by omega)
  obtain ⟨s1, h1⟩ := hc i hi
  exact ⟨b, o, s1, e, hb, h1⟩
theorem Pds.at_ {K : KP} {w : World} {P : Nat → Prop} {p : List Pd} {A : Option Addr} {n cap : Nat} (h : Pds K w P p (.slice A n cap)) {i : Nat} (hi : i < p.length) :
    ∃ b o s1 s2 s3, A = some ⟨b, o, none⟩ ∧ P b ∧ Sr w P s1 p[i].p ∧ Sr w P s2 p[i].q ∧ K w P p[i].x.r s3 ∧
    w.cell? ⟨b, o + i * 9, none⟩ = some (.string p[i].t) ∧ w.cell? ⟨b, o + i * 9 + 1, none⟩ = some s1 ∧ w.cell? ⟨b, o + i * 9 + 2, none⟩ = some s2 ∧
    w.cell? ⟨b, o + i * 9 + 3, none⟩ = some (.int .i64 p[i].x.k) ∧ w.cell? ⟨b, o + i * 9 + 4, none⟩ = some (.string p[i].x.t) ∧ w.cell? ⟨b, o + i * 9 + 5, none⟩ = some (.int .i64 p[i].x.n) ∧
    w.cell? ⟨b, o + i * 9 + 6, none⟩ = some (.int .i64 p[i].x.l) ∧ w.cell? ⟨b, o + i * 9 + 7, none⟩ = some s3 ∧ w.cell? ⟨b, o + i * 9 + 8, none⟩ = some (.int .i64 p[i].l) := by
  obtain ⟨A', cap', e, h⟩ := h
  simp only [Value.slice.injEq] at e
  obtain ⟨rfl, _, _⟩ := e
  obtain ⟨b, o, e, hb, hc⟩ := h (by omega)
  obtain ⟨s1, s2, s3, h1⟩ := hc i hi
  exact ⟨b, o, s1, s2, s3, e, hb, h1⟩
theorem Rts.keep {w w' : World} {P P' : Nat → Prop} {r : List Rt} {s : Value} (h : Rts w P r s) (hk : ∀ p : Addr, P p.block → w'.cell? p = w.cell? p) (hP : ∀ b, P b → P' b) : Rts w' P' r s := by
  obtain ⟨A, cap, rfl, h⟩ := h
  refine ⟨A, cap, rfl, fun h0 => ?_⟩
  obtain ⟨b, o, rfl, hb0, hc⟩ := h h0
  refine ⟨b, o, rfl, hP b hb0, fun i hi => ?_⟩
  obtain ⟨s1, h1, c0, c1, c2⟩ := hc i hi
  exact ⟨s1, h1.keep hk hP, (hk ⟨b, _, none⟩ hb0).trans c0, (hk ⟨b, _, none⟩ hb0).trans c1, (hk ⟨b, _, none⟩ hb0).trans c2⟩
theorem Pds.keep {K K' : KP} {w w' : World} {P P' : Nat → Prop} {p : List Pd} {s : Value} (h : Pds K w P p s) (hK : ∀ {r : List X} {s : Value}, K w P r s → K' w' P' r s) (hk : ∀ p : Addr, P p.block → w'.cell? p = w.cell? p) (hP : ∀ b, P b → P' b) : Pds K' w' P' p s := by
  obtain ⟨A, cap, rfl, h⟩ := h
  refine ⟨A, cap, rfl, fun h0 => ?_⟩
  obtain ⟨b, o, rfl, hb0, hc⟩ := h h0
  refine ⟨b, o, rfl, hP b hb0, fun i hi => ?_⟩
  have hq : ∀ {k : Nat} {u : Value}, w.cell? ⟨b, k, none⟩ = some u → w'.cell? ⟨b, k, none⟩ = some u := fun c => (hk ⟨b, _, none⟩ hb0).trans c
  obtain ⟨s1, s2, s3, h1, h2, h3, c0, c1, c2, c3, c4, c5, c6, c7, c8⟩ := hc i hi
  exact ⟨s1, s2, s3, h1.keep hk hP, h2.keep hk hP, hK h3, hq c0, hq c1, hq c2, hq c3, hq c4, hq c5, hq c6, hq c7, hq c8⟩
theorem Rts.below {w w' : World} {P : Nat → Prop} {B : Nat} {r : List Rt} {s : Value} (h : Rts w P r s) (hb : Below B w w') (hP : ∀ b, P b → b < B) : Rts w' P r s :=
  h.keep (fun _ hp => hb.cell (hP _ hp)) (fun _ h => h)
theorem Pds.below {w w' : World} {P : Nat → Prop} {B : Nat} {p : List Pd} {s : Value} (h : Pds X.Kd w P p s) (hb : Below B w w') (hP : ∀ b, P b → b < B) : Pds X.Kd w' P p s :=
  h.keep (fun k => k.below hb hP) (fun _ hp => hb.cell (hP _ hp)) (fun _ h => h)
/-- The unit u lies at three slices. -/
def Urd (K : KP) (w : World) (P : Nat → Prop) (u : Un) (s1 s2 s3 : Value) : Prop := Rts w P u.r s1 ∧ Sr w P s2 u.g ∧ Pds K w P u.p s3
theorem Urd.below {w w' : World} {P : Nat → Prop} {B : Nat} {u : Un} {s1 s2 s3 : Value} (h : Urd X.Kd w P u s1 s2 s3) (hb : Below B w w') (hP : ∀ b, P b → b < B) : Urd X.Kd w' P u s1 s2 s3 :=
  ⟨h.1.below hb hP, h.2.1.below hb hP, h.2.2.below hb hP⟩
end Go.Proofs.YtljblaglfooclaaDoor
