/- Proved here: the printed form of a unit, in plain data; the joining of names by the program and by the reference. Condition: the names are valid and few. -/
import Derived.Test.YtljblaglfooclaaGreatDoorPp
import Derived.Test.YtljblaglfooclaaGreatDoorVs
namespace Go.Proofs.YtljblaglfooclaaGreatDoor
open Go.RowKit

/-- Names behind each other. -/
def jC (l : List ByteArray) : ByteArray := X.joT [44, 32] l
def recT (a : Rt) : ByteArray := ⟨#[114, 101, 99, 111, 114, 100, 32]⟩ ++ a.t ++ ⟨#[40]⟩ ++ jC a.f ++ ⟨#[41, 10]⟩
def glT (g : List ByteArray) : ByteArray := ⟨#[103, 108, 111, 98, 97, 108, 32]⟩ ++ jC g ++ ⟨#[10]⟩
def hdT (a : Pd) : ByteArray := ⟨#[112, 114, 111, 99, 101, 100, 117, 114, 101, 32]⟩ ++ a.t ++ ⟨#[40]⟩ ++ jC a.p ++ ⟨#[41, 10]⟩
def loT (q : List ByteArray) : ByteArray := ⟨#[108, 111, 99, 97, 108, 32]⟩ ++ jC q ++ ⟨#[59, 10]⟩
def kiT (x : X) : ByteArray := X.PN x ++ ⟨#[59, 10]⟩
def recS (s : ByteArray) (a : Rt) : ByteArray := s ++ recT a
def kiS (s : ByteArray) (x : X) : ByteArray := s ++ kiT x
def hloS (s : ByteArray) (a : Pd) : ByteArray := if 0 < a.q.length then s ++ hdT a ++ loT a.q else s ++ hdT a
def pdS (s : ByteArray) (a : Pd) : ByteArray := a.x.r.foldl kiS (hloS s a) ++ ⟨#[101, 110, 100, 10]⟩
def glS (s : ByteArray) (g : List ByteArray) : ByteArray := if 0 < g.length then s ++ glT g else s
/-- The printed form of a unit. -/
def unT (u : Un) : ByteArray := u.p.foldl pdS (glS (u.r.foldl recS ⟨#[]⟩) u.g)
def prOutU (u : Un) : ByteArray × Bool := if vldU u = true ∧ (unT u).size ≤ 6000 then (unT u, true) else (⟨#[]⟩, false)
theorem fold_take {α : Type} (f : ByteArray → α → ByteArray) (s : ByteArray) (l : List α) {i : Nat} (h : i < l.length) : (l.take (i + 1)).foldl f s = f ((l.take i).foldl f s) l[i] := by
  rw [List.take_succ_eq_append_getElem h, List.foldl_append]; rfl
theorem sum_le {α : Type} (f : α → Nat) (c : Nat) : ∀ l : List α, (∀ x ∈ l, f x ≤ c) → (l.map f).sum ≤ c * l.length
  | [], _ => by simp
  | x :: l, h => by
    have h1 := h x (by simp)
    have h2 := sum_le f c l fun y hy => h y (by simp [hy])
    simp only [List.map_cons, List.sum_cons, List.length_cons, Nat.mul_succ]; omega
theorem jC_sz {l : List ByteArray} (ha : l.all nameB = true) (hl : l.length ≤ 12) : (jC l).size ≤ 1570 := by
  have h1 := X.jo_size [44, 32] l
  have h2 := sum_le (fun x : ByteArray => x.size + 2) 130 l (fun x hx => by have := X.nameB_size (List.all_eq_true.mp ha x hx); omega)
  have e : ([44, 32] : List UInt8).length = 2 := rfl
  rw [e] at h1
  have h3 : 130 * l.length ≤ 130 * 12 := Nat.mul_le_mul_left _ hl
  unfold jC; omega
theorem vldU_parts {r : List Rt} {g : List ByteArray} {p : List Pd} (h : vldU ⟨r, g, p⟩ = true) : r.length ≤ 8 ∧ g.length ≤ 12 ∧ p.length ≤ 12 ∧ g.all nameB = true ∧ (∀ i (h : i < r.length), vldR r[i] = true) ∧ (∀ i (h : i < p.length), vldP p[i] = true) := by
  unfold vldU at h
  simp only [Bool.and_eq_true, decide_eq_true_eq] at h
  obtain ⟨h1, h2, h3, h4, h5, h6⟩ := h
  exact ⟨h1, h2, h3, h4, fun i hi => List.all_eq_true.mp h5 _ (List.getElem_mem hi), fun i hi => List.all_eq_true.mp h6 _ (List.getElem_mem hi)⟩
theorem vldR_parts {a : Rt} (h : vldR a = true) : a.t.size ≤ 128 ∧ a.f.length ≤ 12 ∧ a.f.all nameB = true := by
  unfold vldR at h
  simp only [Bool.and_eq_true, decide_eq_true_eq] at h
  exact ⟨X.nameB_size h.2.1, by omega, h.2.2.1⟩
theorem vldP_parts {a : Pd} (h : vldP a = true) : a.t.size ≤ 128 ∧ (a.p.length ≤ 12 ∧ a.p.all nameB = true) ∧ (a.q.length ≤ 12 ∧ a.q.all nameB = true) ∧ X.cntL a.x.r ≤ 600 ∧ X.vldL X.wdB a.x.r = true := by
  unfold vldP X.vldE at h
  simp only [Bool.and_eq_true, decide_eq_true_eq] at h
  obtain ⟨h1, h2, h3, h4, h5, _, _, h6, _, h8⟩ := h
  have key : ∀ x : X, X.cnt x ≤ 600 → X.vld X.wdB x = true → X.cntL x.r ≤ 600 ∧ X.vldL X.wdB x.r = true := by
    rintro ⟨k, t, n, l, r⟩
    rw [X.cnt, X.vld, Bool.and_eq_true]
    intro h1 h2
    exact ⟨show X.cntL r ≤ 600 by omega, h2.2⟩
  exact ⟨X.nameB_size h3, ⟨by omega, h4⟩, ⟨by omega, h5⟩, key a.x h6 h8⟩
theorem kid_parts {r : List X} (hv : X.vldL X.wdB r = true) (hc : X.cntL r ≤ 600) {i : Nat} (h : i < r.length) : X.vld X.wdB r[i] = true ∧ X.cnt r[i] ≤ 600 ∧ (X.PN r[i]).size ≤ 372000 := by
  have h1 := X.vldL_get X.wdB r h hv
  have h2 := X.cnt_get r h
  have h3 := X.pN_size X.lvB X.cqB X.wdB X.wd_size r[i] h1
  have h4 : (X.pN X.lvB X.cqB r[i]).size ≤ 372000 := by omega
  exact ⟨h1, by omega, h4⟩
theorem keep2 {w w' : World} {p0 p1 : Addr} {v0 v1 : Value} (h : w.cell? p0 = some v0 ∧ w.cell? p1 = some v1) (hb : Below w.heap.size w w') : w'.cell? p0 = some v0 ∧ w'.cell? p1 = some v1 := ⟨kc1 hb h.1, kc1 hb h.2⟩
theorem keep3 {w w' : World} {p0 p1 p2 : Addr} {v0 v1 v2 : Value} (h : w.cell? p0 = some v0 ∧ w.cell? p1 = some v1 ∧ w.cell? p2 = some v2) (hb : Below w.heap.size w w') : w'.cell? p0 = some v0 ∧ w'.cell? p1 = some v1 ∧ w'.cell? p2 = some v2 := ⟨kc1 hb h.1, kc1 hb h.2.1, kc1 hb h.2.2⟩
theorem implJ {l : List ByteArray} {s : Value} {P : Nat → Prop} {w : World} (hK : Sr w P s l) (hP : ∀ b, P b → b < w.heap.size) (ha : l.all nameB = true) (hl : l.length ≤ 12) (W : World) (hW : Below w.heap.size w W) :
    Calls Tryz.prog 19 #[s, .string ⟨#[44, 32]⟩] W fun e w' => e = .returned (.string (jC l)) ∧ Below W.heap.size W w' := by
  have hz := jC_sz ha hl
  obtain ⟨h1, h2⟩ := X.joT_R [44, 32] l (show (jC l).size ≤ 1048576 by omega)
  have h := implJoined l ⟨#[44, 32]⟩ s P W (hK.below hW hP) (fun b hb => Nat.lt_of_lt_of_le (hP b hb) hW.size) (by omega) h2
  rw [show joinR ⟨#[44, 32]⟩ l = jC l from h1] at h
  exact h
theorem specJ {l : List ByteArray} {s : Value} {P : Nat → Prop} {w : World} (hK : Sr w P s l) (hP : ∀ b, P b → b < w.heap.size) (ha : l.all nameB = true) (hl : l.length ≤ 12) (W : World) (hW : Below w.heap.size w W) :
    Calls Tryz.prog 13 #[s, .string ⟨#[44, 32]⟩] W fun e w' => e = .returned (.string (jC l)) ∧ Below W.heap.size W w' := by
  have hz := jC_sz ha hl
  obtain ⟨h1, h2⟩ := X.joT_R [44, 32] l (show (jC l).size ≤ 1048576 by omega)
  have h := specJoined l ⟨#[44, 32]⟩ s P W (hK.below hW hP) (fun b hb => Nat.lt_of_lt_of_le (hP b hb) hW.size) (by omega) (by decide) h2 (fun i hi => Nat.le_trans (X.nameB_size (List.all_eq_true.mp ha _ (List.getElem_mem hi))) (by omega))
  rw [show joinR ⟨#[44, 32]⟩ l = jC l from h1] at h
  exact h
theorem implAt0 (x : X) (s : Value) (P : Nat → Prop) (w : World) (hv : X.vld X.wdB x = true) (hc : X.cnt x ≤ 600) (hK : X.Kc w P x.r s) (hP : ∀ b, P b → b < w.heap.size) (hT : Lib.TabIs Tryz.prog w "strings.asciiSpace" .u8 Lib.asciiSpaceTab) (hT2 : Lib.TabIs Tryz.prog w "internal/strconv.uint64pow10" .u64 Lib.pow10Tab) (hz : (X.PN x).size ≤ 372000) :
    Calls Tryz.prog 20 #[X.val x s, .int .i64 0] w fun e w' => e = .returned (.string (X.PN x)) ∧ Below w.heap.size w w' := by
  have h := X.implAt8 x.k x.t x.n x.l s 0 (X.PN x) w hT (by omega) (fun V hV => X.implPrint x s P V hv hc (hK.below hV hP) (fun b hb => Nat.lt_of_lt_of_le (hP b hb) hV.size) (tab_kept hT hV) (tab_kept hT2 hV))
  rw [show X.atT 0 (x.k, X.lvlT X.lvB x.k x.t, X.PN x) = X.PN x from if_neg (Nat.not_lt_zero _)] at h
  exact h
theorem specAt0 (x : X) (s : Value) (P : Nat → Prop) (w : World) (hv : X.vld X.wdB x = true) (hc : X.cnt x ≤ 600) (hK : X.Kc w P x.r s) (hP : ∀ b, P b → b < w.heap.size) (hz : (X.PN x).size ≤ 372000) :
    Calls Tryz.prog 14 #[X.val x s, .int .i64 0] w fun e w' => e = .returned (.string (X.PN x)) ∧ Below w.heap.size w w' := by
  have h := X.specAt8 x.k x.t x.n x.l s 0 (X.PN x) w (by omega) (fun V hV => X.specPrint x s P V hv hc (hK.below hV hP) (fun b hb => Nat.lt_of_lt_of_le (hP b hb) hV.size))
  rw [show X.atT 0 (x.k, X.lvlT X.lvB x.k x.t, X.PN x) = X.PN x from if_neg (Nat.not_lt_zero _)] at h
  exact h
end Go.Proofs.YtljblaglfooclaaGreatDoor
