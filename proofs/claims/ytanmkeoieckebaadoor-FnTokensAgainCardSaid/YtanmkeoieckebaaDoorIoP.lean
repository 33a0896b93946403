/- Proved here: plain facts on reading a whole number out of a text: blanks, a sign, digits. No condition; nothing of the program is named. -/
import Derived.Test.YtanmkeoieckebaaDoorPl
namespace Go.Proofs.YtanmkeoieckebaaDoor

def isBl (x : UInt8) : Bool := decide (x.toNat = 32)
/-- How many blanks stand at the list's beginning. -/
def lead (l : List UInt8) : Nat := (l.takeWhile isBl).length
theorem lead_le (l : List UInt8) : lead l ≤ l.length := by
  unfold lead
  have := (List.takeWhile_sublist (p := isBl) (l := l)).length_le
  exact this
theorem lead_cons_yes {x : UInt8} {l : List UInt8} (h : x.toNat = 32) : lead (x :: l) = lead l + 1 := by simp [lead, isBl, h]
theorem lead_cons_no {x : UInt8} {l : List UInt8} (h : ¬ x.toNat = 32) : lead (x :: l) = 0 := by simp [lead, isBl, h]
theorem lead_get : ∀ (l : List UInt8) (k : Nat) (_ : k < lead l) (hk : k < l.length), l[k].toNat = 32
  | [], _, _, hk => by simp at hk
  | x :: l, k, h, hk => by
    by_cases hx : x.toNat = 32
    · rw [lead_cons_yes hx] at h
      cases k with
      | zero => exact hx
      | succ k => exact lead_get l k (by omega) (by simpa using hk)
    · rw [lead_cons_no hx] at h; omega
theorem lead_stop : ∀ (l : List UInt8) (h : lead l < l.length), ¬ l[lead l].toNat = 32
  | [], h => by simp at h
  | x :: l, h => by
    by_cases hx : x.toNat = 32
    · have e := lead_cons_yes (l := l) hx
      have h2 : lead l < l.length := by rw [e] at h; simpa using h
      have := lead_stop l h2
      simp only [e, List.getElem_cons_succ]
      exact this
    · simp only [lead_cons_no hx, List.getElem_cons_zero]; exact hx
/-- Where the blanks at the list's end begin. -/
def trail (l : List UInt8) : Nat := (l.reverse.dropWhile isBl).length
theorem trail_snoc_yes {x : UInt8} {l : List UInt8} (h : x.toNat = 32) : trail (l ++ [x]) = trail l := by simp [trail, isBl, h]
theorem trail_snoc_no {x : UInt8} {l : List UInt8} (h : ¬ x.toNat = 32) : trail (l ++ [x]) = l.length + 1 := by simp [trail, isBl, h]
theorem trail_le (l : List UInt8) : trail l ≤ l.length := by
  unfold trail
  have := (List.dropWhile_sublist (p := isBl) (l := l.reverse)).length_le
  simpa using this
theorem trail_get (l : List UInt8) : ∀ (k : Nat) (_ : trail l ≤ k) (hk : k < l.length), l[k].toNat = 32 := by
  refine rev_ind (P := fun l => ∀ (k : Nat) (_ : trail l ≤ k) (hk : k < l.length), l[k].toNat = 32) ?_ ?_ l
  · intro k _ hk; simp at hk
  · intro l x ih k h hk
    by_cases hx : x.toNat = 32
    · rw [trail_snoc_yes hx] at h
      by_cases hkl : k < l.length
      · rw [List.getElem_append_left hkl]; exact ih k h hkl
      · rw [List.getElem_append_right (by omega)]; simpa using hx
    · rw [trail_snoc_no hx] at h
      simp at hk; omega
theorem trail_stop (l : List UInt8) : ∀ (h : 0 < trail l), ¬ (l[trail l - 1]'(by have := trail_le l; omega)).toNat = 32 := by
  refine rev_ind (P := fun l => ∀ (h : 0 < trail l), ¬ (l[trail l - 1]'(by have := trail_le l; omega)).toNat = 32) ?_ ?_ l
  · intro h; simp [trail] at h
  · intro l x ih h
    by_cases hx : x.toNat = 32
    · have e := trail_snoc_yes (l := l) hx
      have hl := trail_le l
      rw [e] at h
      have := ih h
      simp only [e]
      rw [List.getElem_append_left (by omega)]
      exact this
    · have e := trail_snoc_no (l := l) hx
      simp only [e]
      rw [List.getElem_append_right (by omega)]
      simpa using hx
theorem trail_pos {l : List UInt8} (h : 0 < l.length) (h0 : ¬ (l[0]'h).toNat = 32) : 0 < trail l := by
  rcases Nat.eq_zero_or_pos (trail l) with hz | hp
  · exact absurd (trail_get l 0 (by omega) h) h0
  · exact hp

/-- The end of the text without the blanks at its end, where it has begun at a. -/
def ioZ (l : List UInt8) : Nat := lead l + trail (l.drop (lead l))
/-- What the digits from a to z are, with the sign m. -/
def ioEnd (l : List UInt8) (a z : Nat) (m : Bool) : Int × Bool :=
  if z - a < 1 ∨ 12 < z - a then (0, false) else if ((l.drop a).take (z - a)).all isDig then (if m then -(numVal ((l.drop a).take (z - a)) : Int) else (numVal ((l.drop a).take (z - a)) : Int), true) else (0, false)
/-- The whole number that a text is. -/
def ioOf (l : List UInt8) : Int × Bool :=
  if h : lead l < l.length then
    (if l[lead l].toNat = 45 then ioEnd l (lead l + 1) (ioZ l) true else if l[lead l].toNat = 43 then ioEnd l (lead l + 1) (ioZ l) false else ioEnd l (lead l) (ioZ l) false)
  else (0, false)
theorem ioZ_bd {l : List UInt8} (h : lead l < l.length) : lead l < ioZ l ∧ ioZ l ≤ l.length := by
  have h1 : 0 < (l.drop (lead l)).length := by simp; omega
  have h2 := trail_pos h1 (by rw [List.getElem_drop]; simpa using lead_stop l h)
  have h3 := trail_le (l.drop (lead l))
  rw [List.length_drop] at h3
  unfold ioZ; omega
theorem ioZ_get {l : List UInt8} (k : Nat) (hk : k < l.length) (h : ioZ l ≤ k) : l[k].toNat = 32 := by
  have := trail_get (l.drop (lead l)) (k - lead l) (by unfold ioZ at h; omega) (by simp; unfold ioZ at h; omega)
  rw [List.getElem_drop] at this
  have e : lead l + (k - lead l) = k := by unfold ioZ at h; omega
  simpa only [e] using this
theorem ioZ_stop {l : List UInt8} (h : lead l < l.length) : ¬ (l[ioZ l - 1]'(by have := ioZ_bd h; omega)).toNat = 32 := by
  have h1 : 0 < (l.drop (lead l)).length := by simp; omega
  have h2 := trail_pos h1 (by rw [List.getElem_drop]; simpa using lead_stop l h)
  have := trail_stop (l.drop (lead l)) h2
  rw [List.getElem_drop] at this
  have e : lead l + (trail (l.drop (lead l)) - 1) = ioZ l - 1 := by unfold ioZ; omega
  simpa only [e] using this
theorem ioFacts (l : List UInt8) (h : lead l < l.length) : ∃ a y, a < y + 1 ∧ y < l.length ∧ (∀ k (hk : k < l.length), k < a → l[k].toNat = 32) ∧ (∀ h : a < l.length, ¬ l[a].toNat = 32) ∧
    (∀ k (hk : k < l.length), y + 1 ≤ k → l[k].toNat = 32) ∧ (∀ h : y < l.length, ¬ l[y].toNat = 32) ∧
    (∀ h : a < l.length, ioOf l = if l[a].toNat = 45 then ioEnd l (a + 1) (y + 1) true else if l[a].toNat = 43 then ioEnd l (a + 1) (y + 1) false else ioEnd l a (y + 1) false) := by
  have hz := ioZ_bd h
  have e : ioZ l - 1 + 1 = ioZ l := by omega
  refine ⟨lead l, ioZ l - 1, by omega, by omega, fun k hk hka => lead_get l k hka hk, fun _ => lead_stop l h, fun k hk hky => ioZ_get k hk (by omega), fun _ => ioZ_stop h, fun _ => ?_⟩
  rw [e]
  exact dif_pos h
theorem ioFull (l : List UInt8) (h : ¬ lead l < l.length) : (∀ k (hk : k < l.length), l[k].toNat = 32) ∧ ioOf l = (0, false) :=
  ⟨fun k hk => lead_get l k (by omega) hk, dif_neg h⟩
theorem isDig_iff {x : UInt8} : isDig x = true ↔ 48 ≤ x.toNat ∧ x.toNat ≤ 57 := by simp [isDig]
theorem seg_snoc (l : List UInt8) (a k : Nat) (ha : a ≤ k) (hk : k < l.length) : (l.drop a).take (k + 1 - a) = (l.drop a).take (k - a) ++ [l[k]] := by
  have e : k + 1 - a = (k - a) + 1 := by omega
  rw [e, List.take_succ_eq_append_getElem (by simp; omega), List.getElem_drop]
  have e2 : a + (k - a) = k := by omega
  simp only [e2]
theorem seg_bad (l : List UInt8) (a z k : Nat) (ha : a ≤ k) (hk : k < z) (hz : z ≤ l.length) (h : isDig (l[k]'(by omega)) = false) : ((l.drop a).take (z - a)).all isDig = false := by
  rw [List.all_eq_false]
  refine ⟨l[k]'(by omega), ?_, by simp [h]⟩
  have h1 : k - a < ((l.drop a).take (z - a)).length := by simp; omega
  have h2 : ((l.drop a).take (z - a))[k - a]'h1 = l[k]'(by omega) := by
    rw [List.getElem_take, List.getElem_drop]
    have e2 : a + (k - a) = k := by omega
    simp only [e2]
  rw [← h2]
  exact List.getElem_mem _
theorem ioEnd_len {l : List UInt8} {a z : Nat} {m : Bool} (h : z - a < 1 ∨ 12 < z - a) : ioEnd l a z m = (0, false) := if_pos h
theorem ioEnd_bad {l : List UInt8} {a z : Nat} {m : Bool} (h : ¬ (z - a < 1 ∨ 12 < z - a)) (h2 : ((l.drop a).take (z - a)).all isDig = false) : ioEnd l a z m = (0, false) := by
  rw [ioEnd, if_neg h, h2]; rfl
theorem ioEnd_yes {l : List UInt8} {a z : Nat} {m : Bool} (h : ¬ (z - a < 1 ∨ 12 < z - a)) (h2 : ((l.drop a).take (z - a)).all isDig = true) :
    ioEnd l a z m = (if m then -(numVal ((l.drop a).take (z - a)) : Int) else (numVal ((l.drop a).take (z - a)) : Int), true) := by
  rw [ioEnd, if_neg h, if_pos h2]
theorem numVal_12 {l : List UInt8} (h : l.all isDig = true) (hl : l.length ≤ 12) : numVal l ≤ 999999999999 := by
  have h1 := numVal_lt l (by simpa using h)
  have h2 : 10 ^ l.length ≤ 10 ^ 12 := Nat.pow_le_pow_right (by omega) hl
  omega
theorem numVal_11 {l : List UInt8} (h : l.all isDig = true) (hl : l.length < 12) : numVal l ≤ 99999999999 := by
  have h1 := numVal_lt l (by simpa using h)
  have h2 : 10 ^ l.length ≤ 10 ^ 11 := Nat.pow_le_pow_right (by omega) (by omega)
  omega
end Go.Proofs.YtanmkeoieckebaaDoor
