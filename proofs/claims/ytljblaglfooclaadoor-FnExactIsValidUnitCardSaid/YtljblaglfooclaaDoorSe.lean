/- Proved here: a text of rising letters is just the text of its own set. No condition. -/
import Derived.Test.YtljblaglfooclaaDoorNc
import Derived.Test.YtljblaglfooclaaDoorCt
namespace Go.Proofs.YtljblaglfooclaaDoor
open Go.RowKit

/-- The bytes are letters of sets, each above the one ahead. -/
def okC (s : ByteArray) : Prop := ∀ j (h : j < s.size), s[j].toNat ≤ 127 ∧ (0 < j → (s[j - 1]'(by omega)).toNat < s[j].toNat)
instance (s : ByteArray) : Decidable (okC s) := inferInstanceAs (Decidable (∀ j (h : j < s.size), s[j].toNat ≤ 127 ∧ (0 < j → (s[j - 1]'(by omega)).toNat < s[j].toNat)))
/-- The numbers of a rising list out of a range that holds them. -/
theorem filt_rise : ∀ (n m : Nat) (l : List Nat), l.Pairwise (· < ·) → (∀ x ∈ l, m ≤ x ∧ x < m + n) → (List.range' m n).filter (fun k => decide (k ∈ l)) = l
  | 0, m, l, _, h => by
    cases l with
    | nil => rfl
    | cons x l => have := h x (by simp); omega
  | n + 1, m, l, hp, h => by
    rw [List.range'_succ]
    cases l with
    | nil => simp
    | cons y l =>
      rw [List.pairwise_cons] at hp
      have hy := h y (by simp)
      by_cases e : y = m
      · subst e
        rw [List.filter_cons_of_pos (by simp)]
        have ih := filt_rise n (y + 1) l hp.2 (fun x hx => by have := h x (by simp [hx]); have := hp.1 x hx; omega)
        have e2 : (List.range' (y + 1) n).filter (fun k => decide (k ∈ y :: l)) = (List.range' (y + 1) n).filter (fun k => decide (k ∈ l)) := by
          apply List.filter_congr
          intro k hk
          rw [List.mem_range'_1] at hk
          have : k ≠ y := by omega
          simp [this]
        rw [e2, ih]
      · have hn : m ∉ y :: l := by
          intro hm
          rcases List.mem_cons.1 hm with hm | hm
          · exact e hm.symm
          · have := hp.1 m hm; omega
        rw [List.filter_cons_of_neg (by simpa using hn)]
        exact filt_rise n (m + 1) (y :: l) (List.pairwise_cons.2 hp) (fun x hx => by
          have h1 := h x hx
          have : x ≠ m := fun e2 => hn (e2 ▸ hx)
          omega)
theorem bitB_0 (j : Nat) : bitB 0 j = false := by
  unfold bitB
  rw [show BitVec.ofInt 64 0 = 0#64 from by decide]; simp
/-- The letters of a list are the elements of its set. -/
theorem fold_has : ∀ l : List UInt8, l.all low = true → ∀ j, j < 128 → hasB (foldB l).1 (foldB l).2 j = decide (j ∈ l.map UInt8.toNat) := by
  refine rev_ind (P := fun l => l.all low = true → ∀ j, j < 128 → hasB (foldB l).1 (foldB l).2 j = decide (j ∈ l.map UInt8.toNat)) ?_ ?_
  · intro _ j _
    have e : foldB [] = (0, 0) := rfl
    rw [e]
    unfold hasB
    rw [bitB_0, bitB_0]
    simp
  · intro l x ih hall j hj
    simp only [List.all_append, Bool.and_eq_true, List.all_cons, List.all_nil, Bool.and_true] at hall
    have hx : x.toNat ≤ 127 := by simpa [low] using hall.2
    have h1 := ih hall.1 j hj
    rw [foldB_snoc]
    have e : decide (j ∈ (l ++ [x]).map UInt8.toNat) = (decide (j ∈ l.map UInt8.toNat) || decide (j = x.toNat)) := by
      rw [Bool.eq_iff_iff]; simp
    rw [e, ← h1]
    unfold hasB
    by_cases h64 : (x.toNat : Int) < 64
    · rw [addN_lo h64]
      show (if j < 64 then bitB (setB _ (x.toNat : Int).toNat) j else if j < 128 then bitB _ (j - 64) else false) = _
      rw [Int.toNat_natCast]
      by_cases hj64 : j < 64
      · rw [if_pos hj64, if_pos hj64, bitB_setB _ _ _ (by omega)]
      · rw [if_neg hj64, if_neg hj64, decide_eq_false (show ¬ j = x.toNat by omega), Bool.or_false]
    · rw [addN_hi h64]
      show (if j < 64 then bitB _ j else if j < 128 then bitB (setB _ ((x.toNat : Int) - 64).toNat) (j - 64) else false) = _
      have e0 : ((x.toNat : Int) - 64).toNat = x.toNat - 64 := by omega
      rw [e0]
      by_cases hj64 : j < 64
      · rw [if_pos hj64, if_pos hj64, decide_eq_false (show ¬ j = x.toNat by omega), Bool.or_false]
      · rw [if_neg hj64, if_neg hj64, if_pos hj, if_pos hj, bitB_setB _ _ _ (by omega), show decide (j - 64 = x.toNat - 64) = decide (j = x.toNat) from decide_eq_decide.2 (by omega)]
theorem csetL_rise (a b : Int) : ((csetL a b).map UInt8.toNat).Pairwise (· < ·) ∧ (csetL a b).all low = true := by
  have e : (csetL a b).map UInt8.toNat = (List.range 128).filter (hasB a b) := by
    unfold csetL csetPre
    rw [List.map_map]
    conv => rhs; rw [← List.map_id ((List.range 128).filter (hasB a b))]
    apply List.map_congr_left
    intro k hk
    rw [List.mem_filter, List.mem_range] at hk
    simp; omega
  refine ⟨by rw [e]; exact List.pairwise_lt_range.filter _, ?_⟩
  rw [List.all_eq_true]
  intro x hx
  have : x.toNat ∈ (csetL a b).map UInt8.toNat := List.mem_map_of_mem hx
  rw [e, List.mem_filter, List.mem_range] at this
  simp only [low, decide_eq_true_eq]; omega
/-- The letters of a rising list's set, in their order, are the list. -/
theorem csetL_fold {l : List UInt8} (hp : (l.map UInt8.toNat).Pairwise (· < ·)) (hall : l.all low = true) : csetL (foldB l).1 (foldB l).2 = l := by
  have h1 : (List.range 128).filter (hasB (foldB l).1 (foldB l).2) = l.map UInt8.toNat := by
    have h2 := filt_rise 128 0 (l.map UInt8.toNat) hp (fun x hx => by
      obtain ⟨y, hy, rfl⟩ := List.mem_map.1 hx
      have := List.all_eq_true.1 hall y hy
      simp only [low, decide_eq_true_eq] at this; omega)
    rw [← List.range_eq_range'] at h2
    refine Eq.trans ?_ h2
    apply List.filter_congr
    intro k hk
    rw [List.mem_range] at hk
    exact fold_has l hall k hk
  unfold csetL csetPre
  rw [h1, List.map_map]
  conv => rhs; rw [← List.map_id l]
  apply List.map_congr_left
  intro k _
  simp
theorem okC_rise (s : ByteArray) : okC s ↔ (s.data.toList.map UInt8.toNat).Pairwise (· < ·) ∧ s.data.toList.all low = true := by
  have hz : s.data.toList.length = s.size := rfl
  have hg : ∀ j (h : j < s.size), s.data.toList[j]'(by omega) = s[j] := fun _ _ => rfl
  constructor
  · intro h
    have key : ∀ d i (hi : i + d + 1 < s.size), s[i].toNat < s[i + d + 1].toNat := by
      intro d
      induction d with
      | zero => intro i hi; have := (h (i + 1) hi).2 (by omega); simpa using this
      | succ d ih =>
        intro i hi
        have h1 := ih i (by omega)
        have h2 := (h (i + (d + 1) + 1) hi).2 (by omega)
        have e : i + (d + 1) + 1 - 1 = i + d + 1 := by omega
        simp only [e] at h2
        omega
    refine ⟨?_, ?_⟩
    · rw [List.pairwise_iff_getElem]
      intro i j hi hj hij
      simp only [List.length_map, hz] at hi hj
      simp only [List.getElem_map]
      rw [hg i hi, hg j hj]
      have := key (j - i - 1) i (by omega)
      have e : i + (j - i - 1) + 1 = j := by omega
      simp only [e] at this
      exact this
    · rw [List.all_eq_true]
      intro x hx
      obtain ⟨j, hj, rfl⟩ := List.getElem_of_mem hx
      have := (h j (by omega)).1
      simp only [low, decide_eq_true_eq]
      exact this
  · rintro ⟨hp, hall⟩ j hj
    refine ⟨?_, fun h0 => ?_⟩
    · have := List.all_eq_true.1 hall (s.data.toList[j]'(by omega)) (List.getElem_mem _)
      simp only [low, decide_eq_true_eq] at this
      exact this
    · rw [List.pairwise_iff_getElem] at hp
      have := hp (j - 1) j (by simp; omega) (by simp; omega) (by omega)
      simp only [List.getElem_map] at this
      exact this
/-- A text of rising letters, as the reference tells it. -/
theorem okC_ref (s : ByteArray) : decide (okC s) = ((newC s.data.toList).2 && decide (csetL (newC s.data.toList).1.1 (newC s.data.toList).1.2 = s.data.toList)) := by
  by_cases hall : s.data.toList.all low = true
  · rw [newC_yes hall, Bool.true_and]
    apply decide_eq_decide.2
    rw [okC_rise]
    constructor
    · rintro ⟨hp, _⟩; exact csetL_fold hp hall
    · intro h
      have := csetL_rise (foldB s.data.toList).1 (foldB s.data.toList).2
      simp only at h
      rw [h] at this
      exact this
  · rw [newC_no (by simpa using hall)]
    have : ¬ okC s := fun h => hall ((okC_rise s).1 h).2
    rw [decide_eq_false this]; rfl
end Go.Proofs.YtljblaglfooclaaDoor
