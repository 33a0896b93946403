/- Proved here: the decimal form of a number is read again, if it has at most twelve digits; the parts of a text between the occurrences of a byte, joined by that byte, are the text. No condition; nothing of the program is named. -/
import Derived.Test.YtanmkeoieckebaaDoorPnP
import Derived.Test.YtanmkeoieckebaaDoorSpP
import Derived.Lib.Join
namespace Go.Proofs.YtanmkeoieckebaaDoor

theorem digit_of {d : Nat} (h : d < 10) : isDig (UInt8.ofNat (48 + d)) = true ∧ (UInt8.ofNat (48 + d)).toNat - 48 = d := by
  have e : (UInt8.ofNat (48 + d)).toNat = 48 + d := by simp; omega
  rw [isDig_iff', e]; omega
/-- The digits of a number are its digits. -/
theorem decDigits_val (m : Nat) : numVal (Lib.decDigits m) = m ∧ (Lib.decDigits m).all isDig = true := by
  induction m using Nat.strongRecOn with
  | _ m ih =>
    rw [Lib.decDigits]
    by_cases h10 : m < 10
    · rw [dif_pos h10]
      have := digit_of h10
      exact ⟨by simp only [numVal, List.foldl_cons, List.foldl_nil, Nat.zero_mul, Nat.zero_add]; exact this.2, by rw [List.all_cons, this.1]; rfl⟩
    · rw [dif_neg h10]
      have h1 := ih (m / 10) (by omega)
      have h2 := digit_of (d := m % 10) (by omega)
      exact ⟨by rw [numVal_snoc, h1.1, h2.2]; omega, by rw [List.all_append, h1.2, List.all_cons, h2.1]; rfl⟩
theorem nDigits_le {k u : Nat} (hk : 1 ≤ k) (h : u < 10 ^ k) : Lib.nDigits u ≤ k := by
  induction k generalizing u with
  | zero => omega
  | succ k ih =>
    by_cases h10 : u < 10
    · rw [Lib.nDigits_small h10]; omega
    · rw [Lib.nDigits_big h10]
      have : u / 10 < 10 ^ k := by rw [Nat.pow_succ] at h; omega
      have hk1 : 1 ≤ k := by
        rcases Nat.eq_zero_or_pos k with rfl | h0
        · simp at this; omega
        · exact h0
      have := ih hk1 this
      omega
theorem decDigits_len12 (m : Nat) : (Lib.decDigits m).length ≤ 12 ↔ m < 1000000000000 := by
  rw [Lib.decDigits_length]
  constructor
  · intro h
    have h1 := Lib.lt_pow_nDigits m
    exact Nat.lt_of_lt_of_le h1 (Nat.pow_le_pow_right (n := 10) (by omega) h)
  · intro h; exact nDigits_le (k := 12) (by omega) h
theorem numIn_dec (m : Nat) : numIn (Lib.decDigits m) 999999999999 = if m ≤ 999999999999 then ((m : Int), true) else (0, false) := by
  have hp : 1 ≤ (Lib.decDigits m).length := by rw [Lib.decDigits_length]; exact Lib.nDigits_pos m
  have hl := decDigits_len12 m
  obtain ⟨hv, hd⟩ := decDigits_val m
  by_cases h : m ≤ 999999999999
  · rw [if_pos h]
    have h1 : ¬ ((Lib.decDigits m).length = 0 ∨ 12 < (Lib.decDigits m).length ∨ 1 < (Lib.decDigits m).length ∧ (Lib.decDigits m).head? = some 48) := by
      rintro (h0 | h0 | ⟨h0, h2⟩)
      · omega
      · have := hl.2 (by omega); omega
      · exact not_canon h0 h2 m rfl
    rw [numIn_yes h1 hd (by rw [hv]; omega), hv]
  · rw [if_neg h]
    unfold numIn
    rw [if_pos (.inr (.inl (by
      rcases Nat.lt_or_ge 12 (Lib.decDigits m).length with h0 | h0
      · exact h0
      · have := hl.1 h0; omega)))]
/-- The decimal form of a number is read again. -/
theorem parse_itoa (n : Int) : parseI (Lib.itoa n) = if -999999999999 ≤ n ∧ n ≤ 999999999999 then (n, true) else ((parseI (Lib.itoa n)).1, false) := by
  rcases Int.lt_or_le n 0 with hn | hn
  · obtain ⟨m, rfl⟩ : ∃ m : Nat, n = -(m : Int) := ⟨(-n).toNat, by omega⟩
    have h0 : 0 < m := by omega
    have e : Lib.itoa (-(m : Int)) = 45 :: Lib.decDigits m := itoa_neg h0
    have hne : (Lib.decDigits m).head? ≠ some 48 := by
      intro hh
      by_cases h1 : 1 < (Lib.decDigits m).length
      · exact not_canon h1 hh m rfl
      · have hp : 1 ≤ (Lib.decDigits m).length := by rw [Lib.decDigits_length]; exact Lib.nDigits_pos m
        cases hd : Lib.decDigits m with
        | nil => rw [hd] at hp; simp at hp
        | cons a t =>
          rw [hd] at hh h1
          have ha : a = 48 := by simpa using hh
          have ht : t = [] := by
            cases t with
            | nil => rfl
            | cons b t => simp at h1
          have hv := (decDigits_val m).1
          rw [hd, ha, ht] at hv
          have : numVal [48] = 0 := rfl
          omega
    have h45 : (45 :: Lib.decDigits m)[1]? ≠ some 48 := by
      rw [List.getElem?_cons_succ, ← List.head?_eq_getElem?]; exact hne
    have hp : 1 < (45 :: Lib.decDigits m).length := by
      have : 1 ≤ (Lib.decDigits m).length := by rw [Lib.decDigits_length]; exact Lib.nDigits_pos m
      simp; omega
    have hE : parseI (Lib.itoa (-(m : Int))) = (-(numIn (Lib.decDigits m) 999999999999).1, (numIn (Lib.decDigits m) 999999999999).2) := by
      rw [e]; unfold parseI
      rw [if_pos ⟨hp, rfl, h45⟩]; rfl
    rw [hE, numIn_dec]
    by_cases h : m ≤ 999999999999
    · rw [if_pos h, if_pos (by omega)]
    · rw [if_neg h, if_neg (by omega)]
  · obtain ⟨m, rfl⟩ : ∃ m : Nat, n = (m : Int) := ⟨n.toNat, by omega⟩
    have hE : parseI (Lib.itoa (m : Int)) = numIn (Lib.decDigits m) 999999999999 := by
      rw [itoa_pos]
      unfold parseI
      rw [if_neg (fun h => (decDigits_head m).1 h.2.1)]
    rw [hE, numIn_dec]
    by_cases h : m ≤ 999999999999
    · rw [if_pos h, if_pos (by omega)]
    · rw [if_neg h, if_neg (by omega)]
/-- The parts of a text, joined again. -/
theorem join_split (q : UInt8) : ∀ (r cur : List UInt8), Lib.join (splitG q cur r) [q] = cur ++ r
  | [], cur => by rw [splitG_nil, Lib.join_one, List.append_nil]
  | b :: r, cur => by
    by_cases h : b = q
    · rw [splitG_yes h, Lib.join_cons]
      have ih := join_split q r []
      have hne : ∃ x xs, splitG q [] r = x :: xs := by
        cases r with
        | nil => exact ⟨_, _, splitG_nil q []⟩
        | cons c r =>
          by_cases hc : c = q
          · exact ⟨_, _, splitG_yes hc⟩
          · have : ∀ (r cur : List UInt8), splitG q cur r ≠ [] := by
              intro r
              induction r with
              | nil => intro cur; simp [splitG_nil]
              | cons a r ih =>
                intro cur
                by_cases ha : a = q
                · rw [splitG_yes ha]; simp
                · rw [splitG_no ha]; exact ih _
            cases hs : splitG q [] (c :: r) with
            | nil => exact absurd hs (this _ _)
            | cons x xs => exact ⟨x, xs, rfl⟩
      obtain ⟨x, xs, hx⟩ := hne
      rw [hx] at ih ⊢
      rw [Lib.join_cons] at ih
      have : Lib.joinTail [q] (x :: xs) = [q] ++ (x ++ Lib.joinTail [q] xs) := by simp [Lib.joinTail]
      rw [this, ih, h]; rfl
    · rw [splitG_no h, join_split q r (cur ++ [b])]; simp
end Go.Proofs.YtanmkeoieckebaaDoor
