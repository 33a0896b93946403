/- Proved here: plain facts on decimal forms: the reference's reading of a number is the program's. No condition; nothing of the program is named. -/
import Derived.Test.YtanmkeoieckebaaDoorPl
import Derived.Lib.ItoaNum
namespace Go.Proofs.YtanmkeoieckebaaDoor

theorem isDig_iff' {x : UInt8} : isDig x = true ↔ 48 ≤ x.toNat ∧ x.toNat ≤ 57 := by simp [isDig]
/-- The digits of a number, none of 0. -/
def decD (m : Nat) : List UInt8 := if m = 0 then [] else Lib.decDigits m
theorem decD_step {m : Nat} (h : 0 < m) : decD m = decD (m / 10) ++ [UInt8.ofNat (48 + m % 10)] := by
  rw [decD, if_neg (by omega), Lib.decDigits]
  by_cases h10 : m < 10
  · rw [dif_pos h10, decD, if_pos (by omega), show m % 10 = m from by omega]; rfl
  · rw [dif_neg h10, decD, if_neg (by omega)]
theorem ofNat_digit {x : UInt8} (h : isDig x = true) : UInt8.ofNat (48 + (x.toNat - 48)) = x := by
  have := isDig_iff'.1 h
  rw [show 48 + (x.toNat - 48) = x.toNat from by omega]; simp
theorem numVal_zero {l : List UInt8} (h : numVal l = 0) (hd : l.all isDig = true) : ∀ x ∈ l, x = 48 := by
  revert h hd
  refine rev_ind (P := fun l => numVal l = 0 → l.all isDig = true → ∀ x ∈ l, x = 48) ?_ ?_ l
  · intro _ _ x hx; cases hx
  · intro l b ih h hd x hx
    rw [numVal_snoc] at h
    simp only [List.all_append, Bool.and_eq_true, List.all_cons, List.all_nil, Bool.and_true] at hd
    have hb := isDig_iff'.1 hd.2
    rcases List.mem_append.1 hx with hx | hx
    · exact ih (by omega) hd.1 x hx
    · rw [List.mem_singleton] at hx
      subst hx
      apply UInt8.toNat_inj.1
      have : (48 : UInt8).toNat = 48 := rfl
      omega
/-- Digits, at least one, without a needless 0 ahead, are the form of their own number. -/
theorem canon {l : List UInt8} (hd : l.all isDig = true) (h0 : l ≠ []) (hh : l.length = 1 ∨ l.head? ≠ some 48) : Lib.decDigits (numVal l) = l := by
  revert hd h0 hh
  refine rev_ind (P := fun l => l.all isDig = true → l ≠ [] → (l.length = 1 ∨ l.head? ≠ some 48) → Lib.decDigits (numVal l) = l) ?_ ?_ l
  · intro _ h; exact absurd rfl h
  · intro l b ih hd _ hh
    simp only [List.all_append, Bool.and_eq_true, List.all_cons, List.all_nil, Bool.and_true] at hd
    have hb := isDig_iff'.1 hd.2
    rw [numVal_snoc]
    by_cases hl : l = []
    · subst hl
      rw [show numVal [] = 0 from rfl, Lib.decDigits, dif_pos (by omega), show 0 * 10 + (b.toNat - 48) = b.toNat - 48 from by omega, ofNat_digit hd.2]; rfl
    · have hne : l.head? ≠ some 48 := by
        rcases hh with h | h
        · simp at h; exact absurd h hl
        · cases l with
          | nil => exact absurd rfl hl
          | cons a t => simpa using h
      have hpos : 0 < numVal l := by
        rcases Nat.eq_zero_or_pos (numVal l) with hz | hp
        · cases l with
          | nil => exact absurd rfl hl
          | cons a t =>
            have := numVal_zero hz hd.1 a (by simp)
            subst this
            exact absurd rfl hne
        · exact hp
      rw [Lib.decDigits, dif_neg (by omega)]
      rw [show (numVal l * 10 + (b.toNat - 48)) / 10 = numVal l from by omega, show (numVal l * 10 + (b.toNat - 48)) % 10 = b.toNat - 48 from by omega, ofNat_digit hd.2, ih hd.1 hl (.inr hne)]
/-- A needless 0 ahead: not the form of a number. -/
theorem not_canon {l : List UInt8} (h : 1 < l.length) (hh : l.head? = some 48) (n : Nat) : Lib.decDigits n ≠ l := by
  intro e
  have key : ∀ n : Nat, 1 < (Lib.decDigits n).length → (Lib.decDigits n).head? ≠ some 48 := by
    intro n
    induction n using Nat.strongRecOn with
    | _ n ih =>
      intro hl
      rw [Lib.decDigits] at hl ⊢
      by_cases h10 : n < 10
      · rw [dif_pos h10] at hl; simp at hl
      · rw [dif_neg h10] at hl ⊢
        by_cases h1 : 1 < (Lib.decDigits (n / 10)).length
        · have := ih (n / 10) (by omega) h1
          cases hd : Lib.decDigits (n / 10) with
          | nil => rw [hd] at h1; simp at h1
          | cons a t => rw [hd] at this; simpa using this
        · have hp : 0 < (Lib.decDigits (n / 10)).length := by rw [Lib.decDigits_length]; exact Lib.nDigits_pos _
          have h100 : n / 10 < 10 := by
            rcases Nat.lt_or_ge (n / 10) 10 with h | h
            · exact h
            · have : 1 < Lib.nDigits (n / 10) := by rw [Lib.nDigits_big (by omega)]; have := Lib.nDigits_pos (n / 10 / 10); omega
              rw [← Lib.decDigits_length] at this; exact absurd this h1
          rw [Lib.decDigits_one h100]
          simp only [List.cons_append, List.head?_cons, ne_eq, Option.some.injEq]
          intro e2
          have := congrArg UInt8.toNat e2
          simp at this
          omega
  subst e
  exact key n h hh
theorem decDigits_head (n : Nat) : (Lib.decDigits n).head? ≠ some 45 ∧ Lib.decDigits n ≠ [] := by
  induction n using Nat.strongRecOn with
  | _ n ih =>
    rw [Lib.decDigits]
    by_cases h10 : n < 10
    · rw [dif_pos h10]
      refine ⟨?_, by simp⟩
      simp only [List.head?_cons, ne_eq, Option.some.injEq]
      intro e
      have := congrArg UInt8.toNat e
      simp at this
      omega
    · rw [dif_neg h10]
      have := ih (n / 10) (by omega)
      refine ⟨?_, by simp⟩
      cases hd : Lib.decDigits (n / 10) with
      | nil => exact absurd hd this.2
      | cons a t => rw [hd] at this; simpa using this.1

/-- Digits alone, none needless ahead, at most twelve, not above a most. -/
def numIn (l : List UInt8) (most : Int) : Int × Bool :=
  if l.length = 0 ∨ 12 < l.length ∨ 1 < l.length ∧ l.head? = some 48 then (0, false) else if l.all isDig then (if most < (numVal l : Int) then (0, false) else ((numVal l : Int), true)) else (0, false)
/-- The program's reading of an integer. -/
def parseI (l : List UInt8) : Int × Bool :=
  if 1 < l.length ∧ l.head? = some 45 ∧ l[1]? ≠ some 48 then (-(numIn l.tail 999999999999).1, (numIn l.tail 999999999999).2) else numIn l 999999999999
/-- The reference's reading of an integer of at most k digits. -/
def readL (l : List UInt8) (k : Int) : Int × Bool :=
  if l.head? = some 45 then
    (if l.tail.length < 1 ∨ k < (l.tail.length : Int) then (0, false) else if l.tail.all isDig then (if Lib.itoa (-(numVal l.tail : Int)) = l then (-(numVal l.tail : Int), true) else (0, false)) else (0, false))
  else (if l.length < 1 ∨ k < (l.length : Int) then (0, false) else if l.all isDig then (if Lib.itoa (numVal l : Int) = l then ((numVal l : Int), true) else (0, false)) else (0, false))
def parseN (l : List UInt8) : Int × Bool := numIn l 999999
/-- The reference's reading of a number. -/
def readN (l : List UInt8) : Int × Bool := if (readL l 6).2 = false ∨ (readL l 6).1 < 0 then (0, false) else readL l 6
theorem itoa_pos (n : Nat) : Lib.itoa (n : Int) = Lib.decDigits n := by simp [Lib.itoa]
theorem itoa_z : Lib.itoa (-((0 : Nat) : Int)) = [48] := by
  rw [show (-((0 : Nat) : Int)) = ((0 : Nat) : Int) from rfl, itoa_pos, Lib.decDigits_one (by omega)]; rfl
theorem itoa_neg {n : Nat} (h : 0 < n) : Lib.itoa (-(n : Int)) = 45 :: Lib.decDigits n := by
  rw [Lib.itoa, if_pos (by omega)]; simp
theorem numVal_pow {l : List UInt8} (hd : l.all isDig = true) : numVal l < 10 ^ l.length := numVal_lt l (by simpa using hd)
theorem numVal_b {l : List UInt8} (hd : l.all isDig = true) {k : Nat} (h : l.length ≤ k) : numVal l < 10 ^ k :=
  Nat.lt_of_lt_of_le (numVal_pow hd) (Nat.pow_le_pow_right (by omega) h)
theorem dig_head {l : List UInt8} (hd : l.all isDig = true) : l.head? ≠ some 45 := by
  cases l with
  | nil => simp
  | cons a t =>
    simp only [List.all_cons, Bool.and_eq_true] at hd
    have := isDig_iff'.1 hd.1
    simp only [List.head?_cons, ne_eq, Option.some.injEq]
    intro e; subst e
    have : (45 : UInt8).toNat = 45 := rfl
    omega
theorem numIn_45 {l : List UInt8} {m : Int} (h : l.head? = some 45) : numIn l m = (0, false) := by
  unfold numIn
  split
  · rfl
  · rw [if_neg]
    intro hd
    exact dig_head hd h
theorem numIn_yes {l : List UInt8} {m : Int} (h1 : ¬ (l.length = 0 ∨ 12 < l.length ∨ 1 < l.length ∧ l.head? = some 48)) (hd : l.all isDig = true) (hm : (numVal l : Int) ≤ m) : numIn l m = ((numVal l : Int), true) := by
  rw [numIn, if_neg h1, if_pos hd, if_neg (by omega)]
theorem numIn_no {l : List UInt8} {m : Int} (h : (l.length = 0 ∨ 12 < l.length ∨ 1 < l.length ∧ l.head? = some 48) ∨ l.all isDig = false) : numIn l m = (0, false) := by
  unfold numIn
  split
  · rfl
  · rcases h with h | h
    · contradiction
    · rw [h]; rfl
theorem numCond {l : List UInt8} (h1 : 0 < l.length) (h2 : l.length ≤ 12) (h3 : ¬ (1 < l.length ∧ l.head? = some 48)) : ¬ (l.length = 0 ∨ 12 < l.length ∨ 1 < l.length ∧ l.head? = some 48) := by
  rintro (h | h | h)
  · omega
  · omega
  · exact h3 h
theorem readL_pos {l : List UInt8} {k : Int} (h45 : ¬ l.head? = some 45) (hk12 : k ≤ 12) : readL l k = if (numIn l 999999999999).2 = true ∧ (l.length : Int) ≤ k then numIn l 999999999999 else (0, false) := by
  rw [readL, if_neg h45]
  by_cases h1 : l.length < 1 ∨ k < (l.length : Int)
  · rw [if_pos h1]
    rcases h1 with h1 | h1
    · rw [numIn_no (.inl (.inl (by omega)))]; simp
    · rw [if_neg (by intro h; omega)]
  · rw [if_neg h1]
    by_cases hd : l.all isDig = true
    · rw [if_pos hd, itoa_pos]
      have hb : numVal l < 10 ^ 12 := numVal_b hd (by omega)
      by_cases h48 : 1 < l.length ∧ l.head? = some 48
      · rw [if_neg (not_canon h48.1 h48.2 _), numIn_no (.inl (.inr (.inr h48)))]; simp
      · have hc := canon hd (by intro e; subst e; simp at h1) (by
          rcases Nat.lt_or_ge 1 l.length with h | h
          · exact .inr (fun e => h48 ⟨h, e⟩)
          · exact .inl (by omega))
        rw [if_pos hc, numIn_yes (numCond (by omega) (by omega) h48) hd (by omega)]
        simp; omega
    · have hd' : l.all isDig = false := by simpa using hd
      rw [if_neg hd, numIn_no (.inr hd')]; simp
theorem parse_eq (l : List UInt8) : parseI l = readL l 12 := by
  by_cases h45 : l.head? = some 45
  · obtain ⟨t, rfl⟩ : ∃ t, l = 45 :: t := by
      cases l with
      | nil => cases h45
      | cons a t => simp at h45; exact ⟨t, by rw [h45]⟩
    rw [readL, if_pos h45, List.tail_cons]
    by_cases hgo : 1 < (45 :: t).length ∧ (45 :: t : List UInt8).head? = some 45 ∧ (45 :: t : List UInt8)[1]? ≠ some 48
    · rw [parseI, if_pos hgo, List.tail_cons]
      have h0 : t.head? ≠ some 48 := by have := hgo.2.2; cases t <;> simp_all
      have hne : t ≠ [] := by intro e; subst e; simp at hgo
      by_cases h1 : t.length < 1 ∨ (12 : Int) < (t.length : Int)
      · rw [if_pos h1, numIn_no (.inl (by omega))]; rfl
      · rw [if_neg h1]
        by_cases hd : t.all isDig = true
        · have hb : numVal t < 10 ^ 12 := numVal_b hd (by omega)
          have hpos : 0 < numVal t := by
            rcases Nat.eq_zero_or_pos (numVal t) with hz | hp
            · cases t with
              | nil => exact absurd rfl hne
              | cons a t =>
                have := numVal_zero hz hd a (by simp)
                subst this
                exact absurd rfl h0
            · exact hp
          rw [if_pos hd, itoa_neg hpos, canon hd hne (.inr h0), if_pos rfl, numIn_yes (numCond (by omega) (by omega) (fun h => h0 h.2)) hd (by omega)]
        · have hd' : t.all isDig = false := by simpa using hd
          rw [if_neg hd, numIn_no (.inr hd')]; rfl
    · rw [parseI, if_neg hgo, numIn_45 h45]
      by_cases h1 : t.length < 1 ∨ (12 : Int) < (t.length : Int)
      · rw [if_pos h1]
      · rw [if_neg h1]
        by_cases hd : t.all isDig = true
        · rw [if_pos hd]
          have h48 : t.head? = some 48 := by
            cases t with
            | nil => simp at h1
            | cons a t =>
              have : ¬ a ≠ 48 := fun h => hgo ⟨by simp, rfl, by simpa using h⟩
              simpa using this
          rcases Nat.eq_zero_or_pos (numVal t) with hz | hp
          · rw [hz]
            have e0 := itoa_z
            rw [e0, if_neg (by simp)]
          · rw [itoa_neg hp, if_neg]
            intro e
            have e2 : Lib.decDigits (numVal t) = t := by simpa using e
            rcases Nat.lt_or_ge 1 t.length with h | h
            · exact not_canon h h48 _ e2
            · cases t with
              | nil => simp at h1
              | cons a t =>
                have : t = [] := by cases t with | nil => rfl | cons b t => simp at h
                subst this
                have ha : a = 48 := by simpa using h48
                subst ha
                simp [numVal] at hp
        · rw [if_neg hd]
  · have hne : ¬ (1 < l.length ∧ l.head? = some 45 ∧ l[1]? ≠ some 48) := fun h => h45 h.2.1
    have h12 : (numIn l 999999999999).2 = true → (l.length : Int) ≤ 12 := by
      intro h
      rcases Nat.lt_or_ge 12 l.length with h2 | h2
      · rw [numIn_no (.inl (.inr (.inl h2)))] at h; cases h
      · omega
    rw [parseI, if_neg hne, readL_pos h45 (by omega)]
    by_cases h2 : (numIn l 999999999999).2 = true
    · rw [if_pos ⟨h2, h12 h2⟩]
    · rw [if_neg (fun h => h2 h.1)]
      unfold numIn at h2 ⊢
      split
      · rfl
      · split
        · split
          · rfl
          · rename_i h3 h4 h5; rw [if_neg h3, if_pos h4, if_neg h5] at h2; exact absurd rfl h2
        · rfl
theorem nDig_le : ∀ (k u : Nat), u < 10 ^ (k + 1) → Lib.nDigits u ≤ k + 1
  | 0, u, h => by rw [Lib.nDigits_small (by simpa using h)]; omega
  | k + 1, u, h => by
    by_cases h10 : u < 10
    · rw [Lib.nDigits_small h10]; omega
    · rw [Lib.nDigits_big h10]
      have := nDig_le k (u / 10) (by rw [Nat.pow_succ] at h; omega)
      omega
theorem parseN_eq (l : List UInt8) : parseN l = readN l := by
  by_cases h45 : l.head? = some 45
  · have hr : readN l = (0, false) := by
      unfold readN
      by_cases h : (readL l 6).2 = false ∨ (readL l 6).1 < 0
      · rw [if_pos h]
      · exfalso
        apply h
        rw [readL, if_pos h45]
        split
        · exact .inl rfl
        · split
          · split
            · rename_i h1 h2 h3
              rcases Nat.eq_zero_or_pos (numVal l.tail) with hz | hp
              · rw [hz] at h3
                have e0 := itoa_z
                rw [e0] at h3
                rw [← h3] at h45; cases h45
              · exact .inr (by simp only; omega)
            · exact .inl rfl
          · exact .inl rfl
    rw [hr, parseN, numIn_45 h45]
  · rw [readN, readL_pos h45 (by omega), parseN]
    by_cases hc : l.length = 0 ∨ 12 < l.length ∨ 1 < l.length ∧ l.head? = some 48
    · rw [numIn_no (.inl hc), numIn_no (.inl hc)]; simp
    · by_cases hd : l.all isDig = true
      · have hb : numVal l < 10 ^ 12 := numVal_b hd (by omega)
        rw [numIn_yes (m := 999999999999) hc hd (by omega)]
        have hcan := canon hd (by intro e; subst e; simp at hc) (by
          rcases Nat.lt_or_ge 1 l.length with h | h
          · exact .inr (fun e => hc (.inr (.inr ⟨h, e⟩)))
          · exact .inl (by omega))
        have hlen : Lib.nDigits (numVal l) = l.length := by rw [← Lib.decDigits_length, hcan]
        by_cases h6 : l.length ≤ 6
        · have hb6 : numVal l < 10 ^ 6 := numVal_b hd h6
          have e : (if ((numVal l : Int), true).2 = true ∧ (l.length : Int) ≤ 6 then ((numVal l : Int), true) else (0, false)) = ((numVal l : Int), true) := if_pos ⟨rfl, by omega⟩
          rw [numIn_yes hc hd (by omega), e, if_neg (by simp)]
        · have : ¬ numVal l < 10 ^ (5 + 1) := fun h => by have := nDig_le 5 _ h; omega
          have e : (if ((numVal l : Int), true).2 = true ∧ (l.length : Int) ≤ 6 then ((numVal l : Int), true) else (0, false)) = (0, false) := if_neg (by intro h; have := h.2; omega)
          rw [e, if_pos (.inl rfl), numIn, if_neg hc, if_pos hd, if_pos (by omega)]
      · have hd' : l.all isDig = false := by simpa using hd
        rw [numIn_no (.inr hd'), numIn_no (.inr hd')]; simp
end Go.Proofs.YtanmkeoieckebaaDoor
