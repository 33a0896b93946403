/- Proved here: plain facts on lists of bytes: the letters of a set, quoting, decimal digits. No condition; nothing of the program is named. Proved here: plain facts on decimal forms: the reference's reading of a number is the program's. No condition; nothing of the program is named. Proved here: plain facts on the parts of a text between the occurrences of a byte. No condition; nothing of the program is named. Proved here: the decimal form of a number is read again, if it has at most twelve digits; the parts of a text between the occurrences of a byte, joined by that byte, are the text. No condition; nothing of the program is named. Proved here: plain facts on quoted literals: what they denote, and where they end. No condition; nothing of the program is named. Proved here: a quoted text denotes what was quoted. No condition; nothing of the program is named. -/
import Derived.Lib.ItoaNum
import Derived.Laws.BitsLemmas
import Derived.Lib.Strings
import Derived.Lib.Join
namespace Go.Proofs.Ytljblaglfooclaa

theorem rev_ind {α : Type} {P : List α → Prop} (h0 : P []) (h1 : ∀ l b, P l → P (l ++ [b])) (l : List α) : P l := by
  have : ∀ l : List α, P l.reverse := fun l => by
    induction l with
    | nil => simpa using h0
    | cons a l ih => simpa using h1 _ a ih
  simpa using this l.reverse

/-! ### quoting -/
def hexD (n : Nat) : UInt8 := if n < 10 then UInt8.ofNat (48 + n) else UInt8.ofNat (87 + n)
def escB (q b : UInt8) : List UInt8 :=
  if b = q ∨ b = 92 then [92, b] else if b = 10 then [92, 110] else if b = 9 then [92, 116]
  else if b.toNat < 32 ∨ 126 < b.toNat then [92, 120, hexD (b.toNat / 16), hexD (b.toNat % 16)] else [b]
def escL (q : UInt8) (l : List UInt8) : List UInt8 := l.flatMap (escB q)
def quoteL (q : UInt8) (l : List UInt8) : List UInt8 := q :: (escL q l ++ [q])
theorem escB_len (q b : UInt8) : (escB q b).length ≤ 4 := by unfold escB; repeat' (first | split | simp)
theorem escL_snoc (q : UInt8) (l : List UInt8) (b : UInt8) : escL q (l ++ [b]) = escL q l ++ escB q b := by simp [escL]
theorem escL_len (q : UInt8) : ∀ l : List UInt8, (escL q l).length ≤ 4 * l.length
  | [] => by simp [escL]
  | b :: l => by
    have h := escL_len q l
    have h2 := escB_len q b
    simp only [escL, List.flatMap_cons, List.length_append, List.length_cons] at h ⊢
    omega

/-! ### decimal digits -/
def isDig (b : UInt8) : Bool := decide (48 ≤ b.toNat) && decide (b.toNat ≤ 57)
/-- The number that a row of digits is. -/
def numVal (l : List UInt8) : Nat := l.foldl (fun n b => n * 10 + (b.toNat - 48)) 0
theorem numVal_snoc (l : List UInt8) (b : UInt8) : numVal (l ++ [b]) = numVal l * 10 + (b.toNat - 48) := by simp [numVal]
theorem numVal_lt (l : List UInt8) : (∀ b ∈ l, isDig b = true) → numVal l < 10 ^ l.length := by
  refine rev_ind (P := fun l => (∀ b ∈ l, isDig b = true) → numVal l < 10 ^ l.length) ?_ ?_ l
  · intro _; simp [numVal]
  · intro l b ih h
    have h1 := ih (fun x hx => h x (by simp [hx]))
    have h2 := h b (by simp)
    simp only [isDig, Bool.and_eq_true, decide_eq_true_eq] at h2
    rw [numVal_snoc, List.length_append]
    simp only [List.length_cons, List.length_nil, Nat.zero_add, Nat.pow_succ]
    omega

/-! ### letters and digits -/
/-- A letter; a digit. -/
def letB (x : UInt8) : Bool := decide ((97 ≤ x.toNat ∧ x.toNat ≤ 122) ∨ (65 ≤ x.toNat ∧ x.toNat ≤ 90) ∨ x.toNat = 95)
def digB (x : UInt8) : Bool := decide (48 ≤ x.toNat ∧ x.toNat ≤ 57)
end Go.Proofs.Ytljblaglfooclaa

namespace Go.Proofs.Ytljblaglfooclaa

theorem isDig_iff' {x : UInt8} : isDig x = true ↔ 48 ≤ x.toNat ∧ x.toNat ≤ 57 := by simp [isDig]
/-- The digits of a number, none of 0. -/
def decD (m : Nat) : List UInt8 := if m = 0 then [] else Lib.decDigits m
theorem decD_step {m : Nat} (h : 0 < m) : decD m = decD (m / 10) ++ [UInt8.ofNat (48 + m % 10)] := by
  rw [decD, if_neg (by omega), Lib.decDigits]
  by_cases h10 : m < 10
  · rw [dif_pos h10, decD, if_pos (by omega), show m % 10 = m from by omega]; rfl
  · rw [dif_neg h10, decD, if_neg (by omega)]
theorem ofNat_digit {x : UInt8} (h : isDig x = true) : UInt8.ofNat (48 + (x.toNat - 48)) = x := by
  have := isDig_iff'.1 h
  rw [show 48 + (x.toNat - 48) = x.toNat from by omega]; simp
theorem numVal_zero {l : List UInt8} (h : numVal l = 0) (hd : l.all isDig = true) : ∀ x ∈ l, x = 48 := by
  revert h hd
  refine rev_ind (P := fun l => numVal l = 0 → l.all isDig = true → ∀ x ∈ l, x = 48) ?_ ?_ l
  · intro _ _ x hx; cases hx
  · intro l b ih h hd x hx
    rw [numVal_snoc] at h
    simp only [List.all_append, Bool.and_eq_true, List.all_cons, List.all_nil, Bool.and_true] at hd
    have hb := isDig_iff'.1 hd.2
    rcases List.mem_append.1 hx with hx | hx
    · exact ih (by omega) hd.1 x hx
    · rw [List.mem_singleton] at hx
      subst hx
      apply UInt8.toNat_inj.1
      have : (48 : UInt8).toNat = 48 := rfl
      omega
/-- Digits, at least one, without a needless 0 ahead, are the form of their own number. -/
theorem canon {l : List UInt8} (hd : l.all isDig = true) (h0 : l ≠ []) (hh : l.length = 1 ∨ l.head? ≠ some 48) : Lib.decDigits (numVal l) = l := by
  revert hd h0 hh
  refine rev_ind (P := fun l => l.all isDig = true → l ≠ [] → (l.length = 1 ∨ l.head? ≠ some 48) → Lib.decDigits (numVal l) = l) ?_ ?_ l
  · intro _ h; exact absurd rfl h
  · intro l b ih hd _ hh
    simp only [List.all_append, Bool.and_eq_true, List.all_cons, List.all_nil, Bool.and_true] at hd
    have hb := isDig_iff'.1 hd.2
    rw [numVal_snoc]
    by_cases hl : l = []
    · subst hl
      rw [show numVal [] = 0 from rfl, Lib.decDigits, dif_pos (by omega), show 0 * 10 + (b.toNat - 48) = b.toNat - 48 from by omega, ofNat_digit hd.2]; rfl
    · have hne : l.head? ≠ some 48 := by
        rcases hh with h | h
        · simp at h; exact absurd h hl
        · cases l with
          | nil => exact absurd rfl hl
          | cons a t => simpa using h
      have hpos : 0 < numVal l := by
        rcases Nat.eq_zero_or_pos (numVal l) with hz | hp
        · cases l with
          | nil => exact absurd rfl hl
          | cons a t =>
            have := numVal_zero hz hd.1 a (by simp)
            subst this
            exact absurd rfl hne
        · exact hp
      rw [Lib.decDigits, dif_neg (by omega)]
      rw [show (numVal l * 10 + (b.toNat - 48)) / 10 = numVal l from by omega, show (numVal l * 10 + (b.toNat - 48)) % 10 = b.toNat - 48 from by omega, ofNat_digit hd.2, ih hd.1 hl (.inr hne)]
/-- A needless 0 ahead: not the form of a number. -/
theorem not_canon {l : List UInt8} (h : 1 < l.length) (hh : l.head? = some 48) (n : Nat) : Lib.decDigits n ≠ l := by
  intro e
  have key : ∀ n : Nat, 1 < (Lib.decDigits n).length → (Lib.decDigits n).head? ≠ some 48 := by
    intro n
    induction n using Nat.strongRecOn with
    | _ n ih =>
      intro hl
      rw [Lib.decDigits] at hl ⊢
      by_cases h10 : n < 10
      · rw [dif_pos h10] at hl; simp at hl
      · rw [dif_neg h10] at hl ⊢
        by_cases h1 : 1 < (Lib.decDigits (n / 10)).length
        · have := ih (n / 10) (by omega) h1
          cases hd : Lib.decDigits (n / 10) with
          | nil => rw [hd] at h1; simp at h1
          | cons a t => rw [hd] at this; simpa using this
        · have hp : 0 < (Lib.decDigits (n / 10)).length := by rw [Lib.decDigits_length]; exact Lib.nDigits_pos _
          have h100 : n / 10 < 10 := by
            rcases Nat.lt_or_ge (n / 10) 10 with h | h
            · exact h
            · have : 1 < Lib.nDigits (n / 10) := by rw [Lib.nDigits_big (by omega)]; have := Lib.nDigits_pos (n / 10 / 10); omega
              rw [← Lib.decDigits_length] at this; exact absurd this h1
          rw [Lib.decDigits_one h100]
          simp only [List.cons_append, List.head?_cons, ne_eq, Option.some.injEq]
          intro e2
          have := congrArg UInt8.toNat e2
          simp at this
          omega
  subst e
  exact key n h hh
theorem decDigits_head (n : Nat) : (Lib.decDigits n).head? ≠ some 45 ∧ Lib.decDigits n ≠ [] := by
  induction n using Nat.strongRecOn with
  | _ n ih =>
    rw [Lib.decDigits]
    by_cases h10 : n < 10
    · rw [dif_pos h10]
      refine ⟨?_, by simp⟩
      simp only [List.head?_cons, ne_eq, Option.some.injEq]
      intro e
      have := congrArg UInt8.toNat e
      simp at this
      omega
    · rw [dif_neg h10]
      have := ih (n / 10) (by omega)
      refine ⟨?_, by simp⟩
      cases hd : Lib.decDigits (n / 10) with
      | nil => exact absurd hd this.2
      | cons a t => rw [hd] at this; simpa using this.1

/-- Digits alone, none needless ahead, at most twelve, not above a most. -/
def numIn (l : List UInt8) (most : Int) : Int × Bool :=
  if l.length = 0 ∨ 12 < l.length ∨ 1 < l.length ∧ l.head? = some 48 then (0, false) else if l.all isDig then (if most < (numVal l : Int) then (0, false) else ((numVal l : Int), true)) else (0, false)
/-- The program's reading of an integer. -/
def parseI (l : List UInt8) : Int × Bool :=
  if 1 < l.length ∧ l.head? = some 45 ∧ l[1]? ≠ some 48 then (-(numIn l.tail 999999999999).1, (numIn l.tail 999999999999).2) else numIn l 999999999999
/-- The reference's reading of an integer of at most k digits. -/
def readL (l : List UInt8) (k : Int) : Int × Bool :=
  if l.head? = some 45 then
    (if l.tail.length < 1 ∨ k < (l.tail.length : Int) then (0, false) else if l.tail.all isDig then (if Lib.itoa (-(numVal l.tail : Int)) = l then (-(numVal l.tail : Int), true) else (0, false)) else (0, false))
  else (if l.length < 1 ∨ k < (l.length : Int) then (0, false) else if l.all isDig then (if Lib.itoa (numVal l : Int) = l then ((numVal l : Int), true) else (0, false)) else (0, false))
def parseN (l : List UInt8) : Int × Bool := numIn l 999999
/-- The reference's reading of a number. -/
def readN (l : List UInt8) : Int × Bool := if (readL l 6).2 = false ∨ (readL l 6).1 < 0 then (0, false) else readL l 6
theorem itoa_pos (n : Nat) : Lib.itoa (n : Int) = Lib.decDigits n := by simp [Lib.itoa]
theorem itoa_z : Lib.itoa (-((0 : Nat) : Int)) = [48] := by
  rw [show (-((0 : Nat) : Int)) = ((0 : Nat) : Int) from rfl, itoa_pos, Lib.decDigits_one (by omega)]; rfl
theorem itoa_neg {n : Nat} (h : 0 < n) : Lib.itoa (-(n : Int)) = 45 :: Lib.decDigits n := by
  rw [Lib.itoa, if_pos (by omega)]; simp
theorem numVal_pow {l : List UInt8} (hd : l.all isDig = true) : numVal l < 10 ^ l.length := numVal_lt l (by simpa using hd)
theorem numVal_b {l : List UInt8} (hd : l.all isDig = true) {k : Nat} (h : l.length ≤ k) : numVal l < 10 ^ k :=
  Nat.lt_of_lt_of_le (numVal_pow hd) (Nat.pow_le_pow_right (by omega) h)
theorem dig_head {l : List UInt8} (hd : l.all isDig = true) : l.head? ≠ some 45 := by
  cases l with
  | nil => simp
  | cons a t =>
    simp only [List.all_cons, Bool.and_eq_true] at hd
    have := isDig_iff'.1 hd.1
    simp only [List.head?_cons, ne_eq, Option.some.injEq]
    intro e; subst e
    have : (45 : UInt8).toNat = 45 := rfl
    omega
theorem numIn_45 {l : List UInt8} {m : Int} (h : l.head? = some 45) : numIn l m = (0, false) := by
  unfold numIn
  split
  · rfl
  · rw [if_neg]
    intro hd
    exact dig_head hd h
theorem numIn_yes {l : List UInt8} {m : Int} (h1 : ¬ (l.length = 0 ∨ 12 < l.length ∨ 1 < l.length ∧ l.head? = some 48)) (hd : l.all isDig = true) (hm : (numVal l : Int) ≤ m) : numIn l m = ((numVal l : Int), true) := by
  rw [numIn, if_neg h1, if_pos hd, if_neg (by omega)]
theorem numIn_no {l : List UInt8} {m : Int} (h : (l.length = 0 ∨ 12 < l.length ∨ 1 < l.length ∧ l.head? = some 48) ∨ l.all isDig = false) : numIn l m = (0, false) := by
  unfold numIn
  split
  · rfl
  · rcases h with h | h
    · contradiction
    · rw [h]; rfl
theorem numCond {l : List UInt8} (h1 : 0 < l.length) (h2 : l.length ≤ 12) (h3 : ¬ (1 < l.length ∧ l.head? = some 48)) : ¬ (l.length = 0 ∨ 12 < l.length ∨ 1 < l.length ∧ l.head? = some 48) := by
  rintro (h | h | h)
  · omega
  · omega
  · exact h3 h
theorem readL_pos {l : List UInt8} {k : Int} (h45 : ¬ l.head? = some 45) (hk12 : k ≤ 12) : readL l k = if (numIn l 999999999999).2 = true ∧ (l.length : Int) ≤ k then numIn l 999999999999 else (0, false) := by
  rw [readL, if_neg h45]
  by_cases h1 : l.length < 1 ∨ k < (l.length : Int)
  · rw [if_pos h1]
    rcases h1 with h1 | h1
    · rw [numIn_no (.inl (.inl (by omega)))]; simp
    · rw [if_neg (by intro h; omega)]
  · rw [if_neg h1]
    by_cases hd : l.all isDig = true
    · rw [if_pos hd, itoa_pos]
      have hb : numVal l < 10 ^ 12 := numVal_b hd (by omega)
      by_cases h48 : 1 < l.length ∧ l.head? = some 48
      · rw [if_neg (not_canon h48.1 h48.2 _), numIn_no (.inl (.inr (.inr h48)))]; simp
      · have hc := canon hd (by intro e; subst e; simp at h1) (by
          rcases Nat.lt_or_ge 1 l.length with h | h
          · exact .inr (fun e => h48 ⟨h, e⟩)
          · exact .inl (by omega))
        rw [if_pos hc, numIn_yes (numCond (by omega) (by omega) h48) hd (by omega)]
        simp; omega
    · have hd' : l.all isDig = false := by simpa using hd
      rw [if_neg hd, numIn_no (.inr hd')]; simp
theorem parse_eq (l : List UInt8) : parseI l = readL l 12 := by
  by_cases h45 : l.head? = some 45
  · obtain ⟨t, rfl⟩ : ∃ t, l = 45 :: t := by
      cases l with
      | nil => cases h45
      | cons a t => simp at h45; exact ⟨t, by rw [h45]⟩
    rw [readL, if_pos h45, List.tail_cons]
    by_cases hgo : 1 < (45 :: t).length ∧ (45 :: t : List UInt8).head? = some 45 ∧ (45 :: t : List UInt8)[1]? ≠ some 48
    · rw [parseI, if_pos hgo, List.tail_cons]
      have h0 : t.head? ≠ some 48 := by have := hgo.2.2; cases t <;> simp_all
      have hne : t ≠ [] := by intro e; subst e; simp at hgo
      by_cases h1 : t.length < 1 ∨ (12 : Int) < (t.length : Int)
      · rw [if_pos h1, numIn_no (.inl (by omega))]; rfl
      · rw [if_neg h1]
        by_cases hd : t.all isDig = true
        · have hb : numVal t < 10 ^ 12 := numVal_b hd (by omega)
          have hpos : 0 < numVal t := by
            rcases Nat.eq_zero_or_pos (numVal t) with hz | hp
            · cases t with
              | nil => exact absurd rfl hne
              | cons a t =>
                have := numVal_zero hz hd a (by simp)
                subst this
                exact absurd rfl h0
            · exact hp
          rw [if_pos hd, itoa_neg hpos, canon hd hne (.inr h0), if_pos rfl, numIn_yes (numCond (by omega) (by omega) (fun h => h0 h.2)) hd (by omega)]
        · have hd' : t.all isDig = false := by simpa using hd
          rw [if_neg hd, numIn_no (.inr hd')]; rfl
    · rw [parseI, if_neg hgo, numIn_45 h45]
      by_cases h1 : t.length < 1 ∨ (12 : Int) < (t.length : Int)
      · rw [if_pos h1]
      · rw [if_neg h1]
        by_cases hd : t.all isDig = true
        · rw [if_pos hd]
          have h48 : t.head? = some 48 := by
            cases t with
            | nil => simp at h1
            | cons a t =>
              have : ¬ a ≠ 48 := fun h => hgo ⟨by simp, rfl, by simpa using h⟩
              simpa using this
          rcases Nat.eq_zero_or_pos (numVal t) with hz | hp
          · rw [hz]
            have e0 := itoa_z
            rw [e0, if_neg (by simp)]
          · rw [itoa_neg hp, if_neg]
            intro e
            have e2 : Lib.decDigits (numVal t) = t := by simpa using e
            rcases Nat.lt_or_ge 1 t.length with h | h
            · exact not_canon h h48 _ e2
            · cases t with
              | nil => simp at h1
              | cons a t =>
                have : t = [] := by cases t with | nil => rfl | cons b t => simp at h
                subst this
                have ha : a = 48 := by simpa using h48
                subst ha
                simp [numVal] at hp
        · rw [if_neg hd]
  · have hne : ¬ (1 < l.length ∧ l.head? = some 45 ∧ l[1]? ≠ some 48) := fun h => h45 h.2.1
    have h12 : (numIn l 999999999999).2 = true → (l.length : Int) ≤ 12 := by
      intro h
      rcases Nat.lt_or_ge 12 l.length with h2 | h2
      · rw [numIn_no (.inl (.inr (.inl h2)))] at h; cases h
      · omega
    rw [parseI, if_neg hne, readL_pos h45 (by omega)]
    by_cases h2 : (numIn l 999999999999).2 = true
    · rw [if_pos ⟨h2, h12 h2⟩]
    · rw [if_neg (fun h => h2 h.1)]
      unfold numIn at h2 ⊢
      split
      · rfl
      · split
        · split
          · rfl
          · rename_i h3 h4 h5; rw [if_neg h3, if_pos h4, if_neg h5] at h2; exact absurd rfl h2
        · rfl
theorem nDig_le : ∀ (k u : Nat), u < 10 ^ (k + 1) → Lib.nDigits u ≤ k + 1
  | 0, u, h => by rw [Lib.nDigits_small (by simpa using h)]; omega
  | k + 1, u, h => by
    by_cases h10 : u < 10
    · rw [Lib.nDigits_small h10]; omega
    · rw [Lib.nDigits_big h10]
      have := nDig_le k (u / 10) (by rw [Nat.pow_succ] at h; omega)
      omega
theorem parseN_eq (l : List UInt8) : parseN l = readN l := by
  by_cases h45 : l.head? = some 45
  · have hr : readN l = (0, false) := by
      unfold readN
      by_cases h : (readL l 6).2 = false ∨ (readL l 6).1 < 0
      · rw [if_pos h]
      · exfalso
        apply h
        rw [readL, if_pos h45]
        split
        · exact .inl rfl
        · split
          · split
            · rename_i h1 h2 h3
              rcases Nat.eq_zero_or_pos (numVal l.tail) with hz | hp
              · rw [hz] at h3
                have e0 := itoa_z
                rw [e0] at h3
                rw [← h3] at h45; cases h45
              · exact .inr (by simp only; omega)
            · exact .inl rfl
          · exact .inl rfl
    rw [hr, parseN, numIn_45 h45]
  · rw [readN, readL_pos h45 (by omega), parseN]
    by_cases hc : l.length = 0 ∨ 12 < l.length ∨ 1 < l.length ∧ l.head? = some 48
    · rw [numIn_no (.inl hc), numIn_no (.inl hc)]; simp
    · by_cases hd : l.all isDig = true
      · have hb : numVal l < 10 ^ 12 := numVal_b hd (by omega)
        rw [numIn_yes (m := 999999999999) hc hd (by omega)]
        have hcan := canon hd (by intro e; subst e; simp at hc) (by
          rcases Nat.lt_or_ge 1 l.length with h | h
          · exact .inr (fun e => hc (.inr (.inr ⟨h, e⟩)))
          · exact .inl (by omega))
        have hlen : Lib.nDigits (numVal l) = l.length := by rw [← Lib.decDigits_length, hcan]
        by_cases h6 : l.length ≤ 6
        · have hb6 : numVal l < 10 ^ 6 := numVal_b hd h6
          have e : (if ((numVal l : Int), true).2 = true ∧ (l.length : Int) ≤ 6 then ((numVal l : Int), true) else (0, false)) = ((numVal l : Int), true) := if_pos ⟨rfl, by omega⟩
          rw [numIn_yes hc hd (by omega), e, if_neg (by simp)]
        · have : ¬ numVal l < 10 ^ (5 + 1) := fun h => by have := nDig_le 5 _ h; omega
          have e : (if ((numVal l : Int), true).2 = true ∧ (l.length : Int) ≤ 6 then ((numVal l : Int), true) else (0, false)) = (0, false) := if_neg (by intro h; have := h.2; omega)
          rw [e, if_pos (.inl rfl), numIn, if_neg hc, if_pos hd, if_pos (by omega)]
      · have hd' : l.all isDig = false := by simpa using hd
        rw [numIn_no (.inr hd'), numIn_no (.inr hd')]; simp
end Go.Proofs.Ytljblaglfooclaa

namespace Go.Proofs.Ytljblaglfooclaa

/-- The parts of m behind the part cur that has begun. -/
def splitG (by_ : UInt8) : List UInt8 → List UInt8 → List (List UInt8)
  | cur, [] => [cur]
  | cur, b :: r => if b = by_ then cur :: splitG by_ [] r else splitG by_ (cur ++ [b]) r
def splitL (by_ : UInt8) (l : List UInt8) : List (List UInt8) := splitG by_ [] l
def mkT (l : List UInt8) : ByteArray := ⟨l.toArray⟩
/-- The parts of a text between the occurrences of a byte. -/
def splitT (by_ : UInt8) (s : ByteArray) : List ByteArray := (splitL by_ s.data.toList).map mkT
theorem splitG_nil (by_ : UInt8) (cur : List UInt8) : splitG by_ cur [] = [cur] := rfl
theorem splitG_yes {by_ : UInt8} {cur : List UInt8} {b : UInt8} {r : List UInt8} (h : b = by_) : splitG by_ cur (b :: r) = cur :: splitG by_ [] r := if_pos h
theorem splitG_no {by_ : UInt8} {cur : List UInt8} {b : UInt8} {r : List UInt8} (h : ¬ b = by_) : splitG by_ cur (b :: r) = splitG by_ (cur ++ [b]) r := if_neg h
/-- What is done at index i, the part having begun at index a. -/
def SpR (by_ : UInt8) (s : ByteArray) (a i : Nat) (acc : List ByteArray) : Prop := splitT by_ s = acc ++ (splitG by_ ((s.data.toList.drop a).take (i - a)) (s.data.toList.drop i)).map mkT
theorem SpR.start (by_ : UInt8) (s : ByteArray) : SpR by_ s 0 0 [] := by simp [SpR, splitT, splitL]
theorem ext_mk (s : ByteArray) (a i : Nat) : mkT ((s.data.toList.drop a).take (i - a)) = s.extract a i := by
  rw [mkT, Lib.extract_eq]
theorem seg_more (s : ByteArray) {a i : Nat} (ha : a ≤ i) (hi : i < s.size) : (s.data.toList.drop a).take (i + 1 - a) = (s.data.toList.drop a).take (i - a) ++ [s[i]] := by
  rw [show i + 1 - a = (i - a) + 1 from by omega, List.take_succ_eq_append_getElem (by simp; omega)]
  congr 2
  rw [List.getElem_drop]
  show s.data.toList[a + (i - a)]'_ = s.data.toList[i]'_
  congr 1
  omega
theorem SpR.no {by_ : UInt8} {s : ByteArray} {a i : Nat} {acc : List ByteArray} (h : SpR by_ s a i acc) (ha : a ≤ i) (hi : i < s.size) (hb : ¬ s[i] = by_) : SpR by_ s a (i + 1) acc := by
  unfold SpR at *
  have hb' : ¬ s.data.toList[i]'(by simpa using hi) = by_ := hb
  rw [h, List.drop_eq_getElem_cons (i := i) (by simpa using hi), splitG_no hb', seg_more s ha hi]; rfl
theorem SpR.yes {by_ : UInt8} {s : ByteArray} {a i : Nat} {acc : List ByteArray} (h : SpR by_ s a i acc) (hi : i < s.size) (hb : s[i] = by_) : SpR by_ s (i + 1) (i + 1) (acc ++ [s.extract a i]) := by
  unfold SpR at *
  have hb' : s.data.toList[i]'(by simpa using hi) = by_ := hb
  rw [h, List.drop_eq_getElem_cons (i := i) (by simpa using hi), splitG_yes hb', List.map_cons, ext_mk]; simp
theorem SpR.done {by_ : UInt8} {s : ByteArray} {a : Nat} {acc : List ByteArray} (h : SpR by_ s a s.size acc) : splitT by_ s = acc ++ [s.extract a s.size] := by
  unfold SpR at h
  rw [h, List.drop_of_length_le (l := s.data.toList) (i := s.size) (by simp), splitG_nil, List.map_cons, ext_mk]; rfl
theorem splitG_len (by_ : UInt8) : ∀ (r cur : List UInt8), (splitG by_ cur r).length ≤ r.length + 1
  | [], cur => by simp [splitG_nil]
  | b :: r, cur => by
    by_cases h : b = by_
    · rw [splitG_yes h]; have := splitG_len by_ r []; simp; omega
    · rw [splitG_no h]; have := splitG_len by_ r (cur ++ [b]); simp; omega
theorem splitT_len (by_ : UInt8) (s : ByteArray) : (splitT by_ s).length ≤ s.size + 1 := by
  have := splitG_len by_ s.data.toList []
  simpa [splitT, splitL] using this
theorem splitG_part (by_ : UInt8) : ∀ (r cur : List UInt8), ∀ x ∈ splitG by_ cur r, x.length ≤ cur.length + r.length
  | [], cur, x, hx => by
    rw [splitG_nil, List.mem_singleton] at hx
    subst hx; omega
  | b :: r, cur, x, hx => by
    by_cases h : b = by_
    · rw [splitG_yes h, List.mem_cons] at hx
      rcases hx with rfl | hx
      · omega
      · have := splitG_part by_ r [] x hx; simp at this ⊢; omega
    · rw [splitG_no h] at hx
      have := splitG_part by_ r (cur ++ [b]) x hx
      simp at this ⊢; omega
theorem splitT_part (by_ : UInt8) (s : ByteArray) : ∀ x ∈ splitT by_ s, x.size ≤ s.size := by
  intro x hx
  unfold splitT splitL at hx
  rw [List.mem_map] at hx
  obtain ⟨l, hl, rfl⟩ := hx
  have := splitG_part by_ s.data.toList [] l hl
  have e : (mkT l).size = l.length := by show l.toArray.size = _; simp
  have e2 : s.data.toList.length = s.size := rfl
  simp at this
  omega
end Go.Proofs.Ytljblaglfooclaa

namespace Go.Proofs.Ytljblaglfooclaa

theorem digit_of {d : Nat} (h : d < 10) : isDig (UInt8.ofNat (48 + d)) = true ∧ (UInt8.ofNat (48 + d)).toNat - 48 = d := by
  have e : (UInt8.ofNat (48 + d)).toNat = 48 + d := by simp; omega
  rw [isDig_iff', e]; omega
/-- The digits of a number are its digits. -/
theorem decDigits_val (m : Nat) : numVal (Lib.decDigits m) = m ∧ (Lib.decDigits m).all isDig = true := by
  induction m using Nat.strongRecOn with
  | _ m ih =>
    rw [Lib.decDigits]
    by_cases h10 : m < 10
    · rw [dif_pos h10]
      have := digit_of h10
      exact ⟨by simp only [numVal, List.foldl_cons, List.foldl_nil, Nat.zero_mul, Nat.zero_add]; exact this.2, by rw [List.all_cons, this.1]; rfl⟩
    · rw [dif_neg h10]
      have h1 := ih (m / 10) (by omega)
      have h2 := digit_of (d := m % 10) (by omega)
      exact ⟨by rw [numVal_snoc, h1.1, h2.2]; omega, by rw [List.all_append, h1.2, List.all_cons, h2.1]; rfl⟩
theorem nDigits_le {k u : Nat} (hk : 1 ≤ k) (h : u < 10 ^ k) : Lib.nDigits u ≤ k := by
  induction k generalizing u with
  | zero => omega
  | succ k ih =>
    by_cases h10 : u < 10
    · rw [Lib.nDigits_small h10]; omega
    · rw [Lib.nDigits_big h10]
      have : u / 10 < 10 ^ k := by rw [Nat.pow_succ] at h; omega
      have hk1 : 1 ≤ k := by
        rcases Nat.eq_zero_or_pos k with rfl | h0
        · simp at this; omega
        · exact h0
      have := ih hk1 this
      omega
theorem decDigits_len12 (m : Nat) : (Lib.decDigits m).length ≤ 12 ↔ m < 1000000000000 := by
  rw [Lib.decDigits_length]
  constructor
  · intro h
    have h1 := Lib.lt_pow_nDigits m
    exact Nat.lt_of_lt_of_le h1 (Nat.pow_le_pow_right (n := 10) (by omega) h)
  · intro h; exact nDigits_le (k := 12) (by omega) h
theorem numIn_dec (m : Nat) : numIn (Lib.decDigits m) 999999999999 = if m ≤ 999999999999 then ((m : Int), true) else (0, false) := by
  have hp : 1 ≤ (Lib.decDigits m).length := by rw [Lib.decDigits_length]; exact Lib.nDigits_pos m
  have hl := decDigits_len12 m
  obtain ⟨hv, hd⟩ := decDigits_val m
  by_cases h : m ≤ 999999999999
  · rw [if_pos h]
    have h1 : ¬ ((Lib.decDigits m).length = 0 ∨ 12 < (Lib.decDigits m).length ∨ 1 < (Lib.decDigits m).length ∧ (Lib.decDigits m).head? = some 48) := by
      rintro (h0 | h0 | ⟨h0, h2⟩)
      · omega
      · have := hl.2 (by omega); omega
      · exact not_canon h0 h2 m rfl
    rw [numIn_yes h1 hd (by rw [hv]; omega), hv]
  · rw [if_neg h]
    unfold numIn
    rw [if_pos (.inr (.inl (by
      rcases Nat.lt_or_ge 12 (Lib.decDigits m).length with h0 | h0
      · exact h0
      · have := hl.1 h0; omega)))]
/-- The decimal form of a number is read again. -/
theorem parse_itoa (n : Int) : parseI (Lib.itoa n) = if -999999999999 ≤ n ∧ n ≤ 999999999999 then (n, true) else ((parseI (Lib.itoa n)).1, false) := by
  rcases Int.lt_or_le n 0 with hn | hn
  · obtain ⟨m, rfl⟩ : ∃ m : Nat, n = -(m : Int) := ⟨(-n).toNat, by omega⟩
    have h0 : 0 < m := by omega
    have e : Lib.itoa (-(m : Int)) = 45 :: Lib.decDigits m := itoa_neg h0
    have hne : (Lib.decDigits m).head? ≠ some 48 := by
      intro hh
      by_cases h1 : 1 < (Lib.decDigits m).length
      · exact not_canon h1 hh m rfl
      · have hp : 1 ≤ (Lib.decDigits m).length := by rw [Lib.decDigits_length]; exact Lib.nDigits_pos m
        cases hd : Lib.decDigits m with
        | nil => rw [hd] at hp; simp at hp
        | cons a t =>
          rw [hd] at hh h1
          have ha : a = 48 := by simpa using hh
          have ht : t = [] := by
            cases t with
            | nil => rfl
            | cons b t => simp at h1
          have hv := (decDigits_val m).1
          rw [hd, ha, ht] at hv
          have : numVal [48] = 0 := rfl
          omega
    have h45 : (45 :: Lib.decDigits m)[1]? ≠ some 48 := by
      rw [List.getElem?_cons_succ, ← List.head?_eq_getElem?]; exact hne
    have hp : 1 < (45 :: Lib.decDigits m).length := by
      have : 1 ≤ (Lib.decDigits m).length := by rw [Lib.decDigits_length]; exact Lib.nDigits_pos m
      simp; omega
    have hE : parseI (Lib.itoa (-(m : Int))) = (-(numIn (Lib.decDigits m) 999999999999).1, (numIn (Lib.decDigits m) 999999999999).2) := by
      rw [e]; unfold parseI
      rw [if_pos ⟨hp, rfl, h45⟩]; rfl
    rw [hE, numIn_dec]
    by_cases h : m ≤ 999999999999
    · rw [if_pos h, if_pos (by omega)]
    · rw [if_neg h, if_neg (by omega)]
  · obtain ⟨m, rfl⟩ : ∃ m : Nat, n = (m : Int) := ⟨n.toNat, by omega⟩
    have hE : parseI (Lib.itoa (m : Int)) = numIn (Lib.decDigits m) 999999999999 := by
      rw [itoa_pos]
      unfold parseI
      rw [if_neg (fun h => (decDigits_head m).1 h.2.1)]
    rw [hE, numIn_dec]
    by_cases h : m ≤ 999999999999
    · rw [if_pos h, if_pos (by omega)]
    · rw [if_neg h, if_neg (by omega)]
/-- The parts of a text, joined again. -/
theorem join_split (q : UInt8) : ∀ (r cur : List UInt8), Lib.join (splitG q cur r) [q] = cur ++ r
  | [], cur => by rw [splitG_nil, Lib.join_one, List.append_nil]
  | b :: r, cur => by
    by_cases h : b = q
    · rw [splitG_yes h, Lib.join_cons]
      have ih := join_split q r []
      have hne : ∃ x xs, splitG q [] r = x :: xs := by
        cases r with
        | nil => exact ⟨_, _, splitG_nil q []⟩
        | cons c r =>
          by_cases hc : c = q
          · exact ⟨_, _, splitG_yes hc⟩
          · have : ∀ (r cur : List UInt8), splitG q cur r ≠ [] := by
              intro r
              induction r with
              | nil => intro cur; simp [splitG_nil]
              | cons a r ih =>
                intro cur
                by_cases ha : a = q
                · rw [splitG_yes ha]; simp
                · rw [splitG_no ha]; exact ih _
            cases hs : splitG q [] (c :: r) with
            | nil => exact absurd hs (this _ _)
            | cons x xs => exact ⟨x, xs, rfl⟩
      obtain ⟨x, xs, hx⟩ := hne
      rw [hx] at ih ⊢
      rw [Lib.join_cons] at ih
      have : Lib.joinTail [q] (x :: xs) = [q] ++ (x ++ Lib.joinTail [q] xs) := by simp [Lib.joinTail]
      rw [this, ih, h]; rfl
    · rw [splitG_no h, join_split q r (cur ++ [b])]; simp
end Go.Proofs.Ytljblaglfooclaa

namespace Go.Proofs.Ytljblaglfooclaa

/-- The value of a hexadecimal digit, if it is one. -/
def hexV (x : UInt8) : Option Nat := if 48 ≤ x.toNat ∧ x.toNat ≤ 57 then some (x.toNat - 48) else if 97 ≤ x.toNat ∧ x.toNat ≤ 102 then some (x.toNat - 87) else none
/-- No byte of a literal's text, as it stands. -/
def badB (q x : UInt8) : Bool := decide (x.toNat < 32) || decide (126 < x.toNat) || x == q
/-- The value of two hexadecimal digits, if more follows. -/
def hexP (r : List UInt8) : Option Nat :=
  match r with
  | h1 :: h2 :: _ :: _ => (match hexV h1, hexV h2 with
    | some a, some b => some (a * 16 + b)
    | _, _ => none)
  | _ => none
/-- What the rest of a literal denotes; its last byte is the closing sign. -/
def unqI (q : UInt8) (m : List UInt8) : Option (List UInt8) :=
  match m with
  | [] => some []
  | [_] => some []
  | b :: c :: r =>
    if b = 92 then
      (if r = [] then none
       else if c = 110 then (unqI q r).map (10 :: ·)
       else if c = 116 then (unqI q r).map (9 :: ·)
       else if c = 92 ∨ c = 34 ∨ c = 39 then (unqI q r).map (c :: ·)
       else if c = 120 then
         (hexP r).bind fun v => (unqI q (r.drop 2)).map (UInt8.ofNat v :: ·)
       else none)
    else if badB q b then none else (unqI q (c :: r)).map (b :: ·)
termination_by m.length
decreasing_by all_goals (simp; try omega)
/-- How many bytes a literal has behind its first. -/
def endN (q : UInt8) (m : List UInt8) : Option Nat :=
  match m with
  | [] => none
  | b :: r => if b = q then some 1 else if b.toNat < 32 ∨ 126 < b.toNat then none else if b = 92 then (endN q (r.drop 1)).map (· + 2) else (endN q r).map (· + 1)
termination_by m.length
decreasing_by
  · simp; omega
  · simp
def okQ (q : UInt8) : Prop := q = 34 ∨ q = 39
theorem okQ_ne {q : UInt8} (h : okQ q) : q ≠ 92 ∧ 32 ≤ q.toNat ∧ q.toNat ≤ 126 := by rcases h with rfl | rfl <;> decide
theorem hexV_bd {x : UInt8} {v : Nat} (h : hexV x = some v) : v < 16 ∧ 48 ≤ x.toNat ∧ x.toNat ≤ 102 ∧ x.toNat ≠ 92 := by
  unfold hexV at h
  split at h
  · cases h; omega
  · split at h
    · cases h; omega
    · cases h
theorem hex_end {q x : UInt8} (hq : okQ q) {v : Nat} (h : hexV x = some v) (r : List UInt8) : endN q (x :: r) = (endN q r).map (· + 1) := by
  have := hexV_bd h
  have h1 : x ≠ q := by rintro rfl; rcases hq with rfl | rfl <;> simp_all
  have h2 : x ≠ 92 := by rintro rfl; simp_all
  rw [endN, if_neg h1, if_neg (by omega), if_neg h2]
theorem hexP_some {r : List UInt8} {v : Nat} (h : hexP r = some v) : ∃ h1 h2 z r2, r = h1 :: h2 :: z :: r2 ∧ ∃ a b, hexV h1 = some a ∧ hexV h2 = some b ∧ v = a * 16 + b := by
  match r, h with
  | h1 :: h2 :: z :: r2, h =>
    refine ⟨h1, h2, z, r2, rfl, ?_⟩
    cases e1 : hexV h1 with
    | none => simp [hexP, e1] at h
    | some a =>
      cases e2 : hexV h2 with
      | none => simp [hexP, e1, e2] at h
      | some b => exact ⟨a, b, rfl, rfl, by simp [hexP, e1, e2] at h; exact h.symm⟩
theorem map_eq_len {o : Option Nat} {n k : Nat} : o.map (· + k) = some (n + k) ↔ o = some n := by
  cases o <;> simp
theorem endN_nil (q : UInt8) : endN q [] = none := by rw [endN]
theorem endN_le (q : UInt8) : ∀ (n : Nat) (m : List UInt8), m.length ≤ n → ∀ j, endN q m = some j → 1 ≤ j ∧ j ≤ m.length := by
  intro n
  induction n with
  | zero =>
    intro m hm j h
    have : m = [] := List.eq_nil_of_length_eq_zero (by omega)
    subst this; rw [endN_nil] at h; cases h
  | succ n ih =>
    intro m hm j h
    cases m with
    | nil => rw [endN_nil] at h; cases h
    | cons b r =>
      rw [endN] at h
      split at h
      · cases h; simp
      · split at h
        · cases h
        · split at h
          · cases he : endN q (r.drop 1) with
            | none => rw [he] at h; cases h
            | some i =>
              rw [he] at h; cases h
              have := ih _ (by simp at hm ⊢; omega) i he
              simp at this hm ⊢; omega
          · cases he : endN q r with
            | none => rw [he] at h; cases h
            | some i =>
              rw [he] at h; cases h
              have := ih _ (by simp at hm ⊢; omega) i he
              simp at this hm ⊢; omega
/-- A literal that ends with its last byte ends with its sign. -/
theorem end_last {q : UInt8} : ∀ (n : Nat) (m : List UInt8), m.length ≤ n → endN q m = some m.length → m.getLast? = some q := by
  intro n
  induction n with
  | zero =>
    intro m hm h
    have : m = [] := List.eq_nil_of_length_eq_zero (by omega)
    subst this; rw [endN_nil] at h; cases h
  | succ n ih =>
    intro m hm h
    cases m with
    | nil => rw [endN_nil] at h; cases h
    | cons b r =>
      rw [endN] at h
      split at h
      · rename_i hb
        have : r = [] := by cases r with | nil => rfl | cons _ _ => simp at h
        subst this; subst hb; rfl
      · split at h
        · cases h
        · split at h
          · cases r with
            | nil => simp [endN_nil] at h
            | cons c r =>
              simp only [List.drop_one, List.tail_cons, List.length_cons] at h
              rw [map_eq_len (k := 2) (n := r.length)] at h
              have := ih r (by simp at hm; omega) h
              cases r with
              | nil => cases this
              | cons d r => simpa using this
          · simp only [List.length_cons] at h
            rw [map_eq_len] at h
            have := ih r (by simp at hm; omega) h
            cases r with
            | nil => cases this
            | cons d r => simpa using this
/-- A literal that does not end with its last byte denotes nothing. -/
theorem end_none {q : UInt8} (hq : okQ q) : ∀ (n : Nat) (m : List UInt8), m.length ≤ n → m.getLast? = some q → endN q m ≠ some m.length → unqI q m = none := by
  intro n
  induction n with
  | zero =>
    intro m hm h _
    have : m = [] := List.eq_nil_of_length_eq_zero (by omega)
    subst this; cases h
  | succ n ih =>
    intro m hm h he
    match m, hm, h, he with
    | [], _, h, _ => cases h
    | [b], _, h, he =>
      have : b = q := by simpa using h
      subst this
      rw [endN, if_pos rfl] at he; exact absurd rfl he
    | b :: c :: r, hm, h, he =>
      rw [unqI]
      by_cases hb : b = 92
      · rw [if_pos hb]
        by_cases hr : r = []
        · rw [if_pos hr]
        · rw [if_neg hr]
          have hne : b ≠ q := by rw [hb]; exact fun e => (okQ_ne hq).1 e.symm
          have hrl : r.getLast? = some q := by cases r with | nil => exact absurd rfl hr | cons _ _ => simpa using h
          have he2 : endN q r ≠ some r.length := by
            intro e
            apply he
            rw [endN, if_neg hne, if_neg (by subst hb; decide), if_pos hb]
            simp [e]
          have hn : unqI q r = none := ih r (by simp at hm; omega) hrl he2
          rw [hn]
          simp only [Option.map_none]
          split
          · rfl
          · split
            · rfl
            · split
              · rfl
              · split
                · cases hp : hexP r with
                  | none => rfl
                  | some v =>
                    obtain ⟨h1, h2, z, r2, rfl, a, d, e1, e2, _⟩ := hexP_some hp
                    simp only [Option.bind_some, List.drop_succ_cons, List.drop_zero]
                    rw [ih (z :: r2) (by simp at hm ⊢; omega) (by simpa using hrl) (by
                      intro e
                      apply he2
                      rw [hex_end hq e1, hex_end hq e2, e]; simp)]
                    rfl
                · rfl
      · rw [if_neg hb]
        by_cases hbad : badB q b = true
        · rw [if_pos hbad]
        · rw [if_neg hbad]
          have hb2 : ¬ (b.toNat < 32 ∨ 126 < b.toNat) ∧ b ≠ q := by
            simp only [badB, Bool.or_eq_true, decide_eq_true_eq, beq_iff_eq, not_or] at hbad
            exact ⟨by omega, hbad.2⟩
          rw [ih (c :: r) (by simp at hm ⊢; omega) (by simpa using h) (by
            intro e
            apply he
            rw [endN, if_neg hb2.2, if_neg hb2.1, if_neg hb, e]; simp)]
          rfl
/-- What a literal denotes. -/
def unqL (q : UInt8) (l : List UInt8) : Option (List UInt8) := if l.length < 2 ∨ l.head? ≠ some q ∨ l.getLast? ≠ some q then none else unqI q (l.drop 1)
theorem getLast_drop {l : List UInt8} (h : 2 ≤ l.length) : (l.drop 1).getLast? = l.getLast? := by
  match l, h with
  | a :: b :: r, _ => simp
theorem unqL_end {q : UInt8} (hq : okQ q) (l : List UInt8) : unqL q l = if l.length < 2 ∨ l.head? ≠ some q ∨ endN q (l.drop 1) ≠ some (l.drop 1).length then none else unqI q (l.drop 1) := by
  unfold unqL
  by_cases h1 : l.length < 2
  · rw [if_pos (.inl h1), if_pos (.inl h1)]
  · by_cases h2 : l.head? ≠ some q
    · rw [if_pos (.inr (.inl h2)), if_pos (.inr (.inl h2))]
    · by_cases h3 : endN q (l.drop 1) = some (l.drop 1).length
      · have := end_last (l.drop 1).length _ (Nat.le_refl _) h3
        rw [getLast_drop (by omega)] at this
        rw [if_neg (by rintro (h | h | h); exact h1 h; exact h2 h; exact h this), if_neg (by rintro (h | h | h); exact h1 h; exact h2 h; exact h h3)]
      · have e2 : (if l.length < 2 ∨ l.head? ≠ some q ∨ endN q (l.drop 1) ≠ some (l.drop 1).length then none else unqI q (l.drop 1)) = none := if_pos (.inr (.inr h3))
        rw [e2]
        by_cases h4 : l.getLast? = some q
        · rw [if_neg (by rintro (h | h | h); exact h1 h; exact h2 h; exact h h4), end_none hq _ _ (Nat.le_refl _) (by rw [getLast_drop (by omega)]; exact h4) h3]
        · rw [if_pos (.inr (.inr h4))]
theorem unqI_len (q : UInt8) : ∀ (n : Nat) (m r : List UInt8), m.length ≤ n → unqI q m = some r → r.length ≤ m.length := by
  intro n
  induction n with
  | zero =>
    intro m r hm h
    obtain rfl : m = [] := List.length_eq_zero_iff.1 (by omega)
    simp [unqI] at h
    subst h
    simp
  | succ n ih =>
    intro m r hm h
    have rec1 : ∀ (m' : List UInt8) (x : UInt8), m'.length + 1 ≤ m.length → (unqI q m').map (x :: ·) = some r → r.length ≤ m.length := by
      intro m' x hl hx
      rw [Option.map_eq_some_iff] at hx
      obtain ⟨r', h1, rfl⟩ := hx
      have := ih m' r' (by omega) h1
      simp; omega
    rw [unqI.eq_def] at h
    split at h
    · simp at h; subst h; simp
    · simp at h; subst h; simp
    · split at h
      · split at h
        · simp at h
        · split at h
          · exact rec1 _ _ (by simp) h
          · split at h
            · exact rec1 _ _ (by simp) h
            · split at h
              · exact rec1 _ _ (by simp) h
              · split at h
                · rw [Option.bind_eq_some_iff] at h
                  obtain ⟨v, _, h⟩ := h
                  exact rec1 _ _ (by simp; omega) h
                · simp at h
      · split at h
        · simp at h
        · exact rec1 _ _ (by simp) h
theorem unqL_len {q : UInt8} {l r : List UInt8} (h : unqL q l = some r) : r.length ≤ l.length := by
  unfold unqL at h
  split at h
  · simp at h
  · have := unqI_len q _ _ _ (Nat.le_refl _) h
    simp at this; omega
end Go.Proofs.Ytljblaglfooclaa

namespace Go.Proofs.Ytljblaglfooclaa

theorem hexV_hexD : ∀ n, n < 16 → hexV (hexD n) = some n := by decide
theorem unqI_one (q b : UInt8) : unqI q [b] = some [] := by rw [unqI]
theorem unqI_esc (q c : UInt8) (r : List UInt8) (hr : r ≠ []) : unqI q (92 :: c :: r) = (if c = 110 then (unqI q r).map (10 :: ·)
       else if c = 116 then (unqI q r).map (9 :: ·)
       else if c = 92 ∨ c = 34 ∨ c = 39 then (unqI q r).map (c :: ·)
       else if c = 120 then (hexP r).bind fun v => (unqI q (r.drop 2)).map (UInt8.ofNat v :: ·)
       else none) := by
  rw [unqI, if_pos rfl, if_neg hr]
theorem unqI_bare {q b : UInt8} (c : UInt8) (r : List UInt8) (h1 : b ≠ 92) (h2 : badB q b = false) : unqI q (b :: c :: r) = (unqI q (c :: r)).map (b :: ·) := by
  rw [unqI, if_neg h1, h2]; rfl
theorem hexP_three {a b : UInt8} {r : List UInt8} (hr : r ≠ []) {x y : Nat} (h1 : hexV a = some x) (h2 : hexV b = some y) : hexP (a :: b :: r) = some (x * 16 + y) := by
  cases r with
  | nil => exact absurd rfl hr
  | cons z r => simp [hexP, h1, h2]
theorem unqI_escL {q : UInt8} (hq : okQ q) : ∀ l : List UInt8, unqI q (escL q l ++ [q]) = some l
  | [] => by simp [escL, unqI_one]
  | b :: l => by
    have ih := unqI_escL hq l
    have hr : escL q l ++ [q] ≠ [] := by simp
    obtain ⟨hq1, hq2, hq3⟩ := okQ_ne hq
    have e0 : escL q (b :: l) ++ [q] = escB q b ++ (escL q l ++ [q]) := by simp [escL]
    rw [e0]
    generalize escL q l ++ [q] = r at ih hr
    have hb := b.toNat_lt
    unfold escB
    split
    · rename_i h
      rw [List.cons_append, List.cons_append, List.nil_append, unqI_esc _ _ _ hr]
      have h1 : b ≠ 110 ∧ b ≠ 116 ∧ (b = 92 ∨ b = 34 ∨ b = 39) := by
        rcases h with rfl | rfl
        · rcases hq with rfl | rfl <;> decide
        · decide
      rw [if_neg h1.1, if_neg h1.2.1, if_pos h1.2.2, ih]; rfl
    · rename_i h
      split
      · rename_i h1
        rw [List.cons_append, List.cons_append, List.nil_append, unqI_esc _ _ _ hr, if_pos rfl, ih, h1]; rfl
      · split
        · rename_i h1
          rw [List.cons_append, List.cons_append, List.nil_append, unqI_esc _ _ _ hr, if_neg (by decide), if_pos rfl, ih, h1]; rfl
        · split
          · simp only [List.cons_append, List.nil_append]
            rw [unqI_esc _ _ _ (by simp), if_neg (by decide), if_neg (by decide), if_neg (by decide), if_pos rfl,
              hexP_three hr (hexV_hexD _ (by omega)) (hexV_hexD _ (by omega))]
            show (unqI q r).map (UInt8.ofNat (b.toNat / 16 * 16 + b.toNat % 16) :: ·) = _
            rw [ih, show b.toNat / 16 * 16 + b.toNat % 16 = b.toNat by omega, UInt8.ofNat_toNat]; rfl
          · rename_i h1
            rw [List.cons_append, List.nil_append]
            obtain ⟨c, r, rfl⟩ : ∃ c r', r = c :: r' := by
              cases r with
              | nil => exact absurd rfl hr
              | cons c r' => exact ⟨c, r', rfl⟩
            have h2 : b ≠ 92 ∧ b ≠ q := ⟨fun e => h (.inr e), fun e => h (.inl e)⟩
            have h3 : badB q b = false := by
              simp only [badB, Bool.or_eq_false_iff, decide_eq_false_iff_not, beq_eq_false_iff_ne]
              exact ⟨⟨fun e => h1 (.inl e), fun e => h1 (.inr e)⟩, h2.2⟩
            rw [unqI_bare _ _ h2.1 h3, ih]; rfl
/-- A quoted text denotes what was quoted. -/
theorem unqL_quote {q : UInt8} (hq : okQ q) (l : List UInt8) : unqL q (quoteL q l) = some l := by
  have h1 : (quoteL q l).length ≥ 2 := by simp [quoteL]
  have h2 : (quoteL q l).head? = some q := rfl
  have h3 : (quoteL q l).getLast? = some q := by
    rw [quoteL, ← List.cons_append, List.getLast?_append]; rfl
  rw [unqL, if_neg (by rw [h2, h3]; simp; omega)]
  exact unqI_escL hq l
theorem quoteL_len (q : UInt8) (l : List UInt8) : (quoteL q l).length ≤ 4 * l.length + 2 := by
  have := escL_len q l
  simp [quoteL]; omega
end Go.Proofs.Ytljblaglfooclaa
