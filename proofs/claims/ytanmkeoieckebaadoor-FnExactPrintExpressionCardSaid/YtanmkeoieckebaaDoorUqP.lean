/- Proved here: plain facts on quoted literals: what they denote, and where they end. No condition; nothing of the program is named. -/
import Derived.Test.YtanmkeoieckebaaDoorPl
namespace Go.Proofs.YtanmkeoieckebaaDoor

/-- The value of a hexadecimal digit, if it is one. -/
def hexV (x : UInt8) : Option Nat := if 48 ≤ x.toNat ∧ x.toNat ≤ 57 then some (x.toNat - 48) else if 97 ≤ x.toNat ∧ x.toNat ≤ 102 then some (x.toNat - 87) else none
/-- No byte of a literal's text, as it stands. -/
def badB (q x : UInt8) : Bool := decide (x.toNat < 32) || decide (126 < x.toNat) || x == q
/-- The value of two hexadecimal digits, if more follows. -/
def hexP (r : List UInt8) : Option Nat :=
  match r with
  | h1 :: h2 :: _ :: _ => (match hexV h1, hexV h2 with
    | some a, some b => some (a * 16 + b)
    | _, _ => none)
  | _ => none
/-- What the rest of a literal denotes; its last byte is the closing sign. -/
def unqI (q : UInt8) (m : List UInt8) : Option (List UInt8) :=
  match m with
  | [] => some []
  | [_] => some []
  | b :: c :: r =>
    if b = 92 then
      (if r = [] then none
       else if c = 110 then (unqI q r).map (10 :: ·)
       else if c = 116 then (unqI q r).map (9 :: ·)
       else if c = 92 ∨ c = 34 ∨ c = 39 then (unqI q r).map (c :: ·)
       else if c = 120 then
         (hexP r).bind fun v => (unqI q (r.drop 2)).map (UInt8.ofNat v :: ·)
       else none)
    else if badB q b then none else (unqI q (c :: r)).map (b :: ·)
termination_by m.length
decreasing_by all_goals (simp; try omega)
/-- How many bytes a literal has behind its first. -/
def endN (q : UInt8) (m : List UInt8) : Option Nat :=
  match m with
  | [] => none
  | b :: r => if b = q then some 1 else if b.toNat < 32 ∨ 126 < b.toNat then none else if b = 92 then (endN q (r.drop 1)).map (· + 2) else (endN q r).map (· + 1)
termination_by m.length
decreasing_by
  · simp; omega
  · simp
def okQ (q : UInt8) : Prop := q = 34 ∨ q = 39
theorem okQ_ne {q : UInt8} (h : okQ q) : q ≠ 92 ∧ 32 ≤ q.toNat ∧ q.toNat ≤ 126 := by rcases h with rfl | rfl <;> decide
theorem hexV_bd {x : UInt8} {v : Nat} (h : hexV x = some v) : v < 16 ∧ 48 ≤ x.toNat ∧ x.toNat ≤ 102 ∧ x.toNat ≠ 92 := by
  unfold hexV at h
  split at h
  · cases h; omega
  · split at h
    · cases h; omega
    · cases h
theorem hex_end {q x : UInt8} (hq : okQ q) {v : Nat} (h : hexV x = some v) (r : List UInt8) : endN q (x :: r) = (endN q r).map (· + 1) := by
  have := hexV_bd h
  have h1 : x ≠ q := by rintro rfl; rcases hq with rfl | rfl <;> simp_all
  have h2 : x ≠ 92 := by rintro rfl; simp_all
  rw [endN, if_neg h1, if_neg (by omega), if_neg h2]
theorem hexP_some {r : List UInt8} {v : Nat} (h : hexP r = some v) : ∃ h1 h2 z r2, r = h1 :: h2 :: z :: r2 ∧ ∃ a b, hexV h1 = some a ∧ hexV h2 = some b ∧ v = a * 16 + b := by
  match r, h with
  | h1 :: h2 :: z :: r2, h =>
    refine ⟨h1, h2, z, r2, rfl, ?_⟩
    cases e1 : hexV h1 with
    | none => simp [hexP, e1] at h
    | some a =>
      cases e2 : hexV h2 with
      | none => simp [hexP, e1, e2] at h
      | some b => exact ⟨a, b, rfl, rfl, by simp [hexP, e1, e2] at h; exact h.symm⟩
theorem map_eq_len {o : Option Nat} {n k : Nat} : o.map (· + k) = some (n + k) ↔ o = some n := by
  cases o <;> simp
theorem endN_nil (q : UInt8) : endN q [] = none := by rw [endN]
theorem endN_le (q : UInt8) : ∀ (n : Nat) (m : List UInt8), m.length ≤ n → ∀ j, endN q m = some j → 1 ≤ j ∧ j ≤ m.length := by
  intro n
  induction n with
  | zero =>
    intro m hm j h
    have : m = [] := List.eq_nil_of_length_eq_zero (by omega)
    subst this; rw [endN_nil] at h; cases h
  | succ n ih =>
    intro m hm j h
    cases m with
    | nil => rw [endN_nil] at h; cases h
    | cons b r =>
      rw [endN] at h
      split at h
      · cases h; simp
      · split at h
        · cases h
        · split at h
          · cases he : endN q (r.drop 1) with
            | none => rw [he] at h; cases h
            | some i =>
              rw [he] at h; cases h
              have := ih _ (by simp at hm ⊢; omega) i he
              simp at this hm ⊢; omega
          · cases he : endN q r with
            | none => rw [he] at h; cases h
            | some i =>
              rw [he] at h; cases h
              have := ih _ (by simp at hm ⊢; omega) i he
              simp at this hm ⊢; omega
/-- A literal that ends with its last byte ends with its sign. -/
theorem end_last {q : UInt8} : ∀ (n : Nat) (m : List UInt8), m.length ≤ n → endN q m = some m.length → m.getLast? = some q := by
  intro n
  induction n with
  | zero =>
    intro m hm h
    have : m = [] := List.eq_nil_of_length_eq_zero (by omega)
    subst this; rw [endN_nil] at h; cases h
  | succ n ih =>
    intro m hm h
    cases m with
    | nil => rw [endN_nil] at h; cases h
    | cons b r =>
      rw [endN] at h
      split at h
      · rename_i hb
        have : r = [] := by cases r with | nil => rfl | cons _ _ => simp at h
        subst this; subst hb; rfl
      · split at h
        · cases h
        · split at h
          · cases r with
            | nil => simp [endN_nil] at h
            | cons c r =>
              simp only [List.drop_one, List.tail_cons, List.length_cons] at h
              rw [map_eq_len (k := 2) (n := r.length)] at h
              have := ih r (by simp at hm; omega) h
              cases r with
              | nil => cases this
              | cons d r => simpa using this
          · simp only [List.length_cons] at h
            rw [map_eq_len] at h
            have := ih r (by simp at hm; omega) h
            cases r with
            | nil => cases this
            | cons d r => simpa using this
/-- A literal that does not end with its last byte denotes nothing. -/
theorem end_none {q : UInt8} (hq : okQ q) : ∀ (n : Nat) (m : List UInt8), m.length ≤ n → m.getLast? = some q → endN q m ≠ some m.length → unqI q m = none := by
  intro n
  induction n with
  | zero =>
    intro m hm h _
    have : m = [] := List.eq_nil_of_length_eq_zero (by omega)
    subst this; cases h
  | succ n ih =>
    intro m hm h he
    match m, hm, h, he with
    | [], _, h, _ => cases h
    | [b], _, h, he =>
      have : b = q := by simpa using h
      subst this
      rw [endN, if_pos rfl] at he; exact absurd rfl he
    | b :: c :: r, hm, h, he =>
      rw [unqI]
      by_cases hb : b = 92
      · rw [if_pos hb]
        by_cases hr : r = []
        · rw [if_pos hr]
        · rw [if_neg hr]
          have hne : b ≠ q := by rw [hb]; exact fun e => (okQ_ne hq).1 e.symm
          have hrl : r.getLast? = some q := by cases r with | nil => exact absurd rfl hr | cons _ _ => simpa using h
          have he2 : endN q r ≠ some r.length := by
            intro e
            apply he
            rw [endN, if_neg hne, if_neg (by subst hb; decide), if_pos hb]
            simp [e]
          have hn : unqI q r = none := ih r (by simp at hm; omega) hrl he2
          rw [hn]
          simp only [Option.map_none]
          split
          · rfl
          · split
            · rfl
            · split
              · rfl
              · split
                · cases hp : hexP r with
                  | none => rfl
                  | some v =>
                    obtain ⟨h1, h2, z, r2, rfl, a, d, e1, e2, _⟩ := hexP_some hp
                    simp only [Option.bind_some, List.drop_succ_cons, List.drop_zero]
                    rw [ih (z :: r2) (by simp at hm ⊢; omega) (by simpa using hrl) (by
                      intro e
                      apply he2
                      rw [hex_end hq e1, hex_end hq e2, e]; simp)]
                    rfl
                · rfl
      · rw [if_neg hb]
        by_cases hbad : badB q b = true
        · rw [if_pos hbad]
        · rw [if_neg hbad]
          have hb2 : ¬ (b.toNat < 32 ∨ 126 < b.toNat) ∧ b ≠ q := by
            simp only [badB, Bool.or_eq_true, decide_eq_true_eq, beq_iff_eq, not_or] at hbad
            exact ⟨by omega, hbad.2⟩
          rw [ih (c :: r) (by simp at hm ⊢; omega) (by simpa using h) (by
            intro e
            apply he
            rw [endN, if_neg hb2.2, if_neg hb2.1, if_neg hb, e]; simp)]
          rfl
/-- What a literal denotes. -/
def unqL (q : UInt8) (l : List UInt8) : Option (List UInt8) := if l.length < 2 ∨ l.head? ≠ some q ∨ l.getLast? ≠ some q then none else unqI q (l.drop 1)
theorem getLast_drop {l : List UInt8} (h : 2 ≤ l.length) : (l.drop 1).getLast? = l.getLast? := by
  match l, h with
  | a :: b :: r, _ => simp
theorem unqL_end {q : UInt8} (hq : okQ q) (l : List UInt8) : unqL q l = if l.length < 2 ∨ l.head? ≠ some q ∨ endN q (l.drop 1) ≠ some (l.drop 1).length then none else unqI q (l.drop 1) := by
  unfold unqL
  by_cases h1 : l.length < 2
  · rw [if_pos (.inl h1), if_pos (.inl h1)]
  · by_cases h2 : l.head? ≠ some q
    · rw [if_pos (.inr (.inl h2)), if_pos (.inr (.inl h2))]
    · by_cases h3 : endN q (l.drop 1) = some (l.drop 1).length
      · have := end_last (l.drop 1).length _ (Nat.le_refl _) h3
        rw [getLast_drop (by omega)] at this
        rw [if_neg (by rintro (h | h | h); exact h1 h; exact h2 h; exact h this), if_neg (by rintro (h | h | h); exact h1 h; exact h2 h; exact h h3)]
      · have e2 : (if l.length < 2 ∨ l.head? ≠ some q ∨ endN q (l.drop 1) ≠ some (l.drop 1).length then none else unqI q (l.drop 1)) = none := if_pos (.inr (.inr h3))
        rw [e2]
        by_cases h4 : l.getLast? = some q
        · rw [if_neg (by rintro (h | h | h); exact h1 h; exact h2 h; exact h h4), end_none hq _ _ (Nat.le_refl _) (by rw [getLast_drop (by omega)]; exact h4) h3]
        · rw [if_pos (.inr (.inr h4))]
theorem unqI_len (q : UInt8) : ∀ (n : Nat) (m r : List UInt8), m.length ≤ n → unqI q m = some r → r.length ≤ m.length := by
  intro n
  induction n with
  | zero =>
    intro m r hm h
    obtain rfl : m = [] := List.length_eq_zero_iff.1 (by omega)
    simp [unqI] at h
    subst h
    simp
  | succ n ih =>
    intro m r hm h
    have rec1 : ∀ (m' : List UInt8) (x : UInt8), m'.length + 1 ≤ m.length → (unqI q m').map (x :: ·) = some r → r.length ≤ m.length := by
      intro m' x hl hx
      rw [Option.map_eq_some_iff] at hx
      obtain ⟨r', h1, rfl⟩ := hx
      have := ih m' r' (by omega) h1
      simp; omega
    rw [unqI.eq_def] at h
    split at h
    · simp at h; subst h; simp
    · simp at h; subst h; simp
    · split at h
      · split at h
        · simp at h
        · split at h
          · exact rec1 _ _ (by simp) h
          · split at h
            · exact rec1 _ _ (by simp) h
            · split at h
              · exact rec1 _ _ (by simp) h
              · split at h
                · rw [Option.bind_eq_some_iff] at h
                  obtain ⟨v, _, h⟩ := h
                  exact rec1 _ _ (by simp; omega) h
                · simp at h
      · split at h
        · simp at h
        · exact rec1 _ _ (by simp) h
theorem unqL_len {q : UInt8} {l r : List UInt8} (h : unqL q l = some r) : r.length ≤ l.length := by
  unfold unqL at h
  split at h
  · simp at h
  · have := unqI_len q _ _ _ (Nat.le_refl _) h
    simp at this; omega
end Go.Proofs.YtanmkeoieckebaaDoor
