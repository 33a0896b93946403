/- Proved here: plain facts on lists of bytes: the letters of a set, quoting, decimal digits. No condition; nothing of the program is named. -/
import Derived.Lib.ItoaNum
import Derived.Laws.BitsLemmas
namespace Go.Proofs.YtljblaglfooclaaDoor

theorem rev_ind {α : Type} {P : List α → Prop} (h0 : P []) (h1 : ∀ l b, P l → P (l ++ [b])) (l : List α) : P l := by
  have : ∀ l : List α, P l.reverse := fun l => by
    induction l with
    | nil => simpa using h0
    | cons a l ih => simpa using h1 _ a ih
  simpa using this l.reverse

/-! ### quoting -/
def hexD (n : Nat) : UInt8 := if n < 10 then UInt8.ofNat (48 + n) else UInt8.ofNat (87 + n)
def escB (q b : UInt8) : List UInt8 :=
  if b = q ∨ b = 92 then [92, b] else if b = 10 then [92, 110] else if b = 9 then [92, 116]
  else if b.toNat < 32 ∨ 126 < b.toNat then [92, 120, hexD (b.toNat / 16), hexD (b.toNat % 16)] else [b]
def escL (q : UInt8) (l : List UInt8) : List UInt8 := l.flatMap (escB q)
def quoteL (q : UInt8) (l : List UInt8) : List UInt8 := q :: (escL q l ++ [q])
theorem escB_len (q b : UInt8) : (escB q b).length ≤ 4 := by unfold escB; repeat' (first | split | simp)
theorem escL_snoc (q : UInt8) (l : List UInt8) (b : UInt8) : escL q (l ++ [b]) = escL q l ++ escB q b := by simp [escL]
theorem escL_len (q : UInt8) : ∀ l : List UInt8, (escL q l).length ≤ 4 * l.length
  | [] => by simp [escL]
  | b :: l => by
    have h := escL_len q l
    have h2 := escB_len q b
    simp only [escL, List.flatMap_cons, List.length_append, List.length_cons] at h ⊢
    omega

/-! ### decimal digits -/
def isDig (b : UInt8) : Bool := decide (48 ≤ b.toNat) && decide (b.toNat ≤ 57)
/-- The number that a row of digits is. -/
def numVal (l : List UInt8) : Nat := l.foldl (fun n b => n * 10 + (b.toNat - 48)) 0
theorem numVal_snoc (l : List UInt8) (b : UInt8) : numVal (l ++ [b]) = numVal l * 10 + (b.toNat - 48) := by simp [numVal]
theorem numVal_lt (l : List UInt8) : (∀ b ∈ l, isDig b = true) → numVal l < 10 ^ l.length := by
  refine rev_ind (P := fun l => (∀ b ∈ l, isDig b = true) → numVal l < 10 ^ l.length) ?_ ?_ l
  · intro _; simp [numVal]
  · intro l b ih h
    have h1 := ih (fun x hx => h x (by simp [hx]))
    have h2 := h b (by simp)
    simp only [isDig, Bool.and_eq_true, decide_eq_true_eq] at h2
    rw [numVal_snoc, List.length_append]
    simp only [List.length_cons, List.length_nil, Nat.zero_add, Nat.pow_succ]
    omega

/-! ### letters and digits -/
/-- A letter; a digit. -/
def letB (x : UInt8) : Bool := decide ((97 ≤ x.toNat ∧ x.toNat ≤ 122) ∨ (65 ≤ x.toNat ∧ x.toNat ≤ 90) ∨ x.toNat = 95)
def digB (x : UInt8) : Bool := decide (48 ≤ x.toNat ∧ x.toNat ≤ 57)
end Go.Proofs.YtljblaglfooclaaDoor
