/- Proved here: plain facts on the validity of trees: the count of kids, what a node must be, validity with and without a depth. No condition; nothing of the program is named. -/
import Derived.Test.YtljblaglfooclaaGreatDoorXp
namespace Go.Proofs.YtljblaglfooclaaGreatDoor
namespace X

/-- The least count of kids, and the greatest, by kind. -/
def kidsR (k : Int) : Nat × Nat :=
  if k = 6 then (0, 8) else if k = 7 ∨ k = 13 ∨ k = 19 ∨ k = 26 ∨ k = 27 then (1, 1) else if k = 8 ∨ k = 11 then (2, 2) else if k = 9 ∨ k = 15 then (2, 3)
  else if k = 10 then (1, 9) else if k = 12 then (3, 3) else if k = 14 then (0, 24) else if k = 16 ∨ k = 17 ∨ k = 18 then (1, 2) else if k = 20 then (1, 14)
  else if k = 21 ∨ k = 24 then (0, 1) else if k = 22 then (0, 2) else if k = 29 then (2, 8) else (0, 0)
theorem kidsR_hi (k : Int) : (kidsR k).2 ≤ 24 := by
  unfold kidsR
  repeat' split
  all_goals decide
/-- The number of a node fits its kind. -/
def numOk (k n : Int) (len : Nat) : Bool :=
  if k = 1 then decide (0 ≤ n ∧ n ≤ 999999999999) else if k = 20 then decide ((n = 0 ∨ n = 1) ∧ 1 + n ≤ (len : Int) ∧ ((len : Int) - 1 - n) % 2 = 0) else decide (n = 0)
variable (W : Int → ByteArray → Bool)
/-- A node is as it must be, its kids aside. -/
def okNode (k : Int) (t : ByteArray) (n l : Int) (len : Nat) : Bool :=
  decide (1 ≤ k ∧ k ≤ 29 ∧ (kidsR k).1 ≤ len ∧ len ≤ (kidsR k).2 ∧ 0 ≤ l) && (W k t && numOk k n len)
mutual
/-- A valid tree. -/
def vld : X → Bool | .mk k t n l r => okNode W k t n l r.length && vldL r
def vldL : List X → Bool | [] => true | x :: r => vld x && vldL r
end
mutual
/-- A valid tree whose root has a depth d, and no node a depth above 40. -/
def vldD : X → Nat → Bool | .mk k t n l r, d => (decide (d ≤ 40) && okNode W k t n l r.length) && vldDL r (d + 1)
def vldDL : List X → Nat → Bool | [], _ => true | x :: r, d => vldD x d && vldDL r d
end
theorem dep_pos : ∀ x : X, 1 ≤ dep x
  | .mk _ _ _ _ _ => by simp only [dep]; omega
mutual
theorem vldD_eq : ∀ (x : X) (d : Nat), vldD W x d = (vld W x && decide (dep x + d ≤ 41))
  | .mk k t n l r, d => by
    have h := vldDL_eq r (d + 1)
    rw [Bool.eq_iff_iff]
    have e : dep (.mk k t n l r) = depL r + 1 := by rw [dep]
    simp only [vldD, vld, h, Bool.and_eq_true, decide_eq_true_eq]
    rw [e]
    constructor
    · rintro ⟨⟨h1, h2⟩, h3, h4⟩; exact ⟨⟨h2, h3⟩, by omega⟩
    · rintro ⟨⟨h1, h2⟩, h3⟩; exact ⟨⟨by omega, h1⟩, h2, by omega⟩
theorem vldDL_eq : ∀ (r : List X) (d : Nat), vldDL W r d = (vldL W r && decide (depL r + d ≤ 41 ∨ depL r = 0))
  | [], d => by simp [vldDL, vldL, depL]
  | x :: r, d => by
    have h1 := vldD_eq x d
    have h2 := vldDL_eq r d
    have hp := dep_pos x
    rw [Bool.eq_iff_iff]
    have e : depL (x :: r) = max (dep x) (depL r) := by rw [depL]
    simp only [vldDL, vldL, h1, h2, Bool.and_eq_true, decide_eq_true_eq]
    rw [e]
    constructor
    · rintro ⟨⟨a, b⟩, c, d⟩; exact ⟨⟨a, c⟩, by omega⟩
    · rintro ⟨⟨a, c⟩, b⟩; exact ⟨⟨a, by omega⟩, c, by omega⟩
end
/-- A valid expression. -/
def vldE (x : X) : Bool := decide (cnt x ≤ 600) && (decide (dep x ≤ 40) && vld W x)
theorem vldE_ref (x : X) : vldE W x = (decide (0 ≤ leftOf (cnt x) 600) && vldD W x 1) := by
  unfold vldE
  rw [vldD_eq]
  by_cases h : cnt x ≤ 600
  · rw [decide_eq_true h, leftOf_yes h, decide_eq_true (show (0 : Int) ≤ ((600 - cnt x : Nat) : Int) by omega), show decide (dep x + 1 ≤ 41) = decide (dep x ≤ 40) from decide_eq_decide.2 (by omega)]
    cases vld W x <;> cases decide (dep x ≤ 40) <;> rfl
  · rw [decide_eq_false h, leftOf_no h]; rfl
theorem vldL_get : ∀ (r : List X) {i : Nat} (h : i < r.length), vldL W r = true → vld W r[i] = true
  | x :: r, 0, _, hw => by simp [vldL] at hw; exact hw.1
  | x :: r, i + 1, h, hw => by
    simp [vldL] at hw
    simpa using vldL_get r (i := i) (by simpa using h) hw.2
theorem vldL_no : ∀ (r : List X) {i : Nat} (h : i < r.length), vld W r[i] = false → vldL W r = false
  | x :: r, 0, _, hw => by simp at hw; simp [vldL, hw]
  | x :: r, i + 1, h, hw => by
    have := vldL_no r (i := i) (by simpa using h) (by simpa using hw)
    simp [vldL, this]
theorem vldL_all : ∀ (r : List X), (∀ i (h : i < r.length), vld W r[i] = true) → vldL W r = true
  | [], _ => rfl
  | x :: r, h => by
    have h0 := h 0 (by simp)
    have h1 := vldL_all r fun i hi => h (i + 1) (by simpa using hi)
    simp at h0
    simp [vldL, h0, h1]
theorem vldDL_no : ∀ (r : List X) {d i : Nat} (h : i < r.length), vldD W r[i] d = false → vldDL W r d = false
  | x :: r, d, 0, _, hw => by simp at hw; simp [vldDL, hw]
  | x :: r, d, i + 1, h, hw => by
    have := vldDL_no r (d := d) (i := i) (by simpa using h) (by simpa using hw)
    simp [vldDL, this]
theorem vldDL_all : ∀ (r : List X) {d : Nat}, (∀ i (h : i < r.length), vldD W r[i] d = true) → vldDL W r d = true
  | [], _, _ => rfl
  | x :: r, d, h => by
    have h0 := h 0 (by simp)
    have h1 := vldDL_all r (d := d) fun i hi => h (i + 1) (by simpa using hi)
    simp at h0
    simp [vldDL, h0, h1]
theorem okNode_er {k : Int} {t : ByteArray} {n l : Int} {len : Nat} (h : okNode W k t n l len = true) : okNode W k t n 0 len = true := by
  simp only [okNode, Bool.and_eq_true, decide_eq_true_eq] at h ⊢
  exact ⟨⟨h.1.1, h.1.2.1, h.1.2.2.1, h.1.2.2.2.1, by omega⟩, h.2⟩
mutual
theorem vld_er : ∀ x : X, vld W x = true → vld W (er x) = true
  | .mk k t n l r, h => by
    simp only [vld, Bool.and_eq_true] at h
    simp only [er, vld, Bool.and_eq_true]
    rw [erL_length]
    exact ⟨okNode_er W h.1, vldL_er r h.2⟩
theorem vldL_er : ∀ r : List X, vldL W r = true → vldL W (erL r) = true
  | [], h => h
  | x :: r, h => by
    simp only [vldL, Bool.and_eq_true] at h
    simp only [erL, vldL, Bool.and_eq_true]
    exact ⟨vld_er x h.1, vldL_er r h.2⟩
end
theorem vldE_er {x : X} (h : vldE W x = true) : vldE W (er x) = true := by
  simp only [vldE, Bool.and_eq_true, decide_eq_true_eq] at h ⊢
  rw [er_cnt, er_dep]
  exact ⟨h.1, h.2.1, vld_er W x h.2.2⟩
end X
end Go.Proofs.YtljblaglfooclaaGreatDoor
