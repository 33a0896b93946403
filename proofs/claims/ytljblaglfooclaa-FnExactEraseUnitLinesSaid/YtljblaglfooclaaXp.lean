/- Proved here: plain facts on trees of expressions: counts, depth, sizes, marks, lines taken away, equality. No condition; nothing of the program is named. -/
import Derived.Below
namespace Go.Proofs.Ytljblaglfooclaa

/-- A tree of expressions. -/
inductive X where
  | mk (k : Int) (t : ByteArray) (n l : Int) (r : List X)
namespace X
def k : X → Int | .mk k _ _ _ _ => k
def t : X → ByteArray | .mk _ t _ _ _ => t
def n : X → Int | .mk _ _ n _ _ => n
def l : X → Int | .mk _ _ _ l _ => l
def r : X → List X | .mk _ _ _ _ r => r
def zero : X := .mk 0 ⟨#[]⟩ 0 0 []
theorem eta : ∀ x : X, x = .mk x.k x.t x.n x.l x.r | .mk _ _ _ _ _ => rfl

theorem ind {p : X → Prop} (h : ∀ k t n l r, (∀ i (hi : i < r.length), p r[i]) → p (.mk k t n l r)) : ∀ x, p x
  | .mk k t n l r => h k t n l r fun i hi => ind h r[i]
termination_by x => SizeOf.sizeOf x
decreasing_by
  have := List.sizeOf_lt_of_mem (List.getElem_mem hi)
  simp only [mk.sizeOf_spec]
  omega

mutual
/-- The count of nodes. -/
def cnt : X → Nat | .mk _ _ _ _ r => 1 + cntL r
def cntL : List X → Nat | [] => 0 | x :: r => cnt x + cntL r
end
mutual
/-- What the law takes from its bound for a tree: the bytes of its texts, and its kids. -/
def siz : X → Nat | .mk _ t _ _ r => t.size + (r.length + sizL r)
def sizL : List X → Nat | [] => 0 | x :: r => siz x + sizL r
end
mutual
/-- The depth. -/
def dep : X → Nat | .mk _ _ _ _ r => depL r + 1
def depL : List X → Nat | [] => 0 | x :: r => max (dep x) (depL r)
end
mutual
/-- The tree without its lines. -/
def er : X → X | .mk k t n _ r => .mk k t n 0 (erL r)
def erL : List X → List X | [] => [] | x :: r => er x :: erL r
end
mutual
/-- Whole numbers of 64 bits and texts that fit, all over. -/
def Wf : X → Prop | .mk k t n l r => (-9223372036854775808 ≤ k ∧ k ≤ 9223372036854775807) ∧ t.size ≤ maxLen ∧ (-9223372036854775808 ≤ n ∧ n ≤ 9223372036854775807) ∧ (-9223372036854775808 ≤ l ∧ l ≤ 9223372036854775807) ∧ r.length ≤ maxLen ∧ WfL r
def WfL : List X → Prop | [] => True | x :: r => Wf x ∧ WfL r
end
mutual
/-- Equality, as the program tells it. -/
def eqB : X → X → Bool | .mk k t n l r, .mk k' t' n' l' r' => decide (k = k') && (decide (t = t') && (decide (n = n') && (decide (l = l') && eqL r r')))
def eqL : List X → List X → Bool | [], [] => true | x :: r, y :: s => eqB x y && eqL r s | [], _ :: _ => false | _ :: _, [] => false
end

theorem cntL_snoc : ∀ (l : List X) (x : X), cntL (l ++ [x]) = cntL l + cnt x
  | [], x => by simp [cntL]
  | y :: l, x => by simp [cntL, cntL_snoc l x]; omega
theorem sizL_snoc : ∀ (l : List X) (x : X), sizL (l ++ [x]) = sizL l + siz x
  | [], x => by simp [sizL]
  | y :: l, x => by simp [sizL, sizL_snoc l x]; omega
theorem depL_snoc : ∀ (l : List X) (x : X), depL (l ++ [x]) = max (depL l) (dep x)
  | [], x => by simp [depL]
  | y :: l, x => by simp only [List.cons_append, depL, depL_snoc l x]; omega
theorem erL_eq : ∀ l : List X, erL l = l.map er
  | [] => rfl
  | y :: l => by simp [erL, erL_eq l]
theorem erL_length (l : List X) : (erL l).length = l.length := by simp [erL_eq]
theorem erL_snoc (l : List X) (x : X) : erL (l ++ [x]) = erL l ++ [er x] := by simp [erL_eq]
theorem take_more {α : Type} (l : List α) {i : Nat} (h : i < l.length) : l.take (i + 1) = l.take i ++ [l[i]] := List.take_succ_eq_append_getElem h
theorem cntL_take (r : List X) {i : Nat} (h : i < r.length) : cntL (r.take (i + 1)) = cntL (r.take i) + cnt r[i] := by rw [take_more r h, cntL_snoc]
theorem sizL_take (r : List X) {i : Nat} (h : i < r.length) : sizL (r.take (i + 1)) = sizL (r.take i) + siz r[i] := by rw [take_more r h, sizL_snoc]
theorem depL_take (r : List X) {i : Nat} (h : i < r.length) : depL (r.take (i + 1)) = max (depL (r.take i)) (dep r[i]) := by rw [take_more r h, depL_snoc]
theorem sizL_append : ∀ l m : List X, sizL (l ++ m) = sizL l + sizL m
  | [], m => by simp [sizL]
  | y :: l, m => by simp [sizL, sizL_append l m]; omega
theorem cntL_append : ∀ l m : List X, cntL (l ++ m) = cntL l + cntL m
  | [], m => by simp [cntL]
  | y :: l, m => by simp [cntL, cntL_append l m]; omega
theorem sizL_le (r : List X) (i : Nat) : sizL (r.take i) ≤ sizL r := by
  conv => rhs; rw [← List.take_append_drop i r]
  rw [sizL_append]; omega
theorem cntL_le (r : List X) (i : Nat) : cntL (r.take i) ≤ cntL r := by
  conv => rhs; rw [← List.take_append_drop i r]
  rw [cntL_append]; omega
theorem siz_get : ∀ (r : List X) {i : Nat} (h : i < r.length), siz r[i] ≤ sizL r
  | x :: r, 0, _ => by simp [sizL]
  | x :: r, i + 1, h => by
    have := siz_get r (i := i) (by simpa using h)
    simp [sizL]; omega
theorem cnt_get : ∀ (r : List X) {i : Nat} (h : i < r.length), cnt r[i] ≤ cntL r
  | x :: r, 0, _ => by simp [cntL]
  | x :: r, i + 1, h => by
    have := cnt_get r (i := i) (by simpa using h)
    simp [cntL]; omega
theorem WfL_get : ∀ (r : List X) {i : Nat} (h : i < r.length), WfL r → Wf r[i]
  | x :: r, 0, _, hw => by simp [WfL] at hw; exact hw.1
  | x :: r, i + 1, h, hw => by
    simp [WfL] at hw
    simpa using WfL_get r (i := i) (by simpa using h) hw.2
theorem cnt_pos : ∀ x : X, 1 ≤ cnt x
  | .mk _ _ _ _ _ => by simp only [cnt]; omega
theorem len_le_cntL : ∀ r : List X, r.length ≤ cntL r
  | [] => by simp
  | x :: r => by have := cnt_pos x; have := len_le_cntL r; simp [cntL]; omega
theorem len_le_siz : ∀ (k : Int) (t : ByteArray) (n l : Int) (r : List X), r.length ≤ siz (.mk k t n l r)
  | _, _, _, _, _ => by simp only [siz]; omega
theorem cnt_le (x : X) : cnt x ≤ siz x + 1 := by
  induction x using ind with
  | h k t n l r ih =>
    have : ∀ i, i ≤ r.length → cntL (r.take i) ≤ i + sizL (r.take i) := by
      intro i
      induction i with
      | zero => intro _; simp [cntL, sizL]
      | succ i hi =>
        intro h
        have h1 := ih i h
        have h2 := hi (by omega)
        rw [cntL_take r h, sizL_take r h]; omega
    have := this r.length (Nat.le_refl _)
    rw [List.take_length] at this
    simp only [cnt, siz]; omega
theorem dep_le (x : X) : dep x ≤ cnt x := by
  induction x using ind with
  | h k t n l r ih =>
    have : ∀ i, i ≤ r.length → depL (r.take i) ≤ cntL (r.take i) := by
      intro i
      induction i with
      | zero => intro _; simp [depL, cntL]
      | succ i hi =>
        intro h
        have h1 := ih i h
        have h2 := hi (by omega)
        rw [depL_take r h, cntL_take r h]; omega
    have := this r.length (Nat.le_refl _)
    rw [List.take_length] at this
    simp only [cnt, dep]; omega
theorem eqL_len : ∀ (r s : List X), r.length ≠ s.length → eqL r s = false
  | [], [], h => absurd rfl h
  | [], _ :: _, _ => rfl
  | _ :: _, [], _ => rfl
  | x :: r, y :: s, h => by simp [eqL, eqL_len r s (by simpa using h)]
theorem eqL_all : ∀ (r s : List X), r.length = s.length → (∀ i (h : i < r.length) (h' : i < s.length), eqB r[i] s[i] = true) → eqL r s = true
  | [], [], _, _ => rfl
  | x :: r, y :: s, hl, h => by
    have h0 := h 0 (by simp) (by simp)
    have h1 := eqL_all r s (by simpa using hl) (fun i hi hi' => h (i + 1) (by simpa using hi) (by simpa using hi'))
    simp at h0
    simp [eqL, h0, h1]
theorem eqL_not : ∀ (r s : List X) (i : Nat) (h : i < r.length) (h' : i < s.length), eqB r[i] s[i] = false → eqL r s = false
  | x :: r, y :: s, 0, _, _, e => by simp at e; simp [eqL, e]
  | x :: r, y :: s, i + 1, h, h', e => by
    have := eqL_not r s i (by simpa using h) (by simpa using h') (by simpa using e)
    simp [eqL, this]
mutual
theorem eqB_self : ∀ x : X, eqB x x = true
  | .mk k t n l r => by simp [eqB, eqL_self r]
theorem eqL_self : ∀ r : List X, eqL r r = true
  | [] => rfl
  | x :: r => by simp [eqL, eqB_self x, eqL_self r]
end
theorem eqB_eq {x y : X} (h : x = y) : eqB x y = true := by subst h; exact eqB_self x
mutual
theorem eq_of_eqB : ∀ {x y : X}, eqB x y = true → x = y
  | .mk k t n l r, .mk k' t' n' l' r', h => by
    simp only [eqB, Bool.and_eq_true, decide_eq_true_eq] at h
    obtain ⟨rfl, rfl, rfl, rfl, h⟩ := h
    rw [eq_of_eqL h]
theorem eq_of_eqL : ∀ {r s : List X}, eqL r s = true → r = s
  | [], [], _ => rfl
  | x :: r, y :: s, h => by
    simp only [eqL, Bool.and_eq_true] at h
    rw [eq_of_eqB h.1, eq_of_eqL h.2]
  | [], _ :: _, h => by simp [eqL] at h
  | _ :: _, [], h => by simp [eqL] at h
end
mutual
theorem er_cnt : ∀ x : X, cnt (er x) = cnt x
  | .mk k t n l r => by simp [er, cnt, er_cntL r]
theorem er_cntL : ∀ r : List X, cntL (erL r) = cntL r
  | [] => rfl
  | x :: r => by simp [erL, cntL, er_cnt x, er_cntL r]
end
mutual
theorem er_dep : ∀ x : X, dep (er x) = dep x
  | .mk k t n l r => by simp [er, dep, er_depL r]
theorem er_depL : ∀ r : List X, depL (erL r) = depL r
  | [] => rfl
  | x :: r => by simp [erL, depL, er_dep x, er_depL r]
end
mutual
theorem er_er : ∀ x : X, er (er x) = er x
  | .mk k t n l r => by simp [er, er_erL r]
theorem er_erL : ∀ r : List X, erL (erL r) = erL r
  | [] => rfl
  | x :: r => by simp [erL, er_er x, er_erL r]
end
mutual
theorem Wf_er : ∀ x : X, Wf x → Wf (er x)
  | .mk k t n l r, h => by
    simp only [Wf, er] at h ⊢
    refine ⟨h.1, h.2.1, h.2.2.1, by omega, by rw [erL_length]; exact h.2.2.2.2.1, WfL_er r h.2.2.2.2.2⟩
theorem WfL_er : ∀ r : List X, WfL r → WfL (erL r)
  | [], h => h
  | x :: r, h => ⟨Wf_er x h.1, WfL_er r h.2⟩
end
theorem er_r (x : X) : (er x).r = erL x.r := by cases x; rfl
/-- What is left of a bound: below 0 there was more. -/
def leftOf (need left : Nat) : Int := if need ≤ left then ((left - need : Nat) : Int) else -1
theorem leftOf_yes {a b : Nat} (h : a ≤ b) : leftOf a b = ((b - a : Nat) : Int) := if_pos h
theorem leftOf_no {a b : Nat} (h : ¬ a ≤ b) : leftOf a b = -1 := if_neg h
theorem leftOf_add {a b c : Nat} {z : Int} (h : a ≤ c) (hz : z = leftOf b (c - a)) : z = leftOf (a + b) c := by
  subst hz
  unfold leftOf
  by_cases h1 : b ≤ c - a
  · rw [if_pos h1, if_pos (by omega)]; omega
  · rw [if_neg h1, if_neg (by omega)]
theorem leftOf_not {a b c : Nat} (h : ¬ a ≤ c) : -1 = leftOf (a + b) c := by
  rw [leftOf_no (by omega)]
theorem ret_z {a b : Int} (h : a = b) : Ending.returned (.int .i64 a) = .returned (.int .i64 b) := by rw [h]
end X
end Go.Proofs.Ytljblaglfooclaa
