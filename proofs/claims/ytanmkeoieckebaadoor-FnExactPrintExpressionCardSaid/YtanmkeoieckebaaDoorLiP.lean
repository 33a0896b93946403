/- Proved here: a quoted text denotes what was quoted. No condition; nothing of the program is named. -/
import Derived.Test.YtanmkeoieckebaaDoorUqP
namespace Go.Proofs.YtanmkeoieckebaaDoor

theorem hexV_hexD : ∀ n, n < 16 → hexV (hexD n) = some n := by decide
theorem unqI_one (q b : UInt8) : unqI q [b] = some [] := by rw [unqI]
theorem unqI_esc (q c : UInt8) (r : List UInt8) (hr : r ≠ []) : unqI q (92 :: c :: r) = (if c = 110 then (unqI q r).map (10 :: ·)
       else if c = 116 then (unqI q r).map (9 :: ·)
       else if c = 92 ∨ c = 34 ∨ c = 39 then (unqI q r).map (c :: ·)
       else if c = 120 then (hexP r).bind fun v => (unqI q (r.drop 2)).map (UInt8.ofNat v :: ·)
       else none) := by
  rw [unqI, if_pos rfl, if_neg hr]
theorem unqI_bare {q b : UInt8} (c : UInt8) (r : List UInt8) (h1 : b ≠ 92) (h2 : badB q b = false) : unqI q (b :: c :: r) = (unqI q (c :: r)).map (b :: ·) := by
  rw [unqI, if_neg h1, h2]; rfl
theorem hexP_three {a b : UInt8} {r : List UInt8} (hr : r ≠ []) {x y : Nat} (h1 : hexV a = some x) (h2 : hexV b = some y) : hexP (a :: b :: r) = some (x * 16 + y) := by
  cases r with
  | nil => exact absurd rfl hr
  | cons z r => simp [hexP, h1, h2]
theorem unqI_escL {q : UInt8} (hq : okQ q) : ∀ l : List UInt8, unqI q (escL q l ++ [q]) = some l
  | [] => by simp [escL, unqI_one]
  | b :: l => by
    have ih := unqI_escL hq l
    have hr : escL q l ++ [q] ≠ [] := by simp
    obtain ⟨hq1, hq2, hq3⟩ := okQ_ne hq
    have e0 : escL q (b :: l) ++ [q] = escB q b ++ (escL q l ++ [q]) := by simp [escL]
    rw [e0]
    generalize escL q l ++ [q] = r at ih hr
    have hb := b.toNat_lt
    unfold escB
    split
    · rename_i h
      rw [List.cons_append, List.cons_append, List.nil_append, unqI_esc _ _ _ hr]
      have h1 : b ≠ 110 ∧ b ≠ 116 ∧ (b = 92 ∨ b = 34 ∨ b = 39) := by
        rcases h with rfl | rfl
        · rcases hq with rfl | rfl <;> decide
        · decide
      rw [if_neg h1.1, if_neg h1.2.1, if_pos h1.2.2, ih]; rfl
    · rename_i h
      split
      · rename_i h1
        rw [List.cons_append, List.cons_append, List.nil_append, unqI_esc _ _ _ hr, if_pos rfl, ih, h1]; rfl
      · split
        · rename_i h1
          rw [List.cons_append, List.cons_append, List.nil_append, unqI_esc _ _ _ hr, if_neg (by decide), if_pos rfl, ih, h1]; rfl
        · split
          · simp only [List.cons_append, List.nil_append]
            rw [unqI_esc _ _ _ (by simp), if_neg (by decide), if_neg (by decide), if_neg (by decide), if_pos rfl,
              hexP_three hr (hexV_hexD _ (by omega)) (hexV_hexD _ (by omega))]
            show (unqI q r).map (UInt8.ofNat (b.toNat / 16 * 16 + b.toNat % 16) :: ·) = _
            rw [ih, show b.toNat / 16 * 16 + b.toNat % 16 = b.toNat by omega, UInt8.ofNat_toNat]; rfl
          · rename_i h1
            rw [List.cons_append, List.nil_append]
            obtain ⟨c, r, rfl⟩ : ∃ c r', r = c :: r' := by
              cases r with
              | nil => exact absurd rfl hr
              | cons c r' => exact ⟨c, r', rfl⟩
            have h2 : b ≠ 92 ∧ b ≠ q := ⟨fun e => h (.inr e), fun e => h (.inl e)⟩
            have h3 : badB q b = false := by
              simp only [badB, Bool.or_eq_false_iff, decide_eq_false_iff_not, beq_eq_false_iff_ne]
              exact ⟨⟨fun e => h1 (.inl e), fun e => h1 (.inr e)⟩, h2.2⟩
            rw [unqI_bare _ _ h2.1 h3, ih]; rfl
/-- A quoted text denotes what was quoted. -/
theorem unqL_quote {q : UInt8} (hq : okQ q) (l : List UInt8) : unqL q (quoteL q l) = some l := by
  have h1 : (quoteL q l).length ≥ 2 := by simp [quoteL]
  have h2 : (quoteL q l).head? = some q := rfl
  have h3 : (quoteL q l).getLast? = some q := by
    rw [quoteL, ← List.cons_append, List.getLast?_append]; rfl
  rw [unqL, if_neg (by rw [h2, h3]; simp; omega)]
  exact unqI_escL hq l
theorem quoteL_len (q : UInt8) (l : List UInt8) : (quoteL q l).length ≤ 4 * l.length + 2 := by
  have := escL_len q l
  simp [quoteL]; omega
end Go.Proofs.YtanmkeoieckebaaDoor
