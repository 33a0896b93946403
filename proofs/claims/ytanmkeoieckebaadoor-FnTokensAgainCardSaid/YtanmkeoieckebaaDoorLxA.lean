/- Proved here: plain facts on parting a text into tokens: one token at a text's beginning; all tokens; the texts of tokens with blanks between give the same tokens. The tests for words are left open. No condition; nothing of the program is named. Proved here: the texts of tokens, with blanks between, give the same tokens; how long these texts are. The tests for words are left open, under the conditions that are named. Nothing of the program is named. -/
import Derived.Test.YtanmkeoieckebaaDoorLiP
import Derived.Test.YtanmkeoieckebaaDoorIoP
import Derived.Test.YtanmkeoieckebaaDoorDmP
namespace Go.Proofs.YtanmkeoieckebaaDoor

/-- A letter or a digit. -/
def ldB (x : UInt8) : Bool := letB x || digB x
/-- The tests for words, the sets, the operators: left open here. -/
structure Lxk where
  res : List UInt8 → Bool
  nm : List UInt8 → Bool
  kw : List UInt8 → Bool
  cst : List UInt8 → Option (List UInt8)
  ops : List (List UInt8)
  begs : Int → List UInt8 → Bool
  ends : Int → List UInt8 → Bool
/-- The first of the operators that m begins with. -/
def opF (ops : List (List UInt8)) (m : List UInt8) : Option (List UInt8) := ops.find? fun o => o.isPrefixOf m
/-- The word that m begins with. -/
def wordL (m : List UInt8) : List UInt8 := m.takeWhile ldB
variable (K : Lxk)
/-- The token that m begins with: its kind, its text, how many bytes it takes. -/
def lexW (w : List UInt8) : Option (Int × List UInt8 × Nat) := if K.res w then some (2, w, w.length) else if K.nm w then some (1, w, w.length) else none
def lexI (w : List UInt8) : Option (Int × List UInt8 × Nat) := if (ioOf w).2 then some (3, Lib.itoa (ioOf w).1, w.length) else none
def lexS (m : List UInt8) (j : Nat) : Option (Int × List UInt8 × Nat) := (unqL 34 (m.take (j + 1))).bind fun t => if t.length ≤ 120 then some (4, t, j + 1) else none
def lexC (m : List UInt8) (j : Nat) : Option (Int × List UInt8 × Nat) := ((unqL 39 (m.take (j + 1))).bind K.cst).map fun t => (5, t, j + 1)
def lexK (w : List UInt8) : Option (Int × List UInt8 × Nat) := if K.kw w then some (6, w, w.length + 1) else none
def lexO (m : List UInt8) : Option (Int × List UInt8 × Nat) := (opF K.ops m).map fun o => (7, o, o.length)
def lex1 (m : List UInt8) : Option (Int × List UInt8 × Nat) :=
  match m with
  | [] => none
  | b :: r =>
    if letB b then lexW K (wordL (b :: r))
    else if digB b then lexI (wordL (b :: r))
    else if b = 34 then (endN 34 r).bind (lexS (b :: r))
    else if b = 39 then (endN 39 r).bind (lexC K (b :: r))
    else if b = 38 ∧ (r.head?.any letB) = true then lexK K (r.takeWhile letB)
    else lexO K (b :: r)
/-- A token with its line. -/
structure Tk where
  k : Int
  t : List UInt8
  l : Nat
deriving DecidableEq
/-- What is laid between a token and one that begins a later line. -/
def sepK (fed : Bool) (out : List Tk) (k : Int) (t : List UInt8) : List Tk :=
  match out.getLast? with
  | none => []
  | some p => if fed && (K.ends p.k p.t && K.begs k t) then [⟨7, [59], p.l⟩] else []
/-- All tokens, or none and the line of the first fault. -/
def lexL (m : List UInt8) (line : Nat) (fed : Bool) (out : List Tk) : List Tk × Nat :=
  match m with
  | [] => (out, 0)
  | b :: r =>
    if b = 10 then lexL r (line + 1) true out
    else if b = 32 ∨ b = 9 then lexL r line fed out
    else if b = 35 then lexL (r.dropWhile (fun x => x != 10)) line fed out
    else match lex1 K (b :: r) with
      | none => ([], line)
      | some (k, t, n) => lexL (r.drop (n - 1)) line false (out ++ sepK K fed out k t ++ [⟨k, t, line⟩])
termination_by m.length
decreasing_by
  · simp
  · simp
  · have := (List.dropWhile_sublist (fun x => x != (10 : UInt8)) (l := r)).length_le; simp; omega
  · simp; omega
theorem lexL_nil (line : Nat) (fed : Bool) (out : List Tk) : lexL K [] line fed out = (out, 0) := by rw [lexL]
theorem lexL_nl {b : UInt8} {r : List UInt8} (h : b = 10) (line : Nat) (fed : Bool) (out : List Tk) : lexL K (b :: r) line fed out = lexL K r (line + 1) true out := by rw [lexL, if_pos h]
theorem lexL_bl {b : UInt8} {r : List UInt8} (h : b = 32 ∨ b = 9) (line : Nat) (fed : Bool) (out : List Tk) : lexL K (b :: r) line fed out = lexL K r line fed out := by
  rw [lexL, if_neg (by rcases h with rfl | rfl <;> decide), if_pos h]
theorem lexL_cm {b : UInt8} {r : List UInt8} (h : b = 35) (line : Nat) (fed : Bool) (out : List Tk) : lexL K (b :: r) line fed out = lexL K (r.dropWhile (fun x => x != 10)) line fed out := by
  rw [lexL, if_neg (by rw [h]; decide), if_neg (by rw [h]; decide), if_pos h]
theorem lexL_no {b : UInt8} {r : List UInt8} (h1 : b ≠ 10) (h2 : ¬ (b = 32 ∨ b = 9)) (h3 : b ≠ 35) (h : lex1 K (b :: r) = none) (line : Nat) (fed : Bool) (out : List Tk) : lexL K (b :: r) line fed out = ([], line) := by
  rw [lexL, if_neg h1, if_neg h2, if_neg h3, h]
theorem lexL_tok {b : UInt8} {r : List UInt8} (h1 : b ≠ 10) (h2 : ¬ (b = 32 ∨ b = 9)) (h3 : b ≠ 35) {k : Int} {t : List UInt8} {n : Nat} (h : lex1 K (b :: r) = some (k, t, n)) (line : Nat) (fed : Bool) (out : List Tk) :
    lexL K (b :: r) line fed out = lexL K (r.drop (n - 1)) line false (out ++ sepK K fed out k t ++ [⟨k, t, line⟩]) := by
  rw [lexL, if_neg h1, if_neg h2, if_neg h3, h]

/-! ### the scan of the program: over bytes that no literal may hold, too -/
/-- How many bytes a literal has behind its first, whatever they are. -/
def scanN (q : UInt8) (m : List UInt8) : Option Nat :=
  match m with
  | [] => none
  | b :: r => if b = q then some 1 else if b = 92 then (scanN q (r.drop 1)).map (· + 2) else (scanN q r).map (· + 1)
termination_by m.length
decreasing_by
  · simp; omega
  · simp
theorem scanN_nil (q : UInt8) : scanN q [] = none := by rw [scanN]
theorem scanN_le (q : UInt8) : ∀ (n : Nat) (m : List UInt8), m.length ≤ n → ∀ j, scanN q m = some j → 1 ≤ j ∧ j ≤ m.length := by
  intro n
  induction n with
  | zero =>
    intro m hm j h
    have : m = [] := List.eq_nil_of_length_eq_zero (by omega)
    subst this; rw [scanN_nil] at h; cases h
  | succ n ih =>
    intro m hm j h
    cases m with
    | nil => rw [scanN_nil] at h; cases h
    | cons b r =>
      rw [scanN] at h
      split at h
      · cases h; simp
      · split at h
        · cases he : scanN q (r.drop 1) with
          | none => rw [he] at h; cases h
          | some i =>
            rw [he] at h; cases h
            have := ih (r.drop 1) (by simp at hm ⊢; omega) i he
            simp at this ⊢; omega
        · cases he : scanN q r with
          | none => rw [he] at h; cases h
          | some i =>
            rw [he] at h; cases h
            have := ih r (by simp at hm; omega) i he
            simp; omega
/-- Where the reference finds the end, the program finds it too. -/
theorem scan_of_end {q : UInt8} : ∀ (n : Nat) (m : List UInt8), m.length ≤ n → ∀ j, endN q m = some j → scanN q m = some j := by
  intro n
  induction n with
  | zero =>
    intro m hm j h
    have : m = [] := List.eq_nil_of_length_eq_zero (by omega)
    subst this; rw [endN_nil] at h; cases h
  | succ n ih =>
    intro m hm j h
    cases m with
    | nil => rw [endN_nil] at h; cases h
    | cons b r =>
      rw [endN] at h
      rw [scanN]
      split at h
      · rename_i h1; rw [if_pos h1]; exact h
      · rename_i h1
        rw [if_neg h1]
        split at h
        · cases h
        · split at h
          · rename_i h3
            rw [if_pos h3]
            cases he : endN q (r.drop 1) with
            | none => rw [he] at h; cases h
            | some i => rw [ih _ (by simp at hm ⊢; omega) i he, ← h, he]
          · rename_i h3
            rw [if_neg h3]
            cases he : endN q r with
            | none => rw [he] at h; cases h
            | some i => rw [ih _ (by simp at hm; omega) i he, ← h, he]
/-- The program's end among the first bytes is the reference's. -/
theorem end_take {q : UInt8} : ∀ (n : Nat) (m : List UInt8), m.length ≤ n → ∀ j i, endN q (m.take j) = some i → endN q m = some i := by
  intro n
  induction n with
  | zero =>
    intro m hm j i h
    have : m = [] := List.eq_nil_of_length_eq_zero (by omega)
    subst this; rw [List.take_nil, endN_nil] at h; cases h
  | succ n ih =>
    intro m hm j i h
    cases m with
    | nil => rw [List.take_nil, endN_nil] at h; cases h
    | cons b r =>
      cases j with
      | zero => rw [List.take_zero, endN_nil] at h; cases h
      | succ j =>
        rw [List.take_succ_cons, endN] at h
        rw [endN]
        split at h
        · rename_i h1; rw [if_pos h1]; exact h
        · rename_i h1
          rw [if_neg h1]
          split at h
          · cases h
          · rename_i h2
            rw [if_neg h2]
            split at h
            · rename_i h3
              rw [if_pos h3]
              cases j with
              | zero => rw [List.take_zero, List.drop_nil, endN_nil] at h; cases h
              | succ j =>
                have e : (r.take (j + 1)).drop 1 = (r.drop 1).take j := by rw [List.drop_take]; simp
                rw [e] at h
                cases he : endN q ((r.drop 1).take j) with
                | none => rw [he] at h; cases h
                | some i' => rw [ih _ (by simp at hm ⊢; omega) j i' he, ← h, he]
            · rename_i h3
              rw [if_neg h3]
              cases he : endN q (r.take j) with
              | none => rw [he] at h; cases h
              | some i' => rw [ih _ (by simp at hm; omega) j i' he, ← h, he]
theorem scan_last {q : UInt8} : ∀ (n : Nat) (m : List UInt8), m.length ≤ n → ∀ j, scanN q m = some j → (m.take j).getLast? = some q := by
  intro n
  induction n with
  | zero =>
    intro m hm j h
    have : m = [] := List.eq_nil_of_length_eq_zero (by omega)
    subst this; rw [scanN_nil] at h; cases h
  | succ n ih =>
    intro m hm j h
    cases m with
    | nil => rw [scanN_nil] at h; cases h
    | cons b r =>
      rw [scanN] at h
      split at h
      · rename_i h1; cases h; simp [h1]
      · split at h
        · cases he : scanN q (r.drop 1) with
          | none => rw [he] at h; cases h
          | some i =>
            rw [he] at h; cases h
            have h1 := ih (r.drop 1) (by simp at hm ⊢; omega) i he
            cases r with
            | nil => rw [List.drop_nil, scanN_nil] at he; cases he
            | cons c r =>
              simp only [List.drop_succ_cons, List.drop_zero] at h1
              show (b :: c :: r.take i).getLast? = some q
              cases hr : r.take i with
              | nil => rw [hr] at h1; cases h1
              | cons x y => rw [hr] at h1; simpa using h1
        · cases he : scanN q r with
          | none => rw [he] at h; cases h
          | some i =>
            rw [he] at h; cases h
            have h1 := ih r (by simp at hm; omega) i he
            show (b :: r.take i).getLast? = some q
            cases hr : r.take i with
            | nil => rw [hr] at h1; cases h1
            | cons x y => rw [hr] at h1; simpa using h1
/-- Where the reference finds no end but the program does, the literal denotes nothing. -/
theorem unq_of_scan {q : UInt8} (hq : okQ q) {r : List UInt8} {j : Nat} (hs : scanN q r = some j) (he : endN q r = none) : unqL q ((q :: r).take (j + 1)) = none := by
  rw [List.take_succ_cons]
  have hl := scan_last _ r (Nat.le_refl _) j hs
  have hj := scanN_le q _ r (Nat.le_refl _) j hs
  unfold unqL
  split
  · rfl
  · rw [List.drop_succ_cons, List.drop_zero]
    refine end_none hq _ _ (Nat.le_refl _) hl (fun h => ?_)
    have := end_take _ r (Nat.le_refl _) j _ h
    rw [he] at this; cases this
end Go.Proofs.YtanmkeoieckebaaDoor

namespace Go.Proofs.YtanmkeoieckebaaDoor

/-- What the tests for words must meet. -/
structure LxOk (K : Lxk) : Prop where
  ops : ∀ o ∈ K.ops, opF K.ops o = some o ∧ (32 : UInt8) ∉ o ∧ (∃ b r, o = b :: r ∧ letB b = false ∧ digB b = false ∧ b ≠ 34 ∧ b ≠ 39 ∧ b ≠ 10 ∧ b ≠ 32 ∧ b ≠ 9 ∧ b ≠ 35 ∧ (b = 38 → r = []))
  semi : [59] ∈ K.ops
  cst : ∀ x t, K.cst x = some t → K.cst t = some t
  len : ∀ x t, K.cst x = some t → t.length ≤ x.length
variable {K : Lxk}
/-- The text of a token. -/
def tokL (k : Int) (t : List UInt8) : List UInt8 := if k = 4 then quoteL 34 t else if k = 5 then quoteL 39 t else if k = 6 then 38 :: t else t
theorem tokL_4 (t : List UInt8) : tokL 4 t = quoteL 34 t := if_pos rfl
theorem tokL_5 (t : List UInt8) : tokL 5 t = quoteL 39 t := by rw [tokL, if_neg (by decide), if_pos rfl]
theorem tokL_6 (t : List UInt8) : tokL 6 t = 38 :: t := by rw [tokL, if_neg (by decide), if_neg (by decide), if_pos rfl]
/-- A token that the parting can give. -/
def GoodT (K : Lxk) (k : Int) (t : List UInt8) : Prop :=
  (k = 1 ∧ (∃ b r, t = b :: r ∧ letB b = true) ∧ t.all ldB = true ∧ K.res t = false ∧ K.nm t = true) ∨
  (k = 2 ∧ (∃ b r, t = b :: r ∧ letB b = true) ∧ t.all ldB = true ∧ K.res t = true) ∨
  (k = 3 ∧ ∃ v : Nat, v ≤ 999999999999 ∧ t = Lib.decDigits v) ∨
  (k = 4 ∧ t.length ≤ 120) ∨ (k = 5 ∧ K.cst t = some t) ∨
  (k = 6 ∧ (∃ b r, t = b :: r ∧ letB b = true) ∧ t.all letB = true ∧ K.kw t = true) ∨ (k = 7 ∧ t ∈ K.ops)
theorem all_take {p : UInt8 → Bool} : ∀ m : List UInt8, (m.takeWhile p).all p = true
  | [] => rfl
  | b :: r => by
    by_cases h : p b = true
    · rw [List.takeWhile_cons, if_pos h, List.all_cons, h, all_take r]; rfl
    · rw [List.takeWhile_cons, if_neg h]; rfl
theorem take_all {p : UInt8 → Bool} : ∀ (t rest : List UInt8), t.all p = true → (rest = [] ∨ ∃ c r, rest = c :: r ∧ p c = false) → (t ++ rest).takeWhile p = t
  | [], rest, _, h => by
    rcases h with rfl | ⟨c, r, rfl, h⟩
    · rfl
    · rw [List.nil_append, List.takeWhile_cons, h]; rfl
  | b :: t, rest, ha, h => by
    simp only [List.all_cons, Bool.and_eq_true] at ha
    rw [List.cons_append, List.takeWhile_cons, if_pos ha.1, take_all t rest ha.2 h]
theorem take_le {p : UInt8 → Bool} (m : List UInt8) : (m.takeWhile p).length ≤ m.length := (List.takeWhile_sublist (p := p) (l := m)).length_le
theorem opF_some {ops : List (List UInt8)} {m o : List UInt8} (h : opF ops m = some o) : o ∈ ops ∧ ∃ r, m = o ++ r := by
  unfold opF at h
  refine ⟨List.mem_of_find?_eq_some h, ?_⟩
  have := List.find?_some h
  rw [List.isPrefixOf_iff_prefix] at this
  obtain ⟨r, e⟩ := this
  exact ⟨r, e.symm⟩
theorem lead_dig {b : UInt8} {r : List UInt8} (h : digB b = true) : lead (b :: r) = 0 := by
  refine lead_cons_no ?_
  unfold digB at h
  simp only [decide_eq_true_eq] at h
  omega
theorem dig_isDig {b : UInt8} : digB b = isDig b := by
  unfold digB isDig
  rw [Bool.eq_iff_iff]; simp
theorem io_dig {b : UInt8} {r : List UInt8} (h : digB b = true) : ioOf (b :: r) = ioEnd (b :: r) 0 (ioZ (b :: r)) false := by
  have hl := lead_dig (r := r) h
  unfold digB at h
  simp only [decide_eq_true_eq] at h
  unfold ioOf
  rw [dif_pos (by rw [hl]; simp)]
  simp only [hl, List.getElem_cons_zero]
  rw [if_neg (by intro e; rw [e] at h; have : (45 : UInt8).toNat = 45 := rfl; omega), if_neg (by intro e; rw [e] at h; have : (43 : UInt8).toNat = 43 := rfl; omega)]
theorem io_good {b : UInt8} {r : List UInt8} (h : digB b = true) (ho : (ioOf (b :: r)).2 = true) : ∃ v : Nat, v ≤ 999999999999 ∧ (ioOf (b :: r)).1 = (v : Int) := by
  rw [io_dig h] at ho ⊢
  by_cases h1 : ioZ (b :: r) - 0 < 1 ∨ 12 < ioZ (b :: r) - 0
  · rw [ioEnd_len h1] at ho; cases ho
  · by_cases h2 : (((b :: r).drop 0).take (ioZ (b :: r) - 0)).all isDig = true
    · rw [ioEnd_yes h1 h2]
      exact ⟨_, numVal_12 h2 (by rw [List.length_take]; omega), rfl⟩
    · rw [ioEnd_bad h1 (by simpa using h2)] at ho; cases ho
theorem trail_dig : ∀ l : List UInt8, l.all isDig = true → trail l = l.length := by
  refine rev_ind (P := fun l => l.all isDig = true → trail l = l.length) ?_ ?_
  · intro _; rfl
  · intro l b _ h
    simp only [List.all_append, Bool.and_eq_true, List.all_cons, List.all_nil, Bool.and_true] at h
    have := isDig_iff.1 h.2
    rw [trail_snoc_no (by omega)]; simp
theorem dec_first (v : Nat) : ∃ b r, Lib.decDigits v = b :: r ∧ digB b = true := by
  have h1 := (decDigits_head v).2
  have h2 := (decDigits_val v).2
  cases hd : Lib.decDigits v with
  | nil => exact absurd hd h1
  | cons b r =>
    rw [hd, List.all_cons, Bool.and_eq_true] at h2
    exact ⟨b, r, rfl, by rw [dig_isDig]; exact h2.1⟩
theorem io_dec {v : Nat} (h : v ≤ 999999999999) : ioOf (Lib.decDigits v) = ((v : Int), true) := by
  obtain ⟨b, r, e, hb⟩ := dec_first v
  obtain ⟨hv, hd⟩ := decDigits_val v
  have hl := (decDigits_len12 v).2 (by omega)
  have hp : 1 ≤ (Lib.decDigits v).length := by rw [e]; simp
  have hz : ioZ (Lib.decDigits v) = (Lib.decDigits v).length := by
    unfold ioZ
    rw [e, lead_dig hb, Nat.zero_add, List.drop_zero, ← e, trail_dig _ hd]
  have hio := io_dig (r := r) hb
  rw [← e, hz] at hio
  rw [hio, ioEnd_yes (by omega) (by rw [List.drop_zero, Nat.sub_zero, List.take_length]; exact hd)]
  rw [List.drop_zero, Nat.sub_zero, List.take_length, hv]; rfl
theorem letB_not_dig {b : UInt8} (h : digB b = true) : letB b = false := by
  unfold digB at h; unfold letB
  simp only [decide_eq_true_eq, decide_eq_false_iff_not] at h ⊢
  omega
/-- What comes first gives a token that the parting can give. -/
theorem lex1_good (hK : LxOk K) {m : List UInt8} {k : Int} {t : List UInt8} {n : Nat} (h : lex1 K m = some (k, t, n)) : GoodT K k t ∧ 1 ≤ n ∧ n ≤ m.length ∧ (tokL k t).length ≤ 12 * n := by
  cases m with
  | nil => cases h
  | cons b r =>
    unfold lex1 at h
    by_cases hl : letB b = true
    · simp only [hl, if_true] at h
      have hw : ∃ b' r', wordL (b :: r) = b' :: r' ∧ letB b' = true := ⟨b, r.takeWhile ldB, by rw [wordL, List.takeWhile_cons, if_pos (by simp [ldB, hl])], hl⟩
      have ha := all_take (p := ldB) (b :: r)
      have hle := take_le (p := ldB) (b :: r)
      have hpos : 1 ≤ (wordL (b :: r)).length := by obtain ⟨b', r', e, _⟩ := hw; rw [e]; simp
      unfold lexW at h
      split at h
      · rename_i hr
        simp only [Option.some.injEq, Prod.mk.injEq] at h
        obtain ⟨rfl, rfl, rfl⟩ := h
        exact ⟨.inr (.inl ⟨rfl, hw, ha, hr⟩), hpos, hle, by show (wordL (b :: r)).length ≤ _; omega⟩
      · split at h
        · rename_i hr hn
          simp only [Option.some.injEq, Prod.mk.injEq] at h
          obtain ⟨rfl, rfl, rfl⟩ := h
          exact ⟨.inl ⟨rfl, hw, ha, by simpa using hr, hn⟩, hpos, hle, by show (wordL (b :: r)).length ≤ _; omega⟩
        · cases h
    · simp only [hl, if_false, Bool.false_eq_true] at h
      by_cases hd : digB b = true
      · simp only [hd, if_true] at h
        have hwe : wordL (b :: r) = b :: r.takeWhile ldB := by rw [wordL, List.takeWhile_cons, if_pos (by simp [ldB, hd])]
        have hle := take_le (p := ldB) (b :: r)
        unfold lexI at h
        split at h
        · rename_i ho
          simp only [Option.some.injEq, Prod.mk.injEq] at h
          obtain ⟨rfl, rfl, rfl⟩ := h
          rw [hwe] at ho ⊢
          obtain ⟨v, hv, e⟩ := io_good hd ho
          have h12 := (decDigits_len12 v).2 (by omega)
          rw [e, itoa_pos]
          refine ⟨.inr (.inr (.inl ⟨rfl, v, hv, rfl⟩)), by simp, by rw [← hwe]; exact hle, ?_⟩
          show (Lib.decDigits v).length ≤ _
          simp only [List.length_cons]; omega
        · cases h
      · simp only [hd, if_false, Bool.false_eq_true] at h
        by_cases h34 : b = 34
        · simp only [h34, if_true] at h
          cases he : endN 34 r with
          | none => rw [he] at h; cases h
          | some j =>
            rw [he] at h
            have hj := endN_le 34 _ r (Nat.le_refl _) j he
            simp only [Option.bind_some, lexS] at h
            cases hu : unqL 34 ((34 :: r).take (j + 1)) with
            | none => rw [hu] at h; cases h
            | some u =>
              rw [hu] at h
              simp only [Option.bind_some] at h
              split at h
              · rename_i hlen
                simp only [Option.some.injEq, Prod.mk.injEq] at h
                obtain ⟨rfl, rfl, rfl⟩ := h
                have h1 := unqL_len hu
                have h2 := quoteL_len 34 u
                rw [List.length_take] at h1
                exact ⟨.inr (.inr (.inr (.inl ⟨rfl, hlen⟩))), by omega, by simp; omega, by rw [tokL_4]; omega⟩
              · cases h
        · simp only [h34, if_false] at h
          by_cases h39 : b = 39
          · simp only [h39, if_true] at h
            cases he : endN 39 r with
            | none => rw [he] at h; cases h
            | some j =>
              rw [he] at h
              have hj := endN_le 39 _ r (Nat.le_refl _) j he
              simp only [Option.bind_some, lexC] at h
              cases hu : unqL 39 ((39 :: r).take (j + 1)) with
              | none => rw [hu] at h; cases h
              | some u =>
                rw [hu] at h
                simp only [Option.bind_some] at h
                cases hc : K.cst u with
                | none => rw [hc] at h; cases h
                | some w =>
                  rw [hc] at h
                  simp only [Option.map_some, Option.some.injEq, Prod.mk.injEq] at h
                  obtain ⟨rfl, rfl, rfl⟩ := h
                  have h1 := unqL_len hu
                  have h3 := hK.len u w hc
                  have h2 := quoteL_len 39 w
                  rw [List.length_take] at h1
                  exact ⟨.inr (.inr (.inr (.inr (.inl ⟨rfl, hK.cst u w hc⟩)))), by omega, by simp; omega, by rw [tokL_5]; omega⟩
          · simp only [h39, if_false] at h
            by_cases h38 : b = 38 ∧ (r.head?.any letB) = true
            · rw [if_pos h38] at h
              have hw : ∃ b' r', r.takeWhile letB = b' :: r' ∧ letB b' = true := by
                obtain ⟨_, h2⟩ := h38
                cases r with
                | nil => cases h2
                | cons c r =>
                  have h3 : letB c = true := by simpa using h2
                  exact ⟨c, r.takeWhile letB, by rw [List.takeWhile_cons, if_pos h3], h3⟩
              have ha := all_take (p := letB) r
              have hle := take_le (p := letB) r
              unfold lexK at h
              split at h
              · rename_i hk
                simp only [Option.some.injEq, Prod.mk.injEq] at h
                obtain ⟨rfl, rfl, rfl⟩ := h
                exact ⟨.inr (.inr (.inr (.inr (.inr (.inl ⟨rfl, hw, ha, hk⟩))))), by omega, by simp; omega, by rw [tokL_6]; simp; omega⟩
              · cases h
            · rw [if_neg h38] at h
              unfold lexO at h
              cases ho : opF K.ops (b :: r) with
              | none => rw [ho] at h; cases h
              | some o =>
                rw [ho] at h
                simp only [Option.map_some, Option.some.injEq, Prod.mk.injEq] at h
                obtain ⟨rfl, rfl, rfl⟩ := h
                obtain ⟨hm, r', e⟩ := opF_some ho
                obtain ⟨_, _, b', r2, e2, _⟩ := hK.ops o hm
                exact ⟨.inr (.inr (.inr (.inr (.inr (.inr ⟨rfl, hm⟩))))), by rw [e2]; simp, by rw [e]; simp, by show o.length ≤ _; omega⟩
/-- Behind a token: nothing, or a blank. -/
def Bk (rest : List UInt8) : Prop := rest = [] ∨ ∃ r, rest = 32 :: r
theorem Bk.stop {rest : List UInt8} (h : Bk rest) {p : UInt8 → Bool} (hp : p 32 = false) : rest = [] ∨ ∃ c r, rest = c :: r ∧ p c = false := by
  rcases h with h | ⟨r, h⟩
  · exact .inl h
  · exact .inr ⟨32, r, h, hp⟩
theorem ldB_32 : ldB 32 = false := by decide
theorem letB_32 : letB 32 = false := by decide
theorem prefix_blank {o' o rest : List UInt8} (h32 : (32 : UInt8) ∉ o') (hb : Bk rest) (h : o'.isPrefixOf (o ++ rest) = true) : o'.isPrefixOf o = true := by
  rw [List.isPrefixOf_iff_prefix] at h ⊢
  rcases hb with rfl | ⟨r, rfl⟩
  · rwa [List.append_nil] at h
  · obtain ⟨s, e⟩ := h
    rcases List.append_eq_append_iff.1 e with ⟨a, h1, h2⟩ | ⟨a, h1, h2⟩
    · exact ⟨a, h1.symm⟩
    · cases a with
      | nil => exact ⟨[], by rw [h1]; simp⟩
      | cons c a =>
        have : c = 32 := by simp at h2; exact h2.1.symm
        subst this
        exact absurd (by rw [h1]; simp) h32
theorem opF_again (hK : LxOk K) {o rest : List UInt8} (ho : o ∈ K.ops) (hb : Bk rest) : opF K.ops (o ++ rest) = some o := by
  have h1 := (hK.ops o ho).1
  rw [← h1]
  unfold opF
  have : ∀ l : List (List UInt8), (∀ x ∈ l, x ∈ K.ops) → l.find? (fun x => x.isPrefixOf (o ++ rest)) = l.find? (fun x => x.isPrefixOf o) := by
    intro l
    induction l with
    | nil => intro _; rfl
    | cons x l ih =>
      intro hl
      have hx := (hK.ops x (hl x (by simp))).2.1
      have e : x.isPrefixOf (o ++ rest) = x.isPrefixOf o := by
        rw [Bool.eq_iff_iff]
        constructor
        · exact prefix_blank hx hb
        · intro h
          rw [List.isPrefixOf_iff_prefix] at h ⊢
          obtain ⟨s, e⟩ := h
          exact ⟨s ++ rest, by rw [← e]; simp⟩
      rw [List.find?_cons, List.find?_cons, e, ih fun y hy => hl y (by simp [hy])]
  exact this K.ops fun _ h => h
/-- A quoted text ends where it ends. -/
theorem end_quote {q : UInt8} (hq : okQ q) (rest : List UInt8) : ∀ l : List UInt8, endN q (escL q l ++ (q :: rest)) = some ((escL q l).length + 1)
  | [] => by
    show endN q (q :: rest) = _
    rw [endN, if_pos rfl]; rfl
  | b :: l => by
    have ih := end_quote hq rest l
    obtain ⟨hq1, hq2, hq3⟩ := okQ_ne hq
    have e0 : escL q (b :: l) = escB q b ++ escL q l := by simp [escL]
    rw [e0, List.append_assoc, List.length_append]
    generalize escL q l ++ (q :: rest) = r at ih
    generalize (escL q l).length = z at ih
    have h92 : ∀ (c : UInt8) (r : List UInt8), endN q (92 :: c :: r) = (endN q r).map (· + 2) := by
      intro c r
      rw [endN, if_neg (fun e => hq1 e.symm), if_neg (by decide), if_pos rfl]; rfl
    have hx : ∀ (n : Nat) (r : List UInt8), n < 16 → endN q (hexD n :: r) = (endN q r).map (· + 1) := fun n r h => hex_end hq (hexV_hexD n h) r
    have hbt := b.toNat_lt
    unfold escB
    split
    · show endN q (92 :: b :: r) = _
      rw [h92, ih]; simp; omega
    · rename_i h
      split
      · show endN q (92 :: 110 :: r) = _
        rw [h92, ih]; simp; omega
      · split
        · show endN q (92 :: 116 :: r) = _
          rw [h92, ih]; simp; omega
        · split
          · show endN q (92 :: 120 :: hexD (b.toNat / 16) :: hexD (b.toNat % 16) :: r) = _
            rw [h92, hx _ _ (by omega), hx _ _ (by omega), ih]; simp; omega
          · rename_i h1
            show endN q (b :: r) = _
            rw [endN, if_neg (fun e => h (.inl e)), if_neg h1, if_neg (fun e => h (.inr e)), ih]; simp; omega
theorem end_quoteL {q : UInt8} (hq : okQ q) (l rest : List UInt8) : ∃ r j, quoteL q l ++ rest = q :: r ∧ endN q r = some j ∧ (quoteL q l).length = j + 1 ∧ (q :: r).take (j + 1) = quoteL q l := by
  refine ⟨escL q l ++ [q] ++ rest, (escL q l).length + 1, by simp [quoteL], ?_, by simp [quoteL], ?_⟩
  · rw [List.append_assoc]; exact end_quote hq rest l
  · have e : q :: (escL q l ++ [q] ++ rest) = quoteL q l ++ rest := by simp [quoteL]
    rw [e, List.take_append_of_le_length (by simp [quoteL])]
    exact List.take_of_length_le (by simp [quoteL])
/-- A byte that may begin a token. -/
def Begs (b : UInt8) : Prop := b ≠ 10 ∧ ¬ (b = 32 ∨ b = 9) ∧ b ≠ 35
theorem begs_let {b : UInt8} (h : letB b = true) : Begs b := by
  unfold letB at h
  simp only [decide_eq_true_eq] at h
  refine ⟨?_, ?_, ?_⟩
  · rintro rfl; revert h; decide
  · rintro (rfl | rfl) <;> (revert h; decide)
  · rintro rfl; revert h; decide
theorem begs_dig {b : UInt8} (h : digB b = true) : Begs b := by
  unfold digB at h
  simp only [decide_eq_true_eq] at h
  refine ⟨?_, ?_, ?_⟩
  · rintro rfl; revert h; decide
  · rintro (rfl | rfl) <;> (revert h; decide)
  · rintro rfl; revert h; decide
/-- The text of a token gives the token again. -/
theorem lex1_again (hK : LxOk K) {k : Int} {t rest : List UInt8} (h : GoodT K k t) (hb : Bk rest) : lex1 K (tokL k t ++ rest) = some (k, t, (tokL k t).length) ∧ ∃ b r, tokL k t ++ rest = b :: r ∧ Begs b := by
  rcases h with ⟨rfl, ⟨b, r, rfl, hl⟩, ha, hr, hn⟩ | ⟨rfl, ⟨b, r, rfl, hl⟩, ha, hr⟩ | ⟨rfl, v, hv, rfl⟩ | ⟨rfl, hlen⟩ | ⟨rfl, hc⟩ | ⟨rfl, ⟨b, r, rfl, hl⟩, ha, hk⟩ | ⟨rfl, ho⟩
  · show lex1 K ((b :: r) ++ rest) = some (1, b :: r, (b :: r).length) ∧ _
    have hw : wordL (b :: (r ++ rest)) = b :: r := take_all (b :: r) rest ha (hb.stop ldB_32)
    refine ⟨?_, b, r ++ rest, rfl, begs_let hl⟩
    rw [List.cons_append]; unfold lex1
    simp only [hl, if_true, hw]
    simp [lexW, hr, hn]
  · show lex1 K ((b :: r) ++ rest) = some (2, b :: r, (b :: r).length) ∧ _
    have hw : wordL (b :: (r ++ rest)) = b :: r := take_all (b :: r) rest ha (hb.stop ldB_32)
    refine ⟨?_, b, r ++ rest, rfl, begs_let hl⟩
    rw [List.cons_append]; unfold lex1
    simp only [hl, if_true, hw]
    simp [lexW, hr]
  · show lex1 K (Lib.decDigits v ++ rest) = some (3, Lib.decDigits v, (Lib.decDigits v).length) ∧ ∃ b r, Lib.decDigits v ++ rest = b :: r ∧ Begs b
    have hio := io_dec hv
    have ha : (Lib.decDigits v).all ldB = true := by
      rw [List.all_eq_true]
      intro x hx
      have := List.all_eq_true.1 (decDigits_val v).2 x hx
      simp [ldB, dig_isDig, this]
    obtain ⟨b, r, e, hd⟩ := dec_first v
    rw [e] at ha hio ⊢
    have hw : wordL (b :: (r ++ rest)) = b :: r := take_all (b :: r) rest ha (hb.stop ldB_32)
    refine ⟨?_, b, r ++ rest, rfl, begs_dig hd⟩
    rw [List.cons_append]; unfold lex1
    simp only [letB_not_dig hd, hd, if_true, if_false, Bool.false_eq_true, hw, lexI]
    rw [hio]
    simp only [if_true]
    rw [itoa_pos, e]
  · rw [tokL_4]
    obtain ⟨r, j, e1, e2, e3, e4⟩ := end_quoteL (.inl rfl) t rest
    rw [e1, e3]
    refine ⟨?_, 34, r, rfl, by unfold Begs; decide⟩
    unfold lex1
    simp only [show letB 34 = false from by decide, show digB 34 = false from by decide, if_false, Bool.false_eq_true, if_true, e2, Option.bind_some, lexS, e4]
    rw [unqL_quote (.inl rfl)]
    simp [hlen]
  · rw [tokL_5]
    obtain ⟨r, j, e1, e2, e3, e4⟩ := end_quoteL (.inr rfl) t rest
    rw [e1, e3]
    refine ⟨?_, 39, r, rfl, by unfold Begs; decide⟩
    unfold lex1
    simp only [show letB 39 = false from by decide, show digB 39 = false from by decide, if_false, Bool.false_eq_true, if_true, show ¬ (39 : UInt8) = 34 from by decide, e2, Option.bind_some, lexC, e4]
    rw [unqL_quote (.inr rfl)]
    simp [hc]
  · rw [tokL_6]
    have hw : ((b :: r) ++ rest).takeWhile letB = b :: r := take_all (b :: r) rest ha (hb.stop letB_32)
    refine ⟨?_, 38, (b :: r) ++ rest, rfl, by unfold Begs; decide⟩
    show lex1 K (38 :: ((b :: r) ++ rest)) = _
    unfold lex1
    simp only [show letB 38 = false from by decide, show digB 38 = false from by decide, if_false, Bool.false_eq_true, show ¬ (38 : UInt8) = 34 from by decide, show ¬ (38 : UInt8) = 39 from by decide]
    rw [if_pos ⟨trivial, by simp [hl]⟩, hw]
    simp [lexK, hk]
  · show lex1 K (t ++ rest) = some (7, t, t.length) ∧ ∃ b r, t ++ rest = b :: r ∧ Begs b
    have hf := opF_again hK ho hb
    obtain ⟨_, _, b, r, rfl, h1, h2, h3, h4, h5, h6, h7, h8, h9⟩ := hK.ops t ho
    refine ⟨?_, b, r ++ rest, rfl, h5, by rintro (h | h) <;> contradiction, h8⟩
    rw [List.cons_append] at hf ⊢
    unfold lex1
    simp only [h1, h2, h3, h4, if_false, Bool.false_eq_true]
    rw [if_neg]
    · rw [lexO, hf]; rfl
    · rintro ⟨e, hc⟩
      rw [h9 e] at hc
      rcases hb with rfl | ⟨r', rfl⟩
      · cases hc
      · simp [letB_32] at hc
/-- The texts of tokens with blanks between. -/
def jnT : List (Int × List UInt8) → List UInt8
  | [] => []
  | [x] => tokL x.1 x.2
  | x :: y :: r => tokL x.1 x.2 ++ 32 :: jnT (y :: r)
theorem jnT_join : ∀ l : List (Int × List UInt8), jnT l = Lib.join (l.map fun x => tokL x.1 x.2) [32]
  | [] => rfl
  | [x] => by rw [jnT, List.map_cons, List.map_nil, Lib.join_one]
  | x :: y :: r => by
    have ih := jnT_join (y :: r)
    rw [jnT, ih, List.map_cons, List.map_cons, List.map_cons, Lib.join_cons, Lib.join_cons]
    simp [Lib.joinTail]
/-- The texts of tokens, with blanks between, give the same tokens. -/
theorem lexL_again (hK : LxOk K) (line : Nat) : ∀ (l : List (Int × List UInt8)) (out : List Tk), (∀ x ∈ l, GoodT K x.1 x.2) → lexL K (jnT l) line false out = (out ++ l.map fun x => ⟨x.1, x.2, line⟩, 0)
  | [], out, _ => by rw [jnT, lexL_nil]; simp
  | [x], out, h => by
    obtain ⟨h1, b, r, e, hb1, hb2, hb3⟩ := lex1_again hK (h x (by simp)) (rest := []) (.inl rfl)
    rw [List.append_nil] at h1 e
    rw [jnT]
    rw [e] at h1 ⊢
    rw [lexL_tok K hb1 hb2 hb3 h1]
    have : r.drop ((b :: r).length - 1) = [] := by simp
    rw [this, lexL_nil]
    have hs : sepK K false out x.1 x.2 = [] := by unfold sepK; split <;> simp
    rw [hs]; simp
  | x :: y :: r', out, h => by
    obtain ⟨h1, b, r, e, hb1, hb2, hb3⟩ := lex1_again hK (h x (by simp)) (rest := 32 :: jnT (y :: r')) (.inr ⟨_, rfl⟩)
    have hgood := (lex1_good hK h1).2
    rw [jnT]
    have hd : (b :: r).drop (tokL x.1 x.2).length = 32 :: jnT (y :: r') := by rw [← e, List.drop_left]
    have hd2 : r.drop ((tokL x.1 x.2).length - 1) = 32 :: jnT (y :: r') := by
      rw [← hd]
      obtain ⟨n, hn⟩ : ∃ n, (tokL x.1 x.2).length = n + 1 := ⟨(tokL x.1 x.2).length - 1, by omega⟩
      rw [hn]; rfl
    rw [e] at h1 ⊢
    rw [lexL_tok K hb1 hb2 hb3 h1, hd2, lexL_bl K (.inl rfl)]
    have hs : sepK K false out x.1 x.2 = [] := by unfold sepK; split <;> simp
    rw [hs, lexL_again hK line (y :: r') _ fun z hz => h z (by simp [hz])]
    simp
/-- All tokens that the parting gives are such as it can give, and their texts are not long. -/
def wtT : List Tk → Nat
  | [] => 0
  | x :: r => (tokL x.k x.t).length + 1 + wtT r
theorem wtT_append : ∀ a b : List Tk, wtT (a ++ b) = wtT a + wtT b
  | [], b => by simp [wtT]
  | x :: a, b => by simp [wtT, wtT_append a b]; omega
theorem lexL_good (hK : LxOk K) : ∀ (n : Nat) (m : List UInt8), m.length ≤ n → ∀ (line : Nat) (fed : Bool) (out : List Tk), (∀ x ∈ out, GoodT K x.k x.t) →
    (∀ x ∈ (lexL K m line fed out).1, GoodT K x.k x.t) ∧ wtT (lexL K m line fed out).1 ≤ wtT out + 15 * m.length := by
  intro n
  induction n with
  | zero =>
    intro m hm line fed out ho
    obtain rfl : m = [] := List.eq_nil_of_length_eq_zero (by omega)
    rw [lexL_nil]; exact ⟨ho, by simp⟩
  | succ n ih =>
    intro m hm line fed out ho
    cases m with
    | nil => rw [lexL_nil]; exact ⟨ho, by simp⟩
    | cons b r =>
      have hr : r.length ≤ n := by simp at hm; omega
      by_cases h1 : b = 10
      · rw [lexL_nl K h1]
        have := ih r hr (line + 1) true out ho
        exact ⟨this.1, by simp; omega⟩
      · by_cases h2 : b = 32 ∨ b = 9
        · rw [lexL_bl K h2]
          have := ih r hr line fed out ho
          exact ⟨this.1, by simp; omega⟩
        · by_cases h3 : b = 35
          · rw [lexL_cm K h3]
            have hle := (List.dropWhile_sublist (fun x => x != (10 : UInt8)) (l := r)).length_le
            have := ih (r.dropWhile (fun x => x != (10 : UInt8))) (by omega) line fed out ho
            exact ⟨this.1, by simp; omega⟩
          · cases hx : lex1 K (b :: r) with
            | none => rw [lexL_no K h1 h2 h3 hx]; exact ⟨fun x hx => by simp at hx, by simp [wtT]⟩
            | some p =>
              obtain ⟨k, t, j⟩ := p
              obtain ⟨hg, hj1, hj2, hw⟩ := lex1_good hK hx
              rw [lexL_tok K h1 h2 h3 hx]
              have hs : (∀ x ∈ sepK K fed out k t, GoodT K x.k x.t) ∧ wtT (sepK K fed out k t) ≤ 2 := by
                unfold sepK
                split
                · exact ⟨fun x hx => by simp at hx, by simp [wtT]⟩
                · split
                  · refine ⟨fun x hx => ?_, by simp [wtT, tokL]⟩
                    rw [List.mem_singleton] at hx
                    subst hx
                    exact .inr (.inr (.inr (.inr (.inr (.inr ⟨rfl, hK.semi⟩)))))
                  · exact ⟨fun x hx => by simp at hx, by simp [wtT]⟩
              have hall : ∀ x ∈ out ++ sepK K fed out k t ++ [⟨k, t, line⟩], GoodT K x.k x.t := by
                intro x hx
                simp only [List.mem_append, List.mem_singleton] at hx
                rcases hx with (hx | hx) | rfl
                · exact ho x hx
                · exact hs.1 x hx
                · exact hg
              have := ih (r.drop (j - 1)) (by simp; omega) line false _ hall
              refine ⟨this.1, Nat.le_trans this.2 ?_⟩
              rw [wtT_append, wtT_append]
              simp only [wtT, List.length_drop, List.length_cons] at hj2 ⊢
              have := hs.2
              omega
theorem join_wt : ∀ l : List Tk, (jnT (l.map fun x => (x.k, x.t))).length ≤ wtT l
  | [] => by simp [jnT, wtT]
  | [x] => by simp [jnT, wtT]
  | x :: y :: r => by
    have ih := join_wt (y :: r)
    simp only [List.map_cons, jnT, wtT, List.length_append, List.length_cons] at ih ⊢
    omega
end Go.Proofs.YtanmkeoieckebaaDoor
