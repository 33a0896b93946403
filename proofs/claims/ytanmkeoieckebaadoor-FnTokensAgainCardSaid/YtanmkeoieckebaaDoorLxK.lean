/- Proved here: the tests for words of this program as the parting into tokens wants them; where a run of bytes ends. No condition. Proved here: the tests for words of this program are such as the parting into tokens wants them; one round of the parting by index. No condition. -/
import Derived.Test.YtanmkeoieckebaaDoorOx
import Derived.Test.YtanmkeoieckebaaDoorBe
import Derived.Test.YtanmkeoieckebaaDoorNm
import Derived.Test.YtanmkeoieckebaaDoorSe
import Derived.Test.YtanmkeoieckebaaDoorUc
import Derived.Test.YtanmkeoieckebaaDoorIo
import Derived.Test.YtanmkeoieckebaaDoorFm
import Derived.Test.YtanmkeoieckebaaDoorGr
namespace Go.Proofs.YtanmkeoieckebaaDoor
open Go.RowKit

/-- The tests for words. -/
def KK : Lxk where
  res := fun l => Lib.containsS zIsReserved (mkT l)
  nm := fun l => nameB (mkT l)
  kw := fun l => Lib.containsS zIsKeyword (mkT l)
  cst := fun l => if (newC l).2 then some (csetL (newC l).1.1 (newC l).1.2) else none
  ops := opsL
  begs := fun k t => rBeg k (mkT t)
  ends := fun k t => rEnd k (mkT t)
/-- What one step gives: a token and its length. -/
def lexR (o : Option (Int × List UInt8 × Nat)) : Value := match o with
  | none => .tuple #[tkV 0 ⟨#[]⟩ 0, .int .i64 0]
  | some (k, t, n) => .tuple #[tkV k (mkT t) 0, .int .i64 (n : Int)]
/-- The same, the reference's way: the index behind it, or -1. -/
def lexRi (i : Nat) (o : Option (Int × List UInt8 × Nat)) : Value := match o with
  | none => .tuple #[tkV 0 ⟨#[]⟩ 0, .int .i64 (-1)]
  | some (k, t, n) => .tuple #[tkV k (mkT t) 0, .int .i64 ((i + n : Nat) : Int)]
/-- Where the run of bytes that meet p ends, from i on. -/
def endOf (p : UInt8 → Bool) (s : ByteArray) (i : Nat) : Nat := i + ((s.data.toList.drop i).takeWhile p).length
theorem tw_get {p : UInt8 → Bool} : ∀ (m : List UInt8) (i : Nat), i < (m.takeWhile p).length → ∃ h : i < m.length, p m[i] = true
  | [], i, h => by simp at h
  | b :: r, i, h => by
    by_cases hb : p b = true
    · rw [List.takeWhile_cons, if_pos hb] at h
      cases i with
      | zero => exact ⟨by simp, hb⟩
      | succ i =>
        obtain ⟨h1, h2⟩ := tw_get r i (by simpa using h)
        exact ⟨by simpa using h1, h2⟩
    · rw [List.takeWhile_cons, if_neg hb] at h; simp at h
theorem tw_stop {p : UInt8 → Bool} : ∀ (m : List UInt8) (h : (m.takeWhile p).length < m.length), p (m[(m.takeWhile p).length]'h) = false
  | [], h => by simp at h
  | b :: r, h => by
    by_cases hb : p b = true
    · have e : (b :: r).takeWhile p = b :: r.takeWhile p := by rw [List.takeWhile_cons, if_pos hb]
      have h2 : (r.takeWhile p).length < r.length := by rw [e] at h; simpa using h
      have := tw_stop r h2
      simp only [e, List.length_cons, List.getElem_cons_succ]
      exact this
    · have e : (b :: r).takeWhile p = [] := by rw [List.takeWhile_cons, if_neg hb]
      simp only [e, List.length_nil, List.getElem_cons_zero]
      simpa using hb
theorem tw_take {p : UInt8 → Bool} (m : List UInt8) : m.takeWhile p = m.take (m.takeWhile p).length := by
  have := List.takeWhile_prefix (l := m) p
  obtain ⟨t, ht⟩ := this
  conv => rhs; rw [← ht]
  rw [ht]
  rw [← ht, List.take_append_of_le_length]
  · rw [ht, List.take_of_length_le (Nat.le_refl _)]
  · rw [ht]; exact Nat.le_refl _
theorem eo_le {p : UInt8 → Bool} {s : ByteArray} {i : Nat} (h : i ≤ s.size) : endOf p s i ≤ s.size := by
  have := take_le (p := p) (s.data.toList.drop i)
  have hz : s.data.toList.length = s.size := rfl
  rw [List.length_drop, hz] at this
  unfold endOf; omega
theorem eo_ge (p : UInt8 → Bool) (s : ByteArray) (i : Nat) : i ≤ endOf p s i := by unfold endOf; omega
theorem eo_in {p : UInt8 → Bool} {s : ByteArray} {i n : Nat} (h1 : i ≤ n) (h2 : n < endOf p s i) : ∃ h : n < s.size, p s[n] = true := by
  unfold endOf at h2
  obtain ⟨h3, h4⟩ := tw_get (p := p) (s.data.toList.drop i) (n - i) (by omega)
  have hz : s.data.toList.length = s.size := rfl
  rw [List.length_drop, hz] at h3
  refine ⟨by omega, ?_⟩
  rw [List.getElem_drop] at h4
  have e : i + (n - i) = n := by omega
  simp only [e] at h4
  exact h4
theorem eo_stop {p : UInt8 → Bool} {s : ByteArray} {i : Nat} (h : endOf p s i < s.size) : p (s[endOf p s i]'h) = false := by
  have hz : s.data.toList.length = s.size := rfl
  have h2 : ((s.data.toList.drop i).takeWhile p).length < (s.data.toList.drop i).length := by rw [List.length_drop, hz]; unfold endOf at h; omega
  have := tw_stop _ h2
  rw [List.getElem_drop] at this
  exact this
theorem eo_ext (p : UInt8 → Bool) (s : ByteArray) (i : Nat) : s.extract i (endOf p s i) = mkT ((s.data.toList.drop i).takeWhile p) := by
  rw [mkT, Lib.extract_eq]
  congr 2
  conv => rhs; rw [tw_take]
  congr 1
  unfold endOf; omega
theorem eo_one {p : UInt8 → Bool} {s : ByteArray} {i : Nat} (h : i < s.size) (hp : p s[i] = true) : endOf p s i = endOf p s (i + 1) := by
  unfold endOf
  have hz : s.data.toList.length = s.size := rfl
  rw [List.drop_eq_getElem_cons (by omega), List.takeWhile_cons, if_pos (show p s.data.toList[i] = true from hp), List.length_cons]; omega
theorem list_cons {s : ByteArray} (h : 0 < s.size) : s.data.toList = s[0] :: s.data.toList.drop 1 := by
  have hz : s.data.toList.length = s.size := rfl
  have := List.drop_eq_getElem_cons (l := s.data.toList) (i := 0) (by omega)
  rw [List.drop_zero] at this
  exact this
theorem ldB_let {x : UInt8} (h : letB x = true) : ldB x = true := by unfold ldB; rw [h]; rfl
theorem ldB_dig {x : UInt8} (h : digB x = true) : ldB x = true := by unfold ldB; rw [h]; simp
theorem ldB_not {x : UInt8} (h : ldB x = false) : letB x = false ∧ digB x = false := by unfold ldB at h; simpa using h
theorem ret_v {a b : Value} (h : a = b) : Ending.returned a = .returned b := by rw [h]
theorem let_not_dig {x : UInt8} (h : letB x = true) : digB x = false := by
  cases hd : digB x with
  | false => rfl
  | true => rw [let_dig hd] at h; cases h
end Go.Proofs.YtanmkeoieckebaaDoor

namespace Go.Proofs.YtanmkeoieckebaaDoor
open Go.RowKit

def opT (o : List UInt8) : Bool := (opF opsL o == some o) && (!o.contains 32 && match o with
  | [] => false
  | b :: r => !letB b && (!digB b && (b != 34 && (b != 39 && (b != 10 && (b != 32 && (b != 9 && (b != 35 && (b != 38 || r.isEmpty)))))))))
theorem ops_T : opsL.all opT = true := by decide +kernel
theorem filt_or {α : Type} (p q r : α → Bool) (h : ∀ x, p x = true → q x = true ∨ r x = true) : ∀ A : List α, (A.filter p).length ≤ (A.filter q).length + (A.filter r).length
  | [] => by simp
  | x :: A => by
    have ih := filt_or p q r h A
    simp only [List.filter_cons]
    cases hp : p x with
    | false => simp only [Bool.false_eq_true, if_false]; split <;> split <;> simp <;> omega
    | true =>
      rcases h x hp with hq | hr
      · rw [if_pos rfl, if_pos hq]; split <;> simp <;> omega
      · rw [if_pos rfl, if_pos hr]; split <;> simp <;> omega
theorem filt_one (x : Nat) : ∀ A : List Nat, A.Pairwise (· < ·) → (A.filter fun k => decide (k = x)).length ≤ 1
  | [], _ => by simp
  | a :: A, h => by
    rw [List.pairwise_cons] at h
    rw [List.filter_cons]
    by_cases e : a = x
    · rw [if_pos (by simpa using e)]
      have : A.filter (fun k => decide (k = x)) = [] := by
        rw [List.filter_eq_nil_iff]
        intro k hk
        have := h.1 k hk
        simp; omega
      rw [this]; simp
    · rw [if_neg (by simpa using e)]
      exact filt_one x A h.2
theorem filt_mem (A : List Nat) (hA : A.Pairwise (· < ·)) : ∀ L : List Nat, (A.filter fun k => decide (k ∈ L)).length ≤ L.length
  | [] => by simp
  | x :: L => by
    have ih := filt_mem A hA L
    have h1 := filt_one x A hA
    have h2 := filt_or (fun k => decide (k ∈ x :: L)) (fun k => decide (k = x)) (fun k => decide (k ∈ L)) (fun k hk => by simpa using hk) A
    simp only [List.length_cons]; omega
theorem cset_len {l : List UInt8} (h : l.all low = true) : (csetL (foldB l).1 (foldB l).2).length ≤ l.length := by
  have e : (List.range 128).filter (hasB (foldB l).1 (foldB l).2) = (List.range 128).filter fun k => decide (k ∈ l.map UInt8.toNat) :=
    List.filter_congr fun j hj => fold_has l h j (by simpa using hj)
  unfold csetL csetPre
  rw [List.length_map, e]
  have := filt_mem (List.range 128) (List.pairwise_lt_range) (l.map UInt8.toNat)
  simpa using this
theorem kkOk : LxOk KK where
  ops := fun o ho => by
    have h := List.all_eq_true.1 ops_T o ho
    unfold opT at h
    simp only [Bool.and_eq_true, beq_iff_eq, Bool.not_eq_true'] at h
    obtain ⟨h1, h2, h3⟩ := h
    refine ⟨h1, fun hm => ?_, ?_⟩
    · have : o.contains 32 = true := by simpa using hm
      rw [h2] at this; cases this
    · cases o with
      | nil => simp at h3
      | cons b r =>
        simp only [Bool.and_eq_true, Bool.or_eq_true, Bool.not_eq_true', bne_iff_ne, ne_eq, List.isEmpty_iff] at h3
        obtain ⟨a1, a2, a3, a4, a5, a6, a7, a8, a9⟩ := h3
        exact ⟨b, r, rfl, a1, a2, a3, a4, a5, a6, a7, a8, fun e => by rcases a9 with h | h; exact absurd e h; exact h⟩
  semi := by decide +kernel
  cst := fun x t h => by
    replace h : (if (newC x).2 then some (csetL (newC x).1.1 (newC x).1.2) else none) = some t := h
    show (if (newC t).2 then some (csetL (newC t).1.1 (newC t).1.2) else none) = some t
    by_cases hx : x.all low = true
    · rw [newC_yes hx] at h
      have h2 : csetL (foldB x).1 (foldB x).2 = t := by simpa using h
      have hr := csetL_rise (foldB x).1 (foldB x).2
      rw [h2] at hr
      rw [newC_yes hr.2]
      simp only [if_true]
      rw [csetL_fold hr.1 hr.2]
    · rw [newC_no (by simpa using hx)] at h; simp at h
  len := fun x t h => by
    replace h : (if (newC x).2 then some (csetL (newC x).1.1 (newC x).1.2) else none) = some t := h
    by_cases hx : x.all low = true
    · rw [newC_yes hx] at h
      have h2 : csetL (foldB x).1 (foldB x).2 = t := by simpa using h
      rw [← h2]; exact cset_len hx
    · rw [newC_no (by simpa using hx)] at h; simp at h

section
variable {s : ByteArray} {i : Nat}
theorem drop_at (h : i < s.size) : s.data.toList.drop i = s[i] :: s.data.toList.drop (i + 1) := List.drop_eq_getElem_cons (show i < s.data.toList.length from h)
theorem L_end (h : s.size ≤ i) (line : Nat) (fed : Bool) (out : List Tk) : lexL KK (s.data.toList.drop i) line fed out = (out, 0) := by
  rw [List.drop_eq_nil_of_le (by simpa using h), lexL_nil]
theorem L_nl (h : i < s.size) (e : s[i] = 10) (line : Nat) (fed : Bool) (out : List Tk) : lexL KK (s.data.toList.drop i) line fed out = lexL KK (s.data.toList.drop (i + 1)) (line + 1) true out := by
  rw [drop_at h, lexL_nl KK e]
theorem L_bl (h : i < s.size) (e : s[i] = 32 ∨ s[i] = 9) (line : Nat) (fed : Bool) (out : List Tk) : lexL KK (s.data.toList.drop i) line fed out = lexL KK (s.data.toList.drop (i + 1)) line fed out := by
  rw [drop_at h, lexL_bl KK e]
theorem dropWhile_eq {p : UInt8 → Bool} : ∀ m : List UInt8, m.dropWhile p = m.drop (m.takeWhile p).length
  | [] => rfl
  | b :: r => by
    by_cases h : p b = true
    · rw [List.dropWhile_cons, if_pos h, List.takeWhile_cons, if_pos h, List.length_cons, List.drop_succ_cons]; exact dropWhile_eq r
    · rw [List.dropWhile_cons, if_neg h, List.takeWhile_cons, if_neg h]; rfl
/-- Where a remark ends. -/
def cmE (s : ByteArray) (i : Nat) : Nat := endOf (fun x => x != 10) s i
theorem L_cm (h : i < s.size) (e : s[i] = 35) (line : Nat) (fed : Bool) (out : List Tk) : lexL KK (s.data.toList.drop i) line fed out = lexL KK (s.data.toList.drop (cmE s i)) line fed out := by
  have hE : cmE s i = endOf (fun x => x != 10) s (i + 1) := eo_one h (by rw [e]; decide)
  conv => lhs; rw [drop_at h, lexL_cm KK e, dropWhile_eq, List.drop_drop]
  rw [hE]; rfl
theorem L_no (h : i < s.size) (h1 : s[i] ≠ 10) (h2 : ¬ (s[i] = 32 ∨ s[i] = 9)) (h3 : s[i] ≠ 35) (hx : lex1 KK (s.data.toList.drop i) = none) (line : Nat) (fed : Bool) (out : List Tk) : lexL KK (s.data.toList.drop i) line fed out = ([], line) := by
  rw [drop_at h] at hx ⊢
  exact lexL_no KK h1 h2 h3 hx line fed out
theorem L_tok (h : i < s.size) (h1 : s[i] ≠ 10) (h2 : ¬ (s[i] = 32 ∨ s[i] = 9)) (h3 : s[i] ≠ 35) {k : Int} {t : List UInt8} {n : Nat} (hx : lex1 KK (s.data.toList.drop i) = some (k, t, n)) (line : Nat) (fed : Bool) (out : List Tk) :
    lexL KK (s.data.toList.drop i) line fed out = lexL KK (s.data.toList.drop (i + n)) line false (out ++ sepK KK fed out k t ++ [⟨k, t, line⟩]) := by
  have hn := (lex1_good kkOk hx).2.1
  rw [drop_at h] at hx
  conv => lhs; rw [drop_at h]
  rw [lexL_tok KK h1 h2 h3 hx, List.drop_drop, show i + 1 + (n - 1) = i + n by omega]
theorem ext_drop (s : ByteArray) (i : Nat) : (s.extract i s.size).data.toList = s.data.toList.drop i := by
  have hz : s.data.toList.length = s.size := rfl
  rw [ByteArray.data_extract, Array.toList_extract, List.extract_eq_take_drop, List.take_of_length_le (by rw [List.length_drop]; omega)]
theorem sep_no {out : List Tk} {k : Int} {t : List UInt8} : sepK KK false out k t = [] := by unfold sepK; cases out.getLast? <;> rfl
theorem sep_nil {fed : Bool} {k : Int} {t : List UInt8} : sepK KK fed [] k t = [] := rfl
theorem sep_last {fed : Bool} {out : List Tk} {j : Nat} (h : j < out.length) (hj : j + 1 = out.length) {k : Int} {t : List UInt8} : sepK KK fed out k t = if fed && (rEnd out[j].k (mkT out[j].t) && rBeg k (mkT t)) then [⟨7, [59], out[j].l⟩] else [] := by
  have e : out.getLast? = some out[j] := by
    rw [List.getLast?_eq_getElem?, show out.length - 1 = j by omega, List.getElem?_eq_getElem h]
  unfold sepK
  rw [e]; rfl
end
/-- What the parting of a whole text gives. -/
def lexT (s : ByteArray) : List Tk × Nat := if 6000 < s.size then ([], 1) else lexL KK s.data.toList 1 false []
end Go.Proofs.YtanmkeoieckebaaDoor
