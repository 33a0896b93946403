/- Proved here: what TokenText returns, of the program and of the reference; the law's small functions on tokens. Condition: a text has at most 2^20 bytes. -/
import Derived.Test.YtnmieocbpdoicaaNc
import Derived.Test.YtnmieocbpdoicaaQc
import Derived.ChangeSame
namespace Go.Proofs.Ytnmieocbpdoicaa
open Go.RowKit

/-- A token as a value. -/
def tkV (k : Int) (t : ByteArray) (l : Int) : Value := .agg #[.int .i64 k, .string t, .int .i64 l]
/-- The text of a token. -/
def tokT (k : Int) (t : ByteArray) : ByteArray :=
  if k = 4 then ⟨(quoteL 34 t.data.toList).toArray⟩ else if k = 5 then ⟨(quoteL 39 (csetL (newC t.data.toList).1.1 (newC t.data.toList).1.2)).toArray⟩ else if k = 6 then ⟨#[38]⟩ ++ t else t
theorem tokT4 (t : ByteArray) : tokT 4 t = ⟨(quoteL 34 t.data.toList).toArray⟩ := if_pos rfl
theorem tokT5 (t : ByteArray) : tokT 5 t = ⟨(quoteL 39 (csetL (newC t.data.toList).1.1 (newC t.data.toList).1.2)).toArray⟩ := by rw [tokT, if_neg (by decide), if_pos rfl]
theorem tokT6 (t : ByteArray) : tokT 6 t = ⟨#[38]⟩ ++ t := by rw [tokT, if_neg (by decide), if_neg (by decide), if_pos rfl]
theorem tokT0 {k : Int} (t : ByteArray) (h4 : k ≠ 4) (h5 : k ≠ 5) (h6 : k ≠ 6) : tokT k t = t := by rw [tokT, if_neg h4, if_neg h5, if_neg h6]
theorem ret_s {a b : ByteArray} (h : a = b) : Ending.returned (.string a) = .returned (.string b) := by rw [h]
theorem ret_nat {a b : Nat} (h : a = b) : Ending.returned (.int .i64 (a : Int)) = .returned (.int .i64 (b : Int)) := by rw [h]
theorem growT {w W w' : World} (h : Below w.heap.size w W) (h1 : Below W.heap.size W w') : Below w.heap.size w w' := h.trans (h1.mono h.size)
set_option maxHeartbeats 2000000 in
theorem implTokenText (k : Int) (t : ByteArray) (l : Int) (ht : t.size ≤ 1048576) (w : World) : Calls Try.prog 62 #[tkV k t l] w fun e w' => e = .returned (.string (tokT k t)) ∧ Below w.heap.size w w' := by
  unfold tkV
  by_cases h4 : k = 4
  · subst h4
    have hE := Lib.hid (tokT4 t)
    go_enter Try.func62, Try.ntmps62
    go_wp2_with (go_at_call 89; refine (implQuoteText _ ht _).mono ?_; rintro e w1 ⟨rfl, hb1⟩)
    go_ret
    exact ⟨ret_s hE.out.symm, growT (by repeat (first | exact Below.refl _ _ | refine Below.drew ?_ | refine Below.setCell ?_ (by (try simp); try omega) _ | refine Below.alloc ?_ (by (try simp); try omega) _)) hb1⟩
  · by_cases h5 : k = 5
    · subst h5
      have hE := Lib.hid (tokT5 t)
      go_enter Try.func62, Try.ntmps62
      go_wp2_with (first
        | (go_at_call 48; refine (implNew t ht _).mono ?_; rintro e w1 ⟨rfl, hb1⟩)
        | (go_at_call 24; refine (implQuoteCset _ _ _).mono ?_; rintro e w2 ⟨rfl, hb2⟩))
      go_ret
      have hbb := growT (w := w) (by repeat (first | exact Below.refl _ _ | refine Below.drew ?_ | refine Below.setCell ?_ (by (try simp); try omega) _ | refine Below.alloc ?_ (by (try simp); try omega) _)) hb1
      have hzz := hbb.size
      exact ⟨ret_s hE.out.symm, growT (by repeat (first | exact hbb | refine Below.drew ?_ | refine Below.setCell ?_ (by (try simp); try omega) _ | refine Below.alloc ?_ (by (try simp); try omega) _)) hb2⟩
    · have b4 : (k == 4) = false := by rw [beq_eq_false_iff_ne]; exact h4
      have b5 : (k == 5) = false := by rw [beq_eq_false_iff_ne]; exact h5
      by_cases h6 : k = 6
      · subst h6
        have hE := Lib.hid (tokT6 t)
        clear h4 h5 b4 b5
        go_enter Try.func62, Try.ntmps62
        go_wp2
        go_ret
        exact ⟨ret_s hE.out.symm, by repeat (first | exact Below.refl _ _ | refine Below.drew ?_ | refine Below.setCell ?_ (by (try simp); try omega) _ | refine Below.alloc ?_ (by (try simp); try omega) _)⟩
      · have b6 : (k == 6) = false := by rw [beq_eq_false_iff_ne]; exact h6
        have hE := Lib.hid (tokT0 t h4 h5 h6)
        clear h4 h5 h6
        go_enter Try.func62, Try.ntmps62
        go_wp2
        go_ret
        exact ⟨ret_s hE.out.symm, by repeat (first | exact Below.refl _ _ | refine Below.drew ?_ | refine Below.setCell ?_ (by (try simp); try omega) _ | refine Below.alloc ?_ (by (try simp); try omega) _)⟩
set_option maxHeartbeats 2000000 in
theorem specTokenText (k : Int) (t : ByteArray) (l : Int) (ht : t.size ≤ 1048576) (w : World) : Calls Try.prog 60 #[tkV k t l] w fun e w' => e = .returned (.string (tokT k t)) ∧ Below w.heap.size w w' := by
  unfold tkV
  by_cases h4 : k = 4
  · subst h4
    have hE := Lib.hid (tokT4 t)
    go_enter Try.func60, Try.ntmps60
    go_wp2_with (go_at_call 87; refine (specQuoteText _ ht _).mono ?_; rintro e w1 ⟨rfl, hb1⟩)
    go_ret
    exact ⟨ret_s hE.out.symm, growT (by repeat (first | exact Below.refl _ _ | refine Below.drew ?_ | refine Below.setCell ?_ (by (try simp); try omega) _ | refine Below.alloc ?_ (by (try simp); try omega) _)) hb1⟩
  · by_cases h5 : k = 5
    · subst h5
      have hE := Lib.hid (tokT5 t)
      go_enter Try.func60, Try.ntmps60
      go_wp2_with (first
        | (go_at_call 88; refine (specNew t ht _).mono ?_; rintro e w1 ⟨rfl, hb1⟩)
        | (go_at_call 22; refine (specQuoteCset _ _ _).mono ?_; rintro e w2 ⟨rfl, hb2⟩))
      go_ret
      have hbb := growT (w := w) (by repeat (first | exact Below.refl _ _ | refine Below.drew ?_ | refine Below.setCell ?_ (by (try simp); try omega) _ | refine Below.alloc ?_ (by (try simp); try omega) _)) hb1
      have hzz := hbb.size
      exact ⟨ret_s hE.out.symm, growT (by repeat (first | exact hbb | refine Below.drew ?_ | refine Below.setCell ?_ (by (try simp); try omega) _ | refine Below.alloc ?_ (by (try simp); try omega) _)) hb2⟩
    · have b4 : (k == 4) = false := by rw [beq_eq_false_iff_ne]; exact h4
      have b5 : (k == 5) = false := by rw [beq_eq_false_iff_ne]; exact h5
      by_cases h6 : k = 6
      · subst h6
        have hE := Lib.hid (tokT6 t)
        clear h4 h5 b4 b5
        go_enter Try.func60, Try.ntmps60
        go_wp2
        go_ret
        exact ⟨ret_s hE.out.symm, by repeat (first | exact Below.refl _ _ | refine Below.drew ?_ | refine Below.setCell ?_ (by (try simp); try omega) _ | refine Below.alloc ?_ (by (try simp); try omega) _)⟩
      · have b6 : (k == 6) = false := by rw [beq_eq_false_iff_ne]; exact h6
        have hE := Lib.hid (tokT0 t h4 h5 h6)
        clear h4 h5 h6
        go_enter Try.func60, Try.ntmps60
        go_wp2
        go_ret
        exact ⟨ret_s hE.out.symm, by repeat (first | exact Below.refl _ _ | refine Below.drew ?_ | refine Below.setCell ?_ (by (try simp); try omega) _ | refine Below.alloc ?_ (by (try simp); try omega) _)⟩
theorem toTk (k : Int) (t : ByteArray) (l : Int) (w : World) : Calls Try.prog 61 #[tkV k t l] w fun e w' => e = .returned (tkV k t l) ∧ Below w.heap.size w w' := by
  unfold tkV
  go_enter Try.func61, Try.ntmps61
  go_wp2
  exact bodyPost_ret (v := .agg #[.int .i64 k, .string t, .int .i64 l]) (by simp [results, Try.results61, go_sem]) rfl ⟨rfl, by repeat (first | exact Below.refl _ _ | refine Below.drew ?_ | refine Below.setCell ?_ (by (try simp); try omega) _ | refine Below.alloc ?_ (by (try simp); try omega) _)⟩
theorem szTk_yes (k : Int) (t : ByteArray) (l : Int) {left : Nat} (h : t.size ≤ left) (hl : left ≤ 1048576) (w : World) : Calls Try.prog 59 #[tkV k t l, .int .i64 (left : Int)] w fun e w' => e = .returned (.int .i64 ((left - t.size : Nat) : Int)) ∧ Below w.heap.size w w' := by
  obtain ⟨m, hm⟩ : ∃ m, m = left - t.size := ⟨_, rfl⟩
  have hz : (left : Int) - (t.size : Int) = (m : Int) := by omega
  have hM := Lib.hid hm
  have b0 : decide ((m : Int) < 0) = false := by simp
  clear hm
  unfold tkV
  go_enter Try.func59, Try.ntmps59
  go_wp2
  go_ret
  exact ⟨ret_nat hM.out, by repeat (first | exact Below.refl _ _ | refine Below.drew ?_ | refine Below.setCell ?_ (by (try simp); try omega) _ | refine Below.alloc ?_ (by (try simp); try omega) _)⟩
theorem szTk_not (k : Int) (t : ByteArray) (l : Int) {left : Nat} (h : ¬ t.size ≤ left) (hl : left ≤ 1048576) (ht : t.size ≤ 9223372036854775807) (w : World) : Calls Try.prog 59 #[tkV k t l, .int .i64 (left : Int)] w fun e w' => e = .returned (.int .i64 (-1)) ∧ Below w.heap.size w w' := by
  have b0 : decide ((left : Int) - (t.size : Int) < 0) = true := by simp; omega
  unfold tkV
  go_enter Try.func59, Try.ntmps59
  go_wp2
  go_ret
  exact ⟨rfl, by repeat (first | exact Below.refl _ _ | refine Below.drew ?_ | refine Below.setCell ?_ (by (try simp); try omega) _ | refine Below.alloc ?_ (by (try simp); try omega) _)⟩
section
open Go.ChangeShapes Go.WideShapes Go.Joins
theorem cells_tk : Try.prog.cellsOf 72 = 3 := by kernel_rfl
variable {H : Type} {enc : TypeId × Value → H} {w : World} {spare : Nat → Bool} {held : Bool}
set_option maxRecDepth 20000 in
theorem open_tk {r : Reach} {b0 : Nat} {v : Value} {d : DataW H} {p : List MemPlace} (hv : Value.okWide Try.prog w r b0 72 v) (h : DataW.Trod enc Try.prog w 0 spare held 72 v d p) :
    ∃ k t l, v = tkV k t l ∧ t.size ≤ maxLen ∧ (-9223372036854775808 ≤ k ∧ k ≤ 9223372036854775807) ∧ (-9223372036854775808 ≤ l ∧ l ≤ 9223372036854775807) := by
  obtain ⟨v0, v1, v2, y0, y1, y2, m, rfl, -, -, t0, t1, t2⟩ := open_agg3 Try.underlying72 (by kernel_rfl) cells_tk hv h
  obtain ⟨k, ek, _, wk⟩ := DataW.trod_int Try.underlying3 t0
  obtain ⟨t, et, _, wt⟩ := DataW.trod_string Try.underlying9 t1
  obtain ⟨l, el, _, wl⟩ := DataW.trod_int Try.underlying3 t2
  simp only [List.cons.injEq, and_true] at ek et el
  subst ek et el
  exact ⟨k, t, l, rfl, wt, int_bd wk, int_bd wl⟩
end
end Go.Proofs.Ytnmieocbpdoicaa
