/- Proved here: how a token lies as a value, and what the law's small functions on tokens do. Condition: a text fits. -/
import Derived.Test.YtddhgepnoijpoaaDoorHeld
import Derived.Test.YtddhgepnoijpoaaDoorBase
import Derived.ChangeSame
import Derived.Lib.Hide
namespace Go.Proofs.YtddhgepnoijpoaaDoor
open Go.RowKit

/-- A token as a value. -/
def tkV (k : Int) (t : ByteArray) (l : Int) : Value := .agg #[.int .i64 k, .string t, .int .i64 l]
theorem ret_s {a b : ByteArray} (h : a = b) : Ending.returned (.string a) = .returned (.string b) := by rw [h]
theorem ret_nat {a b : Nat} (h : a = b) : Ending.returned (.int .i64 (a : Int)) = .returned (.int .i64 (b : Int)) := by rw [h]
theorem growT {w W w' : World} (h : Below w.heap.size w W) (h1 : Below W.heap.size W w') : Below w.heap.size w w' := h.trans (h1.mono h.size)
theorem toTk (k : Int) (t : ByteArray) (l : Int) (w : World) : Calls Tryd.prog 24 #[tkV k t l] w fun e w' => e = .returned (tkV k t l) ∧ Below w.heap.size w w' := by
  unfold tkV
  go_enter Tryd.func24, Tryd.ntmps24
  go_wp2
  exact bodyPost_ret (v := .agg #[.int .i64 k, .string t, .int .i64 l]) (by simp [results, Tryd.results24, go_sem]) rfl ⟨rfl, by repeat (first | exact Below.refl _ _ | refine Below.drew ?_ | refine Below.setCell ?_ (by (try simp); try omega) _ | refine Below.alloc ?_ (by (try simp); try omega) _)⟩
theorem szTk_yes (k : Int) (t : ByteArray) (l : Int) {left : Nat} (h : t.size ≤ left) (hl : left ≤ 1048576) (w : World) : Calls Tryd.prog 22 #[tkV k t l, .int .i64 (left : Int)] w fun e w' => e = .returned (.int .i64 ((left - t.size : Nat) : Int)) ∧ Below w.heap.size w w' := by
  obtain ⟨m, hm⟩ : ∃ m, m = left - t.size := ⟨_, rfl⟩
  have hz : (left : Int) - (t.size : Int) = (m : Int) := by omega
  have hM := Lib.hid hm
  have b0 : decide ((m : Int) < 0) = false := by simp
  clear hm
  unfold tkV
  go_enter Tryd.func22, Tryd.ntmps22
  go_wp2
  go_ret
  exact ⟨ret_nat hM.out, by repeat (first | exact Below.refl _ _ | refine Below.drew ?_ | refine Below.setCell ?_ (by (try simp); try omega) _ | refine Below.alloc ?_ (by (try simp); try omega) _)⟩
theorem szTk_not (k : Int) (t : ByteArray) (l : Int) {left : Nat} (h : ¬ t.size ≤ left) (hl : left ≤ 1048576) (ht : t.size ≤ 9223372036854775807) (w : World) : Calls Tryd.prog 22 #[tkV k t l, .int .i64 (left : Int)] w fun e w' => e = .returned (.int .i64 (-1)) ∧ Below w.heap.size w w' := by
  have b0 : decide ((left : Int) - (t.size : Int) < 0) = true := by simp; omega
  unfold tkV
  go_enter Tryd.func22, Tryd.ntmps22
  go_wp2
  go_ret
  exact ⟨rfl, by repeat (first | exact Below.refl _ _ | refine Below.drew ?_ | refine Below.setCell ?_ (by (try simp); try omega) _ | refine Below.alloc ?_ (by (try simp); try omega) _)⟩
section
open Go.ChangeShapes Go.WideShapes Go.Joins
theorem cells_tk : Tryd.prog.cellsOf 27 = 3 := by kernel_rfl
variable {H : Type} {enc : TypeId × Value → H} {w : World} {spare : Nat → Bool} {held : Bool}
set_option maxRecDepth 20000 in
theorem open_tk {r : Reach} {b0 : Nat} {v : Value} {d : DataW H} {p : List MemPlace} (hv : Value.okWide Tryd.prog w r b0 27 v) (h : DataW.Trod enc Tryd.prog w 0 spare held 27 v d p) :
    ∃ k t l, v = tkV k t l ∧ t.size ≤ maxLen ∧ (-9223372036854775808 ≤ k ∧ k ≤ 9223372036854775807) ∧ (-9223372036854775808 ≤ l ∧ l ≤ 9223372036854775807) := by
  obtain ⟨v0, v1, v2, y0, y1, y2, m, rfl, -, -, t0, t1, t2⟩ := open_agg3 Tryd.underlying27 (by kernel_rfl) cells_tk hv h
  obtain ⟨k, ek, _, wk⟩ := DataW.trod_int Tryd.underlying3 t0
  obtain ⟨t, et, _, wt⟩ := DataW.trod_string Tryd.underlying9 t1
  obtain ⟨l, el, _, wl⟩ := DataW.trod_int Tryd.underlying3 t2
  simp only [List.cons.injEq, and_true] at ek et el
  subst ek et el
  exact ⟨k, t, l, rfl, wt, int_bd wk, int_bd wl⟩
end
end Go.Proofs.YtddhgepnoijpoaaDoor
