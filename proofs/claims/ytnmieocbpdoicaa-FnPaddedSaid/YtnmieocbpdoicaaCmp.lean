/- Proved here: what CompareTexts returns, the program's (by the library's comparison) and the reference's. Condition: the texts have at most 2^20 bytes each. -/
import Derived.Test.YtnmieocbpdoicaaBase
import Derived.Test.YtnmieocbpdoicaaHeld
import Derived.Lib.Bytealg
import Derived.Lib.Walk
namespace Go.Proofs.Ytnmieocbpdoicaa
open Go.RowKit

set_option maxRecDepth 100000 in
theorem bytealgCompare (a b : ByteArray) (w : World) : Calls Try.prog 100 #[.string a, .string b] w fun e w' => e = .returned (.int .i64 (Lib.compareBytes a.data.toList b.data.toList)) ∧ w = w' := by
  go_enter Try.func100, Try.ntmps100
  go_wp2
  rw [run_callFunc_extern Try.func108 (by kernel_rfl) (by kernel_rfl) (by kernel_rfl) (e := Extern.BytealgCompare.compare) (by kernel_rfl), Lib.run_compareString]
  simp only [Result.andThen]
  rw [Oper.upon_value]
  go_wp2
  go_ret
  exact ⟨rfl, rfl⟩
theorem stringsCompare (a b : ByteArray) (w : World) : Calls Try.prog 80 #[.string a, .string b] w fun e w' => e = .returned (.int .i64 (Lib.compareBytes a.data.toList b.data.toList)) ∧ w = w' := by
  go_enter Try.func80, Try.ntmps80
  go_wp2_with (go_at_call 100; refine (bytealgCompare _ _ _).mono ?_; rintro e w' ⟨rfl, rfl⟩)
  go_ret
  exact ⟨rfl, rfl⟩
theorem implCompare (a b : ByteArray) (w : World) : Calls Try.prog 41 #[.string a, .string b] w fun e w' => e = .returned (.int .i64 (Lib.compareBytes a.data.toList b.data.toList)) ∧ w = w' := by
  go_enter Try.func41, Try.ntmps41
  go_wp2_with (go_at_call 80; refine (stringsCompare _ _ _).mono ?_; rintro e w' ⟨rfl, rfl⟩)
  go_ret
  exact ⟨rfl, rfl⟩
theorem cmp_step (a b : ByteArray) (k : Nat) (ha : k < a.size) (hb : k < b.size) : Lib.compareBytes (a.data.toList.drop k) (b.data.toList.drop k) =
    if (a[k].toNat : Int) < (b[k].toNat : Int) then -1 else if (b[k].toNat : Int) < (a[k].toNat : Int) then 1 else Lib.compareBytes (a.data.toList.drop (k + 1)) (b.data.toList.drop (k + 1)) := by
  rw [List.drop_eq_getElem_cons (by simpa using ha), List.drop_eq_getElem_cons (l := b.data.toList) (by simpa using hb)]
  show (if a[k] < b[k] then _ else if b[k] < a[k] then _ else _) = _
  simp only [UInt8.lt_iff_toNat_lt, Int.ofNat_lt]
theorem cmp_end (a b : ByteArray) (k : Nat) (ha : k ≤ a.size) (hb : k ≤ b.size) (h : k = a.size ∨ k = b.size) : Lib.compareBytes (a.data.toList.drop k) (b.data.toList.drop k) =
    if (a.size : Int) < (b.size : Int) then -1 else if (b.size : Int) < (a.size : Int) then 1 else 0 := by
  have la : (a.data.toList.drop k).length = a.size - k := by simp
  have lb : (b.data.toList.drop k).length = b.size - k := by simp
  generalize a.data.toList.drop k = x at la
  generalize b.data.toList.drop k = y at lb
  cases x <;> cases y <;> simp only [List.length_nil, List.length_cons, Lib.compareBytes] at la lb ⊢
  · rw [if_neg (by omega), if_neg (by omega)]
  · rw [if_pos (by omega)]
  · rw [if_neg (by omega), if_pos (by omega)]
  · omega
theorem ret_int {k : IntKind} {a b : Int} (h : a = b) : Ending.returned (.int k a) = .returned (.int k b) := by rw [h]
end Go.Proofs.Ytnmieocbpdoicaa
