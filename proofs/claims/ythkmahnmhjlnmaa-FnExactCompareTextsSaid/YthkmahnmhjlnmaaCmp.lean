/- Proved here: what CompareTexts returns, the program's (by the library's comparison) and the reference's. Condition: the texts have at most 2^20 bytes each. -/
import Derived.Test.YthkmahnmhjlnmaaBase
import Derived.Test.YthkmahnmhjlnmaaHeld
import Derived.Lib.Bytealg
import Derived.Lib.Walk
namespace Go.Proofs.Ythkmahnmhjlnmaa
open Go.RowKit

set_option maxRecDepth 100000 in
theorem bytealgCompare (a b : ByteArray) (w : World) : Calls Try.prog 42 #[.string a, .string b] w fun e w' => e = .returned (.int .i64 (Lib.compareBytes a.data.toList b.data.toList)) ∧ w = w' := by
  go_enter Try.func42, Try.ntmps42
  go_wp2
  rw [run_callFunc_extern Try.func43 (by kernel_rfl) (by kernel_rfl) (by kernel_rfl) (e := Extern.BytealgCompare.compare) (by kernel_rfl), Lib.run_compareString]
  simp only [Result.andThen]
  rw [Oper.upon_value]
  go_wp2
  go_ret
  exact ⟨rfl, rfl⟩
theorem stringsCompare (a b : ByteArray) (w : World) : Calls Try.prog 39 #[.string a, .string b] w fun e w' => e = .returned (.int .i64 (Lib.compareBytes a.data.toList b.data.toList)) ∧ w = w' := by
  go_enter Try.func39, Try.ntmps39
  go_wp2_with (go_at_call 42; refine (bytealgCompare _ _ _).mono ?_; rintro e w' ⟨rfl, rfl⟩)
  go_ret
  exact ⟨rfl, rfl⟩
theorem implCompare (a b : ByteArray) (w : World) : Calls Try.prog 34 #[.string a, .string b] w fun e w' => e = .returned (.int .i64 (Lib.compareBytes a.data.toList b.data.toList)) ∧ w = w' := by
  go_enter Try.func34, Try.ntmps34
  go_wp2_with (go_at_call 39; refine (stringsCompare _ _ _).mono ?_; rintro e w' ⟨rfl, rfl⟩)
  go_ret
  exact ⟨rfl, rfl⟩
theorem cmp_step (a b : ByteArray) (k : Nat) (ha : k < a.size) (hb : k < b.size) : Lib.compareBytes (a.data.toList.drop k) (b.data.toList.drop k) =
    if (a[k].toNat : Int) < (b[k].toNat : Int) then -1 else if (b[k].toNat : Int) < (a[k].toNat : Int) then 1 else Lib.compareBytes (a.data.toList.drop (k + 1)) (b.data.toList.drop (k + 1)) := by
  rw [List.drop_eq_getElem_cons (by simpa using ha), List.drop_eq_getElem_cons (l := b.data.toList) (by simpa using hb)]
  show (if a[k] < b[k] then _ else if b[k] < a[k] then _ else _) = _
  simp only [UInt8.lt_iff_toNat_lt, Int.ofNat_lt]
theorem cmp_end (a b : ByteArray) (k : Nat) (ha : k ≤ a.size) (hb : k ≤ b.size) (h : k = a.size ∨ k = b.size) : Lib.compareBytes (a.data.toList.drop k) (b.data.toList.drop k) =
    if (a.size : Int) < (b.size : Int) then -1 else if (b.size : Int) < (a.size : Int) then 1 else 0 := by
  have la : (a.data.toList.drop k).length = a.size - k := by simp
  have lb : (b.data.toList.drop k).length = b.size - k := by simp
  generalize a.data.toList.drop k = x at la
  generalize b.data.toList.drop k = y at lb
  cases x <;> cases y <;> simp only [List.length_nil, List.length_cons, Lib.compareBytes] at la lb ⊢
  · rw [if_neg (by omega), if_neg (by omega)]
  · rw [if_pos (by omega)]
  · rw [if_neg (by omega), if_pos (by omega)]
  · omega
theorem ret_int {k : IntKind} {a b : Int} (h : a = b) : Ending.returned (.int k a) = .returned (.int k b) := by rw [h]
set_option maxHeartbeats 1000000 in
theorem specCompare (a b : ByteArray) (ha : a.size ≤ 1048576) (hb : b.size ≤ 1048576) (w : World) : Calls Try.prog 33 #[.string a, .string b] w fun e w' => e = .returned (.int .i64 (Lib.compareBytes a.data.toList b.data.toList)) ∧ Below w.heap.size w w' := by
  go_enter Try.func33, Try.ntmps33
  go_wp2
  go_loopw [5] (fun i wr => ∃ k : Nat, k ≤ a.size ∧ k ≤ b.size ∧ i = .int .i64 k ∧ Hid (Lib.compareBytes a.data.toList b.data.toList = Lib.compareBytes (a.data.toList.drop k) (b.data.toList.drop k)) ∧ Below w.heap.size w wr)
    (fun i _ => a.size - (intOf i).toNat)
  case atStart => exact ⟨0, by omega, by omega, rfl, Lib.hid rfl, Below.refl _ _⟩
  case round =>
    obtain ⟨k, hka, hkb, rfl, HC, hw⟩ := hrel
    by_cases h1 : k < a.size
    · by_cases h2 : k < b.size
      · have HS := Lib.hid (cmp_step a b k h1 h2)
        have i1 : (k : Int) < (a.size : Int) := by omega
        have i2 : (k : Int) < (b.size : Int) := by omega
        go_wp2
        go_quiet (fail)
        go_wp2
        · go_ret
          refine ⟨ret_int ?_, ?_⟩
          · rw [HC.out, HS.out, if_pos (by omega)]
          · exact ⟨hw.os, hw.tape, hw.output, hw.size, hw.block⟩
        · go_quiet (fail)
          go_wp2
          · go_ret
            refine ⟨ret_int ?_, ?_⟩
            · rw [HC.out, HS.out, if_neg (by omega), if_pos (by omega)]
            · exact ⟨hw.os, hw.tape, hw.output, hw.size, hw.block⟩
          · go_roundw
            case rel => exact ⟨k + 1, by omega, by omega, by go_num, Lib.hid (by rw [HC.out, HS.out, if_neg (by omega), if_neg (by omega)]), ⟨hw.os, hw.tape, hw.output, hw.size, hw.block⟩⟩
            case measure => simp [intOf]; omega
      · have HE := Lib.hid (cmp_end a b k hka hkb (.inr (by omega)))
        go_wp2
        all_goals
          go_ret
          refine ⟨ret_int ?_, hw⟩
          rw [HC.out, HE.out]
          first | rw [if_pos (by omega)] | rw [if_neg (by omega), if_pos (by omega)] | rw [if_neg (by omega), if_neg (by omega)]
    · have HE := Lib.hid (cmp_end a b k hka hkb (.inl (by omega)))
      go_wp2
      all_goals
        go_ret
        refine ⟨ret_int ?_, hw⟩
        rw [HC.out, HE.out]
        first | rw [if_pos (by omega)] | rw [if_neg (by omega), if_pos (by omega)] | rw [if_neg (by omega), if_neg (by omega)]
end Go.Proofs.Ythkmahnmhjlnmaa
