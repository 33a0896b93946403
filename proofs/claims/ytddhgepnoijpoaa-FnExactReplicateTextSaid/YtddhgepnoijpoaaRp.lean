/- Proved here: what ReplicateText gives, of the program and of the reference. Condition: at most 1048576 bytes. -/
import Derived.Test.YtddhgepnoijpoaaTx
import Derived.Test.YtddhgepnoijpoaaSh
import Derived.Lib.Repeat
namespace Go.Proofs.Ytddhgepnoijpoaa
open Go.RowKit

/-- A text again and again. -/
abbrev repT (s : ByteArray) (m : Nat) : Value := txt (Lib.repeatL s.data.toList m)
theorem cat_dataR (a b : ByteArray) : (a ++ b).data.toList = a.data.toList ++ b.data.toList := by
  rw [ByteArray.data_append, Array.toList_append]
theorem mk_dataR (s : ByteArray) : s = ⟨s.data.toList.toArray⟩ := by cases s; simp
theorem implRepNo (s : ByteArray) (hs : s.size ≤ 1048576) (n : Int) (h : n < 0 ∨ 120 < s.size ∨ (0 < s.size ∧ 120 / (s.size : Int) < n)) (w : World) :
    Calls Try.prog 10 #[.string s, .int .i64 n] w fun e w' => e = .returned (.tuple #[.string ⟨#[]⟩, .bool false]) ∧ Below w.heap.size w w' := by
  by_cases h1 : n < 0
  · clear h
    go_enter Try.func10, Try.ntmps10
    go_wp2
    go_ret2
    exact ⟨rfl, Below.refl _ _⟩
  by_cases h2 : 120 < s.size
  · clear h
    go_enter Try.func10, Try.ntmps10
    go_wp2
    go_ret2
    exact ⟨rfl, Below.refl _ _⟩
  have h3 : 0 < s.size := by omega
  have h4 : 120 / (s.size : Int) < n := by omega
  clear h
  have h6 : 0 ≤ 120 / (s.size : Int) := Int.ediv_nonneg (by omega) (by omega)
  have h7 : 120 / (s.size : Int) ≤ 120 := Int.ediv_le_self _ (by omega)
  have h5 : (120 : Int).tdiv (s.size : Int) = 120 / (s.size : Int) := Int.tdiv_eq_ediv_of_nonneg (by omega)
  go_enter Try.func10, Try.ntmps10
  go_wp2
  go_ret2
  exact ⟨rfl, Below.refl _ _⟩
theorem implRepEmpty (s : ByteArray) (hs : s.size = 0) (n : Int) (h : 0 ≤ n) (w : World) :
    Calls Try.prog 10 #[.string s, .int .i64 n] w fun e w' => e = .returned (.tuple #[.string ⟨#[]⟩, .bool true]) ∧ Below w.heap.size w w' := by
  go_enter Try.func10, Try.ntmps10
  go_wp2
  go_ret2
  exact ⟨rfl, Below.refl _ _⟩
theorem implRepYes (s : ByteArray) (h0 : 0 < s.size) (hs : s.size ≤ 120) (m : Nat) (h : (m : Int) ≤ 120 / (s.size : Int)) (w : World) :
    Calls Try.prog 10 #[.string s, .int .i64 (m : Int)] w fun e w' => e = .returned (.tuple #[repT s m, .bool true]) ∧ Below w.heap.size w w' := by
  have h7 : 120 / (s.size : Int) ≤ 120 := Int.ediv_le_self _ (by omega)
  have h6 : 0 ≤ 120 / (s.size : Int) := Int.ediv_nonneg (by omega) (by omega)
  have h5 : (120 : Int).tdiv (s.size : Int) = 120 / (s.size : Int) := Int.tdiv_eq_ediv_of_nonneg (by omega)
  have hR := Try.strings_Repeat s m w (by omega) (by
    have : s.size * m ≤ 120 * 120 := Nat.mul_le_mul hs (by omega)
    omega)
  go_enter Try.func10, Try.ntmps10
  go_wp2_with (go_at_call 21; refine hR.mono ?_; rintro e w1 ⟨rfl, hb1⟩)
  go_ret2
  exact ⟨rfl, hb1⟩
theorem specRepNo (s : ByteArray) (hs : s.size ≤ 1048576) (n : Int) (h : n < 0 ∨ 120 < s.size ∨ (0 < s.size ∧ 120 / (s.size : Int) < n)) (w : World) :
    Calls Try.prog 9 #[.string s, .int .i64 n] w fun e w' => e = .returned (.tuple #[.string ⟨#[]⟩, .bool false]) ∧ Below w.heap.size w w' := by
  by_cases h1 : n < 0
  · clear h
    go_enter Try.func9, Try.ntmps9
    go_wp2
    go_ret2
    exact ⟨rfl, Below.refl _ _⟩
  by_cases h2 : 120 < s.size
  · clear h
    go_enter Try.func9, Try.ntmps9
    go_wp2
    go_ret2
    exact ⟨rfl, Below.refl _ _⟩
  have h3 : 0 < s.size := by omega
  have h4 : 120 / (s.size : Int) < n := by omega
  clear h
  have h6 : 0 ≤ 120 / (s.size : Int) := Int.ediv_nonneg (by omega) (by omega)
  have h7 : 120 / (s.size : Int) ≤ 120 := Int.ediv_le_self _ (by omega)
  have h5 : (120 : Int).tdiv (s.size : Int) = 120 / (s.size : Int) := Int.tdiv_eq_ediv_of_nonneg (by omega)
  go_enter Try.func9, Try.ntmps9
  go_wp2
  go_ret2
  exact ⟨rfl, Below.refl _ _⟩
theorem specRepEmpty (s : ByteArray) (hs : s.size = 0) (n : Int) (h : 0 ≤ n) (w : World) :
    Calls Try.prog 9 #[.string s, .int .i64 n] w fun e w' => e = .returned (.tuple #[.string ⟨#[]⟩, .bool true]) ∧ Below w.heap.size w w' := by
  go_enter Try.func9, Try.ntmps9
  go_wp2
  go_ret2
  exact ⟨rfl, Below.refl _ _⟩
theorem rep_size_le (s : ByteArray) (hs : s.size ≤ 120) (k : Nat) (hk : k ≤ 120) : (⟨(Lib.repeatL s.data.toList k).toArray⟩ : ByteArray).size ≤ 14400 := by
  show (Lib.repeatL s.data.toList k).length ≤ _
  rw [Lib.repeatL_length]
  have : k * s.data.toList.length ≤ 120 * 120 := Nat.mul_le_mul hk hs
  omega
theorem rep_next (s : ByteArray) (k : Nat) : (⟨(Lib.repeatL s.data.toList k).toArray⟩ : ByteArray) ++ s = ⟨(Lib.repeatL s.data.toList (k + 1)).toArray⟩ := by
  rw [mk_dataR (_ ++ s), cat_dataR, Lib.repeatL_add, Lib.repeatL_one]
theorem ret_tb {u v : ByteArray} {b : Bool} (h : u = v) : Ending.returned (.tuple #[.string u, .bool b]) = .returned (.tuple #[.string v, .bool b]) := by rw [h]
set_option maxHeartbeats 1000000 in
theorem specRepYes (s : ByteArray) (h0 : 0 < s.size) (hs : s.size ≤ 120) (m : Nat) (h : (m : Int) ≤ 120 / (s.size : Int)) (w : World) :
    Calls Try.prog 9 #[.string s, .int .i64 (m : Int)] w fun e w' => e = .returned (.tuple #[repT s m, .bool true]) ∧ Below w.heap.size w w' := by
  have h7 : 120 / (s.size : Int) ≤ 120 := Int.ediv_le_self _ (by omega)
  have h6 : 0 ≤ 120 / (s.size : Int) := Int.ediv_nonneg (by omega) (by omega)
  have h5 : (120 : Int).tdiv (s.size : Int) = 120 / (s.size : Int) := Int.tdiv_eq_ediv_of_nonneg (by omega)
  go_enter Try.func9, Try.ntmps9
  go_wp2
  clear h5 h6
  have hm : m ≤ 120 := by omega
  clear h h7
  go_loopw [6, 7] (fun t i wr => ∃ (k : Nat) (u : ByteArray), k ≤ m ∧ u.size ≤ 14400 ∧ Hid (u = ⟨(Lib.repeatL s.data.toList k).toArray⟩) ∧ t = .string u ∧ i = .int .i64 k ∧ Below w.heap.size w wr)
    (fun _ i _ => m - (intOf i).toNat)
  case atStart => exact ⟨0, ⟨#[]⟩, by omega, by decide, Lib.hid rfl, rfl, rfl, Below.refl _ _⟩
  case round =>
    obtain ⟨k, u, hk, hu, HU, rfl, rfl, hb⟩ := hrel
    by_cases hkm : k < m
    · have i0 : (k : Int) < (m : Int) := by omega
      have i1 : IntKind.i64.wrap ((k : Int) + 1) = (k : Int) + 1 := i64_in' (by omega)
      have HN := Lib.hid (rep_next s k)
      go_wp2
      go_roundw
      case rel => exact ⟨k + 1, _, by omega, by rw [HU.out, HN.out]; exact rep_size_le s hs _ (by omega), Lib.hid (by rw [HU.out]; exact HN.out), rfl, by go_num, hb⟩
      case measure => simp [intOf]; omega
    · obtain rfl : k = m := by omega
      go_wp2
      go_ret2
      exact ⟨ret_tb HU.out, hb⟩
end Go.Proofs.Ytddhgepnoijpoaa
