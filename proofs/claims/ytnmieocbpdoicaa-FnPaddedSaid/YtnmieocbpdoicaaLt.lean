/- Proved here: what LeftText and RightText return, and that reversal exchanges them. Condition: a text has at most 2^20 bytes. -/
import Derived.Test.YtnmieocbpdoicaaTx
namespace Go.Proofs.Ytnmieocbpdoicaa
open Go.RowKit

/-- n copies of a byte. -/
def padT (n : Nat) (b : UInt8) : ByteArray := ⟨(List.replicate n b).toArray⟩
def revT (s : ByteArray) : ByteArray := ⟨s.data.toList.reverse.toArray⟩
def leftT (s : ByteArray) (n : Nat) (b : UInt8) : ByteArray := if s.size < n then s ++ padT (n - s.size) b else s.extract 0 n
def rightT (s : ByteArray) (n : Nat) (b : UInt8) : ByteArray := if s.size < n then padT (n - s.size) b ++ s else s.extract (s.size - n) s.size
theorem padT_size (n : Nat) (b : UInt8) : (padT n b).size = n := by
  show (List.replicate n b).toArray.size = n
  simp
theorem baExt {x y : ByteArray} (h : x.data.toList = y.data.toList) : x = y := by
  obtain ⟨⟨x⟩⟩ := x; obtain ⟨⟨y⟩⟩ := y; simp at h; rw [h]
theorem catL (a b : ByteArray) : (a ++ b).data.toList = a.data.toList ++ b.data.toList := by rw [ByteArray.data_append, Array.toList_append]
theorem padL (n : Nat) (b : UInt8) : (padT n b).data.toList = List.replicate n b := rfl
theorem revL (s : ByteArray) : (revT s).data.toList = s.data.toList.reverse := rfl
theorem rev_size (s : ByteArray) : (revT s).size = s.size := by
  show s.data.toList.reverse.toArray.size = s.data.size
  simp
theorem extL (s : ByteArray) (a b : Nat) : (s.extract a b).data.toList = (s.data.toList.drop a).take (b - a) := by rw [Lib.extract_eq]
theorem leftT_size (s : ByteArray) (n : Nat) (b : UInt8) : (leftT s n b).size = n := by
  have e : ∀ x : ByteArray, x.size = x.data.toList.length := fun x => rfl
  unfold leftT
  split
  · rw [ByteArray.size_append, padT_size]; omega
  · rw [e, extL, List.length_take, List.length_drop, ← e]; omega
/-- Reversal exchanges the sides. -/
theorem rev_right (s : ByteArray) (n : Nat) (b : UInt8) : revT (rightT (revT s) n b) = leftT s n b := by
  apply baExt
  rw [revL]
  unfold rightT leftT
  rw [rev_size]
  split
  · rw [catL, catL, padL, revL, List.reverse_append, List.reverse_reverse, List.reverse_replicate]
  · rename_i h
    have hl : s.data.toList.length = s.size := rfl
    rw [extL, extL, revL, List.drop_zero, Nat.sub_zero, List.take_of_length_le (by rw [List.length_drop, List.length_reverse]; omega), List.drop_reverse, List.reverse_reverse, hl]
    congr 1
    omega
set_option maxHeartbeats 1000000 in
theorem implLeftYes (s : ByteArray) (hs : s.size ≤ 1048576) (n : Nat) (hn : n ≤ 120) (b : UInt8) (w : World) :
    Calls Try.prog 37 #[.string s, .int .i64 (n : Int), .int .u8 (b.toNat : Int)] w fun e w' => e = .returned (.tuple #[.string (leftT s n b), .bool true]) ∧ Below w.heap.size w w' := by
  have hb := byte_bd b
  by_cases h : s.size < n
  · obtain ⟨m, hm⟩ : ∃ m, m = n - s.size := ⟨_, rfl⟩
    have hz : (n : Int) - (s.size : Int) = (m : Int) := by omega
    have HP : ∀ W : World, Calls Try.prog 78 #[.int .i64 (m : Int), .int .u8 (b.toNat : Int)] W fun e w' => e = .returned (.string (padT m b)) ∧ Below W.heap.size W w' := fun W =>
      (implPads m b.toNat (by omega) hb W).mono fun e w' ⟨he, hb⟩ => ⟨by rw [he]; simp [padT], hb⟩
    have HE := Lib.hid (show leftT s n b = s ++ padT m b by rw [leftT, if_pos h, hm])
    have hps := padT_size m b
    have hmb : m ≤ 120 := by omega
    clear hm
    go_enter Try.func37, Try.ntmps37
    go_wp2_with (go_at_call 78; refine (HP _).mono ?_; rintro e w1 ⟨rfl, hb1⟩)
    go_ret2
    exact ⟨by rw [HE.out]; rfl, hb1⟩
  · have HE := Lib.hid (show leftT s n b = s.extract 0 n by rw [leftT, if_neg h])
    go_enter Try.func37, Try.ntmps37
    go_wp2
    go_ret2
    exact ⟨by rw [HE.out]; rfl, Below.refl _ _⟩
theorem implLeftNo (s : ByteArray) (n : Int) (hn : n < 0 ∨ 120 < n) (b : UInt8) (w : World) :
    Calls Try.prog 37 #[.string s, .int .i64 n, .int .u8 (b.toNat : Int)] w fun e w' => e = .returned (.tuple #[.string ⟨#[]⟩, .bool false]) ∧ Below w.heap.size w w' := by
  go_enter Try.func37, Try.ntmps37
  go_wp2
  all_goals
    go_ret2
    exact ⟨rfl, Below.refl _ _⟩
set_option maxHeartbeats 1000000 in
theorem specLeftYes (s : ByteArray) (hs : s.size ≤ 1048576) (n : Nat) (hn : n ≤ 120) (b : UInt8) (w : World) :
    Calls Try.prog 40 #[.string s, .int .i64 (n : Int), .int .u8 (b.toNat : Int)] w fun e w' => e = .returned (.tuple #[.string (leftT s n b), .bool true]) ∧ Below w.heap.size w w' := by
  have hb := byte_bd b
  by_cases h : s.size < n
  · obtain ⟨m, hm⟩ : ∃ m, m = n - s.size := ⟨_, rfl⟩
    have hz : (n : Int) - (s.size : Int) = (m : Int) := by omega
    have HP : ∀ W : World, Calls Try.prog 79 #[.int .i64 (m : Int), .int .u8 (b.toNat : Int)] W fun e w' => e = .returned (.string (padT m b)) ∧ Below W.heap.size W w' := fun W =>
      (specPad m b.toNat (by omega) hb W).mono fun e w' ⟨he, hb⟩ => ⟨by rw [he]; simp [padT], hb⟩
    have HE := Lib.hid (show leftT s n b = s ++ padT m b by rw [leftT, if_pos h, hm])
    have hps := padT_size m b
    have hmb : m ≤ 120 := by omega
    clear hm
    go_enter Try.func40, Try.ntmps40
    go_wp2_with (go_at_call 79; refine (HP _).mono ?_; rintro e w1 ⟨rfl, hb1⟩)
    go_ret2
    exact ⟨by rw [HE.out]; rfl, hb1⟩
  · have HE := Lib.hid (show leftT s n b = s.extract 0 n by rw [leftT, if_neg h])
    go_enter Try.func40, Try.ntmps40
    go_wp2
    go_ret2
    exact ⟨by rw [HE.out]; rfl, Below.refl _ _⟩
theorem specLeftNo (s : ByteArray) (n : Int) (hn : n < 0 ∨ 120 < n) (b : UInt8) (w : World) :
    Calls Try.prog 40 #[.string s, .int .i64 n, .int .u8 (b.toNat : Int)] w fun e w' => e = .returned (.tuple #[.string ⟨#[]⟩, .bool false]) ∧ Below w.heap.size w w' := by
  go_enter Try.func40, Try.ntmps40
  go_wp2
  all_goals
    go_ret2
    exact ⟨rfl, Below.refl _ _⟩
set_option maxHeartbeats 1000000 in
theorem implRightYes (s : ByteArray) (hs : s.size ≤ 1048576) (n : Nat) (hn : n ≤ 120) (b : UInt8) (w : World) :
    Calls Try.prog 38 #[.string s, .int .i64 (n : Int), .int .u8 (b.toNat : Int)] w fun e w' => e = .returned (.tuple #[.string (rightT s n b), .bool true]) ∧ Below w.heap.size w w' := by
  have hb := byte_bd b
  by_cases h : s.size < n
  · obtain ⟨m, hm⟩ : ∃ m, m = n - s.size := ⟨_, rfl⟩
    have hz : (n : Int) - (s.size : Int) = (m : Int) := by omega
    have HP : ∀ W : World, Calls Try.prog 78 #[.int .i64 (m : Int), .int .u8 (b.toNat : Int)] W fun e w' => e = .returned (.string (padT m b)) ∧ Below W.heap.size W w' := fun W =>
      (implPads m b.toNat (by omega) hb W).mono fun e w' ⟨he, hb⟩ => ⟨by rw [he]; simp [padT], hb⟩
    have HE := Lib.hid (show rightT s n b = padT m b ++ s by rw [rightT, if_pos h, hm])
    have hps := padT_size m b
    have hmb : m ≤ 120 := by omega
    clear hm
    go_enter Try.func38, Try.ntmps38
    go_wp2_with (go_at_call 78; refine (HP _).mono ?_; rintro e w1 ⟨rfl, hb1⟩)
    go_ret2
    exact ⟨by rw [HE.out]; rfl, hb1⟩
  · obtain ⟨m, hm⟩ : ∃ m, m = s.size - n := ⟨_, rfl⟩
    have hz : (s.size : Int) - (n : Int) = (m : Int) := by omega
    have hmb : m ≤ s.size := by omega
    have HE := Lib.hid (show rightT s n b = s.extract m s.size by rw [rightT, if_neg h, hm])
    clear hm
    go_enter Try.func38, Try.ntmps38
    go_wp2
    go_ret2
    exact ⟨by rw [HE.out]; rfl, Below.refl _ _⟩
theorem implRightNo (s : ByteArray) (n : Int) (hn : n < 0 ∨ 120 < n) (b : UInt8) (w : World) :
    Calls Try.prog 38 #[.string s, .int .i64 n, .int .u8 (b.toNat : Int)] w fun e w' => e = .returned (.tuple #[.string ⟨#[]⟩, .bool false]) ∧ Below w.heap.size w w' := by
  go_enter Try.func38, Try.ntmps38
  go_wp2
  all_goals
    go_ret2
    exact ⟨rfl, Below.refl _ _⟩
end Go.Proofs.Ytnmieocbpdoicaa
