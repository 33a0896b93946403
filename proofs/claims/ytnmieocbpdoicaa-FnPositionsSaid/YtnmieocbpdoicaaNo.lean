/- Proved here: what NormalizePosition and SectionOf return. Condition: a text has at most 2^20 bytes. -/
import Derived.Test.YtnmieocbpdoicaaTx
import Derived.Lib.Strings
import Derived.Test.YtnmieocbpdoicaaHeld
namespace Go.Proofs.Ytnmieocbpdoicaa
open Go.RowKit

def normP (p n : Int) : Int × Bool := if n < 0 ∨ 120 < n then (0, false) else if 1 ≤ p ∧ p ≤ n + 1 then (p, true) else if -n ≤ p ∧ p ≤ 0 then (n + 1 + p, true) else (0, false)
theorem normP_bd {p n a : Int} (h : normP p n = (a, true)) : 0 ≤ n ∧ n ≤ 120 ∧ 1 ≤ a ∧ a ≤ n + 1 := by
  unfold normP at h
  split at h
  · cases h
  · split at h
    · cases h; omega
    · split at h
      · cases h; omega
      · cases h
theorem ret_pi {a c : Int} {b d : Bool} (h : (a, b) = (c, d)) : Ending.returned (.tuple #[.int .i64 a, .bool b]) = .returned (.tuple #[.int .i64 c, .bool d]) := by cases h; rfl
theorem ret_ps {a c : ByteArray} {b d : Bool} (h : (a, b) = (c, d)) : Ending.returned (.tuple #[.string a, .bool b]) = .returned (.tuple #[.string c, .bool d]) := by cases h; rfl
set_option maxHeartbeats 400000 in
theorem implNorm (p n a : Int) (ok : Bool) (hp : -9223372036854775808 ≤ p ∧ p ≤ 9223372036854775807) (hn : -9223372036854775808 ≤ n ∧ n ≤ 9223372036854775807) (h : Hid (normP p n = (a, ok))) (w : World) :
    Calls Try.prog 31 #[.int .i64 p, .int .i64 n] w fun e w' => e = .returned (.tuple #[.int .i64 a, .bool ok]) ∧ w = w' := by
  go_enter Try.func31, Try.ntmps31
  go_wp2
  all_goals
    go_ret2
    refine ⟨ret_pi ?_, rfl⟩
    rw [← h.out]
    unfold normP
    first | rw [if_pos (by omega)] | rw [if_neg (by omega), if_pos (by omega)] | rw [if_neg (by omega), if_neg (by omega), if_pos (by omega)] | rw [if_neg (by omega), if_neg (by omega), if_neg (by omega)]
set_option maxHeartbeats 400000 in
theorem specNorm (p n a : Int) (ok : Bool) (hp : -9223372036854775808 ≤ p ∧ p ≤ 9223372036854775807) (hn : -9223372036854775808 ≤ n ∧ n ≤ 9223372036854775807) (h : Hid (normP p n = (a, ok))) (w : World) :
    Calls Try.prog 32 #[.int .i64 p, .int .i64 n] w fun e w' => e = .returned (.tuple #[.int .i64 a, .bool ok]) ∧ w = w' := by
  go_enter Try.func32, Try.ntmps32
  go_wp2
  all_goals
    go_ret2
    refine ⟨ret_pi ?_, rfl⟩
    rw [← h.out]
    unfold normP
    first | rw [if_pos (by omega)] | rw [if_neg (by omega), if_pos (by omega)] | rw [if_neg (by omega), if_neg (by omega), if_pos (by omega)] | rw [if_neg (by omega), if_neg (by omega), if_neg (by omega)]
/-- The section of a text between two positions. -/
def secL (s : ByteArray) (i j : Int) : ByteArray × Bool :=
  if (normP i s.size).2 && (normP j s.size).2 then
    (if (normP i s.size).1 ≤ (normP j s.size).1 then s.extract ((normP i s.size).1.toNat - 1) ((normP j s.size).1.toNat - 1) else s.extract ((normP j s.size).1.toNat - 1) ((normP i s.size).1.toNat - 1), true)
  else (⟨#[]⟩, false)
theorem secL_no {s : ByteArray} {i j a b : Int} {x y : Bool} (hi : normP i s.size = (a, x)) (hj : normP j s.size = (b, y)) (h : (x && y) = false) : secL s i j = (⟨#[]⟩, false) := by
  unfold secL; rw [hi, hj, h]; rfl
theorem secL_yes {s : ByteArray} {i j a b : Int} (hi : normP i s.size = (a, true)) (hj : normP j s.size = (b, true)) :
    secL s i j = (if a ≤ b then s.extract (a.toNat - 1) (b.toNat - 1) else s.extract (b.toNat - 1) (a.toNat - 1), true) := by
  unfold secL; rw [hi, hj]; rfl
theorem extract_same (s : ByteArray) (a : Nat) : s.extract a a = ⟨#[]⟩ := by
  rw [Lib.extract_eq]
  simp
set_option maxHeartbeats 2000000 in
theorem implSection (s : ByteArray) (hs : s.size ≤ 1048576) (i j : Int) (hi : -9223372036854775808 ≤ i ∧ i ≤ 9223372036854775807) (hj : -9223372036854775808 ≤ j ∧ j ≤ 9223372036854775807) (w : World) :
    Calls Try.prog 33 #[.string s, .int .i64 i, .int .i64 j] w fun e w' => e = .returned (.tuple #[.string (secL s i j).1, .bool (secL s i j).2]) ∧ w = w' := by
  obtain ⟨a, x, ha⟩ : ∃ a x, normP i s.size = (a, x) := ⟨_, _, rfl⟩
  obtain ⟨b, y, hb⟩ : ∃ b y, normP j s.size = (b, y) := ⟨_, _, rfl⟩
  have HA := Lib.hid ha
  have HB := Lib.hid hb
  cases x
  · have HS := Lib.hid (secL_no ha hb rfl)
    clear ha hb
    go_enter Try.func33, Try.ntmps33
    go_wp2_with (first
      | (go_at_call_of 31 (Value.int IntKind.i64 i); refine (implNorm i _ a false hi (by omega) HA _).mono ?_; rintro e w' ⟨rfl, rfl⟩)
      | (go_at_call_of 31 (Value.int IntKind.i64 j); refine (implNorm j _ b y hj (by omega) HB _).mono ?_; rintro e w' ⟨rfl, rfl⟩))
    go_ret2
    exact ⟨ret_ps (by rw [HS.out]), rfl⟩
  · cases y
    · have HS := Lib.hid (secL_no ha hb rfl)
      clear ha hb
      go_enter Try.func33, Try.ntmps33
      go_wp2_with (first
        | (go_at_call_of 31 (Value.int IntKind.i64 i); refine (implNorm i _ a true hi (by omega) HA _).mono ?_; rintro e w' ⟨rfl, rfl⟩)
        | (go_at_call_of 31 (Value.int IntKind.i64 j); refine (implNorm j _ b false hj (by omega) HB _).mono ?_; rintro e w' ⟨rfl, rfl⟩))
      go_ret2
      exact ⟨ret_ps (by rw [HS.out]), rfl⟩
    · have HS := Lib.hid (secL_yes ha hb)
      have ka := normP_bd ha
      have kb := normP_bd hb
      clear ha hb
      have hab : a < b ∨ a = b ∨ b < a := by omega
      rcases hab with hab | rfl | hab
      · go_enter Try.func33, Try.ntmps33
        go_wp2_with (first
          | (go_at_call_of 31 (Value.int IntKind.i64 i); refine (implNorm i _ a true hi (by omega) HA _).mono ?_; rintro e w' ⟨rfl, rfl⟩)
          | (go_at_call_of 31 (Value.int IntKind.i64 j); refine (implNorm j _ b true hj (by omega) HB _).mono ?_; rintro e w' ⟨rfl, rfl⟩))
        go_ret2
        exact ⟨ret_ps (by rw [HS.out, if_pos (by omega)]), rfl⟩
      · go_enter Try.func33, Try.ntmps33
        go_wp2_with (first
          | (go_at_call_of 31 (Value.int IntKind.i64 i); refine (implNorm i _ a true hi (by omega) HA _).mono ?_; rintro e w' ⟨rfl, rfl⟩)
          | (go_at_call_of 31 (Value.int IntKind.i64 j); refine (implNorm j _ a true hj (by omega) HB _).mono ?_; rintro e w' ⟨rfl, rfl⟩))
        go_ret2
        exact ⟨ret_ps (by rw [HS.out, if_pos (by omega), extract_same]; rfl), rfl⟩
      · go_enter Try.func33, Try.ntmps33
        go_wp2_with (first
          | (go_at_call_of 31 (Value.int IntKind.i64 i); refine (implNorm i _ a true hi (by omega) HA _).mono ?_; rintro e w' ⟨rfl, rfl⟩)
          | (go_at_call_of 31 (Value.int IntKind.i64 j); refine (implNorm j _ b true hj (by omega) HB _).mono ?_; rintro e w' ⟨rfl, rfl⟩))
        go_ret2
        exact ⟨ret_ps (by rw [HS.out, if_neg (by omega)]), rfl⟩
end Go.Proofs.Ytnmieocbpdoicaa
