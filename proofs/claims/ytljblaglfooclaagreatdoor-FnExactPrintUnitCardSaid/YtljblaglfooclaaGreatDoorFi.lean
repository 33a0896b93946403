/- Proved here: what the reference's FormatInt returns: the decimal form. No condition. -/
import Derived.Test.YtljblaglfooclaaGreatDoorBuf
import Derived.Test.YtljblaglfooclaaGreatDoorPl
import Derived.Test.YtljblaglfooclaaGreatDoorHeld
import Derived.Lib.Strings
namespace Go.Proofs.YtljblaglfooclaaGreatDoor
open Go.RowKit

theorem cat_data (a b : ByteArray) : (a ++ b).data.toList = a.data.toList ++ b.data.toList := by
  rw [ByteArray.data_append, Array.toList_append]
theorem mk_data (s : ByteArray) : s = ⟨s.data.toList.toArray⟩ := by cases s; simp
theorem fmt_pos (m : Nat) (h : 0 < m) : Lib.itoa (m : Int) = decD m := by rw [itoa_pos, decD, if_neg (by omega)]
theorem fmt_neg (m : Nat) (h : 0 < m) : Lib.itoa (-(m : Int)) = 45 :: decD m := by rw [itoa_neg h, decD, if_neg (by omega)]
theorem conv1 (x : UInt8) (v : Int) (hv : v = (x.toNat : Int)) (w : World) : (convert 67 9 (.slice (some ⟨w.heap.size, 0, none⟩) 1 1)).run Tryz.prog (w.alloc (.cells #[.int .u8 v] 5)) = .ok (.string ⟨#[x]⟩) (w.alloc (.cells #[.int .u8 v] 5)) := by
  subst hv
  exact run_text (Buf.lit w 0 [x] (Nat.zero_le _) (by simp [maxLen]))
theorem of48 (d : Nat) : UInt8.ofNat (48 + d) = 48 + UInt8.ofNat d := by simp
theorem digit_val (m : Nat) : 48 + (m : Int) % 10 = ((48 + UInt8.ofNat (m % 10)).toNat : Int) := by rw [← of48]; simp; omega
theorem dec_step {n m : Nat} {t : ByteArray} (h : decD n = decD m ++ t.data.toList) (hm : 0 < m) : decD n = decD (m / 10) ++ ((⟨#[48 + UInt8.ofNat (m % 10)]⟩ : ByteArray) ++ t).data.toList := by
  rw [h, decD_step hm, of48, cat_data, List.append_assoc]
theorem neg_mod (m : Nat) : (-(m : Int)).tmod 10 = -((m : Int) % 10) := by rw [Int.neg_tmod, Int.tmod_eq_emod_of_nonneg (by omega)]
theorem neg_div (m : Nat) : (-(m : Int)).tdiv 10 = -((m : Int) / 10) := by rw [Int.neg_tdiv, Int.tdiv_eq_ediv_of_nonneg (by omega)]
theorem pow_step {m k : Nat} (h : m < 10 ^ k) (h0 : 0 < m) : ∃ j, k = j + 1 ∧ m / 10 < 10 ^ j := by
  cases k with
  | zero => simp at h; omega
  | succ j => exact ⟨j, rfl, by rw [Nat.pow_succ] at h; omega⟩
theorem size_cat (x : UInt8) (t : ByteArray) : ((⟨#[x]⟩ : ByteArray) ++ t).size = t.size + 1 := by rw [ByteArray.size_append]; show 1 + t.size = _; omega
set_option maxHeartbeats 1000000 in
theorem specFmtPos (n : Nat) (h0 : 0 < n) (hn : n ≤ 9223372036854775807) (w : World) : Calls Tryz.prog 48 #[.int .i64 (n : Int)] w fun e w' => e = .returned (txt (decD n)) ∧ Below w.heap.size w w' := by
  have b0 : ((n : Int) == 0) = false := by rw [beq_eq_false_iff_ne]; omega
  have b1 : decide ((n : Int) < 0) = false := by simp
  go_enter Tryz.func48, Tryz.ntmps48
  go_wp2
  go_loopw [0, 4, 5] (fun c o _ wr => ∃ (m k : Nat) (t : ByteArray), m ≤ n ∧ m < 10 ^ k ∧ t.size + k ≤ 19 ∧ c = .int .i64 m ∧ o = .string t ∧ Hid (decD n = decD m ++ t.data.toList) ∧ Below w.heap.size w wr)
    (fun c _ _ _ => (intOf c).toNat)
  case atStart => exact ⟨n, 19, _, by omega, by omega, by decide, rfl, rfl, Lib.hid (by simp), Below.refl _ _⟩
  case round =>
    obtain ⟨m, k, t, hm, hmk, htk, rfl, rfl, HD, hb⟩ := hrel
    have hsz := hb.size
    by_cases hz : m = 0
    · subst hz
      go_wp2
      go_ret
      exact ⟨by rw [HD.out]; show _ = Ending.returned (.string ⟨([] ++ t.data.toList).toArray⟩); rw [List.nil_append, ← mk_data]; rfl, hb⟩
    · have b2 : ((m : Int) != 0) = true := by rw [bne_iff_ne]; omega
      obtain ⟨j, rfl, hj⟩ := pow_step hmk (by omega)
      have b3 : decide ((m : Int) % 10 < 0) = false := by simp; omega
      have HS := Lib.hid (dec_step HD.out (by omega))
      have x1 : 0 ≤ (m : Int) % 10 := by omega
      have x2 : (m : Int) % 10 ≤ 9 := by omega
      have hcv := conv1 _ _ (digit_val m) wr
      have hst := size_cat (48 + UInt8.ofNat (m % 10)) t
      go_wp2
      go_roundw
      case rel => exact ⟨m / 10, j, _, by omega, hj, by rw [size_cat]; omega, by go_num, rfl, HS, hb.alloc hsz _⟩
      case measure => simp [intOf]; omega
set_option maxHeartbeats 1000000 in
theorem specFmtNeg (n : Nat) (h0 : 0 < n) (hn : n ≤ 9223372036854775808) (w : World) : Calls Tryz.prog 48 #[.int .i64 (-(n : Int))] w fun e w' => e = .returned (txt (45 :: decD n)) ∧ Below w.heap.size w w' := by
  have b0 : (-(n : Int) == 0) = false := by rw [beq_eq_false_iff_ne]; omega
  have b1 : decide (-(n : Int) < 0) = true := by simp; omega
  go_enter Tryz.func48, Tryz.ntmps48
  go_wp2
  go_loopw [0, 4, 5] (fun c o _ wr => ∃ (m k : Nat) (t : ByteArray), m ≤ n ∧ m < 10 ^ k ∧ t.size + k ≤ 19 ∧ c = .int .i64 (-(m : Int)) ∧ o = .string t ∧ Hid (decD n = decD m ++ t.data.toList) ∧ Below w.heap.size w wr)
    (fun c _ _ _ => (-(intOf c)).toNat)
  case atStart => exact ⟨n, 19, _, by omega, by omega, by decide, rfl, rfl, Lib.hid (by simp), Below.refl _ _⟩
  case round =>
    obtain ⟨m, k, t, hm, hmk, htk, rfl, rfl, HD, hb⟩ := hrel
    have hsz := hb.size
    by_cases hz : m = 0
    · subst hz
      go_wp2
      go_ret
      exact ⟨by rw [HD.out]; show Ending.returned (.string (⟨#[45]⟩ ++ t)) = _; rw [mk_data (⟨#[45]⟩ ++ t), cat_data]; rfl, hb⟩
    · have b2 : (-(m : Int) != 0) = true := by rw [bne_iff_ne]; omega
      obtain ⟨j, rfl, hj⟩ := pow_step hmk (by omega)
      have HS := Lib.hid (dec_step HD.out (by omega))
      have x1 : 0 ≤ (m : Int) % 10 := by omega
      have x2 : (m : Int) % 10 ≤ 9 := by omega
      have hcv := conv1 _ _ (digit_val m) wr
      have hst := size_cat (48 + UInt8.ofNat (m % 10)) t
      have e1 := neg_mod m
      have e2 := neg_div m
      rcases Nat.eq_zero_or_pos (m % 10) with hd | hd
      · have b3 : (m : Int) % 10 = 0 := by omega
        replace hcv := conv1 48 48 (by decide) wr
        rw [hd, show (48 + UInt8.ofNat 0 : UInt8) = 48 from rfl] at HS hst
        go_wp2
        go_roundw
        case rel => exact ⟨m / 10, j, _, by omega, hj, by rw [size_cat]; omega, by go_num, rfl, HS, hb.alloc hsz _⟩
        case measure => simp [intOf]; omega
      · have b3 : decide (0 < (m : Int) % 10) = true := by simp; omega
        go_wp2
        go_roundw
        case rel => exact ⟨m / 10, j, _, by omega, hj, by rw [size_cat]; omega, by go_num, rfl, HS, hb.alloc hsz _⟩
        case measure => simp [intOf]; omega
end Go.Proofs.YtljblaglfooclaaGreatDoor

