/- Proved here: what the law's markText returns. Condition: a positive number of 64 bits. -/
import Derived.Test.YtljblaglfooclaaFi
namespace Go.Proofs.Ytljblaglfooclaa
open Go.RowKit

/-- The text that marks a place. -/
def markT (n : Nat) : ByteArray := ⟨(109 :: decD n).toArray⟩
set_option maxHeartbeats 1000000 in
theorem markText (n : Nat) (h0 : 0 < n) (hn : n ≤ 1152921504606846976) (w : World) : Calls Try.prog 34 #[.int .i64 (n : Int)] w fun e w' => e = .returned (.string (markT n)) ∧ Below w.heap.size w w' := by
  have b0 : decide ((n : Int) ≤ 0) = false := by simp; omega
  go_enter Try.func34, Try.ntmps34
  go_wp2
  go_loopw [0, 3] (fun c o wr => ∃ (m k : Nat) (t : ByteArray), m ≤ n ∧ m < 10 ^ k ∧ t.size + k ≤ 19 ∧ c = .int .i64 m ∧ o = .string t ∧ Hid (decD n = decD m ++ t.data.toList) ∧ Below w.heap.size w wr)
    (fun c _ _ => (intOf c).toNat)
  case atStart => exact ⟨n, 19, _, by omega, by omega, by decide, rfl, rfl, Lib.hid (by simp), Below.refl _ _⟩
  case round =>
    obtain ⟨m, k, t, hm, hmk, htk, rfl, rfl, HD, hb⟩ := hrel
    have hsz := hb.size
    by_cases hz : m = 0
    · subst hz
      go_wp2
      go_ret
      exact ⟨by show Ending.returned (.string (⟨#[109]⟩ ++ t)) = _; rw [markT, HD.out, mk_data (⟨#[109]⟩ ++ t), cat_data]; rfl, hb⟩
    · obtain ⟨j, rfl, hj⟩ := pow_step hmk (by omega)
      have b3 : 0 < m := by omega
      have HS := Lib.hid (dec_step HD.out (by omega))
      have x1 : 0 ≤ (m : Int) % 10 := by omega
      have x2 : (m : Int) % 10 ≤ 9 := by omega
      have hcv := conv1 _ _ (digit_val m) wr
      have hst := size_cat (48 + UInt8.ofNat (m % 10)) t
      go_wp2
      go_roundw
      case rel => exact ⟨m / 10, j, _, by omega, hj, by rw [size_cat]; omega, by go_num, rfl, HS, hb.alloc hsz _⟩
      case measure => simp [intOf]; omega
end Go.Proofs.Ytljblaglfooclaa
