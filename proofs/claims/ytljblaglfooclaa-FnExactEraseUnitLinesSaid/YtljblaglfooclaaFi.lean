/- Proved here: what the reference's FormatInt returns: the decimal form. No condition. -/
import Derived.Test.YtljblaglfooclaaBuf
import Derived.Test.YtljblaglfooclaaPl
import Derived.Test.YtljblaglfooclaaHeld
import Derived.Lib.Strings
namespace Go.Proofs.Ytljblaglfooclaa
open Go.RowKit

theorem cat_data (a b : ByteArray) : (a ++ b).data.toList = a.data.toList ++ b.data.toList := by
  rw [ByteArray.data_append, Array.toList_append]
theorem mk_data (s : ByteArray) : s = ⟨s.data.toList.toArray⟩ := by cases s; simp
theorem fmt_pos (m : Nat) (h : 0 < m) : Lib.itoa (m : Int) = decD m := by rw [itoa_pos, decD, if_neg (by omega)]
theorem fmt_neg (m : Nat) (h : 0 < m) : Lib.itoa (-(m : Int)) = 45 :: decD m := by rw [itoa_neg h, decD, if_neg (by omega)]
theorem conv1 (x : UInt8) (v : Int) (hv : v = (x.toNat : Int)) (w : World) : (convert 73 9 (.slice (some ⟨w.heap.size, 0, none⟩) 1 1)).run Try.prog (w.alloc (.cells #[.int .u8 v] 5)) = .ok (.string ⟨#[x]⟩) (w.alloc (.cells #[.int .u8 v] 5)) := by
  subst hv
  exact run_text (Buf.lit w 0 [x] (Nat.zero_le _) (by simp [maxLen]))
theorem of48 (d : Nat) : UInt8.ofNat (48 + d) = 48 + UInt8.ofNat d := by simp
theorem digit_val (m : Nat) : 48 + (m : Int) % 10 = ((48 + UInt8.ofNat (m % 10)).toNat : Int) := by rw [← of48]; simp; omega
theorem dec_step {n m : Nat} {t : ByteArray} (h : decD n = decD m ++ t.data.toList) (hm : 0 < m) : decD n = decD (m / 10) ++ ((⟨#[48 + UInt8.ofNat (m % 10)]⟩ : ByteArray) ++ t).data.toList := by
  rw [h, decD_step hm, of48, cat_data, List.append_assoc]
theorem neg_mod (m : Nat) : (-(m : Int)).tmod 10 = -((m : Int) % 10) := by rw [Int.neg_tmod, Int.tmod_eq_emod_of_nonneg (by omega)]
theorem neg_div (m : Nat) : (-(m : Int)).tdiv 10 = -((m : Int) / 10) := by rw [Int.neg_tdiv, Int.tdiv_eq_ediv_of_nonneg (by omega)]
theorem pow_step {m k : Nat} (h : m < 10 ^ k) (h0 : 0 < m) : ∃ j, k = j + 1 ∧ m / 10 < 10 ^ j := by
  cases k with
  | zero => simp at h; omega
  | succ j => exact ⟨j, rfl, by rw [Nat.pow_succ] at h; omega⟩
theorem size_cat (x : UInt8) (t : ByteArray) : ((⟨#[x]⟩ : ByteArray) ++ t).size = t.size + 1 := by rw [ByteArray.size_append]; show 1 + t.size = _; omega
end Go.Proofs.Ytljblaglfooclaa

