/- Proved here: plain facts on sets of two words: a set is its elements; De Morgan's laws; the sizes of a union and an intersection. No condition. -/
import Derived.Test.YtddhgepnoijpoaaDc
import Derived.Test.YtddhgepnoijpoaaCt
namespace Go.Proofs.Ytddhgepnoijpoaa
open Go.RowKit

theorem xor_i64 (x y : Int) : bits .xor .i64 x y = (BitVec.ofInt 64 x ^^^ BitVec.ofInt 64 y).toInt := i64_toInt _
theorem andNot_i64 (x y : Int) : bits .andNot .i64 x y = (BitVec.ofInt 64 x &&& ~~~ BitVec.ofInt 64 y).toInt := i64_toInt _
theorem bitB_and (x y : Int) (k : Nat) : bitB (bits .and .i64 x y) k = (bitB x k && bitB y k) := by
  unfold bitB; rw [and_i64, BitVec.ofInt_toInt, BitVec.getLsbD_and]
theorem bitB_or (x y : Int) (k : Nat) : bitB (bits .or .i64 x y) k = (bitB x k || bitB y k) := by
  unfold bitB; rw [or_i64, BitVec.ofInt_toInt, BitVec.getLsbD_or]
theorem hasB_or (a b c d : Int) (n : Nat) : hasB (bits .or .i64 a c) (bits .or .i64 b d) n = (hasB a b n || hasB c d n) := by
  unfold hasB
  split
  · exact bitB_or _ _ _
  · split
    · exact bitB_or _ _ _
    · rfl
theorem hasB_and (a b c d : Int) (n : Nat) : hasB (bits .and .i64 a c) (bits .and .i64 b d) n = (hasB a b n && hasB c d n) := by
  unfold hasB
  split
  · exact bitB_and _ _ _
  · split
    · exact bitB_and _ _ _
    · rfl
theorem filter_sum (p q : Nat → Bool) : ∀ l : List Nat, (l.filter (fun n => p n || q n)).length + (l.filter (fun n => p n && q n)).length = (l.filter p).length + (l.filter q).length
  | [] => rfl
  | x :: l => by
    have := filter_sum p q l
    cases hp : p x <;> cases hq : q x <;> simp [hp, hq] <;> omega
theorem csetL_len (a b : Int) : (csetL a b).length = ((List.range 128).filter (hasB a b)).length := by simp [csetL, csetPre]
/-- The sizes of a union and an intersection. -/
theorem sizes (a b c d : Int) : (csetL (bits .or .i64 a c) (bits .or .i64 b d)).length + (csetL (bits .and .i64 a c) (bits .and .i64 b d)).length = (csetL a b).length + (csetL c d).length := by
  rw [csetL_len, csetL_len, csetL_len, csetL_len]
  have e1 : hasB (bits .or .i64 a c) (bits .or .i64 b d) = fun n => hasB a b n || hasB c d n := funext (hasB_or a b c d)
  have e2 : hasB (bits .and .i64 a c) (bits .and .i64 b d) = fun n => hasB a b n && hasB c d n := funext (hasB_and a b c d)
  rw [e1, e2]
  exact filter_sum _ _ _
theorem demorgan (a c : Int) : bits .xor .i64 (-1) (bits .or .i64 a c) = bits .and .i64 (bits .xor .i64 (-1) a) (bits .xor .i64 (-1) c) := by
  rw [xor_i64, or_i64, and_i64, xor_i64, xor_i64, BitVec.ofInt_toInt, BitVec.ofInt_toInt, BitVec.ofInt_toInt]
  refine congrArg BitVec.toInt ?_
  apply BitVec.eq_of_getLsbD_eq
  intro i hi
  have h1 : (BitVec.ofInt 64 (-1)).getLsbD i = true := by
    rw [show BitVec.ofInt 64 (-1) = BitVec.allOnes 64 from rfl, BitVec.getLsbD_allOnes]; exact decide_eq_true hi
  simp only [BitVec.getLsbD_xor, BitVec.getLsbD_or, BitVec.getLsbD_and, h1]
  cases (BitVec.ofInt 64 a).getLsbD i <;> cases (BitVec.ofInt 64 c).getLsbD i <;> rfl
theorem minus (a c : Int) : bits .andNot .i64 a c = bits .and .i64 a (bits .xor .i64 (-1) c) := by
  rw [andNot_i64, and_i64, xor_i64, BitVec.ofInt_toInt]
  refine congrArg BitVec.toInt ?_
  apply BitVec.eq_of_getLsbD_eq
  intro i hi
  have h1 : (BitVec.ofInt 64 (-1)).getLsbD i = true := by
    rw [show BitVec.ofInt 64 (-1) = BitVec.allOnes 64 from rfl, BitVec.getLsbD_allOnes]; exact decide_eq_true hi
  simp only [BitVec.getLsbD_xor, BitVec.getLsbD_and, BitVec.getLsbD_not, h1, hi]
  cases (BitVec.ofInt 64 a).getLsbD i <;> cases (BitVec.ofInt 64 c).getLsbD i <;> rfl
theorem bitB_zero (j : Nat) : bitB 0 j = false := by
  unfold bitB
  rw [show BitVec.ofInt 64 0 = 0#64 from by decide]; simp
theorem ofNat_small {k : Nat} (h : k < 128) : (UInt8.ofNat k).toNat = k := by simp; omega
/-- What the letters below k leave in the two words. -/
theorem fold_bits (a b : Int) : ∀ k, k ≤ 128 → (∀ j, j < 64 → bitB (foldB (csetPre a b k)).1 j = (bitB a j && decide (j < k))) ∧ (∀ j, j < 64 → bitB (foldB (csetPre a b k)).2 j = (bitB b j && decide (64 + j < k)))
  | 0, _ => by
    have e : foldB (csetPre a b 0) = (0, 0) := rfl
    rw [e]
    exact ⟨fun j _ => by rw [bitB_zero]; simp, fun j _ => by rw [bitB_zero]; simp⟩
  | k + 1, h => by
    obtain ⟨h1, h2⟩ := fold_bits a b k (by omega)
    by_cases hb : hasB a b k = true
    · rw [csetPre_yes hb, foldB_snoc, ofNat_small (by omega)]
      by_cases hk : (k : Int) < 64
      · rw [addN_lo hk]
        have hbit : bitB a k = true := by
          unfold hasB at hb
          rwa [if_pos (by omega)] at hb
        refine ⟨fun j hj => ?_, fun j hj => ?_⟩
        · show bitB (setB _ (k : Int).toNat) j = _
          rw [Int.toNat_natCast, bitB_setB _ _ _ (by omega), h1 j hj]
          by_cases e : j = k
          · subst e; simp [hbit]
          · have : decide (j < k + 1) = decide (j < k) := decide_eq_decide.2 (by omega)
            rw [this]; simp [e]
        · show bitB _ j = _
          rw [h2 j hj]
          have : decide (64 + j < k + 1) = decide (64 + j < k) := decide_eq_decide.2 (by omega)
          rw [this]
      · rw [addN_hi hk]
        have hbit : bitB b (k - 64) = true := by
          unfold hasB at hb
          rwa [if_neg (by omega), if_pos (by omega)] at hb
        refine ⟨fun j hj => ?_, fun j hj => ?_⟩
        · show bitB _ j = _
          rw [h1 j hj]
          have : decide (j < k + 1) = decide (j < k) := decide_eq_decide.2 (by omega)
          rw [this]
        · show bitB (setB _ ((k : Int) - 64).toNat) j = _
          have e0 : ((k : Int) - 64).toNat = k - 64 := by omega
          rw [e0, bitB_setB _ _ _ (by omega), h2 j hj]
          by_cases e : j = k - 64
          · subst e
            have : decide (64 + (k - 64) < k + 1) = true := decide_eq_true (by omega)
            rw [this]; simp [hbit]
          · have : decide (64 + j < k + 1) = decide (64 + j < k) := decide_eq_decide.2 (by omega)
            rw [this]; simp [e]
    · have hb' : hasB a b k = false := by simpa using hb
      rw [csetPre_no hb']
      refine ⟨fun j hj => ?_, fun j hj => ?_⟩
      · rw [h1 j hj]
        by_cases e : j = k
        · subst e
          have : bitB a j = false := by
            unfold hasB at hb'
            rwa [if_pos hj] at hb'
          simp [this]
        · have : decide (j < k + 1) = decide (j < k) := decide_eq_decide.2 (by omega)
          rw [this]
      · rw [h2 j hj]
        by_cases e : 64 + j = k
        · have : bitB b j = false := by
            unfold hasB at hb'
            rwa [if_neg (by omega), if_pos (by omega), show k - 64 = j by omega] at hb'
          simp [this]
        · have : decide (64 + j < k + 1) = decide (64 + j < k) := decide_eq_decide.2 (by omega)
          rw [this]
theorem i64_self {a : Int} (h : I64 a) : (BitVec.ofInt 64 a).toInt = a := by
  unfold I64 at h
  rw [BitVec.toInt_ofInt]
  exact Int.bmod_eq_of_le (by omega) (by omega)
theorem word_ext {a b : Int} (ha : I64 a) (hb : I64 b) (h : ∀ j, j < 64 → bitB a j = bitB b j) : a = b := by
  rw [← i64_self ha, ← i64_self hb]
  congr 1
  exact BitVec.eq_of_getLsbD_eq h
/-- A set is its elements. -/
theorem newC_csetL {a b : Int} (ha : I64 a) (hb : I64 b) : newC (csetL a b) = ((a, b), true) := by
  have hall : (csetL a b).all low = true := by
    rw [List.all_eq_true]
    intro x hx
    simp only [csetL, csetPre, List.mem_map, List.mem_filter, List.mem_range] at hx
    obtain ⟨k, ⟨hk, _⟩, rfl⟩ := hx
    simp only [low, decide_eq_true_eq]
    rw [ofNat_small hk]; omega
  rw [newC_yes hall]
  obtain ⟨h1, h2⟩ := fold_bits a b 128 (Nat.le_refl _)
  have hi := i64_foldB (csetL a b)
  have e1 : (foldB (csetL a b)).1 = a := word_ext hi.1 ha fun j hj => by rw [csetL, h1 j hj]; simp; omega
  have e2 : (foldB (csetL a b)).2 = b := word_ext hi.2 hb fun j hj => by rw [csetL, h2 j hj]; simp; omega
  exact congrArg (·, true) (Prod.ext e1 e2)
end Go.Proofs.Ytddhgepnoijpoaa
