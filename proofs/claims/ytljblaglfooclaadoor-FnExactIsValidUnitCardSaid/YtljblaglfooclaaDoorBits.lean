/- Proved here: plain facts on the bits of 64-bit integers, as the walk spells them: a shift and a mask ask for one bit; or with a power of two sets one. No condition. -/
import Derived.Laws.BitsLemmas
import Derived.IntWalk
import Derived.WalkKit
namespace Go.Proofs.YtljblaglfooclaaDoor
open Go.RowKit

/-- Bit k of a 64-bit integer. -/
def bitB (a : Int) (k : Nat) : Bool := (BitVec.ofInt 64 a).getLsbD k

theorem i64_toInt (v : BitVec 64) : IntKind.i64.wrap (v.toNat : Int) = v.toInt := by
  rw [IntKind.wrap_i64, BitVec.toInt_eq_toNat_cond]
  have := v.isLt
  split <;> omega
theorem u64_toNat (a : Int) : IntKind.u64.wrap a = ((BitVec.ofInt 64 a).toNat : Int) := by
  rw [BitVec.toNat_ofInt]
  simp [IntKind.wrap, IntKind.bits, IntKind.signed]
  omega
theorem ofInt_toNat' (v : BitVec 64) : BitVec.ofInt 64 (v.toNat : Int) = v := by
  rw [BitVec.ofInt_natCast, BitVec.ofNat_toNat, BitVec.setWidth_eq]
theorem ofInt_wrap64 (n : Int) : BitVec.ofInt 64 (wrap64 n) = BitVec.ofInt 64 n := by
  apply BitVec.eq_of_toNat_eq
  rw [BitVec.toNat_ofInt, BitVec.toNat_ofInt]
  unfold wrap64
  omega
theorem ofInt_pow (k : Nat) : BitVec.ofInt 64 ((2 : Int) ^ k) = BitVec.twoPow 64 k := by
  have h : ((2 : Int) ^ k) = ((2 ^ k : Nat) : Int) := by simp
  rw [h, BitVec.ofInt_natCast]
  apply BitVec.eq_of_toNat_eq
  rw [BitVec.toNat_ofNat, BitVec.toNat_twoPow]

theorem and_i64 (x y : Int) : bits .and .i64 x y = (BitVec.ofInt 64 x &&& BitVec.ofInt 64 y).toInt := i64_toInt _
theorem or_i64 (x y : Int) : bits .or .i64 x y = (BitVec.ofInt 64 x ||| BitVec.ofInt 64 y).toInt := i64_toInt _
theorem and_u64 (x y : Int) : bits .and .u64 x y = ((BitVec.ofInt 64 x &&& BitVec.ofInt 64 y).toNat : Int) := by
  show IntKind.u64.wrap ((BitVec.ofInt 64 x &&& BitVec.ofInt 64 y).toNat : Int) = _
  rw [u64_toNat, ofInt_toNat']
theorem or_u64 (x y : Int) : bits .or .u64 x y = ((BitVec.ofInt 64 x ||| BitVec.ofInt 64 y).toNat : Int) := by
  show IntKind.u64.wrap ((BitVec.ofInt 64 x ||| BitVec.ofInt 64 y).toNat : Int) = _
  rw [u64_toNat, ofInt_toNat']

/-- impl's test. -/
theorem shr_bit (a : Int) (k : Nat) : (bits .and .u64 (IntKind.u64.wrap a / 2 ^ k) 1 == 1) = bitB a k := by
  rw [and_u64, u64_toNat]
  have h : (((BitVec.ofInt 64 a).toNat : Int) / 2 ^ k) = (((BitVec.ofInt 64 a) >>> k).toNat : Int) := by
    rw [BitVec.toNat_ushiftRight, Nat.shiftRight_eq_div_pow]
    simp
  rw [h, ofInt_toNat']
  have h1 : BitVec.ofInt 64 1 = BitVec.ofNat 64 1 := rfl
  rw [h1]
  unfold bitB
  have e : ((BitVec.ofInt 64 a) >>> k &&& BitVec.ofNat 64 1) = if (BitVec.ofInt 64 a).getLsbD k then BitVec.ofNat 64 1 else 0 := by
    apply BitVec.eq_of_getLsbD_eq
    intro i hi
    rw [BitVec.getLsbD_and, BitVec.getLsbD_ushiftRight]
    rcases Nat.eq_zero_or_pos i with rfl | hp
    · by_cases hb : (BitVec.ofInt 64 a).getLsbD k <;> simp [hb]
    · have : (BitVec.ofNat 64 1).getLsbD i = false := by simp; omega
      rw [this]
      split <;> simp; omega
  rw [e]
  by_cases hb : (BitVec.ofInt 64 a).getLsbD k <;> simp [hb]

/-- spec's test. -/
theorem mask_bit (a : Int) (k : Nat) (hk : k < 64) : (bits .and .i64 a (wrap64 (2 ^ k)) != 0) = bitB a k := by
  rw [and_i64, ofInt_wrap64, ofInt_pow]
  unfold bitB
  rw [BitVec.and_twoPow]
  by_cases hb : (BitVec.ofInt 64 a).getLsbD k
  · rw [if_pos hb, hb]
    have : BitVec.twoPow 64 k ≠ 0#64 := by
      intro h
      have := congrArg (fun v => v.getLsbD k) h
      simp at this
      omega
    rw [bne_iff_ne]
    intro h
    exact this (BitVec.eq_of_toInt_eq (by simpa using h))
  · rw [if_neg hb]
    simp at hb
    simp [hb]
/-- The word with bit k set. -/
def setB (a : Int) (k : Nat) : Int := (BitVec.ofInt 64 a ||| BitVec.twoPow 64 k).toInt
theorem or_u (a : Int) (k : Nat) : wrap64 (bits .or .u64 (IntKind.u64.wrap a) (IntKind.u64.wrap (2 ^ k))) = setB a k := by
  rw [or_u64, u64_toNat, u64_toNat, ofInt_toNat', ofInt_toNat', ofInt_pow, ← IntWalk.i64_left, i64_toInt]
  rfl
theorem or_i (a : Int) (k : Nat) : bits .or .i64 a (wrap64 (2 ^ k)) = setB a k := by
  rw [or_i64, ofInt_wrap64, ofInt_pow]
  rfl
/-- A set of two words with one byte more. -/
def addN (a b n : Int) : Int × Int := if n < 64 then (setB a n.toNat, b) else (a, setB b (n.toNat - 64))
theorem addN_lo {a b n : Int} (h : n < 64) : addN a b n = (setB a n.toNat, b) := if_pos h
theorem addN_hi {a b n : Int} (h : ¬ n < 64) : addN a b n = (a, setB b (n - 64).toNat) := by
  rw [addN, if_neg h, show (n - 64).toNat = n.toNat - 64 from by omega]
theorem bitB_setB (a : Int) (k j : Nat) (hk : k < 64) : bitB (setB a k) j = (bitB a j || decide (j = k)) := by
  unfold bitB setB
  rw [BitVec.ofInt_toInt, BitVec.getLsbD_or, BitVec.getLsbD_twoPow]
  by_cases h : k = j
  · subst h; simp [hk]
  · simp [h]; omega

/-- Bit n of a set of two words. -/
def hasB (a b : Int) (n : Nat) : Bool := if n < 64 then bitB a n else if n < 128 then bitB b (n - 64) else false
end Go.Proofs.YtljblaglfooclaaDoor
