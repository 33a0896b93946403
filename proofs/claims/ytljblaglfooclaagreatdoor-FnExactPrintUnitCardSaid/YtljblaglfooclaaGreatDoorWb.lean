/- Proved here: what the small functions on character sets return (the mirror's conversion, the comparison, union, intersection, difference, complement). No condition. Proved here: plain facts on the bits of 64-bit integers, as the walk spells them: a shift and a mask ask for one bit; or with a power of two sets one. No condition. Proved here: what HasByte returns: the bit of the set. No condition. Proved here: what withByte and the reference's l2Add return: the set with one byte more. Condition: the byte is below 128. -/
import Derived.Test.YtljblaglfooclaaGreatDoorBase
import Derived.Laws.BitsLemmas
import Derived.IntWalk
import Derived.WalkKit
namespace Go.Proofs.YtljblaglfooclaaGreatDoor
open Go.RowKit

/-- A set as a value. -/
abbrev cs (a b : Int) : Value := .agg #[.int .i64 a, .int .i64 b]
/-- Four cells hold on in a world that has only grown. -/
theorem kc4 {W w1 : World} {p0 p1 p2 p3 : Addr} {v0 v1 v2 v3 : Value} (hb : Below W.heap.size W w1) (h0 : W.cell? p0 = some v0) (h1 : W.cell? p1 = some v1) (h2 : W.cell? p2 = some v2) (h3 : W.cell? p3 = some v3) :
    w1.cell? p0 = some v0 ∧ w1.cell? p1 = some v1 ∧ w1.cell? p2 = some v2 ∧ w1.cell? p3 = some v3 :=
  ⟨(hb.cell (World.block_lt_of_cell? W p0 h0)).trans h0, (hb.cell (World.block_lt_of_cell? W p1 h1)).trans h1, (hb.cell (World.block_lt_of_cell? W p2 h2)).trans h2, (hb.cell (World.block_lt_of_cell? W p3 h3)).trans h3⟩

/-- A new block that holds a set. -/
abbrev csB (t : TypeId) (a b : Int) : Obj := .cells #[.int .i64 a, .int .i64 b] t

end Go.Proofs.YtljblaglfooclaaGreatDoor

namespace Go.Proofs.YtljblaglfooclaaGreatDoor
open Go.RowKit

/-- Bit k of a 64-bit integer. -/
def bitB (a : Int) (k : Nat) : Bool := (BitVec.ofInt 64 a).getLsbD k

theorem i64_toInt (v : BitVec 64) : IntKind.i64.wrap (v.toNat : Int) = v.toInt := by
  rw [IntKind.wrap_i64, BitVec.toInt_eq_toNat_cond]
  have := v.isLt
  split <;> omega
theorem u64_toNat (a : Int) : IntKind.u64.wrap a = ((BitVec.ofInt 64 a).toNat : Int) := by
  rw [BitVec.toNat_ofInt]
  simp [IntKind.wrap, IntKind.bits, IntKind.signed]
  omega
theorem ofInt_toNat' (v : BitVec 64) : BitVec.ofInt 64 (v.toNat : Int) = v := by
  rw [BitVec.ofInt_natCast, BitVec.ofNat_toNat, BitVec.setWidth_eq]
theorem ofInt_wrap64 (n : Int) : BitVec.ofInt 64 (wrap64 n) = BitVec.ofInt 64 n := by
  apply BitVec.eq_of_toNat_eq
  rw [BitVec.toNat_ofInt, BitVec.toNat_ofInt]
  unfold wrap64
  omega
theorem ofInt_pow (k : Nat) : BitVec.ofInt 64 ((2 : Int) ^ k) = BitVec.twoPow 64 k := by
  have h : ((2 : Int) ^ k) = ((2 ^ k : Nat) : Int) := by simp
  rw [h, BitVec.ofInt_natCast]
  apply BitVec.eq_of_toNat_eq
  rw [BitVec.toNat_ofNat, BitVec.toNat_twoPow]

theorem and_i64 (x y : Int) : bits .and .i64 x y = (BitVec.ofInt 64 x &&& BitVec.ofInt 64 y).toInt := i64_toInt _
theorem or_i64 (x y : Int) : bits .or .i64 x y = (BitVec.ofInt 64 x ||| BitVec.ofInt 64 y).toInt := i64_toInt _
theorem and_u64 (x y : Int) : bits .and .u64 x y = ((BitVec.ofInt 64 x &&& BitVec.ofInt 64 y).toNat : Int) := by
  show IntKind.u64.wrap ((BitVec.ofInt 64 x &&& BitVec.ofInt 64 y).toNat : Int) = _
  rw [u64_toNat, ofInt_toNat']
theorem or_u64 (x y : Int) : bits .or .u64 x y = ((BitVec.ofInt 64 x ||| BitVec.ofInt 64 y).toNat : Int) := by
  show IntKind.u64.wrap ((BitVec.ofInt 64 x ||| BitVec.ofInt 64 y).toNat : Int) = _
  rw [u64_toNat, ofInt_toNat']

/-- impl's test. -/
theorem shr_bit (a : Int) (k : Nat) : (bits .and .u64 (IntKind.u64.wrap a / 2 ^ k) 1 == 1) = bitB a k := by
  rw [and_u64, u64_toNat]
  have h : (((BitVec.ofInt 64 a).toNat : Int) / 2 ^ k) = (((BitVec.ofInt 64 a) >>> k).toNat : Int) := by
    rw [BitVec.toNat_ushiftRight, Nat.shiftRight_eq_div_pow]
    simp
  rw [h, ofInt_toNat']
  have h1 : BitVec.ofInt 64 1 = BitVec.ofNat 64 1 := rfl
  rw [h1]
  unfold bitB
  have e : ((BitVec.ofInt 64 a) >>> k &&& BitVec.ofNat 64 1) = if (BitVec.ofInt 64 a).getLsbD k then BitVec.ofNat 64 1 else 0 := by
    apply BitVec.eq_of_getLsbD_eq
    intro i hi
    rw [BitVec.getLsbD_and, BitVec.getLsbD_ushiftRight]
    rcases Nat.eq_zero_or_pos i with rfl | hp
    · by_cases hb : (BitVec.ofInt 64 a).getLsbD k <;> simp [hb]
    · have : (BitVec.ofNat 64 1).getLsbD i = false := by simp; omega
      rw [this]
      split <;> simp; omega
  rw [e]
  by_cases hb : (BitVec.ofInt 64 a).getLsbD k <;> simp [hb]

/-- spec's test. -/
theorem mask_bit (a : Int) (k : Nat) (hk : k < 64) : (bits .and .i64 a (wrap64 (2 ^ k)) != 0) = bitB a k := by
  rw [and_i64, ofInt_wrap64, ofInt_pow]
  unfold bitB
  rw [BitVec.and_twoPow]
  by_cases hb : (BitVec.ofInt 64 a).getLsbD k
  · rw [if_pos hb, hb]
    have : BitVec.twoPow 64 k ≠ 0#64 := by
      intro h
      have := congrArg (fun v => v.getLsbD k) h
      simp at this
      omega
    rw [bne_iff_ne]
    intro h
    exact this (BitVec.eq_of_toInt_eq (by simpa using h))
  · rw [if_neg hb]
    simp at hb
    simp [hb]
/-- The word with bit k set. -/
def setB (a : Int) (k : Nat) : Int := (BitVec.ofInt 64 a ||| BitVec.twoPow 64 k).toInt
theorem or_u (a : Int) (k : Nat) : wrap64 (bits .or .u64 (IntKind.u64.wrap a) (IntKind.u64.wrap (2 ^ k))) = setB a k := by
  rw [or_u64, u64_toNat, u64_toNat, ofInt_toNat', ofInt_toNat', ofInt_pow, ← IntWalk.i64_left, i64_toInt]
  rfl
theorem or_i (a : Int) (k : Nat) : bits .or .i64 a (wrap64 (2 ^ k)) = setB a k := by
  rw [or_i64, ofInt_wrap64, ofInt_pow]
  rfl
/-- A set of two words with one byte more. -/
def addN (a b n : Int) : Int × Int := if n < 64 then (setB a n.toNat, b) else (a, setB b (n.toNat - 64))
theorem addN_lo {a b n : Int} (h : n < 64) : addN a b n = (setB a n.toNat, b) := if_pos h
theorem addN_hi {a b n : Int} (h : ¬ n < 64) : addN a b n = (a, setB b (n - 64).toNat) := by
  rw [addN, if_neg h, show (n - 64).toNat = n.toNat - 64 from by omega]
theorem bitB_setB (a : Int) (k j : Nat) (hk : k < 64) : bitB (setB a k) j = (bitB a j || decide (j = k)) := by
  unfold bitB setB
  rw [BitVec.ofInt_toInt, BitVec.getLsbD_or, BitVec.getLsbD_twoPow]
  by_cases h : k = j
  · subst h; simp [hk]
  · simp [h]; omega

/-- Bit n of a set of two words. -/
def hasB (a b : Int) (n : Nat) : Bool := if n < 64 then bitB a n else if n < 128 then bitB b (n - 64) else false
end Go.Proofs.YtljblaglfooclaaGreatDoor

namespace Go.Proofs.YtljblaglfooclaaGreatDoor
open Go.RowKit
theorem ret_bool {a b : Bool} (h : a = b) : Ending.returned (.bool a) = .returned (.bool b) := by rw [h]
set_option maxHeartbeats 400000 in
theorem implHas (a b n : Int) (hn : 0 ≤ n ∧ n ≤ 255) (w : World) : Calls Tryz.prog 103 #[cs a b, .int .u8 n] w fun e w' => e = .returned (.bool (hasB a b n.toNat)) ∧ w.alloc (csB 83 a b) = w' := by
  by_cases h1 : n < 64
  · go_enter Tryz.func103, Tryz.ntmps103
    go_wp2
    go_ret
    exact ⟨ret_bool (by unfold hasB; rw [if_pos (by omega)]; exact shr_bit _ _), rfl⟩
  · by_cases h2 : n < 128
    · go_enter Tryz.func103, Tryz.ntmps103
      go_wp2
      go_ret
      exact ⟨ret_bool (by unfold hasB; rw [if_neg (by omega), if_pos (by omega), show n.toNat - 64 = (n - 64).toNat from by omega]; exact shr_bit _ _), rfl⟩
    · go_enter Tryz.func103, Tryz.ntmps103
      go_wp2
      go_ret
      exact ⟨ret_bool (by unfold hasB; rw [if_neg (by omega), if_neg (by omega)]), rfl⟩
set_option maxHeartbeats 400000 in
theorem specHas (a b n : Int) (hn : 0 ≤ n ∧ n ≤ 255) (w : World) : Calls Tryz.prog 98 #[cs a b, .int .u8 n] w fun e w' => e = .returned (.bool (hasB a b n.toNat)) ∧ w.alloc (csB 83 a b) = w' := by
  by_cases h1 : n < 64
  · go_enter Tryz.func98, Tryz.ntmps98
    go_wp2
    go_ret
    exact ⟨ret_bool (by unfold hasB; rw [if_pos (by omega)]; exact mask_bit _ _ (by omega)), rfl⟩
  · by_cases h2 : n < 128
    · go_enter Tryz.func98, Tryz.ntmps98
      go_wp2
      go_ret
      exact ⟨ret_bool (by unfold hasB; rw [if_neg (by omega), if_pos (by omega), show n.toNat - 64 = (n - 64).toNat from by omega]; exact mask_bit _ _ (by omega)), rfl⟩
    · go_enter Tryz.func98, Tryz.ntmps98
      go_wp2
      go_ret
      exact ⟨ret_bool (by unfold hasB; rw [if_neg (by omega), if_neg (by omega)]), rfl⟩
end Go.Proofs.YtljblaglfooclaaGreatDoor

namespace Go.Proofs.YtljblaglfooclaaGreatDoor
open Go.RowKit
theorem ret_cs {a b c d : Int} (h1 : a = c) (h2 : b = d) : Ending.returned (cs a b) = .returned (cs c d) := by rw [h1, h2]
set_option maxHeartbeats 400000 in
theorem implWith (a b n : Int) (hn : 0 ≤ n ∧ n ≤ 127) (w : World) : Calls Tryz.prog 91 #[cs a b, .int .u8 n] w fun e w' => e = .returned (cs (addN a b n).1 (addN a b n).2) ∧ Below w.heap.size w w' := by
  by_cases h1 : n < 64
  · have H := Lib.hid (addN_lo (a := a) (b := b) h1)
    go_enter Tryz.func91, Tryz.ntmps91
    go_wp2
    exact bodyPost_ret (v := cs (wrap64 (bits .or .u64 (IntKind.u64.wrap a) (IntKind.u64.wrap (2 ^ n.toNat)))) b) (by simp [results, Tryz.results91, go_sem]) rfl ⟨by rw [H.out]; exact ret_cs (or_u _ _) rfl, by repeat (first | exact Below.refl _ _ | refine Below.setCell ?_ (by simp) _ | refine Below.alloc ?_ (by (try simp); try omega) _)⟩
  · have H := Lib.hid (addN_hi (a := a) (b := b) h1)
    go_enter Tryz.func91, Tryz.ntmps91
    go_wp2
    exact bodyPost_ret (v := cs a (wrap64 (bits .or .u64 (IntKind.u64.wrap b) (IntKind.u64.wrap (2 ^ (n - 64).toNat))))) (by simp [results, Tryz.results91, go_sem]) rfl ⟨by rw [H.out]; exact ret_cs rfl (or_u _ _), by repeat (first | exact Below.refl _ _ | refine Below.setCell ?_ (by simp) _ | refine Below.alloc ?_ (by (try simp); try omega) _)⟩
set_option maxHeartbeats 400000 in
theorem specWith (a b n : Int) (hn : 0 ≤ n ∧ n ≤ 127) (w : World) : Calls Tryz.prog 78 #[cs a b, .int .u8 n] w fun e w' => e = .returned (cs (addN a b n).1 (addN a b n).2) ∧ Below w.heap.size w w' := by
  by_cases h1 : n < 64
  · have H := Lib.hid (addN_lo (a := a) (b := b) h1)
    go_enter Tryz.func78, Tryz.ntmps78
    go_wp2
    exact bodyPost_ret (v := cs (bits .or .i64 a (wrap64 (2 ^ n.toNat))) b) (by simp [results, Tryz.results78, go_sem]) rfl ⟨by rw [H.out]; exact ret_cs (or_i _ _) rfl, by repeat (first | exact Below.refl _ _ | refine Below.setCell ?_ (by simp) _ | refine Below.alloc ?_ (by (try simp); try omega) _)⟩
  · have H := Lib.hid (addN_hi (a := a) (b := b) h1)
    go_enter Tryz.func78, Tryz.ntmps78
    go_wp2
    exact bodyPost_ret (v := cs a (bits .or .i64 b (wrap64 (2 ^ (n - 64).toNat)))) (by simp [results, Tryz.results78, go_sem]) rfl ⟨by rw [H.out]; exact ret_cs rfl (or_i _ _), by repeat (first | exact Below.refl _ _ | refine Below.setCell ?_ (by simp) _ | refine Below.alloc ?_ (by (try simp); try omega) _)⟩
end Go.Proofs.YtljblaglfooclaaGreatDoor
