/- Proved here: the walk of the law FnPositions: the call returns true and leaves all older memory as it was. Condition: the arguments are of their types. -/
import Derived.Test.YtnmieocbpdoicaaDx
import Derived.Test.YtnmieocbpdoicaaNo
namespace Go.Proofs.Ytnmieocbpdoicaa.lPositions
open Go.RowKit

theorem normP_again {n p i : Int} (h : normP i n = (p, true)) : normP p n = (p, true) := by
  have hb := normP_bd h
  unfold normP
  rw [if_neg (by omega), if_pos (by omega)]
theorem normP_one {n : Int} (h : 0 ≤ n ∧ n ≤ 120) : normP 1 n = (1, true) := by
  unfold normP
  rw [if_neg (by omega), if_pos (by omega)]
theorem normP_zero {n : Int} (h : 0 ≤ n ∧ n ≤ 120) : normP 0 n = (n + 1, true) := by
  unfold normP
  rw [if_neg (by omega), if_neg (by omega), if_pos (by omega)]; simp
theorem ext_size (s : ByteArray) {a b : Nat} (h : a ≤ b) (hb : b ≤ s.size) : (s.extract a b).size = b - a := by
  rw [Lib.extract_eq]
  show ((s.data.toList.drop a).take (b - a)).toArray.size = _
  rw [List.size_toArray, List.length_take, List.length_drop]
  have : s.data.toList.length = s.size := rfl
  omega
theorem ext_cat (s : ByteArray) {a : Nat} : s.extract 0 a ++ s.extract a s.size = s := by
  have e : ∀ x y : ByteArray, x.data.toList = y.data.toList → x = y := by
    intro x y h; obtain ⟨⟨x⟩⟩ := x; obtain ⟨⟨y⟩⟩ := y; simp at h; rw [h]
  apply e
  rw [ByteArray.data_append, Array.toList_append, Lib.extract_eq, Lib.extract_eq]
  show (s.data.toList.drop 0).take (a - 0) ++ (s.data.toList.drop a).take (s.size - a) = _
  rw [List.drop_zero, Nat.sub_zero, List.take_of_length_le (l := s.data.toList.drop a) (by simp), List.take_append_drop]
theorem beqT_self (t : ByteArray) : (t.toList == t.toList) = true := by simp
set_option maxRecDepth 20000 in
set_option maxHeartbeats 4000000 in
theorem walk (w : World) (A : Option Addr) (n cap : Nat) (hn : n ≤ maxLen) (hc : n ≤ 1048576 → CodeAt w A n) : Calls Try.prog 8 #[.slice A n cap] w fun e w' => e = .returned (.bool true) ∧ Below w.heap.size w w' := by
  unfold maxLen at hn
  by_cases hbig : n ≤ 1048576
  · have hD := drawSection A n cap w (hc hbig)
    clear hc
    go_enter Try.func8, Try.ntmps8
    go_upto_region 4 with (first
      | (go_at_call 30; refine hD.mono ?_; rintro e w1 ⟨s, i, j, hs, hi, hj, rfl, hb1⟩)
      | go_in)
    clear hD hj
    unfold W130 at hs
    unfold I64 at hi
    obtain ⟨p, ok, hp⟩ : ∃ p ok, normP i s.size = (p, ok) := ⟨_, _, rfl⟩
    have HP := Lib.hid hp
    have hbp : -9223372036854775808 ≤ (s.size : Int) ∧ (s.size : Int) ≤ 9223372036854775807 := by omega
    cases ok with
    | false =>
      clear hp
      go_wp2_with (first
        | (go_at_call 31; refine (implNorm i s.size p false hi hbp HP _).mono ?_; rintro e w' ⟨rfl, rfl⟩)
        | (go_at_call 32; refine (specNorm i s.size p false hi hbp HP _).mono ?_; rintro e w' ⟨rfl, rfl⟩))
      go_ret
      exact ⟨rfl, hb1⟩
    | true =>
      have hpb := normP_bd hp
      have HQ := Lib.hid (normP_again hp)
      have e1 := normP_one (n := s.size) (by omega)
      have e0 := normP_zero (n := s.size) (by omega)
      obtain ⟨k, hk⟩ : ∃ k : Nat, p = (k : Int) + 1 := ⟨(p - 1).toNat, by omega⟩
      have sA : secL s 1 i = (s.extract 0 k, true) := by
        rw [secL_yes e1 hp, if_pos (by omega)]
        congr 2
        omega
      have sB : secL s i 0 = (s.extract k s.size, true) := by
        rw [secL_yes hp e0, if_pos (by omega)]
        congr 2 <;> omega
      have hks : k ≤ s.size := by omega
      have hA := fun W => implSection s (by omega) 1 i (by omega) hi W
      have hB := fun W => implSection s (by omega) i 0 hi (by omega) W
      rw [sA] at hA
      rw [sB] at hB
      obtain ⟨ta, hta⟩ : ∃ ta, ta = s.extract 0 k := ⟨_, rfl⟩
      obtain ⟨tb, htb⟩ : ∃ tb, tb = s.extract k s.size := ⟨_, rfl⟩
      have z1 : ((ta.size : Int) == p - 1) = true := by rw [beq_iff_eq, hta, ext_size s (by omega) hks]; omega
      have z2 : ((ta ++ tb).toList == s.toList) = true := by rw [hta, htb, ext_cat s]; simp
      have z3 : ta.size ≤ 200 := by rw [hta, ext_size s (by omega) hks]; omega
      have z4 : tb.size ≤ 200 := by rw [htb, ext_size s hks (by omega)]; omega
      rw [← hta] at hA
      rw [← htb] at hB
      clear e1 e0 sA sB hta htb hk hks hp
      have hpp : -9223372036854775808 ≤ p ∧ p ≤ 9223372036854775807 := by omega
      go_upto_region 10 with (first
        | (go_at_call 31; refine (implNorm i s.size p true hi hbp HP _).mono ?_; rintro e w' ⟨rfl, rfl⟩)
        | (go_at_call 32; refine (specNorm i s.size p true hi hbp HP _).mono ?_; rintro e w' ⟨rfl, rfl⟩))
      go_upto_region 11 with (go_at_call 31; refine (implNorm p s.size p true hpp hbp HQ _).mono ?_; rintro e w' ⟨rfl, rfl⟩)
      go_upto_region 12 with (go_at_call 33; refine (hA _).mono ?_; rintro e w' ⟨rfl, rfl⟩)
      go_wp2_with (go_at_call 33; refine (hB _).mono ?_; rintro e w' ⟨rfl, rfl⟩)
      go_ret
      exact ⟨rfl, hb1⟩
  · clear hc
    go_enter Try.func8, Try.ntmps8
    go_wp2_with go_in
    go_ret
    exact ⟨rfl, Below.refl _ _⟩

end Go.Proofs.Ytnmieocbpdoicaa.lPositions
