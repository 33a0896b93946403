/- Proved here: what the readings of numbers return: the program's and the reference's. Condition: a text has at most 2^20 bytes. -/
import Derived.Test.YtddhgepnoijpoaaDoorFi
namespace Go.Proofs.YtddhgepnoijpoaaDoor
open Go.RowKit

theorem num_one (l : List UInt8) (k : Nat) (hk : k < l.length) (hd : isDig l[k] = true) : ((numVal (l.take (k + 1)) : Nat) : Int) = (numVal (l.take k) : Int) * 10 + ((l[k].toNat : Int) - 48) := by
  rw [List.take_succ_eq_append_getElem hk, numVal_snoc]
  have := isDig_iff'.1 hd
  omega
theorem all_one (l : List UInt8) (k : Nat) (hk : k < l.length) (hd : isDig l[k] = true) (h : (l.take k).all isDig = true) : (l.take (k + 1)).all isDig = true := by
  rw [List.take_succ_eq_append_getElem hk, List.all_append, h, List.all_cons, hd]; rfl
theorem not_all {l : List UInt8} {k : Nat} (hk : k < l.length) (hd : isDig l[k] = false) : l.all isDig = false := by
  rw [List.all_eq_false]; exact ⟨l[k], List.getElem_mem hk, by simp [hd]⟩
theorem head_at {s : ByteArray} (h : 0 < s.size) : s.data.toList.head? = some s[0] := by
  rw [List.head?_eq_getElem?, List.getElem?_eq_getElem (by simpa using h)]; rfl
theorem u8_eqT {x c : UInt8} (h : x = c) : ((x.toNat : Int) == (c.toNat : Int)) = true := by subst h; simp
theorem u8_eqF {x c : UInt8} (h : ¬ x = c) : ((x.toNat : Int) == (c.toNat : Int)) = false := by
  rw [beq_eq_false_iff_ne]; intro e; exact h (UInt8.toNat_inj.1 (by omega))
theorem ret_two {a c : Int} {b d : Bool} (h : (c, d) = (a, b)) : Ending.returned (.tuple #[.int .i64 a, .bool b]) = .returned (.tuple #[.int .i64 c, .bool d]) := by cases h; rfl
theorem numIn_end {l : List UInt8} {m : Int} (h1 : ¬ (l.length = 0 ∨ 12 < l.length ∨ 1 < l.length ∧ l.head? = some 48)) (hd : l.all isDig = true) : (m < (numVal l : Int) → numIn l m = (0, false)) ∧ (¬ m < (numVal l : Int) → numIn l m = ((numVal l : Int), true)) :=
  ⟨fun h => by rw [numIn, if_neg h1, if_pos hd, if_pos h], fun h => by rw [numIn, if_neg h1, if_pos hd, if_neg h]⟩
theorem numVal_k {l : List UInt8} (h : l.all isDig = true) (hl : l.length ≤ 12) : numVal l < 1000000000000 := numVal_b (k := 12) h hl
theorem numIn_at {l : List UInt8} {m : Int} {k : Nat} (h1 : ¬ (l.length = 0 ∨ 12 < l.length ∨ 1 < l.length ∧ l.head? = some 48)) (hd : (l.take k).all isDig = true) (hk : k = l.length) : numVal (l.take k) < 1000000000000 ∧ (m < (numVal (l.take k) : Int) → numIn l m = (0, false)) ∧ (¬ m < (numVal (l.take k) : Int) → numIn l m = ((numVal (l.take k) : Int), true)) := by
  subst hk
  rw [List.take_length] at hd ⊢
  exact ⟨numVal_k hd (by omega), numIn_end h1 hd⟩
structure PnR (l : List UInt8) (k : Nat) (n : Value) : Prop where
  all : (l.take k).all isDig = true
  val : n = .int .i64 (numVal (l.take k) : Int)
theorem digCases {x : UInt8} (hd : isDig x = false) : x.toNat < 48 ∨ 57 < x.toNat := by
  rcases Nat.lt_or_ge x.toNat 48 with h | h
  · exact .inl h
  · refine .inr (Nat.lt_of_not_le fun h2 => ?_)
    have := isDig_iff'.2 ⟨h, h2⟩
    rw [this] at hd; cases hd
theorem num_first {s : ByteArray} (hc : ¬ (s.data.toList.length = 0 ∨ 12 < s.data.toList.length ∨ 1 < s.data.toList.length ∧ s.data.toList.head? = some 48)) (h0 : 0 < s.size) : ¬ 1 < s.size ∨ 1 < s.size ∧ ((s[0].toNat : Int) == 48) = false := by
  have hz : s.data.toList.length = s.size := rfl
  rcases Nat.lt_or_ge 1 s.size with h | h
  · refine .inr ⟨h, u8_eqF (c := 48) fun e => hc (.inr (.inr ⟨by omega, ?_⟩))⟩
    rw [head_at (by omega), e]
  · exact .inl (by omega)
set_option maxHeartbeats 2000000 in
theorem implNumberIn (s : ByteArray) (most : Int) (w : World) : Calls Tryd.prog 49 #[.string s, .int .i64 most] w fun e w' => e = .returned (.tuple #[.int .i64 (numIn s.data.toList most).1, .bool (numIn s.data.toList most).2]) ∧ w = w' := by
  have hz : s.data.toList.length = s.size := rfl
  by_cases hc : s.data.toList.length = 0 ∨ 12 < s.data.toList.length ∨ 1 < s.data.toList.length ∧ s.data.toList.head? = some 48
  · have E0 := Lib.hid (numIn_no (m := most) (.inl hc))
    rcases hc with hc | hc | ⟨hc, h48⟩
    · have b0 : s.size = 0 := by omega
      go_enter Tryd.func49, Tryd.ntmps49
      go_wp2
      go_ret2
      exact ⟨ret_two E0.out, rfl⟩
    · have b0 : ¬ s.size = 0 := by omega
      have b1 : 12 < s.size := by omega
      go_enter Tryd.func49, Tryd.ntmps49
      go_wp2
      go_ret2
      exact ⟨ret_two E0.out, rfl⟩
    · have b0 : ¬ s.size = 0 := by omega
      have b1 : 1 < s.size := by omega
      by_cases b2 : 12 < s.size
      · go_enter Tryd.func49, Tryd.ntmps49
        go_wp2
        go_ret2
        exact ⟨ret_two E0.out, rfl⟩
      · rw [head_at (by omega)] at h48
        have b3 : ((s[0].toNat : Int) == 48) = true := u8_eqT (Option.some.inj h48)
        clear h48
        go_enter Tryd.func49, Tryd.ntmps49
        go_wp2
        go_ret2
        exact ⟨ret_two E0.out, rfl⟩
  · have b0 : ¬ s.size = 0 := by omega
    have b2 : ¬ 12 < s.size := by omega
    have b00 : 0 < s.size := by omega
    have b3 := num_first hc b00
    have b01 : ((s.size : Int) == 0) = false := by rw [beq_eq_false_iff_ne]; omega
    have b21 : decide (12 < (s.size : Int)) = false := by simp; omega
    have HC := Lib.hid hc
    clear hc
    have key : Calls Tryd.prog 49 #[.string s, .int .i64 most] w fun e w' => e = .returned (.tuple #[.int .i64 (numIn s.data.toList most).1, .bool (numIn s.data.toList most).2]) ∧ w = w' := by
      rcases b3 with b3 | ⟨b3, b4⟩
      all_goals
        go_enter Tryd.func49, Tryd.ntmps49
        go_wp2
        go_loop [6, 7] (fun n i => ∃ k : Nat, k ≤ s.size ∧ i = .int .i64 k ∧ PnR s.data.toList k n) (fun _ i => s.size - (intOf i).toNat)
        case atStart => exact ⟨0, by omega, rfl, rfl, rfl⟩
        case round =>
          obtain ⟨k, hk, rfl, hall, rfl⟩ := hrel
          have hlen := List.length_take_le k s.data.toList
          by_cases hkz : k = s.size
          · subst hkz
            obtain ⟨f0, f1, f2⟩ := numIn_at (m := most) HC.out hall hz.symm
            have H1 := Lib.hid f1
            have H2 := Lib.hid f2
            clear hall hlen f1 f2
            by_cases hm : most < (numVal (s.data.toList.take s.size) : Int)
            · have F := Lib.hid (H1.out hm)
              go_wp2
              go_ret2
              exact ⟨ret_two F.out, rfl⟩
            · have F := Lib.hid (H2.out hm)
              go_wp2
              go_ret2
              exact ⟨ret_two F.out, rfl⟩
          · have hkl : k < s.size := by omega
            by_cases hd : isDig s.data.toList[k] = true
            · have hdd : 48 ≤ s[k].toNat ∧ s[k].toNat ≤ 57 := isDig_iff'.1 hd
              have hb11 := numVal_k hall (by omega)
              have HV := Lib.hid (num_one s.data.toList k hkl hd)
              have HA2 := Lib.hid (all_one s.data.toList k hkl hd hall)
              clear hall hd hlen
              go_wp2
              go_round
              case rel => exact ⟨k + 1, by omega, by go_num, HA2.out, congrArg (Value.int .i64) (by rw [HV.out]; show _ = _ + ((s[k].toNat : Int) - 48); omega)⟩
              case measure => simp [intOf]; omega
            · have hd' : isDig s.data.toList[k] = false := by simpa using hd
              have hdd : s[k].toNat < 48 ∨ 57 < s[k].toNat := digCases hd'
              have HF := Lib.hid (numIn_no (m := most) (.inr (not_all hkl hd')))
              clear hall hd hd' hlen
              rcases hdd with hdd | hdd
              all_goals
                go_wp2
                go_ret2
                exact ⟨ret_two HF.out, rfl⟩
    exact key
theorem tail_data (s : ByteArray) : (s.extract 1 s.size).data.toList = s.data.toList.tail := by
  rw [Lib.extract_eq, ← List.drop_one]
  exact List.take_of_length_le (by simp)
theorem tail_size (s : ByteArray) : (s.extract 1 s.size).size = s.size - 1 := by simp
theorem numF {t : ByteArray} {k : Nat} (hd : (t.data.toList.take k).all isDig = true) (hk : k = t.data.toList.length) (h12 : t.size ≤ 12) : numVal (t.data.toList.take k) < 1000000000000 ∧ t.data.toList.all isDig = true ∧ numVal (t.data.toList.take k) = numVal t.data.toList := by
  subst hk
  rw [List.take_length] at hd ⊢
  exact ⟨numVal_k hd h12, hd, rfl⟩
theorem numIn_bd (l : List UInt8) (m : Int) (hm : 0 ≤ m) : 0 ≤ (numIn l m).1 ∧ (numIn l m).1 ≤ m := by
  unfold numIn
  split
  · exact ⟨by simp, hm⟩
  · split
    · split
      · exact ⟨by simp, hm⟩
      · exact ⟨by simp, by simp only; omega⟩
    · exact ⟨by simp, hm⟩
theorem txt_ne {l : List UInt8} {s : ByteArray} (h : ¬ l = s.data.toList) : (l == s.toList) = false := by
  rw [ByteArray.toList_eq s, beq_eq_false_iff_ne]; exact h
theorem txt_eq {l : List UInt8} {s : ByteArray} (h : l = s.data.toList) : (l == s.toList) = true := by
  rw [ByteArray.toList_eq s, h, beq_self_eq_true]
theorem readA {l : List UInt8} {k : Int} (h45 : l.head? = some 45) : ((l.tail.length < 1 ∨ k < (l.tail.length : Int)) → readL l k = (0, false)) ∧ (¬ (l.tail.length < 1 ∨ k < (l.tail.length : Int)) → (l.tail.all isDig = false → readL l k = (0, false)) ∧ (l.tail.all isDig = true → (Lib.itoa (-(numVal l.tail : Int)) = l → readL l k = (-(numVal l.tail : Int), true)) ∧ (¬ Lib.itoa (-(numVal l.tail : Int)) = l → readL l k = (0, false)))) := by
  refine ⟨fun h => ?_, fun h => ⟨fun h2 => ?_, fun h2 => ⟨fun h3 => ?_, fun h3 => ?_⟩⟩⟩
  · rw [readL, if_pos h45, if_pos h]
  · rw [readL, if_pos h45, if_neg h, if_neg (by rw [h2]; simp)]
  · rw [readL, if_pos h45, if_neg h, if_pos h2, if_pos h3]
  · rw [readL, if_pos h45, if_neg h, if_pos h2, if_neg h3]
theorem readB {l : List UInt8} {k : Int} (h45 : ¬ l.head? = some 45) : ((l.length < 1 ∨ k < (l.length : Int)) → readL l k = (0, false)) ∧ (¬ (l.length < 1 ∨ k < (l.length : Int)) → (l.all isDig = false → readL l k = (0, false)) ∧ (l.all isDig = true → (Lib.itoa (numVal l : Int) = l → readL l k = ((numVal l : Int), true)) ∧ (¬ Lib.itoa (numVal l : Int) = l → readL l k = (0, false)))) := by
  refine ⟨fun h => ?_, fun h => ⟨fun h2 => ?_, fun h2 => ⟨fun h3 => ?_, fun h3 => ?_⟩⟩⟩
  · rw [readL, if_neg h45, if_pos h]
  · rw [readL, if_neg h45, if_neg h, if_neg (by rw [h2]; simp)]
  · rw [readL, if_neg h45, if_neg h, if_pos h2, if_pos h3]
  · rw [readL, if_neg h45, if_neg h, if_pos h2, if_neg h3]
theorem implParseInt (s : ByteArray) (hs : s.size ≤ 1048576) (w : World) : Calls Tryd.prog 33 #[.string s] w fun e w' => e = .returned (.tuple #[.int .i64 (parseI s.data.toList).1, .bool (parseI s.data.toList).2]) ∧ w = w' := by
  have hz : s.data.toList.length = s.size := rfl
  by_cases h1 : 1 < s.size
  · have hp : 0 < s.size := by omega
    have e1 : s.data.toList[1]? = some s[1] := by rw [List.getElem?_eq_getElem (by omega)]; rfl
    have e0 := head_at hp
    have ht := tail_data s
    by_cases c0 : s[0] = 45
    · have b0 : ((s[0].toNat : Int) == 45) = true := u8_eqT c0
      by_cases c1 : s[1] = 48
      · have b1 : ((s[1].toNat : Int) == 48) = true := u8_eqT c1
        have b1' : ((s[1].toNat : Int) != 48) = false := by rw [bne, b1]; rfl
        have E := Lib.hid (show parseI s.data.toList = numIn s.data.toList 999999999999 from if_neg (by rw [e1, c1]; simp))
        clear c0 c1 e0 e1 ht hz
        go_enter Tryd.func33, Tryd.ntmps33
        go_wp2_with (go_at_call 49; refine (implNumberIn _ _ _).mono ?_; rintro e w' ⟨rfl, rfl⟩)
        go_ret2
        exact ⟨by rw [E.out]; rfl, rfl⟩
      · have b1 : ((s[1].toNat : Int) == 48) = false := u8_eqF c1
        have b1' : ((s[1].toNat : Int) != 48) = true := by rw [bne, b1]; rfl
        obtain ⟨t, hst⟩ : ∃ t, s.extract 1 s.size = t := ⟨_, rfl⟩
        rw [hst] at ht
        have hbd := numIn_bd t.data.toList 999999999999 (by omega)
        have E := Lib.hid (show parseI s.data.toList = (-(numIn s.data.toList.tail 999999999999).1, (numIn s.data.toList.tail 999999999999).2) from if_pos ⟨by omega, by rw [e0, c0], by rw [e1]; intro h; exact c1 (Option.some.inj h)⟩)
        rw [← ht] at E
        clear c0 c1 e0 e1 ht hz
        go_enter Tryd.func33, Tryd.ntmps33
        go_wp2_with (go_at_call 49; refine (implNumberIn _ _ _).mono ?_; rintro e w' ⟨rfl, rfl⟩)
        go_ret2
        exact ⟨by rw [E.out]; rfl, rfl⟩
    · have b0 : ((s[0].toNat : Int) == 45) = false := u8_eqF c0
      have E := Lib.hid (show parseI s.data.toList = numIn s.data.toList 999999999999 from if_neg (by rw [e0]; intro h; exact c0 (Option.some.inj h.2.1)))
      clear c0 e0 e1 ht hz
      go_enter Tryd.func33, Tryd.ntmps33
      go_wp2_with (go_at_call 49; refine (implNumberIn _ _ _).mono ?_; rintro e w' ⟨rfl, rfl⟩)
      go_ret2
      exact ⟨by rw [E.out]; rfl, rfl⟩
  · have E := Lib.hid (show parseI s.data.toList = numIn s.data.toList 999999999999 from if_neg (by omega))
    have b1 : decide (1 < (s.size : Int)) = false := by simp; omega
    clear hz
    go_enter Tryd.func33, Tryd.ntmps33
    go_wp2_with (go_at_call 49; refine (implNumberIn _ _ _).mono ?_; rintro e w' ⟨rfl, rfl⟩)
    go_ret2
    exact ⟨by rw [E.out]; rfl, rfl⟩
end Go.Proofs.YtddhgepnoijpoaaDoor
