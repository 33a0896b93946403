/- Proved here: what the readings of numbers return: the program's and the reference's. Condition: a text has at most 2^20 bytes. -/
import Derived.Test.YtnmieocbpdoicaaFi
namespace Go.Proofs.Ytnmieocbpdoicaa
open Go.RowKit

theorem num_one (l : List UInt8) (k : Nat) (hk : k < l.length) (hd : isDig l[k] = true) : ((numVal (l.take (k + 1)) : Nat) : Int) = (numVal (l.take k) : Int) * 10 + ((l[k].toNat : Int) - 48) := by
  rw [List.take_succ_eq_append_getElem hk, numVal_snoc]
  have := isDig_iff'.1 hd
  omega
theorem all_one (l : List UInt8) (k : Nat) (hk : k < l.length) (hd : isDig l[k] = true) (h : (l.take k).all isDig = true) : (l.take (k + 1)).all isDig = true := by
  rw [List.take_succ_eq_append_getElem hk, List.all_append, h, List.all_cons, hd]; rfl
theorem not_all {l : List UInt8} {k : Nat} (hk : k < l.length) (hd : isDig l[k] = false) : l.all isDig = false := by
  rw [List.all_eq_false]; exact ⟨l[k], List.getElem_mem hk, by simp [hd]⟩
theorem head_at {s : ByteArray} (h : 0 < s.size) : s.data.toList.head? = some s[0] := by
  rw [List.head?_eq_getElem?, List.getElem?_eq_getElem (by simpa using h)]; rfl
theorem u8_eqT {x c : UInt8} (h : x = c) : ((x.toNat : Int) == (c.toNat : Int)) = true := by subst h; simp
theorem u8_eqF {x c : UInt8} (h : ¬ x = c) : ((x.toNat : Int) == (c.toNat : Int)) = false := by
  rw [beq_eq_false_iff_ne]; intro e; exact h (UInt8.toNat_inj.1 (by omega))
theorem ret_two {a c : Int} {b d : Bool} (h : (c, d) = (a, b)) : Ending.returned (.tuple #[.int .i64 a, .bool b]) = .returned (.tuple #[.int .i64 c, .bool d]) := by cases h; rfl
theorem numIn_end {l : List UInt8} {m : Int} (h1 : ¬ (l.length = 0 ∨ 12 < l.length ∨ 1 < l.length ∧ l.head? = some 48)) (hd : l.all isDig = true) : (m < (numVal l : Int) → numIn l m = (0, false)) ∧ (¬ m < (numVal l : Int) → numIn l m = ((numVal l : Int), true)) :=
  ⟨fun h => by rw [numIn, if_neg h1, if_pos hd, if_pos h], fun h => by rw [numIn, if_neg h1, if_pos hd, if_neg h]⟩
theorem numVal_k {l : List UInt8} (h : l.all isDig = true) (hl : l.length ≤ 12) : numVal l < 1000000000000 := numVal_b (k := 12) h hl
theorem numIn_at {l : List UInt8} {m : Int} {k : Nat} (h1 : ¬ (l.length = 0 ∨ 12 < l.length ∨ 1 < l.length ∧ l.head? = some 48)) (hd : (l.take k).all isDig = true) (hk : k = l.length) : numVal (l.take k) < 1000000000000 ∧ (m < (numVal (l.take k) : Int) → numIn l m = (0, false)) ∧ (¬ m < (numVal (l.take k) : Int) → numIn l m = ((numVal (l.take k) : Int), true)) := by
  subst hk
  rw [List.take_length] at hd ⊢
  exact ⟨numVal_k hd (by omega), numIn_end h1 hd⟩
structure PnR (l : List UInt8) (k : Nat) (n : Value) : Prop where
  all : (l.take k).all isDig = true
  val : n = .int .i64 (numVal (l.take k) : Int)
theorem digCases {x : UInt8} (hd : isDig x = false) : x.toNat < 48 ∨ 57 < x.toNat := by
  rcases Nat.lt_or_ge x.toNat 48 with h | h
  · exact .inl h
  · refine .inr (Nat.lt_of_not_le fun h2 => ?_)
    have := isDig_iff'.2 ⟨h, h2⟩
    rw [this] at hd; cases hd
theorem num_first {s : ByteArray} (hc : ¬ (s.data.toList.length = 0 ∨ 12 < s.data.toList.length ∨ 1 < s.data.toList.length ∧ s.data.toList.head? = some 48)) (h0 : 0 < s.size) : ¬ 1 < s.size ∨ 1 < s.size ∧ ((s[0].toNat : Int) == 48) = false := by
  have hz : s.data.toList.length = s.size := rfl
  rcases Nat.lt_or_ge 1 s.size with h | h
  · refine .inr ⟨h, u8_eqF (c := 48) fun e => hc (.inr (.inr ⟨by omega, ?_⟩))⟩
    rw [head_at (by omega), e]
  · exact .inl (by omega)
set_option maxHeartbeats 2000000 in
theorem implNumberIn (s : ByteArray) (most : Int) (w : World) : Calls Try.prog 64 #[.string s, .int .i64 most] w fun e w' => e = .returned (.tuple #[.int .i64 (numIn s.data.toList most).1, .bool (numIn s.data.toList most).2]) ∧ w = w' := by
  have hz : s.data.toList.length = s.size := rfl
  by_cases hc : s.data.toList.length = 0 ∨ 12 < s.data.toList.length ∨ 1 < s.data.toList.length ∧ s.data.toList.head? = some 48
  · have E0 := Lib.hid (numIn_no (m := most) (.inl hc))
    rcases hc with hc | hc | ⟨hc, h48⟩
    · have b0 : s.size = 0 := by omega
      go_enter Try.func64, Try.ntmps64
      go_wp2
      go_ret2
      exact ⟨ret_two E0.out, rfl⟩
    · have b0 : ¬ s.size = 0 := by omega
      have b1 : 12 < s.size := by omega
      go_enter Try.func64, Try.ntmps64
      go_wp2
      go_ret2
      exact ⟨ret_two E0.out, rfl⟩
    · have b0 : ¬ s.size = 0 := by omega
      have b1 : 1 < s.size := by omega
      by_cases b2 : 12 < s.size
      · go_enter Try.func64, Try.ntmps64
        go_wp2
        go_ret2
        exact ⟨ret_two E0.out, rfl⟩
      · rw [head_at (by omega)] at h48
        have b3 : ((s[0].toNat : Int) == 48) = true := u8_eqT (Option.some.inj h48)
        clear h48
        go_enter Try.func64, Try.ntmps64
        go_wp2
        go_ret2
        exact ⟨ret_two E0.out, rfl⟩
  · have b0 : ¬ s.size = 0 := by omega
    have b2 : ¬ 12 < s.size := by omega
    have b00 : 0 < s.size := by omega
    have b3 := num_first hc b00
    have b01 : ((s.size : Int) == 0) = false := by rw [beq_eq_false_iff_ne]; omega
    have b21 : decide (12 < (s.size : Int)) = false := by simp; omega
    have HC := Lib.hid hc
    clear hc
    have key : Calls Try.prog 64 #[.string s, .int .i64 most] w fun e w' => e = .returned (.tuple #[.int .i64 (numIn s.data.toList most).1, .bool (numIn s.data.toList most).2]) ∧ w = w' := by
      rcases b3 with b3 | ⟨b3, b4⟩
      all_goals
        go_enter Try.func64, Try.ntmps64
        go_wp2
        go_loop [6, 7] (fun n i => ∃ k : Nat, k ≤ s.size ∧ i = .int .i64 k ∧ PnR s.data.toList k n) (fun _ i => s.size - (intOf i).toNat)
        case atStart => exact ⟨0, by omega, rfl, rfl, rfl⟩
        case round =>
          obtain ⟨k, hk, rfl, hall, rfl⟩ := hrel
          have hlen := List.length_take_le k s.data.toList
          by_cases hkz : k = s.size
          · subst hkz
            obtain ⟨f0, f1, f2⟩ := numIn_at (m := most) HC.out hall hz.symm
            have H1 := Lib.hid f1
            have H2 := Lib.hid f2
            clear hall hlen f1 f2
            by_cases hm : most < (numVal (s.data.toList.take s.size) : Int)
            · have F := Lib.hid (H1.out hm)
              go_wp2
              go_ret2
              exact ⟨ret_two F.out, rfl⟩
            · have F := Lib.hid (H2.out hm)
              go_wp2
              go_ret2
              exact ⟨ret_two F.out, rfl⟩
          · have hkl : k < s.size := by omega
            by_cases hd : isDig s.data.toList[k] = true
            · have hdd : 48 ≤ s[k].toNat ∧ s[k].toNat ≤ 57 := isDig_iff'.1 hd
              have hb11 := numVal_k hall (by omega)
              have HV := Lib.hid (num_one s.data.toList k hkl hd)
              have HA2 := Lib.hid (all_one s.data.toList k hkl hd hall)
              clear hall hd hlen
              go_wp2
              go_round
              case rel => exact ⟨k + 1, by omega, by go_num, HA2.out, congrArg (Value.int .i64) (by rw [HV.out]; show _ = _ + ((s[k].toNat : Int) - 48); omega)⟩
              case measure => simp [intOf]; omega
            · have hd' : isDig s.data.toList[k] = false := by simpa using hd
              have hdd : s[k].toNat < 48 ∨ 57 < s[k].toNat := digCases hd'
              have HF := Lib.hid (numIn_no (m := most) (.inr (not_all hkl hd')))
              clear hall hd hd' hlen
              rcases hdd with hdd | hdd
              all_goals
                go_wp2
                go_ret2
                exact ⟨ret_two HF.out, rfl⟩
    exact key
theorem specFmt (v : Int) (h1 : -9223372036854775808 ≤ v) (h2 : v ≤ 9223372036854775807) (w : World) : Calls Try.prog 90 #[.int .i64 v] w fun e w' => e = .returned (txt (Lib.itoa v)) ∧ Below w.heap.size w w' := by
  rcases Int.lt_trichotomy v 0 with h | h | h
  · obtain ⟨m, rfl⟩ : ∃ m : Nat, v = -(m : Int) := ⟨v.natAbs, by omega⟩
    rw [fmt_neg m (by omega)]
    exact specFmtNeg m (by omega) (by omega) w
  · subst h
    rw [show Lib.itoa 0 = [48] from itoa_z]
    go_enter Try.func90, Try.ntmps90
    go_wp2
    go_ret
    exact ⟨rfl, Below.refl _ _⟩
  · obtain ⟨m, rfl⟩ : ∃ m : Nat, v = (m : Int) := ⟨v.natAbs, by omega⟩
    rw [fmt_pos m (by omega)]
    exact specFmtPos m (by omega) (by omega) w
theorem tail_data (s : ByteArray) : (s.extract 1 s.size).data.toList = s.data.toList.tail := by
  rw [Lib.extract_eq, ← List.drop_one]
  exact List.take_of_length_le (by simp)
theorem tail_size (s : ByteArray) : (s.extract 1 s.size).size = s.size - 1 := by simp
theorem numF {t : ByteArray} {k : Nat} (hd : (t.data.toList.take k).all isDig = true) (hk : k = t.data.toList.length) (h12 : t.size ≤ 12) : numVal (t.data.toList.take k) < 1000000000000 ∧ t.data.toList.all isDig = true ∧ numVal (t.data.toList.take k) = numVal t.data.toList := by
  subst hk
  rw [List.take_length] at hd ⊢
  exact ⟨numVal_k hd h12, hd, rfl⟩
theorem numIn_bd (l : List UInt8) (m : Int) (hm : 0 ≤ m) : 0 ≤ (numIn l m).1 ∧ (numIn l m).1 ≤ m := by
  unfold numIn
  split
  · exact ⟨by simp, hm⟩
  · split
    · split
      · exact ⟨by simp, hm⟩
      · exact ⟨by simp, by simp only; omega⟩
    · exact ⟨by simp, hm⟩
theorem txt_ne {l : List UInt8} {s : ByteArray} (h : ¬ l = s.data.toList) : (l == s.toList) = false := by
  rw [ByteArray.toList_eq s, beq_eq_false_iff_ne]; exact h
theorem txt_eq {l : List UInt8} {s : ByteArray} (h : l = s.data.toList) : (l == s.toList) = true := by
  rw [ByteArray.toList_eq s, h, beq_self_eq_true]
theorem readA {l : List UInt8} {k : Int} (h45 : l.head? = some 45) : ((l.tail.length < 1 ∨ k < (l.tail.length : Int)) → readL l k = (0, false)) ∧ (¬ (l.tail.length < 1 ∨ k < (l.tail.length : Int)) → (l.tail.all isDig = false → readL l k = (0, false)) ∧ (l.tail.all isDig = true → (Lib.itoa (-(numVal l.tail : Int)) = l → readL l k = (-(numVal l.tail : Int), true)) ∧ (¬ Lib.itoa (-(numVal l.tail : Int)) = l → readL l k = (0, false)))) := by
  refine ⟨fun h => ?_, fun h => ⟨fun h2 => ?_, fun h2 => ⟨fun h3 => ?_, fun h3 => ?_⟩⟩⟩
  · rw [readL, if_pos h45, if_pos h]
  · rw [readL, if_pos h45, if_neg h, if_neg (by rw [h2]; simp)]
  · rw [readL, if_pos h45, if_neg h, if_pos h2, if_pos h3]
  · rw [readL, if_pos h45, if_neg h, if_pos h2, if_neg h3]
theorem readB {l : List UInt8} {k : Int} (h45 : ¬ l.head? = some 45) : ((l.length < 1 ∨ k < (l.length : Int)) → readL l k = (0, false)) ∧ (¬ (l.length < 1 ∨ k < (l.length : Int)) → (l.all isDig = false → readL l k = (0, false)) ∧ (l.all isDig = true → (Lib.itoa (numVal l : Int) = l → readL l k = ((numVal l : Int), true)) ∧ (¬ Lib.itoa (numVal l : Int) = l → readL l k = (0, false)))) := by
  refine ⟨fun h => ?_, fun h => ⟨fun h2 => ?_, fun h2 => ⟨fun h3 => ?_, fun h3 => ?_⟩⟩⟩
  · rw [readL, if_neg h45, if_pos h]
  · rw [readL, if_neg h45, if_neg h, if_neg (by rw [h2]; simp)]
  · rw [readL, if_neg h45, if_neg h, if_pos h2, if_pos h3]
  · rw [readL, if_neg h45, if_neg h, if_pos h2, if_neg h3]
set_option maxHeartbeats 2000000 in
theorem specReadNeg (s t : ByteArray) (hs : s.size ≤ 1048576) (most : Int) (hm0 : 1 ≤ most) (hm : most ≤ 12) (hp : 0 < s.size) (h45 : ((s[0].toNat : Int) == 45) = true) (ht : s.extract 1 s.size = t) (w : World)
    (r : Int × Bool) (R1 : Hid ((t.data.toList.length < 1 ∨ most < (t.data.toList.length : Int)) → r = (0, false)))
    (R2 : Hid (¬ (t.data.toList.length < 1 ∨ most < (t.data.toList.length : Int)) → (t.data.toList.all isDig = false → r = (0, false)) ∧ (t.data.toList.all isDig = true → (Lib.itoa (-(numVal t.data.toList : Int)) = s.data.toList → r = (-(numVal t.data.toList : Int), true)) ∧ (¬ Lib.itoa (-(numVal t.data.toList : Int)) = s.data.toList → r = (0, false))))) :
    Calls Try.prog 63 #[.string s, .int .i64 most] w fun e w' => e = .returned (.tuple #[.int .i64 r.1, .bool r.2]) ∧ Below w.heap.size w w' := by
  have hz : t.data.toList.length = t.size := rfl
  by_cases hL : t.data.toList.length < 1 ∨ most < (t.data.toList.length : Int)
  · have E := Lib.hid (R1.out hL)
    clear R1 R2
    rcases Nat.lt_or_ge t.data.toList.length 1 with h1 | h1
    · have h0 : t.size < 1 := by omega
      clear hL h1 hz
      go_enter Try.func63, Try.ntmps63
      go_wp2
      all_goals
        go_ret2
        exact ⟨ret_two E.out, Below.refl _ _⟩
    · have h0 : ¬ t.size < 1 := by omega
      have h2 : most < (t.size : Int) := by omega
      clear hL h1 hz
      go_enter Try.func63, Try.ntmps63
      go_wp2
      all_goals
        go_ret2
        exact ⟨ret_two E.out, Below.refl _ _⟩
  · have R := R2.out hL
    have h0 : ¬ t.size < 1 := by omega
    have h2 : ¬ most < (t.size : Int) := by omega
    have h12 : t.size ≤ 12 := by omega
    have q0 : decide ((t.size : Int) < 1) = false := by simp; omega
    have q1 : decide (most < (t.size : Int)) = false := by simp; omega
    obtain ⟨r1, r2⟩ := R
    have RA := Lib.hid r1
    have RB := Lib.hid r2
    clear R1 R2 hL r1 r2
    go_enter Try.func63, Try.ntmps63
    go_wp2
    go_loop [8, 9] (fun n i => ∃ k : Nat, k ≤ t.size ∧ i = .int .i64 k ∧ PnR t.data.toList k n) (fun _ i => t.size - (intOf i).toNat)
    case atStart => exact ⟨0, by omega, rfl, rfl, rfl⟩
    case round =>
      obtain ⟨k, hk, rfl, hall, rfl⟩ := hrel
      have hlen := List.length_take_le k t.data.toList
      by_cases hkz : k = t.size
      · subst hkz
        obtain ⟨f0, f1, f2⟩ := numF hall hz.symm h12
        obtain ⟨g1, g2⟩ := RB.out f1
        rw [← f2] at g1 g2
        have G1 := Lib.hid g1
        have G2 := Lib.hid g2
        clear g1 g2 hall hlen f1 f2
        by_cases hq : Lib.itoa (-(numVal (t.data.toList.take t.size) : Int)) = s.data.toList
        · have E := Lib.hid (G1.out hq)
          have B := txt_eq hq
          clear G1 G2 RA RB hq
          go_wp2_with (go_at_call 90; refine (specFmt _ (by omega) (by omega) _).mono ?_; rintro e w' ⟨rfl, hb⟩)
          go_ret2
          exact ⟨ret_two E.out, hb⟩
        · have E := Lib.hid (G2.out hq)
          have B := txt_ne hq
          clear G1 G2 RA RB hq
          go_wp2_with (go_at_call 90; refine (specFmt _ (by omega) (by omega) _).mono ?_; rintro e w' ⟨rfl, hb⟩)
          go_ret2
          exact ⟨ret_two E.out, hb⟩
      · have hkl : k < t.size := by omega
        by_cases hd : isDig t.data.toList[k] = true
        · have hdd : 48 ≤ t[k].toNat ∧ t[k].toNat ≤ 57 := isDig_iff'.1 hd
          have hb11 := numVal_k hall (by omega)
          have HV := Lib.hid (num_one t.data.toList k hkl hd)
          have HA2 := Lib.hid (all_one t.data.toList k hkl hd hall)
          clear hall hd hlen RA RB
          go_wp2
          go_round
          case rel => exact ⟨k + 1, by omega, by go_num, HA2.out, congrArg (Value.int .i64) (by rw [HV.out]; show _ = _ + ((t[k].toNat : Int) - 48); omega)⟩
          case measure => simp [intOf]; omega
        · have hd' : isDig t.data.toList[k] = false := by simpa using hd
          have hdd : t[k].toNat < 48 ∨ 57 < t[k].toNat := digCases hd'
          have E := Lib.hid (RA.out (not_all hkl hd'))
          clear hall hd hd' hlen RA RB
          rcases hdd with hdd | hdd
          all_goals
            go_wp2
            go_ret2
            exact ⟨ret_two E.out, Below.refl _ _⟩
set_option maxHeartbeats 2000000 in
theorem specReadPos (s : ByteArray) (hs : s.size ≤ 1048576) (most : Int) (hm0 : 1 ≤ most) (hm : most ≤ 12) (hp : 0 < s.size) (h45 : ((s[0].toNat : Int) == 45) = false) (w : World)
    (r : Int × Bool) (R1 : Hid ((s.data.toList.length < 1 ∨ most < (s.data.toList.length : Int)) → r = (0, false)))
    (R2 : Hid (¬ (s.data.toList.length < 1 ∨ most < (s.data.toList.length : Int)) → (s.data.toList.all isDig = false → r = (0, false)) ∧ (s.data.toList.all isDig = true → (Lib.itoa ((numVal s.data.toList : Int)) = s.data.toList → r = ((numVal s.data.toList : Int), true)) ∧ (¬ Lib.itoa ((numVal s.data.toList : Int)) = s.data.toList → r = (0, false))))) :
    Calls Try.prog 63 #[.string s, .int .i64 most] w fun e w' => e = .returned (.tuple #[.int .i64 r.1, .bool r.2]) ∧ Below w.heap.size w w' := by
  have hz : s.data.toList.length = s.size := rfl
  by_cases hL : s.data.toList.length < 1 ∨ most < (s.data.toList.length : Int)
  · have E := Lib.hid (R1.out hL)
    clear R1 R2
    rcases Nat.lt_or_ge s.data.toList.length 1 with h1 | h1
    · have h0 : s.size < 1 := by omega
      clear hL h1 hz
      go_enter Try.func63, Try.ntmps63
      go_wp2
      all_goals
        go_ret2
        exact ⟨ret_two E.out, Below.refl _ _⟩
    · have h0 : ¬ s.size < 1 := by omega
      have h2 : most < (s.size : Int) := by omega
      clear hL h1 hz
      go_enter Try.func63, Try.ntmps63
      go_wp2
      all_goals
        go_ret2
        exact ⟨ret_two E.out, Below.refl _ _⟩
  · have R := R2.out hL
    have h0 : ¬ s.size < 1 := by omega
    have h2 : ¬ most < (s.size : Int) := by omega
    have h12 : s.size ≤ 12 := by omega
    have q0 : decide ((s.size : Int) < 1) = false := by simp; omega
    have q1 : decide (most < (s.size : Int)) = false := by simp; omega
    obtain ⟨r1, r2⟩ := R
    have RA := Lib.hid r1
    have RB := Lib.hid r2
    clear R1 R2 hL r1 r2
    go_enter Try.func63, Try.ntmps63
    go_wp2
    go_loop [8, 9] (fun n i => ∃ k : Nat, k ≤ s.size ∧ i = .int .i64 k ∧ PnR s.data.toList k n) (fun _ i => s.size - (intOf i).toNat)
    case atStart => exact ⟨0, by omega, rfl, rfl, rfl⟩
    case round =>
      obtain ⟨k, hk, rfl, hall, rfl⟩ := hrel
      have hlen := List.length_take_le k s.data.toList
      by_cases hkz : k = s.size
      · subst hkz
        obtain ⟨f0, f1, f2⟩ := numF hall hz.symm h12
        obtain ⟨g1, g2⟩ := RB.out f1
        rw [← f2] at g1 g2
        have G1 := Lib.hid g1
        have G2 := Lib.hid g2
        clear g1 g2 hall hlen f1 f2
        by_cases hq : Lib.itoa ((numVal (s.data.toList.take s.size) : Int)) = s.data.toList
        · have E := Lib.hid (G1.out hq)
          have B := txt_eq hq
          clear G1 G2 RA RB hq
          go_wp2_with (go_at_call 90; refine (specFmt _ (by omega) (by omega) _).mono ?_; rintro e w' ⟨rfl, hb⟩)
          go_ret2
          exact ⟨ret_two E.out, hb⟩
        · have E := Lib.hid (G2.out hq)
          have B := txt_ne hq
          clear G1 G2 RA RB hq
          go_wp2_with (go_at_call 90; refine (specFmt _ (by omega) (by omega) _).mono ?_; rintro e w' ⟨rfl, hb⟩)
          go_ret2
          exact ⟨ret_two E.out, hb⟩
      · have hkl : k < s.size := by omega
        by_cases hd : isDig s.data.toList[k] = true
        · have hdd : 48 ≤ s[k].toNat ∧ s[k].toNat ≤ 57 := isDig_iff'.1 hd
          have hb11 := numVal_k hall (by omega)
          have HV := Lib.hid (num_one s.data.toList k hkl hd)
          have HA2 := Lib.hid (all_one s.data.toList k hkl hd hall)
          clear hall hd hlen RA RB
          go_wp2
          go_round
          case rel => exact ⟨k + 1, by omega, by go_num, HA2.out, congrArg (Value.int .i64) (by rw [HV.out]; show _ = _ + ((s[k].toNat : Int) - 48); omega)⟩
          case measure => simp [intOf]; omega
        · have hd' : isDig s.data.toList[k] = false := by simpa using hd
          have hdd : s[k].toNat < 48 ∨ 57 < s[k].toNat := digCases hd'
          have E := Lib.hid (RA.out (not_all hkl hd'))
          clear hall hd hd' hlen RA RB
          rcases hdd with hdd | hdd
          all_goals
            go_wp2
            go_ret2
            exact ⟨ret_two E.out, Below.refl _ _⟩
theorem specRead (s : ByteArray) (hs : s.size ≤ 1048576) (most : Int) (hm0 : 1 ≤ most) (hm : most ≤ 12) (w : World) : Calls Try.prog 63 #[.string s, .int .i64 most] w fun e w' => e = .returned (.tuple #[.int .i64 (readL s.data.toList most).1, .bool (readL s.data.toList most).2]) ∧ Below w.heap.size w w' := by
  rcases Nat.eq_zero_or_pos s.size with h0 | hp
  · have e : s.data.toList = [] := List.eq_nil_of_length_eq_zero h0
    have E := Lib.hid (show readL s.data.toList most = (0, false) by rw [e]; simp [readL])
    go_enter Try.func63, Try.ntmps63
    go_wp2
    go_ret2
    exact ⟨ret_two E.out, Below.refl _ _⟩
  · by_cases h45 : s[0] = 45
    · have hh : s.data.toList.head? = some 45 := by rw [head_at hp, h45]
      obtain ⟨r1, r2⟩ := readA (k := most) hh
      rw [← tail_data s] at r1 r2
      exact specReadNeg s _ hs most hm0 hm hp (u8_eqT h45) rfl w _ (Lib.hid r1) (Lib.hid r2)
    · have hh : ¬ s.data.toList.head? = some 45 := by rw [head_at hp]; intro e; exact h45 (Option.some.inj e)
      obtain ⟨r1, r2⟩ := readB (k := most) hh
      exact specReadPos s hs most hm0 hm hp (u8_eqF h45) w _ (Lib.hid r1) (Lib.hid r2)
theorem implParseNumber (s : ByteArray) (w : World) : Calls Try.prog 16 #[.string s] w fun e w' => e = .returned (.tuple #[.int .i64 (parseN s.data.toList).1, .bool (parseN s.data.toList).2]) ∧ w = w' := by
  go_enter Try.func16, Try.ntmps16
  go_wp2_with (go_at_call 64; refine (implNumberIn _ _ _).mono ?_; rintro e w' ⟨rfl, rfl⟩)
  go_ret2
  exact ⟨rfl, rfl⟩
theorem specParseNumber (s : ByteArray) (hs : s.size ≤ 1048576) (w : World) : Calls Try.prog 15 #[.string s] w fun e w' => e = .returned (.tuple #[.int .i64 (parseN s.data.toList).1, .bool (parseN s.data.toList).2]) ∧ Below w.heap.size w w' := by
  have hr : ∀ (r : Int × Bool), parseN s.data.toList = (if r.2 = false ∨ r.1 < 0 then (0, false) else r) → Calls Try.prog 63 #[.string s, .int .i64 6] w (fun e w' => e = .returned (.tuple #[.int .i64 r.1, .bool r.2]) ∧ Below w.heap.size w w') → Calls Try.prog 15 #[.string s] w fun e w' => e = .returned (.tuple #[.int .i64 (parseN s.data.toList).1, .bool (parseN s.data.toList).2]) ∧ Below w.heap.size w w' := by
    intro r hr hc
    obtain ⟨n, ok⟩ := r
    have E := Lib.hid hr
    clear hr
    cases ok
    · replace E := Lib.hid (E.out.trans (if_pos (.inl rfl)))
      go_enter Try.func15, Try.ntmps15
      go_wp2_with (go_at_call 63; refine hc.mono ?_; rintro e w' ⟨rfl, hb⟩)
      go_ret2
      exact ⟨ret_two E.out, hb⟩
    · by_cases hn : n < 0
      · replace E := Lib.hid (E.out.trans (if_pos (.inr hn)))
        go_enter Try.func15, Try.ntmps15
        go_wp2_with (go_at_call 63; refine hc.mono ?_; rintro e w' ⟨rfl, hb⟩)
        go_ret2
        exact ⟨ret_two E.out, hb⟩
      · replace E := Lib.hid (E.out.trans (if_neg (by simp; omega)))
        have b : decide (n < 0) = false := by simp; omega
        go_enter Try.func15, Try.ntmps15
        go_wp2_with (go_at_call 63; refine hc.mono ?_; rintro e w' ⟨rfl, hb⟩)
        go_ret2
        exact ⟨ret_two E.out, hb⟩
  exact hr _ (by rw [parseN_eq]; rfl) (specRead s hs 6 (by omega) (by omega) w)
end Go.Proofs.Ytnmieocbpdoicaa
