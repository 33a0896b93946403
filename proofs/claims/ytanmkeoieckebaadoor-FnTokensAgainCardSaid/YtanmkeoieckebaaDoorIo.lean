/- Proved here: what IntegerOfText returns. Condition: a text has at most 2^20 bytes. -/
import Derived.Test.YtanmkeoieckebaaDoorTx
import Derived.Test.YtanmkeoieckebaaDoorIoP
import Derived.Test.YtanmkeoieckebaaDoorHeld
namespace Go.Proofs.YtanmkeoieckebaaDoor
open Go.RowKit

theorem ret_io {a c : Int} {b d : Bool} (h : (c, d) = (a, b)) : Ending.returned (.tuple #[.int .i64 a, .bool b]) = .returned (.tuple #[.int .i64 c, .bool d]) := by cases h; rfl
theorem eqTio {n : Nat} {c : Nat} (h : n = c) : ((n : Int) == (c : Int)) = true := by subst h; simp
theorem eqF {n : Nat} {c : Nat} (h : ¬ n = c) : ((n : Int) == (c : Int)) = false := by rw [beq_eq_false_iff_ne]; omega
theorem num_step (l : List UInt8) (a k : Nat) (ha : a ≤ k) (hk : k < l.length) (hd : isDig l[k] = true) : ((numVal ((l.drop a).take (k + 1 - a)) : Nat) : Int) = (numVal ((l.drop a).take (k - a)) : Int) * 10 + ((l[k].toNat : Int) - 48) := by
  rw [seg_snoc l a k ha hk, numVal_snoc]
  have := isDig_iff.1 hd
  omega
theorem seg_all (l : List UInt8) (a k : Nat) (ha : a ≤ k) (hk : k < l.length) (hd : isDig l[k] = true) (h : ((l.drop a).take (k - a)).all isDig = true) : ((l.drop a).take (k + 1 - a)).all isDig = true := by
  rw [seg_snoc l a k ha hk]; simp [h, hd]
theorem seg_nil (l : List UInt8) (a : Nat) : (l.drop a).take (a - a) = [] := by simp
structure IoR (l : List UInt8) (a k : Nat) (n : Value) : Prop where
  all : ((l.drop a).take (k - a)).all isDig = true
  val : n = .int .i64 (numVal ((l.drop a).take (k - a)) : Int)

set_option maxHeartbeats 4000000 in
set_option maxRecDepth 10000 in
theorem implIntegerOf (s : ByteArray) (hs : s.size ≤ 1048576) (w : World) : Calls Tryd.prog 106 #[.string s] w fun e w' => e = .returned (.tuple #[.int .i64 (ioOf s.data.toList).1, .bool (ioOf s.data.toList).2]) ∧ w = w' := by
  by_cases hfull : lead s.data.toList < s.data.toList.length
  · obtain ⟨a, y, hay, hyl, f1, f2, f3, f4, f5⟩ := ioFacts s.data.toList hfull
    have hyl' : y < s.size := by simpa using hyl
    have hal : a < s.data.toList.length := by omega
    have hal' : a < s.size := by omega
    have F1 := Lib.hid f1
    have F2 := Lib.hid (f2 hal)
    have F3 := Lib.hid f3
    have F4 := Lib.hid (f4 hyl)
    have FIN := Lib.hid (f5 hal)
    clear f1 f2 f3 f4 f5 hfull
    go_enter Tryd.func106, Tryd.ntmps106
    go_wp2
    go_loop [4] (fun i => ∃ k : Nat, k ≤ a ∧ i = .int .i64 k) (fun i => a - (intOf i).toNat)
    case atStart => exact ⟨0, by omega, rfl⟩
    case round =>
      obtain ⟨k, hk, rfl⟩ := hrel
      by_cases hka : k < a
      · have bl : ((s[k].toNat : Int) == 32) = true := eqTio (F1.out k (by simp; omega) hka)
        have i1 : (k : Int) < (s.size : Int) := by omega
        go_wp2
        go_round
        case rel => exact ⟨k + 1, by omega, by go_num⟩
        case measure => simp [intOf]; omega
      · obtain rfl : a = k := by omega
        have bl : ((s[a].toNat : Int) == 32) = false := eqF F2.out
        have i1 : (a : Int) < (s.size : Int) := by omega
        clear hka hk
        go_wp2
        go_loop [5] (fun z => ∃ j : Nat, y + 1 ≤ j ∧ j ≤ s.size ∧ z = .int .i64 j) (fun z => (intOf z).toNat)
        case atStart => exact ⟨s.size, by omega, by omega, rfl⟩
        case round =>
          obtain ⟨j, hj1, hj2, rfl⟩ := hrel
          by_cases hjz : j = y + 1
          · subst hjz
            have bz : ((s[y].toNat : Int) == 32) = false := eqF F4.out
            have i2 : (a : Int) < (y : Int) + 1 := by omega
            have i3 : (y : Int) < (s.size : Int) := by omega
            by_cases c1 : s[a].toNat = 45
            · have b1 : ((s[a].toNat : Int) == 45) = true := eqTio c1
              have b2 : ((s[a].toNat : Int) == 43) = false := by rw [c1]; rfl
              have E0 := FIN.out.trans (if_pos c1)
              obtain ⟨c, hc⟩ : ∃ c, a + 1 = c := ⟨_, rfl⟩
              rw [hc] at E0
              have hc1 : c ≤ a + 1 := by omega
              have hc2 : a + 1 ≤ c := by omega
              have E := Lib.hid E0
              clear c1 hc E0
              by_cases hL : y + 1 - (c) < 1 ∨ 12 < y + 1 - (c)
              · have HF := Lib.hid (ioEnd_len (l := s.data.toList) (a := c) (z := y + 1) (m := true) hL)
                rcases hL with hL | hL
                all_goals
                  go_wp2
                  all_goals
                    go_ret2
                    exact ⟨ret_io (by rw [E.out, HF.out]), rfl⟩
              · go_wp2
                go_loop [4, 7] (fun i n => ∃ k : Nat, c ≤ k ∧ k ≤ y + 1 ∧ i = .int .i64 k ∧ IoR s.data.toList (c) k n) (fun i _ => y + 1 - (intOf i).toNat)
                case atStart => exact ⟨c, by omega, by omega, congrArg (Value.int .i64) (by omega), by rw [seg_nil]; rfl, by rw [seg_nil]; rfl⟩
                case round =>
                  obtain ⟨k, hk1, hk2, rfl, hall, rfl⟩ := hrel
                  have hlen := List.length_take_le (k - (c)) (s.data.toList.drop (c))
                  by_cases hkz : k = y + 1
                  · subst hkz
                    have hb12 := numVal_12 hall (by omega)
                    have HF := Lib.hid (ioEnd_yes (l := s.data.toList) (a := c) (z := y + 1) (m := true) hL hall)
                    clear hall hlen
                    go_wp2
                    go_ret2
                    exact ⟨ret_io (by rw [E.out, HF.out]; first | rfl | done), rfl⟩
                  · have hkl : k < s.size := by omega
                    have hkl' : k < s.data.toList.length := by simpa using hkl
                    by_cases hd : isDig s.data.toList[k] = true
                    · have hdd : 48 ≤ s[k].toNat ∧ s[k].toNat ≤ 57 := isDig_iff.1 hd
                      have hb11 := numVal_11 hall (by omega)
                      have HV := Lib.hid (num_step s.data.toList (c) k (by omega) hkl' hd)
                      have HA2 := Lib.hid (seg_all s.data.toList (c) k (by omega) hkl' hd hall)
                      clear hall hd hlen
                      go_wp2
                      go_round
                      case rel => exact ⟨k + 1, by omega, by omega, by go_num, HA2.out, congrArg (Value.int .i64) (by rw [HV.out]; show _ = _ + ((s[k].toNat : Int) - 48); omega)⟩
                      case measure => simp [intOf]; omega
                    · have hd' : isDig s.data.toList[k] = false := by simpa using hd
                      have hdd : s[k].toNat < 48 ∨ 57 < s[k].toNat := by
                        have := isDig_iff (x := s.data.toList[k])
                        have e : s[k] = s.data.toList[k] := rfl
                        rw [← e] at this hd
                        rcases Nat.lt_or_ge s[k].toNat 48 with h | h
                        · exact .inl h
                        · exact .inr (by have := mt this.2 hd; omega)
                      have HF := Lib.hid (ioEnd_bad (l := s.data.toList) (a := c) (z := y + 1) (m := true) hL (seg_bad s.data.toList (c) (y + 1) k (by omega) (by omega) (by simp; omega) hd'))
                      clear hall hd hd' hlen
                      rcases hdd with hdd | hdd
                      all_goals
                        go_wp2
                        go_ret2
                        exact ⟨ret_io (by rw [E.out, HF.out]), rfl⟩
            · by_cases c2 : s[a].toNat = 43
              · have b1 : ((s[a].toNat : Int) == 45) = false := eqF c1
                have b2 : ((s[a].toNat : Int) == 43) = true := eqTio c2
                have E0 := (FIN.out.trans (if_neg c1)).trans (if_pos c2)
                obtain ⟨c, hc⟩ : ∃ c, a + 1 = c := ⟨_, rfl⟩
                rw [hc] at E0
                have hc1 : c ≤ a + 1 := by omega
                have hc2 : a + 1 ≤ c := by omega
                have E := Lib.hid E0
                clear c1 c2 hc E0
                by_cases hL : y + 1 - (c) < 1 ∨ 12 < y + 1 - (c)
                · have HF := Lib.hid (ioEnd_len (l := s.data.toList) (a := c) (z := y + 1) (m := false) hL)
                  rcases hL with hL | hL
                  all_goals
                    go_wp2
                    all_goals
                      go_ret2
                      exact ⟨ret_io (by rw [E.out, HF.out]), rfl⟩
                · go_wp2
                  go_loop [4, 7] (fun i n => ∃ k : Nat, c ≤ k ∧ k ≤ y + 1 ∧ i = .int .i64 k ∧ IoR s.data.toList (c) k n) (fun i _ => y + 1 - (intOf i).toNat)
                  case atStart => exact ⟨c, by omega, by omega, congrArg (Value.int .i64) (by omega), by rw [seg_nil]; rfl, by rw [seg_nil]; rfl⟩
                  case round =>
                    obtain ⟨k, hk1, hk2, rfl, hall, rfl⟩ := hrel
                    have hlen := List.length_take_le (k - (c)) (s.data.toList.drop (c))
                    by_cases hkz : k = y + 1
                    · subst hkz
                      have hb12 := numVal_12 hall (by omega)
                      have HF := Lib.hid (ioEnd_yes (l := s.data.toList) (a := c) (z := y + 1) (m := false) hL hall)
                      clear hall hlen
                      go_wp2
                      go_ret2
                      exact ⟨ret_io (by rw [E.out, HF.out]; first | rfl | done), rfl⟩
                    · have hkl : k < s.size := by omega
                      have hkl' : k < s.data.toList.length := by simpa using hkl
                      by_cases hd : isDig s.data.toList[k] = true
                      · have hdd : 48 ≤ s[k].toNat ∧ s[k].toNat ≤ 57 := isDig_iff.1 hd
                        have hb11 := numVal_11 hall (by omega)
                        have HV := Lib.hid (num_step s.data.toList (c) k (by omega) hkl' hd)
                        have HA2 := Lib.hid (seg_all s.data.toList (c) k (by omega) hkl' hd hall)
                        clear hall hd hlen
                        go_wp2
                        go_round
                        case rel => exact ⟨k + 1, by omega, by omega, by go_num, HA2.out, congrArg (Value.int .i64) (by rw [HV.out]; show _ = _ + ((s[k].toNat : Int) - 48); omega)⟩
                        case measure => simp [intOf]; omega
                      · have hd' : isDig s.data.toList[k] = false := by simpa using hd
                        have hdd : s[k].toNat < 48 ∨ 57 < s[k].toNat := by
                          have := isDig_iff (x := s.data.toList[k])
                          have e : s[k] = s.data.toList[k] := rfl
                          rw [← e] at this hd
                          rcases Nat.lt_or_ge s[k].toNat 48 with h | h
                          · exact .inl h
                          · exact .inr (by have := mt this.2 hd; omega)
                        have HF := Lib.hid (ioEnd_bad (l := s.data.toList) (a := c) (z := y + 1) (m := false) hL (seg_bad s.data.toList (c) (y + 1) k (by omega) (by omega) (by simp; omega) hd'))
                        clear hall hd hd' hlen
                        rcases hdd with hdd | hdd
                        all_goals
                          go_wp2
                          go_ret2
                          exact ⟨ret_io (by rw [E.out, HF.out]), rfl⟩
              · have b1 : ((s[a].toNat : Int) == 45) = false := eqF c1
                have b2 : ((s[a].toNat : Int) == 43) = false := eqF c2
                have E := Lib.hid ((FIN.out.trans (if_neg c1)).trans (if_neg c2))
                clear c1 c2
                by_cases hL : y + 1 - (a) < 1 ∨ 12 < y + 1 - (a)
                · have HF := Lib.hid (ioEnd_len (l := s.data.toList) (a := a) (z := y + 1) (m := false) hL)
                  rcases hL with hL | hL
                  all_goals
                    go_wp2
                    all_goals
                      go_ret2
                      exact ⟨ret_io (by rw [E.out, HF.out]), rfl⟩
                · go_wp2
                  go_loop [4, 7] (fun i n => ∃ k : Nat, a ≤ k ∧ k ≤ y + 1 ∧ i = .int .i64 k ∧ IoR s.data.toList (a) k n) (fun i _ => y + 1 - (intOf i).toNat)
                  case atStart => exact ⟨a, by omega, by omega, congrArg (Value.int .i64) (by omega), by rw [seg_nil]; rfl, by rw [seg_nil]; rfl⟩
                  case round =>
                    obtain ⟨k, hk1, hk2, rfl, hall, rfl⟩ := hrel
                    have hlen := List.length_take_le (k - (a)) (s.data.toList.drop (a))
                    by_cases hkz : k = y + 1
                    · subst hkz
                      have hb12 := numVal_12 hall (by omega)
                      have HF := Lib.hid (ioEnd_yes (l := s.data.toList) (a := a) (z := y + 1) (m := false) hL hall)
                      clear hall hlen
                      go_wp2
                      go_ret2
                      exact ⟨ret_io (by rw [E.out, HF.out]; first | rfl | done), rfl⟩
                    · have hkl : k < s.size := by omega
                      have hkl' : k < s.data.toList.length := by simpa using hkl
                      by_cases hd : isDig s.data.toList[k] = true
                      · have hdd : 48 ≤ s[k].toNat ∧ s[k].toNat ≤ 57 := isDig_iff.1 hd
                        have hb11 := numVal_11 hall (by omega)
                        have HV := Lib.hid (num_step s.data.toList (a) k (by omega) hkl' hd)
                        have HA2 := Lib.hid (seg_all s.data.toList (a) k (by omega) hkl' hd hall)
                        clear hall hd hlen
                        go_wp2
                        go_round
                        case rel => exact ⟨k + 1, by omega, by omega, by go_num, HA2.out, congrArg (Value.int .i64) (by rw [HV.out]; show _ = _ + ((s[k].toNat : Int) - 48); omega)⟩
                        case measure => simp [intOf]; omega
                      · have hd' : isDig s.data.toList[k] = false := by simpa using hd
                        have hdd : s[k].toNat < 48 ∨ 57 < s[k].toNat := by
                          have := isDig_iff (x := s.data.toList[k])
                          have e : s[k] = s.data.toList[k] := rfl
                          rw [← e] at this hd
                          rcases Nat.lt_or_ge s[k].toNat 48 with h | h
                          · exact .inl h
                          · exact .inr (by have := mt this.2 hd; omega)
                        have HF := Lib.hid (ioEnd_bad (l := s.data.toList) (a := a) (z := y + 1) (m := false) hL (seg_bad s.data.toList (a) (y + 1) k (by omega) (by omega) (by simp; omega) hd'))
                        clear hall hd hd' hlen
                        rcases hdd with hdd | hdd
                        all_goals
                          go_wp2
                          go_ret2
                          exact ⟨ret_io (by rw [E.out, HF.out]), rfl⟩
          · obtain ⟨i, rfl⟩ : ∃ i, j = i + 1 := ⟨j - 1, by omega⟩
            have bz : ((s[i].toNat : Int) == 32) = true := eqTio (F3.out i (by simp; omega) (by omega))
            have i2 : (a : Int) < (i : Int) + 1 := by omega
            have i3 : (i : Int) < (s.size : Int) := by omega
            go_wp2
            go_round
            case rel => exact ⟨i, by omega, by omega, rfl⟩
            case measure => simp [intOf]
  · have FIN := Lib.hid (ioFull s.data.toList hfull).2
    have F1 := Lib.hid (ioFull s.data.toList hfull).1
    clear hfull
    go_enter Tryd.func106, Tryd.ntmps106
    go_wp2
    go_loop [4] (fun i => ∃ k : Nat, k ≤ s.size ∧ i = .int .i64 k) (fun i => s.size - (intOf i).toNat)
    case atStart => exact ⟨0, by omega, rfl⟩
    case round =>
      obtain ⟨k, hk, rfl⟩ := hrel
      by_cases hka : k < s.size
      · have bl : ((s[k].toNat : Int) == 32) = true := eqTio (F1.out k (by simp; omega))
        have i1 : (k : Int) < (s.size : Int) := by omega
        go_wp2
        go_round
        case rel => exact ⟨k + 1, by omega, by go_num⟩
        case measure => simp [intOf]; omega
      · have i1 : k = s.size := by omega
        subst i1
        clear hka hk
        go_wp2
        go_loop [5] (fun z => z = .int .i64 s.size) (fun z => (intOf z).toNat)
        case atStart => rfl
        case round =>
          subst hrel
          go_wp2
          go_ret2
          exact ⟨ret_io FIN.out, rfl⟩

set_option maxHeartbeats 4000000 in
set_option maxRecDepth 10000 in
theorem specIntegerOf (s : ByteArray) (hs : s.size ≤ 1048576) (w : World) : Calls Tryd.prog 97 #[.string s] w fun e w' => e = .returned (.tuple #[.int .i64 (ioOf s.data.toList).1, .bool (ioOf s.data.toList).2]) ∧ w = w' := by
  by_cases hfull : lead s.data.toList < s.data.toList.length
  · obtain ⟨a, y, hay, hyl, f1, f2, f3, f4, f5⟩ := ioFacts s.data.toList hfull
    have hyl' : y < s.size := by simpa using hyl
    have hal : a < s.data.toList.length := by omega
    have hal' : a < s.size := by omega
    have F1 := Lib.hid f1
    have F2 := Lib.hid (f2 hal)
    have F3 := Lib.hid f3
    have F4 := Lib.hid (f4 hyl)
    have FIN := Lib.hid (f5 hal)
    clear f1 f2 f3 f4 f5 hfull
    go_enter Tryd.func97, Tryd.ntmps97
    go_wp2
    go_loop [4] (fun i => ∃ k : Nat, k ≤ a ∧ i = .int .i64 k) (fun i => a - (intOf i).toNat)
    case atStart => exact ⟨0, by omega, rfl⟩
    case round =>
      obtain ⟨k, hk, rfl⟩ := hrel
      by_cases hka : k < a
      · have bl : ((s[k].toNat : Int) == 32) = true := eqTio (F1.out k (by simp; omega) hka)
        have i1 : (k : Int) < (s.size : Int) := by omega
        go_wp2
        go_round
        case rel => exact ⟨k + 1, by omega, by go_num⟩
        case measure => simp [intOf]; omega
      · obtain rfl : a = k := by omega
        have bl : ((s[a].toNat : Int) == 32) = false := eqF F2.out
        have i1 : (a : Int) < (s.size : Int) := by omega
        clear hka hk
        go_wp2
        go_loop [5] (fun z => ∃ j : Nat, y + 1 ≤ j ∧ j ≤ s.size ∧ z = .int .i64 j) (fun z => (intOf z).toNat)
        case atStart => exact ⟨s.size, by omega, by omega, rfl⟩
        case round =>
          obtain ⟨j, hj1, hj2, rfl⟩ := hrel
          by_cases hjz : j = y + 1
          · subst hjz
            have bz : ((s[y].toNat : Int) == 32) = false := eqF F4.out
            have i2 : (a : Int) < (y : Int) + 1 := by omega
            have i3 : (y : Int) < (s.size : Int) := by omega
            by_cases c1 : s[a].toNat = 45
            · have b1 : ((s[a].toNat : Int) == 45) = true := eqTio c1
              have b2 : ((s[a].toNat : Int) == 43) = false := by rw [c1]; rfl
              have E0 := FIN.out.trans (if_pos c1)
              obtain ⟨c, hc⟩ : ∃ c, a + 1 = c := ⟨_, rfl⟩
              rw [hc] at E0
              have hc1 : c ≤ a + 1 := by omega
              have hc2 : a + 1 ≤ c := by omega
              have E := Lib.hid E0
              clear c1 hc E0
              by_cases hL : y + 1 - (c) < 1 ∨ 12 < y + 1 - (c)
              · have HF := Lib.hid (ioEnd_len (l := s.data.toList) (a := c) (z := y + 1) (m := true) hL)
                rcases hL with hL | hL
                all_goals
                  go_wp2
                  all_goals
                    go_ret2
                    exact ⟨ret_io (by rw [E.out, HF.out]), rfl⟩
              · go_wp2
                go_loop [4, 7] (fun i n => ∃ k : Nat, c ≤ k ∧ k ≤ y + 1 ∧ i = .int .i64 k ∧ IoR s.data.toList (c) k n) (fun i _ => y + 1 - (intOf i).toNat)
                case atStart => exact ⟨c, by omega, by omega, congrArg (Value.int .i64) (by omega), by rw [seg_nil]; rfl, by rw [seg_nil]; rfl⟩
                case round =>
                  obtain ⟨k, hk1, hk2, rfl, hall, rfl⟩ := hrel
                  have hlen := List.length_take_le (k - (c)) (s.data.toList.drop (c))
                  by_cases hkz : k = y + 1
                  · subst hkz
                    have hb12 := numVal_12 hall (by omega)
                    have HF := Lib.hid (ioEnd_yes (l := s.data.toList) (a := c) (z := y + 1) (m := true) hL hall)
                    clear hall hlen
                    go_wp2
                    go_ret2
                    exact ⟨ret_io (by rw [E.out, HF.out]; first | rfl | done), rfl⟩
                  · have hkl : k < s.size := by omega
                    have hkl' : k < s.data.toList.length := by simpa using hkl
                    by_cases hd : isDig s.data.toList[k] = true
                    · have hdd : 48 ≤ s[k].toNat ∧ s[k].toNat ≤ 57 := isDig_iff.1 hd
                      have hb11 := numVal_11 hall (by omega)
                      have HV := Lib.hid (num_step s.data.toList (c) k (by omega) hkl' hd)
                      have HA2 := Lib.hid (seg_all s.data.toList (c) k (by omega) hkl' hd hall)
                      clear hall hd hlen
                      go_wp2
                      go_round
                      case rel => exact ⟨k + 1, by omega, by omega, by go_num, HA2.out, congrArg (Value.int .i64) (by rw [HV.out]; show _ = _ + ((s[k].toNat : Int) - 48); omega)⟩
                      case measure => simp [intOf]; omega
                    · have hd' : isDig s.data.toList[k] = false := by simpa using hd
                      have hdd : s[k].toNat < 48 ∨ 57 < s[k].toNat := by
                        have := isDig_iff (x := s.data.toList[k])
                        have e : s[k] = s.data.toList[k] := rfl
                        rw [← e] at this hd
                        rcases Nat.lt_or_ge s[k].toNat 48 with h | h
                        · exact .inl h
                        · exact .inr (by have := mt this.2 hd; omega)
                      have HF := Lib.hid (ioEnd_bad (l := s.data.toList) (a := c) (z := y + 1) (m := true) hL (seg_bad s.data.toList (c) (y + 1) k (by omega) (by omega) (by simp; omega) hd'))
                      clear hall hd hd' hlen
                      rcases hdd with hdd | hdd
                      all_goals
                        go_wp2
                        go_ret2
                        exact ⟨ret_io (by rw [E.out, HF.out]), rfl⟩
            · by_cases c2 : s[a].toNat = 43
              · have b1 : ((s[a].toNat : Int) == 45) = false := eqF c1
                have b2 : ((s[a].toNat : Int) == 43) = true := eqTio c2
                have E0 := (FIN.out.trans (if_neg c1)).trans (if_pos c2)
                obtain ⟨c, hc⟩ : ∃ c, a + 1 = c := ⟨_, rfl⟩
                rw [hc] at E0
                have hc1 : c ≤ a + 1 := by omega
                have hc2 : a + 1 ≤ c := by omega
                have E := Lib.hid E0
                clear c1 c2 hc E0
                by_cases hL : y + 1 - (c) < 1 ∨ 12 < y + 1 - (c)
                · have HF := Lib.hid (ioEnd_len (l := s.data.toList) (a := c) (z := y + 1) (m := false) hL)
                  rcases hL with hL | hL
                  all_goals
                    go_wp2
                    all_goals
                      go_ret2
                      exact ⟨ret_io (by rw [E.out, HF.out]), rfl⟩
                · go_wp2
                  go_loop [4, 7] (fun i n => ∃ k : Nat, c ≤ k ∧ k ≤ y + 1 ∧ i = .int .i64 k ∧ IoR s.data.toList (c) k n) (fun i _ => y + 1 - (intOf i).toNat)
                  case atStart => exact ⟨c, by omega, by omega, congrArg (Value.int .i64) (by omega), by rw [seg_nil]; rfl, by rw [seg_nil]; rfl⟩
                  case round =>
                    obtain ⟨k, hk1, hk2, rfl, hall, rfl⟩ := hrel
                    have hlen := List.length_take_le (k - (c)) (s.data.toList.drop (c))
                    by_cases hkz : k = y + 1
                    · subst hkz
                      have hb12 := numVal_12 hall (by omega)
                      have HF := Lib.hid (ioEnd_yes (l := s.data.toList) (a := c) (z := y + 1) (m := false) hL hall)
                      clear hall hlen
                      go_wp2
                      go_ret2
                      exact ⟨ret_io (by rw [E.out, HF.out]; first | rfl | done), rfl⟩
                    · have hkl : k < s.size := by omega
                      have hkl' : k < s.data.toList.length := by simpa using hkl
                      by_cases hd : isDig s.data.toList[k] = true
                      · have hdd : 48 ≤ s[k].toNat ∧ s[k].toNat ≤ 57 := isDig_iff.1 hd
                        have hb11 := numVal_11 hall (by omega)
                        have HV := Lib.hid (num_step s.data.toList (c) k (by omega) hkl' hd)
                        have HA2 := Lib.hid (seg_all s.data.toList (c) k (by omega) hkl' hd hall)
                        clear hall hd hlen
                        go_wp2
                        go_round
                        case rel => exact ⟨k + 1, by omega, by omega, by go_num, HA2.out, congrArg (Value.int .i64) (by rw [HV.out]; show _ = _ + ((s[k].toNat : Int) - 48); omega)⟩
                        case measure => simp [intOf]; omega
                      · have hd' : isDig s.data.toList[k] = false := by simpa using hd
                        have hdd : s[k].toNat < 48 ∨ 57 < s[k].toNat := by
                          have := isDig_iff (x := s.data.toList[k])
                          have e : s[k] = s.data.toList[k] := rfl
                          rw [← e] at this hd
                          rcases Nat.lt_or_ge s[k].toNat 48 with h | h
                          · exact .inl h
                          · exact .inr (by have := mt this.2 hd; omega)
                        have HF := Lib.hid (ioEnd_bad (l := s.data.toList) (a := c) (z := y + 1) (m := false) hL (seg_bad s.data.toList (c) (y + 1) k (by omega) (by omega) (by simp; omega) hd'))
                        clear hall hd hd' hlen
                        rcases hdd with hdd | hdd
                        all_goals
                          go_wp2
                          go_ret2
                          exact ⟨ret_io (by rw [E.out, HF.out]), rfl⟩
              · have b1 : ((s[a].toNat : Int) == 45) = false := eqF c1
                have b2 : ((s[a].toNat : Int) == 43) = false := eqF c2
                have E := Lib.hid ((FIN.out.trans (if_neg c1)).trans (if_neg c2))
                clear c1 c2
                by_cases hL : y + 1 - (a) < 1 ∨ 12 < y + 1 - (a)
                · have HF := Lib.hid (ioEnd_len (l := s.data.toList) (a := a) (z := y + 1) (m := false) hL)
                  rcases hL with hL | hL
                  all_goals
                    go_wp2
                    all_goals
                      go_ret2
                      exact ⟨ret_io (by rw [E.out, HF.out]), rfl⟩
                · go_wp2
                  go_loop [4, 7] (fun i n => ∃ k : Nat, a ≤ k ∧ k ≤ y + 1 ∧ i = .int .i64 k ∧ IoR s.data.toList (a) k n) (fun i _ => y + 1 - (intOf i).toNat)
                  case atStart => exact ⟨a, by omega, by omega, congrArg (Value.int .i64) (by omega), by rw [seg_nil]; rfl, by rw [seg_nil]; rfl⟩
                  case round =>
                    obtain ⟨k, hk1, hk2, rfl, hall, rfl⟩ := hrel
                    have hlen := List.length_take_le (k - (a)) (s.data.toList.drop (a))
                    by_cases hkz : k = y + 1
                    · subst hkz
                      have hb12 := numVal_12 hall (by omega)
                      have HF := Lib.hid (ioEnd_yes (l := s.data.toList) (a := a) (z := y + 1) (m := false) hL hall)
                      clear hall hlen
                      go_wp2
                      go_ret2
                      exact ⟨ret_io (by rw [E.out, HF.out]; first | rfl | done), rfl⟩
                    · have hkl : k < s.size := by omega
                      have hkl' : k < s.data.toList.length := by simpa using hkl
                      by_cases hd : isDig s.data.toList[k] = true
                      · have hdd : 48 ≤ s[k].toNat ∧ s[k].toNat ≤ 57 := isDig_iff.1 hd
                        have hb11 := numVal_11 hall (by omega)
                        have HV := Lib.hid (num_step s.data.toList (a) k (by omega) hkl' hd)
                        have HA2 := Lib.hid (seg_all s.data.toList (a) k (by omega) hkl' hd hall)
                        clear hall hd hlen
                        go_wp2
                        go_round
                        case rel => exact ⟨k + 1, by omega, by omega, by go_num, HA2.out, congrArg (Value.int .i64) (by rw [HV.out]; show _ = _ + ((s[k].toNat : Int) - 48); omega)⟩
                        case measure => simp [intOf]; omega
                      · have hd' : isDig s.data.toList[k] = false := by simpa using hd
                        have hdd : s[k].toNat < 48 ∨ 57 < s[k].toNat := by
                          have := isDig_iff (x := s.data.toList[k])
                          have e : s[k] = s.data.toList[k] := rfl
                          rw [← e] at this hd
                          rcases Nat.lt_or_ge s[k].toNat 48 with h | h
                          · exact .inl h
                          · exact .inr (by have := mt this.2 hd; omega)
                        have HF := Lib.hid (ioEnd_bad (l := s.data.toList) (a := a) (z := y + 1) (m := false) hL (seg_bad s.data.toList (a) (y + 1) k (by omega) (by omega) (by simp; omega) hd'))
                        clear hall hd hd' hlen
                        rcases hdd with hdd | hdd
                        all_goals
                          go_wp2
                          go_ret2
                          exact ⟨ret_io (by rw [E.out, HF.out]), rfl⟩
          · obtain ⟨i, rfl⟩ : ∃ i, j = i + 1 := ⟨j - 1, by omega⟩
            have bz : ((s[i].toNat : Int) == 32) = true := eqTio (F3.out i (by simp; omega) (by omega))
            have i2 : (a : Int) < (i : Int) + 1 := by omega
            have i3 : (i : Int) < (s.size : Int) := by omega
            go_wp2
            go_round
            case rel => exact ⟨i, by omega, by omega, rfl⟩
            case measure => simp [intOf]
  · have FIN := Lib.hid (ioFull s.data.toList hfull).2
    have F1 := Lib.hid (ioFull s.data.toList hfull).1
    clear hfull
    go_enter Tryd.func97, Tryd.ntmps97
    go_wp2
    go_loop [4] (fun i => ∃ k : Nat, k ≤ s.size ∧ i = .int .i64 k) (fun i => s.size - (intOf i).toNat)
    case atStart => exact ⟨0, by omega, rfl⟩
    case round =>
      obtain ⟨k, hk, rfl⟩ := hrel
      by_cases hka : k < s.size
      · have bl : ((s[k].toNat : Int) == 32) = true := eqTio (F1.out k (by simp; omega))
        have i1 : (k : Int) < (s.size : Int) := by omega
        go_wp2
        go_round
        case rel => exact ⟨k + 1, by omega, by go_num⟩
        case measure => simp [intOf]; omega
      · have i1 : k = s.size := by omega
        subst i1
        clear hka hk
        go_wp2
        go_loop [5] (fun z => z = .int .i64 s.size) (fun z => (intOf z).toNat)
        case atStart => rfl
        case round =>
          subst hrel
          go_wp2
          go_ret2
          exact ⟨ret_io FIN.out, rfl⟩
end Go.Proofs.YtanmkeoieckebaaDoor
