/- Proved here: what the reference's l4Unquote returns; UnquoteText of the program and of the reference. Condition: a text has at most 2^20 bytes. -/
import Derived.Test.YtanmkeoieckebaaDoorUe
namespace Go.Proofs.YtanmkeoieckebaaDoor
open Go.RowKit

theorem E_step {q : UInt8} {s : ByteArray} {k : Nat} (hkk : k < s.size) (h : endN q (s.data.toList.drop k) = some (s.size - k)) (hk : k + 1 < s.size) : s[k] ≠ q ∧ 32 ≤ s[k].toNat ∧ s[k].toNat ≤ 126 ∧ (s[k] = 92 → k + 2 < s.size ∧ endN q (s.data.toList.drop (k + 2)) = some (s.size - (k + 2))) ∧ (s[k] ≠ 92 → endN q (s.data.toList.drop (k + 1)) = some (s.size - (k + 1))) := by
  rw [N_at hkk] at h
  split at h
  · have := Option.some.inj h; omega
  · rename_i h1
    split at h
    · cases h
    · rename_i h2
      split at h
      · rename_i h3
        refine ⟨h1, by omega, by omega, fun _ => ?_, fun hn => absurd h3 hn⟩
        cases he : endN q (s.data.toList.drop (k + 2)) with
        | none => rw [he] at h; cases h
        | some j =>
          rw [he] at h
          have h4 : j + 2 = s.size - k := Option.some.inj h
          have h5 := endN_le q _ _ (Nat.le_refl _) j he
          exact ⟨by omega, by rw [show s.size - (k + 2) = j from by omega]⟩
      · rename_i h3
        refine ⟨h1, by omega, by omega, fun hn => absurd hn h3, fun _ => ?_⟩
        cases he : endN q (s.data.toList.drop (k + 1)) with
        | none => rw [he] at h; cases h
        | some j =>
          rw [he] at h
          have h4 : j + 1 = s.size - k := Option.some.inj h
          rw [show s.size - (k + 1) = j from by omega]
theorem E_hex {q : UInt8} (hq : okQ q) {s : ByteArray} {k : Nat} (hkk : k < s.size) {v : Nat} (hv : hexV s[k] = some v) (h : endN q (s.data.toList.drop k) = some (s.size - k)) : endN q (s.data.toList.drop (k + 1)) = some (s.size - (k + 1)) := by
  rw [List.drop_eq_getElem_cons (by simpa using hkk)] at h
  have e := hex_end hq (show hexV s.data.toList[k] = some v from hv) (s.data.toList.drop (k + 1))
  rw [e] at h
  cases he : endN q (s.data.toList.drop (k + 1)) with
  | none => rw [he] at h; cases h
  | some j =>
    rw [he] at h
    have h4 : j + 1 = s.size - k := Option.some.inj h
    rw [show s.size - (k + 1) = j from by omega]
theorem bad_of {q x : UInt8} (h : x ≠ q) (h1 : 32 ≤ x.toNat) (h2 : x.toNat ≤ 126) : badB q x = false := by
  simp only [badB, Bool.or_eq_false_iff, decide_eq_false_iff_not, beq_eq_false_iff_ne]
  exact ⟨⟨by omega, by omega⟩, h⟩
theorem endI_is {q : UInt8} {s : ByteArray} (h : 1 ≤ s.size) : (endI q s 0 = (s.size : Int)) ↔ endN q (s.data.toList.drop 1) = some (s.size - 1) := by
  cases he : endN q (s.data.toList.drop 1) with
  | none => rw [endI_none (a := 0) he]; constructor
            · intro h; omega
            · intro h; cases h
  | some j => rw [endI_some (a := 0) he]; constructor
              · intro h; rw [show s.size - 1 = j from by omega]
              · intro h; have := Option.some.inj h; omega
set_option maxHeartbeats 8000000 in
set_option maxRecDepth 10000 in
theorem specUnq (q : UInt8) (hq : okQ q) (s : ByteArray) (hs : s.size ≤ 1048576) (w : World) : Calls Tryd.prog 133 #[.string s, .int .u8 (q.toNat : Int)] w fun e w' => e = uqE (unqL q s.data.toList) ∧ Below w.heap.size w w' := by
  have hqb := byte_bd q
  have hz : s.data.toList.length = s.size := rfl
  by_cases h2 : s.size < 2
  · have E := Lib.hid (show unqL q s.data.toList = none from if_pos (.inl (by omega)))
    have b2 : decide ((s.size : Int) < 2) = true := by simp; omega
    clear hz
    go_enter Tryd.func133, Tryd.ntmps133
    go_wp2
    go_ret2
    exact ⟨ret_none E.out, Below.refl _ _⟩
  · have p0 : 0 < s.size := by omega
    have b2 : decide ((s.size : Int) < 2) = false := by simp; omega
    obtain ⟨z, hz1⟩ : ∃ z : Nat, z + 1 = s.size := ⟨s.size - 1, by omega⟩
    have hz2 : (s.size : Int) - 1 = (z : Int) := by omega
    have e0 : s.data.toList.head? = some s[0] := by rw [List.head?_eq_getElem?, List.getElem?_eq_getElem (by simpa using p0)]; rfl
    have hdl : (s.data.toList.drop 1).length = s.size - 1 := by simp
    by_cases c0 : s[0] = q
    · have b0 : ((s[0].toNat : Int) != (q.toNat : Int)) = false := u8nF c0
      have K0 := Lib.hid c0
      by_cases c1 : endN q (s.data.toList.drop 1) = some (s.size - 1)
      · have b1 : (endI q s 0 != (s.size : Int)) = false := by rw [bne, beq_iff_eq.2 ((endI_is (by omega)).2 c1)]; rfl
        have E := Lib.hid (show unqL q s.data.toList = U q s 1 by rw [unqL_end hq, if_neg (by rw [e0, c0, hdl, c1]; simp; omega)])
        have E2 := Lib.hid c1
        clear c0 c1 e0 hdl
        have hqn := Lib.hid hq
        go_enter Tryd.func133, Tryd.ntmps133
        go_wp2_with (go_at_call 99; refine (specEnd q s hs 0 p0 K0.out _).mono ?_; rintro e w0 ⟨rfl, hb0⟩)
        have hsz0 := hb0.size
        go_loopw [6, 7, 8, 9] (fun v i _ _ wr => ∃ (k : Nat) (acc : List UInt8), i = .int .i64 k ∧ Hid (unqL q s.data.toList = (U q s k).map (acc ++ ·)) ∧ Hid (endN q (s.data.toList.drop k) = some (s.size - k)) ∧ Buf wr w.heap.size v acc ∧ k ≤ z ∧ acc.length ≤ k ∧ Below w.heap.size w wr)
          (fun _ i _ _ _ => s.size - (intOf i).toNat)
        case atStart => exact ⟨1, [], rfl, Lib.hid (rel_start E.out), E2, Buf.lit w0 w.heap.size [] hsz0 (by simp [maxLen]), by omega, by simp, hb0.alloc hsz0 _⟩
        case round =>
          obtain ⟨k, acc, rfl, HR, HE, hown, hk, hacc, hb⟩ := hrel
          have hsz := hb.size
          by_cases hkz : k = z
          · subst hkz
            have HN := Lib.hid (rel_done HR.out (U_done hz1))
            clear HR HE
            have hcv := run_text hown
            go_wp2
            go_ret2
            exact ⟨ret_some HN.out, hb⟩
          · have hlt : k < z := by omega
            obtain ⟨c1, hc1⟩ : ∃ c, c = k + 1 := ⟨_, rfl⟩
            obtain ⟨c2, hc2⟩ : ∃ c, c = c1 + 1 := ⟨_, rfl⟩
            obtain ⟨c3, hc3⟩ : ∃ c, c = c2 + 1 := ⟨_, rfl⟩
            have j1 : (k : Int) + 1 = (c1 : Int) := by omega
            have j2 : (k : Int) + 2 = (c2 : Int) := by omega
            have j3 : (k : Int) + 3 = (c3 : Int) := by omega
            have hk1 : c1 < s.size := by omega
            have hkk : k < s.size := by omega
            clear hkz
            obtain ⟨n1, n2, n3, n4, n5⟩ := E_step hkk HE.out (by omega)
            by_cases h92 : s[k] = 92
            · have b92 : ((s[k].toNat : Int) != 92) = false := u8nF h92
              obtain ⟨n6, hE2⟩ := n4 h92
              clear n1 n2 n3 n4 n5
              have hlt2 : c2 < s.size := by omega
              rw [show k + 2 = c2 from by omega] at hE2
              by_cases d1 : s[c1] = 110
              · have f1 : ((s[c1].toNat : Int) == 110) = true := u8T d1
                have HN := Lib.hid (rel_next HR.out (U_n hc1 hc2 hlt2 h92 d1))
                have HE2 := Lib.hid (hE2)
                clear h92 hc1 hc2 hc3 hE2 d1 HR HE
                go_wp2_with (at_builtin; refine wpList_append_lit rfl _ _ rfl rfl hown 1 rfl (by simp) [10] rfl rfl (by omega) (by omega) ?_; intro v1 w1 hown1 hb1)
                go_roundw
                case rel => exact ⟨c2, _, congrArg (Value.int .i64) (by omega), HN, HE2, hown1, by omega, by simp; omega, hb.trans hb1⟩
                case measure => simp [intOf]; omega
              · have f1 : ((s[c1].toNat : Int) == 110) = false := u8F d1
                by_cases d2 : s[c1] = 116
                · have f2 : ((s[c1].toNat : Int) == 116) = true := u8T d2
                  have HN := Lib.hid (rel_next HR.out (U_t hc1 hc2 hlt2 h92 d2))
                  have HE2 := Lib.hid (hE2)
                  clear h92 hc1 hc2 hc3 hE2 d1 d2 HR HE
                  go_wp2_with (at_builtin; refine wpList_append_lit rfl _ _ rfl rfl hown 1 rfl (by simp) [9] rfl rfl (by omega) (by omega) ?_; intro v1 w1 hown1 hb1)
                  go_roundw
                  case rel => exact ⟨c2, _, congrArg (Value.int .i64) (by omega), HN, HE2, hown1, by omega, by simp; omega, hb.trans hb1⟩
                  case measure => simp [intOf]; omega
                · have f2 : ((s[c1].toNat : Int) == 116) = false := u8F d2
                  by_cases d3 : s[c1] = 92
                  · have f3 : ((s[c1].toNat : Int) == 92) = true := u8T d3
                    have HN := Lib.hid (rel_next HR.out (U_self hk1 hc1 hc2 hlt2 h92 (.inl d3)))
                    have HE2 := Lib.hid (hE2)
                    clear h92 hc1 hc2 hc3 hE2 d1 d2 d3 HR HE
                    go_wp2_with (at_builtin; refine wpList_append_lit rfl _ _ rfl rfl hown 1 rfl (by simp) [s[c1]] rfl rfl (by omega) (by omega) ?_; intro v1 w1 hown1 hb1)
                    go_roundw
                    case rel => exact ⟨c2, _, congrArg (Value.int .i64) (by omega), HN, HE2, hown1, by omega, by simp; omega, hb.trans hb1⟩
                    case measure => simp [intOf]; omega
                  · have f3 : ((s[c1].toNat : Int) == 92) = false := u8F d3
                    by_cases d4 : s[c1] = 34
                    · have f4 : ((s[c1].toNat : Int) == 34) = true := u8T d4
                      have HN := Lib.hid (rel_next HR.out (U_self hk1 hc1 hc2 hlt2 h92 (.inr (.inl d4))))
                      have HE2 := Lib.hid (hE2)
                      clear h92 hc1 hc2 hc3 hE2 d1 d2 d3 d4 HR HE
                      go_wp2_with (at_builtin; refine wpList_append_lit rfl _ _ rfl rfl hown 1 rfl (by simp) [s[c1]] rfl rfl (by omega) (by omega) ?_; intro v1 w1 hown1 hb1)
                      go_roundw
                      case rel => exact ⟨c2, _, congrArg (Value.int .i64) (by omega), HN, HE2, hown1, by omega, by simp; omega, hb.trans hb1⟩
                      case measure => simp [intOf]; omega
                    · have f4 : ((s[c1].toNat : Int) == 34) = false := u8F d4
                      by_cases d5 : s[c1] = 39
                      · have f5 : ((s[c1].toNat : Int) == 39) = true := u8T d5
                        have HN := Lib.hid (rel_next HR.out (U_self hk1 hc1 hc2 hlt2 h92 (.inr (.inr d5))))
                        have HE2 := Lib.hid (hE2)
                        clear h92 hc1 hc2 hc3 hE2 d1 d2 d3 d4 d5 HR HE
                        go_wp2_with (at_builtin; refine wpList_append_lit rfl _ _ rfl rfl hown 1 rfl (by simp) [s[c1]] rfl rfl (by omega) (by omega) ?_; intro v1 w1 hown1 hb1)
                        go_roundw
                        case rel => exact ⟨c2, _, congrArg (Value.int .i64) (by omega), HN, HE2, hown1, by omega, by simp; omega, hb.trans hb1⟩
                        case measure => simp [intOf]; omega
                      · have f5 : ((s[c1].toNat : Int) == 39) = false := u8F d5
                        by_cases d6 : s[c1] = 120
                        · have f6 : ((s[c1].toNat : Int) == 120) = true := u8T d6
                          by_cases hsh : z ≤ c3
                          · have k0 : s.size ≤ c2 + 2 := by omega
                            have HN := Lib.hid (rel_none HR.out (U_short hc1 hc2 hlt2 h92 d6 k0))
                            clear h92 hc1 hc2 hc3 hE2 d1 d2 d3 d4 d5 d6 k0 HR HE
                            go_wp2
                            go_ret2
                            exact ⟨ret_none HN.out, hb⟩
                          · have hlt3 : c3 < z := by omega
                            have k0 : c2 + 2 < s.size := by omega
                            have k3 : c3 < s.size := by omega
                            cases x2 : hexV s[c2] with
                            | none =>
                              have y2 := hexN_none x2
                              have HN := Lib.hid (rel_none HR.out (U_hex1 hc1 hc2 k0 h92 d6 x2))
                              clear h92 hc1 hc2 hc3 hE2 d1 d2 d3 d4 d5 d6 k0 x2 HR HE
                              go_wp2_with (go_at_call 154; refine (specHex1 _ _).mono ?_; rintro e w' ⟨rfl, rfl⟩)
                              go_ret2
                              exact ⟨ret_none HN.out, hb⟩
                            | some a =>
                              have y2 := hexN_some x2
                              have za := (hexV_bd x2).1
                              cases x3 : hexV s[c3] with
                              | none =>
                                have y3 := hexN_none x3
                                have HN := Lib.hid (rel_none HR.out (U_hex2 hc1 hc2 hc3 k0 h92 d6 x3))
                                clear h92 hc1 hc2 hc3 hE2 d1 d2 d3 d4 d5 d6 k0 x2 x3 HR HE
                                go_wp2_with (go_at_call 154; refine (specHex1 _ _).mono ?_; rintro e w' ⟨rfl, rfl⟩)
                                go_ret2
                                exact ⟨ret_none HN.out, hb⟩
                              | some b =>
                                have y3 := hexN_some x3
                                have zb := (hexV_bd x3).1
                                have i2 : (c2 : Int) < (s.size : Int) := by omega
                                have i3 : (c3 : Int) < (s.size : Int) := by omega
                                have HN := Lib.hid (rel_next HR.out (U_hex hc1 hc2 hc3 k0 h92 d6 x2 x3))
                                have hE3 := E_hex hq hlt2 x2 hE2
                                rw [← hc3] at hE3
                                have HE4 := Lib.hid (E_hex hq k3 x3 hE3)
                                clear h92 hc1 hc2 hc3 hE2 d1 d2 d3 d4 d5 d6 k0 x2 x3 hE3 HR HE
                                go_wp2_with (go_at_call 154; refine (specHex1 _ _).mono ?_; rintro e w' ⟨rfl, rfl⟩)
                                have r1 : IntKind.i64.wrap (c2 : Int) = (c2 : Int) := IntWalk.i64_in _ (by omega)
                                have r2 : IntKind.i64.wrap (c3 : Int) = (c3 : Int) := IntWalk.i64_in _ (by omega)
                                have r3 : IntKind.i64.wrap (16 * (a : Int)) = 16 * (a : Int) := IntWalk.i64_in _ (by omega)
                                have r4 : IntKind.i64.wrap (16 * (a : Int) + (b : Int)) = 16 * (a : Int) + (b : Int) := IntWalk.i64_in _ (by omega)
                                have r5 : IntKind.u8.wrap (16 * (a : Int) + (b : Int)) = 16 * (a : Int) + (b : Int) := IntWalk.u8_in _ (by omega)
                                go_region_held3 (fun _ => True) (trivial) ((first
                                  | (go_at_call 154; refine (specHex1 _ _).mono ?_; rintro e w' ⟨rfl, rfl⟩)
                                  | (refine step_append_lit rfl _ _ (by rfl) (by rfl) hown 1 (by rfl) (by simp) [UInt8.ofNat (a * 16 + b)] rfl (hexCell (by omega) _ (by omega)) (by omega) (by omega) ?_; intro v1 w1 hown1 hb1)))
                                all_goals
                                  go_wp2
                                  go_roundw
                                  case rel => exact ⟨c3 + 1, _, congrArg (Value.int .i64) (by omega), HN, HE4, hown1, by omega, by simp; omega, hb.trans hb1⟩
                                  case measure => simp [intOf]; omega
                        · have f6 : ((s[c1].toNat : Int) == 120) = false := u8F d6
                          have HN := Lib.hid (rel_none HR.out (U_other hc1 hc2 hlt2 h92 d1 d2 (by rintro (h | h | h); exact d3 h; exact d4 h; exact d5 h) d6))
                          clear h92 hc1 hc2 hc3 hE2 d1 d2 d3 d4 d5 d6 HR HE
                          go_wp2
                          go_ret2
                          exact ⟨ret_none HN.out, hb⟩
            · have b92 : ((s[k].toNat : Int) != 92) = true := u8nT h92
              have HE2 := Lib.hid (n5 h92)
              have HN := Lib.hid (rel_next HR.out (U_plain hkk hc1 hk1 h92 (bad_of n1 n2 n3)))
              have HC := Lib.hid hc1
              clear n1 n2 n3 n4 n5 h92 hc1 HR HE
              go_wp2_with (at_builtin; refine wpList_append_lit rfl _ _ rfl rfl hown 1 rfl (by simp) [s[k]] rfl rfl (by omega) (by omega) ?_; intro v1 w1 hown1 hb1)
              go_roundw
              case rel => exact ⟨c1, _, congrArg (Value.int .i64) (by omega), HN, by rw [HC.out]; exact HE2, hown1, by omega, by simp; omega, hb.trans hb1⟩
              case measure => simp [intOf]; omega
      · have b1 : (endI q s 0 != (s.size : Int)) = true := by rw [bne_iff_ne]; exact fun h => c1 ((endI_is (by omega)).1 h)
        have E := Lib.hid (show unqL q s.data.toList = none by rw [unqL_end hq, if_pos (.inr (.inr (by rw [hdl]; exact c1)))])
        clear c0 c1 e0 hz hdl
        go_enter Tryd.func133, Tryd.ntmps133
        go_wp2_with (go_at_call 99; refine (specEnd q s hs 0 p0 K0.out _).mono ?_; rintro e w0 ⟨rfl, hb0⟩)
        go_ret2
        exact ⟨ret_none E.out, hb0⟩
    · have b0 : ((s[0].toNat : Int) != (q.toNat : Int)) = true := u8nT c0
      have E := Lib.hid (show unqL q s.data.toList = none from if_pos (.inr (.inl (by rw [e0]; intro h; exact c0 (Option.some.inj h)))))
      clear c0 e0 hz hdl
      go_enter Tryd.func133, Tryd.ntmps133
      go_wp2
      go_ret2
      exact ⟨ret_none E.out, Below.refl _ _⟩
theorem implUnquoteText (s : ByteArray) (hs : s.size ≤ 1048576) (w : World) : Calls Tryd.prog 108 #[.string s] w fun e w' => e = uqE (unqL 34 s.data.toList) ∧ Below w.heap.size w w' := by
  go_enter Tryd.func108, Tryd.ntmps108
  go_wp2_with (go_at_call 136; refine (implUnq 34 s hs _).mono ?_; unfold uqE; rintro e w' ⟨rfl, hb⟩)
  go_ret2
  exact ⟨rfl, hb⟩
theorem specUnquoteText (s : ByteArray) (hs : s.size ≤ 1048576) (w : World) : Calls Tryd.prog 100 #[.string s] w fun e w' => e = uqE (unqL 34 s.data.toList) ∧ Below w.heap.size w w' := by
  go_enter Tryd.func100, Tryd.ntmps100
  go_wp2_with (go_at_call 133; refine (specUnq 34 (.inl rfl) s hs _).mono ?_; unfold uqE; rintro e w' ⟨rfl, hb⟩)
  go_ret2
  exact ⟨rfl, hb⟩
end Go.Proofs.YtanmkeoieckebaaDoor
