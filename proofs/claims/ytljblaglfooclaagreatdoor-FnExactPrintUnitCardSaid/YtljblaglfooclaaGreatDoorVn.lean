/- Proved here: what the program's test of a tree gives. Condition: the tree has at most 2^20 letters and kids; the listed table of white space lies in memory. -/
import Derived.Test.YtljblaglfooclaaGreatDoorVw
namespace Go.Proofs.YtljblaglfooclaaGreatDoor
open Go.RowKit
namespace X

theorem ok_bad {W : Int → ByteArray → Bool} {k : Int} {t : ByteArray} {n l : Int} {r : List X} (h : ¬ (1 ≤ k ∧ k ≤ 29 ∧ (kidsR k).1 ≤ r.length ∧ r.length ≤ (kidsR k).2 ∧ 0 ≤ l)) : vld W (.mk k t n l r) = false := by
  rw [vld, okNode, decide_eq_false h]; rfl
theorem ok_word {W : Int → ByteArray → Bool} {k : Int} {t : ByteArray} {n l : Int} {r : List X} (h : (W k t && numOk k n r.length) = false) : vld W (.mk k t n l r) = false := by
  rw [vld, okNode, h]; simp
theorem ok_good {W : Int → ByteArray → Bool} {k : Int} {t : ByteArray} {n l : Int} {r : List X} (h : 1 ≤ k ∧ k ≤ 29 ∧ (kidsR k).1 ≤ r.length ∧ r.length ≤ (kidsR k).2 ∧ 0 ≤ l) (h2 : (W k t && numOk k n r.length) = true) : vld W (.mk k t n l r) = vldL W r := by
  rw [vld, okNode, decide_eq_true h, h2]; rfl
theorem numOk_1 (n : Int) (len : Nat) : numOk 1 n len = decide (0 ≤ n ∧ n ≤ 999999999999) := if_pos rfl
theorem numOk_20 (n : Int) (len : Nat) : numOk 20 n len = decide ((n = 0 ∨ n = 1) ∧ 1 + n ≤ (len : Int) ∧ ((len : Int) - 1 - n) % 2 = 0) := by rw [numOk, if_neg (by decide), if_pos rfl]
theorem numOk_0 {k : Int} (h1 : k ≠ 1) (h20 : k ≠ 20) (n : Int) (len : Nat) : numOk k n len = decide (n = 0) := by rw [numOk, if_neg h1, if_neg h20]
theorem vb {a b : Bool} (h : a = b) : Value.bool a = Value.bool b := by rw [h]
theorem decB {n : Int} : (n == 0) = decide (n = 0) := by rw [Bool.eq_iff_iff]; simp
set_option maxRecDepth 20000 in
set_option maxHeartbeats 8000000 in
theorem implValid (x : X) : ∀ (s : Value) (P : Nat → Prop) (w : World), Rd w P x s → (∀ b, P b → b < w.heap.size) → Lib.TabIs Tryz.prog w "strings.asciiSpace" .u8 Lib.asciiSpaceTab → Wf x → siz x ≤ 1048576 →
    Calls Tryz.prog 60 #[val x s] w fun e w' => e = .returned (.bool (vld wdB x)) ∧ Below w.heap.size w w' := by
  induction x using X.ind with
  | h k t n l r ih =>
    intro s P w hR hP hT hwf hs
    have hK : Kd w P r s := hR.kids
    obtain ⟨A, cap, rfl⟩ := hK.form
    have hwf' := hwf
    simp only [Wf] at hwf'
    obtain ⟨hk, ht0, hn, hl, hlen0, hwL⟩ := hwf'
    simp only [siz] at hs
    have hKd := implKids k
    obtain ⟨lo, hlo⟩ : ∃ x, x = (kidsR k).1 := ⟨_, rfl⟩
    obtain ⟨hi, hhi⟩ : ∃ x, x = (kidsR k).2 := ⟨_, rfl⟩
    rw [← hlo, ← hhi] at hKd
    have hh24 := kidsR_hi k
    rw [← hhi] at hh24
    by_cases hok : 1 ≤ k ∧ k ≤ 29 ∧ lo ≤ r.length ∧ r.length ≤ hi ∧ 0 ≤ l
    · have HOK := Lib.hid (show 1 ≤ k ∧ k ≤ 29 ∧ (kidsR k).1 ≤ r.length ∧ r.length ≤ (kidsR k).2 ∧ 0 ≤ l by rw [← hlo, ← hhi]; exact hok)
      obtain ⟨o1, o2, o3, o4, o5⟩ := hok
      clear hlo hhi hR
      show Calls Tryz.prog 60 #[.agg #[.int .i64 k, .string t, .int .i64 n, .int .i64 l, .slice A r.length cap]] w _
      go_enter Tryz.func60, Tryz.ntmps60
      go_upto_block 0 with (go_at_call 83; refine (hKd _).mono ?_; rintro e w' ⟨rfl, rfl⟩)
      have hzt : t.size ≤ 1048576 := by omega
      go_cut [5, 6] (fun s5 s6 wx => s5 = .bool (wdB k t) ∧ s6 = .bool (numOk k n r.length) ∧ wx.cell? ⟨w.heap.size, 4, none⟩ = some (.slice A r.length cap) ∧ Below w.heap.size w wx)
      case first =>
        clear ih hK
        by_cases h1 : k = 1
        · subst h1
          by_cases n0 : 0 ≤ n
          · have E := Lib.hid (show numOk 1 n r.length = decide (n ≤ 999999999999) by rw [numOk_1]; exact decide_eq_decide.2 (by omega))
            go_wp2_with fail
            go_meet
            exact ⟨vb (wdB_0 (by decide) (by decide) (by decide) (by decide) (by decide) (by decide) (by decide) (by decide) t).symm, vb E.out.symm, by go_simp, by repeat (first | exact Below.refl _ _ | refine Below.drew ?_ | refine Below.setCell ?_ (by (try simp); try omega) _ | refine Below.alloc ?_ (by (try simp); try omega) _)⟩
          · have E := Lib.hid (show numOk 1 n r.length = false by rw [numOk_1]; exact decide_eq_false (by omega))
            go_wp2_with fail
            go_meet
            exact ⟨vb (wdB_0 (by decide) (by decide) (by decide) (by decide) (by decide) (by decide) (by decide) (by decide) t).symm, vb E.out.symm, by go_simp, by repeat (first | exact Below.refl _ _ | refine Below.drew ?_ | refine Below.setCell ?_ (by (try simp); try omega) _ | refine Below.alloc ?_ (by (try simp); try omega) _)⟩
        have b1 : (k == 1) = false := by rw [beq_eq_false_iff_ne]; exact h1
        by_cases h2 : k = 2
        · subst h2
          clear h1 b1
          go_wp2_with fail
          go_meet
          exact ⟨vb (by rw [wdB_2]; exact decide_eq_decide.2 (by omega)), vb (by rw [numOk_0 (by decide) (by decide)]; exact decB), by go_simp, by repeat (first | exact Below.refl _ _ | refine Below.drew ?_ | refine Below.setCell ?_ (by (try simp); try omega) _ | refine Below.alloc ?_ (by (try simp); try omega) _)⟩
        have b2 : (k == 2) = false := by rw [beq_eq_false_iff_ne]; exact h2
        by_cases h3 : k = 3
        · subst h3
          clear h1 b1 h2 b2
          go_wp2_with (go_at_call 84; refine (implIsCset t (by unfold maxLen; omega) _).mono ?_; rintro e w1 ⟨rfl, dn, rfl⟩)
          go_meet
          exact ⟨vb (wdB_3 t).symm, vb (by rw [numOk_0 (by decide) (by decide)]; exact decB), by go_simp, by refine below_drewN ?_ _; repeat (first | exact Below.refl _ _ | refine Below.drew ?_ | refine Below.setCell ?_ (by (try simp); try omega) _ | refine Below.alloc ?_ (by (try simp); try omega) _)⟩
        have b3 : (k == 3) = false := by rw [beq_eq_false_iff_ne]; exact h3
        by_cases h4 : k = 4
        · subst h4
          clear h1 b1 h2 b2 h3 b3
          go_wp2_with (go_at_call 34; refine (implName t hzt _ (tab_kept hT (by repeat (first | exact Below.refl _ _ | refine Below.drew ?_ | refine Below.setCell ?_ (by (try simp); try omega) _ | refine Below.alloc ?_ (by (try simp); try omega) _)))).mono ?_; rintro e w1 ⟨rfl, hb1⟩; have hc1 := kc1 (p := ⟨w.heap.size, 4, none⟩) (v := .slice A r.length cap) hb1 (by go_simp))
          go_meet
          exact ⟨vb (wdB_n (by omega) t).symm, vb (by rw [numOk_0 (by decide) (by decide)]; exact decB), hc1, Below.trans (by repeat (first | exact Below.refl _ _ | refine Below.drew ?_ | refine Below.setCell ?_ (by (try simp); try omega) _ | refine Below.alloc ?_ (by (try simp); try omega) _)) (hb1.mono (by simp))⟩
        have b4 : (k == 4) = false := by rw [beq_eq_false_iff_ne]; exact h4
        by_cases h13 : k = 13
        · subst h13
          clear h1 b1 h2 b2 h3 b3 h4 b4
          go_wp2_with (go_at_call 34; refine (implName t hzt _ (tab_kept hT (by repeat (first | exact Below.refl _ _ | refine Below.drew ?_ | refine Below.setCell ?_ (by (try simp); try omega) _ | refine Below.alloc ?_ (by (try simp); try omega) _)))).mono ?_; rintro e w1 ⟨rfl, hb1⟩; have hc1 := kc1 (p := ⟨w.heap.size, 4, none⟩) (v := .slice A r.length cap) hb1 (by go_simp))
          go_meet
          exact ⟨vb (wdB_n (by omega) t).symm, vb (by rw [numOk_0 (by decide) (by decide)]; exact decB), hc1, Below.trans (by repeat (first | exact Below.refl _ _ | refine Below.drew ?_ | refine Below.setCell ?_ (by (try simp); try omega) _ | refine Below.alloc ?_ (by (try simp); try omega) _)) (hb1.mono (by simp))⟩
        have b13 : (k == 13) = false := by rw [beq_eq_false_iff_ne]; exact h13
        by_cases h28 : k = 28
        · subst h28
          clear h1 b1 h2 b2 h3 b3 h4 b4 h13 b13
          go_wp2_with (go_at_call 34; refine (implName t hzt _ (tab_kept hT (by repeat (first | exact Below.refl _ _ | refine Below.drew ?_ | refine Below.setCell ?_ (by (try simp); try omega) _ | refine Below.alloc ?_ (by (try simp); try omega) _)))).mono ?_; rintro e w1 ⟨rfl, hb1⟩; have hc1 := kc1 (p := ⟨w.heap.size, 4, none⟩) (v := .slice A r.length cap) hb1 (by go_simp))
          go_meet
          exact ⟨vb (wdB_n (by omega) t).symm, vb (by rw [numOk_0 (by decide) (by decide)]; exact decB), hc1, Below.trans (by repeat (first | exact Below.refl _ _ | refine Below.drew ?_ | refine Below.setCell ?_ (by (try simp); try omega) _ | refine Below.alloc ?_ (by (try simp); try omega) _)) (hb1.mono (by simp))⟩
        have b28 : (k == 28) = false := by rw [beq_eq_false_iff_ne]; exact h28
        by_cases h5 : k = 5
        · subst h5
          clear h1 b1 h2 b2 h3 b3 h4 b4 h13 b13 h28 b28
          go_wp2_with (go_at_call 85; refine (implIsKeyword t _ (tab_kept hT (by repeat (first | exact Below.refl _ _ | refine Below.drew ?_ | refine Below.setCell ?_ (by (try simp); try omega) _ | refine Below.alloc ?_ (by (try simp); try omega) _)))).mono ?_; rintro e w1 ⟨rfl, hb1⟩; have hc1 := kc1 (p := ⟨w.heap.size, 4, none⟩) (v := .slice A r.length cap) hb1 (by go_simp))
          go_meet
          exact ⟨vb (wdB_5 t).symm, vb (by rw [numOk_0 (by decide) (by decide)]; exact decB), hc1, Below.trans (by repeat (first | exact Below.refl _ _ | refine Below.drew ?_ | refine Below.setCell ?_ (by (try simp); try omega) _ | refine Below.alloc ?_ (by (try simp); try omega) _)) (hb1.mono (by simp))⟩
        have b5 : (k == 5) = false := by rw [beq_eq_false_iff_ne]; exact h5
        by_cases h7 : k = 7
        · subst h7
          clear h1 b1 h2 b2 h3 b3 h4 b4 h13 b13 h28 b28 h5 b5
          go_wp2_with (go_at_call 86; refine (implIsUnaryOperator t _ (tab_kept hT (by repeat (first | exact Below.refl _ _ | refine Below.drew ?_ | refine Below.setCell ?_ (by (try simp); try omega) _ | refine Below.alloc ?_ (by (try simp); try omega) _)))).mono ?_; rintro e w1 ⟨rfl, hb1⟩; have hc1 := kc1 (p := ⟨w.heap.size, 4, none⟩) (v := .slice A r.length cap) hb1 (by go_simp))
          go_meet
          exact ⟨vb (wdB_7 t).symm, vb (by rw [numOk_0 (by decide) (by decide)]; exact decB), hc1, Below.trans (by repeat (first | exact Below.refl _ _ | refine Below.drew ?_ | refine Below.setCell ?_ (by (try simp); try omega) _ | refine Below.alloc ?_ (by (try simp); try omega) _)) (hb1.mono (by simp))⟩
        have b7 : (k == 7) = false := by rw [beq_eq_false_iff_ne]; exact h7
        by_cases h8 : k = 8
        · subst h8
          clear h1 b1 h2 b2 h3 b3 h4 b4 h13 b13 h28 b28 h5 b5 h7 b7
          have hlb := lvB_bd t
          have hL : ∀ W : World, Below w.heap.size w W → Calls Tryz.prog 68 #[.string t] W fun e w' => e = .returned (.int .i64 (lvB t : Nat)) ∧ Below W.heap.size W w' := fun W hW => implLevel t W (tab_kept hT hW)
          have E := Lib.hid (wdB_8 t)
          generalize lvB t = m at hlb hL E
          go_wp2_with (go_at_call 68; refine (hL _ (by repeat (first | exact Below.refl _ _ | refine Below.drew ?_ | refine Below.setCell ?_ (by (try simp); try omega) _ | refine Below.alloc ?_ (by (try simp); try omega) _))).mono ?_; rintro e w1 ⟨rfl, hb1⟩; have hc1 := kc1 (p := ⟨w.heap.size, 4, none⟩) (v := .slice A r.length cap) hb1 (by go_simp))
          go_meet
          exact ⟨vb (by rw [E.out]), vb (by rw [numOk_0 (by decide) (by decide)]; exact decB), hc1, Below.trans (by repeat (first | exact Below.refl _ _ | refine Below.drew ?_ | refine Below.setCell ?_ (by (try simp); try omega) _ | refine Below.alloc ?_ (by (try simp); try omega) _)) (hb1.mono (by simp))⟩
        have b8 : (k == 8) = false := by rw [beq_eq_false_iff_ne]; exact h8
        by_cases h20 : k = 20
        · subst h20
          clear h1 b1 h2 b2 h3 b3 h4 b4 h13 b13 h28 b28 h5 b5 h7 b7 h8 b8
          have hr1 : 1 ≤ r.length := by have := HOK.out.2.2.1; exact this
          by_cases n0 : n = 0
          · subst n0
            obtain ⟨m, hm⟩ : ∃ m, m = r.length - 1 := ⟨_, rfl⟩
            have hz : (r.length : Int) - 1 = (m : Int) := by omega
            have E := Lib.hid (show numOk 20 0 r.length = ((m : Int) % 2 == 0) by
              rw [numOk_20, Bool.eq_iff_iff]; simp; omega)
            clear hm
            go_wp2_with fail
            go_meet
            exact ⟨vb (wdB_0 (by decide) (by decide) (by decide) (by decide) (by decide) (by decide) (by decide) (by decide) t).symm, vb E.out.symm, by go_simp, by repeat (first | exact Below.refl _ _ | refine Below.drew ?_ | refine Below.setCell ?_ (by (try simp); try omega) _ | refine Below.alloc ?_ (by (try simp); try omega) _)⟩
          by_cases n1 : n = 1
          · subst n1
            by_cases hr2 : 2 ≤ r.length
            · obtain ⟨m, hm⟩ : ∃ m, m = r.length - 2 := ⟨_, rfl⟩
              have hz : (r.length : Int) - 1 - 1 = (m : Int) := by omega
              have E := Lib.hid (show numOk 20 1 r.length = ((m : Int) % 2 == 0) by
                rw [numOk_20, Bool.eq_iff_iff]; simp; omega)
              have g0 : decide ((2 : Int) ≤ (r.length : Int)) = true := decide_eq_true (by omega)
              clear hm
              go_wp2_with fail
              go_meet
              exact ⟨vb (wdB_0 (by decide) (by decide) (by decide) (by decide) (by decide) (by decide) (by decide) (by decide) t).symm, vb E.out.symm, by go_simp, by repeat (first | exact Below.refl _ _ | refine Below.drew ?_ | refine Below.setCell ?_ (by (try simp); try omega) _ | refine Below.alloc ?_ (by (try simp); try omega) _)⟩
            · have E := Lib.hid (show numOk 20 1 r.length = false by
                rw [numOk_20]; exact decide_eq_false (by omega))
              have g0 : decide ((2 : Int) ≤ (r.length : Int)) = false := decide_eq_false (by omega)
              go_wp2_with fail
              go_meet
              exact ⟨vb (wdB_0 (by decide) (by decide) (by decide) (by decide) (by decide) (by decide) (by decide) (by decide) t).symm, vb E.out.symm, by go_simp, by repeat (first | exact Below.refl _ _ | refine Below.drew ?_ | refine Below.setCell ?_ (by (try simp); try omega) _ | refine Below.alloc ?_ (by (try simp); try omega) _)⟩
          · have E := Lib.hid (show numOk 20 n r.length = false by
              rw [numOk_20]; exact decide_eq_false (by omega))
            have g0 : (n == 0) = false := by rw [beq_eq_false_iff_ne]; exact n0
            have g1 : (n == 1) = false := by rw [beq_eq_false_iff_ne]; exact n1
            clear n0 n1
            go_wp2_with fail
            go_meet
            exact ⟨vb (wdB_0 (by decide) (by decide) (by decide) (by decide) (by decide) (by decide) (by decide) (by decide) t).symm, vb E.out.symm, by go_simp, by repeat (first | exact Below.refl _ _ | refine Below.drew ?_ | refine Below.setCell ?_ (by (try simp); try omega) _ | refine Below.alloc ?_ (by (try simp); try omega) _)⟩
        have b20 : (k == 20) = false := by rw [beq_eq_false_iff_ne]; exact h20
        have E := Lib.hid (wdB_0 h2 h3 h4 h13 h28 h5 h7 h8 t)
        have F := Lib.hid (numOk_0 h1 h20 n r.length)
        clear h1 h2 h3 h4 h13 h28 h5 h7 h8 h20
        go_wp2_with fail
        go_meet
        exact ⟨vb E.out.symm, vb (by rw [F.out]; exact decB), by go_simp, by repeat (first | exact Below.refl _ _ | refine Below.drew ?_ | refine Below.setCell ?_ (by (try simp); try omega) _ | refine Below.alloc ?_ (by (try simp); try omega) _)⟩
      case rest =>
        obtain ⟨rfl, rfl, hcell, hbb⟩ := hcut
        rename World => wd
        obtain ⟨q1, hq1⟩ : ∃ q, q = wdB k t := ⟨_, rfl⟩
        obtain ⟨q2, hq2⟩ : ∃ q, q = numOk k n r.length := ⟨_, rfl⟩
        rw [← hq1, ← hq2]
        have HQ1 := Lib.hid hq1
        have HQ2 := Lib.hid hq2
        clear hq1 hq2
        cases q1 with
        | false =>
          have HN := Lib.hid (ok_word (W := wdB) (k := k) (t := t) (n := n) (l := l) (r := r) (by rw [← HQ1.out]; rfl))
          clear ih hK
          go_wp2_with fail
          go_ret
          exact ⟨ret_b HN.out.symm, hbb⟩
        | true =>
          cases q2 with
          | false =>
            have HN := Lib.hid (ok_word (W := wdB) (k := k) (t := t) (n := n) (l := l) (r := r) (by rw [← HQ2.out]; simp))
            clear ih hK
            go_wp2_with fail
            go_ret
            exact ⟨ret_b HN.out.symm, hbb⟩
          | true =>
            have HV := Lib.hid (ok_good (W := wdB) (t := t) (n := n) HOK.out (by rw [← HQ1.out, ← HQ2.out]; rfl))
            go_wp2_with fail
            go_loopw [133] (fun i wr => ∃ j : Nat, i = .int .i64 j ∧ Hid (∀ i (h : i < r.length), i < j → vld wdB r[i] = true) ∧ j ≤ r.length ∧ Below w.heap.size w wr)
              (fun i _ => r.length - (intOf i).toNat)
            case atStart => exact ⟨0, rfl, Lib.hid (fun i _ h => by omega), by omega, hbb⟩
            case round =>
              obtain ⟨j, rfl, HM, hj, hb⟩ := hrel
              have hsz := hb.size
              by_cases hlt : j < r.length
              · obtain ⟨b, o, s', rfl, hPb, hkid, c0, c1, c2, c3, c4⟩ := Kd.at_ (hK.below hb hP) hlt
                obtain ⟨A1, cap1, rfl⟩ := hkid.form
                have i0 : (j : Int) < (r.length : Int) := by omega
                have hC : ∀ W : World, Below wr.heap.size wr W → Calls Tryz.prog 60 #[val r[j] (.slice A1 r[j].r.length cap1)] W fun e w' => e = .returned (.bool (vld wdB r[j])) ∧ Below W.heap.size W w' := fun W hW =>
                  ih j hlt _ P W (hkid.rd.below hW fun b hb => Nat.lt_of_lt_of_le (hP b hb) hsz) (fun b hb => Nat.lt_of_lt_of_le (hP b hb) (Nat.le_trans hsz hW.size)) (tab_kept hT (hb.trans (hW.mono hsz))) (WfL_get r hlt hwL) (by have := siz_get r hlt; omega)
                obtain ⟨v, hv⟩ : ∃ v, v = vld wdB r[j] := ⟨_, rfl⟩
                rw [← hv] at hC
                cases v with
                | true =>
                  have HN : Hid (∀ i (h : i < r.length), i < j + 1 → vld wdB r[i] = true) := Lib.hid fun i h hi => by
                    by_cases e : i = j
                    · subst e; exact hv.symm
                    · exact HM.out i h (by omega)
                  clear HM hv
                  go_wp2_with (go_at_call 60; refine (hC _ (by repeat (first | exact Below.refl _ _ | refine Below.drew ?_ | refine Below.setCell ?_ (by (try simp); try omega) _ | refine Below.alloc ?_ (by (try simp); try omega) _))).mono ?_; rintro e w1 ⟨rfl, hb1⟩)
                  all_goals
                    go_roundw
                    case rel => exact ⟨j + 1, by go_num, HN, by omega, (hb.alloc hsz _).trans (hb1.mono (by simp; omega))⟩
                    case measure => simp [intOf]; omega
                | false =>
                  have HN := Lib.hid (show vld wdB (.mk k t n l r) = false by rw [HV.out]; exact vldL_no wdB r hlt hv.symm)
                  clear HM hv
                  go_wp2_with (go_at_call 60; refine (hC _ (by repeat (first | exact Below.refl _ _ | refine Below.drew ?_ | refine Below.setCell ?_ (by (try simp); try omega) _ | refine Below.alloc ?_ (by (try simp); try omega) _))).mono ?_; rintro e w1 ⟨rfl, hb1⟩)
                  all_goals
                    go_ret
                    exact ⟨ret_b HN.out.symm, (hb.alloc hsz _).trans (hb1.mono (by simp; omega))⟩
              · obtain rfl : j = r.length := by omega
                have HN := Lib.hid (show vld wdB (.mk k t n l r) = true by rw [HV.out]; exact vldL_all wdB r fun i h => HM.out i h h)
                clear HM
                go_wp2_with fail
                go_ret
                exact ⟨ret_b HN.out.symm, hb⟩
    · have hb : (decide (k < 1) || decide (29 < k) || decide (r.length < lo) || decide (hi < r.length) || decide (l < 0)) = true := by
        simp only [Bool.or_eq_true, decide_eq_true_eq]; omega
      have HN := Lib.hid (ok_bad (W := wdB) (t := t) (n := n) (by rw [← hlo, ← hhi]; exact hok))
      clear hok hlo hhi ih hR
      show Calls Tryz.prog 60 #[.agg #[.int .i64 k, .string t, .int .i64 n, .int .i64 l, .slice A r.length cap]] w _
      go_enter Tryz.func60, Tryz.ntmps60
      go_wp2_with (go_at_call 83; refine (hKd _).mono ?_; rintro e w' ⟨rfl, rfl⟩)
      all_goals
        go_ret
        exact ⟨ret_b HN.out.symm, by repeat (first | exact Below.refl _ _ | refine Below.drew ?_ | refine Below.setCell ?_ (by (try simp); try omega) _ | refine Below.alloc ?_ (by (try simp); try omega) _)⟩
end X
end Go.Proofs.YtljblaglfooclaaGreatDoor
