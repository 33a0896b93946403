/- Proved here: what IsValidExpr gives, of the program and of the reference. Condition: the tree has at most 2^20 letters and kids; the listed table of white space lies in memory (the program's form alone). -/
import Derived.Test.YtljblaglfooclaaGreatDoorVd
import Derived.Test.YtljblaglfooclaaGreatDoorCn
namespace Go.Proofs.YtljblaglfooclaaGreatDoor
open Go.RowKit
namespace X

theorem specValid (x : X) : ∀ (d : Nat) (s : Value) (P : Nat → Prop) (w : World), Rd w P x s → (∀ b, P b → b < w.heap.size) → Wf x → siz x ≤ 1048576 → d ≤ 1048576 →
    Calls Tryz.prog 46 #[val x s, .int .i64 (d : Int)] w fun e w' => e = .returned (.bool (vldD wdB x d)) ∧ Below w.heap.size w w' := by
  induction x using X.ind with
  | h k t n l r ih =>
    intro d s P w hR hP hwf hs hd
    have hK : Kd w P r s := hR.kids
    obtain ⟨A, cap, rfl⟩ := hK.form
    have hwf' := hwf
    simp only [Wf] at hwf'
    obtain ⟨hk, ht0, hn, hl, hlen0, hwL⟩ := hwf'
    simp only [siz] at hs
    have hKd : KdC k t n l (.slice A r.length cap) (kidsR k).1 (kidsR k).2 := fun W => specKids k t n l (.slice A r.length cap) W
    have hWd : WdC k t n l (.slice A r.length cap) (wdB k t) := fun W => specWords k t n l (.slice A r.length cap) (by omega) W
    have hh24 := kidsR_hi k
    show Calls Tryz.prog 46 #[.agg #[.int .i64 k, .string t, .int .i64 n, .int .i64 l, .slice A r.length cap], .int .i64 (d : Int)] w _
    by_cases hok : d ≤ 40 ∧ 1 ≤ k ∧ k ≤ 29 ∧ (kidsR k).1 ≤ r.length ∧ r.length ≤ (kidsR k).2 ∧ 0 ≤ l
    · obtain ⟨o0, o1, o2, o3, o4, o5⟩ := id hok
      have hl20 : 1 ≤ r.length ∨ k ≠ 20 := by
        by_cases h : k = 20
        · left; rw [h] at o3; exact o3
        · exact .inr h
      by_cases hq : wdB k t = true
      · rw [hq] at hWd
        rcases num_ways k n r.length hl20 with ⟨hnum, hways⟩ | ⟨hnum, hways⟩
        · have hv := okD_word (W := wdB) (k := k) (t := t) (n := n) (l := l) (r := r) (d := d) (by rw [hnum]; simp)
          rcases hways with h | h | h | h | ⟨rfl, rfl, m, hm, h1⟩ | ⟨rfl, rfl, h1⟩ | ⟨rfl, rfl, m, hm, h1, h2⟩ | h
          · exact valid_num k t n l r A cap d _ _ w _ hv hKd hWd o0 o1 o2 o3 o4 o5 (.inl h)
          · exact valid_num k t n l r A cap d _ _ w _ hv hKd hWd o0 o1 o2 o3 o4 o5 (.inr (.inl h))
          · exact valid_num k t n l r A cap d _ _ w _ hv hKd hWd o0 o1 o2 o3 o4 o5 (.inr (.inr (.inl h)))
          · exact valid_num k t n l r A cap d _ _ w _ hv hKd hWd o0 o1 o2 o3 o4 o5 (.inr (.inr (.inr (.inl h))))
          · exact valid_0 t l r A cap d _ _ w _ hv m hm h1 hKd hWd o0 o3 o4 o5 hh24
          · have h1' : r.length = 1 := by rcases hl20 with h | h; omega; exact absurd rfl h
            exact valid_2 t l A cap d _ _ w _ hv r.length h1' hKd hWd o0 o3 o4 o5
          · exact valid_1 t l r A cap d _ _ w _ hv m hm h1 hKd hWd o0 o3 o4 o5 hh24
          · exact valid_num k t n l r A cap d _ _ w _ hv hKd hWd o0 o1 o2 o3 o4 o5 (.inr (.inr (.inr (.inr h))))
        · rw [okD_good (W := wdB) (t := t) (n := n) hok hq hnum]
          refine valid_ok k t n l r A cap d _ _ w P hK hP hKd hWd (fun j hlt W W1 s' hb1 hb hkid => ?_) o0 o1 o2 o3 o4 o5 hh24 hways
          exact ih j hlt (d + 1) _ P W (hkid.rd.below hb fun b hb => Nat.lt_of_lt_of_le (hP b hb) hb1.size) (fun b hb' => Nat.lt_of_lt_of_le (hP b hb') (Nat.le_trans hb1.size hb.size)) (WfL_get r hlt hwL) (by have := siz_get r hlt; omega) (by omega)
      · have hq' : wdB k t = false := by simpa using hq
        rw [hq'] at hWd
        exact valid_word k t n l r A cap d _ _ w _ (okD_word (by rw [hq']; rfl)) hKd hWd o0 o1 o2 o3 o4 o5
    · exact valid_bad k t n l r A cap d _ _ w _ (okD_bad hok) hKd (by omega)
set_option maxHeartbeats 2000000 in
theorem implIsValid (x : X) (s : Value) (P : Nat → Prop) (w : World) (hR : Rd w P x s) (hP : ∀ b, P b → b < w.heap.size) (hT : Lib.TabIs Tryz.prog w "strings.asciiSpace" .u8 Lib.asciiSpaceTab) (hw : Wf x) (hs : siz x ≤ 1048576) :
    Calls Tryz.prog 35 #[val x s] w fun e w' => e = .returned (.bool (vldE wdB x)) ∧ Below w.heap.size w w' := by
  have hcl := cnt_le x
  have hdl := dep_le x
  have hC := fun (W : World) (hW : Below w.heap.size w W) => implCount x s P W (hR.below hW hP) (fun b hb => Nat.lt_of_lt_of_le (hP b hb) hW.size) (by omega)
  have hD := fun (W : World) (hW : Below w.heap.size w W) => implDepth x s P W (hR.below hW hP) (fun b hb => Nat.lt_of_lt_of_le (hP b hb) hW.size) (by omega)
  have hV := fun (W : World) (hW : Below w.heap.size w W) => implValid x s P W (hR.below hW hP) (fun b hb => Nat.lt_of_lt_of_le (hP b hb) hW.size) (tab_kept hT hW) hw hs
  have HE := Lib.hid (show vldE wdB x = (decide (cnt x ≤ 600) && (decide (dep x ≤ 40) && vld wdB x)) from rfl)
  obtain ⟨c, hc⟩ : ∃ c, c = cnt x := ⟨_, rfl⟩
  obtain ⟨d, hd⟩ : ∃ d, d = dep x := ⟨_, rfl⟩
  obtain ⟨v, hv⟩ : ∃ v, v = vld wdB x := ⟨_, rfl⟩
  rw [← hc] at hC hcl hdl
  rw [← hd] at hD hdl
  rw [← hv] at hV
  rw [← hc, ← hd, ← hv] at HE
  clear hc hd hv hT hw
  obtain ⟨k, t, n, l, r⟩ := x
  by_cases h1 : c ≤ 600
  · have b1 : decide ((c : Int) ≤ 600) = true := decide_eq_true (by omega)
    by_cases h2 : d ≤ 40
    · have b2 : decide ((d : Int) ≤ 40) = true := decide_eq_true (by omega)
      have HN := Lib.hid (show vldE wdB (.mk k t n l r) = v by rw [HE.out, decide_eq_true h1, decide_eq_true h2]; simp)
      clear HE
      show Calls Tryz.prog 35 #[.agg #[.int .i64 k, .string t, .int .i64 n, .int .i64 l, s]] w _
      go_enter Tryz.func35, Tryz.ntmps35
      go_wp2_with (first
        | (go_at_call 58; refine (hC _ (by repeat (first | exact Below.refl _ _ | refine Below.drew ?_ | refine Below.setCell ?_ (by (try simp); try omega) _ | refine Below.alloc ?_ (by (try simp); try omega) _))).mono ?_; rintro e w1 ⟨rfl, hb1⟩; have hbx := Var.kept (Var.new w k t n l s 46) hb1; have hbb : Below w.heap.size w w1 := Below.trans (by repeat (first | exact Below.refl _ _ | refine Below.drew ?_ | refine Below.setCell ?_ (by (try simp); try omega) _ | refine Below.alloc ?_ (by (try simp); try omega) _)) (hb1.mono (by simp)); obtain ⟨a0, a1, a2, a3, a4⟩ := id hbx)
        | (go_at_call 59; refine (hD _ hbb).mono ?_; rintro e w2 ⟨rfl, hb2⟩; have hbx := hbx.kept hb2; have hbb := hbb.trans (hb2.mono hbb.size); obtain ⟨a0, a1, a2, a3, a4⟩ := id hbx)
        | (go_at_call 60; refine (hV _ hbb).mono ?_; rintro e w3 ⟨rfl, hb3⟩; have hbb := hbb.trans (hb3.mono hbb.size)))
      go_ret
      exact ⟨ret_b HN.out.symm, hbb⟩
    · have b2 : decide ((d : Int) ≤ 40) = false := decide_eq_false (by omega)
      have HN := Lib.hid (show vldE wdB (.mk k t n l r) = false by rw [HE.out, decide_eq_false h2]; simp)
      clear HE
      show Calls Tryz.prog 35 #[.agg #[.int .i64 k, .string t, .int .i64 n, .int .i64 l, s]] w _
      go_enter Tryz.func35, Tryz.ntmps35
      go_wp2_with (first
        | (go_at_call 58; refine (hC _ (by repeat (first | exact Below.refl _ _ | refine Below.drew ?_ | refine Below.setCell ?_ (by (try simp); try omega) _ | refine Below.alloc ?_ (by (try simp); try omega) _))).mono ?_; rintro e w1 ⟨rfl, hb1⟩; have hbx := Var.kept (Var.new w k t n l s 46) hb1; have hbb : Below w.heap.size w w1 := Below.trans (by repeat (first | exact Below.refl _ _ | refine Below.drew ?_ | refine Below.setCell ?_ (by (try simp); try omega) _ | refine Below.alloc ?_ (by (try simp); try omega) _)) (hb1.mono (by simp)); obtain ⟨a0, a1, a2, a3, a4⟩ := id hbx)
        | (go_at_call 59; refine (hD _ hbb).mono ?_; rintro e w2 ⟨rfl, hb2⟩; have hbx := hbx.kept hb2; have hbb := hbb.trans (hb2.mono hbb.size); obtain ⟨a0, a1, a2, a3, a4⟩ := id hbx))
      go_ret
      exact ⟨ret_b HN.out.symm, hbb⟩
  · have b1 : decide ((c : Int) ≤ 600) = false := decide_eq_false (by omega)
    have HN := Lib.hid (show vldE wdB (.mk k t n l r) = false by rw [HE.out, decide_eq_false h1]; simp)
    clear HE
    show Calls Tryz.prog 35 #[.agg #[.int .i64 k, .string t, .int .i64 n, .int .i64 l, s]] w _
    go_enter Tryz.func35, Tryz.ntmps35
    go_wp2_with (go_at_call 58; refine (hC _ (by repeat (first | exact Below.refl _ _ | refine Below.drew ?_ | refine Below.setCell ?_ (by (try simp); try omega) _ | refine Below.alloc ?_ (by (try simp); try omega) _))).mono ?_; rintro e w1 ⟨rfl, hb1⟩; have hbb : Below w.heap.size w w1 := Below.trans (by repeat (first | exact Below.refl _ _ | refine Below.drew ?_ | refine Below.setCell ?_ (by (try simp); try omega) _ | refine Below.alloc ?_ (by (try simp); try omega) _)) (hb1.mono (by simp)))
    go_ret
    exact ⟨ret_b HN.out.symm, hbb⟩
set_option maxHeartbeats 2000000 in
theorem specIsValid (x : X) (s : Value) (P : Nat → Prop) (w : World) (hR : Rd w P x s) (hP : ∀ b, P b → b < w.heap.size) (hw : Wf x) (hs : siz x ≤ 1048576) :
    Calls Tryz.prog 28 #[val x s] w fun e w' => e = .returned (.bool (vldE wdB x)) ∧ Below w.heap.size w w' := by
  have hcl := cnt_le x
  have hL := fun (W : World) (hW : Below w.heap.size w W) => specLeft x 600 s P W (hR.below hW hP) (fun b hb => Nat.lt_of_lt_of_le (hP b hb) hW.size) (by omega) (by omega)
  have hV := fun (W : World) (hW : Below w.heap.size w W) => specValid x 1 s P W (hR.below hW hP) (fun b hb => Nat.lt_of_lt_of_le (hP b hb) hW.size) hw hs (by omega)
  have HE := Lib.hid (vldE_ref wdB x)
  obtain ⟨z, hz⟩ : ∃ z, z = leftOf (cnt x) 600 := ⟨_, rfl⟩
  obtain ⟨v, hv⟩ : ∃ v, v = vldD wdB x 1 := ⟨_, rfl⟩
  rw [← hz] at hL
  rw [← hv] at hV
  rw [← hz, ← hv] at HE
  have hzb : -1 ≤ z ∧ z ≤ 600 := by rw [hz]; unfold leftOf; split <;> omega
  obtain ⟨hz1, hz2⟩ := hzb
  clear hz hv hw hcl
  obtain ⟨k, t, n, l, r⟩ := x
  by_cases h1 : 0 ≤ z
  · have HN := Lib.hid (show vldE wdB (.mk k t n l r) = v by rw [HE.out, decide_eq_true h1]; simp)
    clear HE
    show Calls Tryz.prog 28 #[.agg #[.int .i64 k, .string t, .int .i64 n, .int .i64 l, s]] w _
    go_enter Tryz.func28, Tryz.ntmps28
    go_wp2_with (first
      | (go_at_call 45; refine (hL _ (by repeat (first | exact Below.refl _ _ | refine Below.drew ?_ | refine Below.setCell ?_ (by (try simp); try omega) _ | refine Below.alloc ?_ (by (try simp); try omega) _))).mono ?_; rintro e w1 ⟨rfl, hb1⟩; have hbx := Var.kept (Var.new w k t n l s 46) hb1; have hbb : Below w.heap.size w w1 := Below.trans (by repeat (first | exact Below.refl _ _ | refine Below.drew ?_ | refine Below.setCell ?_ (by (try simp); try omega) _ | refine Below.alloc ?_ (by (try simp); try omega) _)) (hb1.mono (by simp)); obtain ⟨a0, a1, a2, a3, a4⟩ := id hbx)
      | (go_at_call 46; refine (hV _ hbb).mono ?_; rintro e w3 ⟨rfl, hb3⟩; have hbb := hbb.trans (hb3.mono hbb.size)))
    go_ret
    exact ⟨ret_b HN.out.symm, hbb⟩
  · have HN := Lib.hid (show vldE wdB (.mk k t n l r) = false by rw [HE.out, decide_eq_false h1]; simp)
    clear HE
    show Calls Tryz.prog 28 #[.agg #[.int .i64 k, .string t, .int .i64 n, .int .i64 l, s]] w _
    go_enter Tryz.func28, Tryz.ntmps28
    go_wp2_with (go_at_call 45; refine (hL _ (by repeat (first | exact Below.refl _ _ | refine Below.drew ?_ | refine Below.setCell ?_ (by (try simp); try omega) _ | refine Below.alloc ?_ (by (try simp); try omega) _))).mono ?_; rintro e w1 ⟨rfl, hb1⟩; have hbb : Below w.heap.size w w1 := Below.trans (by repeat (first | exact Below.refl _ _ | refine Below.drew ?_ | refine Below.setCell ?_ (by (try simp); try omega) _ | refine Below.alloc ?_ (by (try simp); try omega) _)) (hb1.mono (by simp)))
    go_ret
    exact ⟨ret_b HN.out.symm, hbb⟩
end X
end Go.Proofs.YtljblaglfooclaaGreatDoor
