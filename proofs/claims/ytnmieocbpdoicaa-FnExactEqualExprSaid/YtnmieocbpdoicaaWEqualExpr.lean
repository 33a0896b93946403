/- Proved here: the walk of the law FnExactEqualExpr: the call returns true and leaves all older memory as it was. Condition: the arguments are of their types. -/
import Derived.Test.YtnmieocbpdoicaaXw
namespace Go.Proofs.Ytnmieocbpdoicaa.lEqualExpr
open Go.RowKit

open X
set_option maxRecDepth 20000 in
set_option maxHeartbeats 8000000 in
theorem walk (w : World) (x : X) (s : Value) (hw : Wf x) (hr : Rd w (· < w.heap.size) x s) (y : X) (u : Value) (hw' : Wf y) (hr' : Rd w (· < w.heap.size) y u) : Calls Try.prog 7 #[val x s, val y u] w fun e w' => e = .returned (.bool true) ∧ Below w.heap.size w w' := by
  obtain ⟨A, cap, rfl⟩ := hr.kids.form
  obtain ⟨C, cup, rfl⟩ := hr'.kids.form
  by_cases hs : siz x ≤ 1048576
  · have hZ := sz_yes hr hw (Nat.le_refl _) hs
    obtain ⟨m0, hm0⟩ : ∃ m0, m0 = 1048576 - siz x := ⟨_, rfl⟩
    rw [← hm0] at hZ
    have hm0' : m0 ≤ 1048576 := by omega
    have b0 : decide ((m0 : Int) < 0) = false := by simp
    by_cases hs' : siz y ≤ m0
    · have hT := toX_at hr hs
      have hT' := toX_at hr' (Nat.le_trans hs' hm0')
      have hZ' := sz_yes hr' hw' hm0' hs'
      obtain ⟨m1, hm1⟩ : ∃ m1, m1 = m0 - siz y := ⟨_, rfl⟩
      rw [← hm1] at hZ'
      have b1 : decide ((m1 : Int) < 0) = false := by simp
      have hE := eq_copy hw
      have hE' := eq_copy hw'
      have hS := fun (W W1 W2 : World) (s1 s2 : Value) (B1 B2 : Nat) (F1 F2 : List Nat) (h1 : Ok W1 B1 x.r s1 F1) (hb1 : Below W1.heap.size W1 W) (h2 : Ok W2 B2 y.r s2 F2) (hb2 : Below W2.heap.size W2 W) => specEqual x y s1 s2 (· < W.heap.size) W (h1.rd_in hb1) (h2.rd_in hb2) (fun _ h => h) hw
      have hI := fun (W W1 W2 : World) (s1 s2 : Value) (B1 B2 : Nat) (F1 F2 : List Nat) (h1 : Ok W1 B1 x.r s1 F1) (hb1 : Below W1.heap.size W1 W) (h2 : Ok W2 B2 y.r s2 F2) (hb2 : Below W2.heap.size W2 W) => implEqual x y s1 s2 (· < W.heap.size) W (h1.rd_in hb1) (h2.rd_in hb2) (fun _ h => h) hw
      obtain ⟨eb, heb⟩ : ∃ eb, eb = eqB x y := ⟨_, rfl⟩
      rw [← heb] at hS hI
      clear hm0 hm1 hs hs' heb
      obtain ⟨k, t, n, l, r⟩ := x
      obtain ⟨k', t', n', l', r'⟩ := y
      have hbb : Below w.heap.size w w := Below.refl _ _
      have hzz := hbb.size
      show Calls Try.prog 7 #[.agg #[.int .i64 k, .string t, .int .i64 n, .int .i64 l, .slice A r.length cap], .agg #[.int .i64 k', .string t', .int .i64 n', .int .i64 l', .slice C r'.length cup]] w _
      have hv0 : Var ((w.alloc (.cells #[.int .i64 k, .string t, .int .i64 n, .int .i64 l, .slice A r.length cap] 27)).alloc (.cells #[.int .i64 k', .string t', .int .i64 n', .int .i64 l', .slice C r'.length cup] 27)) w.heap.size k t n l (.slice A r.length cap) := (Var.new _ _ _ _ _ _ _).alloc _
      have hq0 : Var ((w.alloc (.cells #[.int .i64 k, .string t, .int .i64 n, .int .i64 l, .slice A r.length cap] 27)).alloc (.cells #[.int .i64 k', .string t', .int .i64 n', .int .i64 l', .slice C r'.length cup] 27)) (w.heap.size + 1) k' t' n' l' (.slice C r'.length cup) := by
        have := Var.new (w.alloc (.cells #[.int .i64 k, .string t, .int .i64 n, .int .i64 l, .slice A r.length cap] 27)) k' t' n' l' (.slice C r'.length cup) 27
        simpa using this
      go_enter Try.func7, Try.ntmps7
      go_wp2_with (first
        | (go_at_call_of 17 k; refine (hZ _ (by repeat (first | exact hbb | refine Below.drew ?_ | refine Below.setCell ?_ (by (try simp); try omega) _ | refine Below.alloc ?_ (by (try simp); try omega) _))).mono ?_; rintro e w1 ⟨rfl, hb1⟩; have hbb := grow (w := w) (by repeat (first | exact hbb | refine Below.drew ?_ | refine Below.setCell ?_ (by (try simp); try omega) _ | refine Below.alloc ?_ (by (try simp); try omega) _)) hb1; have hzz := hbb.size; have hv := hv0.kept hb1; have hq := hq0.kept hb1; clear hv0 hq0; obtain ⟨a0, a1, a2, a3, a4⟩ := id hv; obtain ⟨q0, q1, q2, q3, q4⟩ := id hq)
        | (go_at_call_of 17 k'; refine (hZ' _ (by repeat (first | exact hbb | refine Below.drew ?_ | refine Below.setCell ?_ (by (try simp); try omega) _ | refine Below.alloc ?_ (by (try simp); try omega) _))).mono ?_; rintro e w2 ⟨rfl, hb2⟩; have hbb := grow (w := w) (by repeat (first | exact hbb | refine Below.drew ?_ | refine Below.setCell ?_ (by (try simp); try omega) _ | refine Below.alloc ?_ (by (try simp); try omega) _)) hb2; have hzz := hbb.size; have hv := hv.kept hb2; have hq := hq.kept hb2; obtain ⟨a0, a1, a2, a3, a4⟩ := id hv; obtain ⟨q0, q1, q2, q3, q4⟩ := id hq))
      go_cut [6] (fun z wx => z = .bool eb ∧ Var wx w.heap.size k t n l (.slice A r.length cap) ∧ Var wx (w.heap.size + 1) k' t' n' l' (.slice C r'.length cup) ∧ Below w.heap.size w wx)
      case first =>
        go_region_held3 (fun w' => w'.cell? ⟨w.heap.size, 0, none⟩ = some (.int .i64 k) ∧ w'.cell? ⟨w.heap.size, 1, none⟩ = some (.string t) ∧ w'.cell? ⟨w.heap.size, 2, none⟩ = some (.int .i64 n) ∧ w'.cell? ⟨w.heap.size, 3, none⟩ = some (.int .i64 l) ∧ w'.cell? ⟨w.heap.size, 4, none⟩ = some (.slice A r.length cap) ∧ w'.cell? ⟨w.heap.size + 1, 0, none⟩ = some (.int .i64 k') ∧ w'.cell? ⟨w.heap.size + 1, 1, none⟩ = some (.string t') ∧ w'.cell? ⟨w.heap.size + 1, 2, none⟩ = some (.int .i64 n') ∧ w'.cell? ⟨w.heap.size + 1, 3, none⟩ = some (.int .i64 l') ∧ w'.cell? ⟨w.heap.size + 1, 4, none⟩ = some (.slice C r'.length cup)) ((refine keep10 hv hq ?_; repeat (first | exact Below.refl _ _ | refine Below.drew ?_ | refine Below.alloc ?_ (by (try simp); try omega) _ | refine Below.trans ?_ (hb3.mono (by (try simp); try omega)) | refine Below.trans ?_ (hb4.mono (by (try simp); try omega)) | refine Below.trans ?_ (hb5.mono (by (try simp); try omega)))))
          (first
            | (go_at_call_of 19 k; refine (hT _ (hbb.trans (Below.mono (by repeat (first | exact Below.refl _ _ | refine Below.drew ?_ | refine Below.alloc ?_ (by (try simp); try omega) _ | refine Below.trans ?_ (hb3.mono (by (try simp); try omega)) | refine Below.trans ?_ (hb4.mono (by (try simp); try omega)) | refine Below.trans ?_ (hb5.mono (by (try simp); try omega)))) hzz))).mono ?_; rintro e w3 ⟨A3, cap3, F3, rfl, hk3, hnd3, hb3⟩; have hz3 := hb3.size; (try simp at hz3); unfold val)
            | (go_at_call_of 19 k'; refine (hT' _ (hbb.trans (Below.mono (by repeat (first | exact Below.refl _ _ | refine Below.drew ?_ | refine Below.alloc ?_ (by (try simp); try omega) _ | refine Below.trans ?_ (hb3.mono (by (try simp); try omega)) | refine Below.trans ?_ (hb4.mono (by (try simp); try omega)) | refine Below.trans ?_ (hb5.mono (by (try simp); try omega)))) hzz))).mono ?_; rintro e w4 ⟨A4, cap4, F4, rfl, hk4, hnd4, hb4⟩; have hz4 := hb4.size; (try simp at hz4); unfold val)
            | (go_at_call 27; refine (hS _ w3 w4 _ _ _ _ _ _ hk3 (by repeat (first | exact Below.refl _ _ | refine Below.drew ?_ | refine Below.alloc ?_ (by (try simp); try omega) _ | refine Below.trans ?_ (hb3.mono (by (try simp); try omega)) | refine Below.trans ?_ (hb4.mono (by (try simp); try omega)) | refine Below.trans ?_ (hb5.mono (by (try simp); try omega)))) hk4 (by repeat (first | exact Below.refl _ _ | refine Below.drew ?_ | refine Below.alloc ?_ (by (try simp); try omega) _ | refine Below.trans ?_ (hb3.mono (by (try simp); try omega)) | refine Below.trans ?_ (hb4.mono (by (try simp); try omega)) | refine Below.trans ?_ (hb5.mono (by (try simp); try omega))))).mono ?_; rintro e w5 ⟨rfl, hb5⟩; have hz5 := hb5.size; (try simp at hz5)))
        all_goals
          go_wp2_with fail
          go_meet
          exact ⟨rfl, hv.below (by repeat (first | exact Below.refl _ _ | refine Below.drew ?_ | refine Below.alloc ?_ (by (try simp); try omega) _ | refine Below.trans ?_ (hb3.mono (by (try simp); try omega)) | refine Below.trans ?_ (hb4.mono (by (try simp); try omega)) | refine Below.trans ?_ (hb5.mono (by (try simp); try omega)))) hv.lt, hq.below (by repeat (first | exact Below.refl _ _ | refine Below.drew ?_ | refine Below.alloc ?_ (by (try simp); try omega) _ | refine Below.trans ?_ (hb3.mono (by (try simp); try omega)) | refine Below.trans ?_ (hb4.mono (by (try simp); try omega)) | refine Below.trans ?_ (hb5.mono (by (try simp); try omega)))) hq.lt, hbb.trans (Below.mono (by repeat (first | exact Below.refl _ _ | refine Below.drew ?_ | refine Below.alloc ?_ (by (try simp); try omega) _ | refine Below.trans ?_ (hb3.mono (by (try simp); try omega)) | refine Below.trans ?_ (hb4.mono (by (try simp); try omega)) | refine Below.trans ?_ (hb5.mono (by (try simp); try omega)))) hzz)⟩
      case rest =>
        clear hv hq hbb hzz a0 a1 a2 a3 a4 q0 q1 q2 q3 q4 hb1 hb2
        obtain ⟨rfl, hv, hq, hbb⟩ := hcut
        have hzz := hbb.size
        obtain ⟨a0, a1, a2, a3, a4⟩ := id hv
        obtain ⟨q0, q1, q2, q3, q4⟩ := id hq
        go_wp2_with (first
          | (go_at_call_of 19 k; refine (hT _ (by repeat (first | exact hbb | refine Below.drew ?_ | refine Below.setCell ?_ (by (try simp); try omega) _ | refine Below.alloc ?_ (by (try simp); try omega) _))).mono ?_; rintro e w6 ⟨A6, cap6, F6, rfl, hk6, hnd6, hb6⟩; have hbb := grow (w := w) (by repeat (first | exact hbb | refine Below.drew ?_ | refine Below.setCell ?_ (by (try simp); try omega) _ | refine Below.alloc ?_ (by (try simp); try omega) _)) hb6; have hzz := hbb.size; have hv := hv.kept hb6; have hq := hq.kept hb6; obtain ⟨a0, a1, a2, a3, a4⟩ := id hv; obtain ⟨q0, q1, q2, q3, q4⟩ := id hq; have hvl := hv.lt; have hql := hq.lt; unfold val)
          | (go_at_call_of 19 k'; refine (hT' _ (by repeat (first | exact hbb | refine Below.drew ?_ | refine Below.setCell ?_ (by (try simp); try omega) _ | refine Below.alloc ?_ (by (try simp); try omega) _))).mono ?_; rintro e w7 ⟨A7, cup7, F7, rfl, hk7, hnd7, hb7⟩; have hbb := grow (w := w) (by repeat (first | exact hbb | refine Below.drew ?_ | refine Below.setCell ?_ (by (try simp); try omega) _ | refine Below.alloc ?_ (by (try simp); try omega) _)) hb7; have hzz := hbb.size; have hv := (hv.alloc _).kept hb7; have hq := (hq.alloc _).kept hb7; have hx := (Var.new w6 k t n l (.slice A6 r.length cap6) 32).kept hb7; have hb67 := grow (w := w6) (by repeat (first | exact Below.refl _ _ | refine Below.drew ?_ | refine Below.setCell ?_ (by (try simp); try omega) _ | refine Below.alloc ?_ (by (try simp); try omega) _)) hb7; obtain ⟨a0, a1, a2, a3, a4⟩ := id hv; obtain ⟨q0, q1, q2, q3, q4⟩ := id hq; obtain ⟨x0, x1, x2, x3, x4⟩ := id hx; have hvl := hv.lt; have hql := hq.lt; have hxl := hx.lt; unfold val)
          | (go_at_call 28; refine (hI _ w6 w7 _ _ _ _ _ _ hk6 (hb67.trans (Below.mono (by repeat (first | exact Below.refl _ _ | refine Below.drew ?_ | refine Below.setCell ?_ (by (try simp); try omega) _ | refine Below.alloc ?_ (by (try simp); try omega) _)) hb67.size)) hk7 (by repeat (first | exact Below.refl _ _ | refine Below.drew ?_ | refine Below.setCell ?_ (by (try simp); try omega) _ | refine Below.alloc ?_ (by (try simp); try omega) _))).mono ?_; rintro e w8 ⟨rfl, hb8⟩; have hbb := grow (w := w) (by repeat (first | exact hbb | refine Below.drew ?_ | refine Below.setCell ?_ (by (try simp); try omega) _ | refine Below.alloc ?_ (by (try simp); try omega) _)) hb8; have hzz := hbb.size; have hv := (hv.alloc _).kept hb8; have hq := (hq.alloc _).kept hb8; have hx := (hx.alloc _).kept hb8; have hy := (Var.new w7 k' t' n' l' (.slice A7 r'.length cup7) 32).kept hb8; have hb78 := grow (w := w7) (by repeat (first | exact Below.refl _ _ | refine Below.drew ?_ | refine Below.setCell ?_ (by (try simp); try omega) _ | refine Below.alloc ?_ (by (try simp); try omega) _)) hb8; have hb68 := hb67.trans (hb78.mono hb67.size); obtain ⟨a0, a1, a2, a3, a4⟩ := id hv; obtain ⟨q0, q1, q2, q3, q4⟩ := id hq; obtain ⟨x0, x1, x2, x3, x4⟩ := id hx; obtain ⟨y0, y1, y2, y3, y4⟩ := id hy))
        have hk6' := hk6.kept hb68
        have hk7' := hk7.kept hb78
        go_cut [39] (fun z wx => z = .bool false ∧ Below w8.heap.size w8 wx)
        case first =>
          go_region_held3 (fun w' => w'.cell? ⟨w6.heap.size, 0, none⟩ = some (.int .i64 k) ∧ w'.cell? ⟨w6.heap.size, 1, none⟩ = some (.string t) ∧ w'.cell? ⟨w6.heap.size, 2, none⟩ = some (.int .i64 n) ∧ w'.cell? ⟨w6.heap.size, 3, none⟩ = some (.int .i64 l) ∧ w'.cell? ⟨w6.heap.size, 4, none⟩ = some (.slice A6 r.length cap6) ∧ w'.cell? ⟨w.heap.size, 0, none⟩ = some (.int .i64 k) ∧ w'.cell? ⟨w.heap.size, 1, none⟩ = some (.string t) ∧ w'.cell? ⟨w.heap.size, 2, none⟩ = some (.int .i64 n) ∧ w'.cell? ⟨w.heap.size, 3, none⟩ = some (.int .i64 l) ∧ w'.cell? ⟨w.heap.size, 4, none⟩ = some (.slice A r.length cap)) ((refine keep10 hx hv ?_; repeat (first | exact Below.refl _ _ | refine Below.drew ?_ | refine Below.alloc ?_ (by (try simp); try omega) _ | refine Below.trans ?_ (hb3.mono (by (try simp); try omega)) | refine Below.trans ?_ (hb4.mono (by (try simp); try omega)) | refine Below.trans ?_ (hb5.mono (by (try simp); try omega)))))
          (first | (go_at_call 19; refine (hT _ (hbb.trans (Below.mono (by repeat (first | exact Below.refl _ _ | refine Below.drew ?_ | refine Below.alloc ?_ (by (try simp); try omega) _ | refine Below.trans ?_ (hb3.mono (by (try simp); try omega)) | refine Below.trans ?_ (hb4.mono (by (try simp); try omega)) | refine Below.trans ?_ (hb5.mono (by (try simp); try omega)))) hzz))).mono ?_; rintro e w3 ⟨A3, cap3, F3, rfl, hk3, hnd3, hb3⟩; have hz3 := hb3.size; (try simp at hz3); unfold val) | (go_at_call 21; refine (hE _ w8 w3 _ _ _ _ _ _ hk6' (by repeat (first | exact Below.refl _ _ | refine Below.drew ?_ | refine Below.alloc ?_ (by (try simp); try omega) _ | refine Below.trans ?_ (hb3.mono (by (try simp); try omega)) | refine Below.trans ?_ (hb4.mono (by (try simp); try omega)) | refine Below.trans ?_ (hb5.mono (by (try simp); try omega)))) hk3 (by repeat (first | exact Below.refl _ _ | refine Below.drew ?_ | refine Below.setCell ?_ (by (try simp); try omega) _ | refine Below.alloc ?_ (by (try simp); try omega) _))).mono ?_; rintro e w4 ⟨rfl, hb4⟩; have hz4 := hb4.size; (try simp at hz4)))
          all_goals
            go_wp2_with fail
            go_meet
            exact ⟨rfl, by repeat (first | exact Below.refl _ _ | refine Below.drew ?_ | refine Below.alloc ?_ (by (try simp); try omega) _ | refine Below.trans ?_ (hb3.mono (by (try simp); try omega)) | refine Below.trans ?_ (hb4.mono (by (try simp); try omega)) | refine Below.trans ?_ (hb5.mono (by (try simp); try omega)))⟩
        case rest =>
          obtain ⟨rfl, hb9⟩ := hcut
          have hbb := hbb.trans (hb9.mono hzz)
          have hzz := hbb.size
          have hq := hq.kept hb9
          have hy := hy.kept hb9
          have hk7'' := hk7'.kept hb9
          obtain ⟨q0, q1, q2, q3, q4⟩ := id hq
          obtain ⟨y0, y1, y2, y3, y4⟩ := id hy
          go_wp2_with fail
          go_region_held3 (fun w' => w'.cell? ⟨w7.heap.size, 0, none⟩ = some (.int .i64 k') ∧ w'.cell? ⟨w7.heap.size, 1, none⟩ = some (.string t') ∧ w'.cell? ⟨w7.heap.size, 2, none⟩ = some (.int .i64 n') ∧ w'.cell? ⟨w7.heap.size, 3, none⟩ = some (.int .i64 l') ∧ w'.cell? ⟨w7.heap.size, 4, none⟩ = some (.slice A7 r'.length cup7) ∧ w'.cell? ⟨w.heap.size + 1, 0, none⟩ = some (.int .i64 k') ∧ w'.cell? ⟨w.heap.size + 1, 1, none⟩ = some (.string t') ∧ w'.cell? ⟨w.heap.size + 1, 2, none⟩ = some (.int .i64 n') ∧ w'.cell? ⟨w.heap.size + 1, 3, none⟩ = some (.int .i64 l') ∧ w'.cell? ⟨w.heap.size + 1, 4, none⟩ = some (.slice C r'.length cup)) ((refine keep10 hy hq ?_; repeat (first | exact Below.refl _ _ | refine Below.drew ?_ | refine Below.alloc ?_ (by (try simp); try omega) _ | refine Below.trans ?_ (hb3.mono (by (try simp); try omega)) | refine Below.trans ?_ (hb4.mono (by (try simp); try omega)) | refine Below.trans ?_ (hb5.mono (by (try simp); try omega)))))
          (first | (go_at_call 19; refine (hT' _ (hbb.trans (Below.mono (by repeat (first | exact Below.refl _ _ | refine Below.drew ?_ | refine Below.alloc ?_ (by (try simp); try omega) _ | refine Below.trans ?_ (hb3.mono (by (try simp); try omega)) | refine Below.trans ?_ (hb4.mono (by (try simp); try omega)) | refine Below.trans ?_ (hb5.mono (by (try simp); try omega)))) hzz))).mono ?_; rintro e w3 ⟨A3, cap3, F3, rfl, hk3, hnd3, hb3⟩; have hz3 := hb3.size; (try simp at hz3); unfold val) | (go_at_call 21; refine (hE' _ wc w3 _ _ _ _ _ _ hk7'' (by repeat (first | exact Below.refl _ _ | refine Below.drew ?_ | refine Below.alloc ?_ (by (try simp); try omega) _ | refine Below.trans ?_ (hb3.mono (by (try simp); try omega)) | refine Below.trans ?_ (hb4.mono (by (try simp); try omega)) | refine Below.trans ?_ (hb5.mono (by (try simp); try omega)))) hk3 (by repeat (first | exact Below.refl _ _ | refine Below.drew ?_ | refine Below.setCell ?_ (by (try simp); try omega) _ | refine Below.alloc ?_ (by (try simp); try omega) _))).mono ?_; rintro e w4 ⟨rfl, hb4⟩; have hz4 := hb4.size; (try simp at hz4)))
          all_goals
            go_wp2_with fail
            go_ret
            exact ⟨rfl, hbb.trans (Below.mono (by repeat (first | exact Below.refl _ _ | refine Below.drew ?_ | refine Below.alloc ?_ (by (try simp); try omega) _ | refine Below.trans ?_ (hb3.mono (by (try simp); try omega)) | refine Below.trans ?_ (hb4.mono (by (try simp); try omega)) | refine Below.trans ?_ (hb5.mono (by (try simp); try omega)))) hzz)⟩
    · have hZ' := sz_not hr' hw' hm0' hs'
      clear hm0 hs
      obtain ⟨k, t, n, l, r⟩ := x
      obtain ⟨k', t', n', l', r'⟩ := y
      have hbb : Below w.heap.size w w := Below.refl _ _
      have hzz := hbb.size
      show Calls Try.prog 7 #[.agg #[.int .i64 k, .string t, .int .i64 n, .int .i64 l, .slice A r.length cap], .agg #[.int .i64 k', .string t', .int .i64 n', .int .i64 l', .slice C r'.length cup]] w _
      have hq0 : Var ((w.alloc (.cells #[.int .i64 k, .string t, .int .i64 n, .int .i64 l, .slice A r.length cap] 27)).alloc (.cells #[.int .i64 k', .string t', .int .i64 n', .int .i64 l', .slice C r'.length cup] 27)) (w.heap.size + 1) k' t' n' l' (.slice C r'.length cup) := by
        have := Var.new (w.alloc (.cells #[.int .i64 k, .string t, .int .i64 n, .int .i64 l, .slice A r.length cap] 27)) k' t' n' l' (.slice C r'.length cup) 27
        simpa using this
      go_enter Try.func7, Try.ntmps7
      go_wp2_with (first
        | (go_at_call_of 17 k; refine (hZ _ (by repeat (first | exact hbb | refine Below.drew ?_ | refine Below.setCell ?_ (by (try simp); try omega) _ | refine Below.alloc ?_ (by (try simp); try omega) _))).mono ?_; rintro e w1 ⟨rfl, hb1⟩; have hbb := grow (w := w) (by repeat (first | exact hbb | refine Below.drew ?_ | refine Below.setCell ?_ (by (try simp); try omega) _ | refine Below.alloc ?_ (by (try simp); try omega) _)) hb1; have hzz := hbb.size; have hq := hq0.kept hb1; clear hq0; obtain ⟨q0, q1, q2, q3, q4⟩ := id hq)
        | (go_at_call_of 17 k'; refine (hZ' _ (by repeat (first | exact hbb | refine Below.drew ?_ | refine Below.setCell ?_ (by (try simp); try omega) _ | refine Below.alloc ?_ (by (try simp); try omega) _))).mono ?_; rintro e w2 ⟨rfl, hb2⟩; have hbb := grow (w := w) (by repeat (first | exact hbb | refine Below.drew ?_ | refine Below.setCell ?_ (by (try simp); try omega) _ | refine Below.alloc ?_ (by (try simp); try omega) _)) hb2; have hzz := hbb.size))
      go_ret
      exact ⟨rfl, hbb⟩
  · have hZ := sz_not hr hw (Nat.le_refl _) hs
    obtain ⟨k, t, n, l, r⟩ := x
    obtain ⟨k', t', n', l', r'⟩ := y
    show Calls Try.prog 7 #[.agg #[.int .i64 k, .string t, .int .i64 n, .int .i64 l, .slice A r.length cap], .agg #[.int .i64 k', .string t', .int .i64 n', .int .i64 l', .slice C r'.length cup]] w _
    go_enter Try.func7, Try.ntmps7
    go_wp2_with (go_at_call 17; refine (hZ _ (by repeat (first | exact Below.refl _ _ | refine Below.drew ?_ | refine Below.setCell ?_ (by (try simp); try omega) _ | refine Below.alloc ?_ (by (try simp); try omega) _))).mono ?_; rintro e w1 ⟨rfl, hb1⟩)
    go_ret
    exact ⟨rfl, grow (w := w) (by repeat (first | exact Below.refl _ _ | refine Below.drew ?_ | refine Below.setCell ?_ (by (try simp); try omega) _ | refine Below.alloc ?_ (by (try simp); try omega) _)) hb1⟩

end Go.Proofs.Ytnmieocbpdoicaa.lEqualExpr
