/- Proved here: the walk of the law FnExactPrintExpression: the call returns true and leaves all older memory as it was. Condition: the arguments are of their types; the listed tables lie as listed. -/
import Derived.Test.YtanmkeoieckebaaDoorPp
import Derived.Test.YtanmkeoieckebaaDoorXw
import Derived.Test.YtanmkeoieckebaaDoorCe
namespace Go.Proofs.YtanmkeoieckebaaDoor.lPrintExpression
open Go.RowKit

open X
set_option maxRecDepth 20000 in
set_option maxHeartbeats 4000000 in
theorem walk (w : World) (hL : laidMetH Tryd.prog Rows.fnExactPrintExpressionRow.laid w) (x : X) (s : Value) (hw : Wf x) (hr : Rd w (· < w.heap.size) x s) : Calls Tryd.prog 8 #[val x s] w fun e w' => e = .returned (.bool true) ∧ Below w.heap.size w w' := by
  obtain ⟨A, cap, rfl⟩ := hr.kids.form
  by_cases hs : siz x ≤ 1048576
  · have hT := toX_at hr hs
    have hZ := sz_yes hr hw (Nat.le_refl _) hs
    have hTab := tabC1 hL
    have hTab2 := tabC2 hL
    clear hL
    have hS := fun W s' B F (h : Ok W B x.r s' F) => specPrintE x s' (· < W.heap.size) W ((h.kc (Q := (· < W.heap.size)) fun b hf => (h.lt b hf).2)) (h.rd_at (Below.refl _ _)) (fun _ h => h) hw hs
    have hI := fun W W' s' B F (h : Ok W B x.r s' F) (hb : Below W.heap.size W W') (hb2 : Below w.heap.size w W') => implPrintE x s' (· < W.heap.size) W' ((h.kc (Q := (· < W.heap.size)) fun b hf => (h.lt b hf).2).below hb fun _ h => h) (h.rd_at hb) (fun _ h => Nat.lt_of_lt_of_le h hb.size) (tab_kept hTab hb2) (tab_kept hTab2 hb2) hw hs
    obtain ⟨m0, hm0⟩ : ∃ m0, m0 = 1048576 - siz x := ⟨_, rfl⟩
    obtain ⟨c0, hc0⟩ : ∃ c0, c0 = (prOut x).1 := ⟨_, rfl⟩
    obtain ⟨c1, hc1⟩ : ∃ c1, c1 = (prOut x).2 := ⟨_, rfl⟩
    rw [← hm0] at hZ
    rw [← hc0, ← hc1] at hS hI
    have b0 : decide ((m0 : Int) < 0) = false := by simp
    have hE := eq_copy hw
    clear hm0 hc0 hc1 hs hTab hTab2
    obtain ⟨k, t, n, l, r⟩ := x
    have hbb : Below w.heap.size w w := Below.refl _ _
    have hzz := hbb.size
    show Calls Tryd.prog 8 #[.agg #[.int .i64 k, .string t, .int .i64 n, .int .i64 l, .slice A r.length cap]] w _
    go_enter Tryd.func8, Tryd.ntmps8
    go_wp2_with (first
      | (go_at_call 9; refine (hZ _ (by repeat (first | exact hbb | refine Below.drew ?_ | refine Below.setCell ?_ (by (try simp); try omega) _ | refine Below.alloc ?_ (by (try simp); try omega) _))).mono ?_; rintro e w1 ⟨rfl, hb1⟩; have hbb := grow (w := w) (by repeat (first | exact hbb | refine Below.drew ?_ | refine Below.setCell ?_ (by (try simp); try omega) _ | refine Below.alloc ?_ (by (try simp); try omega) _)) hb1; have hzz := hbb.size; have hv := Var.kept (Var.new w k t n l (.slice A r.length cap) 24) hb1; obtain ⟨a0, a1, a2, a3, a4⟩ := id hv)
      | (go_at_call 11; refine (hT _ (by repeat (first | exact hbb | refine Below.drew ?_ | refine Below.setCell ?_ (by (try simp); try omega) _ | refine Below.alloc ?_ (by (try simp); try omega) _))).mono ?_; rintro e w1 ⟨A1, cap1, F1, rfl, hk, hnd, hb1⟩; have hbb := grow (w := w) (by repeat (first | exact hbb | refine Below.drew ?_ | refine Below.setCell ?_ (by (try simp); try omega) _ | refine Below.alloc ?_ (by (try simp); try omega) _)) hb1; have hzz := hbb.size; have hv := Var.kept (g := w.heap.size) (k := k) (t := t) (n := n) (l := l) (s := .slice A r.length cap) (by repeat (first | exact hv | exact X.Var.new _ _ _ _ _ _ _ | refine X.Var.drew ?_ | refine X.Var.alloc ?_ _)) hb1; obtain ⟨a0, a1, a2, a3, a4⟩ := id hv; unfold val)
      | (go_at_call 33; refine (hS _ _ _ _ hk).mono ?_; rintro e w1 ⟨rfl, hb1⟩; have hbb := grow (w := w) (by repeat (first | exact hbb | refine Below.drew ?_ | refine Below.setCell ?_ (by (try simp); try omega) _ | refine Below.alloc ?_ (by (try simp); try omega) _)) hb1; have hzz := hbb.size; have hv := Var.kept (g := w.heap.size) (k := k) (t := t) (n := n) (l := l) (s := .slice A r.length cap) (by repeat (first | exact hv | exact X.Var.new _ _ _ _ _ _ _ | refine X.Var.drew ?_ | refine X.Var.alloc ?_ _)) hb1; obtain ⟨a0, a1, a2, a3, a4⟩ := id hv)
      | (go_at_call 34; refine (hI _ _ _ _ _ hk (by repeat (first | exact Below.refl _ _ | refine Below.drew ?_ | refine Below.setCell ?_ (by (try simp); try omega) _ | refine Below.alloc ?_ (by (try simp); try omega) _)) (by repeat (first | exact hbb | refine Below.drew ?_ | refine Below.setCell ?_ (by (try simp); try omega) _ | refine Below.alloc ?_ (by (try simp); try omega) _))).mono ?_; rintro e w2 ⟨rfl, hb2⟩; have hx := Var.kept (Var.new w1 k t n l (.slice A1 r.length cap1) 29) hb2; have hkk := hk.kept (grow (w := w1) (by repeat (first | exact Below.refl _ _ | refine Below.drew ?_ | refine Below.setCell ?_ (by (try simp); try omega) _ | refine Below.alloc ?_ (by (try simp); try omega) _)) hb2); have hbb := grow (w := w) (by repeat (first | exact hbb | refine Below.drew ?_ | refine Below.setCell ?_ (by (try simp); try omega) _ | refine Below.alloc ?_ (by (try simp); try omega) _)) hb2; have hzz := hbb.size; have hv := Var.kept (g := w.heap.size) (k := k) (t := t) (n := n) (l := l) (s := .slice A r.length cap) (by repeat (first | exact hv | exact X.Var.new _ _ _ _ _ _ _ | refine X.Var.drew ?_ | refine X.Var.alloc ?_ _)) hb2; obtain ⟨a0, a1, a2, a3, a4⟩ := id hv))
    obtain ⟨x0, x1, x2, x3, x4⟩ := id hx
    go_region_held3 (fun w' => w'.cell? ⟨w.heap.size, 0, none⟩ = some (.int .i64 k) ∧ w'.cell? ⟨w.heap.size, 1, none⟩ = some (.string t) ∧ w'.cell? ⟨w.heap.size, 2, none⟩ = some (.int .i64 n) ∧ w'.cell? ⟨w.heap.size, 3, none⟩ = some (.int .i64 l) ∧ w'.cell? ⟨w.heap.size, 4, none⟩ = some (.slice A r.length cap) ∧ w'.cell? ⟨w1.heap.size, 0, none⟩ = some (.int .i64 k) ∧ w'.cell? ⟨w1.heap.size, 1, none⟩ = some (.string t) ∧ w'.cell? ⟨w1.heap.size, 2, none⟩ = some (.int .i64 n) ∧ w'.cell? ⟨w1.heap.size, 3, none⟩ = some (.int .i64 l) ∧ w'.cell? ⟨w1.heap.size, 4, none⟩ = some (.slice A1 r.length cap1)) ((refine keep10 hv hx ?_; repeat (first | exact Below.refl _ _ | refine Below.drew ?_ | refine Below.alloc ?_ (by (try simp); try omega) _ | refine Below.trans ?_ (hb3.mono (by (try simp); try omega)) | refine Below.trans ?_ (hb4.mono (by (try simp); try omega)) | refine Below.trans ?_ (hb5.mono (by (try simp); try omega)))))
      (first | (go_at_call 11; refine (hT _ (hbb.trans (Below.mono (by repeat (first | exact Below.refl _ _ | refine Below.drew ?_ | refine Below.alloc ?_ (by (try simp); try omega) _ | refine Below.trans ?_ (hb3.mono (by (try simp); try omega)) | refine Below.trans ?_ (hb4.mono (by (try simp); try omega)) | refine Below.trans ?_ (hb5.mono (by (try simp); try omega)))) hzz))).mono ?_; rintro e w3 ⟨A3, cap3, F3, rfl, hk3, hnd3, hb3⟩; have hz3 := hb3.size; (try simp at hz3); unfold val) | (go_at_call 13; refine (hE _ w2 w3 _ _ _ _ _ _ hkk (by repeat (first | exact Below.refl _ _ | refine Below.drew ?_ | refine Below.alloc ?_ (by (try simp); try omega) _ | refine Below.trans ?_ (hb3.mono (by (try simp); try omega)) | refine Below.trans ?_ (hb4.mono (by (try simp); try omega)) | refine Below.trans ?_ (hb5.mono (by (try simp); try omega)))) hk3 (by repeat (first | exact Below.refl _ _ | refine Below.drew ?_ | refine Below.setCell ?_ (by (try simp); try omega) _ | refine Below.alloc ?_ (by (try simp); try omega) _))).mono ?_; rintro e w4 ⟨rfl, hb4⟩))
    all_goals
      go_wp2_with fail
      go_ret
      exact ⟨rfl, hbb.trans (Below.mono (by repeat (first | exact Below.refl _ _ | refine Below.drew ?_ | refine Below.alloc ?_ (by (try simp); try omega) _ | refine Below.trans ?_ (hb3.mono (by (try simp); try omega)) | refine Below.trans ?_ (hb4.mono (by (try simp); try omega)) | refine Below.trans ?_ (hb5.mono (by (try simp); try omega)))) hzz)⟩
  · have hZ := sz_not hr hw (Nat.le_refl _) hs
    clear hL
    obtain ⟨k, t, n, l, r⟩ := x
    show Calls Tryd.prog 8 #[.agg #[.int .i64 k, .string t, .int .i64 n, .int .i64 l, .slice A r.length cap]] w _
    go_enter Tryd.func8, Tryd.ntmps8
    go_wp2_with (go_at_call 9; refine (hZ _ (by repeat (first | exact Below.refl _ _ | refine Below.drew ?_ | refine Below.setCell ?_ (by (try simp); try omega) _ | refine Below.alloc ?_ (by (try simp); try omega) _))).mono ?_; rintro e w1 ⟨rfl, hb1⟩)
    go_ret
    exact ⟨rfl, grow (w := w) (by repeat (first | exact Below.refl _ _ | refine Below.drew ?_ | refine Below.setCell ?_ (by (try simp); try omega) _ | refine Below.alloc ?_ (by (try simp); try omega) _)) hb1⟩

end Go.Proofs.YtanmkeoieckebaaDoor.lPrintExpression
