/- Proved here: the walk of the law FnExactPrintUnit: the call returns true and leaves all older memory as it was. Condition: the arguments are of their types; the listed tables lie as listed. -/
import Derived.Test.YtljblaglfooclaaGreatDoorUi
import Derived.Test.YtljblaglfooclaaGreatDoorUj
import Derived.Test.YtljblaglfooclaaGreatDoorUy
import Derived.Test.YtljblaglfooclaaGreatDoorUo
import Derived.Test.YtljblaglfooclaaGreatDoorCe
namespace Go.Proofs.YtljblaglfooclaaGreatDoor.lPrintUnit
open Go.RowKit

set_option maxRecDepth 20000 in
set_option maxHeartbeats 4000000 in
theorem walk (w : World) (hL : laidMetH Tryz.prog Rows.fnExactPrintUnitRow.laid w) (u : Un) (s1 s2 s3 : Value) (hw : u.Wf) (hr : Urd X.Kd w (· < w.heap.size) u s1 s2 s3) : Calls Tryz.prog 3 #[.agg #[s1, s2, s3]] w fun e w' => e = .returned (.bool true) ∧ Below w.heap.size w w' := by
  obtain ⟨A1, c1, rfl⟩ := hr.1.form
  obtain ⟨A2, c2, rfl⟩ := hr.2.1.form
  obtain ⟨A3, c3, rfl⟩ := hr.2.2.form
  have hZ := fun (W : World) (hW : Below w.heap.size w W) => szUn u _ _ _ (· < w.heap.size) W 1048576 (hr.below hW fun _ h => h) (fun _ h => Nat.lt_of_lt_of_le h hW.size) hw (by omega)
  by_cases hs : u.siz ≤ 1048576
  · have hT := fun (W : World) (hW : Below w.heap.size w W) => toUn u _ _ _ (· < w.heap.size) W (hr.below hW fun _ h => h) (fun _ h => Nat.lt_of_lt_of_le h hW.size) (by omega)
    have hTab := tabC1 hL
    have hTab2 := tabC2 hL
    clear hL
    have hS := fun (W : World) (B : Nat) (D1 : Option Addr) (d1 : Nat) (D2 : Option Addr) (d2 : Nat) (D3 : Option Addr) (d3 : Nat) (F : List Nat) (h : OUn 42 48 W B u (.slice D1 u.r.length d1) (.slice D2 u.g.length d2) (.slice D3 u.p.length d3) F) =>
      specPrintUnit u _ _ _ (· < W.heap.size) W (h.read fun b hb => (h.lt b hb).2) (fun _ h => h) hw hs
    have hI := fun (W : World) (B : Nat) (D1 : Option Addr) (d1 : Nat) (D2 : Option Addr) (d2 : Nat) (D3 : Option Addr) (d3 : Nat) (F : List Nat) (h : OUn 42 48 W B u (.slice D1 u.r.length d1) (.slice D2 u.g.length d2) (.slice D3 u.p.length d3) F) (hb : Below w.heap.size w W) =>
      implPrintUnit u _ _ _ (· < W.heap.size) W (h.read fun b hb => (h.lt b hb).2) (fun _ h => h) (tab_kept hTab hb) (tab_kept hTab2 hb) hw hs
    have hE := fun (W : World) (B : Nat) (D1 : Option Addr) (d1 : Nat) (D2 : Option Addr) (d2 : Nat) (D3 : Option Addr) (d3 : Nat) (F : List Nat) (h : OUn 42 48 W B u (.slice D1 u.r.length d1) (.slice D2 u.g.length d2) (.slice D3 u.p.length d3) F)
        (B' : Nat) (E1 : Option Addr) (e1 : Nat) (E2 : Option Addr) (e2 : Nat) (E3 : Option Addr) (e3 : Nat) (G : List Nat) (h' : OUn 42 48 W B' u (.slice E1 u.r.length e1) (.slice E2 u.g.length e2) (.slice E3 u.p.length e3) G) =>
      eqUn u _ _ _ _ _ _ (· < W.heap.size) W (h.read fun b hb => (h.lt b hb).2).kd (h'.read fun b hb => (h'.lt b hb).2).kd (fun _ h => h) hw
    obtain ⟨m0, hm0⟩ : ∃ m0, m0 = 1048576 - u.siz := ⟨_, rfl⟩
    obtain ⟨q0, hq0⟩ : ∃ q0, q0 = (prOutU u).1 := ⟨_, rfl⟩
    obtain ⟨q1, hq1⟩ : ∃ q1, q1 = (prOutU u).2 := ⟨_, rfl⟩
    rw [X.leftOf_yes hs, ← hm0] at hZ
    rw [← hq0, ← hq1] at hS hI
    have b0 : decide ((m0 : Int) < 0) = false := by simp
    clear hm0 hq0 hq1 hs hTab hTab2 hw hr
    obtain ⟨r, g, p⟩ := u
    have hbb : Below w.heap.size w w := Below.refl _ _
    have hzz := hbb.size
    show Calls Tryz.prog 3 #[.agg #[.slice A1 r.length c1, .slice A2 g.length c2, .slice A3 p.length c3]] w _
    go_enter Tryz.func3, Tryz.ntmps3
    go_wp2_with (first
      | (go_at_call 4; refine (hZ _ (by repeat (first | exact hbb | refine Below.drew ?_ | refine Below.setCell ?_ (by (try simp); try omega) _ | refine Below.alloc ?_ (by (try simp); try omega) _))).mono ?_; rintro e w1 ⟨rfl, hb1⟩; have hbb := X.grow (w := w) (by repeat (first | exact hbb | refine Below.drew ?_ | refine Below.setCell ?_ (by (try simp); try omega) _ | refine Below.alloc ?_ (by (try simp); try omega) _)) hb1; have hzz := hbb.size; have hv : Blk w1 w.heap.size 26 #[.slice A1 r.length c1, .slice A2 g.length c2, .slice A3 p.length c3] := (Blk.new _ _ _).kept hb1; obtain ⟨a0, a1, a2⟩ := Blk.c3 hv)
      | (go_at_call 6; refine (hT _ (by repeat (first | exact hbb | refine Below.drew ?_ | refine Below.setCell ?_ (by (try simp); try omega) _ | refine Below.alloc ?_ (by (try simp); try omega) _))).mono ?_; rintro e w1 ⟨D1, d1, D2, d2, D3, d3, F1, rfl, hk, hnd, hb1⟩; have hbb := X.grow (w := w) (by repeat (first | exact hbb | refine Below.drew ?_ | refine Below.setCell ?_ (by (try simp); try omega) _ | refine Below.alloc ?_ (by (try simp); try omega) _)) hb1; have hzz := hbb.size; have hv := hv.kept hb1; obtain ⟨a0, a1, a2⟩ := Blk.c3 hv)
      | (go_at_call 5; refine (hS _ _ _ _ _ _ _ _ _ hk).mono ?_; rintro e w1 ⟨rfl, hb1⟩; have hbb := X.grow (w := w) (by repeat (first | exact hbb | refine Below.drew ?_ | refine Below.setCell ?_ (by (try simp); try omega) _ | refine Below.alloc ?_ (by (try simp); try omega) _)) hb1; have hzz := hbb.size; have hv := hv.kept hb1; obtain ⟨a0, a1, a2⟩ := Blk.c3 hv)
      | (go_at_call 7; refine (hI _ _ _ _ _ _ _ _ _ (hk.kept (by repeat (first | exact Below.refl _ _ | refine Below.drew ?_ | refine Below.setCell ?_ (by (try simp); try omega) _ | refine Below.alloc ?_ (by (try simp); try omega) _))) (by repeat (first | exact hbb | refine Below.drew ?_ | refine Below.setCell ?_ (by (try simp); try omega) _ | refine Below.alloc ?_ (by (try simp); try omega) _))).mono ?_; rintro e w2 ⟨rfl, hb2⟩; have hx : Blk w2 w1.heap.size 33 #[.slice D1 r.length d1, .slice D2 g.length d2, .slice D3 p.length d3] := (Blk.new _ _ _).kept hb2; have hkk := hk.kept (X.grow (w := w1) (by repeat (first | exact Below.refl _ _ | refine Below.drew ?_ | refine Below.setCell ?_ (by (try simp); try omega) _ | refine Below.alloc ?_ (by (try simp); try omega) _)) hb2); have hbb := X.grow (w := w) (by repeat (first | exact hbb | refine Below.drew ?_ | refine Below.setCell ?_ (by (try simp); try omega) _ | refine Below.alloc ?_ (by (try simp); try omega) _)) hb2; have hzz := hbb.size; have hv := (hv.alloc _).kept hb2; obtain ⟨a0, a1, a2⟩ := Blk.c3 hv))
    obtain ⟨x0, x1, x2⟩ := Blk.c3 hx
    go_region_held3 (fun w' => w'.cell? ⟨w.heap.size, 0, none⟩ = some (.slice A1 r.length c1) ∧ w'.cell? ⟨w.heap.size, 1, none⟩ = some (.slice A2 g.length c2) ∧ w'.cell? ⟨w.heap.size, 2, none⟩ = some (.slice A3 p.length c3) ∧ w'.cell? ⟨w1.heap.size, 0, none⟩ = some (.slice D1 r.length d1) ∧ w'.cell? ⟨w1.heap.size, 1, none⟩ = some (.slice D2 g.length d2) ∧ w'.cell? ⟨w1.heap.size, 2, none⟩ = some (.slice D3 p.length d3)) ((refine keepU hv hx ?_; repeat (first | exact Below.refl _ _ | refine Below.drew ?_ | refine Below.alloc ?_ (by (try simp); try omega) _ | refine Below.trans ?_ (hb3.mono (by (try simp); try omega)) | refine Below.trans ?_ (hb4.mono (by (try simp); try omega)) | refine Below.trans ?_ (hb5.mono (by (try simp); try omega)))))
      (first | (go_at_call 6; refine (hT _ (hbb.trans (Below.mono (by repeat (first | exact Below.refl _ _ | refine Below.drew ?_ | refine Below.alloc ?_ (by (try simp); try omega) _ | refine Below.trans ?_ (hb3.mono (by (try simp); try omega)) | refine Below.trans ?_ (hb4.mono (by (try simp); try omega)) | refine Below.trans ?_ (hb5.mono (by (try simp); try omega)))) hzz))).mono ?_; rintro e w3 ⟨E1, e1, E2, e2, E3, e3, F3, rfl, hk3, hnd3, hb3⟩; have hz3 := hb3.size; (try simp at hz3)) | (go_at_call 8; refine (hE _ _ _ _ _ _ _ _ _ (hkk.kept (by repeat (first | exact Below.refl _ _ | refine Below.drew ?_ | refine Below.alloc ?_ (by (try simp); try omega) _ | refine Below.trans ?_ (hb3.mono (by (try simp); try omega)) | refine Below.trans ?_ (hb4.mono (by (try simp); try omega)) | refine Below.trans ?_ (hb5.mono (by (try simp); try omega))))) _ _ _ _ _ _ _ _ (hk3.kept (by repeat (first | exact Below.refl _ _ | refine Below.drew ?_ | refine Below.setCell ?_ (by (try simp); try omega) _ | refine Below.alloc ?_ (by (try simp); try omega) _)))).mono ?_; rintro e w4 ⟨rfl, hb4⟩))
    all_goals
      go_wp2_with fail
      go_ret
      exact ⟨rfl, hbb.trans (Below.mono (by repeat (first | exact Below.refl _ _ | refine Below.drew ?_ | refine Below.alloc ?_ (by (try simp); try omega) _ | refine Below.trans ?_ (hb3.mono (by (try simp); try omega)) | refine Below.trans ?_ (hb4.mono (by (try simp); try omega)) | refine Below.trans ?_ (hb5.mono (by (try simp); try omega)))) hzz)⟩
  · rw [X.leftOf_no hs] at hZ
    clear hL hs hw hr
    obtain ⟨r, g, p⟩ := u
    show Calls Tryz.prog 3 #[.agg #[.slice A1 r.length c1, .slice A2 g.length c2, .slice A3 p.length c3]] w _
    go_enter Tryz.func3, Tryz.ntmps3
    go_wp2_with (go_at_call 4; refine (hZ _ (by repeat (first | exact Below.refl _ _ | refine Below.drew ?_ | refine Below.setCell ?_ (by (try simp); try omega) _ | refine Below.alloc ?_ (by (try simp); try omega) _))).mono ?_; rintro e w1 ⟨rfl, hb1⟩)
    go_ret
    exact ⟨rfl, X.grow (w := w) (by repeat (first | exact Below.refl _ _ | refine Below.drew ?_ | refine Below.setCell ?_ (by (try simp); try omega) _ | refine Below.alloc ?_ (by (try simp); try omega) _)) hb1⟩

end Go.Proofs.YtljblaglfooclaaGreatDoor.lPrintUnit
