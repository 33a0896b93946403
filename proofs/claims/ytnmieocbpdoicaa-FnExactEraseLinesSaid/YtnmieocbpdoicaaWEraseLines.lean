/- Proved here: the walk of the law FnExactEraseLines: the call returns true and leaves all older memory as it was. Condition: the arguments are of their types. -/
import Derived.Test.YtnmieocbpdoicaaXw
import Derived.Test.YtnmieocbpdoicaaEr
import Derived.Test.YtnmieocbpdoicaaHx
namespace Go.Proofs.Ytnmieocbpdoicaa.lEraseLines
open Go.RowKit

open X
theorem implErase_at {x : X} (hs : siz x ≤ 1048576) (W W1 : World) (B : Nat) (s : Value) (F : List Nat) (h : Ok W1 B x.r s F) (hb : Below W1.heap.size W1 W) :
    Calls Try.prog 56 #[val x s] W fun e w' => ∃ A cap F, e = .returned (val (er x) (.slice A x.r.length cap)) ∧ Ok w' W.heap.size (erL x.r) (.slice A x.r.length cap) F ∧ F.Nodup ∧ Below W.heap.size W w' :=
  implErase x s (· < W.heap.size) W (h.rd_in hb) (fun _ h => h) (by omega)
theorem specErase_at {x : X} (hs : siz x ≤ 1048576) (W W1 : World) (B : Nat) (s : Value) (F : List Nat) (h : Ok W1 B x.r s F) (hb : Below W1.heap.size W1 W) :
    Calls Try.prog 55 #[val x s] W fun e w' => ∃ A cap F, e = .returned (val (er x) (.slice A x.r.length cap)) ∧ Ok w' W.heap.size (erL x.r) (.slice A x.r.length cap) F ∧ F.Nodup ∧ Below W.heap.size W w' :=
  specErase x s (· < W.heap.size) W (h.rd_in hb) (fun _ h => h) (by omega)
set_option maxRecDepth 20000 in
set_option maxHeartbeats 8000000 in
theorem walk (w : World) (x : X) (s : Value) (hw : Wf x) (hr : Rd w (· < w.heap.size) x s) : Calls Try.prog 13 #[val x s] w fun e w' => e = .returned (.bool true) ∧ Below w.heap.size w w' := by
  obtain ⟨A, cap, rfl⟩ := hr.kids.form
  by_cases hs : siz x ≤ 1048576
  · have hT := toX_at hr hs
    have hZ := sz_yes hr hw (Nat.le_refl _) hs
    have hS := fun W W1 B s F h hb => specErase_at hs W W1 B s F h hb
    have hI := fun W W1 B s F h hb => implErase_at hs W W1 B s F h hb
    have hE := eq_copy hw
    have hwe : Wf (er x) := Wf_er x hw
    have hEr := eq_copy hwe
    have hcnt : 4 * cntL x.r + 1 ≤ 1099511627776 := by have := cnt_le x; have := cnt_r x; omega
    have hMx := fun W B s F h hn => markX x 1 B s F W h hn (by omega) (by omega)
    have hMe := fun W B s F h hn => markX (er x) 1 B s F W h hn (by omega) (by rw [er_r, er_cntL]; omega)
    have hH := fun W s (h : Kd W (· < W.heap.size) (markL (er x).r 1) s) => heldX (er x) 1 s (· < W.heap.size) W h (fun _ h => h) (by omega) (by rw [er_r, er_cntL]; omega)
    obtain ⟨m0, hm0⟩ : ∃ m0, m0 = 1048576 - siz x := ⟨_, rfl⟩
    rw [← hm0] at hZ
    obtain ⟨z, hz⟩ : ∃ z, z = 1 + 4 * cntL x.r := ⟨_, rfl⟩
    rw [← hz] at hMx
    rw [er_r] at hMe hH
    rw [er_cntL, ← hz] at hMe hH
    have b0 : decide ((m0 : Int) < 0) = false := by simp
    have b1 : decide ((z : Int) < 0) = false := by simp
    clear hm0 hs hcnt hz
    obtain ⟨k, t, n, l, r⟩ := x
    replace hT : ∀ (W : World), Below w.heap.size w W → Calls Try.prog 19 #[(.agg #[.int .i64 k, .string t, .int .i64 n, .int .i64 l, .slice A r.length cap])] W fun e w' => ∃ A cap F, e = .returned (.agg #[.int .i64 k, .string t, .int .i64 n, .int .i64 l, .slice A r.length cap]) ∧ Ok w' W.heap.size r (.slice A r.length cap) F ∧ F.Nodup ∧ Below W.heap.size W w' := hT
    replace hS : ∀ (W W1 : World) (B : Nat) (A : Option Addr) (cap : Nat) (F : List Nat), Ok W1 B r (.slice A r.length cap) F → Below W1.heap.size W1 W → Calls Try.prog 55 #[(.agg #[.int .i64 k, .string t, .int .i64 n, .int .i64 l, .slice A r.length cap])] W fun e w' => ∃ A cap F, e = .returned (.agg #[.int .i64 k, .string t, .int .i64 n, .int .i64 0, .slice A r.length cap]) ∧ Ok w' W.heap.size (erL r) (.slice A r.length cap) F ∧ F.Nodup ∧ Below W.heap.size W w' := fun W W1 B A cap F h hb => hS W W1 B _ F h hb
    replace hI : ∀ (W W1 : World) (B : Nat) (A : Option Addr) (cap : Nat) (F : List Nat), Ok W1 B r (.slice A r.length cap) F → Below W1.heap.size W1 W → Calls Try.prog 56 #[(.agg #[.int .i64 k, .string t, .int .i64 n, .int .i64 l, .slice A r.length cap])] W fun e w' => ∃ A cap F, e = .returned (.agg #[.int .i64 k, .string t, .int .i64 n, .int .i64 0, .slice A r.length cap]) ∧ Ok w' W.heap.size (erL r) (.slice A r.length cap) F ∧ F.Nodup ∧ Below W.heap.size W w' := fun W W1 B A cap F h hb => hI W W1 B _ F h hb
    replace hE : ∀ (W W1 W2 : World) (A : Option Addr) (cap : Nat) (A' : Option Addr) (cap' : Nat) (B1 B2 : Nat) (F1 F2 : List Nat), Ok W1 B1 r (.slice A r.length cap) F1 → Below W1.heap.size W1 W → Ok W2 B2 r (.slice A' r.length cap') F2 → Below W2.heap.size W2 W →
      Calls Try.prog 21 #[(.agg #[.int .i64 k, .string t, .int .i64 n, .int .i64 l, .slice A r.length cap]), (.agg #[.int .i64 k, .string t, .int .i64 n, .int .i64 l, .slice A' r.length cap'])] W fun e w' => e = .returned (.bool true) ∧ Below W.heap.size W w' := fun W W1 W2 A cap A' cap' B1 B2 F1 F2 a b c d => hE W W1 W2 _ _ B1 B2 F1 F2 a b c d
    replace hEr : ∀ (W W1 W2 : World) (A : Option Addr) (cap : Nat) (A' : Option Addr) (cap' : Nat) (B1 B2 : Nat) (F1 F2 : List Nat), Ok W1 B1 (erL r) (.slice A r.length cap) F1 → Below W1.heap.size W1 W → Ok W2 B2 (erL r) (.slice A' r.length cap') F2 → Below W2.heap.size W2 W →
      Calls Try.prog 21 #[(.agg #[.int .i64 k, .string t, .int .i64 n, .int .i64 0, .slice A r.length cap]), (.agg #[.int .i64 k, .string t, .int .i64 n, .int .i64 0, .slice A' r.length cap'])] W fun e w' => e = .returned (.bool true) ∧ Below W.heap.size W w' := fun W W1 W2 A cap A' cap' B1 B2 F1 F2 a b c d => hEr W W1 W2 _ _ B1 B2 F1 F2 a b c d
    replace hMx : ∀ (W : World) (B : Nat) (A : Option Addr) (cap : Nat) (F : List Nat), Ok W B r (.slice A r.length cap) F → F.Nodup → Calls Try.prog 57 #[(.agg #[.int .i64 k, .string t, .int .i64 n, .int .i64 l, .slice A r.length cap]), .int .i64 1] W fun e w' => e = .returned (.int .i64 (z : Int)) ∧ Ok w' B (markL r 1) (.slice A r.length cap) F ∧ Ch F W w' := fun W B A cap F a b => hMx W B _ F a b
    replace hMe : ∀ (W : World) (B : Nat) (A : Option Addr) (cap : Nat) (F : List Nat), Ok W B (erL r) (.slice A r.length cap) F → F.Nodup → Calls Try.prog 57 #[(.agg #[.int .i64 k, .string t, .int .i64 n, .int .i64 0, .slice A r.length cap]), .int .i64 1] W fun e w' => e = .returned (.int .i64 (z : Int)) ∧ Ok w' B (markL (erL r) 1) (.slice A r.length cap) F ∧ Ch F W w' := fun W B A cap F a b => hMe W B _ F a b
    replace hH : ∀ (W W1 : World) (B : Nat) (A : Option Addr) (cap : Nat) (F : List Nat), Ok W1 B (markL (erL r) 1) (.slice A r.length cap) F → Below W1.heap.size W1 W → Calls Try.prog 58 #[(.agg #[.int .i64 k, .string t, .int .i64 n, .int .i64 0, .slice A r.length cap]), .int .i64 1] W fun e w' => e = .returned (.int .i64 (z : Int)) ∧ Below W.heap.size W w' := fun W W1 B A cap F h hb =>
      hH W _ ((h.kept hb).kd fun b hf => ((h.kept hb).lt b hf).2)
    have hbb : Below w.heap.size w w := Below.refl _ _
    have hzz := hbb.size
    show Calls Try.prog 13 #[(.agg #[.int .i64 k, .string t, .int .i64 n, .int .i64 l, .slice A r.length cap])] w _
    go_enter Try.func13, Try.ntmps13
    go_upto_region 6 with (first
      | (go_at_call 17; refine (hZ _ (by repeat (first | exact hbb | refine Below.drew ?_ | refine Below.setCell ?_ (by (try simp); try omega) _ | refine Below.alloc ?_ (by (try simp); try omega) _))).mono ?_; rintro e w1 ⟨rfl, hb1⟩; have hbb := grow (w := w) (by repeat (first | exact hbb | refine Below.drew ?_ | refine Below.setCell ?_ (by (try simp); try omega) _ | refine Below.alloc ?_ (by (try simp); try omega) _)) hb1; have hzz := hbb.size; have hv := Var.kept (Var.new w k t n l (.slice A r.length cap) 27) hb1; obtain ⟨a0, a1, a2, a3, a4⟩ := id hv)
      | (go_at_call 19; refine (hT _ (by repeat (first | exact hbb | refine Below.drew ?_ | refine Below.setCell ?_ (by (try simp); try omega) _ | refine Below.alloc ?_ (by (try simp); try omega) _))).mono ?_; rintro e w2 ⟨A2, cap2, F2, rfl, hk2, hnd2, hb2⟩; have hbb := grow (w := w) (by repeat (first | exact hbb | refine Below.drew ?_ | refine Below.setCell ?_ (by (try simp); try omega) _ | refine Below.alloc ?_ (by (try simp); try omega) _)) hb2; have hzz := hbb.size; have hv := hv.kept hb2)
      | (go_at_call 55; refine (hS _ w2 _ _ _ _ hk2 (by repeat (first | exact Below.refl _ _ | refine Below.drew ?_ | refine Below.setCell ?_ (by (try simp); try omega) _ | refine Below.alloc ?_ (by (try simp); try omega) _))).mono ?_; rintro e w4 ⟨A4, cap4, F4, rfl, hk4, hnd4, hb4⟩; have hbb := grow (w := w) (by repeat (first | exact hbb | refine Below.drew ?_ | refine Below.setCell ?_ (by (try simp); try omega) _ | refine Below.alloc ?_ (by (try simp); try omega) _)) hb4; have hzz := hbb.size; have hv := hv.kept hb4; have hvl := hv.lt; obtain ⟨a0, a1, a2, a3, a4⟩ := id hv))
    have hvl0 : w.heap.size < w4.heap.size := hvl
    have hF4 : ∀ b ∈ F4, w.heap.size < b ∧ b < w4.heap.size := fun b hb => by have := hk4.lt b hb; have := hb2.size; have := hb1.size; simp at *; omega
    go_upto_region 7 with (go_at_call 19; refine (hT _ (by repeat (first | exact hbb | refine Below.drew ?_ | refine Below.setCell ?_ (by (try simp); try omega) _ | refine Below.alloc ?_ (by (try simp); try omega) _))).mono ?_; rintro e w5 ⟨A5, cap5, F5, rfl, hk5, hnd5, hb5⟩; have hbb := grow (w := w) (by repeat (first | exact hbb | refine Below.drew ?_ | refine Below.setCell ?_ (by (try simp); try omega) _ | refine Below.alloc ?_ (by (try simp); try omega) _)) hb5; have hzz := hbb.size; have hv := (hv.alloc _).kept hb5; have hx4 := (Var.new w4 k t n 0 (.slice A4 r.length cap4) 32).kept hb5; have hk4 := hk4.kept (grow (w := w4) (by repeat (first | exact Below.refl _ _ | refine Below.drew ?_ | refine Below.setCell ?_ (by (try simp); try omega) _ | refine Below.alloc ?_ (by (try simp); try omega) _)) hb5); have hvl := hv.lt; have hxl4 := hx4.lt; obtain ⟨a0, a1, a2, a3, a4⟩ := id hv; obtain ⟨p0, p1, p2, p3, p4⟩ := id hx4)
    have hs45 : w4.heap.size < w5.heap.size := by have := hb5.size; simp at this; omega
    have hF5 : ∀ b ∈ F5, w4.heap.size < b ∧ b < w5.heap.size := fun b hb => by have := hk5.lt b hb; simp at *; omega
    go_upto_region 8 with (go_at_call 56; refine (hI _ w5 _ _ _ _ hk5 (by repeat (first | exact Below.refl _ _ | refine Below.drew ?_ | refine Below.setCell ?_ (by (try simp); try omega) _ | refine Below.alloc ?_ (by (try simp); try omega) _))).mono ?_; rintro e w6 ⟨A6, cap6, F6, rfl, hk6, hnd6, hb6⟩; have hbb := grow (w := w) (by repeat (first | exact hbb | refine Below.drew ?_ | refine Below.setCell ?_ (by (try simp); try omega) _ | refine Below.alloc ?_ (by (try simp); try omega) _)) hb6; have hzz := hbb.size; have hv := (hv.alloc _).kept hb6; have hx4 := (hx4.alloc _).kept hb6; have hx5 := (Var.new w5 k t n l (.slice A5 r.length cap5) 32).kept hb6; have hk4 := hk4.kept (grow (w := w5) (by repeat (first | exact Below.refl _ _ | refine Below.drew ?_ | refine Below.setCell ?_ (by (try simp); try omega) _ | refine Below.alloc ?_ (by (try simp); try omega) _)) hb6); have hk5 := hk5.kept (grow (w := w5) (by repeat (first | exact Below.refl _ _ | refine Below.drew ?_ | refine Below.setCell ?_ (by (try simp); try omega) _ | refine Below.alloc ?_ (by (try simp); try omega) _)) hb6); have hvl := hv.lt; have hxl4 := hx4.lt; have hxl5 := hx5.lt; obtain ⟨a0, a1, a2, a3, a4⟩ := id hv; obtain ⟨p0, p1, p2, p3, p4⟩ := id hx4; obtain ⟨q0, q1, q2, q3, q4⟩ := id hx5)
    have hs56 : w5.heap.size < w6.heap.size := by have := hb6.size; simp at this; omega
    have hF6 : ∀ b ∈ F6, w5.heap.size < b ∧ b < w6.heap.size := fun b hb => by have := hk6.lt b hb; simp at *; omega
    go_upto_region 10 with (go_at_call 21; refine (hEr _ w6 w6 _ _ _ _ _ _ _ _ hk6 (by repeat (first | exact Below.refl _ _ | refine Below.drew ?_ | refine Below.setCell ?_ (by (try simp); try omega) _ | refine Below.alloc ?_ (by (try simp); try omega) _)) hk4 (by repeat (first | exact Below.refl _ _ | refine Below.drew ?_ | refine Below.setCell ?_ (by (try simp); try omega) _ | refine Below.alloc ?_ (by (try simp); try omega) _))).mono ?_; rintro e w7 ⟨rfl, hb7⟩; have hbb := grow (w := w) (by repeat (first | exact hbb | refine Below.drew ?_ | refine Below.setCell ?_ (by (try simp); try omega) _ | refine Below.alloc ?_ (by (try simp); try omega) _)) hb7; have hzz := hbb.size; have hv := (hv.alloc _).kept hb7; have hx4 := (hx4.alloc _).kept hb7; have hx5 := (hx5.alloc _).kept hb7; have hx6 := (Var.new w6 k t n 0 (.slice A6 r.length cap6) 32).kept hb7; have hb67 := grow (w := w6) (by repeat (first | exact Below.refl _ _ | refine Below.drew ?_ | refine Below.setCell ?_ (by (try simp); try omega) _ | refine Below.alloc ?_ (by (try simp); try omega) _)) hb7; have hk4 := hk4.kept hb67; have hk5 := hk5.kept hb67; have hk6 := hk6.kept hb67)
    clear a0 a1 a2 a3 a4 p0 p1 p2 p3 p4 q0 q1 q2 q3 q4
    obtain ⟨a0, a1, a2, a3, a4⟩ := id hv
    obtain ⟨q0, q1, q2, q3, q4⟩ := id hx5
    go_cut [31] (fun z wx => z = .bool false ∧ Below w7.heap.size w7 wx)
    case first =>
      go_region_held3 (fun w' => w'.cell? ⟨w5.heap.size, 0, none⟩ = some (.int .i64 k) ∧ w'.cell? ⟨w5.heap.size, 1, none⟩ = some (.string t) ∧ w'.cell? ⟨w5.heap.size, 2, none⟩ = some (.int .i64 n) ∧ w'.cell? ⟨w5.heap.size, 3, none⟩ = some (.int .i64 l) ∧ w'.cell? ⟨w5.heap.size, 4, none⟩ = some (.slice A5 r.length cap5) ∧ w'.cell? ⟨w.heap.size, 0, none⟩ = some (.int .i64 k) ∧ w'.cell? ⟨w.heap.size, 1, none⟩ = some (.string t) ∧ w'.cell? ⟨w.heap.size, 2, none⟩ = some (.int .i64 n) ∧ w'.cell? ⟨w.heap.size, 3, none⟩ = some (.int .i64 l) ∧ w'.cell? ⟨w.heap.size, 4, none⟩ = some (.slice A r.length cap)) ((refine keep10 hx5 hv ?_; repeat (first | exact Below.refl _ _ | refine Below.drew ?_ | refine Below.alloc ?_ (by (try simp); try omega) _ | refine Below.trans ?_ (hb3.mono (by (try simp); try omega)) | refine Below.trans ?_ (hb4.mono (by (try simp); try omega)) | refine Below.trans ?_ (hb5.mono (by (try simp); try omega)))))
        (first | (go_at_call 19; refine (hT _ (hbb.trans (Below.mono (by repeat (first | exact Below.refl _ _ | refine Below.drew ?_ | refine Below.alloc ?_ (by (try simp); try omega) _ | refine Below.trans ?_ (hb3.mono (by (try simp); try omega)) | refine Below.trans ?_ (hb4.mono (by (try simp); try omega)) | refine Below.trans ?_ (hb5.mono (by (try simp); try omega)))) hzz))).mono ?_; rintro e w3 ⟨A3, cap3, F3, rfl, hk3, hnd3, hb3⟩; have hz3 := hb3.size; (try simp at hz3)) | (go_at_call 21; refine (hE _ w7 w3 _ _ _ _ _ _ _ _ hk5 (by repeat (first | exact Below.refl _ _ | refine Below.drew ?_ | refine Below.alloc ?_ (by (try simp); try omega) _ | refine Below.trans ?_ (hb3.mono (by (try simp); try omega)) | refine Below.trans ?_ (hb4.mono (by (try simp); try omega)) | refine Below.trans ?_ (hb5.mono (by (try simp); try omega)))) hk3 (by repeat (first | exact Below.refl _ _ | refine Below.drew ?_ | refine Below.setCell ?_ (by (try simp); try omega) _ | refine Below.alloc ?_ (by (try simp); try omega) _))).mono ?_; rintro e w4' ⟨rfl, hb4⟩; have hz4 := hb4.size; (try simp at hz4)))
      all_goals
        go_wp2_with fail
        go_meet
        exact ⟨rfl, by repeat (first | exact Below.refl _ _ | refine Below.drew ?_ | refine Below.alloc ?_ (by (try simp); try omega) _ | refine Below.trans ?_ (hb3.mono (by (try simp); try omega)) | refine Below.trans ?_ (hb4.mono (by (try simp); try omega)) | refine Below.trans ?_ (hb5.mono (by (try simp); try omega)))⟩
    case rest =>
      clear a0 a1 a2 a3 a4 q0 q1 q2 q3 q4
      obtain ⟨rfl, hb8⟩ := hcut
      have hbb := grow (w := w) hbb hb8
      have hv := hv.kept hb8
      have hx4 := hx4.kept hb8
      have hx5 := hx5.kept hb8
      have hx6 := hx6.kept hb8
      have hk4 := hk4.kept hb8
      have hk5 := hk5.kept hb8
      have hk6 := hk6.kept hb8
      obtain ⟨q0, q1, q2, q3, q4⟩ := id hx5
      go_upto_region 14 with (go_at_call 57; refine (hMx _ _ _ _ _ hk5 hnd5).mono ?_; rintro e w9 ⟨rfl, -, hc9⟩)
      clear q0 q1 q2 q3 q4
      have hs04 : w.heap.size < w4.heap.size := hvl0
      have hbb := hbb.trans (hc9.below (B := w.heap.size) (fun b hb => by have := hF5 b hb; omega) hbb.size)
      have hzz := hbb.size
      have hv := hv.ch hc9 (fun hm => by have := hF5 _ hm; omega)
      have hx4 := hx4.ch hc9 (fun hm => by have := hF5 _ hm; omega)
      have hx6 := hx6.ch hc9 (fun hm => by have := hF5 _ hm; omega)
      have hk4 := hk4.ch hc9 (fun b hb hm => by have := hF5 _ hm; have := hF4 b hb; omega)
      have hk6 := hk6.ch hc9 (fun b hb hm => by have := hF5 _ hm; have := hF6 b hb; omega)
      obtain ⟨p0, p1, p2, p3, p4⟩ := id hx4
      obtain ⟨y0, y1, y2, y3, y4⟩ := id hx6
      go_upto_region 16 with (go_at_call 21; refine (hEr _ w9 w9 _ _ _ _ _ _ _ _ hk6 (by repeat (first | exact Below.refl _ _ | refine Below.drew ?_ | refine Below.setCell ?_ (by (try simp); try omega) _ | refine Below.alloc ?_ (by (try simp); try omega) _)) hk4 (by repeat (first | exact Below.refl _ _ | refine Below.drew ?_ | refine Below.setCell ?_ (by (try simp); try omega) _ | refine Below.alloc ?_ (by (try simp); try omega) _))).mono ?_; rintro e w10 ⟨rfl, hb10⟩)
      clear p0 p1 p2 p3 p4 y0 y1 y2 y3 y4
      have hbb := grow (w := w) hbb hb10
      have hzz := hbb.size
      have hv := hv.kept hb10
      have hx4 := hx4.kept hb10
      have hx6 := hx6.kept hb10
      have hk4 := hk4.kept hb10
      have hk6 := hk6.kept hb10
      obtain ⟨y0, y1, y2, y3, y4⟩ := id hx6
      go_upto_region 18 with (go_at_call 57; refine (hMe _ _ _ _ _ hk6 hnd6).mono ?_; rintro e w11 ⟨rfl, hk6m, hc11⟩)
      clear y0 y1 y2 y3 y4
      have hbb := hbb.trans (hc11.below (B := w.heap.size) (fun b hb => by have := hF6 b hb; omega) hbb.size)
      have hzz := hbb.size
      have hv := hv.ch hc11 (fun hm => by have := hF6 _ hm; omega)
      have hx4 := hx4.ch hc11 (fun hm => by have := hF6 _ hm; omega)
      have hx6 := hx6.ch hc11 (fun hm => by have := hF6 _ hm; omega)
      have hk4 := hk4.ch hc11 (fun b hb hm => by have := hF6 _ hm; have := hF4 b hb; omega)
      obtain ⟨y0, y1, y2, y3, y4⟩ := id hx6
      go_upto_region 24 with (go_at_call 58; refine (hH _ w11 _ _ _ _ hk6m (by repeat (first | exact Below.refl _ _ | refine Below.drew ?_ | refine Below.setCell ?_ (by (try simp); try omega) _ | refine Below.alloc ?_ (by (try simp); try omega) _))).mono ?_; rintro e w12 ⟨rfl, hb12⟩)
      clear y0 y1 y2 y3 y4
      have hbb := grow (w := w) hbb hb12
      have hzz := hbb.size
      have hv := hv.kept hb12
      have hx4 := hx4.kept hb12
      have hx6 := hx6.kept hb12
      have hk4 := hk4.kept hb12
      have hk6m := hk6m.kept hb12
      obtain ⟨a0, a1, a2, a3, a4⟩ := id hv
      go_upto_region 25 with (first
        | (go_at_call 19; refine (hT _ hbb).mono ?_; rintro e w13 ⟨A13, cap13, F13, rfl, hk13, hnd13, hb13⟩)
        | (go_at_call 56; refine (hI _ w13 _ _ _ _ hk13 (by repeat (first | exact Below.refl _ _ | refine Below.drew ?_ | refine Below.setCell ?_ (by (try simp); try omega) _ | refine Below.alloc ?_ (by (try simp); try omega) _))).mono ?_; rintro e w14 ⟨A14, cap14, F14, rfl, hk14, hnd14, hb14⟩))
      clear a0 a1 a2 a3 a4
      have hb34 := Below.trans hb13 (hb14.mono hb13.size)
      have hbb := grow (w := w) hbb hb34
      have hzz := hbb.size
      have hx4 := hx4.kept hb34
      have hx6 := hx6.kept hb34
      have hk4 := hk4.kept hb34
      have hk6m := hk6m.kept hb34
      have hxl4 := hx4.lt
      have hxl6 := hx6.lt
      obtain ⟨p0, p1, p2, p3, p4⟩ := id hx4
      go_upto_region 28 with (go_at_call 21; refine (hEr _ w14 w14 _ _ _ _ _ _ _ _ hk14 (by repeat (first | exact Below.refl _ _ | refine Below.drew ?_ | refine Below.setCell ?_ (by (try simp); try omega) _ | refine Below.alloc ?_ (by (try simp); try omega) _)) hk4 (by repeat (first | exact Below.refl _ _ | refine Below.drew ?_ | refine Below.setCell ?_ (by (try simp); try omega) _ | refine Below.alloc ?_ (by (try simp); try omega) _))).mono ?_; rintro e w15 ⟨rfl, hb15⟩; have hbb := grow (w := w) (by repeat (first | exact hbb | refine Below.drew ?_ | refine Below.setCell ?_ (by (try simp); try omega) _ | refine Below.alloc ?_ (by (try simp); try omega) _)) hb15; have hzz := hbb.size; have hx6 := (hx6.alloc _).kept hb15; have hk6m := hk6m.kept (grow (w := w14) (by repeat (first | exact Below.refl _ _ | refine Below.drew ?_ | refine Below.setCell ?_ (by (try simp); try omega) _ | refine Below.alloc ?_ (by (try simp); try omega) _)) hb15))
      clear p0 p1 p2 p3 p4
      obtain ⟨y0, y1, y2, y3, y4⟩ := id hx6
      go_wp2_with (go_at_call 58; refine (hH _ w15 _ _ _ _ hk6m (by repeat (first | exact Below.refl _ _ | refine Below.drew ?_ | refine Below.setCell ?_ (by (try simp); try omega) _ | refine Below.alloc ?_ (by (try simp); try omega) _))).mono ?_; rintro e w16 ⟨rfl, hb16⟩)
      go_ret
      exact ⟨rfl, grow (w := w) hbb hb16⟩
  · have hZ := sz_not hr hw (Nat.le_refl _) hs
    obtain ⟨k, t, n, l, r⟩ := x
    show Calls Try.prog 13 #[.agg #[.int .i64 k, .string t, .int .i64 n, .int .i64 l, .slice A r.length cap]] w _
    go_enter Try.func13, Try.ntmps13
    go_wp2_with (go_at_call 17; refine (hZ _ (by repeat (first | exact Below.refl _ _ | refine Below.drew ?_ | refine Below.setCell ?_ (by (try simp); try omega) _ | refine Below.alloc ?_ (by (try simp); try omega) _))).mono ?_; rintro e w1 ⟨rfl, hb1⟩)
    go_ret
    exact ⟨rfl, grow (w := w) (by repeat (first | exact Below.refl _ _ | refine Below.drew ?_ | refine Below.setCell ?_ (by (try simp); try omega) _ | refine Below.alloc ?_ (by (try simp); try omega) _)) hb1⟩

end Go.Proofs.Ytnmieocbpdoicaa.lEraseLines
