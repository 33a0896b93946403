/- Proved here: the walk of the law FnDeMorgan: the call returns true and leaves all older memory as it was. Condition: the arguments are of their types. -/
import Derived.Test.YtnmieocbpdoicaaCf
import Derived.Test.YtnmieocbpdoicaaDx
import Derived.Test.YtnmieocbpdoicaaNc
import Derived.Test.YtnmieocbpdoicaaCs
namespace Go.Proofs.Ytnmieocbpdoicaa.lDeMorgan
open Go.RowKit

theorem grow {w W w' : World} (h : Below w.heap.size w W) (h1 : Below W.heap.size W w') : Below w.heap.size w w' := h.trans (h1.mono h.size)
/-- Six cells hold on in a world that has only grown. -/
theorem kc6 {W w1 : World} {p0 p1 p2 p3 p4 p5 : Addr} {v0 v1 v2 v3 v4 v5 : Value} (hb : Below W.heap.size W w1) (h0 : W.cell? p0 = some v0) (h1 : W.cell? p1 = some v1) (h2 : W.cell? p2 = some v2) (h3 : W.cell? p3 = some v3) (h4 : W.cell? p4 = some v4) (h5 : W.cell? p5 = some v5) :
    w1.cell? p0 = some v0 ∧ w1.cell? p1 = some v1 ∧ w1.cell? p2 = some v2 ∧ w1.cell? p3 = some v3 ∧ w1.cell? p4 = some v4 ∧ w1.cell? p5 = some v5 :=
  ⟨kc1 hb h0, kc1 hb h1, kc1 hb h2, kc1 hb h3, kc1 hb h4, kc1 hb h5⟩
theorem csetL_size (a b : Int) : (csetL a b).length ≤ 128 := by
  rw [csetL_len]
  exact Nat.le_trans (List.length_filter_le _ _) (by simp)
/-- The two sets compared by '=='. -/
theorem eqGuardC : Try.prog.eqGuardType Try.prog.depth 39 = false := by kernel_rfl
theorem eqlC (a b c d : Int) (w : World) : (Op.equalIn 10000 39 (.agg #[.int .i64 a, .int .i64 b]) (.agg #[.int .i64 c, .int .i64 d])).run Try.prog w = .ok (a == c && b == d) w := by
  have hS : Try.prog.underlying 39 = some (.struct (Try.prog.fieldsOf 39)) := by kernel_rfl
  have hp : Try.prog.stoodInHeld 39 = false := by kernel_rfl
  rw [show (10000 : Nat) = 9999 + 1 from rfl, run_equalIn_agg w 9999 39 _ _ hS hp]
  simp only [Program.fieldsOf, Try.underlying39]
  go_simp
  by_cases h1 : a = c <;> by_cases h2 : b = d <;> simp [h1, h2]
set_option maxRecDepth 20000 in
set_option maxHeartbeats 8000000 in
theorem walk (w : World) (A : Option Addr) (n cap : Nat) (hn : n ≤ maxLen) (hc : n ≤ 1048576 → CodeAt w A n) : Calls Try.prog 12 #[.slice A n cap] w fun e w' => e = .returned (.bool true) ∧ Below w.heap.size w w' := by
  unfold maxLen at hn
  by_cases hbig : n ≤ 1048576
  · have hD := drawUnion A n cap w (hc hbig)
    clear hc
    go_enter Try.func12, Try.ntmps12
    go_upto_region 3 with go_in
    go_upto_region 4 with (go_at_call 47; refine hD.mono ?_; rintro e w1 ⟨a, b, c, d, ha, hb, hc, hd, rfl, hb1⟩)
    clear hD
    have hbb := hb1
    have hzz := hbb.size
    clear hb1
    have hN : ∀ W : World, Calls Try.prog 48 #[.string ⟨(csetL a b).toArray⟩] W fun e w' => e = .returned (.tuple #[cs a b, .bool true]) ∧ Below W.heap.size W w' := fun W => by
      have h := implNew ⟨(csetL a b).toArray⟩ (by have := csetL_size a b; show (csetL a b).length ≤ _; omega) W
      rw [show (⟨(csetL a b).toArray⟩ : ByteArray).data.toList = csetL a b from rfl, newC_csetL ha hb] at h
      exact h
    have z1 := csetL_size a b
    have z2 := csetL_size c d
    obtain ⟨u0, hu0⟩ : ∃ x, x = bits .or .i64 a c := ⟨_, rfl⟩
    obtain ⟨u1, hu1⟩ : ∃ x, x = bits .or .i64 b d := ⟨_, rfl⟩
    obtain ⟨i0, hi0⟩ : ∃ x, x = bits .and .i64 a c := ⟨_, rfl⟩
    obtain ⟨i1, hi1⟩ : ∃ x, x = bits .and .i64 b d := ⟨_, rfl⟩
    obtain ⟨p0, hp0⟩ : ∃ x, x = bits .xor .i64 (-1) a := ⟨_, rfl⟩
    obtain ⟨p1, hp1⟩ : ∃ x, x = bits .xor .i64 (-1) b := ⟨_, rfl⟩
    obtain ⟨q0, hq0⟩ : ∃ x, x = bits .xor .i64 (-1) c := ⟨_, rfl⟩
    obtain ⟨q1, hq1⟩ : ∃ x, x = bits .xor .i64 (-1) d := ⟨_, rfl⟩
    obtain ⟨k0, hk0⟩ : ∃ x, x = bits .xor .i64 (-1) u0 := ⟨_, rfl⟩
    obtain ⟨k1, hk1⟩ : ∃ x, x = bits .xor .i64 (-1) u1 := ⟨_, rfl⟩
    obtain ⟨m0, hm0⟩ : ∃ x, x = bits .andNot .i64 a c := ⟨_, rfl⟩
    obtain ⟨m1, hm1⟩ : ∃ x, x = bits .andNot .i64 b d := ⟨_, rfl⟩
    have hU : ∀ W : World, Calls Try.prog 51 #[cs a b, cs c d] W fun e w' => e = .returned (cs u0 u1) ∧ Below W.heap.size W w' := fun W => by
      refine (implUnion a b c d W).mono ?_
      rintro e w' ⟨rfl, rfl⟩
      rw [← hu0, ← hu1]
      exact ⟨rfl, by repeat (first | exact Below.refl _ _ | refine Below.drew ?_ | refine Below.setCell ?_ (by (try simp); try omega) _ | refine Below.alloc ?_ (by (try simp); try omega) _)⟩
    have hI : ∀ W : World, Calls Try.prog 52 #[cs a b, cs c d] W fun e w' => e = .returned (cs i0 i1) ∧ Below W.heap.size W w' := fun W => by
      refine (implIntersect a b c d W).mono ?_
      rintro e w' ⟨rfl, rfl⟩
      rw [← hi0, ← hi1]
      exact ⟨rfl, by repeat (first | exact Below.refl _ _ | refine Below.drew ?_ | refine Below.setCell ?_ (by (try simp); try omega) _ | refine Below.alloc ?_ (by (try simp); try omega) _)⟩
    have hP : ∀ W : World, Calls Try.prog 53 #[cs a b] W fun e w' => e = .returned (cs p0 p1) ∧ Below W.heap.size W w' := fun W => by
      refine (implComplement a b W).mono ?_
      rintro e w' ⟨rfl, rfl⟩
      rw [← hp0, ← hp1]
      exact ⟨rfl, by repeat (first | exact Below.refl _ _ | refine Below.drew ?_ | refine Below.setCell ?_ (by (try simp); try omega) _ | refine Below.alloc ?_ (by (try simp); try omega) _)⟩
    have hQ : ∀ W : World, Calls Try.prog 53 #[cs c d] W fun e w' => e = .returned (cs q0 q1) ∧ Below W.heap.size W w' := fun W => by
      refine (implComplement c d W).mono ?_
      rintro e w' ⟨rfl, rfl⟩
      rw [← hq0, ← hq1]
      exact ⟨rfl, by repeat (first | exact Below.refl _ _ | refine Below.drew ?_ | refine Below.setCell ?_ (by (try simp); try omega) _ | refine Below.alloc ?_ (by (try simp); try omega) _)⟩
    have hK : ∀ W : World, Calls Try.prog 53 #[cs u0 u1] W fun e w' => e = .returned (cs k0 k1) ∧ Below W.heap.size W w' := fun W => by
      refine (implComplement u0 u1 W).mono ?_
      rintro e w' ⟨rfl, rfl⟩
      rw [← hk0, ← hk1]
      exact ⟨rfl, by repeat (first | exact Below.refl _ _ | refine Below.drew ?_ | refine Below.setCell ?_ (by (try simp); try omega) _ | refine Below.alloc ?_ (by (try simp); try omega) _)⟩
    have hM : ∀ W : World, Calls Try.prog 54 #[cs a b, cs c d] W fun e w' => e = .returned (cs m0 m1) ∧ Below W.heap.size W w' := fun W => by
      refine (implSubtract a b c d W).mono ?_
      rintro e w' ⟨rfl, rfl⟩
      rw [← hm0, ← hm1]
      exact ⟨rfl, by repeat (first | exact Below.refl _ _ | refine Below.drew ?_ | refine Below.setCell ?_ (by (try simp); try omega) _ | refine Below.alloc ?_ (by (try simp); try omega) _)⟩
    have e0 : bits .and .i64 p0 q0 = k0 := by rw [hp0, hq0, hk0, hu0]; exact (demorgan a c).symm
    have e1 : bits .and .i64 p1 q1 = k1 := by rw [hp1, hq1, hk1, hu1]; exact (demorgan b d).symm
    have e2 : bits .and .i64 a q0 = m0 := by rw [hq0, hm0]; exact (minus a c).symm
    have e3 : bits .and .i64 b q1 = m1 := by rw [hq1, hm1]; exact (minus b d).symm
    have hIK : ∀ W : World, Calls Try.prog 52 #[cs p0 p1, cs q0 q1] W fun e w' => e = .returned (cs k0 k1) ∧ Below W.heap.size W w' := fun W => by
      refine (implIntersect p0 p1 q0 q1 W).mono ?_
      rintro e w' ⟨rfl, rfl⟩
      rw [e0, e1]
      exact ⟨rfl, by repeat (first | exact Below.refl _ _ | refine Below.drew ?_ | refine Below.setCell ?_ (by (try simp); try omega) _ | refine Below.alloc ?_ (by (try simp); try omega) _)⟩
    have hIM : ∀ W : World, Calls Try.prog 52 #[cs a b, cs q0 q1] W fun e w' => e = .returned (cs m0 m1) ∧ Below W.heap.size W w' := fun W => by
      refine (implIntersect a b q0 q1 W).mono ?_
      rintro e w' ⟨rfl, rfl⟩
      rw [e2, e3]
      exact ⟨rfl, by repeat (first | exact Below.refl _ _ | refine Below.drew ?_ | refine Below.setCell ?_ (by (try simp); try omega) _ | refine Below.alloc ?_ (by (try simp); try omega) _)⟩
    have hsz := sizes a b c d
    rw [← hu0, ← hu1, ← hi0, ← hi1] at hsz
    have z3 := csetL_size u0 u1
    have z4 := csetL_size i0 i1
    clear hu0 hu1 hi0 hi1 hp0 hp1 hq0 hq1 hk0 hk1 hm0 hm1 e0 e1 e2 e3 ha hb hc hd
    have hSu := implCsetSize u0 u1
    have hSi := implCsetSize i0 i1
    have hSa := implCsetSize a b
    have hSc := implCsetSize c d
    have hTx : ∀ W : World, Calls Try.prog 49 #[cs a b] W fun e w' => e = .returned (.string ⟨(csetL a b).toArray⟩) ∧ Below W.heap.size W w' := implCsetText a b
    obtain ⟨su, hsu⟩ : ∃ x, x = (csetL u0 u1).length := ⟨_, rfl⟩
    obtain ⟨si, hsi⟩ : ∃ x, x = (csetL i0 i1).length := ⟨_, rfl⟩
    obtain ⟨sa, hsa⟩ : ∃ x, x = (csetL a b).length := ⟨_, rfl⟩
    obtain ⟨sc, hsc⟩ : ∃ x, x = (csetL c d).length := ⟨_, rfl⟩
    obtain ⟨T, hT⟩ : ∃ x, x = (⟨(csetL a b).toArray⟩ : ByteArray) := ⟨_, rfl⟩
    rw [← hsu] at hSu z3 hsz
    rw [← hsi] at hSi z4 hsz
    rw [← hsa] at hSa z1 hsz
    rw [← hsc] at hSc z2 hsz
    rw [← hT] at hTx hN
    clear hsu hsi hsa hsc hT
    obtain ⟨m, hm⟩ : ∃ x : Nat, x = su + si := ⟨_, rfl⟩
    have q1' : (su : Int) + (si : Int) = (m : Int) := by omega
    have q2' : (sa : Int) + (sc : Int) = (m : Int) := by omega
    clear hm hsz
    go_cut [5, 6] (fun s5 s6 wx => ∃ g : Nat, s5 = .pointer (some ⟨g, 0, none⟩) ∧ s6 = .bool true ∧ wx.cell? ⟨w1.heap.size, 0, none⟩ = some (.int .i64 a) ∧ wx.cell? ⟨w1.heap.size, 1, none⟩ = some (.int .i64 b) ∧ wx.cell? ⟨w1.heap.size + 1, 0, none⟩ = some (.int .i64 c) ∧ wx.cell? ⟨w1.heap.size + 1, 1, none⟩ = some (.int .i64 d) ∧ wx.cell? ⟨g, 0, none⟩ = some (.int .i64 a) ∧ wx.cell? ⟨g, 1, none⟩ = some (.int .i64 b) ∧ g < wx.heap.size ∧ w1.heap.size + 1 < wx.heap.size ∧ Below w.heap.size w wx)
    case first =>
      go_wp2_with (first
        | (go_at_call 49; refine (hTx _).mono ?_; rintro e w2 ⟨rfl, hb2⟩; have hbb := grow (w := w) (by repeat (first | exact hbb | refine Below.drew ?_ | refine Below.setCell ?_ (by (try simp); try omega) _ | refine Below.alloc ?_ (by (try simp); try omega) _)) hb2; have hzz := hbb.size; have d0 := kc1 (p := ⟨w1.heap.size, 0, none⟩) (v := .int .i64 a) hb2 (by go_simp); have d1 := kc1 (p := ⟨w1.heap.size, 1, none⟩) (v := .int .i64 b) hb2 (by go_simp); have d2 := kc1 (p := ⟨w1.heap.size + 1, 0, none⟩) (v := .int .i64 c) hb2 (by go_simp); have d3 := kc1 (p := ⟨w1.heap.size + 1, 1, none⟩) (v := .int .i64 d) hb2 (by go_simp); have hz2 := hb2.size; (try simp at hz2))
        | (go_at_call 48; refine (hN _).mono ?_; rintro e w3 ⟨rfl, hb3⟩; have hbb := grow (w := w) (by repeat (first | exact hbb | refine Below.drew ?_ | refine Below.setCell ?_ (by (try simp); try omega) _ | refine Below.alloc ?_ (by (try simp); try omega) _)) hb3; have hzz := hbb.size; have d0 := kc1 hb3 d0; have d1 := kc1 hb3 d1; have d2 := kc1 hb3 d2; have d3 := kc1 hb3 d3; have hz3 := hb3.size))
      go_meet
      exact ⟨_, rfl, rfl, kc1 (W := w3) (by repeat (first | exact Below.refl _ _ | refine Below.drew ?_ | refine Below.setCell ?_ (by (try simp); try omega) _ | refine Below.alloc ?_ (by (try simp); try omega) _)) d0, kc1 (W := w3) (by repeat (first | exact Below.refl _ _ | refine Below.drew ?_ | refine Below.setCell ?_ (by (try simp); try omega) _ | refine Below.alloc ?_ (by (try simp); try omega) _)) d1, kc1 (W := w3) (by repeat (first | exact Below.refl _ _ | refine Below.drew ?_ | refine Below.setCell ?_ (by (try simp); try omega) _ | refine Below.alloc ?_ (by (try simp); try omega) _)) d2, kc1 (W := w3) (by repeat (first | exact Below.refl _ _ | refine Below.drew ?_ | refine Below.setCell ?_ (by (try simp); try omega) _ | refine Below.alloc ?_ (by (try simp); try omega) _)) d3, by go_simp, by go_simp, by (simp; try omega), by (simp; omega), by repeat (first | exact hbb | refine Below.drew ?_ | refine Below.setCell ?_ (by (try simp); try omega) _ | refine Below.alloc ?_ (by (try simp); try omega) _)⟩
    case rest =>
      clear hbb hzz
      obtain ⟨g, rfl, rfl, d0, d1, d2, d3, d4, d5, hg, hG, hbb⟩ := hcut
      have hzz := hbb.size
      have hwc := hbb
      clear hbb
      have hbb : Below wc.heap.size wc wc := Below.refl _ _
      have i1 : IntKind.i64.wrap (m : Int) = (m : Int) := i64_in' (by omega)
      have g0 : w1.heap.size < wc.heap.size := by omega
      go_wp2_with fail
      go_cut [7] (fun s7 wx => s7 = .int .i64 (m : Int) ∧ wx.cell? ⟨w1.heap.size, 0, none⟩ = some (.int .i64 a) ∧ wx.cell? ⟨w1.heap.size, 1, none⟩ = some (.int .i64 b) ∧ wx.cell? ⟨w1.heap.size + 1, 0, none⟩ = some (.int .i64 c) ∧ wx.cell? ⟨w1.heap.size + 1, 1, none⟩ = some (.int .i64 d) ∧ wx.cell? ⟨g, 0, none⟩ = some (.int .i64 a) ∧ wx.cell? ⟨g, 1, none⟩ = some (.int .i64 b) ∧ Below wc.heap.size wc wx)
      case first =>
        go_region_held3 (fun w' => w'.cell? ⟨w1.heap.size, 0, none⟩ = some (.int .i64 a) ∧ w'.cell? ⟨w1.heap.size, 1, none⟩ = some (.int .i64 b) ∧ w'.cell? ⟨w1.heap.size + 1, 0, none⟩ = some (.int .i64 c) ∧ w'.cell? ⟨w1.heap.size + 1, 1, none⟩ = some (.int .i64 d)) ((refine kc4 (W := wc) ?_ d0 d1 d2 d3; repeat (first | exact hbb | refine Below.drew ?_ | refine Below.setCell ?_ (by (try simp); try omega) _ | refine Below.alloc ?_ (by (try simp); try omega) _)))
          (first
            | (go_at_call 51; refine (hU _).mono ?_; rintro e w4 ⟨rfl, hb4⟩; have hbb := grow (w := wc) (by repeat (first | exact hbb | refine Below.drew ?_ | refine Below.setCell ?_ (by (try simp); try omega) _ | refine Below.alloc ?_ (by (try simp); try omega) _)) hb4; have hzz := hbb.size)
            | (go_at_call 52; refine (hI _).mono ?_; rintro e w5 ⟨rfl, hb5⟩; have hbb := grow (w := wc) (by repeat (first | exact hbb | refine Below.drew ?_ | refine Below.setCell ?_ (by (try simp); try omega) _ | refine Below.alloc ?_ (by (try simp); try omega) _)) hb5; have hzz := hbb.size)
            | (go_at_call_of 50 u0; refine (hSu _).mono ?_; rintro e w6 ⟨rfl, hb6⟩; have hbb := grow (w := wc) (by repeat (first | exact hbb | refine Below.drew ?_ | refine Below.setCell ?_ (by (try simp); try omega) _ | refine Below.alloc ?_ (by (try simp); try omega) _)) hb6; have hzz := hbb.size)
            | (go_at_call_of 50 i0; refine (hSi _).mono ?_; rintro e w7 ⟨rfl, hb7⟩; have hbb := grow (w := wc) (by repeat (first | exact hbb | refine Below.drew ?_ | refine Below.setCell ?_ (by (try simp); try omega) _ | refine Below.alloc ?_ (by (try simp); try omega) _)) hb7; have hzz := hbb.size))
        all_goals
          go_wp2_with fail
          go_meet
          refine ⟨rfl, kc1 (W := wc) ?_ d0, kc1 (W := wc) ?_ d1, kc1 (W := wc) ?_ d2, kc1 (W := wc) ?_ d3, kc1 (W := wc) ?_ d4, kc1 (W := wc) ?_ d5, ?_⟩ <;> repeat (first | exact hbb | refine Below.drew ?_ | refine Below.setCell ?_ (by (try simp); try omega) _ | refine Below.alloc ?_ (by (try simp); try omega) _)
      case rest =>
        clear hbb hzz d0 d1 d2 d3 d4 d5
        obtain ⟨rfl, d0, d1, d2, d3, d4, d5, hwd⟩ := hcut
        have hzd := hwd.size
        have hwe := hwc.trans (hwd.mono hwc.size)
        have hze := hwe.size
        rename World => wd
        have hbb : Below wd.heap.size wd wd := Below.refl _ _
        have g0 : w1.heap.size < wd.heap.size := by omega
        have g1 : w1.heap.size + 1 < wd.heap.size := by omega
        have g2 : g < wd.heap.size := by omega
        have hge := eqGuardC
        have heq := eqlC
        clear hwc hwd hzd hg hG
        go_wp2_with fail
        go_region_held3 (fun w' => w'.cell? ⟨w1.heap.size, 0, none⟩ = some (.int .i64 a) ∧ w'.cell? ⟨w1.heap.size, 1, none⟩ = some (.int .i64 b) ∧ w'.cell? ⟨w1.heap.size + 1, 0, none⟩ = some (.int .i64 c) ∧ w'.cell? ⟨w1.heap.size + 1, 1, none⟩ = some (.int .i64 d) ∧ w'.cell? ⟨g, 0, none⟩ = some (.int .i64 a) ∧ w'.cell? ⟨g, 1, none⟩ = some (.int .i64 b)) ((refine kc6 (W := wd) ?_ d0 d1 d2 d3 d4 d5; repeat (first | exact hbb | refine Below.drew ?_ | refine Below.setCell ?_ (by (try simp); try omega) _ | refine Below.alloc ?_ (by (try simp); try omega) _)))
          (first
            | (go_at_call_of 50 a; refine (hSa _).mono ?_; rintro e w4 ⟨rfl, hb4⟩; have hbb := grow (w := wd) (by repeat (first | exact hbb | refine Below.drew ?_ | refine Below.setCell ?_ (by (try simp); try omega) _ | refine Below.alloc ?_ (by (try simp); try omega) _)) hb4; have hzz := hbb.size)
            | (go_at_call_of 50 c; refine (hSc _).mono ?_; rintro e w5 ⟨rfl, hb5⟩; have hbb := grow (w := wd) (by repeat (first | exact hbb | refine Below.drew ?_ | refine Below.setCell ?_ (by (try simp); try omega) _ | refine Below.alloc ?_ (by (try simp); try omega) _)) hb5; have hzz := hbb.size)
            | (go_at_call 51; refine (hU _).mono ?_; rintro e w6 ⟨rfl, hb6⟩; have hbb := grow (w := wd) (by repeat (first | exact hbb | refine Below.drew ?_ | refine Below.setCell ?_ (by (try simp); try omega) _ | refine Below.alloc ?_ (by (try simp); try omega) _)) hb6; have hzz := hbb.size)
            | (go_at_call_of 53 u0; refine (hK _).mono ?_; rintro e w7 ⟨rfl, hb7⟩; have hbb := grow (w := wd) (by repeat (first | exact hbb | refine Below.drew ?_ | refine Below.setCell ?_ (by (try simp); try omega) _ | refine Below.alloc ?_ (by (try simp); try omega) _)) hb7; have hzz := hbb.size)
            | (go_at_call_of 53 a; refine (hP _).mono ?_; rintro e w8 ⟨rfl, hb8⟩; have hbb := grow (w := wd) (by repeat (first | exact hbb | refine Below.drew ?_ | refine Below.setCell ?_ (by (try simp); try omega) _ | refine Below.alloc ?_ (by (try simp); try omega) _)) hb8; have hzz := hbb.size)
            | (go_at_call_of 53 c; refine (hQ _).mono ?_; rintro e w9 ⟨rfl, hb9⟩; have hbb := grow (w := wd) (by repeat (first | exact hbb | refine Below.drew ?_ | refine Below.setCell ?_ (by (try simp); try omega) _ | refine Below.alloc ?_ (by (try simp); try omega) _)) hb9; have hzz := hbb.size)
            | (go_at_call_of 52 p0; refine (hIK _).mono ?_; rintro e w10 ⟨rfl, hb10⟩; have hbb := grow (w := wd) (by repeat (first | exact hbb | refine Below.drew ?_ | refine Below.setCell ?_ (by (try simp); try omega) _ | refine Below.alloc ?_ (by (try simp); try omega) _)) hb10; have hzz := hbb.size)
            | (go_at_call 54; refine (hM _).mono ?_; rintro e w11 ⟨rfl, hb11⟩; have hbb := grow (w := wd) (by repeat (first | exact hbb | refine Below.drew ?_ | refine Below.setCell ?_ (by (try simp); try omega) _ | refine Below.alloc ?_ (by (try simp); try omega) _)) hb11; have hzz := hbb.size)
            | (go_at_call_of 52 q0; refine (hIM _).mono ?_; rintro e w12 ⟨rfl, hb12⟩; have hbb := grow (w := wd) (by repeat (first | exact hbb | refine Below.drew ?_ | refine Below.setCell ?_ (by (try simp); try omega) _ | refine Below.alloc ?_ (by (try simp); try omega) _)) hb12; have hzz := hbb.size))
        all_goals
          go_wp2_with fail
          go_ret
          refine ⟨rfl, hwe.trans (Below.mono (B := wd.heap.size) ?_ hze)⟩
          repeat (first | exact hbb | refine Below.drew ?_ | refine Below.setCell ?_ (by (try simp); try omega) _ | refine Below.alloc ?_ (by (try simp); try omega) _)
  · clear hc
    go_enter Try.func12, Try.ntmps12
    go_wp2_with go_in
    go_ret
    exact ⟨rfl, Below.refl _ _⟩

end Go.Proofs.Ytnmieocbpdoicaa.lDeMorgan
