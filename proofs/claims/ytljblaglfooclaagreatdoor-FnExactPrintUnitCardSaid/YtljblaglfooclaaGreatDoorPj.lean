/- Proved here: the printing of a node by the reference, by kind, the printing of its kids given. Condition: the node has its kids, the texts fit. Proved here: the printing of a leaf, of a negation, of a range by the reference, the printing of the kids given. Condition: the node has its kids, the texts fit. Proved here: the printing of a unary node by the reference, the printing of the kid given. Condition: the sizes fit. Proved here: the printing of a node that prints a list or words, by the reference, the printing of the kids given. Condition: the sizes fit. Proved here: the printing of a case by the reference, the printing of the kids given. Condition: the sizes fit. -/
import Derived.Test.YtljblaglfooclaaGreatDoorPq
namespace Go.Proofs.YtljblaglfooclaaGreatDoor
open Go.RowKit
namespace X

set_option maxRecDepth 20000 in
set_option maxHeartbeats 4000000 in
theorem pj8 (t : ByteArray) (n l : Int) (r : List X) (A : Option Addr) (cap : Nat) (w : World) (P : Nat → Prop) (hK : Kc w P r (.slice A r.length cap)) (hP : ∀ b, P b → b < w.heap.size) (hr : r.length = 2) (hC : PrS w P r)
    (hz : ∀ j need, j < r.length → (atT need (kd (PK r) j)).size ≤ 1000000000) (ht : t.size ≤ 1048576) :
    Calls Tryz.prog 30 #[.agg #[.int .i64 8, .string t, .int .i64 n, .int .i64 l, .slice A r.length cap]] w fun e w' => e = .returned (.string (noT lvB cqB 8 t n (PK r))) ∧ Below w.heap.size w w' := by
  obtain ⟨b, o, rfl, hb, hkid⟩ := hK.row (by omega)
  have hbw := hP b hb
  obtain ⟨A0, cap0, k0, v0⟩ := hkid 0 (by omega)
  have h0 := fun need (W : World) (hW : Below w.heap.size w W) => hC 0 (by omega) need W A0 cap0 hW k0
  have z0 := hz 0
  obtain ⟨A1, cap1, k1, v1⟩ := hkid 1 (by omega)
  have h1 := fun need (W : World) (hW : Below w.heap.size w W) => hC 1 (by omega) need W A1 cap1 hW k1
  have z1 := hz 1
  obtain ⟨L, hL⟩ : ∃ L, L = lvB t := ⟨_, rfl⟩
  have hLb : L ≤ 11 := by rw [hL]; exact lvB_bd t
  have hBl : ∀ W : World, Below w.heap.size w W → Calls Tryz.prog 47 #[.string t] W fun e w' => e = .returned (.int .i64 (L : Int)) ∧ Below W.heap.size W w' := fun W hW => by rw [hL]; exact specLevel t W
  have HN := Lib.hid (show noT lvB cqB 8 t n (PK r) = atT (if L = 3 ∨ L = 10 then L + 1 else L) (kd (PK r) 0) ++ ⟨#[32]⟩ ++ t ++ ⟨#[32]⟩ ++ atT (if L = 3 ∨ L = 10 then L else L + 1) (kd (PK r) 1) by rw [hL]; rfl)
  generalize PK r = K at h0 z0 h1 z1 HN
  rw [hr] at *
  generalize r[0] = x0 at *
  generalize r[1] = x1 at *
  clear hK hkid hC hz k0 k1
  obtain ⟨ka, ta, na, la, ra⟩ := x0
  rw [show o + 0 * 5 = o by omega] at v0
  obtain ⟨kb, tb, nb, lb, rb⟩ := x1
  rw [show o + 1 * 5 = o + 5 by omega] at v1
  obtain ⟨R, hR⟩ : ∃ R, R = L + 1 := ⟨_, rfl⟩
  have eR : (L : Int) + 1 = (R : Int) := by omega
  rw [← hR] at HN
  have hways : (((L : Int) == 3) = false ∧ ((L : Int) == 10) = false ∧ ¬ (L = 3 ∨ L = 10)) ∨ (((L : Int) == 3) = true ∧ (L = 3 ∨ L = 10)) ∨ (((L : Int) == 3) = false ∧ ((L : Int) == 10) = true ∧ (L = 3 ∨ L = 10)) := by
    by_cases e3 : L = 3
    · exact .inr (.inl ⟨by simp [e3], .inl e3⟩)
    · by_cases e10 : L = 10
      · exact .inr (.inr ⟨by simp [e10], by simp [e10], .inr e10⟩)
      · exact .inl ⟨by rw [beq_eq_false_iff_ne]; omega, by rw [beq_eq_false_iff_ne]; omega, by omega⟩
  clear hL hR
  rcases hways with ⟨e3, e10, hl⟩ | ⟨e3, hl⟩ | ⟨e3, e10, hl⟩
  · rw [if_neg hl, if_neg hl] at HN
    clear hl
    have q0 := z0 L (by omega)
    have H0 : Hid (∀ W : World, Below w.heap.size w W → Calls Tryz.prog 14 #[.agg #[.int .i64 ka, .string ta, .int .i64 na, .int .i64 la, .slice A0 ra.length cap0], .int .i64 (L : Int)] W fun e w' => e = .returned (.string (atT L (kd K 0))) ∧ Below W.heap.size W w') := Lib.hid (h0 L)
    have q1 := z1 R (by omega)
    have H1 : Hid (∀ W : World, Below w.heap.size w W → Calls Tryz.prog 14 #[.agg #[.int .i64 kb, .string tb, .int .i64 nb, .int .i64 lb, .slice A1 rb.length cap1], .int .i64 (R : Int)] W fun e w' => e = .returned (.string (atT R (kd K 1))) ∧ Below W.heap.size W w') := Lib.hid (h1 R)
    clear h0 z0 h1 z1
    obtain ⟨p0, hp0⟩ : ∃ p, p = atT L (kd K 0) := ⟨_, rfl⟩
    rw [← hp0] at q0 H0 HN
    obtain ⟨p1, hp1⟩ : ∃ p, p = atT R (kd K 1) := ⟨_, rfl⟩
    rw [← hp1] at q1 H1 HN
    clear hp0 hp1
    go_enter Tryz.func30, Tryz.ntmps30
    go_upto_region 26 with (go_at_call 47; refine (hBl _ (by repeat (first | exact Below.refl _ _ | refine Below.drew ?_ | refine Below.setCell ?_ (by (try simp); try omega) _ | refine Below.alloc ?_ (by (try simp); try omega) _))).mono ?_; rintro e w1 ⟨rfl, hb1⟩)
    have hbb : Below w.heap.size w w1 := Below.trans (by repeat (first | exact Below.refl _ _ | refine Below.drew ?_ | refine Below.setCell ?_ (by (try simp); try omega) _ | refine Below.alloc ?_ (by (try simp); try omega) _)) (hb1.mono (by simp))
    have hv := Var.kept (Var.new w 8 t n l (.slice (some ⟨b, o, none⟩) 2 cap) 46) hb1
    clear hBl hb1
    have hzz := hbb.size
    have u0 := v0.below hbb hbw
    have u1 := v1.below hbb hbw
    obtain ⟨a0, a1, a2, a3, a4⟩ := id u0
    obtain ⟨b0, b1, b2, b3, b4⟩ := id u1
    obtain ⟨e0, e1, e2, e3', e4⟩ := id hv
    clear v0 v1
    have g0 : ¬ 9223372036854775807 < p0.size + 1 := by omega
    have g1 : ¬ 9223372036854775807 < p0.size + 1 + t.size := by omega
    have g2 : ¬ 9223372036854775807 < p0.size + 1 + t.size + 1 := by omega
    have g3 : ¬ 9223372036854775807 < p0.size + 1 + t.size + 1 + p1.size := by omega
    have HU := Lib.hid (And.intro hv (And.intro u0 u1))
    clear hv u0 u1
    go_region_held3 (fun w' => ((w'.cell? ⟨w.heap.size, 1, none⟩ = some (.string t) ∧ w'.cell? ⟨w.heap.size, 4, none⟩ = some (.slice (some ⟨b, o, none⟩) 2 cap)) ∧ (w'.cell? ⟨b, o, none⟩ = some (.int .i64 ka) ∧ w'.cell? ⟨b, o + 1, none⟩ = some (.string ta) ∧ w'.cell? ⟨b, o + 2, none⟩ = some (.int .i64 na) ∧ w'.cell? ⟨b, o + 3, none⟩ = some (.int .i64 la) ∧ w'.cell? ⟨b, o + 4, none⟩ = some (.slice A0 ra.length cap0)) ∧ (w'.cell? ⟨b, o + 5, none⟩ = some (.int .i64 kb) ∧ w'.cell? ⟨b, o + 5 + 1, none⟩ = some (.string tb) ∧ w'.cell? ⟨b, o + 5 + 2, none⟩ = some (.int .i64 nb) ∧ w'.cell? ⟨b, o + 5 + 3, none⟩ = some (.int .i64 lb) ∧ w'.cell? ⟨b, o + 5 + 4, none⟩ = some (.slice A1 rb.length cap1)))) ((refine keepP2 HU.out ?_; repeat (first | exact Below.refl _ _ | refine Below.drew ?_ | refine Below.alloc ?_ (by (try simp); try omega) _ | refine Below.trans ?_ (hb3.mono (by (try simp); try omega)) | refine Below.trans ?_ (hb4.mono (by (try simp); try omega)) | refine Below.trans ?_ (hb5.mono (by (try simp); try omega)))))
      (first
        | (go_at_call 14; have tok := hb3; refine (H1.out _ (by repeat (first | exact hbb | refine Below.drew ?_ | refine Below.setCell ?_ (by (try simp); try omega) _ | refine Below.alloc ?_ (by (try simp); try omega) _))).mono ?_; rintro e w4 ⟨rfl, hb4⟩; have hbb := growT (w := w) (by repeat (first | exact hbb | refine Below.drew ?_ | refine Below.setCell ?_ (by (try simp); try omega) _ | refine Below.alloc ?_ (by (try simp); try omega) _)) hb4; have hzz := hbb.size; have hs4 := hb4.size; (try simp at hs4))
        | (go_at_call 14; refine (H0.out _ (by repeat (first | exact hbb | refine Below.drew ?_ | refine Below.setCell ?_ (by (try simp); try omega) _ | refine Below.alloc ?_ (by (try simp); try omega) _))).mono ?_; rintro e w3 ⟨rfl, hb3⟩; have hbb := growT (w := w) (by repeat (first | exact hbb | refine Below.drew ?_ | refine Below.setCell ?_ (by (try simp); try omega) _ | refine Below.alloc ?_ (by (try simp); try omega) _)) hb3; have hzz := hbb.size; have hs3 := hb3.size; (try simp at hs3)))
    all_goals
      go_wp2_with fail
      go_ret
      exact ⟨ret_s HN.out.symm, by repeat (first | exact hbb | refine Below.drew ?_ | refine Below.setCell ?_ (by (try simp); try omega) _ | refine Below.alloc ?_ (by (try simp); try omega) _)⟩
  · rw [if_pos hl, if_pos hl] at HN
    clear hl
    have q0 := z0 R (by omega)
    have H0 : Hid (∀ W : World, Below w.heap.size w W → Calls Tryz.prog 14 #[.agg #[.int .i64 ka, .string ta, .int .i64 na, .int .i64 la, .slice A0 ra.length cap0], .int .i64 (R : Int)] W fun e w' => e = .returned (.string (atT R (kd K 0))) ∧ Below W.heap.size W w') := Lib.hid (h0 R)
    have q1 := z1 L (by omega)
    have H1 : Hid (∀ W : World, Below w.heap.size w W → Calls Tryz.prog 14 #[.agg #[.int .i64 kb, .string tb, .int .i64 nb, .int .i64 lb, .slice A1 rb.length cap1], .int .i64 (L : Int)] W fun e w' => e = .returned (.string (atT L (kd K 1))) ∧ Below W.heap.size W w') := Lib.hid (h1 L)
    clear h0 z0 h1 z1
    obtain ⟨p0, hp0⟩ : ∃ p, p = atT R (kd K 0) := ⟨_, rfl⟩
    rw [← hp0] at q0 H0 HN
    obtain ⟨p1, hp1⟩ : ∃ p, p = atT L (kd K 1) := ⟨_, rfl⟩
    rw [← hp1] at q1 H1 HN
    clear hp0 hp1
    go_enter Tryz.func30, Tryz.ntmps30
    go_upto_region 26 with (go_at_call 47; refine (hBl _ (by repeat (first | exact Below.refl _ _ | refine Below.drew ?_ | refine Below.setCell ?_ (by (try simp); try omega) _ | refine Below.alloc ?_ (by (try simp); try omega) _))).mono ?_; rintro e w1 ⟨rfl, hb1⟩)
    have hbb : Below w.heap.size w w1 := Below.trans (by repeat (first | exact Below.refl _ _ | refine Below.drew ?_ | refine Below.setCell ?_ (by (try simp); try omega) _ | refine Below.alloc ?_ (by (try simp); try omega) _)) (hb1.mono (by simp))
    have hv := Var.kept (Var.new w 8 t n l (.slice (some ⟨b, o, none⟩) 2 cap) 46) hb1
    clear hBl hb1
    have hzz := hbb.size
    have u0 := v0.below hbb hbw
    have u1 := v1.below hbb hbw
    obtain ⟨a0, a1, a2, a3, a4⟩ := id u0
    obtain ⟨b0, b1, b2, b3, b4⟩ := id u1
    obtain ⟨e0, e1, e2, e3', e4⟩ := id hv
    clear v0 v1
    have g0 : ¬ 9223372036854775807 < p0.size + 1 := by omega
    have g1 : ¬ 9223372036854775807 < p0.size + 1 + t.size := by omega
    have g2 : ¬ 9223372036854775807 < p0.size + 1 + t.size + 1 := by omega
    have g3 : ¬ 9223372036854775807 < p0.size + 1 + t.size + 1 + p1.size := by omega
    have HU := Lib.hid (And.intro hv (And.intro u0 u1))
    clear hv u0 u1
    go_region_held3 (fun w' => ((w'.cell? ⟨w.heap.size, 1, none⟩ = some (.string t) ∧ w'.cell? ⟨w.heap.size, 4, none⟩ = some (.slice (some ⟨b, o, none⟩) 2 cap)) ∧ (w'.cell? ⟨b, o, none⟩ = some (.int .i64 ka) ∧ w'.cell? ⟨b, o + 1, none⟩ = some (.string ta) ∧ w'.cell? ⟨b, o + 2, none⟩ = some (.int .i64 na) ∧ w'.cell? ⟨b, o + 3, none⟩ = some (.int .i64 la) ∧ w'.cell? ⟨b, o + 4, none⟩ = some (.slice A0 ra.length cap0)) ∧ (w'.cell? ⟨b, o + 5, none⟩ = some (.int .i64 kb) ∧ w'.cell? ⟨b, o + 5 + 1, none⟩ = some (.string tb) ∧ w'.cell? ⟨b, o + 5 + 2, none⟩ = some (.int .i64 nb) ∧ w'.cell? ⟨b, o + 5 + 3, none⟩ = some (.int .i64 lb) ∧ w'.cell? ⟨b, o + 5 + 4, none⟩ = some (.slice A1 rb.length cap1)))) ((refine keepP2 HU.out ?_; repeat (first | exact Below.refl _ _ | refine Below.drew ?_ | refine Below.alloc ?_ (by (try simp); try omega) _ | refine Below.trans ?_ (hb3.mono (by (try simp); try omega)) | refine Below.trans ?_ (hb4.mono (by (try simp); try omega)) | refine Below.trans ?_ (hb5.mono (by (try simp); try omega)))))
      (first
        | (go_at_call 14; have tok := hb3; refine (H1.out _ (by repeat (first | exact hbb | refine Below.drew ?_ | refine Below.setCell ?_ (by (try simp); try omega) _ | refine Below.alloc ?_ (by (try simp); try omega) _))).mono ?_; rintro e w4 ⟨rfl, hb4⟩; have hbb := growT (w := w) (by repeat (first | exact hbb | refine Below.drew ?_ | refine Below.setCell ?_ (by (try simp); try omega) _ | refine Below.alloc ?_ (by (try simp); try omega) _)) hb4; have hzz := hbb.size; have hs4 := hb4.size; (try simp at hs4))
        | (go_at_call 14; refine (H0.out _ (by repeat (first | exact hbb | refine Below.drew ?_ | refine Below.setCell ?_ (by (try simp); try omega) _ | refine Below.alloc ?_ (by (try simp); try omega) _))).mono ?_; rintro e w3 ⟨rfl, hb3⟩; have hbb := growT (w := w) (by repeat (first | exact hbb | refine Below.drew ?_ | refine Below.setCell ?_ (by (try simp); try omega) _ | refine Below.alloc ?_ (by (try simp); try omega) _)) hb3; have hzz := hbb.size; have hs3 := hb3.size; (try simp at hs3)))
    all_goals
      go_wp2_with fail
      go_ret
      exact ⟨ret_s HN.out.symm, by repeat (first | exact hbb | refine Below.drew ?_ | refine Below.setCell ?_ (by (try simp); try omega) _ | refine Below.alloc ?_ (by (try simp); try omega) _)⟩
  · rw [if_pos hl, if_pos hl] at HN
    clear hl
    have q0 := z0 R (by omega)
    have H0 : Hid (∀ W : World, Below w.heap.size w W → Calls Tryz.prog 14 #[.agg #[.int .i64 ka, .string ta, .int .i64 na, .int .i64 la, .slice A0 ra.length cap0], .int .i64 (R : Int)] W fun e w' => e = .returned (.string (atT R (kd K 0))) ∧ Below W.heap.size W w') := Lib.hid (h0 R)
    have q1 := z1 L (by omega)
    have H1 : Hid (∀ W : World, Below w.heap.size w W → Calls Tryz.prog 14 #[.agg #[.int .i64 kb, .string tb, .int .i64 nb, .int .i64 lb, .slice A1 rb.length cap1], .int .i64 (L : Int)] W fun e w' => e = .returned (.string (atT L (kd K 1))) ∧ Below W.heap.size W w') := Lib.hid (h1 L)
    clear h0 z0 h1 z1
    obtain ⟨p0, hp0⟩ : ∃ p, p = atT R (kd K 0) := ⟨_, rfl⟩
    rw [← hp0] at q0 H0 HN
    obtain ⟨p1, hp1⟩ : ∃ p, p = atT L (kd K 1) := ⟨_, rfl⟩
    rw [← hp1] at q1 H1 HN
    clear hp0 hp1
    go_enter Tryz.func30, Tryz.ntmps30
    go_upto_region 26 with (go_at_call 47; refine (hBl _ (by repeat (first | exact Below.refl _ _ | refine Below.drew ?_ | refine Below.setCell ?_ (by (try simp); try omega) _ | refine Below.alloc ?_ (by (try simp); try omega) _))).mono ?_; rintro e w1 ⟨rfl, hb1⟩)
    have hbb : Below w.heap.size w w1 := Below.trans (by repeat (first | exact Below.refl _ _ | refine Below.drew ?_ | refine Below.setCell ?_ (by (try simp); try omega) _ | refine Below.alloc ?_ (by (try simp); try omega) _)) (hb1.mono (by simp))
    have hv := Var.kept (Var.new w 8 t n l (.slice (some ⟨b, o, none⟩) 2 cap) 46) hb1
    clear hBl hb1
    have hzz := hbb.size
    have u0 := v0.below hbb hbw
    have u1 := v1.below hbb hbw
    obtain ⟨a0, a1, a2, a3, a4⟩ := id u0
    obtain ⟨b0, b1, b2, b3, b4⟩ := id u1
    obtain ⟨e0, e1, e2, e3', e4⟩ := id hv
    clear v0 v1
    have g0 : ¬ 9223372036854775807 < p0.size + 1 := by omega
    have g1 : ¬ 9223372036854775807 < p0.size + 1 + t.size := by omega
    have g2 : ¬ 9223372036854775807 < p0.size + 1 + t.size + 1 := by omega
    have g3 : ¬ 9223372036854775807 < p0.size + 1 + t.size + 1 + p1.size := by omega
    have HU := Lib.hid (And.intro hv (And.intro u0 u1))
    clear hv u0 u1
    go_region_held3 (fun w' => ((w'.cell? ⟨w.heap.size, 1, none⟩ = some (.string t) ∧ w'.cell? ⟨w.heap.size, 4, none⟩ = some (.slice (some ⟨b, o, none⟩) 2 cap)) ∧ (w'.cell? ⟨b, o, none⟩ = some (.int .i64 ka) ∧ w'.cell? ⟨b, o + 1, none⟩ = some (.string ta) ∧ w'.cell? ⟨b, o + 2, none⟩ = some (.int .i64 na) ∧ w'.cell? ⟨b, o + 3, none⟩ = some (.int .i64 la) ∧ w'.cell? ⟨b, o + 4, none⟩ = some (.slice A0 ra.length cap0)) ∧ (w'.cell? ⟨b, o + 5, none⟩ = some (.int .i64 kb) ∧ w'.cell? ⟨b, o + 5 + 1, none⟩ = some (.string tb) ∧ w'.cell? ⟨b, o + 5 + 2, none⟩ = some (.int .i64 nb) ∧ w'.cell? ⟨b, o + 5 + 3, none⟩ = some (.int .i64 lb) ∧ w'.cell? ⟨b, o + 5 + 4, none⟩ = some (.slice A1 rb.length cap1)))) ((refine keepP2 HU.out ?_; repeat (first | exact Below.refl _ _ | refine Below.drew ?_ | refine Below.alloc ?_ (by (try simp); try omega) _ | refine Below.trans ?_ (hb3.mono (by (try simp); try omega)) | refine Below.trans ?_ (hb4.mono (by (try simp); try omega)) | refine Below.trans ?_ (hb5.mono (by (try simp); try omega)))))
      (first
        | (go_at_call 14; have tok := hb3; refine (H1.out _ (by repeat (first | exact hbb | refine Below.drew ?_ | refine Below.setCell ?_ (by (try simp); try omega) _ | refine Below.alloc ?_ (by (try simp); try omega) _))).mono ?_; rintro e w4 ⟨rfl, hb4⟩; have hbb := growT (w := w) (by repeat (first | exact hbb | refine Below.drew ?_ | refine Below.setCell ?_ (by (try simp); try omega) _ | refine Below.alloc ?_ (by (try simp); try omega) _)) hb4; have hzz := hbb.size; have hs4 := hb4.size; (try simp at hs4))
        | (go_at_call 14; refine (H0.out _ (by repeat (first | exact hbb | refine Below.drew ?_ | refine Below.setCell ?_ (by (try simp); try omega) _ | refine Below.alloc ?_ (by (try simp); try omega) _))).mono ?_; rintro e w3 ⟨rfl, hb3⟩; have hbb := growT (w := w) (by repeat (first | exact hbb | refine Below.drew ?_ | refine Below.setCell ?_ (by (try simp); try omega) _ | refine Below.alloc ?_ (by (try simp); try omega) _)) hb3; have hzz := hbb.size; have hs3 := hb3.size; (try simp at hs3)))
    all_goals
      go_wp2_with fail
      go_ret
      exact ⟨ret_s HN.out.symm, by repeat (first | exact hbb | refine Below.drew ?_ | refine Below.setCell ?_ (by (try simp); try omega) _ | refine Below.alloc ?_ (by (try simp); try omega) _)⟩
set_option maxRecDepth 20000 in
set_option maxHeartbeats 4000000 in
theorem pj11 (t : ByteArray) (n l : Int) (r : List X) (A : Option Addr) (cap : Nat) (w : World) (P : Nat → Prop) (hK : Kc w P r (.slice A r.length cap)) (hP : ∀ b, P b → b < w.heap.size) (hr : r.length = 2) (hC : PrS w P r)
    (hz : ∀ j need, j < r.length → (atT need (kd (PK r) j)).size ≤ 1000000000) (_ht : t.size ≤ 1048576) :
    Calls Tryz.prog 30 #[.agg #[.int .i64 11, .string t, .int .i64 n, .int .i64 l, .slice A r.length cap]] w fun e w' => e = .returned (.string (noT lvB cqB 11 t n (PK r))) ∧ Below w.heap.size w w' := by
  obtain ⟨b, o, rfl, hb, hkid⟩ := hK.row (by omega)
  have hbw := hP b hb
  obtain ⟨A0, cap0, k0, v0⟩ := hkid 0 (by omega)
  have h0 := fun need (W : World) (hW : Below w.heap.size w W) => hC 0 (by omega) need W A0 cap0 hW k0
  have z0 := hz 0
  obtain ⟨A1, cap1, k1, v1⟩ := hkid 1 (by omega)
  have h1 := fun need (W : World) (hW : Below w.heap.size w W) => hC 1 (by omega) need W A1 cap1 hW k1
  have z1 := hz 1
  have HN := Lib.hid (show noT lvB cqB 11 t n (PK r) = atT 13 (kd (PK r) 0) ++ ⟨#[91]⟩ ++ atT 0 (kd (PK r) 1) ++ ⟨#[93]⟩ by rfl)
  generalize PK r = K at h0 z0 h1 z1 HN
  rw [hr] at *
  generalize r[0] = x0 at *
  generalize r[1] = x1 at *
  clear hK hkid hC hz k0 k1
  obtain ⟨ka, ta, na, la, ra⟩ := x0
  rw [show o + 0 * 5 = o by omega] at v0
  obtain ⟨kb, tb, nb, lb, rb⟩ := x1
  rw [show o + 1 * 5 = o + 5 by omega] at v1
  have q0 := z0 13 (by omega)
  have H0 : Hid (∀ W : World, Below w.heap.size w W → Calls Tryz.prog 14 #[.agg #[.int .i64 ka, .string ta, .int .i64 na, .int .i64 la, .slice A0 ra.length cap0], .int .i64 13] W fun e w' => e = .returned (.string (atT 13 (kd K 0))) ∧ Below W.heap.size W w') := Lib.hid (h0 13)
  have q1 := z1 0 (by omega)
  have H1 : Hid (∀ W : World, Below w.heap.size w W → Calls Tryz.prog 14 #[.agg #[.int .i64 kb, .string tb, .int .i64 nb, .int .i64 lb, .slice A1 rb.length cap1], .int .i64 0] W fun e w' => e = .returned (.string (atT 0 (kd K 1))) ∧ Below W.heap.size W w') := Lib.hid (h1 0)
  clear h0 z0 h1 z1
  obtain ⟨p0, hp0⟩ : ∃ p, p = atT 13 (kd K 0) := ⟨_, rfl⟩
  rw [← hp0] at q0 H0 HN
  obtain ⟨p1, hp1⟩ : ∃ p, p = atT 0 (kd K 1) := ⟨_, rfl⟩
  rw [← hp1] at q1 H1 HN
  clear hp0 hp1
  go_enter Tryz.func30, Tryz.ntmps30
  go_upto_region 35 with fail
  generalize hW1 : w.alloc (.cells #[.int .i64 11, .string t, .int .i64 n, .int .i64 l, .slice (some ⟨b, o, none⟩) 2 cap] 46) = w1
  have hbb : Below w.heap.size w w1 := by rw [← hW1]; repeat (first | exact Below.refl _ _ | refine Below.drew ?_ | refine Below.setCell ?_ (by (try simp); try omega) _ | refine Below.alloc ?_ (by (try simp); try omega) _)
  have hv : Var w1 w.heap.size 11 t n l (.slice (some ⟨b, o, none⟩) 2 cap) := by rw [← hW1]; exact Var.new w 11 t n l _ 46
  clear hW1
  have hzz := hbb.size
  have u0 := v0.below hbb hbw
  have u1 := v1.below hbb hbw
  obtain ⟨a0, a1, a2, a3, a4⟩ := id u0
  obtain ⟨b0, b1, b2, b3, b4⟩ := id u1
  obtain ⟨e0, e1, e2, e3', e4⟩ := id hv
  clear v0 v1
  have g0 : ¬ 9223372036854775807 < p0.size + 1 := by omega
  have g1 : ¬ 9223372036854775807 < p0.size + 1 + p1.size := by omega
  have g2 : ¬ 9223372036854775807 < p0.size + 1 + p1.size + 1 := by omega
  have HU := Lib.hid (And.intro hv (And.intro u0 u1))
  clear hv u0 u1
  go_region_held3 (fun w' => ((w'.cell? ⟨w.heap.size, 1, none⟩ = some (.string t) ∧ w'.cell? ⟨w.heap.size, 4, none⟩ = some (.slice (some ⟨b, o, none⟩) 2 cap)) ∧ (w'.cell? ⟨b, o, none⟩ = some (.int .i64 ka) ∧ w'.cell? ⟨b, o + 1, none⟩ = some (.string ta) ∧ w'.cell? ⟨b, o + 2, none⟩ = some (.int .i64 na) ∧ w'.cell? ⟨b, o + 3, none⟩ = some (.int .i64 la) ∧ w'.cell? ⟨b, o + 4, none⟩ = some (.slice A0 ra.length cap0)) ∧ (w'.cell? ⟨b, o + 5, none⟩ = some (.int .i64 kb) ∧ w'.cell? ⟨b, o + 5 + 1, none⟩ = some (.string tb) ∧ w'.cell? ⟨b, o + 5 + 2, none⟩ = some (.int .i64 nb) ∧ w'.cell? ⟨b, o + 5 + 3, none⟩ = some (.int .i64 lb) ∧ w'.cell? ⟨b, o + 5 + 4, none⟩ = some (.slice A1 rb.length cap1)))) ((refine keepP2 HU.out ?_; repeat (first | exact Below.refl _ _ | refine Below.drew ?_ | refine Below.alloc ?_ (by (try simp); try omega) _ | refine Below.trans ?_ (hb3.mono (by (try simp); try omega)) | refine Below.trans ?_ (hb4.mono (by (try simp); try omega)) | refine Below.trans ?_ (hb5.mono (by (try simp); try omega)))))
    (first
      | (go_at_call 14; have tok := hb3; refine (H1.out _ (by repeat (first | exact hbb | refine Below.drew ?_ | refine Below.setCell ?_ (by (try simp); try omega) _ | refine Below.alloc ?_ (by (try simp); try omega) _))).mono ?_; rintro e w4 ⟨rfl, hb4⟩; have hbb := growT (w := w) (by repeat (first | exact hbb | refine Below.drew ?_ | refine Below.setCell ?_ (by (try simp); try omega) _ | refine Below.alloc ?_ (by (try simp); try omega) _)) hb4; have hzz := hbb.size; have hs4 := hb4.size; (try simp at hs4))
      | (go_at_call 14; refine (H0.out _ (by repeat (first | exact hbb | refine Below.drew ?_ | refine Below.setCell ?_ (by (try simp); try omega) _ | refine Below.alloc ?_ (by (try simp); try omega) _))).mono ?_; rintro e w3 ⟨rfl, hb3⟩; have hbb := growT (w := w) (by repeat (first | exact hbb | refine Below.drew ?_ | refine Below.setCell ?_ (by (try simp); try omega) _ | refine Below.alloc ?_ (by (try simp); try omega) _)) hb3; have hzz := hbb.size; have hs3 := hb3.size; (try simp at hs3)))
  all_goals
    go_wp2_with fail
    go_ret
    exact ⟨ret_s HN.out.symm, by repeat (first | exact hbb | refine Below.drew ?_ | refine Below.setCell ?_ (by (try simp); try omega) _ | refine Below.alloc ?_ (by (try simp); try omega) _)⟩
set_option maxRecDepth 20000 in
set_option maxHeartbeats 4000000 in
theorem pj12 (t : ByteArray) (n l : Int) (r : List X) (A : Option Addr) (cap : Nat) (w : World) (P : Nat → Prop) (hK : Kc w P r (.slice A r.length cap)) (hP : ∀ b, P b → b < w.heap.size) (hr : r.length = 3) (hC : PrS w P r)
    (hz : ∀ j need, j < r.length → (atT need (kd (PK r) j)).size ≤ 1000000000) (_ht : t.size ≤ 1048576) :
    Calls Tryz.prog 30 #[.agg #[.int .i64 12, .string t, .int .i64 n, .int .i64 l, .slice A r.length cap]] w fun e w' => e = .returned (.string (noT lvB cqB 12 t n (PK r))) ∧ Below w.heap.size w w' := by
  obtain ⟨b, o, rfl, hb, hkid⟩ := hK.row (by omega)
  have hbw := hP b hb
  obtain ⟨A0, cap0, k0, v0⟩ := hkid 0 (by omega)
  have h0 := fun need (W : World) (hW : Below w.heap.size w W) => hC 0 (by omega) need W A0 cap0 hW k0
  have z0 := hz 0
  obtain ⟨A1, cap1, k1, v1⟩ := hkid 1 (by omega)
  have h1 := fun need (W : World) (hW : Below w.heap.size w W) => hC 1 (by omega) need W A1 cap1 hW k1
  have z1 := hz 1
  obtain ⟨A2, cap2, k2, v2⟩ := hkid 2 (by omega)
  have h2 := fun need (W : World) (hW : Below w.heap.size w W) => hC 2 (by omega) need W A2 cap2 hW k2
  have z2 := hz 2
  have HN := Lib.hid (show noT lvB cqB 12 t n (PK r) = atT 13 (kd (PK r) 0) ++ ⟨#[91]⟩ ++ atT 1 (kd (PK r) 1) ++ ⟨#[32, 58, 32]⟩ ++ atT 0 (kd (PK r) 2) ++ ⟨#[93]⟩ by rfl)
  generalize PK r = K at h0 z0 h1 z1 h2 z2 HN
  rw [hr] at *
  generalize r[0] = x0 at *
  generalize r[1] = x1 at *
  generalize r[2] = x2 at *
  clear hK hkid hC hz k0 k1 k2
  obtain ⟨ka, ta, na, la, ra⟩ := x0
  rw [show o + 0 * 5 = o by omega] at v0
  obtain ⟨kb, tb, nb, lb, rb⟩ := x1
  rw [show o + 1 * 5 = o + 5 by omega] at v1
  obtain ⟨kc, tc, nc, lc, rc⟩ := x2
  rw [show o + 2 * 5 = o + 10 by omega] at v2
  have q0 := z0 13 (by omega)
  have H0 : Hid (∀ W : World, Below w.heap.size w W → Calls Tryz.prog 14 #[.agg #[.int .i64 ka, .string ta, .int .i64 na, .int .i64 la, .slice A0 ra.length cap0], .int .i64 13] W fun e w' => e = .returned (.string (atT 13 (kd K 0))) ∧ Below W.heap.size W w') := Lib.hid (h0 13)
  have q1 := z1 1 (by omega)
  have H1 : Hid (∀ W : World, Below w.heap.size w W → Calls Tryz.prog 14 #[.agg #[.int .i64 kb, .string tb, .int .i64 nb, .int .i64 lb, .slice A1 rb.length cap1], .int .i64 1] W fun e w' => e = .returned (.string (atT 1 (kd K 1))) ∧ Below W.heap.size W w') := Lib.hid (h1 1)
  have q2 := z2 0 (by omega)
  have H2 : Hid (∀ W : World, Below w.heap.size w W → Calls Tryz.prog 14 #[.agg #[.int .i64 kc, .string tc, .int .i64 nc, .int .i64 lc, .slice A2 rc.length cap2], .int .i64 0] W fun e w' => e = .returned (.string (atT 0 (kd K 2))) ∧ Below W.heap.size W w') := Lib.hid (h2 0)
  clear h0 z0 h1 z1 h2 z2
  obtain ⟨p0, hp0⟩ : ∃ p, p = atT 13 (kd K 0) := ⟨_, rfl⟩
  rw [← hp0] at q0 H0 HN
  obtain ⟨p1, hp1⟩ : ∃ p, p = atT 1 (kd K 1) := ⟨_, rfl⟩
  rw [← hp1] at q1 H1 HN
  obtain ⟨p2, hp2⟩ : ∃ p, p = atT 0 (kd K 2) := ⟨_, rfl⟩
  rw [← hp2] at q2 H2 HN
  clear hp0 hp1 hp2
  go_enter Tryz.func30, Tryz.ntmps30
  go_upto_region 37 with fail
  generalize hW1 : w.alloc (.cells #[.int .i64 12, .string t, .int .i64 n, .int .i64 l, .slice (some ⟨b, o, none⟩) 3 cap] 46) = w1
  have hbb : Below w.heap.size w w1 := by rw [← hW1]; repeat (first | exact Below.refl _ _ | refine Below.drew ?_ | refine Below.setCell ?_ (by (try simp); try omega) _ | refine Below.alloc ?_ (by (try simp); try omega) _)
  have hv : Var w1 w.heap.size 12 t n l (.slice (some ⟨b, o, none⟩) 3 cap) := by rw [← hW1]; exact Var.new w 12 t n l _ 46
  clear hW1
  have hzz := hbb.size
  have u0 := v0.below hbb hbw
  have u1 := v1.below hbb hbw
  have u2 := v2.below hbb hbw
  obtain ⟨a0, a1, a2, a3, a4⟩ := id u0
  obtain ⟨b0, b1, b2, b3, b4⟩ := id u1
  obtain ⟨c0, c1, c2, c3, c4⟩ := id u2
  obtain ⟨e0, e1, e2, e3', e4⟩ := id hv
  clear v0 v1 v2
  have g0 : ¬ 9223372036854775807 < p0.size + 1 := by omega
  have g1 : ¬ 9223372036854775807 < p0.size + 1 + p1.size := by omega
  have g2 : ¬ 9223372036854775807 < p0.size + 1 + p1.size + 3 := by omega
  have g3 : ¬ 9223372036854775807 < p0.size + 1 + p1.size + 3 + p2.size := by omega
  have g4 : ¬ 9223372036854775807 < p0.size + 1 + p1.size + 3 + p2.size + 1 := by omega
  have HU := Lib.hid (And.intro hv (And.intro u0 (And.intro u1 u2)))
  clear hv u0 u1 u2
  go_region_held3 (fun w' => ((w'.cell? ⟨w.heap.size, 1, none⟩ = some (.string t) ∧ w'.cell? ⟨w.heap.size, 4, none⟩ = some (.slice (some ⟨b, o, none⟩) 3 cap)) ∧ (w'.cell? ⟨b, o, none⟩ = some (.int .i64 ka) ∧ w'.cell? ⟨b, o + 1, none⟩ = some (.string ta) ∧ w'.cell? ⟨b, o + 2, none⟩ = some (.int .i64 na) ∧ w'.cell? ⟨b, o + 3, none⟩ = some (.int .i64 la) ∧ w'.cell? ⟨b, o + 4, none⟩ = some (.slice A0 ra.length cap0)) ∧ (w'.cell? ⟨b, o + 5, none⟩ = some (.int .i64 kb) ∧ w'.cell? ⟨b, o + 5 + 1, none⟩ = some (.string tb) ∧ w'.cell? ⟨b, o + 5 + 2, none⟩ = some (.int .i64 nb) ∧ w'.cell? ⟨b, o + 5 + 3, none⟩ = some (.int .i64 lb) ∧ w'.cell? ⟨b, o + 5 + 4, none⟩ = some (.slice A1 rb.length cap1)) ∧ (w'.cell? ⟨b, o + 10, none⟩ = some (.int .i64 kc) ∧ w'.cell? ⟨b, o + 10 + 1, none⟩ = some (.string tc) ∧ w'.cell? ⟨b, o + 10 + 2, none⟩ = some (.int .i64 nc) ∧ w'.cell? ⟨b, o + 10 + 3, none⟩ = some (.int .i64 lc) ∧ w'.cell? ⟨b, o + 10 + 4, none⟩ = some (.slice A2 rc.length cap2)))) ((refine keepP3 HU.out ?_; repeat (first | exact Below.refl _ _ | refine Below.drew ?_ | refine Below.alloc ?_ (by (try simp); try omega) _ | refine Below.trans ?_ (hb3.mono (by (try simp); try omega)) | refine Below.trans ?_ (hb4.mono (by (try simp); try omega)) | refine Below.trans ?_ (hb5.mono (by (try simp); try omega)))))
    (first
      | (go_at_call 14; have tok := hb4; refine (H2.out _ (by repeat (first | exact hbb | refine Below.drew ?_ | refine Below.setCell ?_ (by (try simp); try omega) _ | refine Below.alloc ?_ (by (try simp); try omega) _))).mono ?_; rintro e w5 ⟨rfl, hb5⟩; have hbb := growT (w := w) (by repeat (first | exact hbb | refine Below.drew ?_ | refine Below.setCell ?_ (by (try simp); try omega) _ | refine Below.alloc ?_ (by (try simp); try omega) _)) hb5; have hzz := hbb.size; have hs5 := hb5.size; (try simp at hs5))
      | (go_at_call 14; have tok := hb3; refine (H1.out _ (by repeat (first | exact hbb | refine Below.drew ?_ | refine Below.setCell ?_ (by (try simp); try omega) _ | refine Below.alloc ?_ (by (try simp); try omega) _))).mono ?_; rintro e w4 ⟨rfl, hb4⟩; have hbb := growT (w := w) (by repeat (first | exact hbb | refine Below.drew ?_ | refine Below.setCell ?_ (by (try simp); try omega) _ | refine Below.alloc ?_ (by (try simp); try omega) _)) hb4; have hzz := hbb.size; have hs4 := hb4.size; (try simp at hs4))
      | (go_at_call 14; refine (H0.out _ (by repeat (first | exact hbb | refine Below.drew ?_ | refine Below.setCell ?_ (by (try simp); try omega) _ | refine Below.alloc ?_ (by (try simp); try omega) _))).mono ?_; rintro e w3 ⟨rfl, hb3⟩; have hbb := growT (w := w) (by repeat (first | exact hbb | refine Below.drew ?_ | refine Below.setCell ?_ (by (try simp); try omega) _ | refine Below.alloc ?_ (by (try simp); try omega) _)) hb3; have hzz := hbb.size; have hs3 := hb3.size; (try simp at hs3)))
  all_goals
    go_wp2_with fail
    go_ret
    exact ⟨ret_s HN.out.symm, by repeat (first | exact hbb | refine Below.drew ?_ | refine Below.setCell ?_ (by (try simp); try omega) _ | refine Below.alloc ?_ (by (try simp); try omega) _)⟩
set_option maxRecDepth 20000 in
set_option maxHeartbeats 4000000 in
theorem pj13 (t : ByteArray) (n l : Int) (r : List X) (A : Option Addr) (cap : Nat) (w : World) (P : Nat → Prop) (hK : Kc w P r (.slice A r.length cap)) (hP : ∀ b, P b → b < w.heap.size) (hr : r.length = 1) (hC : PrS w P r)
    (hz : ∀ j need, j < r.length → (atT need (kd (PK r) j)).size ≤ 1000000000) (ht : t.size ≤ 1048576) :
    Calls Tryz.prog 30 #[.agg #[.int .i64 13, .string t, .int .i64 n, .int .i64 l, .slice A r.length cap]] w fun e w' => e = .returned (.string (noT lvB cqB 13 t n (PK r))) ∧ Below w.heap.size w w' := by
  obtain ⟨b, o, rfl, hb, hkid⟩ := hK.row (by omega)
  have hbw := hP b hb
  obtain ⟨A0, cap0, k0, v0⟩ := hkid 0 (by omega)
  have h0 := fun need (W : World) (hW : Below w.heap.size w W) => hC 0 (by omega) need W A0 cap0 hW k0
  have z0 := hz 0
  have HN := Lib.hid (show noT lvB cqB 13 t n (PK r) = atT 13 (kd (PK r) 0) ++ ⟨#[46]⟩ ++ t by rfl)
  generalize PK r = K at h0 z0 HN
  rw [hr] at *
  generalize r[0] = x0 at *
  clear hK hkid hC hz k0
  obtain ⟨ka, ta, na, la, ra⟩ := x0
  rw [show o + 0 * 5 = o by omega] at v0
  have q0 := z0 13 (by omega)
  have H0 : Hid (∀ W : World, Below w.heap.size w W → Calls Tryz.prog 14 #[.agg #[.int .i64 ka, .string ta, .int .i64 na, .int .i64 la, .slice A0 ra.length cap0], .int .i64 13] W fun e w' => e = .returned (.string (atT 13 (kd K 0))) ∧ Below W.heap.size W w') := Lib.hid (h0 13)
  clear h0 z0
  obtain ⟨p0, hp0⟩ : ∃ p, p = atT 13 (kd K 0) := ⟨_, rfl⟩
  rw [← hp0] at q0 H0 HN
  clear hp0
  go_enter Tryz.func30, Tryz.ntmps30
  go_upto_region 39 with fail
  generalize hW1 : w.alloc (.cells #[.int .i64 13, .string t, .int .i64 n, .int .i64 l, .slice (some ⟨b, o, none⟩) 1 cap] 46) = w1
  have hbb : Below w.heap.size w w1 := by rw [← hW1]; repeat (first | exact Below.refl _ _ | refine Below.drew ?_ | refine Below.setCell ?_ (by (try simp); try omega) _ | refine Below.alloc ?_ (by (try simp); try omega) _)
  have hv : Var w1 w.heap.size 13 t n l (.slice (some ⟨b, o, none⟩) 1 cap) := by rw [← hW1]; exact Var.new w 13 t n l _ 46
  clear hW1
  have hzz := hbb.size
  have u0 := v0.below hbb hbw
  obtain ⟨a0, a1, a2, a3, a4⟩ := id u0
  obtain ⟨e0, e1, e2, e3', e4⟩ := id hv
  clear v0
  have g0 : ¬ 9223372036854775807 < p0.size + 1 := by omega
  have g1 : ¬ 9223372036854775807 < p0.size + 1 + t.size := by omega
  have HU := Lib.hid (And.intro hv u0)
  clear hv u0
  go_region_held3 (fun w' => ((w'.cell? ⟨w.heap.size, 1, none⟩ = some (.string t) ∧ w'.cell? ⟨w.heap.size, 4, none⟩ = some (.slice (some ⟨b, o, none⟩) 1 cap)) ∧ (w'.cell? ⟨b, o, none⟩ = some (.int .i64 ka) ∧ w'.cell? ⟨b, o + 1, none⟩ = some (.string ta) ∧ w'.cell? ⟨b, o + 2, none⟩ = some (.int .i64 na) ∧ w'.cell? ⟨b, o + 3, none⟩ = some (.int .i64 la) ∧ w'.cell? ⟨b, o + 4, none⟩ = some (.slice A0 ra.length cap0)))) ((refine keepP1 HU.out ?_; repeat (first | exact Below.refl _ _ | refine Below.drew ?_ | refine Below.alloc ?_ (by (try simp); try omega) _ | refine Below.trans ?_ (hb3.mono (by (try simp); try omega)) | refine Below.trans ?_ (hb4.mono (by (try simp); try omega)) | refine Below.trans ?_ (hb5.mono (by (try simp); try omega)))))
    (first
      | (go_at_call 14; refine (H0.out _ (by repeat (first | exact hbb | refine Below.drew ?_ | refine Below.setCell ?_ (by (try simp); try omega) _ | refine Below.alloc ?_ (by (try simp); try omega) _))).mono ?_; rintro e w3 ⟨rfl, hb3⟩; have hbb := growT (w := w) (by repeat (first | exact hbb | refine Below.drew ?_ | refine Below.setCell ?_ (by (try simp); try omega) _ | refine Below.alloc ?_ (by (try simp); try omega) _)) hb3; have hzz := hbb.size; have hs3 := hb3.size; (try simp at hs3)))
  all_goals
    go_wp2_with fail
    go_ret
    exact ⟨ret_s HN.out.symm, by repeat (first | exact hbb | refine Below.drew ?_ | refine Below.setCell ?_ (by (try simp); try omega) _ | refine Below.alloc ?_ (by (try simp); try omega) _)⟩
end X
end Go.Proofs.YtljblaglfooclaaGreatDoor

namespace Go.Proofs.YtljblaglfooclaaGreatDoor
open Go.RowKit
namespace X

set_option maxRecDepth 20000 in
set_option maxHeartbeats 4000000 in
theorem pj1 (t : ByteArray) (n l : Int) (s : Value) (K : List Kp) (w : World) (hn : -9223372036854775808 ≤ n ∧ n ≤ 9223372036854775807) (_ht : t.size ≤ 1048576) :
    Calls Tryz.prog 30 #[.agg #[.int .i64 1, .string t, .int .i64 n, .int .i64 l, s]] w fun e w' => e = .returned (.string (noT lvB cqB 1 t n K)) ∧ Below w.heap.size w w' := by
  have HN := Lib.hid (show noT lvB cqB 1 t n K = ⟨(Lib.itoa n).toArray⟩ from rfl)
  have hF : ∀ W : World, Below w.heap.size w W → Calls Tryz.prog 48 #[.int .i64 n] W fun e w' => e = .returned (.string ⟨(Lib.itoa n).toArray⟩) ∧ Below W.heap.size W w' := fun W hW => specFmt n hn W
  generalize (⟨(Lib.itoa n).toArray⟩ : ByteArray) = T at hF HN
  go_enter Tryz.func30, Tryz.ntmps30
  go_wp2_with (go_at_call 48; refine (hF _ (by repeat (first | exact Below.refl _ _ | refine Below.drew ?_ | refine Below.setCell ?_ (by (try simp); try omega) _ | refine Below.alloc ?_ (by (try simp); try omega) _))).mono ?_; rintro e w1 ⟨rfl, hb1⟩)
  go_ret
  exact ⟨ret_s HN.out.symm, Below.trans (by repeat (first | exact Below.refl _ _ | refine Below.drew ?_ | refine Below.setCell ?_ (by (try simp); try omega) _ | refine Below.alloc ?_ (by (try simp); try omega) _)) (hb1.mono (by simp))⟩
set_option maxRecDepth 20000 in
set_option maxHeartbeats 4000000 in
theorem pj2 (t : ByteArray) (n l : Int) (s : Value) (K : List Kp) (w : World) (ht : t.size ≤ 1048576) :
    Calls Tryz.prog 30 #[.agg #[.int .i64 2, .string t, .int .i64 n, .int .i64 l, s]] w fun e w' => e = .returned (.string (noT lvB cqB 2 t n K)) ∧ Below w.heap.size w w' := by
  have HN := Lib.hid (show noT lvB cqB 2 t n K = ⟨(quoteL 34 t.data.toList).toArray⟩ from rfl)
  have hF : ∀ W : World, Calls Tryz.prog 49 #[.string t] W fun e w' => e = .returned (.string ⟨(quoteL 34 t.data.toList).toArray⟩) ∧ Below W.heap.size W w' := fun W => specQuoteText t ht W
  generalize (⟨(quoteL 34 t.data.toList).toArray⟩ : ByteArray) = T at hF HN
  go_enter Tryz.func30, Tryz.ntmps30
  go_wp2_with (go_at_call 49; refine (hF _).mono ?_; rintro e w1 ⟨rfl, hb1⟩)
  go_ret
  exact ⟨ret_s HN.out.symm, Below.trans (by repeat (first | exact Below.refl _ _ | refine Below.drew ?_ | refine Below.setCell ?_ (by (try simp); try omega) _ | refine Below.alloc ?_ (by (try simp); try omega) _)) (hb1.mono (by simp))⟩
set_option maxRecDepth 20000 in
set_option maxHeartbeats 4000000 in
theorem pj3 (t : ByteArray) (n l : Int) (s : Value) (K : List Kp) (w : World) (ht : t.size ≤ 1048576) :
    Calls Tryz.prog 30 #[.agg #[.int .i64 3, .string t, .int .i64 n, .int .i64 l, s]] w fun e w' => e = .returned (.string (noT lvB cqB 3 t n K)) ∧ Below w.heap.size w w' := by
  have HN := Lib.hid (show noT lvB cqB 3 t n K = cqB t from rfl)
  have hF := fun W => specNew t ht W
  have hQ : ∀ W : World, Calls Tryz.prog 51 #[cs (newC t.data.toList).1.1 (newC t.data.toList).1.2] W fun e w' => e = .returned (.string (cqB t)) ∧ Below W.heap.size W w' := fun W => specQuoteCset _ _ W
  generalize cqB t = T at hQ HN
  generalize newC t.data.toList = c at hF hQ
  obtain ⟨⟨c1, c2⟩, c3⟩ := c
  go_enter Tryz.func30, Tryz.ntmps30
  go_wp2_with (first
    | (go_at_call 50; refine (hF _).mono ?_; rintro e w1 ⟨rfl, hb1⟩; have hbb : Below w.heap.size w w1 := Below.trans (by repeat (first | exact Below.refl _ _ | refine Below.drew ?_ | refine Below.setCell ?_ (by (try simp); try omega) _ | refine Below.alloc ?_ (by (try simp); try omega) _)) (hb1.mono (by simp)); have hzz := hbb.size)
    | (go_at_call 51; refine (hQ _).mono ?_; rintro e w2 ⟨rfl, hb2⟩; have hbb := growT (w := w) (by repeat (first | exact hbb | refine Below.drew ?_ | refine Below.setCell ?_ (by (try simp); try omega) _ | refine Below.alloc ?_ (by (try simp); try omega) _)) hb2))
  go_ret
  exact ⟨ret_s HN.out.symm, hbb⟩
set_option maxRecDepth 20000 in
set_option maxHeartbeats 4000000 in
theorem pj4 (t : ByteArray) (n l : Int) (s : Value) (K : List Kp) (w : World) (_ht : t.size ≤ 1048576) :
    Calls Tryz.prog 30 #[.agg #[.int .i64 4, .string t, .int .i64 n, .int .i64 l, s]] w fun e w' => e = .returned (.string (noT lvB cqB 4 t n K)) ∧ Below w.heap.size w w' := by
  have HN := Lib.hid (show noT lvB cqB 4 t n K = t from rfl)
  go_enter Tryz.func30, Tryz.ntmps30
  go_wp2_with fail
  go_ret
  exact ⟨ret_s HN.out.symm, by repeat (first | exact Below.refl _ _ | refine Below.drew ?_ | refine Below.setCell ?_ (by (try simp); try omega) _ | refine Below.alloc ?_ (by (try simp); try omega) _)⟩
set_option maxRecDepth 20000 in
set_option maxHeartbeats 4000000 in
theorem pj5 (t : ByteArray) (n l : Int) (s : Value) (K : List Kp) (w : World) (ht : t.size ≤ 1048576) :
    Calls Tryz.prog 30 #[.agg #[.int .i64 5, .string t, .int .i64 n, .int .i64 l, s]] w fun e w' => e = .returned (.string (noT lvB cqB 5 t n K)) ∧ Below w.heap.size w w' := by
  have HN := Lib.hid (show noT lvB cqB 5 t n K = ⟨#[38]⟩ ++ t from rfl)
  have g0 : ¬ 9223372036854775807 < 1 + t.size := by omega
  go_enter Tryz.func30, Tryz.ntmps30
  go_wp2_with fail
  go_ret
  exact ⟨ret_s HN.out.symm, by repeat (first | exact Below.refl _ _ | refine Below.drew ?_ | refine Below.setCell ?_ (by (try simp); try omega) _ | refine Below.alloc ?_ (by (try simp); try omega) _)⟩
set_option maxRecDepth 20000 in
set_option maxHeartbeats 4000000 in
theorem pj23 (t : ByteArray) (n l : Int) (s : Value) (K : List Kp) (w : World) (_ht : t.size ≤ 1048576) :
    Calls Tryz.prog 30 #[.agg #[.int .i64 23, .string t, .int .i64 n, .int .i64 l, s]] w fun e w' => e = .returned (.string (noT lvB cqB 23 t n K)) ∧ Below w.heap.size w w' := by
  have HN := Lib.hid (show noT lvB cqB 23 t n K = ⟨#[102, 97, 105, 108]⟩ from rfl)
  go_enter Tryz.func30, Tryz.ntmps30
  go_wp2_with fail
  go_ret
  exact ⟨ret_s HN.out.symm, by repeat (first | exact Below.refl _ _ | refine Below.drew ?_ | refine Below.setCell ?_ (by (try simp); try omega) _ | refine Below.alloc ?_ (by (try simp); try omega) _)⟩
set_option maxRecDepth 20000 in
set_option maxHeartbeats 4000000 in
theorem pj25 (t : ByteArray) (n l : Int) (s : Value) (K : List Kp) (w : World) (_ht : t.size ≤ 1048576) :
    Calls Tryz.prog 30 #[.agg #[.int .i64 25, .string t, .int .i64 n, .int .i64 l, s]] w fun e w' => e = .returned (.string (noT lvB cqB 25 t n K)) ∧ Below w.heap.size w w' := by
  have HN := Lib.hid (show noT lvB cqB 25 t n K = ⟨#[110, 101, 120, 116]⟩ from rfl)
  go_enter Tryz.func30, Tryz.ntmps30
  go_wp2_with fail
  go_ret
  exact ⟨ret_s HN.out.symm, by repeat (first | exact Below.refl _ _ | refine Below.drew ?_ | refine Below.setCell ?_ (by (try simp); try omega) _ | refine Below.alloc ?_ (by (try simp); try omega) _)⟩
set_option maxRecDepth 20000 in
set_option maxHeartbeats 4000000 in
theorem pj28 (t : ByteArray) (n l : Int) (s : Value) (K : List Kp) (w : World) (ht : t.size ≤ 1048576) :
    Calls Tryz.prog 30 #[.agg #[.int .i64 28, .string t, .int .i64 n, .int .i64 l, s]] w fun e w' => e = .returned (.string (noT lvB cqB 28 t n K)) ∧ Below w.heap.size w w' := by
  have HN := Lib.hid (show noT lvB cqB 28 t n K = ⟨#[100, 101, 102, 101, 114, 32]⟩ ++ t from rfl)
  have g0 : ¬ 9223372036854775807 < 6 + t.size := by omega
  go_enter Tryz.func30, Tryz.ntmps30
  go_wp2_with fail
  go_ret
  exact ⟨ret_s HN.out.symm, by repeat (first | exact Below.refl _ _ | refine Below.drew ?_ | refine Below.setCell ?_ (by (try simp); try omega) _ | refine Below.alloc ?_ (by (try simp); try omega) _)⟩
set_option maxRecDepth 20000 in
set_option maxHeartbeats 4000000 in
theorem pj27 (t : ByteArray) (n l : Int) (r : List X) (A : Option Addr) (cap : Nat) (w : World) (P : Nat → Prop) (hK : Kc w P r (.slice A r.length cap)) (hP : ∀ b, P b → b < w.heap.size) (hr : r.length = 1) (hC : PrS w P r)
    (hz : ∀ j need, j < r.length → (atT need (kd (PK r) j)).size ≤ 1000000000) (_ht : t.size ≤ 1048576) :
    Calls Tryz.prog 30 #[.agg #[.int .i64 27, .string t, .int .i64 n, .int .i64 l, .slice A r.length cap]] w fun e w' => e = .returned (.string (noT lvB cqB 27 t n (PK r))) ∧ Below w.heap.size w w' := by
  obtain ⟨b, o, rfl, hb, hkid⟩ := hK.row (by omega)
  have hbw := hP b hb
  obtain ⟨A0, cap0, k0, v0⟩ := hkid 0 (by omega)
  have h0 := fun need (W : World) (hW : Below w.heap.size w W) => hC 0 (by omega) need W A0 cap0 hW k0
  have z0 := hz 0
  have HN := Lib.hid (show noT lvB cqB 27 t n (PK r) = ⟨#[110, 111, 116, 32]⟩ ++ atT 12 (kd (PK r) 0) by rfl)
  generalize PK r = K at h0 z0 HN
  rw [hr] at *
  generalize r[0] = x0 at *
  clear hK hkid hC hz k0
  obtain ⟨ka, ta, na, la, ra⟩ := x0
  rw [show o + 0 * 5 = o by omega] at v0
  have q0 := z0 12 (by omega)
  have H0 : Hid (∀ W : World, Below w.heap.size w W → Calls Tryz.prog 14 #[.agg #[.int .i64 ka, .string ta, .int .i64 na, .int .i64 la, .slice A0 ra.length cap0], .int .i64 12] W fun e w' => e = .returned (.string (atT 12 (kd K 0))) ∧ Below W.heap.size W w') := Lib.hid (h0 12)
  clear h0 z0
  obtain ⟨p0, hp0⟩ : ∃ p, p = atT 12 (kd K 0) := ⟨_, rfl⟩
  rw [← hp0] at q0 H0 HN
  clear hp0
  have g0 : ¬ 9223372036854775807 < 4 + p0.size := by omega
  obtain ⟨a0, a1, a2, a3, a4⟩ := v0
  have hbb : Below w.heap.size w w := Below.refl _ _
  have hzz := hbb.size
  go_enter Tryz.func30, Tryz.ntmps30
  go_wp2_with (first
    | (go_at_call 14; refine (H0.out _ (by repeat (first | exact hbb | refine Below.drew ?_ | refine Below.setCell ?_ (by (try simp); try omega) _ | refine Below.alloc ?_ (by (try simp); try omega) _))).mono ?_; rintro e w3 ⟨rfl, hb3⟩; have hbb := growT (w := w) (by repeat (first | exact hbb | refine Below.drew ?_ | refine Below.setCell ?_ (by (try simp); try omega) _ | refine Below.alloc ?_ (by (try simp); try omega) _)) hb3; have hzz := hbb.size; have hs3 := hb3.size; (try simp at hs3)))
  go_ret
  exact ⟨ret_s HN.out.symm, hbb⟩
set_option maxRecDepth 20000 in
set_option maxHeartbeats 4000000 in
theorem pj9_2 (t : ByteArray) (n l : Int) (r : List X) (A : Option Addr) (cap : Nat) (w : World) (P : Nat → Prop) (hK : Kc w P r (.slice A r.length cap)) (hP : ∀ b, P b → b < w.heap.size) (hr : r.length = 2) (hC : PrS w P r)
    (hz : ∀ j need, j < r.length → (atT need (kd (PK r) j)).size ≤ 1000000000) (_ht : t.size ≤ 1048576) :
    Calls Tryz.prog 30 #[.agg #[.int .i64 9, .string t, .int .i64 n, .int .i64 l, .slice A r.length cap]] w fun e w' => e = .returned (.string (noT lvB cqB 9 t n (PK r))) ∧ Below w.heap.size w w' := by
  obtain ⟨b, o, rfl, hb, hkid⟩ := hK.row (by omega)
  have hbw := hP b hb
  obtain ⟨A0, cap0, k0, v0⟩ := hkid 0 (by omega)
  have h0 := fun need (W : World) (hW : Below w.heap.size w W) => hC 0 (by omega) need W A0 cap0 hW k0
  have z0 := hz 0
  obtain ⟨A1, cap1, k1, v1⟩ := hkid 1 (by omega)
  have h1 := fun need (W : World) (hW : Below w.heap.size w W) => hC 1 (by omega) need W A1 cap1 hW k1
  have z1 := hz 1
  have HN := Lib.hid (show noT lvB cqB 9 t n (PK r) = atT 4 (kd (PK r) 0) ++ ⟨#[32, 116, 111, 32]⟩ ++ atT 5 (kd (PK r) 1) by (unfold noT; rw [pK_length, hr]; rfl))
  generalize PK r = K at h0 z0 h1 z1 HN
  rw [hr] at *
  generalize r[0] = x0 at *
  generalize r[1] = x1 at *
  clear hK hkid hC hz k0 k1
  obtain ⟨ka, ta, na, la, ra⟩ := x0
  rw [show o + 0 * 5 = o by omega] at v0
  obtain ⟨kb, tb, nb, lb, rb⟩ := x1
  rw [show o + 1 * 5 = o + 5 by omega] at v1
  have q0 := z0 4 (by omega)
  have H0 : Hid (∀ W : World, Below w.heap.size w W → Calls Tryz.prog 14 #[.agg #[.int .i64 ka, .string ta, .int .i64 na, .int .i64 la, .slice A0 ra.length cap0], .int .i64 4] W fun e w' => e = .returned (.string (atT 4 (kd K 0))) ∧ Below W.heap.size W w') := Lib.hid (h0 4)
  have q1 := z1 5 (by omega)
  have H1 : Hid (∀ W : World, Below w.heap.size w W → Calls Tryz.prog 14 #[.agg #[.int .i64 kb, .string tb, .int .i64 nb, .int .i64 lb, .slice A1 rb.length cap1], .int .i64 5] W fun e w' => e = .returned (.string (atT 5 (kd K 1))) ∧ Below W.heap.size W w') := Lib.hid (h1 5)
  clear h0 z0 h1 z1
  obtain ⟨p0, hp0⟩ : ∃ p, p = atT 4 (kd K 0) := ⟨_, rfl⟩
  rw [← hp0] at q0 H0 HN
  obtain ⟨p1, hp1⟩ : ∃ p, p = atT 5 (kd K 1) := ⟨_, rfl⟩
  rw [← hp1] at q1 H1 HN
  clear hp0 hp1
  go_enter Tryz.func30, Tryz.ntmps30
  go_upto_region 28 with fail
  generalize hW1 : w.alloc (.cells #[.int .i64 9, .string t, .int .i64 n, .int .i64 l, .slice (some ⟨b, o, none⟩) 2 cap] 46) = w1
  have hbb : Below w.heap.size w w1 := by rw [← hW1]; repeat (first | exact Below.refl _ _ | refine Below.drew ?_ | refine Below.setCell ?_ (by (try simp); try omega) _ | refine Below.alloc ?_ (by (try simp); try omega) _)
  have hv : Var w1 w.heap.size 9 t n l (.slice (some ⟨b, o, none⟩) 2 cap) := by rw [← hW1]; exact Var.new w 9 t n l _ 46
  clear hW1
  have hzz := hbb.size
  have u0 := v0.below hbb hbw
  have u1 := v1.below hbb hbw
  obtain ⟨a0, a1, a2, a3, a4⟩ := id u0
  obtain ⟨b0, b1, b2, b3, b4⟩ := id u1
  obtain ⟨e0, e1, e2, e3', e4⟩ := id hv
  clear v0 v1
  have g0 : ¬ 9223372036854775807 < p0.size + 4 := by omega
  have g1 : ¬ 9223372036854775807 < p0.size + 4 + p1.size := by omega
  have HU := Lib.hid (And.intro hv (And.intro u0 u1))
  clear hv u0 u1
  go_region_held3 (fun w' => ((w'.cell? ⟨w.heap.size, 1, none⟩ = some (.string t) ∧ w'.cell? ⟨w.heap.size, 4, none⟩ = some (.slice (some ⟨b, o, none⟩) 2 cap)) ∧ (w'.cell? ⟨b, o, none⟩ = some (.int .i64 ka) ∧ w'.cell? ⟨b, o + 1, none⟩ = some (.string ta) ∧ w'.cell? ⟨b, o + 2, none⟩ = some (.int .i64 na) ∧ w'.cell? ⟨b, o + 3, none⟩ = some (.int .i64 la) ∧ w'.cell? ⟨b, o + 4, none⟩ = some (.slice A0 ra.length cap0)) ∧ (w'.cell? ⟨b, o + 5, none⟩ = some (.int .i64 kb) ∧ w'.cell? ⟨b, o + 5 + 1, none⟩ = some (.string tb) ∧ w'.cell? ⟨b, o + 5 + 2, none⟩ = some (.int .i64 nb) ∧ w'.cell? ⟨b, o + 5 + 3, none⟩ = some (.int .i64 lb) ∧ w'.cell? ⟨b, o + 5 + 4, none⟩ = some (.slice A1 rb.length cap1)))) ((refine keepP2 HU.out ?_; repeat (first | exact Below.refl _ _ | refine Below.drew ?_ | refine Below.alloc ?_ (by (try simp); try omega) _ | refine Below.trans ?_ (hb3.mono (by (try simp); try omega)) | refine Below.trans ?_ (hb4.mono (by (try simp); try omega)) | refine Below.trans ?_ (hb5.mono (by (try simp); try omega)))))
    (first
      | (go_at_call 14; have tok := hb3; refine (H1.out _ (by repeat (first | exact hbb | refine Below.drew ?_ | refine Below.setCell ?_ (by (try simp); try omega) _ | refine Below.alloc ?_ (by (try simp); try omega) _))).mono ?_; rintro e w4 ⟨rfl, hb4⟩; have hbb := growT (w := w) (by repeat (first | exact hbb | refine Below.drew ?_ | refine Below.setCell ?_ (by (try simp); try omega) _ | refine Below.alloc ?_ (by (try simp); try omega) _)) hb4; have hzz := hbb.size; have hs4 := hb4.size; (try simp at hs4))
      | (go_at_call 14; refine (H0.out _ (by repeat (first | exact hbb | refine Below.drew ?_ | refine Below.setCell ?_ (by (try simp); try omega) _ | refine Below.alloc ?_ (by (try simp); try omega) _))).mono ?_; rintro e w3 ⟨rfl, hb3⟩; have hbb := growT (w := w) (by repeat (first | exact hbb | refine Below.drew ?_ | refine Below.setCell ?_ (by (try simp); try omega) _ | refine Below.alloc ?_ (by (try simp); try omega) _)) hb3; have hzz := hbb.size; have hs3 := hb3.size; (try simp at hs3)))
  all_goals
    go_wp2_with fail
    go_ret
    exact ⟨ret_s HN.out.symm, by repeat (first | exact hbb | refine Below.drew ?_ | refine Below.setCell ?_ (by (try simp); try omega) _ | refine Below.alloc ?_ (by (try simp); try omega) _)⟩
set_option maxRecDepth 20000 in
set_option maxHeartbeats 4000000 in
theorem pj9_3 (t : ByteArray) (n l : Int) (r : List X) (A : Option Addr) (cap : Nat) (w : World) (P : Nat → Prop) (hK : Kc w P r (.slice A r.length cap)) (hP : ∀ b, P b → b < w.heap.size) (hr : r.length = 3) (hC : PrS w P r)
    (hz : ∀ j need, j < r.length → (atT need (kd (PK r) j)).size ≤ 1000000000) (_ht : t.size ≤ 1048576) :
    Calls Tryz.prog 30 #[.agg #[.int .i64 9, .string t, .int .i64 n, .int .i64 l, .slice A r.length cap]] w fun e w' => e = .returned (.string (noT lvB cqB 9 t n (PK r))) ∧ Below w.heap.size w w' := by
  obtain ⟨b, o, rfl, hb, hkid⟩ := hK.row (by omega)
  have hbw := hP b hb
  obtain ⟨A0, cap0, k0, v0⟩ := hkid 0 (by omega)
  have h0 := fun need (W : World) (hW : Below w.heap.size w W) => hC 0 (by omega) need W A0 cap0 hW k0
  have z0 := hz 0
  obtain ⟨A1, cap1, k1, v1⟩ := hkid 1 (by omega)
  have h1 := fun need (W : World) (hW : Below w.heap.size w W) => hC 1 (by omega) need W A1 cap1 hW k1
  have z1 := hz 1
  obtain ⟨A2, cap2, k2, v2⟩ := hkid 2 (by omega)
  have h2 := fun need (W : World) (hW : Below w.heap.size w W) => hC 2 (by omega) need W A2 cap2 hW k2
  have z2 := hz 2
  have HN := Lib.hid (show noT lvB cqB 9 t n (PK r) = atT 4 (kd (PK r) 0) ++ ⟨#[32, 116, 111, 32]⟩ ++ atT 5 (kd (PK r) 1) ++ ⟨#[32, 98, 121, 32]⟩ ++ atT 5 (kd (PK r) 2) by (unfold noT; rw [pK_length, hr]; rfl))
  generalize PK r = K at h0 z0 h1 z1 h2 z2 HN
  rw [hr] at *
  generalize r[0] = x0 at *
  generalize r[1] = x1 at *
  generalize r[2] = x2 at *
  clear hK hkid hC hz k0 k1 k2
  obtain ⟨ka, ta, na, la, ra⟩ := x0
  rw [show o + 0 * 5 = o by omega] at v0
  obtain ⟨kb, tb, nb, lb, rb⟩ := x1
  rw [show o + 1 * 5 = o + 5 by omega] at v1
  obtain ⟨kc, tc, nc, lc, rc⟩ := x2
  rw [show o + 2 * 5 = o + 10 by omega] at v2
  have q0 := z0 4 (by omega)
  have H0 : Hid (∀ W : World, Below w.heap.size w W → Calls Tryz.prog 14 #[.agg #[.int .i64 ka, .string ta, .int .i64 na, .int .i64 la, .slice A0 ra.length cap0], .int .i64 4] W fun e w' => e = .returned (.string (atT 4 (kd K 0))) ∧ Below W.heap.size W w') := Lib.hid (h0 4)
  have q1 := z1 5 (by omega)
  have H1 : Hid (∀ W : World, Below w.heap.size w W → Calls Tryz.prog 14 #[.agg #[.int .i64 kb, .string tb, .int .i64 nb, .int .i64 lb, .slice A1 rb.length cap1], .int .i64 5] W fun e w' => e = .returned (.string (atT 5 (kd K 1))) ∧ Below W.heap.size W w') := Lib.hid (h1 5)
  have q2 := z2 5 (by omega)
  have H2 : Hid (∀ W : World, Below w.heap.size w W → Calls Tryz.prog 14 #[.agg #[.int .i64 kc, .string tc, .int .i64 nc, .int .i64 lc, .slice A2 rc.length cap2], .int .i64 5] W fun e w' => e = .returned (.string (atT 5 (kd K 2))) ∧ Below W.heap.size W w') := Lib.hid (h2 5)
  clear h0 z0 h1 z1 h2 z2
  obtain ⟨p0, hp0⟩ : ∃ p, p = atT 4 (kd K 0) := ⟨_, rfl⟩
  rw [← hp0] at q0 H0 HN
  obtain ⟨p1, hp1⟩ : ∃ p, p = atT 5 (kd K 1) := ⟨_, rfl⟩
  rw [← hp1] at q1 H1 HN
  obtain ⟨p2, hp2⟩ : ∃ p, p = atT 5 (kd K 2) := ⟨_, rfl⟩
  rw [← hp2] at q2 H2 HN
  clear hp0 hp1 hp2
  go_enter Tryz.func30, Tryz.ntmps30
  go_upto_region 28 with fail
  generalize hW1 : w.alloc (.cells #[.int .i64 9, .string t, .int .i64 n, .int .i64 l, .slice (some ⟨b, o, none⟩) 3 cap] 46) = w1
  have hbb : Below w.heap.size w w1 := by rw [← hW1]; repeat (first | exact Below.refl _ _ | refine Below.drew ?_ | refine Below.setCell ?_ (by (try simp); try omega) _ | refine Below.alloc ?_ (by (try simp); try omega) _)
  have hv : Var w1 w.heap.size 9 t n l (.slice (some ⟨b, o, none⟩) 3 cap) := by rw [← hW1]; exact Var.new w 9 t n l _ 46
  clear hW1
  have hzz := hbb.size
  have u0 := v0.below hbb hbw
  have u1 := v1.below hbb hbw
  have u2 := v2.below hbb hbw
  obtain ⟨a0, a1, a2, a3, a4⟩ := id u0
  obtain ⟨b0, b1, b2, b3, b4⟩ := id u1
  obtain ⟨c0, c1, c2, c3, c4⟩ := id u2
  obtain ⟨e0, e1, e2, e3', e4⟩ := id hv
  clear v0 v1 v2
  have g8 : ¬ 9223372036854775807 < p0.size + 4 + p1.size + 4 := by omega
  have g9 : ¬ 9223372036854775807 < p0.size + 4 + p1.size + 4 + p2.size := by omega
  have g0 : ¬ 9223372036854775807 < p0.size + 4 := by omega
  have g1 : ¬ 9223372036854775807 < p0.size + 4 + p1.size := by omega
  have HU := Lib.hid (And.intro hv (And.intro u0 (And.intro u1 u2)))
  clear hv u0 u1 u2
  go_region_held3 (fun w' => ((w'.cell? ⟨w.heap.size, 1, none⟩ = some (.string t) ∧ w'.cell? ⟨w.heap.size, 4, none⟩ = some (.slice (some ⟨b, o, none⟩) 3 cap)) ∧ (w'.cell? ⟨b, o, none⟩ = some (.int .i64 ka) ∧ w'.cell? ⟨b, o + 1, none⟩ = some (.string ta) ∧ w'.cell? ⟨b, o + 2, none⟩ = some (.int .i64 na) ∧ w'.cell? ⟨b, o + 3, none⟩ = some (.int .i64 la) ∧ w'.cell? ⟨b, o + 4, none⟩ = some (.slice A0 ra.length cap0)) ∧ (w'.cell? ⟨b, o + 5, none⟩ = some (.int .i64 kb) ∧ w'.cell? ⟨b, o + 5 + 1, none⟩ = some (.string tb) ∧ w'.cell? ⟨b, o + 5 + 2, none⟩ = some (.int .i64 nb) ∧ w'.cell? ⟨b, o + 5 + 3, none⟩ = some (.int .i64 lb) ∧ w'.cell? ⟨b, o + 5 + 4, none⟩ = some (.slice A1 rb.length cap1)) ∧ (w'.cell? ⟨b, o + 10, none⟩ = some (.int .i64 kc) ∧ w'.cell? ⟨b, o + 10 + 1, none⟩ = some (.string tc) ∧ w'.cell? ⟨b, o + 10 + 2, none⟩ = some (.int .i64 nc) ∧ w'.cell? ⟨b, o + 10 + 3, none⟩ = some (.int .i64 lc) ∧ w'.cell? ⟨b, o + 10 + 4, none⟩ = some (.slice A2 rc.length cap2)))) ((refine keepP3 HU.out ?_; repeat (first | exact Below.refl _ _ | refine Below.drew ?_ | refine Below.alloc ?_ (by (try simp); try omega) _ | refine Below.trans ?_ (hb3.mono (by (try simp); try omega)) | refine Below.trans ?_ (hb4.mono (by (try simp); try omega)) | refine Below.trans ?_ (hb5.mono (by (try simp); try omega)))))
    (first
      | (go_at_call 14; have tok := hb3; refine (H1.out _ (by repeat (first | exact hbb | refine Below.drew ?_ | refine Below.setCell ?_ (by (try simp); try omega) _ | refine Below.alloc ?_ (by (try simp); try omega) _))).mono ?_; rintro e w4 ⟨rfl, hb4⟩; have hbb := growT (w := w) (by repeat (first | exact hbb | refine Below.drew ?_ | refine Below.setCell ?_ (by (try simp); try omega) _ | refine Below.alloc ?_ (by (try simp); try omega) _)) hb4; have hzz := hbb.size; have hs4 := hb4.size; (try simp at hs4))
      | (go_at_call 14; refine (H0.out _ (by repeat (first | exact hbb | refine Below.drew ?_ | refine Below.setCell ?_ (by (try simp); try omega) _ | refine Below.alloc ?_ (by (try simp); try omega) _))).mono ?_; rintro e w3 ⟨rfl, hb3⟩; have hbb := growT (w := w) (by repeat (first | exact hbb | refine Below.drew ?_ | refine Below.setCell ?_ (by (try simp); try omega) _ | refine Below.alloc ?_ (by (try simp); try omega) _)) hb3; have hzz := hbb.size; have hs3 := hb3.size; (try simp at hs3)))
  all_goals
    have HV := HU.out.1.kept (Below.trans (by repeat (first | exact Below.refl _ _ | refine Below.drew ?_ | refine Below.alloc ?_ (by (try simp); try omega) _ | refine Below.trans ?_ (hb3.mono (by (try simp); try omega)) | refine Below.trans ?_ (hb4.mono (by (try simp); try omega)) | refine Below.trans ?_ (hb5.mono (by (try simp); try omega))) : Below w1.heap.size w1 w4) (Below.refl _ _))
    have HX := (HU.out.2.2.2).kept (by repeat (first | exact Below.refl _ _ | refine Below.drew ?_ | refine Below.alloc ?_ (by (try simp); try omega) _ | refine Below.trans ?_ (hb3.mono (by (try simp); try omega)) | refine Below.trans ?_ (hb4.mono (by (try simp); try omega)) | refine Below.trans ?_ (hb5.mono (by (try simp); try omega))) : Below w1.heap.size w1 w4)
    obtain ⟨e0, e1, e2, e3', e4⟩ := HV
    obtain ⟨c0, c1, c2, c3, c4⟩ := HX
    go_wp2_with (first
      | (go_at_call 14; refine (H2.out _ (by repeat (first | exact hbb | refine Below.drew ?_ | refine Below.setCell ?_ (by (try simp); try omega) _ | refine Below.alloc ?_ (by (try simp); try omega) _))).mono ?_; rintro e w5 ⟨rfl, hb5⟩; have hbb := growT (w := w) (by repeat (first | exact hbb | refine Below.drew ?_ | refine Below.setCell ?_ (by (try simp); try omega) _ | refine Below.alloc ?_ (by (try simp); try omega) _)) hb5; have hzz := hbb.size; have hs5 := hb5.size; (try simp at hs5)))
    go_ret
    exact ⟨ret_s (by rw [HN.out]), by repeat (first | exact hbb | refine Below.drew ?_ | refine Below.setCell ?_ (by (try simp); try omega) _ | refine Below.alloc ?_ (by (try simp); try omega) _)⟩
end X
end Go.Proofs.YtljblaglfooclaaGreatDoor

namespace Go.Proofs.YtljblaglfooclaaGreatDoor
open Go.RowKit
namespace X

set_option maxRecDepth 20000 in
set_option maxHeartbeats 4000000 in
theorem pj7a (t : ByteArray) (n l : Int) (r : List X) (A : Option Addr) (cap : Nat) (w : World) (P : Nat → Prop) (hK : Kc w P r (.slice A r.length cap)) (hP : ∀ b, P b → b < w.heap.size) (hr : r.length = 1) (hC : PrS w P r)
    (hk : ∀ h : 0 < r.length, (r[0]'h).k = 7) (hN : ∀ (h : 0 < r.length) (W : World) (A : Option Addr) (cap : Nat), Below w.heap.size w W → Kc w P (r[0]'h).r (.slice A (r[0]'h).r.length cap) → Calls Tryz.prog 30 #[.agg #[.int .i64 (r[0]'h).k, .string (r[0]'h).t, .int .i64 (r[0]'h).n, .int .i64 (r[0]'h).l, .slice A (r[0]'h).r.length cap]] W fun e w' => e = .returned (.string (kd (PK r) 0).2.2) ∧ Below W.heap.size W w') (hz : ∀ j need, j < r.length → (atT need (kd (PK r) j)).size ≤ 1000000000) (ht : t.size ≤ 1048576) :
    Calls Tryz.prog 30 #[.agg #[.int .i64 7, .string t, .int .i64 n, .int .i64 l, .slice A r.length cap]] w fun e w' => e = .returned (.string (noT lvB cqB 7 t n (PK r))) ∧ Below w.heap.size w w' := by
  obtain ⟨b, o, rfl, hb, hkid⟩ := hK.row (by omega)
  have hbw := hP b hb
  obtain ⟨A0, cap0, k0, v0⟩ := hkid 0 (by omega)
  have h0 := fun need (W : World) (hW : Below w.heap.size w W) => hC 0 (by omega) need W A0 cap0 hW k0
  have z0 := hz 0
  have hr0 : 0 < r.length := by omega
  have hkk : (kd (PK r) 0).1 = (r[0]'hr0).k := by rw [pK_get lvB cqB r hr0]
  have hk0 := hk hr0
  have hN0 := fun (W : World) (hW : Below w.heap.size w W) => hN hr0 W A0 cap0 hW k0
  have q0 := z0 0 hr0
  rw [show atT 0 (kd (PK r) 0) = (kd (PK r) 0).2.2 from if_neg (Nat.not_lt_zero _)] at q0
  have HN := Lib.hid (show noT lvB cqB 7 t n (PK r) = t ++ ⟨#[40]⟩ ++ (kd (PK r) 0).2.2 ++ ⟨#[41]⟩ by rw [show noT lvB cqB 7 t n (PK r) = (if (kd (PK r) 0).1 = 7 then t ++ ⟨#[40]⟩ ++ (kd (PK r) 0).2.2 ++ ⟨#[41]⟩ else t ++ atT 12 (kd (PK r) 0)) from rfl, if_pos (by rw [hkk]; exact hk0)])
  generalize (kd (PK r) 0).2.2 = p0 at hN0 q0 HN
  clear h0 z0 hN hC hz hkk hk
  rw [hr] at *
  generalize r[0] = x0 at *
  clear hK hkid k0 hr0
  obtain ⟨ka, ta, na, la, ra⟩ := x0
  rw [show o + 0 * 5 = o by omega] at v0
  obtain rfl : ka = 7 := hk0
  have H0 : Hid (∀ W : World, Below w.heap.size w W → Calls Tryz.prog 30 #[.agg #[.int .i64 7, .string ta, .int .i64 na, .int .i64 la, .slice A0 ra.length cap0]] W fun e w' => e = .returned (.string p0) ∧ Below W.heap.size W w') := Lib.hid hN0
  clear hN0
  go_enter Tryz.func30, Tryz.ntmps30
  obtain ⟨a0, a1, a2, a3, a4⟩ := id v0
  replace a0 : w.cell? ⟨b, o, none⟩ = some (.int .i64 7) := a0
  go_upto_region 17 with fail
  generalize hW1 : w.alloc (.cells #[.int .i64 7, .string t, .int .i64 n, .int .i64 l, .slice (some ⟨b, o, none⟩) 1 cap] 46) = w1
  have hbb : Below w.heap.size w w1 := by rw [← hW1]; repeat (first | exact Below.refl _ _ | refine Below.drew ?_ | refine Below.setCell ?_ (by (try simp); try omega) _ | refine Below.alloc ?_ (by (try simp); try omega) _)
  have hv : Var w1 w.heap.size 7 t n l (.slice (some ⟨b, o, none⟩) 1 cap) := by rw [← hW1]; exact Var.new w 7 t n l _ 46
  clear hW1 a0 a1 a2 a3 a4
  have hzz := hbb.size
  have u0 := v0.below hbb hbw
  obtain ⟨a0, a1, a2, a3, a4⟩ := id u0
  obtain ⟨e0, e1, e2, e3', e4⟩ := id hv
  clear v0
  have g0 : ¬ 9223372036854775807 < t.size + 1 := by omega
  have g1 : ¬ 9223372036854775807 < t.size + 1 + p0.size := by omega
  have g2 : ¬ 9223372036854775807 < t.size + 1 + p0.size + 1 := by omega
  have HU := Lib.hid (And.intro hv u0)
  clear hv u0
  go_region_held3 (fun w' => ((w'.cell? ⟨w.heap.size, 1, none⟩ = some (.string t) ∧ w'.cell? ⟨w.heap.size, 4, none⟩ = some (.slice (some ⟨b, o, none⟩) 1 cap)) ∧ (w'.cell? ⟨b, o, none⟩ = some (.int .i64 7) ∧ w'.cell? ⟨b, o + 1, none⟩ = some (.string ta) ∧ w'.cell? ⟨b, o + 2, none⟩ = some (.int .i64 na) ∧ w'.cell? ⟨b, o + 3, none⟩ = some (.int .i64 la) ∧ w'.cell? ⟨b, o + 4, none⟩ = some (.slice A0 ra.length cap0)))) ((refine keepP1 HU.out ?_; repeat (first | exact Below.refl _ _ | refine Below.drew ?_ | refine Below.alloc ?_ (by (try simp); try omega) _ | refine Below.trans ?_ (hb3.mono (by (try simp); try omega)) | refine Below.trans ?_ (hb4.mono (by (try simp); try omega)) | refine Below.trans ?_ (hb5.mono (by (try simp); try omega)))))
    (first
      | (go_at_call 30; refine (H0.out _ (by repeat (first | exact hbb | refine Below.drew ?_ | refine Below.setCell ?_ (by (try simp); try omega) _ | refine Below.alloc ?_ (by (try simp); try omega) _))).mono ?_; rintro e w3 ⟨rfl, hb3⟩; have hbb := growT (w := w) (by repeat (first | exact hbb | refine Below.drew ?_ | refine Below.setCell ?_ (by (try simp); try omega) _ | refine Below.alloc ?_ (by (try simp); try omega) _)) hb3; have hzz := hbb.size; have hs3 := hb3.size; (try simp at hs3)))
  all_goals
    go_wp2_with fail
    go_ret
    exact ⟨ret_s HN.out.symm, by repeat (first | exact hbb | refine Below.drew ?_ | refine Below.setCell ?_ (by (try simp); try omega) _ | refine Below.alloc ?_ (by (try simp); try omega) _)⟩
set_option maxRecDepth 20000 in
set_option maxHeartbeats 4000000 in
theorem pj7b (t : ByteArray) (n l : Int) (r : List X) (A : Option Addr) (cap : Nat) (w : World) (P : Nat → Prop) (hK : Kc w P r (.slice A r.length cap)) (hP : ∀ b, P b → b < w.heap.size) (hr : r.length = 1) (hC : PrS w P r)
    (hk : ∀ h : 0 < r.length, (r[0]'h).k ≠ 7) (hz : ∀ j need, j < r.length → (atT need (kd (PK r) j)).size ≤ 1000000000) (ht : t.size ≤ 1048576) :
    Calls Tryz.prog 30 #[.agg #[.int .i64 7, .string t, .int .i64 n, .int .i64 l, .slice A r.length cap]] w fun e w' => e = .returned (.string (noT lvB cqB 7 t n (PK r))) ∧ Below w.heap.size w w' := by
  obtain ⟨b, o, rfl, hb, hkid⟩ := hK.row (by omega)
  have hbw := hP b hb
  obtain ⟨A0, cap0, k0, v0⟩ := hkid 0 (by omega)
  have h0 := fun need (W : World) (hW : Below w.heap.size w W) => hC 0 (by omega) need W A0 cap0 hW k0
  have z0 := hz 0
  have hr0 : 0 < r.length := by omega
  have hkk : (kd (PK r) 0).1 = (r[0]'hr0).k := by rw [pK_get lvB cqB r hr0]
  have hk0 := hk hr0
  have hN0 := fun (W : World) (hW : Below w.heap.size w W) => h0 12 W hW
  have q0 := z0 12 hr0
  have HN := Lib.hid (show noT lvB cqB 7 t n (PK r) = t ++ atT 12 (kd (PK r) 0) by rw [show noT lvB cqB 7 t n (PK r) = (if (kd (PK r) 0).1 = 7 then t ++ ⟨#[40]⟩ ++ (kd (PK r) 0).2.2 ++ ⟨#[41]⟩ else t ++ atT 12 (kd (PK r) 0)) from rfl, if_neg (by rw [hkk]; exact hk0)])
  generalize atT 12 (kd (PK r) 0) = p0 at hN0 q0 HN
  clear h0 z0 hC hz hkk hk
  rw [hr] at *
  generalize r[0] = x0 at *
  clear hK hkid k0 hr0
  obtain ⟨ka, ta, na, la, ra⟩ := x0
  rw [show o + 0 * 5 = o by omega] at v0
  have b7 : (ka == 7) = false := by rw [beq_eq_false_iff_ne]; exact hk0
  have H0 : Hid (∀ W : World, Below w.heap.size w W → Calls Tryz.prog 14 #[.agg #[.int .i64 ka, .string ta, .int .i64 na, .int .i64 la, .slice A0 ra.length cap0], .int .i64 (12 : Int)] W fun e w' => e = .returned (.string p0) ∧ Below W.heap.size W w') := Lib.hid hN0
  clear hN0 hk0
  go_enter Tryz.func30, Tryz.ntmps30
  obtain ⟨a0, a1, a2, a3, a4⟩ := id v0
  replace a0 : w.cell? ⟨b, o, none⟩ = some (.int .i64 ka) := a0
  go_upto_region 18 with fail
  generalize hW1 : w.alloc (.cells #[.int .i64 7, .string t, .int .i64 n, .int .i64 l, .slice (some ⟨b, o, none⟩) 1 cap] 46) = w1
  have hbb : Below w.heap.size w w1 := by rw [← hW1]; repeat (first | exact Below.refl _ _ | refine Below.drew ?_ | refine Below.setCell ?_ (by (try simp); try omega) _ | refine Below.alloc ?_ (by (try simp); try omega) _)
  have hv : Var w1 w.heap.size 7 t n l (.slice (some ⟨b, o, none⟩) 1 cap) := by rw [← hW1]; exact Var.new w 7 t n l _ 46
  clear hW1 a0 a1 a2 a3 a4
  have hzz := hbb.size
  have u0 := v0.below hbb hbw
  obtain ⟨a0, a1, a2, a3, a4⟩ := id u0
  obtain ⟨e0, e1, e2, e3', e4⟩ := id hv
  clear v0
  have g0 : ¬ 9223372036854775807 < t.size + p0.size := by omega
  have HU := Lib.hid (And.intro hv u0)
  clear hv u0
  go_region_held3 (fun w' => ((w'.cell? ⟨w.heap.size, 1, none⟩ = some (.string t) ∧ w'.cell? ⟨w.heap.size, 4, none⟩ = some (.slice (some ⟨b, o, none⟩) 1 cap)) ∧ (w'.cell? ⟨b, o, none⟩ = some (.int .i64 ka) ∧ w'.cell? ⟨b, o + 1, none⟩ = some (.string ta) ∧ w'.cell? ⟨b, o + 2, none⟩ = some (.int .i64 na) ∧ w'.cell? ⟨b, o + 3, none⟩ = some (.int .i64 la) ∧ w'.cell? ⟨b, o + 4, none⟩ = some (.slice A0 ra.length cap0)))) ((refine keepP1 HU.out ?_; repeat (first | exact Below.refl _ _ | refine Below.drew ?_ | refine Below.alloc ?_ (by (try simp); try omega) _ | refine Below.trans ?_ (hb3.mono (by (try simp); try omega)) | refine Below.trans ?_ (hb4.mono (by (try simp); try omega)) | refine Below.trans ?_ (hb5.mono (by (try simp); try omega)))))
    (first
      | (go_at_call 14; refine (H0.out _ (by repeat (first | exact hbb | refine Below.drew ?_ | refine Below.setCell ?_ (by (try simp); try omega) _ | refine Below.alloc ?_ (by (try simp); try omega) _))).mono ?_; rintro e w3 ⟨rfl, hb3⟩; have hbb := growT (w := w) (by repeat (first | exact hbb | refine Below.drew ?_ | refine Below.setCell ?_ (by (try simp); try omega) _ | refine Below.alloc ?_ (by (try simp); try omega) _)) hb3; have hzz := hbb.size; have hs3 := hb3.size; (try simp at hs3)))
  all_goals
    go_wp2_with fail
    go_ret
    exact ⟨ret_s HN.out.symm, by repeat (first | exact hbb | refine Below.drew ?_ | refine Below.setCell ?_ (by (try simp); try omega) _ | refine Below.alloc ?_ (by (try simp); try omega) _)⟩
end X
end Go.Proofs.YtljblaglfooclaaGreatDoor

namespace Go.Proofs.YtljblaglfooclaaGreatDoor
open Go.RowKit
namespace X

set_option maxRecDepth 20000 in
set_option maxHeartbeats 4000000 in
theorem pj6 (t : ByteArray) (n l : Int) (r : List X) (A : Option Addr) (cap : Nat) (w : World) (P : Nat → Prop) (hK : Kc w P r (.slice A r.length cap)) (hP : ∀ b, P b → b < w.heap.size) (hC : PrS w P r)
    (hz : ∀ j need, j < r.length → (atT need (kd (PK r) j)).size ≤ 1048576) (hl : r.length ≤ 24) (hzj : (joT [44, 32] ((PK r).map (atT 0))).size ≤ 1048576) :
    Calls Tryz.prog 30 #[.agg #[.int .i64 6, .string t, .int .i64 n, .int .i64 l, .slice A r.length cap]] w fun e w' => e = .returned (.string (noT lvB cqB 6 t n (PK r))) ∧ Below w.heap.size w w' := by
  have HN := Lib.hid (show noT lvB cqB 6 t n (PK r) = ⟨#[91]⟩ ++ joT [44, 32] ((PK r).map (atT 0)) ++ ⟨#[93]⟩ from rfl)
  have hA : ∀ W : World, Below w.heap.size w W → Calls Tryz.prog 52 #[.slice A r.length cap, .string ⟨#[44, 32]⟩] W fun e w' => e = .returned (.string (joT [44, 32] ((PK r).map (atT 0)))) ∧ Below W.heap.size W w' := fun W hW => specAllK [44, 32] r A cap w W P hK hP hW hC (by omega) (by decide) hzj (fun j hj => hz j 0 hj)
  generalize joT [44, 32] ((PK r).map (atT 0)) = J at hA HN hzj
  have g0 : ¬ 9223372036854775807 < 1 + J.size := by omega
  have g1 : ¬ 9223372036854775807 < 1 + J.size + 1 := by omega
  clear hC hz
  go_enter Tryz.func30, Tryz.ntmps30
  go_wp2_with (go_at_call 52; refine (hA _ (by repeat (first | exact Below.refl _ _ | refine Below.drew ?_ | refine Below.setCell ?_ (by (try simp); try omega) _ | refine Below.alloc ?_ (by (try simp); try omega) _))).mono ?_; rintro e w1 ⟨rfl, hb1⟩)
  go_ret
  exact ⟨ret_s HN.out.symm, Below.trans (by repeat (first | exact Below.refl _ _ | refine Below.drew ?_ | refine Below.setCell ?_ (by (try simp); try omega) _ | refine Below.alloc ?_ (by (try simp); try omega) _)) (hb1.mono (by simp))⟩
set_option maxRecDepth 20000 in
set_option maxHeartbeats 4000000 in
theorem pj14 (t : ByteArray) (n l : Int) (r : List X) (A : Option Addr) (cap : Nat) (w : World) (P : Nat → Prop) (hK : Kc w P r (.slice A r.length cap)) (hP : ∀ b, P b → b < w.heap.size) (hC : PrS w P r)
    (hz : ∀ j need, j < r.length → (atT need (kd (PK r) j)).size ≤ 1048576) (hl : r.length ≤ 24) (hzj : (joT [59, 32] ((PK r).map (atT 0))).size ≤ 1048576) :
    Calls Tryz.prog 30 #[.agg #[.int .i64 14, .string t, .int .i64 n, .int .i64 l, .slice A r.length cap]] w fun e w' => e = .returned (.string (noT lvB cqB 14 t n (PK r))) ∧ Below w.heap.size w w' := by
  have HN := Lib.hid (show noT lvB cqB 14 t n (PK r) = ⟨#[123]⟩ ++ joT [59, 32] ((PK r).map (atT 0)) ++ ⟨#[125]⟩ from rfl)
  have hA : ∀ W : World, Below w.heap.size w W → Calls Tryz.prog 52 #[.slice A r.length cap, .string ⟨#[59, 32]⟩] W fun e w' => e = .returned (.string (joT [59, 32] ((PK r).map (atT 0)))) ∧ Below W.heap.size W w' := fun W hW => specAllK [59, 32] r A cap w W P hK hP hW hC (by omega) (by decide) hzj (fun j hj => hz j 0 hj)
  generalize joT [59, 32] ((PK r).map (atT 0)) = J at hA HN hzj
  have g0 : ¬ 9223372036854775807 < 1 + J.size := by omega
  have g1 : ¬ 9223372036854775807 < 1 + J.size + 1 := by omega
  clear hC hz
  go_enter Tryz.func30, Tryz.ntmps30
  go_wp2_with (go_at_call 52; refine (hA _ (by repeat (first | exact Below.refl _ _ | refine Below.drew ?_ | refine Below.setCell ?_ (by (try simp); try omega) _ | refine Below.alloc ?_ (by (try simp); try omega) _))).mono ?_; rintro e w1 ⟨rfl, hb1⟩)
  go_ret
  exact ⟨ret_s HN.out.symm, Below.trans (by repeat (first | exact Below.refl _ _ | refine Below.drew ?_ | refine Below.setCell ?_ (by (try simp); try omega) _ | refine Below.alloc ?_ (by (try simp); try omega) _)) (hb1.mono (by simp))⟩
set_option maxRecDepth 20000 in
set_option maxHeartbeats 4000000 in
theorem pj29 (t : ByteArray) (n l : Int) (r : List X) (A : Option Addr) (cap : Nat) (w : World) (P : Nat → Prop) (hK : Kc w P r (.slice A r.length cap)) (hP : ∀ b, P b → b < w.heap.size) (hC : PrS w P r)
    (hz : ∀ j need, j < r.length → (atT need (kd (PK r) j)).size ≤ 1048576) (hl : r.length ≤ 24) (hzj : (joT [44, 32] ((PK r).map (atT 0))).size ≤ 1048576) :
    Calls Tryz.prog 30 #[.agg #[.int .i64 29, .string t, .int .i64 n, .int .i64 l, .slice A r.length cap]] w fun e w' => e = .returned (.string (noT lvB cqB 29 t n (PK r))) ∧ Below w.heap.size w w' := by
  have HN := Lib.hid (show noT lvB cqB 29 t n (PK r) = ⟨#[40]⟩ ++ joT [44, 32] ((PK r).map (atT 0)) ++ ⟨#[41]⟩ from rfl)
  have hA : ∀ W : World, Below w.heap.size w W → Calls Tryz.prog 52 #[.slice A r.length cap, .string ⟨#[44, 32]⟩] W fun e w' => e = .returned (.string (joT [44, 32] ((PK r).map (atT 0)))) ∧ Below W.heap.size W w' := fun W hW => specAllK [44, 32] r A cap w W P hK hP hW hC (by omega) (by decide) hzj (fun j hj => hz j 0 hj)
  generalize joT [44, 32] ((PK r).map (atT 0)) = J at hA HN hzj
  have g0 : ¬ 9223372036854775807 < 1 + J.size := by omega
  have g1 : ¬ 9223372036854775807 < 1 + J.size + 1 := by omega
  clear hC hz
  go_enter Tryz.func30, Tryz.ntmps30
  go_wp2_with (go_at_call 52; refine (hA _ (by repeat (first | exact Below.refl _ _ | refine Below.drew ?_ | refine Below.setCell ?_ (by (try simp); try omega) _ | refine Below.alloc ?_ (by (try simp); try omega) _))).mono ?_; rintro e w1 ⟨rfl, hb1⟩)
  go_ret
  exact ⟨ret_s HN.out.symm, Below.trans (by repeat (first | exact Below.refl _ _ | refine Below.drew ?_ | refine Below.setCell ?_ (by (try simp); try omega) _ | refine Below.alloc ?_ (by (try simp); try omega) _)) (hb1.mono (by simp))⟩
set_option maxRecDepth 20000 in
set_option maxHeartbeats 4000000 in
theorem pj15 (t : ByteArray) (n l : Int) (r : List X) (A : Option Addr) (cap : Nat) (w : World) (P : Nat → Prop) (hK : Kc w P r (.slice A r.length cap)) (hP : ∀ b, P b → b < w.heap.size) (hC : PrS w P r)
    (hz : ∀ j need, j < r.length → (atT need (kd (PK r) j)).size ≤ 1048576) (hl : r.length ≤ 3) :
    Calls Tryz.prog 30 #[.agg #[.int .i64 15, .string t, .int .i64 n, .int .i64 l, .slice A r.length cap]] w fun e w' => e = .returned (.string (noT lvB cqB 15 t n (PK r))) ∧ Below w.heap.size w w' := by
  have HN := Lib.hid (show noT lvB cqB 15 t n (PK r) = woT [⟨#[105, 102]⟩, ⟨#[116, 104, 101, 110]⟩, ⟨#[101, 108, 115, 101]⟩] (PK r) r.length by
    rw [show noT lvB cqB 15 t n (PK r) = woT (wrdT 15) (PK r) (PK r).length from rfl, pK_length]; rfl)
  have hA : ∀ (W : World) (cs : Array Value) (G : Nat), Below w.heap.size w W → cs.toList = textsV [⟨#[105, 102]⟩, ⟨#[116, 104, 101, 110]⟩, ⟨#[101, 108, 115, 101]⟩] → G = W.heap.size → Calls Tryz.prog 53 #[.agg #[.int .i64 15, .string t, .int .i64 n, .int .i64 l, .slice A r.length cap], .slice (some ⟨G, 0, none⟩) 3 3] (W.alloc (.cells cs 9)) fun e w' => e = .returned (.string (woT [⟨#[105, 102]⟩, ⟨#[116, 104, 101, 110]⟩, ⟨#[101, 108, 115, 101]⟩] (PK r) r.length)) ∧ Below (W.alloc (.cells cs 9)).heap.size (W.alloc (.cells cs 9)) w' := fun W cs G hW hcs hG => by
      have h := specWords8 [⟨#[105, 102]⟩, ⟨#[116, 104, 101, 110]⟩, ⟨#[101, 108, 115, 101]⟩] 15 t n l r A cap w W P hK hP hW hC (fun j need hj => Nat.le_trans (hz j need hj) (by omega)) hl (by decide) (by decide) (fun j => by
        rcases j with _ | _ | _ | j <;> first | decide | exact Nat.zero_le _) hcs (T := 9) hG (m := 3) rfl
      exact h
  generalize woT [⟨#[105, 102]⟩, ⟨#[116, 104, 101, 110]⟩, ⟨#[101, 108, 115, 101]⟩] (PK r) r.length = J at hA HN
  clear hC hz
  go_enter Tryz.func30, Tryz.ntmps30
  go_wp2_with (go_at_call 53; refine Calls.mono (hA _ _ _ (by repeat (first | exact Below.refl _ _ | refine Below.drew ?_ | refine Below.setCell ?_ (by (try simp); try omega) _ | refine Below.alloc ?_ (by (try simp); try omega) _)) (by rfl) (by first | rfl | simp)) ?_; rintro e w1 ⟨rfl, hb1⟩)
  go_ret
  exact ⟨ret_s HN.out.symm, Below.trans (by repeat (first | exact Below.refl _ _ | refine Below.drew ?_ | refine Below.setCell ?_ (by (try simp); try omega) _ | refine Below.alloc ?_ (by (try simp); try omega) _)) (hb1.mono (by simp; try omega))⟩
set_option maxRecDepth 20000 in
set_option maxHeartbeats 4000000 in
theorem pj16 (t : ByteArray) (n l : Int) (r : List X) (A : Option Addr) (cap : Nat) (w : World) (P : Nat → Prop) (hK : Kc w P r (.slice A r.length cap)) (hP : ∀ b, P b → b < w.heap.size) (hC : PrS w P r)
    (hz : ∀ j need, j < r.length → (atT need (kd (PK r) j)).size ≤ 1048576) (hl : r.length ≤ 2) :
    Calls Tryz.prog 30 #[.agg #[.int .i64 16, .string t, .int .i64 n, .int .i64 l, .slice A r.length cap]] w fun e w' => e = .returned (.string (noT lvB cqB 16 t n (PK r))) ∧ Below w.heap.size w w' := by
  have HN := Lib.hid (show noT lvB cqB 16 t n (PK r) = woT [⟨#[119, 104, 105, 108, 101]⟩, ⟨#[100, 111]⟩] (PK r) r.length by
    rw [show noT lvB cqB 16 t n (PK r) = woT (wrdT 16) (PK r) (PK r).length from rfl, pK_length]; rfl)
  have hA : ∀ (W : World) (cs : Array Value) (G : Nat), Below w.heap.size w W → cs.toList = textsV [⟨#[119, 104, 105, 108, 101]⟩, ⟨#[100, 111]⟩] → G = W.heap.size → Calls Tryz.prog 53 #[.agg #[.int .i64 16, .string t, .int .i64 n, .int .i64 l, .slice A r.length cap], .slice (some ⟨G, 0, none⟩) 2 2] (W.alloc (.cells cs 9)) fun e w' => e = .returned (.string (woT [⟨#[119, 104, 105, 108, 101]⟩, ⟨#[100, 111]⟩] (PK r) r.length)) ∧ Below (W.alloc (.cells cs 9)).heap.size (W.alloc (.cells cs 9)) w' := fun W cs G hW hcs hG => by
      have h := specWords8 [⟨#[119, 104, 105, 108, 101]⟩, ⟨#[100, 111]⟩] 16 t n l r A cap w W P hK hP hW hC (fun j need hj => Nat.le_trans (hz j need hj) (by omega)) hl (by decide) (by decide) (fun j => by
        rcases j with _ | _ | _ | j <;> first | decide | exact Nat.zero_le _) hcs (T := 9) hG (m := 2) rfl
      exact h
  generalize woT [⟨#[119, 104, 105, 108, 101]⟩, ⟨#[100, 111]⟩] (PK r) r.length = J at hA HN
  clear hC hz
  go_enter Tryz.func30, Tryz.ntmps30
  go_wp2_with (go_at_call 53; refine Calls.mono (hA _ _ _ (by repeat (first | exact Below.refl _ _ | refine Below.drew ?_ | refine Below.setCell ?_ (by (try simp); try omega) _ | refine Below.alloc ?_ (by (try simp); try omega) _)) (by rfl) (by first | rfl | simp)) ?_; rintro e w1 ⟨rfl, hb1⟩)
  go_ret
  exact ⟨ret_s HN.out.symm, Below.trans (by repeat (first | exact Below.refl _ _ | refine Below.drew ?_ | refine Below.setCell ?_ (by (try simp); try omega) _ | refine Below.alloc ?_ (by (try simp); try omega) _)) (hb1.mono (by simp; try omega))⟩
set_option maxRecDepth 20000 in
set_option maxHeartbeats 4000000 in
theorem pj17 (t : ByteArray) (n l : Int) (r : List X) (A : Option Addr) (cap : Nat) (w : World) (P : Nat → Prop) (hK : Kc w P r (.slice A r.length cap)) (hP : ∀ b, P b → b < w.heap.size) (hC : PrS w P r)
    (hz : ∀ j need, j < r.length → (atT need (kd (PK r) j)).size ≤ 1048576) (hl : r.length ≤ 2) :
    Calls Tryz.prog 30 #[.agg #[.int .i64 17, .string t, .int .i64 n, .int .i64 l, .slice A r.length cap]] w fun e w' => e = .returned (.string (noT lvB cqB 17 t n (PK r))) ∧ Below w.heap.size w w' := by
  have HN := Lib.hid (show noT lvB cqB 17 t n (PK r) = woT [⟨#[117, 110, 116, 105, 108]⟩, ⟨#[100, 111]⟩] (PK r) r.length by
    rw [show noT lvB cqB 17 t n (PK r) = woT (wrdT 17) (PK r) (PK r).length from rfl, pK_length]; rfl)
  have hA : ∀ (W : World) (cs : Array Value) (G : Nat), Below w.heap.size w W → cs.toList = textsV [⟨#[117, 110, 116, 105, 108]⟩, ⟨#[100, 111]⟩] → G = W.heap.size → Calls Tryz.prog 53 #[.agg #[.int .i64 17, .string t, .int .i64 n, .int .i64 l, .slice A r.length cap], .slice (some ⟨G, 0, none⟩) 2 2] (W.alloc (.cells cs 9)) fun e w' => e = .returned (.string (woT [⟨#[117, 110, 116, 105, 108]⟩, ⟨#[100, 111]⟩] (PK r) r.length)) ∧ Below (W.alloc (.cells cs 9)).heap.size (W.alloc (.cells cs 9)) w' := fun W cs G hW hcs hG => by
      have h := specWords8 [⟨#[117, 110, 116, 105, 108]⟩, ⟨#[100, 111]⟩] 17 t n l r A cap w W P hK hP hW hC (fun j need hj => Nat.le_trans (hz j need hj) (by omega)) hl (by decide) (by decide) (fun j => by
        rcases j with _ | _ | _ | j <;> first | decide | exact Nat.zero_le _) hcs (T := 9) hG (m := 2) rfl
      exact h
  generalize woT [⟨#[117, 110, 116, 105, 108]⟩, ⟨#[100, 111]⟩] (PK r) r.length = J at hA HN
  clear hC hz
  go_enter Tryz.func30, Tryz.ntmps30
  go_wp2_with (go_at_call 53; refine Calls.mono (hA _ _ _ (by repeat (first | exact Below.refl _ _ | refine Below.drew ?_ | refine Below.setCell ?_ (by (try simp); try omega) _ | refine Below.alloc ?_ (by (try simp); try omega) _)) (by rfl) (by first | rfl | simp)) ?_; rintro e w1 ⟨rfl, hb1⟩)
  go_ret
  exact ⟨ret_s HN.out.symm, Below.trans (by repeat (first | exact Below.refl _ _ | refine Below.drew ?_ | refine Below.setCell ?_ (by (try simp); try omega) _ | refine Below.alloc ?_ (by (try simp); try omega) _)) (hb1.mono (by simp; try omega))⟩
set_option maxRecDepth 20000 in
set_option maxHeartbeats 4000000 in
theorem pj18 (t : ByteArray) (n l : Int) (r : List X) (A : Option Addr) (cap : Nat) (w : World) (P : Nat → Prop) (hK : Kc w P r (.slice A r.length cap)) (hP : ∀ b, P b → b < w.heap.size) (hC : PrS w P r)
    (hz : ∀ j need, j < r.length → (atT need (kd (PK r) j)).size ≤ 1048576) (hl : r.length ≤ 2) :
    Calls Tryz.prog 30 #[.agg #[.int .i64 18, .string t, .int .i64 n, .int .i64 l, .slice A r.length cap]] w fun e w' => e = .returned (.string (noT lvB cqB 18 t n (PK r))) ∧ Below w.heap.size w w' := by
  have HN := Lib.hid (show noT lvB cqB 18 t n (PK r) = woT [⟨#[101, 118, 101, 114, 121]⟩, ⟨#[100, 111]⟩] (PK r) r.length by
    rw [show noT lvB cqB 18 t n (PK r) = woT (wrdT 18) (PK r) (PK r).length from rfl, pK_length]; rfl)
  have hA : ∀ (W : World) (cs : Array Value) (G : Nat), Below w.heap.size w W → cs.toList = textsV [⟨#[101, 118, 101, 114, 121]⟩, ⟨#[100, 111]⟩] → G = W.heap.size → Calls Tryz.prog 53 #[.agg #[.int .i64 18, .string t, .int .i64 n, .int .i64 l, .slice A r.length cap], .slice (some ⟨G, 0, none⟩) 2 2] (W.alloc (.cells cs 9)) fun e w' => e = .returned (.string (woT [⟨#[101, 118, 101, 114, 121]⟩, ⟨#[100, 111]⟩] (PK r) r.length)) ∧ Below (W.alloc (.cells cs 9)).heap.size (W.alloc (.cells cs 9)) w' := fun W cs G hW hcs hG => by
      have h := specWords8 [⟨#[101, 118, 101, 114, 121]⟩, ⟨#[100, 111]⟩] 18 t n l r A cap w W P hK hP hW hC (fun j need hj => Nat.le_trans (hz j need hj) (by omega)) hl (by decide) (by decide) (fun j => by
        rcases j with _ | _ | _ | j <;> first | decide | exact Nat.zero_le _) hcs (T := 9) hG (m := 2) rfl
      exact h
  generalize woT [⟨#[101, 118, 101, 114, 121]⟩, ⟨#[100, 111]⟩] (PK r) r.length = J at hA HN
  clear hC hz
  go_enter Tryz.func30, Tryz.ntmps30
  go_wp2_with (go_at_call 53; refine Calls.mono (hA _ _ _ (by repeat (first | exact Below.refl _ _ | refine Below.drew ?_ | refine Below.setCell ?_ (by (try simp); try omega) _ | refine Below.alloc ?_ (by (try simp); try omega) _)) (by rfl) (by first | rfl | simp)) ?_; rintro e w1 ⟨rfl, hb1⟩)
  go_ret
  exact ⟨ret_s HN.out.symm, Below.trans (by repeat (first | exact Below.refl _ _ | refine Below.drew ?_ | refine Below.setCell ?_ (by (try simp); try omega) _ | refine Below.alloc ?_ (by (try simp); try omega) _)) (hb1.mono (by simp; try omega))⟩
set_option maxRecDepth 20000 in
set_option maxHeartbeats 4000000 in
theorem pj19 (t : ByteArray) (n l : Int) (r : List X) (A : Option Addr) (cap : Nat) (w : World) (P : Nat → Prop) (hK : Kc w P r (.slice A r.length cap)) (hP : ∀ b, P b → b < w.heap.size) (hC : PrS w P r)
    (hz : ∀ j need, j < r.length → (atT need (kd (PK r) j)).size ≤ 1048576) (hl : r.length ≤ 1) :
    Calls Tryz.prog 30 #[.agg #[.int .i64 19, .string t, .int .i64 n, .int .i64 l, .slice A r.length cap]] w fun e w' => e = .returned (.string (noT lvB cqB 19 t n (PK r))) ∧ Below w.heap.size w w' := by
  have HN := Lib.hid (show noT lvB cqB 19 t n (PK r) = woT [⟨#[114, 101, 112, 101, 97, 116]⟩] (PK r) r.length by
    rw [show noT lvB cqB 19 t n (PK r) = woT (wrdT 19) (PK r) (PK r).length from rfl, pK_length]; rfl)
  have hA : ∀ (W : World) (cs : Array Value) (G : Nat), Below w.heap.size w W → cs.toList = textsV [⟨#[114, 101, 112, 101, 97, 116]⟩] → G = W.heap.size → Calls Tryz.prog 53 #[.agg #[.int .i64 19, .string t, .int .i64 n, .int .i64 l, .slice A r.length cap], .slice (some ⟨G, 0, none⟩) 1 1] (W.alloc (.cells cs 9)) fun e w' => e = .returned (.string (woT [⟨#[114, 101, 112, 101, 97, 116]⟩] (PK r) r.length)) ∧ Below (W.alloc (.cells cs 9)).heap.size (W.alloc (.cells cs 9)) w' := fun W cs G hW hcs hG => by
      have h := specWords8 [⟨#[114, 101, 112, 101, 97, 116]⟩] 19 t n l r A cap w W P hK hP hW hC (fun j need hj => Nat.le_trans (hz j need hj) (by omega)) hl (by decide) (by decide) (fun j => by
        rcases j with _ | _ | _ | j <;> first | decide | exact Nat.zero_le _) hcs (T := 9) hG (m := 1) rfl
      exact h
  generalize woT [⟨#[114, 101, 112, 101, 97, 116]⟩] (PK r) r.length = J at hA HN
  clear hC hz
  go_enter Tryz.func30, Tryz.ntmps30
  go_wp2_with (go_at_call 53; refine Calls.mono (hA _ _ _ (by repeat (first | exact Below.refl _ _ | refine Below.drew ?_ | refine Below.setCell ?_ (by (try simp); try omega) _ | refine Below.alloc ?_ (by (try simp); try omega) _)) (by rfl) (by first | rfl | simp)) ?_; rintro e w1 ⟨rfl, hb1⟩)
  go_ret
  exact ⟨ret_s HN.out.symm, Below.trans (by repeat (first | exact Below.refl _ _ | refine Below.drew ?_ | refine Below.setCell ?_ (by (try simp); try omega) _ | refine Below.alloc ?_ (by (try simp); try omega) _)) (hb1.mono (by simp; try omega))⟩
set_option maxRecDepth 20000 in
set_option maxHeartbeats 4000000 in
theorem pj21 (t : ByteArray) (n l : Int) (r : List X) (A : Option Addr) (cap : Nat) (w : World) (P : Nat → Prop) (hK : Kc w P r (.slice A r.length cap)) (hP : ∀ b, P b → b < w.heap.size) (hC : PrS w P r)
    (hz : ∀ j need, j < r.length → (atT need (kd (PK r) j)).size ≤ 1048576) (hl : r.length ≤ 1) :
    Calls Tryz.prog 30 #[.agg #[.int .i64 21, .string t, .int .i64 n, .int .i64 l, .slice A r.length cap]] w fun e w' => e = .returned (.string (noT lvB cqB 21 t n (PK r))) ∧ Below w.heap.size w w' := by
  have HN := Lib.hid (show noT lvB cqB 21 t n (PK r) = woT [⟨#[114, 101, 116, 117, 114, 110]⟩] (PK r) r.length by
    rw [show noT lvB cqB 21 t n (PK r) = woT (wrdT 21) (PK r) (PK r).length from rfl, pK_length]; rfl)
  have hA : ∀ (W : World) (cs : Array Value) (G : Nat), Below w.heap.size w W → cs.toList = textsV [⟨#[114, 101, 116, 117, 114, 110]⟩] → G = W.heap.size → Calls Tryz.prog 53 #[.agg #[.int .i64 21, .string t, .int .i64 n, .int .i64 l, .slice A r.length cap], .slice (some ⟨G, 0, none⟩) 1 1] (W.alloc (.cells cs 9)) fun e w' => e = .returned (.string (woT [⟨#[114, 101, 116, 117, 114, 110]⟩] (PK r) r.length)) ∧ Below (W.alloc (.cells cs 9)).heap.size (W.alloc (.cells cs 9)) w' := fun W cs G hW hcs hG => by
      have h := specWords8 [⟨#[114, 101, 116, 117, 114, 110]⟩] 21 t n l r A cap w W P hK hP hW hC (fun j need hj => Nat.le_trans (hz j need hj) (by omega)) hl (by decide) (by decide) (fun j => by
        rcases j with _ | _ | _ | j <;> first | decide | exact Nat.zero_le _) hcs (T := 9) hG (m := 1) rfl
      exact h
  generalize woT [⟨#[114, 101, 116, 117, 114, 110]⟩] (PK r) r.length = J at hA HN
  clear hC hz
  go_enter Tryz.func30, Tryz.ntmps30
  go_wp2_with (go_at_call 53; refine Calls.mono (hA _ _ _ (by repeat (first | exact Below.refl _ _ | refine Below.drew ?_ | refine Below.setCell ?_ (by (try simp); try omega) _ | refine Below.alloc ?_ (by (try simp); try omega) _)) (by rfl) (by first | rfl | simp)) ?_; rintro e w1 ⟨rfl, hb1⟩)
  go_ret
  exact ⟨ret_s HN.out.symm, Below.trans (by repeat (first | exact Below.refl _ _ | refine Below.drew ?_ | refine Below.setCell ?_ (by (try simp); try omega) _ | refine Below.alloc ?_ (by (try simp); try omega) _)) (hb1.mono (by simp; try omega))⟩
set_option maxRecDepth 20000 in
set_option maxHeartbeats 4000000 in
theorem pj22 (t : ByteArray) (n l : Int) (r : List X) (A : Option Addr) (cap : Nat) (w : World) (P : Nat → Prop) (hK : Kc w P r (.slice A r.length cap)) (hP : ∀ b, P b → b < w.heap.size) (hC : PrS w P r)
    (hz : ∀ j need, j < r.length → (atT need (kd (PK r) j)).size ≤ 1048576) (hl : r.length ≤ 2) :
    Calls Tryz.prog 30 #[.agg #[.int .i64 22, .string t, .int .i64 n, .int .i64 l, .slice A r.length cap]] w fun e w' => e = .returned (.string (noT lvB cqB 22 t n (PK r))) ∧ Below w.heap.size w w' := by
  have HN := Lib.hid (show noT lvB cqB 22 t n (PK r) = woT [⟨#[115, 117, 115, 112, 101, 110, 100]⟩, ⟨#[100, 111]⟩] (PK r) r.length by
    rw [show noT lvB cqB 22 t n (PK r) = woT (wrdT 22) (PK r) (PK r).length from rfl, pK_length]; rfl)
  have hA : ∀ (W : World) (cs : Array Value) (G : Nat), Below w.heap.size w W → cs.toList = textsV [⟨#[115, 117, 115, 112, 101, 110, 100]⟩, ⟨#[100, 111]⟩] → G = W.heap.size → Calls Tryz.prog 53 #[.agg #[.int .i64 22, .string t, .int .i64 n, .int .i64 l, .slice A r.length cap], .slice (some ⟨G, 0, none⟩) 2 2] (W.alloc (.cells cs 9)) fun e w' => e = .returned (.string (woT [⟨#[115, 117, 115, 112, 101, 110, 100]⟩, ⟨#[100, 111]⟩] (PK r) r.length)) ∧ Below (W.alloc (.cells cs 9)).heap.size (W.alloc (.cells cs 9)) w' := fun W cs G hW hcs hG => by
      have h := specWords8 [⟨#[115, 117, 115, 112, 101, 110, 100]⟩, ⟨#[100, 111]⟩] 22 t n l r A cap w W P hK hP hW hC (fun j need hj => Nat.le_trans (hz j need hj) (by omega)) hl (by decide) (by decide) (fun j => by
        rcases j with _ | _ | _ | j <;> first | decide | exact Nat.zero_le _) hcs (T := 9) hG (m := 2) rfl
      exact h
  generalize woT [⟨#[115, 117, 115, 112, 101, 110, 100]⟩, ⟨#[100, 111]⟩] (PK r) r.length = J at hA HN
  clear hC hz
  go_enter Tryz.func30, Tryz.ntmps30
  go_wp2_with (go_at_call 53; refine Calls.mono (hA _ _ _ (by repeat (first | exact Below.refl _ _ | refine Below.drew ?_ | refine Below.setCell ?_ (by (try simp); try omega) _ | refine Below.alloc ?_ (by (try simp); try omega) _)) (by rfl) (by first | rfl | simp)) ?_; rintro e w1 ⟨rfl, hb1⟩)
  go_ret
  exact ⟨ret_s HN.out.symm, Below.trans (by repeat (first | exact Below.refl _ _ | refine Below.drew ?_ | refine Below.setCell ?_ (by (try simp); try omega) _ | refine Below.alloc ?_ (by (try simp); try omega) _)) (hb1.mono (by simp; try omega))⟩
set_option maxRecDepth 20000 in
set_option maxHeartbeats 4000000 in
theorem pj24 (t : ByteArray) (n l : Int) (r : List X) (A : Option Addr) (cap : Nat) (w : World) (P : Nat → Prop) (hK : Kc w P r (.slice A r.length cap)) (hP : ∀ b, P b → b < w.heap.size) (hC : PrS w P r)
    (hz : ∀ j need, j < r.length → (atT need (kd (PK r) j)).size ≤ 1048576) (hl : r.length ≤ 1) :
    Calls Tryz.prog 30 #[.agg #[.int .i64 24, .string t, .int .i64 n, .int .i64 l, .slice A r.length cap]] w fun e w' => e = .returned (.string (noT lvB cqB 24 t n (PK r))) ∧ Below w.heap.size w w' := by
  have HN := Lib.hid (show noT lvB cqB 24 t n (PK r) = woT [⟨#[98, 114, 101, 97, 107]⟩] (PK r) r.length by
    rw [show noT lvB cqB 24 t n (PK r) = woT (wrdT 24) (PK r) (PK r).length from rfl, pK_length]; rfl)
  have hA : ∀ (W : World) (cs : Array Value) (G : Nat), Below w.heap.size w W → cs.toList = textsV [⟨#[98, 114, 101, 97, 107]⟩] → G = W.heap.size → Calls Tryz.prog 53 #[.agg #[.int .i64 24, .string t, .int .i64 n, .int .i64 l, .slice A r.length cap], .slice (some ⟨G, 0, none⟩) 1 1] (W.alloc (.cells cs 9)) fun e w' => e = .returned (.string (woT [⟨#[98, 114, 101, 97, 107]⟩] (PK r) r.length)) ∧ Below (W.alloc (.cells cs 9)).heap.size (W.alloc (.cells cs 9)) w' := fun W cs G hW hcs hG => by
      have h := specWords8 [⟨#[98, 114, 101, 97, 107]⟩] 24 t n l r A cap w W P hK hP hW hC (fun j need hj => Nat.le_trans (hz j need hj) (by omega)) hl (by decide) (by decide) (fun j => by
        rcases j with _ | _ | _ | j <;> first | decide | exact Nat.zero_le _) hcs (T := 9) hG (m := 1) rfl
      exact h
  generalize woT [⟨#[98, 114, 101, 97, 107]⟩] (PK r) r.length = J at hA HN
  clear hC hz
  go_enter Tryz.func30, Tryz.ntmps30
  go_wp2_with (go_at_call 53; refine Calls.mono (hA _ _ _ (by repeat (first | exact Below.refl _ _ | refine Below.drew ?_ | refine Below.setCell ?_ (by (try simp); try omega) _ | refine Below.alloc ?_ (by (try simp); try omega) _)) (by rfl) (by first | rfl | simp)) ?_; rintro e w1 ⟨rfl, hb1⟩)
  go_ret
  exact ⟨ret_s HN.out.symm, Below.trans (by repeat (first | exact Below.refl _ _ | refine Below.drew ?_ | refine Below.setCell ?_ (by (try simp); try omega) _ | refine Below.alloc ?_ (by (try simp); try omega) _)) (hb1.mono (by simp; try omega))⟩
set_option maxRecDepth 20000 in
set_option maxHeartbeats 4000000 in
theorem pj26 (t : ByteArray) (n l : Int) (r : List X) (A : Option Addr) (cap : Nat) (w : World) (P : Nat → Prop) (hK : Kc w P r (.slice A r.length cap)) (hP : ∀ b, P b → b < w.heap.size) (hC : PrS w P r)
    (hz : ∀ j need, j < r.length → (atT need (kd (PK r) j)).size ≤ 1048576) (hl : r.length ≤ 1) :
    Calls Tryz.prog 30 #[.agg #[.int .i64 26, .string t, .int .i64 n, .int .i64 l, .slice A r.length cap]] w fun e w' => e = .returned (.string (noT lvB cqB 26 t n (PK r))) ∧ Below w.heap.size w w' := by
  have HN := Lib.hid (show noT lvB cqB 26 t n (PK r) = woT [⟨#[99, 114, 101, 97, 116, 101]⟩] (PK r) r.length by
    rw [show noT lvB cqB 26 t n (PK r) = woT (wrdT 26) (PK r) (PK r).length from rfl, pK_length]; rfl)
  have hA : ∀ (W : World) (cs : Array Value) (G : Nat), Below w.heap.size w W → cs.toList = textsV [⟨#[99, 114, 101, 97, 116, 101]⟩] → G = W.heap.size → Calls Tryz.prog 53 #[.agg #[.int .i64 26, .string t, .int .i64 n, .int .i64 l, .slice A r.length cap], .slice (some ⟨G, 0, none⟩) 1 1] (W.alloc (.cells cs 9)) fun e w' => e = .returned (.string (woT [⟨#[99, 114, 101, 97, 116, 101]⟩] (PK r) r.length)) ∧ Below (W.alloc (.cells cs 9)).heap.size (W.alloc (.cells cs 9)) w' := fun W cs G hW hcs hG => by
      have h := specWords8 [⟨#[99, 114, 101, 97, 116, 101]⟩] 26 t n l r A cap w W P hK hP hW hC (fun j need hj => Nat.le_trans (hz j need hj) (by omega)) hl (by decide) (by decide) (fun j => by
        rcases j with _ | _ | _ | j <;> first | decide | exact Nat.zero_le _) hcs (T := 9) hG (m := 1) rfl
      exact h
  generalize woT [⟨#[99, 114, 101, 97, 116, 101]⟩] (PK r) r.length = J at hA HN
  clear hC hz
  go_enter Tryz.func30, Tryz.ntmps30
  go_wp2_with (go_at_call 53; refine Calls.mono (hA _ _ _ (by repeat (first | exact Below.refl _ _ | refine Below.drew ?_ | refine Below.setCell ?_ (by (try simp); try omega) _ | refine Below.alloc ?_ (by (try simp); try omega) _)) (by rfl) (by first | rfl | simp)) ?_; rintro e w1 ⟨rfl, hb1⟩)
  go_ret
  exact ⟨ret_s HN.out.symm, Below.trans (by repeat (first | exact Below.refl _ _ | refine Below.drew ?_ | refine Below.setCell ?_ (by (try simp); try omega) _ | refine Below.alloc ?_ (by (try simp); try omega) _)) (hb1.mono (by simp; try omega))⟩
end X
end Go.Proofs.YtljblaglfooclaaGreatDoor

namespace Go.Proofs.YtljblaglfooclaaGreatDoor
open Go.RowKit
namespace X

set_option maxRecDepth 20000 in
set_option maxHeartbeats 8000000 in
theorem pj20 (t : ByteArray) (n l : Int) (r : List X) (A : Option Addr) (cap : Nat) (w : World) (P : Nat → Prop) (hK : Kc w P r (.slice A r.length cap)) (hP : ∀ b, P b → b < w.heap.size) (hr : 0 < r.length) (hC : PrS w P r)
    (hz : ∀ j need, j < r.length → (atT need (kd (PK r) j)).size ≤ 1048576) (hl : r.length ≤ 24) (hn : n = 0 ∨ n = 1) (M : Nat) (hM : (r.length : Int) = 1 + n + 2 * (M : Int)) (hzj : (joT [59, 32] (caT n (PK r))).size ≤ 1048576) (hzc : ∀ x ∈ caT n (PK r), x.size ≤ 1048576) :
    Calls Tryz.prog 30 #[.agg #[.int .i64 20, .string t, .int .i64 n, .int .i64 l, .slice A r.length cap]] w fun e w' => e = .returned (.string (noT lvB cqB 20 t n (PK r))) ∧ Below w.heap.size w w' := by
  obtain ⟨b, o, rfl, hb, hkid⟩ := hK.row hr
  have hbw0 := hP b hb
  obtain ⟨hjr, hjl⟩ := joT_R [59, 32] (caT n (PK r)) hzj
  have HN := Lib.hid (show noT lvB cqB 20 t n (PK r) = ⟨#[99, 97, 115, 101, 32]⟩ ++ atT 1 (kd (PK r) 0) ++ ⟨#[32, 111, 102, 32, 123]⟩ ++ joT [59, 32] (caT n (PK r)) ++ ⟨#[125]⟩ from rfl)
  have hlenK : (PK r).length = r.length := pK_length lvB cqB r
  have HC0 := Lib.hid (fun (h : n ≠ 1) => caT_0 h (PK r) M (by rw [hlenK]; omega))
  have HC1 := Lib.hid (fun (_ : n = 1) => caT_1 (PK r) M (by rw [hlenK]; omega))
  have hcl : (caT n (PK r)).length ≤ 24 := by
    rcases hn with h | h
    · rw [HC0.out (by omega), prs_len]; omega
    · subst h; rw [HC1.out rfl, List.length_append, prs_len]; simp; omega
  obtain ⟨A0, cap0, k0, v0⟩ := hkid 0 hr
  have H0 : Hid (∀ W : World, Below w.heap.size w W → Calls Tryz.prog 14 #[.agg #[.int .i64 r[0].k, .string r[0].t, .int .i64 r[0].n, .int .i64 r[0].l, .slice A0 r[0].r.length cap0], .int .i64 1] W fun e w' => e = .returned (.string (atT 1 (kd (PK r) 0))) ∧ Below W.heap.size W w') := Lib.hid fun W hW => hC 0 hr 1 W A0 cap0 hW k0
  have q0 := hz 0 1 hr
  have HJN : Hid (∀ (v : Value) (V W : World), SBuf V (w.heap.size + 1) v (caT n (PK r)) → Below V.heap.size V W → Calls Tryz.prog 13 #[v, .string ⟨#[59, 32]⟩] W fun e w' => e = .returned (.string (joT [59, 32] (caT n (PK r)))) ∧ Below W.heap.size W w') := Lib.hid fun v V W hV hW => by
    have h := specJoined (caT n (PK r)) ⟨#[59, 32]⟩ v (· < W.heap.size) W (hV.sr_in hW) (fun _ h => h) (by omega) (by decide) hjl (fun i h => hzc _ (List.getElem_mem h))
    rw [hjr] at h
    exact h
  clear hjr hlenK hjl hzc hcl
  generalize hp0 : atT 1 (kd (PK r) 0) = p0 at H0 q0 HN
  generalize joT [59, 32] (caT n (PK r)) = J at hzj HJN HN
  rw [show o + 0 * 5 = o by omega] at v0
  obtain ⟨a0, a1, a2, a3, a4⟩ := id v0
  have g0 : ¬ 9223372036854775807 < 5 + p0.size := by omega
  have g1 : ¬ 9223372036854775807 < 5 + p0.size + 5 := by omega
  have g2 : ¬ 9223372036854775807 < 5 + p0.size + 5 + J.size := by omega
  have g3 : ¬ 9223372036854775807 < 5 + p0.size + 5 + J.size + 1 := by omega
  go_enter Tryz.func30, Tryz.ntmps30
  have hbb1 : Below w.heap.size w (w.alloc (.cells #[.int .i64 20, .string t, .int .i64 n, .int .i64 l, .slice (some ⟨b, o, none⟩) r.length cap] 46)) := by repeat (first | exact Below.refl _ _ | refine Below.drew ?_ | refine Below.setCell ?_ (by (try simp); try omega) _ | refine Below.alloc ?_ (by (try simp); try omega) _)
  have hv := Var.new w 20 t n l (.slice (some ⟨b, o, none⟩) r.length cap) 46
  have hg1 : w.heap.size + 1 ≤ (w.alloc (.cells #[.int .i64 20, .string t, .int .i64 n, .int .i64 l, .slice (some ⟨b, o, none⟩) r.length cap] 46)).heap.size := by simp
  go_upto_region 53 with fail
  generalize w.alloc (.cells #[.int .i64 20, .string t, .int .i64 n, .int .i64 l, .slice (some ⟨b, o, none⟩) r.length cap] 46) = w1 at hbb1 hv hg1 ⊢
  have hM1 : (r.length : Int) ≤ 1 + n + 2 * (M : Int) := by omega
  have hM2 : 1 + n + 2 * (M : Int) ≤ (r.length : Int) := by omega
  clear hM
  have hn0 : 0 ≤ n := by omega
  have hn1 : n ≤ 1 := by omega
  clear a0 a1 a2 a3 a4 hp0 hn
  go_upto_region 54 with fail
  have hv2 := hv.kept ((Below.refl w1.heap.size w1).alloc (Nat.le_refl _) (.cells #[] 9))
  have hS : SBuf (w1.alloc (.cells #[] 9)) (w.heap.size + 1) (.slice (some ⟨w1.heap.size, 0, none⟩) 0 0) [] := SBuf.lit w1 (w.heap.size + 1) [] hg1 (by simp [maxLen])
  have hb2 : Below w.heap.size w (w1.alloc (.cells #[] 9)) := hbb1.alloc hbb1.size _
  have hg2 : w.heap.size + 1 ≤ (w1.alloc (.cells #[] 9)).heap.size := by simp; omega
  generalize w1.alloc (.cells #[] 9) = w2 at hv2 hS hb2 hg2 ⊢
  obtain ⟨d0, d1, d2, d3, d4⟩ := id hv2
  clear hv hbb1 hg1
  go_wp2_with fail
  go_loopw [9, 10] (fun v i wr => ∃ (q m : Nat) (acc : List ByteArray), i = .int .i64 m ∧ m ≤ 1 + 2 * q ∧ 1 + 2 * q ≤ m ∧ q ≤ M ∧ acc.length = q ∧ Hid (acc = prs (PK r) q) ∧ SBuf wr (w.heap.size + 1) v acc ∧ Hid (Var wr w.heap.size 20 t n l (.slice (some ⟨b, o, none⟩) r.length cap)) ∧ w.heap.size + 1 ≤ wr.heap.size ∧ Below w.heap.size w wr)
    (fun _ i _ => r.length + 2 - (intOf i).toNat)
  case atStart => exact ⟨0, 1, [], rfl, by omega, by omega, by omega, rfl, Lib.hid rfl, hS, Lib.hid hv2, hg2, hb2⟩
  case round =>
    obtain ⟨q, m, acc, rfl, hm1, hm2, hqM, hacc, HM, hown, HV, hsg, hb⟩ := hrel
    have hsz := hb.size
    obtain ⟨Av, capv, rfl⟩ := hown.form
    rw [hacc] at hown ⊢
    by_cases hlt : q < M
    · have hmr : m + 1 < r.length := by omega
      obtain ⟨m1, em1⟩ : ∃ m1 : Nat, m1 = m + 1 := ⟨m + 1, rfl⟩
      have ij : (m : Int) + 1 < (r.length : Int) := by omega
      have iw : IntKind.i64.wrap ((m : Int) + 1) = (m1 : Int) := (i64_in' (by omega)).trans (by omega)
      have i1 : (m : Int) < (r.length : Int) := by omega
      have i2 : (m1 : Int) < (r.length : Int) := by omega
      have hbw : Below w.heap.size w wr := hb
      have HN := Lib.hid (show acc ++ [atT 1 (kd (PK r) m) ++ ⟨#[32, 58, 32]⟩ ++ atT 1 (kd (PK r) m1)] = prs (PK r) (q + 1) by rw [HM.out, prs_succ, show m = 1 + 2 * q by omega, show m1 = 1 + 2 * q + 1 by omega])
      obtain ⟨A1, cap1, k1, v1⟩ := hkid m (by omega)
      have u1 := v1.below hbw hbw0
      have H1 : Hid (∀ W : World, Below w.heap.size w W → Calls Tryz.prog 14 #[.agg #[.int .i64 r[m].k, .string r[m].t, .int .i64 r[m].n, .int .i64 r[m].l, .slice A1 r[m].r.length cap1], .int .i64 1] W fun e w' => e = .returned (.string (atT 1 (kd (PK r) m))) ∧ Below W.heap.size W w') := Lib.hid fun W hW => hC m (by omega) 1 W A1 cap1 hW k1
      have q1 := hz m 1 (by omega)
      obtain ⟨A2, cap2, k2, v2⟩ := hkid m1 (by omega)
      have u2 := v2.below hbw hbw0
      have H2 : Hid (∀ W : World, Below w.heap.size w W → Calls Tryz.prog 14 #[.agg #[.int .i64 r[m1].k, .string r[m1].t, .int .i64 r[m1].n, .int .i64 r[m1].l, .slice A2 r[m1].r.length cap2], .int .i64 1] W fun e w' => e = .returned (.string (atT 1 (kd (PK r) m1))) ∧ Below W.heap.size W w') := Lib.hid fun W hW => hC m1 (by omega) 1 W A2 cap2 hW k2
      have q2 := hz m1 1 (by omega)

      generalize atT 1 (kd (PK r) m) = p1 at H1 q1 HN
      generalize atT 1 (kd (PK r) m1) = p2 at H2 q2 HN
      generalize (r[m]'(by omega)) = x1 at u1 H1 k1 v1
      generalize (r[m1]'(by omega)) = x2 at u2 H2 k2 v2
      have HU := Lib.hid (show Var wr w.heap.size 20 t n l (.slice (some ⟨b, o, none⟩) r.length cap) ∧ VarO wr b (o + m * 5) x1 (.slice A1 x1.r.length cap1) ∧ VarO wr b (o + m1 * 5) x2 (.slice A2 x2.r.length cap2) from ⟨HV.out, u1, u2⟩)
      have HO := Lib.hid hown
      obtain ⟨f0, f1, f2, f3, f4⟩ := u1
      obtain ⟨h0, h1, h2, h3, h4⟩ := u2
      have t0 : ¬ 9223372036854775807 < p1.size + 3 := by omega
      have t1 : ¬ 9223372036854775807 < p1.size + 3 + p2.size := by omega
      have hbg : b < w.heap.size + 1 := by omega
      obtain ⟨d0, d1, d2, d3, d4⟩ := id HV.out
      clear em1 HM v1 v2 k1 k2 HV
      go_upto_region 57 with fail
      have hbw := hb
      have hsw := hsz
      go_region_held3 (fun w' => (w'.cell? ⟨w.heap.size, 2, none⟩ = some (.int .i64 n) ∧ w'.cell? ⟨w.heap.size, 4, none⟩ = some (.slice (some ⟨b, o, none⟩) r.length cap)) ∧ (w'.cell? ⟨b, o + m * 5, none⟩ = some (.int .i64 x1.k) ∧ w'.cell? ⟨b, o + m * 5 + 1, none⟩ = some (.string x1.t) ∧ w'.cell? ⟨b, o + m * 5 + 2, none⟩ = some (.int .i64 x1.n) ∧ w'.cell? ⟨b, o + m * 5 + 3, none⟩ = some (.int .i64 x1.l) ∧ w'.cell? ⟨b, o + m * 5 + 4, none⟩ = some (.slice A1 x1.r.length cap1)) ∧ (w'.cell? ⟨b, o + m1 * 5, none⟩ = some (.int .i64 x2.k) ∧ w'.cell? ⟨b, o + m1 * 5 + 1, none⟩ = some (.string x2.t) ∧ w'.cell? ⟨b, o + m1 * 5 + 2, none⟩ = some (.int .i64 x2.n) ∧ w'.cell? ⟨b, o + m1 * 5 + 3, none⟩ = some (.int .i64 x2.l) ∧ w'.cell? ⟨b, o + m1 * 5 + 4, none⟩ = some (.slice A2 x2.r.length cap2))) ((refine keepQ HU.out hbg ?_; repeat (first | exact Below.refl _ _ | refine Below.drew ?_ | refine Below.alloc ?_ (by (try simp); try omega) _ | refine Below.trans ?_ (hb3.mono (by (try simp); try omega)) | refine Below.trans ?_ (hb4.mono (by (try simp); try omega)) | refine Below.trans ?_ (hb5.mono (by (try simp); try omega))))) (first
          | (go_at_call 14; have tok := hb3; refine (H2.out _ (hbw.trans (Below.mono (by repeat (first | exact Below.refl _ _ | refine Below.drew ?_ | refine Below.alloc ?_ (by (try simp); try omega) _ | refine Below.trans ?_ (hb3.mono (by (try simp); try omega)) | refine Below.trans ?_ (hb4.mono (by (try simp); try omega)) | refine Below.trans ?_ (hb5.mono (by (try simp); try omega)))) hsw))).mono ?_; rintro e w4 ⟨rfl, hb4⟩; have hs4 := hb4.size; (try simp at hs4))
          | (go_at_call 14; refine (H1.out _ (hbw.trans (Below.mono (by repeat (first | exact Below.refl _ _ | refine Below.drew ?_ | refine Below.alloc ?_ (by (try simp); try omega) _ | refine Below.trans ?_ (hb3.mono (by (try simp); try omega)) | refine Below.trans ?_ (hb4.mono (by (try simp); try omega)) | refine Below.trans ?_ (hb5.mono (by (try simp); try omega)))) hsw))).mono ?_; rintro e w3 ⟨rfl, hb3⟩; have hs3 := hb3.size; (try simp at hs3))
          | (refine step_appendS rfl _ _ (by rfl) (by rfl) (SBuf.kept HO.out (by repeat (first | exact Below.refl _ _ | refine Below.drew ?_ | refine Below.alloc ?_ (by (try simp); try omega) _ | refine Below.trans ?_ (hb3.mono (by (try simp); try omega)) | refine Below.trans ?_ (hb4.mono (by (try simp); try omega)) | refine Below.trans ?_ (hb5.mono (by (try simp); try omega))))) (by rfl) (by first | rfl | simp) ⟨rfl, rfl, rfl, rfl⟩ (p1 ++ ⟨#[32, 58, 32]⟩ ++ p2) (by rfl) (by omega) (by (try simp); omega) ?_; intro v5 w5 hown5 hb5))
      all_goals
        have hbx : Below (w.heap.size + 1) wr w5 := by repeat (first | exact Below.refl _ _ | refine Below.drew ?_ | refine Below.alloc ?_ (by (try simp); try omega) _ | refine Below.trans ?_ (hb3.mono (by (try simp); try omega)) | refine Below.trans ?_ (hb4.mono (by (try simp); try omega)) | refine Below.trans ?_ (hb5.mono (by (try simp); try omega)))
        have hv5 := Lib.hid (HU.out.1.below hbx (Nat.lt_succ_self _))
        have hg5 := hbx.size
        have hb6 := hb.trans (hbx.mono (Nat.le_succ _))
        go_wp2_with fail
        go_roundw
        case rel =>
          first
          | exact ⟨q + 1, m + 2, _, by go_num, by omega, by omega, by omega, by simp; omega, HN, hown5, hv5, by omega, hb6⟩
          | ((repeat apply Exists.intro); exact ⟨⟨q + 1, m + 2, _, by go_num, by omega, by omega, by omega, by simp; omega, HN, hown5, hv5, by omega, hb6⟩, rfl⟩)
        case measure => simp [intOf]; omega
    · obtain rfl : M = q := by omega
      rcases (show n = 0 ∨ n = 1 by omega) with rfl | rfl
      · have HO := Lib.hid (show SBuf wr (w.heap.size + 1) (.slice Av M capv) (caT 0 (PK r)) by rw [HC0.out (by omega), ← HM.out]; exact hown)
        have ij : ¬ (m : Int) + 1 < (r.length : Int) := by omega
        obtain ⟨d0, d1, d2, d3, d4⟩ := id HV.out
        obtain ⟨c0, c1, c2, c3, c4⟩ := v0.below hb hbw0
        clear HM hown HC1 HC0
        go_wp2_with (first
          | (go_at_call 14; refine (H0.out _ hb).mono ?_; rintro e w6 ⟨rfl, hb6⟩; have hs6 := hb6.size)
          | (go_at_call 13; refine (HJN.out _ _ _ HO.out hb6).mono ?_; rintro e w7 ⟨rfl, hb7⟩))
        go_ret
        exact ⟨ret_s HN.out.symm, hb.trans ((hb6.trans (hb7.mono hs6)).mono hsz)⟩
      · have ij : ¬ (m : Int) + 1 < (r.length : Int) := by omega
        obtain ⟨d0, d1, d2, d3, d4⟩ := id HV.out
        obtain ⟨AL, capL, kL, vL⟩ := hkid m (by omega)
        obtain ⟨b0, b1, b2, b3, b4⟩ := vL.below hb hbw0
        have HL : Hid (∀ W : World, Below w.heap.size w W → Calls Tryz.prog 14 #[.agg #[.int .i64 r[m].k, .string r[m].t, .int .i64 r[m].n, .int .i64 r[m].l, .slice AL r[m].r.length capL], .int .i64 1] W fun e w' => e = .returned (.string (atT 1 (kd (PK r) m))) ∧ Below W.heap.size W w') := Lib.hid fun W hW => hC m (by omega) 1 W AL capL hW kL
        have qL := hz m 1 (by omega)
        have HE := Lib.hid (show acc ++ [⟨#[100, 101, 102, 97, 117, 108, 116, 32, 58, 32]⟩ ++ atT 1 (kd (PK r) m)] = caT 1 (PK r) by rw [HC1.out rfl, HM.out, show m = 1 + 2 * M by omega])
        generalize atT 1 (kd (PK r) m) = pL at HL qL HE
        have HO := Lib.hid hown
        have iL : (m : Int) < (r.length : Int) := by omega
        have gL : ¬ 9223372036854775807 < 10 + pL.size := by omega
        have hrm : (r.length : Int) - 1 = (m : Int) := by omega
        clear HM hown HC1 HC0 kL vL
        go_upto_region 60 with (first
          | (go_at_call 14; refine (HL.out _ hb).mono ?_; rintro e w4 ⟨rfl, hb4⟩; have hs4 := hb4.size; have ow := SBuf.kept HO.out hb4)
          | (at_builtin; refine wpList_appendS_lit rfl _ _ rfl rfl ow 1 rfl (by simp) [⟨#[100, 101, 102, 97, 117, 108, 116, 32, 58, 32]⟩ ++ pL] rfl rfl (by omega) (by omega) ?_; intro v5 w5 hown5 hb5))
        have HO5 := Lib.hid (show SBuf w5 (w.heap.size + 1) v5 (caT 1 (PK r)) by rw [← HE.out]; exact hown5)
        have hbx := (hb.trans (hb4.mono hsz)).trans (hb5.mono (Nat.le_succ _))
        have hsx := hbx.size
        obtain ⟨e0, e1, e2, e3, e4⟩ := (HV.out.kept hb4).below hb5 (Nat.lt_succ_self _)
        obtain ⟨c0, c1, c2, c3, c4⟩ := v0.below hbx hbw0
        go_wp2_with (first
          | (go_at_call 14; refine (H0.out _ hbx).mono ?_; rintro e w6 ⟨rfl, hb6⟩; have hs6 := hb6.size)
          | (go_at_call 13; refine (HJN.out _ _ _ HO5.out hb6).mono ?_; rintro e w7 ⟨rfl, hb7⟩))
        go_ret
        exact ⟨ret_s HN.out.symm, hbx.trans ((hb6.trans (hb7.mono hs6)).mono hsx)⟩
end X
end Go.Proofs.YtljblaglfooclaaGreatDoor
