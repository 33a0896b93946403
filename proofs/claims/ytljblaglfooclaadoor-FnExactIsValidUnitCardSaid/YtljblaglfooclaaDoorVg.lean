/- Proved here: what the reference's test of a tree gives where the node itself is as it must be: it asks the kids. Condition: the counts fit. -/
import Derived.Test.YtljblaglfooclaaDoorVf
namespace Go.Proofs.YtljblaglfooclaaDoor
open Go.RowKit
namespace X

/-- What the test gives for each kid. -/
def KidC (P : Nat → Prop) (r : List X) (d : Nat) (w : World) : Prop := ∀ (j : Nat) (hlt : j < r.length) (W W1 : World) (s' : Value), Below w.heap.size w W1 → Below W1.heap.size W1 W → Kd W1 P r[j].r s' →
  Calls Tryd.prog 30 #[val r[j] s', .int .i64 ((d : Int) + 1)] W fun e w' => e = .returned (.bool (vldD wdB r[j] (d + 1))) ∧ Below W.heap.size W w'
set_option maxRecDepth 20000 in
set_option maxHeartbeats 4000000 in
theorem valid_ok (k : Int) (t : ByteArray) (n l : Int) (r : List X) (A : Option Addr) (cap d lo hi : Nat) (w : World) (P : Nat → Prop) (hK : Kd w P r (.slice A r.length cap)) (hP : ∀ b, P b → b < w.heap.size)
    (hKd : KdC k t n l (.slice A r.length cap) lo hi) (hWd : WdC k t n l (.slice A r.length cap) true) (hC : KidC P r d w)
    (o0 : d ≤ 40) (o1 : 1 ≤ k) (o2 : k ≤ 29) (o3 : lo ≤ r.length) (o4 : r.length ≤ hi) (o5 : 0 ≤ l) (hl : hi ≤ 24)
    (hways : (k = 1 ∧ 0 ≤ n ∧ n ≤ 999999999999) ∨ (k = 20 ∧ n = 0 ∧ ∃ m : Nat, (r.length : Int) - 1 = (m : Int) ∧ ((m : Int) % 2 == 0) = true) ∨ (k = 20 ∧ n = 1 ∧ ∃ m : Nat, (r.length : Int) - 1 - 1 = (m : Int) ∧ ((m : Int) % 2 == 0) = true ∧ 2 ≤ r.length) ∨ (k ≠ 1 ∧ k ≠ 20 ∧ n = 0)) :
    Calls Tryd.prog 30 #[.agg #[.int .i64 k, .string t, .int .i64 n, .int .i64 l, .slice A r.length cap], .int .i64 (d : Int)] w fun e w' => e = .returned (.bool (vldDL wdB r (d + 1))) ∧ Below w.heap.size w w' := by
  unfold KdC at hKd
  unfold WdC at hWd
  obtain ⟨v0, hv0⟩ : ∃ v, v = vldDL wdB r (d + 1) := ⟨_, rfl⟩
  rw [← hv0]
  have HV := Lib.hid hv0
  clear hv0
  rcases hways with ⟨rfl, h1, h2⟩ | ⟨rfl, rfl, m, hm, h1⟩ | ⟨rfl, rfl, m, hm, h1, h2⟩ | ⟨h1, h2, rfl⟩
  all_goals
    (try have b1 : (k == 1) = false := (by rw [beq_eq_false_iff_ne]; exact h1))
    (try have b2 : (k == 20) = false := (by rw [beq_eq_false_iff_ne]; exact h2))
    (try have b4 : ((m : Int) % 2 != 0) = false := (by rw [bne, h1]; rfl))
    (try have hm24 : m ≤ 24 := (by omega))
    have f1 : decide (r.length < lo) = false := decide_eq_false (by omega)
    have f2 : decide (hi < r.length) = false := decide_eq_false (by omega)
    have f3 : decide (40 < (d : Int)) = false := decide_eq_false (by omega)
    have f4 : decide (l < 0) = false := decide_eq_false (by omega)
    go_enter Tryd.func30, Tryd.ntmps30
    go_wp2_with (first
      | (go_at_call 43; refine (hKd _).mono ?_; rintro e w1 ⟨rfl, hb1⟩; have hbx := Var.kept (Var.new w _ t _ l (.slice A r.length cap) 45) hb1; obtain ⟨a0, a1, a2, a3, a4⟩ := id hbx)
      | (go_at_call 44; refine (hWd _).mono ?_; rintro e w2 ⟨rfl, hb2⟩; have hbx := hbx.kept hb2; obtain ⟨a0, a1, a2, a3, a4⟩ := id hbx))
    have hbb : Below w.heap.size w w2 := (Below.trans (by repeat (first | exact Below.refl _ _ | refine Below.drew ?_ | refine Below.setCell ?_ (by (try simp); try omega) _ | refine Below.alloc ?_ (by (try simp); try omega) _)) (hb1.mono (by simp))).trans (hb2.mono (by have := hb1.size; simp at this; omega))
    clear a0 a1 a2 a3 hb1
    have hA4 := a4
    clear a4
    go_loopw [7] (fun i wr => ∃ j : Nat, i = .int .i64 j ∧ Hid (∀ i (h : i < r.length), i < j → vldD wdB r[i] (d + 1) = true) ∧ j ≤ r.length ∧ wr.cell? ⟨w.heap.size, 4, none⟩ = some (.slice A r.length cap) ∧ Below w.heap.size w wr)
      (fun i _ => r.length - (intOf i).toNat)
    case atStart => exact ⟨0, rfl, Lib.hid (fun i _ h => by omega), by omega, hA4, hbb⟩
    case round =>
      obtain ⟨j, rfl, HM, hj, hcell, hb⟩ := hrel
      have hsz := hb.size
      clear hA4 hbx hKd hWd f1 f2 f3 f4
      (try clear hm)
      by_cases hlt : j < r.length
      · obtain ⟨b, o, s', rfl, hPb, hkid, c0, c1, c2, c3, c4⟩ := Kd.at_ (hK.below hb hP) hlt
        obtain ⟨A1, cap1, rfl⟩ := hkid.form
        have i0 : (j : Int) < (r.length : Int) := by omega
        have hCj := fun (W : World) (hW : Below wr.heap.size wr W) => hC j hlt W wr _ hb hW hkid
        have hcl := World.block_lt_of_cell? _ _ hcell
        obtain ⟨v, hv⟩ : ∃ v, v = vldD wdB r[j] (d + 1) := ⟨_, rfl⟩
        rw [← hv] at hCj
        cases v with
        | true =>
          have HN : Hid (∀ i (h : i < r.length), i < j + 1 → vldD wdB r[i] (d + 1) = true) := Lib.hid fun i h hi => by
            by_cases e : i = j
            · subst e; exact hv.symm
            · exact HM.out i h (by omega)
          clear HM hv
          go_wp2_with (go_at_call 30; refine (hCj _ (by repeat (first | exact Below.refl _ _ | refine Below.drew ?_ | refine Below.setCell ?_ (by (try simp); try omega) _ | refine Below.alloc ?_ (by (try simp); try omega) _))).mono ?_; rintro e w3 ⟨rfl, hb3⟩)
          go_roundw
          case rel =>
            first
            | exact ⟨j + 1, by go_num, HN, by omega, kc1 hb3 hcell, hb.trans (hb3.mono hsz)⟩
            | ((repeat apply Exists.intro); exact ⟨⟨j + 1, by go_num, HN, by omega, kc1 hb3 hcell, hb.trans (hb3.mono hsz)⟩, rfl⟩)
          case measure => simp [intOf]; omega
        | false =>
          have HN := Lib.hid (HV.out.trans (vldDL_no wdB r hlt hv.symm))
          clear HM hv
          go_wp2_with (go_at_call 30; refine (hCj _ (by repeat (first | exact Below.refl _ _ | refine Below.drew ?_ | refine Below.setCell ?_ (by (try simp); try omega) _ | refine Below.alloc ?_ (by (try simp); try omega) _))).mono ?_; rintro e w3 ⟨rfl, hb3⟩)
          go_ret
          exact ⟨ret_b HN.out.symm, hb.trans (hb3.mono hsz)⟩
      · obtain rfl : j = r.length := by omega
        have HN := Lib.hid (HV.out.trans (vldDL_all wdB r fun i h => HM.out i h h))
        clear HM
        go_wp2_with fail
        go_ret
        exact ⟨ret_b HN.out.symm, hb⟩
end X
end Go.Proofs.YtljblaglfooclaaDoor
