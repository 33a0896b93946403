/- Proved here: what the law's eqExpr and the EqualExpr of the program and of the reference return on two trees that lie in memory. Condition: the lists of kids fit. -/
import Derived.Test.YtljblaglfooclaaXm
import Derived.Test.YtljblaglfooclaaHeld
import Derived.StillTailTactics
import Derived.WalkLawsBesides
namespace Go.Proofs.Ytljblaglfooclaa
open Go.RowKit
namespace X

theorem teq (t t' : ByteArray) : (t.toList == t'.toList) = decide (t = t') := by
  rw [ByteArray.toList_eq, ByteArray.toList_eq, Bool.eq_iff_iff, beq_iff_eq, decide_eq_true_eq]
  constructor
  · intro h; obtain ⟨⟨a⟩⟩ := t; obtain ⟨⟨b⟩⟩ := t'; simp at h; rw [h]
  · intro h; rw [h]
theorem eqB_mk (k : Int) (t : ByteArray) (n l : Int) (r : List X) (k' : Int) (t' : ByteArray) (n' l' : Int) (r' : List X) :
    eqB (.mk k t n l r) (.mk k' t' n' l' r') = (!(k != k') && (!(!(t.toList == t'.toList)) && (!(n != n') && (!(l != l') && !(!eqL r r'))))) := by
  rw [teq]
  simp only [eqB, bne, Bool.not_not]
  congr 1
theorem neT {a b : Int} (h : ¬ a = b) : (a != b) = true := by simpa [bne] using h
theorem neF {a b : Int} (h : a = b) : (a != b) = false := by simp [bne, h]
set_option maxHeartbeats 2000000 in
set_option maxRecDepth 20000 in
theorem eqL_of (r : List X) (ih : ∀ i (h : i < r.length) (y : X) (s s' : Value) (P : Nat → Prop) (w : World), Rd w P r[i] s → Rd w P y s' → (∀ b, P b → b < w.heap.size) → Wf r[i] →
      Calls Try.prog 39 #[val r[i] s, val y s'] w fun e w' => e = .returned (.bool (eqB r[i] y)) ∧ Below w.heap.size w w')
    (r' : List X) (s s' : Value) (P : Nat → Prop) (w : World) (hK : Kd w P r s) (hK' : Kd w P r' s') (hP : ∀ b, P b → b < w.heap.size) (hw : WfL r) (hl : r.length ≤ maxLen) :
    Calls Try.prog 42 #[s, s'] w fun e w' => e = .returned (.bool (eqL r r')) ∧ Below w.heap.size w w' := by
  unfold maxLen at hl
  obtain ⟨A, cap, rfl⟩ := hK.form
  obtain ⟨A', cap', rfl⟩ := hK'.form
  by_cases h0 : r.length = r'.length
  · have b0 : ((r.length : Int) != (r'.length : Int)) = false := neF (by omega)
    have H0 := Lib.hid h0
    have h0' : r'.length ≤ r.length := by omega
    have h0'' : r.length ≤ r'.length := by omega
    clear h0
    go_enter Try.func42, Try.ntmps42
    go_wp2_with fail
    go_loopw [5] (fun i wr => ∃ j : Nat, i = .int .i64 j ∧ Hid (∀ i (h : i < r.length) (h' : i < r'.length), i < j → eqB r[i] r'[i] = true) ∧ j ≤ r.length ∧ Below w.heap.size w wr)
      (fun i _ => r.length - (intOf i).toNat)
    case atStart => exact ⟨0, rfl, Lib.hid (fun i _ _ h => by omega), by omega, Below.refl _ _⟩
    case round =>
      obtain ⟨j, rfl, HM, hj, hb⟩ := hrel
      have hsz := hb.size
      by_cases hlt : j < r.length
      · have hlt' : j < r'.length := by omega
        have i1 : (j : Int) < (r.length : Int) := by omega
        have i2 : (j : Int) < (r'.length : Int) := by omega
        obtain ⟨b, o, s1, rfl, hPb, hkid, c0, c1, c2, c3, c4⟩ := Kd.at_ (hK.below hb hP) hlt
        obtain ⟨A1, cap1, rfl⟩ := hkid.form
        obtain ⟨b', o', s1', rfl, hPb', hkid', d0, d1, d2, d3, d4⟩ := Kd.at_ (hK'.below hb hP) hlt'
        obtain ⟨A1', cap1', rfl⟩ := hkid'.form
        have hC : ∀ W : World, Below wr.heap.size wr W → Calls Try.prog 39 #[val r[j] (.slice A1 r[j].r.length cap1), val r'[j] (.slice A1' r'[j].r.length cap1')] W fun e w' => e = .returned (.bool (eqB r[j] r'[j])) ∧ Below W.heap.size W w' := fun W hW =>
          ih j hlt _ _ _ P W (hkid.rd.below hW fun b hb => Nat.lt_of_lt_of_le (hP b hb) hsz) (hkid'.rd.below hW fun b hb => Nat.lt_of_lt_of_le (hP b hb) hsz) (fun b hb => Nat.lt_of_lt_of_le (hP b hb) (Nat.le_trans hsz hW.size)) (WfL_get r hlt hw)
        by_cases he : eqB r[j] r'[j] = true
        · rw [he] at hC
          have HN : Hid (∀ i (h : i < r.length) (h' : i < r'.length), i < j + 1 → eqB r[i] r'[i] = true) := Lib.hid fun i h h' hi => by
            by_cases hij : i = j
            · subst hij; exact he
            · exact HM.out i h h' (by omega)
          clear he HM
          go_wp2_with fail
          go_still_tail 8, (by kernel_rfl)
          change wpList _ _ _ _ _ wr.drew
          go_wp2_with (go_at_call 39; refine (hC _ (by repeat (first | exact Below.refl _ _ | refine Below.drew ?_ | refine Below.setCell ?_ (by (try simp); try omega) _ | refine Below.alloc ?_ (by (try simp); try omega) _))).mono ?_; rintro e w1 ⟨rfl, hb1⟩)
          go_roundw
          case rel => exact ⟨j + 1, by go_num, HN, by omega, (hb.drew).trans (hb1.mono hsz)⟩
          case measure => simp [intOf]; omega
        · rw [show eqB r[j] r'[j] = false by simpa using he] at hC
          have HN := Lib.hid (eqL_not r r' j hlt hlt' (by simpa using he))
          clear he HM
          go_wp2_with fail
          go_still_tail 8, (by kernel_rfl)
          change wpList _ _ _ _ _ wr.drew
          go_wp2_with (go_at_call 39; refine (hC _ (by repeat (first | exact Below.refl _ _ | refine Below.drew ?_ | refine Below.setCell ?_ (by (try simp); try omega) _ | refine Below.alloc ?_ (by (try simp); try omega) _))).mono ?_; rintro e w1 ⟨rfl, hb1⟩)
          go_ret
          exact ⟨ret_b HN.out.symm, (hb.drew).trans (hb1.mono hsz)⟩
      · obtain rfl : j = r.length := by omega
        have HN := Lib.hid (eqL_all r r' H0.out fun i h h' => HM.out i h h' h)
        clear HM
        go_wp2_with fail
        go_ret
        exact ⟨ret_b HN.out.symm, hb⟩
  · have b0 : ((r.length : Int) != (r'.length : Int)) = true := neT (by omega)
    have HN := Lib.hid (eqL_len r r' h0)
    clear h0
    go_enter Try.func42, Try.ntmps42
    go_wp2_with fail
    go_ret
    exact ⟨ret_b HN.out.symm, Below.refl _ _⟩
set_option maxHeartbeats 2000000 in
theorem eqX (x : X) : ∀ (y : X) (s s' : Value) (P : Nat → Prop) (w : World), Rd w P x s → Rd w P y s' → (∀ b, P b → b < w.heap.size) → Wf x →
    Calls Try.prog 39 #[val x s, val y s'] w fun e w' => e = .returned (.bool (eqB x y)) ∧ Below w.heap.size w w' := by
  induction x using X.ind with
  | h k t n l r ih =>
    intro y s s' P w hR hR' hP hw
    have hK : Kd w P r s := hR.kids
    obtain ⟨k', t', n', l', r'⟩ := y
    have hK' : Kd w P r' s' := hR'.kids
    obtain ⟨A, cap, rfl⟩ := hK.form
    obtain ⟨A', cap', rfl⟩ := hK'.form
    simp only [Wf] at hw
    obtain ⟨hx1, hx2, hx3, hx4, hrl, hwr⟩ := hw
    clear hx1 hx2 hx3 hx4
    clear hR hR'
    show Calls Try.prog 39 #[.agg #[.int .i64 k, .string t, .int .i64 n, .int .i64 l, .slice A r.length cap], .agg #[.int .i64 k', .string t', .int .i64 n', .int .i64 l', .slice A' r'.length cap']] w _
    have hC : ∀ W : World, Below w.heap.size w W → Calls Try.prog 42 #[.slice A r.length cap, .slice A' r'.length cap'] W fun e w' => e = .returned (.bool (eqL r r')) ∧ Below W.heap.size W w' := fun W hW =>
      eqL_of r ih r' _ _ P W (hK.below hW hP) (hK'.below hW hP) (fun b hb => Nat.lt_of_lt_of_le (hP b hb) hW.size) hwr hrl
    go_enter Try.func39, Try.ntmps39
    go_wp2_with (go_at_call 42; refine (hC _ (by repeat (first | exact Below.refl _ _ | refine Below.drew ?_ | refine Below.setCell ?_ (by (try simp); try omega) _ | refine Below.alloc ?_ (by (try simp); try omega) _))).mono ?_; rintro e w1 ⟨rfl, hb1⟩)
    all_goals
      go_ret
      refine ⟨ret_b ?_, ?_⟩
    all_goals first | (simp only [eqB_mk, *, Bool.not_true, Bool.not_false, Bool.true_and, Bool.false_and]; done) | (refine Below.trans ?_ (hb1.mono (by simp; try omega)); repeat (first | exact Below.refl _ _ | refine Below.drew ?_ | refine Below.setCell ?_ (by (try simp); try omega) _ | refine Below.alloc ?_ (by (try simp); try omega) _)) | (repeat (first | exact Below.refl _ _ | refine Below.drew ?_ | refine Below.setCell ?_ (by (try simp); try omega) _ | refine Below.alloc ?_ (by (try simp); try omega) _))
theorem undrewL {w w' : World} (h : Below w.drew.heap.size w.drew w') : Below w.heap.size w w' := ⟨h.os, h.tape, h.output, h.size, h.block⟩
end X
end Go.Proofs.Ytljblaglfooclaa
