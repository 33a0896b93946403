/- Proved here: a unit with every part marked, in plain data; the law's heldRecordTypeS, heldProcedureS and heldUnit find a marked unit so. Condition: the counters fit. -/
import Derived.Test.YtljblaglfooclaaUn
import Derived.Test.YtljblaglfooclaaHx
import Derived.Test.YtljblaglfooclaaMh
import Derived.Test.YtljblaglfooclaaUz
namespace Go.Proofs.Ytljblaglfooclaa
open Go.RowKit

section
variable {α : Type} (f : α → Nat → α) (c : α → Nat)
/-- Each item marked, from the number k on. -/
def mkG : List α → Nat → List α | [], _ => [] | a :: r, k => f a k :: mkG r (k + c a)
theorem mkG_length : ∀ (r : List α) (k : Nat), (mkG f c r k).length = r.length
  | [], _ => rfl
  | x :: r, k => by simp [mkG, mkG_length r]
theorem mkG_append : ∀ (l m : List α) (k : Nat), mkG f c (l ++ m) k = mkG f c l k ++ mkG f c m (k + sumF c l)
  | [], m, k => by simp [mkG, sumF]
  | x :: l, m, k => by simp only [List.cons_append, mkG, sumF, List.map_cons, List.sum_cons, mkG_append l m]; rw [show k + c x + (l.map c).sum = k + (c x + (l.map c).sum) by omega]
theorem mkG_get (r : List α) (k : Nat) {j : Nat} (h : j < r.length) (h' : j < (mkG f c r k).length) : (mkG f c r k)[j] = f r[j] (k + sumF c (r.take j)) := by
  have e : r = r.take j ++ (r[j] :: r.drop (j + 1)) := by rw [List.getElem_cons_drop, List.take_append_drop]
  have e2 : mkG f c r k = mkG f c (r.take j) k ++ (f r[j] (k + sumF c (r.take j)) :: mkG f c (r.drop (j + 1)) (k + sumF c (r.take j) + c r[j])) := by
    conv => lhs; rw [e]
    rw [mkG_append]; rfl
  have hl : (mkG f c (r.take j) k).length = j := by rw [mkG_length]; simp; omega
  rw [List.getElem_of_eq e2, List.getElem_append_right (by omega)]
  simp [hl]
theorem mkG_set (r : List α) (k0 : Nat) {j : Nat} (h : j < r.length) : (mkG f c (r.take j) k0 ++ r.drop j).set j (f r[j] (k0 + sumF c (r.take j))) = mkG f c (r.take (j + 1)) k0 ++ r.drop (j + 1) := by
  have hl : (mkG f c (r.take j) k0).length = j := by rw [mkG_length]; simp; omega
  rw [List.set_append_right _ _ (by omega), hl, Nat.sub_self, List.drop_eq_getElem_cons h, List.set_cons_zero, List.take_succ_eq_append_getElem h, mkG_append, List.append_assoc]; rfl
end
def Rt.mark (a : Rt) (k : Nat) : Rt := ⟨markT k, marksL (k + 1) a.f.length, ((k + 1 + a.f.length : Nat) : Int)⟩
def Rt.cn (a : Rt) : Nat := 2 + a.f.length
def Pd.mark (a : Pd) (k : Nat) : Pd := ⟨markT k, marksL (k + 1) a.p.length, marksL (k + 1 + a.p.length) a.q.length, X.mark a.x (k + 1 + a.p.length + a.q.length), ((k + 1 + a.p.length + a.q.length + 4 * X.cnt a.x : Nat) : Int)⟩
def Pd.cn (a : Pd) : Nat := 2 + a.p.length + a.q.length + 4 * X.cnt a.x
def Un.mark (u : Un) (k : Nat) : Un := ⟨mkG Rt.mark Rt.cn u.r k, marksL (k + sumF Rt.cn u.r) u.g.length, mkG Pd.mark Pd.cn u.p (k + sumF Rt.cn u.r + u.g.length)⟩
def Un.cn (u : Un) : Nat := sumF Rt.cn u.r + u.g.length + sumF Pd.cn u.p
theorem ret_k {a b : Nat} (h : a = b) : Ending.returned (.int .i64 (a : Int)) = .returned (.int .i64 (b : Int)) := by rw [h]
set_option maxRecDepth 20000 in
set_option maxHeartbeats 4000000 in
theorem heldRtS (r : List Rt) (k0 : Nat) (s : Value) (P : Nat → Prop) (w : World) (hK : Rts w P (mkG Rt.mark Rt.cn r k0) s) (hP : ∀ b, P b → b < w.heap.size) (hk0 : 0 < k0) (hkc : k0 + sumF Rt.cn r ≤ 1099511627776) (hl : r.length ≤ 1099511627776) :
    Calls Try.prog 25 #[s, .int .i64 (k0 : Int)] w fun e w' => e = .returned (.int .i64 ((k0 + sumF Rt.cn r : Nat) : Int)) ∧ Below w.heap.size w w' := by
  obtain ⟨A, cap, hs⟩ := hK.form
  rw [mkG_length] at hs
  subst hs
  go_enter Try.func25, Try.ntmps25
  go_wp2_with fail
  go_loopw [1, 5] (fun a i wr => ∃ j m : Nat, i = .int .i64 j ∧ a = .int .i64 m ∧ Hid (m = k0 + sumF Rt.cn (r.take j)) ∧ 0 < m ∧ m ≤ 1099511627776 ∧ j ≤ r.length ∧ Below w.heap.size w wr)
    (fun _ i _ => r.length - (intOf i).toNat)
  case atStart => exact ⟨0, k0, rfl, rfl, Lib.hid (by simp [sumF]), by omega, by omega, by omega, Below.refl _ _⟩
  case round =>
    obtain ⟨j, m, rfl, rfl, HM, hm0, hm, hj, hb⟩ := hrel
    have hsz := hb.size
    by_cases hlt : j < r.length
    · obtain ⟨b, o, s1, rfl, hPb, hs1, c0, c1, c2⟩ := Rts.at_ (hK.below hb hP) (i := j) (by rw [mkG_length]; exact hlt)
      rw [mkG_get _ _ r k0 hlt, ← HM.out] at c0 c2 hs1
      replace c0 : wr.cell? ⟨b, o + j * 3, none⟩ = some (.string (markT m)) := c0
      replace c2 : wr.cell? ⟨b, o + j * 3 + 2, none⟩ = some (.int .i64 ((m + 1 + r[j].f.length : Nat) : Int)) := c2
      replace hs1 : Sr wr P s1 (marksL (m + 1) r[j].f.length) := hs1
      have h1 := sumF_take Rt.cn r hlt
      have h2 := sumF_le Rt.cn r (j + 1)
      have h3 := HM.out
      have h5 : Rt.cn r[j] = 2 + r[j].f.length := rfl
      obtain ⟨A1, cap1, hs'⟩ := hs1.form
      rw [marksL_len] at hs'
      subst hs'
      obtain ⟨m1, hm1⟩ : ∃ z, z = m + 1 := ⟨_, rfl⟩
      obtain ⟨m2, hm2⟩ : ∃ z, z = m1 + r[j].f.length := ⟨_, rfl⟩
      obtain ⟨m3, hm3⟩ : ∃ z, z = m2 + 1 := ⟨_, rfl⟩
      rw [show m + 1 = m1 by omega] at hs1
      rw [show m + 1 + r[j].f.length = m2 by omega] at c2
      have i1 : (m : Int) + 1 = (m1 : Int) := by omega
      have i3 : (m2 : Int) + 1 = (m3 : Int) := by omega
      have hS : ∀ W : World, Below wr.heap.size wr W → Calls Try.prog 26 #[.slice A1 r[j].f.length cap1, .int .i64 (m1 : Int)] W fun e w' => e = .returned (.int .i64 (m2 : Int)) ∧ Below W.heap.size W w' := fun W hW => by
        rw [hm2]
        exact heldS r[j].f.length m1 _ P W (hs1.below hW fun b hb => Nat.lt_of_lt_of_le (hP b hb) hsz) (fun b hb => Nat.lt_of_lt_of_le (hP b hb) (Nat.le_trans hsz hW.size)) (by omega) (by omega)
      have HN := Lib.hid (show m3 = k0 + sumF Rt.cn (r.take (j + 1)) by omega)
      have hM : ∀ W : World, Calls Try.prog 34 #[.int .i64 (m : Int)] W fun e w' => e = .returned (.string (markT m)) ∧ Below W.heap.size W w' := fun W => markText m (by omega) (by omega) W
      have hm3' : m3 ≤ 1099511627776 := by omega
      have hm3'' : 0 < m3 := by omega
      have b1 : decide ((m2 : Int) < 0) = false := by simp
      have b2 := teq_same (markT m)
      have i0 : (j : Int) < (r.length : Int) := by omega
      clear h1 h2 h3 h5 HM hm1 hm2 hm3 hs1
      go_wp2_with fail
      go_region_held3 (fun w' => w'.cell? ⟨b, o + j * 3, none⟩ = some (.string (markT m))) ((refine kc1 (W := wr) ?_ c0; repeat (first | exact Below.refl _ _ | refine Below.drew ?_ | refine Below.alloc ?_ (by (try simp); try omega) _ | refine Below.trans ?_ (hb3.mono (by (try simp); try omega)) | refine Below.trans ?_ (hb4.mono (by (try simp); try omega)) | refine Below.trans ?_ (hb5.mono (by (try simp); try omega)))))
        (first | (go_at_call 34; refine (hM _).mono ?_; rintro e w3 ⟨rfl, hb3⟩; have hw3 : Below wr.heap.size wr w3 := Below.trans (by repeat (first | exact Below.refl _ _ | refine Below.drew ?_ | refine Below.setCell ?_ (by (try simp); try omega) _ | refine Below.alloc ?_ (by (try simp); try omega) _)) (hb3.mono (by simp)); have c1' := kc1 hw3 c1; have c2' := kc1 hw3 c2))
      all_goals
        go_wp2_with (go_at_call 26; refine (hS _ (hw3.trans (Below.mono (by repeat (first | exact Below.refl _ _ | refine Below.drew ?_ | refine Below.setCell ?_ (by (try simp); try omega) _ | refine Below.alloc ?_ (by (try simp); try omega) _)) hw3.size))).mono ?_; rintro e w4 ⟨rfl, hb4⟩; have hw4 : Below w3.heap.size w3 w4 := X.grow (w := w3) (by repeat (first | exact Below.refl _ _ | refine Below.drew ?_ | refine Below.setCell ?_ (by (try simp); try omega) _ | refine Below.alloc ?_ (by (try simp); try omega) _)) hb4; have c2'' := kc1 hw4 c2')
        go_roundw
        case rel => exact ⟨j + 1, m3, by go_num, rfl, HN, hm3'', hm3', by omega, hb.trans ((hw3.trans (Below.mono hw4 hw3.size)).mono hsz)⟩
        case measure => simp [intOf]; omega
    · obtain rfl : j = r.length := by omega
      have HN := Lib.hid (show m = k0 + sumF Rt.cn r by rw [HM.out, List.take_length])
      clear HM
      go_wp2_with fail
      go_ret
      exact ⟨ret_k HN.out, hb⟩
set_option maxRecDepth 20000 in
set_option maxHeartbeats 8000000 in
theorem heldPdS (r : List Pd) (k0 : Nat) (s : Value) (P : Nat → Prop) (w : World) (hK : Pds X.Kd w P (mkG Pd.mark Pd.cn r k0) s) (hP : ∀ b, P b → b < w.heap.size) (hk0 : 0 < k0) (hkc : k0 + sumF Pd.cn r ≤ 1099511627776) (hl : r.length ≤ 1099511627776) :
    Calls Try.prog 27 #[s, .int .i64 (k0 : Int)] w fun e w' => e = .returned (.int .i64 ((k0 + sumF Pd.cn r : Nat) : Int)) ∧ Below w.heap.size w w' := by
  obtain ⟨A, cap, hs⟩ := hK.form
  rw [mkG_length] at hs
  subst hs
  go_enter Try.func27, Try.ntmps27
  go_wp2_with fail
  go_loopw [1, 5] (fun a i wr => ∃ j m : Nat, i = .int .i64 j ∧ a = .int .i64 m ∧ Hid (m = k0 + sumF Pd.cn (r.take j)) ∧ 0 < m ∧ m ≤ 1099511627776 ∧ j ≤ r.length ∧ Below w.heap.size w wr)
    (fun _ i _ => r.length - (intOf i).toNat)
  case atStart => exact ⟨0, k0, rfl, rfl, Lib.hid (by simp [sumF]), by omega, by omega, by omega, Below.refl _ _⟩
  case round =>
    obtain ⟨j, m, rfl, rfl, HM, hm0, hm, hj, hb⟩ := hrel
    have hsz := hb.size
    by_cases hlt : j < r.length
    · obtain ⟨b, o, s1, s2, s3, rfl, hPb, hs1, hs2, hs3, c0, c1, c2, c3, c4, c5, c6, c7, c8⟩ := Pds.at_ (hK.below hb hP) (i := j) (by rw [mkG_length]; exact hlt)
      rw [mkG_get _ _ r k0 hlt, ← HM.out] at c0 c3 c4 c5 c6 c8 hs1 hs2 hs3
      have h1 := sumF_take Pd.cn r hlt
      have h2 := sumF_le Pd.cn r (j + 1)
      have h3 := HM.out
      have h5 : Pd.cn r[j] = 2 + r[j].p.length + r[j].q.length + 4 * X.cnt r[j].x := rfl
      have h6 := X.cnt_r r[j].x
      obtain ⟨m1, hm1⟩ : ∃ z, z = m + 1 := ⟨_, rfl⟩
      obtain ⟨m2, hm2⟩ : ∃ z, z = m1 + r[j].p.length := ⟨_, rfl⟩
      obtain ⟨m3, hm3⟩ : ∃ z, z = m2 + r[j].q.length := ⟨_, rfl⟩
      obtain ⟨m4, hm4⟩ : ∃ z, z = m3 + 1 := ⟨_, rfl⟩
      obtain ⟨m5, hm5⟩ : ∃ z, z = m4 + 1 := ⟨_, rfl⟩
      obtain ⟨m6, hm6⟩ : ∃ z, z = m5 + 1 := ⟨_, rfl⟩
      obtain ⟨m7, hm7⟩ : ∃ z, z = m6 + 1 := ⟨_, rfl⟩
      obtain ⟨m8, hm8⟩ : ∃ z, z = m7 + 4 * X.cntL r[j].x.r := ⟨_, rfl⟩
      obtain ⟨m9, hm9⟩ : ∃ z, z = m8 + 1 := ⟨_, rfl⟩
      have e3 : m + 1 + r[j].p.length + r[j].q.length = m3 := by omega
      replace c0 : wr.cell? ⟨b, o + j * 9, none⟩ = some (.string (markT m)) := c0
      replace c3 : wr.cell? ⟨b, o + j * 9 + 3, none⟩ = some (.int .i64 (X.mark r[j].x (m + 1 + r[j].p.length + r[j].q.length)).k) := c3
      replace c4 : wr.cell? ⟨b, o + j * 9 + 4, none⟩ = some (.string (X.mark r[j].x (m + 1 + r[j].p.length + r[j].q.length)).t) := c4
      replace c5 : wr.cell? ⟨b, o + j * 9 + 5, none⟩ = some (.int .i64 (X.mark r[j].x (m + 1 + r[j].p.length + r[j].q.length)).n) := c5
      replace c6 : wr.cell? ⟨b, o + j * 9 + 6, none⟩ = some (.int .i64 (X.mark r[j].x (m + 1 + r[j].p.length + r[j].q.length)).l) := c6
      replace c8 : wr.cell? ⟨b, o + j * 9 + 8, none⟩ = some (.int .i64 ((m + 1 + r[j].p.length + r[j].q.length + 4 * X.cnt r[j].x : Nat) : Int)) := c8
      replace hs1 : Sr wr P s1 (marksL (m + 1) r[j].p.length) := hs1
      replace hs2 : Sr wr P s2 (marksL (m + 1 + r[j].p.length) r[j].q.length) := hs2
      replace hs3 : X.Kd wr P (X.mark r[j].x (m + 1 + r[j].p.length + r[j].q.length)).r s3 := hs3
      rw [e3, X.mark_k] at c3
      rw [e3, X.mark_t, show m3 + 1 = m4 by omega] at c4
      rw [e3, X.mark_n, show m3 + 2 = m5 by omega] at c5
      rw [e3, X.mark_l, show m3 + 3 = m6 by omega] at c6
      rw [show m + 1 + r[j].p.length + r[j].q.length + 4 * X.cnt r[j].x = m8 by omega] at c8
      rw [show m + 1 = m1 by omega] at hs1
      rw [show m + 1 + r[j].p.length = m2 by omega] at hs2
      rw [e3, X.mark_r, show m3 + 4 = m7 by omega] at hs3
      clear e3
      obtain ⟨A1, cap1, hs'⟩ := hs1.form
      rw [marksL_len] at hs'
      subst hs'
      obtain ⟨A2, cap2, hs'⟩ := hs2.form
      rw [marksL_len] at hs'
      subst hs'
      obtain ⟨A3, cap3, hs'⟩ := hs3.form
      rw [X.markL_length] at hs'
      subst hs'
      have i1 : (m : Int) + 1 = (m1 : Int) := by omega
      have i4 : (m3 : Int) + 1 = (m4 : Int) := by omega
      have i5 : (m4 : Int) + 1 = (m5 : Int) := by omega
      have i6 : (m5 : Int) + 1 = (m6 : Int) := by omega
      have i7 : (m6 : Int) + 1 = (m7 : Int) := by omega
      have i9 : (m8 : Int) + 1 = (m9 : Int) := by omega
      have hS1 : ∀ W : World, Below wr.heap.size wr W → Calls Try.prog 26 #[.slice A1 r[j].p.length cap1, .int .i64 (m1 : Int)] W fun e w' => e = .returned (.int .i64 (m2 : Int)) ∧ Below W.heap.size W w' := fun W hW => by
        rw [hm2]
        exact heldS r[j].p.length m1 _ P W (hs1.below hW fun b hb => Nat.lt_of_lt_of_le (hP b hb) hsz) (fun b hb => Nat.lt_of_lt_of_le (hP b hb) (Nat.le_trans hsz hW.size)) (by omega) (by omega)
      have hS2 : ∀ W : World, Below wr.heap.size wr W → Calls Try.prog 26 #[.slice A2 r[j].q.length cap2, .int .i64 (m2 : Int)] W fun e w' => e = .returned (.int .i64 (m3 : Int)) ∧ Below W.heap.size W w' := fun W hW => by
        rw [hm3]
        exact heldS r[j].q.length m2 _ P W (hs2.below hW fun b hb => Nat.lt_of_lt_of_le (hP b hb) hsz) (fun b hb => Nat.lt_of_lt_of_le (hP b hb) (Nat.le_trans hsz hW.size)) (by omega) (by omega)
      have hS3 : ∀ W : World, Below wr.heap.size wr W → Calls Try.prog 36 #[.slice A3 r[j].x.r.length cap3, .int .i64 (m7 : Int)] W fun e w' => e = .returned (.int .i64 (m8 : Int)) ∧ Below W.heap.size W w' := fun W hW => by
        rw [hm8]
        exact X.heldL r[j].x m7 _ P W (hs3.below hW fun b hb => Nat.lt_of_lt_of_le (hP b hb) hsz) (fun b hb => Nat.lt_of_lt_of_le (hP b hb) (Nat.le_trans hsz hW.size)) (by omega) (by omega)
      have HN := Lib.hid (show m9 = k0 + sumF Pd.cn (r.take (j + 1)) by omega)
      have hM : ∀ W : World, Calls Try.prog 34 #[.int .i64 (m : Int)] W fun e w' => e = .returned (.string (markT m)) ∧ Below W.heap.size W w' := fun W => markText m (by omega) (by omega) W
      have hM4 : ∀ W : World, Calls Try.prog 34 #[.int .i64 (m4 : Int)] W fun e w' => e = .returned (.string (markT m4)) ∧ Below W.heap.size W w' := fun W => markText m4 (by omega) (by omega) W
      have hm9' : m9 ≤ 1099511627776 := by omega
      have hm9'' : 0 < m9 := by omega
      have l4 : m4 ≤ 1099511627776 ∧ m5 ≤ 1099511627776 ∧ m6 ≤ 1099511627776 ∧ m7 ≤ 1099511627776 := by omega
      obtain ⟨l4, l5, l6, l7⟩ := l4
      have b1 : decide ((m2 : Int) < 0) = false := by simp
      have b1' : decide ((m3 : Int) < 0) = false := by simp
      have b1'' : decide ((m8 : Int) < 0) = false := by simp
      have b2 := teq_same (markT m)
      have b3 := teq_same (markT m4)
      have i0 : (j : Int) < (r.length : Int) := by omega
      clear h1 h2 h3 h5 h6 HM hm1 hm2 hm3 hm4 hm5 hm6 hm7 hm8 hm9 hs1 hs2 hs3
      go_wp2_with fail
      go_region_held3 (fun w' => w'.cell? ⟨b, o + j * 9, none⟩ = some (.string (markT m))) ((refine kc1 (W := wr) ?_ c0; repeat (first | exact Below.refl _ _ | refine Below.drew ?_ | refine Below.alloc ?_ (by (try simp); try omega) _ | refine Below.trans ?_ (hb3.mono (by (try simp); try omega)) | refine Below.trans ?_ (hb4.mono (by (try simp); try omega)) | refine Below.trans ?_ (hb5.mono (by (try simp); try omega)))))
        (first | (go_at_call 34; refine (hM _).mono ?_; rintro e w3 ⟨rfl, hb3⟩; have hw3 : Below wr.heap.size wr w3 := Below.trans (by repeat (first | exact Below.refl _ _ | refine Below.drew ?_ | refine Below.setCell ?_ (by (try simp); try omega) _ | refine Below.alloc ?_ (by (try simp); try omega) _)) (hb3.mono (by simp)); have q1 := kc1 hw3 c1; have q2 := kc1 hw3 c2; have q3 := kc1 hw3 c3; have q4 := kc1 hw3 c4; have q5 := kc1 hw3 c5; have q6 := kc1 hw3 c6; have q7 := kc1 hw3 c7; have q8 := kc1 hw3 c8))
      all_goals
        clear c0 c1 c2 c3 c4 c5 c6 c7 c8
        have hz3 := hw3.size
        go_upto_region 16 with (first
          | (have hg1 := g1; go_at_call 26; refine (hS2 _ (hw3.trans (Below.mono (Below.trans hw4 (Below.mono (by repeat (first | exact Below.refl _ _ | refine Below.drew ?_ | refine Below.setCell ?_ (by (try simp); try omega) _ | refine Below.alloc ?_ (by (try simp); try omega) _)) hw4.size)) hz3))).mono ?_; rintro e w5 ⟨rfl, hb5⟩; have hw5 : Below w4.heap.size w4 w5 := X.grow (w := w4) (by repeat (first | exact Below.refl _ _ | refine Below.drew ?_ | refine Below.setCell ?_ (by (try simp); try omega) _ | refine Below.alloc ?_ (by (try simp); try omega) _)) hb5; have q3 := kc1 hw5 q3; have q4 := kc1 hw5 q4; have q5 := kc1 hw5 q5; have q6 := kc1 hw5 q6; have q7 := kc1 hw5 q7; have q8 := kc1 hw5 q8)
          | (go_at_call 26; refine (hS1 _ (hw3.trans (Below.mono (by repeat (first | exact Below.refl _ _ | refine Below.drew ?_ | refine Below.setCell ?_ (by (try simp); try omega) _ | refine Below.alloc ?_ (by (try simp); try omega) _)) hz3))).mono ?_; rintro e w4 ⟨rfl, hb4⟩; have g1 := hb4; have hw4 : Below w3.heap.size w3 w4 := X.grow (w := w3) (by repeat (first | exact Below.refl _ _ | refine Below.drew ?_ | refine Below.setCell ?_ (by (try simp); try omega) _ | refine Below.alloc ?_ (by (try simp); try omega) _)) hb4; have q2 := kc1 hw4 q2; have q3 := kc1 hw4 q3; have q4 := kc1 hw4 q4; have q5 := kc1 hw4 q5; have q6 := kc1 hw4 q6; have q7 := kc1 hw4 q7; have q8 := kc1 hw4 q8))
        have hx5 : Below wr.heap.size wr w5 := hw3.trans (Below.mono (hw4.trans (Below.mono hw5 hw4.size)) hz3)
        have hz5 := hx5.size
        clear hw3 hw4 hw5 hb3 hb4 hb5 hz3 g1 hS1 hS2
        go_region_held3 (fun w' => w'.cell? ⟨b, o + j * 9 + 4, none⟩ = some (.string (markT m4))) ((refine kc1 (W := w5) ?_ q4; repeat (first | exact Below.refl _ _ | refine Below.drew ?_ | refine Below.alloc ?_ (by (try simp); try omega) _ | refine Below.trans ?_ (hb6.mono (by (try simp); try omega)))))
          (first | (go_at_call 34; refine (hM4 _).mono ?_; rintro e w6 ⟨rfl, hb6⟩; have hw6 : Below w5.heap.size w5 w6 := Below.trans (by repeat (first | exact Below.refl _ _ | refine Below.drew ?_ | refine Below.setCell ?_ (by (try simp); try omega) _ | refine Below.alloc ?_ (by (try simp); try omega) _)) (hb6.mono (by simp)); have q5 := kc1 hw6 q5; have q6 := kc1 hw6 q6; have q7 := kc1 hw6 q7; have q8 := kc1 hw6 q8))
        all_goals
          go_wp2_with (go_at_call 36; refine (hS3 _ (hx5.trans (Below.mono (Below.trans hw6 (Below.mono (by repeat (first | exact Below.refl _ _ | refine Below.drew ?_ | refine Below.setCell ?_ (by (try simp); try omega) _ | refine Below.alloc ?_ (by (try simp); try omega) _)) hw6.size)) hz5))).mono ?_; rintro e w7 ⟨rfl, hb7⟩; have hw7 : Below w6.heap.size w6 w7 := X.grow (w := w6) (by repeat (first | exact Below.refl _ _ | refine Below.drew ?_ | refine Below.setCell ?_ (by (try simp); try omega) _ | refine Below.alloc ?_ (by (try simp); try omega) _)) hb7; have q8 := kc1 hw7 q8)
          go_roundw
          case rel => exact ⟨j + 1, m9, by go_num, rfl, HN, hm9'', hm9', by omega, hb.trans ((hx5.trans (Below.mono (hw6.trans (Below.mono hw7 hw6.size)) hz5)).mono hsz)⟩
          case measure => simp [intOf]; omega
    · obtain rfl : j = r.length := by omega
      have HN := Lib.hid (show m = k0 + sumF Pd.cn r by rw [HM.out, List.take_length])
      clear HM
      go_wp2_with fail
      go_ret
      exact ⟨ret_k HN.out, hb⟩
set_option maxHeartbeats 4000000 in
theorem heldUn (u : Un) (k0 : Nat) (s1 s2 s3 : Value) (P : Nat → Prop) (w : World) (hK : Urd X.Kd w P (u.mark k0) s1 s2 s3) (hP : ∀ b, P b → b < w.heap.size) (hk0 : 0 < k0) (hkc : k0 + u.cn ≤ 1099511627776) (hl : u.r.length ≤ 1099511627776) (hl2 : u.p.length ≤ 1099511627776) :
    Calls Try.prog 10 #[.agg #[s1, s2, s3], .int .i64 (k0 : Int)] w fun e w' => e = .returned (.int .i64 ((k0 + u.cn : Nat) : Int)) ∧ Below w.heap.size w w' := by
  obtain ⟨hK1, hK2, hK3⟩ := hK
  obtain ⟨r, g, p⟩ := u
  replace hkc : k0 + (sumF Rt.cn r + g.length + sumF Pd.cn p) ≤ 1099511627776 := hkc
  replace hK1 : Rts w P (mkG Rt.mark Rt.cn r k0) s1 := hK1
  replace hK2 : Sr w P s2 (marksL (k0 + sumF Rt.cn r) g.length) := hK2
  replace hK3 : Pds X.Kd w P (mkG Pd.mark Pd.cn p (k0 + sumF Rt.cn r + g.length)) s3 := hK3
  replace hl : r.length ≤ 1099511627776 := hl
  replace hl2 : p.length ≤ 1099511627776 := hl2
  have hE := Lib.hid (show k0 + Un.cn ⟨r, g, p⟩ = k0 + sumF Rt.cn r + g.length + sumF Pd.cn p by show k0 + (sumF Rt.cn r + g.length + sumF Pd.cn p) = _; omega)
  obtain ⟨n1, h1⟩ : ∃ z, z = k0 + sumF Rt.cn r := ⟨_, rfl⟩
  obtain ⟨n2, h2⟩ : ∃ z, z = n1 + g.length := ⟨_, rfl⟩
  obtain ⟨n3, h3⟩ : ∃ z, z = n2 + sumF Pd.cn p := ⟨_, rfl⟩
  rw [← h1] at hK2 hK3 hE
  rw [← h2] at hK3 hE
  rw [← h3] at hE
  have hC1 : ∀ W : World, Below w.heap.size w W → Calls Try.prog 25 #[s1, .int .i64 (k0 : Int)] W fun e w' => e = .returned (.int .i64 (n1 : Int)) ∧ Below W.heap.size W w' := fun W hW => by
    rw [h1]; exact heldRtS r k0 s1 P W (hK1.below hW hP) (fun b hb => Nat.lt_of_lt_of_le (hP b hb) hW.size) hk0 (by omega) hl
  have hC2 : ∀ W : World, Below w.heap.size w W → Calls Try.prog 26 #[s2, .int .i64 (n1 : Int)] W fun e w' => e = .returned (.int .i64 (n2 : Int)) ∧ Below W.heap.size W w' := fun W hW => by
    rw [h2]; exact heldS g.length n1 s2 P W (hK2.below hW hP) (fun b hb => Nat.lt_of_lt_of_le (hP b hb) hW.size) (by omega) (by omega)
  have hC3 : ∀ W : World, Below w.heap.size w W → Calls Try.prog 27 #[s3, .int .i64 (n2 : Int)] W fun e w' => e = .returned (.int .i64 (n3 : Int)) ∧ Below W.heap.size W w' := fun W hW => by
    rw [h3]; exact heldPdS p n2 s3 P W (hK3.below hW hP) (fun b hb => Nat.lt_of_lt_of_le (hP b hb) hW.size) (by omega) (by omega) hl2
  obtain ⟨A1, d1, rfl⟩ := hK1.form
  obtain ⟨A2, d2, rfl⟩ := hK2.form
  obtain ⟨A3, d3, rfl⟩ := hK3.form
  have b1 : decide ((n1 : Int) < 0) = false := by simp
  have b2 : decide ((n2 : Int) < 0) = false := by simp
  have b3 : decide ((n3 : Int) < 0) = false := by simp
  clear h1 h2 h3 hK1 hK2 hK3 hkc hl hl2
  have hbb : Below w.heap.size w w := Below.refl _ _
  have hzz := hbb.size
  generalize (mkG Rt.mark Rt.cn r k0).length = L1 at *
  generalize (marksL n1 g.length).length = L2 at *
  generalize (mkG Pd.mark Pd.cn p n2).length = L3 at *
  go_enter Try.func10, Try.ntmps10
  go_wp2_with (first
    | (go_at_call 27; refine (hC3 _ (by repeat (first | exact hbb | refine Below.drew ?_ | refine Below.setCell ?_ (by (try simp); try omega) _ | refine Below.alloc ?_ (by (try simp); try omega) _))).mono ?_; rintro e w3 ⟨rfl, hb3⟩; have hbb := X.grow (w := w) (by repeat (first | exact hbb | refine Below.drew ?_ | refine Below.setCell ?_ (by (try simp); try omega) _ | refine Below.alloc ?_ (by (try simp); try omega) _)) hb3; have hzz := hbb.size)
    | (go_at_call 26; refine (hC2 _ (by repeat (first | exact hbb | refine Below.drew ?_ | refine Below.setCell ?_ (by (try simp); try omega) _ | refine Below.alloc ?_ (by (try simp); try omega) _))).mono ?_; rintro e w2 ⟨rfl, hb2⟩; have hbb := X.grow (w := w) (by repeat (first | exact hbb | refine Below.drew ?_ | refine Below.setCell ?_ (by (try simp); try omega) _ | refine Below.alloc ?_ (by (try simp); try omega) _)) hb2; have hzz := hbb.size; have hB := hB.kept hb2; obtain ⟨a0, a1, a2⟩ := Blk.c3 hB)
    | (go_at_call 25; refine (hC1 _ (by repeat (first | exact hbb | refine Below.drew ?_ | refine Below.setCell ?_ (by (try simp); try omega) _ | refine Below.alloc ?_ (by (try simp); try omega) _))).mono ?_; rintro e w1 ⟨rfl, hb1⟩; have hbb := X.grow (w := w) (by repeat (first | exact hbb | refine Below.drew ?_ | refine Below.setCell ?_ (by (try simp); try omega) _ | refine Below.alloc ?_ (by (try simp); try omega) _)) hb1; have hzz := hbb.size; have hB : Blk w1 w.heap.size 31 #[.slice A1 L1 d1, .slice A2 L2 d2, .slice A3 L3 d3] := (Blk.new _ _ _).kept hb1; obtain ⟨a0, a1, a2⟩ := Blk.c3 hB))
  go_ret
  exact ⟨ret_k hE.out.symm, by repeat (first | exact hbb | refine Below.drew ?_ | refine Below.setCell ?_ (by (try simp); try omega) _ | refine Below.alloc ?_ (by (try simp); try omega) _)⟩
end Go.Proofs.Ytljblaglfooclaa
