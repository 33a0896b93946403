/- Proved here: what CountNodes and DepthOf return, of the program and of the reference, on a tree that lies in memory. Condition: the tree has at most 2^40 nodes. -/
import Derived.Test.YtljblaglfooclaaGreatDoorXm
namespace Go.Proofs.YtljblaglfooclaaGreatDoor
open Go.RowKit
namespace X

set_option maxHeartbeats 2000000 in
theorem implCount (x : X) : ∀ (s : Value) (P : Nat → Prop) (w : World), Rd w P x s → (∀ b, P b → b < w.heap.size) → x.cnt ≤ 1099511627776 →
    Calls Tryz.prog 58 #[val x s] w fun e w' => e = .returned (.int .i64 (x.cnt : Int)) ∧ Below w.heap.size w w' := by
  induction x using X.ind with
  | h k t n l r ih =>
    intro s P w hR hP hc
    have hK : Kd w P r s := hR.kids
    obtain ⟨A, cap, S, rfl, hrow, hkids⟩ := id hK
    clear hrow hkids
    have hc' : 1 + cntL r ≤ 1099511627776 := by simpa [cnt] using hc
    have hlen := len_le_cntL r
    have hE := Lib.hid (show cnt (.mk k t n l r) = 1 + cntL r from by simp [cnt])
    clear hR hc
    show Calls Tryz.prog 58 #[.agg #[.int .i64 k, .string t, .int .i64 n, .int .i64 l, .slice A r.length cap]] w _
    go_enter Tryz.func58, Tryz.ntmps58
    go_wp2_with fail
    go_loopw [3, 9] (fun a i wr => ∃ j m : Nat, i = .int .i64 j ∧ a = .int .i64 m ∧ Hid (m = 1 + cntL (r.take j)) ∧ m ≤ 1099511627776 ∧ j ≤ r.length ∧ Below w.heap.size w wr)
      (fun _ i _ => r.length - (intOf i).toNat)
    case atStart => exact ⟨0, 1, rfl, rfl, Lib.hid (by simp [cntL]), by omega, by omega, (Below.refl _ _).alloc (Nat.le_refl _) _⟩
    case round =>
      obtain ⟨j, m, rfl, rfl, HM, hm, hj, hb⟩ := hrel
      have hsz := hb.size
      by_cases hlt : j < r.length
      · obtain ⟨b, o, s', rfl, hPb, hkid, c0, c1, c2, c3, c4⟩ := Kd.at_ (hK.below hb hP) hlt
        obtain ⟨A1, cap1, rfl⟩ := hkid.form
        have h1 := cntL_take r hlt
        have h0 := cnt_get r hlt
        have h4 := dep_le r[j]
        have h2 := cntL_le r (j + 1)
        have h3 := HM.out
        have hn : m + cnt r[j] ≤ 1099511627776 := by omega
        have HN := Lib.hid (show m + cnt r[j] = 1 + cntL (r.take (j + 1)) by rw [h1]; omega)
        have hC : ∀ W : World, Below wr.heap.size wr W → Calls Tryz.prog 58 #[val r[j] (.slice A1 r[j].r.length cap1)] W fun e w' => e = .returned (.int .i64 (cnt r[j] : Int)) ∧ Below W.heap.size W w' := fun W hW =>
          ih j hlt _ P W (hkid.rd.below hW fun b hb => Nat.lt_of_lt_of_le (hP b hb) hsz) (fun b hb => Nat.lt_of_lt_of_le (hP b hb) (Nat.le_trans hsz hW.size)) (by omega)
        clear HM h0 h1 h2 h3 h4
        go_wp2_with (go_at_call 58; refine (hC _ (by repeat (first | exact Below.refl _ _ | refine Below.drew ?_ | refine Below.setCell ?_ (by (try simp); try omega) _ | refine Below.alloc ?_ (by (try simp); try omega) _))).mono ?_; rintro e w1 ⟨rfl, hb1⟩)
        all_goals
          go_roundw
          case rel => exact ⟨j + 1, _, by go_num, by go_num, HN, hn, by omega, (hb.alloc hsz _).trans (hb1.mono (by simp; omega))⟩
          case measure => simp [intOf]; omega
      · obtain rfl : j = r.length := by omega
        have HN := Lib.hid (show m = cnt (.mk k t n l r) by rw [hE.out, HM.out, List.take_length])
        clear HM
        go_wp2_with fail
        go_ret
        exact ⟨ret_i HN.out, hb⟩
set_option maxHeartbeats 2000000 in
theorem implDepth (x : X) : ∀ (s : Value) (P : Nat → Prop) (w : World), Rd w P x s → (∀ b, P b → b < w.heap.size) → x.cnt ≤ 1099511627776 →
    Calls Tryz.prog 59 #[val x s] w fun e w' => e = .returned (.int .i64 (x.dep : Int)) ∧ Below w.heap.size w w' := by
  induction x using X.ind with
  | h k t n l r ih =>
    intro s P w hR hP hc
    have hK : Kd w P r s := hR.kids
    obtain ⟨A, cap, S, rfl, hrow, hkids⟩ := id hK
    clear hrow hkids
    have hc' : 1 + cntL r ≤ 1099511627776 := by simpa [cnt] using hc
    have hlen := len_le_cntL r
    have hE := Lib.hid (show dep (.mk k t n l r) = depL r + 1 from by simp [dep])
    clear hR hc
    show Calls Tryz.prog 59 #[.agg #[.int .i64 k, .string t, .int .i64 n, .int .i64 l, .slice A r.length cap]] w _
    go_enter Tryz.func59, Tryz.ntmps59
    go_wp2_with fail
    go_loopw [3, 9] (fun a i wr => ∃ j m : Nat, i = .int .i64 j ∧ a = .int .i64 m ∧ Hid (m = depL (r.take j)) ∧ m ≤ 1099511627776 ∧ j ≤ r.length ∧ Below w.heap.size w wr)
      (fun _ i _ => r.length - (intOf i).toNat)
    case atStart => exact ⟨0, 0, rfl, rfl, Lib.hid (by simp [depL]), by omega, by omega, (Below.refl _ _).alloc (Nat.le_refl _) _⟩
    case round =>
      obtain ⟨j, m, rfl, rfl, HM, hm, hj, hb⟩ := hrel
      have hsz := hb.size
      by_cases hlt : j < r.length
      · obtain ⟨b, o, s', rfl, hPb, hkid, c0, c1, c2, c3, c4⟩ := Kd.at_ (hK.below hb hP) hlt
        obtain ⟨A1, cap1, rfl⟩ := hkid.form
        have h1 := depL_take r hlt
        have h0 := cnt_get r hlt
        have h4 := dep_le r[j]
        have h2 := cntL_le r (j + 1)
        have h3 := HM.out
        have hn : max m (dep r[j]) ≤ 1099511627776 := by omega
        have HN := Lib.hid (show max m (dep r[j]) = depL (r.take (j + 1)) by rw [h1]; omega)
        have hC : ∀ W : World, Below wr.heap.size wr W → Calls Tryz.prog 59 #[val r[j] (.slice A1 r[j].r.length cap1)] W fun e w' => e = .returned (.int .i64 (dep r[j] : Int)) ∧ Below W.heap.size W w' := fun W hW =>
          ih j hlt _ P W (hkid.rd.below hW fun b hb => Nat.lt_of_lt_of_le (hP b hb) hsz) (fun b hb => Nat.lt_of_lt_of_le (hP b hb) (Nat.le_trans hsz hW.size)) (by omega)
        clear HM h0 h1 h2 h3 h4
        have hmx : ((max m (dep r[j]) : Nat) : Int) = if (m : Int) < (dep r[j] : Int) then (dep r[j] : Int) else (m : Int) := by split <;> omega
        clear hmx
        go_wp2_with (go_at_call 59; refine (hC _ (by repeat (first | exact Below.refl _ _ | refine Below.drew ?_ | refine Below.setCell ?_ (by (try simp); try omega) _ | refine Below.alloc ?_ (by (try simp); try omega) _))).mono ?_; rintro e w1 ⟨rfl, hb1⟩)
        all_goals
          go_roundw
          case rel => exact ⟨j + 1, _, by go_num, by go_num, HN, hn, by omega, (hb.alloc hsz _).trans (hb1.mono (by simp; omega))⟩
          case measure => simp [intOf]; omega
      · obtain rfl : j = r.length := by omega
        have HN := Lib.hid (show m + 1 = dep (.mk k t n l r) by rw [hE.out, HM.out, List.take_length])
        clear HM
        go_wp2_with fail
        go_ret
        exact ⟨ret_i HN.out, hb⟩
end X
end Go.Proofs.YtljblaglfooclaaGreatDoor
