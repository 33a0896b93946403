/- Proved here: the sizes of record types, procedures and units, as the law counts them. Condition: the texts fit. -/
import Derived.Test.YtljblaglfooclaaUn
import Derived.Test.YtljblaglfooclaaXw
namespace Go.Proofs.Ytljblaglfooclaa
open Go.RowKit

section
variable {w : World} {g : Nat} {t : TypeId} {a0 a1 a2 a3 a4 a5 a6 a7 a8 : Value}
theorem Blk.c3 (h : Blk w g t #[a0, a1, a2]) : w.cell? ⟨g, 0, none⟩ = some a0 ∧ w.cell? ⟨g, 1, none⟩ = some a1 ∧ w.cell? ⟨g, 2, none⟩ = some a2 := ⟨h.cell 0, h.cell 1, h.cell 2⟩
theorem Blk.c9 (h : Blk w g t #[a0, a1, a2, a3, a4, a5, a6, a7, a8]) : w.cell? ⟨g, 0, none⟩ = some a0 ∧ w.cell? ⟨g, 1, none⟩ = some a1 ∧ w.cell? ⟨g, 2, none⟩ = some a2 ∧ w.cell? ⟨g, 3, none⟩ = some a3 ∧ w.cell? ⟨g, 4, none⟩ = some a4 ∧
    w.cell? ⟨g, 5, none⟩ = some a5 ∧ w.cell? ⟨g, 6, none⟩ = some a6 ∧ w.cell? ⟨g, 7, none⟩ = some a7 ∧ w.cell? ⟨g, 8, none⟩ = some a8 := ⟨h.cell 0, h.cell 1, h.cell 2, h.cell 3, h.cell 4, h.cell 5, h.cell 6, h.cell 7, h.cell 8⟩
end
theorem below_refl' {w W : World} (h : w = W) : Below w.heap.size w W := by subst h; exact Below.refl _ _
set_option maxHeartbeats 2000000 in
theorem szRt (a : Rt) (s : Value) (P : Nat → Prop) (w : World) (left : Nat) (hK : Sr w P s a.f) (hP : ∀ b, P b → b < w.heap.size) (hw : a.Wf) (hleft : left ≤ 1099511627776) :
    Calls Try.prog 28 #[.agg #[.string a.t, s, .int .i64 a.l], .int .i64 (left : Int)] w fun e w' => e = .returned (.int .i64 (X.leftOf a.siz left)) ∧ Below w.heap.size w w' := by
  obtain ⟨t, f, l⟩ := a
  obtain ⟨ht, hfl, hfw⟩ := hw
  replace hK : Sr w P s f := hK
  replace ht : t.size ≤ maxLen := ht
  replace hfl : f.length ≤ maxLen := hfl
  replace hfw : ∀ i (h : i < f.length), f[i].size ≤ maxLen := hfw
  obtain ⟨A, cap, rfl⟩ := hK.form
  have hE := Lib.hid (show Rt.siz ⟨t, f, l⟩ = t.size + (f.length + sizS f) from rfl)
  unfold maxLen at ht
  show Calls Try.prog 28 #[.agg #[.string t, .slice A f.length cap, .int .i64 l], .int .i64 (left : Int)] w _
  by_cases h0 : t.size ≤ left
  · obtain ⟨m0, hm0⟩ : ∃ m0, m0 = left - t.size := ⟨_, rfl⟩
    have hz : (left : Int) - (t.size : Int) = (m0 : Int) := by omega
    have HL := Lib.hid (X.leftOf_add (b := f.length + sizS f) h0 rfl)
    rw [← hm0] at HL
    have hm0' : m0 ≤ left := by omega
    clear hm0
    have b0 : decide ((m0 : Int) < 0) = false := by simp
    have hC : ∀ W : World, Below w.heap.size w W → Calls Try.prog 12 #[.slice A f.length cap, .int .i64 (m0 : Int)] W fun e w' => e = .returned (.int .i64 (X.leftOf (f.length + sizS f) m0)) ∧ Below W.heap.size W w' := fun W hW =>
      (szS f _ P W m0 (hK.below hW hP) hfl hfw (by omega)).mono fun e w' ⟨h1, h2⟩ => ⟨h1, below_refl' h2⟩
    by_cases h1 : f.length + sizS f ≤ m0
    · rw [X.leftOf_yes h1] at hC HL
      obtain ⟨m1, hm1⟩ : ∃ m1, m1 = m0 - (f.length + sizS f) := ⟨_, rfl⟩
      rw [← hm1] at hC HL
      have b1 : decide ((m1 : Int) < 0) = false := by simp
      clear hm1 h1
      go_enter Try.func28, Try.ntmps28
      go_wp2_with (go_at_call 12; refine (hC _ (by repeat (first | exact Below.refl _ _ | refine Below.drew ?_ | refine Below.setCell ?_ (by (try simp); try omega) _ | refine Below.alloc ?_ (by (try simp); try omega) _))).mono ?_; rintro e w1 ⟨rfl, hb1⟩)
      go_ret
      exact ⟨X.ret_z (by rw [hE.out]; exact HL.out), ((Below.refl _ _).alloc (Nat.le_refl _) _).trans (hb1.mono (by simp))⟩
    · rw [X.leftOf_no h1] at hC HL
      clear h1
      go_enter Try.func28, Try.ntmps28
      go_wp2_with (go_at_call 12; refine (hC _ (by repeat (first | exact Below.refl _ _ | refine Below.drew ?_ | refine Below.setCell ?_ (by (try simp); try omega) _ | refine Below.alloc ?_ (by (try simp); try omega) _))).mono ?_; rintro e w1 ⟨rfl, hb1⟩)
      go_ret
      exact ⟨X.ret_z (by rw [hE.out]; exact HL.out), ((Below.refl _ _).alloc (Nat.le_refl _) _).trans (hb1.mono (by simp))⟩
  · have HN := Lib.hid (X.leftOf_not (b := f.length + sizS f) h0)
    have b0 : decide ((left : Int) - (t.size : Int) < 0) = true := by simp; omega
    go_enter Try.func28, Try.ntmps28
    go_wp2_with fail
    go_ret
    exact ⟨X.ret_z (by rw [hE.out]; exact HN.out), ((Below.refl _ _).alloc (Nat.le_refl _) _)⟩
set_option maxHeartbeats 2000000 in
theorem szRtS (r : List Rt) (s : Value) (P : Nat → Prop) (w : World) (left : Nat) (hK : Rts w P r s) (hP : ∀ b, P b → b < w.heap.size) (hl : r.length ≤ maxLen) (hw : ∀ i (h : i < r.length), r[i].Wf) (hleft : left ≤ 1099511627776) :
    Calls Try.prog 11 #[s, .int .i64 (left : Int)] w fun e w' => e = .returned (.int .i64 (X.leftOf (r.length + sumF Rt.siz r) left)) ∧ Below w.heap.size w w' := by
  unfold maxLen at hl
  obtain ⟨A, cap, rfl⟩ := hK.form
  by_cases h0 : r.length ≤ left
  · obtain ⟨m0, hm0⟩ : ∃ m0, m0 = left - r.length := ⟨_, rfl⟩
    have hz : (left : Int) - (r.length : Int) = (m0 : Int) := by omega
    have HM0 := Lib.hid hm0
    have hm0' : m0 ≤ left := by omega
    clear hm0
    have b0 : decide ((m0 : Int) < 0) = false := by simp
    go_enter Try.func11, Try.ntmps11
    go_wp2_with fail
    go_loopw [1, 5] (fun a i wr => ∃ j m : Nat, i = .int .i64 j ∧ a = .int .i64 m ∧ Hid (m + sumF Rt.siz (r.take j) = m0) ∧ m ≤ m0 ∧ j ≤ r.length ∧ Below w.heap.size w wr)
      (fun _ i _ => r.length - (intOf i).toNat)
    case atStart => exact ⟨0, m0, rfl, rfl, Lib.hid (by simp [sumF]), by omega, by omega, Below.refl _ _⟩
    case round =>
      obtain ⟨j, m, rfl, rfl, HM, hm, hj, hb⟩ := hrel
      have hsz := hb.size
      by_cases hlt : j < r.length
      · obtain ⟨b, o, s1, rfl, hPb, hs1, c0, c1, c2⟩ := Rts.at_ (hK.below hb hP) hlt
        obtain ⟨A1, cap1, rfl⟩ := hs1.form
        have hC := szRt r[j] _ P wr m hs1 (fun b hb => Nat.lt_of_lt_of_le (hP b hb) hsz) (hw j hlt) (by omega)
        have h1 := sumF_take Rt.siz r hlt
        have h2 := sumF_le Rt.siz r (j + 1)
        have h3 := HM.out
        clear hs1
        by_cases hn : Rt.siz r[j] ≤ m
        · rw [X.leftOf_yes hn] at hC
          obtain ⟨m1, hm1⟩ : ∃ m1, m1 = m - Rt.siz r[j] := ⟨_, rfl⟩
          rw [← hm1] at hC
          have HN := Lib.hid (show m1 + sumF Rt.siz (r.take (j + 1)) = m0 by omega)
          have hm1' : m1 ≤ m := by omega
          have b1 : decide ((m1 : Int) < 0) = false := by simp
          have HC := Lib.hid hC
          clear hC hm1 hn h1 h2 h3 HM hz
          go_wp2_with (go_at_call 28; refine HC.out.mono ?_; rintro e w1 ⟨rfl, hb1⟩)
          go_roundw
          case rel => exact ⟨j + 1, _, by go_num, rfl, HN, by omega, by omega, hb.trans (hb1.mono hsz)⟩
          case measure => simp [intOf]; omega
        · rw [X.leftOf_no hn] at hC
          have HN := Lib.hid (show X.leftOf (r.length + sumF Rt.siz r) left = -1 by rw [X.leftOf_no]; have := HM0.out; omega)
          have HC := Lib.hid hC
          clear hC hn h1 h2 h3 HM hz
          go_wp2_with (go_at_call 28; refine HC.out.mono ?_; rintro e w1 ⟨rfl, hb1⟩)
          go_ret
          exact ⟨X.ret_z HN.out.symm, hb.trans (hb1.mono hsz)⟩
      · obtain rfl : j = r.length := by omega
        have HN := Lib.hid (show X.leftOf (r.length + sumF Rt.siz r) left = (m : Int) by
          have h1 := HM.out; have h2 := HM0.out; rw [List.take_length] at h1; rw [X.leftOf_yes (by omega)]; omega)
        clear HM
        go_wp2_with fail
        go_ret
        exact ⟨X.ret_z HN.out.symm, hb⟩
  · have HN := Lib.hid (X.leftOf_not (b := sumF Rt.siz r) h0)
    have b0 : decide ((left : Int) - (r.length : Int) < 0) = true := by simp; omega
    go_enter Try.func11, Try.ntmps11
    go_wp2_with fail
    go_ret
    exact ⟨X.ret_z HN.out, Below.refl _ _⟩
set_option maxHeartbeats 2000000 in
theorem szPd (a : Pd) (s1 s2 s3 : Value) (P : Nat → Prop) (w : World) (left : Nat) (hK1 : Sr w P s1 a.p) (hK2 : Sr w P s2 a.q) (hK3 : X.Kd w P a.x.r s3) (hP : ∀ b, P b → b < w.heap.size) (hw : a.Wf) (hleft : left ≤ 1099511627776) :
    Calls Try.prog 29 #[.agg #[.string a.t, s1, s2, .int .i64 a.x.k, .string a.x.t, .int .i64 a.x.n, .int .i64 a.x.l, s3, .int .i64 a.l], .int .i64 (left : Int)] w fun e w' => e = .returned (.int .i64 (X.leftOf a.siz left)) ∧ Below w.heap.size w w' := by
  obtain ⟨t, p, q, x, l⟩ := a
  obtain ⟨ht, ⟨hpl, hpw⟩, ⟨hql, hqw⟩, hx⟩ := hw
  replace hK1 : Sr w P s1 p := hK1
  replace hK2 : Sr w P s2 q := hK2
  replace hK3 : X.Kd w P x.r s3 := hK3
  replace ht : t.size ≤ maxLen := ht
  replace hpl : p.length ≤ maxLen := hpl
  replace hpw : ∀ i (h : i < p.length), p[i].size ≤ maxLen := hpw
  replace hql : q.length ≤ maxLen := hql
  replace hqw : ∀ i (h : i < q.length), q[i].size ≤ maxLen := hqw
  replace hx : X.Wf x := hx
  obtain ⟨A1, cap1, rfl⟩ := hK1.form
  obtain ⟨A2, cap2, rfl⟩ := hK2.form
  obtain ⟨A3, cap3, rfl⟩ := hK3.form
  have hE := Lib.hid (show Pd.siz ⟨t, p, q, x, l⟩ = t.size + ((p.length + sizS p) + ((q.length + sizS q) + X.siz x)) from rfl)
  unfold maxLen at ht
  obtain ⟨sp, hsp⟩ : ∃ sp, sp = p.length + sizS p := ⟨_, rfl⟩
  obtain ⟨sq, hsq⟩ : ∃ sq, sq = q.length + sizS q := ⟨_, rfl⟩
  obtain ⟨sx, hsx⟩ : ∃ sx, sx = X.siz x := ⟨_, rfl⟩
  rw [← hsp, ← hsq, ← hsx] at hE
  have hC1 : ∀ (m : Nat) (W : World), m ≤ left → Below w.heap.size w W → Calls Try.prog 12 #[.slice A1 p.length cap1, .int .i64 (m : Int)] W fun e w' => e = .returned (.int .i64 (X.leftOf sp m)) ∧ Below W.heap.size W w' := fun m W hm hW => by
    rw [hsp]; exact (szS p _ P W m (hK1.below hW hP) hpl hpw (by omega)).mono fun e w' ⟨h1, h2⟩ => ⟨h1, below_refl' h2⟩
  have hC2 : ∀ (m : Nat) (W : World), m ≤ left → Below w.heap.size w W → Calls Try.prog 12 #[.slice A2 q.length cap2, .int .i64 (m : Int)] W fun e w' => e = .returned (.int .i64 (X.leftOf sq m)) ∧ Below W.heap.size W w' := fun m W hm hW => by
    rw [hsq]; exact (szS q _ P W m (hK2.below hW hP) hql hqw (by omega)).mono fun e w' ⟨h1, h2⟩ => ⟨h1, below_refl' h2⟩
  have hC3 : ∀ (m : Nat) (W : World), m ≤ left → Below w.heap.size w W → Calls Try.prog 37 #[X.val x (.slice A3 x.r.length cap3), .int .i64 (m : Int)] W fun e w' => e = .returned (.int .i64 (X.leftOf sx m)) ∧ Below W.heap.size W w' := fun m W hm hW => by
    rw [hsx]; exact X.szX x _ P W m (hK3.below hW hP).rd (fun b hb => Nat.lt_of_lt_of_le (hP b hb) hW.size) hx (by omega)
  clear hsp hsq hsx hx hpl hpw hql hqw hK1 hK2 hK3
  obtain ⟨k, u, n, y, r⟩ := x
  show Calls Try.prog 29 #[.agg #[.string t, .slice A1 p.length cap1, .slice A2 q.length cap2, .int .i64 k, .string u, .int .i64 n, .int .i64 y, .slice A3 r.length cap3, .int .i64 l], .int .i64 (left : Int)] w _
  replace hC3 : ∀ (m : Nat) (W : World), m ≤ left → Below w.heap.size w W → Calls Try.prog 37 #[.agg #[.int .i64 k, .string u, .int .i64 n, .int .i64 y, .slice A3 r.length cap3], .int .i64 (m : Int)] W fun e w' => e = .returned (.int .i64 (X.leftOf sx m)) ∧ Below W.heap.size W w' := hC3
  have hbb : Below w.heap.size w w := Below.refl _ _
  have hzz := hbb.size
  by_cases h0 : t.size ≤ left
  · obtain ⟨m0, hm0⟩ : ∃ m0, m0 = left - t.size := ⟨_, rfl⟩
    have hz : (left : Int) - (t.size : Int) = (m0 : Int) := by omega
    have HL := Lib.hid (X.leftOf_add (b := sp + (sq + sx)) h0 rfl)
    rw [← hm0] at HL
    have hm0' : m0 ≤ left := by omega
    clear hm0
    have b0 : decide ((m0 : Int) < 0) = false := by simp
    replace hC1 := fun W => hC1 m0 W hm0'
    by_cases h1 : sp ≤ m0
    · rw [X.leftOf_yes h1] at hC1
      have HL1 := Lib.hid (X.leftOf_add (b := sq + sx) h1 rfl)
      obtain ⟨m1, hm1⟩ : ∃ m1, m1 = m0 - sp := ⟨_, rfl⟩
      rw [← hm1] at hC1 HL1
      have b1 : decide ((m1 : Int) < 0) = false := by simp
      have hm1' : m1 ≤ left := by omega
      clear hm1 h1
      replace hC2 := fun W => hC2 m1 W hm1'
      by_cases h2 : sq ≤ m1
      · rw [X.leftOf_yes h2] at hC2
        have HL2 := Lib.hid (X.leftOf_add (b := sx) h2 rfl)
        obtain ⟨m2, hm2⟩ : ∃ m2, m2 = m1 - sq := ⟨_, rfl⟩
        rw [← hm2] at hC2 HL2
        have b2 : decide ((m2 : Int) < 0) = false := by simp
        have hm2' : m2 ≤ left := by omega
        clear hm2 h2
        replace hC3 := fun W => hC3 m2 W hm2'
        have HR := Lib.hid (show X.leftOf sx m2 = X.leftOf (Pd.siz ⟨t, p, q, X.mk k u n y r, l⟩) left by rw [hE.out]; exact HL2.out.trans (HL1.out.trans HL.out))
        by_cases h3 : sx ≤ m2
        · rw [X.leftOf_yes h3] at hC3 HR
          obtain ⟨m3, hm3⟩ : ∃ m3, m3 = m2 - sx := ⟨_, rfl⟩
          rw [← hm3] at hC3 HR
          have b3 : decide ((m3 : Int) < 0) = false := by simp
          clear hm3 h3
          go_enter Try.func29, Try.ntmps29
          go_wp2_with (first
            | (have hg2 := g2; go_at_call 37; refine (hC3 _ (by repeat (first | exact hbb | refine Below.drew ?_ | refine Below.setCell ?_ (by (try simp); try omega) _ | refine Below.alloc ?_ (by (try simp); try omega) _))).mono ?_; rintro e w3 ⟨rfl, hb3⟩; have hbb := X.grow (w := w) (by repeat (first | exact hbb | refine Below.drew ?_ | refine Below.setCell ?_ (by (try simp); try omega) _ | refine Below.alloc ?_ (by (try simp); try omega) _)) hb3; have hzz := hbb.size)
            | (have hg1 := g1; go_at_call 12; refine (hC2 _ (by repeat (first | exact hbb | refine Below.drew ?_ | refine Below.setCell ?_ (by (try simp); try omega) _ | refine Below.alloc ?_ (by (try simp); try omega) _))).mono ?_; rintro e w2 ⟨rfl, hb2⟩; have g2 := hb2; have hbb := X.grow (w := w) (by repeat (first | exact hbb | refine Below.drew ?_ | refine Below.setCell ?_ (by (try simp); try omega) _ | refine Below.alloc ?_ (by (try simp); try omega) _)) hb2; have hzz := hbb.size; have hB := hB.kept hb2; obtain ⟨a0, a1, a2, a3, a4, a5, a6, a7, a8⟩ := Blk.c9 hB)
            | (go_at_call 12; refine (hC1 _ (by repeat (first | exact hbb | refine Below.drew ?_ | refine Below.setCell ?_ (by (try simp); try omega) _ | refine Below.alloc ?_ (by (try simp); try omega) _))).mono ?_; rintro e w1 ⟨rfl, hb1⟩; have g1 := hb1; have hbb := X.grow (w := w) (by repeat (first | exact hbb | refine Below.drew ?_ | refine Below.setCell ?_ (by (try simp); try omega) _ | refine Below.alloc ?_ (by (try simp); try omega) _)) hb1; have hzz := hbb.size; have hB := Blk.kept (Blk.new w 63 #[.string t, .slice A1 p.length cap1, .slice A2 q.length cap2, .int .i64 k, .string u, .int .i64 n, .int .i64 y, .slice A3 r.length cap3, .int .i64 l]) hb1; obtain ⟨a0, a1, a2, a3, a4, a5, a6, a7, a8⟩ := Blk.c9 hB))
          go_ret
          exact ⟨X.ret_z HR.out, by repeat (first | exact hbb | refine Below.drew ?_ | refine Below.setCell ?_ (by (try simp); try omega) _ | refine Below.alloc ?_ (by (try simp); try omega) _)⟩
        · rw [X.leftOf_no h3] at hC3 HR
          clear h3
          go_enter Try.func29, Try.ntmps29
          go_wp2_with (first
            | (have hg2 := g2; go_at_call 37; refine (hC3 _ (by repeat (first | exact hbb | refine Below.drew ?_ | refine Below.setCell ?_ (by (try simp); try omega) _ | refine Below.alloc ?_ (by (try simp); try omega) _))).mono ?_; rintro e w3 ⟨rfl, hb3⟩; have hbb := X.grow (w := w) (by repeat (first | exact hbb | refine Below.drew ?_ | refine Below.setCell ?_ (by (try simp); try omega) _ | refine Below.alloc ?_ (by (try simp); try omega) _)) hb3; have hzz := hbb.size)
            | (have hg1 := g1; go_at_call 12; refine (hC2 _ (by repeat (first | exact hbb | refine Below.drew ?_ | refine Below.setCell ?_ (by (try simp); try omega) _ | refine Below.alloc ?_ (by (try simp); try omega) _))).mono ?_; rintro e w2 ⟨rfl, hb2⟩; have g2 := hb2; have hbb := X.grow (w := w) (by repeat (first | exact hbb | refine Below.drew ?_ | refine Below.setCell ?_ (by (try simp); try omega) _ | refine Below.alloc ?_ (by (try simp); try omega) _)) hb2; have hzz := hbb.size; have hB := hB.kept hb2; obtain ⟨a0, a1, a2, a3, a4, a5, a6, a7, a8⟩ := Blk.c9 hB)
            | (go_at_call 12; refine (hC1 _ (by repeat (first | exact hbb | refine Below.drew ?_ | refine Below.setCell ?_ (by (try simp); try omega) _ | refine Below.alloc ?_ (by (try simp); try omega) _))).mono ?_; rintro e w1 ⟨rfl, hb1⟩; have g1 := hb1; have hbb := X.grow (w := w) (by repeat (first | exact hbb | refine Below.drew ?_ | refine Below.setCell ?_ (by (try simp); try omega) _ | refine Below.alloc ?_ (by (try simp); try omega) _)) hb1; have hzz := hbb.size; have hB := Blk.kept (Blk.new w 63 #[.string t, .slice A1 p.length cap1, .slice A2 q.length cap2, .int .i64 k, .string u, .int .i64 n, .int .i64 y, .slice A3 r.length cap3, .int .i64 l]) hb1; obtain ⟨a0, a1, a2, a3, a4, a5, a6, a7, a8⟩ := Blk.c9 hB))
          go_ret
          exact ⟨X.ret_z HR.out, by repeat (first | exact hbb | refine Below.drew ?_ | refine Below.setCell ?_ (by (try simp); try omega) _ | refine Below.alloc ?_ (by (try simp); try omega) _)⟩
      · rw [X.leftOf_no h2] at hC2
        have HR := Lib.hid (show (-1 : Int) = X.leftOf (Pd.siz ⟨t, p, q, X.mk k u n y r, l⟩) left by rw [hE.out]; exact (X.leftOf_not h2).trans (HL1.out.trans HL.out))
        clear h2
        go_enter Try.func29, Try.ntmps29
        go_wp2_with (first
          | (have hg2 := g2; go_at_call 37; refine (hC3 _ (by repeat (first | exact hbb | refine Below.drew ?_ | refine Below.setCell ?_ (by (try simp); try omega) _ | refine Below.alloc ?_ (by (try simp); try omega) _))).mono ?_; rintro e w3 ⟨rfl, hb3⟩; have hbb := X.grow (w := w) (by repeat (first | exact hbb | refine Below.drew ?_ | refine Below.setCell ?_ (by (try simp); try omega) _ | refine Below.alloc ?_ (by (try simp); try omega) _)) hb3; have hzz := hbb.size)
          | (have hg1 := g1; go_at_call 12; refine (hC2 _ (by repeat (first | exact hbb | refine Below.drew ?_ | refine Below.setCell ?_ (by (try simp); try omega) _ | refine Below.alloc ?_ (by (try simp); try omega) _))).mono ?_; rintro e w2 ⟨rfl, hb2⟩; have g2 := hb2; have hbb := X.grow (w := w) (by repeat (first | exact hbb | refine Below.drew ?_ | refine Below.setCell ?_ (by (try simp); try omega) _ | refine Below.alloc ?_ (by (try simp); try omega) _)) hb2; have hzz := hbb.size; have hB := hB.kept hb2; obtain ⟨a0, a1, a2, a3, a4, a5, a6, a7, a8⟩ := Blk.c9 hB)
          | (go_at_call 12; refine (hC1 _ (by repeat (first | exact hbb | refine Below.drew ?_ | refine Below.setCell ?_ (by (try simp); try omega) _ | refine Below.alloc ?_ (by (try simp); try omega) _))).mono ?_; rintro e w1 ⟨rfl, hb1⟩; have g1 := hb1; have hbb := X.grow (w := w) (by repeat (first | exact hbb | refine Below.drew ?_ | refine Below.setCell ?_ (by (try simp); try omega) _ | refine Below.alloc ?_ (by (try simp); try omega) _)) hb1; have hzz := hbb.size; have hB := Blk.kept (Blk.new w 63 #[.string t, .slice A1 p.length cap1, .slice A2 q.length cap2, .int .i64 k, .string u, .int .i64 n, .int .i64 y, .slice A3 r.length cap3, .int .i64 l]) hb1; obtain ⟨a0, a1, a2, a3, a4, a5, a6, a7, a8⟩ := Blk.c9 hB))
        go_ret
        exact ⟨X.ret_z HR.out, by repeat (first | exact hbb | refine Below.drew ?_ | refine Below.setCell ?_ (by (try simp); try omega) _ | refine Below.alloc ?_ (by (try simp); try omega) _)⟩
    · rw [X.leftOf_no h1] at hC1
      have HR := Lib.hid (show (-1 : Int) = X.leftOf (Pd.siz ⟨t, p, q, X.mk k u n y r, l⟩) left by rw [hE.out]; exact (X.leftOf_not h1).trans HL.out)
      clear h1
      go_enter Try.func29, Try.ntmps29
      go_wp2_with (first
        | (have hg2 := g2; go_at_call 37; refine (hC3 _ (by repeat (first | exact hbb | refine Below.drew ?_ | refine Below.setCell ?_ (by (try simp); try omega) _ | refine Below.alloc ?_ (by (try simp); try omega) _))).mono ?_; rintro e w3 ⟨rfl, hb3⟩; have hbb := X.grow (w := w) (by repeat (first | exact hbb | refine Below.drew ?_ | refine Below.setCell ?_ (by (try simp); try omega) _ | refine Below.alloc ?_ (by (try simp); try omega) _)) hb3; have hzz := hbb.size)
        | (have hg1 := g1; go_at_call 12; refine (hC2 _ (by repeat (first | exact hbb | refine Below.drew ?_ | refine Below.setCell ?_ (by (try simp); try omega) _ | refine Below.alloc ?_ (by (try simp); try omega) _))).mono ?_; rintro e w2 ⟨rfl, hb2⟩; have g2 := hb2; have hbb := X.grow (w := w) (by repeat (first | exact hbb | refine Below.drew ?_ | refine Below.setCell ?_ (by (try simp); try omega) _ | refine Below.alloc ?_ (by (try simp); try omega) _)) hb2; have hzz := hbb.size; have hB := hB.kept hb2; obtain ⟨a0, a1, a2, a3, a4, a5, a6, a7, a8⟩ := Blk.c9 hB)
        | (go_at_call 12; refine (hC1 _ (by repeat (first | exact hbb | refine Below.drew ?_ | refine Below.setCell ?_ (by (try simp); try omega) _ | refine Below.alloc ?_ (by (try simp); try omega) _))).mono ?_; rintro e w1 ⟨rfl, hb1⟩; have g1 := hb1; have hbb := X.grow (w := w) (by repeat (first | exact hbb | refine Below.drew ?_ | refine Below.setCell ?_ (by (try simp); try omega) _ | refine Below.alloc ?_ (by (try simp); try omega) _)) hb1; have hzz := hbb.size; have hB := Blk.kept (Blk.new w 63 #[.string t, .slice A1 p.length cap1, .slice A2 q.length cap2, .int .i64 k, .string u, .int .i64 n, .int .i64 y, .slice A3 r.length cap3, .int .i64 l]) hb1; obtain ⟨a0, a1, a2, a3, a4, a5, a6, a7, a8⟩ := Blk.c9 hB))
      go_ret
      exact ⟨X.ret_z HR.out, by repeat (first | exact hbb | refine Below.drew ?_ | refine Below.setCell ?_ (by (try simp); try omega) _ | refine Below.alloc ?_ (by (try simp); try omega) _)⟩
  · have HR := Lib.hid (show (-1 : Int) = X.leftOf (Pd.siz ⟨t, p, q, X.mk k u n y r, l⟩) left by rw [hE.out]; exact X.leftOf_not h0)
    have b0 : decide ((left : Int) - (t.size : Int) < 0) = true := by simp; omega
    go_enter Try.func29, Try.ntmps29
    go_wp2_with (first
      | (have hg2 := g2; go_at_call 37; refine (hC3 _ (by repeat (first | exact hbb | refine Below.drew ?_ | refine Below.setCell ?_ (by (try simp); try omega) _ | refine Below.alloc ?_ (by (try simp); try omega) _))).mono ?_; rintro e w3 ⟨rfl, hb3⟩; have hbb := X.grow (w := w) (by repeat (first | exact hbb | refine Below.drew ?_ | refine Below.setCell ?_ (by (try simp); try omega) _ | refine Below.alloc ?_ (by (try simp); try omega) _)) hb3; have hzz := hbb.size)
      | (have hg1 := g1; go_at_call 12; refine (hC2 _ (by repeat (first | exact hbb | refine Below.drew ?_ | refine Below.setCell ?_ (by (try simp); try omega) _ | refine Below.alloc ?_ (by (try simp); try omega) _))).mono ?_; rintro e w2 ⟨rfl, hb2⟩; have g2 := hb2; have hbb := X.grow (w := w) (by repeat (first | exact hbb | refine Below.drew ?_ | refine Below.setCell ?_ (by (try simp); try omega) _ | refine Below.alloc ?_ (by (try simp); try omega) _)) hb2; have hzz := hbb.size; have hB := hB.kept hb2; obtain ⟨a0, a1, a2, a3, a4, a5, a6, a7, a8⟩ := Blk.c9 hB)
      | (go_at_call 12; refine (hC1 _ (by repeat (first | exact hbb | refine Below.drew ?_ | refine Below.setCell ?_ (by (try simp); try omega) _ | refine Below.alloc ?_ (by (try simp); try omega) _))).mono ?_; rintro e w1 ⟨rfl, hb1⟩; have g1 := hb1; have hbb := X.grow (w := w) (by repeat (first | exact hbb | refine Below.drew ?_ | refine Below.setCell ?_ (by (try simp); try omega) _ | refine Below.alloc ?_ (by (try simp); try omega) _)) hb1; have hzz := hbb.size; have hB := Blk.kept (Blk.new w 63 #[.string t, .slice A1 p.length cap1, .slice A2 q.length cap2, .int .i64 k, .string u, .int .i64 n, .int .i64 y, .slice A3 r.length cap3, .int .i64 l]) hb1; obtain ⟨a0, a1, a2, a3, a4, a5, a6, a7, a8⟩ := Blk.c9 hB))
    go_ret
    exact ⟨X.ret_z HR.out, by repeat (first | exact hbb | refine Below.drew ?_ | refine Below.setCell ?_ (by (try simp); try omega) _ | refine Below.alloc ?_ (by (try simp); try omega) _)⟩
set_option maxHeartbeats 2000000 in
theorem szPdS (r : List Pd) (s : Value) (P : Nat → Prop) (w : World) (left : Nat) (hK : Pds X.Kd w P r s) (hP : ∀ b, P b → b < w.heap.size) (hl : r.length ≤ maxLen) (hw : ∀ i (h : i < r.length), r[i].Wf) (hleft : left ≤ 1099511627776) :
    Calls Try.prog 13 #[s, .int .i64 (left : Int)] w fun e w' => e = .returned (.int .i64 (X.leftOf (r.length + sumF Pd.siz r) left)) ∧ Below w.heap.size w w' := by
  unfold maxLen at hl
  obtain ⟨A, cap, rfl⟩ := hK.form
  by_cases h0 : r.length ≤ left
  · obtain ⟨m0, hm0⟩ : ∃ m0, m0 = left - r.length := ⟨_, rfl⟩
    have hz : (left : Int) - (r.length : Int) = (m0 : Int) := by omega
    have HM0 := Lib.hid hm0
    have hm0' : m0 ≤ left := by omega
    clear hm0
    have b0 : decide ((m0 : Int) < 0) = false := by simp
    go_enter Try.func13, Try.ntmps13
    go_wp2_with fail
    go_loopw [1, 5] (fun a i wr => ∃ j m : Nat, i = .int .i64 j ∧ a = .int .i64 m ∧ Hid (m + sumF Pd.siz (r.take j) = m0) ∧ m ≤ m0 ∧ j ≤ r.length ∧ Below w.heap.size w wr)
      (fun _ i _ => r.length - (intOf i).toNat)
    case atStart => exact ⟨0, m0, rfl, rfl, Lib.hid (by simp [sumF]), by omega, by omega, Below.refl _ _⟩
    case round =>
      obtain ⟨j, m, rfl, rfl, HM, hm, hj, hb⟩ := hrel
      have hsz := hb.size
      by_cases hlt : j < r.length
      · obtain ⟨b, o, s1, s2, s3, rfl, hPb, hs1, hs2, hs3, c0, c1, c2, c3, c4, c5, c6, c7, c8⟩ := Pds.at_ (hK.below hb hP) hlt
        obtain ⟨A1, cap1, rfl⟩ := hs1.form
        obtain ⟨A2, cap2, rfl⟩ := hs2.form
        obtain ⟨A3, cap3, rfl⟩ := hs3.form
        have hC := szPd r[j] _ _ _ P wr m hs1 hs2 hs3 (fun b hb => Nat.lt_of_lt_of_le (hP b hb) hsz) (hw j hlt) (by omega)
        have h1 := sumF_take Pd.siz r hlt
        have h2 := sumF_le Pd.siz r (j + 1)
        have h3 := HM.out
        clear hs1 hs2 hs3
        by_cases hn : Pd.siz r[j] ≤ m
        · rw [X.leftOf_yes hn] at hC
          obtain ⟨m1, hm1⟩ : ∃ m1, m1 = m - Pd.siz r[j] := ⟨_, rfl⟩
          rw [← hm1] at hC
          have HN := Lib.hid (show m1 + sumF Pd.siz (r.take (j + 1)) = m0 by omega)
          have hm1' : m1 ≤ m := by omega
          have b1 : decide ((m1 : Int) < 0) = false := by simp
          have HC := Lib.hid hC
          clear hC hm1 hn h1 h2 h3 HM hz
          go_wp2_with (go_at_call 29; refine HC.out.mono ?_; rintro e w1 ⟨rfl, hb1⟩)
          go_roundw
          case rel => exact ⟨j + 1, _, by go_num, rfl, HN, by omega, by omega, hb.trans (hb1.mono hsz)⟩
          case measure => simp [intOf]; omega
        · rw [X.leftOf_no hn] at hC
          have HN := Lib.hid (show X.leftOf (r.length + sumF Pd.siz r) left = -1 by rw [X.leftOf_no]; have := HM0.out; omega)
          have HC := Lib.hid hC
          clear hC hn h1 h2 h3 HM hz
          go_wp2_with (go_at_call 29; refine HC.out.mono ?_; rintro e w1 ⟨rfl, hb1⟩)
          go_ret
          exact ⟨X.ret_z HN.out.symm, hb.trans (hb1.mono hsz)⟩
      · obtain rfl : j = r.length := by omega
        have HN := Lib.hid (show X.leftOf (r.length + sumF Pd.siz r) left = (m : Int) by
          have h1 := HM.out; have h2 := HM0.out; rw [List.take_length] at h1; rw [X.leftOf_yes (by omega)]; omega)
        clear HM
        go_wp2_with fail
        go_ret
        exact ⟨X.ret_z HN.out.symm, hb⟩
  · have HN := Lib.hid (X.leftOf_not (b := sumF Pd.siz r) h0)
    have b0 : decide ((left : Int) - (r.length : Int) < 0) = true := by simp; omega
    go_enter Try.func13, Try.ntmps13
    go_wp2_with fail
    go_ret
    exact ⟨X.ret_z HN.out, Below.refl _ _⟩
set_option maxHeartbeats 2000000 in
/-- What is left of a unit's bound is told when it is enough; else it's below 0. -/
theorem szUn (u : Un) (s1 s2 s3 : Value) (P : Nat → Prop) (w : World) (left : Nat) (hK : Urd X.Kd w P u s1 s2 s3) (hP : ∀ b, P b → b < w.heap.size) (hw : u.Wf) (hleft : left ≤ 1099511627776) :
    Calls Try.prog 4 #[.agg #[s1, s2, s3], .int .i64 (left : Int)] w fun e w' => e = .returned (.int .i64 (X.leftOf u.siz left)) ∧ Below w.heap.size w w' := by
  obtain ⟨hK1, hK2, hK3⟩ := hK
  obtain ⟨⟨hrl, hrw⟩, ⟨hgl, hgw⟩, ⟨hpl, hpw⟩⟩ := hw
  obtain ⟨A1, cap1, rfl⟩ := hK1.form
  obtain ⟨A2, cap2, rfl⟩ := hK2.form
  obtain ⟨A3, cap3, rfl⟩ := hK3.form
  obtain ⟨r, g, p⟩ := u
  have hE := Lib.hid (show Un.siz ⟨r, g, p⟩ = (r.length + sumF Rt.siz r) + ((g.length + sizS g) + (p.length + sumF Pd.siz p)) from rfl)
  obtain ⟨sp, hsp⟩ : ∃ sp, sp = r.length + sumF Rt.siz r := ⟨_, rfl⟩
  obtain ⟨sq, hsq⟩ : ∃ sq, sq = g.length + sizS g := ⟨_, rfl⟩
  obtain ⟨sx, hsx⟩ : ∃ sx, sx = p.length + sumF Pd.siz p := ⟨_, rfl⟩
  rw [← hsp, ← hsq, ← hsx] at hE
  have hC1 : ∀ (m : Nat) (W : World), m ≤ left → Below w.heap.size w W → Calls Try.prog 11 #[.slice A1 r.length cap1, .int .i64 (m : Int)] W fun e w' => e = .returned (.int .i64 (X.leftOf sp m)) ∧ Below W.heap.size W w' := fun m W hm hW => by
    rw [hsp]; exact szRtS r _ P W m (hK1.below hW hP) (fun b hb => Nat.lt_of_lt_of_le (hP b hb) hW.size) hrl hrw (by omega)
  have hC2 : ∀ (m : Nat) (W : World), m ≤ left → Below w.heap.size w W → Calls Try.prog 12 #[.slice A2 g.length cap2, .int .i64 (m : Int)] W fun e w' => e = .returned (.int .i64 (X.leftOf sq m)) ∧ Below W.heap.size W w' := fun m W hm hW => by
    rw [hsq]; exact (szS g _ P W m (hK2.below hW hP) hgl hgw (by omega)).mono fun e w' ⟨h1, h2⟩ => ⟨h1, below_refl' h2⟩
  have hC3 : ∀ (m : Nat) (W : World), m ≤ left → Below w.heap.size w W → Calls Try.prog 13 #[.slice A3 p.length cap3, .int .i64 (m : Int)] W fun e w' => e = .returned (.int .i64 (X.leftOf sx m)) ∧ Below W.heap.size W w' := fun m W hm hW => by
    rw [hsx]; exact szPdS p _ P W m (hK3.below hW hP) (fun b hb => Nat.lt_of_lt_of_le (hP b hb) hW.size) hpl hpw (by omega)
  clear hsp hsq hsx hrl hrw hgl hgw hpl hpw hK1 hK2 hK3
  show Calls Try.prog 4 #[.agg #[.slice A1 r.length cap1, .slice A2 g.length cap2, .slice A3 p.length cap3], .int .i64 (left : Int)] w _
  have hbb : Below w.heap.size w w := Below.refl _ _
  have hzz := hbb.size
  replace hC1 := fun W => hC1 left W (Nat.le_refl _)
  by_cases h1 : sp ≤ left
  · rw [X.leftOf_yes h1] at hC1
    have HL1 := Lib.hid (X.leftOf_add (b := sq + sx) h1 rfl)
    obtain ⟨m1, hm1⟩ : ∃ m1, m1 = left - sp := ⟨_, rfl⟩
    rw [← hm1] at hC1 HL1
    have b1 : decide ((m1 : Int) < 0) = false := by simp
    have hm1' : m1 ≤ left := by omega
    clear hm1 h1
    replace hC2 := fun W => hC2 m1 W hm1'
    by_cases h2 : sq ≤ m1
    · rw [X.leftOf_yes h2] at hC2
      have HL2 := Lib.hid (X.leftOf_add (b := sx) h2 rfl)
      obtain ⟨m2, hm2⟩ : ∃ m2, m2 = m1 - sq := ⟨_, rfl⟩
      rw [← hm2] at hC2 HL2
      have b2 : decide ((m2 : Int) < 0) = false := by simp
      have hm2' : m2 ≤ left := by omega
      clear hm2 h2
      replace hC3 := fun W => hC3 m2 W hm2'
      have HR := Lib.hid (show X.leftOf sx m2 = X.leftOf (Un.siz ⟨r, g, p⟩) left by rw [hE.out]; exact HL2.out.trans HL1.out)
      by_cases h3 : sx ≤ m2
      · rw [X.leftOf_yes h3] at hC3 HR
        obtain ⟨m3, hm3⟩ : ∃ m3, m3 = m2 - sx := ⟨_, rfl⟩
        rw [← hm3] at hC3 HR
        have b3 : decide ((m3 : Int) < 0) = false := by simp
        clear hm3 h3
        go_enter Try.func4, Try.ntmps4
        go_wp2_with (first
          | (go_at_call 13; refine (hC3 _ (by repeat (first | exact hbb | refine Below.drew ?_ | refine Below.setCell ?_ (by (try simp); try omega) _ | refine Below.alloc ?_ (by (try simp); try omega) _))).mono ?_; rintro e w3 ⟨rfl, hb3⟩; have hbb := X.grow (w := w) (by repeat (first | exact hbb | refine Below.drew ?_ | refine Below.setCell ?_ (by (try simp); try omega) _ | refine Below.alloc ?_ (by (try simp); try omega) _)) hb3; have hzz := hbb.size)
          | (go_at_call 12; refine (hC2 _ (by repeat (first | exact hbb | refine Below.drew ?_ | refine Below.setCell ?_ (by (try simp); try omega) _ | refine Below.alloc ?_ (by (try simp); try omega) _))).mono ?_; rintro e w2 ⟨rfl, hb2⟩; have hbb := X.grow (w := w) (by repeat (first | exact hbb | refine Below.drew ?_ | refine Below.setCell ?_ (by (try simp); try omega) _ | refine Below.alloc ?_ (by (try simp); try omega) _)) hb2; have hzz := hbb.size; have hB := hB.kept hb2; obtain ⟨a0, a1, a2⟩ := Blk.c3 hB)
          | (go_at_call 11; refine (hC1 _ (by repeat (first | exact hbb | refine Below.drew ?_ | refine Below.setCell ?_ (by (try simp); try omega) _ | refine Below.alloc ?_ (by (try simp); try omega) _))).mono ?_; rintro e w1 ⟨rfl, hb1⟩; have hbb := X.grow (w := w) (by repeat (first | exact hbb | refine Below.drew ?_ | refine Below.setCell ?_ (by (try simp); try omega) _ | refine Below.alloc ?_ (by (try simp); try omega) _)) hb1; have hzz := hbb.size; have hB := Blk.kept (Blk.new w 26 #[.slice A1 r.length cap1, .slice A2 g.length cap2, .slice A3 p.length cap3]) hb1; obtain ⟨a0, a1, a2⟩ := Blk.c3 hB))
        go_ret
        exact ⟨X.ret_z HR.out, by repeat (first | exact hbb | refine Below.drew ?_ | refine Below.setCell ?_ (by (try simp); try omega) _ | refine Below.alloc ?_ (by (try simp); try omega) _)⟩
      · rw [X.leftOf_no h3] at hC3 HR
        clear h3
        go_enter Try.func4, Try.ntmps4
        go_wp2_with (first
          | (go_at_call 13; refine (hC3 _ (by repeat (first | exact hbb | refine Below.drew ?_ | refine Below.setCell ?_ (by (try simp); try omega) _ | refine Below.alloc ?_ (by (try simp); try omega) _))).mono ?_; rintro e w3 ⟨rfl, hb3⟩; have hbb := X.grow (w := w) (by repeat (first | exact hbb | refine Below.drew ?_ | refine Below.setCell ?_ (by (try simp); try omega) _ | refine Below.alloc ?_ (by (try simp); try omega) _)) hb3; have hzz := hbb.size)
          | (go_at_call 12; refine (hC2 _ (by repeat (first | exact hbb | refine Below.drew ?_ | refine Below.setCell ?_ (by (try simp); try omega) _ | refine Below.alloc ?_ (by (try simp); try omega) _))).mono ?_; rintro e w2 ⟨rfl, hb2⟩; have hbb := X.grow (w := w) (by repeat (first | exact hbb | refine Below.drew ?_ | refine Below.setCell ?_ (by (try simp); try omega) _ | refine Below.alloc ?_ (by (try simp); try omega) _)) hb2; have hzz := hbb.size; have hB := hB.kept hb2; obtain ⟨a0, a1, a2⟩ := Blk.c3 hB)
          | (go_at_call 11; refine (hC1 _ (by repeat (first | exact hbb | refine Below.drew ?_ | refine Below.setCell ?_ (by (try simp); try omega) _ | refine Below.alloc ?_ (by (try simp); try omega) _))).mono ?_; rintro e w1 ⟨rfl, hb1⟩; have hbb := X.grow (w := w) (by repeat (first | exact hbb | refine Below.drew ?_ | refine Below.setCell ?_ (by (try simp); try omega) _ | refine Below.alloc ?_ (by (try simp); try omega) _)) hb1; have hzz := hbb.size; have hB := Blk.kept (Blk.new w 26 #[.slice A1 r.length cap1, .slice A2 g.length cap2, .slice A3 p.length cap3]) hb1; obtain ⟨a0, a1, a2⟩ := Blk.c3 hB))
        go_ret
        exact ⟨X.ret_z HR.out, by repeat (first | exact hbb | refine Below.drew ?_ | refine Below.setCell ?_ (by (try simp); try omega) _ | refine Below.alloc ?_ (by (try simp); try omega) _)⟩
    · rw [X.leftOf_no h2] at hC2
      have HR := Lib.hid (show (-1 : Int) = X.leftOf (Un.siz ⟨r, g, p⟩) left by rw [hE.out]; exact (X.leftOf_not h2).trans HL1.out)
      clear h2
      go_enter Try.func4, Try.ntmps4
      go_wp2_with (first
        | (go_at_call 13; refine (hC3 _ (by repeat (first | exact hbb | refine Below.drew ?_ | refine Below.setCell ?_ (by (try simp); try omega) _ | refine Below.alloc ?_ (by (try simp); try omega) _))).mono ?_; rintro e w3 ⟨rfl, hb3⟩; have hbb := X.grow (w := w) (by repeat (first | exact hbb | refine Below.drew ?_ | refine Below.setCell ?_ (by (try simp); try omega) _ | refine Below.alloc ?_ (by (try simp); try omega) _)) hb3; have hzz := hbb.size)
        | (go_at_call 12; refine (hC2 _ (by repeat (first | exact hbb | refine Below.drew ?_ | refine Below.setCell ?_ (by (try simp); try omega) _ | refine Below.alloc ?_ (by (try simp); try omega) _))).mono ?_; rintro e w2 ⟨rfl, hb2⟩; have hbb := X.grow (w := w) (by repeat (first | exact hbb | refine Below.drew ?_ | refine Below.setCell ?_ (by (try simp); try omega) _ | refine Below.alloc ?_ (by (try simp); try omega) _)) hb2; have hzz := hbb.size; have hB := hB.kept hb2; obtain ⟨a0, a1, a2⟩ := Blk.c3 hB)
        | (go_at_call 11; refine (hC1 _ (by repeat (first | exact hbb | refine Below.drew ?_ | refine Below.setCell ?_ (by (try simp); try omega) _ | refine Below.alloc ?_ (by (try simp); try omega) _))).mono ?_; rintro e w1 ⟨rfl, hb1⟩; have hbb := X.grow (w := w) (by repeat (first | exact hbb | refine Below.drew ?_ | refine Below.setCell ?_ (by (try simp); try omega) _ | refine Below.alloc ?_ (by (try simp); try omega) _)) hb1; have hzz := hbb.size; have hB := Blk.kept (Blk.new w 26 #[.slice A1 r.length cap1, .slice A2 g.length cap2, .slice A3 p.length cap3]) hb1; obtain ⟨a0, a1, a2⟩ := Blk.c3 hB))
      go_ret
      exact ⟨X.ret_z HR.out, by repeat (first | exact hbb | refine Below.drew ?_ | refine Below.setCell ?_ (by (try simp); try omega) _ | refine Below.alloc ?_ (by (try simp); try omega) _)⟩
  · rw [X.leftOf_no h1] at hC1
    have HR := Lib.hid (show (-1 : Int) = X.leftOf (Un.siz ⟨r, g, p⟩) left by rw [hE.out]; exact X.leftOf_not h1)
    clear h1
    go_enter Try.func4, Try.ntmps4
    go_wp2_with (first
      | (go_at_call 13; refine (hC3 _ (by repeat (first | exact hbb | refine Below.drew ?_ | refine Below.setCell ?_ (by (try simp); try omega) _ | refine Below.alloc ?_ (by (try simp); try omega) _))).mono ?_; rintro e w3 ⟨rfl, hb3⟩; have hbb := X.grow (w := w) (by repeat (first | exact hbb | refine Below.drew ?_ | refine Below.setCell ?_ (by (try simp); try omega) _ | refine Below.alloc ?_ (by (try simp); try omega) _)) hb3; have hzz := hbb.size)
      | (go_at_call 12; refine (hC2 _ (by repeat (first | exact hbb | refine Below.drew ?_ | refine Below.setCell ?_ (by (try simp); try omega) _ | refine Below.alloc ?_ (by (try simp); try omega) _))).mono ?_; rintro e w2 ⟨rfl, hb2⟩; have hbb := X.grow (w := w) (by repeat (first | exact hbb | refine Below.drew ?_ | refine Below.setCell ?_ (by (try simp); try omega) _ | refine Below.alloc ?_ (by (try simp); try omega) _)) hb2; have hzz := hbb.size; have hB := hB.kept hb2; obtain ⟨a0, a1, a2⟩ := Blk.c3 hB)
      | (go_at_call 11; refine (hC1 _ (by repeat (first | exact hbb | refine Below.drew ?_ | refine Below.setCell ?_ (by (try simp); try omega) _ | refine Below.alloc ?_ (by (try simp); try omega) _))).mono ?_; rintro e w1 ⟨rfl, hb1⟩; have hbb := X.grow (w := w) (by repeat (first | exact hbb | refine Below.drew ?_ | refine Below.setCell ?_ (by (try simp); try omega) _ | refine Below.alloc ?_ (by (try simp); try omega) _)) hb1; have hzz := hbb.size; have hB := Blk.kept (Blk.new w 26 #[.slice A1 r.length cap1, .slice A2 g.length cap2, .slice A3 p.length cap3]) hb1; obtain ⟨a0, a1, a2⟩ := Blk.c3 hB))
    go_ret
    exact ⟨X.ret_z HR.out, by repeat (first | exact hbb | refine Below.drew ?_ | refine Below.setCell ?_ (by (try simp); try omega) _ | refine Below.alloc ?_ (by (try simp); try omega) _)⟩
end Go.Proofs.Ytljblaglfooclaa
