/- Proved here: the law's equality of two record types, procedures or units that hold the same data is true. Condition: the lists fit. -/
import Derived.Test.YtljblaglfooclaaUl
namespace Go.Proofs.Ytljblaglfooclaa
open Go.RowKit

theorem keepU {w w' : World} {g g' : Nat} {T T' : TypeId} {a0 a1 a2 b0 b1 b2 : Value} (h : Blk w g T #[a0, a1, a2]) (h' : Blk w g' T' #[b0, b1, b2]) (hb : Below w.heap.size w w') :
    w'.cell? ⟨g, 0, none⟩ = some a0 ∧ w'.cell? ⟨g, 1, none⟩ = some a1 ∧ w'.cell? ⟨g, 2, none⟩ = some a2 ∧ w'.cell? ⟨g', 0, none⟩ = some b0 ∧ w'.cell? ⟨g', 1, none⟩ = some b1 ∧ w'.cell? ⟨g', 2, none⟩ = some b2 := by
  obtain ⟨x0, x1, x2⟩ := Blk.c3 (h.kept hb)
  obtain ⟨y0, y1, y2⟩ := Blk.c3 (h'.kept hb)
  exact ⟨x0, x1, x2, y0, y1, y2⟩
theorem tself (t : ByteArray) : (t.toList == t.toList) = true := by simp
theorem eqS_at {l : List ByteArray} {s s' : Value} {P : Nat → Prop} {w : World} (hK : Sr w P s l) (hK' : Sr w P s' l) (hP : ∀ b, P b → b < w.heap.size) (hl : l.length ≤ maxLen) (W : World) (hW : Below w.heap.size w W) :
    Calls Try.prog 20 #[s, s'] W fun e w' => e = .returned (.bool true) ∧ Below W.heap.size W w' :=
  (eqS l l s s' P W (hK.below hW hP) (hK'.below hW hP) hl).mono fun e w' ⟨h, n, hn⟩ => by
    rw [decide_eq_true rfl] at h
    subst hn
    exact ⟨h, below_drewN (Below.refl _ _) n⟩
set_option maxHeartbeats 2000000 in
theorem eqRt (a : Rt) (s s' : Value) (P : Nat → Prop) (w : World) (hK : Sr w P s a.f) (hK' : Sr w P s' a.f) (hP : ∀ b, P b → b < w.heap.size) (hw : a.Wf) :
    Calls Try.prog 32 #[.agg #[.string a.t, s, .int .i64 a.l], .agg #[.string a.t, s', .int .i64 a.l]] w fun e w' => e = .returned (.bool true) ∧ Below w.heap.size w w' := by
  have hC := eqS_at hK hK' hP hw.2.1
  obtain ⟨A, cap, rfl⟩ := hK.form
  obtain ⟨A', cap', rfl⟩ := hK'.form
  obtain ⟨t, f, l⟩ := a
  replace hC : ∀ W : World, Below w.heap.size w W → Calls Try.prog 20 #[.slice A f.length cap, .slice A' f.length cap'] W fun e w' => e = .returned (.bool true) ∧ Below W.heap.size W w' := hC
  clear hK hK' hw
  have b1 := tself t
  show Calls Try.prog 32 #[.agg #[.string t, .slice A f.length cap, .int .i64 l], .agg #[.string t, .slice A' f.length cap', .int .i64 l]] w _
  have hbb : Below w.heap.size w w := Below.refl _ _
  have hzz := hbb.size
  go_enter Try.func32, Try.ntmps32
  go_wp2_with (go_at_call 20; refine (hC _ (by repeat (first | exact hbb | refine Below.drew ?_ | refine Below.setCell ?_ (by (try simp); try omega) _ | refine Below.alloc ?_ (by (try simp); try omega) _))).mono ?_; rintro e w1 ⟨rfl, hb1⟩; have hbb := X.grow (w := w) (by repeat (first | exact hbb | refine Below.drew ?_ | refine Below.setCell ?_ (by (try simp); try omega) _ | refine Below.alloc ?_ (by (try simp); try omega) _)) hb1; have hx : Blk w1 w.heap.size 41 #[.string t, .slice A f.length cap, .int .i64 l] := ((Blk.new _ _ _).alloc _).kept hb1; have hy : Blk w1 (w.heap.size + 1) 41 #[.string t, .slice A' f.length cap', .int .i64 l] := (Blk.new' (by simp)).kept hb1; obtain ⟨x0, x1, x2⟩ := Blk.c3 hx; obtain ⟨y0, y1, y2⟩ := Blk.c3 hy)
  go_ret
  exact ⟨rfl, by repeat (first | exact hbb | refine Below.drew ?_ | refine Below.setCell ?_ (by (try simp); try omega) _ | refine Below.alloc ?_ (by (try simp); try omega) _)⟩
set_option maxHeartbeats 4000000 in
theorem eqPd (a : Pd) (s1 s2 s3 z1 z2 z3 : Value) (P : Nat → Prop) (w : World) (hK1 : Sr w P s1 a.p) (hK2 : Sr w P s2 a.q) (hK3 : X.Kd w P a.x.r s3) (hJ1 : Sr w P z1 a.p) (hJ2 : Sr w P z2 a.q) (hJ3 : X.Kd w P a.x.r z3) (hP : ∀ b, P b → b < w.heap.size) (hw : a.Wf) :
    Calls Try.prog 33 #[.agg #[.string a.t, s1, s2, .int .i64 a.x.k, .string a.x.t, .int .i64 a.x.n, .int .i64 a.x.l, s3, .int .i64 a.l], .agg #[.string a.t, z1, z2, .int .i64 a.x.k, .string a.x.t, .int .i64 a.x.n, .int .i64 a.x.l, z3, .int .i64 a.l]] w fun e w' => e = .returned (.bool true) ∧ Below w.heap.size w w' := by
  have hC1 := eqS_at hK1 hJ1 hP hw.2.1.1
  have hC2 := eqS_at hK2 hJ2 hP hw.2.2.1.1
  have hC3 : ∀ W : World, Below w.heap.size w W → Calls Try.prog 39 #[X.val a.x s3, X.val a.x z3] W fun e w' => e = .returned (.bool true) ∧ Below W.heap.size W w' := fun W hW =>
    (X.eqX a.x a.x s3 z3 P W (hK3.below hW hP).rd (hJ3.below hW hP).rd (fun b hb => Nat.lt_of_lt_of_le (hP b hb) hW.size) hw.2.2.2).mono fun e w' h => by rw [X.eqB_self] at h; exact h
  obtain ⟨A1, c1, rfl⟩ := hK1.form
  obtain ⟨A2, c2, rfl⟩ := hK2.form
  obtain ⟨A3, c3, rfl⟩ := hK3.form
  obtain ⟨D1, d1, rfl⟩ := hJ1.form
  obtain ⟨D2, d2, rfl⟩ := hJ2.form
  obtain ⟨D3, d3, rfl⟩ := hJ3.form
  obtain ⟨t, p, q, ⟨k, u, n, y, r⟩, l⟩ := a
  replace hC1 : ∀ W : World, Below w.heap.size w W → Calls Try.prog 20 #[.slice A1 p.length c1, .slice D1 p.length d1] W fun e w' => e = .returned (.bool true) ∧ Below W.heap.size W w' := hC1
  replace hC2 : ∀ W : World, Below w.heap.size w W → Calls Try.prog 20 #[.slice A2 q.length c2, .slice D2 q.length d2] W fun e w' => e = .returned (.bool true) ∧ Below W.heap.size W w' := hC2
  replace hC3 : ∀ W : World, Below w.heap.size w W → Calls Try.prog 39 #[.agg #[.int .i64 k, .string u, .int .i64 n, .int .i64 y, .slice A3 r.length c3], .agg #[.int .i64 k, .string u, .int .i64 n, .int .i64 y, .slice D3 r.length d3]] W fun e w' => e = .returned (.bool true) ∧ Below W.heap.size W w' := hC3
  clear hK1 hK2 hK3 hJ1 hJ2 hJ3 hw
  have b1 := tself t
  show Calls Try.prog 33 #[.agg #[.string t, .slice A1 p.length c1, .slice A2 q.length c2, .int .i64 k, .string u, .int .i64 n, .int .i64 y, .slice A3 r.length c3, .int .i64 l], .agg #[.string t, .slice D1 p.length d1, .slice D2 q.length d2, .int .i64 k, .string u, .int .i64 n, .int .i64 y, .slice D3 r.length d3, .int .i64 l]] w _
  have hbb : Below w.heap.size w w := Below.refl _ _
  have hzz := hbb.size
  go_enter Try.func33, Try.ntmps33
  go_wp2_with (first
    | (go_at_call 39; refine (hC3 _ (by repeat (first | exact hbb | refine Below.drew ?_ | refine Below.setCell ?_ (by (try simp); try omega) _ | refine Below.alloc ?_ (by (try simp); try omega) _))).mono ?_; rintro e w3 ⟨rfl, hb3⟩; have hbb := X.grow (w := w) (by repeat (first | exact hbb | refine Below.drew ?_ | refine Below.setCell ?_ (by (try simp); try omega) _ | refine Below.alloc ?_ (by (try simp); try omega) _)) hb3; have hx := hx.kept hb3; have hy := hy.kept hb3; obtain ⟨x0, x1, x2, x3, x4, x5, x6, x7, x8⟩ := Blk.c9 hx; obtain ⟨y0, y1, y2, y3, y4, y5, y6, y7, y8⟩ := Blk.c9 hy)
    | (have hg1 := g1; go_at_call 20; refine (hC2 _ (by repeat (first | exact hbb | refine Below.drew ?_ | refine Below.setCell ?_ (by (try simp); try omega) _ | refine Below.alloc ?_ (by (try simp); try omega) _))).mono ?_; rintro e w2 ⟨rfl, hb2⟩; have hbb := X.grow (w := w) (by repeat (first | exact hbb | refine Below.drew ?_ | refine Below.setCell ?_ (by (try simp); try omega) _ | refine Below.alloc ?_ (by (try simp); try omega) _)) hb2; have hx := hx.kept hb2; have hy := hy.kept hb2; obtain ⟨x0, x1, x2, x3, x4, x5, x6, x7, x8⟩ := Blk.c9 hx; obtain ⟨y0, y1, y2, y3, y4, y5, y6, y7, y8⟩ := Blk.c9 hy)
    | (go_at_call 20; refine (hC1 _ (by repeat (first | exact hbb | refine Below.drew ?_ | refine Below.setCell ?_ (by (try simp); try omega) _ | refine Below.alloc ?_ (by (try simp); try omega) _))).mono ?_; rintro e w1 ⟨rfl, hb1⟩; have g1 := hb1; have hbb := X.grow (w := w) (by repeat (first | exact hbb | refine Below.drew ?_ | refine Below.setCell ?_ (by (try simp); try omega) _ | refine Below.alloc ?_ (by (try simp); try omega) _)) hb1; have hx : Blk w1 w.heap.size 46 #[.string t, .slice A1 p.length c1, .slice A2 q.length c2, .int .i64 k, .string u, .int .i64 n, .int .i64 y, .slice A3 r.length c3, .int .i64 l] := ((Blk.new _ _ _).alloc _).kept hb1; have hy : Blk w1 (w.heap.size + 1) 46 #[.string t, .slice D1 p.length d1, .slice D2 q.length d2, .int .i64 k, .string u, .int .i64 n, .int .i64 y, .slice D3 r.length d3, .int .i64 l] := (Blk.new' (by simp)).kept hb1; obtain ⟨x0, x1, x2, x3, x4, x5, x6, x7, x8⟩ := Blk.c9 hx; obtain ⟨y0, y1, y2, y3, y4, y5, y6, y7, y8⟩ := Blk.c9 hy))
  go_ret
  exact ⟨rfl, by repeat (first | exact hbb | refine Below.drew ?_ | refine Below.setCell ?_ (by (try simp); try omega) _ | refine Below.alloc ?_ (by (try simp); try omega) _)⟩
set_option maxHeartbeats 4000000 in
set_option maxRecDepth 20000 in
theorem eqRtS (r : List Rt) (s s' : Value) (P : Nat → Prop) (w : World) (hK : Rts w P r s) (hK' : Rts w P r s') (hP : ∀ b, P b → b < w.heap.size) (hl : r.length ≤ maxLen) (hw : ∀ i (h : i < r.length), r[i].Wf) :
    Calls Try.prog 19 #[s, s'] w fun e w' => e = .returned (.bool true) ∧ Below w.heap.size w w' := by
  unfold maxLen at hl
  obtain ⟨A, cap, rfl⟩ := hK.form
  obtain ⟨A', cap', rfl⟩ := hK'.form
  go_enter Try.func19, Try.ntmps19
  go_wp2_with fail
  go_loopw [5] (fun i wr => ∃ j : Nat, i = .int .i64 j ∧ j ≤ r.length ∧ Below w.heap.size w wr) (fun i _ => r.length - (intOf i).toNat)
  case atStart => exact ⟨0, rfl, by omega, Below.refl _ _⟩
  case round =>
    obtain ⟨j, rfl, hj, hb⟩ := hrel
    have hsz := hb.size
    by_cases hlt : j < r.length
    · have i1 : (j : Int) < (r.length : Int) := by omega
      obtain ⟨b, o, s1, rfl, hPb, hs1, c0, c1, c2⟩ := Rts.at_ (hK.below hb hP) hlt
      obtain ⟨A1, cap1, rfl⟩ := hs1.form
      obtain ⟨b', o', z1, rfl, hPb', hz1, d0, d1, d2⟩ := Rts.at_ (hK'.below hb hP) hlt
      obtain ⟨D1, e1, rfl⟩ := hz1.form
      have hC : ∀ W : World, Below wr.heap.size wr W → Calls Try.prog 32 #[.agg #[.string r[j].t, .slice A1 r[j].f.length cap1, .int .i64 r[j].l], .agg #[.string r[j].t, .slice D1 r[j].f.length e1, .int .i64 r[j].l]] W fun e w' => e = .returned (.bool true) ∧ Below W.heap.size W w' := fun W hW =>
        eqRt r[j] _ _ P W (hs1.below hW (fun b hb => Nat.lt_of_lt_of_le (hP b hb) hsz)) (hz1.below hW (fun b hb => Nat.lt_of_lt_of_le (hP b hb) hsz)) (fun b hb => Nat.lt_of_lt_of_le (hP b hb) (Nat.le_trans hsz hW.size)) (hw j hlt)
      clear hs1 hz1
      go_wp2_with fail
      go_still_tail 8, (by kernel_rfl)
      change wpList _ _ _ _ _ wr.drew
      go_wp2_with (go_at_call 32; refine (hC _ (by repeat (first | exact Below.refl _ _ | refine Below.drew ?_ | refine Below.setCell ?_ (by (try simp); try omega) _ | refine Below.alloc ?_ (by (try simp); try omega) _))).mono ?_; rintro e w1 ⟨rfl, hb1⟩)
      go_roundw
      case rel => exact ⟨j + 1, by go_num, by omega, (hb.drew).trans (hb1.mono hsz)⟩
      case measure => simp [intOf]; omega
    · obtain rfl : j = r.length := by omega
      go_wp2_with fail
      go_ret
      exact ⟨rfl, hb⟩
set_option maxHeartbeats 4000000 in
set_option maxRecDepth 20000 in
theorem eqPdS (r : List Pd) (s s' : Value) (P : Nat → Prop) (w : World) (hK : Pds X.Kd w P r s) (hK' : Pds X.Kd w P r s') (hP : ∀ b, P b → b < w.heap.size) (hl : r.length ≤ maxLen) (hw : ∀ i (h : i < r.length), r[i].Wf) :
    Calls Try.prog 21 #[s, s'] w fun e w' => e = .returned (.bool true) ∧ Below w.heap.size w w' := by
  unfold maxLen at hl
  obtain ⟨A, cap, rfl⟩ := hK.form
  obtain ⟨A', cap', rfl⟩ := hK'.form
  go_enter Try.func21, Try.ntmps21
  go_wp2_with fail
  go_loopw [5] (fun i wr => ∃ j : Nat, i = .int .i64 j ∧ j ≤ r.length ∧ Below w.heap.size w wr) (fun i _ => r.length - (intOf i).toNat)
  case atStart => exact ⟨0, rfl, by omega, Below.refl _ _⟩
  case round =>
    obtain ⟨j, rfl, hj, hb⟩ := hrel
    have hsz := hb.size
    by_cases hlt : j < r.length
    · have i1 : (j : Int) < (r.length : Int) := by omega
      obtain ⟨b, o, s1, s2, s3, rfl, hPb, hs1, hs2, hs3, c0, c1, c2, c3, c4, c5, c6, c7, c8⟩ := Pds.at_ (hK.below hb hP) hlt
      obtain ⟨A1, cap1, rfl⟩ := hs1.form
      obtain ⟨A2, cap2, rfl⟩ := hs2.form
      obtain ⟨A3, cap3, rfl⟩ := hs3.form
      obtain ⟨b', o', z1, z2, z3, rfl, hPb', hz1, hz2, hz3, d0, d1, d2, d3, d4, d5, d6, d7, d8⟩ := Pds.at_ (hK'.below hb hP) hlt
      obtain ⟨D1, e1, rfl⟩ := hz1.form
      obtain ⟨D2, e2, rfl⟩ := hz2.form
      obtain ⟨D3, e3, rfl⟩ := hz3.form
      have hC : ∀ W : World, Below wr.heap.size wr W → Calls Try.prog 33 #[.agg #[.string r[j].t, .slice A1 r[j].p.length cap1, .slice A2 r[j].q.length cap2, .int .i64 r[j].x.k, .string r[j].x.t, .int .i64 r[j].x.n, .int .i64 r[j].x.l, .slice A3 r[j].x.r.length cap3, .int .i64 r[j].l], .agg #[.string r[j].t, .slice D1 r[j].p.length e1, .slice D2 r[j].q.length e2, .int .i64 r[j].x.k, .string r[j].x.t, .int .i64 r[j].x.n, .int .i64 r[j].x.l, .slice D3 r[j].x.r.length e3, .int .i64 r[j].l]] W fun e w' => e = .returned (.bool true) ∧ Below W.heap.size W w' := fun W hW =>
        eqPd r[j] _ _ _ _ _ _ P W (hs1.below hW (fun b hb => Nat.lt_of_lt_of_le (hP b hb) hsz)) (hs2.below hW (fun b hb => Nat.lt_of_lt_of_le (hP b hb) hsz)) (hs3.below hW (fun b hb => Nat.lt_of_lt_of_le (hP b hb) hsz)) (hz1.below hW (fun b hb => Nat.lt_of_lt_of_le (hP b hb) hsz)) (hz2.below hW (fun b hb => Nat.lt_of_lt_of_le (hP b hb) hsz)) (hz3.below hW (fun b hb => Nat.lt_of_lt_of_le (hP b hb) hsz)) (fun b hb => Nat.lt_of_lt_of_le (hP b hb) (Nat.le_trans hsz hW.size)) (hw j hlt)
      clear hs1 hs2 hs3 hz1 hz2 hz3
      go_wp2_with fail
      go_still_tail 8, (by kernel_rfl)
      change wpList _ _ _ _ _ wr.drew
      go_wp2_with (go_at_call 33; refine (hC _ (by repeat (first | exact Below.refl _ _ | refine Below.drew ?_ | refine Below.setCell ?_ (by (try simp); try omega) _ | refine Below.alloc ?_ (by (try simp); try omega) _))).mono ?_; rintro e w1 ⟨rfl, hb1⟩)
      go_roundw
      case rel => exact ⟨j + 1, by go_num, by omega, (hb.drew).trans (hb1.mono hsz)⟩
      case measure => simp [intOf]; omega
    · obtain rfl : j = r.length := by omega
      go_wp2_with fail
      go_ret
      exact ⟨rfl, hb⟩
set_option maxHeartbeats 4000000 in
theorem eqUn (u : Un) (s1 s2 s3 z1 z2 z3 : Value) (P : Nat → Prop) (w : World) (hK : Urd X.Kd w P u s1 s2 s3) (hJ : Urd X.Kd w P u z1 z2 z3) (hP : ∀ b, P b → b < w.heap.size) (hw : u.Wf) :
    Calls Try.prog 8 #[.agg #[s1, s2, s3], .agg #[z1, z2, z3]] w fun e w' => e = .returned (.bool true) ∧ Below w.heap.size w w' := by
  obtain ⟨hK1, hK2, hK3⟩ := hK
  obtain ⟨hJ1, hJ2, hJ3⟩ := hJ
  have hC1 := fun W (hW : Below w.heap.size w W) => eqRtS u.r s1 z1 P W (hK1.below hW hP) (hJ1.below hW hP) (fun b hb => Nat.lt_of_lt_of_le (hP b hb) hW.size) hw.1.1 hw.1.2
  have hC2 := eqS_at hK2 hJ2 hP hw.2.1.1
  have hC3 := fun W (hW : Below w.heap.size w W) => eqPdS u.p s3 z3 P W (hK3.below hW hP) (hJ3.below hW hP) (fun b hb => Nat.lt_of_lt_of_le (hP b hb) hW.size) hw.2.2.1 hw.2.2.2
  obtain ⟨A1, c1, rfl⟩ := hK1.form
  obtain ⟨A2, c2, rfl⟩ := hK2.form
  obtain ⟨A3, c3, rfl⟩ := hK3.form
  obtain ⟨D1, d1, rfl⟩ := hJ1.form
  obtain ⟨D2, d2, rfl⟩ := hJ2.form
  obtain ⟨D3, d3, rfl⟩ := hJ3.form
  obtain ⟨r, g, p⟩ := u
  replace hC1 : ∀ W : World, Below w.heap.size w W → Calls Try.prog 19 #[.slice A1 r.length c1, .slice D1 r.length d1] W fun e w' => e = .returned (.bool true) ∧ Below W.heap.size W w' := hC1
  replace hC2 : ∀ W : World, Below w.heap.size w W → Calls Try.prog 20 #[.slice A2 g.length c2, .slice D2 g.length d2] W fun e w' => e = .returned (.bool true) ∧ Below W.heap.size W w' := hC2
  replace hC3 : ∀ W : World, Below w.heap.size w W → Calls Try.prog 21 #[.slice A3 p.length c3, .slice D3 p.length d3] W fun e w' => e = .returned (.bool true) ∧ Below W.heap.size W w' := hC3
  clear hK1 hK2 hK3 hJ1 hJ2 hJ3 hw
  show Calls Try.prog 8 #[.agg #[.slice A1 r.length c1, .slice A2 g.length c2, .slice A3 p.length c3], .agg #[.slice D1 r.length d1, .slice D2 g.length d2, .slice D3 p.length d3]] w _
  have hbb : Below w.heap.size w w := Below.refl _ _
  have hzz := hbb.size
  go_enter Try.func8, Try.ntmps8
  go_wp2_with (first
    | (go_at_call 21; refine (hC3 _ (by repeat (first | exact hbb | refine Below.drew ?_ | refine Below.setCell ?_ (by (try simp); try omega) _ | refine Below.alloc ?_ (by (try simp); try omega) _))).mono ?_; rintro e w3 ⟨rfl, hb3⟩; have hbb := X.grow (w := w) (by repeat (first | exact hbb | refine Below.drew ?_ | refine Below.setCell ?_ (by (try simp); try omega) _ | refine Below.alloc ?_ (by (try simp); try omega) _)) hb3)
    | (go_at_call 20; refine (hC2 _ (by repeat (first | exact hbb | refine Below.drew ?_ | refine Below.setCell ?_ (by (try simp); try omega) _ | refine Below.alloc ?_ (by (try simp); try omega) _))).mono ?_; rintro e w2 ⟨rfl, hb2⟩; have hbb := X.grow (w := w) (by repeat (first | exact hbb | refine Below.drew ?_ | refine Below.setCell ?_ (by (try simp); try omega) _ | refine Below.alloc ?_ (by (try simp); try omega) _)) hb2; have hx := hx.kept hb2; have hy := hy.kept hb2; obtain ⟨x0, x1, x2⟩ := Blk.c3 hx; obtain ⟨y0, y1, y2⟩ := Blk.c3 hy)
    | (go_at_call 19; refine (hC1 _ (by repeat (first | exact hbb | refine Below.drew ?_ | refine Below.setCell ?_ (by (try simp); try omega) _ | refine Below.alloc ?_ (by (try simp); try omega) _))).mono ?_; rintro e w1 ⟨rfl, hb1⟩; have hbb := X.grow (w := w) (by repeat (first | exact hbb | refine Below.drew ?_ | refine Below.setCell ?_ (by (try simp); try omega) _ | refine Below.alloc ?_ (by (try simp); try omega) _)) hb1; have hx : Blk w1 w.heap.size 31 #[.slice A1 r.length c1, .slice A2 g.length c2, .slice A3 p.length c3] := ((Blk.new _ _ _).alloc _).kept hb1; have hy : Blk w1 (w.heap.size + 1) 31 #[.slice D1 r.length d1, .slice D2 g.length d2, .slice D3 p.length d3] := (Blk.new' (by simp)).kept hb1; obtain ⟨x0, x1, x2⟩ := Blk.c3 hx; obtain ⟨y0, y1, y2⟩ := Blk.c3 hy))
  go_ret
  exact ⟨rfl, by repeat (first | exact hbb | refine Below.drew ?_ | refine Below.setCell ?_ (by (try simp); try omega) _ | refine Below.alloc ?_ (by (try simp); try omega) _)⟩
end Go.Proofs.Ytljblaglfooclaa
