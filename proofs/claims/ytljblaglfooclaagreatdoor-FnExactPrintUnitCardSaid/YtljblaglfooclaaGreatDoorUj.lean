/- Proved here: what PrintUnit of the reference returns. Condition: the unit lies in memory; its size within the limit. -/
import Derived.Test.YtljblaglfooclaaGreatDoorUp
namespace Go.Proofs.YtljblaglfooclaaGreatDoor
open Go.RowKit

set_option maxRecDepth 20000 in
set_option maxHeartbeats 16000000 in
theorem specPrintUnit (u : Un) (s1 s2 s3 : Value) (P : Nat → Prop) (w : World) (hK : Urd K2 w P u s1 s2 s3) (hP : ∀ b, P b → b < w.heap.size) (hw : u.Wf) (hs : u.siz ≤ 1048576) :
    Calls Tryz.prog 5 #[.agg #[s1, s2, s3]] w fun e w' => e = .returned (.tuple #[.string (prOutU u).1, .bool (prOutU u).2]) ∧ Below w.heap.size w w' := by
  have hV : ∀ W : World, Below w.heap.size w W → Calls Tryz.prog 12 #[.agg #[s1, s2, s3]] W fun e w' => e = .returned (.bool (vldU u)) ∧ Below W.heap.size W w' := fun W hW => specValidUnit u s1 s2 s3 P W (hK.kd.below hW hP) (fun b hb => Nat.lt_of_lt_of_le (hP b hb) hW.size) hw hs
  obtain ⟨hK1, hK2, hK3⟩ := hK
  obtain ⟨A1, d1, rfl⟩ := hK1.form
  obtain ⟨A2, d2, rfl⟩ := hK2.form
  obtain ⟨A3, d3, rfl⟩ := hK3.form
  obtain ⟨r, g, p⟩ := u
  replace hK1 : Rts w P r (.slice A1 r.length d1) := hK1
  replace hK2 : Sr w P (.slice A2 g.length d2) g := hK2
  replace hK3 : Pds K2 w P p (.slice A3 p.length d3) := hK3
  clear hw hs
  show Calls Tryz.prog 5 #[.agg #[.slice A1 r.length d1, .slice A2 g.length d2, .slice A3 p.length d3]] w fun e w' => e = .returned (.tuple #[.string (prOutU ⟨r, g, p⟩).1, .bool (prOutU ⟨r, g, p⟩).2]) ∧ Below w.heap.size w w'
  replace hV : ∀ W : World, Below w.heap.size w W → Calls Tryz.prog 12 #[.agg #[.slice A1 r.length d1, .slice A2 g.length d2, .slice A3 p.length d3]] W fun e w' => e = .returned (.bool (vldU ⟨r, g, p⟩)) ∧ Below W.heap.size W w' := hV
  have hbb : Below w.heap.size w w := Below.refl _ _
  have hzz := hbb.size
  cases hv : vldU ⟨r, g, p⟩
  · have HN := Lib.hid (show prOutU ⟨r, g, p⟩ = (⟨#[]⟩, false) from if_neg fun h => by rw [hv] at h; exact absurd h.1 (by decide))
    rw [HN.out]
    rw [hv] at hV
    clear HN hv
    go_enter Tryz.func5, Tryz.ntmps5
    go_wp2_with (go_at_call 12; refine (hV _ (by repeat (first | exact hbb | refine Below.drew ?_ | refine Below.setCell ?_ (by (try simp); try omega) _ | refine Below.alloc ?_ (by (try simp); try omega) _))).mono ?_; rintro e w1 ⟨rfl, hb1⟩; have hbb := X.grow (w := w) (by repeat (first | exact hbb | refine Below.drew ?_ | refine Below.setCell ?_ (by (try simp); try omega) _ | refine Below.alloc ?_ (by (try simp); try omega) _)) hb1; have hzz := hbb.size; have hB : Blk w1 w.heap.size 33 #[.slice A1 r.length d1, .slice A2 g.length d2, .slice A3 p.length d3] := (Blk.new _ _ _).kept hb1; obtain ⟨a0, a1, a2⟩ := Blk.c3 hB)
    go_ret2
    exact ⟨rfl, by repeat (first | exact hbb | refine Below.drew ?_ | refine Below.setCell ?_ (by (try simp); try omega) _ | refine Below.alloc ?_ (by (try simp); try omega) _)⟩
  · obtain ⟨z1, z2, z3, z4, z5, z6⟩ := vldU_parts hv
    have HO := Lib.hid (show (∀ _ : (unT ⟨r, g, p⟩).size ≤ 6000, prOutU ⟨r, g, p⟩ = (unT ⟨r, g, p⟩, true)) ∧ (∀ _ : ¬ (unT ⟨r, g, p⟩).size ≤ 6000, prOutU ⟨r, g, p⟩ = (⟨#[]⟩, false)) from ⟨fun h => if_pos ⟨hv, h⟩, fun h => if_neg fun h2 => h h2.2⟩)
    rw [hv] at hV
    have hUT : Hid (unT ⟨r, g, p⟩ = p.foldl pdS (glS (r.foldl recS ⟨#[]⟩) g)) := Lib.hid rfl
    generalize prOutU ⟨r, g, p⟩ = R at HO ⊢
    generalize unT ⟨r, g, p⟩ = UT at HO hUT
    clear hv
    have hG : ∀ W : World, Below w.heap.size w W → Calls Tryz.prog 13 #[.slice A2 g.length d2, .string ⟨#[44, 32]⟩] W fun e w' => e = .returned (.string (jC g)) ∧ Below W.heap.size W w' := specJ hK2 hP z4 z2
    have hGz := jC_sz z4 z2
    obtain ⟨JG, hJG⟩ : ∃ J, J = jC g := ⟨_, rfl⟩
    rw [← hJG] at hG hGz
    have HJG := Lib.hid hJG
    clear hJG hK2 z4
    go_enter Tryz.func5, Tryz.ntmps5
    go_wp2_with (go_at_call 12; refine (hV _ (by repeat (first | exact hbb | refine Below.drew ?_ | refine Below.setCell ?_ (by (try simp); try omega) _ | refine Below.alloc ?_ (by (try simp); try omega) _))).mono ?_; rintro e w1 ⟨rfl, hb1⟩; have hbb := X.grow (w := w) (by repeat (first | exact hbb | refine Below.drew ?_ | refine Below.setCell ?_ (by (try simp); try omega) _ | refine Below.alloc ?_ (by (try simp); try omega) _)) hb1; have hzz := hbb.size; have hB : Blk w1 w.heap.size 33 #[.slice A1 r.length d1, .slice A2 g.length d2, .slice A3 p.length d3] := (Blk.new _ _ _).kept hb1; obtain ⟨a0, a1, a2⟩ := Blk.c3 hB)
    clear hV
    go_loopw [4, 5] (fun v i wr => ∃ (j : Nat) (S : ByteArray), i = .int .i64 j ∧ v = .string S ∧ Hid (S = (r.take j).foldl recS ⟨#[]⟩) ∧ S.size ≤ 2000000 * j ∧ j ≤ r.length ∧ Below w.heap.size w wr ∧ Blk wr w.heap.size 33 #[.slice A1 r.length d1, .slice A2 g.length d2, .slice A3 p.length d3]) (fun _ i _ => r.length - (intOf i).toNat)
    case atStart => exact ⟨0, ⟨#[]⟩, rfl, rfl, Lib.hid rfl, Nat.zero_le _, by omega, hbb, hB⟩
    case round =>
      clear a0 a1 a2 hbb hzz hB
      obtain ⟨j, S, rfl, rfl, HS, hSz, hj, hb, hB⟩ := hrel
      have hsz := hb.size
      obtain ⟨a0, a1, a2⟩ := Blk.c3 hB
      by_cases hlt : j < r.length
      · have i1 : (j : Int) < (r.length : Int) := by omega
        obtain ⟨b, o, x1, rfl, hPb, hs1, c0, c1, c2⟩ := Rts.at_ (hK1.below hb hP) hlt
        obtain ⟨y1, y2, y3⟩ := vldR_parts (z5 j hlt)
        have hJz := jC_sz y3 y2
        have hJ := specJ hs1 (fun b hb => Nat.lt_of_lt_of_le (hP b hb) hsz) y3 y2
        obtain ⟨X1, e1, rfl⟩ := hs1.form
        have hf := fold_take recS ⟨#[]⟩ r hlt
        rw [← HS.out] at hf
        have HN := Lib.hid (show S ++ ⟨#[114, 101, 99, 111, 114, 100, 32]⟩ ++ r[j].t ++ ⟨#[40]⟩ ++ jC r[j].f ++ ⟨#[41, 10]⟩ = (r.take (j + 1)).foldl recS ⟨#[]⟩ by rw [hf]; unfold recS recT; simp only [ByteArray.append_assoc])
        generalize jC r[j].f = J at hJ hJz HN
        have HJ : Hid (∀ W : World, Below wr.heap.size wr W → Calls Tryz.prog 13 #[.slice X1 r[j].f.length e1, .string ⟨#[44, 32]⟩] W fun e w' => e = .returned (.string J) ∧ Below W.heap.size W w') := Lib.hid hJ
        clear hJ hs1 y2 y3 hf HS
        have m0 : ¬ 9223372036854775807 < S.size + 7 := by omega
        have m1 : ¬ 9223372036854775807 < S.size + 7 + r[j].t.size := by omega
        have m2 : ¬ 9223372036854775807 < S.size + 7 + r[j].t.size + 1 := by omega
        have m3 : ¬ 9223372036854775807 < S.size + 7 + r[j].t.size + 1 + J.size := by omega
        have m4 : ¬ 9223372036854775807 < S.size + 7 + r[j].t.size + 1 + J.size + 2 := by omega
        have hSn : (S ++ ⟨#[114, 101, 99, 111, 114, 100, 32]⟩ ++ r[j].t ++ ⟨#[40]⟩ ++ J ++ ⟨#[41, 10]⟩).size ≤ 2000000 * (j + 1) := by simp only [ByteArray.size_append]; show S.size + 7 + r[j].t.size + 1 + J.size + 2 ≤ _; omega
        go_upto_region 7 with fail
        have hbb : Below wr.heap.size wr wr := Below.refl _ _
        have HU := Lib.hid (And.intro a0 (And.intro c0 c1))
        have hzz := hbb.size
        go_region_held3 (fun w' => w'.cell? ⟨w.heap.size, 0, none⟩ = some (.slice (some ⟨b, o, none⟩) r.length d1) ∧ w'.cell? ⟨b, o + j * 3, none⟩ = some (.string r[j].t) ∧ w'.cell? ⟨b, o + j * 3 + 1, none⟩ = some (.slice X1 r[j].f.length e1)) ((refine keep3 HU.out ?_; repeat (first | exact Below.refl _ _ | refine Below.drew ?_ | refine Below.alloc ?_ (by (try simp); try omega) _ | refine Below.trans ?_ (hb3.mono (by (try simp); try omega)) | refine Below.trans ?_ (hb4.mono (by (try simp); try omega)) | refine Below.trans ?_ (hb5.mono (by (try simp); try omega)))))
          (first | (go_at_call 13; refine (HJ.out _ (by repeat (first | exact hbb | refine Below.drew ?_ | refine Below.setCell ?_ (by (try simp); try omega) _ | refine Below.alloc ?_ (by (try simp); try omega) _))).mono ?_; rintro e w3 ⟨rfl, hb3⟩; have hbb := X.grow (w := wr) (by repeat (first | exact hbb | refine Below.drew ?_ | refine Below.setCell ?_ (by (try simp); try omega) _ | refine Below.alloc ?_ (by (try simp); try omega) _)) hb3; have hzz := hbb.size; have hs3 := hb3.size; (try simp at hs3)))
        all_goals
          go_wp2_with fail
          go_roundw
          case rel => exact ⟨j + 1, _, by go_num, rfl, HN, hSn, by omega, hb.trans (Below.mono (by repeat (first | exact hbb | refine Below.drew ?_ | refine Below.setCell ?_ (by (try simp); try omega) _ | refine Below.alloc ?_ (by (try simp); try omega) _)) hsz), hB.kept (by repeat (first | exact hbb | refine Below.drew ?_ | refine Below.setCell ?_ (by (try simp); try omega) _ | refine Below.alloc ?_ (by (try simp); try omega) _))⟩
          case measure => simp [intOf]; omega
      · obtain rfl : j = r.length := by omega
        rw [List.take_length] at HS
        have hS0 : S.size ≤ 16000000 := by omega
        clear hK1 z5 hSz
        have hbb := hb
        by_cases hg : 0 < g.length
        · have ig : (0 : Int) < (g.length : Int) := by omega
          have HS2 := Lib.hid (show S ++ ⟨#[103, 108, 111, 98, 97, 108, 32]⟩ ++ JG ++ ⟨#[10]⟩ = glS (r.foldl recS ⟨#[]⟩) g by rw [← HS.out, HJG.out]; unfold glS glT; rw [if_pos hg]; simp only [ByteArray.append_assoc])
          have m0 : ¬ 9223372036854775807 < S.size + 7 := by omega
          have m1 : ¬ 9223372036854775807 < S.size + 7 + JG.size := by omega
          have m2 : ¬ 9223372036854775807 < S.size + 7 + JG.size + 1 := by omega
          have hS2 : (S ++ ⟨#[103, 108, 111, 98, 97, 108, 32]⟩ ++ JG ++ ⟨#[10]⟩).size ≤ 20000000 := by simp only [ByteArray.size_append]; show S.size + 7 + JG.size + 1 ≤ _; omega
          clear HS hg
          go_wp2_with (go_at_call 13; refine (hG _ hbb).mono ?_; rintro e w1 ⟨rfl, hb1⟩; have hbb := X.grow (w := w) (by repeat (first | exact hbb | refine Below.drew ?_ | refine Below.setCell ?_ (by (try simp); try omega) _ | refine Below.alloc ?_ (by (try simp); try omega) _)) hb1; have hzz := hbb.size; have hB := hB.kept hb1; obtain ⟨a0, a1, a2⟩ := Blk.c3 hB)
          clear m0 m1 m2 ig hG
          generalize S ++ ⟨#[103, 108, 111, 98, 97, 108, 32]⟩ ++ JG ++ ⟨#[10]⟩ = S2 at hS2 HS2
          clear hS0 HJG hGz hsz hb hj
          go_loopw [4, 6] (fun v i wr => ∃ (k : Nat) (T : ByteArray), i = .int .i64 k ∧ v = .string T ∧ Hid (T = (p.take k).foldl pdS (glS (r.foldl recS ⟨#[]⟩) g)) ∧ T.size ≤ 20000000 + 300000000 * k ∧ k ≤ p.length ∧ Below w.heap.size w wr ∧ Blk wr w.heap.size 33 #[.slice A1 r.length d1, .slice A2 g.length d2, .slice A3 p.length d3]) (fun _ i _ => p.length - (intOf i).toNat)
          case atStart => exact ⟨0, _, rfl, rfl, Lib.hid HS2.out, by omega, by omega, hbb, hB⟩
          case round =>
            clear a0 a1 a2 hbb hzz hB HS2 hS2
            obtain ⟨k, T, rfl, rfl, HT, hTz, hk, hb, hB⟩ := hrel
            obtain ⟨wq, rfl⟩ : ∃ x, x = wr := ⟨_, rfl⟩
            have hsz := hb.size
            obtain ⟨a0, a1, a2⟩ := Blk.c3 hB
            by_cases hlt : k < p.length
            · have i1 : (k : Int) < (p.length : Int) := by omega
              obtain ⟨b, o, x1, x2, x3, rfl, hPb, hs1, hs2, hs3, c0, c1, c2, c3, c4, c5, c6, c7, c8⟩ := Pds.at_ (hK3.keep (K' := K2) (fun h => ⟨h.1.below hb hP, h.2.below hb hP⟩) (fun _ hp => hb.cell (hP _ hp)) fun _ h => h) hlt
              obtain ⟨y1, ⟨y2, y3⟩, ⟨y4, y5⟩, y6, y7⟩ := vldP_parts (z6 k hlt)
              have hJz := jC_sz y3 y2
              have hJ := specJ hs1 (fun b hb => Nat.lt_of_lt_of_le (hP b hb) hsz) y3 y2
              have hQz := jC_sz y5 y4
              have hQ := specJ hs2 (fun b hb => Nat.lt_of_lt_of_le (hP b hb) hsz) y5 y4
              have hKc := hs3.1
              have hkl := X.len_le_cntL p[k].x.r
              obtain ⟨X1, e1, rfl⟩ := hs1.form
              obtain ⟨X2, e2, rfl⟩ := hs2.form
              obtain ⟨X3, e3, rfl⟩ := hKc.form
              have hf := fold_take pdS (glS (r.foldl recS ⟨#[]⟩) g) p hlt
              rw [← HT.out] at hf
              have HF := Lib.hid hf
              clear hf HT hs1 hs2 hs3 y2 y3
              have HH := Lib.hid (show T ++ ⟨#[112, 114, 111, 99, 101, 100, 117, 114, 101, 32]⟩ ++ p[k].t ++ ⟨#[40]⟩ ++ jC p[k].p ++ ⟨#[41, 10]⟩ = T ++ hdT p[k] by unfold hdT; simp only [ByteArray.append_assoc])
              generalize jC p[k].p = J at hJ hJz HH
              have HJ : Hid (∀ W : World, Below wq.heap.size wq W → Calls Tryz.prog 13 #[.slice X1 p[k].p.length e1, .string ⟨#[44, 32]⟩] W fun e w' => e = .returned (.string J) ∧ Below W.heap.size W w') := Lib.hid hJ
              have HQ : Hid (∀ W : World, Below wq.heap.size wq W → Calls Tryz.prog 13 #[.slice X2 p[k].q.length e2, .string ⟨#[44, 32]⟩] W fun e w' => e = .returned (.string (jC p[k].q)) ∧ Below W.heap.size W w') := Lib.hid hQ
              clear hJ hQ
              have m0 : ¬ 9223372036854775807 < T.size + 10 := by omega
              have m1 : ¬ 9223372036854775807 < T.size + 10 + p[k].t.size := by omega
              have m2 : ¬ 9223372036854775807 < T.size + 10 + p[k].t.size + 1 := by omega
              have m3 : ¬ 9223372036854775807 < T.size + 10 + p[k].t.size + 1 + J.size := by omega
              have m4 : ¬ 9223372036854775807 < T.size + 10 + p[k].t.size + 1 + J.size + 2 := by omega
              have hHz : (T ++ ⟨#[112, 114, 111, 99, 101, 100, 117, 114, 101, 32]⟩ ++ p[k].t ++ ⟨#[40]⟩ ++ J ++ ⟨#[41, 10]⟩).size ≤ T.size + 2000 := by simp only [ByteArray.size_append]; show T.size + 10 + p[k].t.size + 1 + J.size + 2 ≤ _; omega
              go_upto_region 14 with fail
              generalize hW1 : wq.alloc (.cells #[.string p[k].t, .slice X1 p[k].p.length e1, .slice X2 p[k].q.length e2, .int .i64 p[k].x.k, .string p[k].x.t, .int .i64 p[k].x.n, .int .i64 p[k].x.l, .slice X3 p[k].x.r.length e3, .int .i64 p[k].l] 48) = w1
              have hbb : Below wq.heap.size wq w1 := by rw [← hW1]; repeat (first | exact Below.refl _ _ | refine Below.drew ?_ | refine Below.setCell ?_ (by (try simp); try omega) _ | refine Below.alloc ?_ (by (try simp); try omega) _)
              have hv : Blk w1 wq.heap.size 48 #[.string p[k].t, .slice X1 p[k].p.length e1, .slice X2 p[k].q.length e2, .int .i64 p[k].x.k, .string p[k].x.t, .int .i64 p[k].x.n, .int .i64 p[k].x.l, .slice X3 p[k].x.r.length e3, .int .i64 p[k].l] := by rw [← hW1]; exact Blk.new _ _ _
              clear hW1 c0 c1 c2 c3 c4 c5 c6 c7 c8
              obtain ⟨v0, v1, v2, v3, v4, v5, v6, v7, v8⟩ := Blk.c9 hv
              have HU := Lib.hid (And.intro v0 v1)
              have hzz := hbb.size
              go_region_held3 (fun w' => w'.cell? ⟨wq.heap.size, 0, none⟩ = some (.string p[k].t) ∧ w'.cell? ⟨wq.heap.size, 1, none⟩ = some (.slice X1 p[k].p.length e1)) ((refine keep2 HU.out ?_; repeat (first | exact Below.refl _ _ | refine Below.drew ?_ | refine Below.alloc ?_ (by (try simp); try omega) _ | refine Below.trans ?_ (hb3.mono (by (try simp); try omega)) | refine Below.trans ?_ (hb4.mono (by (try simp); try omega)) | refine Below.trans ?_ (hb5.mono (by (try simp); try omega)))))
                (first | (go_at_call 13; refine (HJ.out _ (by repeat (first | exact hbb | refine Below.drew ?_ | refine Below.setCell ?_ (by (try simp); try omega) _ | refine Below.alloc ?_ (by (try simp); try omega) _))).mono ?_; rintro e w3 ⟨rfl, hb3⟩; have hx3 : Below w1.heap.size w1 w3 := Below.trans (by repeat (first | exact Below.refl _ _ | refine Below.drew ?_ | refine Below.setCell ?_ (by (try simp); try omega) _ | refine Below.alloc ?_ (by (try simp); try omega) _)) (hb3.mono (by (try simp); try omega)); have hv := hv.kept hx3; obtain ⟨n0, n1, n2, n3, n4, n5, n6, n7, n8⟩ := Blk.c9 hv; have hbb := X.grow (w := wq) (by repeat (first | exact hbb | refine Below.drew ?_ | refine Below.setCell ?_ (by (try simp); try omega) _ | refine Below.alloc ?_ (by (try simp); try omega) _)) hb3; have hzz := hbb.size; have hs3 := hb3.size; (try simp at hs3)))
              all_goals
                clear HJ hJz m0 m1 m2 m3 m4 HU v0 v1 v2 v3 v4 v5 v6 v7 v8
                generalize T ++ ⟨#[112, 114, 111, 99, 101, 100, 117, 114, 101, 32]⟩ ++ p[k].t ++ ⟨#[40]⟩ ++ J ++ ⟨#[41, 10]⟩ = TH at HH hHz
                by_cases hq : 0 < p[k].q.length
                · have iq : (0 : Int) < (p[k].q.length : Int) := by omega
                  obtain ⟨JQ, hJQ⟩ : ∃ J, J = jC p[k].q := ⟨_, rfl⟩
                  have HL := Lib.hid (show TH ++ ⟨#[108, 111, 99, 97, 108, 32]⟩ ++ JQ ++ ⟨#[59, 10]⟩ = hloS T p[k] by unfold hloS; rw [if_pos hq, ← HH.out, hJQ]; unfold loT; simp only [ByteArray.append_assoc])
                  have HQ2 : Hid (∀ W : World, Below wq.heap.size wq W → Calls Tryz.prog 13 #[.slice X2 p[k].q.length e2, .string ⟨#[44, 32]⟩] W fun e w' => e = .returned (.string JQ) ∧ Below W.heap.size W w') := Lib.hid (by rw [hJQ]; exact HQ.out)
                  rw [← hJQ] at hQz
                  have m0 : ¬ 9223372036854775807 < TH.size + 6 := by omega
                  have m1 : ¬ 9223372036854775807 < TH.size + 6 + JQ.size := by omega
                  have m2 : ¬ 9223372036854775807 < TH.size + 6 + JQ.size + 2 := by omega
                  have hLz : (TH ++ ⟨#[108, 111, 99, 97, 108, 32]⟩ ++ JQ ++ ⟨#[59, 10]⟩).size ≤ T.size + 4000 := by simp only [ByteArray.size_append]; show TH.size + 6 + JQ.size + 2 ≤ _; omega
                  clear hJQ HH hHz HQ hq
                  go_wp2_with (go_at_call 13; refine (HQ2.out _ (by repeat (first | exact hbb | refine Below.drew ?_ | refine Below.setCell ?_ (by (try simp); try omega) _ | refine Below.alloc ?_ (by (try simp); try omega) _))).mono ?_; rintro e w4 ⟨rfl, hb4⟩; have hv := hv.kept (X.grow (w := w3) (by repeat (first | exact Below.refl _ _ | refine Below.drew ?_ | refine Below.setCell ?_ (by (try simp); try omega) _ | refine Below.alloc ?_ (by (try simp); try omega) _)) hb4); obtain ⟨n0, n1, n2, n3, n4, n5, n6, n7, n8⟩ := Blk.c9 hv; have hbb := X.grow (w := wq) (by repeat (first | exact hbb | refine Below.drew ?_ | refine Below.setCell ?_ (by (try simp); try omega) _ | refine Below.alloc ?_ (by (try simp); try omega) _)) hb4; have hzz := hbb.size)
                  clear m0 m1 m2 iq HQ2 hQz
                  generalize TH ++ ⟨#[108, 111, 99, 97, 108, 32]⟩ ++ JQ ++ ⟨#[59, 10]⟩ = TL at HL hLz
                  go_loopw [4, 8] (fun v i wr => ∃ (m : Nat) (Z : ByteArray), i = .int .i64 m ∧ v = .string Z ∧ Hid (Z = (p[k].x.r.take m).foldl kiS (hloS T p[k])) ∧ Z.size ≤ T.size + 4000 + 372002 * m ∧ m ≤ p[k].x.r.length ∧ Below wq.heap.size wq wr ∧ Blk wr wq.heap.size 48 #[.string p[k].t, .slice X1 p[k].p.length e1, .slice X2 p[k].q.length e2, .int .i64 p[k].x.k, .string p[k].x.t, .int .i64 p[k].x.n, .int .i64 p[k].x.l, .slice X3 p[k].x.r.length e3, .int .i64 p[k].l]) (fun _ i _ => p[k].x.r.length - (intOf i).toNat)
                  case atStart => exact ⟨0, _, rfl, rfl, Lib.hid HL.out, by omega, by omega, by repeat (first | exact hbb | refine Below.drew ?_ | refine Below.setCell ?_ (by (try simp); try omega) _ | refine Below.alloc ?_ (by (try simp); try omega) _), hv⟩
                  case round =>
                    clear n0 n1 n2 n3 n4 n5 n6 n7 n8 hbb hzz hv HL hLz
                    obtain ⟨m, Z, rfl, rfl, HZ, hZz, hm, hbi, hv⟩ := hrel
                    have hsi := hbi.size
                    obtain ⟨n0, n1, n2, n3, n4, n5, n6, n7, n8⟩ := Blk.c9 hv
                    by_cases hlt3 : m < p[k].x.r.length
                    · have i3 : (m : Int) < (p[k].x.r.length : Int) := by omega
                      obtain ⟨b', o', s', rfl, hPb', hkid, k0, k1, k2, k3, k4⟩ := X.Kc.at_ (hKc.below hbi fun b hb => Nat.lt_of_lt_of_le (hP b hb) hsz) hlt3
                      obtain ⟨u1, u2, u3⟩ := kid_parts y7 y6 hlt3
                      have hA : ∀ W : World, Below wr.heap.size wr W → Calls Tryz.prog 14 #[X.val p[k].x.r[m] s', .int .i64 0] W fun e w' => e = .returned (.string (X.PN p[k].x.r[m])) ∧ Below W.heap.size W w' := fun W hW => specAt0 p[k].x.r[m] s' P W u1 u2 (hkid.below hW fun b hb => Nat.lt_of_lt_of_le (hP b hb) (Nat.le_trans hsz hsi)) (fun b hb => Nat.lt_of_lt_of_le (hP b hb) (Nat.le_trans (Nat.le_trans hsz hsi) hW.size)) u3
                      obtain ⟨Y1, f1, rfl⟩ := hkid.form
                      have hf := fold_take kiS (hloS T p[k]) p[k].x.r hlt3
                      rw [← HZ.out] at hf
                      have HN := Lib.hid (show Z ++ X.PN p[k].x.r[m] ++ ⟨#[59, 10]⟩ = (p[k].x.r.take (m + 1)).foldl kiS (hloS T p[k]) by rw [hf]; unfold kiS kiT; simp only [ByteArray.append_assoc])
                      generalize X.PN p[k].x.r[m] = Q at hA u3 HN
                      have HA : Hid (∀ W : World, Below wr.heap.size wr W → Calls Tryz.prog 14 #[.agg #[.int .i64 p[k].x.r[m].k, .string p[k].x.r[m].t, .int .i64 p[k].x.r[m].n, .int .i64 p[k].x.r[m].l, .slice Y1 p[k].x.r[m].r.length f1], .int .i64 0] W fun e w' => e = .returned (.string Q) ∧ Below W.heap.size W w') := Lib.hid hA
                      have m0 : ¬ 9223372036854775807 < Z.size + Q.size := by omega
                      have m1 : ¬ 9223372036854775807 < Z.size + Q.size + 2 := by omega
                      have hZn : (Z ++ Q ++ ⟨#[59, 10]⟩).size ≤ T.size + 4000 + 372002 * (m + 1) := by simp only [ByteArray.size_append]; show Z.size + Q.size + 2 ≤ _; omega
                      have hbb : Below wr.heap.size wr wr := Below.refl _ _
                      have hzz := hbb.size
                      clear hA hkid u1 u2 hf HZ
                      go_wp2_with (go_at_call 14; refine (HA.out _ (by repeat (first | exact hbb | refine Below.drew ?_ | refine Below.setCell ?_ (by (try simp); try omega) _ | refine Below.alloc ?_ (by (try simp); try omega) _))).mono ?_; rintro e w5 ⟨rfl, hb5⟩; have hbb := X.grow (w := wr) (by repeat (first | exact hbb | refine Below.drew ?_ | refine Below.setCell ?_ (by (try simp); try omega) _ | refine Below.alloc ?_ (by (try simp); try omega) _)) hb5; have hzz := hbb.size)
                      go_roundw
                      case rel => exact ⟨m + 1, _, by go_num, rfl, HN, hZn, by omega, hbi.trans (Below.mono (by repeat (first | exact hbb | refine Below.drew ?_ | refine Below.setCell ?_ (by (try simp); try omega) _ | refine Below.alloc ?_ (by (try simp); try omega) _)) hsi), hv.kept (by repeat (first | exact hbb | refine Below.drew ?_ | refine Below.setCell ?_ (by (try simp); try omega) _ | refine Below.alloc ?_ (by (try simp); try omega) _))⟩
                      case measure => simp [intOf]; omega
                    · obtain rfl : m = p[k].x.r.length := by omega
                      rw [List.take_length] at HZ
                      have HN := Lib.hid (show Z ++ ⟨#[101, 110, 100, 10]⟩ = (p.take (k + 1)).foldl pdS (glS (r.foldl recS ⟨#[]⟩) g) by rw [HF.out, HZ.out]; rfl)
                      have m0 : ¬ 9223372036854775807 < Z.size + 4 := by omega
                      have hNz : (Z ++ ⟨#[101, 110, 100, 10]⟩).size ≤ 20000000 + 300000000 * (k + 1) := by simp only [ByteArray.size_append]; show Z.size + 4 ≤ _; omega
                      clear HZ HF
                      go_wp2_with fail
                      go_roundw
                      case rel => exact ⟨k + 1, _, by go_num, rfl, HN, hNz, by omega, hb.trans (hbi.mono hsz), hB.kept hbi⟩
                      case measure => simp [intOf]; omega
                · have iq : ¬ (0 : Int) < (p[k].q.length : Int) := by omega
                  have HL := Lib.hid (show TH = hloS T p[k] by unfold hloS; rw [if_neg hq]; exact HH.out)
                  have hLz : TH.size ≤ T.size + 4000 := by omega
                  clear HH hHz HQ hq hQz
                  go_wp2_with fail
                  clear iq
                  go_loopw [4, 8] (fun v i wr => ∃ (m : Nat) (Z : ByteArray), i = .int .i64 m ∧ v = .string Z ∧ Hid (Z = (p[k].x.r.take m).foldl kiS (hloS T p[k])) ∧ Z.size ≤ T.size + 4000 + 372002 * m ∧ m ≤ p[k].x.r.length ∧ Below wq.heap.size wq wr ∧ Blk wr wq.heap.size 48 #[.string p[k].t, .slice X1 p[k].p.length e1, .slice X2 p[k].q.length e2, .int .i64 p[k].x.k, .string p[k].x.t, .int .i64 p[k].x.n, .int .i64 p[k].x.l, .slice X3 p[k].x.r.length e3, .int .i64 p[k].l]) (fun _ i _ => p[k].x.r.length - (intOf i).toNat)
                  case atStart => exact ⟨0, _, rfl, rfl, Lib.hid HL.out, by omega, by omega, by repeat (first | exact hbb | refine Below.drew ?_ | refine Below.setCell ?_ (by (try simp); try omega) _ | refine Below.alloc ?_ (by (try simp); try omega) _), hv⟩
                  case round =>
                    clear n0 n1 n2 n3 n4 n5 n6 n7 n8 hbb hzz hv HL hLz
                    obtain ⟨m, Z, rfl, rfl, HZ, hZz, hm, hbi, hv⟩ := hrel
                    have hsi := hbi.size
                    obtain ⟨n0, n1, n2, n3, n4, n5, n6, n7, n8⟩ := Blk.c9 hv
                    by_cases hlt3 : m < p[k].x.r.length
                    · have i3 : (m : Int) < (p[k].x.r.length : Int) := by omega
                      obtain ⟨b', o', s', rfl, hPb', hkid, k0, k1, k2, k3, k4⟩ := X.Kc.at_ (hKc.below hbi fun b hb => Nat.lt_of_lt_of_le (hP b hb) hsz) hlt3
                      obtain ⟨u1, u2, u3⟩ := kid_parts y7 y6 hlt3
                      have hA : ∀ W : World, Below wr.heap.size wr W → Calls Tryz.prog 14 #[X.val p[k].x.r[m] s', .int .i64 0] W fun e w' => e = .returned (.string (X.PN p[k].x.r[m])) ∧ Below W.heap.size W w' := fun W hW => specAt0 p[k].x.r[m] s' P W u1 u2 (hkid.below hW fun b hb => Nat.lt_of_lt_of_le (hP b hb) (Nat.le_trans hsz hsi)) (fun b hb => Nat.lt_of_lt_of_le (hP b hb) (Nat.le_trans (Nat.le_trans hsz hsi) hW.size)) u3
                      obtain ⟨Y1, f1, rfl⟩ := hkid.form
                      have hf := fold_take kiS (hloS T p[k]) p[k].x.r hlt3
                      rw [← HZ.out] at hf
                      have HN := Lib.hid (show Z ++ X.PN p[k].x.r[m] ++ ⟨#[59, 10]⟩ = (p[k].x.r.take (m + 1)).foldl kiS (hloS T p[k]) by rw [hf]; unfold kiS kiT; simp only [ByteArray.append_assoc])
                      generalize X.PN p[k].x.r[m] = Q at hA u3 HN
                      have HA : Hid (∀ W : World, Below wr.heap.size wr W → Calls Tryz.prog 14 #[.agg #[.int .i64 p[k].x.r[m].k, .string p[k].x.r[m].t, .int .i64 p[k].x.r[m].n, .int .i64 p[k].x.r[m].l, .slice Y1 p[k].x.r[m].r.length f1], .int .i64 0] W fun e w' => e = .returned (.string Q) ∧ Below W.heap.size W w') := Lib.hid hA
                      have m0 : ¬ 9223372036854775807 < Z.size + Q.size := by omega
                      have m1 : ¬ 9223372036854775807 < Z.size + Q.size + 2 := by omega
                      have hZn : (Z ++ Q ++ ⟨#[59, 10]⟩).size ≤ T.size + 4000 + 372002 * (m + 1) := by simp only [ByteArray.size_append]; show Z.size + Q.size + 2 ≤ _; omega
                      have hbb : Below wr.heap.size wr wr := Below.refl _ _
                      have hzz := hbb.size
                      clear hA hkid u1 u2 hf HZ
                      go_wp2_with (go_at_call 14; refine (HA.out _ (by repeat (first | exact hbb | refine Below.drew ?_ | refine Below.setCell ?_ (by (try simp); try omega) _ | refine Below.alloc ?_ (by (try simp); try omega) _))).mono ?_; rintro e w5 ⟨rfl, hb5⟩; have hbb := X.grow (w := wr) (by repeat (first | exact hbb | refine Below.drew ?_ | refine Below.setCell ?_ (by (try simp); try omega) _ | refine Below.alloc ?_ (by (try simp); try omega) _)) hb5; have hzz := hbb.size)
                      go_roundw
                      case rel => exact ⟨m + 1, _, by go_num, rfl, HN, hZn, by omega, hbi.trans (Below.mono (by repeat (first | exact hbb | refine Below.drew ?_ | refine Below.setCell ?_ (by (try simp); try omega) _ | refine Below.alloc ?_ (by (try simp); try omega) _)) hsi), hv.kept (by repeat (first | exact hbb | refine Below.drew ?_ | refine Below.setCell ?_ (by (try simp); try omega) _ | refine Below.alloc ?_ (by (try simp); try omega) _))⟩
                      case measure => simp [intOf]; omega
                    · obtain rfl : m = p[k].x.r.length := by omega
                      rw [List.take_length] at HZ
                      have HN := Lib.hid (show Z ++ ⟨#[101, 110, 100, 10]⟩ = (p.take (k + 1)).foldl pdS (glS (r.foldl recS ⟨#[]⟩) g) by rw [HF.out, HZ.out]; rfl)
                      have m0 : ¬ 9223372036854775807 < Z.size + 4 := by omega
                      have hNz : (Z ++ ⟨#[101, 110, 100, 10]⟩).size ≤ 20000000 + 300000000 * (k + 1) := by simp only [ByteArray.size_append]; show Z.size + 4 ≤ _; omega
                      clear HZ HF
                      go_wp2_with fail
                      go_roundw
                      case rel => exact ⟨k + 1, _, by go_num, rfl, HN, hNz, by omega, hb.trans (hbi.mono hsz), hB.kept hbi⟩
                      case measure => simp [intOf]; omega
            · obtain rfl : k = p.length := by omega
              rw [List.take_length, ← hUT.out] at HT
              obtain rfl := HT.out
              by_cases h6 : T.size ≤ 6000
              · obtain rfl := HO.out.1 h6
                have i6 : ¬ (6000 : Int) < (T.size : Int) := by omega
                clear HO hUT
                go_wp2_with fail
                go_ret2
                exact ⟨rfl, hb⟩
              · obtain rfl := HO.out.2 h6
                have i6 : (6000 : Int) < (T.size : Int) := by omega
                clear HO hUT
                go_wp2_with fail
                go_ret2
                exact ⟨rfl, hb⟩
        · have ig : ¬ (0 : Int) < (g.length : Int) := by omega
          have HS2 := Lib.hid (show S = glS (r.foldl recS ⟨#[]⟩) g by rw [← HS.out]; unfold glS; rw [if_neg hg])
          have hS2 : S.size ≤ 20000000 := by omega
          clear HS hg
          go_wp2_with fail
          clear ig hG
          have hzz := hbb.size
          clear hS0 HJG hGz hsz hb hj
          go_loopw [4, 6] (fun v i wr => ∃ (k : Nat) (T : ByteArray), i = .int .i64 k ∧ v = .string T ∧ Hid (T = (p.take k).foldl pdS (glS (r.foldl recS ⟨#[]⟩) g)) ∧ T.size ≤ 20000000 + 300000000 * k ∧ k ≤ p.length ∧ Below w.heap.size w wr ∧ Blk wr w.heap.size 33 #[.slice A1 r.length d1, .slice A2 g.length d2, .slice A3 p.length d3]) (fun _ i _ => p.length - (intOf i).toNat)
          case atStart => exact ⟨0, _, rfl, rfl, Lib.hid HS2.out, by omega, by omega, hbb, hB⟩
          case round =>
            clear a0 a1 a2 hbb hzz hB HS2 hS2
            obtain ⟨k, T, rfl, rfl, HT, hTz, hk, hb, hB⟩ := hrel
            obtain ⟨wq, rfl⟩ : ∃ x, x = wr := ⟨_, rfl⟩
            have hsz := hb.size
            obtain ⟨a0, a1, a2⟩ := Blk.c3 hB
            by_cases hlt : k < p.length
            · have i1 : (k : Int) < (p.length : Int) := by omega
              obtain ⟨b, o, x1, x2, x3, rfl, hPb, hs1, hs2, hs3, c0, c1, c2, c3, c4, c5, c6, c7, c8⟩ := Pds.at_ (hK3.keep (K' := K2) (fun h => ⟨h.1.below hb hP, h.2.below hb hP⟩) (fun _ hp => hb.cell (hP _ hp)) fun _ h => h) hlt
              obtain ⟨y1, ⟨y2, y3⟩, ⟨y4, y5⟩, y6, y7⟩ := vldP_parts (z6 k hlt)
              have hJz := jC_sz y3 y2
              have hJ := specJ hs1 (fun b hb => Nat.lt_of_lt_of_le (hP b hb) hsz) y3 y2
              have hQz := jC_sz y5 y4
              have hQ := specJ hs2 (fun b hb => Nat.lt_of_lt_of_le (hP b hb) hsz) y5 y4
              have hKc := hs3.1
              have hkl := X.len_le_cntL p[k].x.r
              obtain ⟨X1, e1, rfl⟩ := hs1.form
              obtain ⟨X2, e2, rfl⟩ := hs2.form
              obtain ⟨X3, e3, rfl⟩ := hKc.form
              have hf := fold_take pdS (glS (r.foldl recS ⟨#[]⟩) g) p hlt
              rw [← HT.out] at hf
              have HF := Lib.hid hf
              clear hf HT hs1 hs2 hs3 y2 y3
              have HH := Lib.hid (show T ++ ⟨#[112, 114, 111, 99, 101, 100, 117, 114, 101, 32]⟩ ++ p[k].t ++ ⟨#[40]⟩ ++ jC p[k].p ++ ⟨#[41, 10]⟩ = T ++ hdT p[k] by unfold hdT; simp only [ByteArray.append_assoc])
              generalize jC p[k].p = J at hJ hJz HH
              have HJ : Hid (∀ W : World, Below wq.heap.size wq W → Calls Tryz.prog 13 #[.slice X1 p[k].p.length e1, .string ⟨#[44, 32]⟩] W fun e w' => e = .returned (.string J) ∧ Below W.heap.size W w') := Lib.hid hJ
              have HQ : Hid (∀ W : World, Below wq.heap.size wq W → Calls Tryz.prog 13 #[.slice X2 p[k].q.length e2, .string ⟨#[44, 32]⟩] W fun e w' => e = .returned (.string (jC p[k].q)) ∧ Below W.heap.size W w') := Lib.hid hQ
              clear hJ hQ
              have m0 : ¬ 9223372036854775807 < T.size + 10 := by omega
              have m1 : ¬ 9223372036854775807 < T.size + 10 + p[k].t.size := by omega
              have m2 : ¬ 9223372036854775807 < T.size + 10 + p[k].t.size + 1 := by omega
              have m3 : ¬ 9223372036854775807 < T.size + 10 + p[k].t.size + 1 + J.size := by omega
              have m4 : ¬ 9223372036854775807 < T.size + 10 + p[k].t.size + 1 + J.size + 2 := by omega
              have hHz : (T ++ ⟨#[112, 114, 111, 99, 101, 100, 117, 114, 101, 32]⟩ ++ p[k].t ++ ⟨#[40]⟩ ++ J ++ ⟨#[41, 10]⟩).size ≤ T.size + 2000 := by simp only [ByteArray.size_append]; show T.size + 10 + p[k].t.size + 1 + J.size + 2 ≤ _; omega
              go_upto_region 14 with fail
              generalize hW1 : wq.alloc (.cells #[.string p[k].t, .slice X1 p[k].p.length e1, .slice X2 p[k].q.length e2, .int .i64 p[k].x.k, .string p[k].x.t, .int .i64 p[k].x.n, .int .i64 p[k].x.l, .slice X3 p[k].x.r.length e3, .int .i64 p[k].l] 48) = w1
              have hbb : Below wq.heap.size wq w1 := by rw [← hW1]; repeat (first | exact Below.refl _ _ | refine Below.drew ?_ | refine Below.setCell ?_ (by (try simp); try omega) _ | refine Below.alloc ?_ (by (try simp); try omega) _)
              have hv : Blk w1 wq.heap.size 48 #[.string p[k].t, .slice X1 p[k].p.length e1, .slice X2 p[k].q.length e2, .int .i64 p[k].x.k, .string p[k].x.t, .int .i64 p[k].x.n, .int .i64 p[k].x.l, .slice X3 p[k].x.r.length e3, .int .i64 p[k].l] := by rw [← hW1]; exact Blk.new _ _ _
              clear hW1 c0 c1 c2 c3 c4 c5 c6 c7 c8
              obtain ⟨v0, v1, v2, v3, v4, v5, v6, v7, v8⟩ := Blk.c9 hv
              have HU := Lib.hid (And.intro v0 v1)
              have hzz := hbb.size
              go_region_held3 (fun w' => w'.cell? ⟨wq.heap.size, 0, none⟩ = some (.string p[k].t) ∧ w'.cell? ⟨wq.heap.size, 1, none⟩ = some (.slice X1 p[k].p.length e1)) ((refine keep2 HU.out ?_; repeat (first | exact Below.refl _ _ | refine Below.drew ?_ | refine Below.alloc ?_ (by (try simp); try omega) _ | refine Below.trans ?_ (hb3.mono (by (try simp); try omega)) | refine Below.trans ?_ (hb4.mono (by (try simp); try omega)) | refine Below.trans ?_ (hb5.mono (by (try simp); try omega)))))
                (first | (go_at_call 13; refine (HJ.out _ (by repeat (first | exact hbb | refine Below.drew ?_ | refine Below.setCell ?_ (by (try simp); try omega) _ | refine Below.alloc ?_ (by (try simp); try omega) _))).mono ?_; rintro e w3 ⟨rfl, hb3⟩; have hx3 : Below w1.heap.size w1 w3 := Below.trans (by repeat (first | exact Below.refl _ _ | refine Below.drew ?_ | refine Below.setCell ?_ (by (try simp); try omega) _ | refine Below.alloc ?_ (by (try simp); try omega) _)) (hb3.mono (by (try simp); try omega)); have hv := hv.kept hx3; obtain ⟨n0, n1, n2, n3, n4, n5, n6, n7, n8⟩ := Blk.c9 hv; have hbb := X.grow (w := wq) (by repeat (first | exact hbb | refine Below.drew ?_ | refine Below.setCell ?_ (by (try simp); try omega) _ | refine Below.alloc ?_ (by (try simp); try omega) _)) hb3; have hzz := hbb.size; have hs3 := hb3.size; (try simp at hs3)))
              all_goals
                clear HJ hJz m0 m1 m2 m3 m4 HU v0 v1 v2 v3 v4 v5 v6 v7 v8
                generalize T ++ ⟨#[112, 114, 111, 99, 101, 100, 117, 114, 101, 32]⟩ ++ p[k].t ++ ⟨#[40]⟩ ++ J ++ ⟨#[41, 10]⟩ = TH at HH hHz
                by_cases hq : 0 < p[k].q.length
                · have iq : (0 : Int) < (p[k].q.length : Int) := by omega
                  obtain ⟨JQ, hJQ⟩ : ∃ J, J = jC p[k].q := ⟨_, rfl⟩
                  have HL := Lib.hid (show TH ++ ⟨#[108, 111, 99, 97, 108, 32]⟩ ++ JQ ++ ⟨#[59, 10]⟩ = hloS T p[k] by unfold hloS; rw [if_pos hq, ← HH.out, hJQ]; unfold loT; simp only [ByteArray.append_assoc])
                  have HQ2 : Hid (∀ W : World, Below wq.heap.size wq W → Calls Tryz.prog 13 #[.slice X2 p[k].q.length e2, .string ⟨#[44, 32]⟩] W fun e w' => e = .returned (.string JQ) ∧ Below W.heap.size W w') := Lib.hid (by rw [hJQ]; exact HQ.out)
                  rw [← hJQ] at hQz
                  have m0 : ¬ 9223372036854775807 < TH.size + 6 := by omega
                  have m1 : ¬ 9223372036854775807 < TH.size + 6 + JQ.size := by omega
                  have m2 : ¬ 9223372036854775807 < TH.size + 6 + JQ.size + 2 := by omega
                  have hLz : (TH ++ ⟨#[108, 111, 99, 97, 108, 32]⟩ ++ JQ ++ ⟨#[59, 10]⟩).size ≤ T.size + 4000 := by simp only [ByteArray.size_append]; show TH.size + 6 + JQ.size + 2 ≤ _; omega
                  clear hJQ HH hHz HQ hq
                  go_wp2_with (go_at_call 13; refine (HQ2.out _ (by repeat (first | exact hbb | refine Below.drew ?_ | refine Below.setCell ?_ (by (try simp); try omega) _ | refine Below.alloc ?_ (by (try simp); try omega) _))).mono ?_; rintro e w4 ⟨rfl, hb4⟩; have hv := hv.kept (X.grow (w := w3) (by repeat (first | exact Below.refl _ _ | refine Below.drew ?_ | refine Below.setCell ?_ (by (try simp); try omega) _ | refine Below.alloc ?_ (by (try simp); try omega) _)) hb4); obtain ⟨n0, n1, n2, n3, n4, n5, n6, n7, n8⟩ := Blk.c9 hv; have hbb := X.grow (w := wq) (by repeat (first | exact hbb | refine Below.drew ?_ | refine Below.setCell ?_ (by (try simp); try omega) _ | refine Below.alloc ?_ (by (try simp); try omega) _)) hb4; have hzz := hbb.size)
                  clear m0 m1 m2 iq HQ2 hQz
                  generalize TH ++ ⟨#[108, 111, 99, 97, 108, 32]⟩ ++ JQ ++ ⟨#[59, 10]⟩ = TL at HL hLz
                  go_loopw [4, 8] (fun v i wr => ∃ (m : Nat) (Z : ByteArray), i = .int .i64 m ∧ v = .string Z ∧ Hid (Z = (p[k].x.r.take m).foldl kiS (hloS T p[k])) ∧ Z.size ≤ T.size + 4000 + 372002 * m ∧ m ≤ p[k].x.r.length ∧ Below wq.heap.size wq wr ∧ Blk wr wq.heap.size 48 #[.string p[k].t, .slice X1 p[k].p.length e1, .slice X2 p[k].q.length e2, .int .i64 p[k].x.k, .string p[k].x.t, .int .i64 p[k].x.n, .int .i64 p[k].x.l, .slice X3 p[k].x.r.length e3, .int .i64 p[k].l]) (fun _ i _ => p[k].x.r.length - (intOf i).toNat)
                  case atStart => exact ⟨0, _, rfl, rfl, Lib.hid HL.out, by omega, by omega, by repeat (first | exact hbb | refine Below.drew ?_ | refine Below.setCell ?_ (by (try simp); try omega) _ | refine Below.alloc ?_ (by (try simp); try omega) _), hv⟩
                  case round =>
                    clear n0 n1 n2 n3 n4 n5 n6 n7 n8 hbb hzz hv HL hLz
                    obtain ⟨m, Z, rfl, rfl, HZ, hZz, hm, hbi, hv⟩ := hrel
                    have hsi := hbi.size
                    obtain ⟨n0, n1, n2, n3, n4, n5, n6, n7, n8⟩ := Blk.c9 hv
                    by_cases hlt3 : m < p[k].x.r.length
                    · have i3 : (m : Int) < (p[k].x.r.length : Int) := by omega
                      obtain ⟨b', o', s', rfl, hPb', hkid, k0, k1, k2, k3, k4⟩ := X.Kc.at_ (hKc.below hbi fun b hb => Nat.lt_of_lt_of_le (hP b hb) hsz) hlt3
                      obtain ⟨u1, u2, u3⟩ := kid_parts y7 y6 hlt3
                      have hA : ∀ W : World, Below wr.heap.size wr W → Calls Tryz.prog 14 #[X.val p[k].x.r[m] s', .int .i64 0] W fun e w' => e = .returned (.string (X.PN p[k].x.r[m])) ∧ Below W.heap.size W w' := fun W hW => specAt0 p[k].x.r[m] s' P W u1 u2 (hkid.below hW fun b hb => Nat.lt_of_lt_of_le (hP b hb) (Nat.le_trans hsz hsi)) (fun b hb => Nat.lt_of_lt_of_le (hP b hb) (Nat.le_trans (Nat.le_trans hsz hsi) hW.size)) u3
                      obtain ⟨Y1, f1, rfl⟩ := hkid.form
                      have hf := fold_take kiS (hloS T p[k]) p[k].x.r hlt3
                      rw [← HZ.out] at hf
                      have HN := Lib.hid (show Z ++ X.PN p[k].x.r[m] ++ ⟨#[59, 10]⟩ = (p[k].x.r.take (m + 1)).foldl kiS (hloS T p[k]) by rw [hf]; unfold kiS kiT; simp only [ByteArray.append_assoc])
                      generalize X.PN p[k].x.r[m] = Q at hA u3 HN
                      have HA : Hid (∀ W : World, Below wr.heap.size wr W → Calls Tryz.prog 14 #[.agg #[.int .i64 p[k].x.r[m].k, .string p[k].x.r[m].t, .int .i64 p[k].x.r[m].n, .int .i64 p[k].x.r[m].l, .slice Y1 p[k].x.r[m].r.length f1], .int .i64 0] W fun e w' => e = .returned (.string Q) ∧ Below W.heap.size W w') := Lib.hid hA
                      have m0 : ¬ 9223372036854775807 < Z.size + Q.size := by omega
                      have m1 : ¬ 9223372036854775807 < Z.size + Q.size + 2 := by omega
                      have hZn : (Z ++ Q ++ ⟨#[59, 10]⟩).size ≤ T.size + 4000 + 372002 * (m + 1) := by simp only [ByteArray.size_append]; show Z.size + Q.size + 2 ≤ _; omega
                      have hbb : Below wr.heap.size wr wr := Below.refl _ _
                      have hzz := hbb.size
                      clear hA hkid u1 u2 hf HZ
                      go_wp2_with (go_at_call 14; refine (HA.out _ (by repeat (first | exact hbb | refine Below.drew ?_ | refine Below.setCell ?_ (by (try simp); try omega) _ | refine Below.alloc ?_ (by (try simp); try omega) _))).mono ?_; rintro e w5 ⟨rfl, hb5⟩; have hbb := X.grow (w := wr) (by repeat (first | exact hbb | refine Below.drew ?_ | refine Below.setCell ?_ (by (try simp); try omega) _ | refine Below.alloc ?_ (by (try simp); try omega) _)) hb5; have hzz := hbb.size)
                      go_roundw
                      case rel => exact ⟨m + 1, _, by go_num, rfl, HN, hZn, by omega, hbi.trans (Below.mono (by repeat (first | exact hbb | refine Below.drew ?_ | refine Below.setCell ?_ (by (try simp); try omega) _ | refine Below.alloc ?_ (by (try simp); try omega) _)) hsi), hv.kept (by repeat (first | exact hbb | refine Below.drew ?_ | refine Below.setCell ?_ (by (try simp); try omega) _ | refine Below.alloc ?_ (by (try simp); try omega) _))⟩
                      case measure => simp [intOf]; omega
                    · obtain rfl : m = p[k].x.r.length := by omega
                      rw [List.take_length] at HZ
                      have HN := Lib.hid (show Z ++ ⟨#[101, 110, 100, 10]⟩ = (p.take (k + 1)).foldl pdS (glS (r.foldl recS ⟨#[]⟩) g) by rw [HF.out, HZ.out]; rfl)
                      have m0 : ¬ 9223372036854775807 < Z.size + 4 := by omega
                      have hNz : (Z ++ ⟨#[101, 110, 100, 10]⟩).size ≤ 20000000 + 300000000 * (k + 1) := by simp only [ByteArray.size_append]; show Z.size + 4 ≤ _; omega
                      clear HZ HF
                      go_wp2_with fail
                      go_roundw
                      case rel => exact ⟨k + 1, _, by go_num, rfl, HN, hNz, by omega, hb.trans (hbi.mono hsz), hB.kept hbi⟩
                      case measure => simp [intOf]; omega
                · have iq : ¬ (0 : Int) < (p[k].q.length : Int) := by omega
                  have HL := Lib.hid (show TH = hloS T p[k] by unfold hloS; rw [if_neg hq]; exact HH.out)
                  have hLz : TH.size ≤ T.size + 4000 := by omega
                  clear HH hHz HQ hq hQz
                  go_wp2_with fail
                  clear iq
                  go_loopw [4, 8] (fun v i wr => ∃ (m : Nat) (Z : ByteArray), i = .int .i64 m ∧ v = .string Z ∧ Hid (Z = (p[k].x.r.take m).foldl kiS (hloS T p[k])) ∧ Z.size ≤ T.size + 4000 + 372002 * m ∧ m ≤ p[k].x.r.length ∧ Below wq.heap.size wq wr ∧ Blk wr wq.heap.size 48 #[.string p[k].t, .slice X1 p[k].p.length e1, .slice X2 p[k].q.length e2, .int .i64 p[k].x.k, .string p[k].x.t, .int .i64 p[k].x.n, .int .i64 p[k].x.l, .slice X3 p[k].x.r.length e3, .int .i64 p[k].l]) (fun _ i _ => p[k].x.r.length - (intOf i).toNat)
                  case atStart => exact ⟨0, _, rfl, rfl, Lib.hid HL.out, by omega, by omega, by repeat (first | exact hbb | refine Below.drew ?_ | refine Below.setCell ?_ (by (try simp); try omega) _ | refine Below.alloc ?_ (by (try simp); try omega) _), hv⟩
                  case round =>
                    clear n0 n1 n2 n3 n4 n5 n6 n7 n8 hbb hzz hv HL hLz
                    obtain ⟨m, Z, rfl, rfl, HZ, hZz, hm, hbi, hv⟩ := hrel
                    have hsi := hbi.size
                    obtain ⟨n0, n1, n2, n3, n4, n5, n6, n7, n8⟩ := Blk.c9 hv
                    by_cases hlt3 : m < p[k].x.r.length
                    · have i3 : (m : Int) < (p[k].x.r.length : Int) := by omega
                      obtain ⟨b', o', s', rfl, hPb', hkid, k0, k1, k2, k3, k4⟩ := X.Kc.at_ (hKc.below hbi fun b hb => Nat.lt_of_lt_of_le (hP b hb) hsz) hlt3
                      obtain ⟨u1, u2, u3⟩ := kid_parts y7 y6 hlt3
                      have hA : ∀ W : World, Below wr.heap.size wr W → Calls Tryz.prog 14 #[X.val p[k].x.r[m] s', .int .i64 0] W fun e w' => e = .returned (.string (X.PN p[k].x.r[m])) ∧ Below W.heap.size W w' := fun W hW => specAt0 p[k].x.r[m] s' P W u1 u2 (hkid.below hW fun b hb => Nat.lt_of_lt_of_le (hP b hb) (Nat.le_trans hsz hsi)) (fun b hb => Nat.lt_of_lt_of_le (hP b hb) (Nat.le_trans (Nat.le_trans hsz hsi) hW.size)) u3
                      obtain ⟨Y1, f1, rfl⟩ := hkid.form
                      have hf := fold_take kiS (hloS T p[k]) p[k].x.r hlt3
                      rw [← HZ.out] at hf
                      have HN := Lib.hid (show Z ++ X.PN p[k].x.r[m] ++ ⟨#[59, 10]⟩ = (p[k].x.r.take (m + 1)).foldl kiS (hloS T p[k]) by rw [hf]; unfold kiS kiT; simp only [ByteArray.append_assoc])
                      generalize X.PN p[k].x.r[m] = Q at hA u3 HN
                      have HA : Hid (∀ W : World, Below wr.heap.size wr W → Calls Tryz.prog 14 #[.agg #[.int .i64 p[k].x.r[m].k, .string p[k].x.r[m].t, .int .i64 p[k].x.r[m].n, .int .i64 p[k].x.r[m].l, .slice Y1 p[k].x.r[m].r.length f1], .int .i64 0] W fun e w' => e = .returned (.string Q) ∧ Below W.heap.size W w') := Lib.hid hA
                      have m0 : ¬ 9223372036854775807 < Z.size + Q.size := by omega
                      have m1 : ¬ 9223372036854775807 < Z.size + Q.size + 2 := by omega
                      have hZn : (Z ++ Q ++ ⟨#[59, 10]⟩).size ≤ T.size + 4000 + 372002 * (m + 1) := by simp only [ByteArray.size_append]; show Z.size + Q.size + 2 ≤ _; omega
                      have hbb : Below wr.heap.size wr wr := Below.refl _ _
                      have hzz := hbb.size
                      clear hA hkid u1 u2 hf HZ
                      go_wp2_with (go_at_call 14; refine (HA.out _ (by repeat (first | exact hbb | refine Below.drew ?_ | refine Below.setCell ?_ (by (try simp); try omega) _ | refine Below.alloc ?_ (by (try simp); try omega) _))).mono ?_; rintro e w5 ⟨rfl, hb5⟩; have hbb := X.grow (w := wr) (by repeat (first | exact hbb | refine Below.drew ?_ | refine Below.setCell ?_ (by (try simp); try omega) _ | refine Below.alloc ?_ (by (try simp); try omega) _)) hb5; have hzz := hbb.size)
                      go_roundw
                      case rel => exact ⟨m + 1, _, by go_num, rfl, HN, hZn, by omega, hbi.trans (Below.mono (by repeat (first | exact hbb | refine Below.drew ?_ | refine Below.setCell ?_ (by (try simp); try omega) _ | refine Below.alloc ?_ (by (try simp); try omega) _)) hsi), hv.kept (by repeat (first | exact hbb | refine Below.drew ?_ | refine Below.setCell ?_ (by (try simp); try omega) _ | refine Below.alloc ?_ (by (try simp); try omega) _))⟩
                      case measure => simp [intOf]; omega
                    · obtain rfl : m = p[k].x.r.length := by omega
                      rw [List.take_length] at HZ
                      have HN := Lib.hid (show Z ++ ⟨#[101, 110, 100, 10]⟩ = (p.take (k + 1)).foldl pdS (glS (r.foldl recS ⟨#[]⟩) g) by rw [HF.out, HZ.out]; rfl)
                      have m0 : ¬ 9223372036854775807 < Z.size + 4 := by omega
                      have hNz : (Z ++ ⟨#[101, 110, 100, 10]⟩).size ≤ 20000000 + 300000000 * (k + 1) := by simp only [ByteArray.size_append]; show Z.size + 4 ≤ _; omega
                      clear HZ HF
                      go_wp2_with fail
                      go_roundw
                      case rel => exact ⟨k + 1, _, by go_num, rfl, HN, hNz, by omega, hb.trans (hbi.mono hsz), hB.kept hbi⟩
                      case measure => simp [intOf]; omega
            · obtain rfl : k = p.length := by omega
              rw [List.take_length, ← hUT.out] at HT
              obtain rfl := HT.out
              by_cases h6 : T.size ≤ 6000
              · obtain rfl := HO.out.1 h6
                have i6 : ¬ (6000 : Int) < (T.size : Int) := by omega
                clear HO hUT
                go_wp2_with fail
                go_ret2
                exact ⟨rfl, hb⟩
              · obtain rfl := HO.out.2 h6
                have i6 : (6000 : Int) < (T.size : Int) := by omega
                clear HO hUT
                go_wp2_with fail
                go_ret2
                exact ⟨rfl, hb⟩
end Go.Proofs.YtljblaglfooclaaGreatDoor
