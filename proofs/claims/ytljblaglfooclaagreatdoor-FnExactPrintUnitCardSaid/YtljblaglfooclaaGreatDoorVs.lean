/- Proved here: what IsValidUnit of the program returns. Condition: the unit has at most 2^20 letters and parts; the listed table of white space lies in memory. Proved here: what IsValidUnit of the reference returns. Condition: the unit has at most 2^20 letters and parts. -/
import Derived.Test.YtljblaglfooclaaGreatDoorVp
import Derived.Test.YtljblaglfooclaaGreatDoorUl
namespace Go.Proofs.YtljblaglfooclaaGreatDoor
open Go.RowKit

theorem un_sz {r : List Rt} {g : List ByteArray} {p : List Pd} (hs : Un.siz ⟨r, g, p⟩ ≤ 1048576) : r.length ≤ 1048576 ∧ g.length ≤ 1048576 ∧ p.length ≤ 1048576 ∧ sizS g ≤ 1048576 ∧ (∀ i (h : i < r.length), r[i].siz ≤ 1048576) ∧ (∀ i (h : i < p.length), p[i].siz ≤ 1048576) := by
  have h0 : Un.siz ⟨r, g, p⟩ = (r.length + sumF Rt.siz r) + ((g.length + sizS g) + (p.length + sumF Pd.siz p)) := rfl
  refine ⟨by omega, by omega, by omega, by omega, fun i h => ?_, fun i h => ?_⟩
  · have := sumF_at Rt.siz r h; omega
  · have := sumF_at Pd.siz p h; omega
theorem rt_sz {a : Rt} (h : a.siz ≤ 1048576) : a.t.size ≤ 1048576 ∧ a.f.length ≤ 1048576 ∧ ∀ i (h : i < a.f.length), a.f[i].size ≤ 1048576 := by
  have h0 : a.siz = a.t.size + (a.f.length + sizS a.f) := rfl
  exact ⟨by omega, by omega, fun i hi => by have := siz_at a.f hi; omega⟩
theorem pd_sz {a : Pd} (h : a.siz ≤ 1048576) : a.t.size ≤ 1048576 ∧ (a.p.length ≤ 1048576 ∧ ∀ i (h : i < a.p.length), a.p[i].size ≤ 1048576) ∧ (a.q.length ≤ 1048576 ∧ ∀ i (h : i < a.q.length), a.q[i].size ≤ 1048576) ∧ X.siz a.x ≤ 1048576 := by
  have h0 : a.siz = a.t.size + ((a.p.length + sizS a.p) + ((a.q.length + sizS a.q) + X.siz a.x)) := rfl
  exact ⟨by omega, ⟨by omega, fun i hi => by have := siz_at a.p hi; omega⟩, ⟨by omega, fun i hi => by have := siz_at a.q hi; omega⟩, by omega⟩
theorem li_sz {g : List ByteArray} (h : sizS g ≤ 1048576) : ∀ i (h : i < g.length), g[i].size ≤ 1048576 := fun i hi => by have := siz_at g hi; omega
set_option maxHeartbeats 8000000 in
theorem implValidUnit (u : Un) (s1 s2 s3 : Value) (P : Nat → Prop) (w : World) (hK : Urd X.Kd w P u s1 s2 s3) (hP : ∀ b, P b → b < w.heap.size) (hT : Lib.TabIs Tryz.prog w "strings.asciiSpace" .u8 Lib.asciiSpaceTab) (hw : u.Wf) (hs : u.siz ≤ 1048576) :
    Calls Tryz.prog 18 #[.agg #[s1, s2, s3]] w fun e w' => e = .returned (.bool (vldU u)) ∧ Below w.heap.size w w' := by
  obtain ⟨hK1, hK2, hK3⟩ := hK
  obtain ⟨A1, d1, rfl⟩ := hK1.form
  obtain ⟨A2, d2, rfl⟩ := hK2.form
  obtain ⟨A3, d3, rfl⟩ := hK3.form
  obtain ⟨r, g, p⟩ := u
  obtain ⟨z1, z2, z3, z4, z5, z6⟩ := un_sz hs
  have hWp : ∀ i (h : i < p.length), X.Wf p[i].x := fun i h => (hw.2.2.2 i h).2.2.2
  clear hw hs
  replace hK1 : Rts w P r (.slice A1 r.length d1) := hK1
  replace hK2 : Sr w P (.slice A2 g.length d2) g := hK2
  replace hK3 : Pds X.Kd w P p (.slice A3 p.length d3) := hK3
  show Calls Tryz.prog 18 #[.agg #[.slice A1 r.length d1, .slice A2 g.length d2, .slice A3 p.length d3]] w fun e w' => e = .returned (.bool (vldU ⟨r, g, p⟩)) ∧ Below w.heap.size w w'
  have hbb : Below w.heap.size w w := Below.refl _ _
  have hzz := hbb.size
  have hG : ∀ W : World, Below w.heap.size w W → Calls Tryz.prog 33 #[.slice A2 g.length d2] W fun e w' => e = .returned (.bool (g.all nameB)) ∧ Below W.heap.size W w' := fun W hW => implNames g _ P W (hK2.below hW hP) (fun b hb => Nat.lt_of_lt_of_le (hP b hb) hW.size) z2 (li_sz z4) (tab_kept hT hW)
  by_cases h1 : 8 < r.length
  · have i_h1 : (8 : Int) < (r.length : Int) := by omega
    have HN := Lib.hid (show vldU ⟨r, g, p⟩ = false by unfold vldU; show (decide (r.length ≤ 8) && (decide (g.length ≤ 12) && (decide (p.length ≤ 12) && (g.all nameB && (r.all vldR && p.all vldP))))) = false; rw [decide_eq_false (show ¬ r.length ≤ 8 by omega)]; simp)
    clear h1
    go_enter Tryz.func18, Tryz.ntmps18
    go_wp2_with (go_at_call 33; refine (hG _ (by repeat (first | exact hbb | refine Below.drew ?_ | refine Below.setCell ?_ (by (try simp); try omega) _ | refine Below.alloc ?_ (by (try simp); try omega) _))).mono ?_; rintro e w1 ⟨rfl, hb1⟩; have hbb := X.grow (w := w) (by repeat (first | exact hbb | refine Below.drew ?_ | refine Below.setCell ?_ (by (try simp); try omega) _ | refine Below.alloc ?_ (by (try simp); try omega) _)) hb1; have hzz := hbb.size; have hB : Blk w1 w.heap.size 33 #[.slice A1 r.length d1, .slice A2 g.length d2, .slice A3 p.length d3] := (Blk.new _ _ _).kept hb1; obtain ⟨a0, a1, a2⟩ := Blk.c3 hB)
    go_ret
    exact ⟨ret_b HN.out.symm, by repeat (first | exact hbb | refine Below.drew ?_ | refine Below.setCell ?_ (by (try simp); try omega) _ | refine Below.alloc ?_ (by (try simp); try omega) _)⟩
  · have i_h1 : ¬ (8 : Int) < (r.length : Int) := by omega
    by_cases h2 : 12 < g.length
    · have i_h2 : (12 : Int) < (g.length : Int) := by omega
      have HN := Lib.hid (show vldU ⟨r, g, p⟩ = false by unfold vldU; show (decide (r.length ≤ 8) && (decide (g.length ≤ 12) && (decide (p.length ≤ 12) && (g.all nameB && (r.all vldR && p.all vldP))))) = false; rw [decide_eq_false (show ¬ g.length ≤ 12 by omega)]; simp)
      clear h1 h2
      go_enter Tryz.func18, Tryz.ntmps18
      go_wp2_with (go_at_call 33; refine (hG _ (by repeat (first | exact hbb | refine Below.drew ?_ | refine Below.setCell ?_ (by (try simp); try omega) _ | refine Below.alloc ?_ (by (try simp); try omega) _))).mono ?_; rintro e w1 ⟨rfl, hb1⟩; have hbb := X.grow (w := w) (by repeat (first | exact hbb | refine Below.drew ?_ | refine Below.setCell ?_ (by (try simp); try omega) _ | refine Below.alloc ?_ (by (try simp); try omega) _)) hb1; have hzz := hbb.size; have hB : Blk w1 w.heap.size 33 #[.slice A1 r.length d1, .slice A2 g.length d2, .slice A3 p.length d3] := (Blk.new _ _ _).kept hb1; obtain ⟨a0, a1, a2⟩ := Blk.c3 hB)
      go_ret
      exact ⟨ret_b HN.out.symm, by repeat (first | exact hbb | refine Below.drew ?_ | refine Below.setCell ?_ (by (try simp); try omega) _ | refine Below.alloc ?_ (by (try simp); try omega) _)⟩
    · have i_h2 : ¬ (12 : Int) < (g.length : Int) := by omega
      by_cases h3 : 12 < p.length
      · have i_h3 : (12 : Int) < (p.length : Int) := by omega
        have HN := Lib.hid (show vldU ⟨r, g, p⟩ = false by unfold vldU; show (decide (r.length ≤ 8) && (decide (g.length ≤ 12) && (decide (p.length ≤ 12) && (g.all nameB && (r.all vldR && p.all vldP))))) = false; rw [decide_eq_false (show ¬ p.length ≤ 12 by omega)]; simp)
        clear h1 h2 h3
        go_enter Tryz.func18, Tryz.ntmps18
        go_wp2_with (go_at_call 33; refine (hG _ (by repeat (first | exact hbb | refine Below.drew ?_ | refine Below.setCell ?_ (by (try simp); try omega) _ | refine Below.alloc ?_ (by (try simp); try omega) _))).mono ?_; rintro e w1 ⟨rfl, hb1⟩; have hbb := X.grow (w := w) (by repeat (first | exact hbb | refine Below.drew ?_ | refine Below.setCell ?_ (by (try simp); try omega) _ | refine Below.alloc ?_ (by (try simp); try omega) _)) hb1; have hzz := hbb.size; have hB : Blk w1 w.heap.size 33 #[.slice A1 r.length d1, .slice A2 g.length d2, .slice A3 p.length d3] := (Blk.new _ _ _).kept hb1; obtain ⟨a0, a1, a2⟩ := Blk.c3 hB)
        go_ret
        exact ⟨ret_b HN.out.symm, by repeat (first | exact hbb | refine Below.drew ?_ | refine Below.setCell ?_ (by (try simp); try omega) _ | refine Below.alloc ?_ (by (try simp); try omega) _)⟩
      · have i_h3 : ¬ (12 : Int) < (p.length : Int) := by omega
        cases h4 : g.all nameB
        · rw [h4] at hG
          have HN := Lib.hid (show vldU ⟨r, g, p⟩ = false by unfold vldU; show (decide (r.length ≤ 8) && (decide (g.length ≤ 12) && (decide (p.length ≤ 12) && (g.all nameB && (r.all vldR && p.all vldP))))) = false; rw [h4]; simp)
          clear h1 h2 h3 h4
          go_enter Tryz.func18, Tryz.ntmps18
          go_wp2_with (go_at_call 33; refine (hG _ (by repeat (first | exact hbb | refine Below.drew ?_ | refine Below.setCell ?_ (by (try simp); try omega) _ | refine Below.alloc ?_ (by (try simp); try omega) _))).mono ?_; rintro e w1 ⟨rfl, hb1⟩; have hbb := X.grow (w := w) (by repeat (first | exact hbb | refine Below.drew ?_ | refine Below.setCell ?_ (by (try simp); try omega) _ | refine Below.alloc ?_ (by (try simp); try omega) _)) hb1; have hzz := hbb.size; have hB : Blk w1 w.heap.size 33 #[.slice A1 r.length d1, .slice A2 g.length d2, .slice A3 p.length d3] := (Blk.new _ _ _).kept hb1; obtain ⟨a0, a1, a2⟩ := Blk.c3 hB)
          go_ret
          exact ⟨ret_b HN.out.symm, by repeat (first | exact hbb | refine Below.drew ?_ | refine Below.setCell ?_ (by (try simp); try omega) _ | refine Below.alloc ?_ (by (try simp); try omega) _)⟩
        · rw [h4] at hG
          have HH := Lib.hid (show r.length ≤ 8 ∧ g.length ≤ 12 ∧ p.length ≤ 12 ∧ g.all nameB = true from ⟨by omega, by omega, by omega, h4⟩)
          clear h1 h2 h3 h4
          go_enter Tryz.func18, Tryz.ntmps18
          go_wp2_with (go_at_call 33; refine (hG _ (by repeat (first | exact hbb | refine Below.drew ?_ | refine Below.setCell ?_ (by (try simp); try omega) _ | refine Below.alloc ?_ (by (try simp); try omega) _))).mono ?_; rintro e w1 ⟨rfl, hb1⟩; have hbb := X.grow (w := w) (by repeat (first | exact hbb | refine Below.drew ?_ | refine Below.setCell ?_ (by (try simp); try omega) _ | refine Below.alloc ?_ (by (try simp); try omega) _)) hb1; have hzz := hbb.size; have hB : Blk w1 w.heap.size 33 #[.slice A1 r.length d1, .slice A2 g.length d2, .slice A3 p.length d3] := (Blk.new _ _ _).kept hb1; obtain ⟨a0, a1, a2⟩ := Blk.c3 hB)
          clear hG
          go_loopw [4, 32] (fun _ i wr => ∃ j : Nat, i = .int .i64 j ∧ Hid (∀ i (h : i < r.length), i < j → vldR r[i] = true) ∧ j ≤ r.length ∧ Below w.heap.size w wr ∧ Blk wr w.heap.size 33 #[.slice A1 r.length d1, .slice A2 g.length d2, .slice A3 p.length d3]) (fun _ i _ => r.length - (intOf i).toNat)
          case atStart => exact ⟨0, rfl, Lib.hid (fun i _ h => by omega), by omega, hbb, hB⟩
          case round =>
            clear a0 a1 a2 hbb hzz hB
            obtain ⟨j, rfl, HM, hj, hb, hB⟩ := hrel
            have hsz := hb.size
            obtain ⟨a0, a1, a2⟩ := Blk.c3 hB
            by_cases hlt : j < r.length
            · have i1 : (j : Int) < (r.length : Int) := by omega
              obtain ⟨b, o, x1, rfl, hPb, hs1, c0, c1, c2⟩ := Rts.at_ (hK1.below hb hP) hlt
              obtain ⟨y1, y2, y3⟩ := rt_sz (z5 j hlt)
              have hN : ∀ W : World, Below wr.heap.size wr W → Calls Tryz.prog 34 #[.string r[j].t] W fun e w' => e = .returned (.bool (nameB r[j].t)) ∧ Below W.heap.size W w' := fun W hW => implName r[j].t y1 W (tab_kept hT (hb.trans (hW.mono hsz)))
              have hF : ∀ W : World, Below wr.heap.size wr W → Calls Tryz.prog 33 #[x1] W fun e w' => e = .returned (.bool (r[j].f.all nameB)) ∧ Below W.heap.size W w' := fun W hW => implNames r[j].f _ P W (hs1.below hW (fun b hb => Nat.lt_of_lt_of_le (hP b hb) hsz)) (fun b hb => Nat.lt_of_lt_of_le (hP b hb) (Nat.le_trans hsz hW.size)) y2 y3 (tab_kept hT (hb.trans (hW.mono hsz)))
              obtain ⟨X1, e1, rfl⟩ := hs1.form
              have HU := Lib.hid (fun hf : vldR r[j] = false => vldU_r (u := ⟨r, g, p⟩) hlt hf)
              have HM2 : Hid (vldR r[j] = true → ∀ i (h : i < r.length), i < j + 1 → vldR r[i] = true) := Lib.hid fun ht i h hi => by
                by_cases hij : i = j
                · subst hij; exact ht
                · exact HM.out i h (by omega)
              have HV := Lib.hid (show vldR r[j] = (decide (r[j].f.length ≤ 6) && (nameB r[j].t && (r[j].f.all nameB && decide (0 ≤ r[j].l)))) from rfl)
              have hbb : Below wr.heap.size wr wr := Below.refl _ _
              have hzz := hbb.size
              clear y1 y2 y3 hs1 HM
              by_cases hf6 : 6 < r[j].f.length
              · have i_hf6 : (6 : Int) < (r[j].f.length : Int) := by omega
                have HN := Lib.hid (HU.out (by rw [HV.out, decide_eq_false (show ¬ r[j].f.length ≤ 6 by omega)]; simp))
                clear HU HM2 HV hf6
                go_wp2_with (first
                  | (go_at_call 34; refine (hN _ (by repeat (first | exact hbb | refine Below.drew ?_ | refine Below.setCell ?_ (by (try simp); try omega) _ | refine Below.alloc ?_ (by (try simp); try omega) _))).mono ?_; rintro e w1 ⟨rfl, hb1⟩; have hbb := X.grow (w := wr) (by repeat (first | exact hbb | refine Below.drew ?_ | refine Below.setCell ?_ (by (try simp); try omega) _ | refine Below.alloc ?_ (by (try simp); try omega) _)) hb1; have hzz := hbb.size; have hv : Blk w1 wr.heap.size 42 #[.string r[j].t, .slice X1 r[j].f.length e1, .int .i64 r[j].l] := (Blk.new _ _ _).kept hb1; obtain ⟨v0, v1, v2⟩ := Blk.c3 hv)
                  | (go_at_call 33; refine (hF _ (by repeat (first | exact hbb | refine Below.drew ?_ | refine Below.setCell ?_ (by (try simp); try omega) _ | refine Below.alloc ?_ (by (try simp); try omega) _))).mono ?_; rintro e w2 ⟨rfl, hb2⟩; have hbb := X.grow (w := wr) (by repeat (first | exact hbb | refine Below.drew ?_ | refine Below.setCell ?_ (by (try simp); try omega) _ | refine Below.alloc ?_ (by (try simp); try omega) _)) hb2; have hzz := hbb.size; have hv := hv.kept hb2; obtain ⟨v0, v1, v2⟩ := Blk.c3 hv))
                go_ret
                exact ⟨ret_b HN.out.symm, hb.trans (Below.mono (by repeat (first | exact hbb | refine Below.drew ?_ | refine Below.setCell ?_ (by (try simp); try omega) _ | refine Below.alloc ?_ (by (try simp); try omega) _)) hsz)⟩
              · have i_hf6 : ¬ (6 : Int) < (r[j].f.length : Int) := by omega
                cases hn : nameB r[j].t
                · rw [hn] at hN
                  have HN := Lib.hid (HU.out (by rw [HV.out, hn]; simp))
                  clear HU HM2 HV hf6 hn
                  go_wp2_with (first
                    | (go_at_call 34; refine (hN _ (by repeat (first | exact hbb | refine Below.drew ?_ | refine Below.setCell ?_ (by (try simp); try omega) _ | refine Below.alloc ?_ (by (try simp); try omega) _))).mono ?_; rintro e w1 ⟨rfl, hb1⟩; have hbb := X.grow (w := wr) (by repeat (first | exact hbb | refine Below.drew ?_ | refine Below.setCell ?_ (by (try simp); try omega) _ | refine Below.alloc ?_ (by (try simp); try omega) _)) hb1; have hzz := hbb.size; have hv : Blk w1 wr.heap.size 42 #[.string r[j].t, .slice X1 r[j].f.length e1, .int .i64 r[j].l] := (Blk.new _ _ _).kept hb1; obtain ⟨v0, v1, v2⟩ := Blk.c3 hv)
                    | (go_at_call 33; refine (hF _ (by repeat (first | exact hbb | refine Below.drew ?_ | refine Below.setCell ?_ (by (try simp); try omega) _ | refine Below.alloc ?_ (by (try simp); try omega) _))).mono ?_; rintro e w2 ⟨rfl, hb2⟩; have hbb := X.grow (w := wr) (by repeat (first | exact hbb | refine Below.drew ?_ | refine Below.setCell ?_ (by (try simp); try omega) _ | refine Below.alloc ?_ (by (try simp); try omega) _)) hb2; have hzz := hbb.size; have hv := hv.kept hb2; obtain ⟨v0, v1, v2⟩ := Blk.c3 hv))
                  go_ret
                  exact ⟨ret_b HN.out.symm, hb.trans (Below.mono (by repeat (first | exact hbb | refine Below.drew ?_ | refine Below.setCell ?_ (by (try simp); try omega) _ | refine Below.alloc ?_ (by (try simp); try omega) _)) hsz)⟩
                · rw [hn] at hN
                  cases hf : r[j].f.all nameB
                  · rw [hf] at hF
                    have HN := Lib.hid (HU.out (by rw [HV.out, hf]; simp))
                    clear HU HM2 HV hf6 hn hf
                    go_wp2_with (first
                      | (go_at_call 34; refine (hN _ (by repeat (first | exact hbb | refine Below.drew ?_ | refine Below.setCell ?_ (by (try simp); try omega) _ | refine Below.alloc ?_ (by (try simp); try omega) _))).mono ?_; rintro e w1 ⟨rfl, hb1⟩; have hbb := X.grow (w := wr) (by repeat (first | exact hbb | refine Below.drew ?_ | refine Below.setCell ?_ (by (try simp); try omega) _ | refine Below.alloc ?_ (by (try simp); try omega) _)) hb1; have hzz := hbb.size; have hv : Blk w1 wr.heap.size 42 #[.string r[j].t, .slice X1 r[j].f.length e1, .int .i64 r[j].l] := (Blk.new _ _ _).kept hb1; obtain ⟨v0, v1, v2⟩ := Blk.c3 hv)
                      | (go_at_call 33; refine (hF _ (by repeat (first | exact hbb | refine Below.drew ?_ | refine Below.setCell ?_ (by (try simp); try omega) _ | refine Below.alloc ?_ (by (try simp); try omega) _))).mono ?_; rintro e w2 ⟨rfl, hb2⟩; have hbb := X.grow (w := wr) (by repeat (first | exact hbb | refine Below.drew ?_ | refine Below.setCell ?_ (by (try simp); try omega) _ | refine Below.alloc ?_ (by (try simp); try omega) _)) hb2; have hzz := hbb.size; have hv := hv.kept hb2; obtain ⟨v0, v1, v2⟩ := Blk.c3 hv))
                    go_ret
                    exact ⟨ret_b HN.out.symm, hb.trans (Below.mono (by repeat (first | exact hbb | refine Below.drew ?_ | refine Below.setCell ?_ (by (try simp); try omega) _ | refine Below.alloc ?_ (by (try simp); try omega) _)) hsz)⟩
                  · rw [hf] at hF
                    by_cases hl : r[j].l < 0
                    · have i_hl : r[j].l < 0 := by omega
                      have HN := Lib.hid (HU.out (by rw [HV.out, decide_eq_false (show ¬ 0 ≤ r[j].l by omega)]; simp))
                      clear HU HM2 HV hf6 hn hf hl
                      go_wp2_with (first
                        | (go_at_call 34; refine (hN _ (by repeat (first | exact hbb | refine Below.drew ?_ | refine Below.setCell ?_ (by (try simp); try omega) _ | refine Below.alloc ?_ (by (try simp); try omega) _))).mono ?_; rintro e w1 ⟨rfl, hb1⟩; have hbb := X.grow (w := wr) (by repeat (first | exact hbb | refine Below.drew ?_ | refine Below.setCell ?_ (by (try simp); try omega) _ | refine Below.alloc ?_ (by (try simp); try omega) _)) hb1; have hzz := hbb.size; have hv : Blk w1 wr.heap.size 42 #[.string r[j].t, .slice X1 r[j].f.length e1, .int .i64 r[j].l] := (Blk.new _ _ _).kept hb1; obtain ⟨v0, v1, v2⟩ := Blk.c3 hv)
                        | (go_at_call 33; refine (hF _ (by repeat (first | exact hbb | refine Below.drew ?_ | refine Below.setCell ?_ (by (try simp); try omega) _ | refine Below.alloc ?_ (by (try simp); try omega) _))).mono ?_; rintro e w2 ⟨rfl, hb2⟩; have hbb := X.grow (w := wr) (by repeat (first | exact hbb | refine Below.drew ?_ | refine Below.setCell ?_ (by (try simp); try omega) _ | refine Below.alloc ?_ (by (try simp); try omega) _)) hb2; have hzz := hbb.size; have hv := hv.kept hb2; obtain ⟨v0, v1, v2⟩ := Blk.c3 hv))
                      go_ret
                      exact ⟨ret_b HN.out.symm, hb.trans (Below.mono (by repeat (first | exact hbb | refine Below.drew ?_ | refine Below.setCell ?_ (by (try simp); try omega) _ | refine Below.alloc ?_ (by (try simp); try omega) _)) hsz)⟩
                    · have i_hl : ¬ r[j].l < 0 := by omega
                      have HN := Lib.hid (HM2.out (by rw [HV.out, decide_eq_true (show r[j].f.length ≤ 6 by omega), hn, hf, decide_eq_true (show 0 ≤ r[j].l by omega)]; rfl))
                      clear HU HM2 HV hf6 hn hf hl
                      go_wp2_with (first
                        | (go_at_call 34; refine (hN _ (by repeat (first | exact hbb | refine Below.drew ?_ | refine Below.setCell ?_ (by (try simp); try omega) _ | refine Below.alloc ?_ (by (try simp); try omega) _))).mono ?_; rintro e w1 ⟨rfl, hb1⟩; have hbb := X.grow (w := wr) (by repeat (first | exact hbb | refine Below.drew ?_ | refine Below.setCell ?_ (by (try simp); try omega) _ | refine Below.alloc ?_ (by (try simp); try omega) _)) hb1; have hzz := hbb.size; have hv : Blk w1 wr.heap.size 42 #[.string r[j].t, .slice X1 r[j].f.length e1, .int .i64 r[j].l] := (Blk.new _ _ _).kept hb1; obtain ⟨v0, v1, v2⟩ := Blk.c3 hv)
                        | (go_at_call 33; refine (hF _ (by repeat (first | exact hbb | refine Below.drew ?_ | refine Below.setCell ?_ (by (try simp); try omega) _ | refine Below.alloc ?_ (by (try simp); try omega) _))).mono ?_; rintro e w2 ⟨rfl, hb2⟩; have hbb := X.grow (w := wr) (by repeat (first | exact hbb | refine Below.drew ?_ | refine Below.setCell ?_ (by (try simp); try omega) _ | refine Below.alloc ?_ (by (try simp); try omega) _)) hb2; have hzz := hbb.size; have hv := hv.kept hb2; obtain ⟨v0, v1, v2⟩ := Blk.c3 hv))
                      go_roundw
                      case rel => exact ⟨j + 1, by go_num, HN, by omega, hb.trans (Below.mono (by repeat (first | exact hbb | refine Below.drew ?_ | refine Below.setCell ?_ (by (try simp); try omega) _ | refine Below.alloc ?_ (by (try simp); try omega) _)) hsz), hB.kept (by repeat (first | exact hbb | refine Below.drew ?_ | refine Below.setCell ?_ (by (try simp); try omega) _ | refine Below.alloc ?_ (by (try simp); try omega) _))⟩
                      case measure => simp [intOf]; omega
            · obtain rfl : j = r.length := by omega
              have HR := Lib.hid (all_yes (f := vldR) (l := r) fun i h => HM.out i h h)
              clear HM hK1 z5
              have hbb := hb
              go_wp2_with fail
              go_loopw [6, 61] (fun _ i wr => ∃ k : Nat, i = .int .i64 k ∧ Hid (∀ i (h : i < p.length), i < k → vldP p[i] = true) ∧ k ≤ p.length ∧ Below w.heap.size w wr) (fun _ i _ => p.length - (intOf i).toNat)
              case atStart => exact ⟨0, rfl, Lib.hid (fun i _ h => by omega), by omega, hb⟩
              case round =>
                clear a0 a1 a2 hbb hsz hB hb
                obtain ⟨k, rfl, HM, hk, hb⟩ := hrel
                have hsz := hb.size
                by_cases hlt : k < p.length
                · have i1 : (k : Int) < (p.length : Int) := by omega
                  obtain ⟨b, o, x1, x2, x3, rfl, hPb, hs1, hs2, hs3, c0, c1, c2, c3, c4, c5, c6, c7, c8⟩ := Pds.at_ (hK3.below hb hP) hlt
                  obtain ⟨y1, ⟨y2, y3⟩, ⟨y4, y5⟩, y6⟩ := pd_sz (z6 k hlt)
                  have hN : ∀ W : World, Below wr.heap.size wr W → Calls Tryz.prog 34 #[.string p[k].t] W fun e w' => e = .returned (.bool (nameB p[k].t)) ∧ Below W.heap.size W w' := fun W hW => implName p[k].t y1 W (tab_kept hT (hb.trans (hW.mono hsz)))
                  have hF : ∀ W : World, Below wr.heap.size wr W → Calls Tryz.prog 33 #[x1] W fun e w' => e = .returned (.bool (p[k].p.all nameB)) ∧ Below W.heap.size W w' := fun W hW => implNames p[k].p _ P W (hs1.below hW (fun b hb => Nat.lt_of_lt_of_le (hP b hb) hsz)) (fun b hb => Nat.lt_of_lt_of_le (hP b hb) (Nat.le_trans hsz hW.size)) y2 y3 (tab_kept hT (hb.trans (hW.mono hsz)))
                  have hH : ∀ W : World, Below wr.heap.size wr W → Calls Tryz.prog 33 #[x2] W fun e w' => e = .returned (.bool (p[k].q.all nameB)) ∧ Below W.heap.size W w' := fun W hW => implNames p[k].q _ P W (hs2.below hW (fun b hb => Nat.lt_of_lt_of_le (hP b hb) hsz)) (fun b hb => Nat.lt_of_lt_of_le (hP b hb) (Nat.le_trans hsz hW.size)) y4 y5 (tab_kept hT (hb.trans (hW.mono hsz)))
                  have hX : ∀ W : World, Below wr.heap.size wr W → Calls Tryz.prog 35 #[.agg #[.int .i64 p[k].x.k, .string p[k].x.t, .int .i64 p[k].x.n, .int .i64 p[k].x.l, x3]] W fun e w' => e = .returned (.bool (X.vldE X.wdB p[k].x)) ∧ Below W.heap.size W w' := fun W hW => X.implIsValid p[k].x x3 P W (hs3.below hW (fun b hb => Nat.lt_of_lt_of_le (hP b hb) hsz)).rd (fun b hb => Nat.lt_of_lt_of_le (hP b hb) (Nat.le_trans hsz hW.size)) (tab_kept hT (hb.trans (hW.mono hsz))) (hWp k hlt) y6
                  obtain ⟨X1, e1, rfl⟩ := hs1.form
                  obtain ⟨X2, e2, rfl⟩ := hs2.form
                  obtain ⟨X3, e3, rfl⟩ := hs3.form
                  have HU := Lib.hid (fun hf : vldP p[k] = false => vldU_p (u := ⟨r, g, p⟩) hlt hf)
                  have HM2 : Hid (vldP p[k] = true → ∀ i (h : i < p.length), i < k + 1 → vldP p[i] = true) := Lib.hid fun ht i h hi => by
                    by_cases hij : i = k
                    · subst hij; exact ht
                    · exact HM.out i h (by omega)
                  have HV := Lib.hid (show vldP p[k] = (decide (p[k].p.length ≤ 6) && (decide (p[k].q.length ≤ 8) && (nameB p[k].t && (p[k].p.all nameB && (p[k].q.all nameB && (decide (0 ≤ p[k].l) && (decide (p[k].x.k = 14) && X.vldE X.wdB p[k].x))))))) from rfl)
                  have hbb : Below wr.heap.size wr wr := Below.refl _ _
                  have hzz := hbb.size
                  clear y1 y2 y3 y4 y5 y6 hs1 hs2 hs3 HM
                  by_cases hp6 : 6 < p[k].p.length
                  · have i_hp6 : (6 : Int) < (p[k].p.length : Int) := by omega
                    have HN := Lib.hid (HU.out (by rw [HV.out, decide_eq_false (show ¬ p[k].p.length ≤ 6 by omega)]; simp))
                    clear HU HM2 HV hp6
                    go_wp2_with (first
                      | (go_at_call 35; refine (hX _ (by repeat (first | exact hbb | refine Below.drew ?_ | refine Below.setCell ?_ (by (try simp); try omega) _ | refine Below.alloc ?_ (by (try simp); try omega) _))).mono ?_; rintro e w4 ⟨rfl, hb4⟩; have hbb := X.grow (w := wr) (by repeat (first | exact hbb | refine Below.drew ?_ | refine Below.setCell ?_ (by (try simp); try omega) _ | refine Below.alloc ?_ (by (try simp); try omega) _)) hb4; have hzz := hbb.size)
                      | (go_at_call 34; refine (hN _ (by repeat (first | exact hbb | refine Below.drew ?_ | refine Below.setCell ?_ (by (try simp); try omega) _ | refine Below.alloc ?_ (by (try simp); try omega) _))).mono ?_; rintro e w1 ⟨rfl, hb1⟩; have hbb := X.grow (w := wr) (by repeat (first | exact hbb | refine Below.drew ?_ | refine Below.setCell ?_ (by (try simp); try omega) _ | refine Below.alloc ?_ (by (try simp); try omega) _)) hb1; have hzz := hbb.size; have hv : Blk w1 wr.heap.size 48 #[.string p[k].t, .slice X1 p[k].p.length e1, .slice X2 p[k].q.length e2, .int .i64 p[k].x.k, .string p[k].x.t, .int .i64 p[k].x.n, .int .i64 p[k].x.l, .slice X3 p[k].x.r.length e3, .int .i64 p[k].l] := (Blk.new _ _ _).kept hb1; obtain ⟨v0, v1, v2, v3, v4, v5, v6, v7, v8⟩ := Blk.c9 hv)
                      | (have hg1 := g1; go_at_call 33; refine (hH _ (by repeat (first | exact hbb | refine Below.drew ?_ | refine Below.setCell ?_ (by (try simp); try omega) _ | refine Below.alloc ?_ (by (try simp); try omega) _))).mono ?_; rintro e w3 ⟨rfl, hb3⟩; have hbb := X.grow (w := wr) (by repeat (first | exact hbb | refine Below.drew ?_ | refine Below.setCell ?_ (by (try simp); try omega) _ | refine Below.alloc ?_ (by (try simp); try omega) _)) hb3; have hzz := hbb.size; have hv := hv.kept hb3; obtain ⟨v0, v1, v2, v3, v4, v5, v6, v7, v8⟩ := Blk.c9 hv)
                      | (go_at_call 33; refine (hF _ (by repeat (first | exact hbb | refine Below.drew ?_ | refine Below.setCell ?_ (by (try simp); try omega) _ | refine Below.alloc ?_ (by (try simp); try omega) _))).mono ?_; rintro e w2 ⟨rfl, hb2⟩; have g1 := hb2; have hbb := X.grow (w := wr) (by repeat (first | exact hbb | refine Below.drew ?_ | refine Below.setCell ?_ (by (try simp); try omega) _ | refine Below.alloc ?_ (by (try simp); try omega) _)) hb2; have hzz := hbb.size; have hv := hv.kept hb2; obtain ⟨v0, v1, v2, v3, v4, v5, v6, v7, v8⟩ := Blk.c9 hv))
                    go_ret
                    exact ⟨ret_b HN.out.symm, hb.trans (Below.mono (by repeat (first | exact hbb | refine Below.drew ?_ | refine Below.setCell ?_ (by (try simp); try omega) _ | refine Below.alloc ?_ (by (try simp); try omega) _)) hsz)⟩
                  · have i_hp6 : ¬ (6 : Int) < (p[k].p.length : Int) := by omega
                    by_cases hq8 : 8 < p[k].q.length
                    · have i_hq8 : (8 : Int) < (p[k].q.length : Int) := by omega
                      have HN := Lib.hid (HU.out (by rw [HV.out, decide_eq_false (show ¬ p[k].q.length ≤ 8 by omega)]; simp))
                      clear HU HM2 HV hp6 hq8
                      go_wp2_with (first
                        | (go_at_call 35; refine (hX _ (by repeat (first | exact hbb | refine Below.drew ?_ | refine Below.setCell ?_ (by (try simp); try omega) _ | refine Below.alloc ?_ (by (try simp); try omega) _))).mono ?_; rintro e w4 ⟨rfl, hb4⟩; have hbb := X.grow (w := wr) (by repeat (first | exact hbb | refine Below.drew ?_ | refine Below.setCell ?_ (by (try simp); try omega) _ | refine Below.alloc ?_ (by (try simp); try omega) _)) hb4; have hzz := hbb.size)
                        | (go_at_call 34; refine (hN _ (by repeat (first | exact hbb | refine Below.drew ?_ | refine Below.setCell ?_ (by (try simp); try omega) _ | refine Below.alloc ?_ (by (try simp); try omega) _))).mono ?_; rintro e w1 ⟨rfl, hb1⟩; have hbb := X.grow (w := wr) (by repeat (first | exact hbb | refine Below.drew ?_ | refine Below.setCell ?_ (by (try simp); try omega) _ | refine Below.alloc ?_ (by (try simp); try omega) _)) hb1; have hzz := hbb.size; have hv : Blk w1 wr.heap.size 48 #[.string p[k].t, .slice X1 p[k].p.length e1, .slice X2 p[k].q.length e2, .int .i64 p[k].x.k, .string p[k].x.t, .int .i64 p[k].x.n, .int .i64 p[k].x.l, .slice X3 p[k].x.r.length e3, .int .i64 p[k].l] := (Blk.new _ _ _).kept hb1; obtain ⟨v0, v1, v2, v3, v4, v5, v6, v7, v8⟩ := Blk.c9 hv)
                        | (have hg1 := g1; go_at_call 33; refine (hH _ (by repeat (first | exact hbb | refine Below.drew ?_ | refine Below.setCell ?_ (by (try simp); try omega) _ | refine Below.alloc ?_ (by (try simp); try omega) _))).mono ?_; rintro e w3 ⟨rfl, hb3⟩; have hbb := X.grow (w := wr) (by repeat (first | exact hbb | refine Below.drew ?_ | refine Below.setCell ?_ (by (try simp); try omega) _ | refine Below.alloc ?_ (by (try simp); try omega) _)) hb3; have hzz := hbb.size; have hv := hv.kept hb3; obtain ⟨v0, v1, v2, v3, v4, v5, v6, v7, v8⟩ := Blk.c9 hv)
                        | (go_at_call 33; refine (hF _ (by repeat (first | exact hbb | refine Below.drew ?_ | refine Below.setCell ?_ (by (try simp); try omega) _ | refine Below.alloc ?_ (by (try simp); try omega) _))).mono ?_; rintro e w2 ⟨rfl, hb2⟩; have g1 := hb2; have hbb := X.grow (w := wr) (by repeat (first | exact hbb | refine Below.drew ?_ | refine Below.setCell ?_ (by (try simp); try omega) _ | refine Below.alloc ?_ (by (try simp); try omega) _)) hb2; have hzz := hbb.size; have hv := hv.kept hb2; obtain ⟨v0, v1, v2, v3, v4, v5, v6, v7, v8⟩ := Blk.c9 hv))
                      go_ret
                      exact ⟨ret_b HN.out.symm, hb.trans (Below.mono (by repeat (first | exact hbb | refine Below.drew ?_ | refine Below.setCell ?_ (by (try simp); try omega) _ | refine Below.alloc ?_ (by (try simp); try omega) _)) hsz)⟩
                    · have i_hq8 : ¬ (8 : Int) < (p[k].q.length : Int) := by omega
                      cases hn : nameB p[k].t
                      · rw [hn] at hN
                        have HN := Lib.hid (HU.out (by rw [HV.out, hn]; simp))
                        clear HU HM2 HV hp6 hq8 hn
                        go_wp2_with (first
                          | (go_at_call 35; refine (hX _ (by repeat (first | exact hbb | refine Below.drew ?_ | refine Below.setCell ?_ (by (try simp); try omega) _ | refine Below.alloc ?_ (by (try simp); try omega) _))).mono ?_; rintro e w4 ⟨rfl, hb4⟩; have hbb := X.grow (w := wr) (by repeat (first | exact hbb | refine Below.drew ?_ | refine Below.setCell ?_ (by (try simp); try omega) _ | refine Below.alloc ?_ (by (try simp); try omega) _)) hb4; have hzz := hbb.size)
                          | (go_at_call 34; refine (hN _ (by repeat (first | exact hbb | refine Below.drew ?_ | refine Below.setCell ?_ (by (try simp); try omega) _ | refine Below.alloc ?_ (by (try simp); try omega) _))).mono ?_; rintro e w1 ⟨rfl, hb1⟩; have hbb := X.grow (w := wr) (by repeat (first | exact hbb | refine Below.drew ?_ | refine Below.setCell ?_ (by (try simp); try omega) _ | refine Below.alloc ?_ (by (try simp); try omega) _)) hb1; have hzz := hbb.size; have hv : Blk w1 wr.heap.size 48 #[.string p[k].t, .slice X1 p[k].p.length e1, .slice X2 p[k].q.length e2, .int .i64 p[k].x.k, .string p[k].x.t, .int .i64 p[k].x.n, .int .i64 p[k].x.l, .slice X3 p[k].x.r.length e3, .int .i64 p[k].l] := (Blk.new _ _ _).kept hb1; obtain ⟨v0, v1, v2, v3, v4, v5, v6, v7, v8⟩ := Blk.c9 hv)
                          | (have hg1 := g1; go_at_call 33; refine (hH _ (by repeat (first | exact hbb | refine Below.drew ?_ | refine Below.setCell ?_ (by (try simp); try omega) _ | refine Below.alloc ?_ (by (try simp); try omega) _))).mono ?_; rintro e w3 ⟨rfl, hb3⟩; have hbb := X.grow (w := wr) (by repeat (first | exact hbb | refine Below.drew ?_ | refine Below.setCell ?_ (by (try simp); try omega) _ | refine Below.alloc ?_ (by (try simp); try omega) _)) hb3; have hzz := hbb.size; have hv := hv.kept hb3; obtain ⟨v0, v1, v2, v3, v4, v5, v6, v7, v8⟩ := Blk.c9 hv)
                          | (go_at_call 33; refine (hF _ (by repeat (first | exact hbb | refine Below.drew ?_ | refine Below.setCell ?_ (by (try simp); try omega) _ | refine Below.alloc ?_ (by (try simp); try omega) _))).mono ?_; rintro e w2 ⟨rfl, hb2⟩; have g1 := hb2; have hbb := X.grow (w := wr) (by repeat (first | exact hbb | refine Below.drew ?_ | refine Below.setCell ?_ (by (try simp); try omega) _ | refine Below.alloc ?_ (by (try simp); try omega) _)) hb2; have hzz := hbb.size; have hv := hv.kept hb2; obtain ⟨v0, v1, v2, v3, v4, v5, v6, v7, v8⟩ := Blk.c9 hv))
                        go_ret
                        exact ⟨ret_b HN.out.symm, hb.trans (Below.mono (by repeat (first | exact hbb | refine Below.drew ?_ | refine Below.setCell ?_ (by (try simp); try omega) _ | refine Below.alloc ?_ (by (try simp); try omega) _)) hsz)⟩
                      · rw [hn] at hN
                        cases hf : p[k].p.all nameB
                        · rw [hf] at hF
                          have HN := Lib.hid (HU.out (by rw [HV.out, hf]; simp))
                          clear HU HM2 HV hp6 hq8 hn hf
                          go_wp2_with (first
                            | (go_at_call 35; refine (hX _ (by repeat (first | exact hbb | refine Below.drew ?_ | refine Below.setCell ?_ (by (try simp); try omega) _ | refine Below.alloc ?_ (by (try simp); try omega) _))).mono ?_; rintro e w4 ⟨rfl, hb4⟩; have hbb := X.grow (w := wr) (by repeat (first | exact hbb | refine Below.drew ?_ | refine Below.setCell ?_ (by (try simp); try omega) _ | refine Below.alloc ?_ (by (try simp); try omega) _)) hb4; have hzz := hbb.size)
                            | (go_at_call 34; refine (hN _ (by repeat (first | exact hbb | refine Below.drew ?_ | refine Below.setCell ?_ (by (try simp); try omega) _ | refine Below.alloc ?_ (by (try simp); try omega) _))).mono ?_; rintro e w1 ⟨rfl, hb1⟩; have hbb := X.grow (w := wr) (by repeat (first | exact hbb | refine Below.drew ?_ | refine Below.setCell ?_ (by (try simp); try omega) _ | refine Below.alloc ?_ (by (try simp); try omega) _)) hb1; have hzz := hbb.size; have hv : Blk w1 wr.heap.size 48 #[.string p[k].t, .slice X1 p[k].p.length e1, .slice X2 p[k].q.length e2, .int .i64 p[k].x.k, .string p[k].x.t, .int .i64 p[k].x.n, .int .i64 p[k].x.l, .slice X3 p[k].x.r.length e3, .int .i64 p[k].l] := (Blk.new _ _ _).kept hb1; obtain ⟨v0, v1, v2, v3, v4, v5, v6, v7, v8⟩ := Blk.c9 hv)
                            | (have hg1 := g1; go_at_call 33; refine (hH _ (by repeat (first | exact hbb | refine Below.drew ?_ | refine Below.setCell ?_ (by (try simp); try omega) _ | refine Below.alloc ?_ (by (try simp); try omega) _))).mono ?_; rintro e w3 ⟨rfl, hb3⟩; have hbb := X.grow (w := wr) (by repeat (first | exact hbb | refine Below.drew ?_ | refine Below.setCell ?_ (by (try simp); try omega) _ | refine Below.alloc ?_ (by (try simp); try omega) _)) hb3; have hzz := hbb.size; have hv := hv.kept hb3; obtain ⟨v0, v1, v2, v3, v4, v5, v6, v7, v8⟩ := Blk.c9 hv)
                            | (go_at_call 33; refine (hF _ (by repeat (first | exact hbb | refine Below.drew ?_ | refine Below.setCell ?_ (by (try simp); try omega) _ | refine Below.alloc ?_ (by (try simp); try omega) _))).mono ?_; rintro e w2 ⟨rfl, hb2⟩; have g1 := hb2; have hbb := X.grow (w := wr) (by repeat (first | exact hbb | refine Below.drew ?_ | refine Below.setCell ?_ (by (try simp); try omega) _ | refine Below.alloc ?_ (by (try simp); try omega) _)) hb2; have hzz := hbb.size; have hv := hv.kept hb2; obtain ⟨v0, v1, v2, v3, v4, v5, v6, v7, v8⟩ := Blk.c9 hv))
                          go_ret
                          exact ⟨ret_b HN.out.symm, hb.trans (Below.mono (by repeat (first | exact hbb | refine Below.drew ?_ | refine Below.setCell ?_ (by (try simp); try omega) _ | refine Below.alloc ?_ (by (try simp); try omega) _)) hsz)⟩
                        · rw [hf] at hF
                          cases hh : p[k].q.all nameB
                          · rw [hh] at hH
                            have HN := Lib.hid (HU.out (by rw [HV.out, hh]; simp))
                            clear HU HM2 HV hp6 hq8 hn hf hh
                            go_wp2_with (first
                              | (go_at_call 35; refine (hX _ (by repeat (first | exact hbb | refine Below.drew ?_ | refine Below.setCell ?_ (by (try simp); try omega) _ | refine Below.alloc ?_ (by (try simp); try omega) _))).mono ?_; rintro e w4 ⟨rfl, hb4⟩; have hbb := X.grow (w := wr) (by repeat (first | exact hbb | refine Below.drew ?_ | refine Below.setCell ?_ (by (try simp); try omega) _ | refine Below.alloc ?_ (by (try simp); try omega) _)) hb4; have hzz := hbb.size)
                              | (go_at_call 34; refine (hN _ (by repeat (first | exact hbb | refine Below.drew ?_ | refine Below.setCell ?_ (by (try simp); try omega) _ | refine Below.alloc ?_ (by (try simp); try omega) _))).mono ?_; rintro e w1 ⟨rfl, hb1⟩; have hbb := X.grow (w := wr) (by repeat (first | exact hbb | refine Below.drew ?_ | refine Below.setCell ?_ (by (try simp); try omega) _ | refine Below.alloc ?_ (by (try simp); try omega) _)) hb1; have hzz := hbb.size; have hv : Blk w1 wr.heap.size 48 #[.string p[k].t, .slice X1 p[k].p.length e1, .slice X2 p[k].q.length e2, .int .i64 p[k].x.k, .string p[k].x.t, .int .i64 p[k].x.n, .int .i64 p[k].x.l, .slice X3 p[k].x.r.length e3, .int .i64 p[k].l] := (Blk.new _ _ _).kept hb1; obtain ⟨v0, v1, v2, v3, v4, v5, v6, v7, v8⟩ := Blk.c9 hv)
                              | (have hg1 := g1; go_at_call 33; refine (hH _ (by repeat (first | exact hbb | refine Below.drew ?_ | refine Below.setCell ?_ (by (try simp); try omega) _ | refine Below.alloc ?_ (by (try simp); try omega) _))).mono ?_; rintro e w3 ⟨rfl, hb3⟩; have hbb := X.grow (w := wr) (by repeat (first | exact hbb | refine Below.drew ?_ | refine Below.setCell ?_ (by (try simp); try omega) _ | refine Below.alloc ?_ (by (try simp); try omega) _)) hb3; have hzz := hbb.size; have hv := hv.kept hb3; obtain ⟨v0, v1, v2, v3, v4, v5, v6, v7, v8⟩ := Blk.c9 hv)
                              | (go_at_call 33; refine (hF _ (by repeat (first | exact hbb | refine Below.drew ?_ | refine Below.setCell ?_ (by (try simp); try omega) _ | refine Below.alloc ?_ (by (try simp); try omega) _))).mono ?_; rintro e w2 ⟨rfl, hb2⟩; have g1 := hb2; have hbb := X.grow (w := wr) (by repeat (first | exact hbb | refine Below.drew ?_ | refine Below.setCell ?_ (by (try simp); try omega) _ | refine Below.alloc ?_ (by (try simp); try omega) _)) hb2; have hzz := hbb.size; have hv := hv.kept hb2; obtain ⟨v0, v1, v2, v3, v4, v5, v6, v7, v8⟩ := Blk.c9 hv))
                            go_ret
                            exact ⟨ret_b HN.out.symm, hb.trans (Below.mono (by repeat (first | exact hbb | refine Below.drew ?_ | refine Below.setCell ?_ (by (try simp); try omega) _ | refine Below.alloc ?_ (by (try simp); try omega) _)) hsz)⟩
                          · rw [hh] at hH
                            by_cases hl : p[k].l < 0
                            · have i_hl : p[k].l < 0 := by omega
                              have HN := Lib.hid (HU.out (by rw [HV.out, decide_eq_false (show ¬ 0 ≤ p[k].l by omega)]; simp))
                              clear HU HM2 HV hp6 hq8 hn hf hh hl
                              go_wp2_with (first
                                | (go_at_call 35; refine (hX _ (by repeat (first | exact hbb | refine Below.drew ?_ | refine Below.setCell ?_ (by (try simp); try omega) _ | refine Below.alloc ?_ (by (try simp); try omega) _))).mono ?_; rintro e w4 ⟨rfl, hb4⟩; have hbb := X.grow (w := wr) (by repeat (first | exact hbb | refine Below.drew ?_ | refine Below.setCell ?_ (by (try simp); try omega) _ | refine Below.alloc ?_ (by (try simp); try omega) _)) hb4; have hzz := hbb.size)
                                | (go_at_call 34; refine (hN _ (by repeat (first | exact hbb | refine Below.drew ?_ | refine Below.setCell ?_ (by (try simp); try omega) _ | refine Below.alloc ?_ (by (try simp); try omega) _))).mono ?_; rintro e w1 ⟨rfl, hb1⟩; have hbb := X.grow (w := wr) (by repeat (first | exact hbb | refine Below.drew ?_ | refine Below.setCell ?_ (by (try simp); try omega) _ | refine Below.alloc ?_ (by (try simp); try omega) _)) hb1; have hzz := hbb.size; have hv : Blk w1 wr.heap.size 48 #[.string p[k].t, .slice X1 p[k].p.length e1, .slice X2 p[k].q.length e2, .int .i64 p[k].x.k, .string p[k].x.t, .int .i64 p[k].x.n, .int .i64 p[k].x.l, .slice X3 p[k].x.r.length e3, .int .i64 p[k].l] := (Blk.new _ _ _).kept hb1; obtain ⟨v0, v1, v2, v3, v4, v5, v6, v7, v8⟩ := Blk.c9 hv)
                                | (have hg1 := g1; go_at_call 33; refine (hH _ (by repeat (first | exact hbb | refine Below.drew ?_ | refine Below.setCell ?_ (by (try simp); try omega) _ | refine Below.alloc ?_ (by (try simp); try omega) _))).mono ?_; rintro e w3 ⟨rfl, hb3⟩; have hbb := X.grow (w := wr) (by repeat (first | exact hbb | refine Below.drew ?_ | refine Below.setCell ?_ (by (try simp); try omega) _ | refine Below.alloc ?_ (by (try simp); try omega) _)) hb3; have hzz := hbb.size; have hv := hv.kept hb3; obtain ⟨v0, v1, v2, v3, v4, v5, v6, v7, v8⟩ := Blk.c9 hv)
                                | (go_at_call 33; refine (hF _ (by repeat (first | exact hbb | refine Below.drew ?_ | refine Below.setCell ?_ (by (try simp); try omega) _ | refine Below.alloc ?_ (by (try simp); try omega) _))).mono ?_; rintro e w2 ⟨rfl, hb2⟩; have g1 := hb2; have hbb := X.grow (w := wr) (by repeat (first | exact hbb | refine Below.drew ?_ | refine Below.setCell ?_ (by (try simp); try omega) _ | refine Below.alloc ?_ (by (try simp); try omega) _)) hb2; have hzz := hbb.size; have hv := hv.kept hb2; obtain ⟨v0, v1, v2, v3, v4, v5, v6, v7, v8⟩ := Blk.c9 hv))
                              go_ret
                              exact ⟨ret_b HN.out.symm, hb.trans (Below.mono (by repeat (first | exact hbb | refine Below.drew ?_ | refine Below.setCell ?_ (by (try simp); try omega) _ | refine Below.alloc ?_ (by (try simp); try omega) _)) hsz)⟩
                            · have i_hl : ¬ p[k].l < 0 := by omega
                              by_cases hk14 : ¬ p[k].x.k = 14
                              · have i_hk14 : (p[k].x.k != 14) = true := by simpa using hk14
                                have HN := Lib.hid (HU.out (by rw [HV.out, decide_eq_false hk14]; simp))
                                clear HU HM2 HV hp6 hq8 hn hf hh hl hk14
                                go_wp2_with (first
                                  | (go_at_call 35; refine (hX _ (by repeat (first | exact hbb | refine Below.drew ?_ | refine Below.setCell ?_ (by (try simp); try omega) _ | refine Below.alloc ?_ (by (try simp); try omega) _))).mono ?_; rintro e w4 ⟨rfl, hb4⟩; have hbb := X.grow (w := wr) (by repeat (first | exact hbb | refine Below.drew ?_ | refine Below.setCell ?_ (by (try simp); try omega) _ | refine Below.alloc ?_ (by (try simp); try omega) _)) hb4; have hzz := hbb.size)
                                  | (go_at_call 34; refine (hN _ (by repeat (first | exact hbb | refine Below.drew ?_ | refine Below.setCell ?_ (by (try simp); try omega) _ | refine Below.alloc ?_ (by (try simp); try omega) _))).mono ?_; rintro e w1 ⟨rfl, hb1⟩; have hbb := X.grow (w := wr) (by repeat (first | exact hbb | refine Below.drew ?_ | refine Below.setCell ?_ (by (try simp); try omega) _ | refine Below.alloc ?_ (by (try simp); try omega) _)) hb1; have hzz := hbb.size; have hv : Blk w1 wr.heap.size 48 #[.string p[k].t, .slice X1 p[k].p.length e1, .slice X2 p[k].q.length e2, .int .i64 p[k].x.k, .string p[k].x.t, .int .i64 p[k].x.n, .int .i64 p[k].x.l, .slice X3 p[k].x.r.length e3, .int .i64 p[k].l] := (Blk.new _ _ _).kept hb1; obtain ⟨v0, v1, v2, v3, v4, v5, v6, v7, v8⟩ := Blk.c9 hv)
                                  | (have hg1 := g1; go_at_call 33; refine (hH _ (by repeat (first | exact hbb | refine Below.drew ?_ | refine Below.setCell ?_ (by (try simp); try omega) _ | refine Below.alloc ?_ (by (try simp); try omega) _))).mono ?_; rintro e w3 ⟨rfl, hb3⟩; have hbb := X.grow (w := wr) (by repeat (first | exact hbb | refine Below.drew ?_ | refine Below.setCell ?_ (by (try simp); try omega) _ | refine Below.alloc ?_ (by (try simp); try omega) _)) hb3; have hzz := hbb.size; have hv := hv.kept hb3; obtain ⟨v0, v1, v2, v3, v4, v5, v6, v7, v8⟩ := Blk.c9 hv)
                                  | (go_at_call 33; refine (hF _ (by repeat (first | exact hbb | refine Below.drew ?_ | refine Below.setCell ?_ (by (try simp); try omega) _ | refine Below.alloc ?_ (by (try simp); try omega) _))).mono ?_; rintro e w2 ⟨rfl, hb2⟩; have g1 := hb2; have hbb := X.grow (w := wr) (by repeat (first | exact hbb | refine Below.drew ?_ | refine Below.setCell ?_ (by (try simp); try omega) _ | refine Below.alloc ?_ (by (try simp); try omega) _)) hb2; have hzz := hbb.size; have hv := hv.kept hb2; obtain ⟨v0, v1, v2, v3, v4, v5, v6, v7, v8⟩ := Blk.c9 hv))
                                go_ret
                                exact ⟨ret_b HN.out.symm, hb.trans (Below.mono (by repeat (first | exact hbb | refine Below.drew ?_ | refine Below.setCell ?_ (by (try simp); try omega) _ | refine Below.alloc ?_ (by (try simp); try omega) _)) hsz)⟩
                              · have i_hk14 : (p[k].x.k != 14) = false := by simpa using hk14
                                cases hx : X.vldE X.wdB p[k].x
                                · rw [hx] at hX
                                  have HN := Lib.hid (HU.out (by rw [HV.out, hx]; simp))
                                  clear HU HM2 HV hp6 hq8 hn hf hh hl hk14 hx
                                  go_wp2_with (first
                                    | (go_at_call 35; refine (hX _ (by repeat (first | exact hbb | refine Below.drew ?_ | refine Below.setCell ?_ (by (try simp); try omega) _ | refine Below.alloc ?_ (by (try simp); try omega) _))).mono ?_; rintro e w4 ⟨rfl, hb4⟩; have hbb := X.grow (w := wr) (by repeat (first | exact hbb | refine Below.drew ?_ | refine Below.setCell ?_ (by (try simp); try omega) _ | refine Below.alloc ?_ (by (try simp); try omega) _)) hb4; have hzz := hbb.size)
                                    | (go_at_call 34; refine (hN _ (by repeat (first | exact hbb | refine Below.drew ?_ | refine Below.setCell ?_ (by (try simp); try omega) _ | refine Below.alloc ?_ (by (try simp); try omega) _))).mono ?_; rintro e w1 ⟨rfl, hb1⟩; have hbb := X.grow (w := wr) (by repeat (first | exact hbb | refine Below.drew ?_ | refine Below.setCell ?_ (by (try simp); try omega) _ | refine Below.alloc ?_ (by (try simp); try omega) _)) hb1; have hzz := hbb.size; have hv : Blk w1 wr.heap.size 48 #[.string p[k].t, .slice X1 p[k].p.length e1, .slice X2 p[k].q.length e2, .int .i64 p[k].x.k, .string p[k].x.t, .int .i64 p[k].x.n, .int .i64 p[k].x.l, .slice X3 p[k].x.r.length e3, .int .i64 p[k].l] := (Blk.new _ _ _).kept hb1; obtain ⟨v0, v1, v2, v3, v4, v5, v6, v7, v8⟩ := Blk.c9 hv)
                                    | (have hg1 := g1; go_at_call 33; refine (hH _ (by repeat (first | exact hbb | refine Below.drew ?_ | refine Below.setCell ?_ (by (try simp); try omega) _ | refine Below.alloc ?_ (by (try simp); try omega) _))).mono ?_; rintro e w3 ⟨rfl, hb3⟩; have hbb := X.grow (w := wr) (by repeat (first | exact hbb | refine Below.drew ?_ | refine Below.setCell ?_ (by (try simp); try omega) _ | refine Below.alloc ?_ (by (try simp); try omega) _)) hb3; have hzz := hbb.size; have hv := hv.kept hb3; obtain ⟨v0, v1, v2, v3, v4, v5, v6, v7, v8⟩ := Blk.c9 hv)
                                    | (go_at_call 33; refine (hF _ (by repeat (first | exact hbb | refine Below.drew ?_ | refine Below.setCell ?_ (by (try simp); try omega) _ | refine Below.alloc ?_ (by (try simp); try omega) _))).mono ?_; rintro e w2 ⟨rfl, hb2⟩; have g1 := hb2; have hbb := X.grow (w := wr) (by repeat (first | exact hbb | refine Below.drew ?_ | refine Below.setCell ?_ (by (try simp); try omega) _ | refine Below.alloc ?_ (by (try simp); try omega) _)) hb2; have hzz := hbb.size; have hv := hv.kept hb2; obtain ⟨v0, v1, v2, v3, v4, v5, v6, v7, v8⟩ := Blk.c9 hv))
                                  go_ret
                                  exact ⟨ret_b HN.out.symm, hb.trans (Below.mono (by repeat (first | exact hbb | refine Below.drew ?_ | refine Below.setCell ?_ (by (try simp); try omega) _ | refine Below.alloc ?_ (by (try simp); try omega) _)) hsz)⟩
                                · rw [hx] at hX
                                  have HN := Lib.hid (HM2.out (by rw [HV.out, decide_eq_true (show p[k].p.length ≤ 6 by omega), decide_eq_true (show p[k].q.length ≤ 8 by omega), hn, hf, hh, decide_eq_true (show 0 ≤ p[k].l by omega), decide_eq_true (show p[k].x.k = 14 by omega), hx]; rfl))
                                  clear HU HM2 HV hp6 hq8 hn hf hh hl hk14 hx
                                  go_wp2_with (first
                                    | (go_at_call 35; refine (hX _ (by repeat (first | exact hbb | refine Below.drew ?_ | refine Below.setCell ?_ (by (try simp); try omega) _ | refine Below.alloc ?_ (by (try simp); try omega) _))).mono ?_; rintro e w4 ⟨rfl, hb4⟩; have hbb := X.grow (w := wr) (by repeat (first | exact hbb | refine Below.drew ?_ | refine Below.setCell ?_ (by (try simp); try omega) _ | refine Below.alloc ?_ (by (try simp); try omega) _)) hb4; have hzz := hbb.size)
                                    | (go_at_call 34; refine (hN _ (by repeat (first | exact hbb | refine Below.drew ?_ | refine Below.setCell ?_ (by (try simp); try omega) _ | refine Below.alloc ?_ (by (try simp); try omega) _))).mono ?_; rintro e w1 ⟨rfl, hb1⟩; have hbb := X.grow (w := wr) (by repeat (first | exact hbb | refine Below.drew ?_ | refine Below.setCell ?_ (by (try simp); try omega) _ | refine Below.alloc ?_ (by (try simp); try omega) _)) hb1; have hzz := hbb.size; have hv : Blk w1 wr.heap.size 48 #[.string p[k].t, .slice X1 p[k].p.length e1, .slice X2 p[k].q.length e2, .int .i64 p[k].x.k, .string p[k].x.t, .int .i64 p[k].x.n, .int .i64 p[k].x.l, .slice X3 p[k].x.r.length e3, .int .i64 p[k].l] := (Blk.new _ _ _).kept hb1; obtain ⟨v0, v1, v2, v3, v4, v5, v6, v7, v8⟩ := Blk.c9 hv)
                                    | (have hg1 := g1; go_at_call 33; refine (hH _ (by repeat (first | exact hbb | refine Below.drew ?_ | refine Below.setCell ?_ (by (try simp); try omega) _ | refine Below.alloc ?_ (by (try simp); try omega) _))).mono ?_; rintro e w3 ⟨rfl, hb3⟩; have hbb := X.grow (w := wr) (by repeat (first | exact hbb | refine Below.drew ?_ | refine Below.setCell ?_ (by (try simp); try omega) _ | refine Below.alloc ?_ (by (try simp); try omega) _)) hb3; have hzz := hbb.size; have hv := hv.kept hb3; obtain ⟨v0, v1, v2, v3, v4, v5, v6, v7, v8⟩ := Blk.c9 hv)
                                    | (go_at_call 33; refine (hF _ (by repeat (first | exact hbb | refine Below.drew ?_ | refine Below.setCell ?_ (by (try simp); try omega) _ | refine Below.alloc ?_ (by (try simp); try omega) _))).mono ?_; rintro e w2 ⟨rfl, hb2⟩; have g1 := hb2; have hbb := X.grow (w := wr) (by repeat (first | exact hbb | refine Below.drew ?_ | refine Below.setCell ?_ (by (try simp); try omega) _ | refine Below.alloc ?_ (by (try simp); try omega) _)) hb2; have hzz := hbb.size; have hv := hv.kept hb2; obtain ⟨v0, v1, v2, v3, v4, v5, v6, v7, v8⟩ := Blk.c9 hv))
                                  go_roundw
                                  case rel => exact ⟨k + 1, by go_num, HN, by omega, hb.trans (Below.mono (by repeat (first | exact hbb | refine Below.drew ?_ | refine Below.setCell ?_ (by (try simp); try omega) _ | refine Below.alloc ?_ (by (try simp); try omega) _)) hsz)⟩
                                  case measure => simp [intOf]; omega
                · obtain rfl : k = p.length := by omega
                  have HN := Lib.hid (show vldU ⟨r, g, p⟩ = true by have h1 := HH.out; have h2 := HR.out; have h3 := all_yes (f := vldP) (l := p) fun i h => HM.out i h h; unfold vldU; show (decide (r.length ≤ 8) && (decide (g.length ≤ 12) && (decide (p.length ≤ 12) && (g.all nameB && (r.all vldR && p.all vldP))))) = true; rw [decide_eq_true h1.1, decide_eq_true h1.2.1, decide_eq_true h1.2.2.1, h1.2.2.2, h2, h3]; rfl)
                  clear HM
                  go_wp2_with fail
                  go_ret
                  exact ⟨ret_b HN.out.symm, hb⟩
end Go.Proofs.YtljblaglfooclaaGreatDoor

namespace Go.Proofs.YtljblaglfooclaaGreatDoor
open Go.RowKit

theorem bad_u {a b x y z : Bool} (h : (a && b) = false) : (x && (b && (y && (a && z)))) = false := by revert h; cases a <;> cases b <;> simp
theorem bad_r {a b x y : Bool} (h : (a && b) = false) : (b && (x && (a && y))) = false := by revert h; cases a <;> cases b <;> simp
theorem bad_f {a b x y z : Bool} (h : (a && b) = false) : (b && (x && (y && (a && z)))) = false := by revert h; cases a <;> cases b <;> simp
theorem bad_h {a b x y u z : Bool} (h : (a && b) = false) : (x && (b && (y && (u && (a && z))))) = false := by revert h; cases a <;> cases b <;> simp
set_option maxHeartbeats 8000000 in
theorem specValidUnit (u : Un) (s1 s2 s3 : Value) (P : Nat → Prop) (w : World) (hK : Urd X.Kd w P u s1 s2 s3) (hP : ∀ b, P b → b < w.heap.size) (hw : u.Wf) (hs : u.siz ≤ 1048576) :
    Calls Tryz.prog 12 #[.agg #[s1, s2, s3]] w fun e w' => e = .returned (.bool (vldU u)) ∧ Below w.heap.size w w' := by
  obtain ⟨hK1, hK2, hK3⟩ := hK
  obtain ⟨A1, d1, rfl⟩ := hK1.form
  obtain ⟨A2, d2, rfl⟩ := hK2.form
  obtain ⟨A3, d3, rfl⟩ := hK3.form
  obtain ⟨r, g, p⟩ := u
  obtain ⟨z1, z2, z3, z4, z5, z6⟩ := un_sz hs
  have hWp : ∀ i (h : i < p.length), X.Wf p[i].x := fun i h => (hw.2.2.2 i h).2.2.2
  clear hw hs
  replace hK1 : Rts w P r (.slice A1 r.length d1) := hK1
  replace hK2 : Sr w P (.slice A2 g.length d2) g := hK2
  replace hK3 : Pds X.Kd w P p (.slice A3 p.length d3) := hK3
  show Calls Tryz.prog 12 #[.agg #[.slice A1 r.length d1, .slice A2 g.length d2, .slice A3 p.length d3]] w fun e w' => e = .returned (.bool (vldU ⟨r, g, p⟩)) ∧ Below w.heap.size w w'
  have hbb : Below w.heap.size w w := Below.refl _ _
  have hzz := hbb.size
  have hG : ∀ W : World, Below w.heap.size w W → Calls Tryz.prog 26 #[.slice A2 g.length d2, .int .i64 12] W fun e w' => e = .returned (.bool (g.all nameB && decide (g.length ≤ 12))) ∧ Below W.heap.size W w' := fun W hW => specNames g 12 _ P W (hK2.below hW hP) (fun b hb => Nat.lt_of_lt_of_le (hP b hb) hW.size) z2 (li_sz z4)
  by_cases h1 : 8 < r.length
  · have i_h1 : (8 : Int) < (r.length : Int) := by omega
    have HN := Lib.hid (show vldU ⟨r, g, p⟩ = false by unfold vldU; show (decide (r.length ≤ 8) && (decide (g.length ≤ 12) && (decide (p.length ≤ 12) && (g.all nameB && (r.all vldR && p.all vldP))))) = false; rw [decide_eq_false (show ¬ r.length ≤ 8 by omega)]; simp)
    clear h1
    go_enter Tryz.func12, Tryz.ntmps12
    go_wp2_with (go_at_call 26; refine (hG _ (by repeat (first | exact hbb | refine Below.drew ?_ | refine Below.setCell ?_ (by (try simp); try omega) _ | refine Below.alloc ?_ (by (try simp); try omega) _))).mono ?_; rintro e w1 ⟨rfl, hb1⟩; have hbb := X.grow (w := w) (by repeat (first | exact hbb | refine Below.drew ?_ | refine Below.setCell ?_ (by (try simp); try omega) _ | refine Below.alloc ?_ (by (try simp); try omega) _)) hb1; have hzz := hbb.size; have hB : Blk w1 w.heap.size 33 #[.slice A1 r.length d1, .slice A2 g.length d2, .slice A3 p.length d3] := (Blk.new _ _ _).kept hb1; obtain ⟨a0, a1, a2⟩ := Blk.c3 hB)
    go_ret
    exact ⟨ret_b HN.out.symm, by repeat (first | exact hbb | refine Below.drew ?_ | refine Below.setCell ?_ (by (try simp); try omega) _ | refine Below.alloc ?_ (by (try simp); try omega) _)⟩
  · have i_h1 : ¬ (8 : Int) < (r.length : Int) := by omega
    by_cases h3 : 12 < p.length
    · have i_h3 : (12 : Int) < (p.length : Int) := by omega
      have HN := Lib.hid (show vldU ⟨r, g, p⟩ = false by unfold vldU; show (decide (r.length ≤ 8) && (decide (g.length ≤ 12) && (decide (p.length ≤ 12) && (g.all nameB && (r.all vldR && p.all vldP))))) = false; rw [decide_eq_false (show ¬ p.length ≤ 12 by omega)]; simp)
      clear h1 h3
      go_enter Tryz.func12, Tryz.ntmps12
      go_wp2_with (go_at_call 26; refine (hG _ (by repeat (first | exact hbb | refine Below.drew ?_ | refine Below.setCell ?_ (by (try simp); try omega) _ | refine Below.alloc ?_ (by (try simp); try omega) _))).mono ?_; rintro e w1 ⟨rfl, hb1⟩; have hbb := X.grow (w := w) (by repeat (first | exact hbb | refine Below.drew ?_ | refine Below.setCell ?_ (by (try simp); try omega) _ | refine Below.alloc ?_ (by (try simp); try omega) _)) hb1; have hzz := hbb.size; have hB : Blk w1 w.heap.size 33 #[.slice A1 r.length d1, .slice A2 g.length d2, .slice A3 p.length d3] := (Blk.new _ _ _).kept hb1; obtain ⟨a0, a1, a2⟩ := Blk.c3 hB)
      go_ret
      exact ⟨ret_b HN.out.symm, by repeat (first | exact hbb | refine Below.drew ?_ | refine Below.setCell ?_ (by (try simp); try omega) _ | refine Below.alloc ?_ (by (try simp); try omega) _)⟩
    · have i_h3 : ¬ (12 : Int) < (p.length : Int) := by omega
      cases h4 : (g.all nameB && decide (g.length ≤ 12))
      · rw [h4] at hG
        have HN := Lib.hid (show vldU ⟨r, g, p⟩ = false by unfold vldU; show (decide (r.length ≤ 8) && (decide (g.length ≤ 12) && (decide (p.length ≤ 12) && (g.all nameB && (r.all vldR && p.all vldP))))) = false; exact bad_u h4)
        clear h1 h3 h4
        go_enter Tryz.func12, Tryz.ntmps12
        go_wp2_with (go_at_call 26; refine (hG _ (by repeat (first | exact hbb | refine Below.drew ?_ | refine Below.setCell ?_ (by (try simp); try omega) _ | refine Below.alloc ?_ (by (try simp); try omega) _))).mono ?_; rintro e w1 ⟨rfl, hb1⟩; have hbb := X.grow (w := w) (by repeat (first | exact hbb | refine Below.drew ?_ | refine Below.setCell ?_ (by (try simp); try omega) _ | refine Below.alloc ?_ (by (try simp); try omega) _)) hb1; have hzz := hbb.size; have hB : Blk w1 w.heap.size 33 #[.slice A1 r.length d1, .slice A2 g.length d2, .slice A3 p.length d3] := (Blk.new _ _ _).kept hb1; obtain ⟨a0, a1, a2⟩ := Blk.c3 hB)
        go_ret
        exact ⟨ret_b HN.out.symm, by repeat (first | exact hbb | refine Below.drew ?_ | refine Below.setCell ?_ (by (try simp); try omega) _ | refine Below.alloc ?_ (by (try simp); try omega) _)⟩
      · rw [h4] at hG
        have HH := Lib.hid (show r.length ≤ 8 ∧ g.length ≤ 12 ∧ p.length ≤ 12 ∧ g.all nameB = true from ⟨by omega, by simpa using (Bool.and_eq_true_iff.1 h4).2, by omega, (Bool.and_eq_true_iff.1 h4).1⟩)
        clear h1 h3 h4
        go_enter Tryz.func12, Tryz.ntmps12
        go_wp2_with (go_at_call 26; refine (hG _ (by repeat (first | exact hbb | refine Below.drew ?_ | refine Below.setCell ?_ (by (try simp); try omega) _ | refine Below.alloc ?_ (by (try simp); try omega) _))).mono ?_; rintro e w1 ⟨rfl, hb1⟩; have hbb := X.grow (w := w) (by repeat (first | exact hbb | refine Below.drew ?_ | refine Below.setCell ?_ (by (try simp); try omega) _ | refine Below.alloc ?_ (by (try simp); try omega) _)) hb1; have hzz := hbb.size; have hB : Blk w1 w.heap.size 33 #[.slice A1 r.length d1, .slice A2 g.length d2, .slice A3 p.length d3] := (Blk.new _ _ _).kept hb1; obtain ⟨a0, a1, a2⟩ := Blk.c3 hB)
        clear hG
        go_loopw [3, 4] (fun i _ wr => ∃ j : Nat, i = .int .i64 j ∧ Hid (∀ i (h : i < r.length), i < j → vldR r[i] = true) ∧ j ≤ r.length ∧ Below w.heap.size w wr ∧ Blk wr w.heap.size 33 #[.slice A1 r.length d1, .slice A2 g.length d2, .slice A3 p.length d3]) (fun i _ _ => r.length - (intOf i).toNat)
        case atStart => exact ⟨0, rfl, Lib.hid (fun i _ h => by omega), by omega, hbb, hB⟩
        case round =>
          clear a0 a1 a2 hbb hzz hB
          obtain ⟨j, rfl, HM, hj, hb, hB⟩ := hrel
          have hsz := hb.size
          obtain ⟨a0, a1, a2⟩ := Blk.c3 hB
          by_cases hlt : j < r.length
          · have i1 : (j : Int) < (r.length : Int) := by omega
            obtain ⟨b, o, x1, rfl, hPb, hs1, c0, c1, c2⟩ := Rts.at_ (hK1.below hb hP) hlt
            obtain ⟨y1, y2, y3⟩ := rt_sz (z5 j hlt)
            have hN : ∀ W : World, Calls Tryz.prog 27 #[.string r[j].t] W fun e w' => e = .returned (.bool (nameB r[j].t)) ∧ Below W.heap.size W w' := fun W => specName r[j].t y1 W
            have hF : ∀ W : World, Below wr.heap.size wr W → Calls Tryz.prog 26 #[x1, .int .i64 6] W fun e w' => e = .returned (.bool (r[j].f.all nameB && decide (r[j].f.length ≤ 6))) ∧ Below W.heap.size W w' := fun W hW => specNames r[j].f 6 _ P W (hs1.below hW (fun b hb => Nat.lt_of_lt_of_le (hP b hb) hsz)) (fun b hb => Nat.lt_of_lt_of_le (hP b hb) (Nat.le_trans hsz hW.size)) y2 y3
            obtain ⟨X1, e1, rfl⟩ := hs1.form
            have HU := Lib.hid (fun hf : vldR r[j] = false => vldU_r (u := ⟨r, g, p⟩) hlt hf)
            have HM2 : Hid (vldR r[j] = true → ∀ i (h : i < r.length), i < j + 1 → vldR r[i] = true) := Lib.hid fun ht i h hi => by
              by_cases hij : i = j
              · subst hij; exact ht
              · exact HM.out i h (by omega)
            have HV := Lib.hid (show vldR r[j] = (decide (r[j].f.length ≤ 6) && (nameB r[j].t && (r[j].f.all nameB && decide (0 ≤ r[j].l)))) from rfl)
            have hbb : Below wr.heap.size wr wr := Below.refl _ _
            have hzz := hbb.size
            clear y1 y2 y3 hs1 HM
            cases hn : nameB r[j].t
            · rw [hn] at hN
              have HN := Lib.hid (HU.out (by rw [HV.out, hn]; simp))
              clear HU HM2 HV hn
              go_wp2_with (first
                | (go_at_call 27; refine (hN _).mono ?_; rintro e w1 ⟨rfl, hb1⟩; have hbb := X.grow (w := wr) (by repeat (first | exact hbb | refine Below.drew ?_ | refine Below.setCell ?_ (by (try simp); try omega) _ | refine Below.alloc ?_ (by (try simp); try omega) _)) hb1; have hzz := hbb.size; have hv : Blk w1 wr.heap.size 42 #[.string r[j].t, .slice X1 r[j].f.length e1, .int .i64 r[j].l] := (Blk.new _ _ _).kept hb1; obtain ⟨v0, v1, v2⟩ := Blk.c3 hv)
                | (go_at_call 26; refine (hF _ (by repeat (first | exact hbb | refine Below.drew ?_ | refine Below.setCell ?_ (by (try simp); try omega) _ | refine Below.alloc ?_ (by (try simp); try omega) _))).mono ?_; rintro e w2 ⟨rfl, hb2⟩; have hbb := X.grow (w := wr) (by repeat (first | exact hbb | refine Below.drew ?_ | refine Below.setCell ?_ (by (try simp); try omega) _ | refine Below.alloc ?_ (by (try simp); try omega) _)) hb2; have hzz := hbb.size; have hv := hv.kept hb2; obtain ⟨v0, v1, v2⟩ := Blk.c3 hv))
              go_ret
              exact ⟨ret_b HN.out.symm, hb.trans (Below.mono (by repeat (first | exact hbb | refine Below.drew ?_ | refine Below.setCell ?_ (by (try simp); try omega) _ | refine Below.alloc ?_ (by (try simp); try omega) _)) hsz)⟩
            · rw [hn] at hN
              cases hf : (r[j].f.all nameB && decide (r[j].f.length ≤ 6))
              · rw [hf] at hF
                have HN := Lib.hid (HU.out (by rw [HV.out]; exact bad_r hf))
                clear HU HM2 HV hn hf
                go_wp2_with (first
                  | (go_at_call 27; refine (hN _).mono ?_; rintro e w1 ⟨rfl, hb1⟩; have hbb := X.grow (w := wr) (by repeat (first | exact hbb | refine Below.drew ?_ | refine Below.setCell ?_ (by (try simp); try omega) _ | refine Below.alloc ?_ (by (try simp); try omega) _)) hb1; have hzz := hbb.size; have hv : Blk w1 wr.heap.size 42 #[.string r[j].t, .slice X1 r[j].f.length e1, .int .i64 r[j].l] := (Blk.new _ _ _).kept hb1; obtain ⟨v0, v1, v2⟩ := Blk.c3 hv)
                  | (go_at_call 26; refine (hF _ (by repeat (first | exact hbb | refine Below.drew ?_ | refine Below.setCell ?_ (by (try simp); try omega) _ | refine Below.alloc ?_ (by (try simp); try omega) _))).mono ?_; rintro e w2 ⟨rfl, hb2⟩; have hbb := X.grow (w := wr) (by repeat (first | exact hbb | refine Below.drew ?_ | refine Below.setCell ?_ (by (try simp); try omega) _ | refine Below.alloc ?_ (by (try simp); try omega) _)) hb2; have hzz := hbb.size; have hv := hv.kept hb2; obtain ⟨v0, v1, v2⟩ := Blk.c3 hv))
                go_ret
                exact ⟨ret_b HN.out.symm, hb.trans (Below.mono (by repeat (first | exact hbb | refine Below.drew ?_ | refine Below.setCell ?_ (by (try simp); try omega) _ | refine Below.alloc ?_ (by (try simp); try omega) _)) hsz)⟩
              · rw [hf] at hF
                by_cases hl : r[j].l < 0
                · have i_hl : r[j].l < 0 := by omega
                  have HN := Lib.hid (HU.out (by rw [HV.out, decide_eq_false (show ¬ 0 ≤ r[j].l by omega)]; simp))
                  clear HU HM2 HV hn hf hl
                  go_wp2_with (first
                    | (go_at_call 27; refine (hN _).mono ?_; rintro e w1 ⟨rfl, hb1⟩; have hbb := X.grow (w := wr) (by repeat (first | exact hbb | refine Below.drew ?_ | refine Below.setCell ?_ (by (try simp); try omega) _ | refine Below.alloc ?_ (by (try simp); try omega) _)) hb1; have hzz := hbb.size; have hv : Blk w1 wr.heap.size 42 #[.string r[j].t, .slice X1 r[j].f.length e1, .int .i64 r[j].l] := (Blk.new _ _ _).kept hb1; obtain ⟨v0, v1, v2⟩ := Blk.c3 hv)
                    | (go_at_call 26; refine (hF _ (by repeat (first | exact hbb | refine Below.drew ?_ | refine Below.setCell ?_ (by (try simp); try omega) _ | refine Below.alloc ?_ (by (try simp); try omega) _))).mono ?_; rintro e w2 ⟨rfl, hb2⟩; have hbb := X.grow (w := wr) (by repeat (first | exact hbb | refine Below.drew ?_ | refine Below.setCell ?_ (by (try simp); try omega) _ | refine Below.alloc ?_ (by (try simp); try omega) _)) hb2; have hzz := hbb.size; have hv := hv.kept hb2; obtain ⟨v0, v1, v2⟩ := Blk.c3 hv))
                  go_ret
                  exact ⟨ret_b HN.out.symm, hb.trans (Below.mono (by repeat (first | exact hbb | refine Below.drew ?_ | refine Below.setCell ?_ (by (try simp); try omega) _ | refine Below.alloc ?_ (by (try simp); try omega) _)) hsz)⟩
                · have i_hl : ¬ r[j].l < 0 := by omega
                  have HN := Lib.hid (HM2.out (by rw [HV.out, hn, (Bool.and_eq_true_iff.1 hf).1, (Bool.and_eq_true_iff.1 hf).2, decide_eq_true (show 0 ≤ r[j].l by omega)]; rfl))
                  clear HU HM2 HV hn hf hl
                  go_wp2_with (first
                    | (go_at_call 27; refine (hN _).mono ?_; rintro e w1 ⟨rfl, hb1⟩; have hbb := X.grow (w := wr) (by repeat (first | exact hbb | refine Below.drew ?_ | refine Below.setCell ?_ (by (try simp); try omega) _ | refine Below.alloc ?_ (by (try simp); try omega) _)) hb1; have hzz := hbb.size; have hv : Blk w1 wr.heap.size 42 #[.string r[j].t, .slice X1 r[j].f.length e1, .int .i64 r[j].l] := (Blk.new _ _ _).kept hb1; obtain ⟨v0, v1, v2⟩ := Blk.c3 hv)
                    | (go_at_call 26; refine (hF _ (by repeat (first | exact hbb | refine Below.drew ?_ | refine Below.setCell ?_ (by (try simp); try omega) _ | refine Below.alloc ?_ (by (try simp); try omega) _))).mono ?_; rintro e w2 ⟨rfl, hb2⟩; have hbb := X.grow (w := wr) (by repeat (first | exact hbb | refine Below.drew ?_ | refine Below.setCell ?_ (by (try simp); try omega) _ | refine Below.alloc ?_ (by (try simp); try omega) _)) hb2; have hzz := hbb.size; have hv := hv.kept hb2; obtain ⟨v0, v1, v2⟩ := Blk.c3 hv))
                  go_roundw
                  case rel => exact ⟨j + 1, by go_num, HN, by omega, hb.trans (Below.mono (by repeat (first | exact hbb | refine Below.drew ?_ | refine Below.setCell ?_ (by (try simp); try omega) _ | refine Below.alloc ?_ (by (try simp); try omega) _)) hsz), hB.kept (by repeat (first | exact hbb | refine Below.drew ?_ | refine Below.setCell ?_ (by (try simp); try omega) _ | refine Below.alloc ?_ (by (try simp); try omega) _))⟩
                  case measure => simp [intOf]; omega
          · obtain rfl : j = r.length := by omega
            have HR := Lib.hid (all_yes (f := vldR) (l := r) fun i h => HM.out i h h)
            clear HM hK1 z5
            have hbb := hb
            go_wp2_with fail
            go_loopw [5, 6] (fun i _ wr => ∃ k : Nat, i = .int .i64 k ∧ Hid (∀ i (h : i < p.length), i < k → vldP p[i] = true) ∧ k ≤ p.length ∧ Below w.heap.size w wr ∧ Blk wr w.heap.size 33 #[.slice A1 r.length d1, .slice A2 g.length d2, .slice A3 p.length d3]) (fun i _ _ => p.length - (intOf i).toNat)
            case atStart => exact ⟨0, rfl, Lib.hid (fun i _ h => by omega), by omega, hb, hB⟩
            case round =>
              clear a0 a1 a2 hbb hsz hB hb
              obtain ⟨k, rfl, HM, hk, hb, hB⟩ := hrel
              have hsz := hb.size
              obtain ⟨a0, a1, a2⟩ := Blk.c3 hB
              by_cases hlt : k < p.length
              · have i1 : (k : Int) < (p.length : Int) := by omega
                obtain ⟨b, o, x1, x2, x3, rfl, hPb, hs1, hs2, hs3, c0, c1, c2, c3, c4, c5, c6, c7, c8⟩ := Pds.at_ (hK3.below hb hP) hlt
                obtain ⟨y1, ⟨y2, y3⟩, ⟨y4, y5⟩, y6⟩ := pd_sz (z6 k hlt)
                have hN : ∀ W : World, Calls Tryz.prog 27 #[.string p[k].t] W fun e w' => e = .returned (.bool (nameB p[k].t)) ∧ Below W.heap.size W w' := fun W => specName p[k].t y1 W
                have hF : ∀ W : World, Below wr.heap.size wr W → Calls Tryz.prog 26 #[x1, .int .i64 6] W fun e w' => e = .returned (.bool (p[k].p.all nameB && decide (p[k].p.length ≤ 6))) ∧ Below W.heap.size W w' := fun W hW => specNames p[k].p 6 _ P W (hs1.below hW (fun b hb => Nat.lt_of_lt_of_le (hP b hb) hsz)) (fun b hb => Nat.lt_of_lt_of_le (hP b hb) (Nat.le_trans hsz hW.size)) y2 y3
                have hH : ∀ W : World, Below wr.heap.size wr W → Calls Tryz.prog 26 #[x2, .int .i64 8] W fun e w' => e = .returned (.bool (p[k].q.all nameB && decide (p[k].q.length ≤ 8))) ∧ Below W.heap.size W w' := fun W hW => specNames p[k].q 8 _ P W (hs2.below hW (fun b hb => Nat.lt_of_lt_of_le (hP b hb) hsz)) (fun b hb => Nat.lt_of_lt_of_le (hP b hb) (Nat.le_trans hsz hW.size)) y4 y5
                have hX : ∀ W : World, Below wr.heap.size wr W → Calls Tryz.prog 28 #[.agg #[.int .i64 p[k].x.k, .string p[k].x.t, .int .i64 p[k].x.n, .int .i64 p[k].x.l, x3]] W fun e w' => e = .returned (.bool (X.vldE X.wdB p[k].x)) ∧ Below W.heap.size W w' := fun W hW => X.specIsValid p[k].x x3 P W (hs3.below hW (fun b hb => Nat.lt_of_lt_of_le (hP b hb) hsz)).rd (fun b hb => Nat.lt_of_lt_of_le (hP b hb) (Nat.le_trans hsz hW.size)) (hWp k hlt) y6
                obtain ⟨X1, e1, rfl⟩ := hs1.form
                obtain ⟨X2, e2, rfl⟩ := hs2.form
                obtain ⟨X3, e3, rfl⟩ := hs3.form
                have HU := Lib.hid (fun hf : vldP p[k] = false => vldU_p (u := ⟨r, g, p⟩) hlt hf)
                have HM2 : Hid (vldP p[k] = true → ∀ i (h : i < p.length), i < k + 1 → vldP p[i] = true) := Lib.hid fun ht i h hi => by
                  by_cases hij : i = k
                  · subst hij; exact ht
                  · exact HM.out i h (by omega)
                have HV := Lib.hid (show vldP p[k] = (decide (p[k].p.length ≤ 6) && (decide (p[k].q.length ≤ 8) && (nameB p[k].t && (p[k].p.all nameB && (p[k].q.all nameB && (decide (0 ≤ p[k].l) && (decide (p[k].x.k = 14) && X.vldE X.wdB p[k].x))))))) from rfl)
                have hbb : Below wr.heap.size wr wr := Below.refl _ _
                have hzz := hbb.size
                clear y1 y2 y3 y4 y5 y6 hs1 hs2 hs3 HM
                cases hn : nameB p[k].t
                · rw [hn] at hN
                  have HN := Lib.hid (HU.out (by rw [HV.out, hn]; simp))
                  clear HU HM2 HV hn
                  go_wp2_with (first
                    | (go_at_call 28; refine (hX _ (by repeat (first | exact hbb | refine Below.drew ?_ | refine Below.setCell ?_ (by (try simp); try omega) _ | refine Below.alloc ?_ (by (try simp); try omega) _))).mono ?_; rintro e w4 ⟨rfl, hb4⟩; have hbb := X.grow (w := wr) (by repeat (first | exact hbb | refine Below.drew ?_ | refine Below.setCell ?_ (by (try simp); try omega) _ | refine Below.alloc ?_ (by (try simp); try omega) _)) hb4; have hzz := hbb.size)
                    | (go_at_call 27; refine (hN _).mono ?_; rintro e w1 ⟨rfl, hb1⟩; have hbb := X.grow (w := wr) (by repeat (first | exact hbb | refine Below.drew ?_ | refine Below.setCell ?_ (by (try simp); try omega) _ | refine Below.alloc ?_ (by (try simp); try omega) _)) hb1; have hzz := hbb.size; have hv : Blk w1 wr.heap.size 48 #[.string p[k].t, .slice X1 p[k].p.length e1, .slice X2 p[k].q.length e2, .int .i64 p[k].x.k, .string p[k].x.t, .int .i64 p[k].x.n, .int .i64 p[k].x.l, .slice X3 p[k].x.r.length e3, .int .i64 p[k].l] := (Blk.new _ _ _).kept hb1; obtain ⟨v0, v1, v2, v3, v4, v5, v6, v7, v8⟩ := Blk.c9 hv)
                    | (have hg1 := g1; go_at_call 26; refine (hH _ (by repeat (first | exact hbb | refine Below.drew ?_ | refine Below.setCell ?_ (by (try simp); try omega) _ | refine Below.alloc ?_ (by (try simp); try omega) _))).mono ?_; rintro e w3 ⟨rfl, hb3⟩; have hbb := X.grow (w := wr) (by repeat (first | exact hbb | refine Below.drew ?_ | refine Below.setCell ?_ (by (try simp); try omega) _ | refine Below.alloc ?_ (by (try simp); try omega) _)) hb3; have hzz := hbb.size; have hv := hv.kept hb3; obtain ⟨v0, v1, v2, v3, v4, v5, v6, v7, v8⟩ := Blk.c9 hv)
                    | (go_at_call 26; refine (hF _ (by repeat (first | exact hbb | refine Below.drew ?_ | refine Below.setCell ?_ (by (try simp); try omega) _ | refine Below.alloc ?_ (by (try simp); try omega) _))).mono ?_; rintro e w2 ⟨rfl, hb2⟩; have g1 := hb2; have hbb := X.grow (w := wr) (by repeat (first | exact hbb | refine Below.drew ?_ | refine Below.setCell ?_ (by (try simp); try omega) _ | refine Below.alloc ?_ (by (try simp); try omega) _)) hb2; have hzz := hbb.size; have hv := hv.kept hb2; obtain ⟨v0, v1, v2, v3, v4, v5, v6, v7, v8⟩ := Blk.c9 hv))
                  go_ret
                  exact ⟨ret_b HN.out.symm, hb.trans (Below.mono (by repeat (first | exact hbb | refine Below.drew ?_ | refine Below.setCell ?_ (by (try simp); try omega) _ | refine Below.alloc ?_ (by (try simp); try omega) _)) hsz)⟩
                · rw [hn] at hN
                  cases hf : (p[k].p.all nameB && decide (p[k].p.length ≤ 6))
                  · rw [hf] at hF
                    have HN := Lib.hid (HU.out (by rw [HV.out]; exact bad_f hf))
                    clear HU HM2 HV hn hf
                    go_wp2_with (first
                      | (go_at_call 28; refine (hX _ (by repeat (first | exact hbb | refine Below.drew ?_ | refine Below.setCell ?_ (by (try simp); try omega) _ | refine Below.alloc ?_ (by (try simp); try omega) _))).mono ?_; rintro e w4 ⟨rfl, hb4⟩; have hbb := X.grow (w := wr) (by repeat (first | exact hbb | refine Below.drew ?_ | refine Below.setCell ?_ (by (try simp); try omega) _ | refine Below.alloc ?_ (by (try simp); try omega) _)) hb4; have hzz := hbb.size)
                      | (go_at_call 27; refine (hN _).mono ?_; rintro e w1 ⟨rfl, hb1⟩; have hbb := X.grow (w := wr) (by repeat (first | exact hbb | refine Below.drew ?_ | refine Below.setCell ?_ (by (try simp); try omega) _ | refine Below.alloc ?_ (by (try simp); try omega) _)) hb1; have hzz := hbb.size; have hv : Blk w1 wr.heap.size 48 #[.string p[k].t, .slice X1 p[k].p.length e1, .slice X2 p[k].q.length e2, .int .i64 p[k].x.k, .string p[k].x.t, .int .i64 p[k].x.n, .int .i64 p[k].x.l, .slice X3 p[k].x.r.length e3, .int .i64 p[k].l] := (Blk.new _ _ _).kept hb1; obtain ⟨v0, v1, v2, v3, v4, v5, v6, v7, v8⟩ := Blk.c9 hv)
                      | (have hg1 := g1; go_at_call 26; refine (hH _ (by repeat (first | exact hbb | refine Below.drew ?_ | refine Below.setCell ?_ (by (try simp); try omega) _ | refine Below.alloc ?_ (by (try simp); try omega) _))).mono ?_; rintro e w3 ⟨rfl, hb3⟩; have hbb := X.grow (w := wr) (by repeat (first | exact hbb | refine Below.drew ?_ | refine Below.setCell ?_ (by (try simp); try omega) _ | refine Below.alloc ?_ (by (try simp); try omega) _)) hb3; have hzz := hbb.size; have hv := hv.kept hb3; obtain ⟨v0, v1, v2, v3, v4, v5, v6, v7, v8⟩ := Blk.c9 hv)
                      | (go_at_call 26; refine (hF _ (by repeat (first | exact hbb | refine Below.drew ?_ | refine Below.setCell ?_ (by (try simp); try omega) _ | refine Below.alloc ?_ (by (try simp); try omega) _))).mono ?_; rintro e w2 ⟨rfl, hb2⟩; have g1 := hb2; have hbb := X.grow (w := wr) (by repeat (first | exact hbb | refine Below.drew ?_ | refine Below.setCell ?_ (by (try simp); try omega) _ | refine Below.alloc ?_ (by (try simp); try omega) _)) hb2; have hzz := hbb.size; have hv := hv.kept hb2; obtain ⟨v0, v1, v2, v3, v4, v5, v6, v7, v8⟩ := Blk.c9 hv))
                    go_ret
                    exact ⟨ret_b HN.out.symm, hb.trans (Below.mono (by repeat (first | exact hbb | refine Below.drew ?_ | refine Below.setCell ?_ (by (try simp); try omega) _ | refine Below.alloc ?_ (by (try simp); try omega) _)) hsz)⟩
                  · rw [hf] at hF
                    cases hh : (p[k].q.all nameB && decide (p[k].q.length ≤ 8))
                    · rw [hh] at hH
                      have HN := Lib.hid (HU.out (by rw [HV.out]; exact bad_h hh))
                      clear HU HM2 HV hn hf hh
                      go_wp2_with (first
                        | (go_at_call 28; refine (hX _ (by repeat (first | exact hbb | refine Below.drew ?_ | refine Below.setCell ?_ (by (try simp); try omega) _ | refine Below.alloc ?_ (by (try simp); try omega) _))).mono ?_; rintro e w4 ⟨rfl, hb4⟩; have hbb := X.grow (w := wr) (by repeat (first | exact hbb | refine Below.drew ?_ | refine Below.setCell ?_ (by (try simp); try omega) _ | refine Below.alloc ?_ (by (try simp); try omega) _)) hb4; have hzz := hbb.size)
                        | (go_at_call 27; refine (hN _).mono ?_; rintro e w1 ⟨rfl, hb1⟩; have hbb := X.grow (w := wr) (by repeat (first | exact hbb | refine Below.drew ?_ | refine Below.setCell ?_ (by (try simp); try omega) _ | refine Below.alloc ?_ (by (try simp); try omega) _)) hb1; have hzz := hbb.size; have hv : Blk w1 wr.heap.size 48 #[.string p[k].t, .slice X1 p[k].p.length e1, .slice X2 p[k].q.length e2, .int .i64 p[k].x.k, .string p[k].x.t, .int .i64 p[k].x.n, .int .i64 p[k].x.l, .slice X3 p[k].x.r.length e3, .int .i64 p[k].l] := (Blk.new _ _ _).kept hb1; obtain ⟨v0, v1, v2, v3, v4, v5, v6, v7, v8⟩ := Blk.c9 hv)
                        | (have hg1 := g1; go_at_call 26; refine (hH _ (by repeat (first | exact hbb | refine Below.drew ?_ | refine Below.setCell ?_ (by (try simp); try omega) _ | refine Below.alloc ?_ (by (try simp); try omega) _))).mono ?_; rintro e w3 ⟨rfl, hb3⟩; have hbb := X.grow (w := wr) (by repeat (first | exact hbb | refine Below.drew ?_ | refine Below.setCell ?_ (by (try simp); try omega) _ | refine Below.alloc ?_ (by (try simp); try omega) _)) hb3; have hzz := hbb.size; have hv := hv.kept hb3; obtain ⟨v0, v1, v2, v3, v4, v5, v6, v7, v8⟩ := Blk.c9 hv)
                        | (go_at_call 26; refine (hF _ (by repeat (first | exact hbb | refine Below.drew ?_ | refine Below.setCell ?_ (by (try simp); try omega) _ | refine Below.alloc ?_ (by (try simp); try omega) _))).mono ?_; rintro e w2 ⟨rfl, hb2⟩; have g1 := hb2; have hbb := X.grow (w := wr) (by repeat (first | exact hbb | refine Below.drew ?_ | refine Below.setCell ?_ (by (try simp); try omega) _ | refine Below.alloc ?_ (by (try simp); try omega) _)) hb2; have hzz := hbb.size; have hv := hv.kept hb2; obtain ⟨v0, v1, v2, v3, v4, v5, v6, v7, v8⟩ := Blk.c9 hv))
                      go_ret
                      exact ⟨ret_b HN.out.symm, hb.trans (Below.mono (by repeat (first | exact hbb | refine Below.drew ?_ | refine Below.setCell ?_ (by (try simp); try omega) _ | refine Below.alloc ?_ (by (try simp); try omega) _)) hsz)⟩
                    · rw [hh] at hH
                      by_cases hl : p[k].l < 0
                      · have i_hl : p[k].l < 0 := by omega
                        have HN := Lib.hid (HU.out (by rw [HV.out, decide_eq_false (show ¬ 0 ≤ p[k].l by omega)]; simp))
                        clear HU HM2 HV hn hf hh hl
                        go_wp2_with (first
                          | (go_at_call 28; refine (hX _ (by repeat (first | exact hbb | refine Below.drew ?_ | refine Below.setCell ?_ (by (try simp); try omega) _ | refine Below.alloc ?_ (by (try simp); try omega) _))).mono ?_; rintro e w4 ⟨rfl, hb4⟩; have hbb := X.grow (w := wr) (by repeat (first | exact hbb | refine Below.drew ?_ | refine Below.setCell ?_ (by (try simp); try omega) _ | refine Below.alloc ?_ (by (try simp); try omega) _)) hb4; have hzz := hbb.size)
                          | (go_at_call 27; refine (hN _).mono ?_; rintro e w1 ⟨rfl, hb1⟩; have hbb := X.grow (w := wr) (by repeat (first | exact hbb | refine Below.drew ?_ | refine Below.setCell ?_ (by (try simp); try omega) _ | refine Below.alloc ?_ (by (try simp); try omega) _)) hb1; have hzz := hbb.size; have hv : Blk w1 wr.heap.size 48 #[.string p[k].t, .slice X1 p[k].p.length e1, .slice X2 p[k].q.length e2, .int .i64 p[k].x.k, .string p[k].x.t, .int .i64 p[k].x.n, .int .i64 p[k].x.l, .slice X3 p[k].x.r.length e3, .int .i64 p[k].l] := (Blk.new _ _ _).kept hb1; obtain ⟨v0, v1, v2, v3, v4, v5, v6, v7, v8⟩ := Blk.c9 hv)
                          | (have hg1 := g1; go_at_call 26; refine (hH _ (by repeat (first | exact hbb | refine Below.drew ?_ | refine Below.setCell ?_ (by (try simp); try omega) _ | refine Below.alloc ?_ (by (try simp); try omega) _))).mono ?_; rintro e w3 ⟨rfl, hb3⟩; have hbb := X.grow (w := wr) (by repeat (first | exact hbb | refine Below.drew ?_ | refine Below.setCell ?_ (by (try simp); try omega) _ | refine Below.alloc ?_ (by (try simp); try omega) _)) hb3; have hzz := hbb.size; have hv := hv.kept hb3; obtain ⟨v0, v1, v2, v3, v4, v5, v6, v7, v8⟩ := Blk.c9 hv)
                          | (go_at_call 26; refine (hF _ (by repeat (first | exact hbb | refine Below.drew ?_ | refine Below.setCell ?_ (by (try simp); try omega) _ | refine Below.alloc ?_ (by (try simp); try omega) _))).mono ?_; rintro e w2 ⟨rfl, hb2⟩; have g1 := hb2; have hbb := X.grow (w := wr) (by repeat (first | exact hbb | refine Below.drew ?_ | refine Below.setCell ?_ (by (try simp); try omega) _ | refine Below.alloc ?_ (by (try simp); try omega) _)) hb2; have hzz := hbb.size; have hv := hv.kept hb2; obtain ⟨v0, v1, v2, v3, v4, v5, v6, v7, v8⟩ := Blk.c9 hv))
                        go_ret
                        exact ⟨ret_b HN.out.symm, hb.trans (Below.mono (by repeat (first | exact hbb | refine Below.drew ?_ | refine Below.setCell ?_ (by (try simp); try omega) _ | refine Below.alloc ?_ (by (try simp); try omega) _)) hsz)⟩
                      · have i_hl : ¬ p[k].l < 0 := by omega
                        by_cases hk14 : ¬ p[k].x.k = 14
                        · have i_hk14 : (p[k].x.k != 14) = true := by simpa using hk14
                          have HN := Lib.hid (HU.out (by rw [HV.out, decide_eq_false hk14]; simp))
                          clear HU HM2 HV hn hf hh hl hk14
                          go_wp2_with (first
                            | (go_at_call 28; refine (hX _ (by repeat (first | exact hbb | refine Below.drew ?_ | refine Below.setCell ?_ (by (try simp); try omega) _ | refine Below.alloc ?_ (by (try simp); try omega) _))).mono ?_; rintro e w4 ⟨rfl, hb4⟩; have hbb := X.grow (w := wr) (by repeat (first | exact hbb | refine Below.drew ?_ | refine Below.setCell ?_ (by (try simp); try omega) _ | refine Below.alloc ?_ (by (try simp); try omega) _)) hb4; have hzz := hbb.size)
                            | (go_at_call 27; refine (hN _).mono ?_; rintro e w1 ⟨rfl, hb1⟩; have hbb := X.grow (w := wr) (by repeat (first | exact hbb | refine Below.drew ?_ | refine Below.setCell ?_ (by (try simp); try omega) _ | refine Below.alloc ?_ (by (try simp); try omega) _)) hb1; have hzz := hbb.size; have hv : Blk w1 wr.heap.size 48 #[.string p[k].t, .slice X1 p[k].p.length e1, .slice X2 p[k].q.length e2, .int .i64 p[k].x.k, .string p[k].x.t, .int .i64 p[k].x.n, .int .i64 p[k].x.l, .slice X3 p[k].x.r.length e3, .int .i64 p[k].l] := (Blk.new _ _ _).kept hb1; obtain ⟨v0, v1, v2, v3, v4, v5, v6, v7, v8⟩ := Blk.c9 hv)
                            | (have hg1 := g1; go_at_call 26; refine (hH _ (by repeat (first | exact hbb | refine Below.drew ?_ | refine Below.setCell ?_ (by (try simp); try omega) _ | refine Below.alloc ?_ (by (try simp); try omega) _))).mono ?_; rintro e w3 ⟨rfl, hb3⟩; have hbb := X.grow (w := wr) (by repeat (first | exact hbb | refine Below.drew ?_ | refine Below.setCell ?_ (by (try simp); try omega) _ | refine Below.alloc ?_ (by (try simp); try omega) _)) hb3; have hzz := hbb.size; have hv := hv.kept hb3; obtain ⟨v0, v1, v2, v3, v4, v5, v6, v7, v8⟩ := Blk.c9 hv)
                            | (go_at_call 26; refine (hF _ (by repeat (first | exact hbb | refine Below.drew ?_ | refine Below.setCell ?_ (by (try simp); try omega) _ | refine Below.alloc ?_ (by (try simp); try omega) _))).mono ?_; rintro e w2 ⟨rfl, hb2⟩; have g1 := hb2; have hbb := X.grow (w := wr) (by repeat (first | exact hbb | refine Below.drew ?_ | refine Below.setCell ?_ (by (try simp); try omega) _ | refine Below.alloc ?_ (by (try simp); try omega) _)) hb2; have hzz := hbb.size; have hv := hv.kept hb2; obtain ⟨v0, v1, v2, v3, v4, v5, v6, v7, v8⟩ := Blk.c9 hv))
                          go_ret
                          exact ⟨ret_b HN.out.symm, hb.trans (Below.mono (by repeat (first | exact hbb | refine Below.drew ?_ | refine Below.setCell ?_ (by (try simp); try omega) _ | refine Below.alloc ?_ (by (try simp); try omega) _)) hsz)⟩
                        · have i_hk14 : (p[k].x.k != 14) = false := by simpa using hk14
                          cases hx : X.vldE X.wdB p[k].x
                          · rw [hx] at hX
                            have HN := Lib.hid (HU.out (by rw [HV.out, hx]; simp))
                            clear HU HM2 HV hn hf hh hl hk14 hx
                            go_wp2_with (first
                              | (go_at_call 28; refine (hX _ (by repeat (first | exact hbb | refine Below.drew ?_ | refine Below.setCell ?_ (by (try simp); try omega) _ | refine Below.alloc ?_ (by (try simp); try omega) _))).mono ?_; rintro e w4 ⟨rfl, hb4⟩; have hbb := X.grow (w := wr) (by repeat (first | exact hbb | refine Below.drew ?_ | refine Below.setCell ?_ (by (try simp); try omega) _ | refine Below.alloc ?_ (by (try simp); try omega) _)) hb4; have hzz := hbb.size)
                              | (go_at_call 27; refine (hN _).mono ?_; rintro e w1 ⟨rfl, hb1⟩; have hbb := X.grow (w := wr) (by repeat (first | exact hbb | refine Below.drew ?_ | refine Below.setCell ?_ (by (try simp); try omega) _ | refine Below.alloc ?_ (by (try simp); try omega) _)) hb1; have hzz := hbb.size; have hv : Blk w1 wr.heap.size 48 #[.string p[k].t, .slice X1 p[k].p.length e1, .slice X2 p[k].q.length e2, .int .i64 p[k].x.k, .string p[k].x.t, .int .i64 p[k].x.n, .int .i64 p[k].x.l, .slice X3 p[k].x.r.length e3, .int .i64 p[k].l] := (Blk.new _ _ _).kept hb1; obtain ⟨v0, v1, v2, v3, v4, v5, v6, v7, v8⟩ := Blk.c9 hv)
                              | (have hg1 := g1; go_at_call 26; refine (hH _ (by repeat (first | exact hbb | refine Below.drew ?_ | refine Below.setCell ?_ (by (try simp); try omega) _ | refine Below.alloc ?_ (by (try simp); try omega) _))).mono ?_; rintro e w3 ⟨rfl, hb3⟩; have hbb := X.grow (w := wr) (by repeat (first | exact hbb | refine Below.drew ?_ | refine Below.setCell ?_ (by (try simp); try omega) _ | refine Below.alloc ?_ (by (try simp); try omega) _)) hb3; have hzz := hbb.size; have hv := hv.kept hb3; obtain ⟨v0, v1, v2, v3, v4, v5, v6, v7, v8⟩ := Blk.c9 hv)
                              | (go_at_call 26; refine (hF _ (by repeat (first | exact hbb | refine Below.drew ?_ | refine Below.setCell ?_ (by (try simp); try omega) _ | refine Below.alloc ?_ (by (try simp); try omega) _))).mono ?_; rintro e w2 ⟨rfl, hb2⟩; have g1 := hb2; have hbb := X.grow (w := wr) (by repeat (first | exact hbb | refine Below.drew ?_ | refine Below.setCell ?_ (by (try simp); try omega) _ | refine Below.alloc ?_ (by (try simp); try omega) _)) hb2; have hzz := hbb.size; have hv := hv.kept hb2; obtain ⟨v0, v1, v2, v3, v4, v5, v6, v7, v8⟩ := Blk.c9 hv))
                            go_ret
                            exact ⟨ret_b HN.out.symm, hb.trans (Below.mono (by repeat (first | exact hbb | refine Below.drew ?_ | refine Below.setCell ?_ (by (try simp); try omega) _ | refine Below.alloc ?_ (by (try simp); try omega) _)) hsz)⟩
                          · rw [hx] at hX
                            have HN := Lib.hid (HM2.out (by rw [HV.out, (Bool.and_eq_true_iff.1 hf).2, (Bool.and_eq_true_iff.1 hh).2, hn, (Bool.and_eq_true_iff.1 hf).1, (Bool.and_eq_true_iff.1 hh).1, decide_eq_true (show 0 ≤ p[k].l by omega), decide_eq_true (show p[k].x.k = 14 by omega), hx]; rfl))
                            clear HU HM2 HV hn hf hh hl hk14 hx
                            go_wp2_with (first
                              | (go_at_call 28; refine (hX _ (by repeat (first | exact hbb | refine Below.drew ?_ | refine Below.setCell ?_ (by (try simp); try omega) _ | refine Below.alloc ?_ (by (try simp); try omega) _))).mono ?_; rintro e w4 ⟨rfl, hb4⟩; have hbb := X.grow (w := wr) (by repeat (first | exact hbb | refine Below.drew ?_ | refine Below.setCell ?_ (by (try simp); try omega) _ | refine Below.alloc ?_ (by (try simp); try omega) _)) hb4; have hzz := hbb.size)
                              | (go_at_call 27; refine (hN _).mono ?_; rintro e w1 ⟨rfl, hb1⟩; have hbb := X.grow (w := wr) (by repeat (first | exact hbb | refine Below.drew ?_ | refine Below.setCell ?_ (by (try simp); try omega) _ | refine Below.alloc ?_ (by (try simp); try omega) _)) hb1; have hzz := hbb.size; have hv : Blk w1 wr.heap.size 48 #[.string p[k].t, .slice X1 p[k].p.length e1, .slice X2 p[k].q.length e2, .int .i64 p[k].x.k, .string p[k].x.t, .int .i64 p[k].x.n, .int .i64 p[k].x.l, .slice X3 p[k].x.r.length e3, .int .i64 p[k].l] := (Blk.new _ _ _).kept hb1; obtain ⟨v0, v1, v2, v3, v4, v5, v6, v7, v8⟩ := Blk.c9 hv)
                              | (have hg1 := g1; go_at_call 26; refine (hH _ (by repeat (first | exact hbb | refine Below.drew ?_ | refine Below.setCell ?_ (by (try simp); try omega) _ | refine Below.alloc ?_ (by (try simp); try omega) _))).mono ?_; rintro e w3 ⟨rfl, hb3⟩; have hbb := X.grow (w := wr) (by repeat (first | exact hbb | refine Below.drew ?_ | refine Below.setCell ?_ (by (try simp); try omega) _ | refine Below.alloc ?_ (by (try simp); try omega) _)) hb3; have hzz := hbb.size; have hv := hv.kept hb3; obtain ⟨v0, v1, v2, v3, v4, v5, v6, v7, v8⟩ := Blk.c9 hv)
                              | (go_at_call 26; refine (hF _ (by repeat (first | exact hbb | refine Below.drew ?_ | refine Below.setCell ?_ (by (try simp); try omega) _ | refine Below.alloc ?_ (by (try simp); try omega) _))).mono ?_; rintro e w2 ⟨rfl, hb2⟩; have g1 := hb2; have hbb := X.grow (w := wr) (by repeat (first | exact hbb | refine Below.drew ?_ | refine Below.setCell ?_ (by (try simp); try omega) _ | refine Below.alloc ?_ (by (try simp); try omega) _)) hb2; have hzz := hbb.size; have hv := hv.kept hb2; obtain ⟨v0, v1, v2, v3, v4, v5, v6, v7, v8⟩ := Blk.c9 hv))
                            go_roundw
                            case rel => exact ⟨k + 1, by go_num, HN, by omega, hb.trans (Below.mono (by repeat (first | exact hbb | refine Below.drew ?_ | refine Below.setCell ?_ (by (try simp); try omega) _ | refine Below.alloc ?_ (by (try simp); try omega) _)) hsz), hB.kept (by repeat (first | exact hbb | refine Below.drew ?_ | refine Below.setCell ?_ (by (try simp); try omega) _ | refine Below.alloc ?_ (by (try simp); try omega) _))⟩
                            case measure => simp [intOf]; omega
              · obtain rfl : k = p.length := by omega
                have HN := Lib.hid (show vldU ⟨r, g, p⟩ = true by have h1 := HH.out; have h2 := HR.out; have h3 := all_yes (f := vldP) (l := p) fun i h => HM.out i h h; unfold vldU; show (decide (r.length ≤ 8) && (decide (g.length ≤ 12) && (decide (p.length ≤ 12) && (g.all nameB && (r.all vldR && p.all vldP))))) = true; rw [decide_eq_true h1.1, decide_eq_true h1.2.1, decide_eq_true h1.2.2.1, h1.2.2.2, h2, h3]; rfl)
                clear HM
                go_wp2_with fail
                go_ret
                exact ⟨ret_b HN.out.symm, hb⟩
end Go.Proofs.YtljblaglfooclaaGreatDoor
