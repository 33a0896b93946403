/- Proved here: what EraseUnitLines of the reference returns, of a unit that an earlier call made. Condition: the unit has at most 2^20 letters and parts. -/
import Derived.Test.YtljblaglfooclaaUb
import Derived.Deep.RegionHeld3
namespace Go.Proofs.Ytljblaglfooclaa
open Go.RowKit

def ldRspec : Op := .load 28 (.tmp 19)
def ldPspec : Op := .load 29 (.tmp 51)
set_option maxRecDepth 20000 in
set_option maxHeartbeats 64000000 in
theorem specEraseU (u : Un) (s1 s2 s3 : Value) (B : Nat) (F : List Nat) (w : World) (hok : OUn 41 46 w B u s1 s2 s3 F) (hl : u.siz ≤ 1048576) :
    Calls Try.prog 5 #[.agg #[s1, s2, s3]] w fun e w' => ∃ A1 c1 A2 c2 A3 c3 F', e = .returned (.agg #[.slice A1 u.r.length c1, .slice A2 u.g.length c2, .slice A3 u.p.length c3]) ∧
      OUn 41 46 w' w.heap.size u.er (.slice A1 u.r.length c1) (.slice A2 u.g.length c2) (.slice A3 u.p.length c3) F' ∧ F'.Nodup ∧ Below w.heap.size w w' := by
  obtain ⟨F1, F3, hR, hG, hP, -⟩ := hok
  obtain ⟨r, g, p⟩ := u
  have hz0 : Un.siz ⟨r, g, p⟩ = (r.length + sumF Rt.siz r) + ((g.length + sizS g) + (p.length + sumF Pd.siz p)) := rfl
  have z1 : r.length ≤ 1048576 := by omega
  have z2 : g.length ≤ 1048576 := by omega
  have z3 : p.length ≤ 1048576 := by omega
  have z5 : ∀ i (h : i < r.length), r[i].f.length ≤ 1048576 := fun i h => by have := sumF_at Rt.siz r h; have e : r[i].siz = r[i].t.size + (r[i].f.length + sizS r[i].f) := rfl; omega
  have z6 : ∀ i (h : i < p.length), p[i].p.length ≤ 1048576 ∧ p[i].q.length ≤ 1048576 ∧ X.siz p[i].x ≤ 1048576 := fun i h => by have := sumF_at Pd.siz p h; have e : p[i].siz = p[i].t.size + ((p[i].p.length + sizS p[i].p) + ((p[i].q.length + sizS p[i].q) + X.siz p[i].x)) := rfl; exact ⟨by omega, by omega, by omega⟩
  clear hz0 hl
  replace hR : ORs 41 w B r s1 F1 := hR
  replace hG : SBuf w B s2 g := hG
  replace hP : OPs 46 w B p s3 F3 := hP
  obtain ⟨A1, d1, hf1⟩ := hR.form
  obtain ⟨A2, d2, hf2⟩ := hG.form
  obtain ⟨A3, d3, hf3⟩ := hP.form
  subst hf1 hf2 hf3
  show Calls Try.prog 5 #[.agg #[.slice A1 r.length d1, .slice A2 g.length d2, .slice A3 p.length d3]] w fun e w' => ∃ A1 c1 A2 c2 A3 c3 F', e = .returned (.agg #[.slice A1 r.length c1, .slice A2 g.length c2, .slice A3 p.length c3]) ∧
      OUn 41 46 w' w.heap.size ⟨r.map Rt.er, g, p.map Pd.er⟩ (.slice A1 r.length c1) (.slice A2 g.length c2) (.slice A3 p.length c3) F' ∧ F'.Nodup ∧ Below w.heap.size w w'
  have hbb : Below w.heap.size w w := Below.refl _ _
  have hzz := hbb.size
  go_enter Try.func5, Try.ntmps5
  go_wp2_with (at_builtin; refine wpList_copy rfl _ _ rfl rfl (Blk.new' (by simp)) rfl (SBuf.kept hG (by repeat (first | exact Below.refl _ _ | refine Below.drew ?_ | refine Below.setCell ?_ (by (try simp); try omega) _ | refine Below.alloc ?_ (by (try simp); try omega) _))) (by omega) ?_; intro bg capg w1 hg1 hb1 hor1; have hbb := X.grow (w := w) (by repeat (first | exact Below.refl _ _ | refine Below.drew ?_ | refine Below.setCell ?_ (by (try simp); try omega) _ | refine Below.alloc ?_ (by (try simp); try omega) _)) hb1; have hz1 := hb1.size; (try simp at hz1); have hp1 : Blk w1 w.heap.size 31 #[.slice A1 r.length d1, .slice A2 g.length d2, .slice A3 p.length d3] := (((Blk.new _ _ _).alloc _).alloc _).kept hb1; have hr1 : Blk w1 (w.heap.size + 1) 31 #[.slice none 0 0, .slice none 0 0, .slice none 0 0] := ((Blk.new' (by simp)).alloc _).kept hb1; have hlp := hp1.lt; have hlr := hr1.lt; obtain ⟨a0, a1, a2⟩ := Blk.c3 hp1)
  have hbgl : w.heap.size + 2 ≤ bg ∧ bg < w1.heap.size := by
    have h1 := hg1.ltL bg (by simp [X.blkL, Value.ownBlock])
    rcases hor1 with h | ⟨h, h2⟩
    · (try simp at h); omega
    · (try simp at h); (try simp at h2); omega
  have hO1 : Blk (w1.alloc (.cells #[.slice none 0 0, .slice (some ⟨bg, 0, none⟩) g.length capg, .slice none 0 0] 31)) w1.heap.size 31 #[.slice none 0 0, .slice (some ⟨bg, 0, none⟩) g.length capg, .slice none 0 0] := Blk.new _ _ _
  have hp2 := hp1.alloc (.cells #[.slice none 0 0, .slice (some ⟨bg, 0, none⟩) g.length capg, .slice none 0 0] 31)
  have hr2 := hr1.alloc (.cells #[.slice none 0 0, .slice (some ⟨bg, 0, none⟩) g.length capg, .slice none 0 0] 31)
  have hg2 : SBuf (w1.alloc (.cells #[.slice none 0 0, .slice (some ⟨bg, 0, none⟩) g.length capg, .slice none 0 0] 31)) (w.heap.size + 1 + 1) (.slice (some ⟨bg, 0, none⟩) g.length capg) g := hg1.kept (by repeat (first | exact Below.refl _ _ | refine Below.drew ?_ | refine Below.setCell ?_ (by (try simp); try omega) _ | refine Below.alloc ?_ (by (try simp); try omega) _))
  have hbb2 : Below w.heap.size w (w1.alloc (.cells #[.slice none 0 0, .slice (some ⟨bg, 0, none⟩) g.length capg, .slice none 0 0] 31)) := by repeat (first | exact hbb | refine Below.drew ?_ | refine Below.setCell ?_ (by (try simp); try omega) _ | refine Below.alloc ?_ (by (try simp); try omega) _)
  have hz2 : (w1.alloc (.cells #[.slice none 0 0, .slice (some ⟨bg, 0, none⟩) g.length capg, .slice none 0 0] 31)).heap.size = w1.heap.size + 1 := by simp
  generalize w1.alloc (.cells #[.slice none 0 0, .slice (some ⟨bg, 0, none⟩) g.length capg, .slice none 0 0] 31) = w2 at *
  have hgO : w.heap.size + 2 < w1.heap.size := by omega
  generalize w1.heap.size = gO at *
  clear a0 a1 a2 hlp hlr hp1 hr1 hg1 hz1 hor1 hb1
  go_loopw [4] (fun i wr => ∃ (j : Nat) (L : List (Rt × Value)) (v : Value) (F : List Nat), i = .int .i64 j ∧ Hid (L.map Prod.fst = (r.take j).map Rt.er ∧ Gro iR cR 3 41 (gO + 1) wr L v F) ∧ (∃ A c, v = .slice A j c) ∧ j ≤ r.length ∧ (gO + 1) ≤ wr.heap.size ∧ Blk wr gO 31 #[v, .slice (some ⟨bg, 0, none⟩) g.length capg, .slice none 0 0] ∧ Below w.heap.size w wr ∧ Blk wr w.heap.size 31 #[.slice A1 r.length d1, .slice A2 g.length d2, .slice A3 p.length d3] ∧ Blk wr (w.heap.size + 1) 31 #[.slice none 0 0, .slice none 0 0, .slice none 0 0] ∧ SBuf wr (w.heap.size + 1 + 1) (.slice (some ⟨bg, 0, none⟩) g.length capg) g) (fun i _ => r.length - (intOf i).toNat)
  case atStart => exact ⟨0, [], .slice none 0 0, [], rfl, Lib.hid ⟨by simp, Gro.nil _ _⟩, ⟨none, 0, rfl⟩, by omega, by omega, hO1, hbb2, hp2, hr2, hg2⟩
  case round =>
    clear hbb hzz hO1 hp2 hr2 hg2 hbb2 hz2
    obtain ⟨j, L, v, F, rfl, HL, ⟨Av, cv, rfl⟩, hj, hgl, hO, hb, hPb, hRb, hGs⟩ := hrel
    have hsz := hb.size
    have hlp := hPb.lt
    have hlr := hRb.lt
    have hlo := hO.lt
    obtain ⟨a0, a1, a2⟩ := Blk.c3 hPb
    obtain ⟨o0, o1, o2⟩ := Blk.c3 hO
    have of := hO.fr
    by_cases hlt : j < r.length
    · have i1 : (j : Int) < (r.length : Int) := by omega
      obtain ⟨gr, x1, hA, hs1, c0, c1, c2⟩ := ORs.at_ (hR.keep fun b hf => hb.block b (hR.lt b hf).2) hlt
      subst hA
      obtain ⟨X1, e1, hx1⟩ := hs1.form
      subst hx1
      have hfl := z5 j hlt
      have HLj := Lib.hid (show L.length = j by have := congrArg List.length HL.out.1; simp at this; omega)
      have ho : wr.ownsRow (gO + 1) 41 3 (.slice Av j cv) j (L.flatMap cR) := by have := HL.out.2.own; rw [HLj.out] at this; exact this
      have Hol := Lib.hid (show ∀ b, (Value.slice Av j cv).ownBlock = some b → (gO + 1) ≤ b ∧ b < wr.heap.size from fun b hb => ho.lt b hb)
      have HI := Lib.hid (And.intro hb (And.intro hPb (And.intro hRb (And.intro hO hGs))))
      go_upto_region 5 with fail
      obtain ⟨wv, hwv⟩ : ∃ x, x = wr := ⟨_, rfl⟩
      have hbb : Below wr.heap.size wr wv := by rw [hwv]; exact Below.refl _ _
      have hPv := hPb
      rw [← hwv] at a0 c0 c1 hPv ⊢
      clear hwv a1 a2 o0 o1 o2 of c2
      have hgr : gr < w.heap.size := (hR.lt gr (by obtain ⟨L', rfl, G', h1, _, h3⟩ := hR; rw [h3]; simp [X.blkL, Value.ownBlock])).2
      have hOv : Blk wv gO 31 #[.slice Av j cv, .slice (some ⟨bg, 0, none⟩) g.length capg, .slice none 0 0] := hO.kept hbb
      have hglv : gO < wv.heap.size := hOv.lt
      obtain ⟨o0, o1, o2⟩ := Blk.c3 hOv
      have HU := Lib.hid (show wv.cell? ⟨w.heap.size, 0, none⟩ = some (.slice (some ⟨gr, 0, none⟩) r.length d1) ∧ wv.cell? ⟨gr, j * 3, none⟩ = some (.string r[j].t) ∧ wv.cell? ⟨gr, j * 3 + 1, none⟩ = some (.slice X1 r[j].f.length e1) from ⟨a0, c0, c1⟩)
      have hzz := hbb.size
      have Hn0 := Lib.hid (show some gO ≠ (Value.slice Av j cv).ownBlock from fun e => by have := Hol.out gO e.symm; omega)
      have Hn1 := Lib.hid (show some w.heap.size ≠ (Value.slice Av j cv).ownBlock from fun e => by have := Hol.out _ e.symm; omega)
      have Hn2 := Lib.hid (show some gr ≠ (Value.slice Av j cv).ownBlock from fun e => by have := Hol.out _ e.symm; omega)
      rw [show Op.load 28 (.tmp 19) = ldRspec from rfl]
      have hld : ldRspec = Op.load 28 (.tmp 19) := rfl
      clear hO hb hPb hRb hGs hPv
      go_region_held3 (fun w' => w'.cell? ⟨w.heap.size, 0, none⟩ = some (.slice (some ⟨gr, 0, none⟩) r.length d1) ∧ w'.cell? ⟨gr, j * 3, none⟩ = some (.string r[j].t) ∧ w'.cell? ⟨gr, j * 3 + 1, none⟩ = some (.slice X1 r[j].f.length e1)) ((first | exact HS5 | exact setS3 HS5 _ (by simp <;> omega) (by simp <;> omega) (by simp <;> omega) | (refine keepS3 HU.out ?_; repeat (first | with_reducible exact Below.refl _ _ | with_reducible refine Below.drew ?_ | with_reducible refine Below.alloc ?_ (by (try simp); try omega) _ | with_reducible refine Below.trans ?_ (Below.mono hb3 (by (try simp); try omega)) | with_reducible refine Below.trans ?_ (Below.mono hb4 (by (try simp); try omega)) | with_reducible refine Below.trans ?_ (Below.mono hb5 (by (try simp); try omega))))))
        (first
          | (refine step_copy rfl _ _ (by rfl) (by rfl) (by repeat (first | (with_reducible refine Blk.new' ?_; simp; done) | with_reducible refine Blk.drew ?_ | with_reducible refine Blk.alloc ?_ _ | with_reducible refine Blk.kept ?_ hb3 | with_reducible refine Blk.kept ?_ hb4 | with_reducible refine Blk.kept ?_ hb5)) (by rfl) (SBuf.kept hs1 (by refine hbb.trans (Below.mono ?_ hzz); repeat (first | with_reducible exact Below.refl _ _ | with_reducible refine Below.drew ?_ | with_reducible refine Below.alloc ?_ (by (try simp); try omega) _ | with_reducible refine Below.trans ?_ (Below.mono hb3 (by (try simp); try omega)) | with_reducible refine Below.trans ?_ (Below.mono hb4 (by (try simp); try omega)) | with_reducible refine Below.trans ?_ (Below.mono hb5 (by (try simp); try omega))))) (by omega) ?_; intro b4 cap4 w4 hk4 hb4 hor4; have hz4 := hb4.size; (try simp at hz4); (try simp at hor4); have hx4 : Below wv.heap.size wv w4 := Below.trans (by repeat (first | with_reducible exact hx3 | with_reducible exact hx5 | with_reducible exact hx4 | with_reducible exact Below.refl _ _ | with_reducible refine Below.drew ?_ | with_reducible refine Below.alloc ?_ (by (try simp); try omega) _)) (hb4.mono (by (try simp); try omega)); have p4 := kc1 hx4 o0; have hgl4 := Nat.lt_of_lt_of_le hglv hx4.size)
          | (refine step_append_g info_R rfl (by omega) Try.underlying28 rfl _ _ (by rfl) (by rfl) (X.ownsRow_below ho (hbb.trans (Below.mono (by repeat (first | with_reducible exact hx3 | with_reducible exact hx5 | with_reducible exact hx4 | with_reducible exact Below.refl _ _ | with_reducible refine Below.drew ?_ | with_reducible refine Below.alloc ?_ (by (try simp); try omega) _)) hzz)) (fun b hb => (Hol.out b hb).2)) (by rfl) (by first | rfl | (simp; done)) ⟨rfl, rfl, rfl, rfl⟩ (cR ((Rt.er r[j], Value.slice (some ⟨b4, 0, none⟩) r[j].f.length cap4) : Rt × Value)) (by rfl) rfl (oneR _ _ _ rfl rfl rfl) (by unfold maxLen; omega) (by omega) (by (try simp); omega) ?_; intro g9 cap9 w9 ho9 hg9 hor9; have HS5 := growS3 hg9 (keepS3 HU.out (by repeat (first | with_reducible exact hx3 | with_reducible exact hx5 | with_reducible exact hx4 | with_reducible exact Below.refl _ _ | with_reducible refine Below.drew ?_ | with_reducible refine Below.alloc ?_ (by (try simp); try omega) _))) Hn1.out Hn2.out Hn2.out; have hO9 := (Blk.kept hOv (by repeat (first | with_reducible exact hx3 | with_reducible exact hx5 | with_reducible exact hx4 | with_reducible exact Below.refl _ _ | with_reducible refine Below.drew ?_ | with_reducible refine Below.alloc ?_ (by (try simp); try omega) _))).grown hg9 Hn0.out; obtain ⟨t0, t1, t2⟩ := Blk.c3 hO9; have tf := hO9.fr))
      all_goals
        have hD := roundE iR_law HL.out.2 HLj.out (by omega) (by omega) (hbb.trans (Below.mono (by repeat (first | with_reducible exact hx3 | with_reducible exact hx5 | with_reducible exact hx4 | with_reducible exact Below.refl _ _ | with_reducible refine Below.drew ?_ | with_reducible refine Below.alloc ?_ (by (try simp); try omega) _)) hzz)) ⟨(SBuf.kept hk4 (by repeat (first | with_reducible exact Below.refl _ _ | with_reducible refine Below.drew ?_ | with_reducible refine Below.alloc ?_ (by (try simp); try omega) _ | with_reducible refine Below.trans ?_ (Below.mono hb3 (by (try simp); try omega)) | with_reducible refine Below.trans ?_ (Below.mono hb4 (by (try simp); try omega)) | with_reducible refine Below.trans ?_ (Below.mono hb5 (by (try simp); try omega))))).mono (by omega), rfl⟩ (blkL_nodup _) ho9 hg9 hor9 0 (.slice (some ⟨g9, 0, none⟩) (j + 1) cap9) HI.out.1 (by omega) HI.out.2.1 HI.out.2.2.1 HI.out.2.2.2.1 HI.out.2.2.2.2 (by omega)
        have HD := Lib.hid hD.1
        obtain ⟨-, q1, q2, q3, q4, q5, q6, q7⟩ := hD
        have Q2 : Blk _ gO 31 #[.slice (some ⟨g9, 0, none⟩) (j + 1) cap9, .slice (some ⟨bg, 0, none⟩) g.length capg, .slice none 0 0] := q2
        have HM2 := Lib.hid (show (L ++ [((Rt.er r[j], Value.slice (some ⟨b4, 0, none⟩) r[j].f.length cap4) : Rt × Value)]).map Prod.fst = (r.take (j + 1)).map Rt.er from by rw [List.map_append, HL.out.1, map_take_er _ _ hlt]; rfl)
        clear HS5 hO9 t0 t1 t2 tf ho9 hg9 hor9 q2 q7 o0 o1 o2 hOv hld ho
        go_wp2_with fail
        go_roundw
        case rel => exact ⟨j + 1, _, _, _, by go_num, Lib.hid ⟨HM2.out, HD.out⟩, ⟨_, _, rfl⟩, by omega, q1, Q2, q3, q4, q5, q6⟩
        case measure => simp [intOf]; omega
    · obtain rfl : j = r.length := by omega
      have HM := Lib.hid HL.out.1
      have HGr := Lib.hid HL.out.2
      clear HL
      go_wp2_with fail
      obtain ⟨wL, rfl⟩ : ∃ x, x = wr := ⟨_, rfl⟩
      obtain ⟨Ar, hAr⟩ : ∃ x, x = Av := ⟨_, rfl⟩
      obtain ⟨cr, hcr⟩ : ∃ x, x = cv := ⟨_, rfl⟩
      subst hAr hcr
      have HGr1 := HGr
      have HM1 := HM
      obtain ⟨FR, hFR⟩ : ∃ x, x = F := ⟨_, rfl⟩
      rw [← hFR] at HGr1
      clear HGr HM hFR hR z5
      go_loopw [5] (fun i wr => ∃ (j : Nat) (M : List (Pd × Value × Value × Value)) (v : Value) (F : List Nat), i = .int .i64 j ∧ Hid (M.map Prod.fst = (p.take j).map Pd.er ∧ Gro iP cP 9 46 wL.heap.size wr M v F) ∧ (∃ A c, v = .slice A j c) ∧ j ≤ p.length ∧ wL.heap.size ≤ wr.heap.size ∧ Blk wr gO 31 #[.slice Ar r.length cr, .slice (some ⟨bg, 0, none⟩) g.length capg, v] ∧ Below w.heap.size w wr ∧ Blk wr w.heap.size 31 #[.slice A1 r.length d1, .slice A2 g.length d2, .slice A3 p.length d3] ∧ Blk wr (w.heap.size + 1) 31 #[.slice none 0 0, .slice none 0 0, .slice none 0 0] ∧ SBuf wr (w.heap.size + 1 + 1) (.slice (some ⟨bg, 0, none⟩) g.length capg) g ∧ Hid (∀ b, b < wL.heap.size → b ≠ gO → wr.heap[b]? = wL.heap[b]?)) (fun i _ => p.length - (intOf i).toNat)
      case atStart => exact ⟨0, [], .slice none 0 0, [], rfl, Lib.hid ⟨by simp, Gro.nil _ _⟩, ⟨none, 0, rfl⟩, by omega, Nat.le_refl _, hO, hb, hPb, hRb, hGs, Lib.hid fun _ _ _ => rfl⟩
      case round =>
        clear hb hPb hRb hGs hO a0 a1 a2 o0 o1 o2 of hsz hlp hlr hj hgl
        obtain ⟨j, M, v, F, rfl, HL, ⟨Av, cv, rfl⟩, hj, hgl, hO, hb, hPb, hRb, hGs, HW⟩ := hrel
        have hsz := hb.size
        have hlp := hPb.lt
        have hlr := hRb.lt
        have hlo := hO.lt
        obtain ⟨a0, a1, a2⟩ := Blk.c3 hPb
        obtain ⟨o0, o1, o2⟩ := Blk.c3 hO
        have of := hO.fr
        by_cases hlt : j < p.length
        · have i1 : (j : Int) < (p.length : Int) := by omega
          obtain ⟨gr, x1, x2, x3, Fx, hA, hs1, hs2, hs3, c0, c1, c2, c3, c4, c5, c6, c7, c8⟩ := OPs.at_ (hP.keep fun b hf => hb.block b (hP.lt b hf).2) hlt
          subst hA
          obtain ⟨X1, e1, hx1⟩ := hs1.form
          obtain ⟨X2, e2, hx2⟩ := hs2.form
          obtain ⟨X3, e3, hx3⟩ := hs3.form
          subst hx1 hx2 hx3
          obtain ⟨y1, y2, y3⟩ := z6 j hlt
          have hE : ∀ W : World, Below wr.heap.size wr W → Calls Try.prog 14 #[.agg #[.int .i64 p[j].x.k, .string p[j].x.t, .int .i64 p[j].x.n, .int .i64 p[j].x.l, .slice X3 p[j].x.r.length e3]] W fun e w' => ∃ A cap F, e = .returned (.agg #[.int .i64 (X.er p[j].x).k, .string (X.er p[j].x).t, .int .i64 (X.er p[j].x).n, .int .i64 (X.er p[j].x).l, .slice A p[j].x.r.length cap]) ∧ X.Ok w' W.heap.size (X.erL p[j].x.r) (.slice A p[j].x.r.length cap) F ∧ F.Nodup ∧ Below W.heap.size W w' := fun W hW =>
            X.specErase p[j].x _ (· < W.heap.size) W (((hs3.kept hW).kd fun b hf => ((hs3.kept hW).lt b hf).2).rd) (fun _ h => h) (by omega)
          rw [show (X.er p[j].x).k = p[j].x.k by cases p[j].x; rfl, show (X.er p[j].x).t = p[j].x.t by cases p[j].x; rfl, show (X.er p[j].x).n = p[j].x.n by cases p[j].x; rfl, show (X.er p[j].x).l = 0 by cases p[j].x; rfl] at hE
          have HE := Lib.hid hE
          clear hE
          have HLj := Lib.hid (show M.length = j by have := congrArg List.length HL.out.1; simp at this; omega)
          have ho : wr.ownsRow wL.heap.size 46 9 (.slice Av j cv) j (M.flatMap cP) := by have := HL.out.2.own; rw [HLj.out] at this; exact this
          have Hol := Lib.hid (show ∀ b, (Value.slice Av j cv).ownBlock = some b → wL.heap.size ≤ b ∧ b < wr.heap.size from fun b hb => ho.lt b hb)
          have HI := Lib.hid (And.intro hb (And.intro hPb (And.intro hRb (And.intro hO hGs))))
          go_upto_region 10 with fail
          generalize hW1 : wr.alloc (.cells #[.string p[j].t, .slice X1 p[j].p.length e1, .slice X2 p[j].q.length e2, .int .i64 p[j].x.k, .string p[j].x.t, .int .i64 p[j].x.n, .int .i64 p[j].x.l, .slice X3 p[j].x.r.length e3, .int .i64 p[j].l] 46) = wv
          have hbb : Below wr.heap.size wr wv := by rw [← hW1]; repeat (first | exact Below.refl _ _ | refine Below.drew ?_ | refine Below.setCell ?_ (by (try simp); try omega) _ | refine Below.alloc ?_ (by (try simp); try omega) _)
          have hv : Blk wv wr.heap.size 46 #[.string p[j].t, .slice X1 p[j].p.length e1, .slice X2 p[j].q.length e2, .int .i64 p[j].x.k, .string p[j].x.t, .int .i64 p[j].x.n, .int .i64 p[j].x.l, .slice X3 p[j].x.r.length e3, .int .i64 p[j].l] := by rw [← hW1]; exact Blk.new _ _ _
          clear hW1 a0 a1 a2 o0 o1 o2 of c0 c1 c2 c3 c4 c5 c6 c7 c8
          obtain ⟨v0, v1, v2, v3, v4, v5, v6, v7, v8⟩ := Blk.c9 hv
          have hOv : Blk wv gO 31 #[.slice Ar r.length cr, .slice (some ⟨bg, 0, none⟩) g.length capg, .slice Av j cv] := hO.kept hbb
          have hglv : gO < wv.heap.size := hOv.lt
          obtain ⟨o0, o1, o2⟩ := Blk.c3 hOv
          have HU := Lib.hid (show wv.cell? ⟨wr.heap.size, 0, none⟩ = some (.string p[j].t) ∧ wv.cell? ⟨wr.heap.size, 1, none⟩ = some (.slice X1 p[j].p.length e1) ∧ wv.cell? ⟨wr.heap.size, 2, none⟩ = some (.slice X2 p[j].q.length e2) ∧ wv.cell? ⟨wr.heap.size, 3, none⟩ = some (.int .i64 p[j].x.k) ∧ wv.cell? ⟨wr.heap.size, 4, none⟩ = some (.string p[j].x.t) ∧ wv.cell? ⟨wr.heap.size, 5, none⟩ = some (.int .i64 p[j].x.n) ∧ wv.cell? ⟨wr.heap.size, 6, none⟩ = some (.int .i64 p[j].x.l) ∧ wv.cell? ⟨wr.heap.size, 7, none⟩ = some (.slice X3 p[j].x.r.length e3) from ⟨v0, v1, v2, v3, v4, v5, v6, v7⟩)
          have hzz := hbb.size
          have Hn0 := Lib.hid (show some gO ≠ (Value.slice Av j cv).ownBlock from fun e => by have := Hol.out gO e.symm; omega)
          have Hn1 := Lib.hid (show some wr.heap.size ≠ (Value.slice Av j cv).ownBlock from fun e => by have := Hol.out _ e.symm; omega)
          rw [show Op.load 29 (.tmp 51) = ldPspec from rfl]
          have hld : ldPspec = Op.load 29 (.tmp 51) := rfl
          clear hO hb hPb hRb hGs
          go_region_held3 (fun w' => w'.cell? ⟨wr.heap.size, 0, none⟩ = some (.string p[j].t) ∧ w'.cell? ⟨wr.heap.size, 1, none⟩ = some (.slice X1 p[j].p.length e1) ∧ w'.cell? ⟨wr.heap.size, 2, none⟩ = some (.slice X2 p[j].q.length e2) ∧ w'.cell? ⟨wr.heap.size, 3, none⟩ = some (.int .i64 p[j].x.k) ∧ w'.cell? ⟨wr.heap.size, 4, none⟩ = some (.string p[j].x.t) ∧ w'.cell? ⟨wr.heap.size, 5, none⟩ = some (.int .i64 p[j].x.n) ∧ w'.cell? ⟨wr.heap.size, 6, none⟩ = some (.int .i64 p[j].x.l) ∧ w'.cell? ⟨wr.heap.size, 7, none⟩ = some (.slice X3 p[j].x.r.length e3)) ((first | exact HS5 | exact setS8 HS5 _ (by simp <;> omega) (by simp <;> omega) (by simp <;> omega) (by simp <;> omega) (by simp <;> omega) (by simp <;> omega) (by simp <;> omega) (by simp <;> omega) | (refine keepS8 HU.out ?_; repeat (first | with_reducible exact Below.refl _ _ | with_reducible refine Below.drew ?_ | with_reducible refine Below.alloc ?_ (by (try simp); try omega) _ | with_reducible refine Below.trans ?_ (Below.mono hb3 (by (try simp); try omega)) | with_reducible refine Below.trans ?_ (Below.mono hb4 (by (try simp); try omega)) | with_reducible refine Below.trans ?_ (Below.mono hb5 (by (try simp); try omega))))))
            (first
              | (refine step_copy rfl _ _ (by rfl) (by rfl) (by repeat (first | (with_reducible refine Blk.new' ?_; simp; done) | with_reducible refine Blk.drew ?_ | with_reducible refine Blk.alloc ?_ _ | with_reducible refine Blk.kept ?_ hb3 | with_reducible refine Blk.kept ?_ hb4 | with_reducible refine Blk.kept ?_ hb5)) (by rfl) (SBuf.kept hs1 (by refine hbb.trans (Below.mono ?_ hzz); repeat (first | with_reducible exact Below.refl _ _ | with_reducible refine Below.drew ?_ | with_reducible refine Below.alloc ?_ (by (try simp); try omega) _ | with_reducible refine Below.trans ?_ (Below.mono hb3 (by (try simp); try omega)) | with_reducible refine Below.trans ?_ (Below.mono hb4 (by (try simp); try omega)) | with_reducible refine Below.trans ?_ (Below.mono hb5 (by (try simp); try omega))))) (by omega) ?_; intro b4 cap4 w4 hk4 hb4 hor4; have hz4 := hb4.size; (try simp at hz4); (try simp at hor4); have hx4 : Below wv.heap.size wv w4 := Below.trans (by repeat (first | with_reducible exact hx3 | with_reducible exact hx5 | with_reducible exact hx4 | with_reducible exact Below.refl _ _ | with_reducible refine Below.drew ?_ | with_reducible refine Below.alloc ?_ (by (try simp); try omega) _)) (hb4.mono (by (try simp); try omega)); have p4 := kc1 hx4 o2; have hgl4 := Nat.lt_of_lt_of_le hglv hx4.size)
              | (refine step_copy rfl _ _ (by rfl) (by rfl) (by repeat (first | (with_reducible refine Blk.new' ?_; simp; done) | with_reducible refine Blk.drew ?_ | with_reducible refine Blk.alloc ?_ _ | with_reducible refine Blk.kept ?_ hb3 | with_reducible refine Blk.kept ?_ hb4 | with_reducible refine Blk.kept ?_ hb5)) (by rfl) (SBuf.kept hs2 (by refine hbb.trans (Below.mono ?_ hzz); repeat (first | with_reducible exact Below.refl _ _ | with_reducible refine Below.drew ?_ | with_reducible refine Below.alloc ?_ (by (try simp); try omega) _ | with_reducible refine Below.trans ?_ (Below.mono hb3 (by (try simp); try omega)) | with_reducible refine Below.trans ?_ (Below.mono hb4 (by (try simp); try omega)) | with_reducible refine Below.trans ?_ (Below.mono hb5 (by (try simp); try omega))))) (by omega) ?_; intro b5 cap5 w5 hk5 hb5 hor5; have hz5 := hb5.size; (try simp at hz5); (try simp at hor5); have hx5 : Below wv.heap.size wv w5 := Below.trans (by repeat (first | with_reducible exact hx3 | with_reducible exact hx5 | with_reducible exact hx4 | with_reducible exact Below.refl _ _ | with_reducible refine Below.drew ?_ | with_reducible refine Below.alloc ?_ (by (try simp); try omega) _)) (hb5.mono (by (try simp); try omega)); have p5 := kc1 hx5 o2; have hgl5 := Nat.lt_of_lt_of_le hglv hx5.size)
              | (go_at_call 14; refine (HE.out _ (by refine hbb.trans (Below.mono ?_ hzz); repeat (first | with_reducible exact Below.refl _ _ | with_reducible refine Below.drew ?_ | with_reducible refine Below.alloc ?_ (by (try simp); try omega) _ | with_reducible refine Below.trans ?_ (Below.mono hb3 (by (try simp); try omega)) | with_reducible refine Below.trans ?_ (Below.mono hb4 (by (try simp); try omega)) | with_reducible refine Below.trans ?_ (Below.mono hb5 (by (try simp); try omega))))).mono ?_; rintro e w3 ⟨A6, cap6, F6, rfl, hk3, hn3, hb3⟩; have hz3 := hb3.size; (try simp at hz3); have hx3 : Below wv.heap.size wv w3 := Below.trans (by repeat (first | with_reducible exact hx3 | with_reducible exact hx5 | with_reducible exact hx4 | with_reducible exact Below.refl _ _ | with_reducible refine Below.drew ?_ | with_reducible refine Below.alloc ?_ (by (try simp); try omega) _)) (hb3.mono (by (try simp); try omega)); have p3 := kc1 hx3 o2; have hgl3 := Nat.lt_of_lt_of_le hglv hx3.size)
              | (refine step_append_g info_P rfl (by omega) Try.underlying29 rfl _ _ (by rfl) (by rfl) (X.ownsRow_below ho (hbb.trans (Below.mono (by repeat (first | with_reducible exact hx3 | with_reducible exact hx5 | with_reducible exact hx4 | with_reducible exact Below.refl _ _ | with_reducible refine Below.drew ?_ | with_reducible refine Below.alloc ?_ (by (try simp); try omega) _)) hzz)) (fun b hb => (Hol.out b hb).2)) (by rfl) (by first | rfl | (simp; done)) ⟨rfl, rfl, rfl, rfl⟩ (cP ((⟨p[j].t, p[j].p, p[j].q, .mk p[j].x.k p[j].x.t p[j].x.n 0 (X.erL p[j].x.r), 0⟩, Value.slice (some ⟨b4, 0, none⟩) p[j].p.length cap4, Value.slice (some ⟨b5, 0, none⟩) p[j].q.length cap5, Value.slice A6 p[j].x.r.length cap6) : Pd × Value × Value × Value)) (by rfl) rfl (oneP _ _ _ _ _ _ _ _ _ rfl rfl rfl rfl rfl rfl rfl rfl rfl) (by unfold maxLen; omega) (by omega) (by (try simp); omega) ?_; intro g9 cap9 w9 ho9 hg9 hor9; have HS5 := growS8 hg9 (keepS8 HU.out (by repeat (first | with_reducible exact hx3 | with_reducible exact hx5 | with_reducible exact hx4 | with_reducible exact Below.refl _ _ | with_reducible refine Below.drew ?_ | with_reducible refine Below.alloc ?_ (by (try simp); try omega) _))) Hn1.out Hn1.out Hn1.out Hn1.out Hn1.out Hn1.out Hn1.out Hn1.out; have hO9 := (Blk.kept hOv (by repeat (first | with_reducible exact hx3 | with_reducible exact hx5 | with_reducible exact hx4 | with_reducible exact Below.refl _ _ | with_reducible refine Below.drew ?_ | with_reducible refine Below.alloc ?_ (by (try simp); try omega) _))).grown hg9 Hn0.out; obtain ⟨t0, t1, t2⟩ := Blk.c3 hO9; have tf := hO9.fr))
          all_goals
            have hl4 := hk4.ltL b4 (by simp [X.blkL, Value.ownBlock])
            have hl5 := hk5.ltL b5 (by simp [X.blkL, Value.ownBlock])
            have hl3 : ∀ b ∈ F6, w5.heap.size ≤ b := fun b hb => by have h1 := (hk3.lt b hb).1; (try simp at h1); omega
            have hnf : (X.blkL (.slice (some ⟨b4, 0, none⟩) p[j].p.length cap4) ++ (X.blkL (.slice (some ⟨b5, 0, none⟩) p[j].q.length cap5) ++ F6)).Nodup := by
              show (b4 :: b5 :: F6).Nodup
              refine List.nodup_cons.2 ⟨fun hm => ?_, List.nodup_cons.2 ⟨fun hm => by have := hl3 b5 hm; omega, hn3⟩⟩
              rcases List.mem_cons.1 hm with hm | hm
              · rcases hor4 with h4 | ⟨h4, h4'⟩ <;> rcases hor5 with h5 | ⟨h5, h5'⟩ <;> omega
              · have := hl3 b4 hm; omega
            have hD := roundE iP_law HL.out.2 HLj.out (by omega) (by omega) (hbb.trans (Below.mono (by repeat (first | with_reducible exact hx3 | with_reducible exact hx5 | with_reducible exact hx4 | with_reducible exact Below.refl _ _ | with_reducible refine Below.drew ?_ | with_reducible refine Below.alloc ?_ (by (try simp); try omega) _)) hzz)) ⟨F6, (SBuf.kept hk4 (by repeat (first | with_reducible exact Below.refl _ _ | with_reducible refine Below.drew ?_ | with_reducible refine Below.alloc ?_ (by (try simp); try omega) _ | with_reducible refine Below.trans ?_ (Below.mono hb3 (by (try simp); try omega)) | with_reducible refine Below.trans ?_ (Below.mono hb4 (by (try simp); try omega)) | with_reducible refine Below.trans ?_ (Below.mono hb5 (by (try simp); try omega))))).mono (by omega), (SBuf.kept hk5 (by repeat (first | with_reducible exact Below.refl _ _ | with_reducible refine Below.drew ?_ | with_reducible refine Below.alloc ?_ (by (try simp); try omega) _ | with_reducible refine Below.trans ?_ (Below.mono hb3 (by (try simp); try omega)) | with_reducible refine Below.trans ?_ (Below.mono hb4 (by (try simp); try omega)) | with_reducible refine Below.trans ?_ (Below.mono hb5 (by (try simp); try omega))))).mono (by omega), (X.Ok.kept hk3 (by repeat (first | with_reducible exact Below.refl _ _ | with_reducible refine Below.drew ?_ | with_reducible refine Below.alloc ?_ (by (try simp); try omega) _ | with_reducible refine Below.trans ?_ (Below.mono hb3 (by (try simp); try omega)) | with_reducible refine Below.trans ?_ (Below.mono hb4 (by (try simp); try omega)) | with_reducible refine Below.trans ?_ (Below.mono hb5 (by (try simp); try omega))))).mono (by (try simp); omega), rfl⟩ hnf ho9 hg9 hor9 2 (.slice (some ⟨g9, 0, none⟩) (j + 1) cap9) HI.out.1 (by omega) HI.out.2.1 HI.out.2.2.1 HI.out.2.2.2.1 HI.out.2.2.2.2 (by omega)
            have HD := Lib.hid hD.1
            obtain ⟨-, q1, q2, q3, q4, q5, q6, q7⟩ := hD
            have Q2 : Blk _ gO 31 #[.slice Ar r.length cr, .slice (some ⟨bg, 0, none⟩) g.length capg, .slice (some ⟨g9, 0, none⟩) (j + 1) cap9] := q2
            have HM2 := Lib.hid (show (M ++ [((⟨p[j].t, p[j].p, p[j].q, .mk p[j].x.k p[j].x.t p[j].x.n 0 (X.erL p[j].x.r), 0⟩, Value.slice (some ⟨b4, 0, none⟩) p[j].p.length cap4, Value.slice (some ⟨b5, 0, none⟩) p[j].q.length cap5, Value.slice A6 p[j].x.r.length cap6) : Pd × Value × Value × Value)]).map Prod.fst = (p.take (j + 1)).map Pd.er from by rw [List.map_append, HL.out.1, map_take_er _ _ hlt, er_eq]; rfl)
            have HW2 := Lib.hid (fun b (h1 : b < wL.heap.size) (h2 : b ≠ gO) => (q7 b h1 h2).trans (HW.out b h1 h2))
            clear HS5 hO9 t0 t1 t2 tf ho9 hg9 hor9 q2 q7 hv v0 v1 o0 o1 o2 hOv hld ho
            go_wp2_with fail
            go_roundw
            case rel => exact ⟨j + 1, _, _, _, by go_num, Lib.hid ⟨HM2.out, HD.out⟩, ⟨_, _, rfl⟩, by omega, q1, Q2, q3, q4, q5, q6, HW2⟩
            case measure => simp [intOf]; omega
        · obtain rfl : j = p.length := by omega
          have HM := Lib.hid HL.out.1
          have HGr := Lib.hid HL.out.2
          clear HL
          obtain ⟨r0, r1, r2⟩ := Blk.c3 hRb
          have rf := hRb.fr
          have hRL : ORs 41 wL (gO + 1) (r.map Rt.er) (.slice Ar r.length cr) (X.blkL (.slice Ar r.length cr) ++ FR) := ⟨L, by have h := HM1.out; rw [List.take_length] at h; exact h, HGr1.out.ok⟩
          have hRl := hRL.lt
          have hRo := hRL.keep fun b hb => HW.out b (hRl b hb).2 (by have := (hRl b hb).1; omega)
          have hPo : OPs 46 wr wL.heap.size (p.map Pd.er) (.slice Av p.length cv) (X.blkL (.slice Av p.length cv) ++ F) := ⟨M, by have h := HM.out; rw [List.take_length] at h; exact h, HGr.out.ok⟩
          have hPl := hPo.lt
          have hap : ((X.blkL (.slice Ar r.length cr) ++ FR) ++ (X.blkL (.slice (some ⟨bg, 0, none⟩) g.length capg) ++ (X.blkL (.slice Av p.length cv) ++ F))).Nodup := by
            refine List.nodup_append.2 ⟨HGr1.out.nd, List.nodup_append.2 ⟨blkL_nodup _, HGr.out.nd, fun x hx y hy => ?_⟩, fun x hx y hy => ?_⟩
            · have e : x = bg := by simpa [X.blkL, Value.ownBlock] using hx
              have := (hPl y hy).1; omega
            · have := hRl x hx
              rcases List.mem_append.1 hy with hy | hy
              · have e : y = bg := by simpa [X.blkL, Value.ownBlock] using hy
                omega
              · have := (hPl y hy).1; omega
          have HX := Lib.hid (And.intro hRo (And.intro hPo hap))
          clear hRL hRl hRo hPo hPl hap HM HGr HM1 HGr1 HW hP hG
          go_wp2_with fail
          refine bodyPost_ret (v := .agg #[.slice Ar r.length cr, .slice (some ⟨bg, 0, none⟩) g.length capg, .slice Av p.length cv]) (by simp [results, Try.results5, go_sem, r0, r1, r2]) rfl
            ⟨_, _, _, _, _, _, _, rfl, ⟨_, _, (HX.out.1.hi (C := w.heap.size + 2) (by repeat (first | with_reducible exact Hi.refl _ _ | with_reducible refine Hi.set_ ?_ (by simp) _)) (by omega)).mono (by omega), (hGs.hi (C := w.heap.size + 2) (by repeat (first | with_reducible exact Hi.refl _ _ | with_reducible refine Hi.set_ ?_ (by simp) _)) (by omega)).mono (by omega), (HX.out.2.1.hi (C := w.heap.size + 2) (by repeat (first | with_reducible exact Hi.refl _ _ | with_reducible refine Hi.set_ ?_ (by simp) _)) (by omega)).mono (by omega), rfl⟩, HX.out.2.2, ?_⟩
          repeat (with_reducible refine Below.setCell ?_ (by (try simp); try omega) _)
          exact hb
end Go.Proofs.Ytljblaglfooclaa
