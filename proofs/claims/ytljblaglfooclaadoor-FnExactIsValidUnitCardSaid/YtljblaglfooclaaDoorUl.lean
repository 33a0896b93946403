/- Proved here: the law's copies of lists of record types and of procedures, and of units, are the call's own. Condition: the lists fit. -/
import Derived.Test.YtljblaglfooclaaDoorUt
namespace Go.Proofs.YtljblaglfooclaaDoor
open Go.RowKit

theorem toRtF (a : Rt) (s : Value) (P : Nat → Prop) (w : World) (hK : Sr w P s a.f) (hP : ∀ b, P b → b < w.heap.size) (hl : a.f.length ≤ 1099511627776) :
    Calls Tryd.prog 31 #[.agg #[.string a.t, s, .int .i64 a.l]] w fun e w' => ∃ A cap F, e = .returned (.agg #[.string a.t, .slice A a.f.length cap, .int .i64 a.l]) ∧ iR w' w.heap.size (a, .slice A a.f.length cap) F ∧ F.Nodup ∧ Below w.heap.size w w' :=
  (toRt a s P w hK hP hl).mono fun _ _ ⟨A, cap, he, hk, hb⟩ => ⟨A, cap, _, he, ⟨hk, rfl⟩, blkL_nodup _, hb⟩
theorem ORs.kept {eR : TypeId} {w w' : World} {B : Nat} {r : List Rt} {s : Value} {F : List Nat} (h : ORs eR w B r s F) (hb : Below w.heap.size w w') : ORs eR w' B r s F := h.keep fun b hf => hb.block b (h.lt b hf).2
theorem OPs.kept {eR : TypeId} {w w' : World} {B : Nat} {r : List Pd} {s : Value} {F : List Nat} (h : OPs eR w B r s F) (hb : Below w.heap.size w w') : OPs eR w' B r s F := h.keep fun b hf => hb.block b (h.lt b hf).2
theorem ORs.hi {eR : TypeId} {w w' : World} {B C : Nat} {r : List Rt} {s : Value} {F : List Nat} (h : ORs eR w B r s F) (hh : Hi C w w') (hC : C ≤ B) : ORs eR w' B r s F := h.keep fun b hb => hh b (Nat.le_trans hC (h.lt b hb).1)
theorem OPs.hi {eR : TypeId} {w w' : World} {B C : Nat} {r : List Pd} {s : Value} {F : List Nat} (h : OPs eR w B r s F) (hh : Hi C w w') (hC : C ≤ B) : OPs eR w' B r s F := h.keep fun b hb => hh b (Nat.le_trans hC (h.lt b hb).1)
theorem info_R : (Tryd.prog.info? 41).map (fun i => (i.zero, i.size, i.bytes)) = some (some (.agg #[.string ⟨#[]⟩, .slice none 0 0, .int .i64 0]), 3, 48) := by kernel_rfl
/-- make([]RecordType, n) -/
def zerosR (n : Nat) : Obj := .cells (madeCells #[.string ⟨#[]⟩, .slice none 0 0, .int .i64 0] (n * 3)) 41
theorem make_R (n : Nat) (hn : n ≤ 1099511627776) (w : World) : (Instr.makeSlice 29 (.int .i64 (n : Int)) (.int .i64 (n : Int))).run Tryd.prog w = .ok (.slice (some ⟨w.heap.size, 0, none⟩) n n) (w.alloc (zerosR n)) := by
  obtain ⟨i0, hi, hz0, hz1, hz2⟩ := info_parts info_R
  have hr := run_make (P := Tryd.prog) w 29 41 i0 _ Tryd.underlying29 hi hz0 .i64 .i64 n n (by omega) (by omega) (by rw [hz2]; omega) (by omega)
  simpa [hz1, zerosR, Value.cells] using hr
def zR : Rt × Value := (⟨⟨#[]⟩, [], 0⟩, .slice none 0 0)
theorem own_zerosR (w : World) (B n : Nat) (hb : B ≤ w.heap.size) (hn : n ≤ maxLen) : (w.alloc (zerosR n)).ownsRow B 41 3 (.slice (some ⟨w.heap.size, 0, none⟩) n n) n ((List.replicate n zR).flatMap cR) := by
  have h := World.ownsRow_lit (base := B) (e := 41) (size := 3) w (madeCells #[.string ⟨#[]⟩, .slice none 0 0, .int .i64 0] (n * 3)) n hb hn (by rw [size_madeCells])
  rwa [made_flat cR_len (by omega) zR #[.string ⟨#[]⟩, .slice none 0 0, .int .i64 0] rfl] at h
set_option maxHeartbeats 4000000 in
theorem toRtS (r : List Rt) (s : Value) (P : Nat → Prop) (w : World) (hK : Rts w P r s) (hP : ∀ b, P b → b < w.heap.size) (hsiz : r.length + sumF Rt.siz r ≤ 1099511627776) :
    Calls Tryd.prog 15 #[s] w fun e w' => ∃ A cap F, e = .returned (.slice A r.length cap) ∧ ORs 41 w' w.heap.size r (.slice A r.length cap) F ∧ F.Nodup ∧ Below w.heap.size w w' := by
  obtain ⟨A, cap, rfl⟩ := hK.form
  have hmk := make_R r.length (by omega) w
  go_enter Tryd.func15, Tryd.ntmps15
  go_wp2_with fail
  go_loopw [4] (fun i wr => ∃ (j : Nat) (L : List (Rt × Value)) (F : List Nat), i = .int .i64 j ∧ wr.ownsRow w.heap.size 41 3 (.slice (some ⟨w.heap.size, 0, none⟩) r.length r.length) r.length ((L ++ List.replicate (r.length - j) zR).flatMap cR) ∧
      L.map Prod.fst = r.take j ∧ OwG iR wr (w.heap.size + 1) L F ∧ F.Nodup ∧ j ≤ r.length ∧ Below w.heap.size w wr)
    (fun i _ => r.length - (intOf i).toNat)
  case atStart => exact ⟨0, [], [], rfl, by simpa using own_zerosR w w.heap.size r.length (Nat.le_refl _) (by unfold maxLen; omega), by simp, rfl, List.nodup_nil, by omega, (Below.refl _ _).alloc (Nat.le_refl _) _⟩
  case round =>
    obtain ⟨j, L, F, rfl, hown, hL, hF, hnd, hj, hb⟩ := hrel
    have hsz := hb.size
    have hlt0 := (hown.lt w.heap.size rfl).2
    clear hmk
    by_cases hlt : j < r.length
    · obtain ⟨b, o, s1, rfl, hPb, hs1, c0, c1, c2⟩ := Rts.at_ (hK.below hb hP) hlt
      obtain ⟨A1, cap1, rfl⟩ := hs1.form
      have h0 := sumF_at Rt.siz r hlt
      have hC := toRtF r[j] _ P wr hs1 (fun b hb => Nat.lt_of_lt_of_le (hP b hb) hsz) (by have : r[j].siz = r[j].t.size + (r[j].f.length + sizS r[j].f) := rfl; omega)
      clear h0
      go_wp2_with (go_at_call 31; refine hC.mono ?_; rintro e w1 ⟨A2, cap2, F1, rfl, hk1, hnd1, hb1⟩; have hown1 := X.ownsRow_below hown hb1 (fun k hk => by cases hk; exact hlt0); obtain ⟨⟨u0, d0⟩, f0⟩ := own_at hown1 (k := j * 3) (by omega); obtain ⟨⟨u1, d1⟩, f1⟩ := own_at hown1 (k := j * 3 + 1) (by omega); obtain ⟨⟨u2, d2⟩, f2⟩ := own_at hown1 (k := j * 3 + 2) (by omega))
      have hLl : L.length = j := by have := congrArg List.length hL; simp at this; omega
      have hrel : (setCs w1 w.heap.size (j * 3) (cR (r[j], Value.slice A2 r[j].f.length cap2))).ownsRow w.heap.size 41 3 (.slice (some ⟨w.heap.size, 0, none⟩) r.length r.length) r.length (((L ++ [(r[j], Value.slice A2 r[j].f.length cap2)]) ++ List.replicate (r.length - (j + 1)) zR).flatMap cR) := by
        have h5 := own_setCs (cR (r[j], Value.slice A2 r[j].f.length cap2)) (j * 3) hown1
        rwa [sets_flat cR_len _ (by simp; omega), fill_next L r.length hlt hLl] at h5
      have hL1 : (L ++ [(r[j], Value.slice A2 r[j].f.length cap2)]).map Prod.fst = r.take (j + 1) := by
        rw [List.map_append, hL, List.take_succ_eq_append_getElem hlt]; rfl
      have hF1 : OwG iR (setCs w1 w.heap.size (j * 3) (cR (r[j], Value.slice A2 r[j].f.length cap2))) (w.heap.size + 1) (L ++ [(r[j], Value.slice A2 r[j].f.length cap2)]) (F ++ F1) := by
        refine OwG.append (OwG.keep iR_law hF fun b hb => ?_) (OwG.one (iR_law.keep (iR_law.mono (by omega) hk1) fun b hb => ?_))
        · have := OwG.lt iR_law hF b hb
          rw [setCs_block (by omega)]
          exact hb1.block b (by omega)
        · have := iR_law.lt hk1 b hb
          exact setCs_block (by omega) _ _ _
      have hnd2 : (F ++ F1).Nodup := List.nodup_append.2 ⟨hnd, hnd1, fun a ha c hc => by have := OwG.lt iR_law hF a ha; have := iR_law.lt hk1 c hc; omega⟩
      have hB1 : Below w.heap.size w (setCs w1 w.heap.size (j * 3) (cR (r[j], Value.slice A2 r[j].f.length cap2))) := setCs_below (Nat.le_refl _) _ _ (hb.trans (hb1.mono hsz))
      refine ⟨⟨j + 1, _, _, by go_num, hrel, hL1, hF1, hnd2, by omega, hB1⟩, ?_⟩
      simp [intOf]; omega
    · obtain rfl : j = r.length := by omega
      have hLl : L.length = r.length := by have := congrArg List.length hL; simp at this; omega
      have hS : ORs 41 wr w.heap.size r (.slice (some ⟨w.heap.size, 0, none⟩) r.length r.length) (w.heap.size :: F) := by
        refine ⟨L, by simpa using hL, F, ?_, OwG.mono iR_law (by omega) hF, rfl⟩
        rw [hLl]
        simpa using hown
      have hnd2 : (w.heap.size :: F).Nodup := List.nodup_cons.2 ⟨fun hm => by have := OwG.lt iR_law hF _ hm; omega, hnd⟩
      clear hown hF hnd
      go_wp2_with fail
      go_ret
      exact ⟨_, _, _, rfl, hS, hnd2, hb⟩
theorem info_P : (Tryd.prog.info? 47).map (fun i => (i.zero, i.size, i.bytes)) = some (some (.agg #[.string ⟨#[]⟩, .slice none 0 0, .slice none 0 0, .int .i64 0, .string ⟨#[]⟩, .int .i64 0, .int .i64 0, .slice none 0 0, .int .i64 0]), 9, 136) := by kernel_rfl
/-- make([]Procedure, n) -/
def zerosP (n : Nat) : Obj := .cells (madeCells #[.string ⟨#[]⟩, .slice none 0 0, .slice none 0 0, .int .i64 0, .string ⟨#[]⟩, .int .i64 0, .int .i64 0, .slice none 0 0, .int .i64 0] (n * 9)) 47
theorem make_P (n : Nat) (hn : n ≤ 1099511627776) (w : World) : (Instr.makeSlice 30 (.int .i64 (n : Int)) (.int .i64 (n : Int))).run Tryd.prog w = .ok (.slice (some ⟨w.heap.size, 0, none⟩) n n) (w.alloc (zerosP n)) := by
  obtain ⟨i0, hi, hz0, hz1, hz2⟩ := info_parts info_P
  have hr := run_make (P := Tryd.prog) w 30 47 i0 _ Tryd.underlying30 hi hz0 .i64 .i64 n n (by omega) (by omega) (by rw [hz2]; omega) (by omega)
  simpa [hz1, zerosP, Value.cells] using hr
def zP : Pd × Value × Value × Value := (⟨⟨#[]⟩, [], [], X.zero, 0⟩, .slice none 0 0, .slice none 0 0, .slice none 0 0)
theorem own_zerosP (w : World) (B n : Nat) (hb : B ≤ w.heap.size) (hn : n ≤ maxLen) : (w.alloc (zerosP n)).ownsRow B 47 9 (.slice (some ⟨w.heap.size, 0, none⟩) n n) n ((List.replicate n zP).flatMap cP) := by
  have h := World.ownsRow_lit (base := B) (e := 47) (size := 9) w (madeCells #[.string ⟨#[]⟩, .slice none 0 0, .slice none 0 0, .int .i64 0, .string ⟨#[]⟩, .int .i64 0, .int .i64 0, .slice none 0 0, .int .i64 0] (n * 9)) n hb hn (by rw [size_madeCells])
  rwa [made_flat cP_len (by omega) zP #[.string ⟨#[]⟩, .slice none 0 0, .slice none 0 0, .int .i64 0, .string ⟨#[]⟩, .int .i64 0, .int .i64 0, .slice none 0 0, .int .i64 0] rfl] at h
set_option maxHeartbeats 4000000 in
theorem toPdS (r : List Pd) (s : Value) (P : Nat → Prop) (w : World) (hK : Pds X.Kd w P r s) (hP : ∀ b, P b → b < w.heap.size) (hsiz : r.length + sumF Pd.siz r ≤ 1099511627776) :
    Calls Tryd.prog 17 #[s] w fun e w' => ∃ A cap F, e = .returned (.slice A r.length cap) ∧ OPs 47 w' w.heap.size r (.slice A r.length cap) F ∧ F.Nodup ∧ Below w.heap.size w w' := by
  obtain ⟨A, cap, rfl⟩ := hK.form
  have hmk := make_P r.length (by omega) w
  go_enter Tryd.func17, Tryd.ntmps17
  go_wp2_with fail
  go_loopw [4] (fun i wr => ∃ (j : Nat) (L : List (Pd × Value × Value × Value)) (F : List Nat), i = .int .i64 j ∧ wr.ownsRow w.heap.size 47 9 (.slice (some ⟨w.heap.size, 0, none⟩) r.length r.length) r.length ((L ++ List.replicate (r.length - j) zP).flatMap cP) ∧
      L.map Prod.fst = r.take j ∧ OwG iP wr (w.heap.size + 1) L F ∧ F.Nodup ∧ j ≤ r.length ∧ Below w.heap.size w wr)
    (fun i _ => r.length - (intOf i).toNat)
  case atStart => exact ⟨0, [], [], rfl, by simpa using own_zerosP w w.heap.size r.length (Nat.le_refl _) (by unfold maxLen; omega), by simp, rfl, List.nodup_nil, by omega, (Below.refl _ _).alloc (Nat.le_refl _) _⟩
  case round =>
    obtain ⟨j, L, F, rfl, hown, hL, hF, hnd, hj, hb⟩ := hrel
    have hsz := hb.size
    have hlt0 := (hown.lt w.heap.size rfl).2
    clear hmk
    by_cases hlt : j < r.length
    · obtain ⟨b, o, s1, s2, s3, rfl, hPb, hs1, hs2, hs3, c0, c1, c2, c3, c4, c5, c6, c7, c8⟩ := Pds.at_ (hK.below hb hP) hlt
      obtain ⟨A1, cap1, rfl⟩ := hs1.form
      obtain ⟨A2, cap2, rfl⟩ := hs2.form
      obtain ⟨A3, cap3, rfl⟩ := hs3.form
      have h0 := sumF_at Pd.siz r hlt
      have hC := toPd r[j] _ _ _ P wr hs1 hs2 hs3 (fun b hb => Nat.lt_of_lt_of_le (hP b hb) hsz) (by omega)
      clear h0
      go_wp2_with (go_at_call 32; refine hC.mono ?_; rintro e w1 ⟨A4, cap4, A5, cap5, A6, cap6, F1, rfl, hk1, hnd1, hb1⟩; have hown1 := X.ownsRow_below hown hb1 (fun k hk => by cases hk; exact hlt0); obtain ⟨⟨u0, d0⟩, f0⟩ := own_at hown1 (k := j * 9) (by omega); obtain ⟨⟨u1, d1⟩, f1⟩ := own_at hown1 (k := j * 9 + 1) (by omega); obtain ⟨⟨u2, d2⟩, f2⟩ := own_at hown1 (k := j * 9 + 2) (by omega); obtain ⟨⟨u3, d3⟩, f3⟩ := own_at hown1 (k := j * 9 + 3) (by omega); obtain ⟨⟨u4, d4⟩, f4⟩ := own_at hown1 (k := j * 9 + 4) (by omega); obtain ⟨⟨u5, d5⟩, f5⟩ := own_at hown1 (k := j * 9 + 5) (by omega); obtain ⟨⟨u6, d6⟩, f6⟩ := own_at hown1 (k := j * 9 + 6) (by omega); obtain ⟨⟨u7, d7⟩, f7⟩ := own_at hown1 (k := j * 9 + 7) (by omega); obtain ⟨⟨u8, d8⟩, f8⟩ := own_at hown1 (k := j * 9 + 8) (by omega))
      have hLl : L.length = j := by have := congrArg List.length hL; simp at this; omega
      have hrel : (setCs w1 w.heap.size (j * 9) (cP (r[j], Value.slice A4 r[j].p.length cap4, Value.slice A5 r[j].q.length cap5, Value.slice A6 r[j].x.r.length cap6))).ownsRow w.heap.size 47 9 (.slice (some ⟨w.heap.size, 0, none⟩) r.length r.length) r.length (((L ++ [(r[j], Value.slice A4 r[j].p.length cap4, Value.slice A5 r[j].q.length cap5, Value.slice A6 r[j].x.r.length cap6)]) ++ List.replicate (r.length - (j + 1)) zP).flatMap cP) := by
        have h5 := own_setCs (cP (r[j], Value.slice A4 r[j].p.length cap4, Value.slice A5 r[j].q.length cap5, Value.slice A6 r[j].x.r.length cap6)) (j * 9) hown1
        rwa [sets_flat cP_len _ (by simp; omega), fill_next L r.length hlt hLl] at h5
      have hL1 : (L ++ [(r[j], Value.slice A4 r[j].p.length cap4, Value.slice A5 r[j].q.length cap5, Value.slice A6 r[j].x.r.length cap6)]).map Prod.fst = r.take (j + 1) := by
        rw [List.map_append, hL, List.take_succ_eq_append_getElem hlt]; rfl
      have hF1 : OwG iP (setCs w1 w.heap.size (j * 9) (cP (r[j], Value.slice A4 r[j].p.length cap4, Value.slice A5 r[j].q.length cap5, Value.slice A6 r[j].x.r.length cap6))) (w.heap.size + 1) (L ++ [(r[j], Value.slice A4 r[j].p.length cap4, Value.slice A5 r[j].q.length cap5, Value.slice A6 r[j].x.r.length cap6)]) (F ++ F1) := by
        refine OwG.append (OwG.keep iP_law hF fun b hb => ?_) (OwG.one (iP_law.keep (iP_law.mono (by omega) hk1) fun b hb => ?_))
        · have := OwG.lt iP_law hF b hb
          rw [setCs_block (by omega)]
          exact hb1.block b (by omega)
        · have := iP_law.lt hk1 b hb
          exact setCs_block (by omega) _ _ _
      have hnd2 : (F ++ F1).Nodup := List.nodup_append.2 ⟨hnd, hnd1, fun a ha c hc => by have := OwG.lt iP_law hF a ha; have := iP_law.lt hk1 c hc; omega⟩
      have hB1 : Below w.heap.size w (setCs w1 w.heap.size (j * 9) (cP (r[j], Value.slice A4 r[j].p.length cap4, Value.slice A5 r[j].q.length cap5, Value.slice A6 r[j].x.r.length cap6))) := setCs_below (Nat.le_refl _) _ _ (hb.trans (hb1.mono hsz))
      refine ⟨⟨j + 1, _, _, by go_num, hrel, hL1, hF1, hnd2, by omega, hB1⟩, ?_⟩
      simp [intOf]; omega
    · obtain rfl : j = r.length := by omega
      have hLl : L.length = r.length := by have := congrArg List.length hL; simp at this; omega
      have hS : OPs 47 wr w.heap.size r (.slice (some ⟨w.heap.size, 0, none⟩) r.length r.length) (w.heap.size :: F) := by
        refine ⟨L, by simpa using hL, F, ?_, OwG.mono iP_law (by omega) hF, rfl⟩
        rw [hLl]
        simpa using hown
      have hnd2 : (w.heap.size :: F).Nodup := List.nodup_cons.2 ⟨fun hm => by have := OwG.lt iP_law hF _ hm; omega, hnd⟩
      clear hown hF hnd
      go_wp2_with fail
      go_ret
      exact ⟨_, _, _, rfl, hS, hnd2, hb⟩
set_option maxHeartbeats 4000000 in
theorem toUn (u : Un) (s1 s2 s3 : Value) (P : Nat → Prop) (w : World) (hK : Urd X.Kd w P u s1 s2 s3) (hP : ∀ b, P b → b < w.heap.size) (hl : u.siz ≤ 1099511627776) :
    Calls Tryd.prog 6 #[.agg #[s1, s2, s3]] w fun e w' => ∃ A1 c1 A2 c2 A3 c3 F, e = .returned (.agg #[.slice A1 u.r.length c1, .slice A2 u.g.length c2, .slice A3 u.p.length c3]) ∧
      OUn 41 47 w' w.heap.size u (.slice A1 u.r.length c1) (.slice A2 u.g.length c2) (.slice A3 u.p.length c3) F ∧ F.Nodup ∧ Below w.heap.size w w' := by
  obtain ⟨hK1, hK2, hK3⟩ := hK
  have hz0 : u.siz = (u.r.length + sumF Rt.siz u.r) + ((u.g.length + sizS u.g) + (u.p.length + sumF Pd.siz u.p)) := rfl
  have hC1 := fun W (hW : Below w.heap.size w W) => toRtS u.r s1 P W (hK1.below hW hP) (fun b hb => Nat.lt_of_lt_of_le (hP b hb) hW.size) (by omega)
  have hC2 := toS_at hK2 hP (by omega)
  have hC3 := fun W (hW : Below w.heap.size w W) => toPdS u.p s3 P W (hK3.below hW hP) (fun b hb => Nat.lt_of_lt_of_le (hP b hb) hW.size) (by omega)
  obtain ⟨A1, cap1, rfl⟩ := hK1.form
  obtain ⟨A2, cap2, rfl⟩ := hK2.form
  obtain ⟨A3, cap3, rfl⟩ := hK3.form
  obtain ⟨r, g, p⟩ := u
  clear hK1 hK2 hK3 hl hz0
  replace hC1 : ∀ W : World, Below w.heap.size w W → Calls Tryd.prog 15 #[.slice A1 r.length cap1] W fun e w' => ∃ A cap F, e = .returned (.slice A r.length cap) ∧ ORs 41 w' W.heap.size r (.slice A r.length cap) F ∧ F.Nodup ∧ Below W.heap.size W w' := hC1
  replace hC2 : ∀ W : World, Below w.heap.size w W → Calls Tryd.prog 16 #[.slice A2 g.length cap2] W fun e w' => ∃ A cap, e = .returned (.slice A g.length cap) ∧ SBuf w' W.heap.size (.slice A g.length cap) g ∧ Below W.heap.size W w' := hC2
  replace hC3 : ∀ W : World, Below w.heap.size w W → Calls Tryd.prog 17 #[.slice A3 p.length cap3] W fun e w' => ∃ A cap F, e = .returned (.slice A p.length cap) ∧ OPs 47 w' W.heap.size p (.slice A p.length cap) F ∧ F.Nodup ∧ Below W.heap.size W w' := hC3
  show Calls Tryd.prog 6 #[.agg #[.slice A1 r.length cap1, .slice A2 g.length cap2, .slice A3 p.length cap3]] w fun e w' => ∃ A1 c1 A2 c2 A3 c3 F, e = .returned (.agg #[.slice A1 r.length c1, .slice A2 g.length c2, .slice A3 p.length c3]) ∧
      OUn 41 47 w' w.heap.size ⟨r, g, p⟩ (.slice A1 r.length c1) (.slice A2 g.length c2) (.slice A3 p.length c3) F ∧ F.Nodup ∧ Below w.heap.size w w'
  have hbb : Below w.heap.size w w := Below.refl _ _
  have hzz := hbb.size
  go_enter Tryd.func6, Tryd.ntmps6
  go_wp2_with (first
    | (go_at_call 17; refine (hC3 _ (by repeat (first | exact hbb | refine Below.drew ?_ | refine Below.setCell ?_ (by (try simp); try omega) _ | refine Below.alloc ?_ (by (try simp); try omega) _))).mono ?_; rintro e w3 ⟨A6, cap6, F6, rfl, hk3, hn3, hb3⟩; have hbb := X.grow (w := w) (by repeat (first | exact hbb | refine Below.drew ?_ | refine Below.setCell ?_ (by (try simp); try omega) _ | refine Below.alloc ?_ (by (try simp); try omega) _)) hb3; have hz3 := hb3.size; simp only [World.setCell, Array.size_modify] at hz3; have hp := (hp.far (by simp; omega) _).kept hb3; have hr := (hr.far (by simp) _).kept hb3; have ho : Blk w3 (w.heap.size + 1 + 1) 32 #[.slice A4 r.length cap4, .slice A5 g.length cap5, .slice none 0 0] := (ho.set_ 1 _).kept hb3; obtain ⟨p0, p1, p2⟩ := Blk.c3 hp; obtain ⟨o0, o1, o2⟩ := Blk.c3 ho; obtain ⟨r0, r1, r2⟩ := Blk.c3 hr; have of := ho.fr; have rf := hr.fr)
    | (go_at_call 16; refine (hC2 _ (by repeat (first | exact hbb | refine Below.drew ?_ | refine Below.setCell ?_ (by (try simp); try omega) _ | refine Below.alloc ?_ (by (try simp); try omega) _))).mono ?_; rintro e w2 ⟨A5, cap5, rfl, hk2, hb2⟩; have hbb := X.grow (w := w) (by repeat (first | exact hbb | refine Below.drew ?_ | refine Below.setCell ?_ (by (try simp); try omega) _ | refine Below.alloc ?_ (by (try simp); try omega) _)) hb2; have hz2 := hb2.size; simp only [World.setCell, Array.size_modify] at hz2; have hp := (hp.far (by simp; omega) _).kept hb2; have hr := (hr.far (by simp) _).kept hb2; have ho : Blk w2 (w.heap.size + 1 + 1) 32 #[.slice A4 r.length cap4, .slice none 0 0, .slice none 0 0] := (ho.set_ 0 _).kept hb2; obtain ⟨p0, p1, p2⟩ := Blk.c3 hp; obtain ⟨o0, o1, o2⟩ := Blk.c3 ho; have of := ho.fr)
    | (go_at_call 15; refine (hC1 _ (by repeat (first | exact hbb | refine Below.drew ?_ | refine Below.setCell ?_ (by (try simp); try omega) _ | refine Below.alloc ?_ (by (try simp); try omega) _))).mono ?_; rintro e w1 ⟨A4, cap4, F4, rfl, hk1, hn1, hb1⟩; have hbb := X.grow (w := w) (by repeat (first | exact hbb | refine Below.drew ?_ | refine Below.setCell ?_ (by (try simp); try omega) _ | refine Below.alloc ?_ (by (try simp); try omega) _)) hb1; have hz1 := hb1.size; simp at hz1; have hp : Blk w1 w.heap.size 26 #[.slice A1 r.length cap1, .slice A2 g.length cap2, .slice A3 p.length cap3] := (((Blk.new _ _ _).alloc _).alloc _).kept hb1; have hr : Blk w1 (w.heap.size + 1) 32 #[.slice none 0 0, .slice none 0 0, .slice none 0 0] := ((Blk.new' (by simp)).alloc _).kept hb1; have ho : Blk w1 (w.heap.size + 1 + 1) 32 #[.slice none 0 0, .slice none 0 0, .slice none 0 0] := (Blk.new' (by simp)).kept hb1; obtain ⟨p0, p1, p2⟩ := Blk.c3 hp; obtain ⟨o0, o1, o2⟩ := Blk.c3 ho; have of := ho.fr))
  have q1 : ((w.heap.size + 1) + 1) + 1 ≤ w1.heap.size := by omega
  have n1 : ORs 41 w1 (w.heap.size + 1 + 1 + 1) r (.slice A4 r.length cap4) F4 := hk1.mono (by simp)
  have n2 := (n1.hi (C := w.heap.size + 1 + 1 + 1) (Hi.set_ (Hi.refl _ _) (p := ⟨w.heap.size + 1 + 1, 0, none⟩) (by simp) (.slice A4 r.length cap4)) (Nat.le_refl _)).kept hb2
  have n3 := (n2.hi (C := w.heap.size + 1 + 1 + 1) (Hi.set_ (Hi.refl _ _) (p := ⟨w.heap.size + 1 + 1, 1, none⟩) (by simp) (.slice A5 g.length cap5)) (Nat.le_refl _)).kept hb3
  have m2 : SBuf w2 w1.heap.size (.slice A5 g.length cap5) g := hk2.mono (by simp [World.setCell])
  have m3 := (m2.hi (C := w.heap.size + 1 + 1 + 1) (Hi.set_ (Hi.refl _ _) (p := ⟨w.heap.size + 1 + 1, 1, none⟩) (by simp) (.slice A5 g.length cap5)) q1).kept hb3
  have l3 : OPs 47 w3 w2.heap.size p (.slice A6 p.length cap6) F6 := hk3.mono (by simp [World.setCell])
  have hap : (F4 ++ (X.blkL (.slice A5 g.length cap5) ++ F6)).Nodup := List.nodup_append.2 ⟨hn1, List.nodup_append.2 ⟨blkL_nodup _, hn3, fun x hx y hy => by have := m2.ltL x hx; have := l3.lt y hy; omega⟩, fun x hx y hy => by
    have := n1.lt x hx
    rcases List.mem_append.1 hy with hy | hy
    · have := m2.ltL y hy; omega
    · have := l3.lt y hy; omega⟩
  refine bodyPost_ret (v := .agg #[.slice A4 r.length cap4, .slice A5 g.length cap5, .slice A6 p.length cap6]) (by simp [results, Tryd.results6, go_sem, r0, r1, r2]) rfl
    ⟨A4, cap4, A5, cap5, A6, cap6, _, rfl, ⟨F4, F6, (n3.hi (C := w.heap.size + 1 + 1 + 1) (by repeat (first | with_reducible exact Hi.refl _ _ | with_reducible refine Hi.set_ ?_ (by simp) _)) (Nat.le_refl _)).mono (by omega), (m3.hi (C := w.heap.size + 1 + 1 + 1) (by repeat (first | with_reducible exact Hi.refl _ _ | with_reducible refine Hi.set_ ?_ (by simp) _)) q1).mono (by omega), (l3.hi (C := w.heap.size + 1 + 1 + 1) (by repeat (first | with_reducible exact Hi.refl _ _ | with_reducible refine Hi.set_ ?_ (by simp) _)) (by omega)).mono (by omega), rfl⟩, hap, ?_⟩
  repeat (with_reducible refine Below.setCell ?_ (by (try simp); try omega) _)
  exact hbb
end Go.Proofs.YtljblaglfooclaaDoor
