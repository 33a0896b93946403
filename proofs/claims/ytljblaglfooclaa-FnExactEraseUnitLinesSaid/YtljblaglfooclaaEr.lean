/- Proved here: what EraseLines returns, of the program and of the reference: a tree of its own without lines. Condition: the tree has at most 2^40 kids and letters. -/
import Derived.Test.YtljblaglfooclaaXm
import Derived.Test.YtljblaglfooclaaHeld
import Derived.Maps.AppendAt
import Derived.Deep.AppendLies
import Derived.Deep.RegionLaw
import Derived.StillTailTactics
namespace Go.Proofs.Ytljblaglfooclaa
open Go.RowKit
namespace X

theorem form_of {A : Option Addr} {n c : Nat} {s : Value} (h : s = .slice A n c) : s.oneCell' = true := by subst h; rfl
theorem cells5_one (y : X) {u : Value} (hu : u.oneCell' = true) : ∀ x ∈ cells5 y u, x.oneCell' = true := by
  intro x hx
  simp only [cells5, List.mem_cons, List.not_mem_nil, or_false] at hx
  rcases hx with rfl | rfl | rfl | rfl | rfl <;> first | rfl | exact hu
theorem info_xe : (Try.prog.info? 44).map (fun i => (i.zero, i.size, i.bytes)) = some (some (.agg #[.int .i64 0, .string ⟨#[]⟩, .int .i64 0, .int .i64 0, .slice none 0 0]), 5, 64) := by kernel_rfl
/-- append of one node, written out, to a row of the call's own. -/
theorem wp_append_x {o : Oper} {a : Act} {K : Act → World → Prop} {Q : Exit → Act → World → Prop} {w W : World} {cs : Array Value} (s x : Operand)
    (ho : o.op = .call { callee := .builtin .append, args := #[s, x], argTypes := #[42, 42] })
    {B n : Nat} {v : Value} {xs : List Value} (hs : a.eval s = v) (hown : w.ownsRow B 44 5 v n xs) {g : Nat} (hx : a.eval x = .slice (some ⟨g, 0, none⟩) 1 1) (hg : g = w.heap.size)
    (hW : W.heap = (w.alloc (.cells cs 44)).heap ∧ W.os = w.os ∧ W.tape = w.tape ∧ W.output = w.output)
    (y : X) (u : Value) (hcs : cs.toList = cells5 y u) (hu : u.oneCell' = true) (hlen : n ≤ 1099511627776) (hB : B ≤ w.heap.size)
    (h : ∀ g' cap' w', w'.ownsRow B 44 5 (.slice (some ⟨g', 0, none⟩) (n + 1) cap') (n + 1) (xs ++ cells5 y u) → w.grownBy w' v.ownBlock → (v.ownBlock = some g' ∨ w.heap.size < g') → K (a.put o.dst (.slice (some ⟨g', 0, none⟩) (n + 1) cap')) w') :
    o.wp Try.prog a W K Q := by
  obtain ⟨i0, hi, hz0, hz1, hz2⟩ := info_parts info_xe
  have hgr : w.grownBy W none := ⟨hW.2.1, hW.2.2.1, hW.2.2.2, by rw [hW.1]; simp, fun k hk _ => by rw [hW.1]; exact heap_alloc_old w _ hk⟩
  have hW' : W.ownsRow B 44 5 v n xs := hown.kept hgr (by cases v.ownBlock <;> simp)
  have hWs : W.heap.size = w.heap.size + 1 := by rw [hW.1]; simp
  have hnews : ∀ j z, (cells5 y u)[j]? = some z → W.cell? ((⟨g, 0, none⟩ : Addr).add j) = some z := by
    intro j z hz
    have e : (⟨g, 0, none⟩ : Addr).add j = ⟨g, j, none⟩ := by unfold Addr.add; split <;> simp_all
    have hc : W.cell? ⟨g, j, none⟩ = (w.alloc (.cells cs 44)).cell? ⟨g, j, none⟩ := by unfold World.cell?; rw [hW.1]
    rw [e, hc, World.cell?_alloc_at _ _ _ _ hg, ← Array.getElem?_toList, hcs]
    exact hz
  obtain ⟨v', w', hr, h2, h3, _, h5⟩ := run_append_own_at (P := Try.prog) W B 42 o.type 44 i0 _ 5 64 Try.underlying42 hi hz0 hz1 hz2 rfl (by omega) v n xs hW' ⟨g, 0, none⟩ 1 1 (cells5 y u) rfl hnews (cells5_one y hu) (by unfold maxLen; omega) (by omega) (by omega)
  obtain ⟨g', cap', rfl, hg1, hg2⟩ := h2.form (by omega)
  unfold Oper.wp execOp
  simp only [ho, resolve, invoke, builtin, Sem.run_bind, Sem.run_pure, Result.andThen_ok, List.map_toArray, List.map_cons, List.map_nil, hs, hx, hr]
  refine h g' cap' w' h2 ?_ ?_
  · exact ⟨h3.os.trans hgr.os, h3.tape.trans hgr.tape, h3.output.trans hgr.output, Nat.le_trans hgr.size h3.size, fun k hk hne => (h3.block k (by omega) hne).trans (hgr.block k hk (by simp))⟩
  · rcases h5 with h5 | h5
    · exact .inl h5.symm
    · right; simp [Value.ownBlock] at h5; omega
/-- The same as a step of a region that draws its order. -/
theorem step_append_x {ops : Array Oper} {o : Oper} {a : Act} {K : Act → World → Prop} {Q : Exit → Act → World → Prop} {E : Prop} {w W : World} {cs : Array Value} (hgd : o.guard = none) (s x : Operand)
    (ho : o.op = .call { callee := .builtin .append, args := #[s, x], argTypes := #[42, 42] })
    {B n : Nat} {v : Value} {xs : List Value} (hs : a.eval s = v) (hown : w.ownsRow B 44 5 v n xs) {g : Nat} (hx : a.eval x = .slice (some ⟨g, 0, none⟩) 1 1) (hg : g = w.heap.size)
    (hW : W.heap = (w.alloc (.cells cs 44)).heap ∧ W.os = w.os ∧ W.tape = w.tape ∧ W.output = w.output)
    (y : X) (u : Value) (hcs : cs.toList = cells5 y u) (hu : u.oneCell' = true) (hlen : n ≤ 1099511627776) (hB : B ≤ w.heap.size)
    (h : ∀ g' cap' w', w'.ownsRow B 44 5 (.slice (some ⟨g', 0, none⟩) (n + 1) cap') (n + 1) (xs ++ cells5 y u) → w.grownBy w' v.ownBlock → (v.ownBlock = some g' ∨ w.heap.size < g') → K (a.put o.dst (.slice (some ⟨g', 0, none⟩) (n + 1) cap')) w') :
    if Region.wanted o (yielded ops a.tmps) = true then Oper.wp Try.prog o a W K Q else E := by
  have hw : Region.wanted o (yielded ops a.tmps) = true := by simp [Region.wanted, hgd]
  rw [if_pos hw]
  exact wp_append_x s x ho hs hown hx hg hW y u hcs hu hlen hB h
/-- What has been collected behind j rounds. -/
def ErR (B : Nat) (r : List X) (j : Nat) (v : Value) (wr : World) : Prop := ∃ S F, wr.ownsRow B 44 5 v j (rowV (erL (r.take j)) S) ∧ OwL wr B (erL (r.take j)) S F ∧ (blkL v ++ F).Nodup
theorem ErR.start (B : Nat) (r : List X) (wr : World) : ErR B r 0 (.slice none 0 0) wr := ⟨[], [], World.ownsRow_nil _ _ _ _, ⟨rfl, rfl⟩, List.nodup_nil⟩
theorem ErR.ok {B : Nat} {r : List X} {v : Value} {wr : World} (h : ErR B r r.length v wr) : ∃ F, Ok wr B (erL r) v F ∧ F.Nodup := by
  obtain ⟨S, F, h0, h1, h2⟩ := h
  rw [List.take_length] at h0 h1
  exact ⟨_, ⟨S, F, by rw [erL_length]; exact h0, h1, rfl⟩, h2⟩
theorem ErR.keep {B : Nat} {r : List X} {j : Nat} {v : Value} {wr w' : World} (h : ErR B r j v wr) (hk : ∀ b, B ≤ b → b < wr.heap.size → w'.heap[b]? = wr.heap[b]?) : ErR B r j v w' := by
  obtain ⟨S, F, h0, h1, h2⟩ := h
  refine ⟨S, F, ⟨h0.1, ?_⟩, OwL.keep h1 fun b hb => hk b (OwL.lt h1 b hb).1 (OwL.lt h1 b hb).2, h2⟩
  rcases h0.2 with h | ⟨g, cap, cur, rfl, hg, hh, rest⟩
  · exact .inl h
  · exact .inr ⟨g, cap, cur, rfl, hg, (hk g hg (h0.lt g rfl).2).trans hh, rest⟩
theorem ErR.next {B C : Nat} {r : List X} {j : Nat} {v : Value} {w1 w2 w3 : World} {S : List Value} {F : List Nat} {s1 : Value} {F1 : List Nat} {g' cap' : Nat} (hlt : j < r.length)
    (h1 : OwL w1 B (erL (r.take j)) S F) (h2 : (blkL v ++ F).Nodup)
    (hold : ∀ b ∈ blkL v ++ F, b < C) (hk : Ok w1 C (erL r[j].r) s1 F1) (hnd : F1.Nodup) (hBC : B ≤ C)
    (h3 : w2.ownsRow B 44 5 (.slice (some ⟨g', 0, none⟩) (j + 1) cap') (j + 1) (rowV (erL (r.take j)) S ++ cells5 (er r[j]) s1)) (h4 : w1.grownBy w2 v.ownBlock) (h5 : v.ownBlock = some g' ∨ w1.heap.size < g')
    (h6 : ∀ b, B ≤ b → w3.heap[b]? = w2.heap[b]?) : ErR B r (j + 1) (.slice (some ⟨g', 0, none⟩) (j + 1) cap') w3 := by
  have hSl := h1.len
  have hrow : rowV (erL (r.take j)) S ++ cells5 (er r[j]) s1 = rowV (erL (r.take (j + 1))) (S ++ [s1]) := by
    rw [take_more r hlt, erL_snoc, rowV_append _ _ hSl]; simp [rowV]
  rw [hrow] at h3
  have hko : Ow w1 C (er r[j]) s1 F1 := by
    refine Ok.ow ?_
    have : (er r[j]).r = erL r[j].r := by cases r[j]; rfl
    rw [this]; exact hk
  have hF : ∀ b ∈ F, B ≤ b ∧ b < w1.heap.size := OwL.lt h1
  have hF1 := hk.lt
  have hv : ∀ b, v.ownBlock = some b → b ∈ blkL v := fun b hb => by simp [blkL, hb]
  have hnd2 := List.nodup_append.1 h2
  have same : ∀ b ∈ F ++ F1, w3.heap[b]? = w1.heap[b]? := by
    intro b hb
    have hb' : B ≤ b ∧ b < w1.heap.size := by
      rcases List.mem_append.1 hb with h | h
      · exact hF b h
      · have := hF1 b h; omega
    rw [h6 b hb'.1]
    refine h4.block b hb'.2 fun e => ?_
    rcases List.mem_append.1 hb with h | h
    · exact hnd2.2.2 b (hv b e.symm) b h rfl
    · have h7 := hold b (List.mem_append.2 (.inl (hv b e.symm)))
      have := hF1 b h; omega
  refine ⟨S ++ [s1], F ++ F1, ?_, ?_, ?_⟩
  · refine ⟨h3.1, ?_⟩
    rcases h3.2 with h | ⟨g, cap, cur, e, hg, hh, rest⟩
    · exact .inl h
    · exact .inr ⟨g, cap, cur, e, hg, (h6 g hg).trans hh, rest⟩
  · rw [take_more r hlt, erL_snoc]
    exact OwL.append (OwL.keep h1 fun b hb => same b (List.mem_append.2 (.inl hb))) (OwL.one (Ow.keep (Ow.mono hBC hko) fun b hb => same b (List.mem_append.2 (.inr hb))))
  · have hg' : ∀ b ∈ F ++ F1, b ≠ g' := by
      rintro b hb rfl
      rcases h5 with h5 | h5
      · rcases List.mem_append.1 hb with h | h
        · exact hnd2.2.2 b (hv b h5) b h rfl
        · have h7 := hold b (List.mem_append.2 (.inl (hv b h5)))
          have := hF1 b h; omega
      · rcases List.mem_append.1 hb with h | h
        · have := hF b h; omega
        · have := hF1 b h; omega
    have hdis : (F ++ F1).Nodup := List.nodup_append.2 ⟨hnd2.2.1, hnd, fun a ha c hc e => by
      have := hold a (List.mem_append.2 (.inr ha)); have := hF1 c hc; omega⟩
    show (g' :: (F ++ F1)).Nodup
    exact List.nodup_cons.2 ⟨fun hm => hg' g' hm rfl, hdis⟩
set_option maxRecDepth 20000 in
set_option maxHeartbeats 4000000 in
theorem implErase (x : X) : ∀ (s : Value) (P : Nat → Prop) (w : World), Rd w P x s → (∀ b, P b → b < w.heap.size) → siz x ≤ 1099511627776 →
    Calls Try.prog 18 #[val x s] w fun e w' => ∃ A cap F, e = .returned (val (er x) (.slice A x.r.length cap)) ∧ Ok w' w.heap.size (erL x.r) (.slice A x.r.length cap) F ∧ F.Nodup ∧ Below w.heap.size w w' := by
  induction x using X.ind with
  | h k t n l r ih =>
    intro s P w hR hP hsiz
    have hK : Kd w P r s := hR.kids
    obtain ⟨A, cap, rfl⟩ := hK.form
    simp only [siz] at hsiz
    clear hR
    show Calls Try.prog 18 #[.agg #[.int .i64 k, .string t, .int .i64 n, .int .i64 l, .slice A r.length cap]] w _
    go_enter Try.func18, Try.ntmps18
    go_wp2_with fail
    go_loopw [12] (fun i wr => ∃ (j : Nat) (v : Value), i = .int .i64 j ∧ Blk wr (w.heap.size + 1) 44 #[.int .i64 0, .string ⟨#[]⟩, .int .i64 0, .int .i64 0, .slice none 0 0] ∧ Blk wr (w.heap.size + 1 + 1) 44 #[.int .i64 k, .string t, .int .i64 n, .int .i64 0, v] ∧
        Hid (ErR (w.heap.size + 1 + 1 + 1) r j v wr) ∧ (∃ A c, v = .slice A j c) ∧ j ≤ r.length ∧ Below w.heap.size w wr)
      (fun i _ => r.length - (intOf i).toNat)
    case atStart =>
      refine ⟨0, .slice none 0 0, rfl, ?_, ?_, Lib.hid (ErR.start _ _ _), ⟨none, 0, rfl⟩, by omega, by repeat (first | exact Below.refl _ _ | refine Below.drew ?_ | refine Below.setCell ?_ (by (try simp); try omega) _ | refine Below.alloc ?_ (by (try simp); try omega) _)⟩
      · exact Blk.alloc (Blk.new' (by simp)) _
      · exact Blk.new' (by simp)
    case round =>
      obtain ⟨j, v, rfl, hB1, hB2, HR, ⟨A2, k2, rfl⟩, hj, hb⟩ := hrel
      have hsz := hb.size
      have hl2 := hB2.lt
      by_cases hlt : j < r.length
      · obtain ⟨b, o, s', rfl, hPb, hkid, c0, c1, c2, c3, c4⟩ := Kd.at_ (hK.below hb hP) hlt
        obtain ⟨A1, cap1, rfl⟩ := hkid.form
        have h0 := siz_get r hlt
        have hC : ∀ W : World, Below wr.heap.size wr W → Calls Try.prog 18 #[val r[j] (.slice A1 r[j].r.length cap1)] W fun e w' => ∃ A cap F, e = .returned (val (er r[j]) (.slice A r[j].r.length cap)) ∧ Ok w' W.heap.size (erL r[j].r) (.slice A r[j].r.length cap) F ∧ F.Nodup ∧ Below W.heap.size W w' := fun W hW =>
          ih j hlt _ P W (hkid.rd.below hW fun b hb => Nat.lt_of_lt_of_le (hP b hb) hsz) (fun b hb => Nat.lt_of_lt_of_le (hP b hb) (Nat.le_trans hsz hW.size)) (by omega)
        clear h0
        go_wp2_with fail
        obtain ⟨S, F, ho, hF, hnd⟩ := HR.out
        have hold : ∀ b ∈ blkL (Value.slice A2 j k2) ++ F, w.heap.size + 1 + 1 + 1 ≤ b ∧ b < wr.heap.size := fun b hb => by
          rcases List.mem_append.1 hb with h | h
          · exact ho.lt b (by simpa [blkL] using h)
          · exact OwL.lt hF b h
        have hv : Var (wr.alloc (.cells #[.int .i64 r[j].k, .string r[j].t, .int .i64 r[j].n, .int .i64 r[j].l, .slice A1 r[j].r.length cap1] 44)) wr.heap.size r[j].k r[j].t r[j].n r[j].l (.slice A1 r[j].r.length cap1) := Var.new _ _ _ _ _ _ _
        have hne1 : some (w.heap.size + 1) ≠ (Value.slice A2 j k2).ownBlock := fun e => by have := ho.lt _ e.symm; omega
        have hne2 : some (w.heap.size + 1 + 1) ≠ (Value.slice A2 j k2).ownBlock := fun e => by have := ho.lt _ e.symm; omega
        have e4 := hB2.cell 4
        simp at e4
        clear HR
        go_region_law (first
            | (go_simp; go_at_call 18; refine (hC _ (by repeat (first | exact Below.refl _ _ | refine Below.drew ?_ | refine Below.setCell ?_ (by (try simp); try omega) _ | refine Below.alloc ?_ (by (try simp); try omega) _))).mono ?_; rintro e w1 ⟨A3, cap3, F1, rfl, hk1, hnd1, hb1⟩; have hw1 : Below wr.heap.size wr w1 := Below.trans (by repeat (first | exact Below.refl _ _ | refine Below.drew ?_ | refine Below.setCell ?_ (by (try simp); try omega) _ | refine Below.alloc ?_ (by (try simp); try omega) _)) (hb1.mono (by simp)); have hz1 := hw1.size; have hB1' := hB1.below hw1 (by omega); have hB2' := hB2.below hw1 hl2; have e4' := hB2'.cell 4; simp at e4'; have hl3 : w.heap.size + 1 + 1 < w1.heap.size := hB2'.lt; have ho1 := ownsRow_below ho hw1 (fun b hb => (ho.lt b hb).2); unfold val)
            | (refine step_append_x rfl _ _ (by rfl) (by rfl) ho1 (by rfl) (by rfl) ⟨rfl, rfl, rfl, rfl⟩ (er r[j]) _ (by rfl) (by rfl) (by omega) (by omega) ?_; intro g' cap' w2 ho2 hgr2 hor2; have hB2'' := hB2'.grown hgr2 hne2; have e5 := hB2''.cell 4; have f5 := hB2''.frozen 4; simp at e5))
        all_goals
          have hF1 := OwL.keep hF fun b hb => hw1.block b (hold b (List.mem_append.2 (.inr hb))).2
          have hN : ErR (w.heap.size + 1 + 1 + 1) r (j + 1) (.slice (some ⟨g', 0, none⟩) (j + 1) cap') (w2.setCell ⟨w.heap.size + 1 + 1, 4, none⟩ (.slice (some ⟨g', 0, none⟩) (j + 1) cap')) :=
            ErR.next hlt hF1 hnd (fun b hb => (hold b hb).2) (hk1.mono (by simp)) hnd1 (by omega) ho2 hgr2 hor2 (fun b hb => heap_setCell_other _ _ _ _ (by simp; omega))
          have hX1 := (hB1'.grown hgr2 hne1).far (p := ⟨w.heap.size + 1 + 1, 4, none⟩) (by simp) (.slice (some ⟨g', 0, none⟩) (j + 1) cap')
          have hX2 : Blk (w2.setCell ⟨w.heap.size + 1 + 1, 4, none⟩ (.slice (some ⟨g', 0, none⟩) (j + 1) cap')) (w.heap.size + 1 + 1) 44 #[.int .i64 k, .string t, .int .i64 n, .int .i64 0, .slice (some ⟨g', 0, none⟩) (j + 1) cap'] := by
            simpa using hB2''.set_ 4 (.slice (some ⟨g', 0, none⟩) (j + 1) cap')
          have hbN : Below w.heap.size w (w2.setCell ⟨w.heap.size + 1 + 1, 4, none⟩ (.slice (some ⟨g', 0, none⟩) (j + 1) cap')) :=
            ((hb.trans (hw1.mono hsz)).grown hgr2 (by omega) (fun b hb => by have := ho.lt b hb; omega)).setCell (by simp; omega) _
          have HN := Lib.hid hN
          clear hN hgr2 ho2 hor2 ho1 hF1 hk1 hb1 hw1 hC
          go_wp2_with fail
          go_roundw
          case rel => exact ⟨j + 1, _, by go_num, hX1, hX2, HN, ⟨_, _, rfl⟩, by omega, hbN⟩
          case measure => simp [intOf]; omega
      · obtain rfl : j = r.length := by omega
        obtain ⟨F, hok, hnd⟩ := HR.out.ok
        have d0 := hB1.cell 0
        have d1 := hB1.cell 1
        have d2 := hB1.cell 2
        have d3 := hB1.cell 3
        have d4 := hB1.cell 4
        have f0 := hB1.frozen 0
        have f1 := hB1.frozen 1
        have f2 := hB1.frozen 2
        have f3 := hB1.frozen 3
        have f4 := hB1.frozen 4
        have e0 := hB2.cell 0
        have e1 := hB2.cell 1
        have e2 := hB2.cell 2
        have e3 := hB2.cell 3
        have e4 := hB2.cell 4
        simp at d0 d1 d2 d3 d4 e0 e1 e2 e3 e4
        clear HR
        go_wp2_with fail
        refine bodyPost_ret (v := .agg #[.int .i64 k, .string t, .int .i64 n, .int .i64 0, .slice A2 r.length k2]) (by simp [results, Try.results18, go_sem, d0, d1, d2, d3, d4]) rfl ⟨A2, k2, F, rfl, ?_, hnd, ?_⟩
        · refine (hok.keep fun b hb => ?_).mono (by omega)
          have := (hok.lt b hb).1
          rw [heap_setCell_other _ _ _ _ (by simp; omega), heap_setCell_other _ _ _ _ (by simp; omega), heap_setCell_other _ _ _ _ (by simp; omega), heap_setCell_other _ _ _ _ (by simp; omega), heap_setCell_other _ _ _ _ (by simp; omega)]
        · exact ((((hb.setCell (by simp) _).setCell (by simp) _).setCell (by simp) _).setCell (by simp) _).setCell (by simp) _
set_option maxRecDepth 20000 in
set_option maxHeartbeats 4000000 in
theorem specErase (x : X) : ∀ (s : Value) (P : Nat → Prop) (w : World), Rd w P x s → (∀ b, P b → b < w.heap.size) → siz x ≤ 1099511627776 →
    Calls Try.prog 14 #[val x s] w fun e w' => ∃ A cap F, e = .returned (val (er x) (.slice A x.r.length cap)) ∧ Ok w' w.heap.size (erL x.r) (.slice A x.r.length cap) F ∧ F.Nodup ∧ Below w.heap.size w w' := by
  induction x using X.ind with
  | h k t n l r ih =>
    intro s P w hR hP hsiz
    have hK : Kd w P r s := hR.kids
    obtain ⟨A, cap, rfl⟩ := hK.form
    simp only [siz] at hsiz
    clear hR
    show Calls Try.prog 14 #[.agg #[.int .i64 k, .string t, .int .i64 n, .int .i64 l, .slice A r.length cap]] w _
    go_enter Try.func14, Try.ntmps14
    go_wp2_with fail
    go_loopw [4] (fun i wr => ∃ (j : Nat) (v : Value), i = .int .i64 j ∧ Blk wr w.heap.size 44 #[.int .i64 k, .string t, .int .i64 n, .int .i64 l, .slice A r.length cap] ∧ Blk wr (w.heap.size + 1) 44 #[.int .i64 0, .string ⟨#[]⟩, .int .i64 0, .int .i64 0, .slice none 0 0] ∧ Blk wr (w.heap.size + 1 + 1) 44 #[.int .i64 k, .string t, .int .i64 n, .int .i64 0, v] ∧
        Hid (ErR (w.heap.size + 1 + 1 + 1) r j v wr) ∧ (∃ A c, v = .slice A j c) ∧ j ≤ r.length ∧ Below w.heap.size w wr)
      (fun i _ => r.length - (intOf i).toNat)
    case atStart =>
      refine ⟨0, .slice none 0 0, rfl, ?_, ?_, ?_, Lib.hid (ErR.start _ _ _), ⟨none, 0, rfl⟩, by omega, by repeat (first | exact Below.refl _ _ | refine Below.drew ?_ | refine Below.setCell ?_ (by (try simp); try omega) _ | refine Below.alloc ?_ (by (try simp); try omega) _)⟩
      · exact Blk.alloc (Blk.alloc (Blk.new' rfl) _) _
      · exact Blk.alloc (Blk.new' (by simp)) _
      · exact Blk.new' (by simp)
    case round =>
      obtain ⟨j, v, rfl, hB0, hB1, hB2, HR, ⟨A2, k2, rfl⟩, hj, hb⟩ := hrel
      have hsz := hb.size
      have hl2 := hB2.lt
      have a4 := hB0.cell 4
      simp at a4
      by_cases hlt : j < r.length
      · obtain ⟨b, o, s', rfl, hPb, hkid, c0, c1, c2, c3, c4⟩ := Kd.at_ (hK.below hb hP) hlt
        obtain ⟨A1, cap1, rfl⟩ := hkid.form
        have h0 := siz_get r hlt
        have hC : ∀ W : World, Below wr.heap.size wr W → Calls Try.prog 14 #[val r[j] (.slice A1 r[j].r.length cap1)] W fun e w' => ∃ A cap F, e = .returned (val (er r[j]) (.slice A r[j].r.length cap)) ∧ Ok w' W.heap.size (erL r[j].r) (.slice A r[j].r.length cap) F ∧ F.Nodup ∧ Below W.heap.size W w' := fun W hW =>
          ih j hlt _ P W (hkid.rd.below hW fun b hb => Nat.lt_of_lt_of_le (hP b hb) hsz) (fun b hb => Nat.lt_of_lt_of_le (hP b hb) (Nat.le_trans hsz hW.size)) (by omega)
        clear h0
        go_wp2_with fail
        obtain ⟨S, F, ho, hF, hnd⟩ := HR.out
        have hold : ∀ b ∈ blkL (Value.slice A2 j k2) ++ F, w.heap.size + 1 + 1 + 1 ≤ b ∧ b < wr.heap.size := fun b hb => by
          rcases List.mem_append.1 hb with h | h
          · exact ho.lt b (by simpa [blkL] using h)
          · exact OwL.lt hF b h
        have hv : Var (wr.alloc (.cells #[.int .i64 r[j].k, .string r[j].t, .int .i64 r[j].n, .int .i64 r[j].l, .slice A1 r[j].r.length cap1] 44)) wr.heap.size r[j].k r[j].t r[j].n r[j].l (.slice A1 r[j].r.length cap1) := Var.new _ _ _ _ _ _ _
        have hne0 : some w.heap.size ≠ (Value.slice A2 j k2).ownBlock := fun e => by have := ho.lt _ e.symm; omega
        have hne1 : some (w.heap.size + 1) ≠ (Value.slice A2 j k2).ownBlock := fun e => by have := ho.lt _ e.symm; omega
        have hne2 : some (w.heap.size + 1 + 1) ≠ (Value.slice A2 j k2).ownBlock := fun e => by have := ho.lt _ e.symm; omega
        have e4 := hB2.cell 4
        simp at e4
        clear HR
        go_region_law (first
            | (go_simp; go_at_call 14; refine (hC _ (by repeat (first | exact Below.refl _ _ | refine Below.drew ?_ | refine Below.setCell ?_ (by (try simp); try omega) _ | refine Below.alloc ?_ (by (try simp); try omega) _))).mono ?_; rintro e w1 ⟨A3, cap3, F1, rfl, hk1, hnd1, hb1⟩; have hw1 : Below wr.heap.size wr w1 := Below.trans (by repeat (first | exact Below.refl _ _ | refine Below.drew ?_ | refine Below.setCell ?_ (by (try simp); try omega) _ | refine Below.alloc ?_ (by (try simp); try omega) _)) (hb1.mono (by simp)); have hz1 := hw1.size; have hB0' := hB0.below hw1 (by omega); have hB1' := hB1.below hw1 (by omega); have hB2' := hB2.below hw1 hl2; have e4' := hB2'.cell 4; simp at e4'; have hl3 : w.heap.size + 1 + 1 < w1.heap.size := hB2'.lt; have ho1 := ownsRow_below ho hw1 (fun b hb => (ho.lt b hb).2); unfold val)
            | (refine step_append_x rfl _ _ (by rfl) (by rfl) ho1 (by rfl) (by rfl) ⟨rfl, rfl, rfl, rfl⟩ (er r[j]) _ (by rfl) (by rfl) (by omega) (by omega) ?_; intro g' cap' w2 ho2 hgr2 hor2; have hB2'' := hB2'.grown hgr2 hne2; have e5 := hB2''.cell 4; have f5 := hB2''.frozen 4; simp at e5))
        all_goals
          have hF1 := OwL.keep hF fun b hb => hw1.block b (hold b (List.mem_append.2 (.inr hb))).2
          have hN : ErR (w.heap.size + 1 + 1 + 1) r (j + 1) (.slice (some ⟨g', 0, none⟩) (j + 1) cap') (w2.setCell ⟨w.heap.size + 1 + 1, 4, none⟩ (.slice (some ⟨g', 0, none⟩) (j + 1) cap')) :=
            ErR.next hlt hF1 hnd (fun b hb => (hold b hb).2) (hk1.mono (by simp)) hnd1 (by omega) ho2 hgr2 hor2 (fun b hb => heap_setCell_other _ _ _ _ (by simp; omega))
          have hX0 := (hB0'.grown hgr2 hne0).far (p := ⟨w.heap.size + 1 + 1, 4, none⟩) (by simp; omega) (.slice (some ⟨g', 0, none⟩) (j + 1) cap')
          have hX1 := (hB1'.grown hgr2 hne1).far (p := ⟨w.heap.size + 1 + 1, 4, none⟩) (by simp) (.slice (some ⟨g', 0, none⟩) (j + 1) cap')
          have hX2 : Blk (w2.setCell ⟨w.heap.size + 1 + 1, 4, none⟩ (.slice (some ⟨g', 0, none⟩) (j + 1) cap')) (w.heap.size + 1 + 1) 44 #[.int .i64 k, .string t, .int .i64 n, .int .i64 0, .slice (some ⟨g', 0, none⟩) (j + 1) cap'] := by
            simpa using hB2''.set_ 4 (.slice (some ⟨g', 0, none⟩) (j + 1) cap')
          have hbN : Below w.heap.size w (w2.setCell ⟨w.heap.size + 1 + 1, 4, none⟩ (.slice (some ⟨g', 0, none⟩) (j + 1) cap')) :=
            ((hb.trans (hw1.mono hsz)).grown hgr2 (by omega) (fun b hb => by have := ho.lt b hb; omega)).setCell (by simp; omega) _
          have HN := Lib.hid hN
          clear hN hgr2 ho2 hor2 ho1 hF1 hk1 hb1 hw1 hC
          go_wp2_with fail
          go_roundw
          case rel => exact ⟨j + 1, _, by go_num, hX0, hX1, hX2, HN, ⟨_, _, rfl⟩, by omega, hbN⟩
          case measure => simp [intOf]; omega
      · obtain rfl : j = r.length := by omega
        obtain ⟨F, hok, hnd⟩ := HR.out.ok
        have d0 := hB1.cell 0
        have d1 := hB1.cell 1
        have d2 := hB1.cell 2
        have d3 := hB1.cell 3
        have d4 := hB1.cell 4
        have f0 := hB1.frozen 0
        have f1 := hB1.frozen 1
        have f2 := hB1.frozen 2
        have f3 := hB1.frozen 3
        have f4 := hB1.frozen 4
        have e0 := hB2.cell 0
        have e1 := hB2.cell 1
        have e2 := hB2.cell 2
        have e3 := hB2.cell 3
        have e4 := hB2.cell 4
        simp at d0 d1 d2 d3 d4 e0 e1 e2 e3 e4
        clear HR
        go_wp2_with fail
        refine bodyPost_ret (v := .agg #[.int .i64 k, .string t, .int .i64 n, .int .i64 0, .slice A2 r.length k2]) (by simp [results, Try.results14, go_sem, d0, d1, d2, d3, d4]) rfl ⟨A2, k2, F, rfl, ?_, hnd, ?_⟩
        · refine (hok.keep fun b hb => ?_).mono (by omega)
          have := (hok.lt b hb).1
          rw [heap_setCell_other _ _ _ _ (by simp; omega), heap_setCell_other _ _ _ _ (by simp; omega), heap_setCell_other _ _ _ _ (by simp; omega), heap_setCell_other _ _ _ _ (by simp; omega), heap_setCell_other _ _ _ _ (by simp; omega)]
        · exact ((((hb.setCell (by simp) _).setCell (by simp) _).setCell (by simp) _).setCell (by simp) _).setCell (by simp) _
end X
end Go.Proofs.Ytljblaglfooclaa
