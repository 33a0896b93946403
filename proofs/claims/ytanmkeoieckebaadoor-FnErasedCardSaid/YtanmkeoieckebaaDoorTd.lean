/- Proved here: the reference's draw of a tree. Condition: the cursor lies in a block of its own. -/
import Derived.Test.YtanmkeoieckebaaDoorTl
namespace Go.Proofs.YtanmkeoieckebaaDoor
open Go.RowKit
namespace X

theorem l1Min (a b : Nat) (w : World) : Calls Tryd.prog 131 #[.int .i64 (a : Int), .int .i64 (b : Int)] w fun e w' => e = .returned (.int .i64 ((min a b : Nat) : Int)) ∧ w = w' := by
  by_cases h : a < b
  · have E : ((min a b : Nat) : Int) = (a : Int) := by omega
    have b0 : decide (a < b) = true := decide_eq_true (by omega)
    rw [E]
    clear E h
    go_enter Tryd.func131, Tryd.ntmps131
    go_wp2
    go_ret
    exact ⟨rfl, rfl⟩
  · have E : ((min a b : Nat) : Int) = (b : Int) := by omega
    have b0 : decide (a < b) = false := decide_eq_false (by omega)
    rw [E]
    clear E h
    go_enter Tryd.func131, Tryd.ntmps131
    go_wp2
    go_ret
    exact ⟨rfl, rfl⟩
theorem kidsR_lo (k : Int) : (kidsR k).1 ≤ 3 := by
  unfold kidsR
  repeat' split
  all_goals decide
def z5 : Array Value := #[.int .i64 0, .string ⟨#[]⟩, .int .i64 0, .int .i64 0, .slice none 0 0]
def e5 (k : Int) (t : ByteArray) (n : Int) (v : Value) : Array Value := #[.int .i64 k, .string t, .int .i64 n, .int .i64 0, v]
def k629 (z : Int) : Bool := decide (6 ≤ z) && decide (z ≤ 29)
theorem k629_iff {z : Int} (h : k629 z = true) : 6 ≤ z ∧ z ≤ 29 := by simpa [k629] using h
def sz5 (t : ByteArray) : Bool := decide (t.size ≤ 5)
theorem sz5_iff {t : ByteArray} (h : sz5 t = true) : t.size ≤ 5 := by simpa [sz5] using h
/-- What holds between the statements: the result's block, the node's block, the cursor. -/
def Mid (w wx : World) (g ge : Nat) (k : Int) (t : ByteArray) (n : Int) : Prop := Blk wx w.heap.size 29 z5 ∧ Blk wx ge 29 (e5 k t n (.slice none 0 0)) ∧ Cur wx g ∧ w.grownBy wx (some g)
theorem Mid.str {w wx : World} {g ge : Nat} {k : Int} {t : ByteArray} {n : Int} (h : Mid w wx g ge k t n) (hg : g < w.heap.size) (hge : w.heap.size < ge) (u : ByteArray) : Mid w (wx.setCell ⟨ge, 1, none⟩ (.string u)) g ge k u n :=
  ⟨h.1.far (by simp; omega) _, h.2.1.set_ 1 _, h.2.2.1.far (by simp; omega) _, only_new h.2.2.2 (by simp; omega) _⟩
theorem Mid.kind {w wx : World} {g ge : Nat} {k : Int} {t : ByteArray} {n : Int} (h : Mid w wx g ge k t n) (hg : g < w.heap.size) (hge : w.heap.size < ge) (z : Int) : Mid w (wx.setCell ⟨ge, 0, none⟩ (.int .i64 z)) g ge z t n :=
  ⟨h.1.far (by simp; omega) _, h.2.1.set_ 0 _, h.2.2.1.far (by simp; omega) _, only_new h.2.2.2 (by simp; omega) _⟩
theorem Mid.num {w wx : World} {g ge : Nat} {k : Int} {t : ByteArray} {n : Int} (h : Mid w wx g ge k t n) (hg : g < w.heap.size) (hge : w.heap.size < ge) (z : Int) : Mid w (wx.setCell ⟨ge, 2, none⟩ (.int .i64 z)) g ge k t z :=
  ⟨h.1.far (by simp; omega) _, h.2.1.set_ 2 _, h.2.2.1.far (by simp; omega) _, only_new h.2.2.2 (by simp; omega) _⟩
theorem Mid.alloc {w wx : World} {g ge : Nat} {k : Int} {t : ByteArray} {n : Int} (h : Mid w wx g ge k t n) (o : Obj) : Mid w (wx.alloc o) g ge k t n :=
  ⟨h.1.alloc o, h.2.1.alloc o, h.2.2.1.alloc o, only_alloc h.2.2.2 o⟩
theorem Mid.drew {w wx : World} {g ge : Nat} {k : Int} {t : ByteArray} {n : Int} (h : Mid w wx g ge k t n) : Mid w wx.drew g ge k t n :=
  ⟨h.1.drew, h.2.1.drew, h.2.2.1.kept (Below.drew (Below.refl _ _)), only_drewN h.2.2.2 1⟩
theorem Mid.call {w wx w2 : World} {g ge : Nat} {k : Int} {t : ByteArray} {n : Int} (h : Mid w wx g ge k t n) (hg : g < w.heap.size) (hge : w.heap.size < ge) (hc : Cur w2 g) (hg2 : wx.grownBy w2 (some g)) : Mid w w2 g ge k t n :=
  ⟨h.1.grown hg2 (by simp; omega), h.2.1.grown hg2 (by simp; omega), hc, only_trans h.2.2.2 hg2⟩
theorem Mid.below {w wx w2 : World} {g ge : Nat} {k : Int} {t : ByteArray} {n : Int} (h : Mid w wx g ge k t n) (hb : Below wx.heap.size wx w2) : Mid w w2 g ge k t n :=
  ⟨h.1.kept hb, h.2.1.kept hb, h.2.2.1.kept hb, only_below h.2.2.2 hb⟩
theorem Mid.facts {w wx : World} {g ge : Nat} {k : Int} {t : ByteArray} {n : Int} (h : Mid w wx g ge k t n) :
    (wx.cell? ⟨ge, 0, none⟩ = some (.int .i64 k) ∧ wx.cell? ⟨ge, 1, none⟩ = some (.string t) ∧ wx.cell? ⟨ge, 2, none⟩ = some (.int .i64 n) ∧ wx.cell? ⟨ge, 3, none⟩ = some (.int .i64 0) ∧ wx.cell? ⟨ge, 4, none⟩ = some (.slice none 0 0)) ∧
    wx.frozen? ⟨ge, 0, none⟩ = false ∧ wx.frozen? ⟨ge, 1, none⟩ = false ∧ wx.frozen? ⟨ge, 2, none⟩ = false :=
  ⟨⟨h.2.1.cell 0, h.2.1.cell 1, h.2.1.cell 2, h.2.1.cell 3, h.2.1.cell 4⟩, h.2.1.frozen 0, h.2.1.frozen 1, h.2.1.frozen 2⟩
theorem Cur.row {w w' : World} {g : Nat} {row : Option Nat} (hc : Cur w g) (h : w.grownBy w' row) (hr : ∀ b, row = some b → g < b) : Cur w' g := by
  obtain ⟨A, n, cap, i, hh, hB, h1, h2, hA⟩ := hc
  refine ⟨A, n, cap, i, hh, hB.grown h (fun e => by have := hr _ e.symm; omega), h1, h2, fun hn => ?_⟩
  obtain ⟨b, o, e, hbg, hcell⟩ := hA hn
  refine ⟨b, o, e, hbg, fun k hk => ?_⟩
  obtain ⟨x, hx⟩ := hcell k hk
  exact ⟨x, h.cell hx (fun e => by have := hr _ e.symm; simp at this; omega)⟩
theorem only_row {a b c : World} {g : Nat} {row : Option Nat} (h : a.grownBy b (some g)) (k : b.grownBy c row) (hr : ∀ b, row = some b → a.heap.size ≤ b) : a.grownBy c (some g) :=
  ⟨k.os.trans h.os, k.tape.trans h.tape, k.output.trans h.output, Nat.le_trans h.size k.size, fun i hi hne => (k.block i (Nat.lt_of_lt_of_le hi h.size) (fun e => by have := hr _ e.symm; omega)).trans (h.block i hi hne)⟩
/-- What a round has brought. -/
theorem tdRound {w wr wb wd : World} {g ge j cap' g' d : Nat} {k n : Int} {t : ByteArray} {L : List X} {S : List Value} {v : Value} {x1 : X} {s1 : Value}
    (hgl : g < w.heap.size) (hge : w.heap.size < ge) (hgt : ge < wr.heap.size)
    (HLT : Hid (L.length = j ∧ ∀ x ∈ L, Tr (d + 1) x)) (hSl : S.length = L.length) (hRL : RdL wr (fun b => ge + 1 ≤ b ∧ b < wr.heap.size ∧ some b ≠ v.ownBlock) L S)
    (hold : ∀ b, v.ownBlock = some b → ge + 1 ≤ b ∧ b < wr.heap.size) (hgr : w.grownBy wr (some g)) (hg1 : wr.grownBy wb (some g)) (hc1 : Cur wb g) (hT1 : Tr (d + 1) x1)
    (hR1 : Rd wb (fun b => wr.heap.size ≤ b ∧ b < wb.heap.size) x1 s1) (hB0 : Blk wb w.heap.size 29 z5) (hB2 : Blk wb ge 29 (e5 k t n v))
    (ho2 : wd.ownsRow (ge + 1) 29 5 (.slice (some ⟨g', 0, none⟩) (j + 1) cap') (j + 1) (rowV L S ++ cells5 x1 s1)) (hgr2 : wb.grownBy wd v.ownBlock) (hor2 : v.ownBlock = some g' ∨ wb.heap.size < g') :
    Hid ((L ++ [x1]).length = j + 1 ∧ ∀ x ∈ L ++ [x1], Tr (d + 1) x) ∧ Blk (wd.setCell ⟨ge, 4, none⟩ (.slice (some ⟨g', 0, none⟩) (j + 1) cap')) w.heap.size 29 z5 ∧
    Blk (wd.setCell ⟨ge, 4, none⟩ (.slice (some ⟨g', 0, none⟩) (j + 1) cap')) ge 29 (e5 k t n (.slice (some ⟨g', 0, none⟩) (j + 1) cap')) ∧
    Hid (TrR (ge + 1) (L ++ [x1]) (.slice (some ⟨g', 0, none⟩) (j + 1) cap') (wd.setCell ⟨ge, 4, none⟩ (.slice (some ⟨g', 0, none⟩) (j + 1) cap'))) ∧
    Cur (wd.setCell ⟨ge, 4, none⟩ (.slice (some ⟨g', 0, none⟩) (j + 1) cap')) g ∧ w.grownBy (wd.setCell ⟨ge, 4, none⟩ (.slice (some ⟨g', 0, none⟩) (j + 1) cap')) (some g) := by
  have hz1 := hg1.size
  have hne0 : some w.heap.size ≠ v.ownBlock := fun e => by have := hold _ e.symm; omega
  have hne2 : some ge ≠ v.ownBlock := fun e => by have := hold _ e.symm; omega
  have hneg : ∀ b, v.ownBlock = some b → g < b := fun b e => by have := hold _ e; omega
  have hnew : ∀ b, v.ownBlock = some b → w.heap.size ≤ b := fun b e => by have := hold _ e; omega
  refine ⟨Lib.hid ⟨by simp [HLT.out.1], fun x hx => ?_⟩, ?_, ?_, Lib.hid ?_, ?_, ?_⟩
  · rcases List.mem_append.1 hx with h | h
    · exact HLT.out.2 x h
    · obtain rfl : x = x1 := by simpa using h
      exact hT1
  · exact (hB0.grown hgr2 hne0).far (p := ⟨ge, 4, none⟩) (by show w.heap.size ≠ ge; omega) _
  · exact (hB2.grown hgr2 hne2).set_ 4 _
  · exact TrR.next HLT.out.1 hSl hRL (fun b hb => (hold b hb).2) hg1 (by omega) hR1 (by omega) ho2 hgr2 hor2 (fun b hb => heap_setCell_other _ _ _ _ (by show b ≠ ge; omega)) (by simp [World.setCell])
  · exact (Cur.row hc1 hgr2 hneg).far (p := ⟨ge, 4, none⟩) (by show g < ge; omega) _
  · exact only_new (p := ⟨ge, 4, none⟩) (only_row (only_trans hgr hg1) hgr2 hnew) (by show w.heap.size ≤ ge; omega) _
set_option maxRecDepth 20000 in
set_option maxHeartbeats 2000000 in
theorem l6Tree : ∀ (d : Nat), 1 ≤ d → d ≤ 6 → ∀ (g : Nat) (w : World), Cur w g → Calls Tryd.prog 82 #[.pointer (some ⟨g, 0, none⟩), .int .i64 (d : Int)] w (TreeP d g w) := by
  intro d
  induction d with
  | zero => intro h; omega
  | succ d ih =>
    intro _ hd6 g w hc
    have hgl := hc.lt
    have hR0 : Blk (w.alloc (.cells #[.int .i64 0, .string ⟨#[]⟩, .int .i64 0, .int .i64 0, .slice none 0 0] 29)) w.heap.size 29 z5 := Blk.new _ _ _
    have hc0 := hc.alloc (.cells #[.int .i64 0, .string ⟨#[]⟩, .int .i64 0, .int .i64 0, .slice none 0 0] 29)
    have hg0 : w.grownBy (w.alloc (.cells #[.int .i64 0, .string ⟨#[]⟩, .int .i64 0, .int .i64 0, .slice none 0 0] 29)) (some g) := only_alloc (only_refl _ _) _
    have HL : ∀ (W : World) (x : X) (s : Value), Blk W w.heap.size 29 z5 → Tr (d + 1) x → Rd W (fun b => w.heap.size < b ∧ b < W.heap.size) x s → Cur W g → w.grownBy W (some g) →
        TreeP (d + 1) g w (.returned (val x s)) (((((W.setCell ⟨w.heap.size, 0, none⟩ (.int .i64 x.k)).setCell ⟨w.heap.size, 1, none⟩ (.string x.t)).setCell ⟨w.heap.size, 2, none⟩ (.int .i64 x.n)).setCell ⟨w.heap.size, 3, none⟩ (.int .i64 x.l)).setCell ⟨w.heap.size, 4, none⟩ s) := by
      intro W x s _ hT hR hC hG
      refine ⟨x, s, hT, rfl, ?_, (((((hC.far (p := ⟨w.heap.size, 0, none⟩) hgl _).far (p := ⟨w.heap.size, 1, none⟩) hgl _).far (p := ⟨w.heap.size, 2, none⟩) hgl _).far (p := ⟨w.heap.size, 3, none⟩) hgl _).far (p := ⟨w.heap.size, 4, none⟩) hgl _),
        (only_new (p := ⟨w.heap.size, 4, none⟩) (only_new (p := ⟨w.heap.size, 3, none⟩) (only_new (p := ⟨w.heap.size, 2, none⟩) (only_new (p := ⟨w.heap.size, 1, none⟩) (only_new (p := ⟨w.heap.size, 0, none⟩) hG (Nat.le_refl _) _) (Nat.le_refl _) _) (Nat.le_refl _) _) (Nat.le_refl _) _) (Nat.le_refl _) _)⟩
      refine Rd.keep (fun p hp => World.cell?_of_block ?_) (fun b hb => ⟨by omega, by simp [World.setCell]; exact hb.2⟩) hR
      have hne : ∀ j, p.block ≠ (⟨w.heap.size, j, none⟩ : Addr).block := fun j e => by have := hp.1; simp at e; omega
      rw [heap_setCell_other _ _ _ _ (hne 4), heap_setCell_other _ _ _ _ (hne 3), heap_setCell_other _ _ _ _ (hne 2), heap_setCell_other _ _ _ _ (hne 1), heap_setCell_other _ _ _ _ (hne 0)]
    have HLL := Lib.hid HL
    clear HL
    obtain ⟨D, hD⟩ : ∃ D : Int, D = ((d + 1 : Nat) : Int) := ⟨_, rfl⟩
    rw [← hD]
    by_cases h1 : d = 0
    · subst h1
      have bD : decide (D ≤ 1) = true := decide_eq_true (by omega)
      clear ih hD
      go_enter Tryd.func82, Tryd.ntmps82
      go_wp2_with (go_at_call 129; refine (l6Leaf g _ hc0).mono ?_; rintro e w1 ⟨x, s, hT, rfl, hR, hc1, hg1⟩; have hR1 := hR0.grown hg1 (by simp; omega); have hg1 := only_trans hg0 hg1; have r0 := hR1.cell 0; have s0 := hR1.frozen 0; have r1 := hR1.cell 1; have s1 := hR1.frozen 1; have r2 := hR1.cell 2; have s2 := hR1.frozen 2; have r3 := hR1.cell 3; have s3 := hR1.frozen 3; have r4 := hR1.cell 4; have s4 := hR1.frozen 4; simp [z5] at r0 r1 r2 r3 r4; obtain ⟨A9, cap9, rfl⟩ := hR.kids.form; unfold val)
      refine bodyPost_ret (v := val x (.slice A9 x.r.length cap9)) (by simp [results, Tryd.results82, go_sem, r0, r1, r2, r3, r4, val]) rfl ?_
      exact HLL.out _ _ _ hR1 hT (Rd.keep (fun _ _ => rfl) (fun b hb => ⟨by have := hb.1; simp at this; omega, hb.2⟩) hR) hc1 hg1
    obtain ⟨d, rfl⟩ : ∃ d', d = d' + 1 := ⟨d - 1, by omega⟩
    have bD : decide (D ≤ 1) = false := decide_eq_false (by omega)
    have iD : IntKind.i64.wrap (D - 1) = ((d + 1 : Nat) : Int) := by rw [i64_in' (by omega)]; omega
    obtain ⟨D1, hD1⟩ : ∃ D1 : Int, D1 = ((d + 1 : Nat) : Int) := ⟨_, rfl⟩
    rw [← hD1] at iD ih
    clear hD hD1 h1
    go_enter Tryd.func82, Tryd.ntmps82
    go_upto_if 15 with (go_at_call 66; refine (l1Once 5 (by omega) (by omega) g _ hc0).mono ?_; rintro e w1 ⟨b, rfl, hc1, hg1⟩; have hR1 := hR0.grown hg1 (by simp; omega); have hg1 := only_trans hg0 hg1)
    cases b with
    | true =>
      clear ih iD hc0 hg0
      go_wp2_with (go_at_call 129; refine (l6Leaf g _ hc1).mono ?_; rintro e w2 ⟨x, s, hT, rfl, hR, hc2, hg2⟩; have hlt1 := hR1.lt; have hR1 := hR1.grown hg2 (by simp; omega); have hzz := hg1.size; have hg2 := only_trans hg1 hg2; have r0 := hR1.cell 0; have s0 := hR1.frozen 0; have r1 := hR1.cell 1; have s1 := hR1.frozen 1; have r2 := hR1.cell 2; have s2 := hR1.frozen 2; have r3 := hR1.cell 3; have s3 := hR1.frozen 3; have r4 := hR1.cell 4; have s4 := hR1.frozen 4; simp [z5] at r0 r1 r2 r3 r4; obtain ⟨A9, cap9, rfl⟩ := hR.kids.form; unfold val)
      refine bodyPost_ret (v := val x (.slice A9 x.r.length cap9)) (by simp [results, Tryd.results82, go_sem, r0, r1, r2, r3, r4, val]) rfl ?_
      exact HLL.out _ _ _ hR1 ⟨hT.1, Nat.le_trans hT.2 (bd_le (by omega))⟩ (Rd.keep (fun _ _ => rfl) (fun b hb => ⟨by have := hb.1; omega, hb.2⟩) hR) hc2 hg2
    | false =>
      go_upto_region 4 with (go_at_call 68; refine (l1Below 24 (by omega) (by omega) g _ hc1).mono ?_; rintro e w2 ⟨x, hx, rfl, hc2, hg2⟩; have hR2 := hR1.grown hg2 (by simp; omega); have hzz := hg1.size; have hzy := hg2.size; have hg2 := only_trans hg1 hg2; have ix : IntKind.i64.wrap (6 + (x : Int)) = 6 + (x : Int) := i64_in' (by omega))
      have hM : Mid w (w2.alloc (.cells #[.int .i64 (6 + (x : Int)), .string ⟨#[]⟩, .int .i64 0, .int .i64 0, .slice none 0 0] 29)) g w2.heap.size (6 + (x : Int)) ⟨#[]⟩ 0 := ⟨hR2.alloc _, Blk.new _ _ _, hc2.alloc _, only_alloc hg2 _⟩
      have hge : w.heap.size < w2.heap.size := hR2.lt
      clear hR0 hc0 hg0 hR1 hc1 hg1 hR2 hc2 hg2
      go_upto_if 23 with (go_at_call 66; refine (l1Once 2 (by omega) (by omega) g _ hM.2.2.1).mono ?_; rintro e w3 ⟨b, rfl, hc3, hg3⟩; have hM := hM.call hgl hge hc3 hg3)
      go_cut [] (fun wx => ∃ k : Int, 6 ≤ k ∧ k ≤ 29 ∧ Mid w wx g w2.heap.size k ⟨#[]⟩ 0)
      case first =>
        cases b with
        | true =>
          go_wp2_with (go_at_call 130; refine Calls.mono (l1PickIntLit k629 rfl hM.2.2.1 (by decide) rfl (by omega) (by omega)) ?_; rintro e w4 ⟨z, hz, rfl, hc4, hg4⟩; have hM := (hM.alloc _).call hgl hge hc4 hg4; obtain ⟨⟨a0, a1, a2, a3, a4⟩, f0, f1, f2⟩ := hM.facts)
          go_meet
          exact ⟨z, (k629_iff hz).1, (k629_iff hz).2, hM.kind hgl hge z⟩
        | false =>
          go_wp2_with fail
          go_meet
          exact ⟨_, by omega, by omega, hM⟩
      case rest =>
      clear hM ix hx
      obtain ⟨k, hk1, hk2, hM⟩ := hcut
      obtain ⟨⟨a0, a1, a2, a3, a4⟩, f0, f1, f2⟩ := hM.facts
      go_upto_if 30 with fail
      go_cut [] (fun wx => ∃ t : ByteArray, t.size ≤ 5 ∧ Mid w wx g w2.heap.size k t 0)
      case first =>
        by_cases h7 : k = 7
        · subst h7
          go_wp2_with (go_at_call 84; refine Calls.mono (l1PickLit sz5 rfl hM.2.2.1 (by decide) rfl (by omega) (by omega)) ?_; rintro e w4 ⟨u, hu, rfl, hc4, hg4⟩; have hM := (hM.alloc _).call hgl hge hc4 hg4; obtain ⟨⟨a0, a1, a2, a3, a4⟩, f0, f1, f2⟩ := hM.facts)
          go_meet
          exact ⟨u, sz5_iff hu, hM.str hgl hge u⟩
        · have b7 : (k == 7) = false := by rw [beq_eq_false_iff_ne]; exact h7
          go_wp2_with fail
          go_meet
          exact ⟨⟨#[]⟩, Nat.zero_le 5, hM⟩
      case rest =>
      clear hM a0 a1 a2 a3 a4 f0 f1 f2
      obtain ⟨t, ht, hM⟩ := hcut
      obtain ⟨⟨a0, a1, a2, a3, a4⟩, f0, f1, f2⟩ := hM.facts
      go_upto_if 37 with fail
      go_cut [] (fun wx => ∃ t : ByteArray, t.size ≤ 5 ∧ Mid w wx g w2.heap.size k t 0)
      case first =>
        by_cases h7 : k = 8
        · subst h7
          go_wp2_with (go_at_call 84; refine Calls.mono (l1PickLit sz5 rfl hM.2.2.1 (by decide) rfl (by omega) (by omega)) ?_; rintro e w4 ⟨u, hu, rfl, hc4, hg4⟩; have hM := (hM.alloc _).call hgl hge hc4 hg4; obtain ⟨⟨a0, a1, a2, a3, a4⟩, f0, f1, f2⟩ := hM.facts)
          go_meet
          exact ⟨u, sz5_iff hu, hM.str hgl hge u⟩
        · have b7 : (k == 8) = false := by rw [beq_eq_false_iff_ne]; exact h7
          go_wp2_with fail
          go_meet
          exact ⟨_, ht, hM⟩
      case rest =>
      clear hM a0 a1 a2 a3 a4 f0 f1 f2 ht
      obtain ⟨t, ht, hM⟩ := hcut
      obtain ⟨⟨a0, a1, a2, a3, a4⟩, f0, f1, f2⟩ := hM.facts
      go_upto_region 10 with fail
      go_cut [49] (fun s49 wx => ∃ b : Bool, s49 = .bool b ∧ Mid w wx g w2.heap.size k t 0)
      case first =>
        by_cases h7 : k = 13
        · subst h7
          go_wp2_with fail
          go_meet
          exact ⟨_, rfl, hM⟩
        · have b7 : (k == 13) = false := by rw [beq_eq_false_iff_ne]; exact h7
          go_wp2_with fail
          go_meet
          exact ⟨_, rfl, hM⟩
      case rest =>
      clear hM a0 a1 a2 a3 a4 f0 f1 f2
      obtain ⟨b7, rfl, hM⟩ := hcut
      obtain ⟨⟨a0, a1, a2, a3, a4⟩, f0, f1, f2⟩ := hM.facts
      go_upto_if 49 with fail
      go_cut [] (fun wx => ∃ t : ByteArray, t.size ≤ 5 ∧ Mid w wx g w2.heap.size k t 0)
      case first =>
        cases b7 with
        | true =>
          go_wp2_with fail
          go_meet
          exact ⟨⟨#[110, 97, 109, 101]⟩, by decide, hM.str hgl hge _⟩
        | false =>
          go_wp2_with fail
          go_meet
          exact ⟨_, ht, hM⟩
      case rest =>
      clear hM a0 a1 a2 a3 a4 f0 f1 f2 ht b7
      obtain ⟨t, ht, hM⟩ := hcut
      obtain ⟨⟨a0, a1, a2, a3, a4⟩, f0, f1, f2⟩ := hM.facts
      have hS := specKids k t 0 0 (.slice none 0 0)
      have hk3 := kidsR_lo k
      have hk4 := kidsR_hi k
      obtain ⟨lo, hlo⟩ : ∃ n, n = (kidsR k).1 := ⟨_, rfl⟩
      obtain ⟨hi, hhi⟩ : ∃ n, n = (kidsR k).2 := ⟨_, rfl⟩
      rw [← hlo, ← hhi] at hS
      rw [← hlo] at hk3
      rw [← hhi] at hk4
      clear hlo hhi
      go_upto_if 64 with (first
        | (go_at_call 75; refine (hS _).mono ?_; rintro e w4 ⟨rfl, hb4⟩; have hM := hM.below hb4; clear hS)
        | (go_at_call 68; refine (l1Below 3 (by omega) (by omega) g _ hM.2.2.1).mono ?_; rintro e w5 ⟨y, hy, rfl, hc5, hg5⟩; have hM := hM.call hgl hge hc5 hg5; obtain ⟨⟨a0, a1, a2, a3, a4⟩, f0, f1, f2⟩ := hM.facts; obtain ⟨c1, hc1⟩ : ∃ c : Nat, (lo : Int) + (y : Int) = (c : Int) := ⟨lo + y, by omega⟩; have ic1 : IntKind.i64.wrap ((lo : Int) + (y : Int)) = (c1 : Int) := (by rw [i64_in' (by omega)]; exact hc1); have hc1b : c1 ≤ 5 := (by omega); clear hc1)
        | (go_at_call 131; refine (l1Min c1 hi _).mono ?_; rintro e w6 ⟨rfl, rfl⟩; obtain ⟨m, hm⟩ : ∃ m, m = min c1 hi := ⟨_, rfl⟩; have hmb : m ≤ 5 := (by omega); rw [← hm]; clear hm))
      go_cut [8] (fun s8 wx => ∃ (m : Nat) (n : Int), s8 = .int .i64 (m : Int) ∧ m ≤ 6 ∧ (0 ≤ n ∧ n ≤ 9) ∧ Mid w wx g w2.heap.size k t n)
      case first =>
        by_cases h7 : k = 20
        · subst h7
          go_upto_region 16 with (go_at_call 68; refine (l1Below 2 (by omega) (by omega) g _ hM.2.2.1).mono ?_; rintro e w7 ⟨y2, hy2, rfl, hc7, hg7⟩; have hM := hM.call hgl hge hc7 hg7; obtain ⟨⟨a0, a1, a2, a3, a4⟩, f0, f1, f2⟩ := hM.facts)
          have hM := hM.num hgl hge (y2 : Int)
          have i1 : IntKind.i64.wrap (1 + (y2 : Int)) = 1 + (y2 : Int) := i64_in' (by omega)
          clear a0 a1 a2 a3 a4 f0 f1 f2
          generalize hWW : w7.setCell ⟨w2.heap.size, 2, none⟩ (.int .i64 (y2 : Int)) = W7 at hM ⊢
          clear hWW
          have hM9 := hM
          go_region_held3 (fun w' => w'.cell? ⟨w2.heap.size, 2, none⟩ = some (.int .i64 (y2 : Int))) ((first | exact hM9.2.1.cell 2 | exact hM.2.1.cell 2)) (first | (go_at_call 68; refine (l1Below 3 (by omega) (by omega) g _ (hM.2.2.1.kept (by repeat (first | exact Below.refl _ _ | refine Below.drew ?_ | refine Below.setCell ?_ (by (try simp); try omega) _ | refine Below.alloc ?_ (by (try simp); try omega) _)))).mono ?_; rintro e w9 ⟨y3, hy3, rfl, hc9, hg9⟩; have hM9 := hM.call hgl hge hc9 (only_trans (by repeat (first | exact only_refl _ _ | refine only_set ?_ _ _ | refine only_drewN ?_ _ | refine only_alloc ?_ _)) hg9); have i2 : IntKind.i64.wrap (2 * (y3 : Int)) = 2 * (y3 : Int) := i64_in' (by omega); obtain ⟨m9, hm9⟩ : ∃ m9 : Nat, 1 + (y2 : Int) + 2 * (y3 : Int) = (m9 : Int) := ⟨1 + y2 + 2 * y3, by omega⟩; have hm6 : m9 ≤ 6 := (by omega); have i3 : IntKind.i64.wrap (1 + (y2 : Int) + 2 * (y3 : Int)) = (m9 : Int) := (by rw [i64_in' (by omega)]; exact hm9); clear hm9))
          all_goals
            go_wp2_with fail
            go_meet
            exact ⟨m9, y2, rfl, hm6, by omega, hM9⟩
        · have b7 : (k == 20) = false := by rw [beq_eq_false_iff_ne]; exact h7
          go_wp2_with fail
          go_meet
          exact ⟨m, 0, rfl, by omega, by omega, hM⟩
      case rest =>
      clear hM a0 a1 a2 a3 a4 f0 f1 f2 hk3 hk4
      obtain ⟨m, n, rfl, hm6, hn9, hM⟩ := hcut
      obtain ⟨hB0, hB2, hC0, hG0⟩ := hM
      have hC := ih (by omega) (by omega) g
      clear ih
      have hgt := hB2.lt
      go_wp2_with fail
      go_loopw [9] (fun i wr => ∃ (j : Nat) (L : List X) (v : Value), i = .int .i64 j ∧ Hid (L.length = j ∧ ∀ x ∈ L, Tr (d + 1) x) ∧ Blk wr w.heap.size 29 z5 ∧ Blk wr w2.heap.size 29 (e5 k t n v) ∧ Hid (TrR (w2.heap.size + 1) L v wr) ∧ (∃ A c, v = .slice A j c) ∧ j ≤ m ∧ Cur wr g ∧ w.grownBy wr (some g))
        (fun i _ => m - (intOf i).toNat)
      case atStart => exact ⟨0, [], .slice none 0 0, rfl, Lib.hid ⟨rfl, by simp⟩, hB0, hB2, Lib.hid (TrR.start _ _), ⟨none, 0, rfl⟩, by omega, hC0, hG0⟩
      case round =>
        obtain ⟨j, L, v, rfl, HLT, hB0, hB2, HR, ⟨A2, k2, rfl⟩, hj, hcr, hgr⟩ := hrel
        have e4 := hB2.cell 4
        have hgt := hB2.lt
        simp [e5] at e4
        by_cases hlt : j < m
        · go_wp2_with fail
          obtain ⟨S, ho, hSl, hRL⟩ := HR.out
          have hLj := HLT.out.1
          rw [hLj] at ho
          have hold : ∀ b, (Value.slice A2 j k2).ownBlock = some b → w2.heap.size + 1 ≤ b ∧ b < wr.heap.size := fun b hb => ho.lt b hb
          have hne2 : some w2.heap.size ≠ (Value.slice A2 j k2).ownBlock := fun e => by have := hold _ e.symm; omega
          have hneg : ∀ b, (Value.slice A2 j k2).ownBlock = some b → g < b := fun b e => by have := hold _ e; omega
          clear HR
          go_region_law (first
              | (go_simp; go_at_call 82; refine (hC _ (hcr.kept (by repeat (first | exact Below.refl _ _ | refine Below.drew ?_ | refine Below.setCell ?_ (by (try simp); try omega) _ | refine Below.alloc ?_ (by (try simp); try omega) _)))).mono ?_; rintro e wb ⟨x1, s1, hT1, rfl, hR1, hc1, hg1⟩; have hg1' : wr.grownBy wb (some g) := only_trans (by repeat (first | exact only_refl _ _ | refine only_set ?_ _ _ | refine only_drewN ?_ _ | refine only_alloc ?_ _)) hg1; have hz1 := hg1'.size; have hR1' : Rd wb (fun b => wr.heap.size ≤ b ∧ b < wb.heap.size) x1 s1 := hR1; have hB0' := hB0.grown hg1' (by simp; omega); have hB2' := hB2.grown hg1' (by simp; omega); have e4' := hB2'.cell 4; simp [e5] at e4'; have hl3 : w2.heap.size < wb.heap.size := hB2'.lt; have ho1 := own_keep (w' := wb) ho (fun b hb => hg1'.block b (hold b hb).2 (by simp; have := hneg b hb; omega)); obtain ⟨A9, cap9, rfl⟩ := hR1'.kids.form; unfold val)
              | (refine step_append_x rfl _ _ (by rfl) (by rfl) ho1 (by rfl) (by rfl) ⟨rfl, rfl, rfl, rfl⟩ x1 _ (by rfl) (by rfl) (by omega) (by omega) ?_; intro g' cap' wd ho2 hgr2 hor2; have hB2'' := hB2'.grown hgr2 hne2; have e5' := hB2''.cell 4; have f5 := hB2''.frozen 4; simp [e5] at e5'))
          all_goals
            have HRD := tdRound (k := k) (n := n) (t := t) hgl hge hgt HLT hSl hRL hold hgr hg1' hc1 hT1 hR1' hB0' hB2' ho2 hgr2 hor2
            obtain ⟨HT, hX0, hX2, HN, hXc, hXg⟩ := HRD
            clear hgr2 ho2 hor2 ho1 hR1 hR1' hT1 hg1 hg1' hC HLT hRL hold hne2 hneg hcr hgr hB0 hB2 hB0' hB2' hB2'' hc1 e4 e4'
            go_wp2_with fail
            go_roundw
            case rel => exact ⟨j + 1, L ++ [x1], _, by go_num, HT, hX0, hX2, HN, ⟨_, _, rfl⟩, by omega, hXc, hXg⟩
            case measure => simp [intOf]; omega
        · obtain rfl : j = m := by omega
          have a0 := hB2.cell 0
          have a1 := hB2.cell 1
          have a2 := hB2.cell 2
          have a3 := hB2.cell 3
          simp [e5] at a0 a1 a2 a3
          have r0 := hB0.cell 0
          have r1 := hB0.cell 1
          have r2 := hB0.cell 2
          have r3 := hB0.cell 3
          have r4 := hB0.cell 4
          have s0 := hB0.frozen 0
          have s1 := hB0.frozen 1
          have s2 := hB0.frozen 2
          have s3 := hB0.frozen 3
          have s4 := hB0.frozen 4
          simp [z5] at r0 r1 r2 r3 r4
          go_wp2_with fail
          refine bodyPost_ret (v := .agg #[.int .i64 k, .string t, .int .i64 n, .int .i64 0, .slice A2 j k2]) (by simp [results, Tryd.results82, go_sem, r0, r1, r2, r3, r4]) rfl ?_
          have hK := HR.out.kd
          exact HLL.out wr (.mk k t n 0 L) (.slice A2 j k2) hB0 (Tr.node HLT.out.2 (by rw [HLT.out.1]; exact hm6) (by omega) ht hn9) (Rd.keep (fun _ _ => rfl) (fun b hb => ⟨by have := hb.1; omega, hb.2⟩) (Kd.rd (x := .mk k t n 0 L) hK)) hcr hgr
end X
end Go.Proofs.YtanmkeoieckebaaDoor
