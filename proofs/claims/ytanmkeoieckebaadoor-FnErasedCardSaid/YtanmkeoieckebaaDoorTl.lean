/- Proved here: the reference's draw of a leaf. Condition: the cursor lies in a block of its own. -/
import Derived.Test.YtanmkeoieckebaaDoorTh
namespace Go.Proofs.YtanmkeoieckebaaDoor
open Go.RowKit
namespace X

set_option maxRecDepth 20000 in
set_option maxHeartbeats 8000000 in
theorem l6Leaf (g : Nat) (w : World) (hc : Cur w g) : Calls Tryd.prog 129 #[.pointer (some ⟨g, 0, none⟩)] w (TreeP 1 g w) := by
  have hgl := hc.lt
  have hR0 : Blk (w.alloc (.cells #[.int .i64 0, .string ⟨#[]⟩, .int .i64 0, .int .i64 0, .slice none 0 0] 29)) w.heap.size 29 #[.int .i64 0, .string ⟨#[]⟩, .int .i64 0, .int .i64 0, .slice none 0 0] := Blk.new _ _ _
  have hc0 := hc.alloc (.cells #[.int .i64 0, .string ⟨#[]⟩, .int .i64 0, .int .i64 0, .slice none 0 0] 29)
  have hg0 : w.grownBy (w.alloc (.cells #[.int .i64 0, .string ⟨#[]⟩, .int .i64 0, .int .i64 0, .slice none 0 0] 29)) (some g) := only_alloc (only_refl _ _) _
  go_enter Tryd.func129, Tryd.ntmps129
  go_upto_region 2 with (go_at_call 68; refine (l1Below 6 (by omega) (by omega) g _ hc0).mono ?_; rintro e w1 ⟨x, hx, rfl, hc1, hg1⟩; have hR1 := hR0.grown hg1 (by simp; omega); have hg1 := only_trans hg0 hg1)
  clear hR0 hc0 hg0
  by_cases h0 : x = 0
  · subst h0
    go_wp2_with (go_at_call 130; refine Calls.mono (l1PickIntLit i64B rfl hc1 (by decide) rfl (by omega) (by omega)) ?_; rintro e w2 ⟨z2, hz2, rfl, hc2, hg2⟩; have hR2 := (hR1.alloc _).grown hg2 (by simp; omega); have hg2 := only_trans (only_alloc hg1 _) hg2; have hzb := i64B_iff hz2; clear hz2; obtain ⟨hzb1, hzb2⟩ := hzb; have r0 := hR2.cell 0; have s0 := hR2.frozen 0; have r1 := hR2.cell 1; have s1 := hR2.frozen 1; have r2 := hR2.cell 2; have s2 := hR2.frozen 2; have r3 := hR2.cell 3; have s3 := hR2.frozen 3; have r4 := hR2.cell 4; have s4 := hR2.frozen 4; simp at r0 r1 r2 r3 r4)
    refine bodyPost_ret (v := .agg #[.int .i64 1, .string ⟨#[]⟩, .int .i64 z2, .int .i64 0, .slice none 0 0]) (by simp [results, Tryd.results129, go_sem, r0, r1, r2, r3, r4]) rfl ?_
    refine leafP5 (by decide) (by omega) ?_ ⟨by omega, by omega⟩ hgl hc2 hg2 _ _ _ _ _
    exact Nat.zero_le 128
  have b0 : ((x : Int) == 0) = false := by rw [beq_eq_false_iff_ne]; omega
  by_cases h1 : x = 1
  · subst h1
    clear h0
    go_wp2_with (go_at_call 152; refine Calls.mono (l4Text12 g _ hc1) ?_; rintro e w2 ⟨t, ht, rfl, hc2, hg2⟩; have hR2 := hR1.grown hg2 (by simp; omega); have hg2 := only_trans hg1 hg2; have r0 := hR2.cell 0; have s0 := hR2.frozen 0; have r1 := hR2.cell 1; have s1 := hR2.frozen 1; have r2 := hR2.cell 2; have s2 := hR2.frozen 2; have r3 := hR2.cell 3; have s3 := hR2.frozen 3; have r4 := hR2.cell 4; have s4 := hR2.frozen 4; simp at r0 r1 r2 r3 r4)
    refine bodyPost_ret (v := .agg #[.int .i64 2, .string t, .int .i64 0, .int .i64 0, .slice none 0 0]) (by simp [results, Tryd.results129, go_sem, r0, r1, r2, r3, r4]) rfl ?_
    exact leafP5 (by decide) (by omega) ht (by omega) hgl hc2 hg2 _ _ _ _ _
  have b1 : ((x : Int) == 1) = false := by rw [beq_eq_false_iff_ne]; omega
  by_cases h2 : x = 2
  · subst h2
    clear h0 h1
    go_wp2_with (first
      | (go_at_call 153; refine (l2Draw g _ hc1).mono ?_; rintro e w2 ⟨a, b, ha, hb, rfl, hc2, hg2⟩; have hR2 := hR1.grown hg2 (by simp; omega); have hg2 := only_trans hg1 hg2)
      | (go_at_call 102; refine (specCsetText _ _ _).mono ?_; rintro e w3 ⟨rfl, hb3⟩; rw [(csetT_size a b).1]; have htz := (csetT_size a b).2; generalize (⟨(csetL a b).toArray⟩ : ByteArray) = t at htz ⊢; have hR3 := hR2.kept hb3; have hc3 := hc2.kept hb3; have hg3 := only_below hg2 hb3; have r0 := hR3.cell 0; have s0 := hR3.frozen 0; have r1 := hR3.cell 1; have s1 := hR3.frozen 1; have r2 := hR3.cell 2; have s2 := hR3.frozen 2; have r3 := hR3.cell 3; have s3 := hR3.frozen 3; have r4 := hR3.cell 4; have s4 := hR3.frozen 4; simp at r0 r1 r2 r3 r4))
    refine bodyPost_ret (v := .agg #[.int .i64 3, .string t, .int .i64 0, .int .i64 0, .slice none 0 0]) (by simp [results, Tryd.results129, go_sem, r0, r1, r2, r3, r4]) rfl ?_
    exact leafP5 (by decide) (by omega) htz (by omega) hgl hc3 hg3 _ _ _ _ _
  have b2 : ((x : Int) == 2) = false := by rw [beq_eq_false_iff_ne]; omega
  by_cases h3 : x = 3
  · subst h3
    clear h0 h1 h2
    go_wp2_with (go_at_call 84; refine Calls.mono (l1PickLit sz12 rfl hc1 (by decide) rfl (by omega) (by omega)) ?_; rintro e w2 ⟨t, ht, rfl, hc2, hg2⟩; have hR2 := (hR1.alloc _).grown hg2 (by simp; omega); have hg2 := only_trans (only_alloc hg1 _) hg2; have r0 := hR2.cell 0; have s0 := hR2.frozen 0; have r1 := hR2.cell 1; have s1 := hR2.frozen 1; have r2 := hR2.cell 2; have s2 := hR2.frozen 2; have r3 := hR2.cell 3; have s3 := hR2.frozen 3; have r4 := hR2.cell 4; have s4 := hR2.frozen 4; simp at r0 r1 r2 r3 r4; have hts : t.size ≤ 12 := (by simpa [sz12] using ht); clear ht)
    refine bodyPost_ret (v := .agg #[.int .i64 5, .string t, .int .i64 0, .int .i64 0, .slice none 0 0]) (by simp [results, Tryd.results129, go_sem, r0, r1, r2, r3, r4]) rfl ?_
    exact leafP5 (by decide) (by omega) (by omega) (by omega) hgl hc2 hg2 _ _ _ _ _
  have b3 : ((x : Int) == 3) = false := by rw [beq_eq_false_iff_ne]; omega
  by_cases h4 : x = 4
  · subst h4
    clear h0 h1 h2 h3
    go_wp2_with (first
      | (go_at_call 130; refine Calls.mono (l1PickIntLit k100 rfl hc1 (by decide) rfl (by omega) (by omega)) ?_; rintro e w2 ⟨z2, hz2, rfl, hc2, hg2⟩; have hR2 := (hR1.alloc _).grown hg2 (by simp; omega); have hg2 := only_trans (only_alloc hg1 _) hg2; have hzb := k100_iff hz2; clear hz2; obtain ⟨hzb1, hzb2⟩ := hzb; have r0 := hR2.cell 0; have s0 := hR2.frozen 0; have r1 := hR2.cell 1; have s1 := hR2.frozen 1; have r2 := hR2.cell 2; have s2 := hR2.frozen 2; have r3 := hR2.cell 3; have s3 := hR2.frozen 3; have r4 := hR2.cell 4; have s4 := hR2.frozen 4; simp at r0 r1 r2 r3 r4)
      | (go_at_call 84; refine Calls.mono (l1PickLit sz12 rfl hc2 (by decide) rfl (by omega) (by omega)) ?_; rintro e w3 ⟨t, ht, rfl, hc3, hg3⟩; have hR3 := (hR2.alloc _).grown hg3 (by simp; omega); have hg3 := only_trans (only_alloc hg2 _) hg3; have r0 := hR3.cell 0; have s0 := hR3.frozen 0; have r1 := hR3.cell 1; have s1 := hR3.frozen 1; have r2 := hR3.cell 2; have s2 := hR3.frozen 2; have r3 := hR3.cell 3; have s3 := hR3.frozen 3; have r4 := hR3.cell 4; have s4 := hR3.frozen 4; simp at r0 r1 r2 r3 r4; have hts : t.size ≤ 12 := (by simpa [sz12] using ht); clear ht))
    refine bodyPost_ret (v := .agg #[.int .i64 z2, .string t, .int .i64 0, .int .i64 0, .slice none 0 0]) (by simp [results, Tryd.results129, go_sem, r0, r1, r2, r3, r4]) rfl ?_
    exact leafP5 (by decide) ⟨by omega, by omega⟩ (by omega) (by omega) hgl hc3 hg3 _ _ _ _ _
  have b4 : ((x : Int) == 4) = false := by rw [beq_eq_false_iff_ne]; omega
  clear h0 h1 h2 h3 h4
  go_wp2_with (go_at_call 130; refine Calls.mono (l1PickIntLit k100 rfl hc1 (by decide) rfl (by omega) (by omega)) ?_; rintro e w2 ⟨z2, hz2, rfl, hc2, hg2⟩; have hR2 := (hR1.alloc _).grown hg2 (by simp; omega); have hg2 := only_trans (only_alloc hg1 _) hg2; have hzb := k100_iff hz2; clear hz2; obtain ⟨hzb1, hzb2⟩ := hzb; have r0 := hR2.cell 0; have s0 := hR2.frozen 0; have r1 := hR2.cell 1; have s1 := hR2.frozen 1; have r2 := hR2.cell 2; have s2 := hR2.frozen 2; have r3 := hR2.cell 3; have s3 := hR2.frozen 3; have r4 := hR2.cell 4; have s4 := hR2.frozen 4; simp at r0 r1 r2 r3 r4)
  refine bodyPost_ret (v := .agg #[.int .i64 z2, .string ⟨#[]⟩, .int .i64 0, .int .i64 0, .slice none 0 0]) (by simp [results, Tryd.results129, go_sem, r0, r1, r2, r3, r4]) rfl ?_
  refine leafP5 (by decide) ⟨by omega, by omega⟩ ?_ (by omega) hgl hc2 hg2 _ _ _ _ _
  exact Nat.zero_le 128
end X
end Go.Proofs.YtanmkeoieckebaaDoor
