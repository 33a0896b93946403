/- Proved here: what the reference's draw of a set gives: some set of two 64-bit words. Condition: the cursor lies in a block of its own. -/
import Derived.Test.YtanmkeoieckebaaDoorDx
import Derived.Test.YtanmkeoieckebaaDoorNc
import Derived.Laws.StructEq
namespace Go.Proofs.YtanmkeoieckebaaDoor
open Go.RowKit

theorem i64_wrap (n : Int) : I64 (IntKind.i64.wrap n) := by
  unfold I64
  rw [IntKind.wrap_i64]; omega
theorem i64_and (x y : Int) : I64 (bits .and .i64 x y) := i64_wrap _
theorem i64_or (x y : Int) : I64 (bits .or .i64 x y) := i64_wrap _
theorem i64_xor (x y : Int) : I64 (bits .xor .i64 x y) := i64_wrap _
theorem i64_andNot (x y : Int) : I64 (bits .andNot .i64 x y) := i64_wrap _
theorem i64_setB (a : Int) (k : Nat) : I64 (setB a k) := by
  unfold setB I64
  generalize BitVec.ofInt 64 a ||| BitVec.twoPow 64 k = v
  rw [BitVec.toInt_eq_toNat_cond]
  have := v.isLt
  split <;> omega
theorem i64_addN {a b n : Int} (ha : I64 a) (hb : I64 b) : I64 (addN a b n).1 ∧ I64 (addN a b n).2 := by
  unfold addN
  split
  · exact ⟨i64_setB _ _, hb⟩
  · exact ⟨ha, i64_setB _ _⟩
theorem i64_zero : I64 0 := by unfold I64; omega
theorem i64_foldB (l : List UInt8) : I64 (foldB l).1 ∧ I64 (foldB l).2 := by
  have : ∀ (l : List UInt8) (p : Int × Int), I64 p.1 ∧ I64 p.2 → I64 (l.foldl (fun p x => addN p.1 p.2 x.toNat) p).1 ∧ I64 (l.foldl (fun p x => addN p.1 p.2 x.toNat) p).2 := by
    intro l
    induction l with
    | nil => intro p h; exact h
    | cons x l ih => intro p h; exact ih _ (i64_addN h.1 h.2)
  exact this l (0, 0) ⟨i64_zero, i64_zero⟩
theorem i64_newC (l : List UInt8) : I64 (newC l).1.1 ∧ I64 (newC l).1.2 := by
  unfold newC
  split
  · exact i64_foldB l
  · exact ⟨i64_zero, i64_zero⟩
theorem i64_rangeB (f : Nat) : ∀ k, I64 (rangeB f k).1 ∧ I64 (rangeB f k).2
  | 0 => ⟨i64_zero, i64_zero⟩
  | k + 1 => i64_addN (i64_rangeB f k).1 (i64_rangeB f k).2
theorem i64_rangeC (f t : Int) : I64 (rangeC f t).1.1 ∧ I64 (rangeC f t).1.2 := by
  unfold rangeC
  split
  · exact ⟨i64_zero, i64_zero⟩
  · exact i64_rangeB _ _
/-- Some set. -/
def CsetP (g : Nat) (w : World) (e : Ending) (w' : World) : Prop := ∃ a b, I64 a ∧ I64 b ∧ e = .returned (cs a b) ∧ Cur w' g ∧ w.grownBy w' (some g)
theorem only_new {a w : World} {row : Option Nat} (h : a.grownBy w row) {p : Addr} (hp : a.heap.size ≤ p.block) (u : Value) : a.grownBy (w.setCell p u) row :=
  ⟨h.os, h.tape, h.output, by simpa [World.setCell] using h.size, fun i hi hne => (Below.heap_setCell w p u i (fun e => by omega)).trans (h.block i hi hne)⟩
theorem Cur.far {w : World} {g : Nat} (hc : Cur w g) {p : Addr} (hp : g < p.block) (u : Value) : Cur (w.setCell p u) g := by
  obtain ⟨A, n, cap, i, h, hB, h1, h2, hA⟩ := hc
  refine ⟨A, n, cap, i, h, hB.far (by omega) u, h1, h2, fun hn => ?_⟩
  obtain ⟨b, o, e, hbg, hcell⟩ := hA hn
  refine ⟨b, o, e, hbg, fun k hk => ?_⟩
  obtain ⟨x, hx⟩ := hcell k hk
  exact ⟨x, (World.cell?_setCell_other w p ⟨b, o + k, none⟩ u (fun e => by have := congrArg Addr.block e; simp at this; omega)).trans hx⟩
theorem Cur.alloc {w : World} {g : Nat} (hc : Cur w g) (o : Obj) : Cur (w.alloc o) g := hc.kept ((Below.refl _ _).alloc (Nat.le_refl _) o)
set_option maxRecDepth 20000 in
set_option maxHeartbeats 8000000 in
theorem l2Draw (g : Nat) (w : World) (hc : Cur w g) : Calls Tryd.prog 153 #[.pointer (some ⟨g, 0, none⟩)] w (CsetP g w) := by
  have hgl := hc.lt
  have hR0 : Blk (w.alloc (csB 100 0 0)) w.heap.size 100 #[.int .i64 0, .int .i64 0] := Blk.new _ _ _
  have hc0 := hc.kept ((Below.refl _ _).alloc (Nat.le_refl _) (csB 100 0 0))
  have hg0 : w.grownBy (w.alloc (csB 100 0 0)) (some g) := only_alloc (only_refl _ _) _
  go_enter Tryd.func153, Tryd.ntmps153
  go_upto_region 3 with (first
    | (go_at_call 84; refine Calls.mono (l1PickLit (fun t => decide (t.size ≤ 200)) (by simp) hc0 (by decide) rfl (by omega) (by omega)) ?_; rintro e w1 ⟨t, ht, rfl, hc1, hg1⟩; have hts : t.size ≤ 1048576 := (by have := of_decide_eq_true ht; omega); clear ht; have hR1 := (hR0.alloc _).grown hg1 (by simp; omega); have hg1 := only_trans (only_alloc hg0 _) hg1)
    | (go_at_call 119; refine (specNew t hts _).mono ?_; rintro e w2 ⟨rfl, hb2⟩; have hi := i64_newC t.data.toList; generalize (newC t.data.toList).1.1 = a0 at hi ⊢; generalize (newC t.data.toList).1.2 = b0 at hi ⊢; generalize (newC t.data.toList).2 = ok0; have hR2 := hR1.kept hb2; have hc2 := hc1.kept hb2; have hg2 := only_below hg1 hb2; have hgl2 := hc2.lt)
    | (go_at_call 68; refine (l1Below 5 (by omega) (by omega) g _ (hc2.kept (by repeat (first | exact Below.refl _ _ | refine Below.drew ?_ | refine Below.setCell ?_ (by (try simp); try omega) _ | refine Below.alloc ?_ (by (try simp); try omega) _)))).mono ?_; rintro e w3 ⟨x, hx, rfl, hc3, hg3⟩; have hX3 := (Blk.new w2 100 #[.int .i64 a0, .int .i64 b0]).grown hg3 (by simp; omega); have hR3 := (hR2.alloc _).grown hg3 (by simp; omega); have hg3 := only_trans (only_alloc hg2 _) hg3))
  have x0 := hX3.cell 0
  have x1 := hX3.cell 1
  have r0 := hR3.cell 0
  have r1 := hR3.cell 1
  have s0 := hR3.frozen 0
  have s1 := hR3.frozen 1
  simp at x0 x1 r0 r1
  have hRl := hR3.lt
  have hXl := hX3.lt
  have hwz := hg3.size
  by_cases h0 : x = 0
  · subst h0
    go_wp2_with (go_at_call 162; refine (specComplement _ _ _).mono ?_; rintro e w' ⟨rfl, rfl⟩)
    refine bodyPost_ret (v := cs (bits .xor .i64 (-1) a0) (bits .xor .i64 (-1) b0)) (by simp [results, Tryd.results153, go_sem, r0, r1, hRl]) rfl ⟨_, _, i64_xor _ _, i64_xor _ _, rfl, ?_, ?_⟩
    · repeat (first | exact hc3 | refine Cur.alloc ?_ _ | refine Cur.far ?_ hgl _)
    · repeat (first | exact hg3 | refine only_alloc ?_ _ | refine only_new ?_ (Nat.le_refl _) _)
  · have b0' : ((x : Int) == 0) = false := by rw [beq_eq_false_iff_ne]; omega
    by_cases h1 : x = 1
    · subst h1
      clear x0 x1
      clear r0 r1 s0 s1
      go_wp2_with (first
        | (go_at_call 163; refine (l1Whole g _ hc3).mono ?_; rintro e w4 ⟨z, hz, rfl, hc4, hg4⟩; clear hc3; have hR4 := hR3.grown hg4 (by simp; omega); have hg4 := only_trans hg3 hg4)
        | (go_at_call 163; refine (l1Whole g _ hc4).mono ?_; rintro e w5 ⟨y, hy, rfl, hc5, hg5⟩; have hR5 := hR4.grown hg5 (by simp; omega); have hg5 := only_trans hg4 hg5; have r0 := hR5.cell 0; have r1 := hR5.cell 1; have s0 := hR5.frozen 0; have s1 := hR5.frozen 1; simp at r0 r1))
      refine bodyPost_ret (v := cs z y) (by simp [results, Tryd.results153, go_sem, r0, r1]) rfl ⟨_, _, hz, hy, rfl, ?_, ?_⟩
      · exact (hc5.far (p := ⟨w.heap.size, 0, none⟩) hgl _).far (p := ⟨w.heap.size, 1, none⟩) hgl _
      · exact only_new (p := ⟨w.heap.size, 1, none⟩) (only_new (p := ⟨w.heap.size, 0, none⟩) hg5 (Nat.le_refl _) _) (Nat.le_refl _) _
    · have b1' : ((x : Int) == 1) = false := by rw [beq_eq_false_iff_ne]; omega
      by_cases h2 : x = 2
      · subst h2
        clear x0 x1 r0 r1 s0 s1
        go_wp2_with (first
          | (go_at_call 68; refine (l1Below 64 (by omega) (by omega) g _ hc3).mono ?_; rintro e w4 ⟨z, hz, rfl, hc4, hg4⟩; clear hc3; have hR4 := hR3.grown hg4 (by simp; omega); have hX4 := hX3.grown hg4 (by simp; omega); have hg4 := only_trans hg3 hg4)
          | (go_at_call 68; refine (l1Below 64 (by omega) (by omega) g _ hc4).mono ?_; rintro e w5 ⟨y, hy, rfl, hc5, hg5⟩; have hR5 := hR4.grown hg5 (by simp; omega); have hX5 := hX4.grown hg5 (by simp; omega); have hg5 := only_trans hg4 hg5)
          | (go_at_call 164; refine (specRange _ _ (by omega) (by omega) _).mono ?_; rintro e w6 ⟨rfl, hb6⟩; have hi6 := i64_rangeC (z : Int) (64 + (y : Int)); generalize (rangeC (z : Int) (64 + (y : Int))).1.1 = a1 at hi6 ⊢; generalize (rangeC (z : Int) (64 + (y : Int))).1.2 = b1 at hi6 ⊢; have hR6 := hR5.kept hb6; have hX6 := hX5.kept hb6; have hc6 := hc5.kept hb6; have hg6 := only_below hg5 hb6; have x0 := hX6.cell 0; have x1 := hX6.cell 1; have r0 := hR6.cell 0; have r1 := hR6.cell 1; have s0 := hR6.frozen 0; have s1 := hR6.frozen 1; have hRl6 := hR6.lt; have hXl6 := hX6.lt; simp at x0 x1 r0 r1)
          | (go_at_call 165; refine (specSubtract _ _ _ _ _).mono ?_; rintro e w7 ⟨rfl, hw7⟩; have hb7 : Below w6.heap.size w6 w7 := (by rw [← hw7]; repeat (first | exact Below.refl _ _ | refine Below.drew ?_ | refine Below.setCell ?_ (by (try simp); try omega) _ | refine Below.alloc ?_ (by (try simp); try omega) _)); clear hw7; have hR7 := hR6.kept hb7; have hc7 := hc6.kept hb7; have hg7 := only_below hg6 hb7; have r0 := hR7.cell 0; have r1 := hR7.cell 1; have s0 := hR7.frozen 0; have s1 := hR7.frozen 1; simp at r0 r1))
        refine bodyPost_ret (v := cs (bits .andNot .i64 a1 a0) (bits .andNot .i64 b1 b0)) (by simp [results, Tryd.results153, go_sem, r0, r1]) rfl ⟨_, _, i64_andNot _ _, i64_andNot _ _, rfl, ?_, ?_⟩
        · repeat (first | exact hc7 | refine Cur.alloc ?_ _ | refine Cur.far ?_ hgl _)
        · repeat (first | exact hg7 | refine only_alloc ?_ _ | refine only_new ?_ (Nat.le_refl _) _)
      · have b2' : ((x : Int) == 2) = false := by rw [beq_eq_false_iff_ne]; omega
        clear h0 h1 h2
        go_wp2_with fail
        refine bodyPost_ret (v := cs a0 b0) (by simp [results, Tryd.results153, go_sem, r0, r1]) rfl ⟨_, _, hi.1, hi.2, rfl, ?_, ?_⟩
        · exact (hc3.far (p := ⟨w.heap.size, 0, none⟩) hgl _).far (p := ⟨w.heap.size, 1, none⟩) hgl _
        · exact only_new (p := ⟨w.heap.size, 1, none⟩) (only_new (p := ⟨w.heap.size, 0, none⟩) hg3 (Nat.le_refl _) _) (Nat.le_refl _) _
end Go.Proofs.YtanmkeoieckebaaDoor
