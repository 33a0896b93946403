/- Proved here: what NewCset and RangeCset return. Condition: a text has at most 2^20 bytes. -/
import Derived.Test.YtljblaglfooclaaDoorWb
import Derived.Test.YtljblaglfooclaaDoorTx
import Derived.Test.YtljblaglfooclaaDoorHeld
namespace Go.Proofs.YtljblaglfooclaaDoor
open Go.RowKit

def foldB (l : List UInt8) : Int × Int := l.foldl (fun p x => addN p.1 p.2 x.toNat) (0, 0)
theorem foldB_snoc (l : List UInt8) (x : UInt8) : foldB (l ++ [x]) = addN (foldB l).1 (foldB l).2 x.toNat := by simp [foldB]
def low (x : UInt8) : Bool := decide (x.toNat ≤ 127)
/-- The set of a text's bytes, and whether all are below 128. -/
def newC (l : List UInt8) : (Int × Int) × Bool := if l.all low then (foldB l, true) else ((0, 0), false)
theorem newC_yes {l : List UInt8} (h : l.all low = true) : newC l = (foldB l, true) := if_pos h
theorem newC_no {l : List UInt8} (h : l.all low = false) : newC l = ((0, 0), false) := by rw [newC, h]; rfl
theorem take_snoc (s : ByteArray) (k : Nat) (h : k < s.size) : s.data.toList.take (k + 1) = s.data.toList.take k ++ [s[k]] := by
  rw [List.take_succ_eq_append_getElem (by simpa using h)]; rfl
theorem mem_of_lt (s : ByteArray) (k : Nat) (h : k < s.size) : s[k] ∈ s.data.toList := by
  show s.data.toList[k]'(by simpa using h) ∈ _
  exact List.getElem_mem _
theorem not_all_low (s : ByteArray) (k : Nat) (h : k < s.size) (hb : 127 < s[k].toNat) : s.data.toList.all low = false := by
  rw [List.all_eq_false]
  exact ⟨_, mem_of_lt s k h, by simp [low]; omega⟩

structure NcRel (w : World) (l : List UInt8) (wr : World) : Prop where
  all : l.all low = true
  res : Blk wr w.heap.size 83 #[.int .i64 0, .int .i64 0]
  cur : Blk wr (w.heap.size + 1) 83 #[.int .i64 (foldB l).1, .int .i64 (foldB l).2]
  below : Below w.heap.size w wr
/-- A set stored into a block. -/
def put2 (w : World) (g : Nat) (a b : Int) : World := (w.setCell ⟨g, 0, none⟩ (.int .i64 a)).setCell ⟨g, 1, none⟩ (.int .i64 b)
theorem blk_put2 {w : World} {g : Nat} {x y : Value} {t : TypeId} (h : Blk w g t #[x, y]) (a b : Int) : Blk (put2 w g a b) g t #[.int .i64 a, .int .i64 b] := by
  have := (h.set_ 0 (.int .i64 a)).set_ 1 (.int .i64 b)
  simpa [put2] using this
theorem far_put2 {w : World} {g g' : Nat} {cs : Array Value} {t : TypeId} (h : Blk w g' t cs) (a b : Int) (hg : g' ≠ g) : Blk (put2 w g a b) g' t cs :=
  (h.far (p := ⟨g, 0, none⟩) hg _).far (p := ⟨g, 1, none⟩) hg _
theorem below_put2 {w0 w : World} {B g : Nat} (h : Below B w0 w) (hg : B ≤ g) (a b : Int) : Below B w0 (put2 w g a b) := (h.setCell (p := ⟨g, 0, none⟩) hg _).setCell (p := ⟨g, 1, none⟩) hg _

theorem NcRel.step {w wr w1 : World} {l : List UInt8} {x : UInt8} (h : NcRel w l wr) (hx : x.toNat ≤ 127) (hb1 : Below wr.heap.size wr w1) :
    NcRel w (l ++ [x]) (put2 w1 (w.heap.size + 1) (addN (foldB l).1 (foldB l).2 x.toNat).1 (addN (foldB l).1 (foldB l).2 x.toNat).2) := by
  have hl := h.cur.lt
  refine ⟨by simp [h.all, low, hx], far_put2 (h.res.kept hb1) _ _ (by omega), ?_, below_put2 (h.below.trans (hb1.mono (by omega))) (by omega) _ _⟩
  rw [foldB_snoc]
  exact blk_put2 (h.cur.kept hb1) _ _

set_option maxHeartbeats 1000000 in
set_option maxRecDepth 10000 in
theorem specNew (s : ByteArray) (hs : s.size ≤ 1048576) (w : World) : Calls Tryd.prog 55 #[.string s] w fun e w' => e = .returned (.tuple #[cs (newC s.data.toList).1.1 (newC s.data.toList).1.2, .bool (newC s.data.toList).2]) ∧ Below w.heap.size w w' := by
  go_enter Tryd.func55, Tryd.ntmps55
  go_wp2
  go_loopw [5] (fun i wr => ∃ k : Nat, k ≤ s.size ∧ i = .int .i64 k ∧ NcRel w (s.data.toList.take k) wr)
    (fun i _ => s.size - (intOf i).toNat)
  case atStart => exact ⟨0, by omega, rfl, rfl, (Blk.new w _ _).alloc _, Blk.new' (by simp), ((Below.refl _ _).alloc (Nat.le_refl _) _).alloc (by simp) _⟩
  case round =>
    obtain ⟨k, hk, rfl, hN⟩ := hrel
    have c0 : wr.cell? ⟨w.heap.size + 1, 0, none⟩ = some (.int .i64 (foldB (s.data.toList.take k)).1) := hN.cur.cell 0
    have c1 : wr.cell? ⟨w.heap.size + 1, 1, none⟩ = some (.int .i64 (foldB (s.data.toList.take k)).2) := hN.cur.cell 1
    have f0 := hN.cur.frozen 0
    have f1 := hN.cur.frozen 1
    have r0 : wr.cell? ⟨w.heap.size, 0, none⟩ = some (.int .i64 0) := hN.res.cell 0
    have r1 : wr.cell? ⟨w.heap.size, 1, none⟩ = some (.int .i64 0) := hN.res.cell 1
    have q0 := hN.res.frozen 0
    have q1 := hN.res.frozen 1
    have z1 := hN.cur.lt
    have hb := hN.below
    by_cases h0 : k = s.size
    · subst h0
      have e1 : s.data.toList.take s.size = s.data.toList := List.take_of_length_le (by simp)
      have HA := Lib.hid hN.all
      rw [e1] at HA c0 c1
      have HN := Lib.hid (newC_yes HA.out)
      have p2 := blk_put2 hN.res (foldB s.data.toList).1 (foldB s.data.toList).2
      have p20 := p2.cell 0
      have p21 := p2.cell 1
      simp [put2] at p20 p21
      clear e1 p2
      go_wp2
      refine bodyPost_ret (v := .tuple #[cs (foldB s.data.toList).1 (foldB s.data.toList).2, .bool true]) (by simp [results, Tryd.results55, go_sem, p20, p21]) rfl ⟨by rw [HN.out], ?_⟩
      exact below_put2 hb (Nat.le_refl _) _ _
    · have hlt : k < s.size := by omega
      by_cases hhi : 127 < s[k].toNat
      · have HN := Lib.hid (newC_no (not_all_low s k hlt hhi))
        have p2 := blk_put2 hN.res 0 0
        have p20 := p2.cell 0
        have p21 := p2.cell 1
        simp [put2] at p20 p21
        clear p2
        go_wp2
        refine bodyPost_ret (v := .tuple #[cs 0 0, .bool false]) (by simp [results, Tryd.results55, go_sem, p20, p21]) rfl ⟨by rw [HN.out], ?_⟩
        exact below_put2 hb (Nat.le_refl _) _ _
      · have i0 : (0 : Int) ≤ (k : Int) := by omega
        have i1 : (k : Int) < (s.size : Int) := by omega
        go_wp2
        go_region_with (first | (go_at_call 64; refine (specWith _ _ _ (by omega) _).mono ?_; rintro e w1 ⟨rfl, hb1⟩; replace hb1 := undrew hb1; have d0 := kc1 hb1 c0; have d1 := kc1 hb1 c1; have d2 := (hN.cur.kept hb1).frozen 0; have d3 := (hN.cur.kept hb1).frozen 1))
        all_goals
          go_wp2
          go_roundw
          case rel => exact ⟨k + 1, by omega, by go_num, by rw [take_snoc s k hlt]; exact hN.step (by omega) hb1⟩
          case measure => simp [intOf]; omega
def rangeB (f : Nat) : Nat → Int × Int
  | 0 => (0, 0)
  | k + 1 => addN (rangeB f k).1 (rangeB f k).2 ((f : Int) + (k : Int))
/-- The set of a range of bytes, and whether it is one. -/
def rangeC (f t : Int) : (Int × Int) × Bool := if t < f ∨ 127 < t then ((0, 0), false) else (rangeB f.toNat (t.toNat + 1 - f.toNat), true)
theorem rangeC_no {f t : Int} (h : t < f ∨ 127 < t) : rangeC f t = ((0, 0), false) := if_pos h
theorem rangeC_yes {f t : Nat} (h : f ≤ t) (h2 : t ≤ 127) : rangeC f t = (rangeB f (t + 1 - f), true) := by
  rw [rangeC, if_neg (by omega), Int.toNat_natCast, Int.toNat_natCast]
structure RcRel (w : World) (f k : Nat) (wr : World) : Prop where
  res : Blk wr w.heap.size 83 #[.int .i64 0, .int .i64 0]
  cur : Blk wr (w.heap.size + 1) 83 #[.int .i64 (rangeB f k).1, .int .i64 (rangeB f k).2]
  below : Below w.heap.size w wr
theorem RcRel.step {w wr w1 : World} {f k : Nat} (h : RcRel w f k wr) (hb1 : Below wr.heap.size wr w1) :
    RcRel w f (k + 1) (put2 w1 (w.heap.size + 1) (addN (rangeB f k).1 (rangeB f k).2 ((f : Int) + (k : Int))).1 (addN (rangeB f k).1 (rangeB f k).2 ((f : Int) + (k : Int))).2) := by
  have hl := h.cur.lt
  exact ⟨far_put2 (h.res.kept hb1) _ _ (by omega), blk_put2 (h.cur.kept hb1) _ _, below_put2 (h.below.trans (hb1.mono (by omega))) (by omega) _ _⟩

end Go.Proofs.YtljblaglfooclaaDoor
