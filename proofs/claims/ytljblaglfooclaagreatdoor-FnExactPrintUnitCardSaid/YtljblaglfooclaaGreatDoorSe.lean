/- Proved here: what NewCset and RangeCset return. Condition: a text has at most 2^20 bytes. Proved here: what CsetText, CsetSize, NewCset, RangeCset return. Condition: a text has at most 2^20 bytes. Proved here: a text of rising letters is just the text of its own set. No condition. -/
import Derived.Test.YtljblaglfooclaaGreatDoorWb
import Derived.Test.YtljblaglfooclaaGreatDoorBuf
import Derived.Test.YtljblaglfooclaaGreatDoorHeld
import Derived.Test.YtljblaglfooclaaGreatDoorPl
namespace Go.Proofs.YtljblaglfooclaaGreatDoor
open Go.RowKit

def foldB (l : List UInt8) : Int × Int := l.foldl (fun p x => addN p.1 p.2 x.toNat) (0, 0)
theorem foldB_snoc (l : List UInt8) (x : UInt8) : foldB (l ++ [x]) = addN (foldB l).1 (foldB l).2 x.toNat := by simp [foldB]
def low (x : UInt8) : Bool := decide (x.toNat ≤ 127)
/-- The set of a text's bytes, and whether all are below 128. -/
def newC (l : List UInt8) : (Int × Int) × Bool := if l.all low then (foldB l, true) else ((0, 0), false)
theorem newC_yes {l : List UInt8} (h : l.all low = true) : newC l = (foldB l, true) := if_pos h
theorem newC_no {l : List UInt8} (h : l.all low = false) : newC l = ((0, 0), false) := by rw [newC, h]; rfl
theorem take_snoc (s : ByteArray) (k : Nat) (h : k < s.size) : s.data.toList.take (k + 1) = s.data.toList.take k ++ [s[k]] := by
  rw [List.take_succ_eq_append_getElem (by simpa using h)]; rfl
theorem mem_of_lt (s : ByteArray) (k : Nat) (h : k < s.size) : s[k] ∈ s.data.toList := by
  show s.data.toList[k]'(by simpa using h) ∈ _
  exact List.getElem_mem _
theorem not_all_low (s : ByteArray) (k : Nat) (h : k < s.size) (hb : 127 < s[k].toNat) : s.data.toList.all low = false := by
  rw [List.all_eq_false]
  exact ⟨_, mem_of_lt s k h, by simp [low]; omega⟩

structure NcRel (w : World) (l : List UInt8) (wr : World) : Prop where
  all : l.all low = true
  res : Blk wr w.heap.size 83 #[.int .i64 0, .int .i64 0]
  cur : Blk wr (w.heap.size + 1) 83 #[.int .i64 (foldB l).1, .int .i64 (foldB l).2]
  below : Below w.heap.size w wr
/-- A set stored into a block. -/
def put2 (w : World) (g : Nat) (a b : Int) : World := (w.setCell ⟨g, 0, none⟩ (.int .i64 a)).setCell ⟨g, 1, none⟩ (.int .i64 b)
theorem blk_put2 {w : World} {g : Nat} {x y : Value} {t : TypeId} (h : Blk w g t #[x, y]) (a b : Int) : Blk (put2 w g a b) g t #[.int .i64 a, .int .i64 b] := by
  have := (h.set_ 0 (.int .i64 a)).set_ 1 (.int .i64 b)
  simpa [put2] using this
theorem far_put2 {w : World} {g g' : Nat} {cs : Array Value} {t : TypeId} (h : Blk w g' t cs) (a b : Int) (hg : g' ≠ g) : Blk (put2 w g a b) g' t cs :=
  (h.far (p := ⟨g, 0, none⟩) hg _).far (p := ⟨g, 1, none⟩) hg _
theorem below_put2 {w0 w : World} {B g : Nat} (h : Below B w0 w) (hg : B ≤ g) (a b : Int) : Below B w0 (put2 w g a b) := (h.setCell (p := ⟨g, 0, none⟩) hg _).setCell (p := ⟨g, 1, none⟩) hg _

theorem NcRel.step {w wr w1 : World} {l : List UInt8} {x : UInt8} (h : NcRel w l wr) (hx : x.toNat ≤ 127) (hb1 : Below wr.heap.size wr w1) :
    NcRel w (l ++ [x]) (put2 w1 (w.heap.size + 1) (addN (foldB l).1 (foldB l).2 x.toNat).1 (addN (foldB l).1 (foldB l).2 x.toNat).2) := by
  have hl := h.cur.lt
  refine ⟨by simp [h.all, low, hx], far_put2 (h.res.kept hb1) _ _ (by omega), ?_, below_put2 (h.below.trans (hb1.mono (by omega))) (by omega) _ _⟩
  rw [foldB_snoc]
  exact blk_put2 (h.cur.kept hb1) _ _

set_option maxHeartbeats 1000000 in
set_option maxRecDepth 10000 in
theorem implNew (s : ByteArray) (hs : s.size ≤ 1048576) (w : World) : Calls Tryz.prog 66 #[.string s] w fun e w' => e = .returned (.tuple #[cs (newC s.data.toList).1.1 (newC s.data.toList).1.2, .bool (newC s.data.toList).2]) ∧ Below w.heap.size w w' := by
  go_enter Tryz.func66, Tryz.ntmps66
  go_wp2
  go_loopw [5] (fun i wr => ∃ k : Nat, k ≤ s.size ∧ i = .int .i64 k ∧ NcRel w (s.data.toList.take k) wr)
    (fun i _ => s.size - (intOf i).toNat)
  case atStart => exact ⟨0, by omega, rfl, rfl, (Blk.new w _ _).alloc _, Blk.new' (by simp), ((Below.refl _ _).alloc (Nat.le_refl _) _).alloc (by simp) _⟩
  case round =>
    obtain ⟨k, hk, rfl, hN⟩ := hrel
    have c0 : wr.cell? ⟨w.heap.size + 1, 0, none⟩ = some (.int .i64 (foldB (s.data.toList.take k)).1) := hN.cur.cell 0
    have c1 : wr.cell? ⟨w.heap.size + 1, 1, none⟩ = some (.int .i64 (foldB (s.data.toList.take k)).2) := hN.cur.cell 1
    have f0 := hN.cur.frozen 0
    have f1 := hN.cur.frozen 1
    have r0 : wr.cell? ⟨w.heap.size, 0, none⟩ = some (.int .i64 0) := hN.res.cell 0
    have r1 : wr.cell? ⟨w.heap.size, 1, none⟩ = some (.int .i64 0) := hN.res.cell 1
    have q0 := hN.res.frozen 0
    have q1 := hN.res.frozen 1
    have z1 := hN.cur.lt
    have hb := hN.below
    by_cases h0 : k = s.size
    · subst h0
      have e1 : s.data.toList.take s.size = s.data.toList := List.take_of_length_le (by simp)
      have HA := Lib.hid hN.all
      rw [e1] at HA c0 c1
      have HN := Lib.hid (newC_yes HA.out)
      have p2 := blk_put2 hN.res (foldB s.data.toList).1 (foldB s.data.toList).2
      have p20 := p2.cell 0
      have p21 := p2.cell 1
      simp [put2] at p20 p21
      clear e1 p2
      go_wp2
      refine bodyPost_ret (v := .tuple #[cs (foldB s.data.toList).1 (foldB s.data.toList).2, .bool true]) (by simp [results, Tryz.results66, go_sem, p20, p21]) rfl ⟨by rw [HN.out], ?_⟩
      exact below_put2 hb (Nat.le_refl _) _ _
    · have hlt : k < s.size := by omega
      by_cases hhi : 127 < s[k].toNat
      · have HN := Lib.hid (newC_no (not_all_low s k hlt hhi))
        have p2 := blk_put2 hN.res 0 0
        have p20 := p2.cell 0
        have p21 := p2.cell 1
        simp [put2] at p20 p21
        clear p2
        go_wp2
        refine bodyPost_ret (v := .tuple #[cs 0 0, .bool false]) (by simp [results, Tryz.results66, go_sem, p20, p21]) rfl ⟨by rw [HN.out], ?_⟩
        exact below_put2 hb (Nat.le_refl _) _ _
      · have i0 : (0 : Int) ≤ (k : Int) := by omega
        have i1 : (k : Int) < (s.size : Int) := by omega
        go_wp2
        go_region_with (first | (go_at_call 91; refine (implWith _ _ _ (by omega) _).mono ?_; rintro e w1 ⟨rfl, hb1⟩; replace hb1 := undrew hb1; have d0 := kc1 hb1 c0; have d1 := kc1 hb1 c1; have d2 := (hN.cur.kept hb1).frozen 0; have d3 := (hN.cur.kept hb1).frozen 1))
        all_goals
          go_wp2
          go_roundw
          case rel => exact ⟨k + 1, by omega, by go_num, by rw [take_snoc s k hlt]; exact hN.step (by omega) hb1⟩
          case measure => simp [intOf]; omega

set_option maxHeartbeats 1000000 in
set_option maxRecDepth 10000 in
theorem specNew (s : ByteArray) (hs : s.size ≤ 1048576) (w : World) : Calls Tryz.prog 50 #[.string s] w fun e w' => e = .returned (.tuple #[cs (newC s.data.toList).1.1 (newC s.data.toList).1.2, .bool (newC s.data.toList).2]) ∧ Below w.heap.size w w' := by
  go_enter Tryz.func50, Tryz.ntmps50
  go_wp2
  go_loopw [5] (fun i wr => ∃ k : Nat, k ≤ s.size ∧ i = .int .i64 k ∧ NcRel w (s.data.toList.take k) wr)
    (fun i _ => s.size - (intOf i).toNat)
  case atStart => exact ⟨0, by omega, rfl, rfl, (Blk.new w _ _).alloc _, Blk.new' (by simp), ((Below.refl _ _).alloc (Nat.le_refl _) _).alloc (by simp) _⟩
  case round =>
    obtain ⟨k, hk, rfl, hN⟩ := hrel
    have c0 : wr.cell? ⟨w.heap.size + 1, 0, none⟩ = some (.int .i64 (foldB (s.data.toList.take k)).1) := hN.cur.cell 0
    have c1 : wr.cell? ⟨w.heap.size + 1, 1, none⟩ = some (.int .i64 (foldB (s.data.toList.take k)).2) := hN.cur.cell 1
    have f0 := hN.cur.frozen 0
    have f1 := hN.cur.frozen 1
    have r0 : wr.cell? ⟨w.heap.size, 0, none⟩ = some (.int .i64 0) := hN.res.cell 0
    have r1 : wr.cell? ⟨w.heap.size, 1, none⟩ = some (.int .i64 0) := hN.res.cell 1
    have q0 := hN.res.frozen 0
    have q1 := hN.res.frozen 1
    have z1 := hN.cur.lt
    have hb := hN.below
    by_cases h0 : k = s.size
    · subst h0
      have e1 : s.data.toList.take s.size = s.data.toList := List.take_of_length_le (by simp)
      have HA := Lib.hid hN.all
      rw [e1] at HA c0 c1
      have HN := Lib.hid (newC_yes HA.out)
      have p2 := blk_put2 hN.res (foldB s.data.toList).1 (foldB s.data.toList).2
      have p20 := p2.cell 0
      have p21 := p2.cell 1
      simp [put2] at p20 p21
      clear e1 p2
      go_wp2
      refine bodyPost_ret (v := .tuple #[cs (foldB s.data.toList).1 (foldB s.data.toList).2, .bool true]) (by simp [results, Tryz.results50, go_sem, p20, p21]) rfl ⟨by rw [HN.out], ?_⟩
      exact below_put2 hb (Nat.le_refl _) _ _
    · have hlt : k < s.size := by omega
      by_cases hhi : 127 < s[k].toNat
      · have HN := Lib.hid (newC_no (not_all_low s k hlt hhi))
        have p2 := blk_put2 hN.res 0 0
        have p20 := p2.cell 0
        have p21 := p2.cell 1
        simp [put2] at p20 p21
        clear p2
        go_wp2
        refine bodyPost_ret (v := .tuple #[cs 0 0, .bool false]) (by simp [results, Tryz.results50, go_sem, p20, p21]) rfl ⟨by rw [HN.out], ?_⟩
        exact below_put2 hb (Nat.le_refl _) _ _
      · have i0 : (0 : Int) ≤ (k : Int) := by omega
        have i1 : (k : Int) < (s.size : Int) := by omega
        go_wp2
        go_region_with (first | (go_at_call 78; refine (specWith _ _ _ (by omega) _).mono ?_; rintro e w1 ⟨rfl, hb1⟩; replace hb1 := undrew hb1; have d0 := kc1 hb1 c0; have d1 := kc1 hb1 c1; have d2 := (hN.cur.kept hb1).frozen 0; have d3 := (hN.cur.kept hb1).frozen 1))
        all_goals
          go_wp2
          go_roundw
          case rel => exact ⟨k + 1, by omega, by go_num, by rw [take_snoc s k hlt]; exact hN.step (by omega) hb1⟩
          case measure => simp [intOf]; omega
def rangeB (f : Nat) : Nat → Int × Int
  | 0 => (0, 0)
  | k + 1 => addN (rangeB f k).1 (rangeB f k).2 ((f : Int) + (k : Int))
/-- The set of a range of bytes, and whether it is one. -/
def rangeC (f t : Int) : (Int × Int) × Bool := if t < f ∨ 127 < t then ((0, 0), false) else (rangeB f.toNat (t.toNat + 1 - f.toNat), true)
theorem rangeC_no {f t : Int} (h : t < f ∨ 127 < t) : rangeC f t = ((0, 0), false) := if_pos h
theorem rangeC_yes {f t : Nat} (h : f ≤ t) (h2 : t ≤ 127) : rangeC f t = (rangeB f (t + 1 - f), true) := by
  rw [rangeC, if_neg (by omega), Int.toNat_natCast, Int.toNat_natCast]
structure RcRel (w : World) (f k : Nat) (wr : World) : Prop where
  res : Blk wr w.heap.size 83 #[.int .i64 0, .int .i64 0]
  cur : Blk wr (w.heap.size + 1) 83 #[.int .i64 (rangeB f k).1, .int .i64 (rangeB f k).2]
  below : Below w.heap.size w wr
theorem RcRel.step {w wr w1 : World} {f k : Nat} (h : RcRel w f k wr) (hb1 : Below wr.heap.size wr w1) :
    RcRel w f (k + 1) (put2 w1 (w.heap.size + 1) (addN (rangeB f k).1 (rangeB f k).2 ((f : Int) + (k : Int))).1 (addN (rangeB f k).1 (rangeB f k).2 ((f : Int) + (k : Int))).2) := by
  have hl := h.cur.lt
  exact ⟨far_put2 (h.res.kept hb1) _ _ (by omega), blk_put2 (h.cur.kept hb1) _ _, below_put2 (h.below.trans (hb1.mono (by omega))) (by omega) _ _⟩

end Go.Proofs.YtljblaglfooclaaGreatDoor

namespace Go.Proofs.YtljblaglfooclaaGreatDoor
open Go.RowKit

/-- The letters of a set below k. -/
def csetPre (a b : Int) (k : Nat) : List UInt8 := ((List.range k).filter (hasB a b)).map UInt8.ofNat
/-- The letters of a set. -/
def csetL (a b : Int) : List UInt8 := csetPre a b 128
theorem csetPre_yes {a b : Int} {k : Nat} (h : hasB a b k = true) : csetPre a b (k + 1) = csetPre a b k ++ [UInt8.ofNat k] := by simp [csetPre, List.range_succ, h]
theorem csetPre_no {a b : Int} {k : Nat} (h : hasB a b k = false) : csetPre a b (k + 1) = csetPre a b k := by simp [csetPre, List.range_succ, h]
theorem csetPre_len (a b : Int) (k : Nat) : (csetPre a b k).length ≤ k := by
  have := List.length_filter_le (hasB a b) (List.range k)
  simpa [csetPre] using this
theorem byteCells (k : Nat) (h : k < 256) : (#[Value.int .u8 (k : Int)] : Array Value).toList = bytesV [UInt8.ofNat k] := by
  simp [bytesV]; omega
theorem u8_lt (k : Nat) (h : k < 256) : 0 ≤ (k : Int) ∧ (k : Int) ≤ 255 := by omega

set_option maxHeartbeats 1000000 in
set_option maxRecDepth 10000 in
theorem implCsetText (a b : Int) (w : World) : Calls Tryz.prog 92 #[cs a b] w fun e w' => e = .returned (txt (csetL a b)) ∧ Below w.heap.size w w' := by
  go_enter Tryz.func92, Tryz.ntmps92
  go_wp2
  go_loopw [3, 4] (fun v i wr => ∃ k : Nat, k ≤ 128 ∧ i = .int .i64 k ∧ Buf wr (w.heap.size + 1) v (csetPre a b k) ∧ Below (w.heap.size + 1) (w.alloc (csB 83 a b)) wr)
    (fun _ i _ => 128 - (intOf i).toNat)
  case atStart => exact ⟨0, by omega, rfl, Buf.empty' (by simp) (by simp), (Below.refl _ _).alloc (by simp) _⟩
  case round =>
    obtain ⟨k, hk, rfl, hown, hb⟩ := hrel
    have hsz := hb.size
    simp at hsz
    have hl := csetPre_len a b k
    by_cases h0 : k = 128
    · subst h0
      have hcv := run_text hown
      go_wp2
      go_ret
      exact ⟨rfl, ((Below.refl _ _).alloc (Nat.le_refl _) _).trans (hb.mono (by omega))⟩
    · have hlt : k < 128 := by omega
      have c0 : wr.cell? ⟨w.heap.size, 0, none⟩ = some (.int .i64 a) := (hb.cell (p := ⟨w.heap.size, 0, none⟩) (by simp)).trans (by go_simp)
      have c1 : wr.cell? ⟨w.heap.size, 1, none⟩ = some (.int .i64 b) := (hb.cell (p := ⟨w.heap.size, 1, none⟩) (by simp)).trans (by go_simp)
      have HC := Lib.hid (byteCells k (by omega))
      by_cases hh : hasB a b k = true
      · have HP := Lib.hid (csetPre_yes hh)
        go_wp2_with (first
          | (go_at_call 103; refine (implHas a b k (by omega) _).mono ?_; rintro e w' ⟨rfl, rfl⟩)
          | (at_builtin; refine wpList_append_lit rfl _ _ rfl rfl (hown.alloc _) 1 rfl (by simp) [UInt8.ofNat k] rfl HC.out (by omega) (by simp; omega) ?_; intro v1 w1 hown1 hb1))
        go_roundw
        case rel => exact ⟨k + 1, by omega, by go_num, by rw [HP.out]; exact hown1, (hb.alloc (by omega) _).trans hb1⟩
        case measure => simp [intOf]; omega
      · have hh' : hasB a b k = false := by simpa using hh
        clear hh
        have HP := Lib.hid (csetPre_no hh')
        go_wp2_with (first
          | (go_at_call 103; refine (implHas a b k (by omega) _).mono ?_; rintro e w' ⟨rfl, rfl⟩))
        go_roundw
        case rel => exact ⟨k + 1, by omega, by go_num, by rw [HP.out]; exact hown.alloc _, hb.alloc (by omega) _⟩
        case measure => simp [intOf]; omega
set_option maxHeartbeats 1000000 in
set_option maxRecDepth 10000 in
theorem specCsetText (a b : Int) (w : World) : Calls Tryz.prog 79 #[cs a b] w fun e w' => e = .returned (txt (csetL a b)) ∧ Below w.heap.size w w' := by
  go_enter Tryz.func79, Tryz.ntmps79
  go_wp2
  go_loopw [3, 4] (fun v i wr => ∃ k : Nat, k ≤ 128 ∧ i = .int .i64 k ∧ Buf wr (w.heap.size + 1) v (csetPre a b k) ∧ Below (w.heap.size + 1) (w.alloc (csB 83 a b)) wr)
    (fun _ i _ => 128 - (intOf i).toNat)
  case atStart => exact ⟨0, by omega, rfl, Buf.empty' (by simp) (by simp), (Below.refl _ _).alloc (by simp) _⟩
  case round =>
    obtain ⟨k, hk, rfl, hown, hb⟩ := hrel
    have hsz := hb.size
    simp at hsz
    have hl := csetPre_len a b k
    by_cases h0 : k = 128
    · subst h0
      have hcv := run_text hown
      go_wp2
      go_ret
      exact ⟨rfl, ((Below.refl _ _).alloc (Nat.le_refl _) _).trans (hb.mono (by omega))⟩
    · have hlt : k < 128 := by omega
      have c0 : wr.cell? ⟨w.heap.size, 0, none⟩ = some (.int .i64 a) := (hb.cell (p := ⟨w.heap.size, 0, none⟩) (by simp)).trans (by go_simp)
      have c1 : wr.cell? ⟨w.heap.size, 1, none⟩ = some (.int .i64 b) := (hb.cell (p := ⟨w.heap.size, 1, none⟩) (by simp)).trans (by go_simp)
      have HC := Lib.hid (byteCells k (by omega))
      by_cases hh : hasB a b k = true
      · have HP := Lib.hid (csetPre_yes hh)
        go_wp2_with (first
          | (go_at_call 98; refine (specHas a b k (by omega) _).mono ?_; rintro e w' ⟨rfl, rfl⟩)
          | (at_builtin; refine wpList_append_lit rfl _ _ rfl rfl (hown.alloc _) 1 rfl (by simp) [UInt8.ofNat k] rfl HC.out (by omega) (by simp; omega) ?_; intro v1 w1 hown1 hb1))
        go_roundw
        case rel => exact ⟨k + 1, by omega, by go_num, by rw [HP.out]; exact hown1, (hb.alloc (by omega) _).trans hb1⟩
        case measure => simp [intOf]; omega
      · have hh' : hasB a b k = false := by simpa using hh
        clear hh
        have HP := Lib.hid (csetPre_no hh')
        go_wp2_with (first
          | (go_at_call 98; refine (specHas a b k (by omega) _).mono ?_; rintro e w' ⟨rfl, rfl⟩))
        go_roundw
        case rel => exact ⟨k + 1, by omega, by go_num, by rw [HP.out]; exact hown.alloc _, hb.alloc (by omega) _⟩
        case measure => simp [intOf]; omega
end Go.Proofs.YtljblaglfooclaaGreatDoor

namespace Go.Proofs.YtljblaglfooclaaGreatDoor
open Go.RowKit

/-- The bytes are letters of sets, each above the one ahead. -/
def okC (s : ByteArray) : Prop := ∀ j (h : j < s.size), s[j].toNat ≤ 127 ∧ (0 < j → (s[j - 1]'(by omega)).toNat < s[j].toNat)
instance (s : ByteArray) : Decidable (okC s) := inferInstanceAs (Decidable (∀ j (h : j < s.size), s[j].toNat ≤ 127 ∧ (0 < j → (s[j - 1]'(by omega)).toNat < s[j].toNat)))
/-- The numbers of a rising list out of a range that holds them. -/
theorem filt_rise : ∀ (n m : Nat) (l : List Nat), l.Pairwise (· < ·) → (∀ x ∈ l, m ≤ x ∧ x < m + n) → (List.range' m n).filter (fun k => decide (k ∈ l)) = l
  | 0, m, l, _, h => by
    cases l with
    | nil => rfl
    | cons x l => have := h x (by simp); omega
  | n + 1, m, l, hp, h => by
    rw [List.range'_succ]
    cases l with
    | nil => simp
    | cons y l =>
      rw [List.pairwise_cons] at hp
      have hy := h y (by simp)
      by_cases e : y = m
      · subst e
        rw [List.filter_cons_of_pos (by simp)]
        have ih := filt_rise n (y + 1) l hp.2 (fun x hx => by have := h x (by simp [hx]); have := hp.1 x hx; omega)
        have e2 : (List.range' (y + 1) n).filter (fun k => decide (k ∈ y :: l)) = (List.range' (y + 1) n).filter (fun k => decide (k ∈ l)) := by
          apply List.filter_congr
          intro k hk
          rw [List.mem_range'_1] at hk
          have : k ≠ y := by omega
          simp [this]
        rw [e2, ih]
      · have hn : m ∉ y :: l := by
          intro hm
          rcases List.mem_cons.1 hm with hm | hm
          · exact e hm.symm
          · have := hp.1 m hm; omega
        rw [List.filter_cons_of_neg (by simpa using hn)]
        exact filt_rise n (m + 1) (y :: l) (List.pairwise_cons.2 hp) (fun x hx => by
          have h1 := h x hx
          have : x ≠ m := fun e2 => hn (e2 ▸ hx)
          omega)
theorem bitB_0 (j : Nat) : bitB 0 j = false := by
  unfold bitB
  rw [show BitVec.ofInt 64 0 = 0#64 from by decide]; simp
/-- The letters of a list are the elements of its set. -/
theorem fold_has : ∀ l : List UInt8, l.all low = true → ∀ j, j < 128 → hasB (foldB l).1 (foldB l).2 j = decide (j ∈ l.map UInt8.toNat) := by
  refine rev_ind (P := fun l => l.all low = true → ∀ j, j < 128 → hasB (foldB l).1 (foldB l).2 j = decide (j ∈ l.map UInt8.toNat)) ?_ ?_
  · intro _ j _
    have e : foldB [] = (0, 0) := rfl
    rw [e]
    unfold hasB
    rw [bitB_0, bitB_0]
    simp
  · intro l x ih hall j hj
    simp only [List.all_append, Bool.and_eq_true, List.all_cons, List.all_nil, Bool.and_true] at hall
    have hx : x.toNat ≤ 127 := by simpa [low] using hall.2
    have h1 := ih hall.1 j hj
    rw [foldB_snoc]
    have e : decide (j ∈ (l ++ [x]).map UInt8.toNat) = (decide (j ∈ l.map UInt8.toNat) || decide (j = x.toNat)) := by
      rw [Bool.eq_iff_iff]; simp
    rw [e, ← h1]
    unfold hasB
    by_cases h64 : (x.toNat : Int) < 64
    · rw [addN_lo h64]
      show (if j < 64 then bitB (setB _ (x.toNat : Int).toNat) j else if j < 128 then bitB _ (j - 64) else false) = _
      rw [Int.toNat_natCast]
      by_cases hj64 : j < 64
      · rw [if_pos hj64, if_pos hj64, bitB_setB _ _ _ (by omega)]
      · rw [if_neg hj64, if_neg hj64, decide_eq_false (show ¬ j = x.toNat by omega), Bool.or_false]
    · rw [addN_hi h64]
      show (if j < 64 then bitB _ j else if j < 128 then bitB (setB _ ((x.toNat : Int) - 64).toNat) (j - 64) else false) = _
      have e0 : ((x.toNat : Int) - 64).toNat = x.toNat - 64 := by omega
      rw [e0]
      by_cases hj64 : j < 64
      · rw [if_pos hj64, if_pos hj64, decide_eq_false (show ¬ j = x.toNat by omega), Bool.or_false]
      · rw [if_neg hj64, if_neg hj64, if_pos hj, if_pos hj, bitB_setB _ _ _ (by omega), show decide (j - 64 = x.toNat - 64) = decide (j = x.toNat) from decide_eq_decide.2 (by omega)]
theorem csetL_rise (a b : Int) : ((csetL a b).map UInt8.toNat).Pairwise (· < ·) ∧ (csetL a b).all low = true := by
  have e : (csetL a b).map UInt8.toNat = (List.range 128).filter (hasB a b) := by
    unfold csetL csetPre
    rw [List.map_map]
    conv => rhs; rw [← List.map_id ((List.range 128).filter (hasB a b))]
    apply List.map_congr_left
    intro k hk
    rw [List.mem_filter, List.mem_range] at hk
    simp; omega
  refine ⟨by rw [e]; exact List.pairwise_lt_range.filter _, ?_⟩
  rw [List.all_eq_true]
  intro x hx
  have : x.toNat ∈ (csetL a b).map UInt8.toNat := List.mem_map_of_mem hx
  rw [e, List.mem_filter, List.mem_range] at this
  simp only [low, decide_eq_true_eq]; omega
/-- The letters of a rising list's set, in their order, are the list. -/
theorem csetL_fold {l : List UInt8} (hp : (l.map UInt8.toNat).Pairwise (· < ·)) (hall : l.all low = true) : csetL (foldB l).1 (foldB l).2 = l := by
  have h1 : (List.range 128).filter (hasB (foldB l).1 (foldB l).2) = l.map UInt8.toNat := by
    have h2 := filt_rise 128 0 (l.map UInt8.toNat) hp (fun x hx => by
      obtain ⟨y, hy, rfl⟩ := List.mem_map.1 hx
      have := List.all_eq_true.1 hall y hy
      simp only [low, decide_eq_true_eq] at this; omega)
    rw [← List.range_eq_range'] at h2
    refine Eq.trans ?_ h2
    apply List.filter_congr
    intro k hk
    rw [List.mem_range] at hk
    exact fold_has l hall k hk
  unfold csetL csetPre
  rw [h1, List.map_map]
  conv => rhs; rw [← List.map_id l]
  apply List.map_congr_left
  intro k _
  simp
theorem okC_rise (s : ByteArray) : okC s ↔ (s.data.toList.map UInt8.toNat).Pairwise (· < ·) ∧ s.data.toList.all low = true := by
  have hz : s.data.toList.length = s.size := rfl
  have hg : ∀ j (h : j < s.size), s.data.toList[j]'(by omega) = s[j] := fun _ _ => rfl
  constructor
  · intro h
    have key : ∀ d i (hi : i + d + 1 < s.size), s[i].toNat < s[i + d + 1].toNat := by
      intro d
      induction d with
      | zero => intro i hi; have := (h (i + 1) hi).2 (by omega); simpa using this
      | succ d ih =>
        intro i hi
        have h1 := ih i (by omega)
        have h2 := (h (i + (d + 1) + 1) hi).2 (by omega)
        have e : i + (d + 1) + 1 - 1 = i + d + 1 := by omega
        simp only [e] at h2
        omega
    refine ⟨?_, ?_⟩
    · rw [List.pairwise_iff_getElem]
      intro i j hi hj hij
      simp only [List.length_map, hz] at hi hj
      simp only [List.getElem_map]
      rw [hg i hi, hg j hj]
      have := key (j - i - 1) i (by omega)
      have e : i + (j - i - 1) + 1 = j := by omega
      simp only [e] at this
      exact this
    · rw [List.all_eq_true]
      intro x hx
      obtain ⟨j, hj, rfl⟩ := List.getElem_of_mem hx
      have := (h j (by omega)).1
      simp only [low, decide_eq_true_eq]
      exact this
  · rintro ⟨hp, hall⟩ j hj
    refine ⟨?_, fun h0 => ?_⟩
    · have := List.all_eq_true.1 hall (s.data.toList[j]'(by omega)) (List.getElem_mem _)
      simp only [low, decide_eq_true_eq] at this
      exact this
    · rw [List.pairwise_iff_getElem] at hp
      have := hp (j - 1) j (by simp; omega) (by simp; omega) (by omega)
      simp only [List.getElem_map] at this
      exact this
/-- A text of rising letters, as the reference tells it. -/
theorem okC_ref (s : ByteArray) : decide (okC s) = ((newC s.data.toList).2 && decide (csetL (newC s.data.toList).1.1 (newC s.data.toList).1.2 = s.data.toList)) := by
  by_cases hall : s.data.toList.all low = true
  · rw [newC_yes hall, Bool.true_and]
    apply decide_eq_decide.2
    rw [okC_rise]
    constructor
    · rintro ⟨hp, _⟩; exact csetL_fold hp hall
    · intro h
      have := csetL_rise (foldB s.data.toList).1 (foldB s.data.toList).2
      simp only at h
      rw [h] at this
      exact this
  · rw [newC_no (by simpa using hall)]
    have : ¬ okC s := fun h => hall ((okC_rise s).1 h).2
    rw [decide_eq_false this]; rfl
end Go.Proofs.YtljblaglfooclaaGreatDoor
