/- Proved here: the walk of the law FnExactTrimText: the call returns true and leaves all older memory as it was. Condition: the arguments are of their types. -/
import Derived.Test.YtamdeplkkkodkaaTr
namespace Go.Proofs.Ytamdeplkkkodkaa.lTrim
open Go.RowKit

set_option maxHeartbeats 1000000 in
theorem walk (s : ByteArray) (hs : s.size ≤ maxLen) (a b : Int) (_ : (Lit.int .i64 a).wf = true) (_ : (Lit.int .i64 b).wf = true) (w : World) :
    Calls Try.prog 4 #[.string s, cs a b] w fun e w' => e = .returned (.bool true) ∧ Below w.heap.size w w' := by
  unfold maxLen at hs
  by_cases hbig : s.size ≤ 1048576
  · go_enter Try.func4, Try.ntmps4
    go_wp2_with (first
      | (go_at_call 18; refine (toCset _ _ _).mono ?_; rintro e w' ⟨rfl, rfl⟩)
      | (go_at_call 17; refine (specTrim _ hbig _ _ _).mono ?_; rintro e w1 ⟨rfl, hb1⟩; have d0 := kc1 (p := ⟨w.heap.size, 0, none⟩) (v := .int .i64 a) hb1 (by go_simp); have d1 := kc1 (p := ⟨w.heap.size, 1, none⟩) (v := .int .i64 b) hb1 (by go_simp); have hz : w.heap.size < w1.heap.size := (by have := hb1.size; simp at this; omega))
      | (go_at_call 19; refine (implTrim _ hbig _ _ _).mono ?_; rintro e w2 ⟨rfl, hb2⟩))
    go_ret
    refine ⟨rfl, Below.trans ?_ (hb2.mono (by simp; omega))⟩
    refine Below.trans (b := w1) (Below.trans ?_ (hb1.mono (by simp; omega))) ?_
    all_goals repeat (first | exact Below.refl _ _ | refine Below.setCell ?_ (by simp) _ | refine Below.alloc ?_ (by (try simp); try omega) _)
  · go_enter Try.func4, Try.ntmps4
    go_wp2
    go_ret
    exact ⟨rfl, by repeat (first | exact Below.refl _ _ | refine Below.alloc ?_ (by (try simp); try omega) _)⟩

end Go.Proofs.Ytamdeplkkkodkaa.lTrim
