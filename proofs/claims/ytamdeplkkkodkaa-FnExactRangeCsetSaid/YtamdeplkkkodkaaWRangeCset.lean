/- Proved here: the walk of the law FnExactRangeCset: the call returns true and leaves all older memory as it was. Condition: the arguments are of their types. -/
import Derived.Test.YtamdeplkkkodkaaNc
namespace Go.Proofs.Ytamdeplkkkodkaa.lRangeCset
open Go.RowKit

set_option maxHeartbeats 1000000 in
theorem walk (f : Int) (wf : (Lit.int .u8 f).wf = true) (t : Int) (wt : (Lit.int .u8 t).wf = true) (w : World) : Calls Try.prog 9 #[.int .u8 f, .int .u8 t] w fun e w' => e = .returned (.bool true) ∧ Below w.heap.size w w' := by
  have hf := u8_bd wf
  have ht := u8_bd wt
  clear wf wt
  go_enter Try.func9, Try.ntmps9
  go_wp2_with (first
    | (go_at_call 29; refine (specRange f t hf ht _).mono ?_; rintro e w1 ⟨rfl, hb1⟩)
    | (go_at_call 30; refine (implRange f t hf ht _).mono ?_; rintro e w2 ⟨rfl, hb2⟩; have d0 := kc1 (p := ⟨w1.heap.size, 0, none⟩) (v := .int .i64 (rangeC f t).1.1) hb2 (by go_simp); have d1 := kc1 (p := ⟨w1.heap.size, 1, none⟩) (v := .int .i64 (rangeC f t).1.2) hb2 (by go_simp); have hz : w1.heap.size < w2.heap.size := (by have := hb2.size; simp at this; omega))
    | (go_at_call 28; refine (eqCset _ _ _ _ _).mono ?_; rintro e w' ⟨rfl, rfl⟩))
  go_ret
  have hs1 := hb1.size
  refine ⟨rfl, ?_⟩
  refine Below.alloc (Below.alloc (Below.alloc ?_ (by omega) _) (by simp; omega) _) (by simp; omega) _
  exact hb1.trans (((Below.refl _ _).alloc (by omega) _).trans (hb2.mono (by simp; omega)))

end Go.Proofs.Ytamdeplkkkodkaa.lRangeCset
