/- Proved here: the walk of the law FnExactQuoteCset: the call returns true and leaves all older memory as it was. Condition: the arguments are of their types. -/
import Derived.Test.YtnmieocbpdoicaaQc
namespace Go.Proofs.Ytnmieocbpdoicaa.lQuoteCset
open Go.RowKit

set_option maxHeartbeats 1000000 in
theorem walk (a b : Int) (_ : (Lit.int .i64 a).wf = true) (_ : (Lit.int .i64 b).wf = true) (w : World) : Calls Try.prog 5 #[cs a b] w fun e w' => e = .returned (.bool true) ∧ Below w.heap.size w w' := by
  have hW : Below w.heap.size w (w.alloc (csB 37 a b)) := (Below.refl _ _).alloc (Nat.le_refl _) _
  go_enter Try.func5, Try.ntmps5
  go_wp2_with (first
    | (go_at_call 23; refine (toCset _ _ _).mono ?_; rintro e w' ⟨rfl, rfl⟩)
    | (go_at_call 22; refine (specQuoteCset _ _ _).mono ?_; rintro e w1 ⟨rfl, hb1⟩; have d0 := kc1 (p := ⟨w.heap.size, 0, none⟩) (v := .int .i64 a) hb1 (by go_simp); have d1 := kc1 (p := ⟨w.heap.size, 1, none⟩) (v := .int .i64 b) hb1 (by go_simp); have hz : w.heap.size < w1.heap.size := (by have := hb1.size; simp at this; omega))
    | (go_at_call 24; refine (implQuoteCset _ _ _).mono ?_; rintro e w2 ⟨rfl, hb2⟩))
  go_ret
  refine ⟨rfl, Below.trans ?_ (hb2.mono (by simp; omega))⟩
  refine Below.trans (b := w1) (Below.trans ?_ (hb1.mono (by simp; omega))) ?_
  all_goals repeat (first | exact Below.refl _ _ | refine Below.setCell ?_ (by simp) _ | refine Below.alloc ?_ (by (try simp); try omega) _)

end Go.Proofs.Ytnmieocbpdoicaa.lQuoteCset
