/- Proved here: the walk of the law FnExactSectionOf: the call returns true and leaves all older memory as it was. Condition: the arguments are of their types. -/
import Derived.Test.YtamdeplkkkodkaaNo
namespace Go.Proofs.Ytamdeplkkkodkaa.lSection
open Go.RowKit

set_option maxHeartbeats 1000000 in
theorem walk (s : ByteArray) (hs : s.size ≤ maxLen) (i : Int) (wi : (Lit.int .i64 i).wf = true) (j : Int) (wj : (Lit.int .i64 j).wf = true) (w : World) :
    Calls Try.prog 6 #[.string s, .int .i64 i, .int .i64 j] w fun e w' => e = .returned (.bool true) ∧ Below w.heap.size w w' := by
  unfold maxLen at hs
  have hi := int_bd wi
  have hj := int_bd wj
  clear wi wj
  by_cases hbig : s.size ≤ 1048576
  · go_enter Try.func6, Try.ntmps6
    go_wp2_with (first
      | (go_at_call 22; refine (specSection _ hbig _ _ hi hj _).mono ?_; rintro e w' ⟨rfl, rfl⟩)
      | (go_at_call 23; refine (implSection _ hbig _ _ hi hj _).mono ?_; rintro e w' ⟨rfl, rfl⟩))
    go_ret
    exact ⟨rfl, Below.refl _ _⟩
  · go_enter Try.func6, Try.ntmps6
    go_wp2
    go_ret
    exact ⟨rfl, Below.refl _ _⟩

end Go.Proofs.Ytamdeplkkkodkaa.lSection
