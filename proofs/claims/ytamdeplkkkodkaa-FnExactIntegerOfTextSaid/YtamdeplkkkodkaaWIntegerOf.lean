/- Proved here: the walk of the law FnExactIntegerOfText: the call returns true and leaves all older memory as it was. Condition: the arguments are of their types. -/
import Derived.Test.YtamdeplkkkodkaaIo
namespace Go.Proofs.Ytamdeplkkkodkaa.lIntegerOf
open Go.RowKit

set_option maxHeartbeats 1000000 in
theorem walk (s : ByteArray) (hs : s.size ≤ maxLen) (w : World) : Calls Try.prog 12 #[.string s] w fun e w' => e = .returned (.bool true) ∧ Below w.heap.size w w' := by
  unfold maxLen at hs
  by_cases hbig : s.size ≤ 1048576
  · go_enter Try.func12, Try.ntmps12
    go_wp2_with (first
      | (go_at_call 35; refine (specIntegerOf _ hbig _).mono ?_; rintro e w' ⟨rfl, rfl⟩)
      | (go_at_call 36; refine (implIntegerOf _ hbig _).mono ?_; rintro e w' ⟨rfl, rfl⟩))
    go_ret
    exact ⟨rfl, Below.refl _ _⟩
  · go_enter Try.func12, Try.ntmps12
    go_wp2
    go_ret
    exact ⟨rfl, Below.refl _ _⟩

end Go.Proofs.Ytamdeplkkkodkaa.lIntegerOf
