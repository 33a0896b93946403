/- Proved here: the walk of the law FnExactParseInt: the call returns true and leaves all older memory as it was. Condition: the arguments are of their types. -/
import Derived.Test.YtamdeplkkkodkaaPn
namespace Go.Proofs.Ytamdeplkkkodkaa.lParseInt
open Go.RowKit

set_option maxHeartbeats 1000000 in
theorem walk (s : ByteArray) (hs : s.size ≤ maxLen) (w : World) : Calls Try.prog 14 #[.string s] w fun e w' => e = .returned (.bool true) ∧ Below w.heap.size w w' := by
  unfold maxLen at hs
  by_cases hbig : s.size ≤ 1048576
  · go_enter Try.func14, Try.ntmps14
    go_wp2_with (first
      | (go_at_call 42; refine (specParseInt _ hbig _).mono ?_; rintro e w' ⟨rfl, hb⟩)
      | (go_at_call 43; refine (implParseInt _ hbig _).mono ?_; rintro e w' ⟨rfl, rfl⟩))
    go_ret
    exact ⟨rfl, hb⟩
  · go_enter Try.func14, Try.ntmps14
    go_wp2
    go_ret
    exact ⟨rfl, Below.refl _ _⟩

end Go.Proofs.Ytamdeplkkkodkaa.lParseInt
