/- Proved here: the walk of the law FnExactConstants: the call returns true and leaves all older memory as it was. Condition: the arguments are of their types. -/
import Derived.Test.YthkmahnmhjlnmaaBase
namespace Go.Proofs.Ythkmahnmhjlnmaa.lConstants
open Go.RowKit

set_option maxHeartbeats 1000000 in
theorem walk (w : World) : Calls Try.prog 3 #[] w fun e w' => e = .returned (.bool true) ∧ Below w.heap.size w w' := by
  go_enter Try.func3, Try.ntmps3
  go_wp2
  go_ret
  exact ⟨rfl, Below.refl _ _⟩

end Go.Proofs.Ythkmahnmhjlnmaa.lConstants
