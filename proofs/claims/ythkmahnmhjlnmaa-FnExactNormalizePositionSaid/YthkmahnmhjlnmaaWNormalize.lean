/- Proved here: the walk of the law FnExactNormalizePosition: the call returns true and leaves all older memory as it was. Condition: the arguments are of their types. -/
import Derived.Test.YthkmahnmhjlnmaaBase
namespace Go.Proofs.Ythkmahnmhjlnmaa.lNormalize
open Go.RowKit

set_option maxHeartbeats 1000000 in
theorem walk (p : Int) (wp : (Lit.int .i64 p).wf = true) (n : Int) (wn : (Lit.int .i64 n).wf = true) (w : World) : Calls Try.prog 10 #[.int .i64 p, .int .i64 n] w fun e w' => e = .returned (.bool true) ∧ Below w.heap.size w w' := by
  have hp := int_bd wp
  have hn := int_bd wn
  clear wp wn
  go_enter Try.func10, Try.ntmps10
  go_wp2
  go_ways
  all_goals
    go_ret
    exact ⟨rfl, Below.refl _ _⟩

end Go.Proofs.Ythkmahnmhjlnmaa.lNormalize
