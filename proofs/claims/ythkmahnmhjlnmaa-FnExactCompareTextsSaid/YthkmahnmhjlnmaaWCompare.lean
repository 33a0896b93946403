/- Proved here: the walk of the law FnExactCompareTexts: the call returns true and leaves all older memory as it was. Condition: the arguments are of their types. -/
import Derived.Test.YthkmahnmhjlnmaaCmp
namespace Go.Proofs.Ythkmahnmhjlnmaa.lCompare
open Go.RowKit

set_option maxHeartbeats 1000000 in
theorem walk (a : ByteArray) (ha : a.size ≤ maxLen) (b : ByteArray) (hb : b.size ≤ maxLen) (w : World) : Calls Try.prog 12 #[.string a, .string b] w fun e w' => e = .returned (.bool true) ∧ Below w.heap.size w w' := by
  unfold maxLen at ha hb
  by_cases h1 : a.size ≤ 1048576
  · by_cases h2 : b.size ≤ 1048576
    · go_enter Try.func12, Try.ntmps12
      go_wp2_with (first
        | (go_at_call 33; refine (specCompare _ _ h1 h2 _).mono ?_; rintro e w1 ⟨rfl, hb1⟩)
        | (go_at_call 34; refine (implCompare _ _ _).mono ?_; rintro e w' ⟨rfl, rfl⟩))
      go_ret
      exact ⟨rfl, hb1⟩
    · go_enter Try.func12, Try.ntmps12
      go_wp2
      go_ret
      exact ⟨rfl, Below.refl _ _⟩
  · go_enter Try.func12, Try.ntmps12
    go_wp2
    go_ret
    exact ⟨rfl, Below.refl _ _⟩

end Go.Proofs.Ythkmahnmhjlnmaa.lCompare
