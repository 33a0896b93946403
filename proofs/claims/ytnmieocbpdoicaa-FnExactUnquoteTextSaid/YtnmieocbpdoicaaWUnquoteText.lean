/- Proved here: the walk of the law FnExactUnquoteText: the call returns true and leaves all older memory as it was. Condition: the arguments are of their types. -/
import Derived.Test.YtnmieocbpdoicaaUs
namespace Go.Proofs.Ytnmieocbpdoicaa.lUnquoteText
open Go.RowKit

set_option maxHeartbeats 1000000 in
theorem walk (s : ByteArray) (hs : s.size ≤ maxLen) (w : World) : Calls Try.prog 9 #[.string s] w fun e w' => e = .returned (.bool true) ∧ Below w.heap.size w w' := by
  unfold maxLen at hs
  by_cases hbig : s.size ≤ 1048576
  · go_enter Try.func9, Try.ntmps9
    go_wp2_with (first
      | (go_at_call 34; refine (specUnquoteText _ hbig _).mono ?_; unfold uqE; rintro e w1 ⟨rfl, hb⟩)
      | (go_at_call 35; refine (implUnquoteText _ hbig _).mono ?_; unfold uqE; rintro e w2 ⟨rfl, hb2⟩))
    go_ret
    exact ⟨rfl, hb.trans (hb2.mono hb.size)⟩
  · go_enter Try.func9, Try.ntmps9
    go_wp2
    go_ret
    exact ⟨rfl, Below.refl _ _⟩

end Go.Proofs.Ytnmieocbpdoicaa.lUnquoteText
