/- Proved here: the walk of the law FnExactIsName: the call returns true and leaves all older memory as it was. Condition: the arguments are of their types; the listed tables lie as listed. -/
import Derived.Test.YtddhgepnoijpoaaDoorNm
namespace Go.Proofs.YtddhgepnoijpoaaDoor.lIsName
open Go.RowKit

theorem walk (w : World) (hL : laidMetH Tryd.prog Rows.fnExactIsNameRow.laid w) (s : ByteArray) (hs : s.size ≤ maxLen) : Calls Tryd.prog 10 #[.string s] w fun e w' => e = .returned (.bool true) ∧ Below w.heap.size w w' := by
  unfold maxLen at hs
  have ht := tabA hL
  clear hL
  by_cases hbig : s.size ≤ 1048576
  · have hI : ∀ W, Below w.heap.size w W → Calls Tryd.prog 29 #[.string s] W fun e w' => e = .returned (.bool (nameB s)) ∧ Below W.heap.size W w' := fun W hb => implName s hbig W (tab_kept ht hb)
    have hS := specName s hbig
    generalize nameB s = r at *
    clear ht
    go_enter Tryd.func10, Tryd.ntmps10
    go_wp2_with (first
      | (go_at_call 28; refine (hS _).mono ?_; rintro e w1 ⟨rfl, hb1⟩)
      | (go_at_call 29; refine (hI _ hb1).mono ?_; rintro e w2 ⟨rfl, hb2⟩))
    all_goals
      go_ret
      exact ⟨rfl, hb1.trans (hb2.mono hb1.size)⟩
  · clear ht
    go_enter Tryd.func10, Tryd.ntmps10
    go_wp2
    go_ret
    exact ⟨rfl, Below.refl _ _⟩

end Go.Proofs.YtddhgepnoijpoaaDoor.lIsName
