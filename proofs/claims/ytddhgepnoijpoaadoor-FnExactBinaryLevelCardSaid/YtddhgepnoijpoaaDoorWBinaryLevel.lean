/- Proved here: the walk of the law FnExactBinaryLevel: the call returns true and leaves all older memory as it was. Condition: the arguments are of their types; the listed tables lie as listed. -/
import Derived.Test.YtddhgepnoijpoaaDoorBl
namespace Go.Proofs.YtddhgepnoijpoaaDoor.lBinaryLevel
open Go.RowKit

theorem walk (w : World) (hL : laidMetH Tryd.prog Rows.fnExactBinaryLevelRow.laid w) (s : ByteArray) (hs : s.size ≤ maxLen) : Calls Tryd.prog 7 #[.string s] w fun e w' => e = .returned (.bool true) ∧ Below w.heap.size w w' := by
  unfold maxLen at hs
  have ht := tabA hL
  clear hL
  have hI : ∀ W, Below w.heap.size w W → Calls Tryd.prog 21 #[.string s] W fun e w' => e = .returned (.int .i64 (lvl s zzB 0 : Nat)) ∧ Below W.heap.size W w' := fun W hb => implLevel s W (tab_kept ht hb)
  have hS := specLevel s
  generalize lvl s zzB 0 = r at *
  clear ht
  go_enter Tryd.func7, Tryd.ntmps7
  by_cases hbig : s.size ≤ 1048576
  · go_wp2_with (first
      | (go_at_call 20; refine (hS _).mono ?_; rintro e w1 ⟨rfl, hb1⟩)
      | (go_at_call 21; refine (hI _ hb1).mono ?_; rintro e w2 ⟨rfl, hb2⟩))
    all_goals
      go_ret
      exact ⟨rfl, hb1.trans (hb2.mono hb1.size)⟩
  · go_wp2
    go_ret
    exact ⟨rfl, Below.refl _ _⟩

end Go.Proofs.YtddhgepnoijpoaaDoor.lBinaryLevel
