/- Proved here: the walk of the law FnExactRightText: the call returns true and leaves all older memory as it was. Condition: the arguments are of their types. -/
import Derived.Test.YthkmahnmhjlnmaaTx
namespace Go.Proofs.Ythkmahnmhjlnmaa.lRight
open Go.RowKit

set_option maxHeartbeats 1000000 in
theorem walk (s : ByteArray) (hs : s.size ≤ maxLen) (n : Int) (wn : (Lit.int .i64 n).wf = true) (b : Int) (wb : (Lit.int .u8 b).wf = true) (w : World) :
    Calls Try.prog 14 #[.string s, .int .i64 n, .int .u8 b] w fun e w' => e = .returned (.bool true) ∧ Below w.heap.size w w' := by
  unfold maxLen at hs
  have hn := int_bd wn
  have hb := u8_bd wb
  clear wn wb
  by_cases hbig : s.size ≤ 1048576
  · by_cases h1 : 0 ≤ n ∧ n ≤ 120
    · by_cases h2 : (s.size : Int) < n
      · go_enter Try.func14, Try.ntmps14
        go_wp2_with (first
          | (go_at_call 40; refine (specPad _ _ (by omega) hb _).mono ?_; rintro e w1 ⟨rfl, hb1⟩)
          | (go_at_call 41; refine (implPads _ _ (by omega) hb _).mono ?_; rintro e w2 ⟨rfl, hb2⟩)
          | go_in)
        go_ret
        exact ⟨rfl, hb1.trans (hb2.mono hb1.size)⟩
      · go_enter Try.func14, Try.ntmps14
        go_wp2
        all_goals
          go_ret
          exact ⟨rfl, Below.refl _ _⟩
    · go_enter Try.func14, Try.ntmps14
      go_wp2
      all_goals
        go_ret
        exact ⟨rfl, Below.refl _ _⟩
  · go_enter Try.func14, Try.ntmps14
    go_wp2
    go_ret
    exact ⟨rfl, Below.refl _ _⟩

end Go.Proofs.Ythkmahnmhjlnmaa.lRight
