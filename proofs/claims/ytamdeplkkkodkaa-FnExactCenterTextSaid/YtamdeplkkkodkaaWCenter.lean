/- Proved here: the walk of the law FnExactCenterText: the call returns true and leaves all older memory as it was. Condition: the arguments are of their types. -/
import Derived.Test.YtamdeplkkkodkaaTx
namespace Go.Proofs.Ytamdeplkkkodkaa.lCenter
open Go.RowKit

set_option maxHeartbeats 2000000 in
theorem walk (s : ByteArray) (hs : s.size ≤ maxLen) (n : Int) (wn : (Lit.int .i64 n).wf = true) (b : Int) (wb : (Lit.int .u8 b).wf = true) (w : World) :
    Calls Try.prog 3 #[.string s, .int .i64 n, .int .u8 b] w fun e w' => e = .returned (.bool true) ∧ Below w.heap.size w w' := by
  unfold maxLen at hs
  have hn := int_bd wn
  have hb := u8_bd wb
  have hW := Below.refl w.heap.size w
  clear wn wb
  by_cases hbig : s.size ≤ 1048576
  · by_cases h1 : 0 ≤ n ∧ n ≤ 120
    · by_cases h2 : (s.size : Int) < n
      · go_enter Try.func3, Try.ntmps3
        go_wp2_with (first
          | (go_at_call 44; refine (specPad _ _ (by omega) hb _).mono ?_; rintro e w1 ⟨rfl, hb1⟩; replace hW := hW.trans (hb1.mono hW.size); clear hb1)
          | (go_at_call 45; refine (implPads _ _ (by omega) hb _).mono ?_; rintro e w1 ⟨rfl, hb1⟩; replace hW := hW.trans (hb1.mono hW.size); clear hb1)
          | go_in)
        go_ret
        exact ⟨rfl, hW⟩
      · go_enter Try.func3, Try.ntmps3
        go_wp2
        all_goals
          go_ret
          exact ⟨rfl, Below.refl _ _⟩
    · go_enter Try.func3, Try.ntmps3
      go_wp2
      all_goals
        go_ret
        exact ⟨rfl, Below.refl _ _⟩
  · go_enter Try.func3, Try.ntmps3
    go_wp2
    go_ret
    exact ⟨rfl, Below.refl _ _⟩

end Go.Proofs.Ytamdeplkkkodkaa.lCenter
