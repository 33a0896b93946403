/- Proved here: the walk of the law FnExactReplicateText: the call returns true and leaves all older memory as it was. Condition: the arguments are of their types. -/
import Derived.Test.YtddhgepnoijpoaaRp
namespace Go.Proofs.Ytddhgepnoijpoaa.lReplicateText
open Go.RowKit

set_option maxHeartbeats 1000000 in
theorem walk (s : ByteArray) (hs : s.size ≤ maxLen) (n : Int) (hn : (Lit.int .i64 n).wf = true) (w : World) : Calls Try.prog 4 #[.string s, .int .i64 n] w fun e w' => e = .returned (.bool true) ∧ Below w.heap.size w w' := by
  unfold maxLen at hs
  by_cases hbig : s.size ≤ 1048576
  · have key : ∃ (u : ByteArray) (b : Bool), (∀ W, Calls Try.prog 9 #[.string s, .int .i64 n] W fun e w' => e = .returned (.tuple #[.string u, .bool b]) ∧ Below W.heap.size W w') ∧ (∀ W, Calls Try.prog 10 #[.string s, .int .i64 n] W fun e w' => e = .returned (.tuple #[.string u, .bool b]) ∧ Below W.heap.size W w') := by
      by_cases h : n < 0 ∨ 120 < s.size ∨ (0 < s.size ∧ 120 / (s.size : Int) < n)
      · exact ⟨_, _, specRepNo s hbig n h, implRepNo s hbig n h⟩
      · by_cases h0 : s.size = 0
        · exact ⟨_, _, specRepEmpty s h0 n (by omega), implRepEmpty s h0 n (by omega)⟩
        · obtain ⟨m, rfl⟩ : ∃ m : Nat, n = (m : Int) := ⟨n.toNat, by omega⟩
          exact ⟨_, _, specRepYes s (by omega) (by omega) m (by omega), implRepYes s (by omega) (by omega) m (by omega)⟩
    obtain ⟨u, b, hS, hI⟩ := key
    clear hn
    go_enter Try.func4, Try.ntmps4
    go_wp2_with (first
      | (go_at_call 9; refine (hS _).mono ?_; rintro e w1 ⟨rfl, hb1⟩)
      | (go_at_call 10; refine (hI _).mono ?_; rintro e w2 ⟨rfl, hb2⟩))
    all_goals
      go_ret
      exact ⟨rfl, hb1.trans (hb2.mono hb1.size)⟩
  · go_enter Try.func4, Try.ntmps4
    go_wp2
    go_ret
    exact ⟨rfl, Below.refl _ _⟩

end Go.Proofs.Ytddhgepnoijpoaa.lReplicateText
