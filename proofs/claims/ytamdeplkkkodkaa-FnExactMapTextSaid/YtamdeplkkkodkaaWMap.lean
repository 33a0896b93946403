/- Proved here: the walk of the law FnExactMapText: the call returns true and leaves all older memory as it was. Condition: the arguments are of their types. -/
import Derived.Test.YtamdeplkkkodkaaMp
namespace Go.Proofs.Ytamdeplkkkodkaa.lMap
open Go.RowKit

set_option maxHeartbeats 1000000 in
theorem walk (s : ByteArray) (hs : s.size ≤ maxLen) (f : ByteArray) (hf : f.size ≤ maxLen) (t : ByteArray) (ht : t.size ≤ maxLen) (w : World) : Calls Try.prog 5 #[.string s, .string f, .string t] w fun e w' => e = .returned (.bool true) ∧ Below w.heap.size w w' := by
  unfold maxLen at hs hf ht
  by_cases h1 : s.size ≤ 1048576
  · by_cases h2 : f.size ≤ 1048576
    · by_cases h3 : t.size ≤ 1048576
      · by_cases hft : f.size = t.size
        · have HFT := Lib.hid hft
          clear hft
          go_enter Try.func5, Try.ntmps5
          go_wp2_with (first
            | (go_at_call 20; refine (specMap _ _ _ h1 h2 HFT.out _).mono ?_; rintro e w1 ⟨rfl, hb⟩)
            | (go_at_call 21; refine (implMap _ _ _ h1 h2 HFT.out _).mono ?_; rintro e w2 ⟨rfl, hb2⟩))
          go_ret
          exact ⟨rfl, hb.trans (hb2.mono hb.size)⟩
        · have hbne : ((f.size : Int) != (t.size : Int)) = true := by rw [bne_iff_ne]; omega
          clear hft
          go_enter Try.func5, Try.ntmps5
          go_wp2
          go_ret
          exact ⟨rfl, Below.refl _ _⟩
      · go_enter Try.func5, Try.ntmps5
        go_wp2
        go_ret
        exact ⟨rfl, Below.refl _ _⟩
    · go_enter Try.func5, Try.ntmps5
      go_wp2
      go_ret
      exact ⟨rfl, Below.refl _ _⟩
  · go_enter Try.func5, Try.ntmps5
    go_wp2
    go_ret
    exact ⟨rfl, Below.refl _ _⟩

end Go.Proofs.Ytamdeplkkkodkaa.lMap
