/- Proved here: the walk of the law FnExactFormatInt: the call returns true and leaves all older memory as it was. Condition: the arguments are of their types; the listed tables lie as listed. -/
import Derived.Test.YtddhgepnoijpoaaDoorFm
namespace Go.Proofs.YtddhgepnoijpoaaDoor.lFormatInt
open Go.RowKit

theorem walk (w : World) (hL : laidMetH Tryd.prog Rows.fnExactFormatIntRow.laid w) (n : Int) (hn : (Lit.int .i64 n).wf = true) : Calls Tryd.prog 6 #[.int .i64 n] w fun e w' => e = .returned (.bool true) ∧ Below w.heap.size w w' := by
  have h : -9223372036854775808 ≤ n ∧ n ≤ 9223372036854775807 := by
    have h' := hn
    simp [Lit.wf] at h'
    exact ⟨h'.1, h'.2⟩
  have ht := tabB hL
  clear hL hn
  obtain ⟨T, hT⟩ : ∃ T : ByteArray, T = ⟨(Lib.itoa n).toArray⟩ := ⟨_, rfl⟩
  have hI : ∀ W, Below w.heap.size w W → Calls Tryd.prog 19 #[.int .i64 n] W fun e w' => e = .returned (.string T) ∧ Below W.heap.size W w' := fun W hb => by rw [hT]; exact implFmt n h W (tab_kept ht hb)
  have hS : ∀ W, Calls Tryd.prog 18 #[.int .i64 n] W fun e w' => e = .returned (.string T) ∧ Below W.heap.size W w' := fun W => by rw [hT]; exact specFmt n h W
  clear hT ht h
  go_enter Tryd.func6, Tryd.ntmps6
  go_wp2_with (first
    | (go_at_call 18; refine (hS _).mono ?_; rintro e w1 ⟨rfl, hb1⟩)
    | (go_at_call 19; refine (hI _ hb1).mono ?_; rintro e w2 ⟨rfl, hb2⟩))
  go_ret
  exact ⟨rfl, hb1.trans (hb2.mono hb1.size)⟩

end Go.Proofs.YtddhgepnoijpoaaDoor.lFormatInt
