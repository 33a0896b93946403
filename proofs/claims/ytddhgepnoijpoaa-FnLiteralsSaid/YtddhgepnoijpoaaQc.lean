/- Proved here: what QuoteCset returns, of the program and of the reference: the quoted elements. No condition. -/
import Derived.Test.YtddhgepnoijpoaaQt
import Derived.Test.YtddhgepnoijpoaaCt
namespace Go.Proofs.Ytddhgepnoijpoaa
open Go.RowKit

theorem csetTxt_small (a b : Int) : (⟨(csetL a b).toArray⟩ : ByteArray).size ≤ 1048576 := by
  have := csetPre_len a b 128
  show (csetPre a b 128).toArray.size ≤ _
  rw [List.size_toArray]; omega
theorem implQuoteCset (a b : Int) (w : World) : Calls Try.prog 16 #[cs a b] w fun e w' => e = .returned (txt (quoteL 39 (csetL a b))) ∧ Below w.heap.size w w' := by
  go_enter Try.func16, Try.ntmps16
  go_wp2_with (first
    | (go_at_call 27; refine (implCsetText a b _).mono ?_; rintro e w1 ⟨rfl, hb1⟩)
    | (go_at_call 26; refine (implQuote0 _ (csetTxt_small a b) 39 _).mono ?_; rintro e w2 ⟨rfl, hb2⟩))
  go_ret
  exact ⟨rfl, ((Below.refl w.heap.size w).alloc (Nat.le_refl _) _).trans ((hb1.mono (by simp)).trans (hb2.mono (by have := hb1.size; (try simp at this); omega)))⟩
end Go.Proofs.Ytddhgepnoijpoaa
