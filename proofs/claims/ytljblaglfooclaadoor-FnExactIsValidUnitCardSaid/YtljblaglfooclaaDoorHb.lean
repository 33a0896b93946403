/- Proved here: what HasByte returns: the bit of the set. No condition. -/
import Derived.Test.YtljblaglfooclaaDoorCs
import Derived.Test.YtljblaglfooclaaDoorBits
namespace Go.Proofs.YtljblaglfooclaaDoor
open Go.RowKit
theorem ret_bool {a b : Bool} (h : a = b) : Ending.returned (.bool a) = .returned (.bool b) := by rw [h]
set_option maxHeartbeats 400000 in
theorem specHas (a b n : Int) (hn : 0 ≤ n ∧ n ≤ 255) (w : World) : Calls Tryd.prog 65 #[cs a b, .int .u8 n] w fun e w' => e = .returned (.bool (hasB a b n.toNat)) ∧ w.alloc (csB 83 a b) = w' := by
  by_cases h1 : n < 64
  · go_enter Tryd.func65, Tryd.ntmps65
    go_wp2
    go_ret
    exact ⟨ret_bool (by unfold hasB; rw [if_pos (by omega)]; exact mask_bit _ _ (by omega)), rfl⟩
  · by_cases h2 : n < 128
    · go_enter Tryd.func65, Tryd.ntmps65
      go_wp2
      go_ret
      exact ⟨ret_bool (by unfold hasB; rw [if_neg (by omega), if_pos (by omega), show n.toNat - 64 = (n - 64).toNat from by omega]; exact mask_bit _ _ (by omega)), rfl⟩
    · go_enter Tryd.func65, Tryd.ntmps65
      go_wp2
      go_ret
      exact ⟨ret_bool (by unfold hasB; rw [if_neg (by omega), if_neg (by omega)]), rfl⟩
end Go.Proofs.YtljblaglfooclaaDoor
