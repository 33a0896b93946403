/- Proved here: what withByte and the reference's l2Add return: the set with one byte more. Condition: the byte is below 128. -/
import Derived.Test.YtljblaglfooclaaDoorHb
namespace Go.Proofs.YtljblaglfooclaaDoor
open Go.RowKit
theorem ret_cs {a b c d : Int} (h1 : a = c) (h2 : b = d) : Ending.returned (cs a b) = .returned (cs c d) := by rw [h1, h2]
set_option maxHeartbeats 400000 in
theorem specWith (a b n : Int) (hn : 0 ≤ n ∧ n ≤ 127) (w : World) : Calls Tryd.prog 64 #[cs a b, .int .u8 n] w fun e w' => e = .returned (cs (addN a b n).1 (addN a b n).2) ∧ Below w.heap.size w w' := by
  by_cases h1 : n < 64
  · have H := Lib.hid (addN_lo (a := a) (b := b) h1)
    go_enter Tryd.func64, Tryd.ntmps64
    go_wp2
    exact bodyPost_ret (v := cs (bits .or .i64 a (wrap64 (2 ^ n.toNat))) b) (by simp [results, Tryd.results64, go_sem]) rfl ⟨by rw [H.out]; exact ret_cs (or_i _ _) rfl, by repeat (first | exact Below.refl _ _ | refine Below.setCell ?_ (by simp) _ | refine Below.alloc ?_ (by (try simp); try omega) _)⟩
  · have H := Lib.hid (addN_hi (a := a) (b := b) h1)
    go_enter Tryd.func64, Tryd.ntmps64
    go_wp2
    exact bodyPost_ret (v := cs a (bits .or .i64 b (wrap64 (2 ^ (n - 64).toNat)))) (by simp [results, Tryd.results64, go_sem]) rfl ⟨by rw [H.out]; exact ret_cs rfl (or_i _ _), by repeat (first | exact Below.refl _ _ | refine Below.setCell ?_ (by simp) _ | refine Below.alloc ?_ (by (try simp); try omega) _)⟩
end Go.Proofs.YtljblaglfooclaaDoor
