/- Proved here: what the reference's draws of a text and of a set for literals give; two sets compared. Condition: the code's bytes can be read. -/
import Derived.Test.YtanmkeoieckebaaDoorDc
namespace Go.Proofs.YtanmkeoieckebaaDoor
open Go.RowKit

theorem CodeAt.kept {w W : World} {A : Option Addr} {n : Nat} (h : CodeAt w A n) (hb : Below w.heap.size w W) : CodeAt W A n := by
  refine ⟨h.1, fun h0 => ?_⟩
  obtain ⟨b, o, e, hlt, hx⟩ := h.2 h0
  refine ⟨b, o, e, Nat.lt_of_lt_of_le hlt hb.size, fun k hk => ?_⟩
  obtain ⟨x, hx⟩ := hx k hk
  exact ⟨x, (hb.cell (p := ⟨b, o + k, none⟩) hlt).trans hx⟩
/-- The two sets compared by '=='. -/
theorem eqGuardCs : Tryd.prog.eqGuardType Tryd.prog.depth 100 = false := by kernel_rfl
theorem eqlCs (a b c d : Int) (w : World) : (Op.equalIn 10000 100 (.agg #[.int .i64 a, .int .i64 b]) (.agg #[.int .i64 c, .int .i64 d])).run Tryd.prog w = .ok (a == c && b == d) w := by
  have hS : Tryd.prog.underlying 100 = some (.struct (Tryd.prog.fieldsOf 100)) := by kernel_rfl
  have hp : Tryd.prog.stoodInHeld 100 = false := by kernel_rfl
  rw [show (10000 : Nat) = 9999 + 1 from rfl, run_equalIn_agg w 9999 100 _ _ hS hp]
  simp only [Program.fieldsOf, Tryd.underlying100]
  go_simp
  by_cases h1 : a = c <;> by_cases h2 : b = d <;> simp [h1, h2]
set_option maxHeartbeats 4000000 in
theorem l4Text (g : Nat) (w : World) (hc : Cur w g) : Calls Tryd.prog 152 #[.pointer (some ⟨g, 0, none⟩)] w (TextP W130 g w) := by
  go_enter Tryd.func152, Tryd.ntmps152
  go_wp2_with (go_at_call 84; refine Calls.mono (l1PickLit sz12 rfl hc (by decide) rfl (by omega) (by omega)) ?_; rintro e w1 ⟨t, ht, rfl, hc1, hg1⟩; have hts : t.size ≤ 12 := (by simpa [sz12] using ht); clear ht)
  go_ret
  exact textP_of (by omega) hc1 (only_trans (only_alloc (only_refl w (some g)) _) hg1)
end Go.Proofs.YtanmkeoieckebaaDoor
