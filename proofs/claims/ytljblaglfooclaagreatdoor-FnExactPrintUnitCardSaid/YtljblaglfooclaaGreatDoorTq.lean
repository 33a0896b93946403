/- Proved here: how a token lies as a value, and what the law's small functions on tokens do. Condition: a text fits. -/
import Derived.Test.YtljblaglfooclaaGreatDoorHeld
import Derived.Test.YtljblaglfooclaaGreatDoorBase
import Derived.ChangeSame
import Derived.Lib.Hide
namespace Go.Proofs.YtljblaglfooclaaGreatDoor
open Go.RowKit

/-- A token as a value. -/
def tkV (k : Int) (t : ByteArray) (l : Int) : Value := .agg #[.int .i64 k, .string t, .int .i64 l]
theorem ret_s {a b : ByteArray} (h : a = b) : Ending.returned (.string a) = .returned (.string b) := by rw [h]
theorem ret_nat {a b : Nat} (h : a = b) : Ending.returned (.int .i64 (a : Int)) = .returned (.int .i64 (b : Int)) := by rw [h]
theorem growT {w W w' : World} (h : Below w.heap.size w W) (h1 : Below W.heap.size W w') : Below w.heap.size w w' := h.trans (h1.mono h.size)
end Go.Proofs.YtljblaglfooclaaGreatDoor
