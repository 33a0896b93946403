/- Proved here: the walk of the law FnExactHasByte: the call returns true and leaves all older memory as it was. Condition: the arguments are of their types. -/
import Derived.Test.YthkmahnmhjlnmaaHb
namespace Go.Proofs.Ythkmahnmhjlnmaa.lHasByte
open Go.RowKit

set_option maxHeartbeats 1000000 in
theorem walk (a b : Int) (_ : (Lit.int .i64 a).wf = true) (_ : (Lit.int .i64 b).wf = true) (n : Int) (wn : (Lit.int .u8 n).wf = true) (w : World) : Calls Try.prog 11 #[cs a b, .int .u8 n] w fun e w' => e = .returned (.bool true) ∧ Below w.heap.size w w' := by
  have hn := u8_bd wn
  clear wn
  go_enter Try.func11, Try.ntmps11
  go_wp2_with (first
    | (go_at_call 20; refine (toCset _ _ _).mono ?_; rintro e w' ⟨rfl, rfl⟩)
    | (go_at_call 31; refine (specHas _ _ _ hn _).mono ?_; rintro e w' ⟨rfl, rfl⟩)
    | (go_at_call 32; refine (implHas _ _ _ hn _).mono ?_; rintro e w' ⟨rfl, rfl⟩))
  go_outline
  go_ret
  exact ⟨rfl, by repeat (first | exact Below.refl _ _ | refine Below.setCell ?_ (by simp) _ | refine Below.alloc ?_ (by (try simp); try omega) _)⟩

end Go.Proofs.Ythkmahnmhjlnmaa.lHasByte
