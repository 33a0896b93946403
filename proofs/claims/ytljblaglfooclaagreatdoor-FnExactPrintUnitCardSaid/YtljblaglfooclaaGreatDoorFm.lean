/- Proved here: what FormatInt gives, of the program and of the reference: the decimal form. Condition: the listed table of powers lies in memory (the program's form alone). -/
import Derived.Test.YtljblaglfooclaaGreatDoorFi
import Derived.Test.YtljblaglfooclaaGreatDoorCd
import Derived.Test.YtljblaglfooclaaGreatDoorSh
namespace Go.Proofs.YtljblaglfooclaaGreatDoor
open Go.RowKit Go.Sort

/-- New blocks behind the heap leave all older memory as it was. -/
theorem below_new (w : World) (k : Nat) (os : Array Obj) : Below w.heap.size w (grow (w.drewN k) os) :=
  ⟨rfl, rfl, rfl, by simp [grow], fun i hi => by
    show (w.heap ++ os)[i]? = w.heap[i]?
    rw [Array.getElem?_append_left hi]⟩
/-- The decimal form of a number. -/
abbrev itoaT (n : Int) : Value := txt (Lib.itoa n)
theorem specFmtZero (w : World) : Calls Tryz.prog 48 #[.int .i64 0] w fun e w' => e = .returned (txt [48]) ∧ Below w.heap.size w w' := by
  go_enter Tryz.func48, Tryz.ntmps48
  go_wp2
  go_ret
  exact ⟨rfl, Below.refl _ _⟩
theorem specFmt (n : Int) (h : -9223372036854775808 ≤ n ∧ n ≤ 9223372036854775807) (w : World) : Calls Tryz.prog 48 #[.int .i64 n] w fun e w' => e = .returned (itoaT n) ∧ Below w.heap.size w w' := by
  rcases Int.lt_trichotomy n 0 with hn | rfl | hn
  · obtain ⟨m, rfl⟩ : ∃ m : Nat, n = -(m : Int) := ⟨(-n).toNat, by omega⟩
    have := specFmtNeg m (by omega) (by omega) w
    rw [itoaT, fmt_neg m (by omega)]
    exact this
  · have : Lib.itoa 0 = [48] := by simp [Lib.itoa, Lib.decDigits]
    rw [itoaT, this]
    exact specFmtZero w
  · obtain ⟨m, rfl⟩ : ∃ m : Nat, n = (m : Int) := ⟨n.toNat, by omega⟩
    have := specFmtPos m (by omega) (by omega) w
    rw [itoaT, fmt_pos m (by omega)]
    exact this
theorem implFmt (n : Int) (h : -9223372036854775808 ≤ n ∧ n ≤ 9223372036854775807) (w : World) (ht : Lib.TabIs Tryz.prog w "internal/strconv.uint64pow10" .u64 Lib.pow10Tab) :
    Calls Tryz.prog 64 #[.int .i64 n] w fun e w' => e = .returned (itoaT n) ∧ Below w.heap.size w w' := by
  have hI := Tryz.strconv_Itoa n h.1 h.2 w ht
  go_enter Tryz.func64, Tryz.ntmps64
  go_wp2_with (go_at_call 89; refine hI.mono ?_; rintro e w' ⟨rfl, k, os, rfl⟩)
  go_ret
  exact ⟨rfl, below_new _ _ _⟩
end Go.Proofs.YtljblaglfooclaaGreatDoor
