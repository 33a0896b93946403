/- Proved here: the walk of the law FnExactUnquoteCset: the call returns true and leaves all older memory as it was. Condition: the arguments are of their types. -/
import Derived.Test.YtddhgepnoijpoaaUc
namespace Go.Proofs.Ytddhgepnoijpoaa.lUnquoteCset
open Go.RowKit

set_option maxHeartbeats 1000000 in
theorem walk (s : ByteArray) (hs : s.size ≤ maxLen) (w : World) : Calls Try.prog 3 #[.string s] w fun e w' => e = .returned (.bool true) ∧ Below w.heap.size w w' := by
  unfold maxLen at hs
  by_cases hbig : s.size ≤ 1048576
  · have hS := fun W => specUnquoteCset s hbig W
    have hI := fun W => implUnquoteCset s hbig W
    generalize (ucC (unqL 39 s.data.toList)).1.1 = a at hS hI
    generalize (ucC (unqL 39 s.data.toList)).1.2 = b at hS hI
    generalize (ucC (unqL 39 s.data.toList)).2 = ok at hS hI
    go_enter Try.func3, Try.ntmps3
    go_wp2_with (first
      | (go_at_call 6; refine (hS _).mono ?_; rintro e w1 ⟨rfl, hb1⟩)
      | (go_at_call 7; refine (hI _).mono ?_; rintro e w2 ⟨rfl, hb2⟩; have d0 := kc1 (p := ⟨w1.heap.size, 0, none⟩) (v := .int .i64 a) hb2 (by go_simp); have d1 := kc1 (p := ⟨w1.heap.size, 1, none⟩) (v := .int .i64 b) hb2 (by go_simp); have hz : w1.heap.size < w2.heap.size := (by have := hb2.size; simp at this; omega))
      | (go_at_call 8; refine (eqCset _ _ _ _ _).mono ?_; rintro e w' ⟨rfl, rfl⟩))
    go_ret
    have hs1 := hb1.size
    refine ⟨rfl, ?_⟩
    refine Below.alloc (Below.alloc (Below.alloc ?_ (by omega) _) (by simp; omega) _) (by simp; omega) _
    exact hb1.trans (((Below.refl _ _).alloc (by omega) _).trans (hb2.mono (by simp; omega)))
  · go_enter Try.func3, Try.ntmps3
    go_wp2
    go_ret
    exact ⟨rfl, Below.refl _ _⟩

end Go.Proofs.Ytddhgepnoijpoaa.lUnquoteCset
