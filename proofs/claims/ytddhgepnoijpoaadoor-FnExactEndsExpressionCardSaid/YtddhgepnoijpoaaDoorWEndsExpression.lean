/- Proved here: the walk of the law FnExactEndsExpression: the call returns true and leaves all older memory as it was. Condition: the arguments are of their types; the listed tables lie as listed. -/
import Derived.Test.YtddhgepnoijpoaaDoorBe
namespace Go.Proofs.YtddhgepnoijpoaaDoor.lEndsExpression
open Go.RowKit

set_option maxHeartbeats 2000000 in
theorem walk (w : World) (hL : laidMetH Tryd.prog Rows.fnExactEndsExpressionRow.laid w) (k : Int) (t : ByteArray) (l : Int) (ht : t.size ≤ maxLen) : Calls Tryd.prog 9 #[tkV k t l] w fun e w' => e = .returned (.bool true) ∧ Below w.heap.size w w' := by
  unfold maxLen at ht
  have hTab := tabA hL
  clear hL
  by_cases hbig : t.size ≤ 1048576
  · have hZ := szTk_yes k t l hbig (Nat.le_refl _)
    have hS := specEnd k t l
    have hI : ∀ W, Below w.heap.size w W → Calls Tryd.prog 27 #[tkV k t l] W fun e w' => e = .returned (.bool (rEnd k t)) ∧ Below W.heap.size W w' := fun W hb => implEnd k t l W (tab_kept hTab hb)
    have hT := toTk k t l
    obtain ⟨m, hm⟩ : ∃ m, m = 1048576 - t.size := ⟨_, rfl⟩
    rw [← hm] at hZ
    have b0 : decide ((m : Int) < 0) = false := by simp
    obtain ⟨x, hx⟩ : ∃ x, x = rEnd k t := ⟨_, rfl⟩
    rw [← hx] at hS hI
    clear hm hx hTab
    unfold tkV at *
    have hbb : Below w.heap.size w w := Below.refl _ _
    have hzz := hbb.size
    go_enter Tryd.func9, Tryd.ntmps9
    go_wp2_with (first
      | (go_at_call 22; refine (hZ _).mono ?_; rintro e w1 ⟨rfl, hb1⟩; have hbb := growT (w := w) (by repeat (first | exact hbb | refine Below.drew ?_ | refine Below.setCell ?_ (by (try simp); try omega) _ | refine Below.alloc ?_ (by (try simp); try omega) _)) hb1; have hzz := hbb.size; have d0 := kc1 (p := ⟨w.heap.size, 0, none⟩) (v := .int .i64 k) hb1 (by go_simp); have d1 := kc1 (p := ⟨w.heap.size, 1, none⟩) (v := .string t) hb1 (by go_simp); have d2 := kc1 (p := ⟨w.heap.size, 2, none⟩) (v := .int .i64 l) hb1 (by go_simp))
      | (go_at_call 24; refine (hT _).mono ?_; rintro e w1 ⟨rfl, hb1⟩; have hbb := growT (w := w) (by repeat (first | exact hbb | refine Below.drew ?_ | refine Below.setCell ?_ (by (try simp); try omega) _ | refine Below.alloc ?_ (by (try simp); try omega) _)) hb1; have hzz := hbb.size; have d0 := kc1 hb1 d0; have d1 := kc1 hb1 d1; have d2 := kc1 hb1 d2)
      | (go_at_call 26; refine (hS _).mono ?_; rintro e w1 ⟨rfl, hb1⟩; have hbb := growT (w := w) (by repeat (first | exact hbb | refine Below.drew ?_ | refine Below.setCell ?_ (by (try simp); try omega) _ | refine Below.alloc ?_ (by (try simp); try omega) _)) hb1; have hzz := hbb.size; have d0 := kc1 hb1 d0; have d1 := kc1 hb1 d1; have d2 := kc1 hb1 d2)
      | (go_at_call 27; refine (hI _ (by repeat (first | exact hbb | refine Below.drew ?_ | refine Below.setCell ?_ (by (try simp); try omega) _ | refine Below.alloc ?_ (by (try simp); try omega) _))).mono ?_; rintro e w1 ⟨rfl, hb1⟩; have hbb := growT (w := w) (by repeat (first | exact hbb | refine Below.drew ?_ | refine Below.setCell ?_ (by (try simp); try omega) _ | refine Below.alloc ?_ (by (try simp); try omega) _)) hb1; have hzz := hbb.size))
    go_ret
    exact ⟨rfl, hbb⟩
  · have hZ := szTk_not k t l hbig (Nat.le_refl _) (by omega)
    clear hTab
    unfold tkV at *
    go_enter Tryd.func9, Tryd.ntmps9
    go_wp2_with (go_at_call 22; refine (hZ _).mono ?_; rintro e w1 ⟨rfl, hb1⟩)
    go_ret
    exact ⟨rfl, growT (by repeat (first | exact Below.refl _ _ | refine Below.drew ?_ | refine Below.setCell ?_ (by (try simp); try omega) _ | refine Below.alloc ?_ (by (try simp); try omega) _)) hb1⟩

end Go.Proofs.YtddhgepnoijpoaaDoor.lEndsExpression
