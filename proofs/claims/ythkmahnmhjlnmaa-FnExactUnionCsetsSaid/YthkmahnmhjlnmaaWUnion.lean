/- Proved here: the walk of the law FnExactUnionCsets: the call returns true and leaves all older memory as it was. Condition: the arguments are of their types. -/
import Derived.Test.YthkmahnmhjlnmaaCs
import Derived.Test.YthkmahnmhjlnmaaHeld
namespace Go.Proofs.Ythkmahnmhjlnmaa.lUnion
open Go.RowKit

set_option maxHeartbeats 4000000 in
theorem walk (a b : Int) (_ : (Lit.int .i64 a).wf = true) (_ : (Lit.int .i64 b).wf = true) (c d : Int) (_ : (Lit.int .i64 c).wf = true) (_ : (Lit.int .i64 d).wf = true) (w : World) : Calls Try.prog 9 #[cs a b, cs c d] w fun e w' => e = .returned (.bool true) ∧ Below w.heap.size w w' := by
  have c0 : ((w.alloc (.cells #[.int .i64 a, .int .i64 b] 29)).alloc (.cells #[.int .i64 c, .int .i64 d] 29)).cell? ⟨w.heap.size, 0, none⟩ = some (.int .i64 a) := by go_simp
  have c1 : ((w.alloc (.cells #[.int .i64 a, .int .i64 b] 29)).alloc (.cells #[.int .i64 c, .int .i64 d] 29)).cell? ⟨w.heap.size, 1, none⟩ = some (.int .i64 b) := by go_simp
  have c2 : ((w.alloc (.cells #[.int .i64 a, .int .i64 b] 29)).alloc (.cells #[.int .i64 c, .int .i64 d] 29)).cell? ⟨w.heap.size + 1, 0, none⟩ = some (.int .i64 c) := by go_simp
  have c3 : ((w.alloc (.cells #[.int .i64 a, .int .i64 b] 29)).alloc (.cells #[.int .i64 c, .int .i64 d] 29)).cell? ⟨w.heap.size + 1, 1, none⟩ = some (.int .i64 d) := by go_simp
  go_enter Try.func9, Try.ntmps9
  go_wp2
  go_cut [5] (fun s wx => ∃ g : Nat, s = .pointer (some ⟨g, 0, none⟩) ∧ w.heap.size + 2 ≤ g ∧ g < wx.heap.size ∧ wx.cell? ⟨g, 0, none⟩ = some (.int .i64 (bits .or .i64 a c)) ∧ wx.cell? ⟨g, 1, none⟩ = some (.int .i64 (bits .or .i64 b d)) ∧ wx.cell? ⟨w.heap.size, 0, none⟩ = some (.int .i64 a) ∧ wx.cell? ⟨w.heap.size, 1, none⟩ = some (.int .i64 b) ∧ wx.cell? ⟨w.heap.size + 1, 0, none⟩ = some (.int .i64 c) ∧ wx.cell? ⟨w.heap.size + 1, 1, none⟩ = some (.int .i64 d) ∧ Below w.heap.size w wx)
  case first =>
    go_region_held3 (fun w' => w'.cell? ⟨w.heap.size, 0, none⟩ = some (.int .i64 a) ∧ w'.cell? ⟨w.heap.size, 1, none⟩ = some (.int .i64 b) ∧ w'.cell? ⟨w.heap.size + 1, 0, none⟩ = some (.int .i64 c) ∧ w'.cell? ⟨w.heap.size + 1, 1, none⟩ = some (.int .i64 d)) ((refine kc4 ?_ c0 c1 c2 c3; repeat (first | exact Below.refl _ _ | refine Below.setCell ?_ (by (try simp); try omega) _ | refine Below.drew ?_ | refine Below.alloc ?_ (by (try simp); try omega) _)))
      (first | (go_at_call 20; refine (toCset _ _ _).mono ?_; rintro e w' ⟨rfl, rfl⟩) | (go_at_call 27; refine (specUnion _ _ _ _ _).mono ?_; rintro e w' ⟨rfl, rfl⟩))
    all_goals
      go_wp2_with fail
      go_meet
      exact ⟨_, rfl, by simp; try omega, by simp; try omega, by go_simp, by go_simp, by go_simp, by go_simp, by go_simp, by go_simp, by repeat (first | exact Below.refl _ _ | refine Below.setCell ?_ (by (try simp); try omega) _ | refine Below.drew ?_ | refine Below.alloc ?_ (by (try simp); try omega) _)⟩
  case rest =>
    clear c0 c1 c2 c3
    obtain ⟨g, rfl, hg1, hg2, g0, g1, c0, c1, c2, c3, hb⟩ := hcut
    have z0 : w.heap.size < wc.heap.size := by omega
    have z1 : w.heap.size + 1 < wc.heap.size := by omega
    go_wp2
    go_cut [6] (fun s wx => ∃ g' : Nat, s = .pointer (some ⟨g', 0, none⟩) ∧ g' < wx.heap.size ∧ wx.cell? ⟨g', 0, none⟩ = some (.int .i64 (bits .or .i64 a c)) ∧ wx.cell? ⟨g', 1, none⟩ = some (.int .i64 (bits .or .i64 b d)) ∧ wx.cell? ⟨g, 0, none⟩ = some (.int .i64 (bits .or .i64 a c)) ∧ wx.cell? ⟨g, 1, none⟩ = some (.int .i64 (bits .or .i64 b d)) ∧ g < wx.heap.size ∧ Below w.heap.size w wx)
    case first =>
      go_region_held3 (fun w' => w'.cell? ⟨w.heap.size, 0, none⟩ = some (.int .i64 a) ∧ w'.cell? ⟨w.heap.size, 1, none⟩ = some (.int .i64 b) ∧ w'.cell? ⟨w.heap.size + 1, 0, none⟩ = some (.int .i64 c) ∧ w'.cell? ⟨w.heap.size + 1, 1, none⟩ = some (.int .i64 d)) ((refine kc4 ?_ c0 c1 c2 c3; repeat (first | exact Below.refl _ _ | refine Below.setCell ?_ (by (try simp); try omega) _ | refine Below.drew ?_ | refine Below.alloc ?_ (by (try simp); try omega) _)))
        (first | (go_at_call 20; refine (toCset _ _ _).mono ?_; rintro e w' ⟨rfl, rfl⟩) | (go_at_call 28; refine (implUnion _ _ _ _ _).mono ?_; rintro e w' ⟨rfl, rfl⟩))
      all_goals
        go_wp2_with fail
        go_meet
        exact ⟨_, rfl, by simp; try omega, by go_simp, by go_simp, kc1 (W := wc) (by repeat (first | exact Below.refl _ _ | refine Below.setCell ?_ (by (try simp); try omega) _ | refine Below.drew ?_ | refine Below.alloc ?_ (by (try simp); try omega) _)) g0, kc1 (W := wc) (by repeat (first | exact Below.refl _ _ | refine Below.setCell ?_ (by (try simp); try omega) _ | refine Below.drew ?_ | refine Below.alloc ?_ (by (try simp); try omega) _)) g1, by simp; try omega, hb.trans (by repeat (first | exact Below.refl _ _ | refine Below.setCell ?_ (by (try simp); try omega) _ | refine Below.drew ?_ | refine Below.alloc ?_ (by (try simp); try omega) _))⟩
    case rest =>
      obtain ⟨g', rfl, hg3, k0, k1, m0, m1, hg4, hb'⟩ := hcut
      have z2 := hb'.size
      go_wp2_with (go_at_call 22; refine (eqCset _ _ _ _ _).mono ?_; rintro e w' ⟨rfl, rfl⟩)
      go_ret
      exact ⟨rfl, (hb'.alloc z2 _).alloc (by simp; omega) _⟩

end Go.Proofs.Ythkmahnmhjlnmaa.lUnion
