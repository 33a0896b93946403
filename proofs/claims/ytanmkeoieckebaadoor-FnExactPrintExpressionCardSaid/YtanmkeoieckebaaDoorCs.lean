/- Proved here: what the small functions on character sets return (the mirror's conversion, the comparison, union, intersection, difference, complement). No condition. -/
import Derived.Test.YtanmkeoieckebaaDoorBase
namespace Go.Proofs.YtanmkeoieckebaaDoor
open Go.RowKit

/-- A set as a value. -/
abbrev cs (a b : Int) : Value := .agg #[.int .i64 a, .int .i64 b]
/-- Four cells hold on in a world that has only grown. -/
theorem kc4 {W w1 : World} {p0 p1 p2 p3 : Addr} {v0 v1 v2 v3 : Value} (hb : Below W.heap.size W w1) (h0 : W.cell? p0 = some v0) (h1 : W.cell? p1 = some v1) (h2 : W.cell? p2 = some v2) (h3 : W.cell? p3 = some v3) :
    w1.cell? p0 = some v0 ∧ w1.cell? p1 = some v1 ∧ w1.cell? p2 = some v2 ∧ w1.cell? p3 = some v3 :=
  ⟨(hb.cell (World.block_lt_of_cell? W p0 h0)).trans h0, (hb.cell (World.block_lt_of_cell? W p1 h1)).trans h1, (hb.cell (World.block_lt_of_cell? W p2 h2)).trans h2, (hb.cell (World.block_lt_of_cell? W p3 h3)).trans h3⟩

/-- A new block that holds a set. -/
abbrev csB (t : TypeId) (a b : Int) : Obj := .cells #[.int .i64 a, .int .i64 b] t

theorem specSubtract (a b c d : Int) (w : World) : Calls Tryd.prog 165 #[cs a b, cs c d] w fun e w' => e = .returned (cs (bits .andNot .i64 a c) (bits .andNot .i64 b d)) ∧ ((w.alloc (csB 100 a b)).alloc (csB 100 c d)).alloc (csB 100 (bits .andNot .i64 a c) (bits .andNot .i64 b d)) = w' := by
  go_enter Tryd.func165, Tryd.ntmps165
  go_wp2
  exact bodyPost_ret (v := cs (bits .andNot .i64 a c) (bits .andNot .i64 b d)) (by simp [results, Tryd.results165, go_sem]) rfl ⟨rfl, rfl⟩
theorem specComplement (a b : Int) (w : World) : Calls Tryd.prog 162 #[cs a b] w fun e w' => e = .returned (cs (bits .xor .i64 (-1) a) (bits .xor .i64 (-1) b)) ∧ (w.alloc (csB 100 a b)).alloc (csB 100 (bits .xor .i64 (-1) a) (bits .xor .i64 (-1) b)) = w' := by
  go_enter Tryd.func162, Tryd.ntmps162
  go_wp2
  exact bodyPost_ret (v := cs (bits .xor .i64 (-1) a) (bits .xor .i64 (-1) b)) (by simp [results, Tryd.results162, go_sem]) rfl ⟨rfl, rfl⟩
end Go.Proofs.YtanmkeoieckebaaDoor
