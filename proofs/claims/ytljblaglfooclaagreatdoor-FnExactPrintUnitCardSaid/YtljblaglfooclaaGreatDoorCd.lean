/- Proved here: a world in which the tables of the cards lie as their rows list them, and the small facts that all cards share. No condition. -/
import Derived.Test.YtljblaglfooclaaGreatDoorCards
import Derived.Test.YtljblaglfooclaaGreatDoorTie
import Derived.Test.YtljblaglfooclaaGreatDoorBase
import Derived.Deep.DeepHandedRow
import Derived.Deep.DeepWitnessRowRef
import Derived.Lib.LaidTab
import Derived.LaidSub
import Derived.Lib.ItoaNum
import Derived.Lib.Space
namespace Go.Proofs.YtljblaglfooclaaGreatDoor
open Go.ChangeShapes Go.WideShapes Go.ChangeAt Go.RowKit

/-- The cells of a listed table of numbers. -/
def litCells (d : DataW Unit) : Array Value := match d with
  | .agg l => (l.map fun x => match x with | .lit (.int k z) => Value.int k z | _ => .bool false).toArray
  | _ => #[]
/-- The cells of the ranges that a listed range table holds. -/
def rngCells (d : DataW Unit) : Array Value := match d with
  | .ptr (.agg (.slice l _ :: _)) => (l.flatMap fun x => (litCells x).toList).toArray
  | _ => #[]
def putAt (h : Array Obj) (g : Nat) (cs : Array Value) : Array Obj := h.modify g fun o => match o with
  | .cells _ t frozen => .cells cs t frozen
  | o => o
/-- The table lies on in a world that has only grown. -/
theorem tab_kept {w w' : World} {name : String} {k : IntKind} {zs : List Int} (h : Lib.TabIs Tryz.prog w name k zs) (hb : Below w.heap.size w w') : Lib.TabIs Tryz.prog w' name k zs := by
  unfold Lib.TabIs World.var? at h ⊢
  cases hg : Tryz.prog.globalNamed name with
  | none => rw [hg] at h; simp at h
  | some g =>
    rw [hg] at h
    simp only [Option.bind_some] at h ⊢
    have hlt : g < w.heap.size := by
      rcases Nat.lt_or_ge g w.heap.size with hl | hl
      · exact hl
      · rw [Array.getElem?_eq_none hl] at h; simp at h
    rw [hb.block g hlt]
    exact h
noncomputable def worldB (os : Os) : World :=
  let w0 := World.holding Tryz.prog os ⟨#[], #[], []⟩
  { w0 with heap := putAt (putAt (putAt w0.heap 4 (litCells Rows.laid_math_bits_deBruijn32tab)) 5 (litCells Rows.laid_math_bits_deBruijn64tab)) 3 (litCells Rows.laid_internal_strconv_uint64pow10) }
abbrev laidB : List (String × DataW Unit) := [("math/bits.deBruijn32tab", Rows.laid_math_bits_deBruijn32tab), ("math/bits.deBruijn64tab", Rows.laid_math_bits_deBruijn64tab), ("internal/strconv.uint64pow10", Rows.laid_internal_strconv_uint64pow10)]
theorem laid_metB_int (os : Os) : laidMet Tryz.prog laidB ((worldB os).forCall (fun _ _ => 0) ⟨#[], #[.int .i64 0], []⟩).memory :=
  laidMet_of_run' 8 (by kernel_rfl) (by kernel_rfl)
theorem laid_metB_bytes (os : Os) : laidMet Tryz.prog laidB ((worldB os).forCall (fun _ _ => 0) ⟨#[], #[.slice none 0 0], []⟩).memory :=
  laidMet_of_run' 8 (by kernel_rfl) (by kernel_rfl)
theorem tabB {W : World} (h : laidMetH Tryz.prog laidB W) : Lib.TabIs Tryz.prog W "internal/strconv.uint64pow10" .u64 Lib.pow10Tab := by
  have h1 := h.filter fun x => x.1 == "internal/strconv.uint64pow10"
  have e : (laidB.filter fun x => x.1 == "internal/strconv.uint64pow10") = [("internal/strconv.uint64pow10", Lib.tabData .u64 Lib.pow10Tab)] := by kernel_rfl
  rw [e] at h1
  exact Lib.tabIs_of_head (rest := []) (g := 3) (t := 149) (by kernel_rfl) (by kernel_rfl) Tryz.underlying149 Tryz.underlying120 (by kernel_rfl) (by kernel_rfl) h1
noncomputable def worldA (os : Os) : World :=
  let N := (World.settled Tryz.prog os).heap.size
  let w0 := World.holding Tryz.prog os ⟨#[.cells (rngCells Rows.laid_unicode_White_Space) 142, .cells #[.slice (some ⟨N, 0, none⟩) 7 7, .slice none 0 0, .int .i64 2] 139], #[], []⟩
  { w0 with heap := putAt (putAt w0.heap 2 #[.pointer (some ⟨N + 1, 0, none⟩)]) 0 (litCells Rows.laid_strings_asciiSpace) }
abbrev laidA : List (String × DataW Unit) := [("unicode.White_Space", Rows.laid_unicode_White_Space), ("strings.asciiSpace", Rows.laid_strings_asciiSpace)]
theorem laid_metA_str (os : Os) : laidMet Tryz.prog laidA ((worldA os).forCall (fun _ _ => 0) ⟨#[], #[.string ⟨#[]⟩], []⟩).memory :=
  laidMet_of_run' 8 (by kernel_rfl) (by kernel_rfl)
theorem laid_metA_expr (os : Os) : laidMet Tryz.prog laidA ((worldA os).forCall (fun _ _ => 0) ⟨#[], #[.agg #[.int .i64 0, .string ⟨#[]⟩, .int .i64 0, .int .i64 0, .slice none 0 0]], []⟩).memory :=
  laidMet_of_run' 8 (by kernel_rfl) (by kernel_rfl)
theorem laid_metA_bytes (os : Os) : laidMet Tryz.prog laidA ((worldA os).forCall (fun _ _ => 0) ⟨#[], #[.slice none 0 0], []⟩).memory :=
  laidMet_of_run' 8 (by kernel_rfl) (by kernel_rfl)
theorem laid_metA_unit (os : Os) : laidMet Tryz.prog laidA ((worldA os).forCall (fun _ _ => 0) ⟨#[], #[.agg #[.slice none 0 0, .slice none 0 0, .slice none 0 0]], []⟩).memory :=
  laidMet_of_run' 8 (by kernel_rfl) (by kernel_rfl)
theorem tabA {W : World} (h : laidMetH Tryz.prog laidA W) : Lib.TabIs Tryz.prog W "strings.asciiSpace" .u8 Lib.asciiSpaceTab := by
  have h1 := h.filter fun x => x.1 == "strings.asciiSpace"
  have e : (laidA.filter fun x => x.1 == "strings.asciiSpace") = [("strings.asciiSpace", Lib.tabData .u8 Lib.asciiSpaceTab)] := by kernel_rfl
  rw [e] at h1
  exact Lib.tabIs_of_head (rest := []) (g := 0) (t := 121) (by kernel_rfl) (by kernel_rfl) Tryz.underlying121 Tryz.underlying5 (by kernel_rfl) (by kernel_rfl) h1
end Go.Proofs.YtljblaglfooclaaGreatDoor
