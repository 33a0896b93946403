/- Proved here: a world in which all five tables of the cards lie as their rows list them. No condition. -/
import Derived.Test.YtljblaglfooclaaGreatDoorCd
namespace Go.Proofs.YtljblaglfooclaaGreatDoor
open Go.ChangeShapes Go.WideShapes Go.ChangeAt Go.RowKit

noncomputable def worldC (os : Os) : World :=
  let N := (World.settled Tryz.prog os).heap.size
  let w0 := World.holding Tryz.prog os ⟨#[.cells (rngCells Rows.laid_unicode_White_Space) 142, .cells #[.slice (some ⟨N, 0, none⟩) 7 7, .slice none 0 0, .int .i64 2] 139], #[], []⟩
  { w0 with heap := putAt (putAt (putAt (putAt (putAt w0.heap 2 #[.pointer (some ⟨N + 1, 0, none⟩)]) 0 (litCells Rows.laid_strings_asciiSpace)) 4 (litCells Rows.laid_math_bits_deBruijn32tab)) 5 (litCells Rows.laid_math_bits_deBruijn64tab)) 3 (litCells Rows.laid_internal_strconv_uint64pow10) }
abbrev laidC : List (String × DataW Unit) := [("math/bits.deBruijn32tab", Rows.laid_math_bits_deBruijn32tab), ("math/bits.deBruijn64tab", Rows.laid_math_bits_deBruijn64tab), ("internal/strconv.uint64pow10", Rows.laid_internal_strconv_uint64pow10), ("unicode.White_Space", Rows.laid_unicode_White_Space), ("strings.asciiSpace", Rows.laid_strings_asciiSpace)]
theorem laid_metC_str (os : Os) : laidMet Tryz.prog laidC ((worldC os).forCall (fun _ _ => 0) ⟨#[], #[.string ⟨#[]⟩], []⟩).memory :=
  laidMet_of_run' 8 (by kernel_rfl) (by kernel_rfl)
theorem laid_metC_expr (os : Os) : laidMet Tryz.prog laidC ((worldC os).forCall (fun _ _ => 0) ⟨#[], #[.agg #[.int .i64 0, .string ⟨#[]⟩, .int .i64 0, .int .i64 0, .slice none 0 0]], []⟩).memory :=
  laidMet_of_run' 8 (by kernel_rfl) (by kernel_rfl)
theorem laid_metC_bytes (os : Os) : laidMet Tryz.prog laidC ((worldC os).forCall (fun _ _ => 0) ⟨#[], #[.slice none 0 0], []⟩).memory :=
  laidMet_of_run' 8 (by kernel_rfl) (by kernel_rfl)
theorem laid_metC_unit (os : Os) : laidMet Tryz.prog laidC ((worldC os).forCall (fun _ _ => 0) ⟨#[], #[.agg #[.slice none 0 0, .slice none 0 0, .slice none 0 0]], []⟩).memory :=
  laidMet_of_run' 8 (by kernel_rfl) (by kernel_rfl)
theorem tabC1 {W : World} (h : laidMetH Tryz.prog laidC W) : Lib.TabIs Tryz.prog W "strings.asciiSpace" .u8 Lib.asciiSpaceTab := by
  have h1 := h.filter fun x => x.1 == "strings.asciiSpace"
  have e : (laidC.filter fun x => x.1 == "strings.asciiSpace") = [("strings.asciiSpace", Lib.tabData .u8 Lib.asciiSpaceTab)] := by kernel_rfl
  rw [e] at h1
  exact Lib.tabIs_of_head (rest := []) (g := 0) (t := 121) (by kernel_rfl) (by kernel_rfl) Tryz.underlying121 Tryz.underlying5 (by kernel_rfl) (by kernel_rfl) h1
theorem tabC2 {W : World} (h : laidMetH Tryz.prog laidC W) : Lib.TabIs Tryz.prog W "internal/strconv.uint64pow10" .u64 Lib.pow10Tab := by
  have h1 := h.filter fun x => x.1 == "internal/strconv.uint64pow10"
  have e : (laidC.filter fun x => x.1 == "internal/strconv.uint64pow10") = [("internal/strconv.uint64pow10", Lib.tabData .u64 Lib.pow10Tab)] := by kernel_rfl
  rw [e] at h1
  exact Lib.tabIs_of_head (rest := []) (g := 3) (t := 149) (by kernel_rfl) (by kernel_rfl) Tryz.underlying149 Tryz.underlying120 (by kernel_rfl) (by kernel_rfl) h1
end Go.Proofs.YtljblaglfooclaaGreatDoor
