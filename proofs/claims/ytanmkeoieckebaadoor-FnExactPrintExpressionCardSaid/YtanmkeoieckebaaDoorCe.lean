/- Proved here: a world in which all five tables of the cards lie as their rows list them. No condition. -/
import Derived.Test.YtanmkeoieckebaaDoorCd
namespace Go.Proofs.YtanmkeoieckebaaDoor
open Go.ChangeShapes Go.WideShapes Go.ChangeAt Go.RowKit

noncomputable def worldC (os : Os) : World :=
  let N := (World.settled Tryd.prog os).heap.size
  let w0 := World.holding Tryd.prog os ⟨#[.cells (rngCells Rows.laid_unicode_White_Space) 181, .cells #[.slice (some ⟨N, 0, none⟩) 7 7, .slice none 0 0, .int .i64 2] 178], #[], []⟩
  { w0 with heap := putAt (putAt (putAt (putAt (putAt w0.heap 1 #[.pointer (some ⟨N + 1, 0, none⟩)]) 0 (litCells Rows.laid_strings_asciiSpace)) 4 (litCells Rows.laid_math_bits_deBruijn32tab)) 5 (litCells Rows.laid_math_bits_deBruijn64tab)) 3 (litCells Rows.laid_internal_strconv_uint64pow10) }
abbrev laidC : List (String × DataW Unit) := [("math/bits.deBruijn32tab", Rows.laid_math_bits_deBruijn32tab), ("math/bits.deBruijn64tab", Rows.laid_math_bits_deBruijn64tab), ("internal/strconv.uint64pow10", Rows.laid_internal_strconv_uint64pow10), ("unicode.White_Space", Rows.laid_unicode_White_Space), ("strings.asciiSpace", Rows.laid_strings_asciiSpace)]
theorem laid_metC_str (os : Os) : laidMet Tryd.prog laidC ((worldC os).forCall (fun _ _ => 0) ⟨#[], #[.string ⟨#[]⟩], []⟩).memory :=
  laidMet_of_run' 8 (by kernel_rfl) (by kernel_rfl)
theorem laid_metC_expr (os : Os) : laidMet Tryd.prog laidC ((worldC os).forCall (fun _ _ => 0) ⟨#[], #[.agg #[.int .i64 0, .string ⟨#[]⟩, .int .i64 0, .int .i64 0, .slice none 0 0]], []⟩).memory :=
  laidMet_of_run' 8 (by kernel_rfl) (by kernel_rfl)
theorem laid_metC_bytes (os : Os) : laidMet Tryd.prog laidC ((worldC os).forCall (fun _ _ => 0) ⟨#[], #[.slice none 0 0], []⟩).memory :=
  laidMet_of_run' 8 (by kernel_rfl) (by kernel_rfl)
theorem laid_metC_unit (os : Os) : laidMet Tryd.prog laidC ((worldC os).forCall (fun _ _ => 0) ⟨#[], #[.agg #[.slice none 0 0, .slice none 0 0, .slice none 0 0]], []⟩).memory :=
  laidMet_of_run' 8 (by kernel_rfl) (by kernel_rfl)
theorem laid_metA_unit (os : Os) : laidMet Tryd.prog laidA ((worldA os).forCall (fun _ _ => 0) ⟨#[], #[.agg #[.slice none 0 0, .slice none 0 0, .slice none 0 0]], []⟩).memory :=
  laidMet_of_run' 8 (by kernel_rfl) (by kernel_rfl)
theorem tabC1 {W : World} (h : laidMetH Tryd.prog laidC W) : Lib.TabIs Tryd.prog W "strings.asciiSpace" .u8 Lib.asciiSpaceTab := by
  have h1 := h.filter fun x => x.1 == "strings.asciiSpace"
  have e : (laidC.filter fun x => x.1 == "strings.asciiSpace") = [("strings.asciiSpace", Lib.tabData .u8 Lib.asciiSpaceTab)] := by kernel_rfl
  rw [e] at h1
  exact Lib.tabIs_of_head (rest := []) (g := 0) (t := 145) (by kernel_rfl) (by kernel_rfl) Tryd.underlying145 Tryd.underlying5 (by kernel_rfl) (by kernel_rfl) h1
theorem tabC2 {W : World} (h : laidMetH Tryd.prog laidC W) : Lib.TabIs Tryd.prog W "internal/strconv.uint64pow10" .u64 Lib.pow10Tab := by
  have h1 := h.filter fun x => x.1 == "internal/strconv.uint64pow10"
  have e : (laidC.filter fun x => x.1 == "internal/strconv.uint64pow10") = [("internal/strconv.uint64pow10", Lib.tabData .u64 Lib.pow10Tab)] := by kernel_rfl
  rw [e] at h1
  exact Lib.tabIs_of_head (rest := []) (g := 3) (t := 198) (by kernel_rfl) (by kernel_rfl) Tryd.underlying198 Tryd.underlying149 (by kernel_rfl) (by kernel_rfl) h1
end Go.Proofs.YtanmkeoieckebaaDoor
