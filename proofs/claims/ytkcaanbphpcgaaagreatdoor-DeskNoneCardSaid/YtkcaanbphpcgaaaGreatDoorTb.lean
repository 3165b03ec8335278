import Derived.Test.YtkcaanbphpcgaaaGreatDoorRows
import Derived.Test.YtkcaanbphpcgaaaGreatDoorTa
set_option linter.all false
namespace Go.Proofs.YtkcaanbphpcgaaaGreatDoor.Dn
open Go
set_option maxRecDepth 100000
/-- what the listed variables hold, but for the pinned one -/
def laid8 : List (String × DataW Unit) := [("math/bits.deBruijn32tab", Rows.laid_math_bits_deBruijn32tab), ("math/bits.deBruijn64tab", Rows.laid_math_bits_deBruijn64tab), ("internal/strconv.uint64pow10", Rows.laid_internal_strconv_uint64pow10), ("unicode/utf8.acceptRanges", Rows.laid_unicode_utf8_acceptRanges), ("strconv.ErrRange", Rows.laid_strconv_ErrRange), ("strconv.ErrSyntax", Rows.laid_strconv_ErrSyntax), ("unicode.White_Space", Rows.laid_unicode_White_Space), ("strings.asciiSpace", Rows.laid_strings_asciiSpace)]
def kinds8 : List LaidKind := [.data, .data, .data, .data, .sentinel, .sentinel, .listed, .data]
theorem hk : laid8.map (fun x => Tryz.prog.kindOfLater x.1) = kinds8.map some := by kernel_rfl
theorem hg : (Tryz.prog.funcNamed "gosem.cut.vars").isSome = true := by rw [vnamed]; rfl
theorem noOwnUnsafe : Tryz.prog.headLifts.contains "ownunsafe" = false := by kernel_rfl
theorem fits8 : Tryz.prog.listedFits Rows.deskNoneRow.laid = true := by
  unfold Program.listedFits
  rw [noOwnUnsafe]
  kernel_rfl
theorem pin8 : Tryz.prog.pinnedFits "unicode/utf8.first" = true := by
  unfold Program.pinnedFits
  rw [vnamed]
  kernel_rfl
end Go.Proofs.YtkcaanbphpcgaaaGreatDoor.Dn
