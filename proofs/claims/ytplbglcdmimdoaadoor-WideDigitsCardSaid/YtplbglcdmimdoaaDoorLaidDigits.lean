/- What WideDigits' condition on the library's own tables gives; that the start meets it. -/
import Derived.Test.YtplbglcdmimdoaaDoorLaidWide
import Derived.ProofKit
import Derived.LaidMore
import Derived.OpenShut
import Derived.Stop.Joined
import Derived.LaidSub
namespace Go.Proofs.YtplbglcdmimdoaaDoor
open Go.RowKit
set_option linter.unusedVariables false

def laidDigits : List (String × DataW Unit) := [("math/bits.deBruijn32tab", Rows.laid_math_bits_deBruijn32tab), ("math/bits.deBruijn64tab", Rows.laid_math_bits_deBruijn64tab), ("internal/strconv.uint64pow10", Rows.laid_internal_strconv_uint64pow10), ("unicode/utf8.acceptRanges", Rows.laid_unicode_utf8_acceptRanges), ("unicode/utf8.first", Rows.laid_unicode_utf8_first)]
theorem pow10_of5 {W : World} (h : laidMetH Tryd.prog laidDigits W) : Lib.TabIs Tryd.prog W "internal/strconv.uint64pow10" .u64 Lib.pow10Tab := by
  have h1 := laidMetH.filter (fun x => x.1 == "internal/strconv.uint64pow10") h
  rw [show laidDigits.filter (fun x => x.1 == "internal/strconv.uint64pow10") = [("internal/strconv.uint64pow10", Rows.laid_internal_strconv_uint64pow10)] from rfl, tabPow] at h1
  rw [MakeChecks.laidMetH_plain _ _ _ (by kernel_rfl)] at h1
  exact Lib.tabIs_of_head gPow tPow Tryd.underlying149 Tryd.underlying22 (by kernel_rfl) (by kernel_rfl) h1
end Go.Proofs.YtplbglcdmimdoaaDoor
