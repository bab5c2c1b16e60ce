/- What the row's condition on the library's own tables gives; that the start meets it. -/
import Derived.Test.YtokpgopdkimmmaaDoorOpsLine
import Derived.ProofKit
import Derived.LaidMore
import Derived.OpenShut
import Derived.Stop.Joined
import Derived.LaidSub
namespace Go.Proofs.YtokpgopdkimmmaaDoor
open Go.RowKit
set_option linter.unusedVariables false

def laidBlanks : List (String × DataW Unit) := [("unicode.White_Space", Rows.laid_unicode_White_Space), ("strings.asciiSpace", Rows.laid_strings_asciiSpace)]
theorem gBlanks : Tryd.prog.globalNamed "strings.asciiSpace" = some 0 := by kernel_rfl
theorem tBlanks : (Tryd.prog.globals[0]?).map (·.type) = some 76 := by kernel_rfl
theorem tabBlanks : Rows.laid_strings_asciiSpace (H := Unit) = Lib.tabData .u8 Lib.asciiSpaceTab := by kernel_rfl
theorem blanks_of {W : World} (h : laidMetH Tryd.prog laidBlanks W) : Blanks W := by
  have h1 := laidMetH.filter (fun x => x.1 == "strings.asciiSpace") h
  rw [show laidBlanks.filter (fun x => x.1 == "strings.asciiSpace") = [("strings.asciiSpace", Rows.laid_strings_asciiSpace)] from rfl, tabBlanks] at h1
  rw [MakeChecks.laidMetH_plain _ _ _ (by kernel_rfl)] at h1
  exact Lib.tabIs_of_head gBlanks tBlanks Tryd.underlying76 Tryd.underlying5 (by kernel_rfl) (by kernel_rfl) h1
/-- The start's own heap meets the condition. -/
theorem door_blanks (os : Os) (args : Array Value) : laidMetH Tryd.prog laidBlanks ((World.doorLaid Tryd.prog 4000 os).forCall (fun _ _ => 0) ⟨#[], args, []⟩).memory :=
  laidMetH_of_parts3 (fuel := 8) (laidMet_of_run' 8 (by kernel_rfl) (by kernel_rfl)) (by kernel_rfl) (by kernel_rfl)
end Go.Proofs.YtokpgopdkimmmaaDoor
