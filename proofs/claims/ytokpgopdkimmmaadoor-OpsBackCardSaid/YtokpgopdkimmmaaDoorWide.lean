/- Wide numbers: Of, Add, Sub, Mul, Diff, over their words. (add64, sub64 and the walks of Add and Sub began from the kit's worked WidyWalks.) -/
import Derived.Test.YtokpgopdkimmmaaDoorBase
import Derived.Test.YtokpgopdkimmmaaDoorShelfWide
import Derived.Shelf.Spec.BitsCarry
import Derived.RowKit3
namespace Go.Proofs.YtokpgopdkimmmaaDoor
open Go.RowKit Go.Shelf
set_option linter.unusedVariables false
set_option linter.unusedSimpArgs false

/-- A word. -/
def Word (x : Int) : Prop := 0 ≤ x ∧ x < 18446744073709551616
def wideV (v : Nat) : Value := .agg #[.int .u64 ((v / 18446744073709551616 : Nat) : Int), .int .u64 ((v % 18446744073709551616 : Nat) : Int)]
abbrev wTop : Nat := 340282366920938463463374607431768211456
theorem word_hi {v : Nat} (h : v < wTop) : Word ((v / 18446744073709551616 : Nat) : Int) := by unfold Word; unfold wTop at h; omega
theorem word_lo (v : Nat) : Word ((v % 18446744073709551616 : Nat) : Int) := by unfold Word; omega
end Go.Proofs.YtokpgopdkimmmaaDoor
