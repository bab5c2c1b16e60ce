/- The contract of stack.Leaves. -/
import Derived.Test.YtmfkpjafeaidkaaStackLeaves
import Derived.Deep.QuietTactic
namespace Go.Proofs.Ytmfkpjafeaidkaa
open Go.RowKit
set_option linter.unusedVariables false

def LeavesPost (err : Int) (out : List Int) (n : Int) (w : World) (e : Ending) (w' : World) : Prop :=
  ∃ a c, e = .returned (.tuple #[.slice a out.length c, .int .i64 n, .int .i64 err]) ∧ w'.ownsRow w.heap.size 3 1 (.slice a out.length c) out.length (out.map (.int .i64)) ∧ Below w.heap.size w w'

end Go.Proofs.Ytmfkpjafeaidkaa
