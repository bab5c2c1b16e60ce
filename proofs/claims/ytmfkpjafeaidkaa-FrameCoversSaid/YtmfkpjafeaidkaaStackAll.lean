/- The contracts of stack.All and of its closure. -/
import Derived.Test.YtmfkpjafeaidkaaStackWalk
namespace Go.Proofs.Ytmfkpjafeaidkaa
open Go.RowKit
set_option linter.unusedVariables false

theorem ChgOnly.setCell (w : World) (cb k : Nat) (v : Value) : ChgOnly [cb] w (w.setCell ⟨cb, k, none⟩ v) :=
  ⟨rfl, rfl, rfl, by simp, fun i _ hn => Below.heap_setCell _ _ _ _ (fun e => hn (by rw [e]; simp))⟩
/-- What the closure of All holds: the slice in its block, and the places that it was called with. -/
def AllJ (B cb : Nat) (fp : List Nat) (pre : List Int) (W : World) : Prop :=
  ∃ a c, fp = cb :: (Value.slice a pre.length c).ownBlock.toList ∧ B ≤ cb ∧ W.heap[cb]? = some (.cells #[.slice a pre.length c] 29 (0, 0)) ∧ W.ownsRow B 3 1 (.slice a pre.length c) pre.length (pre.map (.int .i64)) ∧ (∀ g, (Value.slice a pre.length c).ownBlock = some g → g ≠ cb)

/-- What is told of places: a slice of the call's own, and an error. -/
def IntsPost (err : Int) (out : List Int) (w : World) (e : Ending) (w' : World) : Prop :=
  ∃ a c, e = .returned (.tuple #[.slice a out.length c, .int .i64 err]) ∧ w'.ownsRow w.heap.size 3 1 (.slice a out.length c) out.length (out.map (.int .i64)) ∧ Below w.heap.size w w'

end Go.Proofs.Ytmfkpjafeaidkaa
