/- The chapter's examples of layer 7: they are as they are told. -/
import Derived.Test.YtmfkpjafeaidkaaLowNodes
namespace Go.Proofs.Ytmfkpjafeaidkaa
open Go.RowKit
set_option linter.unusedVariables false

def leafN (i : Int) : Nd := ⟨1, -1, -1, i, i + 1, 0, i⟩
def threeN : List Nd := [leafN 0, leafN 1, ⟨2, 0, 1, 0, 2, 0, 0⟩, leafN 2, ⟨2, 2, 3, 0, 3, 0, 0⟩]

theorem row_lit (w : World) (xs : List Int) (e : TypeId) : Row (w.alloc (.cells (xs.map (Value.int .i64)).toArray e)) (some ⟨w.heap.size, 0, none⟩) (xs.map (.int .i64)) :=
  .inr ⟨w.heap.size, 0, rfl, fun i _ => by rw [Nat.zero_add, cells_at]; simp⟩

end Go.Proofs.Ytmfkpjafeaidkaa
