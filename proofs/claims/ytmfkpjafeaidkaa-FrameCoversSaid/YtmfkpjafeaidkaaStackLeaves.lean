/- The contracts of stack.Leaves and of its closure. -/
import Derived.Test.YtmfkpjafeaidkaaStackAll
import Derived.Deep.DeepCutAuto
namespace Go.Proofs.Ytmfkpjafeaidkaa
open Go.RowKit
set_option linter.unusedVariables false

/-- Is a node over any of a range? -/
def overB (ns : List Nd) (from0 to0 : Int) (x : Int) : Bool := !(decide ((nd ns x).t ≤ from0) || decide (to0 ≤ (nd ns x).f))
def toldOne (ns : List Nd) (from0 to0 : Int) (x : Int) : List Int := if overB ns from0 to0 x = true ∧ (nd ns x).k = 1 then [(nd ns x).f] else []
/-- What is told of the places that were entered. -/
def toldL (ns : List Nd) (from0 to0 : Int) (pre : List Int) : List Int := pre.flatMap (toldOne ns from0 to0)
theorem toldL_snoc (ns : List Nd) (a b : Int) (pre : List Int) (x : Int) : toldL ns a b (pre ++ [x]) = toldL ns a b pre ++ toldOne ns a b x := by unfold toldL; rw [List.flatMap_append]; simp
theorem toldL_len (ns : List Nd) (a b : Int) (pre : List Int) : (toldL ns a b pre).length ≤ pre.length := by
  induction pre with
  | nil => simp [toldL]
  | cons x l ih =>
    have h : (toldOne ns a b x).length ≤ 1 := by unfold toldOne; split <;> simp
    unfold toldL at *; rw [List.flatMap_cons, List.length_append, List.length_cons]; omega

def LeavesJ (B s : Nat) (ns : List Nd) (from0 to0 : Int) (fp : List Nat) (pre : List Int) (W : World) : Prop :=
  ∃ a c, fp = [s, s + 1, s + 2, s + 3] ++ (Value.slice a (toldL ns from0 to0 pre).length c).ownBlock.toList ∧ B ≤ s ∧
    W.heap[s]? = some (.cells #[.int .i64 from0] 3 (0, 0)) ∧ W.heap[s + 1]? = some (.cells #[.int .i64 to0] 3 (0, 0)) ∧
    W.heap[s + 2]? = some (.cells #[.slice a (toldL ns from0 to0 pre).length c] 29 (0, 0)) ∧ W.heap[s + 3]? = some (.cells #[.int .i64 pre.length] 3 (0, 0)) ∧
    W.ownsRow B 3 1 (.slice a (toldL ns from0 to0 pre).length c) (toldL ns from0 to0 pre).length ((toldL ns from0 to0 pre).map (.int .i64)) ∧
    (∀ g, (Value.slice a (toldL ns from0 to0 pre).length c).ownBlock = some g → g < s ∨ s + 4 ≤ g)

/-- What a call of a closure leaves. -/
def CallPost (J : List Nat → List Int → World → Prop) (fp : List Nat) (b : Bool) (out : List Int) (W : World) (e : Ending) (W' : World) : Prop :=
  ∃ fp', e = .returned (.bool b) ∧ J fp' out W' ∧ ChgOnly fp W W' ∧ ∀ b ∈ fp', b ∈ fp ∨ W.heap.size ≤ b
theorem one_other {w : World} {b c : Nat} {o : Obj} (h : w.heap[b]? = some o) (hne : b ≠ c) (k : Nat) (u : Value) : (w.setCell ⟨c, k, none⟩ u).heap[b]? = some o := (Below.heap_setCell w ⟨c, k, none⟩ u b hne).trans h

end Go.Proofs.Ytmfkpjafeaidkaa
