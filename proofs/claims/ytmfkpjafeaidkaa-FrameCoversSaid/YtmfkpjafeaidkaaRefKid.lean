/- The contracts of gridironref05.Kid, free and May. -/
import Derived.Test.YtmfkpjafeaidkaaLowInts
namespace Go.Proofs.Ytmfkpjafeaidkaa
open Go.RowKit
set_option linter.unusedVariables false

/-- Is a place somebody's kid? -/
def kidB (ns : List Nd) (p : Int) : Bool := ns.any fun n => n.l == p || n.r == p
theorem kidB_snoc (ns : List Nd) (n : Nd) (p : Int) : kidB (ns ++ [n]) p = (kidB ns p || (n.l == p || n.r == p)) := by unfold kidB; simp
theorem kidB_yes (ns : List Nd) (p : Int) (k : Nat) (h : k < ns.length) (hk : ((ns.getD k Nd.zero).l == p || (ns.getD k Nd.zero).r == p) = true) : kidB ns p = true := by
  unfold kidB
  rw [List.any_eq_true]
  exact ⟨ns.getD k Nd.zero, by rw [List.getD_eq_getElem?_getD, List.getElem?_eq_getElem h]; simp, hk⟩
/-- A place of a node that is nobody's kid. -/
def freeB (ns : List Nd) (p : Int) : Bool := decide (0 ≤ p ∧ p < ns.length) && !kidB ns p
def rmayB (ns : List Nd) (n : Nd) : Bool := if n.k = 1 then decide (n.l = -1 ∧ n.r = -1) else if n.k ≠ 2 ∨ n.l = n.r then false else (n.l == -1 || freeB ns n.l) && (n.r == -1 || freeB ns n.r)

end Go.Proofs.Ytmfkpjafeaidkaa
