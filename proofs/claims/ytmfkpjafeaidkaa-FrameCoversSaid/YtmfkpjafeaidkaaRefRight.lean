/- The contracts of gridironref05.Right and gridironref07.Errors. -/
import Derived.Test.YtmfkpjafeaidkaaRightEq
import Derived.Deep.QuietTactic
import Derived.Deep.DeepCutAuto
namespace Go.Proofs.Ytmfkpjafeaidkaa
open Go.RowKit
set_option linter.unusedVariables false

theorem since_quiet2 {P : Program} {f : FuncId} {args : Array Value} {v : Value} {W : World} {s : Since W} (h : Calls P f args s.w fun e w' => e = .returned v ∧ Below s.w.heap.size s.w w') :
    Calls P f args s.w fun e w' => e = .returned v ∧ ∃ s' : Since W, w' = s'.w :=
  h.mono fun _ w' ⟨he, hb⟩ => ⟨he, ⟨w', bl s.h s.h.size hb⟩, rfl⟩

theorem NdRow.take {w : World} {ao : Option Addr} {ns : List Nd} (h : NdRow w ao ns) (k : Nat) : NdRow w ao (ns.take k) := by
  rcases h with h | ⟨b, off, e, hc⟩
  · subst h; exact .inl (by simp)
  · refine .inr ⟨b, off, e, fun i hi j hj => ?_⟩
    have h1 : i < k := by simp at hi; omega
    have h2 : i < ns.length := by simp at hi; omega
    rw [hc i h2 j hj, List.getD_eq_getElem?_getD, List.getD_eq_getElem?_getD, List.getElem?_take_of_lt h1]

end Go.Proofs.Ytmfkpjafeaidkaa
