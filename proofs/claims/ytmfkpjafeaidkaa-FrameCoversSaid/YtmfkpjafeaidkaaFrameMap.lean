/- A map of places in memory: which are there. -/
import Derived.Test.YtmfkpjafeaidkaaFrameAskSt
import Derived.Maps.OwnOps
namespace Go.Proofs.Ytmfkpjafeaidkaa
open Go.RowKit Go.Maps
set_option linter.unusedVariables false

theorem lawInt : Keyed Try.prog 3 := int_keyed Try.underlying3
theorem zeroInt (w : World) : (zeroValue 3).run Try.prog w = .ok (.int .i64 0) w := by kernel_rfl
/-- The map holds 1 at these places, nothing elsewhere. -/
def MapSt (b q : Nat) (ks : List Int) (w : World) : Prop :=
  ∃ D : DataW Unit, w.ownsMap Try.prog 3 (plainElem Try.prog 3) b q D ∧ IsMap D ∧ ∀ x : Int, D.atKey (.int .i64 x) (.lit (.int .i64 0)) = .lit (.int .i64 (if x ∈ ks then 1 else 0))
theorem MapSt.made (w : World) : MapSt w.heap.size 0 [] (w.alloc (.map #[] 0)) := ⟨_, World.ownsMap_made _ _ _ _, isMap_empty, fun x => by simp [DataW.atKey]⟩
theorem MapSt.later {b q : Nat} {ks : List Int} {w w' : World} (h : MapSt b q ks w) (hb : Below w.heap.size w w') : MapSt b q ks w' := by
  obtain ⟨D, h1, h2, h3⟩ := h
  have hlt := h1.lt
  obtain ⟨es, clock, hh, F, hs, hD⟩ := h1
  exact ⟨D, ⟨es, clock, (hb.block b hlt).trans hh, F, hs, hD⟩, h2, h3⟩
theorem MapSt.look {b q : Nat} {ks : List Int} {w : World} (h : MapSt b q ks w) (x : Int) (hx : (Lit.int .i64 x).wf = true) :
    (Instr.lookup 70 (.map (some b)) (.int .i64 x) false).run Try.prog w = .ok (.int .i64 (if x ∈ ks then 1 else 0)) w := by
  obtain ⟨D, h1, h2, h3⟩ := h
  obtain ⟨c, hr, hat, _⟩ := h1.lookup_int lawInt Try.underlying70 Try.underlying3 (zeroInt w) (keyOf_int_mk Try.underlying3 hx)
  rw [h3 x] at hat
  simp only [DataW.lit.injEq, Lit.int.injEq, true_and] at hat
  rw [hr, hat]
theorem MapSt.put {b q : Nat} {ks : List Int} {D : DataW Unit} {w : World} (h2 : IsMap D) (h3 : ∀ x : Int, D.atKey (.int .i64 x) (.lit (.int .i64 0)) = .lit (.int .i64 (if x ∈ ks then 1 else 0))) {x : Int} (h1 : w.ownsMap Try.prog 3 (plainElem Try.prog 3) b q (D.put (.int .i64 x) (.lit (.int .i64 1)))) :
    MapSt b q (ks ++ [x]) w := by
  refine ⟨_, h1, h2.put _ _, fun y => ?_⟩
  by_cases e : y = x
  · subst e
    rw [atKey_put_same h2 (by constructor)]
    simp
  · rw [atKey_put_other (fun g => e (by simpa using g)), h3 y]
    simp [e]
end Go.Proofs.Ytmfkpjafeaidkaa
