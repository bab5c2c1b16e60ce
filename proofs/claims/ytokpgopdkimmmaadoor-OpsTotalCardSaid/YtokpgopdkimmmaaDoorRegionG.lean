/- XRegionU's steps for operations that bear a guard. -/
import Derived.Test.YtokpgopdkimmmaaDoorRegionU
namespace Go.Proofs.YtokpgopdkimmmaaDoor
open Go.RowKit
set_option linter.unusedVariables false

section
variable {P : Program} {ops : Array Oper} {Q : Exit → Act → World → Prop} {md : Region.Mode} {S : World → Prop} {D : List Nat}
/-- Take number i first, its guard standing: it yields in every world that meets S. -/
theorem wpAnyG_take {i : Nat} {oi : Oper} {v : Value} {fuel : Nat} {listed : Array Bool} {a : Act} {w : World} (hi : ops[i]? = some oi)
    (hs : Region.noSelect ops = true) (hf : Region.free md ops listed i = true) (hr : (Region.ready md ops listed).contains i = true) (hc : closedB md ops listed = true) (ht : tailWaits md ops D listed i = true) (hD : D.contains i = true)
    (hQ : ∀ c a w, Q (.panic c) (a.put oi.dst v) w → Q (.panic c) a w) (hg : Region.wanted oi (yielded ops a.tmps) = true) (hy : ∀ w, S w → (execOp a.eval oi).run P w = .ok (.value v) w) (hS : S w)
    (h : wpAnyU P md ops Q S D fuel (listed.setIfInBounds i true) (a.put oi.dst v) w) : wpAnyU P md ops Q S D (fuel + 1) listed a w :=
  wpAnyU_first (T := S) hi (Region.noSelect_spec hs) hQ (.inr ⟨by simpa using hD, fun _ h => h⟩) fuel listed a w (closed_of hc) (.inr ht) (Region.free_spec hi hf) (by simpa using hr) (.inl ⟨hg, hy⟩) (fun _ => hS) h
/-- Take number i first, its guard standing: it yields in every world. -/
theorem wpAnyG_free {i : Nat} {oi : Oper} {v : Value} {fuel : Nat} {listed : Array Bool} {a : Act} {w : World} (hi : ops[i]? = some oi)
    (hs : Region.noSelect ops = true) (hf : Region.free md ops listed i = true) (hr : (Region.ready md ops listed).contains i = true) (hc : closedB md ops listed = true) (hD : D.contains i = false)
    (hQ : ∀ c a w, Q (.panic c) (a.put oi.dst v) w → Q (.panic c) a w) (hg : Region.wanted oi (yielded ops a.tmps) = true) (hy : ∀ w, (execOp a.eval oi).run P w = .ok (.value v) w) (hS : headDone D listed = true ∨ S w)
    (h : wpAnyU P md ops Q S D fuel (listed.setIfInBounds i true) (a.put oi.dst v) w) : wpAnyU P md ops Q S D (fuel + 1) listed a w :=
  wpAnyU_first (T := fun _ => True) hi (Region.noSelect_spec hs) hQ (.inl fun _ => trivial) fuel listed a w (closed_of hc) (.inl (by simpa using hD)) (Region.free_spec hi hf) (by simpa using hr) (.inl ⟨hg, fun w _ => hy w⟩) (fun h0 => hS.resolve_left (by rw [h0]; simp)) h
theorem wpAnyG_one {i : Nat} {oi : Oper} {fuel : Nat} {listed : Array Bool} {a : Act} {w : World} (hi : ops[i]? = some oi) (hr : Region.ready md ops listed = [i]) (hg : Region.wanted oi (yielded ops a.tmps) = true)
    (h : oi.wp P a w (fun a' w' => (headDone D listed = false → S w') ∧ wpAnyU P md ops Q S D fuel (listed.setIfInBounds i true) a' w') Q) : wpAnyU P md ops Q S D (fuel + 1) listed a w := by
  refine ⟨fun h0 => (by rw [hr] at h0; cases h0), fun j hj => ?_⟩
  rw [hr] at hj
  have hj : j = i := by simpa using hj
  subst hj
  unfold wpOp
  simp only [hi, hg, if_true]
  exact .inl h
theorem wpAnyG_step {i : Nat} {oi : Oper} {fuel : Nat} {listed : Array Bool} {a : Act} {w : World} (hi : ops[i]? = some oi) (hr : Region.ready md ops listed = [i]) (hg : Region.wanted oi (yielded ops a.tmps) = true)
    (h : ∀ K : Act → World → Prop, Shut (∀ a' w', S w' → (S w' → wpAnyU P md ops Q S D fuel (listed.setIfInBounds i true) a' w') → K a' w') → oi.wp P a w K Q) : wpAnyU P md ops Q S D (fuel + 1) listed a w :=
  wpAnyG_one hi hr hg (h _ fun a' w' hS h2 => ⟨fun _ => hS, h2 hS⟩)
theorem wpAnyG_late {i : Nat} {oi : Oper} {fuel : Nat} {listed : Array Bool} {a : Act} {w : World} (hi : ops[i]? = some oi) (hr : Region.ready md ops listed = [i]) (hg : Region.wanted oi (yielded ops a.tmps) = true) (hd : headDone D listed = true)
    (h : ∀ K : Act → World → Prop, Shut (∀ a' w', wpAnyU P md ops Q S D fuel (listed.setIfInBounds i true) a' w' → K a' w') → oi.wp P a w K Q) : wpAnyU P md ops Q S D (fuel + 1) listed a w :=
  wpAnyG_one hi hr hg (h _ fun a' w' h2 => ⟨fun h0 => (by rw [hd] at h0; cases h0), h2⟩)
end
end Go.Proofs.YtokpgopdkimmmaaDoor
