/- XRegionU's steps for operations that bear a guard. -/
import Derived.Test.YtokpgopdkimmmaaGreatDoorRegionU
namespace Go.Proofs.YtokpgopdkimmmaaGreatDoor
open Go.RowKit
set_option linter.unusedVariables false

section
variable {md : Region.Mode} {ops : Array Oper}
theorem waitsT_mono : ∀ {f g j i : Nat}, f ≤ g → waitsT md ops f j i = true → waitsT md ops g j i = true
  | 0, _, _, _, _, h => by simp [waitsT] at h
  | f + 1, 0, _, _, hg, _ => by omega
  | f + 1, g + 1, j, i, hg, h => by
    unfold waitsT at h ⊢
    cases ho : ops[j]? with
    | none => rw [ho] at h; simp at h
    | some o =>
      rw [ho] at h
      simp only at h ⊢
      obtain ⟨e, he, h1⟩ := Array.any_eq_true'.1 h
      refine Array.any_eq_true'.2 ⟨e, he, ?_⟩
      simp only [Bool.and_eq_true, Bool.or_eq_true, beq_iff_eq] at h1 ⊢
      exact ⟨h1.1, h1.2.imp id (waitsT_mono (by omega))⟩
/-- Who waits for i, reckoned once for each operation, in the text's order. -/
def reachStep (md : Region.Mode) (ops : Array Oper) (i : Nat) (r : List Bool) (j : Nat) : List Bool :=
  r ++ [match ops[j]? with
    | some o => o.after.any fun e => Region.binds md e && (e.on == i || r.getD e.on false)
    | none => false]
def reachL (md : Region.Mode) (ops : Array Oper) (i : Nat) : Nat → List Bool
  | 0 => []
  | k + 1 => reachStep md ops i (reachL md ops i k) k
theorem reachL_len (i : Nat) : ∀ k, (reachL md ops i k).length = k
  | 0 => rfl
  | k + 1 => by rw [reachL, reachStep, List.length_append, reachL_len i k]; rfl
theorem reach_waits (i : Nat) : ∀ (k j : Nat), (reachL md ops i k).getD j false = true → waitsT md ops k j i = true
  | 0, j, h => by simp [reachL] at h
  | k + 1, j, h => by
    rw [reachL, reachStep] at h
    rcases Nat.lt_or_ge j k with hj | hj
    · have h2 : (reachL md ops i k).getD j false = true := by
        rw [← h]
        simp only [List.getD_eq_getElem?_getD]
        rw [List.getElem?_append_left (by rw [reachL_len]; exact hj)]
      exact waitsT_mono (Nat.le_succ k) (reach_waits i k j h2)
    · rcases Nat.eq_or_lt_of_le hj with he | hj
      · subst he
        simp only [List.getD_eq_getElem?_getD] at h
        rw [List.getElem?_append_right (by rw [reachL_len]; exact Nat.le_refl _), reachL_len] at h
        simp only [Nat.sub_self, List.getElem?_cons_zero, Option.getD_some] at h
        unfold waitsT
        cases ho : ops[k]? with
        | none => rw [ho] at h; cases h
        | some o =>
          rw [ho] at h
          simp only at h ⊢
          obtain ⟨e, he, h1⟩ := Array.any_eq_true'.1 h
          refine Array.any_eq_true'.2 ⟨e, he, ?_⟩
          simp only [Bool.and_eq_true, Bool.or_eq_true, beq_iff_eq] at h1 ⊢
          exact ⟨h1.1, h1.2.imp id (fun h2 => reach_waits i k e.on (by simpa [List.getD_eq_getElem?_getD] using h2))⟩
      · simp only [List.getD_eq_getElem?_getD] at h
        rw [List.getElem?_eq_none (by rw [List.length_append, reachL_len]; simp; omega)] at h
        cases h
/-- Whoever is not of the set and has not come up waits for i: reckoned fast. -/
def tailFast (md : Region.Mode) (ops : Array Oper) (D : List Nat) (listed : Array Bool) (i : Nat) : Bool :=
  let r := reachL md ops i ops.size
  (List.range ops.size).all fun j => D.contains j || listed.getD j true || r.getD j false
theorem tail_of {D : List Nat} {listed : Array Bool} {i : Nat} (h : tailFast md ops D listed i = true) : tailWaits md ops D listed i = true := by
  unfold tailFast at h
  unfold tailWaits
  rw [List.all_eq_true] at *
  intro j hj
  have h1 := h j hj
  simp only [Bool.or_eq_true] at h1 ⊢
  exact h1.imp id (reach_waits i _ j)
end
section
variable {P : Program} {ops : Array Oper} {Q : Exit → Act → World → Prop} {md : Region.Mode} {S : World → Prop} {D : List Nat}
/-- Take number i first, its guard standing: it yields in every world that meets S. -/
theorem wpAnyG_take {i : Nat} {oi : Oper} {v : Value} {fuel : Nat} {listed : Array Bool} {a : Act} {w : World} (hi : ops[i]? = some oi)
    (hs : Region.noSelect ops = true) (hf : Region.free md ops listed i = true) (hr : (Region.ready md ops listed).contains i = true) (hc : closedB md ops listed = true) (ht : tailFast md ops D listed i = true) (hD : D.contains i = true)
    (hQ : ∀ c a w, Q (.panic c) (a.put oi.dst v) w → Q (.panic c) a w) (hg : Region.wanted oi (yielded ops a.tmps) = true) (hy : ∀ w, S w → (execOp a.eval oi).run P w = .ok (.value v) w) (hS : S w)
    (h : wpAnyU P md ops Q S D fuel (listed.setIfInBounds i true) (a.put oi.dst v) w) : wpAnyU P md ops Q S D (fuel + 1) listed a w :=
  wpAnyU_first (T := S) hi (Region.noSelect_spec hs) hQ (.inr ⟨by simpa using hD, fun _ h => h⟩) fuel listed a w (closed_of hc) (.inr (tail_of ht)) (Region.free_spec hi hf) (by simpa using hr) (.inl ⟨hg, hy⟩) (fun _ => hS) h
/-- Take number i first, its guard standing: it yields in every world. -/
theorem wpAnyG_free {i : Nat} {oi : Oper} {v : Value} {fuel : Nat} {listed : Array Bool} {a : Act} {w : World} (hi : ops[i]? = some oi)
    (hs : Region.noSelect ops = true) (hf : Region.free md ops listed i = true) (hr : (Region.ready md ops listed).contains i = true) (hc : closedB md ops listed = true) (hD : D.contains i = false)
    (hQ : ∀ c a w, Q (.panic c) (a.put oi.dst v) w → Q (.panic c) a w) (hg : Region.wanted oi (yielded ops a.tmps) = true) (hy : ∀ w, (execOp a.eval oi).run P w = .ok (.value v) w) (hS : headDone D listed = true ∨ S w)
    (h : wpAnyU P md ops Q S D fuel (listed.setIfInBounds i true) (a.put oi.dst v) w) : wpAnyU P md ops Q S D (fuel + 1) listed a w :=
  wpAnyU_first (T := fun _ => True) hi (Region.noSelect_spec hs) hQ (.inl fun _ => trivial) fuel listed a w (closed_of hc) (.inl (by simpa using hD)) (Region.free_spec hi hf) (by simpa using hr) (.inl ⟨hg, fun w _ => hy w⟩) (fun h0 => hS.resolve_left (by rw [h0]; simp)) h
theorem wpAnyG_one {i : Nat} {oi : Oper} {fuel : Nat} {listed : Array Bool} {a : Act} {w : World} (hi : ops[i]? = some oi) (hr : Region.ready md ops listed = [i]) (hg : Region.wanted oi (yielded ops a.tmps) = true)
    (h : oi.wp P a w (fun a' w' => (headDone D listed = false → S w') ∧ wpAnyU P md ops Q S D fuel (listed.setIfInBounds i true) a' w') Q) : wpAnyU P md ops Q S D (fuel + 1) listed a w := by
  refine ⟨fun h0 => (by rw [hr] at h0; cases h0), fun j hj => ?_⟩
  rw [hr] at hj
  have hj : j = i := by simpa using hj
  subst hj
  unfold wpOp
  simp only [hi, hg, if_true]
  exact .inl h
theorem wpAnyG_step {i : Nat} {oi : Oper} {fuel : Nat} {listed : Array Bool} {a : Act} {w : World} (hi : ops[i]? = some oi) (hr : Region.ready md ops listed = [i]) (hg : Region.wanted oi (yielded ops a.tmps) = true)
    (h : ∀ K : Act → World → Prop, Shut (∀ a' w', S w' → (S w' → wpAnyU P md ops Q S D fuel (listed.setIfInBounds i true) a' w') → K a' w') → oi.wp P a w K Q) : wpAnyU P md ops Q S D (fuel + 1) listed a w :=
  wpAnyG_one hi hr hg (h _ fun a' w' hS h2 => ⟨fun _ => hS, h2 hS⟩)
theorem wpAnyG_late {i : Nat} {oi : Oper} {fuel : Nat} {listed : Array Bool} {a : Act} {w : World} (hi : ops[i]? = some oi) (hr : Region.ready md ops listed = [i]) (hg : Region.wanted oi (yielded ops a.tmps) = true) (hd : headDone D listed = true)
    (h : ∀ K : Act → World → Prop, Shut (∀ a' w', wpAnyU P md ops Q S D fuel (listed.setIfInBounds i true) a' w' → K a' w') → oi.wp P a w K Q) : wpAnyU P md ops Q S D (fuel + 1) listed a w :=
  wpAnyG_one hi hr hg (h _ fun a' w' h2 => ⟨fun h0 => (by rw [hd] at h0; cases h0), h2⟩)
/-- Two operations may come up, their guards standing. -/
theorem wpAnyG_two {i j : Nat} {oi oj : Oper} {fuel : Nat} {listed : Array Bool} {a : Act} {w : World} (hi : ops[i]? = some oi) (hj : ops[j]? = some oj) (hr : Region.ready md ops listed = [i, j]) (hgi : Region.wanted oi (yielded ops a.tmps) = true) (hgj : Region.wanted oj (yielded ops a.tmps) = true)
    (h1 : ∀ K : Act → World → Prop, Shut (∀ a' w', S w' → (S w' → wpAnyU P md ops Q S D fuel (listed.setIfInBounds i true) a' w') → K a' w') → oi.wp P a w K Q)
    (h2 : ∀ K : Act → World → Prop, Shut (∀ a' w', S w' → (S w' → wpAnyU P md ops Q S D fuel (listed.setIfInBounds j true) a' w') → K a' w') → oj.wp P a w K Q) : wpAnyU P md ops Q S D (fuel + 1) listed a w := by
  refine ⟨fun h0 => (by rw [hr] at h0; cases h0), fun x hx => ?_⟩
  rw [hr] at hx
  rcases (by simpa using hx : x = i ∨ x = j) with rfl | rfl
  · unfold wpOp
    simp only [hi, hgi, if_true]
    exact .inl (h1 _ fun a' w' hS h2 => ⟨fun _ => hS, h2 hS⟩)
  · unfold wpOp
    simp only [hj, hgj, if_true]
    exact .inl (h2 _ fun a' w' hS h2 => ⟨fun _ => hS, h2 hS⟩)
/-- Once all of the set have come up, another condition with another set may be asked. -/
theorem wpAnyU_switch {S' : World → Prop} {D' : List Nat} : ∀ {fuel : Nat} {listed : Array Bool} {a : Act} {w : World}, headDone D listed = true → wpAnyU P md ops Q S' D' fuel listed a w → wpAnyU P md ops Q S D fuel listed a w
  | 0, _, _, _, _, h => h
  | fuel + 1, listed, _, _, hd, h => ⟨h.1, fun i hi => wpOp_mono (fun a' w' h' => ⟨fun h0 => (by rw [hd] at h0; cases h0), wpAnyU_switch (by
      cases e : headDone D (listed.setIfInBounds i true) with
      | true => rfl
      | false => rw [headDone_set e] at hd; cases hd) h'.2⟩) (h.2 i hi)⟩
end
end Go.Proofs.YtokpgopdkimmmaaGreatDoor
