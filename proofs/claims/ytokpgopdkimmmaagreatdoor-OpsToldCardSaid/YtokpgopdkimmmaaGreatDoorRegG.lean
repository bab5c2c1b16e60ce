import Derived.Test.YtokpgopdkimmmaaGreatDoorBase
import Derived.OrdersHeld
import Derived.Deep.RegionHeld
import Derived.StillTail
/- A region that draws its order, with a condition on the world that is asked only until the operations of a set have come up: reads and calls ahead of the stores that end a statement. Plain lemmas over the model's own words. -/
namespace Go.Proofs.YtokpgopdkimmmaaGreatDoor
open Go.RowKit
set_option linter.unusedVariables false

section
variable {P : Program} {ops : Array Oper} {Q : Exit → Act → World → Prop} {md : Region.Mode} {S : World → Prop} {D : List Nat}

/-- Have those of the set come up? -/
def headDone (D : List Nat) (listed : Array Bool) : Bool := D.all fun i => listed.getD i true
theorem headDone_no {i : Nat} {listed : Array Bool} (hi : i ∈ D) (h : listed.getD i true = false) : headDone D listed = false := by
  unfold headDone
  rw [List.all_eq_false]
  exact ⟨i, hi, by rw [h]; simp⟩
theorem getD_set_same (listed : Array Bool) (i : Nat) : (listed.setIfInBounds i true).getD i true = true := by
  by_cases hb : i < listed.size
  · simp [Array.getD_eq_getD_getElem?, hb]
  · simp [Array.getD_eq_getD_getElem?, hb]
theorem headDone_set {i : Nat} {listed : Array Bool} (h : headDone D (listed.setIfInBounds i true) = false) : headDone D listed = false := by
  unfold headDone at *
  rw [List.all_eq_false] at *
  obtain ⟨j, hj, h1⟩ := h
  refine ⟨j, hj, fun h2 => h1 ?_⟩
  by_cases e : i = j
  · subst e; exact getD_set_same _ _
  · rw [getD_set_ne true e]; exact h2
theorem headDone_out {i : Nat} {listed : Array Bool} (hi : i ∉ D) (h : headDone D listed = false) : headDone D (listed.setIfInBounds i true) = false := by
  unfold headDone at *
  rw [List.all_eq_false] at *
  obtain ⟨j, hj, h1⟩ := h
  exact ⟨j, hj, by rw [getD_set_ne true (fun e => hi (by rw [e]; exact hj))]; exact h1⟩

/-- Does j wait for i, through others? -/
def waitsT (md : Region.Mode) (ops : Array Oper) : Nat → Nat → Nat → Bool
  | 0, _, _ => false
  | f + 1, j, i => match ops[j]? with
    | some o => o.after.any fun e => Region.binds md e && (e.on == i || waitsT md ops f e.on i)
    | none => false
def closedB (md : Region.Mode) (ops : Array Oper) (listed : Array Bool) : Bool :=
  (List.range ops.size).all fun j => !listed.getD j false || ((ops[j]?).map fun o => o.after.all fun e => !Region.binds md e || listed.getD e.on false).getD true
def Closed (md : Region.Mode) (ops : Array Oper) (listed : Array Bool) : Prop := ∀ j o, ops[j]? = some o → listed.getD j false = true → ∀ e ∈ o.after, Region.binds md e = true → listed.getD e.on false = true
theorem closed_of {listed : Array Bool} (h : closedB md ops listed = true) : Closed md ops listed := by
  intro j o hj hl e he hb
  unfold closedB at h
  have hlt : j < ops.size := (Array.getElem?_eq_some_iff.1 hj).1
  have h1 := List.all_eq_true.1 h j (List.mem_range.2 hlt)
  rw [hl, hj] at h1
  simp only [Bool.not_true, Bool.false_or, Option.map_some, Option.getD_some] at h1
  have h2 := Array.all_eq_true'.1 h1 e he
  rw [hb] at h2
  simpa using h2
theorem Closed.set {listed : Array Bool} {i : Nat} (h : Closed md ops listed) (hr : i ∈ Region.ready md ops listed) : Closed md ops (listed.setIfInBounds i true) := by
  intro j o hj hl e he hb
  obtain ⟨_, oi, hoi, hall⟩ := mem_ready.1 hr
  by_cases hji : i = j
  · subst hji
    have : o = oi := Option.some.inj (hj.symm.trans hoi)
    subst this
    exact getD_set_true (hall e he hb)
  · rw [getD_set_ne false hji] at hl
    exact getD_set_true (h j o hj hl e he hb)
theorem waits_listed {listed : Array Bool} (hc : Closed md ops listed) : ∀ (f j i : Nat), waitsT md ops f j i = true → (∀ o, ops[j]? = some o → ∀ e ∈ o.after, Region.binds md e = true → listed.getD e.on false = true) → listed.getD i false = true
  | 0, _, _, h, _ => by simp [waitsT] at h
  | f + 1, j, i, h, hj => by
    unfold waitsT at h
    cases ho : ops[j]? with
    | none => rw [ho] at h; simp at h
    | some o =>
      rw [ho] at h
      simp only at h
      obtain ⟨e, he, h1⟩ := Array.any_eq_true'.1 h
      simp only [Bool.and_eq_true, Bool.or_eq_true, beq_iff_eq] at h1
      have h2 := hj o ho e he h1.1
      rcases h1.2 with h3 | h3
      · rw [← h3]; exact h2
      · exact waits_listed hc f e.on i h3 (fun o' ho' e' he' hb' => hc e.on o' ho' h2 e' he' hb')
/-- Whoever is not of the set and has not come up waits for i. -/
def tailWaits (md : Region.Mode) (ops : Array Oper) (D : List Nat) (listed : Array Bool) (i : Nat) : Bool :=
  (List.range ops.size).all fun j => D.contains j || listed.getD j true || waitsT md ops ops.size j i
theorem ready_in {listed : Array Bool} {i j : Nat} (hc : Closed md ops listed) (ht : tailWaits md ops D listed i = true) (hi : listed.getD i true = false) (hj : j ∈ Region.ready md ops listed) : j ∈ D := by
  obtain ⟨hjun, oj, hoj, hall⟩ := mem_ready.1 hj
  have hlt : j < ops.size := (Array.getElem?_eq_some_iff.1 hoj).1
  have h1 := List.all_eq_true.1 ht j (List.mem_range.2 hlt)
  simp only [Bool.or_eq_true, List.contains_iff_mem] at h1
  rcases h1 with (h1 | h1) | h1
  · exact h1
  · rw [hjun] at h1; cases h1
  · have h2 := waits_listed hc _ j i h1 (fun o ho e he hb => by
      have : o = oj := Option.some.inj (ho.symm.trans hoj)
      subst this
      exact hall e he hb)
    rcases Nat.lt_or_ge i listed.size with h' | h'
    · simp [h'] at hi h2; rw [hi] at h2; cases h2
    · simp [Array.getElem?_eq_none h'] at h2

/-- Whatever order is picked from here on; S holds behind each operation, as long as not all of the set have come up ahead of it. -/
def wpAnyU (P : Program) (md : Region.Mode) (ops : Array Oper) (Q : Exit → Act → World → Prop) (S : World → Prop) (D : List Nat) : Nat → Array Bool → Act → World → Prop
  | 0, listed, a, w => Region.ready md ops listed = [] ∧ Q .normal a w
  | fuel + 1, listed, a, w =>
    (Region.ready md ops listed = [] → Q .normal a w) ∧
    ∀ i ∈ Region.ready md ops listed, wpOp P ops Q i (fun a' w' => (headDone D listed = false → S w') ∧ wpAnyU P md ops Q S D fuel (listed.setIfInBounds i true) a' w') a w

theorem wpAny_of_until : ∀ (fuel : Nat) (listed : Array Bool) (a : Act) (w : World), wpAnyU P md ops Q S D fuel listed a w → wpAny P md ops Q fuel listed a w
  | 0, _, _, _, h => h
  | fuel + 1, _, _, _, h => ⟨h.1, fun i hi => wpOp_mono (fun a' w' h' => wpAny_of_until fuel _ a' w' h'.2) (h.2 i hi)⟩

/-- An operation that may come up now may be taken first: one of the set that yields its value in every world that meets S, or one of no set that yields in every world. -/
theorem wpAnyU_first {i : Nat} {oi : Oper} {v : Value} (hi : ops[i]? = some oi) (hsel : ∀ (j : Nat) (o : Oper) cs b, ops[j]? = some o → o.op ≠ .select cs b)
    (hQ : ∀ c a w, Q (.panic c) (a.put oi.dst v) w → Q (.panic c) a w) {T : World → Prop} (hT : (∀ w, T w) ∨ (i ∈ D ∧ ∀ w, S w → T w)) :
    ∀ (fuel : Nat) (listed : Array Bool) (a : Act) (w : World), Closed md ops listed → (i ∉ D ∨ tailWaits md ops D listed i = true) →
      (∀ j oj, ops[j]? = some oj → j ≠ i → listed.getD j true = false → (∀ e ∈ oj.after, Region.binds md e = true → e.on ≠ i) → oi.apart ops oj = true) →
      i ∈ Region.ready md ops listed → YieldsIf P ops T oi v a → (headDone D listed = false → S w) →
      wpAnyU P md ops Q S D fuel (listed.setIfInBounds i true) (a.put oi.dst v) w → wpAnyU P md ops Q S D (fuel + 1) listed a w := by
  have hTw : ∀ listed w, listed.getD i true = false → (headDone D listed = false → S w) → T w := by
    intro listed w hl hS
    rcases hT with h | ⟨h1, h2⟩
    · exact h w
    · exact h2 w (hS (headDone_no h1 hl))
  intro fuel
  induction fuel with
  | zero =>
    intro listed a w _ _ _ hr hy hS H
    refine ⟨fun h => (by rw [h] at hr; cases hr), fun j hj => ?_⟩
    by_cases hji : j = i
    · subst hji; exact hy.wpOp hi (hTw _ _ (mem_ready.1 hr).1 hS) ⟨hS, H⟩
    · have := ready_mono hj hji
      rw [H.1] at this
      cases this
  | succ fuel ih =>
    intro listed a w hcl htw hfree hr hy hS H
    have hun := (mem_ready.1 hr).1
    refine ⟨fun h => (by rw [h] at hr; cases hr), fun j hj => ?_⟩
    by_cases hji : j = i
    · subst hji; exact hy.wpOp hi (hTw _ _ hun hS) ⟨hS, H⟩
    · have h1 := H.2 j (ready_mono hj hji)
      obtain ⟨hjun, oj, hoj, hall⟩ := mem_ready.1 hj
      have hnot : ∀ e ∈ oj.after, Region.binds md e = true → e.on ≠ i := fun e he hb heq => by
        have h1 := hall e he hb
        rw [heq] at h1
        rcases Nat.lt_or_ge i listed.size with h' | h'
        · simp [h'] at hun h1; rw [hun] at h1; cases h1
        · simp [Array.getElem?_eq_none h'] at h1
      have h2 := wpOp_putIf hoj (hfree j oj hoj hji hjun hnot) (fun cs b => hsel i oi cs b hi) (fun cs b => hsel j oj cs b hoj) hQ hy h1
      have hfree' : ∀ k ok, ops[k]? = some ok → k ≠ i → (listed.setIfInBounds j true).getD k true = false →
          (∀ e ∈ ok.after, Region.binds md e = true → e.on ≠ i) → oi.apart ops ok = true := fun k ok hk hki hun hno => by
        refine hfree k ok hk hki ?_ hno
        by_cases hjk : j = k
        · subst hjk; exact hjun
        · rw [getD_set_ne true hjk] at hun; exact hun
      have hhd : headDone D listed = false → headDone D (listed.setIfInBounds i true) = false := fun h => by
        by_cases hiD : i ∈ D
        · have ht : tailWaits md ops D listed i = true := htw.resolve_left (fun h => h hiD)
          have hjD := ready_in hcl ht hun hj
          exact headDone_no hjD (by rw [getD_set_ne true (Ne.symm hji)]; exact hjun)
        · exact headDone_out hiD h
      have htw' : i ∉ D ∨ tailWaits md ops D (listed.setIfInBounds j true) i = true := htw.imp id fun h => by
        unfold tailWaits at *
        rw [List.all_eq_true] at *
        intro k hk
        have h3 := h k hk
        simp only [Bool.or_eq_true] at h3 ⊢
        rcases h3 with (h3 | h3) | h3
        · exact .inl (.inl h3)
        · refine .inl (.inr ?_)
          by_cases e : j = k
          · subst e; exact getD_set_same _ _
          · rw [getD_set_ne true e]; exact h3
        · exact .inr h3
      refine wpOp_mono (fun a' w' h3 => ?_) h2
      refine ⟨fun h => h3.2.1 (hhd h), ih (listed.setIfInBounds j true) a' w' (hcl.set hj) htw' hfree' (ready_mono hr (Ne.symm hji)) h3.1 (fun h => h3.2.1 (hhd (headDone_set h))) ?_⟩
      rw [Array.setIfInBounds_comm _ _ hji]
      exact h3.2.2

/-- Take number i first: it yields in every world that meets S. -/
theorem wpAnyU_take {i : Nat} {oi : Oper} {v : Value} {fuel : Nat} {listed : Array Bool} {a : Act} {w : World} (hi : ops[i]? = some oi)
    (hs : Region.noSelect ops = true) (hf : Region.free md ops listed i = true) (hr : (Region.ready md ops listed).contains i = true) (hc : closedB md ops listed = true) (ht : tailWaits md ops D listed i = true) (hD : D.contains i = true)
    (hQ : ∀ c a w, Q (.panic c) (a.put oi.dst v) w → Q (.panic c) a w) (hg : oi.guard = none) (hy : ∀ w, S w → (execOp a.eval oi).run P w = .ok (.value v) w) (hS : S w)
    (h : wpAnyU P md ops Q S D fuel (listed.setIfInBounds i true) (a.put oi.dst v) w) : wpAnyU P md ops Q S D (fuel + 1) listed a w :=
  wpAnyU_first (T := S) hi (Region.noSelect_spec hs) hQ (.inr ⟨by simpa using hD, fun _ h => h⟩) fuel listed a w (closed_of hc) (.inr ht) (Region.free_spec hi hf) (by simpa using hr) (.inl ⟨by simp [Region.wanted, hg], hy⟩) (fun _ => hS) h
/-- Take number i first: it yields in every world. -/
theorem wpAnyU_free {i : Nat} {oi : Oper} {v : Value} {fuel : Nat} {listed : Array Bool} {a : Act} {w : World} (hi : ops[i]? = some oi)
    (hs : Region.noSelect ops = true) (hf : Region.free md ops listed i = true) (hr : (Region.ready md ops listed).contains i = true) (hc : closedB md ops listed = true) (hD : D.contains i = false)
    (hQ : ∀ c a w, Q (.panic c) (a.put oi.dst v) w → Q (.panic c) a w) (hg : oi.guard = none) (hy : ∀ w, (execOp a.eval oi).run P w = .ok (.value v) w) (hS : headDone D listed = true ∨ S w)
    (h : wpAnyU P md ops Q S D fuel (listed.setIfInBounds i true) (a.put oi.dst v) w) : wpAnyU P md ops Q S D (fuel + 1) listed a w :=
  wpAnyU_first (T := fun _ => True) hi (Region.noSelect_spec hs) hQ (.inl fun _ => trivial) fuel listed a w (closed_of hc) (.inl (by simpa using hD)) (Region.free_spec hi hf) (by simpa using hr) (.inl ⟨by simp [Region.wanted, hg], fun w _ => hy w⟩) (fun h0 => hS.resolve_left (by rw [h0]; simp)) h
/-- The one operation that may come up. -/
theorem wpAnyU_one {i : Nat} {oi : Oper} {fuel : Nat} {listed : Array Bool} {a : Act} {w : World} (hi : ops[i]? = some oi) (hr : Region.ready md ops listed = [i]) (hg : oi.guard = none)
    (h : oi.wp P a w (fun a' w' => (headDone D listed = false → S w') ∧ wpAnyU P md ops Q S D fuel (listed.setIfInBounds i true) a' w') Q) : wpAnyU P md ops Q S D (fuel + 1) listed a w := by
  refine ⟨fun h0 => (by rw [hr] at h0; cases h0), fun j hj => ?_⟩
  rw [hr] at hj
  have hj : j = i := by simpa using hj
  subst hj
  unfold wpOp
  have hw : Region.wanted oi (yielded ops a.tmps) = true := by simp [Region.wanted, hg]
  simp only [hi, hw, if_true]
  exact .inl h
/-- The one operation that may come up, the way on behind a letter: S is shown behind it, and handed on. -/
theorem wpAnyU_step {i : Nat} {oi : Oper} {fuel : Nat} {listed : Array Bool} {a : Act} {w : World} (hi : ops[i]? = some oi) (hr : Region.ready md ops listed = [i]) (hg : oi.guard = none)
    (h : ∀ K : Act → World → Prop, Shut (∀ a' w', S w' → (S w' → wpAnyU P md ops Q S D fuel (listed.setIfInBounds i true) a' w') → K a' w') → oi.wp P a w K Q) : wpAnyU P md ops Q S D (fuel + 1) listed a w :=
  wpAnyU_one hi hr hg (h _ fun a' w' hS h2 => ⟨fun _ => hS, h2 hS⟩)
theorem wpAnyU_late {i : Nat} {oi : Oper} {fuel : Nat} {listed : Array Bool} {a : Act} {w : World} (hi : ops[i]? = some oi) (hr : Region.ready md ops listed = [i]) (hg : oi.guard = none) (hd : headDone D listed = true)
    (h : ∀ K : Act → World → Prop, Shut (∀ a' w', wpAnyU P md ops Q S D fuel (listed.setIfInBounds i true) a' w' → K a' w') → oi.wp P a w K Q) : wpAnyU P md ops Q S D (fuel + 1) listed a w :=
  wpAnyU_one hi hr hg (h _ fun a' w' h2 => ⟨fun h0 => (by rw [hd] at h0; cases h0), h2⟩)
theorem wpAnyU_done {listed : Array Bool} {a : Act} {w : World} (hr : Region.ready md ops listed = []) (h : Q .normal a w) : ∀ fuel, wpAnyU P md ops Q S D fuel listed a w
  | 0 => ⟨hr, h⟩
  | _ + 1 => ⟨fun _ => h, by rw [hr]; simp⟩
/-- The rest comes up in the order of the text. -/
theorem wpAnyU_seq : ∀ (l : List Oper) (k : Nat) (listed : Array Bool) (a : Act) (w : World), (∀ j, l[j]? = ops[k + j]?) → headDone D listed = true →
    Region.seqB md ops l.length k listed = true → wpList P ops Q l a w → wpAnyU P md ops Q S D l.length listed a w
  | [], _, _, _, _, _, _, hB, h => ⟨by simpa [Region.seqB] using hB, h⟩
  | o :: l, k, listed, a, w, hl, hd, hB, h => by
    have h0 : ops[k]? = some o := by simpa using (hl 0).symm
    simp only [List.length_cons, Region.seqB, Bool.and_eq_true, decide_eq_true_eq] at hB
    have hd' : headDone D (listed.setIfInBounds k true) = true := by
      cases e : headDone D (listed.setIfInBounds k true) with
      | true => rfl
      | false => rw [headDone_set e] at hd; cases hd
    refine ⟨fun h1 => (by rw [hB.1] at h1; cases h1), fun i hi => ?_⟩
    rw [hB.1] at hi
    have hik : i = k := by simpa using hi
    subst hik
    have hw : wpOp P ops Q i (wpList P ops Q l) a w := by unfold wpOp; simp only [h0]; exact h
    exact wpOp_mono (fun a' w' h' => ⟨fun h2 => (by rw [hd] at h2; cases h2), wpAnyU_seq l (i + 1) _ a' w' (fun j => by have := hl (j + 1); simpa [Nat.add_assoc, Nat.add_comm 1 j] using this) hd' hB.2 h'⟩) hw
theorem wpAnyU_rest (l : List Oper) (k : Nat) {listed : Array Bool} {a : Act} {w : World} (n : Nat) (hn : n = l.length) (hl : l = ops.toList.drop k) (hd : headDone D listed = true) (hB : Region.seqB md ops n k listed = true) (h : wpList P ops Q l a w) : wpAnyU P md ops Q S D n listed a w := by
  subst hn hl
  exact wpAnyU_seq _ k listed a w (fun j => by rw [List.getElem?_drop]; simp) hd hB h
theorem wp_region_until {id : Nat} {a : Act} {w : World} (S : World → Prop) (D : List Nat) (hm : P.follows .mixedOrders = true)
    (h : wpAnyU P .any ops Q S D ops.size (Array.replicate ops.size false) a w.drew) : (Code.region id ops true).wp P Q a w :=
  wp_region_any hm (wpAny_of_until _ _ _ _ h)
end
end Go.Proofs.YtokpgopdkimmmaaGreatDoor
/- XRegionU's steps for operations that bear a guard. -/
namespace Go.Proofs.YtokpgopdkimmmaaGreatDoor
open Go.RowKit
set_option linter.unusedVariables false

section
variable {md : Region.Mode} {ops : Array Oper}
theorem waitsT_mono : ∀ {f g j i : Nat}, f ≤ g → waitsT md ops f j i = true → waitsT md ops g j i = true
  | 0, _, _, _, _, h => by simp [waitsT] at h
  | f + 1, 0, _, _, hg, _ => by omega
  | f + 1, g + 1, j, i, hg, h => by
    unfold waitsT at h ⊢
    cases ho : ops[j]? with
    | none => rw [ho] at h; simp at h
    | some o =>
      rw [ho] at h
      simp only at h ⊢
      obtain ⟨e, he, h1⟩ := Array.any_eq_true'.1 h
      refine Array.any_eq_true'.2 ⟨e, he, ?_⟩
      simp only [Bool.and_eq_true, Bool.or_eq_true, beq_iff_eq] at h1 ⊢
      exact ⟨h1.1, h1.2.imp id (waitsT_mono (by omega))⟩
/-- Who waits for i, reckoned once for each operation, in the text's order. -/
def reachStep (md : Region.Mode) (ops : Array Oper) (i : Nat) (r : List Bool) (j : Nat) : List Bool :=
  r ++ [match ops[j]? with
    | some o => o.after.any fun e => Region.binds md e && (e.on == i || r.getD e.on false)
    | none => false]
def reachL (md : Region.Mode) (ops : Array Oper) (i : Nat) : Nat → List Bool
  | 0 => []
  | k + 1 => reachStep md ops i (reachL md ops i k) k
theorem reachL_len (i : Nat) : ∀ k, (reachL md ops i k).length = k
  | 0 => rfl
  | k + 1 => by rw [reachL, reachStep, List.length_append, reachL_len i k]; rfl
theorem reach_waits (i : Nat) : ∀ (k j : Nat), (reachL md ops i k).getD j false = true → waitsT md ops k j i = true
  | 0, j, h => by simp [reachL] at h
  | k + 1, j, h => by
    rw [reachL, reachStep] at h
    rcases Nat.lt_or_ge j k with hj | hj
    · have h2 : (reachL md ops i k).getD j false = true := by
        rw [← h]
        simp only [List.getD_eq_getElem?_getD]
        rw [List.getElem?_append_left (by rw [reachL_len]; exact hj)]
      exact waitsT_mono (Nat.le_succ k) (reach_waits i k j h2)
    · rcases Nat.eq_or_lt_of_le hj with he | hj
      · subst he
        simp only [List.getD_eq_getElem?_getD] at h
        rw [List.getElem?_append_right (by rw [reachL_len]; exact Nat.le_refl _), reachL_len] at h
        simp only [Nat.sub_self, List.getElem?_cons_zero, Option.getD_some] at h
        unfold waitsT
        cases ho : ops[k]? with
        | none => rw [ho] at h; cases h
        | some o =>
          rw [ho] at h
          simp only at h ⊢
          obtain ⟨e, he, h1⟩ := Array.any_eq_true'.1 h
          refine Array.any_eq_true'.2 ⟨e, he, ?_⟩
          simp only [Bool.and_eq_true, Bool.or_eq_true, beq_iff_eq] at h1 ⊢
          exact ⟨h1.1, h1.2.imp id (fun h2 => reach_waits i k e.on (by simpa [List.getD_eq_getElem?_getD] using h2))⟩
      · simp only [List.getD_eq_getElem?_getD] at h
        rw [List.getElem?_eq_none (by rw [List.length_append, reachL_len]; simp; omega)] at h
        cases h
/-- Whoever is not of the set and has not come up waits for i: reckoned fast. -/
def tailFast (md : Region.Mode) (ops : Array Oper) (D : List Nat) (listed : Array Bool) (i : Nat) : Bool :=
  let r := reachL md ops i ops.size
  (List.range ops.size).all fun j => D.contains j || listed.getD j true || r.getD j false
theorem tail_of {D : List Nat} {listed : Array Bool} {i : Nat} (h : tailFast md ops D listed i = true) : tailWaits md ops D listed i = true := by
  unfold tailFast at h
  unfold tailWaits
  rw [List.all_eq_true] at *
  intro j hj
  have h1 := h j hj
  simp only [Bool.or_eq_true] at h1 ⊢
  exact h1.imp id (reach_waits i _ j)
end
section
variable {P : Program} {ops : Array Oper} {Q : Exit → Act → World → Prop} {md : Region.Mode} {S : World → Prop} {D : List Nat}
/-- Take number i first, its guard standing: it yields in every world that meets S. -/
theorem wpAnyG_take {i : Nat} {oi : Oper} {v : Value} {fuel : Nat} {listed : Array Bool} {a : Act} {w : World} (hi : ops[i]? = some oi)
    (hs : Region.noSelect ops = true) (hf : Region.free md ops listed i = true) (hr : (Region.ready md ops listed).contains i = true) (hc : closedB md ops listed = true) (ht : tailFast md ops D listed i = true) (hD : D.contains i = true)
    (hQ : ∀ c a w, Q (.panic c) (a.put oi.dst v) w → Q (.panic c) a w) (hg : Region.wanted oi (yielded ops a.tmps) = true) (hy : ∀ w, S w → (execOp a.eval oi).run P w = .ok (.value v) w) (hS : S w)
    (h : wpAnyU P md ops Q S D fuel (listed.setIfInBounds i true) (a.put oi.dst v) w) : wpAnyU P md ops Q S D (fuel + 1) listed a w :=
  wpAnyU_first (T := S) hi (Region.noSelect_spec hs) hQ (.inr ⟨by simpa using hD, fun _ h => h⟩) fuel listed a w (closed_of hc) (.inr (tail_of ht)) (Region.free_spec hi hf) (by simpa using hr) (.inl ⟨hg, hy⟩) (fun _ => hS) h
/-- Take number i first, its guard standing: it yields in every world. -/
theorem wpAnyG_free {i : Nat} {oi : Oper} {v : Value} {fuel : Nat} {listed : Array Bool} {a : Act} {w : World} (hi : ops[i]? = some oi)
    (hs : Region.noSelect ops = true) (hf : Region.free md ops listed i = true) (hr : (Region.ready md ops listed).contains i = true) (hc : closedB md ops listed = true) (hD : D.contains i = false)
    (hQ : ∀ c a w, Q (.panic c) (a.put oi.dst v) w → Q (.panic c) a w) (hg : Region.wanted oi (yielded ops a.tmps) = true) (hy : ∀ w, (execOp a.eval oi).run P w = .ok (.value v) w) (hS : headDone D listed = true ∨ S w)
    (h : wpAnyU P md ops Q S D fuel (listed.setIfInBounds i true) (a.put oi.dst v) w) : wpAnyU P md ops Q S D (fuel + 1) listed a w :=
  wpAnyU_first (T := fun _ => True) hi (Region.noSelect_spec hs) hQ (.inl fun _ => trivial) fuel listed a w (closed_of hc) (.inl (by simpa using hD)) (Region.free_spec hi hf) (by simpa using hr) (.inl ⟨hg, fun w _ => hy w⟩) (fun h0 => hS.resolve_left (by rw [h0]; simp)) h
theorem wpAnyG_one {i : Nat} {oi : Oper} {fuel : Nat} {listed : Array Bool} {a : Act} {w : World} (hi : ops[i]? = some oi) (hr : Region.ready md ops listed = [i]) (hg : Region.wanted oi (yielded ops a.tmps) = true)
    (h : oi.wp P a w (fun a' w' => (headDone D listed = false → S w') ∧ wpAnyU P md ops Q S D fuel (listed.setIfInBounds i true) a' w') Q) : wpAnyU P md ops Q S D (fuel + 1) listed a w := by
  refine ⟨fun h0 => (by rw [hr] at h0; cases h0), fun j hj => ?_⟩
  rw [hr] at hj
  have hj : j = i := by simpa using hj
  subst hj
  unfold wpOp
  simp only [hi, hg, if_true]
  exact .inl h
theorem wpAnyG_step {i : Nat} {oi : Oper} {fuel : Nat} {listed : Array Bool} {a : Act} {w : World} (hi : ops[i]? = some oi) (hr : Region.ready md ops listed = [i]) (hg : Region.wanted oi (yielded ops a.tmps) = true)
    (h : ∀ K : Act → World → Prop, Shut (∀ a' w', S w' → (S w' → wpAnyU P md ops Q S D fuel (listed.setIfInBounds i true) a' w') → K a' w') → oi.wp P a w K Q) : wpAnyU P md ops Q S D (fuel + 1) listed a w :=
  wpAnyG_one hi hr hg (h _ fun a' w' hS h2 => ⟨fun _ => hS, h2 hS⟩)
theorem wpAnyG_late {i : Nat} {oi : Oper} {fuel : Nat} {listed : Array Bool} {a : Act} {w : World} (hi : ops[i]? = some oi) (hr : Region.ready md ops listed = [i]) (hg : Region.wanted oi (yielded ops a.tmps) = true) (hd : headDone D listed = true)
    (h : ∀ K : Act → World → Prop, Shut (∀ a' w', wpAnyU P md ops Q S D fuel (listed.setIfInBounds i true) a' w' → K a' w') → oi.wp P a w K Q) : wpAnyU P md ops Q S D (fuel + 1) listed a w :=
  wpAnyG_one hi hr hg (h _ fun a' w' h2 => ⟨fun h0 => (by rw [hd] at h0; cases h0), h2⟩)
/-- Two operations may come up, their guards standing. -/
theorem wpAnyG_two {i j : Nat} {oi oj : Oper} {fuel : Nat} {listed : Array Bool} {a : Act} {w : World} (hi : ops[i]? = some oi) (hj : ops[j]? = some oj) (hr : Region.ready md ops listed = [i, j]) (hgi : Region.wanted oi (yielded ops a.tmps) = true) (hgj : Region.wanted oj (yielded ops a.tmps) = true)
    (h1 : ∀ K : Act → World → Prop, Shut (∀ a' w', S w' → (S w' → wpAnyU P md ops Q S D fuel (listed.setIfInBounds i true) a' w') → K a' w') → oi.wp P a w K Q)
    (h2 : ∀ K : Act → World → Prop, Shut (∀ a' w', S w' → (S w' → wpAnyU P md ops Q S D fuel (listed.setIfInBounds j true) a' w') → K a' w') → oj.wp P a w K Q) : wpAnyU P md ops Q S D (fuel + 1) listed a w := by
  refine ⟨fun h0 => (by rw [hr] at h0; cases h0), fun x hx => ?_⟩
  rw [hr] at hx
  rcases (by simpa using hx : x = i ∨ x = j) with rfl | rfl
  · unfold wpOp
    simp only [hi, hgi, if_true]
    exact .inl (h1 _ fun a' w' hS h2 => ⟨fun _ => hS, h2 hS⟩)
  · unfold wpOp
    simp only [hj, hgj, if_true]
    exact .inl (h2 _ fun a' w' hS h2 => ⟨fun _ => hS, h2 hS⟩)
/-- Once all of the set have come up, another condition with another set may be asked. -/
theorem wpAnyU_switch {S' : World → Prop} {D' : List Nat} : ∀ {fuel : Nat} {listed : Array Bool} {a : Act} {w : World}, headDone D listed = true → wpAnyU P md ops Q S' D' fuel listed a w → wpAnyU P md ops Q S D fuel listed a w
  | 0, _, _, _, _, h => h
  | fuel + 1, listed, _, _, hd, h => ⟨h.1, fun i hi => wpOp_mono (fun a' w' h' => ⟨fun h0 => (by rw [hd] at h0; cases h0), wpAnyU_switch (by
      cases e : headDone D (listed.setIfInBounds i true) with
      | true => rfl
      | false => rw [headDone_set e] at hd; cases hd) h'.2⟩) (h.2 i hi)⟩
end
end Go.Proofs.YtokpgopdkimmmaaGreatDoor
