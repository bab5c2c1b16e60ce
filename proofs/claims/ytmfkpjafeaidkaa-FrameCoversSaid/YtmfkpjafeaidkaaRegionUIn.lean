/- XRegionU's words within a fence, and so within a round of a range over a function. Plain lemmas over the model's own words. -/
import Derived.Test.YtmfkpjafeaidkaaRegionU
import Derived.OrdersIn
import Derived.OwnWalkIn
namespace Go.Proofs.Ytmfkpjafeaidkaa
open Go.RowKit
set_option linter.unusedVariables false

section
variable {F : Fence} {N : Nat} {P : Program} {ops : Array Oper} {Q : Exit → Act → World → Prop} {md : Region.Mode} {S : World → Prop} {D : List Nat}

def isDefer (o : Oper) : Bool := match o.op with
  | .defer _ => true
  | _ => false
def noDefer (ops : Array Oper) : Bool := ops.toList.all fun o => !isDefer o
theorem noDefer_spec (h : noDefer ops = true) {j : Nat} {o : Oper} (hj : ops[j]? = some o) : ∀ c, o.op ≠ .defer c := by
  intro c e
  unfold noDefer at h
  have h1 := List.all_eq_true.1 h o (by obtain ⟨hl, rfl⟩ := Array.getElem?_eq_some_iff.1 hj; exact Array.getElem_mem_toList hl)
  unfold isDefer at h1
  rw [e] at h1
  simp at h1
theorem yieldsIf_in (hFn : ∀ f, F.fn f) (hnd : noDefer ops = true) {T : World → Prop} {i : Nat} {o : Oper} {v : Value} {a : Act} (hi : ops[i]? = some o) (hy : YieldsIf P ops T o v a)
    {K : Act → World → Prop} {w : World} (hS : T w) (h : K (a.put o.dst v) w) : wpOpIn F N P ops Q i K a w := by
  unfold wpOpIn
  simp only [hi]
  rcases hy with ⟨hw, hv⟩ | ⟨hw, rfl⟩
  · simp only [hw, if_true, Oper.wpIn, Oper.semAt_plain F _ _ (noDefer_spec hnd hi), hv w hS, Oper.uponIn]; exact ⟨fun f _ => hFn f, h⟩
  · simp only [hw, Bool.false_eq_true, if_false]; exact ⟨fun f _ => hFn f, h⟩
theorem wpOpIn_putIf (hFn : ∀ f, F.fn f) (hnd : noDefer ops = true) {T : World → Prop} {j : Nat} {oi oj : Oper} {v : Value} (hj : ops[j]? = some oj) (hap : oi.apart ops oj = true)
    (hsi : ∀ cs b, oi.op ≠ .select cs b) (hsj : ∀ cs b, oj.op ≠ .select cs b)
    (hQ : ∀ c a w, Q (.panic c) (a.put oi.dst v) w → Q (.panic c) a w) {K : Act → World → Prop} {a : Act} {w : World}
    (hy : YieldsIf P ops T oi v a) (h : wpOpIn F N P ops Q j K (a.put oi.dst v) w) :
    wpOpIn F N P ops Q j (fun a' w' => YieldsIf P ops T oi v a' ∧ K (a'.put oi.dst v) w') a w := by
  obtain ⟨h1, h2, h3⟩ := Oper.apart_spec hap
  have keep : ∀ (a : Act), YieldsIf P ops T oi v a → ∀ u, YieldsIf P ops T oi v (a.put oj.dst u) := fun a hy u =>
    hy.of_same (execOp_put oi hsi a oj.dst u h3) (wanted_put oi a oj.dst u h3)
  have keepD : ∀ d, YieldsIf P ops T oi v { a with defers := d :: a.defers } := fun d => hy.of_same rfl rfl
  have hnj := noDefer_spec hnd hj
  unfold wpOpIn at *
  simp only [hj] at *
  rw [wanted_put oj a oi.dst v h1] at h
  split
  · rename_i hw
    simp only [hw, if_true] at h
    unfold Oper.wpIn at *
    refine ⟨fun f _ => hFn f, ?_⟩
    have h := h.2
    rw [Oper.semAt_plain F _ _ hnj, execOp_put oj hsj a oi.dst v h1] at h
    rw [Oper.semAt_plain F _ _ hnj]
    generalize (execOp a.eval oj).run P w = r at *
    cases r with
    | ok x w' =>
      cases x <;> simp only [Oper.uponIn] at h ⊢
      case value u => exact ⟨keep a hy u, by rw [← Act.put_comm a v u h2]; exact h⟩
      case skip => exact ⟨keep a hy _, by rw [← Act.put_comm a v undef h2]; exact h⟩
      case defer d =>
        refine ⟨keep _ (keepD d) _, ?_⟩
        rw [← Act.put_comm _ v undef h2, ← Act.put_defers]
        exact h
      case enter f args =>
        refine ⟨h.1, CallsIn.mono h.2 fun e w'' he => ?_⟩
        cases e with
        | returned u => exact ⟨keep a hy u, by rw [← Act.put_comm a v u h2]; exact he⟩
        | panicked c => exact hQ _ _ _ he
        | outgrown => exact he
      case row row args => exact ⟨h.1, RowsIn.mono h.2 fun u w'' he => ⟨keep a hy u, by rw [← Act.put_comm a v u h2]; exact he⟩⟩
      case round l f tmps assign body =>
        refine ⟨h.1, RoundIn.mono h.2 fun e w'' he => ?_⟩
        cases e with
        | returned u => exact ⟨keep a hy u, by rw [← Act.put_comm a v u h2]; exact he⟩
        | panicked c => exact hQ _ _ _ he
        | outgrown => exact he
    | halt x w' =>
      cases x <;> simp only [Oper.uponIn] at h ⊢
      case panic u => exact hQ _ _ _ h
  · rename_i hw
    simp only [hw] at h
    exact ⟨fun f _ => hFn f, keep a hy _, by rw [← Act.put_comm a v undef h2]; exact h.2⟩

/-- Whatever order is picked from here on; S holds behind each operation, as long as not all of the set have come up ahead of it. -/
def wpAnyUI (F : Fence) (N : Nat) (P : Program) (md : Region.Mode) (ops : Array Oper) (Q : Exit → Act → World → Prop) (S : World → Prop) (D : List Nat) : Nat → Array Bool → Act → World → Prop
  | 0, listed, a, w => Region.ready md ops listed = [] ∧ Q .normal a w
  | fuel + 1, listed, a, w =>
    (Region.ready md ops listed = [] → Q .normal a w) ∧
    ∀ i ∈ Region.ready md ops listed, wpOpIn F N P ops Q i (fun a' w' => (headDone D listed = false → S w') ∧ wpAnyUI F N P md ops Q S D fuel (listed.setIfInBounds i true) a' w') a w

theorem wpAnyIn_of_until : ∀ (fuel : Nat) (listed : Array Bool) (a : Act) (w : World), wpAnyUI F N P md ops Q S D fuel listed a w → wpAnyIn F N P md ops Q fuel listed a w
  | 0, _, _, _, h => h
  | fuel + 1, _, _, _, h => ⟨h.1, fun i hi => wpOpIn_mono (fun a' w' h' => wpAnyIn_of_until fuel _ a' w' h'.2) (h.2 i hi)⟩

/-- An operation that may come up now may be taken first: one of the set that yields its value in every world that meets S, or one of no set that yields in every world. -/
theorem wpAnyUI_first (hFn : ∀ f, F.fn f) (hnd : noDefer ops = true) {i : Nat} {oi : Oper} {v : Value} (hi : ops[i]? = some oi) (hsel : ∀ (j : Nat) (o : Oper) cs b, ops[j]? = some o → o.op ≠ .select cs b)
    (hQ : ∀ c a w, Q (.panic c) (a.put oi.dst v) w → Q (.panic c) a w) {T : World → Prop} (hT : (∀ w, T w) ∨ (i ∈ D ∧ ∀ w, S w → T w)) :
    ∀ (fuel : Nat) (listed : Array Bool) (a : Act) (w : World), Closed md ops listed → (i ∉ D ∨ tailWaits md ops D listed i = true) →
      (∀ j oj, ops[j]? = some oj → j ≠ i → listed.getD j true = false → (∀ e ∈ oj.after, Region.binds md e = true → e.on ≠ i) → oi.apart ops oj = true) →
      i ∈ Region.ready md ops listed → YieldsIf P ops T oi v a → (headDone D listed = false → S w) →
      wpAnyUI F N P md ops Q S D fuel (listed.setIfInBounds i true) (a.put oi.dst v) w → wpAnyUI F N P md ops Q S D (fuel + 1) listed a w := by
  have hTw : ∀ listed w, listed.getD i true = false → (headDone D listed = false → S w) → T w := by
    intro listed w hl hS
    rcases hT with h | ⟨h1, h2⟩
    · exact h w
    · exact h2 w (hS (headDone_no h1 hl))
  intro fuel
  induction fuel with
  | zero =>
    intro listed a w _ _ _ hr hy hS H
    refine ⟨fun h => (by rw [h] at hr; cases hr), fun j hj => ?_⟩
    by_cases hji : j = i
    · subst hji; exact yieldsIf_in hFn hnd hi hy (hTw _ _ (mem_ready.1 hr).1 hS) ⟨hS, H⟩
    · have := ready_mono hj hji
      rw [H.1] at this
      cases this
  | succ fuel ih =>
    intro listed a w hcl htw hfree hr hy hS H
    have hun := (mem_ready.1 hr).1
    refine ⟨fun h => (by rw [h] at hr; cases hr), fun j hj => ?_⟩
    by_cases hji : j = i
    · subst hji; exact yieldsIf_in hFn hnd hi hy (hTw _ _ hun hS) ⟨hS, H⟩
    · have h1 := H.2 j (ready_mono hj hji)
      obtain ⟨hjun, oj, hoj, hall⟩ := mem_ready.1 hj
      have hnot : ∀ e ∈ oj.after, Region.binds md e = true → e.on ≠ i := fun e he hb heq => by
        have h1 := hall e he hb
        rw [heq] at h1
        rcases Nat.lt_or_ge i listed.size with h' | h'
        · simp [h'] at hun h1; rw [hun] at h1; cases h1
        · simp [Array.getElem?_eq_none h'] at h1
      have h2 := wpOpIn_putIf hFn hnd hoj (hfree j oj hoj hji hjun hnot) (fun cs b => hsel i oi cs b hi) (fun cs b => hsel j oj cs b hoj) hQ hy h1
      have hfree' : ∀ k ok, ops[k]? = some ok → k ≠ i → (listed.setIfInBounds j true).getD k true = false →
          (∀ e ∈ ok.after, Region.binds md e = true → e.on ≠ i) → oi.apart ops ok = true := fun k ok hk hki hun hno => by
        refine hfree k ok hk hki ?_ hno
        by_cases hjk : j = k
        · subst hjk; exact hjun
        · rw [getD_set_ne true hjk] at hun; exact hun
      have hhd : headDone D listed = false → headDone D (listed.setIfInBounds i true) = false := fun h => by
        by_cases hiD : i ∈ D
        · have ht : tailWaits md ops D listed i = true := htw.resolve_left (fun h => h hiD)
          have hjD := ready_in hcl ht hun hj
          exact headDone_no hjD (by rw [getD_set_ne true (Ne.symm hji)]; exact hjun)
        · exact headDone_out hiD h
      have htw' : i ∉ D ∨ tailWaits md ops D (listed.setIfInBounds j true) i = true := htw.imp id fun h => by
        unfold tailWaits at *
        rw [List.all_eq_true] at *
        intro k hk
        have h3 := h k hk
        simp only [Bool.or_eq_true] at h3 ⊢
        rcases h3 with (h3 | h3) | h3
        · exact .inl (.inl h3)
        · refine .inl (.inr ?_)
          by_cases e : j = k
          · subst e; exact getD_set_same _ _
          · rw [getD_set_ne true e]; exact h3
        · exact .inr h3
      refine wpOpIn_mono (fun a' w' h3 => ?_) h2
      refine ⟨fun h => h3.2.1 (hhd h), ih (listed.setIfInBounds j true) a' w' (hcl.set hj) htw' hfree' (ready_mono hr (Ne.symm hji)) h3.1 (fun h => h3.2.1 (hhd (headDone_set h))) ?_⟩
      rw [Array.setIfInBounds_comm _ _ hji]
      exact h3.2.2

/-- Take number i first: it yields in every world that meets S. -/
theorem wpAnyUI_take (hFn : ∀ f, F.fn f) (hnd : noDefer ops = true) {i : Nat} {oi : Oper} {v : Value} {fuel : Nat} {listed : Array Bool} {a : Act} {w : World} (hi : ops[i]? = some oi)
    (hs : Region.noSelect ops = true) (hf : Region.free md ops listed i = true) (hr : (Region.ready md ops listed).contains i = true) (hc : closedB md ops listed = true) (ht : tailWaits md ops D listed i = true) (hD : D.contains i = true)
    (hQ : ∀ c a w, Q (.panic c) (a.put oi.dst v) w → Q (.panic c) a w) (hg : oi.guard = none) (hy : ∀ w, S w → (execOp a.eval oi).run P w = .ok (.value v) w) (hS : S w)
    (h : wpAnyUI F N P md ops Q S D fuel (listed.setIfInBounds i true) (a.put oi.dst v) w) : wpAnyUI F N P md ops Q S D (fuel + 1) listed a w :=
  wpAnyUI_first hFn hnd (T := S) hi (Region.noSelect_spec hs) hQ (.inr ⟨by simpa using hD, fun _ h => h⟩) fuel listed a w (closed_of hc) (.inr ht) (Region.free_spec hi hf) (by simpa using hr) (.inl ⟨by simp [Region.wanted, hg], hy⟩) (fun _ => hS) h
/-- Take number i first: it yields in every world. -/
theorem wpAnyUI_free (hFn : ∀ f, F.fn f) (hnd : noDefer ops = true) {i : Nat} {oi : Oper} {v : Value} {fuel : Nat} {listed : Array Bool} {a : Act} {w : World} (hi : ops[i]? = some oi)
    (hs : Region.noSelect ops = true) (hf : Region.free md ops listed i = true) (hr : (Region.ready md ops listed).contains i = true) (hc : closedB md ops listed = true) (hD : D.contains i = false)
    (hQ : ∀ c a w, Q (.panic c) (a.put oi.dst v) w → Q (.panic c) a w) (hg : oi.guard = none) (hy : ∀ w, (execOp a.eval oi).run P w = .ok (.value v) w) (hS : headDone D listed = true ∨ S w)
    (h : wpAnyUI F N P md ops Q S D fuel (listed.setIfInBounds i true) (a.put oi.dst v) w) : wpAnyUI F N P md ops Q S D (fuel + 1) listed a w :=
  wpAnyUI_first hFn hnd (T := fun _ => True) hi (Region.noSelect_spec hs) hQ (.inl fun _ => trivial) fuel listed a w (closed_of hc) (.inl (by simpa using hD)) (Region.free_spec hi hf) (by simpa using hr) (.inl ⟨by simp [Region.wanted, hg], fun w _ => hy w⟩) (fun h0 => hS.resolve_left (by rw [h0]; simp)) h
/-- The one operation that may come up. -/
theorem wpAnyUI_one {i : Nat} {oi : Oper} {fuel : Nat} {listed : Array Bool} {a : Act} {w : World} (hi : ops[i]? = some oi) (hr : Region.ready md ops listed = [i]) (hg : oi.guard = none)
    (h : oi.wpIn F N P a w (fun a' w' => (headDone D listed = false → S w') ∧ wpAnyUI F N P md ops Q S D fuel (listed.setIfInBounds i true) a' w') Q) : wpAnyUI F N P md ops Q S D (fuel + 1) listed a w := by
  refine ⟨fun h0 => (by rw [hr] at h0; cases h0), fun j hj => ?_⟩
  rw [hr] at hj
  have hj : j = i := by simpa using hj
  subst hj
  unfold wpOpIn
  have hw : Region.wanted oi (yielded ops a.tmps) = true := by simp [Region.wanted, hg]
  simp only [hi, hw, if_true]
  exact h
/-- The one operation that may come up, the way on behind a letter: S is shown behind it, and handed on. -/
theorem wpAnyUI_step {i : Nat} {oi : Oper} {fuel : Nat} {listed : Array Bool} {a : Act} {w : World} (hi : ops[i]? = some oi) (hr : Region.ready md ops listed = [i]) (hg : oi.guard = none)
    (h : ∀ K : Act → World → Prop, Shut (∀ a' w', S w' → (S w' → wpAnyUI F N P md ops Q S D fuel (listed.setIfInBounds i true) a' w') → K a' w') → oi.wpIn F N P a w K Q) : wpAnyUI F N P md ops Q S D (fuel + 1) listed a w :=
  wpAnyUI_one hi hr hg (h _ fun a' w' hS h2 => ⟨fun _ => hS, h2 hS⟩)
theorem wpAnyUI_late {i : Nat} {oi : Oper} {fuel : Nat} {listed : Array Bool} {a : Act} {w : World} (hi : ops[i]? = some oi) (hr : Region.ready md ops listed = [i]) (hg : oi.guard = none) (hd : headDone D listed = true)
    (h : ∀ K : Act → World → Prop, Shut (∀ a' w', wpAnyUI F N P md ops Q S D fuel (listed.setIfInBounds i true) a' w' → K a' w') → oi.wpIn F N P a w K Q) : wpAnyUI F N P md ops Q S D (fuel + 1) listed a w :=
  wpAnyUI_one hi hr hg (h _ fun a' w' h2 => ⟨fun h0 => (by rw [hd] at h0; cases h0), h2⟩)
theorem wpAnyUI_done {listed : Array Bool} {a : Act} {w : World} (hr : Region.ready md ops listed = []) (h : Q .normal a w) : ∀ fuel, wpAnyUI F N P md ops Q S D fuel listed a w
  | 0 => ⟨hr, h⟩
  | _ + 1 => ⟨fun _ => h, by rw [hr]; simp⟩
/-- The rest comes up in the order of the text. -/
theorem wpAnyUI_seq : ∀ (l : List Oper) (k : Nat) (listed : Array Bool) (a : Act) (w : World), (∀ j, l[j]? = ops[k + j]?) → headDone D listed = true →
    Region.seqB md ops l.length k listed = true → wpListIn F N P ops Q l a w → wpAnyUI F N P md ops Q S D l.length listed a w
  | [], _, _, _, _, _, _, hB, h => ⟨by simpa [Region.seqB] using hB, h⟩
  | o :: l, k, listed, a, w, hl, hd, hB, h => by
    have h0 : ops[k]? = some o := by simpa using (hl 0).symm
    simp only [List.length_cons, Region.seqB, Bool.and_eq_true, decide_eq_true_eq] at hB
    have hd' : headDone D (listed.setIfInBounds k true) = true := by
      cases e : headDone D (listed.setIfInBounds k true) with
      | true => rfl
      | false => rw [headDone_set e] at hd; cases hd
    refine ⟨fun h1 => (by rw [hB.1] at h1; cases h1), fun i hi => ?_⟩
    rw [hB.1] at hi
    have hik : i = k := by simpa using hi
    subst hik
    have hw : wpOpIn F N P ops Q i (wpListIn F N P ops Q l) a w := by unfold wpOpIn; simp only [h0]; exact h
    exact wpOpIn_mono (fun a' w' h' => ⟨fun h2 => (by rw [hd] at h2; cases h2), wpAnyUI_seq l (i + 1) _ a' w' (fun j => by have := hl (j + 1); simpa [Nat.add_assoc, Nat.add_comm 1 j] using this) hd' hB.2 h'⟩) hw
theorem wpAnyUI_rest (l : List Oper) (k : Nat) {listed : Array Bool} {a : Act} {w : World} (n : Nat) (hn : n = l.length) (hl : l = ops.toList.drop k) (hd : headDone D listed = true) (hB : Region.seqB md ops n k listed = true) (h : wpListIn F N P ops Q l a w) : wpAnyUI F N P md ops Q S D n listed a w := by
  subst hn hl
  exact wpAnyUI_seq _ k listed a w (fun j => by rw [List.getElem?_drop]; simp) hd hB h
theorem wpIn_region_until {id : Nat} {a : Act} {w : World} (S : World → Prop) (D : List Nat) (hm : P.follows .mixedOrders = true)
    (h : wpAnyUI F N P .any ops Q S D ops.size (Array.replicate ops.size false) a w.drew) : (Code.region id ops true).wpIn F N P Q a w :=
  wpIn_region_any hm (wpAnyIn_of_until _ _ _ _ h)
end
end Go.Proofs.Ytmfkpjafeaidkaa
