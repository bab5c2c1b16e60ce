/- What a walk tells, by halves, is what the document tells by counting: ranges and paths. Plain Lean. -/
import Derived.Test.YtmfkpjafeaidkaaRefCanon
namespace Go.Proofs.Ytmfkpjafeaidkaa
open Go.RowKit
set_option linter.unusedVariables false

/-- Places in a row. -/
def segI (b : Int) (k : Nat) : List Int := (List.range k).map (fun i : Nat => b + i)
theorem segI_succ (b : Int) (k : Nat) : segI b (k + 1) = segI b k ++ [b + k] := by unfold segI; rw [List.range_succ, List.map_append]; rfl
theorem segI_add (b : Int) (j k : Nat) : segI b (j + k) = segI b j ++ segI (b + j) k := by
  induction k with
  | zero => simp [segI]
  | succ k ih => rw [← Nat.add_assoc, segI_succ, ih, segI_succ, List.append_assoc]; congr 2; simp; omega
theorem segI_range (k : Nat) : segI 0 k = rangeI k := by unfold segI rangeI; simp
theorem mem_segI {b x : Int} {k : Nat} : x ∈ segI b k ↔ b ≤ x ∧ x < b + k := by
  unfold segI
  rw [List.mem_map]
  constructor
  · rintro ⟨i, hi, rfl⟩; have := List.mem_range.1 hi; omega
  · rintro ⟨h1, h2⟩; exact ⟨(x - b).toNat, List.mem_range.2 (by omega), by omega⟩
theorem seg_tree {n : Nat} (h : 2 ≤ n) (b : Int) : segI b (2 * n - 1) = segI b (2 * lhalf n - 1) ++ (segI (b + (2 * lhalf n - 1)) (2 * (n / 2) - 1) ++ [b + (2 * n - 2)]) := by
  obtain ⟨a1, a2, a3, a4⟩ := lhalf_lt h
  have hs := lhalf_add n
  rw [show 2 * n - 1 = (2 * lhalf n - 1) + ((2 * (n / 2) - 1) + 1) by omega, segI_add, segI_succ]
  congr 1
  rw [show b + ((2 * lhalf n - 1 : Nat) : Int) = b + (2 * (lhalf n : Int) - 1) by omega]
  congr 2
  omega
theorem flatMap_split {L R : Int → List Int} (lo M : Int) (hL : ∀ x, M ≤ x → L x = []) (hR : ∀ x, x < M → R x = []) (k : Nat) :
    (segI lo k).flatMap (fun x => L x ++ R x) = (segI lo k).flatMap L ++ (segI lo k).flatMap R := by
  induction k with
  | zero => simp [segI]
  | succ k ih =>
    rw [segI_succ, List.flatMap_append, List.flatMap_append, List.flatMap_append, ih]
    simp only [List.flatMap_cons, List.flatMap_nil, List.append_nil]
    by_cases h : lo + (k : Int) < M
    · have e : (segI lo k).flatMap R = [] := by
        rw [List.flatMap_eq_nil_iff]
        intro x hx
        exact hR x (by have := mem_segI.1 hx; omega)
      rw [e, hR _ h]; simp
    · rw [hL _ (by omega)]; simp
theorem flatMap_one (lo f r : Int) (k : Nat) : (segI lo k).flatMap (fun x => if f == x then [r] else []) = if lo ≤ f ∧ f < lo + k then [r] else [] := by
  induction k with
  | zero => rw [if_neg (by omega)]; simp [segI]
  | succ k ih =>
    rw [segI_succ, List.flatMap_append, ih]
    simp only [List.flatMap_cons, List.flatMap_nil, List.append_nil]
    by_cases e : f = lo + k
    · subst e
      rw [if_neg (by omega), if_pos (by simp), if_pos (by omega)]; rfl
    · rw [if_neg (show ¬ (f == lo + (k : Int)) = true by simpa using e), List.append_nil]
      by_cases h : lo ≤ f ∧ f < lo + k
      · rw [if_pos h, if_pos (by omega)]
      · rw [if_neg h, if_neg (by omega)]

section
variable {ns : List Nd}
/-- A place of a tree is one of a half, or the root's. -/
theorem sub_cases {n : Nat} (h : 2 ≤ n) {b i : Int} (h0 : b ≤ i) (h1 : i < b + (2 * n - 1)) : (b ≤ i ∧ i < b + (2 * lhalf n - 1)) ∨ (b + (2 * lhalf n - 1) ≤ i ∧ i < b + (2 * lhalf n - 1) + (2 * (n / 2 : Nat) - 1)) ∨ i = b + (2 * n - 2) := by
  have hs := lhalf_add n
  omega
theorem sub_range {n : Nat} (h : 1 ≤ n) : ∀ f b, SubAt ns n f b → ∀ i, b ≤ i → i < b + (2 * n - 1) → f ≤ (nd ns i).f ∧ (nd ns i).f < (nd ns i).t ∧ (nd ns i).t ≤ f + n := by
  refine half_ind (M := fun n => ∀ f b, SubAt ns n f b → ∀ i, b ≤ i → i < b + (2 * n - 1) → f ≤ (nd ns i).f ∧ (nd ns i).f < (nd ns i).t ∧ (nd ns i).t ≤ f + n) (fun f b hsub i h0 h1 => ?_) (fun n h i1 i2 f b hsub i h0 h1 => ?_) n h
  · have hr := hsub.root
    rw [show i = b + (2 * ((1 : Nat) : Int) - 2) by omega, hr, rootNd_f, rootNd_t (by omega)]
    omega
  · obtain ⟨a1, a2, a3, a4⟩ := lhalf_lt h
    have hs := lhalf_add n
    rcases sub_cases h h0 h1 with ⟨c0, c1⟩ | ⟨c0, c1⟩ | rfl
    · have := i1 f b (hsub.left h) i c0 c1; omega
    · have := i2 _ _ (hsub.right h) i c0 c1; omega
    · rw [hsub.root, rootNd_f, rootNd_t (by omega)]; omega
theorem sub_kids {n : Nat} (h : 1 ≤ n) : ∀ f b, SubAt ns n f b → ∀ i x, b ≤ i → i < b + (2 * n - 1) → x ≠ -1 → hasKid (nd ns i) x = true → b ≤ x ∧ x < b + (2 * n - 2) := by
  refine half_ind (M := fun n => ∀ f b, SubAt ns n f b → ∀ i x, b ≤ i → i < b + (2 * n - 1) → x ≠ -1 → hasKid (nd ns i) x = true → b ≤ x ∧ x < b + (2 * n - 2)) (fun f b hsub i x h0 h1 hx hk => ?_) (fun n h i1 i2 f b hsub i x h0 h1 hx hk => ?_) n h
  · have hr := hsub.root
    rw [show i = b + (2 * ((1 : Nat) : Int) - 2) by omega, hr] at hk
    unfold hasKid rootNd at hk
    rw [if_pos (by omega)] at hk
    simp [leafNd] at hk
    omega
  · obtain ⟨a1, a2, a3, a4⟩ := lhalf_lt h
    have hs := lhalf_add n
    rcases sub_cases h h0 h1 with ⟨c0, c1⟩ | ⟨c0, c1⟩ | rfl
    · have := i1 f b (hsub.left h) i x c0 c1 hx hk; omega
    · have := i2 _ _ (hsub.right h) i x c0 c1 hx hk; omega
    · rw [hsub.root] at hk
      obtain ⟨k1, k2, _⟩ := SubAt.kids (f := f) (b := b) h
      unfold hasKid at hk
      rw [k1, k2] at hk
      simp at hk
      omega
/-- Nobody outside has a kid within. -/
def TopAt (ns : List Nd) (n : Nat) (b : Int) : Prop := ∀ i : Nat, i < ns.length → ((i : Int) < b ∨ b + (2 * n - 1) ≤ i) → ∀ x, b ≤ x → x < b + (2 * n - 2) → hasKid (nd ns i) x = false
theorem kid_no {n : Nat} {f b i x : Int} (hsub : SubAt ns n f b) (h0 : b ≤ i) (h1 : i < b + (2 * n - 1)) (hx0 : 0 ≤ x) (hx : ¬(b ≤ x ∧ x < b + (2 * n - 2))) : hasKid (nd ns i) x = false := by
  cases e : hasKid (nd ns i) x with
  | false => rfl
  | true => exact absurd (sub_kids hsub.pos f b hsub i x h0 h1 (by omega) e) hx
theorem root_kid {n : Nat} (h : 2 ≤ n) {f b x : Int} (hsub : SubAt ns n f b) : hasKid (nd ns (b + (2 * n - 2))) x = decide (x = b + (2 * lhalf n - 2) ∨ x = b + (2 * n - 3)) := by
  obtain ⟨k1, k2, _⟩ := SubAt.kids (f := f) (b := b) h
  have hs := lhalf_add n
  rw [hsub.root]
  unfold hasKid
  rw [k1, k2, show b + (2 * (lhalf n : Int) - 1) + (2 * ((n / 2 : Nat) : Int) - 2) = b + (2 * n - 3) by omega]
  by_cases e1 : b + (2 * (lhalf n : Int) - 2) = x
  · rw [e1]; simp
  · by_cases e2 : b + (2 * (n : Int) - 3) = x
    · rw [e2]; simp
    · rw [decide_eq_false (by omega)]; simp [e1, e2]
theorem TopAt.left {n : Nat} (h : 2 ≤ n) {f b : Int} (hsub : SubAt ns n f b) (ht : TopAt ns n b) : TopAt ns (lhalf n) b := by
  intro i hi ho x h0 h1
  obtain ⟨a1, a2, a3, a4⟩ := lhalf_lt h
  have hs := lhalf_add n
  have hb := hsub.low
  by_cases hout : (i : Int) < b ∨ b + (2 * n - 1) ≤ i
  · exact ht i hi hout x h0 (by omega)
  · rcases sub_cases h (b := b) (i := i) (by omega) (by omega) with ⟨c0, c1⟩ | ⟨c0, c1⟩ | e
    · omega
    · exact kid_no (hsub.right h) c0 c1 (by omega) (by omega)
    · rw [e, root_kid h hsub]; exact decide_eq_false (by omega)
theorem TopAt.right {n : Nat} (h : 2 ≤ n) {f b : Int} (hsub : SubAt ns n f b) (ht : TopAt ns n b) : TopAt ns (n / 2) (b + (2 * lhalf n - 1)) := by
  intro i hi ho x h0 h1
  obtain ⟨a1, a2, a3, a4⟩ := lhalf_lt h
  have hs := lhalf_add n
  have hb := hsub.low
  by_cases hout : (i : Int) < b ∨ b + (2 * n - 1) ≤ i
  · exact ht i hi hout x (by omega) (by omega)
  · rcases sub_cases h (b := b) (i := i) (by omega) (by omega) with ⟨c0, c1⟩ | ⟨c0, c1⟩ | e
    · exact kid_no (hsub.left h) c0 c1 (by omega) (by omega)
    · omega
    · rw [e, root_kid h hsub]; exact decide_eq_false (by omega)
theorem parent_root {n : Nat} (h : 2 ≤ n) {f b x : Int} (hsub : SubAt ns n f b) (ht : TopAt ns n b) (hx : x = b + (2 * lhalf n - 2) ∨ x = b + (2 * n - 3)) : parentB ns x = b + (2 * n - 2) := by
  obtain ⟨a1, a2, a3, a4⟩ := lhalf_lt h
  have hs := lhalf_add n
  have hb := hsub.low
  have hf := hsub.fits
  obtain ⟨q, hq⟩ : ∃ q : Nat, b + (2 * (n : Int) - 2) = q := ⟨(b + (2 * (n : Int) - 2)).toNat, by omega⟩
  rw [hq]
  have conv : ∀ j : Nat, ns.getD j Nd.zero = nd ns (j : Int) := fun j => by unfold nd; simp
  refine parentB_at q (by omega) ?_ (fun j hj => ?_)
  · rw [conv, ← hq, root_kid h hsub]; exact decide_eq_true hx
  · rw [conv]
    by_cases hout : (j : Int) < b ∨ b + (2 * n - 1) ≤ j
    · exact ht j (by omega) hout x (by omega) (by omega)
    · rcases sub_cases h (b := b) (i := j) (by omega) (by omega) with ⟨c0, c1⟩ | ⟨c0, c1⟩ | e
      · exact kid_no (hsub.left h) c0 c1 (by omega) (by omega)
      · exact kid_no (hsub.right h) c0 c1 (by omega) (by omega)
      · omega
theorem parent_in {n : Nat} (h : 1 ≤ n) : ∀ f b, SubAt ns n f b → TopAt ns n b → ∀ x, b ≤ x → x < b + (2 * n - 2) → b ≤ parentB ns x ∧ parentB ns x < b + (2 * n - 1) := by
  refine half_ind (M := fun n => ∀ f b, SubAt ns n f b → TopAt ns n b → ∀ x, b ≤ x → x < b + (2 * n - 2) → b ≤ parentB ns x ∧ parentB ns x < b + (2 * n - 1)) (fun f b hsub ht x h0 h1 => by omega) (fun n h i1 i2 f b hsub ht x h0 h1 => ?_) n h
  obtain ⟨a1, a2, a3, a4⟩ := lhalf_lt h
  have hs := lhalf_add n
  by_cases e : x = b + (2 * lhalf n - 2) ∨ x = b + (2 * n - 3)
  · rw [parent_root h hsub ht e]; omega
  · rcases sub_cases h (b := b) (i := x) h0 (by omega) with ⟨c0, c1⟩ | ⟨c0, c1⟩ | e'
    · have := i1 f b (hsub.left h) (TopAt.left h hsub ht) x c0 (by omega); omega
    · have := i2 _ _ (hsub.right h) (TopAt.right h hsub ht) x c0 (by omega); omega
    · omega
def parentOk (ns : List Nd) (lo hi x : Int) : Bool := decide (parentB ns x < 0) || !(withinB (nd ns (parentB ns x)) lo hi)
theorem refC_eq (ns : List Nd) (lo hi leaf x : Int) : refC ns lo hi leaf x = ((nd ns x).f == leaf && (withinB (nd ns x) lo hi && parentOk ns lo hi x)) := rfl
theorem within_eq (n : Nd) (lo hi : Int) : withinB n lo hi = true ↔ lo ≤ n.f ∧ n.t ≤ hi := by unfold withinB; simp

theorem canon_out {lo hi : Int} (k : Nat) {n : Nat} {f b : Int} (hsub : SubAt ns n f b) (ho : f + n ≤ lo ∨ hi ≤ f) : (segI lo k).flatMap (fun leaf => (segI b (2 * n - 1)).filter (refC ns lo hi leaf)) = [] := by
  have hp := hsub.pos
  rw [List.flatMap_eq_nil_iff]
  intro leaf _
  rw [List.filter_eq_nil_iff]
  intro x hx
  have hx' := mem_segI.1 hx
  obtain ⟨g1, g2, g3⟩ := sub_range hp f b hsub x hx'.1 (by omega)
  rw [refC_eq]
  have : withinB (nd ns x) lo hi = false := by
    cases e : withinB (nd ns x) lo hi with
    | false => rfl
    | true => have := (within_eq _ _ _).1 e; omega
  rw [this]; simp
theorem canon_in {lo hi : Int} (k : Nat) (hk : lo + k = hi) {n : Nat} {f b : Int} (hsub : SubAt ns n f b) (ht : TopAt ns n b) (hi' : lo ≤ f ∧ f + n ≤ hi) (hp : parentOk ns lo hi (b + (2 * n - 2)) = true) :
    (segI lo k).flatMap (fun leaf => (segI b (2 * n - 1)).filter (refC ns lo hi leaf)) = [b + (2 * n - 2)] := by
  have hpos := hsub.pos
  have hb := hsub.low
  have hf := hsub.fits
  have e : (fun leaf => (segI b (2 * n - 1)).filter (refC ns lo hi leaf)) = (fun leaf => if f == leaf then [b + (2 * (n : Int) - 2)] else []) := by
    funext leaf
    rw [show 2 * n - 1 = (2 * n - 2) + 1 by omega, segI_succ, List.filter_append, show b + ((2 * n - 2 : Nat) : Int) = b + (2 * (n : Int) - 2) by omega]
    have e1 : (segI b (2 * n - 2)).filter (refC ns lo hi leaf) = [] := by
      rw [List.filter_eq_nil_iff]
      intro x hx
      have hx' := mem_segI.1 hx
      obtain ⟨p1, p2⟩ := parent_in hpos f b hsub ht x hx'.1 (by omega)
      obtain ⟨g1, g2, g3⟩ := sub_range hpos f b hsub _ p1 p2
      have : parentOk ns lo hi x = false := by
        unfold parentOk
        rw [(within_eq _ _ _).2 ⟨by omega, by omega⟩, decide_eq_false (by omega)]; rfl
      rw [refC_eq, this]; simp
    rw [e1, List.nil_append, List.filter_cons, List.filter_nil, refC_eq, hp, hsub.root, (within_eq _ _ _).2 ⟨by rw [rootNd_f]; omega, by rw [rootNd_t hpos]; omega⟩, rootNd_f]
    simp
  rw [e, flatMap_one, if_pos (by omega)]
theorem canon_sub (lo hi : Int) (k : Nat) (hk : lo + k = hi) {n : Nat} (h : 1 ≤ n) : ∀ f b, SubAt ns n f b → TopAt ns n b → parentOk ns lo hi (b + (2 * n - 2)) = true →
    (segI lo k).flatMap (fun leaf => (segI b (2 * n - 1)).filter (refC ns lo hi leaf)) = canonT lo hi n f b := by
  refine half_ind (M := fun n => ∀ f b, SubAt ns n f b → TopAt ns n b → parentOk ns lo hi (b + (2 * n - 2)) = true →
    (segI lo k).flatMap (fun leaf => (segI b (2 * n - 1)).filter (refC ns lo hi leaf)) = canonT lo hi n f b) (fun f b hsub ht hp => ?_) (fun n h i1 i2 f b hsub ht hp => ?_) n h
  · by_cases ho : f + ((1 : Nat) : Int) ≤ lo ∨ hi ≤ f
    · rw [canonT_out ho, canon_out k hsub ho]
    · have hin : lo ≤ f ∧ f + ((1 : Nat) : Int) ≤ hi := by omega
      rw [canonT_in ho hin, canon_in k hk hsub ht hin hp]
  · by_cases ho : f + (n : Int) ≤ lo ∨ hi ≤ f
    · rw [canonT_out ho, canon_out k hsub ho]
    · by_cases hin : lo ≤ f ∧ f + (n : Int) ≤ hi
      · rw [canonT_in ho hin, canon_in k hk hsub ht hin hp]
      · obtain ⟨a1, a2, a3, a4⟩ := lhalf_lt h
        have hs := lhalf_add n
        have hb := hsub.low
        have hfit := hsub.fits
        have hw : withinB (nd ns (b + (2 * (n : Int) - 2))) lo hi = false := by
          cases e : withinB (nd ns (b + (2 * (n : Int) - 2))) lo hi with
          | false => rfl
          | true =>
            rw [hsub.root, within_eq, rootNd_f, rootNd_t (by omega)] at e
            exact absurd e hin
        have pok : ∀ x, x = b + (2 * (lhalf n : Int) - 2) ∨ x = b + (2 * (n : Int) - 3) → parentOk ns lo hi x = true := fun x hx => by
          unfold parentOk
          rw [parent_root h hsub ht hx, hw]; simp
        rw [canonT_two h ho hin, ← i1 f b (hsub.left h) (TopAt.left h hsub ht) (pok _ (.inl rfl)), ← i2 _ _ (hsub.right h) (TopAt.right h hsub ht) (pok _ (.inr (by omega)))]
        rw [← flatMap_split lo (f + lhalf n)]
        · congr 1
          funext leaf
          rw [seg_tree h, List.filter_append, List.filter_append]
          congr 1
          have : List.filter (refC ns lo hi leaf) [b + (2 * (n : Int) - 2)] = [] := by
            rw [List.filter_cons, List.filter_nil, refC_eq, hw]; simp
          rw [this, List.append_nil]
        · intro leaf hl
          rw [List.filter_eq_nil_iff]
          intro x hx
          have hx' := mem_segI.1 hx
          obtain ⟨g1, g2, g3⟩ := sub_range a3 f b (hsub.left h) x hx'.1 (by omega)
          rw [refC_eq, show ((nd ns x).f == leaf) = false by simp; omega]; simp
        · intro leaf hl
          rw [List.filter_eq_nil_iff]
          intro x hx
          have hx' := mem_segI.1 hx
          obtain ⟨g1, g2, g3⟩ := sub_range a4 _ _ (hsub.right h) x hx'.1 (by omega)
          rw [refC_eq, show ((nd ns x).f == leaf) = false by simp; omega]; simp
end
/-- In the whole tree nobody stands outside. -/
theorem top_all {n : Nat} (h : 1 ≤ n) : TopAt (frameN n) n 0 := by
  intro i hi ho x h0 h1
  rw [frameN_len] at hi
  omega
theorem parent_none {n : Nat} (h : 1 ≤ n) : parentB (frameN n) (2 * n - 2) = -1 := by
  refine parentB_no (fun j hj => ?_)
  rw [frameN_len] at hj
  rw [show (frameN n).getD j Nd.zero = nd (frameN n) (j : Int) by unfold nd; simp]
  exact kid_no (SubAt.all h) (by omega) (by omega) (by omega) (by omega)
/-- The document's canonical nodes are those that a walk tells. -/
theorem refUpto_canon {n : Nat} {lo hi : Int} (h : 1 ≤ n) (h0 : 0 ≤ lo) (h1 : lo < hi) (h2 : hi ≤ n) : refUpto (frameN n) lo hi (hi - lo).toNat = canonT lo hi n 0 0 := by
  have hp : parentOk (frameN n) lo hi (0 + (2 * n - 2)) = true := by
    unfold parentOk
    rw [Int.zero_add, parent_none h]; rfl
  rw [← canon_sub lo hi (hi - lo).toNat (by omega) h 0 0 (SubAt.all h) (top_all h) hp]
  unfold refUpto refLeaf
  rw [frameN_len, ← segI_range, ← segI_range]
  unfold segI
  rw [List.flatMap_map, List.flatMap_map]
  congr 1
  funext i
  simp
end Go.Proofs.Ytmfkpjafeaidkaa
