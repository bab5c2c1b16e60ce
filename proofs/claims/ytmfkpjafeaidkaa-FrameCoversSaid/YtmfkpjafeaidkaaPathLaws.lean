/- Paths and canonical nodes in plain Lean: what a path goes through, how long it is, and that of a leaf's path just one node is canonical. No program. -/
import Derived.Test.YtmfkpjafeaidkaaTreeLaws
import Derived.Test.YtmfkpjafeaidkaaPath
import Derived.Test.YtmfkpjafeaidkaaLog
import Derived.Test.YtmfkpjafeaidkaaCanon
namespace Go.Proofs.Ytmfkpjafeaidkaa
open Go.RowKit
set_option linter.unusedVariables false

theorem path_log (leaf : Int) {n : Nat} (h : 1 ≤ n) : n ≤ 2000000 → ∀ f b, (pathT leaf n f b).length ≤ logN n + 1 := by
  refine half_ind (M := fun n => n ≤ 2000000 → ∀ f b, (pathT leaf n f b).length ≤ logN n + 1) (fun _ f b => ?_) (fun n h i1 i2 hn f b => ?_) n h
  · rw [pathT_leaf (by omega)]; simp
  · have hs := lhalf_add n
    have h1 := i1 (by omega) f b
    have h2 := i2 (by omega) (f + lhalf n) (b + (2 * lhalf n - 1))
    have h3 := logN_two h hn
    have h4 := logN_right h hn
    by_cases e : leaf < f + lhalf n
    · rw [pathT_left h e, List.length_cons]; omega
    · rw [pathT_right h e, List.length_cons]; omega
/-- What holds of each place of a path. -/
def PathAt (ns : List Nd) (leaf b : Int) (n : Nat) (p : List Int) : Prop :=
  ∀ i, i < p.length → b ≤ p.getD i 0 ∧ p.getD i 0 < b + (2 * n - 1) ∧ (nd ns (p.getD i 0)).f ≤ leaf ∧ leaf < (nd ns (p.getD i 0)).t ∧ (0 < i → (nd ns (p.getD (i - 1) 0)).l = p.getD i 0 ∨ (nd ns (p.getD (i - 1) 0)).r = p.getD i 0)
theorem path_at {ns : List Nd} (leaf : Int) {n : Nat} (h : 1 ≤ n) : ∀ f b, SubAt ns n f b → f ≤ leaf → leaf < f + n → PathAt ns leaf b n (pathT leaf n f b) := by
  refine half_ind (M := fun n => ∀ f b, SubAt ns n f b → f ≤ leaf → leaf < f + n → PathAt ns leaf b n (pathT leaf n f b)) (fun f b hsub h0 h1 => ?_) (fun n h i1 i2 f b hsub h0 h1 => ?_) n h
  · rw [pathT_leaf (by omega)]
    intro i hi
    have : i = 0 := by simpa using hi
    subst this
    have hr := hsub.root
    simp only [List.getD_cons_zero]
    rw [hr, rootNd_f, rootNd_t (by omega)]
    exact ⟨by omega, by omega, h0, h1, fun h => by omega⟩
  · have hs := lhalf_add n
    obtain ⟨k1, k2, _⟩ := SubAt.kids (f := f) (b := b) h
    have hr := hsub.root
    have one : ∀ (k : Nat) (f' b' : Int), PathAt ns leaf b' k (pathT leaf k f' b') → b ≤ b' → b' + (2 * k - 1) ≤ b + (2 * n - 1) → ((rootNd n f b).l = b' + (2 * k - 2) ∨ (rootNd n f b).r = b' + (2 * k - 2)) →
        PathAt ns leaf b n ((b + (2 * n - 2)) :: pathT leaf k f' b') := by
      intro k f' b' hp hb1 hb2 hk i hi
      cases i with
      | zero =>
        simp only [List.getD_cons_zero]
        rw [hr, rootNd_f, rootNd_t (by omega)]
        exact ⟨by omega, by omega, h0, h1, fun h => by omega⟩
      | succ j =>
        obtain ⟨g1, g2, g3, g4, g5⟩ := hp j (by simpa using hi)
        simp only [List.getD_cons_succ, Nat.add_sub_cancel]
        refine ⟨by omega, by omega, g3, g4, fun _ => ?_⟩
        cases j with
        | zero =>
          simp only [List.getD_cons_zero]
          rw [hr]
          rw [show (pathT leaf k f' b').getD 0 0 = b' + (2 * k - 2) by rw [pathT_cons]; rfl]
          exact hk
        | succ j => 
          simp only [List.getD_cons_succ]
          exact g5 (by omega)
    by_cases e : leaf < f + lhalf n
    · rw [pathT_left h e]
      exact one _ _ _ (i1 f b (hsub.left h) h0 e) (by omega) (by have := (lhalf_lt h).2.2.2; omega) (.inl k1)
    · rw [pathT_right h e]
      exact one _ _ _ (i2 _ _ (hsub.right h) (by omega) (by omega)) (by have := (lhalf_lt h).2.2.1; omega) (by omega) (.inr k2)
/-- The last one is the leaf's own node, and that is what is canonical of the leaf alone. -/
theorem path_last {ns : List Nd} (leaf : Int) {n : Nat} (h : 1 ≤ n) : ∀ f b, SubAt ns n f b → f ≤ leaf → leaf < f + n → ∃ xs x, pathT leaf n f b = xs ++ [x] ∧ (nd ns x).k = 1 ∧ (nd ns x).i = leaf ∧ canonT leaf (leaf + 1) n f b = [x] ∧ entT leaf (leaf + 1) n f = 2 * xs.length + 1 := by
  refine half_ind (M := fun n => ∀ f b, SubAt ns n f b → f ≤ leaf → leaf < f + n → ∃ xs x, pathT leaf n f b = xs ++ [x] ∧ (nd ns x).k = 1 ∧ (nd ns x).i = leaf ∧ canonT leaf (leaf + 1) n f b = [x] ∧ entT leaf (leaf + 1) n f = 2 * xs.length + 1) (fun f b hsub h0 h1 => ?_) (fun n h i1 i2 f b hsub h0 h1 => ?_) n h
  · have hf : f = leaf := by omega
    subst hf
    have hr := hsub.root
    refine ⟨[], b + (2 * (1 : Nat) - 2), by rw [pathT_leaf (by omega)]; rfl, ?_, ?_, by rw [canonT_in (by omega) (by omega)], by rw [entT_in (by omega) (by omega)]; rfl⟩
    · rw [hr]; rfl
    · rw [hr]; rfl
  · have hs := lhalf_add n
    have hp := lhalf_lt h
    by_cases e : leaf < f + lhalf n
    · obtain ⟨xs, x, e1, e2, e3, e4, e5⟩ := i1 f b (hsub.left h) h0 e
      refine ⟨(b + (2 * n - 2)) :: xs, x, by rw [pathT_left h e, e1]; rfl, e2, e3, ?_, ?_⟩
      · rw [canonT_two h (by omega) (by omega), e4, canonT_out (by omega)]; rfl
      · rw [entT_two h (by omega) (by omega), e5, entT_out (by omega), List.length_cons]; omega
    · obtain ⟨xs, x, e1, e2, e3, e4, e5⟩ := i2 (f + lhalf n) (b + (2 * lhalf n - 1)) (hsub.right h) (by omega) (by omega)
      refine ⟨(b + (2 * n - 2)) :: xs, x, by rw [pathT_right h e, e1]; rfl, e2, e3, ?_, ?_⟩
      · rw [canonT_two h (by omega) (by omega), e4, canonT_out (by omega)]; rfl
      · rw [entT_two h (by omega) (by omega), e5, entT_out (by omega), List.length_cons]; omega
theorem canonT_mem (lo hi : Int) {n : Nat} (h : 1 ≤ n) : ∀ f b, ∀ x ∈ canonT lo hi n f b, b ≤ x ∧ x < b + (2 * n - 1) := by
  refine half_ind (M := fun n => ∀ f b, ∀ x ∈ canonT lo hi n f b, b ≤ x ∧ x < b + (2 * n - 1)) (fun f b x hx => ?_) (fun n h i1 i2 f b x hx => ?_) n h
  · by_cases e1 : f + (1 : Nat) ≤ lo ∨ hi ≤ f
    · rw [canonT_out e1] at hx; simp at hx
    · by_cases e2 : lo ≤ f ∧ f + (1 : Nat) ≤ hi
      · rw [canonT_in e1 e2] at hx; simp at hx; omega
      · omega
  · have hs := lhalf_add n
    have hp := lhalf_lt h
    by_cases e1 : f + n ≤ lo ∨ hi ≤ f
    · rw [canonT_out e1] at hx; simp at hx
    · by_cases e2 : lo ≤ f ∧ f + n ≤ hi
      · rw [canonT_in e1 e2] at hx; simp at hx; omega
      · rw [canonT_two h e1 e2, List.mem_append] at hx
        rcases hx with hx | hx
        · have := i1 f b x hx; omega
        · have := i2 _ _ x hx; omega
theorem pathT_mem (leaf : Int) {n : Nat} (h : 1 ≤ n) : ∀ f b, ∀ x ∈ pathT leaf n f b, b ≤ x ∧ x < b + (2 * n - 1) := by
  refine half_ind (M := fun n => ∀ f b, ∀ x ∈ pathT leaf n f b, b ≤ x ∧ x < b + (2 * n - 1)) (fun f b x hx => ?_) (fun n h i1 i2 f b x hx => ?_) n h
  · rw [pathT_leaf (by omega)] at hx; simp at hx; omega
  · have hs := lhalf_add n
    have hp := lhalf_lt h
    by_cases e : leaf < f + lhalf n
    · rw [pathT_left h e, List.mem_cons] at hx
      rcases hx with hx | hx
      · omega
      · have := i1 f b x hx; omega
    · rw [pathT_right h e, List.mem_cons] at hx
      rcases hx with hx | hx
      · omega
      · have := i2 _ _ x hx; omega
/-- How often places of one list are met in another. -/
def metN (p out : List Int) : Nat := (out.map fun k => p.count k).sum
theorem metN_nil (p : List Int) : metN p [] = 0 := rfl
theorem metN_append (p xs ys : List Int) : metN p (xs ++ ys) = metN p xs + metN p ys := by unfold metN; rw [List.map_append, List.sum_append]
theorem metN_cons_out (p xs : List Int) (x : Int) (h : x ∉ xs) : metN (x :: p) xs = metN p xs := by
  unfold metN
  refine congrArg List.sum (List.map_congr_left fun k hk => ?_)
  rw [List.count_cons_of_ne (fun e => h (by simpa [e] using hk))]
theorem metN_zero (p xs : List Int) (h : ∀ x ∈ xs, x ∉ p) : metN p xs = 0 := by
  unfold metN
  induction xs with
  | nil => rfl
  | cons x xs ih =>
    rw [List.map_cons, List.sum_cons, ih (fun y hy => h y (List.mem_cons_of_mem _ hy)), List.count_eq_zero_of_not_mem (h x (List.mem_cons_self ..))]
theorem path_met (lo hi leaf : Int) {n : Nat} (h : 1 ≤ n) : ∀ f b, f ≤ leaf → leaf < f + n → metN (pathT leaf n f b) (canonT lo hi n f b) = if lo ≤ leaf ∧ leaf < hi then 1 else 0 := by
  refine half_ind (M := fun n => ∀ f b, f ≤ leaf → leaf < f + n → metN (pathT leaf n f b) (canonT lo hi n f b) = if lo ≤ leaf ∧ leaf < hi then 1 else 0) (fun f b h0 h1 => ?_) (fun n h i1 i2 f b h0 h1 => ?_) n h
  · by_cases e1 : f + (1 : Nat) ≤ lo ∨ hi ≤ f
    · rw [canonT_out e1, metN_nil, if_neg (by omega)]
    · by_cases e2 : lo ≤ f ∧ f + (1 : Nat) ≤ hi
      · rw [canonT_in e1 e2, pathT_leaf (by omega), if_pos (by omega)]; simp [metN]
      · omega
  · have hs := lhalf_add n
    have hp := lhalf_lt h
    by_cases e1 : f + n ≤ lo ∨ hi ≤ f
    · rw [canonT_out e1, metN_nil, if_neg (by omega)]
    · by_cases e2 : lo ≤ f ∧ f + n ≤ hi
      · rw [canonT_in e1 e2, if_pos (by omega)]
        have hroot : ∀ (k : Nat) (f' b' : Int), 1 ≤ k → b' + (2 * (k : Int) - 1) ≤ b + (2 * n - 2) → metN ((b + (2 * n - 2)) :: pathT leaf k f' b') [b + (2 * (n : Int) - 2)] = 1 := by
          intro k f' b' hk hb
          unfold metN
          simp only [List.map_cons, List.map_nil, List.sum_cons, List.sum_nil, Nat.add_zero, List.count_cons_self]
          rw [List.count_eq_zero_of_not_mem (fun hm => by have := (pathT_mem leaf hk f' b' _ hm).2; omega)]
        by_cases e : leaf < f + lhalf n
        · rw [pathT_left h e]; exact hroot _ _ _ (by omega) (by omega)
        · rw [pathT_right h e]; exact hroot _ _ _ (by omega) (by omega)
      · rw [canonT_two h e1 e2, metN_append]
        have cl := canonT_mem lo hi (show 1 ≤ lhalf n by omega) f b
        have cr := canonT_mem lo hi (show 1 ≤ n / 2 by omega) (f + lhalf n) (b + (2 * lhalf n - 1))
        by_cases e : leaf < f + lhalf n
        · have pl := pathT_mem leaf (show 1 ≤ lhalf n by omega) f b
          rw [pathT_left h e, metN_cons_out _ _ _ (fun hm => by have := cl _ hm; omega), metN_cons_out _ _ _ (fun hm => by have := cr _ hm; omega), i1 f b h0 e,
            metN_zero _ _ (fun x hx hx2 => by have := cr x hx; have := pl x hx2; omega)]
          omega
        · have pr := pathT_mem leaf (show 1 ≤ n / 2 by omega) (f + lhalf n) (b + (2 * lhalf n - 1))
          rw [pathT_right h e, metN_cons_out _ _ _ (fun hm => by have := cl _ hm; omega), metN_cons_out _ _ _ (fun hm => by have := cr _ hm; omega), i2 _ _ (by omega) (by omega),
            metN_zero _ _ (fun x hx hx2 => by have := cl x hx; have := pr x hx2; omega)]
          omega
theorem canonL_lenP (n : Nat) (lo hi : Int) : (canonL n lo hi).length ≤ n := by
  have key : ∀ {n : Nat}, 1 ≤ n → ∀ f b, (canonT lo hi n f b).length ≤ n := by
    intro n h
    refine half_ind (M := fun n => ∀ f b, (canonT lo hi n f b).length ≤ n) (fun f b => ?_) (fun n h i1 i2 f b => ?_) n h
    · rw [canonT]; split
      · simp
      · split
        · simp
        · rw [dif_pos (by omega)]; simp
    · have hs := lhalf_add n
      have h1 := i1 f b
      have h2 := i2 (f + lhalf n) (b + (2 * lhalf n - 1))
      rw [canonT]; split
      · simp
      · split
        · simp; omega
        · rw [dif_neg (by omega), List.length_append]; omega
  unfold canonL
  split
  · next h =>
    obtain ⟨⟨h1, h2, h3⟩, h4⟩ := h
    exact key (by omega) 0 0
  · simp
end Go.Proofs.Ytmfkpjafeaidkaa
