/- Where a tree lies in a list of nodes: its root, its halves; what a walk over a range tells, and a path, by halves. Plain Lean, no program. -/
import Derived.Test.YtmfkpjafeaidkaaTree
import Derived.Test.YtmfkpjafeaidkaaForest
namespace Go.Proofs.Ytmfkpjafeaidkaa
open Go.RowKit
set_option linter.unusedVariables false

/-- The last node of a tree. -/
def rootNd (n : Nat) (f b : Int) : Nd := if n < 2 then leafNd f else innerNd n f b
theorem treeL_last {n : Nat} (h : 1 ≤ n) (f b : Int) : ∃ xs, treeL n f b = xs ++ [rootNd n f b] ∧ xs.length = 2 * n - 2 := by
  by_cases e : n = 1
  · subst e; exact ⟨[], by rw [treeL_one]; rfl, rfl⟩
  · have h2 : 2 ≤ n := by omega
    have hl := treeL_len h f b
    refine ⟨treeL (lhalf n) f b ++ treeL (n / 2) (f + lhalf n) (b + (2 * lhalf n - 1)), ?_, ?_⟩
    · rw [treeL_two h2, List.append_assoc]
      unfold rootNd
      rw [if_neg (by omega)]
    · rw [treeL_two h2] at hl
      simp only [List.length_append, List.length_singleton] at hl ⊢
      omega
/-- A tree lies in a list, at its places. -/
structure SubAt (ns : List Nd) (n : Nat) (f b : Int) : Prop where
  pos : 1 ≤ n
  low : 0 ≤ b
  fits : b + (2 * n - 1) ≤ ns.length
  at_ : ∀ i : Nat, i < 2 * n - 1 → nd ns (b + i) = (treeL n f b).getD i Nd.zero
theorem SubAt.all {n : Nat} (h : 1 ≤ n) : SubAt (frameN n) n 0 0 :=
  ⟨h, Int.le_refl _, by rw [frameN_len]; omega, fun i hi => by unfold nd frameN; simp⟩
section
variable {ns : List Nd} {n : Nat} {f b : Int}
theorem SubAt.root (h : SubAt ns n f b) : nd ns (b + (2 * n - 2)) = rootNd n f b := by
  have hp := h.pos
  obtain ⟨xs, e, hl⟩ := treeL_last hp f b
  have h1 := h.at_ (2 * n - 2) (by omega)
  rw [e, List.getD_eq_getElem?_getD, List.getElem?_append_right (by omega), hl, Nat.sub_self] at h1
  rw [show (2 * (n : Int) - 2) = ((2 * n - 2 : Nat) : Int) by omega, h1]
  rfl
theorem SubAt.left (h : SubAt ns n f b) (h2 : 2 ≤ n) : SubAt ns (lhalf n) f b := by
  obtain ⟨a1, a2, a3, a4⟩ := lhalf_lt h2
  have hs := lhalf_add n
  have hf := h.fits
  refine ⟨a3, h.low, by omega, fun i hi => ?_⟩
  rw [h.at_ i (by omega), treeL_two h2, List.getD_eq_getElem?_getD, List.getElem?_append_left (by rw [treeL_len a3]; exact hi), ← List.getD_eq_getElem?_getD]
theorem SubAt.right (h : SubAt ns n f b) (h2 : 2 ≤ n) : SubAt ns (n / 2) (f + lhalf n) (b + (2 * lhalf n - 1)) := by
  obtain ⟨a1, a2, a3, a4⟩ := lhalf_lt h2
  have hs := lhalf_add n
  have hf := h.fits
  have hb := h.low
  refine ⟨a4, by omega, by omega, fun i hi => ?_⟩
  have h1 := h.at_ (2 * lhalf n - 1 + i) (by omega)
  rw [show b + (2 * (lhalf n : Int) - 1) + (i : Int) = b + ((2 * lhalf n - 1 + i : Nat) : Int) by omega, h1, treeL_two h2, List.getD_eq_getElem?_getD, List.getElem?_append_right (by rw [treeL_len a3]; omega), treeL_len a3,
    show 2 * lhalf n - 1 + i - (2 * lhalf n - 1) = i by omega, List.getElem?_append_left (by rw [treeL_len a4]; exact hi), ← List.getD_eq_getElem?_getD]
/-- The left half's root stands where the root's L says, the right half's where its R says. -/
theorem SubAt.kids (h2 : 2 ≤ n) : (rootNd n f b).l = b + (2 * lhalf n - 2) ∧ (rootNd n f b).r = b + (2 * lhalf n - 1) + (2 * (n / 2 : Nat) - 2) ∧ (rootNd n f b).k = 2 := by
  have hs := lhalf_add n
  unfold rootNd
  rw [if_neg (by omega)]
  exact ⟨rfl, by simp only [innerNd]; omega, rfl⟩
theorem rootNd_f (n : Nat) (f b : Int) : (rootNd n f b).f = f := by unfold rootNd; split <;> rfl
theorem rootNd_t (h : 1 ≤ n) : (rootNd n f b).t = f + n := by
  unfold rootNd
  split
  · have : n = 1 := by omega
    subst this; rfl
  · rfl
theorem rootNd_leaf (h : n < 2) : (rootNd n f b).k = 1 := by unfold rootNd; rw [if_pos h]; rfl
end

/-- Over a range: the places told, from left to right. -/
def canonT (lo hi : Int) (n : Nat) (f b : Int) : List Int :=
  if f + n ≤ lo ∨ hi ≤ f then [] else if lo ≤ f ∧ f + n ≤ hi then [b + (2 * n - 2)]
  else if h : n < 2 then [] else canonT lo hi (lhalf n) f b ++ canonT lo hi (n / 2) (f + lhalf n) (b + (2 * lhalf n - 1))
termination_by n
decreasing_by
  · exact (lhalf_lt (by omega)).1
  · exact (lhalf_lt (by omega)).2.1
/-- How many nodes are entered. -/
def entT (lo hi : Int) (n : Nat) (f : Int) : Nat :=
  if f + n ≤ lo ∨ hi ≤ f then 1 else if lo ≤ f ∧ f + n ≤ hi then 1
  else if h : n < 2 then 1 else 1 + (entT lo hi (lhalf n) f + entT lo hi (n / 2) (f + lhalf n))
termination_by n
decreasing_by
  · exact (lhalf_lt (by omega)).1
  · exact (lhalf_lt (by omega)).2.1
/-- A path down to a leaf. -/
def pathT (leaf : Int) (n : Nat) (f b : Int) : List Int :=
  (b + (2 * n - 2)) :: (if h : n < 2 then [] else if leaf < f + lhalf n then pathT leaf (lhalf n) f b else pathT leaf (n / 2) (f + lhalf n) (b + (2 * lhalf n - 1)))
termination_by n
decreasing_by
  · exact (lhalf_lt (by omega)).1
  · exact (lhalf_lt (by omega)).2.1
theorem canonT_two {lo hi : Int} {n : Nat} {f b : Int} (h : 2 ≤ n) (h1 : ¬(f + n ≤ lo ∨ hi ≤ f)) (h2 : ¬(lo ≤ f ∧ f + n ≤ hi)) : canonT lo hi n f b = canonT lo hi (lhalf n) f b ++ canonT lo hi (n / 2) (f + lhalf n) (b + (2 * lhalf n - 1)) := by
  rw [canonT, if_neg h1, if_neg h2, dif_neg (by omega)]
theorem canonT_out {lo hi : Int} {n : Nat} {f b : Int} (h1 : f + n ≤ lo ∨ hi ≤ f) : canonT lo hi n f b = [] := by rw [canonT, if_pos h1]
theorem canonT_in {lo hi : Int} {n : Nat} {f b : Int} (h1 : ¬(f + n ≤ lo ∨ hi ≤ f)) (h2 : lo ≤ f ∧ f + n ≤ hi) : canonT lo hi n f b = [b + (2 * n - 2)] := by rw [canonT, if_neg h1, if_pos h2]
theorem entT_two {lo hi : Int} {n : Nat} {f : Int} (h : 2 ≤ n) (h1 : ¬(f + n ≤ lo ∨ hi ≤ f)) (h2 : ¬(lo ≤ f ∧ f + n ≤ hi)) : entT lo hi n f = 1 + (entT lo hi (lhalf n) f + entT lo hi (n / 2) (f + lhalf n)) := by
  rw [entT, if_neg h1, if_neg h2, dif_neg (by omega)]
theorem entT_out {lo hi : Int} {n : Nat} {f : Int} (h1 : f + n ≤ lo ∨ hi ≤ f) : entT lo hi n f = 1 := by rw [entT, if_pos h1]
theorem entT_in {lo hi : Int} {n : Nat} {f : Int} (h1 : ¬(f + n ≤ lo ∨ hi ≤ f)) (h2 : lo ≤ f ∧ f + n ≤ hi) : entT lo hi n f = 1 := by rw [entT, if_neg h1, if_pos h2]
theorem pathT_leaf {leaf : Int} {n : Nat} {f b : Int} (h : n < 2) : pathT leaf n f b = [b + (2 * n - 2)] := by rw [pathT, dif_pos h]
theorem pathT_left {leaf : Int} {n : Nat} {f b : Int} (h : 2 ≤ n) (h1 : leaf < f + lhalf n) : pathT leaf n f b = (b + (2 * n - 2)) :: pathT leaf (lhalf n) f b := by rw [pathT, dif_neg (by omega), if_pos h1]
theorem pathT_right {leaf : Int} {n : Nat} {f b : Int} (h : 2 ≤ n) (h1 : ¬ leaf < f + lhalf n) : pathT leaf n f b = (b + (2 * n - 2)) :: pathT leaf (n / 2) (f + lhalf n) (b + (2 * lhalf n - 1)) := by rw [pathT, dif_neg (by omega), if_neg h1]
end Go.Proofs.Ytmfkpjafeaidkaa
