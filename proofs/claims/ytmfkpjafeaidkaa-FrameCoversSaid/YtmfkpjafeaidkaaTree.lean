/- The nodes of a frame in plain Lean: the tree over n leaves, its places, that it is right. No program in sight. -/
import Derived.Test.YtmfkpjafeaidkaaPoolSpec
namespace Go.Proofs.Ytmfkpjafeaidkaa
open Go.RowKit
set_option linter.unusedVariables false

/-- How many leaves are on the left. -/
def lhalf (n : Nat) : Nat := n - n / 2
theorem lhalf_add (n : Nat) : lhalf n + n / 2 = n := by unfold lhalf; omega
theorem lhalf_lt {n : Nat} (h : 2 ≤ n) : lhalf n < n ∧ n / 2 < n ∧ 1 ≤ lhalf n ∧ 1 ≤ n / 2 := by unfold lhalf; omega
def leafNd (f : Int) : Nd := ⟨1, -1, -1, f, f + 1, 0, f⟩
def innerNd (n : Nat) (f b : Int) : Nd := ⟨2, b + (2 * lhalf n - 2), b + (2 * n - 3), f, f + n, 0, 0⟩
/-- The nodes over n leaves, the first leaf f, the first place b. -/
def treeL (n : Nat) (f b : Int) : List Nd :=
  if h : n < 2 then (if n = 0 then [] else [leafNd f])
  else treeL (lhalf n) f b ++ (treeL (n / 2) (f + lhalf n) (b + (2 * lhalf n - 1)) ++ [innerNd n f b])
termination_by n
decreasing_by
  · exact (lhalf_lt (by omega)).1
  · exact (lhalf_lt (by omega)).2.1
theorem treeL_zero (f b : Int) : treeL 0 f b = [] := by rw [treeL]; simp
theorem treeL_one (f b : Int) : treeL 1 f b = [leafNd f] := by rw [treeL]; simp
theorem treeL_two {n : Nat} (h : 2 ≤ n) (f b : Int) : treeL n f b = treeL (lhalf n) f b ++ (treeL (n / 2) (f + lhalf n) (b + (2 * lhalf n - 1)) ++ [innerNd n f b]) := by rw [treeL, dif_neg (by omega)]
/-- By halves. -/
theorem half_ind {M : Nat → Prop} (h1 : M 1) (h2 : ∀ n, 2 ≤ n → M (lhalf n) → M (n / 2) → M n) : ∀ n, 1 ≤ n → M n := by
  intro n
  induction n using Nat.strongRecOn with
  | _ n ih =>
    intro h
    by_cases e : n = 1
    · subst e; exact h1
    · obtain ⟨a, b, c, d⟩ := lhalf_lt (n := n) (by omega)
      exact h2 n (by omega) (ih _ a c) (ih _ b d)
theorem treeL_len {n : Nat} (h : 1 ≤ n) : ∀ f b, (treeL n f b).length = 2 * n - 1 := by
  refine half_ind (M := fun n => ∀ f b, (treeL n f b).length = 2 * n - 1) (fun f b => by rw [treeL_one]; rfl) (fun n h i1 i2 f b => ?_) n h
  obtain ⟨a, c, d, e⟩ := lhalf_lt h
  have := lhalf_add n
  rw [treeL_two h, List.length_append, List.length_append, i1, i2]
  simp
  omega
theorem treeL_size (n : Nat) (f b : Int) : (treeL n f b).length = 2 * n - 1 := by
  cases n with
  | zero => rw [treeL_zero]; rfl
  | succ n => exact treeL_len (by omega) f b

theorem markL_two (xs : List Bool) (ys : List Bool) (l r : Int) (hl : l = xs.length) (hr : r = xs.length + 1 + ys.length) (zs : List Bool) :
    markL (xs ++ false :: (ys ++ false :: zs)) (kidsL l r) = xs ++ true :: (ys ++ true :: zs) := by
  subst hl hr
  have e1 : kidsL (xs.length : Int) ((xs.length : Int) + 1 + ys.length) = [(xs.length : Int), (xs.length : Int) + 1 + ys.length] := by
    unfold kidsL; rw [if_neg (by omega), if_neg (by omega)]; rfl
  rw [e1]
  unfold markL
  simp only [List.foldl_cons, List.foldl_nil]
  rw [show ((xs.length : Int)).toNat = xs.length by omega, show ((xs.length : Int) + 1 + ys.length).toNat = xs.length + 1 + ys.length by omega]
  rw [List.set_append_right _ _ (by omega), Nat.sub_self, List.set_cons_zero, List.set_append_right _ _ (by omega), show xs.length + 1 + ys.length - xs.length = ys.length + 1 by omega, List.set_cons_succ, List.set_append_right _ _ (by omega), Nat.sub_self, List.set_cons_zero]

/-- Behind a tree all its nodes but the last one are somebody's kids; it is right. -/
theorem tree_right {n : Nat} (h : 1 ≤ n) : ∀ (f : Int) (ks : List Bool), rightL ks (treeL n f ks.length) = true ∧ ksFrom ks (treeL n f ks.length) = ks ++ (List.replicate (2 * n - 2) true ++ [false]) := by
  refine half_ind (M := fun n => ∀ (f : Int) (ks : List Bool), rightL ks (treeL n f ks.length) = true ∧ ksFrom ks (treeL n f ks.length) = ks ++ (List.replicate (2 * n - 2) true ++ [false])) (fun f ks => ?_) (fun n h i1 i2 f ks => ?_) n h
  · rw [treeL_one]
    refine ⟨?_, ?_⟩
    · simp [rightL, leafNd, mayB, AllK, kidsL]
    · simp [ksFrom, stepK, leafNd, Nd.kids, kidsL, markL]
  · obtain ⟨ha, hc, hd, he⟩ := lhalf_lt h
    have hs := lhalf_add n
    obtain ⟨r1, k1⟩ := i1 f ks
    obtain ⟨r2, k2⟩ := i2 (f + lhalf n) (ks ++ (List.replicate (2 * lhalf n - 2) true ++ [false]))
    have hl : ((ks ++ (List.replicate (2 * lhalf n - 2) true ++ [false])).length : Int) = (ks.length : Int) + (2 * lhalf n - 1) := by simp; omega
    rw [hl] at r2 k2
    have kk : ksFrom ks (treeL (lhalf n) f ks.length ++ treeL (n / 2) (f + lhalf n) (ks.length + (2 * lhalf n - 1))) = (ks ++ List.replicate (2 * lhalf n - 2) true) ++ false :: (List.replicate (2 * (n / 2) - 2) true ++ false :: []) := by
      have e : ksFrom ks (treeL (lhalf n) f ks.length ++ treeL (n / 2) (f + lhalf n) (ks.length + (2 * lhalf n - 1))) = ksFrom (ksFrom ks (treeL (lhalf n) f ks.length)) (treeL (n / 2) (f + lhalf n) (ks.length + (2 * lhalf n - 1))) := by unfold ksFrom; rw [List.foldl_append]
      rw [e, k1, k2]; simp
    have hx : ((ks ++ List.replicate (2 * lhalf n - 2) true).length : Int) = ks.length + (2 * lhalf n - 2) := by simp; omega
    have e1 : (innerNd n f ks.length).l = ((ks ++ List.replicate (2 * lhalf n - 2) true).length : Int) := by rw [hx]; rfl
    have e2 : (innerNd n f ks.length).r = ((ks ++ List.replicate (2 * lhalf n - 2) true).length : Int) + 1 + (List.replicate (2 * (n / 2) - 2) true).length := by
      rw [hx, List.length_replicate]; simp only [innerNd]; omega
    rw [treeL_two h, ← List.append_assoc]
    refine ⟨?_, ?_⟩
    · rw [rightL_snoc, rightL_append, r1, k1, r2, kk]
      simp only [Bool.and_self, Bool.true_and]
      have g1 : kidsL (innerNd n f ks.length).l (innerNd n f ks.length).r = [(innerNd n f ks.length).l, (innerNd n f ks.length).r] := by
        unfold kidsL; rw [if_neg (by rw [e1]; omega), if_neg (by rw [e2]; omega)]; rfl
      unfold mayB AllK
      rw [g1]
      simp only [List.all_cons, List.all_nil, Bool.and_true]
      have o1 : okKid ((ks ++ List.replicate (2 * lhalf n - 2) true) ++ false :: (List.replicate (2 * (n / 2) - 2) true ++ false :: [])) (innerNd n f ks.length).l = true := by
        rw [e1]; unfold okKid
        rw [decide_eq_true (by refine ⟨by omega, ?_⟩; rw [List.length_append]; simp; omega), List.getD_eq_getElem?_getD, List.getElem?_append_right (by omega)]
        simp
      have o2 : okKid ((ks ++ List.replicate (2 * lhalf n - 2) true) ++ false :: (List.replicate (2 * (n / 2) - 2) true ++ false :: [])) (innerNd n f ks.length).r = true := by
        rw [e2]; unfold okKid
        generalize ks ++ List.replicate (2 * lhalf n - 2) true = X
        generalize List.replicate (2 * (n / 2) - 2) true = Y
        rw [decide_eq_true (by refine ⟨by omega, ?_⟩; simp; omega), List.getD_eq_getElem?_getD, List.getElem?_append_right (by omega), show ((X.length : Int) + 1 + Y.length).toNat - X.length = Y.length + 1 by omega, List.getElem?_cons_succ, List.getElem?_append_right (by omega)]
        simp
      rw [o1, o2]
      have hk : (innerNd n f ks.length).k = 2 := rfl
      rw [hk, if_neg (by decide), if_pos rfl]
      have hne : (innerNd n f ks.length).l ≠ (innerNd n f ks.length).r := by rw [e1, e2]; omega
      simp [hne]
    · rw [ksFrom_snoc, kk]
      unfold stepK Nd.kids
      rw [markL_two _ _ _ _ e1 e2]
      rw [show 2 * n - 2 = (2 * lhalf n - 2) + (1 + ((2 * (n / 2) - 2) + 1)) by omega, ← List.replicate_append_replicate, ← List.replicate_append_replicate, ← List.replicate_append_replicate]
      simp
/-- The nodes over n leaves. -/
def frameN (n : Nat) : List Nd := treeL n 0 0
theorem frameN_len (n : Nat) : (frameN n).length = 2 * n - 1 := treeL_size n 0 0
theorem frameN_right (n : Nat) : rightL [] (frameN n) = true := by
  cases n with
  | zero => unfold frameN; rw [treeL_zero]; rfl
  | succ n => exact (tree_right (n := n + 1) (by omega) 0 []).1
end Go.Proofs.Ytmfkpjafeaidkaa
