/- The shape of a frame's nodes in plain Lean: heights, each inner node's kids, leaves in a row. No program. -/
import Derived.Test.YtmfkpjafeaidkaaTreeLaws
import Derived.Test.YtmfkpjafeaidkaaPoolHeight
import Derived.Test.YtmfkpjafeaidkaaLog
namespace Go.Proofs.Ytmfkpjafeaidkaa
open Go.RowKit
set_option linter.unusedVariables false

theorem logN_half {n : Nat} (h : 2 ≤ n) (h2 : n ≤ 2000000) : logN (n / 2) ≤ logN (lhalf n) := logN_mono (lhalf n) (by unfold lhalf; omega) (n / 2) (by unfold lhalf; omega)
def hsFrom (hs : List Int) (ns : List Nd) : List Int := ns.foldl (fun hs n => hs ++ [hOf hs n]) hs
theorem hsFrom_append (hs : List Int) (a b : List Nd) : hsFrom hs (a ++ b) = hsFrom (hsFrom hs a) b := by unfold hsFrom; rw [List.foldl_append]
theorem tree_high {n : Nat} (h : 1 ≤ n) : n ≤ 2000000 → ∀ (f : Int) (hs : List Int), ∃ T, hsFrom hs (treeL n f hs.length) = hs ++ T ∧ T.length = 2 * n - 1 ∧ T.getD (2 * n - 2) 0 = logN n := by
  refine half_ind (M := fun n => n ≤ 2000000 → ∀ (f : Int) (hs : List Int), ∃ T, hsFrom hs (treeL n f hs.length) = hs ++ T ∧ T.length = 2 * n - 1 ∧ T.getD (2 * n - 2) 0 = logN n) (fun _ f hs => ?_) (fun n h i1 i2 hn f hs => ?_) n h
  · refine ⟨[0], ?_, rfl, ?_⟩
    · rw [treeL_one]
      simp [hsFrom, hOf, leafNd, kidsL, hFold]
    · rw [logN_one (by omega)]; rfl
  · have hs2 := lhalf_add n
    have hp := lhalf_lt h
    obtain ⟨A, a1, a2, a3⟩ := i1 (by omega) f hs
    obtain ⟨B, b1, b2, b3⟩ := i2 (by omega) (f + lhalf n) (hs ++ A)
    have hb : ((hs ++ A).length : Int) = (hs.length : Int) + (2 * lhalf n - 1) := by rw [List.length_append, a2]; omega
    rw [hb] at b1
    have hl : ((hs ++ A) ++ B).getD ((hs.length : Int) + (2 * lhalf n - 2)).toNat 0 = logN (lhalf n) := by
      rw [show ((hs.length : Int) + (2 * lhalf n - 2)).toNat = hs.length + (2 * lhalf n - 2) by omega, List.append_assoc, List.getD_eq_getElem?_getD, List.getElem?_append_right (by omega), show hs.length + (2 * lhalf n - 2) - hs.length = 2 * lhalf n - 2 by omega,
        List.getElem?_append_left (by omega), ← List.getD_eq_getElem?_getD]
      exact a3
    have hr : ((hs ++ A) ++ B).getD ((hs.length : Int) + (2 * n - 3)).toNat 0 = logN (n / 2) := by
      rw [show ((hs.length : Int) + (2 * n - 3)).toNat = (hs ++ A).length + (2 * (n / 2) - 2) by rw [List.length_append, a2]; omega, List.getD_eq_getElem?_getD, List.getElem?_append_right (by omega), Nat.add_sub_cancel_left, ← List.getD_eq_getElem?_getD]
      exact b3
    refine ⟨A ++ (B ++ [(logN n : Int)]), ?_, ?_, ?_⟩
    · rw [treeL_two h, hsFrom_append, a1, hsFrom_append, b1]
      have h3 : hOf ((hs ++ A) ++ B) (innerNd n f hs.length) = logN n := by
        unfold hOf
        have hk : kidsL (innerNd n f hs.length).l (innerNd n f hs.length).r = [(hs.length : Int) + (2 * lhalf n - 2), (hs.length : Int) + (2 * n - 3)] := by
          unfold kidsL innerNd
          simp only
          rw [if_neg (by omega), if_neg (by omega)]; rfl
        rw [hk]
        unfold hFold
        simp only [List.foldl_cons, List.foldl_nil]
        rw [hl, hr, logN_two h hn]
        have := logN_half h hn
        omega
      unfold hsFrom
      simp only [List.foldl_cons, List.foldl_nil]
      rw [h3]
      simp
    · simp only [List.length_append, List.length_singleton]; omega
    · rw [List.getD_eq_getElem?_getD, List.getElem?_append_right (by omega), List.getElem?_append_right (by omega), show 2 * n - 2 - A.length - B.length = 0 by omega]
      rfl
theorem frame_high {m : Nat} (h : 1 ≤ m) (h2 : m ≤ 2000000) : hRes (frameN m) (2 * m - 2) = logN m ∧ walkErr (frameN m) (2 * m - 2) = 0 := by
  have he : walkErr (frameN m) (2 * m - 2) = 0 := by
    unfold walkErr
    rw [if_pos (frameN_right m), if_pos ⟨by omega, by rw [frameN_len]; omega⟩]
  refine ⟨?_, he⟩
  unfold hRes
  rw [if_pos he]
  obtain ⟨T, t1, t2, t3⟩ := tree_high h h2 0 []
  have h3 : hsL (frameN m) = T := by
    have : hsFrom [] (treeL m 0 0) = T := by simpa using t1
    exact this
  rw [h3, show ((2 * m - 2 : Int)).toNat = 2 * m - 2 by omega]
  exact t3

/-- What the law asks of a node. -/
def ShapeAt (ns : List Nd) (i : Int) : Prop :=
  (nd ns i).a = 0 ∧ (((nd ns i).k = 1 ∧ (nd ns i).t = (nd ns i).f + 1 ∧ (nd ns i).i = (nd ns i).f) ∨
    ((nd ns i).k = 2 ∧ (nd ns i).i = 0 ∧ 0 ≤ (nd ns i).l ∧ (nd ns i).l < i ∧ 0 ≤ (nd ns i).r ∧ (nd ns i).r < i ∧ (nd ns (nd ns i).l).f = (nd ns i).f ∧ (nd ns (nd ns i).l).t = (nd ns (nd ns i).r).f ∧ (nd ns (nd ns i).r).t = (nd ns i).t ∧
      0 ≤ ((nd ns (nd ns i).l).t - (nd ns (nd ns i).l).f) - ((nd ns (nd ns i).r).t - (nd ns (nd ns i).r).f) ∧ ((nd ns (nd ns i).l).t - (nd ns (nd ns i).l).f) - ((nd ns (nd ns i).r).t - (nd ns (nd ns i).r).f) ≤ 1))
theorem shape_at {ns : List Nd} {n : Nat} (h : 1 ≤ n) : ∀ f b, SubAt ns n f b → ∀ i, b ≤ i → i < b + (2 * n - 1) → ShapeAt ns i := by
  refine half_ind (M := fun n => ∀ f b, SubAt ns n f b → ∀ i, b ≤ i → i < b + (2 * n - 1) → ShapeAt ns i) (fun f b hsub i h0 h1 => ?_) (fun n h i1 i2 f b hsub i h0 h1 => ?_) n h
  · have hr := hsub.root
    unfold ShapeAt
    rw [show i = b + (2 * ((1 : Nat) : Int) - 2) by omega, hr]
    exact ⟨rfl, .inl ⟨rfl, rfl, rfl⟩⟩
  · obtain ⟨a1, a2, a3, a4⟩ := lhalf_lt h
    have hs := lhalf_add n
    have hlow := hsub.low
    rcases sub_cases h h0 h1 with ⟨c0, c1⟩ | ⟨c0, c1⟩ | rfl
    · exact i1 f b (hsub.left h) i c0 c1
    · exact i2 _ _ (hsub.right h) i c0 c1
    · unfold ShapeAt
      obtain ⟨k1, k2, k3⟩ := SubAt.kids (f := f) (b := b) h
      have hrl := (hsub.left h).root
      have hrr := (hsub.right h).root
      rw [hsub.root, k1, k2, hrl, hrr, rootNd_f, rootNd_f, rootNd_f, rootNd_t (by omega), rootNd_t (by omega), rootNd_t (by omega)]
      have hh : (rootNd n f b).a = 0 ∧ (rootNd n f b).i = 0 := by unfold rootNd; rw [if_neg (by omega)]; exact ⟨rfl, rfl⟩
      refine ⟨hh.1, .inr ⟨k3, hh.2, by omega, by omega, by omega, by omega, rfl, rfl, by omega, ?_, ?_⟩⟩
      · have : n / 2 ≤ lhalf n := by unfold lhalf; omega
        omega
      · have : lhalf n ≤ n / 2 + 1 := by unfold lhalf; omega
        omega
/-- How many leaves are among the first ones. -/
def lvN (ns : List Nd) (i : Nat) : Nat := ((ns.take i).filter fun u => u.k == 1).length
theorem lvN_step (ns : List Nd) (i : Nat) (h : i < ns.length) : lvN ns (i + 1) = lvN ns i + (if (ns.getD i Nd.zero).k = 1 then 1 else 0) := by
  unfold lvN
  rw [take_snoc' ns i h, List.filter_append, List.length_append]
  simp only [List.filter_cons, List.filter_nil]
  split <;> split <;> simp_all
theorem lvN_le (ns : List Nd) (i : Nat) : lvN ns i ≤ i := by
  unfold lvN
  exact Nat.le_trans (List.length_filter_le _ _) (by rw [List.length_take]; omega)
theorem lvN_left (a b : List Nd) (i : Nat) (h : i ≤ a.length) : lvN (a ++ b) i = lvN a i := by
  unfold lvN
  rw [List.take_append_of_le_length h]
theorem lvN_right (a b : List Nd) (i : Nat) (h : a.length ≤ i) : lvN (a ++ b) i = lvN a a.length + lvN b (i - a.length) := by
  unfold lvN
  rw [List.take_append, List.filter_append, List.length_append, List.take_of_length_le h, List.take_of_length_le (Nat.le_refl _)]
theorem tree_leaves {n : Nat} (h : 1 ≤ n) : ∀ f b, lvN (treeL n f b) (2 * n - 1) = n ∧ ∀ i, i < 2 * n - 1 → ((treeL n f b).getD i Nd.zero).k = 1 → ((treeL n f b).getD i Nd.zero).f = f + lvN (treeL n f b) i := by
  refine half_ind (M := fun n => ∀ f b, lvN (treeL n f b) (2 * n - 1) = n ∧ ∀ i, i < 2 * n - 1 → ((treeL n f b).getD i Nd.zero).k = 1 → ((treeL n f b).getD i Nd.zero).f = f + lvN (treeL n f b) i) (fun f b => ?_) (fun n h i1 i2 f b => ?_) n h
  · rw [treeL_one]
    refine ⟨rfl, fun i hi _ => ?_⟩
    have : i = 0 := by omega
    subst this
    simp [leafNd, lvN]
  · obtain ⟨a1, a2, a3, a4⟩ := lhalf_lt h
    have hs := lhalf_add n
    obtain ⟨x1, x2⟩ := i1 f b
    obtain ⟨y1, y2⟩ := i2 (f + lhalf n) (b + (2 * lhalf n - 1))
    have la := treeL_len a3 f b
    have lb := treeL_len a4 (f + lhalf n) (b + (2 * lhalf n - 1))
    rw [treeL_two h]
    generalize treeL (lhalf n) f b = A at x1 x2 la ⊢
    generalize treeL (n / 2) (f + lhalf n) (b + (2 * lhalf n - 1)) = B at y1 y2 lb ⊢
    refine ⟨?_, fun i hi hk => ?_⟩
    · rw [lvN_right _ _ _ (by omega), la, x1, show 2 * n - 1 - (2 * lhalf n - 1) = (2 * (n / 2) - 1) + 1 by omega, lvN_right _ _ _ (by omega), lb, y1, show 2 * (n / 2) - 1 + 1 - (2 * (n / 2) - 1) = 1 by omega]
      have : lvN [innerNd n f b] 1 = 0 := rfl
      omega
    · rcases Nat.lt_or_ge i A.length with c | c
      · rw [List.getD_eq_getElem?_getD, List.getElem?_append_left c, ← List.getD_eq_getElem?_getD] at hk ⊢
        rw [lvN_left _ _ _ (by omega)]
        exact x2 i (by omega) hk
      · rw [List.getD_eq_getElem?_getD, List.getElem?_append_right c] at hk ⊢
        have x3 : lvN A A.length = lhalf n := by rw [la]; exact x1
        rw [lvN_right _ _ _ c, x3]
        rcases Nat.lt_or_ge (i - A.length) B.length with d | d
        · rw [List.getElem?_append_left d, ← List.getD_eq_getElem?_getD] at hk ⊢
          have e := y2 (i - A.length) (by omega) hk
          rw [e, lvN_left _ _ _ (by omega)]
          omega
        · rw [List.getElem?_append_right d, show i - A.length - B.length = 0 by omega] at hk
          simp [innerNd] at hk
theorem frame_leaves {m : Nat} (h : 1 ≤ m) : lvN (frameN m) (frameN m).length = m ∧ ∀ i, i < (frameN m).length → ((frameN m).getD i Nd.zero).k = 1 → ((frameN m).getD i Nd.zero).f = lvN (frameN m) i := by
  obtain ⟨h1, h2⟩ := tree_leaves h 0 0
  rw [frameN_len]
  refine ⟨h1, fun i hi hk => ?_⟩
  have := h2 i hi hk
  rw [Int.zero_add] at this
  exact this
end Go.Proofs.Ytmfkpjafeaidkaa
