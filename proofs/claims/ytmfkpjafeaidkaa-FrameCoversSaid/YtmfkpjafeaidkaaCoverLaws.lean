/- Canonical nodes in plain Lean: they stand one behind the other, are few, no two have one parent, no one's parent lies within the range. No program. -/
import Derived.Test.YtmfkpjafeaidkaaPathLaws
namespace Go.Proofs.Ytmfkpjafeaidkaa
open Go.RowKit
set_option linter.unusedVariables false

/-- Nodes one behind the other, from a to b. -/
def RowOf (ns : List Nd) : Int → List Int → Int → Prop
  | a, [], b => a = b
  | a, x :: xs, b => (nd ns x).f = a ∧ RowOf ns (nd ns x).t xs b
theorem RowOf.append {ns : List Nd} : ∀ {xs : List Int} {a m b : Int} {ys : List Int}, RowOf ns a xs m → RowOf ns m ys b → RowOf ns a (xs ++ ys) b
  | [], _, _, _, _, h, k => by unfold RowOf at h; subst h; exact k
  | _ :: _, _, _, _, _, h, k => ⟨h.1, RowOf.append h.2 k⟩
theorem canon_row {ns : List Nd} (lo hi : Int) (hlh : lo < hi) {n : Nat} (h : 1 ≤ n) : ∀ f b, SubAt ns n f b → ¬(f + n ≤ lo ∨ hi ≤ f) → RowOf ns (max lo f) (canonT lo hi n f b) (min hi (f + n)) := by
  refine half_ind (M := fun n => ∀ f b, SubAt ns n f b → ¬(f + n ≤ lo ∨ hi ≤ f) → RowOf ns (max lo f) (canonT lo hi n f b) (min hi (f + n))) (fun f b hsub ho => ?_) (fun n h i1 i2 f b hsub ho => ?_) n h
  · have hr := hsub.root
    rw [canonT_in ho (by omega)]
    refine ⟨?_, ?_⟩
    · rw [hr, rootNd_f]; omega
    · unfold RowOf; rw [hr, rootNd_t (by omega)]; omega
  · have hs := lhalf_add n
    have hp := lhalf_lt h
    have hr := hsub.root
    by_cases e2 : lo ≤ f ∧ f + n ≤ hi
    · rw [canonT_in ho e2]
      refine ⟨?_, ?_⟩
      · rw [hr, rootNd_f]; omega
      · unfold RowOf; rw [hr, rootNd_t (by omega)]; omega
    · rw [canonT_two h ho e2]
      by_cases l : f + lhalf n ≤ lo
      · rw [canonT_out (n := lhalf n) (.inl l), List.nil_append]
        have := i2 _ _ (hsub.right h) (by omega)
        rw [show max lo f = max lo (f + lhalf n) by omega, show min hi (f + (n : Int)) = min hi (f + (lhalf n : Int) + ((n / 2 : Nat) : Int)) by omega]
        exact this
      · by_cases r : hi ≤ f + lhalf n
        · rw [canonT_out (n := n / 2) (.inr r), List.append_nil]
          have := i1 f b (hsub.left h) (by omega)
          rw [show min hi (f + (n : Int)) = min hi (f + lhalf n) by omega]
          exact this
        · have a := i1 f b (hsub.left h) (by omega)
          have c := i2 _ _ (hsub.right h) (by omega)
          rw [show min hi (f + (lhalf n : Int)) = f + lhalf n by omega] at a
          rw [show max lo (f + (lhalf n : Int)) = f + lhalf n by omega] at c
          rw [show min hi (f + (n : Int)) = min hi (f + (lhalf n : Int) + ((n / 2 : Nat) : Int)) by omega]
          exact a.append c
theorem canon_root {lo hi : Int} {n : Nat} (h : 1 ≤ n) {f b : Int} (hm : b + (2 * (n : Int) - 2) ∈ canonT lo hi n f b) : lo ≤ f ∧ f + n ≤ hi := by
  by_cases e1 : f + n ≤ lo ∨ hi ≤ f
  · rw [canonT_out e1] at hm; simp at hm
  · by_cases e2 : lo ≤ f ∧ f + n ≤ hi
    · exact e2
    · exfalso
      have h2 : 2 ≤ n := by omega
      have hs := lhalf_add n
      have hp := lhalf_lt h2
      rw [canonT_two h2 e1 e2, List.mem_append] at hm
      rcases hm with hm | hm
      · have := canonT_mem lo hi (show 1 ≤ lhalf n by omega) f b _ hm; omega
      · have := canonT_mem lo hi (show 1 ≤ n / 2 by omega) _ _ _ hm; omega
/-- Of an inner node not both kids are canonical; none is where the node lies within the range. -/
theorem canon_kids {ns : List Nd} (lo hi : Int) {n : Nat} (h : 1 ≤ n) : ∀ f b, SubAt ns n f b → ∀ i, b ≤ i → i < b + (2 * n - 1) → (nd ns i).k = 2 →
    ¬((nd ns i).l ∈ canonT lo hi n f b ∧ (nd ns i).r ∈ canonT lo hi n f b) ∧ ((nd ns i).l ∈ canonT lo hi n f b ∨ (nd ns i).r ∈ canonT lo hi n f b → ¬(lo ≤ (nd ns i).f ∧ (nd ns i).t ≤ hi)) := by
  refine half_ind (M := fun n => ∀ f b, SubAt ns n f b → ∀ i, b ≤ i → i < b + (2 * n - 1) → (nd ns i).k = 2 →
    ¬((nd ns i).l ∈ canonT lo hi n f b ∧ (nd ns i).r ∈ canonT lo hi n f b) ∧ ((nd ns i).l ∈ canonT lo hi n f b ∨ (nd ns i).r ∈ canonT lo hi n f b → ¬(lo ≤ (nd ns i).f ∧ (nd ns i).t ≤ hi))) (fun f b hsub i h0 h1 hk => ?_) (fun n h i1 i2 f b hsub i h0 h1 hk => ?_) n h
  · have hr := hsub.root
    rw [show i = b + (2 * ((1 : Nat) : Int) - 2) by omega, hr, rootNd_leaf (by omega)] at hk
    omega
  · have hs := lhalf_add n
    have hp := lhalf_lt h
    have hlow := hsub.low
    have kid : ∀ x, hasKid (nd ns i) x = true → x ≠ -1 → b ≤ x ∧ x < b + (2 * n - 2) := fun x hx hn => sub_kids (by omega) f b hsub i x h0 h1 hn hx
    by_cases e1 : f + n ≤ lo ∨ hi ≤ f
    · rw [canonT_out e1]; simp
    · by_cases e2 : lo ≤ f ∧ f + n ≤ hi
      · rw [canonT_in e1 e2]
        have hl : (nd ns i).l ≠ b + (2 * n - 2) := fun e => by
          have := kid (nd ns i).l (by simp [hasKid]) (by omega)
          omega
        have hr : (nd ns i).r ≠ b + (2 * n - 2) := fun e => by
          have := kid (nd ns i).r (by simp [hasKid]) (by omega)
          omega
        simp [hl, hr]
      · rw [canonT_two h e1 e2]
        have cl := canonT_mem lo hi (show 1 ≤ lhalf n by omega) f b
        have cr := canonT_mem lo hi (show 1 ≤ n / 2 by omega) (f + lhalf n) (b + (2 * lhalf n - 1))
        rcases sub_cases h h0 h1 with ⟨c0, c1⟩ | ⟨c0, c1⟩ | rfl
        · obtain ⟨g1, g2⟩ := i1 f b (hsub.left h) i c0 c1 hk
          have out : ∀ x, hasKid (nd ns i) x = true → x ∉ canonT lo hi (n / 2) (f + lhalf n) (b + (2 * lhalf n - 1)) := fun x hx hm => by
            have h1 := cr x hm
            have h2 := sub_kids (by omega) f b (hsub.left h) i x c0 c1 (by omega) hx
            omega
          have ol := out (nd ns i).l (by simp [hasKid])
          have or' := out (nd ns i).r (by simp [hasKid])
          simp only [List.mem_append, ol, or', or_false]
          exact ⟨g1, g2⟩
        · obtain ⟨g1, g2⟩ := i2 _ _ (hsub.right h) i c0 c1 hk
          have out : ∀ x, hasKid (nd ns i) x = true → x ∉ canonT lo hi (lhalf n) f b := fun x hx hm => by
            have h1 := cl x hm
            have h2 := sub_kids (by omega) _ _ (hsub.right h) i x c0 c1 (by omega) hx
            omega
          have ol := out (nd ns i).l (by simp [hasKid])
          have or' := out (nd ns i).r (by simp [hasKid])
          simp only [List.mem_append, ol, or', false_or]
          exact ⟨g1, g2⟩
        · obtain ⟨k1, k2, k3⟩ := SubAt.kids (f := f) (b := b) h
          rw [hsub.root, rootNd_f, rootNd_t (by omega)]
          refine ⟨fun ⟨hl, hr⟩ => ?_, fun _ => e2⟩
          rw [k1, List.mem_append] at hl
          rw [k2, List.mem_append] at hr
          have hl2 : b + (2 * (lhalf n : Int) - 2) ∈ canonT lo hi (lhalf n) f b := hl.resolve_right (fun hm => by have := cr _ hm; omega)
          have hr2 := hr.resolve_left (fun hm => by have := cl _ hm; omega)
          have x1 := canon_root (by omega) hl2
          have x2 := canon_root (by omega) hr2
          omega
theorem canon_le_ent (lo hi : Int) {n : Nat} (h : 1 ≤ n) : ∀ f b, (canonT lo hi n f b).length ≤ entT lo hi n f := by
  refine half_ind (M := fun n => ∀ f b, (canonT lo hi n f b).length ≤ entT lo hi n f) (fun f b => ?_) (fun n h i1 i2 f b => ?_) n h
  · by_cases e1 : f + (1 : Nat) ≤ lo ∨ hi ≤ f
    · rw [canonT_out e1]; simp
    · rw [canonT_in e1 (by omega), entT_in e1 (by omega)]; simp
  · by_cases e1 : f + n ≤ lo ∨ hi ≤ f
    · rw [canonT_out e1]; simp
    · by_cases e2 : lo ≤ f ∧ f + n ≤ hi
      · rw [canonT_in e1 e2, entT_in e1 e2]; simp
      · rw [canonT_two h e1 e2, entT_two h e1 e2, List.length_append]
        have := i1 f b
        have := i2 (f + lhalf n) (b + (2 * lhalf n - 1))
        omega
/-- A range that holds one end. -/
theorem canon_one (lo hi : Int) {n : Nat} (h : 1 ≤ n) : n ≤ 2000000 → ∀ f b, (lo ≤ f ∨ f + n ≤ hi) → (canonT lo hi n f b).length ≤ max 1 (logN n) ∧ entT lo hi n f ≤ 2 * logN n + 1 ∧ (¬(lo ≤ f ∧ f + n ≤ hi) → (canonT lo hi n f b).length ≤ logN n) := by
  refine half_ind (M := fun n => n ≤ 2000000 → ∀ f b, (lo ≤ f ∨ f + n ≤ hi) → (canonT lo hi n f b).length ≤ max 1 (logN n) ∧ entT lo hi n f ≤ 2 * logN n + 1 ∧ (¬(lo ≤ f ∧ f + n ≤ hi) → (canonT lo hi n f b).length ≤ logN n)) (fun _ f b ho => ?_) (fun n h i1 i2 hn f b ho => ?_) n h
  · by_cases e1 : f + (1 : Nat) ≤ lo ∨ hi ≤ f
    · rw [canonT_out e1, entT_out e1]; simp
    · rw [canonT_in e1 (by omega), entT_in e1 (by omega)]
      refine ⟨by simp; omega, by omega, fun g => absurd (by omega) g⟩
  · have hs := lhalf_add n
    have hp := lhalf_lt h
    have l1 := logN_two h hn
    have l2 := logN_right h hn
    by_cases e1 : f + n ≤ lo ∨ hi ≤ f
    · rw [canonT_out e1, entT_out e1]; simp
    · by_cases e2 : lo ≤ f ∧ f + n ≤ hi
      · rw [canonT_in e1 e2, entT_in e1 e2]
        refine ⟨by simp; omega, by omega, fun g => absurd e2 g⟩
      · rw [canonT_two h e1 e2, entT_two h e1 e2, List.length_append]
        rcases ho with ho | ho
        · rcases Int.lt_or_le (f + lhalf n) hi with c | c
          · obtain ⟨y1, y2, y3⟩ := i2 (by omega) (f + lhalf n) (b + (2 * lhalf n - 1)) (.inl (by omega))
            have y4 := y3 (by omega)
            rw [canonT_in (n := lhalf n) (by omega) (by omega), entT_in (n := lhalf n) (by omega) (by omega)]
            simp only [List.length_singleton]
            omega
          · obtain ⟨y1, y2, y3⟩ := i1 (by omega) f b (.inl ho)
            rw [canonT_out (n := n / 2) (.inr c), entT_out (n := n / 2) (.inr c)]
            simp only [List.length_nil]
            omega
        · rcases Int.lt_or_le lo (f + lhalf n) with c | c
          · obtain ⟨y1, y2, y3⟩ := i1 (by omega) f b (.inr (by omega))
            have y4 := y3 (by omega)
            rw [canonT_in (n := n / 2) (by omega) (by omega), entT_in (n := n / 2) (by omega) (by omega)]
            simp only [List.length_singleton]
            omega
          · obtain ⟨y1, y2, y3⟩ := i2 (by omega) (f + lhalf n) (b + (2 * lhalf n - 1)) (.inr (by omega))
            rw [canonT_out (n := lhalf n) (.inl c), entT_out (n := lhalf n) (.inl c)]
            simp only [List.length_nil]
            omega
/-- Few are told, few are entered. -/
theorem canon_few (lo hi : Int) {n : Nat} (h : 1 ≤ n) : n ≤ 2000000 → ∀ f b, (canonT lo hi n f b).length ≤ max 1 (2 * logN n) ∧ entT lo hi n f ≤ 4 * logN n + 1 := by
  refine half_ind (M := fun n => n ≤ 2000000 → ∀ f b, (canonT lo hi n f b).length ≤ max 1 (2 * logN n) ∧ entT lo hi n f ≤ 4 * logN n + 1) (fun hn f b => ?_) (fun n h i1 i2 hn f b => ?_) n h
  · by_cases ho : lo ≤ f ∨ f + (1 : Nat) ≤ hi
    · obtain ⟨a1, a2, _⟩ := canon_one lo hi (Nat.le_refl 1) hn f b ho
      omega
    · rw [canonT_out (by omega), entT_out (by omega)]; simp
  · by_cases ho : lo ≤ f ∨ f + n ≤ hi
    · obtain ⟨a1, a2, _⟩ := canon_one lo hi (show 1 ≤ n by omega) hn f b ho
      omega
    · have hs := lhalf_add n
      have hp := lhalf_lt h
      have l1 := logN_two h hn
      have l2 := logN_right h hn
      by_cases e1 : f + n ≤ lo ∨ hi ≤ f
      · rw [canonT_out e1, entT_out e1]; simp
      · rw [canonT_two h e1 (by omega), entT_two h e1 (by omega), List.length_append]
        rcases Int.lt_or_le lo (f + lhalf n) with c | c
        · rcases Int.lt_or_le (f + lhalf n) hi with d | d
          · obtain ⟨y1, y2, y3⟩ := canon_one lo hi (show 1 ≤ lhalf n by omega) (by omega) f b (.inr (by omega))
            have y4 := y3 (by omega)
            obtain ⟨z1, z2, z3⟩ := canon_one lo hi (show 1 ≤ n / 2 by omega) (by omega) (f + lhalf n) (b + (2 * lhalf n - 1)) (.inl (by omega))
            have z4 := z3 (by omega)
            omega
          · obtain ⟨y1, y2⟩ := i1 (by omega) f b
            rw [canonT_out (n := n / 2) (.inr d), entT_out (n := n / 2) (.inr d)]
            simp only [List.length_nil]
            omega
        · obtain ⟨y1, y2⟩ := i2 (by omega) (f + lhalf n) (b + (2 * lhalf n - 1))
          rw [canonT_out (n := lhalf n) (.inl c), entT_out (n := lhalf n) (.inl c)]
          simp only [List.length_nil]
          omega
end Go.Proofs.Ytmfkpjafeaidkaa
