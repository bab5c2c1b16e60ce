/- What is right by marks is right by asking all nodes ahead: plain Lean. -/
import Derived.Test.YtmfkpjafeaidkaaRefKid
namespace Go.Proofs.Ytmfkpjafeaidkaa
set_option linter.unusedVariables false

theorem snoc_ind {α : Type} {motive : List α → Prop} (h0 : motive []) (h1 : ∀ l a, motive l → motive (l ++ [a])) : ∀ l, motive l := by
  intro l
  have : ∀ m : List α, motive m.reverse := by
    intro m
    induction m with
    | nil => exact h0
    | cons a m ih => rw [List.reverse_cons]; exact h1 _ _ ih
  have h := this l.reverse
  rwa [List.reverse_reverse] at h
theorem kids_mem (n : Nd) (p : Int) (hp : 0 ≤ p) : n.kids.contains p = (n.l == p || n.r == p) := by
  rw [Bool.eq_iff_iff, List.contains_iff_mem, Bool.or_eq_true, beq_iff_eq, beq_iff_eq]
  unfold Nd.kids kidsL
  split <;> split <;> simp <;> omega
theorem flags (ns : List Nd) : rightL [] ns = true → ∀ p : Int, 0 ≤ p → p < ns.length → (ksFrom [] ns).getD p.toNat true = kidB ns p := by
  refine snoc_ind (motive := fun ns => rightL [] ns = true → ∀ p : Int, 0 ≤ p → p < ns.length → (ksFrom [] ns).getD p.toNat true = kidB ns p) ?_ ?_ ns
  · intro _ p h0 h1; simp at h1; omega
  · intro xs n ih hr p h0 h1
    have hr' := hr
    rw [rightL_snoc, Bool.and_eq_true] at hr'
    have hl : (ksFrom [] xs).length = xs.length := by rw [ksFrom_len]; simp
    rw [ksFrom_snoc]
    unfold stepK
    by_cases hp : p < xs.length
    · rw [List.getD_eq_getElem?_getD, List.getElem?_append_left (by rw [markL_len]; omega), ← List.getD_eq_getElem?_getD, markL_get _ n.kids _ h0 (by rw [hl]; exact hp) (fun y hy => (may_kids hr'.2 y hy).1), ih hr'.1 p h0 hp, kidB_snoc, kids_mem n p h0]
    · have hpe : p.toNat = xs.length := by simp at h1; omega
      rw [List.getD_eq_getElem?_getD, List.getElem?_append_right (by rw [markL_len]; omega), markL_len, hl, hpe]
      simp only [Nat.sub_self, List.getElem?_cons_zero, Option.getD_some]
      symm
      unfold kidB
      rw [List.any_eq_false]
      intro m hm
      obtain ⟨x, hx, rfl⟩ := List.mem_iff_getElem.1 hm
      have hk := right_kidsOk hr (x : Int) (by omega) (by omega)
      have e : nd (xs ++ [n]) (x : Int) = (xs ++ [n])[x] := by unfold nd; simp [List.getD_eq_getElem?_getD, List.getElem?_eq_getElem hx]
      rw [e] at hk
      have hxl : x ≤ xs.length := by simp at hx; omega
      simp only [Bool.or_eq_true, beq_iff_eq]
      omega
theorem ok_free {xs : List Nd} (h : rightL [] xs = true) (p : Int) : okKid (ksFrom [] xs) p = freeB xs p := by
  have hl : (ksFrom [] xs).length = xs.length := by rw [ksFrom_len]; simp
  unfold okKid freeB
  rw [hl]
  by_cases hp : 0 ≤ p ∧ p < xs.length
  · rw [flags xs h p hp.1 hp.2]
  · rw [decide_eq_false hp]; rfl
theorem may_eq {xs : List Nd} (h : rightL [] xs = true) (n : Nd) : mayB n.k n.l n.r (ksFrom [] xs) = rmayB xs n := by
  have hf : ∀ p, okKid (ksFrom [] xs) p = freeB xs p := ok_free h
  unfold mayB rmayB AllK
  by_cases k1 : n.k = 1
  · rw [if_pos k1, if_pos k1]
    unfold kidsL
    by_cases hL : n.l = -1 <;> by_cases hR : n.r = -1 <;> simp [hL, hR]
  · rw [if_neg k1, if_neg k1]
    by_cases k2 : n.k = 2
    · rw [if_pos k2]
      by_cases e : n.l = n.r
      · rw [if_pos (.inr e)]; simp [e]
      · rw [if_neg (by simp [k2, e])]
        have h3 : (n.l != n.r) = true := by simpa using e
        unfold kidsL
        by_cases hL : n.l = -1 <;> by_cases hR : n.r = -1
        · exact absurd (hL.trans hR.symm) e
        · have h2 : (n.r == -1) = false := by simpa using hR
          have h4 : (-1 != n.r) = true := by simp only [bne_iff_ne]; exact fun h => hR h.symm
          simp [hL, hR, hf, h2, h4]
        · have h2 : (n.l == -1) = false := by simpa using hL
          have h4 : (n.l != -1) = true := by simpa using hL
          simp [hL, hR, hf, h2, h4]
        · have h1 : (n.l == -1) = false := by simpa using hL
          have h2 : (n.r == -1) = false := by simpa using hR
          simp [hL, hR, hf, h1, h2, h3]
    · rw [if_neg k2, if_pos (.inl k2), Bool.and_false]
/-- What the reference says of right nodes. -/
def rrightB (ns : List Nd) : Bool := (List.range ns.length).all fun k => rmayB (ns.take k) (ns.getD k Nd.zero)
end Go.Proofs.Ytmfkpjafeaidkaa
