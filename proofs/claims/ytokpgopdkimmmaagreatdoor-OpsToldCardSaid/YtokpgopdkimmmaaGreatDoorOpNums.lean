/- strconv's readers read what its writers write: plain law. -/
import Derived.Test.YtokpgopdkimmmaaGreatDoorDigits
import Derived.Lib.ParseIntB
namespace Go.Proofs.YtokpgopdkimmmaaGreatDoor
open Go.RowKit
open Go.Lib (decDigits nDigits decDigits_one decDigits_length parseUintM parseUintB parseIntB itoa)
set_option linter.unusedVariables false

theorem parseM_snoc (M : Nat) (c : UInt8) : ∀ (l : List UInt8) (acc u : Nat), parseUintM M acc l = .ok u → parseUintM M acc (l ++ [c]) = if 48 ≤ c.toNat ∧ c.toNat ≤ 57 then (if 1844674407370955162 ≤ u then .range else if M < u * 10 + (c.toNat - 48) then .range else .ok (u * 10 + (c.toNat - 48))) else .syntax := by
  intro l
  induction l with
  | nil =>
    intro acc u h
    simp only [parseUintM] at h
    injection h with h
    subst h
    simp only [List.nil_append, parseUintM]
  | cons x l ih =>
    intro acc u h
    simp only [List.cons_append, parseUintM] at h ⊢
    by_cases h1 : 48 ≤ x.toNat ∧ x.toNat ≤ 57
    · rw [if_pos h1] at h ⊢
      by_cases h2 : 1844674407370955162 ≤ acc
      · rw [if_pos h2] at h; cases h
      · rw [if_neg h2] at h ⊢
        by_cases h3 : M < acc * 10 + (x.toNat - 48)
        · rw [if_pos h3] at h; cases h
        · rw [if_neg h3] at h ⊢
          exact ih _ _ h
    · rw [if_neg h1] at h; cases h
theorem parseM_dec (M : Nat) (hM : M < 18446744073709551616) (n : Nat) : n ≤ M → parseUintM M 0 (decDigits n) = .ok n := by
  refine dec_ind (P := fun n => n ≤ M → parseUintM M 0 (decDigits n) = .ok n) (fun n h hn => ?_) (fun n h ih hn => ?_) n
  · rw [decDigits_one h]
    simp only [parseUintM, dgt_nat h]
    rw [if_pos (by omega), if_neg (by omega), if_neg (by omega)]
    congr 1
    omega
  · rw [dec_big h, parseM_snoc M _ _ _ _ (ih (by omega)), dgt_nat (by omega), if_pos (by omega), if_neg (by omega), if_neg (by omega)]
    congr 1
    omega
theorem parseU_dec (B : Nat) (hB : 2 ^ B ≤ 18446744073709551616) (n : Nat) (hn : n < 2 ^ B) : parseUintB B (decDigits n) = .ok n := by
  unfold parseUintB
  rw [if_neg (decDigits_ne n)]
  exact parseM_dec _ (by omega) n (by omega)
theorem dec_first (n : Nat) : ∃ c r, decDigits n = c :: r ∧ 48 ≤ c.toNat ∧ c.toNat ≤ 57 := by
  cases h : decDigits n with
  | nil => exact absurd h (decDigits_ne n)
  | cons c r =>
    have h2 := dec_all n c (by rw [h]; exact List.mem_cons_self)
    unfold digitB at h2
    simp at h2
    exact ⟨c, r, rfl, h2.1, h2.2⟩
theorem parseI_itoa (n : Int) (h1 : -9223372036854775808 ≤ n) (h2 : n < 9223372036854775808) : parseIntB 64 (itoa n) = .ok n := by
  unfold itoa
  split
  · have hu := parseU_dec 64 (by decide) n.natAbs (Nat.lt_of_le_of_lt (show n.natAbs ≤ 9223372036854775808 by omega) (by decide))
    simp only [parseIntB]
    rw [if_pos (Or.inr (by decide)), hu]
    simp only
    rw [if_neg (fun h => h.1 (by decide)), if_neg (by omega), if_pos (by decide)]
    congr 1
    omega
  · obtain ⟨c, r, e, g1, g2⟩ := dec_first n.toNat
    have hu := parseU_dec 64 (by decide) n.toNat (Nat.lt_of_le_of_lt (show n.toNat ≤ 9223372036854775807 by omega) (by decide))
    rw [e] at hu ⊢
    simp only [parseIntB]
    rw [if_neg (by omega), hu]
    simp only
    rw [if_neg (by omega), if_neg (by omega), if_neg (by omega)]
    congr 1
    omega
end Go.Proofs.YtokpgopdkimmmaaGreatDoor
