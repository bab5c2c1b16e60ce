/- Slices of slices: one run equation that holds the model's own 'if' under one name. Plain lemmas. -/
import Derived.Test.YtmfkpjafeaidkaaLowNodes
namespace Go.Proofs.Ytmfkpjafeaidkaa
open Go.RowKit
set_option linter.unusedVariables false

theorem row_add {W : World} {ao : Option Addr} {xs : List Value} (h : Row W ao xs) (k c n : Nat) (hk : k ≤ xs.length) (hc : xs.length ≤ c) : Row W (if c = k then ao else ao.map (·.add (k * 1))) (xs.drop k) := by
  by_cases e : xs.drop k = []
  · exact .inl e
  · have hlt : k < xs.length := by
      rcases Nat.lt_or_ge k xs.length with h1 | h1
      · exact h1
      · exact absurd (List.drop_eq_nil_iff.2 h1) e
    rcases h with h | ⟨b, off, rfl, h⟩
    · subst h; simp at hlt
    · rw [if_neg (by omega)]
      refine .inr ⟨b, off + k, ?_, fun i hi => ?_⟩
      · simp only [Option.map_some, Nat.mul_one]
        unfold Addr.add
        split
        · rename_i h0; subst h0; rfl
        · rfl
      · have h1 := h (k + i) (by simp at hi; omega)
        rw [← Nat.add_assoc] at h1
        rw [h1, List.getElem?_drop]

/-- The first k are left out. -/
theorem cut_from {P : Program} {t e : TypeId} (ht : P.underlying t = some (.slice e)) (hs : ∀ w, (sizeOf e).run P w = .ok 1 w) (ao : Option Addr) (n c k : Nat) (hk : k ≤ n) (hc : n ≤ c) :
    ∃ A, (∀ w, (Instr.sliceAt t (.slice ao n c) (some (.int .i64 (k : Int))) none none).run P w = .ok (.slice A (n - k) (c - k)) w) ∧ ∀ W (xs : List Value), xs.length = n → Row W ao xs → Row W A (xs.drop k) := by
  have he : P.elem t = e := by unfold Program.elem; rw [ht]
  have ht' : P.underlying t = some (.slice (P.elem t)) := by rw [he]; exact ht
  refine ⟨if c = k then ao else ao.map (·.add (k * 1)), fun w => ?_, fun W xs hl h => ?_⟩
  · rw [run_sliceAt_slice w t _ _ _ _ ht', run_slice_any w t ao n c ht']
    simp [Instr.sliceBounds, run_sliceBound, he, hs, Result.andThen, sliced, hk]
  · exact row_add h k c n (by omega) (by omega)
/-- The first k alone. -/
theorem cut_to {P : Program} {t e : TypeId} (ht : P.underlying t = some (.slice e)) (hs : ∀ w, (sizeOf e).run P w = .ok 1 w) (ao : Option Addr) (n c k : Nat) (hk : k ≤ n) (hc : n ≤ c) :
    ∃ A, (∀ w, (Instr.sliceAt t (.slice ao n c) none (some (.int .i64 (k : Int))) none).run P w = .ok (.slice A k c) w) ∧ ∀ W (xs : List Value), xs.length = n → Row W ao xs → Row W A (xs.take k) := by
  have he : P.elem t = e := by unfold Program.elem; rw [ht]
  have ht' : P.underlying t = some (.slice (P.elem t)) := by rw [he]; exact ht
  refine ⟨if c = 0 then ao else ao.map (·.add (0 * 1)), fun w => ?_, fun W xs hl h => ?_⟩
  · rw [run_sliceAt_slice w t _ _ _ _ ht', run_slice_any w t ao n c ht']
    have hkc : (k : Int) ≤ c := by omega
    simp [Instr.sliceBounds, run_sliceBound, he, hs, Result.andThen, sliced, Nat.le_trans hk hc]
  · have h0 := row_add h 0 c n (Nat.zero_le _) (by omega)
    rw [List.drop_zero] at h0
    rcases h0 with h0 | ⟨b, off, e, h0⟩
    · subst h0; exact .inl (by simp)
    · refine .inr ⟨b, off, e, fun i hi => ?_⟩
      have h1 : i < k := by simp at hi; omega
      rw [h0 i (by simp at hi; omega), List.getElem?_take_of_lt h1]
theorem sizeInt : ∀ w, (sizeOf 3).run Try.prog w = .ok 1 w := fun w => by simp [go_sem]
end Go.Proofs.Ytmfkpjafeaidkaa
