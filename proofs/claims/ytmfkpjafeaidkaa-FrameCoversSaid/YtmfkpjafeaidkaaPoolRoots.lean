/- The contract of (*pool.Pool).Roots. -/
import Derived.Test.YtmfkpjafeaidkaaPoolPutObj
namespace Go.Proofs.Ytmfkpjafeaidkaa
open Go.RowKit
set_option linter.unusedVariables false

theorem rootsL_snoc (ks : List Bool) (b : Bool) : rootsL (ks ++ [b]) = rootsL ks ++ (if b then [] else [(ks.length : Int)]) := by
  unfold rootsL
  rw [List.length_append, List.length_singleton, rangeI_succ, List.filter_append]
  congr 1
  · apply List.filter_congr
    intro x hx
    obtain ⟨h0, h1⟩ := mem_rangeI.1 hx
    rw [List.getD_eq_getElem?_getD, List.getD_eq_getElem?_getD, List.getElem?_append_left (by omega)]
  · have : (ks ++ [b]).getD ((ks.length : Int)).toNat true = b := by
      rw [List.getD_eq_getElem?_getD, List.getElem?_append_right (by simp)]; simp
    rw [List.filter_cons, List.filter_nil, this]
    cases b <;> rfl
theorem rootsL_len (ks : List Bool) : (rootsL ks).length ≤ ks.length := by
  have := List.length_filter_le (fun x : Int => !(ks.getD x.toNat true)) (rangeI ks.length)
  unfold rootsL
  unfold rangeI at *
  simp at this ⊢
  exact this
theorem roots_take (ks : List Bool) (k : Nat) (h : k < ks.length) : rootsL (ks.take (k + 1)) = rootsL (ks.take k) ++ (if ks.getD k false then [] else [(k : Int)]) := by
  rw [List.take_succ_eq_append_getElem h, rootsL_snoc]
  rw [List.length_take, Nat.min_eq_left (by omega), List.getD_eq_getElem?_getD, List.getElem?_eq_getElem h]; rfl

end Go.Proofs.Ytmfkpjafeaidkaa
