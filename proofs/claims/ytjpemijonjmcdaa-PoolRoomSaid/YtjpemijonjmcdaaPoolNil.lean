/- What a pool that is nil, or not made by New, tells. -/
import Derived.Test.YtjpemijonjmcdaaPoolAwake
namespace Go.Proofs.Ytjpemijonjmcdaa
open Go.RowKit
set_option linter.unusedVariables false
set_option linter.unusedSimpArgs false

set_option maxRecDepth 100000 in
set_option maxHeartbeats 1000000 in
theorem put_nil (n : Nd) (w : World) : Calls Try.prog 25 #[.pointer none, n.val] w fun e w' => e = .returned (.tuple #[.int .i64 0, .int .i64 1]) ∧ Below w.heap.size w w' := by
  go_enter Try.func25, Try.ntmps25
  go_wp2
  go_ret2
  exact ⟨rfl, (Below.refl _ _).alloc (Nat.le_refl _) _⟩
set_option maxRecDepth 100000 in
set_option maxHeartbeats 1000000 in
theorem put_unmade (n : Nd) (pb : Nat) (w : World) (hc : w.cell? ⟨pb, 3, none⟩ = some (.bool false)) : Calls Try.prog 25 #[.pointer (some ⟨pb, 0, none⟩), n.val] w fun e w' => e = .returned (.tuple #[.int .i64 0, .int .i64 1]) ∧ Below w.heap.size w w' := by
  go_enter Try.func25, Try.ntmps25
  go_upto_region 1 with (fail)
  refine from_box1 (fun V hV => ?_)
  obtain ⟨hB, zlt, zge, cn, fn⟩ := hV
  have c3 := (hB.cell (World.block_lt_of_cell? _ _ hc)).trans hc
  have HB := Lib.hid hB
  clear hB cn fn hc
  go_wp2
  go_ret2
  exact ⟨rfl, HB.out⟩
set_option maxRecDepth 100000 in
set_option maxHeartbeats 1000000 in
theorem get_nil (i : Int) (w : World) : Calls Try.prog 37 #[.pointer none, .int .i64 i] w fun e w' => e = .returned (.tuple #[Nd.zero.val, .bool false]) ∧ Below w.heap.size w w' := by
  go_enter Try.func37, Try.ntmps37
  go_wp2
  exact bodyPost_ret (v := .tuple #[Nd.zero.val, .bool false]) (by simp [results, Try.results37, go_sem, Nd.zero]) rfl ⟨rfl, (Below.refl _ _).alloc (Nat.le_refl _) _⟩
set_option maxRecDepth 100000 in
set_option maxHeartbeats 1000000 in
theorem len_nil (w : World) : Calls Try.prog 27 #[.pointer none] w fun e w' => e = .returned (.int .i64 0) ∧ w = w' := by
  go_enter Try.func27, Try.ntmps27
  go_wp2
  go_ret
  exact ⟨rfl, rfl⟩
set_option maxRecDepth 100000 in
set_option maxHeartbeats 1000000 in
theorem roots_nil (w : World) : Calls Try.prog 29 #[.pointer none] w fun e w' => e = .returned (.slice none 0 0) ∧ w = w' := by
  go_enter Try.func29, Try.ntmps29
  go_wp2
  go_ret
  exact ⟨rfl, rfl⟩
set_option maxRecDepth 100000 in
set_option maxHeartbeats 1000000 in
theorem poolNodes_nil (w : World) : Calls Try.prog 26 #[.pointer none] w fun e w' => e = .returned (.slice none 0 0) ∧ w = w' := by
  go_enter Try.func26, Try.ntmps26
  go_wp2
  go_ret
  exact ⟨rfl, rfl⟩

theorem stepK_leaf (ks : List Bool) : stepK ks lfN = ks ++ [false] := rfl
theorem ks_leaves (j : Nat) : ksFrom [] (List.replicate j lfN) = List.replicate j false := by
  induction j with
  | zero => rfl
  | succ j ih => rw [List.replicate_succ', ksFrom_snoc, ih, stepK_leaf, ← List.replicate_succ']
theorem may_leaf (ks : List Bool) : mayB lfN.k lfN.l lfN.r ks = true := rfl
theorem put_leaf (j : Nat) (m : Int) (h : (j : Int) < m) : putErr (List.replicate j lfN) m lfN = 0 ∧ putAt (List.replicate j lfN) m lfN = j ∧ putNs (List.replicate j lfN) m lfN = List.replicate (j + 1) lfN := by
  have h1 : putErr (List.replicate j lfN) m lfN = 0 := by
    unfold putErr; rw [may_leaf, if_pos rfl, if_pos (by rw [List.length_replicate]; exact h)]
  refine ⟨h1, ?_, ?_⟩
  · unfold putAt; rw [h1, if_pos rfl, List.length_replicate]
  · unfold putNs; rw [h1, if_pos rfl, List.replicate_succ']
theorem put_full (m : Nat) : putErr (List.replicate m lfN) m lfN = 5 ∧ putNs (List.replicate m lfN) m lfN = List.replicate m lfN := by
  have h1 : putErr (List.replicate m lfN) m lfN = 5 := by
    unfold putErr; rw [may_leaf, if_pos rfl, if_neg (by rw [List.length_replicate]; omega)]
  exact ⟨h1, by unfold putNs; rw [h1, if_neg (by omega)]⟩
theorem put_past (m : Nat) : putErr (List.replicate m lfN) m (inN m (-1)) = 50 ∧ putNs (List.replicate m lfN) m (inN m (-1)) = List.replicate m lfN := by
  have h0 : mayB (inN m (-1)).k (inN m (-1)).l (inN m (-1)).r (ksFrom [] (List.replicate m lfN)) = false := by
    cases e : mayB (inN m (-1)).k (inN m (-1)).l (inN m (-1)).r (ksFrom [] (List.replicate m lfN)) with
    | false => rfl
    | true =>
      have h := may_kids e m (by simp [inN, kidsL])
      rw [ks_leaves, List.length_replicate] at h
      omega
  have h1 : putErr (List.replicate m lfN) m (inN m (-1)) = 50 := by unfold putErr; rw [h0, if_neg (by simp)]
  exact ⟨h1, by unfold putNs; rw [h1, if_neg (by omega)]⟩
theorem roots_leaves (m : Nat) : (rootsL (List.replicate m false)).length = m := by
  have h : rootsL (List.replicate m false) = rangeI m := by
    unfold rootsL
    rw [List.length_replicate]
    refine List.filter_eq_self.2 fun x hx => ?_
    have hx' := mem_rangeI.1 hx
    rw [List.getD_eq_getElem?_getD, List.getElem?_replicate, if_pos (by omega)]
    rfl
  rw [h]; unfold rangeI; simp
end Go.Proofs.Ytjpemijonjmcdaa
