/- The document's order. -/
import Derived.Test.YtplbglcdmimdoaaDoorRefAdd
namespace Go.Proofs.YtplbglcdmimdoaaDoor
open Go.RowKit
set_option linter.unusedVariables false
set_option linter.unusedSimpArgs false

theorem words_inj {a b : Nat} {p q : Int} (ha : wideV a = W2 p q) (hb : wideV b = W2 p q) : a = b := by
  have e := Value.agg.inj (ha.trans hb.symm)
  have e2 := Array.toList_inj.2 e
  simp only [List.cons.injEq, Value.int.injEq, true_and, and_true] at e2
  omega
set_option maxRecDepth 100000 in
set_option maxHeartbeats 4000000 in
theorem rcmp_any (a b : Nat) (ha : a < wTop) (hb : b < wTop) (w : World) : Calls Tryd.prog 28 #[wideV a, wideV b] w fun e w' => e = .returned (.int .i64 (cmpI a b)) ∧ Below w.heap.size w w' := by
  obtain ⟨pa, qa, ea⟩ := words_of a
  obtain ⟨pb, qb, eb⟩ := words_of b
  have BA := Lib.hid (bits_row a ha pa qa ea)
  have BB := Lib.hid (bits_row b hb pb qb eb)
  have HA := Lib.hid ha
  have HBB := Lib.hid hb
  rw [ea, eb]
  clear ha hb ea eb
  go_enter Tryd.func28, Tryd.ntmps28
  go_upto_region 1 with (fail)
  refine box2 (fun V hB k2 k3 => ?_)
  obtain ⟨b2, hb2⟩ : ∃ b, w.heap.size = b := ⟨_, rfl⟩
  rw [hb2] at k2 k3 ⊢
  clear hb2
  have KS := Lib.hid (show Below w.heap.size w V ∧ V.cell? ⟨b2, 0, none⟩ = some (.int .u64 pa) ∧ V.cell? ⟨b2, 1, none⟩ = some (.int .u64 qa) ∧ V.cell? ⟨b2 + 1, 0, none⟩ = some (.int .u64 pb) ∧ V.cell? ⟨b2 + 1, 1, none⟩ = some (.int .u64 qb) from ⟨hB, k2.2.1, k2.2.2, k3.2.1, k3.2.2⟩)
  clear hB k2 k3
  go_cut [5, 6] (fun x y wc => ∃ g1 g2, x = .slice (some ⟨g1, 0, none⟩) 128 128 ∧ y = .slice (some ⟨g2, 0, none⟩) 128 128 ∧ Hid (RowN wc g1 (bitsN 128 a)) ∧ Hid (RowN wc g2 (bitsN 128 b)) ∧ Hid (Below w.heap.size w wc))
  case first =>
    go_region_held3 (fun y => Below w.heap.size w y ∧ y.cell? ⟨b2, 0, none⟩ = some (.int .u64 pa) ∧ y.cell? ⟨b2, 1, none⟩ = some (.int .u64 qa) ∧ y.cell? ⟨b2 + 1, 0, none⟩ = some (.int .u64 pb) ∧ y.cell? ⟨b2 + 1, 1, none⟩ = some (.int .u64 qb))
      (first
        | exact keep2 KS.out ((Below.refl _ _).drew)
        | assumption)
      (first
        | (go_at_call 52; with_reducible refine (BA.out _).mono ?_; rintro e w' ⟨g, rfl, hR, hb⟩; have hS := keep2 (by assumption) hb)
        | (go_at_call 52; with_reducible refine (BB.out _).mono ?_; rintro e w' ⟨g, rfl, hR, hb⟩; have hS := keep2 (by assumption) hb; have hQ := RowN.later (by assumption) hb))
    all_goals
      go_wp2_with fail
      go_meet
      case rel => exact ⟨_, _, rfl, rfl, Lib.hid (by assumption), Lib.hid (by assumption), Lib.hid (And.left (by assumption))⟩
  case rest =>
  obtain ⟨g1, g2, rfl, rfl, R1, R2, HB⟩ := hcut
  clear KS BA BB
  go_wp2_with fail
  go_loopw [7] (fun i wr => ∃ k : Nat, k ≤ 128 ∧ i = .int .i64 ((k : Int) - 1) ∧ Hid (a / 2 ^ k = b / 2 ^ k) ∧ ∃ m, wr = wc.drewN m) (fun i _ => ((intOf i) + 1).toNat)
  case atStart =>
    refine ⟨128, Nat.le_refl _, rfl, Lib.hid ?_, 0, rfl⟩
    rw [Nat.div_eq_of_lt HA.out, Nat.div_eq_of_lt HBB.out]
  case round =>
    obtain ⟨k, hk, rfl, HQ, m, rfl⟩ := hrel
    cases k with
    | zero =>
      have HE := Lib.hid (show cmpI a b = 0 by
        have := HQ.out
        rw [Nat.pow_zero, Nat.div_one, Nat.div_one] at this
        unfold cmpI
        rw [if_neg (by omega), if_neg (by omega)])
      go_wp2
      go_ret
      exact ⟨by rw [HE.out]; rfl, below_drewN' HB.out m⟩
    | succ j =>
      have e : ((j + 1 : Nat) : Int) - 1 = (j : Int) := by omega
      rw [e]
      clear e
      have c1 := R1.out.2 j (a / 2 ^ j % 2) (bitsN_get 128 a j (by omega))
      have c2 := R2.out.2 j (b / 2 ^ j % 2) (bitsN_get 128 b j (by omega))
      obtain ⟨q1, q2⟩ := cmp_bit a b j HQ.out
      obtain ⟨x, hx⟩ : ∃ x, a / 2 ^ j % 2 = x := ⟨_, rfl⟩
      obtain ⟨y, hy⟩ : ∃ y, b / 2 ^ j % 2 = y := ⟨_, rfl⟩
      rw [hx] at c1
      rw [hy] at c2
      rw [hx, hy] at q1 q2
      have hx2 : x ≤ 1 := by omega
      have hy2 : y ≤ 1 := by omega
      clear hx hy
      by_cases h : x = y
      · have he : ((x : Int) != (y : Int)) = false := by simp [h]
        have Q1 := Lib.hid (q1 h)
        clear q1 q2 h
        go_wp2_with fail
        go_quiet (fail)
        go_wp2_with fail
        go_roundw
        case rel => exact ⟨j, by omega, rfl, Q1, _, rfl⟩
        case measure => simp [intOf]
      · have he : ((x : Int) != (y : Int)) = true := by simp; omega
        have Q2 := Lib.hid (q2 h)
        have s1 : IntKind.i64.wrap ((x : Int) - y) = (x : Int) - y := IntWalk.i64_in _ (by omega)
        clear q1 q2 h
        go_wp2_with fail
        go_quiet (fail)
        go_wp2_with fail
        go_quiet (fail)
        go_wp2
        go_ret
        exact ⟨by rw [Q2.out]; rfl, below_drewN' (below_drewN' (below_drewN' HB.out _) _) _⟩
end Go.Proofs.YtplbglcdmimdoaaDoor
