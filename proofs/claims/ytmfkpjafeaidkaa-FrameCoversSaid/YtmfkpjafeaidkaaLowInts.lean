/- The contract of gridironlow.Ints. -/
import Derived.Test.YtmfkpjafeaidkaaStackLvs
namespace Go.Proofs.Ytmfkpjafeaidkaa
open Go.RowKit
set_option linter.unusedVariables false

def sameB (xs ys : List Int) : Bool := decide (xs = ys)
theorem below_drewN (w : World) (n : Nat) : Below w.heap.size w (w.drewN n) := ⟨rfl, rfl, rfl, Nat.le_refl _, fun _ _ => rfl⟩

set_option maxRecDepth 100000 in
set_option maxHeartbeats 1000000 in
theorem ints_any (xs ys : List Int) (ao bo : Option Addr) (ca cb : Nat) (w : World) (hx : Row w ao (xs.map (.int .i64))) (hy : Row w bo (ys.map (.int .i64))) (lx : xs.length ≤ maxLen) (ly : ys.length ≤ maxLen) :
    Calls Try.prog 14 #[.slice ao xs.length ca, .slice bo ys.length cb] w fun e w' => e = .returned (.bool (sameB xs ys)) ∧ Below w.heap.size w w' := by
  unfold maxLen at lx ly
  go_enter Try.func14, Try.ntmps14
  go_wp2_with fail
  go_loopw [5] (fun i wr => ∃ k : Nat, k ≤ xs.length ∧ k ≤ ys.length ∧ i = .int .i64 k ∧ Hid (xs.take k = ys.take k) ∧ ∃ m, wr = w.drewN m)
    (fun i _ => xs.length - (intOf i).toNat)
  case atStart => exact ⟨0, Nat.zero_le _, Nat.zero_le _, rfl, Lib.hid rfl, 0, rfl⟩
  case round =>
    obtain ⟨k, hk1, hk2, rfl, HT, m, rfl⟩ := hrel
    by_cases l1 : k < xs.length
    · by_cases l2 : k < ys.length
      · obtain ⟨b1, o1, rfl, c1, _⟩ := hx.at k (by simpa using l1)
        obtain ⟨b2, o2, rfl, c2, _⟩ := hy.at k (by simpa using l2)
        rw [List.getElem_map] at c1 c2
        clear hx hy
        have HX := Lib.hid (List.take_succ_eq_append_getElem l1)
        have HY := Lib.hid (List.take_succ_eq_append_getElem l2)
        obtain ⟨u, hu⟩ : ∃ u, xs[k] = u := ⟨_, rfl⟩
        obtain ⟨v, hv⟩ : ∃ v, ys[k] = v := ⟨_, rfl⟩
        rw [hu] at c1
        rw [hv] at c2
        have HU := Lib.hid hu
        have HV := Lib.hid hv
        clear hu hv
        by_cases huv : u = v
        · have he : (u != v) = false := by simp [huv]
          have HUV := Lib.hid huv
          clear huv
          go_wp2_with fail
          go_quiet (fail)
          go_wp2
          go_roundw
          case rel => exact ⟨k + 1, by omega, by omega, by go_num, Lib.hid (by rw [HX.out, HY.out, HT.out, HU.out, HV.out, HUV.out]), _, rfl⟩
          case measure => simp [intOf]; omega
        · have he : (u != v) = true := by simp [huv]
          have HUV := Lib.hid huv
          clear huv
          go_wp2_with fail
          go_quiet (fail)
          go_wp2
          go_ret
          refine ⟨?_, ⟨rfl, rfl, rfl, Nat.le_refl _, fun _ _ => rfl⟩⟩
          rw [show sameB xs ys = false from decide_eq_false (fun e => by
            subst e
            exact HUV.out (HU.out.symm.trans HV.out))]
          rfl
      · have hq : ((xs.length : Int) == ys.length) = false := by simp; omega
        clear hx hy
        go_wp2
        go_ret
        refine ⟨?_, ⟨rfl, rfl, rfl, Nat.le_refl _, fun _ _ => rfl⟩⟩
        rw [show sameB xs ys = false from decide_eq_false (fun e => by subst e; omega)]
        rfl
    · have HK := Lib.hid (show k = xs.length by omega)
      clear hx hy
      by_cases hl : xs.length = ys.length
      · have hq : ((xs.length : Int) == ys.length) = true := by simp [hl]
        have HL := Lib.hid hl
        clear hl
        go_wp2
        all_goals go_ret
        all_goals
          refine ⟨?_, ⟨rfl, rfl, rfl, Nat.le_refl _, fun _ _ => rfl⟩⟩
          rw [show sameB xs ys = true from decide_eq_true (by
            have h := HT.out
            rw [HK.out, List.take_length, HL.out, List.take_length] at h
            exact h)]
          rfl
      · have hq : ((xs.length : Int) == ys.length) = false := by simp; omega
        have HL := Lib.hid hl
        clear hl
        go_wp2
        all_goals go_ret
        all_goals
          refine ⟨?_, ⟨rfl, rfl, rfl, Nat.le_refl _, fun _ _ => rfl⟩⟩
          rw [show sameB xs ys = false from decide_eq_false (fun e => HL.out (by rw [e]))]
          rfl
end Go.Proofs.Ytmfkpjafeaidkaa
