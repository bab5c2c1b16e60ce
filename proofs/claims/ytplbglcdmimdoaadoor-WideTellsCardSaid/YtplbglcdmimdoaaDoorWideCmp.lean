/- wide.Cmp: which number is more. -/
import Derived.Test.YtplbglcdmimdoaaDoorWide
import Derived.Deep.RegionHeld3
namespace Go.Proofs.YtplbglcdmimdoaaDoor
open Go.RowKit Go.Shelf
set_option linter.unusedVariables false
set_option linter.unusedSimpArgs false

def orI (u v : Int) : Int := if u = 0 then v else u
def cmpI (x y : Int) : Int := if x < y then -1 else if y < x then 1 else 0
set_option maxRecDepth 100000 in
set_option maxHeartbeats 1000000 in
theorem compare_any (x y : Int) (w : World) : Calls Tryd.prog 54 #[.int .u64 x, .int .u64 y] w fun e w' => e = .returned (.int .i64 (cmpI x y)) ∧ w = w' := by
  have hq : (x == x) = true := by simp
  have hq2 : (y == y) = true := by simp
  rcases Int.lt_trichotomy x y with h | rfl | h
  · have HC := Lib.hid (show cmpI x y = -1 from if_pos h)
    go_enter Tryd.func54, Tryd.ntmps54
    go_wp2
    go_ret
    exact ⟨by rw [HC.out]; rfl, rfl⟩
  · have HC := Lib.hid (show cmpI x x = 0 by unfold cmpI; rw [if_neg (by omega), if_neg (by omega)])
    go_enter Tryd.func54, Tryd.ntmps54
    go_wp2
    go_ret
    exact ⟨by rw [HC.out]; rfl, rfl⟩
  · have HC := Lib.hid (show cmpI x y = 1 by unfold cmpI; rw [if_neg (by omega), if_pos h])
    go_enter Tryd.func54, Tryd.ntmps54
    go_wp2
    go_ret
    exact ⟨by rw [HC.out]; rfl, rfl⟩
set_option maxRecDepth 100000 in
set_option maxHeartbeats 1000000 in
theorem or2_any (b : Nat) (u v : Int) (cap : Nat) (w : World) (h0 : w.cell? ⟨b, 0, none⟩ = some (.int .i64 u)) (h1 : w.cell? ⟨b, 1, none⟩ = some (.int .i64 v)) (hc : 2 ≤ cap) : Calls Tryd.prog 53 #[.slice (some ⟨b, 0, none⟩) 2 cap] w fun e w' => e = .returned (.int .i64 (orI u v)) ∧ w = w' := by
  obtain ⟨r, hr⟩ : ∃ r, orI u v = r := ⟨_, rfl⟩
  rw [hr]
  unfold orI at hr
  have HR := Lib.hid hr
  clear hr
  go_enter Tryd.func53, Tryd.ntmps53
  go_wp2_with fail
  go_loopw [8] (fun i wr => ∃ k : Nat, k ≤ 2 ∧ i = .int .i64 k ∧ Hid ((1 ≤ k → u = 0) ∧ (2 ≤ k → v = 0)) ∧ wr = w) (fun i _ => 2 - (intOf i).toNat)
  case atStart => exact ⟨0, by omega, rfl, Lib.hid ⟨fun h => by omega, fun h => by omega⟩, rfl⟩
  case round =>
    obtain ⟨k, hk, rfl, HK, hwr⟩ := hrel
    replace hwr := hwr.symm
    subst hwr
    rcases (show k = 0 ∨ k = 1 ∨ k = 2 by omega) with rfl | rfl | rfl
    · by_cases hu : u = 0
      · subst hu
        go_wp2_with fail
        go_roundw
        case rel => exact ⟨1, by omega, by go_num, Lib.hid ⟨fun _ => by first | rfl | trivial, fun h => by omega⟩, trivial⟩
        case measure => simp [intOf]
      · have hq : (u == 0) = false := by simpa using hu
        go_wp2_with fail
        go_ret
        exact ⟨by rw [← HR.out, if_neg hu]; rfl, by trivial⟩
    · have hu := HK.out.1 (by omega)
      by_cases hv : v = 0
      · subst hv
        go_wp2_with fail
        go_roundw
        case rel => exact ⟨2, by omega, by go_num, Lib.hid ⟨fun _ => hu, fun _ => by first | rfl | trivial⟩, trivial⟩
        case measure => simp [intOf]
      · have HU := Lib.hid hu
        clear hu
        have hq : (v == 0) = false := by simpa using hv
        go_wp2_with fail
        go_ret
        exact ⟨by rw [← HR.out, if_pos HU.out]; rfl, by trivial⟩
    · have HU := Lib.hid (HK.out.1 (by omega))
      have HV := Lib.hid (HK.out.2 (by omega))
      go_wp2_with fail
      go_ret
      exact ⟨by rw [← HR.out, if_pos HU.out, HV.out]; rfl, by trivial⟩
set_option maxRecDepth 100000 in
set_option maxHeartbeats 800000 in
theorem wcmp_words (ah al bh bl : Int) (w : World) : Calls Tryd.prog 27 #[.agg #[.int .u64 ah, .int .u64 al], .agg #[.int .u64 bh, .int .u64 bl]] w fun e w' => e = .returned (.int .i64 (orI (cmpI ah bh) (cmpI al bl))) ∧ Below w.heap.size w w' := by
  go_enter Tryd.func27, Tryd.ntmps27
  go_upto_region 1 with (fail)
  refine from_box2 (fun V h1 h2 => ?_)
  have hB := h1.below
  have a0 := h1.cell 0
  have a1 := h1.cell 1
  have b0 := h2.cell 0
  have b1 := h2.cell 1
  have l1 := h1.lt
  have l2 := h2.lt
  have HB := Lib.hid hB
  have n0 := World.new_ne V _ a0
  have n1 := World.new_ne V _ b0
  clear h1 h2 hB
  go_region_held3 (fun w' => w'.cell? ⟨w.heap.size, 0, none⟩ = some (.int .u64 ah) ∧ w'.cell? ⟨w.heap.size, 1, none⟩ = some (.int .u64 al) ∧ w'.cell? ⟨w.heap.size + 1, 0, none⟩ = some (.int .u64 bh) ∧ w'.cell? ⟨w.heap.size + 1, 1, none⟩ = some (.int .u64 bl)) (go_keep)
    (first
      | (go_at_call 54; refine (compare_any _ _ _).mono ?_; rintro e w' ⟨rfl, rfl⟩)
      | (go_at_call 53; refine (or2_any _ _ _ 2 _ (by simp; rfl) (by simp; rfl) (by omega)).mono ?_; rintro e w' ⟨rfl, rfl⟩))
  all_goals
    go_wp2
    go_ret
    exact ⟨rfl, (HB.out.alloc HB.out.size _).drew⟩
theorem wcmp_any (a b : Nat) (w : World) : Calls Tryd.prog 27 #[wideV a, wideV b] w fun e w' => e = .returned (.int .i64 (cmpI a b)) ∧ Below w.heap.size w w' := by
  have h := wcmp_words ((a / 18446744073709551616 : Nat) : Int) ((a % 18446744073709551616 : Nat) : Int) ((b / 18446744073709551616 : Nat) : Int) ((b % 18446744073709551616 : Nat) : Int) w
  rw [show orI (cmpI ((a / 18446744073709551616 : Nat) : Int) ((b / 18446744073709551616 : Nat) : Int)) (cmpI ((a % 18446744073709551616 : Nat) : Int) ((b % 18446744073709551616 : Nat) : Int)) = cmpI a b by
    unfold orI cmpI
    split <;> split <;> split <;> omega] at h
  exact h
end Go.Proofs.YtplbglcdmimdoaaDoor
