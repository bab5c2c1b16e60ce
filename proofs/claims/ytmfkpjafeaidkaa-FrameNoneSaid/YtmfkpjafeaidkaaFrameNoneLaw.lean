/- The walk of FrameNone. -/
import Derived.Test.YtmfkpjafeaidkaaFrameAwake
namespace Go.Proofs.Ytmfkpjafeaidkaa
open Go.RowKit
set_option linter.unusedVariables false
set_option linter.unusedSimpArgs false

set_option maxRecDepth 100000 in
set_option maxHeartbeats 2000000 in
theorem FrameNone_walk (from0 to0 leaf : Int) (w : World) : Calls Try.prog 5 #[.int .i64 from0, .int .i64 to0, .int .i64 leaf] w fun e w' => e = .returned (.bool true) ∧ Below w.heap.size w w' := by
  go_enter Try.func5, Try.ntmps5
  go_wp2_with fail
  refine from_box2 (fun W hA hB => ?_)
  have HB := Lib.hid hB.below
  have HW := Lib.hid hA.below
  have c0 : W.cell? ⟨w.heap.size + 1, 0, none⟩ = some (.pointer none) := hB.cell 0
  have c1 : W.cell? ⟨w.heap.size + 1, 1, none⟩ = some (.pointer (some ⟨w.heap.size, 0, none⟩)) := hB.cell 1
  have c5 : W.cell? ⟨w.heap.size, 5, none⟩ = some (.bool false) := hA.cell 5
  have H5 := Lib.hid c5
  clear hA hB c5
  go_loopw [20] (fun i wr => ∃ k : Nat, k ≤ 2 ∧ i = .int .i64 k ∧ wr = W) (fun i _ => 2 - (intOf i).toNat)
  case atStart => exact ⟨0, by omega, rfl, rfl⟩
  case round =>
    obtain ⟨k, hk, rfl, hwr⟩ := hrel
    replace hwr := hwr.symm
    subst hwr

    rcases (show k = 0 ∨ k = 1 ∨ k = 2 by omega) with rfl | rfl | rfl
    · have HNO := Lib.hid (show NoFrame none W from .inl rfl)
      go_wp2_with fail
      refine (canon_no none from0 to0 W HNO.out).mono ?_
      rintro e w1 ⟨rfl, rfl⟩
      go_wp2_with fail
      refine (path_no none leaf W HNO.out).mono ?_
      rintro e w1 ⟨rfl, rfl⟩
      go_wp2_with fail
      refine (leaves_no none W HNO.out).mono ?_
      rintro e w1 ⟨rfl, rfl⟩
      go_wp2_with fail
      refine (root_no none W HNO.out).mono ?_
      rintro e w1 ⟨rfl, rfl⟩
      go_wp2_with fail
      refine (frameNodes_no none W HNO.out).mono ?_
      rintro e w1 ⟨rfl, rfl⟩
      go_wp2_with fail
      go_roundw
      case rel => exact ⟨1, by omega, by go_num, trivial⟩
      case measure => simp [intOf]
    · have HNO := Lib.hid (show NoFrame (some ⟨w.heap.size, 0, none⟩) W from .inr ⟨_, rfl, H5.out⟩)
      go_wp2_with fail
      refine (canon_no (some ⟨w.heap.size, 0, none⟩) from0 to0 W HNO.out).mono ?_
      rintro e w1 ⟨rfl, rfl⟩
      go_wp2_with fail
      refine (path_no (some ⟨w.heap.size, 0, none⟩) leaf W HNO.out).mono ?_
      rintro e w1 ⟨rfl, rfl⟩
      go_wp2_with fail
      refine (leaves_no (some ⟨w.heap.size, 0, none⟩) W HNO.out).mono ?_
      rintro e w1 ⟨rfl, rfl⟩
      go_wp2_with fail
      refine (root_no (some ⟨w.heap.size, 0, none⟩) W HNO.out).mono ?_
      rintro e w1 ⟨rfl, rfl⟩
      go_wp2_with fail
      refine (frameNodes_no (some ⟨w.heap.size, 0, none⟩) W HNO.out).mono ?_
      rintro e w1 ⟨rfl, rfl⟩
      go_wp2_with fail
      go_roundw
      case rel => exact ⟨2, by omega, by go_num, trivial⟩
      case measure => simp [intOf]
    · go_wp2_with fail
      refine (awake6_any _).mono ?_
      rintro e w1 ⟨rfl, hb⟩
      go_wp2
      go_ret
      exact ⟨rfl, bl HW.out HW.out.size hb⟩
end Go.Proofs.Ytmfkpjafeaidkaa
