/- ItemTells: the walk. -/
import Derived.Test.YthfkknckhaopcaaItemAwake
import Derived.Deep.DeepCutAuto
namespace Go.Proofs.Ythfkknckhaopcaa
open Go.RowKit
set_option linter.unusedVariables false

set_option maxRecDepth 100000 in
set_option maxHeartbeats 2000000 in
theorem ItemTells_walk (px py pid qx qy qid slo shi sid tlo thi tid bx1 bx2 by1 by2 bid x y : Int) (w : World) :
    Calls Try.prog 8 #[.agg #[.int .i64 px, .int .i64 py, .int .u32 pid, .int .i64 qx, .int .i64 qy, .int .u32 qid, .int .i64 slo, .int .i64 shi, .int .u32 sid, .int .i64 tlo, .int .i64 thi, .int .u32 tid, .int .i64 bx1, .int .i64 bx2, .int .i64 by1, .int .i64 by2, .int .u32 bid, .int .i64 x, .int .i64 y]] w fun e w' => e = .returned (.bool true) ∧ Below w.heap.size w w' := by
  go_enter Try.func8, Try.ntmps8
  go_upto_region 1 with (fail)
  refine from_box1 (fun W hp => ?_)
  obtain ⟨hB, zp, _, cp, _⟩ := hp
  refine since_wp (fun s0 => ?_)
  go_cut [52] (fun v wc => v = .bool false ∧ ∃ s : Since W, wc = s.w)
  case first =>
    refine wp_region_since (by kernel_rfl) (by kernel_rfl) ?_
    repeat (go_big_quiet_step ((first | (go_at_call 14; exact since_quiet (ByX_any _ _ _ _ _ _)) | (go_at_call 15; exact since_quiet (ByY_any _ _ _ _ _ _)) | (go_at_call 16; exact since_quiet (ByLo_any _ _ _ _ _ _)) | (go_at_call 17; exact since_quiet (ByHi_any _ _ _ _ _ _)) | (go_at_call 22; exact since_quiet (RByX_any _ _ _ _ _ _)) | (go_at_call 23; exact since_quiet (RByY_any _ _ _ _ _ _)) | (go_at_call 24; exact since_quiet (RByLo_any _ _ _ _ _ _)) | (go_at_call 25; exact since_quiet (RByHi_any _ _ _ _ _ _)))))
    refine wpQuiet_nil ?_
    rintro _ ⟨s, rfl⟩
    go_wp2_with fail
    go_meet
    case rel => first | exact ⟨rfl, _, rfl⟩ | exact ⟨congrArg Value.bool (decide_eq_false (by omega)), _, rfl⟩
  case rest =>
    obtain ⟨rfl, s, rfl⟩ := hcut
    go_upto_region 3 with (fail)
    go_cut [111] (fun v wc => v = .bool false ∧ ∃ s : Since W, wc = s.w)
    case first =>
      refine wp_region_since (by kernel_rfl) (by kernel_rfl) ?_
      repeat (go_big_quiet_step ((first | (go_at_call 12; exact since_quiet (Stab_any _ _ _ _)) | (go_at_call 11; exact since_quiet (Meet_any _ _ _ _ _)) | (go_at_call 19; exact since_quiet (In_any _ _ _ _ _ _ _ _)) | (go_at_call 13; exact since_quiet (RightSpan_any _ _ _)) | (go_at_call 20; exact since_quiet (RightBox_any _ _ _ _ _)) | (go_at_call 26; exact since_quiet (RStab_any _ _ _ _)) | (go_at_call 27; exact since_quiet (RMeet_any _ _ _ _ _)) | (go_at_call 28; exact since_quiet (RIn_any _ _ _ _ _ _ _ _)) | (go_at_call 29; exact since_quiet (RRightSpan_any _ _ _)) | (go_at_call 30; exact since_quiet (RRightBox_any _ _ _ _ _)))))
      refine wpQuiet_nil ?_
      rintro _ ⟨s, rfl⟩
      go_wp2_with fail
      go_meet
      case rel => first | exact ⟨rfl, _, rfl⟩ | exact ⟨congrArg Value.bool (decide_eq_false (by omega)), _, rfl⟩
    case rest =>
      obtain ⟨rfl, s, rfl⟩ := hcut
      go_upto_region 5 with (fail)
      refine wp_region_since (by kernel_rfl) (by kernel_rfl) ?_
      repeat (go_big_quiet_step ((first | (go_at_call 9; exact since_quiet (Over_any _ _ _ _ _ _)) | (go_at_call 21; exact since_quiet (Cell_any _ _ _ _ _ _ _)) | (go_at_call 31; exact since_quiet (ROver_any _ _ _ _ _ _)) | (go_at_call 32; exact since_quiet (RCell_any _ _ _ _ _ _ _)) | (go_at_call 10; exact since_quiet (awake_true)))))
      refine wpQuiet_nil ?_
      rintro _ ⟨s, rfl⟩
      go_wp2
      go_ret
      exact ⟨rfl, since_below hB _ hB.size⟩
end Go.Proofs.Ythfkknckhaopcaa
