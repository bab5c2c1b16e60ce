/- ItemIn: the walk. -/
import Derived.Test.YthfkknckhaopcaaItemAwake
import Derived.Deep.DeepCutAuto
namespace Go.Proofs.Ythfkknckhaopcaa
open Go.RowKit
set_option linter.unusedVariables false

theorem in_right (px py x1 x2 y1 y2 : Int) (hx : stabB x1 x2 px = true) (hy : stabB y1 y2 py = true) : rightBoxB x1 x2 y1 y2 = true := by
  unfold stabB at hx hy; unfold rightBoxB rightB; simp only [decide_eq_true_eq, Bool.and_eq_true] at *; omega
theorem in_low (x1 x2 y1 y2 : Int) : inB x1 y1 x1 x2 y1 y2 = rightBoxB x1 x2 y1 y2 := by
  unfold inB stabB rightBoxB rightB; rw [Bool.eq_iff_iff]; simp only [decide_eq_true_eq, Bool.and_eq_true]; omega
theorem in_high (x1 x2 y1 y2 : Int) : inB x2 y2 x1 x2 y1 y2 = rightBoxB x1 x2 y1 y2 := by
  unfold inB stabB rightBoxB rightB; rw [Bool.eq_iff_iff]; simp only [decide_eq_true_eq, Bool.and_eq_true]; omega

set_option maxHeartbeats 2000000 in
theorem ItemIn_walk (px py pid bx1 bx2 by1 by2 bid : Int) (w : World) :
    Calls Try.prog 6 #[pointV px py pid, boxV bx1 bx2 by1 by2 bid] w fun e w' => e = .returned (.bool true) ∧ Below w.heap.size w w' := by
  go_enter Try.func6, Try.ntmps6
  go_upto_region 1 with (fail)
  refine from_box2 (fun W hp hb => ?_)
  obtain ⟨hB, zp, _, cp, _⟩ := hp
  obtain ⟨_, zb, _, cb, _⟩ := hb
  go_cut [5, 6] (fun u r wc => ∃ bu br : Nat, u = .pointer (some ⟨bu, 0, none⟩) ∧ r = .pointer (some ⟨br, 0, none⟩) ∧ bu ≠ br ∧ Boxed1 W wc bu #[.int .i64 bx1, .int .i64 bx2, .int .u32 0] ∧ Boxed1 W wc br #[.int .i64 by1, .int .i64 by2, .int .u32 0])
  case first =>
    go_region
    all_goals go_wp2_with fail
    all_goals
      go_meet
      case rel => first | exact ⟨_, _, rfl, rfl, by omega, (two_boxed _ _ _ _ _).1, (two_boxed _ _ _ _ _).2⟩ | exact ⟨_, _, rfl, rfl, by omega, (two_boxed _ _ _ _ _).2, (two_boxed _ _ _ _ _).1⟩
  case rest =>
    obtain ⟨bu, br, rfl, rfl, hne, hu, hr⟩ := hcut
    obtain ⟨hbu, zu, _, cu, _⟩ := hu
    obtain ⟨_, zr, _, cr', _⟩ := hr
    have zp2 := Nat.lt_of_lt_of_le zp hbu.size
    have zb2 := Nat.lt_of_lt_of_le zb hbu.size
    have cp2 : ∀ i, wc.cell? ⟨w.heap.size, i, none⟩ = #[Value.int .i64 px, .int .i64 py, .int .u32 pid][i]? := fun i => by rw [← cp i]; exact hbu.cell (p := ⟨_, i, none⟩) zp
    have cb2 : ∀ i, wc.cell? ⟨w.heap.size + 1, i, none⟩ = #[Value.int .i64 bx1, .int .i64 bx2, .int .i64 by1, .int .i64 by2, .int .u32 bid][i]? := fun i => by rw [← cb i]; exact hbu.cell (p := ⟨_, i, none⟩) zb
    have hfin : Below w.heap.size w wc := bl hB hB.size hbu
    clear cp cb zp zb
    go_upto_region 2 with (fail)
    go_cut [40] (fun v wc2 => v = .bool false ∧ ∃ s : Since wc, wc2 = s.w)
    case first =>
      cases h1 : stabB bx1 bx2 px
      · have h3 : inB px py bx1 bx2 by1 by2 = false := by unfold inB; rw [h1]; rfl
        refine since_wp (fun s0 => ?_)
        refine wp_region_since (by kernel_rfl) (by kernel_rfl) ?_
        repeat (go_big_quiet_step ((first | (go_at_call 19; exact since_quiet (asv (In_any _ _ _ _ _ _ _ _) (congrArg Value.bool h3))) | (go_at_call 12; exact since_quiet (asv (Stab_any _ _ _ _) (congrArg Value.bool h1))) | (go_at_call 20; exact since_quiet (RightBox_any _ _ _ _ _)))))
        refine wpQuiet_nil ?_
        rintro _ ⟨s, rfl⟩
        go_wp2_with fail
        go_meet
        case rel => first | exact ⟨rfl, _, rfl⟩ | exact ⟨congrArg Value.bool (decide_eq_false (by omega)), _, rfl⟩
      · cases h2 : stabB by1 by2 py
        · have h3 : inB px py bx1 bx2 by1 by2 = false := by unfold inB; rw [h1, h2]; rfl
          refine since_wp (fun s0 => ?_)
          refine wp_region_since (by kernel_rfl) (by kernel_rfl) ?_
          repeat (go_big_quiet_step ((first | (go_at_call 19; exact since_quiet (asv (In_any _ _ _ _ _ _ _ _) (congrArg Value.bool h3))) | (go_at_call 12; exact since_quiet (asv (Stab_any _ _ _ _) (congrArg Value.bool h1))) | (go_at_call 12; exact since_quiet (asv (Stab_any _ _ _ _) (congrArg Value.bool h2))) | (go_at_call 20; exact since_quiet (RightBox_any _ _ _ _ _)))))
          refine wpQuiet_nil ?_
          rintro _ ⟨s, rfl⟩
          go_wp2_with fail
          go_meet
          case rel => first | exact ⟨rfl, _, rfl⟩ | exact ⟨congrArg Value.bool (decide_eq_false (by omega)), _, rfl⟩
        · have h3 : inB px py bx1 bx2 by1 by2 = true := by unfold inB; rw [h1, h2]; rfl
          have h4 := in_right _ _ _ _ _ _ h1 h2
          refine since_wp (fun s0 => ?_)
          refine wp_region_since (by kernel_rfl) (by kernel_rfl) ?_
          repeat (go_big_quiet_step ((first | (go_at_call 19; exact since_quiet (asv (In_any _ _ _ _ _ _ _ _) (congrArg Value.bool h3))) | (go_at_call 12; exact since_quiet (asv (Stab_any _ _ _ _) (congrArg Value.bool h1))) | (go_at_call 12; exact since_quiet (asv (Stab_any _ _ _ _) (congrArg Value.bool h2))) | (go_at_call 20; exact since_quiet (asv (RightBox_any _ _ _ _ _) (congrArg Value.bool h4))))))
          refine wpQuiet_nil ?_
          rintro _ ⟨s, rfl⟩
          go_wp2_with fail
          go_meet
          case rel => first | exact ⟨rfl, _, rfl⟩ | exact ⟨congrArg Value.bool (decide_eq_false (by omega)), _, rfl⟩
    case rest =>
      obtain ⟨rfl, s, rfl⟩ := hcut
      go_upto_region 4 with (fail)
      refine wp_region_since (by kernel_rfl) (by kernel_rfl) ?_
      repeat (go_big_quiet_step ((first | (go_at_call 19; exact since_quiet (asv (In_any _ _ _ _ _ _ _ _) (congrArg Value.bool (in_low bx1 bx2 by1 by2)))) | (go_at_call 19; exact since_quiet (asv (In_any _ _ _ _ _ _ _ _) (congrArg Value.bool (in_high bx1 bx2 by1 by2)))) | (go_at_call 20; exact since_quiet (RightBox_any _ _ _ _ _)) | (go_at_call 10; exact since_quiet (awake_true)))))
      refine wpQuiet_nil ?_
      rintro _ ⟨s, rfl⟩
      go_wp2
      go_ret
      exact ⟨rfl, since_below hfin _ hfin.size⟩
end Go.Proofs.Ythfkknckhaopcaa
