/- ItemMeet: the walk. -/
import Derived.Test.YthfkknckhaopcaaItemAwake
import Derived.Deep.DeepCutAuto
namespace Go.Proofs.Ythfkknckhaopcaa
open Go.RowKit
set_option linter.unusedVariables false

theorem meet_true (a b lo hi m : Int) (h1 : a ≤ m) (_h2 : lo ≤ m) (h3 : m = a ∨ m = lo) (h : meetB a b lo hi = true) : stabB a b m = true ∧ m ≤ hi ∧ rightB a b = true ∧ lo ≤ hi := by
  unfold meetB at h; unfold stabB rightB; simp only [decide_eq_true_eq] at *; omega
theorem meet_false (a b lo hi m : Int) (_h1 : a ≤ m) (_h2 : lo ≤ m) (h3 : m = a ∨ m = lo) (h : meetB a b lo hi = false) (g : stabB a b m = true) : hi < m := by
  unfold meetB at h; unfold stabB at g; simp only [decide_eq_true_eq, decide_eq_false_iff_not] at *; omega
theorem meet_one (a b lo : Int) : meetB a b lo lo = stabB a b lo := by unfold meetB stabB; rw [Bool.eq_iff_iff]; simp only [decide_eq_true_eq]; omega
theorem meet_self (a b : Int) : meetB a b a b = rightB a b := by unfold meetB rightB; rw [Bool.eq_iff_iff]; simp only [decide_eq_true_eq]; omega

set_option maxHeartbeats 1000000 in
theorem ItemMeet_walk (a b id lo hi : Int) (w : World) :
    Calls Try.prog 4 #[spanV a b id, .int .i64 lo, .int .i64 hi] w fun e w' => e = .returned (.bool true) ∧ Below w.heap.size w w' := by
  go_enter Try.func4, Try.ntmps4
  go_upto_region 1 with (fail)
  refine from_box1 (fun W hs => ?_)
  obtain ⟨hB, zs, _, cs, _⟩ := hs
  go_cut [7] (fun v wc => v = .int .i64 (max a lo) ∧ wc = W)
  case first =>
    go_wp2_with fail
    all_goals
      go_meet
      case rel => exact ⟨by first | rw [show max a lo = lo by omega] | rw [show max a lo = a by omega], rfl⟩
  case rest =>
    obtain ⟨rfl, rfl⟩ := hcut
    have m1 : a ≤ max a lo := by omega
    have m2 : lo ≤ max a lo := by omega
    have m3 := Lib.hid (show max a lo = a ∨ max a lo = lo by omega)
    generalize max a lo = m at *
    go_upto_region 2 with (fail)
    refine since_wp (fun s0 => ?_)
    go_upto_region 3 with (first | (go_at_call 11; refine (since_of (Meet_any _ _ _ _ _) _).mono ?_; rintro e w' ⟨s, rfl, rfl⟩))
    go_cut [8, 44] (fun _ v wc2 => v = .bool false ∧ ∃ s : Since wc, wc2 = s.w)
    case first =>
      cases hM : meetB a b lo hi
      · cases hS : stabB a b m
        · go_wp2_with (first | (go_at_call 12; refine (since_of (Stab_any _ _ _ _) _).mono ?_; rintro e w' ⟨s, rfl, rfl⟩) | (go_at_call 13; refine (since_of (RightSpan_any _ _ _) _).mono ?_; rintro e w' ⟨s, rfl, rfl⟩))
          go_meet
          case rel => first | exact ⟨rfl, _, rfl⟩ | exact ⟨congrArg Value.bool (decide_eq_false (by omega)), _, rfl⟩
        · have d2 : decide (m ≤ hi) = false := decide_eq_false (by have := meet_false a b lo hi m m1 m2 m3.out hM hS; omega)
          go_wp2_with (first | (go_at_call 12; refine (since_of (Stab_any _ _ _ _) _).mono ?_; rintro e w' ⟨s, rfl, rfl⟩) | (go_at_call 13; refine (since_of (RightSpan_any _ _ _) _).mono ?_; rintro e w' ⟨s, rfl, rfl⟩))
          go_meet
          case rel => first | exact ⟨rfl, _, rfl⟩ | exact ⟨congrArg Value.bool (decide_eq_false (by omega)), _, rfl⟩
      · obtain ⟨hS, d2, hR, d3⟩ := meet_true a b lo hi m m1 m2 m3.out hM
        go_wp2_with (first | (go_at_call 12; refine (since_of (Stab_any _ _ _ _) _).mono ?_; rintro e w' ⟨s, rfl, rfl⟩) | (go_at_call 13; refine (since_of (RightSpan_any _ _ _) _).mono ?_; rintro e w' ⟨s, rfl, rfl⟩))
        go_meet
        case rel => first | exact ⟨rfl, _, rfl⟩ | exact ⟨congrArg Value.bool (decide_eq_false (by omega)), _, rfl⟩
    case rest =>
      obtain ⟨rfl, s, rfl⟩ := hcut
      go_upto_region 5 with (fail)
      refine wp_region_since (by kernel_rfl) (by kernel_rfl) ?_
      repeat (go_big_quiet_step ((first | (go_at_call 11; exact since_quiet (asv (Meet_any _ _ _ _ _) (congrArg Value.bool (meet_one a b lo)))) | (go_at_call 11; exact since_quiet (asv (Meet_any _ _ _ _ _) (congrArg Value.bool (meet_self a b)))) | (go_at_call 12; exact since_quiet (Stab_any _ _ _ _)) | (go_at_call 13; exact since_quiet (RightSpan_any _ _ _)) | (go_at_call 10; exact since_quiet (awake_true)))))
      refine wpQuiet_nil ?_
      rintro _ ⟨s, rfl⟩
      go_wp2
      go_ret
      exact ⟨rfl, since_below hB _ hB.size⟩
end Go.Proofs.Ythfkknckhaopcaa
