/- ItemCells: the walk. -/
import Derived.Test.YthfkknckhaopcaaItemAwake
import Derived.Test.YthfkknckhaopcaaBase2
import Derived.Deep.DeepCutAuto
namespace Go.Proofs.Ythfkknckhaopcaa
open Go.RowKit
set_option linter.unusedVariables false

theorem cell_in (x1 x2 y1 y2 x y : Int) (h : cellB x1 x2 y1 y2 x y = true) : inB x y x1 x2 y1 y2 = true := by
  unfold cellB at h; simp only [Bool.and_eq_true] at h; exact h.1
theorem cell_not (x1 x2 y1 y2 x y : Int) (h : rightBoxB x1 x2 y1 y2 = false) : cellB x1 x2 y1 y2 x y = false := by
  unfold cellB inB stabB; unfold rightBoxB rightB at h; simp only [Bool.and_eq_false_iff, decide_eq_false_iff_not] at *; omega
theorem cell_iff (x1 x2 y1 y2 x y : Int) : cellB x1 x2 y1 y2 x y = decide (x1 ≤ x ∧ x < x2 ∧ y1 ≤ y ∧ y < y2) := by
  unfold cellB inB stabB; rw [Bool.eq_iff_iff]; simp only [decide_eq_true_eq, Bool.and_eq_true]; omega
theorem cell_cut (x1 x2 y1 y2 x y m : Int) (h1 : x1 ≤ m) (h2 : m ≤ x2) : cellB x1 x2 y1 y2 x y = (cellB x1 m y1 y2 x y != cellB m x2 y1 y2 x y) ∧ (cellB x1 m y1 y2 x y && cellB m x2 y1 y2 x y) = false := by
  rw [cell_iff, cell_iff, cell_iff]
  by_cases hx : x < m
  · rw [show decide (m ≤ x ∧ x < x2 ∧ y1 ≤ y ∧ y < y2) = false from decide_eq_false (by omega), show decide (x1 ≤ x ∧ x < m ∧ y1 ≤ y ∧ y < y2) = decide (x1 ≤ x ∧ x < x2 ∧ y1 ≤ y ∧ y < y2) from decide_eq_decide.2 (by omega)]; simp
  · rw [show decide (x1 ≤ x ∧ x < m ∧ y1 ≤ y ∧ y < y2) = false from decide_eq_false (by omega), show decide (m ≤ x ∧ x < x2 ∧ y1 ≤ y ∧ y < y2) = decide (x1 ≤ x ∧ x < x2 ∧ y1 ≤ y ∧ y < y2) from decide_eq_decide.2 (by omega)]; simp
theorem cell_cut2 (x1 x2 y1 y2 x y m : Int) (h1 : y1 ≤ m) (h2 : m ≤ y2) : cellB x1 x2 y1 y2 x y = (cellB x1 x2 y1 m x y != cellB x1 x2 m y2 x y) ∧ (cellB x1 x2 y1 m x y && cellB x1 x2 m y2 x y) = false := by
  rw [cell_iff, cell_iff, cell_iff]
  by_cases hx : y < m
  · rw [show decide (x1 ≤ x ∧ x < x2 ∧ m ≤ y ∧ y < y2) = false from decide_eq_false (by omega), show decide (x1 ≤ x ∧ x < x2 ∧ y1 ≤ y ∧ y < m) = decide (x1 ≤ x ∧ x < x2 ∧ y1 ≤ y ∧ y < y2) from decide_eq_decide.2 (by omega)]; simp
  · rw [show decide (x1 ≤ x ∧ x < x2 ∧ y1 ≤ y ∧ y < m) = false from decide_eq_false (by omega), show decide (x1 ≤ x ∧ x < x2 ∧ m ≤ y ∧ y < y2) = decide (x1 ≤ x ∧ x < x2 ∧ y1 ≤ y ∧ y < y2) from decide_eq_decide.2 (by omega)]; simp
theorem cells_cases : ∀ (b0 b1 b2 b3 b4 : Bool), b0 = (b1 != b2) → (b1 && b2) = false → b0 = (b3 != b4) → (b3 && b4) = false →
    (b0 = false ∧ b1 = false ∧ b2 = false ∧ b3 = false ∧ b4 = false) ∨ (b0 = true ∧ b1 = true ∧ b2 = false ∧ b3 = true ∧ b4 = false) ∨ (b0 = true ∧ b1 = true ∧ b2 = false ∧ b3 = false ∧ b4 = true) ∨ (b0 = true ∧ b1 = false ∧ b2 = true ∧ b3 = true ∧ b4 = false) ∨ (b0 = true ∧ b1 = false ∧ b2 = true ∧ b3 = false ∧ b4 = true) := by
  intro b0 b1 b2 b3 b4; cases b0 <;> cases b1 <;> cases b2 <;> cases b3 <;> cases b4 <;> simp
/-- A number brought between two. -/
def clampI (at0 lo hi : Int) : Int := min (max at0 lo) hi
theorem clamp_ge (at0 lo hi : Int) (h : lo ≤ hi) : lo ≤ clampI at0 lo hi ∧ clampI at0 lo hi ≤ hi := by unfold clampI; omega

set_option maxRecDepth 100000 in
set_option maxHeartbeats 2000000 in
theorem ItemCells_bad (bx1 bx2 by1 by2 bid x y at0 : Int) (w : World) (h : rightBoxB bx1 bx2 by1 by2 = false) :
    Calls Try.prog 7 #[boxV bx1 bx2 by1 by2 bid, .int .i64 x, .int .i64 y, .int .i64 at0] w fun e w' => e = .returned (.bool true) ∧ Below w.heap.size w w' := by
  have hc := cell_not bx1 bx2 by1 by2 x y h
  go_enter Try.func7, Try.ntmps7
  go_upto_region 1 with (fail)
  refine from_box1 (fun W hb => ?_)
  obtain ⟨hB, zb, _, cb, _⟩ := hb
  refine since_wp (fun s0 => ?_)
  go_wp2_with (first | (go_at_call 20; refine (since_of (RightBox_any _ _ _ _ _) _).mono ?_; rintro e w' ⟨s, rfl, rfl⟩) | (go_at_call 21; refine (since_of (Cell_any _ _ _ _ _ _ _) _).mono ?_; rintro e w' ⟨s, rfl, rfl⟩) | (go_at_call 10; refine (since_of (awake_true) _).mono ?_; rintro e w' ⟨s, rfl, rfl⟩))
  go_ret
  exact ⟨rfl, since_below hB _ hB.size⟩

set_option maxRecDepth 100000 in
set_option maxHeartbeats 2000000 in
theorem ItemCells_good (bx1 bx2 by1 by2 bid x y at0 : Int) (w : World) (h : rightBoxB bx1 bx2 by1 by2 = true) :
    Calls Try.prog 7 #[boxV bx1 bx2 by1 by2 bid, .int .i64 x, .int .i64 y, .int .i64 at0] w fun e w' => e = .returned (.bool true) ∧ Below w.heap.size w w' := by
  have hr : bx1 ≤ bx2 ∧ by1 ≤ by2 := by unfold rightBoxB rightB at h; simpa using h
  go_enter Try.func7, Try.ntmps7
  go_upto_region 1 with (fail)
  refine from_box1 (fun W hb => ?_)
  obtain ⟨hB, zb, _, cb, _⟩ := hb
  refine since_wp (fun s0 => ?_)
  go_upto_region 3 with (first | (go_at_call 20; refine (since_of (RightBox_any _ _ _ _ _) _).mono ?_; rintro e w' ⟨s, rfl, rfl⟩))
  go_upto_region 4 with (first | (go_at_call 21; refine (since_of (Cell_any _ _ _ _ _ _ _) _).mono ?_; rintro e w' ⟨s, rfl, rfl⟩))
  go_cut [9, 41] (fun c v wc => c = .bool (cellB bx1 bx2 by1 by2 x y) ∧ v = .bool false ∧ ∃ s : Since W, wc = s.w)
  case first =>
    cases hc : cellB bx1 bx2 by1 by2 x y
    · go_wp2_with fail
      go_meet
      case rel => first | exact ⟨rfl, rfl, _, rfl⟩ | exact ⟨by rw [hc], rfl, _, rfl⟩
    · have hi := cell_in _ _ _ _ _ _ hc
      go_wp2_with (first | (go_at_call 19; refine (since_of (In_any _ _ _ _ _ _ _ _) _).mono ?_; rintro e w' ⟨s, rfl, rfl⟩))
      go_meet
      case rel => first | exact ⟨rfl, rfl, _, rfl⟩ | exact ⟨by rw [hc], rfl, _, rfl⟩
  case rest =>
    obtain ⟨rfl, rfl, s, rfl⟩ := hcut
    have zb1 := Nat.lt_of_lt_of_le zb s.size
    have hm := clamp_ge at0 bx1 bx2 hr.1
    have hn := clamp_ge at0 by1 by2 hr.2
    go_upto_region 6 with (fail)
    go_cut [10, 11] (fun u r wc => ∃ bu br : Nat, u = .pointer (some ⟨bu, 0, none⟩) ∧ r = .pointer (some ⟨br, 0, none⟩) ∧ bu ≠ br ∧ Boxed1 s.w wc bu #[.int .i64 (bx1), .int .i64 (bx2), .int .i64 (by1), .int .i64 (by2), .int .u32 bid] ∧ Boxed1 s.w wc br #[.int .i64 (bx1), .int .i64 (bx2), .int .i64 (by1), .int .i64 (by2), .int .u32 bid])
    case first =>
      go_region
      all_goals go_wp2_with fail
      all_goals
        go_meet
        case rel => first | exact ⟨_, _, rfl, rfl, by omega, (two_boxed _ _ _ _ _).1, (two_boxed _ _ _ _ _).2⟩ | exact ⟨_, _, rfl, rfl, by omega, (two_boxed _ _ _ _ _).2, (two_boxed _ _ _ _ _).1⟩
    case rest =>
      obtain ⟨bl1, br1, rfl, rfl, hne1, hl1, hr1⟩ := hcut
      go_upto_region 7 with (fail)
      have cb1 := cells_later (fun i => (s.cell _ i zb).trans (cb i)) hl1.below zb1
      have zb2 := Nat.lt_of_lt_of_le zb1 hl1.below.size
      have gl1 := hl1.ge
      have gr1 := hr1.ge
      have cl := hl1.cell
      have fl := hl1.frozen
      go_cut [] (fun wc2 => Boxed1 s.w wc2 bl1 #[.int .i64 (bx1), .int .i64 (clampI at0 bx1 bx2), .int .i64 (by1), .int .i64 (by2), .int .u32 bid] ∧ Boxed1 s.w wc2 br1 #[.int .i64 (bx1), .int .i64 (bx2), .int .i64 (by1), .int .i64 (by2), .int .u32 bid])
      case first =>
        go_wp2_with fail
        all_goals
          go_meet
          case rel =>
            first | rw [show clampI at0 bx1 bx2 = at0 by unfold clampI; omega] | rw [show clampI at0 bx1 bx2 = bx1 by unfold clampI; omega] | rw [show clampI at0 bx1 bx2 = bx2 by unfold clampI; omega]
            exact ⟨hl1.set 1 _ (by simp), hr1.other bl1 1 _ hl1.ge hne1.symm⟩
      case rest =>
        clear cl fl hl1 hr1
        obtain ⟨hl1, hr1⟩ := hcut
        go_upto_region 8 with (fail)
        have cl := hl1.cell
        have cr := hr1.cell
        have fr := hr1.frozen
        go_cut [] (fun wc2 => Boxed1 s.w wc2 bl1 #[.int .i64 (bx1), .int .i64 (clampI at0 bx1 bx2), .int .i64 (by1), .int .i64 (by2), .int .u32 bid] ∧ Boxed1 s.w wc2 br1 #[.int .i64 (clampI at0 bx1 bx2), .int .i64 (bx2), .int .i64 (by1), .int .i64 (by2), .int .u32 bid])
        case first =>
          go_wp2_with fail
          go_meet
          case rel => exact ⟨hl1.other br1 0 _ hr1.ge hne1, hr1.set 0 _ (by simp)⟩
        case rest =>
          clear cl cr fr hl1 hr1 cb1 zb2
          obtain ⟨w9, e9⟩ : ∃ x, x = wc := ⟨_, rfl⟩
          subst e9
          obtain ⟨hl1, hr1⟩ := hcut
          go_upto_region 9 with (fail)
          have cb1 := cells_later (fun i => (s.cell _ i zb).trans (cb i)) hl1.below zb1
          have zb2 := Nat.lt_of_lt_of_le zb1 hl1.below.size
          go_cut [12, 13] (fun u r wc3 => ∃ bl2 br2 : Nat, u = .pointer (some ⟨bl2, 0, none⟩) ∧ r = .pointer (some ⟨br2, 0, none⟩) ∧ bl2 ≠ br2 ∧ Boxed1 w9 wc3 bl2 #[.int .i64 (bx1), .int .i64 (bx2), .int .i64 (by1), .int .i64 (by2), .int .u32 bid] ∧ Boxed1 w9 wc3 br2 #[.int .i64 (bx1), .int .i64 (bx2), .int .i64 (by1), .int .i64 (by2), .int .u32 bid])
          case first =>
            go_region
            all_goals go_wp2_with fail
            all_goals
              go_meet
              case rel => first | exact ⟨_, _, rfl, rfl, by omega, (two_boxed _ _ _ _ _).1, (two_boxed _ _ _ _ _).2⟩ | exact ⟨_, _, rfl, rfl, by omega, (two_boxed _ _ _ _ _).2, (two_boxed _ _ _ _ _).1⟩
          case rest =>
            obtain ⟨bl2, br2, rfl, rfl, hne2, hl2, hr2⟩ := hcut
            have gl2 := hl2.ge
            have gr2 := hr2.ge
            have cb2 := cells_later cb1 hl2.below zb2
            have zb3 := Nat.lt_of_lt_of_le zb2 hl2.below.size
            clear cb1
            go_upto_region 10 with (fail)
            have cl := hl2.cell
            have fl := hl2.frozen
            go_cut [] (fun wc2 => Boxed1 w9 wc2 bl2 #[.int .i64 (bx1), .int .i64 (bx2), .int .i64 (by1), .int .i64 (clampI at0 by1 by2), .int .u32 bid] ∧ Boxed1 w9 wc2 br2 #[.int .i64 (bx1), .int .i64 (bx2), .int .i64 (by1), .int .i64 (by2), .int .u32 bid])
            case first =>
              go_wp2_with fail
              all_goals
                go_meet
                case rel =>
                  first | rw [show clampI at0 by1 by2 = at0 by unfold clampI; omega] | rw [show clampI at0 by1 by2 = by1 by unfold clampI; omega] | rw [show clampI at0 by1 by2 = by2 by unfold clampI; omega]
                  exact ⟨hl2.set 3 _ (by simp), hr2.other bl2 3 _ hl2.ge hne2.symm⟩
            case rest =>
              clear cl fl hl2 hr2 cb2
              obtain ⟨hl2, hr2⟩ := hcut
              go_upto_region 11 with (fail)
              have cl := hl2.cell
              have cr := hr2.cell
              have fr := hr2.frozen
              go_cut [] (fun wc2 => Boxed1 w9 wc2 bl2 #[.int .i64 (bx1), .int .i64 (bx2), .int .i64 (by1), .int .i64 (clampI at0 by1 by2), .int .u32 bid] ∧ Boxed1 w9 wc2 br2 #[.int .i64 (bx1), .int .i64 (bx2), .int .i64 (clampI at0 by1 by2), .int .i64 (by2), .int .u32 bid])
              case first =>
                go_wp2_with fail
                go_meet
                case rel => exact ⟨hl2.other br2 2 _ hr2.ge hne2, hr2.set 2 _ (by simp)⟩
              case rest =>
                clear cl cr fr hl2 hr2
                obtain ⟨wB, eB⟩ : ∃ x, x = wc := ⟨_, rfl⟩
                subst eB
                obtain ⟨hl2, hr2⟩ := hcut
                go_upto_region 12 with (fail)
                have hl3 := hl1.later hl2.below
                have hr3 := hr1.later hl2.below
                have hfin := hl2.below
                have hfin2 := hl1.below
                obtain ⟨_, z1, _, c1, _⟩ := hl3
                obtain ⟨_, z2, _, c2, _⟩ := hr3
                obtain ⟨_, z3, _, c3, _⟩ := hl2
                obtain ⟨_, z4, _, c4, _⟩ := hr2
                clear hl1 hr1 zb2 zb3 gl2 gr2
                have k1 := cell_cut bx1 bx2 by1 by2 x y (clampI at0 bx1 bx2) hm.1 hm.2
                have k2 := cell_cut2 bx1 bx2 by1 by2 x y (clampI at0 by1 by2) hn.1 hn.2
                refine since_wp (fun s2 => ?_)
                go_cut [14, 15] (fun u v wc5 => u = .bool (cellB bx1 (clampI at0 bx1 bx2) by1 by2 x y) ∧ v = .bool (cellB (clampI at0 bx1 bx2) bx2 by1 by2 x y) ∧ ∃ s' : Since wB, wc5 = s'.w)
                case first =>
                  refine wp_region_since (by kernel_rfl) (by kernel_rfl) ?_
                  repeat (go_big_quiet_step ((first | (go_at_call 21; exact since_quiet (Cell_any _ _ _ _ _ _ _)))))
                  refine wpQuiet_nil ?_
                  rintro _ ⟨s, rfl⟩
                  go_wp2_with fail
                  go_meet
                  case rel => exact ⟨rfl, rfl, _, rfl⟩
                case rest =>
                  obtain ⟨rfl, rfl, s3, rfl⟩ := hcut
                  go_upto_region 13 with (fail)
                  go_cut [16, 17] (fun u v wc5 => u = .bool (cellB bx1 bx2 by1 (clampI at0 by1 by2) x y) ∧ v = .bool (cellB bx1 bx2 (clampI at0 by1 by2) by2 x y) ∧ ∃ s' : Since wB, wc5 = s'.w)
                  case first =>
                    refine wp_region_since (by kernel_rfl) (by kernel_rfl) ?_
                    repeat (go_big_quiet_step ((first | (go_at_call 21; exact since_quiet (Cell_any _ _ _ _ _ _ _)))))
                    refine wpQuiet_nil ?_
                    rintro _ ⟨s, rfl⟩
                    go_wp2_with fail
                    go_meet
                    case rel => exact ⟨rfl, rfl, _, rfl⟩
                  case rest =>
                    obtain ⟨rfl, rfl, s4, rfl⟩ := hcut
                    go_upto_region 14 with (fail)
                    have hend := bl (bl (bl hB hB.size s.h) (Nat.le_trans hB.size s.size) hfin2) (Nat.le_trans hB.size (Nat.le_trans s.size hfin2.size)) hfin
                    have k := cells_cases _ _ _ _ _ k1.1 k1.2 k2.1 k2.2
                    clear c1 c2 c3 c4 z1 z2 z3 z4 hfin hfin2 k1 k2 hm hn hr cb zb zb1 gl1 gr1 h
                    rcases k with ⟨e0, e1, e2, e3, e4⟩ | ⟨e0, e1, e2, e3, e4⟩ | ⟨e0, e1, e2, e3, e4⟩ | ⟨e0, e1, e2, e3, e4⟩ | ⟨e0, e1, e2, e3, e4⟩
                    all_goals
                      go_wp2_with (first | (go_at_call 10; refine (since_of (awake_true) _).mono ?_; rintro e w' ⟨s, rfl, rfl⟩))
                      go_ret
                      exact ⟨rfl, since_below hend _ hend.size⟩
theorem ItemCells_walk (bx1 bx2 by1 by2 bid x y at0 : Int) (w : World) :
    Calls Try.prog 7 #[boxV bx1 bx2 by1 by2 bid, .int .i64 x, .int .i64 y, .int .i64 at0] w fun e w' => e = .returned (.bool true) ∧ Below w.heap.size w w' := by
  cases h : rightBoxB bx1 bx2 by1 by2
  · exact ItemCells_bad bx1 bx2 by1 by2 bid x y at0 w h
  · exact ItemCells_good bx1 bx2 by1 by2 bid x y at0 w h
end Go.Proofs.Ythfkknckhaopcaa
