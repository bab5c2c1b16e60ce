/- ItemOver: the walk. -/
import Derived.Test.YthfkknckhaopcaaItemAwake
import Derived.Deep.DeepCutAuto
namespace Go.Proofs.Ythfkknckhaopcaa
open Go.RowKit


theorem over_self (px py : Int) : overB px py px py = false := by unfold overB; simp
theorem over_anti (px py qx qy : Int) (h : overB px py qx qy = true) : overB qx qy px py = false := by unfold overB at *; simp only [decide_eq_true_eq, decide_eq_false_iff_not] at *; omega
theorem over_trans (px py qx qy rx ry : Int) (h : overB px py qx qy = true) (g : overB qx qy rx ry = true) : overB px py rx ry = true := by unfold overB at *; simp only [decide_eq_true_eq] at *; omega
theorem over_up (px py qy : Int) : overB px (max py qy) px py = decide (py < qy) := by unfold overB; rw [Bool.eq_iff_iff]; simp only [decide_eq_true_eq]; omega
theorem over_right (px py qx : Int) : overB (max px qx) py px py = decide (px < qx) := by unfold overB; rw [Bool.eq_iff_iff]; simp only [decide_eq_true_eq]; omega

set_option maxHeartbeats 1000000 in
theorem ItemOver_walk (px py pid qx qy qid rx ry rid : Int) (w : World) :
    Calls Try.prog 3 #[pointV px py pid, pointV qx qy qid, pointV rx ry rid] w fun e w' => e = .returned (.bool true) ∧ Below w.heap.size w w' := by
  have h0 : overB px py px py = false := over_self px py
  go_enter Try.func3, Try.ntmps3
  go_upto_region 1 with (fail)
  refine from_box3 (fun W hp hq hr => ?_)
  obtain ⟨hB, zp, _, cp, _⟩ := hp
  obtain ⟨_, zq, _, cq, _⟩ := hq
  obtain ⟨_, zr, _, cr, _⟩ := hr
  go_cut [37] (fun b wc => b = .bool false ∧ ∃ s : Since W, wc = s.w)
  case first =>
    cases h1 : overB px py qx qy
    · refine since_wp (fun s => ?_)
      go_wp2_with (go_at_call 9; refine (since_of (Over_any _ _ _ _ _ _) _).mono ?_; rintro e w' ⟨s, rfl, rfl⟩)
      go_meet
      case rel => exact ⟨rfl, _, rfl⟩
    · have h2 := over_anti _ _ _ _ h1
      cases h3 : overB qx qy rx ry
      · refine since_wp (fun s => ?_)
        go_wp2_with (go_at_call 9; refine (since_of (Over_any _ _ _ _ _ _) _).mono ?_; rintro e w' ⟨s, rfl, rfl⟩)
        go_meet
        case rel => exact ⟨rfl, _, rfl⟩
      · have h4 := over_trans _ _ _ _ _ _ h1 h3
        refine since_wp (fun s => ?_)
        go_wp2_with (go_at_call 9; refine (since_of (Over_any _ _ _ _ _ _) _).mono ?_; rintro e w' ⟨s, rfl, rfl⟩)
        go_meet
        case rel => exact ⟨rfl, _, rfl⟩
  case rest =>
    obtain ⟨rfl, s, rfl⟩ := hcut
    go_upto_region 3 with (fail)
    have zp' := Nat.lt_of_lt_of_le zp s.size
    go_cut [7, 8] (fun u r wc2 => ∃ bu br : Nat, u = .pointer (some ⟨bu, 0, none⟩) ∧ r = .pointer (some ⟨br, 0, none⟩) ∧ bu ≠ br ∧ Boxed1 s.w wc2 bu #[.int .i64 px, .int .i64 py, .int .u32 pid] ∧ Boxed1 s.w wc2 br #[.int .i64 px, .int .i64 py, .int .u32 pid])
    case first =>
      go_region
      all_goals
        go_wp2_with fail
        go_meet
        case rel => first | exact ⟨_, _, rfl, rfl, by omega, (two_boxed _ _ _ _ _).1, (two_boxed _ _ _ _ _).2⟩ | exact ⟨_, _, rfl, rfl, by omega, (two_boxed _ _ _ _ _).2, (two_boxed _ _ _ _ _).1⟩
    case rest =>
      obtain ⟨bu, br, rfl, rfl, hne, hu, hr⟩ := hcut
      go_upto_region 4 with (fail)
      have ⟨hbu, _, gu, cu, fu⟩ := hu
      have ⟨_, _, gr, cr', fr⟩ := hr
      have cp' : ∀ i, wc.cell? ⟨w.heap.size, i, none⟩ = #[Value.int .i64 px, .int .i64 py, .int .u32 pid][i]? := fun i => by rw [← cp i]; exact (hbu.cell (p := ⟨_, i, none⟩) zp').trans (s.cell _ _ zp)
      have cq' : ∀ i, wc.cell? ⟨w.heap.size + 1, i, none⟩ = #[Value.int .i64 qx, .int .i64 qy, .int .u32 qid][i]? := fun i => by rw [← cq i]; exact (hbu.cell (p := ⟨_, i, none⟩) (Nat.lt_of_lt_of_le zq s.size)).trans (s.cell _ _ zq)
      go_cut [] (fun wc2 => Boxed1 s.w wc2 bu #[.int .i64 px, .int .i64 (max py qy), .int .u32 pid] ∧ Boxed1 s.w wc2 br #[.int .i64 (max px qx), .int .i64 py, .int .u32 pid])
      case first =>
        go_region
        all_goals go_wp2_with fail
        all_goals
          go_meet
          case rel =>
            first | rw [show max py qy = qy by omega] | rw [show max py qy = py by omega]
            first | rw [show max px qx = qx by omega] | rw [show max px qx = px by omega]
            first | exact ⟨((hu.set 1 _ (by simp)).other br 0 _ gr hne).drew, ((hr.other bu 1 _ gu hne.symm).set 0 _ (by simp)).drew⟩ | exact ⟨((hu.other br 0 _ gr hne).set 1 _ (by simp)).drew, ((hr.set 0 _ (by simp)).other bu 1 _ gu hne.symm).drew⟩
      case rest =>
        obtain ⟨hu2, hr2⟩ := hcut
        clear hu hr cp' cq' cu fu cr' fr
        go_upto_region 5 with (fail)
        have ⟨hbu2, zu, _, cu, _⟩ := hu2
        have ⟨_, zr, _, cr', _⟩ := hr2
        have hsz := Nat.le_trans s.size hbu2.size
        have zp2 := Nat.lt_of_lt_of_le zp hsz
        have zq2 := Nat.lt_of_lt_of_le zq hsz
        have cp2 : ∀ i, wc.cell? ⟨w.heap.size, i, none⟩ = #[Value.int .i64 px, .int .i64 py, .int .u32 pid][i]? := fun i => by rw [← cp i]; exact (hbu2.cell (p := ⟨_, i, none⟩) zp').trans (s.cell _ _ zp)
        have cq2 : ∀ i, wc.cell? ⟨w.heap.size + 1, i, none⟩ = #[Value.int .i64 qx, .int .i64 qy, .int .u32 qid][i]? := fun i => by rw [← cq i]; exact (hbu2.cell (p := ⟨_, i, none⟩) (Nat.lt_of_lt_of_le zq s.size)).trans (s.cell _ _ zq)
        have hfin : Below w.heap.size w wc := bl (bl hB hB.size s.h) (Nat.le_trans hB.size s.size) hbu2
        have a1 := over_up px py qy
        have a2 := over_right px py qx
        cases d1 : decide (py < qy) <;> cases d2 : decide (px < qx)
        all_goals
          rw [d1] at a1
          rw [d2] at a2
          refine since_wp (fun s2 => ?_)
          refine wp_region_since (by kernel_rfl) (by kernel_rfl) ?_
          repeat (go_big_quiet_step ((first | (go_at_call 9; exact since_quiet (asv (Over_any _ _ _ _ _ _) (congrArg Value.bool a1))) | (go_at_call 9; exact since_quiet (asv (Over_any _ _ _ _ _ _) (congrArg Value.bool a2))) | (go_at_call 10; exact since_quiet (awake_true)))))
          refine wpQuiet_nil ?_
          rintro _ ⟨s, rfl⟩
          go_wp2
          go_ret
          exact ⟨rfl, since_below hfin _ (Nat.le_trans hB.size hsz)⟩
end Go.Proofs.Ythfkknckhaopcaa
