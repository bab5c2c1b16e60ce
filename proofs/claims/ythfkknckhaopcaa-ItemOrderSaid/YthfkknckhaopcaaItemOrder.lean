/- ItemOrder: the walk. -/
import Derived.Test.YthfkknckhaopcaaItemAwake
import Derived.Deep.DeepCutAuto
namespace Go.Proofs.Ythfkknckhaopcaa
open Go.RowKit
set_option linter.unusedVariables false

theorem by_zero (a b x y : Int) : (byI a b x y == 0) = (a == b && x == y) := by
  rw [Bool.eq_iff_iff]; simp only [beq_iff_eq, Bool.and_eq_true]; unfold byI firstI cmpI; repeat' split
  all_goals omega
theorem by_lt (a b x y : Int) : byI a b x y = -1 ↔ a < b ∨ (a = b ∧ x < y) := by
  unfold byI firstI cmpI; repeat' split
  all_goals omega
theorem by_z (a b x y : Int) : byI a b x y = 0 ↔ a = b ∧ x = y := by
  unfold byI firstI cmpI; repeat' split
  all_goals omega
theorem by_gt (a b x y : Int) : byI a b x y = 1 ↔ b < a ∨ (b = a ∧ y < x) := by
  unfold byI firstI cmpI; repeat' split
  all_goals omega
theorem by_anti (a b x y : Int) : byI b a y x = - byI a b x y := by
  rcases by_cases3 a b x y with h | h | h <;> rw [h]
  · exact (by_gt b a y x).2 (by have := (by_lt a b x y).1 h; omega)
  · exact (by_z b a y x).2 (by have := (by_z a b x y).1 h; omega)
  · exact (by_lt b a y x).2 (by have := (by_gt a b x y).1 h; omega)
theorem by_trans (a b c x y z : Int) (h : byI a b x y ≤ 0) (g : byI b c y z ≤ 0) : byI a c x z = if byI a b x y = 0 ∧ byI b c y z = 0 then 0 else -1 := by
  rcases by_cases3 a b x y with h1 | h1 | h1
  · rw [if_neg (by omega)]
    rcases by_cases3 b c y z with h2 | h2 | h2
    · exact (by_lt _ _ _ _).2 (by have := (by_lt _ _ _ _).1 h1; have := (by_lt _ _ _ _).1 h2; omega)
    · exact (by_lt _ _ _ _).2 (by have := (by_lt _ _ _ _).1 h1; have := (by_z _ _ _ _).1 h2; omega)
    · omega
  · rcases by_cases3 b c y z with h2 | h2 | h2
    · rw [if_neg (by omega)]; exact (by_lt _ _ _ _).2 (by have := (by_z _ _ _ _).1 h1; have := (by_lt _ _ _ _).1 h2; omega)
    · rw [if_pos ⟨h1, h2⟩]; exact (by_z _ _ _ _).2 (by have := (by_z _ _ _ _).1 h1; have := (by_z _ _ _ _).1 h2; omega)
    · omega
  · omega
theorem fits_by (a b c x y z : Int) (w : World) :
    Calls Try.prog 18 #[.int .i64 (byI a b x y), .int .i64 (byI b a y x), .int .i64 (byI b c y z), .int .i64 (byI a c x z)] w fun e w' => e = .returned (.bool true) ∧ Below w.heap.size w w' :=
  (fits_yes _ _ _ _ (by_cases3 _ _ _ _) (by_anti _ _ _ _) (by_cases3 _ _ _ _) (by_trans _ _ _ _ _ _) w).mono fun _ _ ⟨he, hw⟩ => ⟨he, hw ▸ Below.refl _ _⟩

set_option maxRecDepth 100000 in
set_option maxHeartbeats 1000000 in
theorem ItemOrder_walk (px py pid qx qy qid rx ry rid slo shi sid tlo thi tid ulo uhi uid : Int) (w : World) :
    Calls Try.prog 5 #[pointV px py pid, pointV qx qy qid, pointV rx ry rid, spanV slo shi sid, spanV tlo thi tid, spanV ulo uhi uid] w fun e w' => e = .returned (.bool true) ∧ Below w.heap.size w w' := by
  go_enter Try.func5, Try.ntmps5
  go_upto_region 1 with (fail)
  refine from_box6 (fun W hp hq hr hs ht hu => ?_)
  obtain ⟨hB, zp, _, cp, _⟩ := hp
  obtain ⟨_, zq, _, cq, _⟩ := hq
  obtain ⟨_, zr, _, cr, _⟩ := hr
  obtain ⟨_, zs, _, cs, _⟩ := hs
  obtain ⟨_, zt, _, ct, _⟩ := ht
  obtain ⟨_, zu, _, cu, _⟩ := hu
  go_cut [48] (fun v wc => v = .bool false ∧ ∃ s : Since W, wc = s.w)
  case first =>
    have e1 := by_zero px qx pid qid
    have e2 := by_zero py qy pid qid
    cases h1 : (px == qx) <;> cases h2 : (py == qy)
    all_goals
      rw [h1] at e1
      rw [h2] at e2
      refine since_wp (fun s0 => ?_)
      refine wp_region_since (by kernel_rfl) (by kernel_rfl) ?_
      repeat (go_big_quiet_step ((first | (go_at_call 14; exact since_quiet (ByX_any _ _ _ _ _ _)) | (go_at_call 15; exact since_quiet (ByY_any _ _ _ _ _ _)))))
      refine wpQuiet_nil ?_
      rintro _ ⟨s, rfl⟩
      go_wp2_with fail
      go_meet
      case rel => first | exact ⟨rfl, _, rfl⟩ | exact ⟨congrArg Value.bool (decide_eq_false (by omega)), _, rfl⟩
  case rest =>
    obtain ⟨rfl, s, rfl⟩ := hcut
    go_upto_region 3 with (fail)
    go_cut [84] (fun v wc => v = .bool false ∧ ∃ s : Since W, wc = s.w)
    case first =>
      have e1 := by_zero slo tlo sid tid
      have e2 := by_zero shi thi sid tid
      cases h1 : (slo == tlo) <;> cases h2 : (shi == thi)
      all_goals
        rw [h1] at e1
        rw [h2] at e2
        refine wp_region_since (by kernel_rfl) (by kernel_rfl) ?_
        repeat (go_big_quiet_step ((first | (go_at_call 16; exact since_quiet (ByLo_any _ _ _ _ _ _)) | (go_at_call 17; exact since_quiet (ByHi_any _ _ _ _ _ _)))))
        refine wpQuiet_nil ?_
        rintro _ ⟨s, rfl⟩
        go_wp2_with fail
        go_meet
        case rel => first | exact ⟨rfl, _, rfl⟩ | exact ⟨congrArg Value.bool (decide_eq_false (by omega)), _, rfl⟩
    case rest =>
      obtain ⟨rfl, s, rfl⟩ := hcut
      go_upto_region 5 with (fail)
      go_cut [114] (fun v wc => v = .bool false ∧ ∃ s : Since W, wc = s.w)
      case first =>
        refine wp_region_since (by kernel_rfl) (by kernel_rfl) ?_
        repeat (go_big_quiet_step ((first | (go_at_call 14; exact since_quiet (ByX_any _ _ _ _ _ _)) | (go_at_call 15; exact since_quiet (ByY_any _ _ _ _ _ _)) | (go_at_call 18; exact since_quiet (fits_by _ _ _ _ _ _)))))
        refine wpQuiet_nil ?_
        rintro _ ⟨s, rfl⟩
        go_wp2_with fail
        go_meet
        case rel => first | exact ⟨rfl, _, rfl⟩ | exact ⟨congrArg Value.bool (decide_eq_false (by omega)), _, rfl⟩
      case rest =>
        obtain ⟨rfl, s, rfl⟩ := hcut
        go_upto_region 7 with (fail)
        refine wp_region_since (by kernel_rfl) (by kernel_rfl) ?_
        repeat (go_big_quiet_step ((first | (go_at_call 16; exact since_quiet (ByLo_any _ _ _ _ _ _)) | (go_at_call 17; exact since_quiet (ByHi_any _ _ _ _ _ _)) | (go_at_call 18; exact since_quiet (fits_by _ _ _ _ _ _)) | (go_at_call 10; exact since_quiet (awake_true)))))
        refine wpQuiet_nil ?_
        rintro _ ⟨s, rfl⟩
        go_wp2
        go_ret
        exact ⟨rfl, since_below hB _ hB.size⟩
end Go.Proofs.Ythfkknckhaopcaa
