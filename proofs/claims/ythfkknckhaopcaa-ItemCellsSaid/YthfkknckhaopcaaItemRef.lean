/- The contracts of the functions of gridironref02, of fits, and of awake. -/
import Derived.Test.YthfkknckhaopcaaItemTop
namespace Go.Proofs.Ythfkknckhaopcaa
open Go.RowKit
theorem ahead_1 {a x b y : Int} (h : aheadB a x b y = true) : byI a b x y = -1 := by
  unfold aheadB at h; simp only [decide_eq_true_eq] at h; unfold byI firstI cmpI; repeat' split
  all_goals omega
theorem ahead_2 {a x b y : Int} (h : aheadB a x b y = false) (g : aheadB b y a x = true) : byI a b x y = 1 := by
  unfold aheadB at h g; simp only [decide_eq_true_eq, decide_eq_false_iff_not] at h g; unfold byI firstI cmpI; repeat' split
  all_goals omega
theorem ahead_3 {a x b y : Int} (h : aheadB a x b y = false) (g : aheadB b y a x = false) : byI a b x y = 0 := by
  unfold aheadB at h g; simp only [decide_eq_false_iff_not] at h g; unfold byI firstI cmpI; repeat' split
  all_goals omega
theorem meet_eq (lo hi a b : Int) : meetB lo hi a b = (stabB lo hi a && stabB a b a || stabB lo hi lo && stabB a b lo) := by
  unfold meetB stabB; rw [Bool.eq_iff_iff]; simp only [decide_eq_true_eq, Bool.or_eq_true, Bool.and_eq_true]; omega


set_option maxHeartbeats 400000 in
theorem Ahead_any (a x b y : Int) (w : World) :
    Calls Try.prog 39 #[.int .i64 a, .int .u32 x, .int .i64 b, .int .u32 y] w fun e w' => e = .returned (.bool (aheadB a x b y)) ∧ w = w' := by
  go_enter Try.func39, Try.ntmps39
  go_wp2
  all_goals
    go_ret
    refine ⟨ret_bool ?_, ?_⟩
    · first | rfl | (unfold aheadB; rw [Bool.eq_iff_iff]; simp <;> omega)
    · rfl

set_option maxHeartbeats 400000 in
theorem order_any (a x b y : Int) (w : World) :
    Calls Try.prog 35 #[.int .i64 a, .int .u32 x, .int .i64 b, .int .u32 y] w fun e w' => e = .returned (.int .i64 (byI a b x y)) ∧ w = w' := by
  go_enter Try.func35, Try.ntmps35
  go_wp2_with (go_at_call 39; refine (Ahead_any _ _ _ _ _).mono ?_; rintro e w' ⟨rfl, rfl⟩)
  all_goals
    go_ret
    refine ⟨ret_int ?_, rfl⟩
    first | exact (ahead_1 (by assumption)).symm | exact (ahead_2 (by assumption) (by assumption)).symm | exact (ahead_3 (by assumption) (by assumption)).symm

set_option maxHeartbeats 400000 in
theorem RByX_any (ax ay aid cx cy cid : Int) (w : World) :
    Calls Try.prog 22 #[pointV ax ay aid, pointV cx cy cid] w fun e w' => e = .returned (.int .i64 (byI ax cx aid cid)) ∧ Below w.heap.size w w' := by
  go_enter Try.func22, Try.ntmps22
  go_wp2_with (go_at_call 35; refine (order_any _ _ _ _ _).mono ?_; rintro e w' ⟨rfl, rfl⟩)
  go_ret
  exact ⟨rfl, (((Below.refl _ _).alloc (Nat.le_refl _) _).alloc (by simp) _)⟩

set_option maxHeartbeats 400000 in
theorem RByY_any (ax ay aid cx cy cid : Int) (w : World) :
    Calls Try.prog 23 #[pointV ax ay aid, pointV cx cy cid] w fun e w' => e = .returned (.int .i64 (byI ay cy aid cid)) ∧ Below w.heap.size w w' := by
  go_enter Try.func23, Try.ntmps23
  go_wp2_with (go_at_call 35; refine (order_any _ _ _ _ _).mono ?_; rintro e w' ⟨rfl, rfl⟩)
  go_ret
  exact ⟨rfl, (((Below.refl _ _).alloc (Nat.le_refl _) _).alloc (by simp) _)⟩

set_option maxHeartbeats 400000 in
theorem RByLo_any (alo ahi aid clo chi cid : Int) (w : World) :
    Calls Try.prog 24 #[spanV alo ahi aid, spanV clo chi cid] w fun e w' => e = .returned (.int .i64 (byI alo clo aid cid)) ∧ Below w.heap.size w w' := by
  go_enter Try.func24, Try.ntmps24
  go_wp2_with (go_at_call 35; refine (order_any _ _ _ _ _).mono ?_; rintro e w' ⟨rfl, rfl⟩)
  go_ret
  exact ⟨rfl, (((Below.refl _ _).alloc (Nat.le_refl _) _).alloc (by simp) _)⟩

set_option maxHeartbeats 400000 in
theorem RByHi_any (alo ahi aid clo chi cid : Int) (w : World) :
    Calls Try.prog 25 #[spanV alo ahi aid, spanV clo chi cid] w fun e w' => e = .returned (.int .i64 (byI ahi chi aid cid)) ∧ Below w.heap.size w w' := by
  go_enter Try.func25, Try.ntmps25
  go_wp2_with (go_at_call 35; refine (order_any _ _ _ _ _).mono ?_; rintro e w' ⟨rfl, rfl⟩)
  go_ret
  exact ⟨rfl, (((Below.refl _ _).alloc (Nat.le_refl _) _).alloc (by simp) _)⟩

set_option maxHeartbeats 400000 in
theorem RStab_any (lo hi id x : Int) (w : World) :
    Calls Try.prog 26 #[spanV lo hi id, .int .i64 x] w fun e w' => e = .returned (.bool (stabB lo hi x)) ∧ Below w.heap.size w w' := by
  go_enter Try.func26, Try.ntmps26
  go_wp2
  all_goals
    go_ret
    refine ⟨ret_bool ?_, ?_⟩
    · first | rfl | (unfold stabB; rw [Bool.eq_iff_iff]; simp <;> omega)
    · (repeat' first | exact Below.refl _ _ | assumption | (refine Below.alloc ?_ ?_ _) | simp | omega)

set_option maxHeartbeats 400000 in
theorem RRightSpan_any (lo hi id : Int) (w : World) :
    Calls Try.prog 29 #[spanV lo hi id] w fun e w' => e = .returned (.bool (rightB lo hi)) ∧ Below w.heap.size w w' := by
  go_enter Try.func29, Try.ntmps29
  go_wp2
  all_goals
    go_ret
    refine ⟨ret_bool ?_, ?_⟩
    · first | rfl | (unfold rightB; rw [Bool.eq_iff_iff]; simp <;> omega)
    · (repeat' first | exact Below.refl _ _ | assumption | (refine Below.alloc ?_ ?_ _) | simp | omega)

set_option maxHeartbeats 400000 in
theorem RRightBox_any (x1 x2 y1 y2 id : Int) (w : World) :
    Calls Try.prog 30 #[boxV x1 x2 y1 y2 id] w fun e w' => e = .returned (.bool (rightBoxB x1 x2 y1 y2)) ∧ Below w.heap.size w w' := by
  go_enter Try.func30, Try.ntmps30
  go_wp2
  all_goals
    go_ret
    refine ⟨ret_bool ?_, ?_⟩
    · first | rfl | (unfold rightBoxB rightB; rw [Bool.eq_iff_iff]; simp <;> omega)
    · (repeat' first | exact Below.refl _ _ | assumption | (refine Below.alloc ?_ ?_ _) | simp | omega)

set_option maxHeartbeats 400000 in
theorem RIn_any (px py pid x1 x2 y1 y2 id : Int) (w : World) :
    Calls Try.prog 28 #[pointV px py pid, boxV x1 x2 y1 y2 id] w fun e w' => e = .returned (.bool (inB px py x1 x2 y1 y2)) ∧ Below w.heap.size w w' := by
  go_enter Try.func28, Try.ntmps28
  go_wp2
  all_goals
    go_ret
    refine ⟨ret_bool ?_, ?_⟩
    · first | rfl | (unfold inB stabB; rw [Bool.eq_iff_iff]; simp <;> omega)
    · (repeat' first | exact Below.refl _ _ | assumption | (refine Below.alloc ?_ ?_ _) | simp | omega)

set_option maxHeartbeats 400000 in
theorem ROver_any (px py pid qx qy qid : Int) (w : World) :
    Calls Try.prog 31 #[pointV px py pid, pointV qx qy qid] w fun e w' => e = .returned (.bool (overB px py qx qy)) ∧ Below w.heap.size w w' := by
  go_enter Try.func31, Try.ntmps31
  go_wp2
  all_goals
    go_ret
    refine ⟨ret_bool ?_, ?_⟩
    · first | rfl | (unfold overB; rw [Bool.eq_iff_iff]; simp <;> omega)
    · (repeat' first | exact Below.refl _ _ | assumption | (refine Below.alloc ?_ ?_ _) | simp | omega)

set_option maxHeartbeats 400000 in
theorem RCell_any (x1 x2 y1 y2 id x y : Int) (w : World) :
    Calls Try.prog 32 #[boxV x1 x2 y1 y2 id, .int .i64 x, .int .i64 y] w fun e w' => e = .returned (.bool (cellB x1 x2 y1 y2 x y)) ∧ Below w.heap.size w w' := by
  go_enter Try.func32, Try.ntmps32
  go_wp2
  all_goals
    go_ret
    refine ⟨ret_bool ?_, ?_⟩
    · first | rfl | (unfold cellB inB stabB; rw [Bool.eq_iff_iff]; simp <;> omega)
    · (repeat' first | exact Below.refl _ _ | assumption | (refine Below.alloc ?_ ?_ _) | simp | omega)

set_option maxHeartbeats 400000 in
theorem RMeet_any (lo hi id a b : Int) (w : World) :
    Calls Try.prog 27 #[spanV lo hi id, .int .i64 a, .int .i64 b] w fun e w' => e = .returned (.bool (meetB lo hi a b)) ∧ Below w.heap.size w w' := by
  go_enter Try.func27, Try.ntmps27
  go_wp2_with fail
  refine since_calls (fun s => ?_)
  go_wp2_with (first | (go_at_call 26; refine (since_of (RStab_any _ _ _ _) _).mono ?_; rintro e w' ⟨s, rfl, rfl⟩))
  all_goals
    go_ret
    refine ⟨ret_bool ?_, ?_⟩
    · rw [meet_eq]; simp [*]
    · (refine since_below ?_ _ ?_ <;> (repeat' first | exact Below.refl _ _ | assumption | (refine Below.alloc ?_ ?_ _) | simp | omega))

set_option maxHeartbeats 400000 in
theorem fits_yes (ab ba bc ac : Int) (h1 : ab = -1 ∨ ab = 0 ∨ ab = 1) (h2 : ba = -ab) (h3 : bc = -1 ∨ bc = 0 ∨ bc = 1) (h4 : ab ≤ 0 → bc ≤ 0 → ac = if ab = 0 ∧ bc = 0 then 0 else -1) (w : World) :
    Calls Try.prog 18 #[.int .i64 ab, .int .i64 ba, .int .i64 bc, .int .i64 ac] w fun e w' => e = .returned (.bool true) ∧ w = w' := by
  rcases h1 with rfl | rfl | rfl
  · subst h2
    rcases h3 with rfl | rfl | rfl
    · obtain rfl := h4 (by decide) (by decide)
      go_enter Try.func18, Try.ntmps18
      go_wp2
      go_ret
      exact ⟨rfl, rfl⟩
    · obtain rfl := h4 (by decide) (by decide)
      go_enter Try.func18, Try.ntmps18
      go_wp2
      go_ret
      exact ⟨rfl, rfl⟩
    · clear h4
      go_enter Try.func18, Try.ntmps18
      go_wp2
      go_ret
      exact ⟨rfl, rfl⟩
  · subst h2
    rcases h3 with rfl | rfl | rfl
    · obtain rfl := h4 (by decide) (by decide)
      go_enter Try.func18, Try.ntmps18
      go_wp2
      go_ret
      exact ⟨rfl, rfl⟩
    · obtain rfl := h4 (by decide) (by decide)
      go_enter Try.func18, Try.ntmps18
      go_wp2
      go_ret
      exact ⟨rfl, rfl⟩
    · clear h4
      go_enter Try.func18, Try.ntmps18
      go_wp2
      go_ret
      exact ⟨rfl, rfl⟩
  · subst h2
    clear h3 h4
    go_enter Try.func18, Try.ntmps18
    go_wp2
    go_ret
    exact ⟨rfl, rfl⟩

end Go.Proofs.Ythfkknckhaopcaa
