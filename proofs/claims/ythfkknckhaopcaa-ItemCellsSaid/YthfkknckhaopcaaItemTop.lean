/- The contracts of the functions of package item and of gridironref02. -/
import Derived.Test.YthfkknckhaopcaaItemWalks
namespace Go.Proofs.Ythfkknckhaopcaa
open Go.RowKit
abbrev pointV (x y id : Int) : Value := .agg #[.int .i64 x, .int .i64 y, .int .u32 id]
abbrev spanV (lo hi id : Int) : Value := .agg #[.int .i64 lo, .int .i64 hi, .int .u32 id]
abbrev boxV (x1 x2 y1 y2 id : Int) : Value := .agg #[.int .i64 x1, .int .i64 x2, .int .i64 y1, .int .i64 y2, .int .u32 id]
def stabB (lo hi x : Int) : Bool := decide (lo ≤ x ∧ x ≤ hi)
def rightB (lo hi : Int) : Bool := decide (lo ≤ hi)
def meetB (a b lo hi : Int) : Bool := decide (a ≤ b ∧ a ≤ hi ∧ lo ≤ b ∧ lo ≤ hi)
def overB (px py qx qy : Int) : Bool := decide (qx ≤ px ∧ qy ≤ py ∧ (px ≠ qx ∨ py ≠ qy))
def inB (px py x1 x2 y1 y2 : Int) : Bool := stabB x1 x2 px && stabB y1 y2 py
def cellB (x1 x2 y1 y2 x y : Int) : Bool := inB x y x1 x2 y1 y2 && decide (x ≠ x2 ∧ y ≠ y2)
def aheadB (a x b y : Int) : Bool := decide (a < b ∨ a = b ∧ x < y)
def fitsB (ab ba bc ac : Int) : Bool := decide (-1 ≤ ab ∧ ab ≤ 1 ∧ ab = -ba ∧ (ab ≤ 0 ∧ bc ≤ 0 → ac ≤ 0 ∧ (ac = 0 ↔ ab = 0 ∧ bc = 0)))
def rightBoxB (x1 x2 y1 y2 : Int) : Bool := rightB x1 x2 && rightB y1 y2

set_option maxHeartbeats 400000 in
theorem ByX_any (ax ay aid cx cy cid : Int) (w : World) :
    Calls Try.prog 14 #[pointV ax ay aid, pointV cx cy cid] w fun e w' => e = .returned (.int .i64 (byI ax cx aid cid)) ∧ Below w.heap.size w w' := by
  go_enter Try.func14, Try.ntmps14
  go_wp2_with (go_at_call 33; refine (by_any _ _ _ _ _).mono ?_; rintro e w' ⟨rfl, hb⟩)
  go_ret
  exact ⟨rfl, bl (((Below.refl _ _).alloc (Nat.le_refl _) _).alloc (by simp) _) (by simp; omega) hb⟩

set_option maxHeartbeats 400000 in
theorem ByY_any (ax ay aid cx cy cid : Int) (w : World) :
    Calls Try.prog 15 #[pointV ax ay aid, pointV cx cy cid] w fun e w' => e = .returned (.int .i64 (byI ay cy aid cid)) ∧ Below w.heap.size w w' := by
  go_enter Try.func15, Try.ntmps15
  go_wp2_with (go_at_call 33; refine (by_any _ _ _ _ _).mono ?_; rintro e w' ⟨rfl, hb⟩)
  go_ret
  exact ⟨rfl, bl (((Below.refl _ _).alloc (Nat.le_refl _) _).alloc (by simp) _) (by simp; omega) hb⟩

set_option maxHeartbeats 400000 in
theorem ByLo_any (alo ahi aid clo chi cid : Int) (w : World) :
    Calls Try.prog 16 #[spanV alo ahi aid, spanV clo chi cid] w fun e w' => e = .returned (.int .i64 (byI alo clo aid cid)) ∧ Below w.heap.size w w' := by
  go_enter Try.func16, Try.ntmps16
  go_wp2_with (go_at_call 33; refine (by_any _ _ _ _ _).mono ?_; rintro e w' ⟨rfl, hb⟩)
  go_ret
  exact ⟨rfl, bl (((Below.refl _ _).alloc (Nat.le_refl _) _).alloc (by simp) _) (by simp; omega) hb⟩

set_option maxHeartbeats 400000 in
theorem ByHi_any (alo ahi aid clo chi cid : Int) (w : World) :
    Calls Try.prog 17 #[spanV alo ahi aid, spanV clo chi cid] w fun e w' => e = .returned (.int .i64 (byI ahi chi aid cid)) ∧ Below w.heap.size w w' := by
  go_enter Try.func17, Try.ntmps17
  go_wp2_with (go_at_call 33; refine (by_any _ _ _ _ _).mono ?_; rintro e w' ⟨rfl, hb⟩)
  go_ret
  exact ⟨rfl, bl (((Below.refl _ _).alloc (Nat.le_refl _) _).alloc (by simp) _) (by simp; omega) hb⟩

set_option maxHeartbeats 400000 in
theorem Stab_any (lo hi id x : Int) (w : World) :
    Calls Try.prog 12 #[spanV lo hi id, .int .i64 x] w fun e w' => e = .returned (.bool (stabB lo hi x)) ∧ Below w.heap.size w w' := by
  go_enter Try.func12, Try.ntmps12
  go_wp2
  all_goals
    go_ret
    refine ⟨ret_bool ?_, ?_⟩
    · first | rfl | (unfold stabB; rw [Bool.eq_iff_iff]; simp <;> omega)
    · (repeat' first | exact Below.refl _ _ | assumption | (refine Below.alloc ?_ ?_ _) | simp | omega)

set_option maxHeartbeats 400000 in
theorem RightSpan_any (lo hi id : Int) (w : World) :
    Calls Try.prog 13 #[spanV lo hi id] w fun e w' => e = .returned (.bool (rightB lo hi)) ∧ Below w.heap.size w w' := by
  go_enter Try.func13, Try.ntmps13
  go_wp2
  all_goals
    go_ret
    refine ⟨ret_bool ?_, ?_⟩
    · first | rfl | (unfold rightB; rw [Bool.eq_iff_iff]; simp <;> omega)
    · (repeat' first | exact Below.refl _ _ | assumption | (refine Below.alloc ?_ ?_ _) | simp | omega)

set_option maxHeartbeats 400000 in
theorem Meet_any (lo hi id a b : Int) (w : World) :
    Calls Try.prog 11 #[spanV lo hi id, .int .i64 a, .int .i64 b] w fun e w' => e = .returned (.bool (meetB lo hi a b)) ∧ Below w.heap.size w w' := by
  go_enter Try.func11, Try.ntmps11
  go_wp2
  all_goals
    go_ret
    refine ⟨ret_bool ?_, ?_⟩
    · first | rfl | (unfold meetB; rw [Bool.eq_iff_iff]; simp <;> omega)
    · (repeat' first | exact Below.refl _ _ | assumption | (refine Below.alloc ?_ ?_ _) | simp | omega)

set_option maxHeartbeats 400000 in
theorem Over_any (px py pid qx qy qid : Int) (w : World) :
    Calls Try.prog 9 #[pointV px py pid, pointV qx qy qid] w fun e w' => e = .returned (.bool (overB px py qx qy)) ∧ Below w.heap.size w w' := by
  go_enter Try.func9, Try.ntmps9
  go_wp2
  all_goals
    go_ret
    refine ⟨ret_bool ?_, ?_⟩
    · first | rfl | (unfold overB; rw [Bool.eq_iff_iff]; simp <;> omega)
    · (repeat' first | exact Below.refl _ _ | assumption | (refine Below.alloc ?_ ?_ _) | simp | omega)

set_option maxHeartbeats 400000 in
theorem side_any (lo hi : Int) (w : World) :
    Calls Try.prog 34 #[.int .i64 lo, .int .i64 hi] w fun e w' => e = .returned (spanV lo hi 0) ∧ Below w.heap.size w w' := by
  go_enter Try.func34, Try.ntmps34
  go_wp2
  exact bodyPost_ret (v := spanV lo hi 0) (by simp [results, Try.results34, go_sem]) rfl ⟨rfl, (Below.refl _ _).alloc (Nat.le_refl _) _⟩

set_option maxHeartbeats 400000 in
theorem RightBox_any (x1 x2 y1 y2 id : Int) (w : World) :
    Calls Try.prog 20 #[boxV x1 x2 y1 y2 id] w fun e w' => e = .returned (.bool (rightBoxB x1 x2 y1 y2)) ∧ Below w.heap.size w w' := by
  go_enter Try.func20, Try.ntmps20
  go_wp2_with fail
  refine since_calls (fun s => ?_)
  go_wp2_with (first | (go_at_call 34; refine (since_of (side_any _ _) _).mono ?_; rintro e w' ⟨s, rfl, rfl⟩) | (go_at_call 13; refine (since_of (RightSpan_any _ _ _) _).mono ?_; rintro e w' ⟨s, rfl, rfl⟩))
  all_goals
    go_ret
    refine ⟨ret_bool ?_, ?_⟩
    · first | rfl | (simp [rightBoxB, *]; done) | (unfold rightBoxB ; rw [Bool.eq_iff_iff]; simp [*] <;> omega)
    · (refine since_below ?_ _ ?_ <;> (repeat' first | exact Below.refl _ _ | assumption | (refine Below.alloc ?_ ?_ _) | simp | omega))

set_option maxHeartbeats 400000 in
theorem In_any (px py pid x1 x2 y1 y2 id : Int) (w : World) :
    Calls Try.prog 19 #[pointV px py pid, boxV x1 x2 y1 y2 id] w fun e w' => e = .returned (.bool (inB px py x1 x2 y1 y2)) ∧ Below w.heap.size w w' := by
  cases h : stabB x1 x2 px
  all_goals
    go_enter Try.func19, Try.ntmps19
    go_wp2_with fail
    refine since_wp (fun s => ?_)
    refine wp_region_since (by kernel_rfl) (by kernel_rfl) ?_
    repeat (go_big_quiet_step ((first | (go_at_call 34; exact since_quiet (side_any _ _)) | (go_at_call 12; exact since_quiet (asv (Stab_any _ _ _ _) (congrArg Value.bool h))) | (go_at_call 12; exact since_quiet (Stab_any _ _ _ _)))))
    refine wpQuiet_nil ?_
    rintro _ ⟨s, rfl⟩
    go_wp2
  all_goals
    go_ret
    refine ⟨ret_bool ?_, ?_⟩
    · first | rfl | (simp [inB, *]; done) | (unfold inB ; rw [Bool.eq_iff_iff]; simp [*] <;> omega)
    · (refine since_below ?_ _ ?_ <;> (repeat' first | exact Below.refl _ _ | assumption | (refine Below.alloc ?_ ?_ _) | simp | omega))

set_option maxHeartbeats 400000 in
theorem Cell_any (x1 x2 y1 y2 id x y : Int) (w : World) :
    Calls Try.prog 21 #[boxV x1 x2 y1 y2 id, .int .i64 x, .int .i64 y] w fun e w' => e = .returned (.bool (cellB x1 x2 y1 y2 x y)) ∧ Below w.heap.size w w' := by
  go_enter Try.func21, Try.ntmps21
  go_wp2_with fail
  refine since_calls (fun s => ?_)
  go_wp2_with (first | (go_at_call 19; refine (since_of (In_any _ _ _ _ _ _ _ _) _).mono ?_; rintro e w' ⟨s, rfl, rfl⟩))
  all_goals
    go_ret
    refine ⟨ret_bool ?_, ?_⟩
    · first | rfl | (simp [cellB, *]; done) | (unfold cellB ; rw [Bool.eq_iff_iff]; simp [*] <;> omega)
    · (refine since_below ?_ _ ?_ <;> (repeat' first | exact Below.refl _ _ | assumption | (refine Below.alloc ?_ ?_ _) | simp | omega))

end Go.Proofs.Ythfkknckhaopcaa
