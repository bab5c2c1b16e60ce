import Derived.Test.YtokpgopdkimmmaaGreatDoorTellsM2
import Derived.Test.YtokpgopdkimmmaaGreatDoorOpTextWalk
import Derived.Test.YtokpgopdkimmmaaGreatDoorBase
import Derived.Test.YtokpgopdkimmmaaGreatDoorTellsM5
import Derived.Deep.RegionHeld3
import Derived.StillTailTactics
import Derived.Test.YtokpgopdkimmmaaGreatDoorOpLaw
/- The document's answer of layer 27: words, what is named, what is wrong, numbers. -/
namespace Go.Proofs.YtokpgopdkimmmaaGreatDoor
open Go.RowKit
set_option linter.unusedVariables false
set_option linter.unusedSimpArgs false

/-- Whether the name is named, and how many of the four numbers are. -/
def namedB (k : Nat) : Bool := (letOf k).contains 105
def manyN (k : Nat) : Nat := ((letOf k).filter fun c => c != 105).length
theorem letOf_shape : ∀ j : Fin 20, letOf (j.val + 1) = (if namedB (j.val + 1) then [105] else []) ++ ([97, 98, 99, 100] : List UInt8).take (manyN (j.val + 1)) ∧ manyN (j.val + 1) ≤ 4 := by decide
theorem word_ne : ∀ j : Fin 20, wordOf (j.val + 1) ≠ [] := by decide
theorem code_cases {k : Nat} : k = 0 ∨ 20 < k ∨ ∃ j : Fin 20, k = j.val + 1 := by
  rcases Nat.eq_zero_or_pos k with h | h
  · exact .inl h
  · rcases Nat.lt_or_ge 20 k with h2 | h2
    · exact .inr (.inl h2)
    · exact .inr (.inr ⟨⟨k - 1, by omega⟩, by simp only; omega⟩)
theorem no_code {k : Nat} (h : k = 0 ∨ 20 < k) : wordOf k = [] ∧ letOf k = [] ∧ isCode k = false := by
  unfold wordOf letOf isCode
  rcases h with rfl | h
  · exact ⟨rfl, rfl, rfl⟩
  · rw [if_neg (by omega), if_neg (by omega), List.getD_eq_getElem?_getD, List.getElem?_eq_none (by simp [opTab]; omega)]
    exact ⟨rfl, rfl, by simp; omega⟩
set_option maxRecDepth 100000 in
set_option maxHeartbeats 4000000 in
theorem rword_any (k : Nat) (w : World) : Calls Tryz.prog 35 #[.int .u8 (k : Int)] w fun e w' => e = .returned (.string ⟨(wordOf k).toArray⟩) ∧ w = w' := by
  by_cases h : k = 0 ∨ 20 < k
  · have HE := Lib.hid (no_code h).1
    have q : ∀ n : Nat, 1 ≤ n → n ≤ 20 → ((k : Int) == (n : Int)) = false := fun n h1 h2 => by simp; omega
    have q1 : ((k : Int) == 1) = false := q 1 (by decide) (by decide)
    have q2 : ((k : Int) == 2) = false := q 2 (by decide) (by decide)
    have q3 : ((k : Int) == 3) = false := q 3 (by decide) (by decide)
    have q4 : ((k : Int) == 4) = false := q 4 (by decide) (by decide)
    have q5 : ((k : Int) == 5) = false := q 5 (by decide) (by decide)
    have q6 : ((k : Int) == 6) = false := q 6 (by decide) (by decide)
    have q7 : ((k : Int) == 7) = false := q 7 (by decide) (by decide)
    have q8 : ((k : Int) == 8) = false := q 8 (by decide) (by decide)
    have q9 : ((k : Int) == 9) = false := q 9 (by decide) (by decide)
    have q10 : ((k : Int) == 10) = false := q 10 (by decide) (by decide)
    have q11 : ((k : Int) == 11) = false := q 11 (by decide) (by decide)
    have q12 : ((k : Int) == 12) = false := q 12 (by decide) (by decide)
    have q13 : ((k : Int) == 13) = false := q 13 (by decide) (by decide)
    have q14 : ((k : Int) == 14) = false := q 14 (by decide) (by decide)
    have q15 : ((k : Int) == 15) = false := q 15 (by decide) (by decide)
    have q16 : ((k : Int) == 16) = false := q 16 (by decide) (by decide)
    have q17 : ((k : Int) == 17) = false := q 17 (by decide) (by decide)
    have q18 : ((k : Int) == 18) = false := q 18 (by decide) (by decide)
    have q19 : ((k : Int) == 19) = false := q 19 (by decide) (by decide)
    have q20 : ((k : Int) == 20) = false := q 20 (by decide) (by decide)
    clear q h
    go_enter Tryz.func35, Tryz.ntmps35
    go_wp2
    go_ret
    exact ⟨by rw [HE.out]; rfl, rfl⟩
  · have h2 : k = 1 ∨ k = 2 ∨ k = 3 ∨ k = 4 ∨ k = 5 ∨ k = 6 ∨ k = 7 ∨ k = 8 ∨ k = 9 ∨ k = 10 ∨ k = 11 ∨ k = 12 ∨ k = 13 ∨ k = 14 ∨ k = 15 ∨ k = 16 ∨ k = 17 ∨ k = 18 ∨ k = 19 ∨ k = 20 := by omega
    clear h
    rcases h2 with rfl | rfl | rfl | rfl | rfl | rfl | rfl | rfl | rfl | rfl | rfl | rfl | rfl | rfl | rfl | rfl | rfl | rfl | rfl | rfl
    all_goals
      go_enter Tryz.func35, Tryz.ntmps35
      go_wp2
      go_ret
      exact ⟨rfl, rfl⟩
set_option maxRecDepth 100000 in
set_option maxHeartbeats 4000000 in
theorem rnamed_any (k : Nat) (w : World) : Calls Tryz.prog 40 #[.int .u8 (k : Int)] w fun e w' => e = .returned (.tuple #[.bool (namedB k), .int .i64 (manyN k : Int)]) ∧ w = w' := by
  by_cases h : k = 0 ∨ 14 = k ∨ 17 < k ∧ k ≠ 20
  · have HE := Lib.hid (show namedB k = false ∧ manyN k = 0 by
      by_cases h20 : k ≤ 20
      · rcases h with rfl | rfl | h
        · exact ⟨by decide, by decide⟩
        · exact ⟨by decide, by decide⟩
        · rcases (show k = 18 ∨ k = 19 by omega) with rfl | rfl
          · exact ⟨by decide, by decide⟩
          · exact ⟨by decide, by decide⟩
      · have e := (no_code (k := k) (by omega)).2.1
        unfold namedB manyN
        rw [e]
        exact ⟨by decide, by decide⟩)
    have q : ∀ n : Nat, 1 ≤ n → n ≤ 17 → n ≠ 14 → ((k : Int) == (n : Int)) = false := fun n h1 h2 h3 => by simp; omega
    have q1 : ((k : Int) == 1) = false := q 1 (by decide) (by decide) (by decide)
    have q2 : ((k : Int) == 2) = false := q 2 (by decide) (by decide) (by decide)
    have q3 : ((k : Int) == 3) = false := q 3 (by decide) (by decide) (by decide)
    have q4 : ((k : Int) == 4) = false := q 4 (by decide) (by decide) (by decide)
    have q5 : ((k : Int) == 5) = false := q 5 (by decide) (by decide) (by decide)
    have q6 : ((k : Int) == 6) = false := q 6 (by decide) (by decide) (by decide)
    have q7 : ((k : Int) == 7) = false := q 7 (by decide) (by decide) (by decide)
    have q8 : ((k : Int) == 8) = false := q 8 (by decide) (by decide) (by decide)
    have q9 : ((k : Int) == 9) = false := q 9 (by decide) (by decide) (by decide)
    have q10 : ((k : Int) == 10) = false := q 10 (by decide) (by decide) (by decide)
    have q11 : ((k : Int) == 11) = false := q 11 (by decide) (by decide) (by decide)
    have q12 : ((k : Int) == 12) = false := q 12 (by decide) (by decide) (by decide)
    have q13 : ((k : Int) == 13) = false := q 13 (by decide) (by decide) (by decide)
    have q15 : ((k : Int) == 15) = false := q 15 (by decide) (by decide) (by decide)
    have q16 : ((k : Int) == 16) = false := q 16 (by decide) (by decide) (by decide)
    have q17 : ((k : Int) == 17) = false := q 17 (by decide) (by decide) (by decide)
    have q20 : ((k : Int) == 20) = false := by simp; omega
    clear q h
    go_enter Tryz.func40, Tryz.ntmps40
    go_wp2
    go_ret2
    exact ⟨by rw [HE.out.1, HE.out.2]; rfl, rfl⟩
  · have h2 : k = 1 ∨ k = 2 ∨ k = 3 ∨ k = 4 ∨ k = 5 ∨ k = 6 ∨ k = 7 ∨ k = 8 ∨ k = 9 ∨ k = 10 ∨ k = 11 ∨ k = 12 ∨ k = 13 ∨ k = 15 ∨ k = 16 ∨ k = 17 ∨ k = 20 := by omega
    clear h
    rcases h2 with rfl | rfl | rfl | rfl | rfl | rfl | rfl | rfl | rfl | rfl | rfl | rfl | rfl | rfl | rfl | rfl | rfl
    all_goals
      go_enter Tryz.func40, Tryz.ntmps40
      go_wp2
      go_ret2
      exact ⟨rfl, rfl⟩
end Go.Proofs.YtokpgopdkimmmaaGreatDoor
/- The contracts of package item: each function tells what its plain form tells; what was there stays as it was. -/
namespace Go.Proofs.YtokpgopdkimmmaaGreatDoor
open Go.RowKit

/-- Which of two numbers is more. -/
def cmpI (x y : Int) : Int := if x < y then -1 else if y < x then 1 else 0
/-- First by place, then by name. -/
def firstI (x y : Int) : Int := if x = 0 then y else x
def byI (a b x y : Int) : Int := firstI (cmpI a b) (cmpI x y)

theorem cmp_lt {x y : Int} (h : x < y) : cmpI x y = -1 := if_pos h
theorem cmp_gt {x y : Int} (h : y < x) : cmpI x y = 1 := by unfold cmpI; rw [if_neg (by omega), if_pos h]
theorem cmp_eq {x y : Int} (h : x = y) : cmpI x y = 0 := by unfold cmpI; rw [if_neg (by omega), if_neg (by omega)]
theorem cmp_cases (x y : Int) : cmpI x y = -1 ∨ cmpI x y = 0 ∨ cmpI x y = 1 := by unfold cmpI; split; exact .inl rfl; split; exact .inr (.inr rfl); exact .inr (.inl rfl)
theorem by_cases3 (a b x y : Int) : byI a b x y = -1 ∨ byI a b x y = 0 ∨ byI a b x y = 1 := by unfold byI firstI; split; exact cmp_cases _ _; exact cmp_cases _ _

set_option maxHeartbeats 400000 in
theorem compare64 (x y : Int) (w : World) :
    Calls Tryz.prog 154 #[.int .i64 x, .int .i64 y] w fun e w' => e = .returned (.int .i64 (cmpI x y)) ∧ w = w' := by
  rcases Int.lt_trichotomy x y with h | h | h
  · have hc := Lib.hid (cmp_lt h)
    go_enter Tryz.func154, Tryz.ntmps154
    go_wp2
    go_ret
    exact ⟨by rw [hc.out]; rfl, rfl⟩
  · subst h
    have hc := Lib.hid (cmp_eq (x := x) rfl)
    go_enter Tryz.func154, Tryz.ntmps154
    go_wp2
    go_ret
    exact ⟨by rw [hc.out]; rfl, rfl⟩
  · have hc := Lib.hid (cmp_gt h)
    go_enter Tryz.func154, Tryz.ntmps154
    go_wp2
    go_ret
    exact ⟨by rw [hc.out]; rfl, rfl⟩

set_option maxHeartbeats 400000 in
theorem compare32 (x y : Int) (w : World) :
    Calls Tryz.prog 187 #[.int .u32 x, .int .u32 y] w fun e w' => e = .returned (.int .i64 (cmpI x y)) ∧ w = w' := by
  rcases Int.lt_trichotomy x y with h | h | h
  · have hc := Lib.hid (cmp_lt h)
    go_enter Tryz.func187, Tryz.ntmps187
    go_wp2
    go_ret
    exact ⟨by rw [hc.out]; rfl, rfl⟩
  · subst h
    have hc := Lib.hid (cmp_eq (x := x) rfl)
    go_enter Tryz.func187, Tryz.ntmps187
    go_wp2
    go_ret
    exact ⟨by rw [hc.out]; rfl, rfl⟩
  · have hc := Lib.hid (cmp_gt h)
    go_enter Tryz.func187, Tryz.ntmps187
    go_wp2
    go_ret
    exact ⟨by rw [hc.out]; rfl, rfl⟩

set_option maxHeartbeats 400000 in
theorem first_two (x y : Int) (b : Nat) (w : World) (h0 : w.cell? ⟨b, 0, none⟩ = some (.int .i64 x)) (h1 : w.cell? ⟨b, 1, none⟩ = some (.int .i64 y)) :
    Calls Tryz.prog 186 #[.slice (some ⟨b, 0, none⟩) 2 2] w fun e w' => e = .returned (.int .i64 (firstI x y)) ∧ w = w' := by
  by_cases hx : x = 0
  · subst hx
    by_cases hy : y = 0
    · subst hy
      go_enter Tryz.func186, Tryz.ntmps186
      go_wp2
      refine wp_loop_rounds 3 ?_
      rw [rounds_succ]; go_wp2
      rw [rounds_succ]; go_wp2
      rw [rounds_succ]; go_wp2
      go_ret
      exact ⟨rfl, rfl⟩
    · have hy' : (y != 0) = true := by simpa using hy
      go_enter Tryz.func186, Tryz.ntmps186
      go_wp2
      refine wp_loop_rounds 3 ?_
      rw [rounds_succ]; go_wp2
      rw [rounds_succ]; go_wp2
      go_ret
      exact ⟨rfl, rfl⟩
  · have hx' : (x != 0) = true := by simpa using hx
    have hf : Hid (firstI x y = x) := Lib.hid (if_neg hx)
    go_enter Tryz.func186, Tryz.ntmps186
    go_wp2
    refine wp_loop_rounds 3 ?_
    rw [rounds_succ]; go_wp2
    go_ret
    exact ⟨by rw [hf.out]; rfl, rfl⟩

set_option maxHeartbeats 400000 in
theorem by_any (a b x y : Int) (w : World) :
    Calls Tryz.prog 155 #[.int .i64 a, .int .i64 b, .int .u32 x, .int .u32 y] w fun e w' => e = .returned (.int .i64 (byI a b x y)) ∧ Below w.heap.size w w' := by
  go_enter Tryz.func155, Tryz.ntmps155
  go_wp2_with (first | (go_at_call 154; refine (compare64 _ _ _).mono ?_; rintro e w' ⟨rfl, rfl⟩) | (go_at_call 187; refine (compare32 _ _ _).mono ?_; rintro e w' ⟨rfl, rfl⟩))
  refine (first_two (cmpI a b) (cmpI x y) w.heap.size _ ?_ ?_).mono ?_
  · simp
  · simp
  rintro e w' ⟨rfl, rfl⟩
  go_wp2
  go_ret
  exact ⟨rfl, (Below.refl _ _).alloc (Nat.le_refl _) _⟩
end Go.Proofs.YtokpgopdkimmmaaGreatDoor
/- The contracts of the functions of package item and of gridironref02. -/
namespace Go.Proofs.YtokpgopdkimmmaaGreatDoor
open Go.RowKit
abbrev pointV (x y id : Int) : Value := .agg #[.int .i64 x, .int .i64 y, .int .u32 id]
abbrev spanV (lo hi id : Int) : Value := .agg #[.int .i64 lo, .int .i64 hi, .int .u32 id]
abbrev boxV (x1 x2 y1 y2 id : Int) : Value := .agg #[.int .i64 x1, .int .i64 x2, .int .i64 y1, .int .i64 y2, .int .u32 id]
def stabB (lo hi x : Int) : Bool := decide (lo ≤ x ∧ x ≤ hi)
def rightB (lo hi : Int) : Bool := decide (lo ≤ hi)
def meetB (a b lo hi : Int) : Bool := decide (a ≤ b ∧ a ≤ hi ∧ lo ≤ b ∧ lo ≤ hi)
def overB (px py qx qy : Int) : Bool := decide (qx ≤ px ∧ qy ≤ py ∧ (px ≠ qx ∨ py ≠ qy))
def inB (px py x1 x2 y1 y2 : Int) : Bool := stabB x1 x2 px && stabB y1 y2 py
def cellB (x1 x2 y1 y2 x y : Int) : Bool := inB x y x1 x2 y1 y2 && decide (x ≠ x2 ∧ y ≠ y2)
def aheadB (a x b y : Int) : Bool := decide (a < b ∨ a = b ∧ x < y)
def fitsB (ab ba bc ac : Int) : Bool := decide (-1 ≤ ab ∧ ab ≤ 1 ∧ ab = -ba ∧ (ab ≤ 0 ∧ bc ≤ 0 → ac ≤ 0 ∧ (ac = 0 ↔ ab = 0 ∧ bc = 0)))
def rightBoxB (x1 x2 y1 y2 : Int) : Bool := rightB x1 x2 && rightB y1 y2

set_option maxHeartbeats 400000 in
theorem ByY_any (ax ay aid cx cy cid : Int) (w : World) :
    Calls Tryz.prog 112 #[pointV ax ay aid, pointV cx cy cid] w fun e w' => e = .returned (.int .i64 (byI ay cy aid cid)) ∧ Below w.heap.size w w' := by
  go_enter Tryz.func112, Tryz.ntmps112
  go_wp2_with (go_at_call 155; refine (by_any _ _ _ _ _).mono ?_; rintro e w' ⟨rfl, hb⟩)
  go_ret
  exact ⟨rfl, bl (((Below.refl _ _).alloc (Nat.le_refl _) _).alloc (by simp) _) (by simp; omega) hb⟩

set_option maxHeartbeats 400000 in
theorem Stab_any (lo hi id x : Int) (w : World) :
    Calls Tryz.prog 118 #[spanV lo hi id, .int .i64 x] w fun e w' => e = .returned (.bool (stabB lo hi x)) ∧ Below w.heap.size w w' := by
  go_enter Tryz.func118, Tryz.ntmps118
  go_wp2
  all_goals
    go_ret
    refine ⟨ret_bool ?_, ?_⟩
    · first | rfl | (unfold stabB; rw [Bool.eq_iff_iff]; simp <;> omega)
    · (repeat' first | exact Below.refl _ _ | assumption | (refine Below.alloc ?_ ?_ _) | simp | omega)

set_option maxHeartbeats 400000 in
theorem RightSpan_any (lo hi id : Int) (w : World) :
    Calls Tryz.prog 33 #[spanV lo hi id] w fun e w' => e = .returned (.bool (rightB lo hi)) ∧ Below w.heap.size w w' := by
  go_enter Tryz.func33, Tryz.ntmps33
  go_wp2
  all_goals
    go_ret
    refine ⟨ret_bool ?_, ?_⟩
    · first | rfl | (unfold rightB; rw [Bool.eq_iff_iff]; simp <;> omega)
    · (repeat' first | exact Below.refl _ _ | assumption | (refine Below.alloc ?_ ?_ _) | simp | omega)

set_option maxHeartbeats 400000 in
theorem Meet_any (lo hi id a b : Int) (w : World) :
    Calls Tryz.prog 121 #[spanV lo hi id, .int .i64 a, .int .i64 b] w fun e w' => e = .returned (.bool (meetB lo hi a b)) ∧ Below w.heap.size w w' := by
  go_enter Tryz.func121, Tryz.ntmps121
  go_wp2
  all_goals
    go_ret
    refine ⟨ret_bool ?_, ?_⟩
    · first | rfl | (unfold meetB; rw [Bool.eq_iff_iff]; simp <;> omega)
    · (repeat' first | exact Below.refl _ _ | assumption | (refine Below.alloc ?_ ?_ _) | simp | omega)

set_option maxHeartbeats 400000 in
theorem Over_any (px py pid qx qy qid : Int) (w : World) :
    Calls Tryz.prog 115 #[pointV px py pid, pointV qx qy qid] w fun e w' => e = .returned (.bool (overB px py qx qy)) ∧ Below w.heap.size w w' := by
  go_enter Tryz.func115, Tryz.ntmps115
  go_wp2
  all_goals
    go_ret
    refine ⟨ret_bool ?_, ?_⟩
    · first | rfl | (unfold overB; rw [Bool.eq_iff_iff]; simp <;> omega)
    · (repeat' first | exact Below.refl _ _ | assumption | (refine Below.alloc ?_ ?_ _) | simp | omega)

set_option maxHeartbeats 400000 in
theorem side_any (lo hi : Int) (w : World) :
    Calls Tryz.prog 76 #[.int .i64 lo, .int .i64 hi] w fun e w' => e = .returned (spanV lo hi 0) ∧ Below w.heap.size w w' := by
  go_enter Tryz.func76, Tryz.ntmps76
  go_wp2
  exact bodyPost_ret (v := spanV lo hi 0) (by simp [results, Tryz.results76, go_sem]) rfl ⟨rfl, (Below.refl _ _).alloc (Nat.le_refl _) _⟩

set_option maxHeartbeats 400000 in
theorem RightBox_any (x1 x2 y1 y2 id : Int) (w : World) :
    Calls Tryz.prog 34 #[boxV x1 x2 y1 y2 id] w fun e w' => e = .returned (.bool (rightBoxB x1 x2 y1 y2)) ∧ Below w.heap.size w w' := by
  go_enter Tryz.func34, Tryz.ntmps34
  go_wp2_with fail
  refine since_calls (fun s => ?_)
  go_wp2_with (first | (go_at_call 76; refine (since_of (side_any _ _) _).mono ?_; rintro e w' ⟨s, rfl, rfl⟩) | (go_at_call 33; refine (since_of (RightSpan_any _ _ _) _).mono ?_; rintro e w' ⟨s, rfl, rfl⟩))
  all_goals
    go_ret
    refine ⟨ret_bool ?_, ?_⟩
    · first | rfl | (simp [rightBoxB, *]; done) | (unfold rightBoxB ; rw [Bool.eq_iff_iff]; simp [*] <;> omega)
    · (refine since_below ?_ _ ?_ <;> (repeat' first | exact Below.refl _ _ | assumption | (refine Below.alloc ?_ ?_ _) | simp | omega))

set_option maxHeartbeats 400000 in
theorem In_any (px py pid x1 x2 y1 y2 id : Int) (w : World) :
    Calls Tryz.prog 106 #[pointV px py pid, boxV x1 x2 y1 y2 id] w fun e w' => e = .returned (.bool (inB px py x1 x2 y1 y2)) ∧ Below w.heap.size w w' := by
  cases h : stabB x1 x2 px
  all_goals
    go_enter Tryz.func106, Tryz.ntmps106
    go_wp2_with fail
    refine since_wp (fun s => ?_)
    refine wp_region_since (by kernel_rfl) (by kernel_rfl) ?_
    repeat (go_big_quiet_step ((first | (go_at_call 76; exact since_quiet (side_any _ _)) | (go_at_call 118; exact since_quiet (asv (Stab_any _ _ _ _) (congrArg Value.bool h))) | (go_at_call 118; exact since_quiet (Stab_any _ _ _ _)))))
    refine wpQuiet_nil ?_
    rintro _ ⟨s, rfl⟩
    go_wp2
  all_goals
    go_ret
    refine ⟨ret_bool ?_, ?_⟩
    · first | rfl | (simp [inB, *]; done) | (unfold inB ; rw [Bool.eq_iff_iff]; simp [*] <;> omega)
    · (refine since_below ?_ _ ?_ <;> (repeat' first | exact Below.refl _ _ | assumption | (refine Below.alloc ?_ ?_ _) | simp | omega))

set_option maxHeartbeats 400000 in
theorem Cell_any (x1 x2 y1 y2 id x y : Int) (w : World) :
    Calls Tryz.prog 209 #[boxV x1 x2 y1 y2 id, .int .i64 x, .int .i64 y] w fun e w' => e = .returned (.bool (cellB x1 x2 y1 y2 x y)) ∧ Below w.heap.size w w' := by
  go_enter Tryz.func209, Tryz.ntmps209
  go_wp2_with fail
  refine since_calls (fun s => ?_)
  go_wp2_with (first | (go_at_call 106; refine (since_of (In_any _ _ _ _ _ _ _ _) _).mono ?_; rintro e w' ⟨s, rfl, rfl⟩))
  all_goals
    go_ret
    refine ⟨ret_bool ?_, ?_⟩
    · first | rfl | (simp [cellB, *]; done) | (unfold cellB ; rw [Bool.eq_iff_iff]; simp [*] <;> omega)
    · (refine since_below ?_ _ ?_ <;> (repeat' first | exact Below.refl _ _ | assumption | (refine Below.alloc ?_ ?_ _) | simp | omega))

end Go.Proofs.YtokpgopdkimmmaaGreatDoor
/- The document's answer of layer 27: four, of, Number; what is wrong, by both. -/
namespace Go.Proofs.YtokpgopdkimmmaaGreatDoor
open Go.RowKit
set_option linter.unusedVariables false
set_option linter.unusedSimpArgs false

def icell (n : Int) : Array Value := #[.int .i64 n]
theorem icellk : ∀ n, (icell n).size = 1 := fun _ => rfl
def OpV.four (o : OpV) : List Int := [o.a, o.b, o.c, o.d]
set_option maxRecDepth 100000 in
set_option maxHeartbeats 1000000 in
theorem rfour_any (o : OpV) (w : World) : Calls Tryz.prog 31 #[o.val] w fun e w' => ∃ g, e = .returned (.slice (some ⟨g, 0, none⟩) 4 4) ∧ Blk w' g 2 #[.int .i64 o.a, .int .i64 o.b, .int .i64 o.c, .int .i64 o.d] ∧ w.heap.size ≤ g ∧ Below w.heap.size w w' := by
  go_enter Tryz.func31, Tryz.ntmps31
  go_wp2
  go_ret
  refine ⟨w.heap.size + 1, rfl, ?_, by omega, ((Below.refl w.heap.size w).alloc (Nat.le_refl _) _).alloc (by simp) _⟩
  have h := Blk.new (w.alloc (.cells o.cells 24)) 2 #[.int .i64 o.a, .int .i64 o.b, .int .i64 o.c, .int .i64 o.d]
  rw [World.size_alloc] at h
  exact h
set_option maxRecDepth 100000 in
set_option maxHeartbeats 2000000 in
theorem rof_any (k id : Nat) (a b c d : Int) (g : Nat) (w : World) (hg : Blk w g 2 #[.int .i64 a, .int .i64 b, .int .i64 c, .int .i64 d]) :
    Calls Tryz.prog 46 #[.int .u8 (k : Int), .int .u32 (id : Int), .slice (some ⟨g, 0, none⟩) 4 4] w fun e w' => e = .returned (OpV.val ⟨k, a, b, c, d, id⟩) ∧ Below w.heap.size w w' := by
  have HG := Lib.hid (show Blk (w.alloc (.cells (codeOnly 0).cells 24)) g 2 #[.int .i64 a, .int .i64 b, .int .i64 c, .int .i64 d] from Blk.alloc hg _)
  have HN := Lib.hid (Blk.new w 24 (codeOnly 0).cells)
  have HB := Lib.hid ((Below.refl w.heap.size w).alloc (Nat.le_refl _) (.cells (codeOnly 0).cells 24))
  have HLT := Lib.hid hg.lt
  clear hg
  go_enter Tryz.func46, Tryz.ntmps46
  go_wp2_with fail
  show Code.wp _ _ _ _ (w.alloc (.cells (codeOnly 0).cells 24))
  generalize w.alloc (.cells (codeOnly 0).cells 24) = V at HG HN HB ⊢
  obtain ⟨bn, hbn⟩ : ∃ b, w.heap.size = b := ⟨_, rfl⟩
  rw [hbn] at HN ⊢
  have HGE := Lib.hid (show w.heap.size ≤ bn by omega)
  clear hbn
  have c0 : V.cell? ⟨g, 0, none⟩ = some (.int .i64 a) := HG.out.cell 0
  have c1 : V.cell? ⟨g, 1, none⟩ = some (.int .i64 b) := HG.out.cell 1
  have c2 : V.cell? ⟨g, 2, none⟩ = some (.int .i64 c) := HG.out.cell 2
  have c3 : V.cell? ⟨g, 3, none⟩ = some (.int .i64 d) := HG.out.cell 3
  have d0 : V.cell? ⟨bn, 0, none⟩ = some (.int .u8 0) := HN.out.cell 0
  have d1 : V.cell? ⟨bn, 1, none⟩ = some (.int .i64 0) := HN.out.cell 1
  have d2 : V.cell? ⟨bn, 2, none⟩ = some (.int .i64 0) := HN.out.cell 2
  have d3 : V.cell? ⟨bn, 3, none⟩ = some (.int .i64 0) := HN.out.cell 3
  have d4 : V.cell? ⟨bn, 4, none⟩ = some (.int .i64 0) := HN.out.cell 4
  have d5 : V.cell? ⟨bn, 5, none⟩ = some (.int .u32 0) := HN.out.cell 5
  have f0 := HN.out.frozen
  go_still_tail 15, (by kernel_rfl)
  have HF := Lib.hid (show Blk ((((((V.setCell ⟨bn, 0, none⟩ (.int .u8 (k : Int))).setCell ⟨bn, 1, none⟩ (.int .i64 a)).setCell ⟨bn, 2, none⟩ (.int .i64 b)).setCell ⟨bn, 3, none⟩ (.int .i64 c)).setCell ⟨bn, 4, none⟩ (.int .i64 d)).setCell ⟨bn, 5, none⟩ (.int .u32 (id : Int))) bn 24 (OpV.cells ⟨k, a, b, c, d, id⟩) from
    (((((HN.out.set_ 0 _).set_ 1 _).set_ 2 _).set_ 3 _).set_ 4 _).set_ 5 _)
  have HBF := Lib.hid (below_six HB.out HGE.out (.int .u8 (k : Int)) (.int .i64 a) (.int .i64 b) (.int .i64 c) (.int .i64 d) (.int .u32 (id : Int)))
  go_wp2_with fail
  generalize ((((((V.setCell ⟨bn, 0, none⟩ (.int .u8 (k : Int))).setCell ⟨bn, 1, none⟩ (.int .i64 a)).setCell ⟨bn, 2, none⟩ (.int .i64 b)).setCell ⟨bn, 3, none⟩ (.int .i64 c)).setCell ⟨bn, 4, none⟩ (.int .i64 d)).setCell ⟨bn, 5, none⟩ (.int .u32 (id : Int))) = Wf at HF HBF ⊢
  obtain ⟨e0, e1, e2, e3, e4, e5⟩ : Wf.cell? ⟨bn, 0, none⟩ = some (.int .u8 (k : Int)) ∧ Wf.cell? ⟨bn, 1, none⟩ = some (.int .i64 a) ∧ Wf.cell? ⟨bn, 2, none⟩ = some (.int .i64 b) ∧ Wf.cell? ⟨bn, 3, none⟩ = some (.int .i64 c) ∧ Wf.cell? ⟨bn, 4, none⟩ = some (.int .i64 d) ∧ Wf.cell? ⟨bn, 5, none⟩ = some (.int .u32 (id : Int)) :=
    ⟨HF.out.cell 0, HF.out.cell 1, HF.out.cell 2, HF.out.cell 3, HF.out.cell 4, HF.out.cell 5⟩
  exact bodyPost_ret (v := OpV.val ⟨k, a, b, c, d, id⟩) (by simp [results, Tryz.results46, go_sem, e0, e1, e2, e3, e4, e5]) rfl ⟨rfl, HBF.out.drew⟩
/-- What is wrong with an operation. -/
def wrongN (o : OpV) : Int := if isCode o.k = false then 260 else if (o.k = 2 ∧ o.b < o.a) ∨ (o.k = 3 ∧ (o.b < o.a ∨ o.d < o.c)) then 261 else 0
set_option maxRecDepth 100000 in
set_option maxHeartbeats 2000000 in
theorem rnumber_any (n : Int) (hn : In64 n) (w : World) : Calls Tryz.prog 41 #[.int .i64 n] w fun e w' => e = .returned (.string ⟨(Lib.itoa n).toArray⟩) ∧ Below w.heap.size w w' := by
  obtain ⟨h1, h2⟩ := hn
  by_cases h0 : n < 0
  · have hd : decide (n < 0) = true := decide_eq_true h0
    have HW := Lib.hid (show Value.agg #[.int .u64 0, .int .u64 (n.natAbs : Int)] = wideV n.natAbs by
      unfold wideV
      rw [show n.natAbs / 18446744073709551616 = 0 by omega, show n.natAbs % 18446744073709551616 = n.natAbs by omega]
      rfl)
    have HI := Lib.hid (show Lib.itoa n = 45 :: textL n.natAbs by unfold Lib.itoa textL; rw [if_pos h0])
    have hl : (textL n.natAbs).length ≤ 50 := by
      unfold textL
      rw [Lib.decDigits_length]
      have := nDig_le (n := n.natAbs) (k := 20) (Nat.lt_of_le_of_lt (show n.natAbs ≤ 9223372036854775808 by omega) (by decide)) (by decide)
      omega
    have hwr : IntKind.u64.wrap (-IntKind.u64.wrap n) = (n.natAbs : Int) := by rw [IntKind.wrap_u64, IntKind.wrap_u64]; omega
    have HT := Lib.hid (fun w => rtext_any n.natAbs (by unfold wTop; omega) w)
    have hcat : (⟨#[45]⟩ : ByteArray) ++ ⟨(textL n.natAbs).toArray⟩ = ⟨(45 :: textL n.natAbs).toArray⟩ := cat_mk [45] _
    obtain ⟨tl, htl⟩ : ∃ l, textL n.natAbs = l := ⟨_, rfl⟩
    rw [htl] at hl hcat HI HT
    clear htl
    go_enter Tryz.func41, Tryz.ntmps41
    go_wp2_with fail
    rw [HW.out]
    refine (HT.out w).mono ?_
    rintro e w1 ⟨rfl, hb⟩
    have HB := Lib.hid hb
    clear hb hwr
    go_wp2_with fail
    go_ret
    exact ⟨by rw [HI.out]; rfl, HB.out⟩
  · have hd : decide (n < 0) = false := decide_eq_false h0
    have HW := Lib.hid (show Value.agg #[.int .u64 0, .int .u64 n] = wideV n.toNat by
      unfold wideV
      rw [show n.toNat / 18446744073709551616 = 0 by omega, show n.toNat % 18446744073709551616 = n.toNat by omega, Int.toNat_of_nonneg (by omega)]
      rfl)
    have HI := Lib.hid (show Lib.itoa n = textL n.toNat by unfold Lib.itoa textL; rw [if_neg h0])
    have HT := Lib.hid (fun w => rtext_any n.toNat (by unfold wTop; omega) w)
    go_enter Tryz.func41, Tryz.ntmps41
    go_wp2_with fail
    rw [HW.out]
    refine (HT.out w).mono ?_
    rintro e w1 ⟨rfl, hb⟩
    have HB := Lib.hid hb
    clear hb
    go_wp2_with fail
    go_ret
    exact ⟨by rw [HI.out]; rfl, HB.out⟩
end Go.Proofs.YtokpgopdkimmmaaGreatDoor
/- What is wrong with an operation: by ops and by the document's answer. -/
namespace Go.Proofs.YtokpgopdkimmmaaGreatDoor
open Go.RowKit
set_option linter.unusedVariables false
set_option linter.unusedSimpArgs false

theorem eq_false {k n : Nat} (h : k ≠ n) : ((k : Int) == (n : Int)) = false := by simp; omega
set_option maxRecDepth 100000 in
set_option maxHeartbeats 4000000 in
theorem wrong_any (o : OpV) (ho : o.ok) (w : World) (ht : Blanks w) : Calls Tryz.prog 10 #[o.val] w fun e w' => e = .returned (.int .i64 (wrongN o)) ∧ Below w.heap.size w w' := by
  have HT := Lib.hid ht
  have hk := ho.k
  have K1 := Lib.hid (show OpB (w.alloc (.cells o.cells 24)) w.heap.size o from Blk.new w _ _)
  have HB := Lib.hid ((Below.refl w.heap.size w).alloc (Nat.le_refl _) (.cells o.cells 24))
  have HLI := Lib.hid (line_any o.k hk _ (HT.out.later HB.out))
  have HR := Lib.hid (show wrongN o = if isCode o.k = false then 260 else if (o.k = 2 ∧ o.b < o.a) ∨ (o.k = 3 ∧ (o.b < o.a ∨ o.d < o.c)) then 261 else 0 from rfl)
  obtain ⟨r, hr⟩ : ∃ r, wrongN o = r := ⟨_, rfl⟩
  rw [hr] at HR ⊢
  clear ht hr
  cases hic : isCode o.k with
  | false =>
    rw [hic] at HR HLI
    go_enter Tryz.func10, Tryz.ntmps10
    go_wp2_with fail
    refine HLI.out.mono ?_
    rintro e w1 ⟨rfl, hb1⟩
    have HB1 := Lib.hid (bl HB.out (by simp) hb1)
    have hk1 := K1.out.later hb1
    have d0 : w1.cell? ⟨w.heap.size, 0, none⟩ = some (.int .u8 (o.k : Int)) := Blk.cell hk1 0
    have d1 : w1.cell? ⟨w.heap.size, 1, none⟩ = some (.int .i64 o.a) := Blk.cell hk1 1
    have d2 : w1.cell? ⟨w.heap.size, 2, none⟩ = some (.int .i64 o.b) := Blk.cell hk1 2
    have hlt := Blk.lt hk1
    clear hb1 hk1 K1 HB HLI hic
    go_wp2_with fail
    go_ret
    exact ⟨by rw [HR.out]; rfl, HB1.out.alloc HB1.out.size _⟩
  | true =>
    rw [hic] at HR HLI
    by_cases h2 : o.k = 2
    · have g1 : ((o.k : Int) == 2) = true := by rw [h2]; rfl
      have g2 : ((o.k : Int) == 3) = false := by rw [h2]; rfl
      have HQ := Lib.hid (RightSpan_any o.a o.b 0)
      have HRB := Lib.hid (show rightB o.a o.b = decide (o.a ≤ o.b) from rfl)
      have H2 := Lib.hid h2
      clear h2
      cases hrb : rightB o.a o.b
      all_goals
        have HRR := Lib.hid hrb
        rw [hrb] at HQ
        clear hrb hic
        go_enter Tryz.func10, Tryz.ntmps10
        go_wp2_with fail
        refine HLI.out.mono ?_
        rintro e w1 ⟨rfl, hb1⟩
        have HB1 := Lib.hid (bl HB.out (by simp) hb1)
        have hk1 := K1.out.later hb1
        have d0 : w1.cell? ⟨w.heap.size, 0, none⟩ = some (.int .u8 (o.k : Int)) := Blk.cell hk1 0
        have d1 : w1.cell? ⟨w.heap.size, 1, none⟩ = some (.int .i64 o.a) := Blk.cell hk1 1
        have d2 : w1.cell? ⟨w.heap.size, 2, none⟩ = some (.int .i64 o.b) := Blk.cell hk1 2
        have hlt := Blk.lt hk1
        have HKH := Lib.hid hk1
        clear hb1 hk1 K1 HB HLI
        go_wp2_with fail
        refine (HQ.out _).mono ?_
        rintro e w2 ⟨rfl, hb2⟩
        have HB2 := Lib.hid (bl (HB1.out.alloc HB1.out.size (.cells #[.int .i64 o.a, .int .i64 o.b, .int .u32 0] 67)) (Nat.le_trans HB1.out.size (by simp)) hb2)
        have hk2 := OpB.later (Blk.alloc HKH.out (.cells #[.int .i64 o.a, .int .i64 o.b, .int .u32 0] 67)) hb2
        have x0 : w2.cell? ⟨w.heap.size, 0, none⟩ = some (.int .u8 (o.k : Int)) := Blk.cell hk2 0
        clear hb2 hk2 HKH d0 d1 d2
        go_wp2_with fail
        go_ret
        refine ⟨?_, HB2.out⟩
        have e := HRB.out.symm.trans HRR.out
        rw [HR.out]
        simp only [decide_eq_true_eq, decide_eq_false_iff_not] at e
        first
          | (rw [if_neg (by simp), if_pos (.inl ⟨H2.out, by omega⟩)]; rfl)
          | (rw [if_neg (by simp), if_neg (by have := H2.out; omega)]; rfl)
    · by_cases h3 : o.k = 3
      · have g1 : ((o.k : Int) == 2) = false := by rw [h3]; rfl
        have g2 : ((o.k : Int) == 3) = true := by rw [h3]; rfl
        have HQ := Lib.hid (RightBox_any o.a o.b o.c o.d 0)
        have HRB := Lib.hid (show rightBoxB o.a o.b o.c o.d = (decide (o.a ≤ o.b) && decide (o.c ≤ o.d)) from rfl)
        have H3 := Lib.hid h3
        clear h3 h2
        cases hrb : rightBoxB o.a o.b o.c o.d
        all_goals
          have HRR := Lib.hid hrb
          rw [hrb] at HQ
          clear hrb hic
          go_enter Tryz.func10, Tryz.ntmps10
          go_wp2_with fail
          refine HLI.out.mono ?_
          rintro e w1 ⟨rfl, hb1⟩
          have HB1 := Lib.hid (bl HB.out (by simp) hb1)
          have hk1 := K1.out.later hb1
          have d0 : w1.cell? ⟨w.heap.size, 0, none⟩ = some (.int .u8 (o.k : Int)) := Blk.cell hk1 0
          have d1 : w1.cell? ⟨w.heap.size, 1, none⟩ = some (.int .i64 o.a) := Blk.cell hk1 1
          have d2 : w1.cell? ⟨w.heap.size, 2, none⟩ = some (.int .i64 o.b) := Blk.cell hk1 2
          have d3 : w1.cell? ⟨w.heap.size, 3, none⟩ = some (.int .i64 o.c) := Blk.cell hk1 3
          have d4 : w1.cell? ⟨w.heap.size, 4, none⟩ = some (.int .i64 o.d) := Blk.cell hk1 4
          have hlt := Blk.lt hk1
          clear hb1 hk1 K1 HB HLI
          go_wp2_with fail
          refine (HQ.out _).mono ?_
          rintro e w2 ⟨rfl, hb2⟩
          have HB2 := Lib.hid (bl (HB1.out.alloc HB1.out.size (.cells #[.int .i64 o.a, .int .i64 o.b, .int .u32 0] 67)) (Nat.le_trans HB1.out.size (by simp)) hb2)
          clear hb2 d0 d1 d2 d3 d4
          go_wp2_with fail
          go_ret
          refine ⟨?_, HB2.out⟩
          have e := HRB.out.symm.trans HRR.out
          rw [HR.out]
          simp only [Bool.and_eq_true, Bool.and_eq_false_iff, decide_eq_true_eq, decide_eq_false_iff_not] at e
          first
            | (rw [if_neg (by simp), if_pos (.inr ⟨H3.out, by omega⟩)]; rfl)
            | (rw [if_neg (by simp), if_neg (by have := H3.out; omega)]; rfl)
      · have g1 : ((o.k : Int) == 2) = false := eq_false h2
        have g2 : ((o.k : Int) == 3) = false := eq_false h3
        go_enter Tryz.func10, Tryz.ntmps10
        go_wp2_with fail
        refine HLI.out.mono ?_
        rintro e w1 ⟨rfl, hb1⟩
        have HB1 := Lib.hid (bl HB.out (by simp) hb1)
        have hk1 := K1.out.later hb1
        have d0 : w1.cell? ⟨w.heap.size, 0, none⟩ = some (.int .u8 (o.k : Int)) := Blk.cell hk1 0
        have d1 : w1.cell? ⟨w.heap.size, 1, none⟩ = some (.int .i64 o.a) := Blk.cell hk1 1
        have d2 : w1.cell? ⟨w.heap.size, 2, none⟩ = some (.int .i64 o.b) := Blk.cell hk1 2
        have hlt := Blk.lt hk1
        clear hb1 hk1 K1 HB HLI hic
        go_wp2_with fail
        go_ret
        exact ⟨by rw [HR.out, if_neg (by simp), if_neg (by omega)]; rfl, HB1.out.alloc HB1.out.size _⟩
theorem isEmpty_mk (l : List UInt8) (h : l ≠ []) : (⟨l.toArray⟩ : ByteArray).toList.isEmpty = false := by
  rw [ByteArray.toList_eq]
  simpa using h
set_option maxRecDepth 100000 in
set_option maxHeartbeats 4000000 in
theorem rwrong_any (o : OpV) (w : World) : Calls Tryz.prog 11 #[o.val] w fun e w' => e = .returned (.int .i64 (wrongN o)) ∧ Below w.heap.size w w' := by
  have HB := Lib.hid ((Below.refl w.heap.size w).alloc (Nat.le_refl _) (.cells o.cells 24))
  have HWD := Lib.hid (fun w => rword_any o.k w)
  have HR := Lib.hid (show wrongN o = if isCode o.k = false then 260 else if (o.k = 2 ∧ o.b < o.a) ∨ (o.k = 3 ∧ (o.b < o.a ∨ o.d < o.c)) then 261 else 0 from rfl)
  obtain ⟨r, hr⟩ : ∃ r, wrongN o = r := ⟨_, rfl⟩
  rw [hr] at HR ⊢
  clear hr
  cases hic : isCode o.k with
  | false =>
    have hw : wordOf o.k = [] := by
      rcases code_cases (k := o.k) with h | h | ⟨j, h⟩
      · exact (no_code (.inl h)).1
      · exact (no_code (.inr h)).1
      · have : isCode o.k = true := by rw [h]; simp [isCode]; omega
        rw [this] at hic; cases hic
    rw [hic] at HR
    rw [hw] at HWD
    clear hic hw
    go_enter Tryz.func11, Tryz.ntmps11
    go_wp2_with fail
    refine (HWD.out _).mono ?_
    rintro e w1 ⟨rfl, rfl⟩
    go_wp2_with fail
    go_ret
    exact ⟨by rw [HR.out]; rfl, HB.out⟩
  | true =>
    have hw : wordOf o.k ≠ [] := by
      obtain ⟨j, hj⟩ := code_at hic
      rw [hj]
      exact word_ne j
    have hemp := isEmpty_mk _ hw
    rw [hic] at HR
    obtain ⟨ws, hws⟩ : ∃ s : ByteArray, ⟨(wordOf o.k).toArray⟩ = s := ⟨_, rfl⟩
    rw [hws] at HWD hemp
    have hne : ws.toList ≠ [] := by intro h; rw [h] at hemp; cases hemp
    have hbe : (ws.toList == []) = false := by simpa using hne
    have HNE := Lib.hid hne
    clear hic hws hw hne
    by_cases h2 : o.k = 2
    · have g1 : ((o.k : Int) == 2) = true := by rw [h2]; rfl
      have g2 : ((o.k : Int) == 3) = false := by rw [h2]; rfl
      have H2 := Lib.hid h2
      clear h2
      by_cases hlt : o.b < o.a
      all_goals
        have HL := Lib.hid hlt
        first | (have hd : decide (o.b < o.a) = true := decide_eq_true hlt) | (have hd : decide (o.b < o.a) = false := decide_eq_false hlt)
        go_enter Tryz.func11, Tryz.ntmps11
        go_wp2_with fail
        refine (HWD.out _).mono ?_
        rintro e w1 ⟨rfl, rfl⟩
        go_wp2_with fail
        go_ret
        refine ⟨?_, HB.out⟩
        rw [HR.out, if_neg (by simp)]
        first
          | (rw [if_pos (.inl ⟨H2.out, by have := HL.out; omega⟩)]; rfl)
          | (rw [if_neg (by have := H2.out; have := HL.out; omega)]; rfl)
    · by_cases h3 : o.k = 3
      · have g1 : ((o.k : Int) == 2) = false := by rw [h3]; rfl
        have g2 : ((o.k : Int) == 3) = true := by rw [h3]; rfl
        have H3 := Lib.hid h3
        clear h3 h2
        by_cases hlt : o.b < o.a
        all_goals
          by_cases hmt : o.d < o.c
          all_goals
            have HL := Lib.hid hlt
            have HM := Lib.hid hmt
            first | (have hd : decide (o.b < o.a) = true := decide_eq_true hlt) | (have hd : decide (o.b < o.a) = false := decide_eq_false hlt)
            first | (have hd2 : decide (o.d < o.c) = true := decide_eq_true hmt) | (have hd2 : decide (o.d < o.c) = false := decide_eq_false hmt)
            go_enter Tryz.func11, Tryz.ntmps11
            go_wp2_with fail
            refine (HWD.out _).mono ?_
            rintro e w1 ⟨rfl, rfl⟩
            go_wp2_with fail
            go_ret
            refine ⟨?_, HB.out⟩
            rw [HR.out, if_neg (by simp)]
            first
              | (rw [if_pos (.inr ⟨H3.out, by have := HL.out; have := HM.out; omega⟩)]; rfl)
              | (rw [if_neg (by have := H3.out; have := HL.out; have := HM.out; omega)]; rfl)
      · have g1 : ((o.k : Int) == 2) = false := eq_false h2
        have g2 : ((o.k : Int) == 3) = false := eq_false h3
        go_enter Tryz.func11, Tryz.ntmps11
        go_wp2_with fail
        refine (HWD.out _).mono ?_
        rintro e w1 ⟨rfl, rfl⟩
        go_wp2_with fail
        go_ret
        exact ⟨by rw [HR.out, if_neg (by simp), if_neg (by omega)]; rfl, HB.out⟩
end Go.Proofs.YtokpgopdkimmmaaGreatDoor
/- The document's answer of layer 27: Text. -/
namespace Go.Proofs.YtokpgopdkimmmaaGreatDoor
open Go.RowKit
set_option linter.unusedVariables false
set_option linter.unusedSimpArgs false

/-- What the document asks of an operation that its word tells whole. -/
def baseB (o : OpV) : Bool := isCode o.k && (namedB o.k || decide (o.id = 0))
def plainT (o : OpV) (i : Nat) : Bool := baseB o && (List.range i).all fun t => decide (t < manyN o.k) || decide (o.num t = 0)
theorem plainT_succ (o : OpV) (i : Nat) : plainT o (i + 1) = (plainT o i && (decide (i < manyN o.k) || decide (o.num i = 0))) := by
  unfold plainT
  rw [List.range_succ, List.all_append]
  simp [Bool.and_assoc]
theorem plainT_many (o : OpV) : plainT o (manyN o.k) = baseB o := by
  unfold plainT
  have : ((List.range (manyN o.k)).all fun t => decide (t < manyN o.k) || decide (o.num t = 0)) = true := by
    rw [List.all_eq_true]
    intro t ht
    have := List.mem_range.1 ht
    simp [this]
  rw [this, Bool.and_true]
theorem many_le (k : Nat) : manyN k ≤ 4 := by
  rcases code_cases (k := k) with h | h | ⟨j, h⟩
  · unfold manyN; rw [(no_code (.inl h)).2.1]; decide
  · unfold manyN; rw [(no_code (.inr h)).2.1]; decide
  · rw [h]; exact (letOf_shape j).2
theorem plain_eq (o : OpV) : (plainT o 4 = true) ↔ (isCode o.k = true ∧ sameB (onlyL o (letOf o.k)) o = true) := by
  obtain ⟨k, a, b, c, d, i⟩ := o
  by_cases hc : isCode k = true
  · have hk : k = 1 ∨ k = 2 ∨ k = 3 ∨ k = 4 ∨ k = 5 ∨ k = 6 ∨ k = 7 ∨ k = 8 ∨ k = 9 ∨ k = 10 ∨ k = 11 ∨ k = 12 ∨ k = 13 ∨ k = 14 ∨ k = 15 ∨ k = 16 ∨ k = 17 ∨ k = 18 ∨ k = 19 ∨ k = 20 := by
      simp only [isCode, Bool.and_eq_true, decide_eq_true_eq] at hc
      omega
    rcases hk with rfl | rfl | rfl | rfl | rfl | rfl | rfl | rfl | rfl | rfl | rfl | rfl | rfl | rfl | rfl | rfl | rfl | rfl | rfl | rfl
    all_goals
      simp [plainT, baseB, isCode, namedB, manyN, letOf, opTab, List.range_succ, OpV.num, onlyL, codeOnly, OpV.put, OpV.at, sameB]
      try omega
  · constructor
    · intro h
      unfold plainT baseB at h
      simp only [Bool.and_eq_true] at h
      exact absurd h.1.1 hc
    · intro h
      exact absurd h.1 hc
theorem word_len9 (k : Nat) : (wordOf k).length ≤ 9 := by
  rcases code_cases (k := k) with h | h | ⟨j, h⟩
  · rw [(no_code (.inl h)).1]; decide
  · rw [(no_code (.inr h)).1]; decide
  · rw [h]; exact (opRows_at j).2.2.1
def four4 : List UInt8 := [97, 98, 99, 100]
theorem four4_at : ∀ j : Fin 4, four4.take (j.val + 1) = four4.take j.val ++ [UInt8.ofNat (97 + j.val)] := by decide
theorem say_num (o : OpV) (j : Nat) (hj : j < 4) : sayL o (UInt8.ofNat (97 + j)) = Lib.itoa (o.num j) := by
  rcases (show j = 0 ∨ j = 1 ∨ j = 2 ∨ j = 3 by omega) with rfl | rfl | rfl | rfl <;> rfl
/-- A line from its word on: named or not, so many numbers. -/
def lineFrom (o : OpV) (hd : List UInt8) (nm : Bool) (mm : Nat) : List UInt8 := hd ++ restL o ((if nm then [105] else []) ++ four4.take mm)
theorem line_plain (o : OpV) (h : plainT o 4 = true) : textL' o = lineFrom o (wordOf o.k) (namedB o.k) (manyN o.k) := by
  have h2 := (plain_eq o).1 h
  obtain ⟨j, hj⟩ := code_at h2.1
  unfold textL' lineFrom toldL
  rw [if_pos h2, hj, show four4 = [97, 98, 99, 100] from rfl, ← (letOf_shape j).1]
theorem line_other (o : OpV) (h : plainT o 4 = false) : textL' o = lineFrom o (opWord ++ Lib.decDigits o.k) true 4 := by
  unfold textL'
  rw [if_neg (fun h2 => by rw [(plain_eq o).2 h2] at h; cases h)]
  rfl
theorem restL_app (o : OpV) (a b : List UInt8) : restL o (a ++ b) = restL o a ++ restL o b := by
  induction a with
  | nil => rfl
  | cons c a ih => rw [List.cons_append, restL, restL, ih]; simp
set_option maxRecDepth 100000 in
set_option maxHeartbeats 4000000 in
theorem rtext27_any (o : OpV) (ho : o.ok) (w : World) : Calls Tryz.prog 13 #[o.val] w fun e w' => e = .returned (.string ⟨(textL' o).toArray⟩) ∧ Below w.heap.size w w' := by
  have K1 := Lib.hid (show OpB (w.alloc (.cells o.cells 24)) w.heap.size o from Blk.new w _ _)
  have HB := Lib.hid ((Below.refl w.heap.size w).alloc (Nat.le_refl _) (.cells o.cells 24))
  have HK := Lib.hid ho
  have hk256 := ho.k
  have hid32 := ho.id
  have HMM := Lib.hid (many_le o.k)
  clear ho
  go_enter Tryz.func13, Tryz.ntmps13
  go_wp2_with fail
  generalize w.alloc (.cells o.cells 24) = V at K1 HB ⊢
  obtain ⟨b1, hb1⟩ : ∃ b, w.heap.size = b := ⟨_, rfl⟩
  rw [hb1] at K1 ⊢
  clear hb1
  refine (rfour_any o V).mono ?_
  rintro e w1 ⟨g, rfl, hg, hgl, hb⟩
  have HG := Lib.hid hg
  replace K1 := Lib.hid (K1.out.later hb)
  replace HB := Lib.hid (bl HB.out HB.out.size hb)
  clear hg hgl hb
  have c0 : w1.cell? ⟨b1, 0, none⟩ = some (.int .u8 (o.k : Int)) := Blk.cell K1.out 0
  have c5 : w1.cell? ⟨b1, 5, none⟩ = some (.int .u32 (o.id : Int)) := Blk.cell K1.out 5
  go_wp2_with fail
  refine (rnamed_any o.k w1).mono ?_
  rintro e w2 ⟨rfl, rfl⟩
  go_wp2_with fail
  refine (rword_any o.k w1).mono ?_
  rintro e w2 ⟨rfl, rfl⟩
  obtain ⟨ws, hws⟩ : ∃ s : ByteArray, ⟨(wordOf o.k).toArray⟩ = s := ⟨_, rfl⟩
  have HWS := Lib.hid hws
  rw [hws]
  have HWE := Lib.hid (show (isCode o.k = true ∧ ws.toList.isEmpty = false) ∨ (isCode o.k = false ∧ ws = ⟨#[]⟩) from by
    cases hic : isCode o.k with
    | true =>
      obtain ⟨j, hj⟩ := code_at hic
      have hne : wordOf o.k ≠ [] := by rw [hj]; exact word_ne j
      exact .inl ⟨rfl, by rw [← hws]; exact isEmpty_mk _ hne⟩
    | false =>
      refine .inr ⟨rfl, ?_⟩
      rw [← hws]
      rcases code_cases (k := o.k) with h | h | ⟨j, h⟩
      · rw [(no_code (.inl h)).1]
      · rw [(no_code (.inr h)).1]
      · have : isCode o.k = true := by rw [h]; simp [isCode]; omega
        rw [this] at hic; cases hic)
  clear hws c0 c5
  go_upto_region 4 with (fail)
  go_cut [4, 7, 12, 15, 16] (fun v4 v v12 v15 v16 wd => v4 = .bool (namedB o.k) ∧ v = .bool (baseB o) ∧ Hid (OpB wd b1 o) ∧ Hid (Blk wd g 2 #[.int .i64 o.a, .int .i64 o.b, .int .i64 o.c, .int .i64 o.d]) ∧ Hid (Below w.heap.size w wd))
  case first =>
    have c5 : w1.cell? ⟨b1, 5, none⟩ = some (.int .u32 (o.id : Int)) := Blk.cell K1.out 5
    rcases HWE.out with ⟨hic, hemp⟩ | ⟨hic, rfl⟩
    · have hne : ws.toList ≠ [] := by intro h; rw [h] at hemp; cases hemp
      have hbe : (ws.toList == []) = false := by simpa using hne
      cases hnm : namedB o.k with
      | true =>
        have HNM := Lib.hid hnm
        have HV := Lib.hid (show baseB o = true by unfold baseB; rw [hic, hnm]; rfl)
        clear hic hne hnm
        go_wp2_with fail
        go_meet
        case rel => exact ⟨by rw [HNM.out], by rw [HV.out], K1, HG, HB⟩
      | false =>
        have HNM := Lib.hid hnm
        by_cases hi0 : o.id = 0
        · have HV := Lib.hid (show baseB o = true by unfold baseB; rw [hic, hi0]; simp)
          have hq : ((o.id : Int) == 0) = true := by rw [hi0]; rfl
          clear hic hne hnm hi0
          go_wp2_with fail
          go_meet
          case rel => exact ⟨by rw [HNM.out], by rw [HV.out], K1, HG, HB⟩
        · have HV := Lib.hid (show baseB o = false by unfold baseB; rw [hnm]; simp [hi0])
          have hq : ((o.id : Int) == 0) = false := by simp; omega
          clear hic hne hnm hi0
          go_wp2_with fail
          go_meet
          case rel => exact ⟨by rw [HNM.out], by rw [HV.out], K1, HG, HB⟩
    · have HV := Lib.hid (show baseB o = false by unfold baseB; rw [hic]; rfl)
      clear hic
      go_wp2_with fail
      go_meet
      case rel => exact ⟨rfl, by rw [HV.out], K1, HG, HB⟩
  case rest =>
  obtain ⟨rfl, rfl, K1, HG, HB⟩ := hcut
  clear HWE
  have HP0 := Lib.hid (plainT_many o)
  rw [← HP0.out]
  have hmm := HMM.out
  go_wp2_with fail
  go_loopw [7, 8] (fun pv iv wr => ∃ t : Nat, manyN o.k ≤ t ∧ t ≤ 4 ∧ iv = .int .i64 (t : Int) ∧ pv = .bool (plainT o t) ∧ Hid (OpB wr b1 o) ∧ Hid (Blk wr g 2 #[.int .i64 o.a, .int .i64 o.b, .int .i64 o.c, .int .i64 o.d]) ∧ Hid (Below w.heap.size w wr)) (fun _ iv _ => 4 - (intOf iv).toNat)
  case atStart => exact ⟨manyN o.k, Nat.le_refl _, hmm, rfl, rfl, K1, HG, HB⟩
  case round =>
    clear K1 HG HB
    obtain ⟨t, ht1, ht2, rfl, rfl, K1, HG, HB⟩ := hrel
    by_cases h4 : t < 4
    · have hcell : wr.cell? ⟨g, t, none⟩ = some (.int .i64 (o.num t)) := by
        rw [Blk.cell HG.out t]
        rcases (show t = 0 ∨ t = 1 ∨ t = 2 ∨ t = 3 by omega) with rfl | rfl | rfl | rfl <;> rfl
      have HS := Lib.hid (plainT_succ o t)
      have h4' : (t : Int) < 4 := by omega
      cases hpt : plainT o t with
      | false =>
        rw [hpt] at HS
        clear hpt
        go_wp2_with fail
        go_roundw
        case rel => exact ⟨t + 1, by omega, by omega, by go_num, by rw [HS.out]; rfl, K1, HG, HB⟩
        case measure => simp [intOf] <;> omega
      | true =>
        rw [hpt] at HS
        clear hpt
        by_cases hz : o.num t = 0
        · have HV := Lib.hid (show plainT o (t + 1) = true by rw [HS.out]; simp [hz])
          have hq : (o.num t == 0) = true := by rw [hz]; rfl
          clear hz
          go_wp2_with fail
          go_roundw
          case rel => exact ⟨t + 1, by omega, by omega, by go_num, by rw [HV.out], K1, HG, HB⟩
          case measure => simp [intOf] <;> omega
        · have HV := Lib.hid (show plainT o (t + 1) = false by rw [HS.out]; simp [hz]; omega)
          have hq : (o.num t == 0) = false := by simpa using hz
          clear hz
          go_wp2_with fail
          go_roundw
          case rel => exact ⟨t + 1, by omega, by omega, by go_num, by rw [HV.out], K1, HG, HB⟩
          case measure => simp [intOf] <;> omega
    · obtain rfl : t = 4 := by omega
      rw [show ((4 : Nat) : Int) = 4 from rfl]
      have HPL := Lib.hid (line_plain o)
      have HPO := Lib.hid (line_other o)
      obtain ⟨tx, htx⟩ : ∃ t, textL' o = t := ⟨_, rfl⟩
      rw [htx] at HPL HPO
      have HTX := Lib.hid htx
      have hwl := word_len9 o.k
      obtain ⟨wl, hwl2⟩ : ∃ l, wordOf o.k = l := ⟨_, rfl⟩
      rw [hwl2] at hwl HPL
      have HWL := Lib.hid (show ⟨wl.toArray⟩ = ws by rw [← hwl2]; exact HWS.out)
      have c0 : wr.cell? ⟨b1, 0, none⟩ = some (.int .u8 (o.k : Int)) := Blk.cell K1.out 0
      obtain ⟨pl, hpl⟩ : ∃ b, plainT o 4 = b := ⟨_, rfl⟩
      rw [hpl] at HPL HPO ⊢
      obtain ⟨nm0, hnm0⟩ : ∃ b, namedB o.k = b := ⟨_, rfl⟩
      rw [hnm0] at HPL ⊢
      clear htx hwl2 hpl hnm0
      go_upto_if 45 with (fail)
      go_cut [4, 5, 6] (fun v4 v5 v6 wd => ∃ (nm : Bool) (mm : Nat) (hd : List UInt8), v4 = .bool nm ∧ v5 = .int .i64 (mm : Int) ∧ v6 = .string ⟨hd.toArray⟩ ∧ mm ≤ 4 ∧ hd.length ≤ 20 ∧ Hid (tx = lineFrom o hd nm mm) ∧ Hid (OpB wd b1 o) ∧ Hid (Blk wd g 2 #[.int .i64 o.a, .int .i64 o.b, .int .i64 o.c, .int .i64 o.d]) ∧ Hid (Below w.heap.size w wd))
      case first =>
        cases pl with
        | true =>
          have HV := Lib.hid (HPL.out rfl)
          go_wp2_with fail
          go_meet
          case rel => exact ⟨nm0, manyN o.k, wl, rfl, rfl, by rw [HWL.out], hmm, by omega, HV, K1, HG, HB⟩
        | false =>
          have HV := Lib.hid (HPO.out rfl)
          have HN := Lib.hid (show ∀ W, Calls Tryz.prog 41 #[.int .i64 (o.k : Int)] W fun e w' => e = .returned (.string ⟨(Lib.decDigits o.k).toArray⟩) ∧ Below W.heap.size W w' from fun W => by
            have h := rnumber_any (o.k : Int) ⟨by omega, by omega⟩ W
            have e : Lib.itoa (o.k : Int) = Lib.decDigits o.k := by unfold Lib.itoa; rw [if_neg (by omega)]; rfl
            rw [e] at h
            exact h)
          have hdl : (Lib.decDigits o.k).length ≤ 3 := by
            rw [Lib.decDigits_length]
            exact nDig_le (n := o.k) (k := 3) (Nat.lt_trans hk256 (by decide)) (by decide)
          obtain ⟨dl, hdl2⟩ : ∃ l, Lib.decDigits o.k = l := ⟨_, rfl⟩
          rw [hdl2] at HV HN hdl
          have hcat : (⟨#[111, 112, 32]⟩ : ByteArray) ++ ⟨dl.toArray⟩ = ⟨(opWord ++ dl).toArray⟩ := cat_mk opWord dl
          clear hdl2
          go_wp2_with fail
          refine (HN.out _).mono ?_
          rintro e w5 ⟨rfl, hb5⟩
          have K15 := Lib.hid (K1.out.later hb5)
          have HG5 := Lib.hid (Blk.below HG.out hb5 (Blk.lt HG.out))
          have HB5 := Lib.hid (bl HB.out HB.out.size hb5)
          clear hb5 K1 HG HB c0
          go_wp2_with fail
          go_meet
          case rel => exact ⟨true, 4, opWord ++ dl, rfl, rfl, rfl, by decide, by rw [List.length_append]; have : opWord.length = 3 := rfl; omega, HV, K15, HG5, HB5⟩
      case rest =>
        obtain ⟨nm, mm, hd, rfl, rfl, rfl, hm4, hhd, HV, K1, HG, HB⟩ := hcut
        clear HPL HPO HWL c0 hwl hmm HMM HP0
        go_upto_if 51 with (fail)
        go_cut [6] (fun v6 wd => ∃ hd2 : List UInt8, v6 = .string ⟨hd2.toArray⟩ ∧ hd2.length ≤ 40 ∧ Hid (tx = hd2 ++ restL o (four4.take mm)) ∧ Hid (Blk wd g 2 #[.int .i64 o.a, .int .i64 o.b, .int .i64 o.c, .int .i64 o.d]) ∧ Hid (Below w.heap.size w wd))
        case first =>
          cases nm with
          | false =>
            have HV2 := Lib.hid (show tx = hd ++ restL o (four4.take mm) from HV.out)
            go_wp2_with fail
            go_meet
            case rel => exact ⟨hd, rfl, by omega, HV2, HG, HB⟩
          | true =>
            have hdl : (Lib.decDigits o.id).length ≤ 10 := by
              rw [Lib.decDigits_length]
              exact nDig_le (n := o.id) (k := 10) (Nat.lt_trans hid32 (by decide)) (by decide)
            have HV2 := Lib.hid (show tx = (hd ++ [32] ++ Lib.decDigits o.id) ++ restL o (four4.take mm) from by
              rw [HV.out]
              unfold lineFrom
              rw [if_pos rfl, restL_app]
              simp [restL, sayL, idL])
            have HN := Lib.hid (show ∀ W, Calls Tryz.prog 41 #[.int .i64 (o.id : Int)] W fun e w' => e = .returned (.string ⟨(Lib.decDigits o.id).toArray⟩) ∧ Below W.heap.size W w' from fun W => by
              have h := rnumber_any (o.id : Int) ⟨by omega, by omega⟩ W
              have e : Lib.itoa (o.id : Int) = Lib.decDigits o.id := by unfold Lib.itoa; rw [if_neg (by omega)]; rfl
              rw [e] at h
              exact h)
            obtain ⟨dl, hdl2⟩ : ∃ l, Lib.decDigits o.id = l := ⟨_, rfl⟩
            rw [hdl2] at HV2 HN hdl
            have hcat1 : (⟨hd.toArray⟩ : ByteArray) ++ ⟨#[32]⟩ = ⟨(hd ++ [32]).toArray⟩ := cat_mk hd [32]
            have hcat2 : (⟨(hd ++ [32]).toArray⟩ : ByteArray) ++ ⟨dl.toArray⟩ = ⟨(hd ++ [32] ++ dl).toArray⟩ := cat_mk (hd ++ [32]) dl
            have c5 : wc.cell? ⟨b1, 5, none⟩ = some (.int .u32 (o.id : Int)) := Blk.cell K1.out 5
            clear hdl2
            go_wp2_with fail
            refine (HN.out _).mono ?_
            rintro e w5 ⟨rfl, hb5⟩
            have HG5 := Lib.hid (Blk.below HG.out hb5 (Blk.lt HG.out))
            have HB5 := Lib.hid (bl HB.out HB.out.size hb5)
            clear hb5 K1 HG HB c5
            go_wp2_with fail
            go_meet
            case rel => exact ⟨hd ++ [32] ++ dl, by first | rfl | simp, by simp only [List.length_append, List.length_singleton]; omega, HV2, HG5, HB5⟩
        case rest =>
          obtain ⟨hd2, rfl, hhd2, HV2, HG, HB⟩ := hcut
          clear HV K1
          go_wp2_with fail
          go_loopw [6, 9] (fun sv iv wr => ∃ (t : Nat) (sl : List UInt8), t ≤ mm ∧ iv = .int .i64 (t : Int) ∧ sv = .string ⟨sl.toArray⟩ ∧ sl.length ≤ 40 + 25 * t ∧ Hid (sl = hd2 ++ restL o (four4.take t)) ∧ Hid (Blk wr g 2 #[.int .i64 o.a, .int .i64 o.b, .int .i64 o.c, .int .i64 o.d]) ∧ Hid (Below w.heap.size w wr)) (fun _ iv _ => mm - (intOf iv).toNat)
          case atStart => exact ⟨0, hd2, Nat.zero_le _, rfl, rfl, by omega, Lib.hid (by simp [restL]), HG, HB⟩
          case round =>
            clear HG HB
            obtain ⟨t, sl, ht, rfl, rfl, hsl, HSL, HG, HB⟩ := hrel
            by_cases hlt : t < mm
            · have hcell : wr.cell? ⟨g, t, none⟩ = some (.int .i64 (o.num t)) := by
                rw [Blk.cell HG.out t]
                rcases (show t = 0 ∨ t = 1 ∨ t = 2 ∨ t = 3 by omega) with rfl | rfl | rfl | rfl <;> rfl
              have hlt' : (t : Int) < (mm : Int) := by omega
              have hdl := itoa_len (HK.out.num t)
              have HSN := Lib.hid (show sl ++ [32] ++ Lib.itoa (o.num t) = hd2 ++ restL o (four4.take (t + 1)) by
                rw [HSL.out, four4_at ⟨t, by omega⟩, restL_snoc, say_num o t (by omega)]
                simp)
              have HN := Lib.hid (fun W => rnumber_any (o.num t) (HK.out.num t) W)
              obtain ⟨dl, hdl2⟩ : ∃ l, Lib.itoa (o.num t) = l := ⟨_, rfl⟩
              rw [hdl2] at HN HSN hdl
              have hcat1 : (⟨sl.toArray⟩ : ByteArray) ++ ⟨#[32]⟩ = ⟨(sl ++ [32]).toArray⟩ := cat_mk sl [32]
              have hcat2 : (⟨(sl ++ [32]).toArray⟩ : ByteArray) ++ ⟨dl.toArray⟩ = ⟨(sl ++ [32] ++ dl).toArray⟩ := cat_mk (sl ++ [32]) dl
              clear hdl2
              go_wp2_with fail
              refine (HN.out _).mono ?_
              rintro e w5 ⟨rfl, hb5⟩
              have HG5 := Lib.hid (Blk.below HG.out hb5 (Blk.lt HG.out))
              have HB5 := Lib.hid (bl HB.out HB.out.size hb5)
              clear hb5 HG HB hcell
              go_wp2_with fail
              go_roundw
              case rel => exact ⟨t + 1, sl ++ [32] ++ dl, by omega, by go_num, by first | rfl | simp, by simp only [List.length_append, List.length_singleton]; omega, HSN, HG5, HB5⟩
              case measure => simp [intOf] <;> omega
            · obtain rfl : t = mm := by omega
              have HE := Lib.hid (show textL' o = sl by rw [HTX.out, HV2.out, HSL.out])
              have hd9 : decide ((t : Int) < (t : Int)) = false := decide_eq_false (by omega)
              go_wp2_with fail
              go_ret
              exact ⟨by rw [HE.out]; rfl, HB.out⟩
end Go.Proofs.YtokpgopdkimmmaaGreatDoor
/- The document's answer of layer 27: a word's code, a number read. -/
namespace Go.Proofs.YtokpgopdkimmmaaGreatDoor
open Go.RowKit
set_option linter.unusedVariables false
set_option linter.unusedSimpArgs false

/-- The code that a word names. -/
def codeR (s : List UInt8) (k : Nat) : Prop := (k = 0 ∧ ∀ j, 1 ≤ j → j ≤ 20 → wordOf j ≠ s) ∨ (1 ≤ k ∧ k ≤ 20 ∧ wordOf k = s)
set_option maxRecDepth 100000 in
set_option maxHeartbeats 4000000 in
theorem rcode_any (s : List UInt8) (w : World) : Calls Tryz.prog 52 #[.string ⟨s.toArray⟩] w fun e w' => (∃ k, codeR s k ∧ e = .returned (.int .u8 (k : Int))) ∧ w = w' := by
  go_enter Tryz.func52, Tryz.ntmps52
  go_wp2_with fail
  go_loopw [3] (fun i wr => ∃ t : Nat, 1 ≤ t ∧ t ≤ 21 ∧ i = .int .i64 (t : Int) ∧ Hid (∀ j, 1 ≤ j → j < t → wordOf j ≠ s) ∧ w = wr) (fun i _ => 21 - (intOf i).toNat)
  case atStart => exact ⟨1, Nat.le_refl _, by omega, rfl, Lib.hid (fun j h1 h2 => by omega), rfl⟩
  case round =>
    obtain ⟨t, ht1, ht2, rfl, HA, rfl⟩ := hrel
    by_cases h21 : t ≤ 20
    · have h20 : (t : Int) ≤ 20 := by omega
      have HW := Lib.hid (fun W => rword_any t W)
      have HT := Lib.hid (fun h : wordOf t = s => (show codeR s t from .inr ⟨ht1, h21, h⟩))
      obtain ⟨wl, hwl⟩ : ∃ l, wordOf t = l := ⟨_, rfl⟩
      have HWL := Lib.hid hwl
      rw [hwl] at HW HT
      clear hwl
      go_wp2_with fail
      refine (HW.out _).mono ?_
      rintro e w5 ⟨rfl, rfl⟩
      by_cases he : wl = s
      · have hq : (wl == s) = true := by rw [he]; simp
        have HK := Lib.hid (HT.out he)
        clear he
        go_wp2_with fail
        go_ret
        exact ⟨⟨t, HK.out, rfl⟩, by first | rfl | trivial⟩
      · have hq : (wl == s) = false := by simpa using he
        have HNE := Lib.hid (show wordOf t ≠ s by rw [HWL.out]; exact he)
        clear he
        go_wp2_with fail
        go_roundw
        case rel => exact ⟨t + 1, by omega, by omega, by go_num, Lib.hid (fun j h1 h2 => by
          rcases Nat.lt_or_ge j t with h | h
          · exact HA.out j h1 h
          · obtain rfl : j = t := by omega
            exact HNE.out), by first | rfl | trivial⟩
        case measure => simp [intOf] <;> omega
    · obtain rfl : t = 21 := by omega
      have HK := Lib.hid (show codeR s 0 from .inl ⟨rfl, fun j h1 h2 => HA.out j h1 (Nat.lt_succ_of_le h2)⟩)
      go_wp2_with fail
      go_ret
      exact ⟨⟨0, HK.out, rfl⟩, rfl⟩
end Go.Proofs.YtokpgopdkimmmaaGreatDoor
