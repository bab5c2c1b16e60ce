/- The walk of BoundNone. -/
import Derived.Test.YtplbglcdmimdoaaDoorBoundAwake
namespace Go.Proofs.YtplbglcdmimdoaaDoor
open Go.RowKit
set_option linter.unusedVariables false
set_option linter.unusedSimpArgs false

def NoWatch (p : Option Addr) (w : World) : Prop := p = none ∨ ∃ b, p = some ⟨b, 0, none⟩ ∧ w.cell? ⟨b, 0, none⟩ = some (.bool false) ∧ b < w.heap.size
theorem NoWatch.later {p : Option Addr} {w w' : World} (h : NoWatch p w) (hb : Below w.heap.size w w') : NoWatch p w' := by
  rcases h with h | ⟨b, h, h2, h3⟩
  · exact .inl h
  · exact .inr ⟨b, h, ((bfacts hb).1 b 0 h3).trans h2, Nat.lt_of_lt_of_le h3 hb.size⟩
set_option maxRecDepth 100000 in
set_option maxHeartbeats 1000000 in
theorem see_no (p : Option Addr) (c a1 a2 a3 a4 id : Int) (w : World) (h : NoWatch p w) : Calls Tryd.prog 18 #[.pointer p, .agg #[.int .u8 c, .int .i64 a1, .int .i64 a2, .int .i64 a3, .int .i64 a4, .int .u32 id], .agg #[.int .i64 2, .slice none 0 0, .int .i64 0, .bool false, .int .u64 0, .int .u64 0], .agg #[.int .i64 0, .int .i64 0]] w fun e w' => e = .returned (.bool false) ∧ Below w.heap.size w w' := by
  have H := Lib.hid h
  clear h
  go_enter Tryd.func18, Tryd.ntmps18
  go_upto_region 1 with (fail)
  refine from_box3 (fun V h1 h2 h3 => ?_)
  have HB := Lib.hid h1.below
  rcases H.out.later h1.below with rfl | ⟨b, rfl, h, hl⟩
  all_goals
    clear h1 h2 h3
    go_wp2
    go_ret
    exact ⟨rfl, HB.out⟩
set_option maxRecDepth 100000 in
set_option maxHeartbeats 1000000 in
theorem stored_no (p : Option Addr) (k n : Int) (w : World) (h : NoWatch p w) : Calls Tryd.prog 19 #[.pointer p, .int .u8 k, .int .i64 n] w fun e w' => e = .returned (.bool false) ∧ w = w' := by
  rcases h with rfl | ⟨b, rfl, h, hl⟩
  all_goals
    go_enter Tryd.func19, Tryd.ntmps19
    go_wp2
    go_ret
    exact ⟨rfl, rfl⟩
set_option maxRecDepth 100000 in
set_option maxHeartbeats 1000000 in
theorem bad_no (p : Option Addr) (w : World) (h : NoWatch p w) : Calls Tryd.prog 20 #[.pointer p] w fun e w' => e = .returned (.int .i64 0) ∧ w = w' := by
  rcases h with rfl | ⟨b, rfl, h, hl⟩
  all_goals
    go_enter Tryd.func20, Tryd.ntmps20
    go_wp2
    go_ret
    exact ⟨rfl, rfl⟩
set_option maxRecDepth 100000 in
set_option maxHeartbeats 1000000 in
theorem len_no (p : Option Addr) (k : Int) (w : World) (h : NoWatch p w) : Calls Tryd.prog 21 #[.pointer p, .int .u8 k] w fun e w' => e = .returned (.int .i64 0) ∧ w = w' := by
  rcases h with rfl | ⟨b, rfl, h, hl⟩
  all_goals
    go_enter Tryd.func21, Tryd.ntmps21
    go_wp2
    go_ret
    exact ⟨rfl, rfl⟩
set_option maxRecDepth 100000 in
set_option maxHeartbeats 1000000 in
theorem moves_no (p : Option Addr) (k : Int) (w : World) (h : NoWatch p w) : Calls Tryd.prog 22 #[.pointer p, .int .u8 k] w fun e w' => e = .returned (.int .i64 0) ∧ w = w' := by
  rcases h with rfl | ⟨b, rfl, h, hl⟩
  all_goals
    go_enter Tryd.func22, Tryd.ntmps22
    go_wp2
    go_ret
    exact ⟨rfl, rfl⟩
set_option maxRecDepth 100000 in
set_option maxHeartbeats 4000000 in
theorem BoundNone_walk (c a1 a2 a3 a4 id n : Int) (w : World) (ht : Blanks w) : Calls Tryd.prog 6 #[.agg #[.int .u8 c, .int .i64 a1, .int .i64 a2, .int .i64 a3, .int .i64 a4, .int .u32 id], .int .i64 n] w fun e w' => e = .returned (.bool true) ∧ Below w.heap.size w w' := by
  have HT := Lib.hid ht
  clear ht
  go_enter Tryd.func6, Tryd.ntmps6
  go_wp2_with fail
  refine from_box3 (fun W hO hA hB => ?_)
  have HW := Lib.hid hO.below
  have HTW := Lib.hid (HT.out.later hO.below)
  have HC0 := Lib.hid (hB.cell 0)
  have HC1 := Lib.hid (hB.cell 1)
  have H0 := Lib.hid (hA.cell 0)
  have HO := Lib.hid hO.cell
  have lo := hO.lt
  have la := hA.lt
  have lb := hB.lt
  have ho := hO.cell
  have hob := hB.cell
  clear hO hA hB
  go_loopw [11] (fun i wr => ∃ k : Nat, k ≤ 2 ∧ i = .int .i64 k ∧ Hid (Below W.heap.size W wr)) (fun i _ => 2 - (intOf i).toNat)
  case atStart => exact ⟨0, by omega, rfl, Lib.hid (Below.refl _ _)⟩
  case round =>
    obtain ⟨k, hk, rfl, HB⟩ := hrel
    have f := (bfacts HB.out).1
    have o0 := f _ 0 lo
    have o1 := f _ 1 lo
    have o2 := f _ 2 lo
    have o3 := f _ 3 lo
    have o4 := f _ 4 lo
    have o5 := f _ 5 lo
    have b0 := f _ 0 lb
    have b1 := f _ 1 lb
    rw [ho] at o0 o1 o2 o3 o4 o5
    rw [hob] at b0 b1
    have hsz := HB.out.size
    clear f ho hob
    rcases (show k = 0 ∨ k = 1 ∨ k = 2 by omega) with rfl | rfl | rfl
    · have HNO := Lib.hid (show NoWatch none wr from .inl rfl)
      go_wp2_with fail
      refine (see_no none c a1 a2 a3 a4 id wr HNO.out).mono ?_
      rintro e w1 ⟨rfl, hb⟩
      have HB1 := Lib.hid (bl HB.out hsz hb)
      have lo1 : w.heap.size < wr.heap.size := by omega
      have o0' := (bfacts hb).1 _ 0 lo1
      rw [o0] at o0'
      have HN1 := Lib.hid (HNO.out.later hb)
      clear hb o0 o1 o2 o3 o4 o5 b0 b1
      go_wp2_with fail
      refine (stored_no none 1 0 w1 HN1.out).mono ?_
      rintro e w2 ⟨rfl, rfl⟩
      go_wp2_with fail
      refine (stored_no none c n w1 HN1.out).mono ?_
      rintro e w2 ⟨rfl, rfl⟩
      go_wp2_with fail
      refine (bad_no none w1 HN1.out).mono ?_
      rintro e w2 ⟨rfl, rfl⟩
      go_wp2_with fail
      refine (len_no none 1 w1 HN1.out).mono ?_
      rintro e w2 ⟨rfl, rfl⟩
      go_wp2_with fail
      refine (moves_no none 2 w1 HN1.out).mono ?_
      rintro e w2 ⟨rfl, rfl⟩
      go_wp2_with fail
      go_roundw
      case rel => exact ⟨1, by omega, by go_num, HB1⟩
      case measure => simp [intOf]
    · have HNO := Lib.hid (show NoWatch (some ⟨w.heap.size + 1, 0, none⟩) wr from NoWatch.later (.inr ⟨_, rfl, H0.out, la⟩) HB.out)
      go_wp2_with fail
      refine (see_no (some ⟨w.heap.size + 1, 0, none⟩) c a1 a2 a3 a4 id wr HNO.out).mono ?_
      rintro e w1 ⟨rfl, hb⟩
      have HB1 := Lib.hid (bl HB.out hsz hb)
      have lo1 : w.heap.size < wr.heap.size := by omega
      have o0' := (bfacts hb).1 _ 0 lo1
      rw [o0] at o0'
      have HN1 := Lib.hid (HNO.out.later hb)
      clear hb o0 o1 o2 o3 o4 o5 b0 b1
      go_wp2_with fail
      refine (stored_no (some ⟨w.heap.size + 1, 0, none⟩) 1 0 w1 HN1.out).mono ?_
      rintro e w2 ⟨rfl, rfl⟩
      go_wp2_with fail
      refine (stored_no (some ⟨w.heap.size + 1, 0, none⟩) c n w1 HN1.out).mono ?_
      rintro e w2 ⟨rfl, rfl⟩
      go_wp2_with fail
      refine (bad_no (some ⟨w.heap.size + 1, 0, none⟩) w1 HN1.out).mono ?_
      rintro e w2 ⟨rfl, rfl⟩
      go_wp2_with fail
      refine (len_no (some ⟨w.heap.size + 1, 0, none⟩) 1 w1 HN1.out).mono ?_
      rintro e w2 ⟨rfl, rfl⟩
      go_wp2_with fail
      refine (moves_no (some ⟨w.heap.size + 1, 0, none⟩) 2 w1 HN1.out).mono ?_
      rintro e w2 ⟨rfl, rfl⟩
      go_wp2_with fail
      go_roundw
      case rel => exact ⟨2, by omega, by go_num, HB1⟩
      case measure => simp [intOf]
    · go_wp2_with fail
      refine (awake29_any _ (HTW.out.later HB.out)).mono ?_
      rintro e w1 ⟨rfl, hb⟩
      have HF := Lib.hid (bl (bl HW.out HW.out.size HB.out) (by have := HW.out.size; omega) hb)
      clear hb
      go_wp2
      go_ret
      exact ⟨rfl, HF.out⟩
end Go.Proofs.YtplbglcdmimdoaaDoor
