/- The chapter's examples (awake of layer 29). -/
import Derived.Test.YtplbglcdmimdoaaDoorBoundMove
import Derived.RangeFuncRecord
namespace Go.Proofs.YtplbglcdmimdoaaDoor
open Go.RowKit
set_option linter.unusedVariables false
set_option linter.unusedSimpArgs false

set_option maxRecDepth 100000 in
set_option maxHeartbeats 2000000 in
theorem see_any (b : Nat) (k : Nat) (hk : k = 0 ∨ k = 1) (w : World) (ht : Blanks w) (h : WatchIs b k k k 0 w) : Calls Tryd.prog 18 #[.pointer (some ⟨b, 0, none⟩), .agg #[.int .u8 1, .int .i64 0, .int .i64 0, .int .i64 0, .int .i64 0, .int .u32 0], .agg #[.int .i64 0, .slice none 0 0, .int .i64 1, .bool false, .int .u64 0, .int .u64 0], .agg #[.int .i64 0, .int .i64 1]] w fun e w' =>
    e = .returned (.bool (decide (k = 0))) ∧ WatchIs b (k + 1) (k + 1) (k + 1) k w' ∧ Only b w w' := by
  have H := Lib.hid h
  have HT := Lib.hid ht
  have hlt := h.lt
  have c0 := h.cell 0
  simp only [watchC] at c0
  clear h ht
  have HMV := Lib.hid (fun w' (h : WatchIs b k k k 0 w') => move_any b k hk w' h)
  have HW := Lib.hid wrong_point
  go_enter Tryd.func18, Tryd.ntmps18
  go_upto_region 1 with (fail)
  refine from_box3 (fun V h1 h2 h3 => ?_)
  have o0 := h1.cell 0
  have o1 := h1.cell 1
  have o2 := h1.cell 2
  have o3 := h1.cell 3
  have o4 := h1.cell 4
  have o5 := h1.cell 5
  have r0 := h2.cell 0
  have r1 := h2.cell 1
  have r2 := h2.cell 2
  have r3 := h2.cell 3
  have r4 := h2.cell 4
  have r5 := h2.cell 5
  have q0 := h3.cell 0
  have q1 := h3.cell 1
  have lo := h1.lt
  have lr := h2.lt
  have lq := h3.lt
  have hB := h1.below
  have x0 := (bfacts hB).1 _ 0 hlt
  rw [c0] at x0
  clear h1 h2 h3
  go_wp2_with (first | (go_at_call 43; go_in))
  refine (HW.out V (HT.out.later hB)).mono ?_
  rintro e w1 ⟨rfl, hb⟩
  have H1 := Lib.hid ((H.out.later hB).later hb)
  have HB1 := Lib.hid ((Only.of (b := b) hB).trans (Only.of hb))
  have f := (bfacts hb).1
  have o0' := f _ 0 lo
  have r0' := f _ 0 lr
  have r1' := f _ 1 lr
  have r2' := f _ 2 lr
  have r3' := f _ 3 lr
  have r4' := f _ 4 lr
  have r5' := f _ 5 lr
  have q0' := f _ 0 lq
  have q1' := f _ 1 lq
  rw [o0] at o0'
  rw [r0] at r0'
  rw [r1] at r1'
  rw [r2] at r2'
  rw [r3] at r3'
  rw [r4] at r4'
  rw [r5] at r5'
  rw [q0] at q0'
  rw [q1] at q1'
  clear f o0 o1 o2 o3 o4 o5 r0 r1 r2 r3 r4 r5 q0 q1 x0 hb hB c0
  go_wp2_with fail
  refine (HMV.out _ H1.out).mono ?_
  rintro e w2 ⟨rfl, h2, hb2⟩
  have H2 := Lib.hid h2
  have HB2 := Lib.hid (HB1.out.trans hb2)
  clear h2 hb2
  rcases hk with rfl | rfl
  · clear HMV HW H1 HB1 H HT lo lr lq o0' r0' r1' r2' r3' r4' r5' q0' q1' hlt
    go_wp2_with (first | (go_at_call 44; go_in))
    go_ret
    exact ⟨rfl, H2.out, HB2.out⟩
  · have c13 := H2.out.cell 13
    have f13 := H2.out.frozen 13
    have hlt2 := H2.out.lt
    simp only [watchC] at c13
    clear HMV HW H1 HB1 H HT lo lr lq o0' r0' r1' r2' r3' r4' r5' q0' q1' hlt
    go_wp2_with (first | (go_at_call 44; go_in))
    go_ret
    exact ⟨rfl, watch_set H2.out 13 _ rfl, HB2.out.trans (Only.set b 13 _ _)⟩
set_option maxRecDepth 100000 in
set_option maxHeartbeats 2000000 in
theorem stored_any (b : Nat) (n : Int) (ok : Bool) (bad : Nat) (hn : (n = 5 ∧ ok = true ∧ bad = 1) ∨ (n = 6 ∧ ok = false ∧ bad = 2)) (w : World) (h : WatchIs b 2 2 2 1 w) : Calls Tryd.prog 19 #[.pointer (some ⟨b, 0, none⟩), .int .u8 1, .int .i64 n] w fun e w' =>
    e = .returned (.bool ok) ∧ WatchIs b 2 2 2 bad w' ∧ Only b w w' := by
  have H := Lib.hid h
  have hlt := h.lt
  have c0 := h.cell 0
  have c4 := h.cell 4
  have c5 := h.cell 5
  have c6 := h.cell 6
  have c13 := h.cell 13
  have f13 := h.frozen 13
  simp only [watchC] at c0 c4 c5 c6 c13
  clear h
  rcases hn with ⟨rfl, rfl, rfl⟩ | ⟨rfl, rfl, rfl⟩
  · go_enter Tryd.func19, Tryd.ntmps19
    go_wp2
    go_ret
    refine ⟨rfl, ?_, ?_⟩
    · exact H.out.later ((Below.refl _ _).alloc (Nat.le_refl _) _)
    · exact Only.of ((Below.refl _ _).alloc (Nat.le_refl _) _)
  · go_enter Tryd.func19, Tryd.ntmps19
    go_wp2
    go_ret
    refine ⟨rfl, ?_, ?_⟩
    · exact (watch_set H.out 13 (.int .i64 2) rfl).later ((Below.refl _ _).alloc (Nat.le_refl _) _)
    · exact (Only.set b 13 _ w).trans (Only.of ((Below.refl _ _).alloc (Nat.le_refl _) _))
theorem closed29 : ((mostN 0 0 : Nat) : Int) = 32 ∧ ((mostN 2 1 : Nat) : Int) = 88 ∧ ((placedN 0 : Nat) : Int) = 32 ∧ ((placedN 2 : Nat) : Int) = 288 := by decide
set_option maxRecDepth 100000 in
set_option maxHeartbeats 4000000 in
theorem awake29_any (w : World) (ht : Blanks w) : Calls Tryd.prog 17 #[] w fun e w' => e = .returned (.bool true) ∧ Below w.heap.size w w' := by
  have HT := Lib.hid ht
  have M00 := Lib.hid (fun w => by have h := most_nat 0 0 w (by omega) (by omega); rw [closed29.1] at h; exact h)
  have M21 := Lib.hid (fun w => by have h := most_nat 2 1 w (by omega) (by omega); rw [closed29.2.1] at h; exact h)
  have P0 := Lib.hid (fun w => by have h := placed_nat 0 w (by omega); rw [closed29.2.2.1] at h; exact h)
  have P2 := Lib.hid (fun w => by have h := placed_nat 2 w (by omega); rw [closed29.2.2.2] at h; exact h)
  have SE := Lib.hid (fun b w (ht : Blanks w) (h : WatchIs b 0 0 0 0 w) => see_any b 0 (.inl rfl) w ht h)
  have SE1 := Lib.hid (fun b w (ht : Blanks w) (h : WatchIs b 1 1 1 0 w) => see_any b 1 (.inr rfl) w ht h)
  clear ht
  go_enter Tryd.func17, Tryd.ntmps17
  go_upto_region 2 with (go_in)
  have hW : WatchIs w.heap.size 0 0 0 0 (w.alloc (.cells (watchC 0 0 0 0) 43)) := World.alloc_heap_new w _
  have hB := (Below.refl w.heap.size w).alloc (Nat.le_refl _) (.cells (watchC 0 0 0 0) 43)
  have hs : (w.alloc (.cells (watchC 0 0 0 0) 43)).heap.size = w.heap.size + 1 := by simp
  change Code.wp _ _ _ _ (w.alloc (.cells (watchC 0 0 0 0) 43))
  generalize w.alloc (.cells (watchC 0 0 0 0) 43) = W1 at hW hB hs ⊢
  have hWl := hW.lt
  have HW1 := Lib.hid hW
  have HB1 := Lib.hid hB
  have HT1 := Lib.hid (HT.out.later hB)
  obtain ⟨b, hb0⟩ : ∃ b, w.heap.size = b := ⟨_, rfl⟩
  have HBB := Lib.hid hb0
  rw [hb0] at HW1 HB1 hs hWl ⊢
  have BB := Lib.hid HT.out
  clear hW hB HT hb0
  go_upto_region 3 with (fail)
  refine from_box3 (fun V h1 h2 h3 => ?_)
  have HBV := Lib.hid (show Below b w V from bl HB1.out (by omega) h1.below)
  have HVW := Lib.hid (HW1.out.later h1.below)
  have HTV := Lib.hid (HT1.out.later h1.below)
  have lo := h1.lt
  have lr := h2.lt
  have lq := h3.lt
  have ho := h1.cell
  have hr := h2.cell
  have hq := h3.cell
  rw [hs] at ho hr hq lo lr lq
  have HO := Lib.hid ho
  have HR := Lib.hid hr
  have HQ := Lib.hid hq
  clear h1 h2 h3 HW1 HB1 HT1 ho hr hq hs hWl
  go_wp2_with fail
  refine (M00.out V).mono ?_
  rintro e w2 ⟨rfl, rfl⟩
  go_wp2_with fail
  refine (M21.out V).mono ?_
  rintro e w2 ⟨rfl, rfl⟩
  go_wp2_with fail
  refine (P0.out V).mono ?_
  rintro e w2 ⟨rfl, rfl⟩
  go_wp2_with fail
  refine (P2.out V).mono ?_
  rintro e w2 ⟨rfl, rfl⟩
  have o0 := HO.out 0
  have o1 := HO.out 1
  have o2 := HO.out 2
  have o3 := HO.out 3
  have o4 := HO.out 4
  have o5 := HO.out 5
  have r0 := HR.out 0
  have r1 := HR.out 1
  have r2 := HR.out 2
  have r3 := HR.out 3
  have r4 := HR.out 4
  have r5 := HR.out 5
  have q0 := HQ.out 0
  have q1 := HQ.out 1
  clear M00 M21 P0 P2
  go_wp2_with fail
  refine (SE.out b V HTV.out HVW.out).mono ?_
  rintro e w3 ⟨rfl, hw3, hb3⟩
  have HBT := Lib.hid (show Blanks w3 from BB.out.later (by rw [HBB.out]; exact Only.below HBV.out hb3 (Nat.le_refl _) (by omega)))
  have HB3 := Lib.hid (show Below b w w3 from Only.below HBV.out hb3 (Nat.le_refl _) (by omega))
  have f := fun j k (h : j < V.heap.size) (hj : j ≠ b) => hb3.cell j k h hj
  have o0' := f (b + 1) 0 lo (by omega)
  have o1' := f (b + 1) 1 lo (by omega)
  have o2' := f (b + 1) 2 lo (by omega)
  have o3' := f (b + 1) 3 lo (by omega)
  have o4' := f (b + 1) 4 lo (by omega)
  have o5' := f (b + 1) 5 lo (by omega)
  have r0' := f (b + 1 + 1) 0 lr (by omega)
  have r1' := f (b + 1 + 1) 1 lr (by omega)
  have r2' := f (b + 1 + 1) 2 lr (by omega)
  have r3' := f (b + 1 + 1) 3 lr (by omega)
  have r4' := f (b + 1 + 1) 4 lr (by omega)
  have r5' := f (b + 1 + 1) 5 lr (by omega)
  have q0' := f (b + 1 + 1 + 1) 0 lq (by omega)
  have q1' := f (b + 1 + 1 + 1) 1 lq (by omega)
  rw [o0] at o0'
  rw [o1] at o1'
  rw [o2] at o2'
  rw [o3] at o3'
  rw [o4] at o4'
  rw [o5] at o5'
  rw [r0] at r0'
  rw [r1] at r1'
  rw [r2] at r2'
  rw [r3] at r3'
  rw [r4] at r4'
  rw [r5] at r5'
  rw [q0] at q0'
  rw [q1] at q1'
  have HW3 := Lib.hid (show WatchIs b 1 1 1 0 w3 from hw3)
  clear f o0 o1 o2 o3 o4 o5 r0 r1 r2 r3 r4 r5 q0 q1 hb3 hw3 HO HR HQ HVW HTV lo lr lq SE
  go_wp2_with fail
  refine (SE1.out b w3 HBT.out HW3.out).mono ?_
  rintro e w4 ⟨rfl, hw4, hb4⟩
  have HB4 := Lib.hid (show Below b w w4 from Only.below HB3.out hb4 (Nat.le_refl _) (by have := HW3.out.lt; omega))
  have hw4' : WatchIs b 2 2 2 1 w4 := hw4
  have c0 := hw4'.cell 0
  have c4 := hw4'.cell 4
  have hl4 := hw4'.lt
  simp only [watchC] at c0 c4
  have HW4 := Lib.hid hw4'
  clear o0' o1' o2' o3' o4' o5' r0' r1' r2' r3' r4' r5' q0' q1' hb4 hw4 hw4' HW3 HBT HB3 SE1
  go_wp2_with (first | (go_at_call 21; go_in) | (go_at_call 43; go_in))
  refine (stored_any b 5 true 1 (.inl ⟨rfl, rfl, rfl⟩) w4 HW4.out).mono ?_
  rintro e w5 ⟨rfl, hw5, hb5⟩
  have HB5 := Lib.hid (show Below b w w5 from Only.below HB4.out hb5 (Nat.le_refl _) (by omega))
  have HW5 := Lib.hid (show WatchIs b 2 2 2 1 w5 from hw5)
  clear hw5 hb5 c0 c4 hl4 HW4 HB4
  go_wp2_with fail
  refine (stored_any b 6 false 2 (.inr ⟨rfl, rfl, rfl⟩) w5 HW5.out).mono ?_
  rintro e w6 ⟨rfl, hw6, hb6⟩
  have HB6 := Lib.hid (show Below b w w6 from Only.below HB5.out hb6 (Nat.le_refl _) (by have := HW5.out.lt; omega))
  have hw6' : WatchIs b 2 2 2 2 w6 := hw6
  have c0 := hw6'.cell 0
  have c5 := hw6'.cell 5
  have c13 := hw6'.cell 13
  have hl6 := hw6'.lt
  simp only [watchC] at c0 c5 c13
  clear hw6 hb6 HW5 HB5 hw6'
  go_wp2
  go_ret
  exact ⟨rfl, by rw [HBB.out]; exact HB6.out⟩
end Go.Proofs.YtplbglcdmimdoaaDoor
