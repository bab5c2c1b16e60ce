import Derived.Test.YtokpgopdkimmmaaGreatDoorModM3
import Derived.RegionTactic
import Derived.BigRegion
import Derived.Test.YtokpgopdkimmmaaGreatDoorTellsM2
/- model.point: what is asked of points (written by gen/mpoint.py). -/
namespace Go.Proofs.YtokpgopdkimmmaaGreatDoor
open Go.RowKit Go.Maps
set_option linter.unusedVariables false
set_option linter.unusedSimpArgs false

/-- Which points are asked for. -/
def ptSo (o : OpV) (L : List PtV) : PtV → Bool :=
  if o.k = 7 ∨ o.k = 8 then ptIn ⟨o.a, o.b, o.c, o.d, 0⟩ else if o.k = 9 ∨ o.k = 10 then ptIn ⟨o.a, o.b, -9223372036854775808, o.c, 0⟩
  else if o.k = 11 ∨ o.k = 12 then cornerB o else if o.k = 13 then ptFirst ⟨o.a, o.b, -9223372036854775808, 9223372036854775807, 0⟩ L else ptSky L
/-- What is replied of points. -/
def pointR (o : OpV) (L : List PtV) : RepV :=
  if o.k = 8 ∨ o.k = 12 then ⟨0, [], ((pickN ptK (ptSo o L) L).length : Int), false, 0⟩
  else if o.k = 10 then ⟨0, [], 0, decide ((0 : Int) < ((pickN ptK (ptSo o L) L).length : Int)), 0⟩ else ⟨0, pickN ptK (ptSo o L) L, 0, false, 0⟩
set_option maxRecDepth 100000 in
set_option maxHeartbeats 4000000 in
theorem point_7 (a b c d : Int) (id m p s b0 q : Nat) (M : ModV) (hL : M.pts.length ≤ 1000000) (w : World) (hM : ModelAt w m p s b0 q M) :
    Calls Tryz.prog 71 #[ptr m, (OpV.mk 7 a b c d id).val] w (Replied w ⟨0, pickN ptK (ptIn ⟨a, b, c, d, 0⟩) M.pts, 0, false, 0⟩) := by
  have HS := Lib.hid (AskSt.start hM ⟨7, a, b, c, d, id⟩ ⟨a, b, -9223372036854775808, 9223372036854775807, 0⟩)
  clear hM
  go_enter Tryz.func71, Tryz.ntmps71
  go_upto_region 6 with fail
  generalize ((((w.alloc (.cells #[ptr m] 53)).alloc _).alloc _).alloc _) = V at HS ⊢
  obtain ⟨bm, hbm⟩ : ∃ k, w.heap.size = k := ⟨_, rfl⟩
  rw [hbm] at HS ⊢
  obtain ⟨bo, hbo⟩ : ∃ k, bm + 1 = k := ⟨_, rfl⟩
  rw [hbo] at HS ⊢
  obtain ⟨br, hbr⟩ : ∃ k, bo + 1 = k := ⟨_, rfl⟩
  rw [hbr] at HS ⊢
  obtain ⟨bs, hbs⟩ : ∃ k, br + 1 = k := ⟨_, rfl⟩
  rw [hbs] at HS ⊢
  clear hbm hbo hbr hbs
  obtain ⟨e0, e1, e2, e3, e4, e5⟩ := op_cellsM HS.out.op
  obtain ⟨s0, s1, s2, s3, s4⟩ := bx_cells HS.out.strip
  have fs := Blk.frozen HS.out.strip
  have HS2 := Lib.hid (((HS.out.put (x' := ⟨a, b, c, 9223372036854775807, 0⟩) 2 (.int .i64 c) rfl).put (x' := ⟨a, b, c, d, 0⟩) 3 (.int .i64 d) rfl).drew)
  go_region
  go_upto_region 7 with fail
  generalize ((V.setCell ⟨bs, 2, none⟩ (.int .i64 c)).setCell ⟨bs, 3, none⟩ (.int .i64 d)).drew = V2 at HS2 ⊢
  clear e0 e1 e2 e3 e4 e5 s0 s1 s2 s3 s4 fs HS V
  obtain ⟨d0, d1, d2, d3, d4, d5⟩ := HS2.out.mv.cells
  go_wp2_with fail
  refine (ptPick_any p q 105 #[ptr bs] V2 M.pts hL (ptIn ⟨a, b, c, d, 0⟩) HS2.out.mv.mod.pts (enters_of Tryz.func105 (by kernel_rfl) rfl) (fun y _ W hW => point1_any y bs ⟨a, b, c, d, 0⟩ W (Blk.below HS2.out.strip hW (Blk.lt HS2.out.strip)))).mono ?_
  rintro e w2 ⟨A, cc, rfl, hr, hb2⟩
  have HR := Lib.hid hr
  have K := Lib.hid (Blk.below HS2.out.rep hb2 (Blk.lt HS2.out.rep))
  have HB2 := Lib.hid (bl HS2.out.below HS2.out.below.size hb2)
  have HLR := Lib.hid (Blk.lt HS2.out.rep)
  have e0 := Blk.cell (Blk.below HS2.out.op hb2 (Blk.lt HS2.out.op)) 0
  obtain ⟨r0, r1, r2, r3, r4, r5⟩ := rep_cells K.out
  have f := Blk.frozen K.out
  clear hr hb2 d0 d1 d2 d3 d4 d5
  go_wp2_with fail
  exact bodyPost_ret (v := repV ⟨0, pickN ptK (ptIn ⟨a, b, c, d, 0⟩) M.pts, 0, false, 0⟩ A cc) (by simp [results, Tryz.results71, go_sem, r0, r1, r2, r3, r4, r5]) rfl ⟨A, cc, rfl, (HR.out.set6 HLR.out _ _ _ _ _ _).since HS2.out.below.size, below_set6 HB2.out HS2.out.ge.1 _ _ _ _ _ _⟩

set_option maxRecDepth 100000 in
set_option maxHeartbeats 4000000 in
theorem point_8 (a b c d : Int) (id m p s b0 q : Nat) (M : ModV) (hL : M.pts.length ≤ 1000000) (w : World) (hM : ModelAt w m p s b0 q M) :
    Calls Tryz.prog 71 #[ptr m, (OpV.mk 8 a b c d id).val] w (Replied w ⟨0, [], ((pickN ptK (ptIn ⟨a, b, c, d, 0⟩) M.pts).length : Int), false, 0⟩) := by
  have HS := Lib.hid (AskSt.start hM ⟨8, a, b, c, d, id⟩ ⟨a, b, -9223372036854775808, 9223372036854775807, 0⟩)
  clear hM
  go_enter Tryz.func71, Tryz.ntmps71
  go_upto_region 6 with fail
  generalize ((((w.alloc (.cells #[ptr m] 53)).alloc _).alloc _).alloc _) = V at HS ⊢
  obtain ⟨bm, hbm⟩ : ∃ k, w.heap.size = k := ⟨_, rfl⟩
  rw [hbm] at HS ⊢
  obtain ⟨bo, hbo⟩ : ∃ k, bm + 1 = k := ⟨_, rfl⟩
  rw [hbo] at HS ⊢
  obtain ⟨br, hbr⟩ : ∃ k, bo + 1 = k := ⟨_, rfl⟩
  rw [hbr] at HS ⊢
  obtain ⟨bs, hbs⟩ : ∃ k, br + 1 = k := ⟨_, rfl⟩
  rw [hbs] at HS ⊢
  clear hbm hbo hbr hbs
  obtain ⟨e0, e1, e2, e3, e4, e5⟩ := op_cellsM HS.out.op
  obtain ⟨s0, s1, s2, s3, s4⟩ := bx_cells HS.out.strip
  have fs := Blk.frozen HS.out.strip
  have HS2 := Lib.hid (((HS.out.put (x' := ⟨a, b, c, 9223372036854775807, 0⟩) 2 (.int .i64 c) rfl).put (x' := ⟨a, b, c, d, 0⟩) 3 (.int .i64 d) rfl).drew)
  go_region
  go_upto_region 7 with fail
  generalize ((V.setCell ⟨bs, 2, none⟩ (.int .i64 c)).setCell ⟨bs, 3, none⟩ (.int .i64 d)).drew = V2 at HS2 ⊢
  clear e0 e1 e2 e3 e4 e5 s0 s1 s2 s3 s4 fs HS V
  obtain ⟨d0, d1, d2, d3, d4, d5⟩ := HS2.out.mv.cells
  go_wp2_with fail
  refine (ptPick_any p q 105 #[ptr bs] V2 M.pts hL (ptIn ⟨a, b, c, d, 0⟩) HS2.out.mv.mod.pts (enters_of Tryz.func105 (by kernel_rfl) rfl) (fun y _ W hW => point1_any y bs ⟨a, b, c, d, 0⟩ W (Blk.below HS2.out.strip hW (Blk.lt HS2.out.strip)))).mono ?_
  rintro e w2 ⟨A, cc, rfl, hr, hb2⟩
  have HR := Lib.hid hr
  have K := Lib.hid (Blk.below HS2.out.rep hb2 (Blk.lt HS2.out.rep))
  have HB2 := Lib.hid (bl HS2.out.below HS2.out.below.size hb2)
  have HLR := Lib.hid (Blk.lt HS2.out.rep)
  have e0 := Blk.cell (Blk.below HS2.out.op hb2 (Blk.lt HS2.out.op)) 0
  obtain ⟨r0, r1, r2, r3, r4, r5⟩ := rep_cells K.out
  have f := Blk.frozen K.out
  clear hr hb2 d0 d1 d2 d3 d4 d5
  go_wp2_with fail
  exact bodyPost_ret (v := repV ⟨0, [], ((pickN ptK (ptIn ⟨a, b, c, d, 0⟩) M.pts).length : Int), false, 0⟩ none 0) (by simp [results, Tryz.results71, go_sem, r0, r1, r2, r3, r4, r5]) rfl ⟨none, 0, rfl, Row32.none_ _ _, below_set6 HB2.out HS2.out.ge.1 _ _ _ _ _ _⟩

set_option maxRecDepth 100000 in
set_option maxHeartbeats 4000000 in
theorem point_9 (a b c d : Int) (id m p s b0 q : Nat) (M : ModV) (hL : M.pts.length ≤ 1000000) (w : World) (hM : ModelAt w m p s b0 q M) :
    Calls Tryz.prog 71 #[ptr m, (OpV.mk 9 a b c d id).val] w (Replied w ⟨0, pickN ptK (ptIn ⟨a, b, -9223372036854775808, c, 0⟩) M.pts, 0, false, 0⟩) := by
  have HS := Lib.hid (AskSt.start hM ⟨9, a, b, c, d, id⟩ ⟨a, b, -9223372036854775808, 9223372036854775807, 0⟩)
  clear hM
  go_enter Tryz.func71, Tryz.ntmps71
  go_upto_region 10 with fail
  generalize ((((w.alloc (.cells #[ptr m] 53)).alloc _).alloc _).alloc _) = V at HS ⊢
  obtain ⟨bm, hbm⟩ : ∃ k, w.heap.size = k := ⟨_, rfl⟩
  rw [hbm] at HS ⊢
  obtain ⟨bo, hbo⟩ : ∃ k, bm + 1 = k := ⟨_, rfl⟩
  rw [hbo] at HS ⊢
  obtain ⟨br, hbr⟩ : ∃ k, bo + 1 = k := ⟨_, rfl⟩
  rw [hbr] at HS ⊢
  obtain ⟨bs, hbs⟩ : ∃ k, br + 1 = k := ⟨_, rfl⟩
  rw [hbs] at HS ⊢
  clear hbm hbo hbr hbs
  obtain ⟨e0, e1, e2, e3, e4, e5⟩ := op_cellsM HS.out.op
  obtain ⟨s0, s1, s2, s3, s4⟩ := bx_cells HS.out.strip
  have fs := Blk.frozen HS.out.strip
  go_upto_region 11 with fail
  have HS2 := Lib.hid (HS.out.put (x' := ⟨a, b, -9223372036854775808, c, 0⟩) 3 (.int .i64 c) rfl)
  generalize V.setCell ⟨bs, 3, none⟩ (.int .i64 c) = V2 at HS2 ⊢
  clear e0 e1 e2 e3 e4 e5 s0 s1 s2 s3 s4 fs HS V
  obtain ⟨d0, d1, d2, d3, d4, d5⟩ := HS2.out.mv.cells
  go_wp2_with fail
  refine (ptPick_any p q 107 #[ptr bs] V2 M.pts hL (ptIn ⟨a, b, -9223372036854775808, c, 0⟩) HS2.out.mv.mod.pts (enters_of Tryz.func107 (by kernel_rfl) rfl) (fun y _ W hW => point2_any y bs ⟨a, b, -9223372036854775808, c, 0⟩ W (Blk.below HS2.out.strip hW (Blk.lt HS2.out.strip)))).mono ?_
  rintro e w2 ⟨A, cc, rfl, hr, hb2⟩
  have HR := Lib.hid hr
  have K := Lib.hid (Blk.below HS2.out.rep hb2 (Blk.lt HS2.out.rep))
  have HB2 := Lib.hid (bl HS2.out.below HS2.out.below.size hb2)
  have HLR := Lib.hid (Blk.lt HS2.out.rep)
  have e0 := Blk.cell (Blk.below HS2.out.op hb2 (Blk.lt HS2.out.op)) 0
  obtain ⟨r0, r1, r2, r3, r4, r5⟩ := rep_cells K.out
  have f := Blk.frozen K.out
  clear hr hb2 d0 d1 d2 d3 d4 d5
  go_wp2_with fail
  exact bodyPost_ret (v := repV ⟨0, pickN ptK (ptIn ⟨a, b, -9223372036854775808, c, 0⟩) M.pts, 0, false, 0⟩ A cc) (by simp [results, Tryz.results71, go_sem, r0, r1, r2, r3, r4, r5]) rfl ⟨A, cc, rfl, (HR.out.set6 HLR.out _ _ _ _ _ _).since HS2.out.below.size, below_set6 HB2.out HS2.out.ge.1 _ _ _ _ _ _⟩

set_option maxRecDepth 100000 in
set_option maxHeartbeats 4000000 in
theorem point_10 (a b c d : Int) (id m p s b0 q : Nat) (M : ModV) (hL : M.pts.length ≤ 1000000) (w : World) (hM : ModelAt w m p s b0 q M) :
    Calls Tryz.prog 71 #[ptr m, (OpV.mk 10 a b c d id).val] w (Replied w ⟨0, [], 0, decide ((0 : Int) < ((pickN ptK (ptIn ⟨a, b, -9223372036854775808, c, 0⟩) M.pts).length : Int)), 0⟩) := by
  have HS := Lib.hid (AskSt.start hM ⟨10, a, b, c, d, id⟩ ⟨a, b, -9223372036854775808, 9223372036854775807, 0⟩)
  clear hM
  go_enter Tryz.func71, Tryz.ntmps71
  go_upto_region 10 with fail
  generalize ((((w.alloc (.cells #[ptr m] 53)).alloc _).alloc _).alloc _) = V at HS ⊢
  obtain ⟨bm, hbm⟩ : ∃ k, w.heap.size = k := ⟨_, rfl⟩
  rw [hbm] at HS ⊢
  obtain ⟨bo, hbo⟩ : ∃ k, bm + 1 = k := ⟨_, rfl⟩
  rw [hbo] at HS ⊢
  obtain ⟨br, hbr⟩ : ∃ k, bo + 1 = k := ⟨_, rfl⟩
  rw [hbr] at HS ⊢
  obtain ⟨bs, hbs⟩ : ∃ k, br + 1 = k := ⟨_, rfl⟩
  rw [hbs] at HS ⊢
  clear hbm hbo hbr hbs
  obtain ⟨e0, e1, e2, e3, e4, e5⟩ := op_cellsM HS.out.op
  obtain ⟨s0, s1, s2, s3, s4⟩ := bx_cells HS.out.strip
  have fs := Blk.frozen HS.out.strip
  go_upto_region 11 with fail
  have HS2 := Lib.hid (HS.out.put (x' := ⟨a, b, -9223372036854775808, c, 0⟩) 3 (.int .i64 c) rfl)
  generalize V.setCell ⟨bs, 3, none⟩ (.int .i64 c) = V2 at HS2 ⊢
  clear e0 e1 e2 e3 e4 e5 s0 s1 s2 s3 s4 fs HS V
  obtain ⟨d0, d1, d2, d3, d4, d5⟩ := HS2.out.mv.cells
  go_wp2_with fail
  refine (ptPick_any p q 107 #[ptr bs] V2 M.pts hL (ptIn ⟨a, b, -9223372036854775808, c, 0⟩) HS2.out.mv.mod.pts (enters_of Tryz.func107 (by kernel_rfl) rfl) (fun y _ W hW => point2_any y bs ⟨a, b, -9223372036854775808, c, 0⟩ W (Blk.below HS2.out.strip hW (Blk.lt HS2.out.strip)))).mono ?_
  rintro e w2 ⟨A, cc, rfl, hr, hb2⟩
  have HR := Lib.hid hr
  have K := Lib.hid (Blk.below HS2.out.rep hb2 (Blk.lt HS2.out.rep))
  have HB2 := Lib.hid (bl HS2.out.below HS2.out.below.size hb2)
  have HLR := Lib.hid (Blk.lt HS2.out.rep)
  have e0 := Blk.cell (Blk.below HS2.out.op hb2 (Blk.lt HS2.out.op)) 0
  obtain ⟨r0, r1, r2, r3, r4, r5⟩ := rep_cells K.out
  have f := Blk.frozen K.out
  clear hr hb2 d0 d1 d2 d3 d4 d5
  go_wp2_with fail
  exact bodyPost_ret (v := repV ⟨0, [], 0, decide ((0 : Int) < ((pickN ptK (ptIn ⟨a, b, -9223372036854775808, c, 0⟩) M.pts).length : Int)), 0⟩ none 0) (by simp [results, Tryz.results71, go_sem, r0, r1, r2, r3, r4, r5]) rfl ⟨none, 0, rfl, Row32.none_ _ _, below_set6 HB2.out HS2.out.ge.1 _ _ _ _ _ _⟩

set_option maxRecDepth 100000 in
set_option maxHeartbeats 4000000 in
theorem point_11 (a b c d : Int) (id m p s b0 q : Nat) (M : ModV) (hL : M.pts.length ≤ 1000000) (w : World) (hM : ModelAt w m p s b0 q M) :
    Calls Tryz.prog 71 #[ptr m, (OpV.mk 11 a b c d id).val] w (Replied w ⟨0, pickN ptK (cornerB ⟨11, a, b, c, d, id⟩) M.pts, 0, false, 0⟩) := by
  have HS := Lib.hid (AskSt.start hM ⟨11, a, b, c, d, id⟩ ⟨a, b, -9223372036854775808, 9223372036854775807, 0⟩)
  clear hM
  go_enter Tryz.func71, Tryz.ntmps71
  go_upto_region 14 with fail
  generalize ((((w.alloc (.cells #[ptr m] 53)).alloc _).alloc _).alloc _) = V at HS ⊢
  obtain ⟨bm, hbm⟩ : ∃ k, w.heap.size = k := ⟨_, rfl⟩
  rw [hbm] at HS ⊢
  obtain ⟨bo, hbo⟩ : ∃ k, bm + 1 = k := ⟨_, rfl⟩
  rw [hbo] at HS ⊢
  obtain ⟨br, hbr⟩ : ∃ k, bo + 1 = k := ⟨_, rfl⟩
  rw [hbr] at HS ⊢
  obtain ⟨bs, hbs⟩ : ∃ k, br + 1 = k := ⟨_, rfl⟩
  rw [hbs] at HS ⊢
  clear hbm hbo hbr hbs
  obtain ⟨V2, rfl⟩ : ∃ V2, V2 = V := ⟨V, rfl⟩
  have HS2 := HS
  clear HS
  obtain ⟨d0, d1, d2, d3, d4, d5⟩ := HS2.out.mv.cells
  go_wp2_with fail
  refine (ptPick_any p q 108 #[ptr bo] V2 M.pts hL (cornerB ⟨11, a, b, c, d, id⟩) HS2.out.mv.mod.pts (enters_of Tryz.func108 (by kernel_rfl) rfl) (fun y _ W hW => point3_any y bo ⟨11, a, b, c, d, id⟩ W (Blk.below HS2.out.op hW (Blk.lt HS2.out.op)))).mono ?_
  rintro e w2 ⟨A, cc, rfl, hr, hb2⟩
  have HR := Lib.hid hr
  have K := Lib.hid (Blk.below HS2.out.rep hb2 (Blk.lt HS2.out.rep))
  have HB2 := Lib.hid (bl HS2.out.below HS2.out.below.size hb2)
  have HLR := Lib.hid (Blk.lt HS2.out.rep)
  have e0 := Blk.cell (Blk.below HS2.out.op hb2 (Blk.lt HS2.out.op)) 0
  obtain ⟨r0, r1, r2, r3, r4, r5⟩ := rep_cells K.out
  have f := Blk.frozen K.out
  clear hr hb2 d0 d1 d2 d3 d4 d5
  go_wp2_with fail
  exact bodyPost_ret (v := repV ⟨0, pickN ptK (cornerB ⟨11, a, b, c, d, id⟩) M.pts, 0, false, 0⟩ A cc) (by simp [results, Tryz.results71, go_sem, r0, r1, r2, r3, r4, r5]) rfl ⟨A, cc, rfl, (HR.out.set6 HLR.out _ _ _ _ _ _).since HS2.out.below.size, below_set6 HB2.out HS2.out.ge.1 _ _ _ _ _ _⟩

set_option maxRecDepth 100000 in
set_option maxHeartbeats 4000000 in
theorem point_12 (a b c d : Int) (id m p s b0 q : Nat) (M : ModV) (hL : M.pts.length ≤ 1000000) (w : World) (hM : ModelAt w m p s b0 q M) :
    Calls Tryz.prog 71 #[ptr m, (OpV.mk 12 a b c d id).val] w (Replied w ⟨0, [], ((pickN ptK (cornerB ⟨12, a, b, c, d, id⟩) M.pts).length : Int), false, 0⟩) := by
  have HS := Lib.hid (AskSt.start hM ⟨12, a, b, c, d, id⟩ ⟨a, b, -9223372036854775808, 9223372036854775807, 0⟩)
  clear hM
  go_enter Tryz.func71, Tryz.ntmps71
  go_upto_region 14 with fail
  generalize ((((w.alloc (.cells #[ptr m] 53)).alloc _).alloc _).alloc _) = V at HS ⊢
  obtain ⟨bm, hbm⟩ : ∃ k, w.heap.size = k := ⟨_, rfl⟩
  rw [hbm] at HS ⊢
  obtain ⟨bo, hbo⟩ : ∃ k, bm + 1 = k := ⟨_, rfl⟩
  rw [hbo] at HS ⊢
  obtain ⟨br, hbr⟩ : ∃ k, bo + 1 = k := ⟨_, rfl⟩
  rw [hbr] at HS ⊢
  obtain ⟨bs, hbs⟩ : ∃ k, br + 1 = k := ⟨_, rfl⟩
  rw [hbs] at HS ⊢
  clear hbm hbo hbr hbs
  obtain ⟨V2, rfl⟩ : ∃ V2, V2 = V := ⟨V, rfl⟩
  have HS2 := HS
  clear HS
  obtain ⟨d0, d1, d2, d3, d4, d5⟩ := HS2.out.mv.cells
  go_wp2_with fail
  refine (ptPick_any p q 108 #[ptr bo] V2 M.pts hL (cornerB ⟨12, a, b, c, d, id⟩) HS2.out.mv.mod.pts (enters_of Tryz.func108 (by kernel_rfl) rfl) (fun y _ W hW => point3_any y bo ⟨12, a, b, c, d, id⟩ W (Blk.below HS2.out.op hW (Blk.lt HS2.out.op)))).mono ?_
  rintro e w2 ⟨A, cc, rfl, hr, hb2⟩
  have HR := Lib.hid hr
  have K := Lib.hid (Blk.below HS2.out.rep hb2 (Blk.lt HS2.out.rep))
  have HB2 := Lib.hid (bl HS2.out.below HS2.out.below.size hb2)
  have HLR := Lib.hid (Blk.lt HS2.out.rep)
  have e0 := Blk.cell (Blk.below HS2.out.op hb2 (Blk.lt HS2.out.op)) 0
  obtain ⟨r0, r1, r2, r3, r4, r5⟩ := rep_cells K.out
  have f := Blk.frozen K.out
  clear hr hb2 d0 d1 d2 d3 d4 d5
  go_wp2_with fail
  exact bodyPost_ret (v := repV ⟨0, [], ((pickN ptK (cornerB ⟨12, a, b, c, d, id⟩) M.pts).length : Int), false, 0⟩ none 0) (by simp [results, Tryz.results71, go_sem, r0, r1, r2, r3, r4, r5]) rfl ⟨none, 0, rfl, Row32.none_ _ _, below_set6 HB2.out HS2.out.ge.1 _ _ _ _ _ _⟩

set_option maxRecDepth 100000 in
set_option maxHeartbeats 4000000 in
theorem point_13 (a b c d : Int) (id m p s b0 q : Nat) (M : ModV) (hL : M.pts.length ≤ 1000000) (w : World) (hM : ModelAt w m p s b0 q M) :
    Calls Tryz.prog 71 #[ptr m, (OpV.mk 13 a b c d id).val] w (Replied w ⟨0, pickN ptK (ptFirst ⟨a, b, -9223372036854775808, 9223372036854775807, 0⟩ M.pts) M.pts, 0, false, 0⟩) := by
  have HS := Lib.hid (AskSt.start hM ⟨13, a, b, c, d, id⟩ ⟨a, b, -9223372036854775808, 9223372036854775807, 0⟩)
  clear hM
  go_enter Tryz.func71, Tryz.ntmps71
  go_upto_region 16 with fail
  generalize ((((w.alloc (.cells #[ptr m] 53)).alloc _).alloc _).alloc _) = V at HS ⊢
  obtain ⟨bm, hbm⟩ : ∃ k, w.heap.size = k := ⟨_, rfl⟩
  rw [hbm] at HS ⊢
  obtain ⟨bo, hbo⟩ : ∃ k, bm + 1 = k := ⟨_, rfl⟩
  rw [hbo] at HS ⊢
  obtain ⟨br, hbr⟩ : ∃ k, bo + 1 = k := ⟨_, rfl⟩
  rw [hbr] at HS ⊢
  obtain ⟨bs, hbs⟩ : ∃ k, br + 1 = k := ⟨_, rfl⟩
  rw [hbs] at HS ⊢
  clear hbm hbo hbr hbs
  obtain ⟨V2, rfl⟩ : ∃ V2, V2 = V := ⟨V, rfl⟩
  have HS2 := HS
  clear HS
  obtain ⟨d0, d1, d2, d3, d4, d5⟩ := HS2.out.mv.cells
  go_wp2_with fail
  refine (ptPick_any p q 110 #[ptr bs, ptr bm] V2 M.pts hL (ptFirst ⟨a, b, -9223372036854775808, 9223372036854775807, 0⟩ M.pts) HS2.out.mv.mod.pts (enters_of Tryz.func110 (by kernel_rfl) rfl) (fun y _ W hW => point4_any y bs bm m p s b0 q ⟨a, b, -9223372036854775808, 9223372036854775807, 0⟩ M hL W (Blk.below HS2.out.strip hW (Blk.lt HS2.out.strip)) (HS2.out.mv.later hW))).mono ?_
  rintro e w2 ⟨A, cc, rfl, hr, hb2⟩
  have HR := Lib.hid hr
  have K := Lib.hid (Blk.below HS2.out.rep hb2 (Blk.lt HS2.out.rep))
  have HB2 := Lib.hid (bl HS2.out.below HS2.out.below.size hb2)
  have HLR := Lib.hid (Blk.lt HS2.out.rep)
  have e0 := Blk.cell (Blk.below HS2.out.op hb2 (Blk.lt HS2.out.op)) 0
  obtain ⟨r0, r1, r2, r3, r4, r5⟩ := rep_cells K.out
  have f := Blk.frozen K.out
  clear hr hb2 d0 d1 d2 d3 d4 d5
  go_wp2_with fail
  exact bodyPost_ret (v := repV ⟨0, pickN ptK (ptFirst ⟨a, b, -9223372036854775808, 9223372036854775807, 0⟩ M.pts) M.pts, 0, false, 0⟩ A cc) (by simp [results, Tryz.results71, go_sem, r0, r1, r2, r3, r4, r5]) rfl ⟨A, cc, rfl, (HR.out.set6 HLR.out _ _ _ _ _ _).since HS2.out.below.size, below_set6 HB2.out HS2.out.ge.1 _ _ _ _ _ _⟩

set_option maxRecDepth 100000 in
set_option maxHeartbeats 4000000 in
theorem point_14 (a b c d : Int) (id m p s b0 q : Nat) (M : ModV) (hL : M.pts.length ≤ 1000000) (w : World) (hM : ModelAt w m p s b0 q M) :
    Calls Tryz.prog 71 #[ptr m, (OpV.mk 14 a b c d id).val] w (Replied w ⟨0, pickN ptK (ptSky M.pts) M.pts, 0, false, 0⟩) := by
  have HS := Lib.hid (AskSt.start hM ⟨14, a, b, c, d, id⟩ ⟨a, b, -9223372036854775808, 9223372036854775807, 0⟩)
  clear hM
  go_enter Tryz.func71, Tryz.ntmps71
  go_upto_region 19 with fail
  generalize ((((w.alloc (.cells #[ptr m] 53)).alloc _).alloc _).alloc _) = V at HS ⊢
  obtain ⟨bm, hbm⟩ : ∃ k, w.heap.size = k := ⟨_, rfl⟩
  rw [hbm] at HS ⊢
  obtain ⟨bo, hbo⟩ : ∃ k, bm + 1 = k := ⟨_, rfl⟩
  rw [hbo] at HS ⊢
  obtain ⟨br, hbr⟩ : ∃ k, bo + 1 = k := ⟨_, rfl⟩
  rw [hbr] at HS ⊢
  obtain ⟨bs, hbs⟩ : ∃ k, br + 1 = k := ⟨_, rfl⟩
  rw [hbs] at HS ⊢
  clear hbm hbo hbr hbs
  obtain ⟨V2, rfl⟩ : ∃ V2, V2 = V := ⟨V, rfl⟩
  have HS2 := HS
  clear HS
  obtain ⟨d0, d1, d2, d3, d4, d5⟩ := HS2.out.mv.cells
  go_wp2_with fail
  refine (ptPick_any p q 113 #[ptr bm] V2 M.pts hL (ptSky M.pts) HS2.out.mv.mod.pts (enters_of Tryz.func113 (by kernel_rfl) rfl) (fun y _ W hW => point5_any y bm m p s b0 q M hL W (HS2.out.mv.later hW))).mono ?_
  rintro e w2 ⟨A, cc, rfl, hr, hb2⟩
  have HR := Lib.hid hr
  have K := Lib.hid (Blk.below HS2.out.rep hb2 (Blk.lt HS2.out.rep))
  have HB2 := Lib.hid (bl HS2.out.below HS2.out.below.size hb2)
  have HLR := Lib.hid (Blk.lt HS2.out.rep)
  have e0 := Blk.cell (Blk.below HS2.out.op hb2 (Blk.lt HS2.out.op)) 0
  obtain ⟨r0, r1, r2, r3, r4, r5⟩ := rep_cells K.out
  have f := Blk.frozen K.out
  clear hr hb2 d0 d1 d2 d3 d4 d5
  go_wp2_with fail
  exact bodyPost_ret (v := repV ⟨0, pickN ptK (ptSky M.pts) M.pts, 0, false, 0⟩ A cc) (by simp [results, Tryz.results71, go_sem, r0, r1, r2, r3, r4, r5]) rfl ⟨A, cc, rfl, (HR.out.set6 HLR.out _ _ _ _ _ _).since HS2.out.below.size, below_set6 HB2.out HS2.out.ge.1 _ _ _ _ _ _⟩
end Go.Proofs.YtokpgopdkimmmaaGreatDoor
/- model.other: what is asked of spans and boxes (written by gen/mother.py). -/
namespace Go.Proofs.YtokpgopdkimmmaaGreatDoor
open Go.RowKit Go.Maps
set_option linter.unusedVariables false
set_option linter.unusedSimpArgs false

/-- The variables of other: the operation, the reply. -/
structure OthSt (w W : World) (m p s b q : Nat) (M : ModV) (o : OpV) (bo br : Nat) : Prop where
  mod : ModelAt W m p s b q M
  op : OpB W bo o
  rep : Blk W br 33 rep0
  below : Below w.heap.size w W
  ge : w.heap.size ≤ br
theorem OthSt.start {w : World} {m p s b q : Nat} {M : ModV} (hM : ModelAt w m p s b q M) (o : OpV) : OthSt w ((w.alloc (.cells o.cells 24)).alloc (.cells rep0 33)) m p s b q M o w.heap.size (w.heap.size + 1) := by
  have h2 := Blk.new w 24 o.cells
  have h3 := Blk.new (w.alloc (.cells o.cells 24)) 33 rep0
  simp only [World.size_alloc] at h3
  have al : ∀ (W : World) (o : Obj), Below W.heap.size W (W.alloc o) := fun W o => (Below.refl _ _).alloc (Nat.le_refl _) o
  exact ⟨(hM.later (al _ _)).later (al _ _), Blk.alloc h2 _, h3, ((Below.refl w.heap.size w).alloc (Nat.le_refl _) _).alloc (by simp) _, by omega⟩
theorem OthSt.alloc {w W : World} {m p s b q : Nat} {M : ModV} {o : OpV} {bo br : Nat} (h : OthSt w W m p s b q M o bo br) (x : Obj) : OthSt w (W.alloc x) m p s b q M o bo br :=
  ⟨h.mod.later ((Below.refl _ _).alloc (Nat.le_refl _) x), Blk.alloc h.op x, h.rep.alloc x, h.below.alloc h.below.size x, h.ge⟩
/-- What is replied of spans and boxes; aw, rw: the area, the rim. -/
def otherR (o : OpV) (M : ModV) (aw rw : Nat) : RepV :=
  if o.k = 15 then ⟨0, pickN spK (fun x => stabB x.lo x.hi o.a) M.sps, 0, false, 0⟩ else if o.k = 16 then ⟨0, [], ((pickN spK (fun x => stabB x.lo x.hi o.a) M.sps).length : Int), false, 0⟩
  else if o.k = 17 then ⟨0, pickN spK (fun x => meetB x.lo x.hi o.a o.b) M.sps, 0, false, 0⟩ else if o.k = 18 then ⟨0, [], 0, false, aw⟩ else if o.k = 19 then ⟨0, [], 0, false, rw⟩
  else ⟨0, pickN bxK (fun x => ptIn x ⟨o.a, o.b, 0⟩) M.bxs, 0, false, 0⟩
/-- Whatever is there, the list of all boxes, and then what a function makes of it. -/
def Swept (w : World) (b : Nat) (f : FuncId) (n : Nat) : Prop := ∀ V, Below w.heap.size w V → Calls Tryz.prog 123 #[.map (some b)] V fun e w1 => ∃ v, e = .returned v ∧ Below V.heap.size V w1 ∧
  Calls Tryz.prog f #[v] w1 fun e w2 => e = .returned (wideV n) ∧ Below w1.heap.size w1 w2
set_option maxRecDepth 100000 in
set_option maxHeartbeats 4000000 in
theorem other_15 (a b c d : Int) (id m p s b0 q : Nat) (M : ModV) (hL : M.sps.length ≤ 1000000 ∧ M.bxs.length ≤ 1000000) (w : World) (hM : ModelAt w m p s b0 q M) :
    Calls Tryz.prog 72 #[ptr m, (OpV.mk 15 a b c d id).val] w (Replied w ⟨0, pickN spK (fun x => stabB x.lo x.hi a) M.sps, 0, false, 0⟩) := by
  have HS := Lib.hid (OthSt.start hM ⟨15, a, b, c, d, id⟩)
  clear hM
  go_enter Tryz.func72, Tryz.ntmps72
  go_upto_region 3 with fail
  generalize (w.alloc (.cells (OpV.mk 15 a b c d id).cells 24)).alloc _ = V at HS ⊢
  obtain ⟨bo, hbo⟩ : ∃ k, w.heap.size = k := ⟨_, rfl⟩
  rw [hbo] at HS ⊢
  obtain ⟨br, hbr⟩ : ∃ k, bo + 1 = k := ⟨_, rfl⟩
  rw [hbr] at HS ⊢
  clear hbo hbr
  have d1 : V.cell? ⟨m, 1, none⟩ = some (.map (some p)) := HS.out.mod.blk.cell 1
  have d2 : V.cell? ⟨m, 2, none⟩ = some (.map (some s)) := HS.out.mod.blk.cell 2
  have d3 : V.cell? ⟨m, 3, none⟩ = some (.map (some b0)) := HS.out.mod.blk.cell 3
  have hlt := HS.out.mod.blk.lt
  go_wp2_with fail
  refine (spPick_any s q 117 #[ptr bo] V M.sps (by omega) (fun x => stabB x.lo x.hi a) HS.out.mod.sps (enters_of Tryz.func117 (by kernel_rfl) rfl) (fun y _ W hW => other1_any y bo ⟨15, a, b, c, d, id⟩ W (Blk.below HS.out.op hW (Blk.lt HS.out.op)))).mono ?_
  rintro e w2 ⟨A, cc, rfl, hr, hb2⟩
  have HR := Lib.hid hr
  have K := Lib.hid (Blk.below HS.out.rep hb2 (Blk.lt HS.out.rep))
  have HB2 := Lib.hid (bl HS.out.below HS.out.below.size hb2)
  have HLR := Lib.hid (Blk.lt HS.out.rep)
  obtain ⟨r0, r1, r2, r3, r4, r5⟩ := rep_cells K.out
  have f := Blk.frozen K.out
  clear hb2
  go_wp2_with fail
  exact bodyPost_ret (v := repV ⟨0, pickN spK (fun x => stabB x.lo x.hi a) M.sps, 0, false, 0⟩ A cc) (by simp [results, Tryz.results72, go_sem, r0, r1, r2, r3, r4, r5]) rfl ⟨A, cc, rfl, (HR.out.set6 HLR.out _ _ _ _ _ _).since HS.out.below.size, below_set6 HB2.out HS.out.ge _ _ _ _ _ _⟩

set_option maxRecDepth 100000 in
set_option maxHeartbeats 4000000 in
theorem other_16 (a b c d : Int) (id m p s b0 q : Nat) (M : ModV) (hL : M.sps.length ≤ 1000000 ∧ M.bxs.length ≤ 1000000) (w : World) (hM : ModelAt w m p s b0 q M) :
    Calls Tryz.prog 72 #[ptr m, (OpV.mk 16 a b c d id).val] w (Replied w ⟨0, [], ((pickN spK (fun x => stabB x.lo x.hi a) M.sps).length : Int), false, 0⟩) := by
  have HS := Lib.hid (OthSt.start hM ⟨16, a, b, c, d, id⟩)
  clear hM
  go_enter Tryz.func72, Tryz.ntmps72
  go_upto_region 5 with fail
  generalize (w.alloc (.cells (OpV.mk 16 a b c d id).cells 24)).alloc _ = V at HS ⊢
  obtain ⟨bo, hbo⟩ : ∃ k, w.heap.size = k := ⟨_, rfl⟩
  rw [hbo] at HS ⊢
  obtain ⟨br, hbr⟩ : ∃ k, bo + 1 = k := ⟨_, rfl⟩
  rw [hbr] at HS ⊢
  clear hbo hbr
  have d1 : V.cell? ⟨m, 1, none⟩ = some (.map (some p)) := HS.out.mod.blk.cell 1
  have d2 : V.cell? ⟨m, 2, none⟩ = some (.map (some s)) := HS.out.mod.blk.cell 2
  have d3 : V.cell? ⟨m, 3, none⟩ = some (.map (some b0)) := HS.out.mod.blk.cell 3
  have hlt := HS.out.mod.blk.lt
  go_wp2_with fail
  refine (spPick_any s q 119 #[ptr bo] V M.sps (by omega) (fun x => stabB x.lo x.hi a) HS.out.mod.sps (enters_of Tryz.func119 (by kernel_rfl) rfl) (fun y _ W hW => other2_any y bo ⟨16, a, b, c, d, id⟩ W (Blk.below HS.out.op hW (Blk.lt HS.out.op)))).mono ?_
  rintro e w2 ⟨A, cc, rfl, hr, hb2⟩
  have HR := Lib.hid hr
  have K := Lib.hid (Blk.below HS.out.rep hb2 (Blk.lt HS.out.rep))
  have HB2 := Lib.hid (bl HS.out.below HS.out.below.size hb2)
  have HLR := Lib.hid (Blk.lt HS.out.rep)
  obtain ⟨r0, r1, r2, r3, r4, r5⟩ := rep_cells K.out
  have f := Blk.frozen K.out
  clear hb2
  go_wp2_with fail
  exact bodyPost_ret (v := repV ⟨0, [], ((pickN spK (fun x => stabB x.lo x.hi a) M.sps).length : Int), false, 0⟩ none 0) (by simp [results, Tryz.results72, go_sem, r0, r1, r2, r3, r4, r5]) rfl ⟨none, 0, rfl, Row32.none_ _ _, below_set6 HB2.out HS.out.ge _ _ _ _ _ _⟩

set_option maxRecDepth 100000 in
set_option maxHeartbeats 4000000 in
theorem other_17 (a b c d : Int) (id m p s b0 q : Nat) (M : ModV) (hL : M.sps.length ≤ 1000000 ∧ M.bxs.length ≤ 1000000) (w : World) (hM : ModelAt w m p s b0 q M) :
    Calls Tryz.prog 72 #[ptr m, (OpV.mk 17 a b c d id).val] w (Replied w ⟨0, pickN spK (fun x => meetB x.lo x.hi a b) M.sps, 0, false, 0⟩) := by
  have HS := Lib.hid (OthSt.start hM ⟨17, a, b, c, d, id⟩)
  clear hM
  go_enter Tryz.func72, Tryz.ntmps72
  go_upto_region 7 with fail
  generalize (w.alloc (.cells (OpV.mk 17 a b c d id).cells 24)).alloc _ = V at HS ⊢
  obtain ⟨bo, hbo⟩ : ∃ k, w.heap.size = k := ⟨_, rfl⟩
  rw [hbo] at HS ⊢
  obtain ⟨br, hbr⟩ : ∃ k, bo + 1 = k := ⟨_, rfl⟩
  rw [hbr] at HS ⊢
  clear hbo hbr
  have d1 : V.cell? ⟨m, 1, none⟩ = some (.map (some p)) := HS.out.mod.blk.cell 1
  have d2 : V.cell? ⟨m, 2, none⟩ = some (.map (some s)) := HS.out.mod.blk.cell 2
  have d3 : V.cell? ⟨m, 3, none⟩ = some (.map (some b0)) := HS.out.mod.blk.cell 3
  have hlt := HS.out.mod.blk.lt
  go_wp2_with fail
  refine (spPick_any s q 120 #[ptr bo] V M.sps (by omega) (fun x => meetB x.lo x.hi a b) HS.out.mod.sps (enters_of Tryz.func120 (by kernel_rfl) rfl) (fun y _ W hW => other3_any y bo ⟨17, a, b, c, d, id⟩ W (Blk.below HS.out.op hW (Blk.lt HS.out.op)))).mono ?_
  rintro e w2 ⟨A, cc, rfl, hr, hb2⟩
  have HR := Lib.hid hr
  have K := Lib.hid (Blk.below HS.out.rep hb2 (Blk.lt HS.out.rep))
  have HB2 := Lib.hid (bl HS.out.below HS.out.below.size hb2)
  have HLR := Lib.hid (Blk.lt HS.out.rep)
  obtain ⟨r0, r1, r2, r3, r4, r5⟩ := rep_cells K.out
  have f := Blk.frozen K.out
  clear hb2
  go_wp2_with fail
  exact bodyPost_ret (v := repV ⟨0, pickN spK (fun x => meetB x.lo x.hi a b) M.sps, 0, false, 0⟩ A cc) (by simp [results, Tryz.results72, go_sem, r0, r1, r2, r3, r4, r5]) rfl ⟨A, cc, rfl, (HR.out.set6 HLR.out _ _ _ _ _ _).since HS.out.below.size, below_set6 HB2.out HS.out.ge _ _ _ _ _ _⟩

set_option maxRecDepth 100000 in
set_option maxHeartbeats 4000000 in
theorem other_18 (a b c d : Int) (id m p s b0 q : Nat) (M : ModV) (hL : M.sps.length ≤ 1000000 ∧ M.bxs.length ≤ 1000000) (w : World) (hM : ModelAt w m p s b0 q M) (n : Nat) (hA : Swept w b0 122 n) :
    Calls Tryz.prog 72 #[ptr m, (OpV.mk 18 a b c d id).val] w (Replied w ⟨0, [], 0, false, n⟩) := by
  have HS := Lib.hid (OthSt.start hM ⟨18, a, b, c, d, id⟩)
  have HA := Lib.hid hA
  obtain ⟨hi, hhi⟩ : ∃ hi : Int, ((n / 18446744073709551616 : Nat) : Int) = hi := ⟨_, rfl⟩
  obtain ⟨lo, hlo⟩ : ∃ lo : Int, ((n % 18446744073709551616 : Nat) : Int) = lo := ⟨_, rfl⟩
  have HV := Lib.hid (show repV ⟨0, [], 0, false, n⟩ none 0 = .agg #[.int .i64 0, .slice none 0 0, .int .i64 0, .bool false, .int .u64 hi, .int .u64 lo] by rw [← hhi, ← hlo]; rfl)
  have HW := Lib.hid (show wideV n = .agg #[.int .u64 hi, .int .u64 lo] by rw [← hhi, ← hlo]; rfl)
  clear hA hhi hlo
  clear hM
  go_enter Tryz.func72, Tryz.ntmps72
  go_upto_region 9 with fail
  generalize (w.alloc (.cells (OpV.mk 18 a b c d id).cells 24)).alloc _ = V at HS ⊢
  obtain ⟨bo, hbo⟩ : ∃ k, w.heap.size = k := ⟨_, rfl⟩
  rw [hbo] at HS ⊢
  obtain ⟨br, hbr⟩ : ∃ k, bo + 1 = k := ⟨_, rfl⟩
  rw [hbr] at HS ⊢
  clear hbo hbr
  have d1 : V.cell? ⟨m, 1, none⟩ = some (.map (some p)) := HS.out.mod.blk.cell 1
  have d2 : V.cell? ⟨m, 2, none⟩ = some (.map (some s)) := HS.out.mod.blk.cell 2
  have d3 : V.cell? ⟨m, 3, none⟩ = some (.map (some b0)) := HS.out.mod.blk.cell 3
  have hlt := HS.out.mod.blk.lt
  go_wp2_with fail
  refine (HA.out V HS.out.below).mono ?_
  rintro e w1 ⟨v, rfl, hb1, hc⟩
  have HC := Lib.hid hc
  have HB1 := Lib.hid hb1
  clear hb1 hc d1 d2 d3
  go_wp2_with fail
  refine HC.out.mono ?_
  rintro e w2 ⟨rfl, hb9⟩
  rw [HW.out]
  have hb2 := HB1.out.trans (hb9.mono HB1.out.size)
  clear hb9
  have K := Lib.hid (Blk.below HS.out.rep hb2 (Blk.lt HS.out.rep))
  have HB2 := Lib.hid (bl HS.out.below HS.out.below.size hb2)
  have HLR := Lib.hid (Blk.lt HS.out.rep)
  obtain ⟨r0, r1, r2, r3, r4, r5⟩ := rep_cells K.out
  have f := Blk.frozen K.out
  clear hb2
  go_wp2_with fail
  exact bodyPost_ret (v := .agg #[.int .i64 0, .slice none 0 0, .int .i64 0, .bool false, .int .u64 hi, .int .u64 lo]) (by simp [results, Tryz.results72, go_sem, r0, r1, r2, r3, r4, r5]) rfl ⟨none, 0, congrArg Ending.returned HV.out.symm, Row32.none_ _ _, below_set6 HB2.out HS.out.ge _ _ _ _ _ _⟩

set_option maxRecDepth 100000 in
set_option maxHeartbeats 4000000 in
theorem other_19 (a b c d : Int) (id m p s b0 q : Nat) (M : ModV) (hL : M.sps.length ≤ 1000000 ∧ M.bxs.length ≤ 1000000) (w : World) (hM : ModelAt w m p s b0 q M) (n : Nat) (hA : Swept w b0 124 n) :
    Calls Tryz.prog 72 #[ptr m, (OpV.mk 19 a b c d id).val] w (Replied w ⟨0, [], 0, false, n⟩) := by
  have HS := Lib.hid (OthSt.start hM ⟨19, a, b, c, d, id⟩)
  have HA := Lib.hid hA
  obtain ⟨hi, hhi⟩ : ∃ hi : Int, ((n / 18446744073709551616 : Nat) : Int) = hi := ⟨_, rfl⟩
  obtain ⟨lo, hlo⟩ : ∃ lo : Int, ((n % 18446744073709551616 : Nat) : Int) = lo := ⟨_, rfl⟩
  have HV := Lib.hid (show repV ⟨0, [], 0, false, n⟩ none 0 = .agg #[.int .i64 0, .slice none 0 0, .int .i64 0, .bool false, .int .u64 hi, .int .u64 lo] by rw [← hhi, ← hlo]; rfl)
  have HW := Lib.hid (show wideV n = .agg #[.int .u64 hi, .int .u64 lo] by rw [← hhi, ← hlo]; rfl)
  clear hA hhi hlo
  clear hM
  go_enter Tryz.func72, Tryz.ntmps72
  go_upto_region 11 with fail
  generalize (w.alloc (.cells (OpV.mk 19 a b c d id).cells 24)).alloc _ = V at HS ⊢
  obtain ⟨bo, hbo⟩ : ∃ k, w.heap.size = k := ⟨_, rfl⟩
  rw [hbo] at HS ⊢
  obtain ⟨br, hbr⟩ : ∃ k, bo + 1 = k := ⟨_, rfl⟩
  rw [hbr] at HS ⊢
  clear hbo hbr
  have d1 : V.cell? ⟨m, 1, none⟩ = some (.map (some p)) := HS.out.mod.blk.cell 1
  have d2 : V.cell? ⟨m, 2, none⟩ = some (.map (some s)) := HS.out.mod.blk.cell 2
  have d3 : V.cell? ⟨m, 3, none⟩ = some (.map (some b0)) := HS.out.mod.blk.cell 3
  have hlt := HS.out.mod.blk.lt
  go_wp2_with fail
  refine (HA.out V HS.out.below).mono ?_
  rintro e w1 ⟨v, rfl, hb1, hc⟩
  have HC := Lib.hid hc
  have HB1 := Lib.hid hb1
  clear hb1 hc d1 d2 d3
  go_wp2_with fail
  refine HC.out.mono ?_
  rintro e w2 ⟨rfl, hb9⟩
  rw [HW.out]
  have hb2 := HB1.out.trans (hb9.mono HB1.out.size)
  clear hb9
  have K := Lib.hid (Blk.below HS.out.rep hb2 (Blk.lt HS.out.rep))
  have HB2 := Lib.hid (bl HS.out.below HS.out.below.size hb2)
  have HLR := Lib.hid (Blk.lt HS.out.rep)
  obtain ⟨r0, r1, r2, r3, r4, r5⟩ := rep_cells K.out
  have f := Blk.frozen K.out
  clear hb2
  go_wp2_with fail
  exact bodyPost_ret (v := .agg #[.int .i64 0, .slice none 0 0, .int .i64 0, .bool false, .int .u64 hi, .int .u64 lo]) (by simp [results, Tryz.results72, go_sem, r0, r1, r2, r3, r4, r5]) rfl ⟨none, 0, congrArg Ending.returned HV.out.symm, Row32.none_ _ _, below_set6 HB2.out HS.out.ge _ _ _ _ _ _⟩

set_option maxRecDepth 100000 in
set_option maxHeartbeats 4000000 in
theorem other_20 (a b c d : Int) (id m p s b0 q : Nat) (M : ModV) (hL : M.sps.length ≤ 1000000 ∧ M.bxs.length ≤ 1000000) (w : World) (hM : ModelAt w m p s b0 q M) :
    Calls Tryz.prog 72 #[ptr m, (OpV.mk 20 a b c d id).val] w (Replied w ⟨0, pickN bxK (fun x => ptIn x ⟨a, b, 0⟩) M.bxs, 0, false, 0⟩) := by
  have HS := Lib.hid (OthSt.start hM ⟨20, a, b, c, d, id⟩)
  clear hM
  go_enter Tryz.func72, Tryz.ntmps72
  go_upto_region 13 with fail
  replace HS := Lib.hid (HS.out.alloc (.cells (PtV.cells ⟨a, b, 0⟩) 159))
  have HP := Lib.hid (Blk.new ((w.alloc (.cells (OpV.mk 20 a b c d id).cells 24)).alloc (.cells rep0 33)) 159 (PtV.cells ⟨a, b, 0⟩))
  simp only [World.size_alloc] at HP
  generalize ((w.alloc _).alloc _).alloc _ = V at HS HP ⊢
  obtain ⟨bo, hbo⟩ : ∃ k, w.heap.size = k := ⟨_, rfl⟩
  rw [hbo] at HS HP ⊢
  obtain ⟨br, hbr⟩ : ∃ k, bo + 1 = k := ⟨_, rfl⟩
  rw [hbr] at HS HP ⊢
  obtain ⟨ba, hba⟩ : ∃ k, br + 1 = k := ⟨_, rfl⟩
  rw [hba] at HP ⊢
  clear hba
  clear hbo hbr
  have d1 : V.cell? ⟨m, 1, none⟩ = some (.map (some p)) := HS.out.mod.blk.cell 1
  have d2 : V.cell? ⟨m, 2, none⟩ = some (.map (some s)) := HS.out.mod.blk.cell 2
  have d3 : V.cell? ⟨m, 3, none⟩ = some (.map (some b0)) := HS.out.mod.blk.cell 3
  have hlt := HS.out.mod.blk.lt
  go_wp2_with fail
  refine (bxPick_any b0 q 126 #[ptr ba] V M.bxs (by omega) (fun x => ptIn x ⟨a, b, 0⟩) HS.out.mod.bxs (enters_of Tryz.func126 (by kernel_rfl) rfl) (fun y _ W hW => other4_any y ba ⟨a, b, 0⟩ W (Blk.below HP.out hW (Blk.lt HP.out)))).mono ?_
  rintro e w2 ⟨A, cc, rfl, hr, hb2⟩
  have HR := Lib.hid hr
  have K := Lib.hid (Blk.below HS.out.rep hb2 (Blk.lt HS.out.rep))
  have HB2 := Lib.hid (bl HS.out.below HS.out.below.size hb2)
  have HLR := Lib.hid (Blk.lt HS.out.rep)
  obtain ⟨r0, r1, r2, r3, r4, r5⟩ := rep_cells K.out
  have f := Blk.frozen K.out
  clear hb2
  go_wp2_with fail
  exact bodyPost_ret (v := repV ⟨0, pickN bxK (fun x => ptIn x ⟨a, b, 0⟩) M.bxs, 0, false, 0⟩ A cc) (by simp [results, Tryz.results72, go_sem, r0, r1, r2, r3, r4, r5]) rfl ⟨A, cc, rfl, (HR.out.set6 HLR.out _ _ _ _ _ _).since HS.out.below.size, below_set6 HB2.out HS.out.ge _ _ _ _ _ _⟩
end Go.Proofs.YtokpgopdkimmmaaGreatDoor
