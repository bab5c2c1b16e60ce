/- The chapter's examples of layer 5: they are as they are told. -/
import Derived.Test.YtjpemijonjmcdaaPutsFar
import Derived.Test.YtjpemijonjmcdaaPoolHeight
import Derived.Test.YtjpemijonjmcdaaStackAwake
namespace Go.Proofs.Ytjpemijonjmcdaa
open Go.RowKit
set_option linter.unusedVariables false
set_option linter.unusedSimpArgs false

def lfN : Nd := ⟨1, -1, -1, 0, 0, 0, 0⟩
def inN (l r : Int) : Nd := ⟨2, l, r, 0, 0, 0, 0⟩
def wrN : Nd := ⟨1, 0, -1, 0, 0, 0, 0⟩

set_option maxRecDepth 100000 in
set_option maxHeartbeats 1000000 in
theorem leaf5_any (w : World) : Calls Try.prog 39 #[] w fun e w' => e = .returned lfN.val ∧ Below w.heap.size w w' := by
  go_enter Try.func39, Try.ntmps39
  go_wp2
  exact bodyPost_ret (v := lfN.val) (by simp [results, Try.results39, go_sem, lfN]) rfl ⟨rfl, (Below.refl _ _).alloc (Nat.le_refl _) _⟩
set_option maxRecDepth 100000 in
set_option maxHeartbeats 1000000 in
theorem inner5_any (l r : Int) (w : World) : Calls Try.prog 33 #[.int .i64 l, .int .i64 r] w fun e w' => e = .returned (inN l r).val ∧ Below w.heap.size w w' := by
  go_enter Try.func33, Try.ntmps33
  go_wp2
  exact bodyPost_ret (v := (inN l r).val) (by simp [results, Try.results33, go_sem, inN]) rfl ⟨rfl, (Below.refl _ _).alloc (Nat.le_refl _) _⟩

/-- The examples' entries: a node, its place, its error. -/
def exE : List (Nd × Int × Int) := [(lfN, 0, 0), (lfN, 1, 0), (inN 0 0, 0, 50), (inN 0 2, 0, 50), (inN 1 0, 2, 0), (lfN, 0, 5), (inN 1 (-1), 0, 50), (inN (-1) (-1), 0, 50), (wrN, 0, 50)]
def exCells : Array Value := ((exE.map fun x => x.1.cells.toList ++ [.int .i64 x.2.1, .int .i64 x.2.2]).flatten).toArray
def exP (j : Nat) : List Nd := puts 3 ((exE.take j).map (·.1))
theorem ex_step (j : Nat) (h : j < 9) : putAt (exP j) 3 (exE.getD j (lfN, 0, 0)).1 = (exE.getD j (lfN, 0, 0)).2.1 ∧ putErr (exP j) 3 (exE.getD j (lfN, 0, 0)).1 = (exE.getD j (lfN, 0, 0)).2.2 ∧ putNs (exP j) 3 (exE.getD j (lfN, 0, 0)).1 = exP (j + 1) := by
  match j, h with
  | 0, _ => exact ⟨rfl, rfl, rfl⟩
  | 1, _ => exact ⟨rfl, rfl, rfl⟩
  | 2, _ => exact ⟨rfl, rfl, rfl⟩
  | 3, _ => exact ⟨rfl, rfl, rfl⟩
  | 4, _ => exact ⟨rfl, rfl, rfl⟩
  | 5, _ => exact ⟨rfl, rfl, rfl⟩
  | 6, _ => exact ⟨rfl, rfl, rfl⟩
  | 7, _ => exact ⟨rfl, rfl, rfl⟩
  | 8, _ => exact ⟨rfl, rfl, rfl⟩
theorem ex_cell (j i : Nat) (h : j < 9) (hi : i < 9) : exCells[j * 9 + i]? = ((exE.getD j (lfN, 0, 0)).1.cells.toList ++ [.int .i64 (exE.getD j (lfN, 0, 0)).2.1, .int .i64 (exE.getD j (lfN, 0, 0)).2.2])[i]? := by
  match j, h with
  | 0, _ => match i, hi with | 0, _ => rfl | 1, _ => rfl | 2, _ => rfl | 3, _ => rfl | 4, _ => rfl | 5, _ => rfl | 6, _ => rfl | 7, _ => rfl | 8, _ => rfl
  | 1, _ => match i, hi with | 0, _ => rfl | 1, _ => rfl | 2, _ => rfl | 3, _ => rfl | 4, _ => rfl | 5, _ => rfl | 6, _ => rfl | 7, _ => rfl | 8, _ => rfl
  | 2, _ => match i, hi with | 0, _ => rfl | 1, _ => rfl | 2, _ => rfl | 3, _ => rfl | 4, _ => rfl | 5, _ => rfl | 6, _ => rfl | 7, _ => rfl | 8, _ => rfl
  | 3, _ => match i, hi with | 0, _ => rfl | 1, _ => rfl | 2, _ => rfl | 3, _ => rfl | 4, _ => rfl | 5, _ => rfl | 6, _ => rfl | 7, _ => rfl | 8, _ => rfl
  | 4, _ => match i, hi with | 0, _ => rfl | 1, _ => rfl | 2, _ => rfl | 3, _ => rfl | 4, _ => rfl | 5, _ => rfl | 6, _ => rfl | 7, _ => rfl | 8, _ => rfl
  | 5, _ => match i, hi with | 0, _ => rfl | 1, _ => rfl | 2, _ => rfl | 3, _ => rfl | 4, _ => rfl | 5, _ => rfl | 6, _ => rfl | 7, _ => rfl | 8, _ => rfl
  | 6, _ => match i, hi with | 0, _ => rfl | 1, _ => rfl | 2, _ => rfl | 3, _ => rfl | 4, _ => rfl | 5, _ => rfl | 6, _ => rfl | 7, _ => rfl | 8, _ => rfl
  | 7, _ => match i, hi with | 0, _ => rfl | 1, _ => rfl | 2, _ => rfl | 3, _ => rfl | 4, _ => rfl | 5, _ => rfl | 6, _ => rfl | 7, _ => rfl | 8, _ => rfl
  | 8, _ => match i, hi with | 0, _ => rfl | 1, _ => rfl | 2, _ => rfl | 3, _ => rfl | 4, _ => rfl | 5, _ => rfl | 6, _ => rfl | 7, _ => rfl | 8, _ => rfl

def exR : List Nd := [lfN, lfN, inN 1 0]
def exRaw : Array Value := #[.int .u8 lfN.k, .int .i64 lfN.l, .int .i64 lfN.r, .int .i64 lfN.f, .int .i64 lfN.t, .int .i64 lfN.a, .int .i64 lfN.i, .int .i64 0, .int .i64 0, .int .u8 lfN.k, .int .i64 lfN.l, .int .i64 lfN.r, .int .i64 lfN.f, .int .i64 lfN.t, .int .i64 lfN.a, .int .i64 lfN.i, .int .i64 1, .int .i64 0, .int .u8 (inN 0 0).k, .int .i64 (inN 0 0).l, .int .i64 (inN 0 0).r, .int .i64 (inN 0 0).f, .int .i64 (inN 0 0).t, .int .i64 (inN 0 0).a, .int .i64 (inN 0 0).i, .int .i64 0, .int .i64 50, .int .u8 (inN 0 2).k, .int .i64 (inN 0 2).l, .int .i64 (inN 0 2).r, .int .i64 (inN 0 2).f, .int .i64 (inN 0 2).t, .int .i64 (inN 0 2).a, .int .i64 (inN 0 2).i, .int .i64 0, .int .i64 50, .int .u8 (inN 1 0).k, .int .i64 (inN 1 0).l, .int .i64 (inN 1 0).r, .int .i64 (inN 1 0).f, .int .i64 (inN 1 0).t, .int .i64 (inN 1 0).a, .int .i64 (inN 1 0).i, .int .i64 2, .int .i64 0, .int .u8 lfN.k, .int .i64 lfN.l, .int .i64 lfN.r, .int .i64 lfN.f, .int .i64 lfN.t, .int .i64 lfN.a, .int .i64 lfN.i, .int .i64 0, .int .i64 5, .int .u8 (inN 1 (-1)).k, .int .i64 (inN 1 (-1)).l, .int .i64 (inN 1 (-1)).r, .int .i64 (inN 1 (-1)).f, .int .i64 (inN 1 (-1)).t, .int .i64 (inN 1 (-1)).a, .int .i64 (inN 1 (-1)).i, .int .i64 0, .int .i64 50, .int .u8 (inN (-1) (-1)).k, .int .i64 (inN (-1) (-1)).l, .int .i64 (inN (-1) (-1)).r, .int .i64 (inN (-1) (-1)).f, .int .i64 (inN (-1) (-1)).t, .int .i64 (inN (-1) (-1)).a, .int .i64 (inN (-1) (-1)).i, .int .i64 0, .int .i64 50, .int .u8 1, .int .i64 0, .int .i64 (-1), .int .i64 0, .int .i64 0, .int .i64 0, .int .i64 0, .int .i64 0, .int .i64 50]
theorem exCells_eq : exCells = exRaw := rfl
/-- The examples' entries lie at an address. -/
def ExRow (w : World) (so : Option Addr) (b : Nat) : Prop := ∃ off, so = some ⟨b, off, none⟩ ∧ ∀ i, i < 81 → w.cell? ⟨b, off + i, none⟩ = exCells[i]?
theorem ExRow.keep {w w' : World} {so : Option Addr} {b : Nat} (h : ExRow w so b) (hb : w'.heap[b]? = w.heap[b]?) : ExRow w' so b := by
  obtain ⟨off, e, h⟩ := h
  exact ⟨off, e, fun i hi => (World.cell?_of_block hb).trans (h i hi)⟩
theorem ex_alloc (w : World) (e : TypeId) : ExRow (w.alloc (.cells exCells e)) (some ⟨w.heap.size, 0, none⟩) w.heap.size :=
  ⟨_, rfl, fun i _ => by rw [Nat.zero_add, cells_at]⟩

set_option maxRecDepth 100000 in
set_option maxHeartbeats 4000000 in
theorem awake5_any (w : World) : Calls Try.prog 30 #[] w fun e w' => e = .returned (.bool true) ∧ Below w.heap.size w w' := by
  go_enter Try.func30, Try.ntmps30
  go_wp2_with fail
  refine (new_any 3 _ (by omega) (by omega)).mono ?_
  rintro e w1 ⟨rfl, rfl⟩
  have HP1 := Lib.hid (PoolOwn.new w 3 (by omega) (by omega) (Nat.le_refl w.heap.size))
  have HB1 := Lib.hid ((Below.refl w.heap.size w).alloc (Nat.le_refl _) (newPool 3))
  generalize w.alloc (newPool 3) = V1 at HP1 HB1 ⊢
  go_wp2_with fail
  refine (leaf5_any V1).mono ?_
  rintro e V2 ⟨rfl, hb2⟩
  have HP2 := Lib.hid (HP1.out.later hb2)
  have HB2 := Lib.hid (bl HB1.out HB1.out.size hb2)
  clear hb2
  go_wp2_with fail
  -- REGION
  refine from_box1 (fun V3 hV => ?_)
  obtain ⟨hB3, zlt, zge, cn, fn⟩ := hV
  have HP3 := Lib.hid (HP2.out.later hB3)
  have HB3 := Lib.hid (bl HB2.out HB2.out.size hB3)
  have b0 : V3.cell? ⟨V2.heap.size, 0, none⟩ = some (.int .u8 1) := cn 0
  have b1 : V3.cell? ⟨V2.heap.size, 1, none⟩ = some (.int .i64 0) := cn 1
  have b2 : V3.cell? ⟨V2.heap.size, 2, none⟩ = some (.int .i64 (-1)) := cn 2
  have b3 : V3.cell? ⟨V2.heap.size, 3, none⟩ = some (.int .i64 0) := cn 3
  have b4 : V3.cell? ⟨V2.heap.size, 4, none⟩ = some (.int .i64 0) := cn 4
  have b5 : V3.cell? ⟨V2.heap.size, 5, none⟩ = some (.int .i64 0) := cn 5
  have b6 : V3.cell? ⟨V2.heap.size, 6, none⟩ = some (.int .i64 0) := cn 6
  clear hB3 cn fn
  have hS : Below V3.heap.size V3 V3.drew := (Below.refl _ _).drew
  refine wp_region_until (fun w' => Below V3.heap.size V3 w') [0, 1, 2, 3, 4, 5, 6, 7, 8, 9, 10, 11, 12, 13, 14, 15, 16] (by kernel_rfl) ?_
  refine wpAnyU_free (i := 20) rfl (by kernel_rfl) (by kernel_rfl) (by kernel_rfl) (by kernel_rfl) (by kernel_rfl) (fun _ _ _ h => h) rfl (fun w => by go_simp; rfl) (.inr hS) ?_
  (try simp only [Act.put, List.setIfInBounds_toArray, List.set_cons_zero, List.set_cons_succ])
  refine wpAnyU_take (i := 16) rfl (by kernel_rfl) (by kernel_rfl) (by kernel_rfl) (by kernel_rfl) (by kernel_rfl) (by kernel_rfl) (fun _ _ _ h => h) rfl (by intro w hw; have e0 := (hw.cell (p := ⟨V2.heap.size, 0, none⟩) zlt).trans b0; have e1 := (hw.cell (p := ⟨V2.heap.size, 1, none⟩) zlt).trans b1; have e2 := (hw.cell (p := ⟨V2.heap.size, 2, none⟩) zlt).trans b2; have e3 := (hw.cell (p := ⟨V2.heap.size, 3, none⟩) zlt).trans b3; have e4 := (hw.cell (p := ⟨V2.heap.size, 4, none⟩) zlt).trans b4; have e5 := (hw.cell (p := ⟨V2.heap.size, 5, none⟩) zlt).trans b5; have e6 := (hw.cell (p := ⟨V2.heap.size, 6, none⟩) zlt).trans b6; go_simp; rfl) hS ?_
  (try simp only [Act.put, List.setIfInBounds_toArray, List.set_cons_zero, List.set_cons_succ])
  refine wpAnyU_free (i := 17) rfl (by kernel_rfl) (by kernel_rfl) (by kernel_rfl) (by kernel_rfl) (by kernel_rfl) (fun _ _ _ h => h) rfl (fun w => by go_simp; rfl) (.inr hS) ?_
  (try simp only [Act.put, List.setIfInBounds_toArray, List.set_cons_zero, List.set_cons_succ])
  refine wpAnyU_step (i := 0) rfl (by kernel_rfl) rfl (fun K hK => ?_)
  go_simp
  refine (leaf5_any _).mono ?_
  rintro e X0 ⟨rfl, hx0⟩
  refine hK.out _ _ (bl hS hS.size hx0) (fun hS => ?_)
  clear hK K hx0
  (try simp only [Act.put, List.setIfInBounds_toArray, List.set_cons_zero, List.set_cons_succ])
  refine wpAnyU_take (i := 1) rfl (by kernel_rfl) (by kernel_rfl) (by kernel_rfl) (by kernel_rfl) (by kernel_rfl) (by kernel_rfl) (fun _ _ _ h => h) rfl (by intro w hw; go_simp; rfl) hS ?_
  (try simp only [Act.put, List.setIfInBounds_toArray, List.set_cons_zero, List.set_cons_succ])
  refine wpAnyU_step (i := 2) rfl (by kernel_rfl) rfl (fun K hK => ?_)
  go_simp
  refine (leaf5_any _).mono ?_
  rintro e X1 ⟨rfl, hx1⟩
  refine hK.out _ _ (bl hS hS.size hx1) (fun hS => ?_)
  clear hK K hx1
  (try simp only [Act.put, List.setIfInBounds_toArray, List.set_cons_zero, List.set_cons_succ])
  refine wpAnyU_take (i := 3) rfl (by kernel_rfl) (by kernel_rfl) (by kernel_rfl) (by kernel_rfl) (by kernel_rfl) (by kernel_rfl) (fun _ _ _ h => h) rfl (by intro w hw; go_simp; rfl) hS ?_
  (try simp only [Act.put, List.setIfInBounds_toArray, List.set_cons_zero, List.set_cons_succ])
  refine wpAnyU_step (i := 4) rfl (by kernel_rfl) rfl (fun K hK => ?_)
  go_simp
  refine (inner5_any 0 0 _).mono ?_
  rintro e X2 ⟨rfl, hx2⟩
  refine hK.out _ _ (bl hS hS.size hx2) (fun hS => ?_)
  clear hK K hx2
  (try simp only [Act.put, List.setIfInBounds_toArray, List.set_cons_zero, List.set_cons_succ])
  refine wpAnyU_take (i := 5) rfl (by kernel_rfl) (by kernel_rfl) (by kernel_rfl) (by kernel_rfl) (by kernel_rfl) (by kernel_rfl) (fun _ _ _ h => h) rfl (by intro w hw; go_simp; rfl) hS ?_
  (try simp only [Act.put, List.setIfInBounds_toArray, List.set_cons_zero, List.set_cons_succ])
  refine wpAnyU_step (i := 6) rfl (by kernel_rfl) rfl (fun K hK => ?_)
  go_simp
  refine (inner5_any 0 2 _).mono ?_
  rintro e X3 ⟨rfl, hx3⟩
  refine hK.out _ _ (bl hS hS.size hx3) (fun hS => ?_)
  clear hK K hx3
  (try simp only [Act.put, List.setIfInBounds_toArray, List.set_cons_zero, List.set_cons_succ])
  refine wpAnyU_take (i := 7) rfl (by kernel_rfl) (by kernel_rfl) (by kernel_rfl) (by kernel_rfl) (by kernel_rfl) (by kernel_rfl) (fun _ _ _ h => h) rfl (by intro w hw; go_simp; rfl) hS ?_
  (try simp only [Act.put, List.setIfInBounds_toArray, List.set_cons_zero, List.set_cons_succ])
  refine wpAnyU_step (i := 8) rfl (by kernel_rfl) rfl (fun K hK => ?_)
  go_simp
  refine (inner5_any 1 0 _).mono ?_
  rintro e X4 ⟨rfl, hx4⟩
  refine hK.out _ _ (bl hS hS.size hx4) (fun hS => ?_)
  clear hK K hx4
  (try simp only [Act.put, List.setIfInBounds_toArray, List.set_cons_zero, List.set_cons_succ])
  refine wpAnyU_take (i := 9) rfl (by kernel_rfl) (by kernel_rfl) (by kernel_rfl) (by kernel_rfl) (by kernel_rfl) (by kernel_rfl) (fun _ _ _ h => h) rfl (by intro w hw; go_simp; rfl) hS ?_
  (try simp only [Act.put, List.setIfInBounds_toArray, List.set_cons_zero, List.set_cons_succ])
  refine wpAnyU_step (i := 10) rfl (by kernel_rfl) rfl (fun K hK => ?_)
  go_simp
  refine (leaf5_any _).mono ?_
  rintro e X5 ⟨rfl, hx5⟩
  refine hK.out _ _ (bl hS hS.size hx5) (fun hS => ?_)
  clear hK K hx5
  (try simp only [Act.put, List.setIfInBounds_toArray, List.set_cons_zero, List.set_cons_succ])
  refine wpAnyU_take (i := 11) rfl (by kernel_rfl) (by kernel_rfl) (by kernel_rfl) (by kernel_rfl) (by kernel_rfl) (by kernel_rfl) (fun _ _ _ h => h) rfl (by intro w hw; go_simp; rfl) hS ?_
  (try simp only [Act.put, List.setIfInBounds_toArray, List.set_cons_zero, List.set_cons_succ])
  refine wpAnyU_step (i := 12) rfl (by kernel_rfl) rfl (fun K hK => ?_)
  go_simp
  refine (inner5_any 1 (-1) _).mono ?_
  rintro e X6 ⟨rfl, hx6⟩
  refine hK.out _ _ (bl hS hS.size hx6) (fun hS => ?_)
  clear hK K hx6
  (try simp only [Act.put, List.setIfInBounds_toArray, List.set_cons_zero, List.set_cons_succ])
  refine wpAnyU_take (i := 13) rfl (by kernel_rfl) (by kernel_rfl) (by kernel_rfl) (by kernel_rfl) (by kernel_rfl) (by kernel_rfl) (fun _ _ _ h => h) rfl (by intro w hw; go_simp; rfl) hS ?_
  (try simp only [Act.put, List.setIfInBounds_toArray, List.set_cons_zero, List.set_cons_succ])
  refine wpAnyU_step (i := 14) rfl (by kernel_rfl) rfl (fun K hK => ?_)
  go_simp
  refine (inner5_any (-1) (-1) _).mono ?_
  rintro e X7 ⟨rfl, hx7⟩
  refine hK.out _ _ (bl hS hS.size hx7) (fun hS => ?_)
  clear hK K hx7
  (try simp only [Act.put, List.setIfInBounds_toArray, List.set_cons_zero, List.set_cons_succ])
  refine wpAnyU_take (i := 15) rfl (by kernel_rfl) (by kernel_rfl) (by kernel_rfl) (by kernel_rfl) (by kernel_rfl) (by kernel_rfl) (fun _ _ _ h => h) rfl (by intro w hw; go_simp; rfl) hS ?_
  (try simp only [Act.put, List.setIfInBounds_toArray, List.set_cons_zero, List.set_cons_succ])
  refine wpAnyU_late (i := 18) rfl (by kernel_rfl) rfl (by kernel_rfl) (fun K hK => ?_)
  go_simp
  refine hK.out _ _ ?_
  clear hK K
  (try simp only [Act.put, List.setIfInBounds_toArray, List.set_cons_zero, List.set_cons_succ])
  refine wpAnyU_late (i := 19) rfl (by kernel_rfl) rfl (by kernel_rfl) (fun K hK => ?_)
  go_simp
  refine hK.out _ _ ?_
  clear hK K
  (try simp only [Act.put, List.setIfInBounds_toArray, List.set_cons_zero, List.set_cons_succ])
  refine wpAnyU_done (by kernel_rfl) ?_ _
  (try simp only [Act.put, List.setIfInBounds_toArray, List.set_cons_zero, List.set_cons_succ])
  obtain ⟨HX8, h8⟩ : ExRow (X7.alloc (.cells exCells 72)) (some ⟨X7.heap.size, 0, none⟩) X7.heap.size ∧ Below X7.heap.size X7 (X7.alloc (.cells exCells 72)) := ⟨ex_alloc _ _, (Below.refl _ _).alloc (Nat.le_refl _) _⟩
  have h9 := bl hS hS.size h8
  have HX := Lib.hid HX8
  have HP8 := Lib.hid (show PoolFar w.heap.size w.heap.size 3 (exP 0) [X7.heap.size] _ from PoolFar.made (HP3.out.later (bl (Below.refl _ _) (Nat.le_refl _) hS)).farNil h8 (Nat.le_refl _) (by simp))
  have HB8 := Lib.hid (bl HB3.out HB3.out.size h9)
  clear HX8 h8 h9 hS HP1 HB1 HP2 HB2 HP3 HB3 b0 b1 b2 b3 b4 b5 b6
  rw [exCells_eq] at HX HP8 HB8
  obtain ⟨so, hso⟩ : ∃ so, (some ⟨X7.heap.size, 0, none⟩ : Option Addr) = so := ⟨_, rfl⟩
  obtain ⟨xb, hxb⟩ : ∃ xb, X7.heap.size = xb := ⟨_, rfl⟩
  rw [hso] at HX ⊢
  rw [hxb] at HX HP8
  clear hso hxb
  go_wp2_with fail
  go_loopw [41] (fun i wr => ∃ j : Nat, j ≤ 9 ∧ i = .int .i64 j ∧ Hid (PoolFar w.heap.size w.heap.size 3 (exP j) [xb] wr) ∧ Hid (Below w.heap.size w wr) ∧ Hid (ExRow wr so xb)) (fun i _ => 9 - (intOf i).toNat)
  case atStart => exact ⟨0, by omega, rfl, HP8, HB8, HX⟩
  case round =>
    clear HP8 HB8 HX
    obtain ⟨j, hj, rfl, HP, HB, HX⟩ := hrel
    by_cases hlt : j < 9
    · obtain ⟨off, rfl, hc⟩ := HX.out
      have hst := ex_step j hlt
      have c0 := (hc (j * 9 + 0) (by omega)).trans (ex_cell j 0 hlt (by omega))
      have c1 := (hc (j * 9 + 1) (by omega)).trans (ex_cell j 1 hlt (by omega))
      have c2 := (hc (j * 9 + 2) (by omega)).trans (ex_cell j 2 hlt (by omega))
      have c3 := (hc (j * 9 + 3) (by omega)).trans (ex_cell j 3 hlt (by omega))
      have c4 := (hc (j * 9 + 4) (by omega)).trans (ex_cell j 4 hlt (by omega))
      have c5 := (hc (j * 9 + 5) (by omega)).trans (ex_cell j 5 hlt (by omega))
      have c6 := (hc (j * 9 + 6) (by omega)).trans (ex_cell j 6 hlt (by omega))
      have c7 := (hc (j * 9 + 7) (by omega)).trans (ex_cell j 7 hlt (by omega))
      have c8 := (hc (j * 9 + 8) (by omega)).trans (ex_cell j 8 hlt (by omega))
      clear hc
      obtain ⟨x, hx⟩ : ∃ x, exE.getD j (lfN, 0, 0) = x := ⟨_, rfl⟩
      rw [hx] at c0 c1 c2 c3 c4 c5 c6 c7 c8 hst
      clear hx
      obtain ⟨n, ax, ex⟩ := x
      replace c0 : wr.cell? ⟨xb, off + j * 9, none⟩ = some (.int .u8 n.k) := c0
      replace c1 : wr.cell? ⟨xb, off + j * 9 + 1, none⟩ = some (.int .i64 n.l) := c1
      replace c2 : wr.cell? ⟨xb, off + j * 9 + 2, none⟩ = some (.int .i64 n.r) := c2
      replace c3 : wr.cell? ⟨xb, off + j * 9 + 3, none⟩ = some (.int .i64 n.f) := c3
      replace c4 : wr.cell? ⟨xb, off + j * 9 + 4, none⟩ = some (.int .i64 n.t) := c4
      replace c5 : wr.cell? ⟨xb, off + j * 9 + 5, none⟩ = some (.int .i64 n.a) := c5
      replace c6 : wr.cell? ⟨xb, off + j * 9 + 6, none⟩ = some (.int .i64 n.i) := c6
      replace c7 : wr.cell? ⟨xb, off + j * 9 + 7, none⟩ = some (.int .i64 ax) := c7
      replace c8 : wr.cell? ⟨xb, off + j * 9 + 8, none⟩ = some (.int .i64 ex) := c8
      have HST := Lib.hid hst
      clear hst
      go_wp2_with fail
      have hbx : Below wr.heap.size wr (wr.alloc (.cells #[.int .u8 n.k, .int .i64 n.l, .int .i64 n.r, .int .i64 n.f, .int .i64 n.t, .int .i64 n.a, .int .i64 n.i, .int .i64 ax, .int .i64 ex] 72)) := (Below.refl _ _).alloc (Nat.le_refl _) _
      refine (put_far n _ (HP.out.made hbx (Nat.le_refl _) (by simp)) (Nat.le_trans HB.out.size hbx.size)).mono ?_
      rintro e w2 ⟨rfl, hp2, hb2, hk⟩
      have d7 : w2.cell? ⟨wr.heap.size, 7, none⟩ = some (.int .i64 ax) := (World.cell?_of_block (hk wr.heap.size (by simp))).trans (cells_at _ _ _ 7)
      have d8 : w2.cell? ⟨wr.heap.size, 8, none⟩ = some (.int .i64 ex) := (World.cell?_of_block (hk wr.heap.size (by simp))).trans (cells_at _ _ _ 8)
      have HX2 := Lib.hid (HX.out.keep ((hk xb (by simp)).trans (hbx.block xb ((World.block_lt_of_cell? _ _ c0)))))
      have HP2 := Lib.hid (hp2.sub (B' := [xb]) (by simp))
      have HB2 := Lib.hid (bl HB.out HB.out.size hbx |>.trans hb2)
      rw [HST.out.1, HST.out.2.1]
      rw [HST.out.2.2] at HP2
      clear hp2 hb2 hk hbx HX HP HB HST c0 c1 c2 c3 c4 c5 c6 c7 c8
      go_wp2_with fail
      go_roundw
      case rel => exact ⟨j + 1, by omega, by go_num, HP2, HB2, HX2⟩
      case measure => simp [intOf]; omega
    · have hj9 : j = 9 := by omega
      subst hj9
      clear hlt
      have HP9 := Lib.hid (HP.out.own)
      rw [show exP 9 = exR from rfl] at HP9
      clear HP HX
      have HW := Lib.hid (show hRes exR 2 = 1 ∧ walkErr exR 2 = 0 by decide)
      go_wp2_with fail
      refine (nodes_own wr HP9.out).mono ?_
      rintro e w2 ⟨xa, xc, rfl, hox, hb2⟩
      have hcap := own_cap hox
      have HB2 := Lib.hid (bl HB.out HB.out.size hb2)
      have HP2 := Lib.hid (HP9.out.later hb2)
      clear hb2 HP9 HB
      go_wp2_with fail
      refine (height_any exR xa xc 2 _ (row_of_nodes hox rfl) (by decide) hcap).mono ?_
      rw [HW.out.1, HW.out.2]
      rintro e w3 ⟨rfl, hb3⟩
      have HB3 := Lib.hid (bl HB2.out HB2.out.size hb3)
      have HP3 := Lib.hid (HP2.out.later hb3)
      clear hox hcap hb3 HP2 HB2
      go_wp2_with fail
      refine (roots_own _ HP3.out).mono ?_
      rw [show rootsL (ksFrom [] exR) = [2] by decide]
      rintro e w4 ⟨ra, rc, rfl, hor, hb4⟩
      have HR := Lib.hid (row_of_owned hor)
      have HB4 := Lib.hid (bl HB3.out HB3.out.size hb4)
      have HP4 := Lib.hid (HP3.out.later hb4)
      clear hor hb4 HP3 HB3
      go_wp2_with fail
      have f1 : Below w4.heap.size w4 (w4.alloc (.cells ([2].map (Value.int .i64)).toArray 3)) := (Below.refl _ _).alloc (Nat.le_refl _) _
      refine (ints_any [2] [2] ra (some ⟨w4.heap.size, 0, none⟩) rc 1 _ (HR.out.later f1) (row_lit w4 [2] 3) (by decide) (by decide)).mono ?_
      rw [show sameB [2] [2] = true by decide]
      rintro e w5 ⟨rfl, hb5⟩
      have HB5 := Lib.hid (bl HB4.out HB4.out.size (bl f1 f1.size hb5))
      have HP5 := Lib.hid ((HP4.out.later f1).later hb5)
      clear HR f1 hb5 HP4 HB4
      go_wp2_with fail
      refine (len_own _ HP5.out).mono ?_
      rintro e w6 ⟨rfl, rfl⟩
      rw [show (exR.length : Int) = 3 by decide]
      go_wp2_with fail
      refine (nodes_own _ HP5.out).mono ?_
      rintro e w7 ⟨ya, yc, rfl, hoy, hb7⟩
      have HB7 := Lib.hid (bl HB5.out HB5.out.size hb7)
      have HY := Lib.hid (row_of_nodes hoy rfl)
      clear hoy hb7 HP5 HB5
      go_wp2_with fail
      refine (right_any exR ya yc _ HY.out (by decide)).mono ?_
      rw [show rightL [] exR = true by decide]
      rintro e w8 ⟨rfl, hb8⟩
      have HB8 := Lib.hid (bl HB7.out HB7.out.size hb8)
      clear hb8 HY HB7
      go_wp2
      go_ret
      exact ⟨rfl, HB8.out⟩
end Go.Proofs.Ytjpemijonjmcdaa
