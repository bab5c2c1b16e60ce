import Derived.Test.YtokpgopdkimmmaaGreatDoorToldM2
import Derived.IntWalk
import Derived.Deep.Cut
import Derived.Deep.CutRange
import Derived.Deep.DeepCutAuto
/- cells.Area (written by gen/marea.py). -/
namespace Go.Proofs.YtokpgopdkimmmaaGreatDoor
open Go.RowKit
set_option linter.unusedVariables false
set_option linter.unusedSimpArgs false

def addW (a b : Nat) : Nat := if a + b < wTop then a + b else 0
theorem addW_lt (a b : Nat) : addW a b < wTop := by
  unfold addW
  split
  · assumption
  · unfold wTop; omega
def gapN (l : List Int) (i : Nat) : Nat := (l.getD (i + 1) 0 - l.getD i 0).toNat
def cellAcc (zs : List BxV) (i acc k : Nat) : Nat := if colH zs i k = true then addW acc (gapN (linesX zs) i * gapN (linesY zs) k) else acc
def colAcc (zs : List BxV) (acc i : Nat) : Nat := (List.range ((linesY zs).length - 1)).foldl (cellAcc zs i) acc
/-- How many cells boxes cover. -/
def areaL (zs : List BxV) : Nat := (List.range ((linesX zs).length - 1)).foldl (colAcc zs) 0
theorem fold_range_succ {α : Type} (f : α → Nat → α) (a : α) (n : Nat) : (List.range (n + 1)).foldl f a = f ((List.range n).foldl f a) n := by
  rw [List.range_succ, List.foldl_append]; rfl
theorem cellAcc_lt (zs : List BxV) (i acc k : Nat) (h : acc < wTop) : cellAcc zs i acc k < wTop := by
  unfold cellAcc
  split
  · exact addW_lt _ _
  · exact h
theorem fold_lt (f : Nat → Nat → Nat) (hf : ∀ a k, a < wTop → f a k < wTop) (a : Nat) (ha : a < wTop) : ∀ n, (List.range n).foldl f a < wTop
  | 0 => ha
  | n + 1 => by rw [fold_range_succ]; exact hf _ _ (fold_lt f hf a ha n)
theorem colAcc_lt (zs : List BxV) (acc i : Nat) (h : acc < wTop) : colAcc zs acc i < wTop := fold_lt _ (fun a k ha => cellAcc_lt zs i a k ha) _ h _
theorem areaL_lt (zs : List BxV) : areaL zs < wTop := fold_lt _ (fun a k ha => colAcc_lt zs a k ha) _ (by unfold wTop; omega) _
/-- Boxes whose sides are numbers of 64 bits. -/
def Bx64 (zs : List BxV) : Prop := ∀ b ∈ zs, In64 b.x1 ∧ In64 b.x2 ∧ In64 b.y1 ∧ In64 b.y2
theorem squeeze_mem {l : List Int} {x : Int} (h : x ∈ squeezeL l) : x ∈ l := by
  unfold squeezeL Lib.compactUpTo at h
  obtain ⟨j, hj, rfl⟩ := List.mem_map.1 h
  have hjl := List.mem_range.1 (List.mem_filter.1 hj).1
  rw [getElem!_pos _ j (by simpa using hjl)]
  exact (sortI_perm l).mem_iff.1 (by simp)
theorem lines64 {zs : List BxV} (h : Bx64 zs) : (∀ x ∈ linesX zs, In64 x) ∧ ∀ y ∈ linesY zs, In64 y := by
  refine ⟨fun x hx => ?_, fun y hy => ?_⟩
  · obtain ⟨b, hb, hxb⟩ := List.mem_flatMap.1 (squeeze_mem hx)
    have h1 := h b (List.mem_filter.1 hb).1
    simp at hxb
    rcases hxb with rfl | rfl
    · exact h1.1
    · exact h1.2.1
  · obtain ⟨b, hb, hxb⟩ := List.mem_flatMap.1 (squeeze_mem hy)
    have h1 := h b (List.mem_filter.1 hb).1
    simp at hxb
    rcases hxb with rfl | rfl
    · exact h1.2.2.1
    · exact h1.2.2.2
theorem gap_eq {l : List Int} {i : Nat} {a b : Int} (ha : l[i]? = some a) (hb : l[i + 1]? = some b) : gapN l i = (b - a).toNat := by
  unfold gapN
  rw [List.getD_eq_getElem?_getD, hb, List.getD_eq_getElem?_getD, ha]; rfl
theorem gap_lt {a b : Int} (ha : In64 a) (hb : In64 b) : (b - a).toNat < 18446744073709551616 := by unfold In64 at *; omega
theorem flat_one {α : Type} (f : α → Value) (l : List α) : flatR (fun x => #[f x]) l = l.map f := by
  unfold flatR
  induction l with
  | nil => rfl
  | cons x l ih => rw [List.flatMap_cons, List.map_cons, ih]; rfl
theorem Cols.at_ {zs : List BxV} {B : Nat} {W : World} {A : Option Addr} {m c n : Nat} {gs : List Nat} (h : Cols zs B W (.slice A m c) n gs) (hm : m = gs.length) {i g : Nat} (hg : gs[i]? = some g) : ∃ ga lo, A = some ⟨ga, lo, none⟩ ∧ W.cell? ⟨ga, lo + i, none⟩ = some (colV n g) := by
  subst hm
  have hr : RecRow W (fun g => #[colV n g]) 1 A gs := RecRow.of_own (enc := fun g => #[colV n g]) (k := 1) (base := B) (e := 218) (c := c) (n := gs.length) (fun _ => rfl) (by rw [flat_one]; exact h.row) rfl
  obtain ⟨ga, lo, rfl, _, hc⟩ := hr.at_ hg
  exact ⟨ga, lo, rfl, by have h := hc 0 (by omega); simpa using h⟩
abbrev wideC (n : Nat) : Array Value := #[.int .u64 ((n / 18446744073709551616 : Nat) : Int), .int .u64 ((n % 18446744073709551616 : Nat) : Int)]
set_option maxRecDepth 100000 in
set_option maxHeartbeats 4000000 in
theorem area_any (zs : List BxV) (hz : zs.length ≤ 100000) (h64 : Bx64 zs) (A : Option Addr) (c : Nat) (w : World) (hr : RecRow w BxV.cells 5 A zs) :
    Calls Tryz.prog 122 #[.slice A zs.length c] w fun e w' => e = .returned (wideV (areaL zs)) ∧ Below w.heap.size w w' := by
  have HL64 := Lib.hid (lines64 h64)
  have K2 := Lib.hid (Blk.new w 31 (wideC 0))
  have HB0 := Lib.hid ((Below.refl w.heap.size w).alloc (Nat.le_refl _) (.cells (wideC 0) 31))
  have HR := Lib.hid (hr.later ((Below.refl _ _).alloc (Nat.le_refl _) (.cells (wideC 0) 31)))
  clear hr h64
  go_enter Tryz.func122, Tryz.ntmps122
  go_wp2_with fail
  refine (blocks_any zs hz A c _ HR.out).mono ?_
  rintro e w1 ⟨X, cx, Y, cy, B, v, gs, rfl, hrx, hry, hgl, hc, hB, hb1⟩
  have K21 := Lib.hid (K2.out.below hb1 K2.out.lt)
  have HB1 := Lib.hid (bl HB0.out HB0.out.size hb1)
  obtain ⟨b2, hb2⟩ : ∃ b, w.heap.size = b := ⟨_, rfl⟩
  have HLT := Lib.hid (show w.heap.size ≤ b2 by omega)
  rw [hb2] at K21 ⊢
  obtain ⟨va, vc, rfl⟩ := own_shape1 hc.row
  obtain ⟨nx, hnx⟩ : ∃ n, (linesX zs).length - 1 = n := ⟨_, rfl⟩
  obtain ⟨ny, hny⟩ : ∃ n, (linesY zs).length - 1 = n := ⟨_, rfl⟩
  rw [hny] at hc
  rw [hnx] at hgl
  have HNN := Lib.hid (And.intro hnx hny)
  have hnl : nx ≤ 200000 ∧ ny ≤ 200000 := by
    have h1 := raw_le zs
    have h2 := squeezeL_le (rawX zs)
    have h3 := squeezeL_le (rawY zs)
    unfold linesX at hnx
    unfold linesY at hny
    omega
  have HX := Lib.hid hrx
  have HY := Lib.hid hry
  have HC := Lib.hid hc
  have HGL := Lib.hid hgl
  rw [hgl]
  have K6 := Lib.hid (Blk.new w1 31 (wideC 0))
  have HAL := Lib.hid ((Below.refl w1.heap.size w1).alloc (Nat.le_refl _) (.cells (wideC 0) 31))
  clear hb1 hb2 hrx hry hc hgl hnx hny K2 HB0 HR hB
  go_upto_region 3 with fail
  generalize w1.alloc _ = W6 at K6 HAL ⊢
  obtain ⟨b6, hb6⟩ : ∃ b, w1.heap.size = b := ⟨_, rfl⟩
  have HGE := Lib.hid (show w1.heap.size ≤ b6 ∧ b2 < b6 by have := K21.out.lt; omega)
  rw [hb6] at K6 ⊢
  clear hb6
  go_wp2_with fail
  go_loopw [19] (fun u wr => ∃ i : Nat, i ≤ nx ∧ u = .int .i64 (i : Int) ∧ Hid (Blk wr b6 31 (wideC ((List.range i).foldl (colAcc zs) 0))) ∧ Hid (Below w1.heap.size w1 wr)) (fun u _ => nx - (intOf u).toNat)
  case atStart => exact ⟨0, Nat.zero_le _, rfl, K6, HAL⟩
  case round =>
    obtain ⟨i, hi, rfl, KW, HQ⟩ := hrel
    clear K6 HAL
    by_cases hlt : i < nx
    · have hlI : decide ((i : Int) < (nx : Int)) = true := decide_eq_true (by omega)
      obtain ⟨g, hg⟩ : ∃ g, gs[i]? = some g := ⟨_, List.getElem?_eq_getElem (by have := HGL.out; omega)⟩
      have HCW := Lib.hid (HC.out.later HQ.out)
      have HCG := Lib.hid (HC.out.col i g hg).1
      obtain ⟨ga, lo, rfl, hcu⟩ := HCW.out.at_ rfl hg
      have hidx : (0 : Int) ≤ (i : Int) ∧ (i : Int) < (nx : Int) := by omega
      obtain ⟨acc0, hac0⟩ : ∃ a, (List.range i).foldl (colAcc zs) 0 = a := ⟨_, rfl⟩
      have HA0 := Lib.hid (show (List.range (i + 1)).foldl (colAcc zs) 0 = colAcc zs acc0 i by rw [fold_range_succ, hac0])
      have HAL0 := Lib.hid (show acc0 < wTop by rw [← hac0]; exact fold_lt _ (fun a k ha => colAcc_lt zs a k ha) _ (by unfold wTop; omega) _)
      rw [hac0] at KW
      clear hac0 hg
      obtain ⟨wo, rfl⟩ : ∃ wo : World, wo = wr := ⟨_, rfl⟩
      go_wp2_with fail
      go_loopw [26] (fun u wr => ∃ k : Nat, k ≤ ny ∧ u = .int .i64 (k : Int) ∧ Hid (Blk wr b6 31 (wideC ((List.range k).foldl (cellAcc zs i) acc0))) ∧ Hid (Below w1.heap.size w1 wr)) (fun u _ => ny - (intOf u).toNat)
      case atStart => exact ⟨0, Nat.zero_le _, rfl, KW, HQ⟩
      case round =>
        clear KW HQ HCW
        obtain ⟨k, hk, rfl, KB, HQ⟩ := hrel
        by_cases hkl : k < ny
        · have hkI : decide ((k : Int) < (ny : Int)) = true := decide_eq_true (by omega)
          have hkI2 : (0 : Int) ≤ (k : Int) ∧ (k : Int) < (ny : Int) := by omega
          have HGW := Lib.hid (HCG.out.below HQ.out HCG.out.lt)
          have g0 : wr.cell? ⟨g, k, none⟩ = some (.bool (decide (k < ny) && colH zs i k)) := by rw [HGW.out.cell k]; exact bcol_get _ _ _ _ hkl
          obtain ⟨t, ht⟩ : ∃ t, colH zs i k = t := ⟨_, rfl⟩
          rw [decide_eq_true hkl, Bool.true_and, ht] at g0
          obtain ⟨acc, hac⟩ : ∃ a, (List.range k).foldl (cellAcc zs i) acc0 = a := ⟨_, rfl⟩
          have HFK := Lib.hid (show (List.range (k + 1)).foldl (cellAcc zs i) acc0 = cellAcc zs i acc k by rw [fold_range_succ, hac])
          have HAC := Lib.hid (show acc < wTop by rw [← hac]; exact fold_lt _ (fun a k ha => cellAcc_lt zs i a k ha) _ HAL0.out _)
          rw [hac] at KB
          have HT := Lib.hid ht
          clear hac ht
          cases t with
          | false =>
            have HCA := Lib.hid (show cellAcc zs i acc k = acc by unfold cellAcc; rw [HT.out]; rfl)
            go_wp2_with fail
            go_roundw
            case rel => exact ⟨k + 1, by omega, by simp, Lib.hid (by rw [HFK.out, HCA.out]; exact KB.out), HQ⟩
            case measure => simp [intOf]; omega
          | true =>
            obtain ⟨a0, ha0⟩ : ∃ a, (linesX zs)[i]? = some a := ⟨_, List.getElem?_eq_getElem (by have := HNN.out; omega)⟩
            obtain ⟨a1, ha1⟩ : ∃ a, (linesX zs)[i + 1]? = some a := ⟨_, List.getElem?_eq_getElem (by have := HNN.out; omega)⟩
            obtain ⟨b0, hb0⟩ : ∃ a, (linesY zs)[k]? = some a := ⟨_, List.getElem?_eq_getElem (by have := HNN.out; omega)⟩
            obtain ⟨b1, hb1⟩ : ∃ a, (linesY zs)[k + 1]? = some a := ⟨_, List.getElem?_eq_getElem (by have := HNN.out; omega)⟩
            have HIN := Lib.hid (show In64 a0 ∧ In64 a1 ∧ In64 b0 ∧ In64 b1 from ⟨HL64.out.1 _ (List.mem_of_getElem? ha0), HL64.out.1 _ (List.mem_of_getElem? ha1), HL64.out.2 _ (List.mem_of_getElem? hb0), HL64.out.2 _ (List.mem_of_getElem? hb1)⟩)
            obtain ⟨dx, hdx⟩ : ∃ n : Nat, (a1 - a0).toNat = n := ⟨_, rfl⟩
            obtain ⟨dy, hdy⟩ : ∃ n : Nat, (b1 - b0).toNat = n := ⟨_, rfl⟩
            have HD1 := Lib.hid (fun W => hdx ▸ wdiff_any a0 a1 HIN.out.1.1 HIN.out.1.2 HIN.out.2.1.1 HIN.out.2.1.2 W)
            have HD2 := Lib.hid (fun W => hdy ▸ wdiff_any b0 b1 HIN.out.2.2.1.1 HIN.out.2.2.1.2 HIN.out.2.2.2.1 HIN.out.2.2.2.2 W)
            have HDL := Lib.hid (show dx < 18446744073709551616 ∧ dy < 18446744073709551616 from ⟨hdx ▸ gap_lt HIN.out.1 HIN.out.2.1, hdy ▸ gap_lt HIN.out.2.2.1 HIN.out.2.2.2⟩)
            have HCA0 := Lib.hid (show cellAcc zs i acc k = addW acc (dx * dy) by unfold cellAcc; rw [HT.out, if_pos rfl, gap_eq ha0 ha1, gap_eq hb0 hb1, hdx, hdy])
            have HPR := Lib.hid (show dx * dy < wTop by
              have h1 := HDL.out
              unfold wTop
              exact Nat.lt_of_lt_of_le (Nat.mul_lt_mul'' h1.1 h1.2) (by omega))
            clear hdx hdy
            obtain ⟨gx, lx, rfl, px0⟩ := i_at (HX.out.later HQ.out) ha0
            obtain ⟨gx', lx', hgx, px1⟩ := i_at (HX.out.later HQ.out) ha1
            cases hgx
            obtain ⟨gy, ly, rfl, py0⟩ := i_at (HY.out.later HQ.out) hb0
            obtain ⟨gy', ly', hgy, py1⟩ := i_at (HY.out.later HQ.out) hb1
            cases hgy
            have hxi : (0 : Int) ≤ (i : Int) + 1 ∧ (i : Int) + 1 < ((linesX zs).length : Int) ∧ (i : Int) < ((linesX zs).length : Int) := by have := HNN.out; omega
            have hyk : (0 : Int) ≤ (k : Int) + 1 ∧ (k : Int) + 1 < ((linesY zs).length : Int) ∧ (k : Int) < ((linesY zs).length : Int) := by have := HNN.out; omega
            obtain ⟨h6, hh6⟩ : ∃ h : Int, ((acc / 18446744073709551616 : Nat) : Int) = h := ⟨_, rfl⟩
            obtain ⟨l6, hl6⟩ : ∃ h : Int, ((acc % 18446744073709551616 : Nat) : Int) = h := ⟨_, rfl⟩
            have HWV := Lib.hid (show (.agg #[.int .u64 h6, .int .u64 l6] : Value) = wideV acc by rw [← hh6, ← hl6]; rfl)
            have p60 : wr.cell? ⟨b6, 0, none⟩ = some (.int .u64 h6) := by rw [← hh6]; exact KB.out.cell 0
            have p61 : wr.cell? ⟨b6, 1, none⟩ = some (.int .u64 l6) := by rw [← hl6]; exact KB.out.cell 1
            obtain ⟨h7, hh7⟩ : ∃ h : Int, ((addW acc (dx * dy) / 18446744073709551616 : Nat) : Int) = h := ⟨_, rfl⟩
            obtain ⟨l7, hl7⟩ : ∃ h : Int, ((addW acc (dx * dy) % 18446744073709551616 : Nat) : Int) = h := ⟨_, rfl⟩
            have HAD := Lib.hid (show wideV (if acc + dx * dy < wTop then acc + dx * dy else 0) = .agg #[.int .u64 h7, .int .u64 l7] by rw [← hh7, ← hl7]; rfl)
            have HCA := Lib.hid (show wideC (cellAcc zs i acc k) = #[.int .u64 h7, .int .u64 l7] by rw [HCA0.out, ← hh7, ← hl7])
            have HBL := Lib.hid (show gx < wr.heap.size ∧ gy < wr.heap.size ∧ b6 < wr.heap.size from ⟨World.block_lt_of_cell? _ _ px0, World.block_lt_of_cell? _ _ py0, KB.out.lt⟩)
            clear ha0 ha1 hb0 hb1 hh6 hl6 hh7 hl7
            go_upto_region 10 with fail
            clear g0
            have hxw : IntKind.i64.wrap ((i : Int) + 1) = (i : Int) + 1 := IntWalk.i64_in _ (by omega)
            have hyw : IntKind.i64.wrap ((k : Int) + 1) = (k : Int) + 1 := IntWalk.i64_in _ (by omega)
            have hxt : ((i : Int) + 1).toNat = i + 1 := by omega
            have hyt : ((k : Int) + 1).toNat = k + 1 := by omega
            obtain ⟨V, rfl⟩ : ∃ V : World, V = wr := ⟨_, rfl⟩
            refine wp_region_until (fun w' => Below V.heap.size V w') [0, 1, 2, 3, 4, 5, 6, 7, 8, 9, 10, 11, 12, 13, 14, 15, 16, 17, 18, 19, 20, 21, 22] (by kernel_rfl) ?_
            have hS : (fun w' => Below V.heap.size V w') V.drew := (Below.refl _ _).drew
            refine wpAnyG_take (i := 0) rfl (by kernel_rfl) (by kernel_rfl) (by kernel_rfl) (by kernel_rfl) (by kernel_rfl) (by kernel_rfl) (fun _ _ _ h => h) rfl (by intro w' hb; have kx0 := hb.cell (p := ⟨gx, lx + i, none⟩) HBL.out.1; have kx1 := hb.cell (p := ⟨gx, lx + (i + 1), none⟩) HBL.out.1; have ky0 := hb.cell (p := ⟨gy, ly + k, none⟩) HBL.out.2.1; have ky1 := hb.cell (p := ⟨gy, ly + (k + 1), none⟩) HBL.out.2.1; have k60 := hb.cell (p := ⟨b6, 0, none⟩) HBL.out.2.2; have k61 := hb.cell (p := ⟨b6, 1, none⟩) HBL.out.2.2; rw [px0] at kx0; rw [px1] at kx1; rw [py0] at ky0; rw [py1] at ky1; rw [p60] at k60; rw [p61] at k61; go_simp; try rfl) hS ?_
            (try simp only [Act.put, List.getElem_toArray, List.getElem_cons_succ, List.getElem_cons_zero, List.setIfInBounds_toArray, List.set_cons_zero, List.set_cons_succ])
            refine wpAnyG_take (i := 1) rfl (by kernel_rfl) (by kernel_rfl) (by kernel_rfl) (by kernel_rfl) (by kernel_rfl) (by kernel_rfl) (fun _ _ _ h => h) rfl (by intro w' hb; go_simp; try rfl) hS ?_
            (try simp only [Act.put, List.getElem_toArray, List.getElem_cons_succ, List.getElem_cons_zero, List.setIfInBounds_toArray, List.set_cons_zero, List.set_cons_succ])
            refine wpAnyG_take (i := 2) rfl (by kernel_rfl) (by kernel_rfl) (by kernel_rfl) (by kernel_rfl) (by kernel_rfl) (by kernel_rfl) (fun _ _ _ h => h) rfl (by intro w' hb; go_simp; try rfl) hS ?_
            (try simp only [Act.put, List.getElem_toArray, List.getElem_cons_succ, List.getElem_cons_zero, List.setIfInBounds_toArray, List.set_cons_zero, List.set_cons_succ])
            refine wpAnyG_take (i := 3) rfl (by kernel_rfl) (by kernel_rfl) (by kernel_rfl) (by kernel_rfl) (by kernel_rfl) (by kernel_rfl) (fun _ _ _ h => h) rfl (by intro w' hb; go_simp; try rfl) hS ?_
            (try simp only [Act.put, List.getElem_toArray, List.getElem_cons_succ, List.getElem_cons_zero, List.setIfInBounds_toArray, List.set_cons_zero, List.set_cons_succ])
            refine wpAnyG_take (i := 4) rfl (by kernel_rfl) (by kernel_rfl) (by kernel_rfl) (by kernel_rfl) (by kernel_rfl) (by kernel_rfl) (fun _ _ _ h => h) rfl (by intro w' hb; have kx0 := hb.cell (p := ⟨gx, lx + i, none⟩) HBL.out.1; have kx1 := hb.cell (p := ⟨gx, lx + (i + 1), none⟩) HBL.out.1; have ky0 := hb.cell (p := ⟨gy, ly + k, none⟩) HBL.out.2.1; have ky1 := hb.cell (p := ⟨gy, ly + (k + 1), none⟩) HBL.out.2.1; have k60 := hb.cell (p := ⟨b6, 0, none⟩) HBL.out.2.2; have k61 := hb.cell (p := ⟨b6, 1, none⟩) HBL.out.2.2; rw [px0] at kx0; rw [px1] at kx1; rw [py0] at ky0; rw [py1] at ky1; rw [p60] at k60; rw [p61] at k61; go_simp; try rfl) hS ?_
            (try simp only [Act.put, List.getElem_toArray, List.getElem_cons_succ, List.getElem_cons_zero, List.setIfInBounds_toArray, List.set_cons_zero, List.set_cons_succ])
            refine wpAnyG_take (i := 5) rfl (by kernel_rfl) (by kernel_rfl) (by kernel_rfl) (by kernel_rfl) (by kernel_rfl) (by kernel_rfl) (fun _ _ _ h => h) rfl (by intro w' hb; go_simp; try rfl) hS ?_
            (try simp only [Act.put, List.getElem_toArray, List.getElem_cons_succ, List.getElem_cons_zero, List.setIfInBounds_toArray, List.set_cons_zero, List.set_cons_succ])
            refine wpAnyG_take (i := 6) rfl (by kernel_rfl) (by kernel_rfl) (by kernel_rfl) (by kernel_rfl) (by kernel_rfl) (by kernel_rfl) (fun _ _ _ h => h) rfl (by intro w' hb; go_simp; try rfl) hS ?_
            (try simp only [Act.put, List.getElem_toArray, List.getElem_cons_succ, List.getElem_cons_zero, List.setIfInBounds_toArray, List.set_cons_zero, List.set_cons_succ])
            refine wpAnyG_take (i := 7) rfl (by kernel_rfl) (by kernel_rfl) (by kernel_rfl) (by kernel_rfl) (by kernel_rfl) (by kernel_rfl) (fun _ _ _ h => h) rfl (by intro w' hb; go_simp; try rfl) hS ?_
            (try simp only [Act.put, List.getElem_toArray, List.getElem_cons_succ, List.getElem_cons_zero, List.setIfInBounds_toArray, List.set_cons_zero, List.set_cons_succ])
            refine wpAnyG_take (i := 8) rfl (by kernel_rfl) (by kernel_rfl) (by kernel_rfl) (by kernel_rfl) (by kernel_rfl) (by kernel_rfl) (fun _ _ _ h => h) rfl (by intro w' hb; go_simp; try rfl) hS ?_
            (try simp only [Act.put, List.getElem_toArray, List.getElem_cons_succ, List.getElem_cons_zero, List.setIfInBounds_toArray, List.set_cons_zero, List.set_cons_succ])
            refine wpAnyG_take (i := 9) rfl (by kernel_rfl) (by kernel_rfl) (by kernel_rfl) (by kernel_rfl) (by kernel_rfl) (by kernel_rfl) (fun _ _ _ h => h) rfl (by intro w' hb; have kx0 := hb.cell (p := ⟨gx, lx + i, none⟩) HBL.out.1; have kx1 := hb.cell (p := ⟨gx, lx + (i + 1), none⟩) HBL.out.1; have ky0 := hb.cell (p := ⟨gy, ly + k, none⟩) HBL.out.2.1; have ky1 := hb.cell (p := ⟨gy, ly + (k + 1), none⟩) HBL.out.2.1; have k60 := hb.cell (p := ⟨b6, 0, none⟩) HBL.out.2.2; have k61 := hb.cell (p := ⟨b6, 1, none⟩) HBL.out.2.2; rw [px0] at kx0; rw [px1] at kx1; rw [py0] at ky0; rw [py1] at ky1; rw [p60] at k60; rw [p61] at k61; go_simp; try rfl) hS ?_
            (try simp only [Act.put, List.getElem_toArray, List.getElem_cons_succ, List.getElem_cons_zero, List.setIfInBounds_toArray, List.set_cons_zero, List.set_cons_succ])
            refine wpAnyG_take (i := 11) rfl (by kernel_rfl) (by kernel_rfl) (by kernel_rfl) (by kernel_rfl) (by kernel_rfl) (by kernel_rfl) (fun _ _ _ h => h) rfl (by intro w' hb; go_simp; try rfl) hS ?_
            (try simp only [Act.put, List.getElem_toArray, List.getElem_cons_succ, List.getElem_cons_zero, List.setIfInBounds_toArray, List.set_cons_zero, List.set_cons_succ])
            refine wpAnyG_take (i := 12) rfl (by kernel_rfl) (by kernel_rfl) (by kernel_rfl) (by kernel_rfl) (by kernel_rfl) (by kernel_rfl) (fun _ _ _ h => h) rfl (by intro w' hb; go_simp; try rfl) hS ?_
            (try simp only [Act.put, List.getElem_toArray, List.getElem_cons_succ, List.getElem_cons_zero, List.setIfInBounds_toArray, List.set_cons_zero, List.set_cons_succ])
            refine wpAnyG_take (i := 13) rfl (by kernel_rfl) (by kernel_rfl) (by kernel_rfl) (by kernel_rfl) (by kernel_rfl) (by kernel_rfl) (fun _ _ _ h => h) rfl (by intro w' hb; go_simp; try rfl) hS ?_
            (try simp only [Act.put, List.getElem_toArray, List.getElem_cons_succ, List.getElem_cons_zero, List.setIfInBounds_toArray, List.set_cons_zero, List.set_cons_succ])
            refine wpAnyG_take (i := 14) rfl (by kernel_rfl) (by kernel_rfl) (by kernel_rfl) (by kernel_rfl) (by kernel_rfl) (by kernel_rfl) (fun _ _ _ h => h) rfl (by intro w' hb; have kx0 := hb.cell (p := ⟨gx, lx + i, none⟩) HBL.out.1; have kx1 := hb.cell (p := ⟨gx, lx + (i + 1), none⟩) HBL.out.1; have ky0 := hb.cell (p := ⟨gy, ly + k, none⟩) HBL.out.2.1; have ky1 := hb.cell (p := ⟨gy, ly + (k + 1), none⟩) HBL.out.2.1; have k60 := hb.cell (p := ⟨b6, 0, none⟩) HBL.out.2.2; have k61 := hb.cell (p := ⟨b6, 1, none⟩) HBL.out.2.2; rw [px0] at kx0; rw [px1] at kx1; rw [py0] at ky0; rw [py1] at ky1; rw [p60] at k60; rw [p61] at k61; go_simp; try rfl) hS ?_
            (try simp only [Act.put, List.getElem_toArray, List.getElem_cons_succ, List.getElem_cons_zero, List.setIfInBounds_toArray, List.set_cons_zero, List.set_cons_succ])
            refine wpAnyG_take (i := 15) rfl (by kernel_rfl) (by kernel_rfl) (by kernel_rfl) (by kernel_rfl) (by kernel_rfl) (by kernel_rfl) (fun _ _ _ h => h) rfl (by intro w' hb; go_simp; try rfl) hS ?_
            (try simp only [Act.put, List.getElem_toArray, List.getElem_cons_succ, List.getElem_cons_zero, List.setIfInBounds_toArray, List.set_cons_zero, List.set_cons_succ])
            refine wpAnyG_take (i := 16) rfl (by kernel_rfl) (by kernel_rfl) (by kernel_rfl) (by kernel_rfl) (by kernel_rfl) (by kernel_rfl) (fun _ _ _ h => h) rfl (by intro w' hb; go_simp; try rfl) hS ?_
            (try simp only [Act.put, List.getElem_toArray, List.getElem_cons_succ, List.getElem_cons_zero, List.setIfInBounds_toArray, List.set_cons_zero, List.set_cons_succ])
            refine wpAnyG_take (i := 17) rfl (by kernel_rfl) (by kernel_rfl) (by kernel_rfl) (by kernel_rfl) (by kernel_rfl) (by kernel_rfl) (fun _ _ _ h => h) rfl (by intro w' hb; go_simp; try rfl) hS ?_
            (try simp only [Act.put, List.getElem_toArray, List.getElem_cons_succ, List.getElem_cons_zero, List.setIfInBounds_toArray, List.set_cons_zero, List.set_cons_succ])
            refine wpAnyG_take (i := 18) rfl (by kernel_rfl) (by kernel_rfl) (by kernel_rfl) (by kernel_rfl) (by kernel_rfl) (by kernel_rfl) (fun _ _ _ h => h) rfl (by intro w' hb; go_simp; try rfl) hS ?_
            (try simp only [Act.put, List.getElem_toArray, List.getElem_cons_succ, List.getElem_cons_zero, List.setIfInBounds_toArray, List.set_cons_zero, List.set_cons_succ])
            refine wpAnyG_take (i := 19) rfl (by kernel_rfl) (by kernel_rfl) (by kernel_rfl) (by kernel_rfl) (by kernel_rfl) (by kernel_rfl) (fun _ _ _ h => h) rfl (by intro w' hb; have kx0 := hb.cell (p := ⟨gx, lx + i, none⟩) HBL.out.1; have kx1 := hb.cell (p := ⟨gx, lx + (i + 1), none⟩) HBL.out.1; have ky0 := hb.cell (p := ⟨gy, ly + k, none⟩) HBL.out.2.1; have ky1 := hb.cell (p := ⟨gy, ly + (k + 1), none⟩) HBL.out.2.1; have k60 := hb.cell (p := ⟨b6, 0, none⟩) HBL.out.2.2; have k61 := hb.cell (p := ⟨b6, 1, none⟩) HBL.out.2.2; rw [px0] at kx0; rw [px1] at kx1; rw [py0] at ky0; rw [py1] at ky1; rw [p60] at k60; rw [p61] at k61; go_simp; try rfl) hS ?_
            (try simp only [Act.put, List.getElem_toArray, List.getElem_cons_succ, List.getElem_cons_zero, List.setIfInBounds_toArray, List.set_cons_zero, List.set_cons_succ])
            refine wpAnyG_step (i := 10) rfl (by kernel_rfl) rfl (fun K hK => ?_)
            go_simp
            refine (HD1.out _).mono ?_
            rintro e z1 ⟨rfl, rfl⟩
            refine hK.out _ _ (hS) (fun hS => ?_)
            clear hK K
            (try simp only [Act.put, List.getElem_toArray, List.getElem_cons_succ, List.getElem_cons_zero, List.setIfInBounds_toArray, List.set_cons_zero, List.set_cons_succ])
            refine wpAnyG_step (i := 20) rfl (by kernel_rfl) rfl (fun K hK => ?_)
            go_simp
            refine (HD2.out _).mono ?_
            rintro e z2 ⟨rfl, rfl⟩
            refine hK.out _ _ (hS) (fun hS => ?_)
            clear hK K
            (try simp only [Act.put, List.getElem_toArray, List.getElem_cons_succ, List.getElem_cons_zero, List.setIfInBounds_toArray, List.set_cons_zero, List.set_cons_succ])
            refine wpAnyG_step (i := 21) rfl (by kernel_rfl) rfl (fun K hK => ?_)
            go_simp
            refine (wmul_any dx dy HDL.out.1 HDL.out.2 _).mono ?_
            rintro e z3 ⟨rfl, hb⟩
            refine hK.out _ _ (bl hS hS.size hb) (fun hS => ?_)
            clear hK K
            clear hb
            (try simp only [Act.put, List.getElem_toArray, List.getElem_cons_succ, List.getElem_cons_zero, List.setIfInBounds_toArray, List.set_cons_zero, List.set_cons_succ])
            refine wpAnyG_step (i := 22) rfl (by kernel_rfl) rfl (fun K hK => ?_)
            go_simp
            rw [HWV.out]
            refine (wadd_any acc (dx * dy) HAC.out HPR.out _).mono ?_
            rintro e z4 ⟨rfl, hb⟩
            rw [HAD.out]
            refine hK.out _ _ (bl hS hS.size hb) (fun hS => ?_)
            clear hK K
            clear hb
            (try simp only [Act.put, List.getElem_toArray, List.getElem_cons_succ, List.getElem_cons_zero, List.setIfInBounds_toArray, List.set_cons_zero, List.set_cons_succ])
            refine wpAnyG_free (i := 23) rfl (by kernel_rfl) (by kernel_rfl) (by kernel_rfl) (by kernel_rfl) (by kernel_rfl) (fun _ _ _ h => h) rfl (by intro w'; go_simp; try rfl) (.inl (by kernel_rfl)) ?_
            (try simp only [Act.put, List.getElem_toArray, List.getElem_cons_succ, List.getElem_cons_zero, List.setIfInBounds_toArray, List.set_cons_zero, List.set_cons_succ])
            refine wpAnyG_free (i := 24) rfl (by kernel_rfl) (by kernel_rfl) (by kernel_rfl) (by kernel_rfl) (by kernel_rfl) (fun _ _ _ h => h) rfl (by intro w'; go_simp; try rfl) (.inl (by kernel_rfl)) ?_
            (try simp only [Act.put, List.getElem_toArray, List.getElem_cons_succ, List.getElem_cons_zero, List.setIfInBounds_toArray, List.set_cons_zero, List.set_cons_succ])
            refine wpAnyG_free (i := 25) rfl (by kernel_rfl) (by kernel_rfl) (by kernel_rfl) (by kernel_rfl) (by kernel_rfl) (fun _ _ _ h => h) rfl (by intro w'; go_simp; try rfl) (.inl (by kernel_rfl)) ?_
            (try simp only [Act.put, List.getElem_toArray, List.getElem_cons_succ, List.getElem_cons_zero, List.setIfInBounds_toArray, List.set_cons_zero, List.set_cons_succ])
            refine wpAnyG_late (i := 26) rfl (by kernel_rfl) rfl (by kernel_rfl) (fun K hK => ?_)
            have q0 : z4.cell? ⟨b6, 0, none⟩ = some (.int .u64 h6) := by rw [hS.cell (p := ⟨b6, 0, none⟩) HBL.out.2.2]; exact p60
            have q1 : z4.cell? ⟨b6, 1, none⟩ = some (.int .u64 l6) := by rw [hS.cell (p := ⟨b6, 1, none⟩) HBL.out.2.2]; exact p61
            have qf := Blk.frozen (Blk.below KB.out hS HBL.out.2.2)
            have hz := Nat.lt_of_lt_of_le HBL.out.2.2 hS.size
            go_simp
            refine hK.out _ _ ?_
            clear hK K
            (try simp only [Act.put, List.getElem_toArray, List.getElem_cons_succ, List.getElem_cons_zero, List.setIfInBounds_toArray, List.set_cons_zero, List.set_cons_succ])
            refine wpAnyU_done (by kernel_rfl) ?_ _
            have HSS := Lib.hid hS
            clear hS
            clear q0 q1 qf hxw hyw hxt hyt
            go_wp2_with fail
            go_roundw
            case rel => exact ⟨k + 1, by omega, by simp, Lib.hid (by rw [HFK.out, HCA.out]; exact ((KB.out.below HSS.out HBL.out.2.2).set_ 0 _).set_ 1 _), Lib.hid ((HQ.out.trans (HSS.out.mono HQ.out.size)).setCell (p := ⟨b6, 0, none⟩) HGE.out.1 _ |>.setCell (p := ⟨b6, 1, none⟩) HGE.out.1 _)⟩
            case measure => simp [intOf]; omega
        · obtain rfl : k = ny := by omega
          have hkI : decide ((k : Int) < (k : Int)) = false := decide_eq_false (by omega)
          go_wp2_with fail
          go_roundw
          case rel => exact ⟨i + 1, by omega, by simp, Lib.hid (by rw [HA0.out]; have h := KB.out; unfold colAcc; rw [HNN.out.2]; exact h), HQ⟩
          case measure => simp [intOf]; omega
    · obtain rfl : i = nx := by omega
      have hlI : decide ((i : Int) < (i : Int)) = false := decide_eq_false (by omega)
      have K2 := Lib.hid (K21.out.below HQ.out K21.out.lt)
      obtain ⟨h6, hh6⟩ : ∃ h : Int, (((List.range i).foldl (colAcc zs) 0 / 18446744073709551616 : Nat) : Int) = h := ⟨_, rfl⟩
      obtain ⟨l6, hl6⟩ : ∃ h : Int, (((List.range i).foldl (colAcc zs) 0 % 18446744073709551616 : Nat) : Int) = h := ⟨_, rfl⟩
      have HWV := Lib.hid (show (.agg #[.int .u64 h6, .int .u64 l6] : Value) = wideV (areaL zs) by unfold areaL; rw [HNN.out.1, ← hh6, ← hl6]; rfl)
      have p60 : wr.cell? ⟨b6, 0, none⟩ = some (.int .u64 h6) := by rw [← hh6]; exact KW.out.cell 0
      have p61 : wr.cell? ⟨b6, 1, none⟩ = some (.int .u64 l6) := by rw [← hl6]; exact KW.out.cell 1
      have p20 : wr.cell? ⟨b2, 0, none⟩ = some (.int .u64 0) := K2.out.cell 0
      have p21 : wr.cell? ⟨b2, 1, none⟩ = some (.int .u64 0) := K2.out.cell 1
      have f2 := Blk.frozen K2.out
      have HBF := Lib.hid (HB1.out.trans (HQ.out.mono HB1.out.size))
      clear hh6 hl6
      go_wp2_with fail
      exact bodyPost_ret (v := .agg #[.int .u64 h6, .int .u64 l6]) (by simp [results, Tryz.results122, go_sem, p20, p21]) rfl ⟨congrArg Ending.returned HWV.out, (HBF.out.setCell (p := ⟨b2, 0, none⟩) HLT.out _).setCell (p := ⟨b2, 1, none⟩) HLT.out _⟩
end Go.Proofs.YtokpgopdkimmmaaGreatDoor
/- cells.Rim (written by gen/mrim.py). -/
namespace Go.Proofs.YtokpgopdkimmmaaGreatDoor
open Go.RowKit
set_option linter.unusedVariables false
set_option linter.unusedSimpArgs false

/-- Is a block covered? None is outside. -/
def isB (zs : List BxV) (i k : Int) : Bool := decide (0 ≤ i) && (decide (0 ≤ k) && (decide (i < (((linesX zs).length - 1 : Nat) : Int)) && (decide (k < (((linesY zs).length - 1 : Nat) : Int)) && colH zs i.toNat k.toNat)))
set_option maxRecDepth 100000 in
set_option maxHeartbeats 2000000 in
theorem rim1_any (zs : List BxV) (i k : Int) (B bc : Nat) (A : Option Addr) (c n m : Nat) (gs : List Nat) (hn : (linesX zs).length - 1 = n) (hm : (linesY zs).length - 1 = m) (hg : gs.length = n) (w : World) (h : Blk w bc 215 #[.slice A n c]) (hc : Cols zs B w (.slice A n c) m gs) :
    Calls Tryz.prog 162 #[.int .i64 i, .int .i64 k, .pointer (some ⟨bc, 0, none⟩)] w fun e w' => e = .returned (.bool (isB zs i k)) ∧ w = w' := by
  have c0 : w.cell? ⟨bc, 0, none⟩ = some (.slice A n c) := h.cell 0
  have HV := Lib.hid (show isB zs i k = (decide (0 ≤ i) && (decide (0 ≤ k) && (decide (i < (n : Int)) && (decide (k < (m : Int)) && colH zs i.toNat k.toNat)))) by unfold isB; rw [hn, hm])
  have HC := Lib.hid hc
  have HG := Lib.hid hg
  clear h hn hm hc hg
  by_cases h1 : 0 ≤ i
  · have d1 : decide ((0 : Int) ≤ i) = true := decide_eq_true h1
    by_cases h2 : 0 ≤ k
    · have d2 : decide ((0 : Int) ≤ k) = true := decide_eq_true h2
      obtain ⟨I, rfl⟩ := Int.eq_ofNat_of_zero_le h1
      obtain ⟨J, rfl⟩ := Int.eq_ofNat_of_zero_le h2
      by_cases h3 : I < n
      · have d3 : decide ((I : Int) < (n : Int)) = true := decide_eq_true (by omega)
        obtain ⟨g, hgi⟩ : ∃ g, gs[I]? = some g := ⟨_, List.getElem?_eq_getElem (by have := HG.out; omega)⟩
        obtain ⟨ga, lo, rfl, hcu⟩ := HC.out.at_ HG.out.symm hgi
        by_cases h4 : J < m
        · have d4 : decide ((J : Int) < (m : Int)) = true := decide_eq_true (by omega)
          have g0 : w.cell? ⟨g, J, none⟩ = some (.bool (colH zs I J)) := by rw [(HC.out.col I g hgi).1.cell J, bcol_get _ _ _ _ h4, decide_eq_true h4, Bool.true_and]
          clear hgi
          go_enter Tryz.func162, Tryz.ntmps162
          go_wp2_with fail
          go_ret
          exact ⟨ret_bool (by rw [HV.out, d1, d2, d3, d4]; rfl), rfl⟩
        · have d4 : decide ((J : Int) < (m : Int)) = false := decide_eq_false (by omega)
          clear hgi
          go_enter Tryz.func162, Tryz.ntmps162
          go_wp2_with fail
          go_ret
          exact ⟨ret_bool (by rw [HV.out, d1, d2, d3, d4]; rfl), rfl⟩
      · have d3 : decide ((I : Int) < (n : Int)) = false := decide_eq_false (by omega)
        go_enter Tryz.func162, Tryz.ntmps162
        go_wp2_with fail
        go_ret
        exact ⟨ret_bool (by rw [HV.out, d1, d2, d3]; rfl), rfl⟩
    · have d2 : decide ((0 : Int) ≤ k) = false := decide_eq_false h2
      go_enter Tryz.func162, Tryz.ntmps162
      go_wp2_with fail
      go_ret
      exact ⟨ret_bool (by rw [HV.out, d1, d2]; rfl), rfl⟩
  · have d1 : decide ((0 : Int) ≤ i) = false := decide_eq_false h1
    go_enter Tryz.func162, Tryz.ntmps162
    go_wp2_with fail
    go_ret
    exact ⟨ret_bool (by rw [HV.out, d1]; rfl), rfl⟩
set_option maxRecDepth 100000 in
set_option maxHeartbeats 2000000 in
theorem rim2_any (n acc b7 : Nat) (hn : n < 18446744073709551616) (hacc : acc < wTop) (w : World) (h : Blk w b7 31 (wideC acc)) :
    Calls Tryz.prog 163 #[.int .u64 (n : Int), .pointer (some ⟨b7, 0, none⟩)] w fun e w' => e = .returned (.tuple #[]) ∧ Blk w' b7 31 (wideC (addW acc n)) ∧ ∀ (B : Nat) (w0 : World), Below B w0 w → B ≤ w.heap.size → B ≤ b7 → Below B w0 w' := by
  obtain ⟨h6, hh6⟩ : ∃ h : Int, ((acc / 18446744073709551616 : Nat) : Int) = h := ⟨_, rfl⟩
  obtain ⟨l6, hl6⟩ : ∃ h : Int, ((acc % 18446744073709551616 : Nat) : Int) = h := ⟨_, rfl⟩
  obtain ⟨h7, hh7⟩ : ∃ h : Int, ((addW acc n / 18446744073709551616 : Nat) : Int) = h := ⟨_, rfl⟩
  obtain ⟨l7, hl7⟩ : ∃ h : Int, ((addW acc n % 18446744073709551616 : Nat) : Int) = h := ⟨_, rfl⟩
  have HWV := Lib.hid (show (.agg #[.int .u64 h6, .int .u64 l6] : Value) = wideV acc by rw [← hh6, ← hl6]; rfl)
  have p60 : w.cell? ⟨b7, 0, none⟩ = some (.int .u64 h6) := by rw [← hh6]; exact h.cell 0
  have p61 : w.cell? ⟨b7, 1, none⟩ = some (.int .u64 l6) := by rw [← hl6]; exact h.cell 1
  have HAD := Lib.hid (show wideV (if acc + n < wTop then acc + n else 0) = .agg #[.int .u64 h7, .int .u64 l7] by rw [← hh7, ← hl7]; rfl)
  have HCA := Lib.hid (show wideC (addW acc n) = #[.int .u64 h7, .int .u64 l7] by rw [← hh7, ← hl7])
  have HBL := Lib.hid h.lt
  have KB := Lib.hid h
  have HNA := Lib.hid (And.intro hn hacc)
  clear hh6 hl6 hh7 hl7 h hn hacc
  go_enter Tryz.func163, Tryz.ntmps163
  go_upto_region 0 with fail
  refine wp_region_until (fun w' => Below w.heap.size w w') [0, 1, 2, 3] (by kernel_rfl) ?_
  have hS : (fun w' => Below w.heap.size w w') w.drew := (Below.refl _ _).drew
  refine wpAnyG_take (i := 0) rfl (by kernel_rfl) (by kernel_rfl) (by kernel_rfl) (by kernel_rfl) (by kernel_rfl) (by kernel_rfl) (fun _ _ _ h => h) rfl (by intro w' hb; have k60 := hb.cell (p := ⟨b7, 0, none⟩) HBL.out; have k61 := hb.cell (p := ⟨b7, 1, none⟩) HBL.out; rw [p60] at k60; rw [p61] at k61; go_simp; try rfl) hS ?_
  (try simp only [Act.put, List.getElem_toArray, List.getElem_cons_succ, List.getElem_cons_zero, List.setIfInBounds_toArray, List.set_cons_zero, List.set_cons_succ])
  refine wpAnyG_take (i := 1) rfl (by kernel_rfl) (by kernel_rfl) (by kernel_rfl) (by kernel_rfl) (by kernel_rfl) (by kernel_rfl) (fun _ _ _ h => h) rfl (by intro w' hb; go_simp; try rfl) hS ?_
  (try simp only [Act.put, List.getElem_toArray, List.getElem_cons_succ, List.getElem_cons_zero, List.setIfInBounds_toArray, List.set_cons_zero, List.set_cons_succ])
  refine wpAnyG_step (i := 2) rfl (by kernel_rfl) rfl (fun K hK => ?_)
  go_simp
  refine (wof_any n HNA.out.1 _).mono ?_
  rintro e z1 ⟨rfl, hb⟩
  refine hK.out _ _ (bl hS hS.size hb) (fun hS => ?_)
  clear hK K
  clear hb
  (try simp only [Act.put, List.getElem_toArray, List.getElem_cons_succ, List.getElem_cons_zero, List.setIfInBounds_toArray, List.set_cons_zero, List.set_cons_succ])
  refine wpAnyG_step (i := 3) rfl (by kernel_rfl) rfl (fun K hK => ?_)
  go_simp
  rw [HWV.out]
  refine (wadd_any acc n HNA.out.2 (by have := HNA.out.1; unfold wTop; omega) _).mono ?_
  rintro e z4 ⟨rfl, hb⟩
  rw [HAD.out]
  refine hK.out _ _ (bl hS hS.size hb) (fun hS => ?_)
  clear hK K
  clear hb
  (try simp only [Act.put, List.getElem_toArray, List.getElem_cons_succ, List.getElem_cons_zero, List.setIfInBounds_toArray, List.set_cons_zero, List.set_cons_succ])
  refine wpAnyG_free (i := 4) rfl (by kernel_rfl) (by kernel_rfl) (by kernel_rfl) (by kernel_rfl) (by kernel_rfl) (fun _ _ _ h => h) rfl (by intro w'; go_simp; try rfl) (.inl (by kernel_rfl)) ?_
  (try simp only [Act.put, List.getElem_toArray, List.getElem_cons_succ, List.getElem_cons_zero, List.setIfInBounds_toArray, List.set_cons_zero, List.set_cons_succ])
  refine wpAnyG_free (i := 5) rfl (by kernel_rfl) (by kernel_rfl) (by kernel_rfl) (by kernel_rfl) (by kernel_rfl) (fun _ _ _ h => h) rfl (by intro w'; go_simp; try rfl) (.inl (by kernel_rfl)) ?_
  (try simp only [Act.put, List.getElem_toArray, List.getElem_cons_succ, List.getElem_cons_zero, List.setIfInBounds_toArray, List.set_cons_zero, List.set_cons_succ])
  refine wpAnyG_free (i := 6) rfl (by kernel_rfl) (by kernel_rfl) (by kernel_rfl) (by kernel_rfl) (by kernel_rfl) (fun _ _ _ h => h) rfl (by intro w'; go_simp; try rfl) (.inl (by kernel_rfl)) ?_
  (try simp only [Act.put, List.getElem_toArray, List.getElem_cons_succ, List.getElem_cons_zero, List.setIfInBounds_toArray, List.set_cons_zero, List.set_cons_succ])
  refine wpAnyG_late (i := 7) rfl (by kernel_rfl) rfl (by kernel_rfl) (fun K hK => ?_)
  have q0 : z4.cell? ⟨b7, 0, none⟩ = some (.int .u64 h6) := by rw [hS.cell (p := ⟨b7, 0, none⟩) HBL.out]; exact p60
  have q1 : z4.cell? ⟨b7, 1, none⟩ = some (.int .u64 l6) := by rw [hS.cell (p := ⟨b7, 1, none⟩) HBL.out]; exact p61
  have qf := Blk.frozen (Blk.below KB.out hS HBL.out)
  have hz := Nat.lt_of_lt_of_le HBL.out hS.size
  go_simp
  refine hK.out _ _ ?_
  clear hK K
  (try simp only [Act.put, List.getElem_toArray, List.getElem_cons_succ, List.getElem_cons_zero, List.setIfInBounds_toArray, List.set_cons_zero, List.set_cons_succ])
  refine wpAnyU_done (by kernel_rfl) ?_ _
  have HSS := Lib.hid hS
  clear hS q0 q1 qf
  go_wp2_with fail
  go_end0
  exact ⟨rfl, by rw [HCA.out]; exact ((KB.out.below HSS.out HBL.out).set_ 0 _).set_ 1 _, fun B w0 h1 h2 h3 => ((bl h1 h2 HSS.out).setCell (p := ⟨b7, 0, none⟩) h3 _).setCell (p := ⟨b7, 1, none⟩) h3 _⟩
/-- What a round adds to the rim. -/
def rim1 (zs : List BxV) (i acc k : Nat) : Nat := if (decide (k + 1 < (linesY zs).length) && (isB zs ((i : Int) - 1) (k : Int) != isB zs (i : Int) (k : Int))) = true then addW acc (gapN (linesY zs) k) else acc
def rimStep (zs : List BxV) (i acc k : Nat) : Nat := if (decide (i + 1 < (linesX zs).length) && (isB zs (i : Int) ((k : Int) - 1) != isB zs (i : Int) (k : Int))) = true then addW (rim1 zs i acc k) (gapN (linesX zs) i) else rim1 zs i acc k
def rimCol (zs : List BxV) (acc i : Nat) : Nat := (List.range (linesY zs).length).foldl (rimStep zs i) acc
/-- How long the rim is. -/
def rimL (zs : List BxV) : Nat := (List.range (linesX zs).length).foldl (rimCol zs) 0
theorem rim1_lt (zs : List BxV) (i acc k : Nat) (h : acc < wTop) : rim1 zs i acc k < wTop := by
  unfold rim1
  split
  · exact addW_lt _ _
  · exact h
theorem rimStep_lt (zs : List BxV) (i acc k : Nat) (h : acc < wTop) : rimStep zs i acc k < wTop := by
  unfold rimStep
  split
  · exact addW_lt _ _
  · exact rim1_lt zs i acc k h
theorem rimCol_lt (zs : List BxV) (acc i : Nat) (h : acc < wTop) : rimCol zs acc i < wTop := fold_lt _ (fun a k ha => rimStep_lt zs i a k ha) _ h _
theorem rimL_lt (zs : List BxV) : rimL zs < wTop := fold_lt _ (fun a k ha => rimCol_lt zs a k ha) _ (by unfold wTop; omega) _
set_option maxRecDepth 100000 in
set_option maxHeartbeats 8000000 in
theorem rim_any (zs : List BxV) (hz : zs.length ≤ 100000) (h64 : Bx64 zs) (A : Option Addr) (c : Nat) (w : World) (hr : RecRow w BxV.cells 5 A zs) :
    Calls Tryz.prog 124 #[.slice A zs.length c] w fun e w' => e = .returned (wideV (rimL zs)) ∧ Below w.heap.size w w' := by
  have HL64 := Lib.hid (lines64 h64)
  have K2 := Lib.hid (Blk.new w 31 (wideC 0))
  have HB0 := Lib.hid ((Below.refl w.heap.size w).alloc (Nat.le_refl _) (.cells (wideC 0) 31))
  have HR := Lib.hid (hr.later ((Below.refl _ _).alloc (Nat.le_refl _) (.cells (wideC 0) 31)))
  clear hr h64
  go_enter Tryz.func124, Tryz.ntmps124
  go_wp2_with fail
  refine (blocks_any zs hz A c _ HR.out).mono ?_
  rintro e w1 ⟨X, cx, Y, cy, B, v, gs, rfl, hrx, hry, hgl, hc, hB, hb1⟩
  have K21 := Lib.hid (K2.out.below hb1 K2.out.lt)
  have HB1 := Lib.hid (bl HB0.out HB0.out.size hb1)
  obtain ⟨b2, hb2⟩ : ∃ b, w.heap.size = b := ⟨_, rfl⟩
  have HLT := Lib.hid (show w.heap.size ≤ b2 by omega)
  rw [hb2] at K21 ⊢
  obtain ⟨A2, c2, rfl⟩ := own_shape1 hc.row
  obtain ⟨nx, hnx⟩ : ∃ n, (linesX zs).length - 1 = n := ⟨_, rfl⟩
  obtain ⟨ny, hny⟩ : ∃ n, (linesY zs).length - 1 = n := ⟨_, rfl⟩
  rw [hny] at hc
  rw [hnx] at hgl
  have HNN := Lib.hid (And.intro hnx hny)
  rw [hgl] at hc
  obtain ⟨nX, hnX⟩ : ∃ n, (linesX zs).length = n := ⟨_, rfl⟩
  obtain ⟨nY, hnY⟩ : ∃ n, (linesY zs).length = n := ⟨_, rfl⟩
  have HnX := Lib.hid hnX
  have HnY := Lib.hid hnY
  have hnl : nX ≤ 200000 ∧ nY ≤ 200000 := by
    have h1 := raw_le zs
    have h2 := squeezeL_le (rawX zs)
    have h3 := squeezeL_le (rawY zs)
    unfold linesX at hnX
    unfold linesY at hnY
    omega
  have al : ∀ (W : World) (o : Obj), Below W.heap.size W (W.alloc o) := fun W o => (Below.refl _ _).alloc (Nat.le_refl _) o
  obtain ⟨bc, hbc⟩ : ∃ b, w1.heap.size = b := ⟨_, rfl⟩
  have HKC := Blk.new w1 215 #[.slice A2 nx c2]
  rw [hbc] at HKC
  replace HKC := Lib.hid HKC
  have HX := Lib.hid (hrx.later (al w1 (.cells #[.slice A2 nx c2] 215)))
  have HY := Lib.hid (hry.later (al w1 (.cells #[.slice A2 nx c2] 215)))
  have HC := Lib.hid (hc.later (al w1 (.cells #[.slice A2 nx c2] 215)))
  have HGL := Lib.hid hgl
  have K22 := Lib.hid (K21.out.alloc (.cells #[.slice A2 nx c2] 215))
  have HB2 := Lib.hid (HB1.out.alloc HB1.out.size (.cells #[.slice A2 nx c2] 215))
  rw [hgl, hnX, hnY]
  clear hb1 hb2 hrx hry hc hgl hnx hny hnX hnY K2 HB0 HR hB K21 HB1 al
  go_upto_region 2 with fail
  generalize w1.alloc _ = Wc at HKC HX HY HC K22 HB2 ⊢
  clear hbc
  have K7 := Lib.hid (Blk.new Wc 31 (wideC 0))
  have HAL := Lib.hid ((Below.refl Wc.heap.size Wc).alloc (Nat.le_refl _) (.cells (wideC 0) 31))
  go_upto_region 5 with fail
  generalize Wc.alloc _ = W7 at K7 HAL ⊢
  obtain ⟨b7, hb7⟩ : ∃ b, Wc.heap.size = b := ⟨_, rfl⟩
  have HGE := Lib.hid (show Wc.heap.size ≤ b7 ∧ b2 < b7 by have := K22.out.lt; omega)
  rw [hb7] at K7 ⊢
  clear hb7
  go_wp2_with fail
  go_loopw [21] (fun u wr => ∃ i : Nat, i ≤ nX ∧ u = .int .i64 (i : Int) ∧ Hid (Blk wr b7 31 (wideC ((List.range i).foldl (rimCol zs) 0))) ∧ Hid (Below Wc.heap.size Wc wr)) (fun u _ => nX - (intOf u).toNat)
  case atStart => exact ⟨0, Nat.zero_le _, rfl, K7, HAL⟩
  case round =>
    obtain ⟨i, hi, rfl, KW, HQ⟩ := hrel
    clear K7 HAL
    by_cases hlt : i < nX
    · have hlI : decide ((i : Int) < (nX : Int)) = true := decide_eq_true (by omega)
      obtain ⟨acc0, hac0⟩ : ∃ a, (List.range i).foldl (rimCol zs) 0 = a := ⟨_, rfl⟩
      have HA0 := Lib.hid (show (List.range (i + 1)).foldl (rimCol zs) 0 = rimCol zs acc0 i by rw [fold_range_succ, hac0])
      have HAL0 := Lib.hid (show acc0 < wTop by rw [← hac0]; exact fold_lt _ (fun a k ha => rimCol_lt zs a k ha) _ (by unfold wTop; omega) _)
      rw [hac0] at KW
      clear hac0
      obtain ⟨wo, rfl⟩ : ∃ wo : World, wo = wr := ⟨_, rfl⟩
      go_wp2_with fail
      go_loopw [26] (fun u wr => ∃ k : Nat, k ≤ nY ∧ u = .int .i64 (k : Int) ∧ Hid (Blk wr b7 31 (wideC ((List.range k).foldl (rimStep zs i) acc0))) ∧ Hid (Below Wc.heap.size Wc wr)) (fun u _ => nY - (intOf u).toNat)
      case atStart => exact ⟨0, Nat.zero_le _, rfl, KW, HQ⟩
      case round =>
        clear KW HQ
        obtain ⟨k, hk, rfl, KB, HQ⟩ := hrel
        by_cases hkl : k < nY
        · have hkI : decide ((k : Int) < (nY : Int)) = true := decide_eq_true (by omega)
          obtain ⟨acc, hac⟩ : ∃ a, (List.range k).foldl (rimStep zs i) acc0 = a := ⟨_, rfl⟩
          have HFK := Lib.hid (show (List.range (k + 1)).foldl (rimStep zs i) acc0 = rimStep zs i acc k by rw [fold_range_succ, hac])
          have HaccL := Lib.hid (show acc < wTop by rw [← hac]; exact fold_lt _ (fun a k ha => rimStep_lt zs i a k ha) _ HAL0.out _)
          rw [hac] at KB
          clear hac
          obtain ⟨T, hT⟩ : ∃ T, (decide (k + 1 < nY) && (isB zs ((i : Int) - 1) (k : Int) != isB zs (i : Int) (k : Int))) = T := ⟨_, rfl⟩
          have HT := Lib.hid hT
          have HR1 := Lib.hid (fun W hW => rim1_any zs ((i : Int) - 1) (k : Int) B bc A2 c2 nx ny gs HNN.out.1 HNN.out.2 HGL.out W (HKC.out.below hW HKC.out.lt) (HC.out.later hW))
          have HR2 := Lib.hid (fun W hW => rim1_any zs (i : Int) (k : Int) B bc A2 c2 nx ny gs HNN.out.1 HNN.out.2 HGL.out W (HKC.out.below hW HKC.out.lt) (HC.out.later hW))
          clear hT
          obtain ⟨V, rfl⟩ : ∃ V' : World, V' = wr := ⟨_, rfl⟩
          go_upto_region 11 with fail
          go_cut [45] (fun v wc => v = .bool T ∧ V = wc)
          case first =>
            obtain ⟨u1, hu1⟩ : ∃ u, isB zs ((i : Int) - 1) (k : Int) = u := ⟨_, rfl⟩
            obtain ⟨u2, hu2⟩ : ∃ u, isB zs (i : Int) (k : Int) = u := ⟨_, rfl⟩
            rw [hu1] at HR1
            rw [hu2] at HR2
            have HU := Lib.hid (show T = (decide (k + 1 < nY) && (u1 != u2)) by rw [← HT.out, hu1, hu2])
            clear hu1 hu2
            by_cases hk1 : k + 1 < nY
            · have hd : decide ((k : Int) + 1 < (nY : Int)) = true := decide_eq_true (by omega)
              go_wp2_with fail
              refine (HR1.out _ HQ.out).mono ?_
              rintro e y1 ⟨rfl, rfl⟩
              go_wp2_with fail
              refine (HR2.out _ HQ.out).mono ?_
              rintro e y2 ⟨rfl, rfl⟩
              go_wp2_with fail
              go_meet
              case rel => exact ⟨by rw [HU.out, decide_eq_true hk1, Bool.true_and]; cases u1 <;> cases u2 <;> rfl, rfl⟩
            · have hd : decide ((k : Int) + 1 < (nY : Int)) = false := decide_eq_false (by omega)
              go_wp2_with fail
              go_meet
              case rel => exact ⟨by rw [HU.out, decide_eq_false hk1, Bool.false_and], rfl⟩
          case rest =>
            obtain ⟨rfl, rfl⟩ := hcut
            go_upto_if 45 with fail
            obtain ⟨a1, ha1⟩ : ∃ a, (if (decide (k + 1 < nY) && (isB zs ((i : Int) - 1) (k : Int) != isB zs (i : Int) (k : Int))) = true then addW acc (gapN (linesY zs) k) else acc) = a := ⟨_, rfl⟩
            have Ha1 := Lib.hid ha1
            clear ha1
            go_cut [] (fun wd => ∃ V : World, V = wd ∧ Hid (Blk wd b7 31 (wideC a1)) ∧ Hid (Below Wc.heap.size Wc wd))
            case first =>
              cases T with
              | false =>
                have HA1 := Lib.hid (show a1 = acc by rw [← Ha1.out, HT.out]; rfl)
                go_wp2_with fail
                go_meet
                case rel => exact ⟨_, rfl, Lib.hid (by rw [HA1.out]; exact KB.out), HQ⟩
              | true =>
                have hk1 : k + 1 < nY := by have h := HT.out; simp at h; exact h.1
                obtain ⟨a0, ha0⟩ : ∃ a, (linesY zs)[k]? = some a := ⟨_, List.getElem?_eq_getElem (by have := HnY.out; omega)⟩
                obtain ⟨a9, ha9⟩ : ∃ a, (linesY zs)[k + 1]? = some a := ⟨_, List.getElem?_eq_getElem (by have := HnY.out; omega)⟩
                have HIN := Lib.hid (show In64 a0 ∧ In64 a9 from ⟨HL64.out.2 _ (List.mem_of_getElem? ha0), HL64.out.2 _ (List.mem_of_getElem? ha9)⟩)
                obtain ⟨dd, hdd⟩ : ∃ n : Nat, (a9 - a0).toNat = n := ⟨_, rfl⟩
                have HD1 := Lib.hid (fun W => hdd ▸ wdiff_any a0 a9 HIN.out.1.1 HIN.out.1.2 HIN.out.2.1 HIN.out.2.2 W)
                have HDL := Lib.hid (show dd < 18446744073709551616 ∧ acc < wTop from ⟨hdd ▸ gap_lt HIN.out.1 HIN.out.2, HaccL.out⟩)
                have HA1 := Lib.hid (show a1 = addW acc dd by rw [← Ha1.out, HT.out, if_pos rfl, gap_eq ha0 ha9, hdd])
                obtain ⟨gy, ly, rfl, p0⟩ := i_at (HY.out.later HQ.out) ha0
                obtain ⟨g9, l9, hg9, p1⟩ := i_at (HY.out.later HQ.out) ha9
                cases hg9
                have hxi : (0 : Int) ≤ (k : Int) + 1 ∧ (k : Int) + 1 < (nY : Int) ∧ (k : Int) < (nY : Int) := by omega
                have HBL := Lib.hid (show gy < V.heap.size ∧ b7 < V.heap.size from ⟨World.block_lt_of_cell? _ _ p0, KB.out.lt⟩)
                clear ha0 ha9 hdd
                go_upto_region 12 with fail
                have hxw : IntKind.i64.wrap ((k : Int) + 1) = (k : Int) + 1 := IntWalk.i64_in _ (by omega)
                have hxt : ((k : Int) + 1).toNat = k + 1 := by omega
                refine wp_region_until (fun w' => Below V.heap.size V w') [0, 1, 2, 3, 4, 5, 6, 7, 8, 9, 10] (by kernel_rfl) ?_
                have hS : (fun w' => Below V.heap.size V w') V.drew := (Below.refl _ _).drew
                refine wpAnyG_take (i := 0) rfl (by kernel_rfl) (by kernel_rfl) (by kernel_rfl) (by kernel_rfl) (by kernel_rfl) (by kernel_rfl) (fun _ _ _ h => h) rfl (by intro w' hb; go_simp; try rfl) hS ?_
                (try simp only [Act.put, List.getElem_toArray, List.getElem_cons_succ, List.getElem_cons_zero, List.setIfInBounds_toArray, List.set_cons_zero, List.set_cons_succ])
                refine wpAnyG_take (i := 1) rfl (by kernel_rfl) (by kernel_rfl) (by kernel_rfl) (by kernel_rfl) (by kernel_rfl) (by kernel_rfl) (fun _ _ _ h => h) rfl (by intro w' hb; go_simp; try rfl) hS ?_
                (try simp only [Act.put, List.getElem_toArray, List.getElem_cons_succ, List.getElem_cons_zero, List.setIfInBounds_toArray, List.set_cons_zero, List.set_cons_succ])
                refine wpAnyG_take (i := 2) rfl (by kernel_rfl) (by kernel_rfl) (by kernel_rfl) (by kernel_rfl) (by kernel_rfl) (by kernel_rfl) (fun _ _ _ h => h) rfl (by intro w' hb; go_simp; try rfl) hS ?_
                (try simp only [Act.put, List.getElem_toArray, List.getElem_cons_succ, List.getElem_cons_zero, List.setIfInBounds_toArray, List.set_cons_zero, List.set_cons_succ])
                refine wpAnyG_take (i := 3) rfl (by kernel_rfl) (by kernel_rfl) (by kernel_rfl) (by kernel_rfl) (by kernel_rfl) (by kernel_rfl) (fun _ _ _ h => h) rfl (by intro w' hb; go_simp; try rfl) hS ?_
                (try simp only [Act.put, List.getElem_toArray, List.getElem_cons_succ, List.getElem_cons_zero, List.setIfInBounds_toArray, List.set_cons_zero, List.set_cons_succ])
                refine wpAnyG_take (i := 4) rfl (by kernel_rfl) (by kernel_rfl) (by kernel_rfl) (by kernel_rfl) (by kernel_rfl) (by kernel_rfl) (fun _ _ _ h => h) rfl (by intro w' hb; have k0 := hb.cell (p := ⟨gy, ly + k, none⟩) HBL.out.1; have k1 := hb.cell (p := ⟨gy, ly + (k + 1), none⟩) HBL.out.1; rw [p0] at k0; rw [p1] at k1; go_simp; try rfl) hS ?_
                (try simp only [Act.put, List.getElem_toArray, List.getElem_cons_succ, List.getElem_cons_zero, List.setIfInBounds_toArray, List.set_cons_zero, List.set_cons_succ])
                refine wpAnyG_take (i := 5) rfl (by kernel_rfl) (by kernel_rfl) (by kernel_rfl) (by kernel_rfl) (by kernel_rfl) (by kernel_rfl) (fun _ _ _ h => h) rfl (by intro w' hb; go_simp; try rfl) hS ?_
                (try simp only [Act.put, List.getElem_toArray, List.getElem_cons_succ, List.getElem_cons_zero, List.setIfInBounds_toArray, List.set_cons_zero, List.set_cons_succ])
                refine wpAnyG_take (i := 6) rfl (by kernel_rfl) (by kernel_rfl) (by kernel_rfl) (by kernel_rfl) (by kernel_rfl) (by kernel_rfl) (fun _ _ _ h => h) rfl (by intro w' hb; go_simp; try rfl) hS ?_
                (try simp only [Act.put, List.getElem_toArray, List.getElem_cons_succ, List.getElem_cons_zero, List.setIfInBounds_toArray, List.set_cons_zero, List.set_cons_succ])
                refine wpAnyG_take (i := 7) rfl (by kernel_rfl) (by kernel_rfl) (by kernel_rfl) (by kernel_rfl) (by kernel_rfl) (by kernel_rfl) (fun _ _ _ h => h) rfl (by intro w' hb; go_simp; try rfl) hS ?_
                (try simp only [Act.put, List.getElem_toArray, List.getElem_cons_succ, List.getElem_cons_zero, List.setIfInBounds_toArray, List.set_cons_zero, List.set_cons_succ])
                refine wpAnyG_take (i := 8) rfl (by kernel_rfl) (by kernel_rfl) (by kernel_rfl) (by kernel_rfl) (by kernel_rfl) (by kernel_rfl) (fun _ _ _ h => h) rfl (by intro w' hb; go_simp; try rfl) hS ?_
                (try simp only [Act.put, List.getElem_toArray, List.getElem_cons_succ, List.getElem_cons_zero, List.setIfInBounds_toArray, List.set_cons_zero, List.set_cons_succ])
                refine wpAnyG_take (i := 9) rfl (by kernel_rfl) (by kernel_rfl) (by kernel_rfl) (by kernel_rfl) (by kernel_rfl) (by kernel_rfl) (fun _ _ _ h => h) rfl (by intro w' hb; have k0 := hb.cell (p := ⟨gy, ly + k, none⟩) HBL.out.1; have k1 := hb.cell (p := ⟨gy, ly + (k + 1), none⟩) HBL.out.1; rw [p0] at k0; rw [p1] at k1; go_simp; try rfl) hS ?_
                (try simp only [Act.put, List.getElem_toArray, List.getElem_cons_succ, List.getElem_cons_zero, List.setIfInBounds_toArray, List.set_cons_zero, List.set_cons_succ])
                refine wpAnyG_step (i := 10) rfl (by kernel_rfl) rfl (fun K hK => ?_)
                go_simp
                refine (HD1.out _).mono ?_
                rintro e z1 ⟨rfl, rfl⟩
                refine hK.out _ _ (hS) (fun hS => ?_)
                clear hK K
                (try simp only [Act.put, List.getElem_toArray, List.getElem_cons_succ, List.getElem_cons_zero, List.setIfInBounds_toArray, List.set_cons_zero, List.set_cons_succ])
                refine wpAnyG_late (i := 11) rfl (by kernel_rfl) rfl (by kernel_rfl) (fun K hK => ?_)
                go_simp
                refine (rim2_any dd acc b7 HDL.out.1 HDL.out.2 _ (KB.out.below hS HBL.out.2)).mono ?_
                rintro e z2 ⟨rfl, hk7, hbz⟩
                have KB2 := Lib.hid hk7
                have HQ2 := Lib.hid (hbz _ _ (HQ.out.trans (hS.mono HQ.out.size)) (Nat.le_trans HQ.out.size hS.size) HGE.out.1)
                clear hk7 hbz
                refine hK.out _ _ ?_
                clear hK K
                (try simp only [Act.put, List.getElem_toArray, List.getElem_cons_succ, List.getElem_cons_zero, List.setIfInBounds_toArray, List.set_cons_zero, List.set_cons_succ])
                refine wpAnyU_done (by kernel_rfl) ?_ _
                clear hS hxw hxt
                go_wp2_with fail
                go_meet
                case rel => exact ⟨_, rfl, Lib.hid (by rw [HA1.out]; exact KB2.out), HQ2⟩
            case rest =>
              obtain ⟨V, rfl, KB3, HQ3⟩ := hcut
              have Ha1L := Lib.hid (show a1 < wTop by rw [← Ha1.out, ← HnY.out]; exact rim1_lt zs i acc k HaccL.out)
              obtain ⟨T, hT⟩ : ∃ T, (decide (i + 1 < nX) && (isB zs (i : Int) ((k : Int) - 1) != isB zs (i : Int) (k : Int))) = T := ⟨_, rfl⟩
              have HT := Lib.hid hT
              have HR1 := Lib.hid (fun W hW => rim1_any zs (i : Int) ((k : Int) - 1) B bc A2 c2 nx ny gs HNN.out.1 HNN.out.2 HGL.out W (HKC.out.below hW HKC.out.lt) (HC.out.later hW))
              have HR2 := Lib.hid (fun W hW => rim1_any zs (i : Int) (k : Int) B bc A2 c2 nx ny gs HNN.out.1 HNN.out.2 HGL.out W (HKC.out.below hW HKC.out.lt) (HC.out.later hW))
              clear hT
              obtain ⟨V, rfl⟩ : ∃ V' : World, V' = V := ⟨_, rfl⟩
              go_upto_region 13 with fail
              go_cut [74] (fun v wc => v = .bool T ∧ V = wc)
              case first =>
                obtain ⟨u1, hu1⟩ : ∃ u, isB zs (i : Int) ((k : Int) - 1) = u := ⟨_, rfl⟩
                obtain ⟨u2, hu2⟩ : ∃ u, isB zs (i : Int) (k : Int) = u := ⟨_, rfl⟩
                rw [hu1] at HR1
                rw [hu2] at HR2
                have HU := Lib.hid (show T = (decide (i + 1 < nX) && (u1 != u2)) by rw [← HT.out, hu1, hu2])
                clear hu1 hu2
                by_cases hk1 : i + 1 < nX
                · have hd : decide ((i : Int) + 1 < (nX : Int)) = true := decide_eq_true (by omega)
                  go_wp2_with fail
                  refine (HR1.out _ HQ3.out).mono ?_
                  rintro e y1 ⟨rfl, rfl⟩
                  go_wp2_with fail
                  refine (HR2.out _ HQ3.out).mono ?_
                  rintro e y2 ⟨rfl, rfl⟩
                  go_wp2_with fail
                  go_meet
                  case rel => exact ⟨by rw [HU.out, decide_eq_true hk1, Bool.true_and]; cases u1 <;> cases u2 <;> rfl, rfl⟩
                · have hd : decide ((i : Int) + 1 < (nX : Int)) = false := decide_eq_false (by omega)
                  go_wp2_with fail
                  go_meet
                  case rel => exact ⟨by rw [HU.out, decide_eq_false hk1, Bool.false_and], rfl⟩
              case rest =>
                obtain ⟨rfl, rfl⟩ := hcut
                go_upto_if 74 with fail
                obtain ⟨a2, ha1⟩ : ∃ a, (if (decide (i + 1 < nX) && (isB zs (i : Int) ((k : Int) - 1) != isB zs (i : Int) (k : Int))) = true then addW a1 (gapN (linesX zs) i) else a1) = a := ⟨_, rfl⟩
                have Ha2 := Lib.hid ha1
                clear ha1
                cases T with
                | false =>
                  have HA1 := Lib.hid (show a2 = a1 by rw [← Ha2.out, HT.out]; rfl)
                  go_wp2_with fail
                  go_roundw
                  case rel => exact ⟨k + 1, by omega, by simp, Lib.hid (by rw [HFK.out]; have h := KB3.out; rw [← HA1.out, ← Ha2.out, ← Ha1.out, ← HnX.out, ← HnY.out] at h; exact h), HQ3⟩
                  case measure => simp [intOf]; omega
                | true =>
                  have hk1 : i + 1 < nX := by have h := HT.out; simp at h; exact h.1
                  obtain ⟨a0, ha0⟩ : ∃ a, (linesX zs)[i]? = some a := ⟨_, List.getElem?_eq_getElem (by have := HnX.out; omega)⟩
                  obtain ⟨a9, ha9⟩ : ∃ a, (linesX zs)[i + 1]? = some a := ⟨_, List.getElem?_eq_getElem (by have := HnX.out; omega)⟩
                  have HIN := Lib.hid (show In64 a0 ∧ In64 a9 from ⟨HL64.out.1 _ (List.mem_of_getElem? ha0), HL64.out.1 _ (List.mem_of_getElem? ha9)⟩)
                  obtain ⟨dd, hdd⟩ : ∃ n : Nat, (a9 - a0).toNat = n := ⟨_, rfl⟩
                  have HD1 := Lib.hid (fun W => hdd ▸ wdiff_any a0 a9 HIN.out.1.1 HIN.out.1.2 HIN.out.2.1 HIN.out.2.2 W)
                  have HDL := Lib.hid (show dd < 18446744073709551616 ∧ a1 < wTop from ⟨hdd ▸ gap_lt HIN.out.1 HIN.out.2, Ha1L.out⟩)
                  have HA1 := Lib.hid (show a2 = addW a1 dd by rw [← Ha2.out, HT.out, if_pos rfl, gap_eq ha0 ha9, hdd])
                  obtain ⟨gx, lx, rfl, p0⟩ := i_at (HX.out.later HQ3.out) ha0
                  obtain ⟨g9, l9, hg9, p1⟩ := i_at (HX.out.later HQ3.out) ha9
                  cases hg9
                  have hxi : (0 : Int) ≤ (i : Int) + 1 ∧ (i : Int) + 1 < (nX : Int) ∧ (i : Int) < (nX : Int) := by omega
                  have HBL := Lib.hid (show gx < V.heap.size ∧ b7 < V.heap.size from ⟨World.block_lt_of_cell? _ _ p0, KB3.out.lt⟩)
                  clear ha0 ha9 hdd
                  go_upto_region 14 with fail
                  have hxw : IntKind.i64.wrap ((i : Int) + 1) = (i : Int) + 1 := IntWalk.i64_in _ (by omega)
                  have hxt : ((i : Int) + 1).toNat = i + 1 := by omega
                  refine wp_region_until (fun w' => Below V.heap.size V w') [0, 1, 2, 3, 4, 5, 6, 7, 8, 9, 10] (by kernel_rfl) ?_
                  have hS : (fun w' => Below V.heap.size V w') V.drew := (Below.refl _ _).drew
                  refine wpAnyG_take (i := 0) rfl (by kernel_rfl) (by kernel_rfl) (by kernel_rfl) (by kernel_rfl) (by kernel_rfl) (by kernel_rfl) (fun _ _ _ h => h) rfl (by intro w' hb; go_simp; try rfl) hS ?_
                  (try simp only [Act.put, List.getElem_toArray, List.getElem_cons_succ, List.getElem_cons_zero, List.setIfInBounds_toArray, List.set_cons_zero, List.set_cons_succ])
                  refine wpAnyG_take (i := 1) rfl (by kernel_rfl) (by kernel_rfl) (by kernel_rfl) (by kernel_rfl) (by kernel_rfl) (by kernel_rfl) (fun _ _ _ h => h) rfl (by intro w' hb; go_simp; try rfl) hS ?_
                  (try simp only [Act.put, List.getElem_toArray, List.getElem_cons_succ, List.getElem_cons_zero, List.setIfInBounds_toArray, List.set_cons_zero, List.set_cons_succ])
                  refine wpAnyG_take (i := 2) rfl (by kernel_rfl) (by kernel_rfl) (by kernel_rfl) (by kernel_rfl) (by kernel_rfl) (by kernel_rfl) (fun _ _ _ h => h) rfl (by intro w' hb; go_simp; try rfl) hS ?_
                  (try simp only [Act.put, List.getElem_toArray, List.getElem_cons_succ, List.getElem_cons_zero, List.setIfInBounds_toArray, List.set_cons_zero, List.set_cons_succ])
                  refine wpAnyG_take (i := 3) rfl (by kernel_rfl) (by kernel_rfl) (by kernel_rfl) (by kernel_rfl) (by kernel_rfl) (by kernel_rfl) (fun _ _ _ h => h) rfl (by intro w' hb; go_simp; try rfl) hS ?_
                  (try simp only [Act.put, List.getElem_toArray, List.getElem_cons_succ, List.getElem_cons_zero, List.setIfInBounds_toArray, List.set_cons_zero, List.set_cons_succ])
                  refine wpAnyG_take (i := 4) rfl (by kernel_rfl) (by kernel_rfl) (by kernel_rfl) (by kernel_rfl) (by kernel_rfl) (by kernel_rfl) (fun _ _ _ h => h) rfl (by intro w' hb; have k0 := hb.cell (p := ⟨gx, lx + i, none⟩) HBL.out.1; have k1 := hb.cell (p := ⟨gx, lx + (i + 1), none⟩) HBL.out.1; rw [p0] at k0; rw [p1] at k1; go_simp; try rfl) hS ?_
                  (try simp only [Act.put, List.getElem_toArray, List.getElem_cons_succ, List.getElem_cons_zero, List.setIfInBounds_toArray, List.set_cons_zero, List.set_cons_succ])
                  refine wpAnyG_take (i := 5) rfl (by kernel_rfl) (by kernel_rfl) (by kernel_rfl) (by kernel_rfl) (by kernel_rfl) (by kernel_rfl) (fun _ _ _ h => h) rfl (by intro w' hb; go_simp; try rfl) hS ?_
                  (try simp only [Act.put, List.getElem_toArray, List.getElem_cons_succ, List.getElem_cons_zero, List.setIfInBounds_toArray, List.set_cons_zero, List.set_cons_succ])
                  refine wpAnyG_take (i := 6) rfl (by kernel_rfl) (by kernel_rfl) (by kernel_rfl) (by kernel_rfl) (by kernel_rfl) (by kernel_rfl) (fun _ _ _ h => h) rfl (by intro w' hb; go_simp; try rfl) hS ?_
                  (try simp only [Act.put, List.getElem_toArray, List.getElem_cons_succ, List.getElem_cons_zero, List.setIfInBounds_toArray, List.set_cons_zero, List.set_cons_succ])
                  refine wpAnyG_take (i := 7) rfl (by kernel_rfl) (by kernel_rfl) (by kernel_rfl) (by kernel_rfl) (by kernel_rfl) (by kernel_rfl) (fun _ _ _ h => h) rfl (by intro w' hb; go_simp; try rfl) hS ?_
                  (try simp only [Act.put, List.getElem_toArray, List.getElem_cons_succ, List.getElem_cons_zero, List.setIfInBounds_toArray, List.set_cons_zero, List.set_cons_succ])
                  refine wpAnyG_take (i := 8) rfl (by kernel_rfl) (by kernel_rfl) (by kernel_rfl) (by kernel_rfl) (by kernel_rfl) (by kernel_rfl) (fun _ _ _ h => h) rfl (by intro w' hb; go_simp; try rfl) hS ?_
                  (try simp only [Act.put, List.getElem_toArray, List.getElem_cons_succ, List.getElem_cons_zero, List.setIfInBounds_toArray, List.set_cons_zero, List.set_cons_succ])
                  refine wpAnyG_take (i := 9) rfl (by kernel_rfl) (by kernel_rfl) (by kernel_rfl) (by kernel_rfl) (by kernel_rfl) (by kernel_rfl) (fun _ _ _ h => h) rfl (by intro w' hb; have k0 := hb.cell (p := ⟨gx, lx + i, none⟩) HBL.out.1; have k1 := hb.cell (p := ⟨gx, lx + (i + 1), none⟩) HBL.out.1; rw [p0] at k0; rw [p1] at k1; go_simp; try rfl) hS ?_
                  (try simp only [Act.put, List.getElem_toArray, List.getElem_cons_succ, List.getElem_cons_zero, List.setIfInBounds_toArray, List.set_cons_zero, List.set_cons_succ])
                  refine wpAnyG_step (i := 10) rfl (by kernel_rfl) rfl (fun K hK => ?_)
                  go_simp
                  refine (HD1.out _).mono ?_
                  rintro e z1 ⟨rfl, rfl⟩
                  refine hK.out _ _ (hS) (fun hS => ?_)
                  clear hK K
                  (try simp only [Act.put, List.getElem_toArray, List.getElem_cons_succ, List.getElem_cons_zero, List.setIfInBounds_toArray, List.set_cons_zero, List.set_cons_succ])
                  refine wpAnyG_late (i := 11) rfl (by kernel_rfl) rfl (by kernel_rfl) (fun K hK => ?_)
                  go_simp
                  refine (rim2_any dd a1 b7 HDL.out.1 HDL.out.2 _ (KB3.out.below hS HBL.out.2)).mono ?_
                  rintro e z2 ⟨rfl, hk7, hbz⟩
                  have KB2 := Lib.hid hk7
                  have HQ2 := Lib.hid (hbz _ _ (HQ3.out.trans (hS.mono HQ3.out.size)) (Nat.le_trans HQ3.out.size hS.size) HGE.out.1)
                  clear hk7 hbz
                  refine hK.out _ _ ?_
                  clear hK K
                  (try simp only [Act.put, List.getElem_toArray, List.getElem_cons_succ, List.getElem_cons_zero, List.setIfInBounds_toArray, List.set_cons_zero, List.set_cons_succ])
                  refine wpAnyU_done (by kernel_rfl) ?_ _
                  clear hS hxw hxt
                  go_wp2_with fail
                  go_roundw
                  case rel => exact ⟨k + 1, by omega, by simp, Lib.hid (by rw [HFK.out]; have h := KB2.out; rw [← HA1.out, ← Ha2.out, ← Ha1.out, ← HnX.out, ← HnY.out] at h; exact h), HQ2⟩
                  case measure => simp [intOf]; omega
        · obtain rfl : k = nY := by omega
          have hkI : decide ((k : Int) < (k : Int)) = false := decide_eq_false (by omega)
          go_wp2_with fail
          go_roundw
          case rel => exact ⟨i + 1, by omega, by simp, Lib.hid (by rw [HA0.out]; have h := KB.out; unfold rimCol; rw [HnY.out]; exact h), HQ⟩
          case measure => simp [intOf]; omega
    · obtain rfl : i = nX := by omega
      have hlI : decide ((i : Int) < (i : Int)) = false := decide_eq_false (by omega)
      have K2 := Lib.hid (K22.out.below HQ.out K22.out.lt)
      obtain ⟨h6, hh6⟩ : ∃ h : Int, (((List.range i).foldl (rimCol zs) 0 / 18446744073709551616 : Nat) : Int) = h := ⟨_, rfl⟩
      obtain ⟨l6, hl6⟩ : ∃ h : Int, (((List.range i).foldl (rimCol zs) 0 % 18446744073709551616 : Nat) : Int) = h := ⟨_, rfl⟩
      have HWV := Lib.hid (show (.agg #[.int .u64 h6, .int .u64 l6] : Value) = wideV (rimL zs) by unfold rimL; rw [HnX.out, ← hh6, ← hl6]; rfl)
      have p60 : wr.cell? ⟨b7, 0, none⟩ = some (.int .u64 h6) := by rw [← hh6]; exact KW.out.cell 0
      have p61 : wr.cell? ⟨b7, 1, none⟩ = some (.int .u64 l6) := by rw [← hl6]; exact KW.out.cell 1
      have p20 : wr.cell? ⟨b2, 0, none⟩ = some (.int .u64 0) := K2.out.cell 0
      have p21 : wr.cell? ⟨b2, 1, none⟩ = some (.int .u64 0) := K2.out.cell 1
      have f2 := Blk.frozen K2.out
      have HBF := Lib.hid (HB2.out.trans (HQ.out.mono HB2.out.size))
      clear hh6 hl6
      go_wp2_with fail
      exact bodyPost_ret (v := .agg #[.int .u64 h6, .int .u64 l6]) (by simp [results, Tryz.results124, go_sem, p20, p21]) rfl ⟨congrArg Ending.returned HWV.out, (HBF.out.setCell (p := ⟨b2, 0, none⟩) HLT.out _).setCell (p := ⟨b2, 1, none⟩) HLT.out _⟩
end Go.Proofs.YtokpgopdkimmmaaGreatDoor
