import Derived.Test.YtokpgopdkimmmaaGreatDoorModM1
import Derived.Test.YtokpgopdkimmmaaGreatDoorOpReplyWalk
import Derived.Test.YtokpgopdkimmmaaGreatDoorTellsM5
/- model.come, model.lose: an item more, an item less. -/
namespace Go.Proofs.YtokpgopdkimmmaaGreatDoor
open Go.RowKit Go.Maps
set_option linter.unusedVariables false
set_option linter.unusedSimpArgs false

abbrev repE (e c : Int) : Value := repV ⟨e, [], c, false, 0⟩ none 0
theorem key32 (i : Nat) (h : i < 4294967296) : keyOf Tryz.prog 22 (.int .u32 (i : Int)) = some (nameL i) := keyOf_int_mk Tryz.underlying22 (by simp only [Lit.wf, Bool.and_eq_true, decide_eq_true_eq]; exact ⟨Int.natCast_nonneg _, Int.le_of_lt_add_one (show (i : Int) < 4294967296 by omega)⟩)

theorem ptZero (w : World) : (zeroValue 159).run Tryz.prog w = .ok (.agg (PtV.cells ⟨0, 0, 0⟩)) w := by kernel_rfl
set_option maxRecDepth 100000 in
set_option maxHeartbeats 2000000 in
theorem ptCome_any (L : List PtV) (b q : Nat) (room : Int) (x : PtV) (hx : x.id < 4294967296) (hq : q < 1000000000) (w : World) (hM : MapR Tryz.prog 22 ptK b q L w) :
    Calls Tryz.prog 98 #[.map (some b), .int .i64 room, .int .u32 (x.id : Int), .agg x.cells] w fun e w' =>
      (((L.any fun y => y.id == x.id) = true ∧ e = .returned (repE 262 0) ∧ MapR Tryz.prog 22 ptK b q L w' ∧ Below w.heap.size w w') ∨
       ((L.any fun y => y.id == x.id) = false ∧ room ≤ (L.length : Int) ∧ e = .returned (repE 5 0) ∧ MapR Tryz.prog 22 ptK b q L w' ∧ Below w.heap.size w w') ∨
       ((L.any fun y => y.id == x.id) = false ∧ (L.length : Int) < room ∧ e = .returned (repE 0 ((L.length : Int) + 1)) ∧ MapR Tryz.prog 22 ptK b (q + 1) (L ++ [x]) w' ∧ w.grownBy w' (some b))) := by
  obtain ⟨D, hown, hH⟩ := hM
  have HO := Lib.hid hown
  have HH := Lib.hid hH
  have hlt := hown.lt
  have HLE := Lib.hid (hown.size_le)
  clear hown hH
  go_enter Tryz.func98, Tryz.ntmps98
  go_wp2_with (at_lookup; refine wpList_lookup_own_ok _ rfl _ _ 120 rfl 22 159 lawU32 Tryz.underlying120 ptK.R (ptZero _) _ [] (ptK.R_enc ptK_ok ⟨0, 0, 0⟩) b q D rfl ((HO.out.alloc _).alloc _) _ _ rfl (key32 x.id hx) ?_)
  intro v ps hv
  obtain ⟨y, rfl, _⟩ := RecK.R_inv ptK_ok hv
  rw [show ptK.enc y = y.cells from rfl]
  obtain ⟨hb, hhb⟩ : ∃ hb, Maps.has D (nameL x.id) = hb := ⟨_, rfl⟩
  have HB := Lib.hid (show (L.any fun y => y.id == x.id) = hb by rw [← hhb]; exact (HH.out.has x.id).symm)
  rw [hhb]
  clear hv
  cases hb with
  | true =>
    go_wp2_with fail
    exact bodyPost_ret (v := repE 262 0) (by simp [results, Tryz.results98, go_sem]) rfl (.inl ⟨HB.out, rfl, ⟨D, ((HO.out.alloc _).alloc _).alloc _, HH.out⟩, (((Below.refl w.heap.size w).alloc (Nat.le_refl _) _).alloc (by simp) _).alloc (by simp; omega) _⟩)
  | false =>
    have hsz : (Maps.size D : Int) = (L.length : Int) := by rw [HH.out.size]
    by_cases hr : room ≤ (L.length : Int)
    · have HR := Lib.hid hr
      have hd : decide (room ≤ (L.length : Int)) = true := decide_eq_true hr
      clear hr
      go_wp2_with (at_len; refine wpList_len_own _ rfl _ 120 rfl 22 159 Tryz.underlying120 ptK.R b q D rfl (((HO.out.alloc _).alloc _).alloc _) ?_)
      exact bodyPost_ret (v := repE 5 0) (by simp [results, Tryz.results98, go_sem]) rfl (.inr (.inl ⟨HB.out, HR.out, rfl, ⟨D, ((HO.out.alloc _).alloc _).alloc _, HH.out⟩, (((Below.refl w.heap.size w).alloc (Nat.le_refl _) _).alloc (by simp) _).alloc (by simp; omega) _⟩))
    · have HR := Lib.hid (show (L.length : Int) < room by omega)
      have hd : decide (room ≤ (L.length : Int)) = false := decide_eq_false hr
      clear hr
      go_wp2_with (first | (at_len; refine wpList_len_own _ rfl _ 120 rfl 22 159 Tryz.underlying120 ptK.R b q D rfl (((HO.out.alloc _).alloc _).alloc _) ?_) | (at_mapUpdate; refine wpList_mapUpdate_own _ rfl _ _ _ 120 rfl 22 159 lawU32 Tryz.underlying120 ptK.R b q D rfl (((HO.out.alloc _).alloc _).alloc _) (by unfold maxLen; omega) _ _ (nameL x.id) rfl rfl (key32 x.id hx) (ptK.dat x) [] (ptK.R_enc ptK_ok x) ?_))
      intro w1 hown1 hgrow1
      have HH1 := Lib.hid (HH.out.put (HO.out.tidy lawU32) x hx HB.out)
      have hsz1 : (Maps.size (D.put (nameL x.id) (ptK.dat x)) : Int) = (L.length : Int) + 1 := by
        have h := HH1.out.size
        rw [List.length_append] at h
        have h2 : Maps.size (D.put (nameL x.id) (ptK.dat x)) = L.length + 1 := h
        omega
      have HO1 := Lib.hid hown1
      have HG1 := Lib.hid (show w.grownBy w1 (some b) from grown_tr (only_alloc (only_alloc (only_alloc (World.grownBy.refl w _) _) _) _) hgrow1)
      have K8 : Blk w1 (w.heap.size + 1) 33 #[.int .i64 0, .slice none 0 0, .int .i64 0, .bool false, .int .u64 0, .int .u64 0] := by
        have h := Blk.new (w.alloc (.cells x.cells 159)) 33 #[.int .i64 0, .slice none 0 0, .int .i64 0, .bool false, .int .u64 0, .int .u64 0]
        rw [World.size_alloc] at h
        exact Blk.grown (Blk.alloc h _) hgrow1 (fun e => by have := Option.some.inj e; omega)
      have c0 : w1.cell? ⟨w.heap.size + 1, 0, none⟩ = some (.int .i64 0) := K8.cell 0
      have c1 : w1.cell? ⟨w.heap.size + 1, 1, none⟩ = some (.slice none 0 0) := K8.cell 1
      have c2 : w1.cell? ⟨w.heap.size + 1, 2, none⟩ = some (.int .i64 0) := K8.cell 2
      have c3 : w1.cell? ⟨w.heap.size + 1, 3, none⟩ = some (.bool false) := K8.cell 3
      have c4 : w1.cell? ⟨w.heap.size + 1, 4, none⟩ = some (.int .u64 0) := K8.cell 4
      have c5 : w1.cell? ⟨w.heap.size + 1, 5, none⟩ = some (.int .u64 0) := K8.cell 5
      have f8 := K8.frozen
      clear hown1 hgrow1 hsz K8
      go_wp2_with (at_len; refine wpList_len_own _ rfl _ 120 rfl 22 159 Tryz.underlying120 ptK.R b (q + 1) _ rfl HO1.out ?_)
      have HWF := fun (u0 u1 u2 u3 u4 u5 : Value) => (show MapR Tryz.prog 22 ptK b (q + 1) (L ++ [x]) ((((((w1.setCell ⟨w.heap.size + 1, 0, none⟩ u0).setCell ⟨w.heap.size + 1, 1, none⟩ u1).setCell ⟨w.heap.size + 1, 2, none⟩ u2).setCell ⟨w.heap.size + 1, 3, none⟩ u3).setCell ⟨w.heap.size + 1, 4, none⟩ u4).setCell ⟨w.heap.size + 1, 5, none⟩ u5) ∧ w.grownBy ((((((w1.setCell ⟨w.heap.size + 1, 0, none⟩ u0).setCell ⟨w.heap.size + 1, 1, none⟩ u1).setCell ⟨w.heap.size + 1, 2, none⟩ u2).setCell ⟨w.heap.size + 1, 3, none⟩ u3).setCell ⟨w.heap.size + 1, 4, none⟩ u4).setCell ⟨w.heap.size + 1, 5, none⟩ u5) (some b) from by
        have hne : ∀ j, b ≠ (⟨w.heap.size + 1, j, none⟩ : Addr).block := fun j => by show b ≠ w.heap.size + 1; omega
        have hge : ∀ j, (⟨w.heap.size + 1, j, none⟩ : Addr).block = b ∨ w.heap.size ≤ (⟨w.heap.size + 1, j, none⟩ : Addr).block := fun j => .inr (by show w.heap.size ≤ w.heap.size + 1; omega)
        exact ⟨⟨_, (((((HO1.out.setCell (hne 0) _).setCell (hne 1) _).setCell (hne 2) _).setCell (hne 3) _).setCell (hne 4) _).setCell (hne 5) _, HH1.out⟩, only_setCell (only_setCell (only_setCell (only_setCell (only_setCell (only_setCell HG1.out (hge 0) _) (hge 1) _) (hge 2) _) (hge 3) _) (hge 4) _) (hge 5) _⟩)
      exact bodyPost_ret (v := repE 0 ((L.length : Int) + 1)) (by simp [results, Tryz.results98, go_sem, c0, c1, c2, c3, c4, c5]) rfl (.inr (.inr ⟨HB.out, HR.out, rfl, HWF _ _ _ _ _ _⟩))
set_option maxRecDepth 100000 in
set_option maxHeartbeats 2000000 in
theorem ptLose_any (L : List PtV) (b q : Nat) (i : Nat) (hi : i < 4294967296) (w : World) (hM : MapR Tryz.prog 22 ptK b q L w) :
    Calls Tryz.prog 101 #[.map (some b), .int .u32 (i : Int)] w fun e w' =>
      (((L.any fun y => y.id == i) = false ∧ e = .returned (repE 263 0) ∧ MapR Tryz.prog 22 ptK b q L w' ∧ Below w.heap.size w w') ∨
       ((L.any fun y => y.id == i) = true ∧ e = .returned (repE 0 ((L.filter fun y => y.id != i).length : Int)) ∧ MapR Tryz.prog 22 ptK b q (L.filter fun y => y.id != i) w' ∧ w.grownBy w' (some b))) := by
  obtain ⟨D, hown, hH⟩ := hM
  have HO := Lib.hid hown
  have HH := Lib.hid hH
  have hlt := hown.lt
  clear hown hH
  go_enter Tryz.func101, Tryz.ntmps101
  go_wp2_with (at_lookup; refine wpList_lookup_own_ok _ rfl _ _ 120 rfl 22 159 lawU32 Tryz.underlying120 ptK.R (ptZero _) _ [] (ptK.R_enc ptK_ok ⟨0, 0, 0⟩) b q D rfl (HO.out.alloc _) _ _ rfl (key32 i hi) ?_)
  intro v ps hv
  obtain ⟨y, rfl, _⟩ := RecK.R_inv ptK_ok hv
  rw [show ptK.enc y = y.cells from rfl]
  obtain ⟨hb, hhb⟩ : ∃ hb, Maps.has D (nameL i) = hb := ⟨_, rfl⟩
  have HB := Lib.hid (show (L.any fun y => y.id == i) = hb by rw [← hhb]; exact (HH.out.has i).symm)
  rw [hhb]
  clear hv
  cases hb with
  | false =>
    go_wp2_with fail
    exact bodyPost_ret (v := repE 263 0) (by simp [results, Tryz.results101, go_sem]) rfl (.inl ⟨HB.out, rfl, ⟨D, (HO.out.alloc _).alloc _, HH.out⟩, ((Below.refl w.heap.size w).alloc (Nat.le_refl _) _).alloc (by simp) _⟩)
  | true =>
    go_wp2_with (at_delete; refine wpList_delete_own _ rfl _ _ 120 22 rfl 159 lawU32 Tryz.underlying120 ptK.R b q D rfl ((HO.out.alloc _).alloc _) _ _ rfl (key32 i hi) ?_)
    intro w1 hown1 hturn1
    have hgrow1 := hturn1.grown
    have HH1 := Lib.hid (HH.out.del (HO.out.tidy lawU32) i)
    have hsz1 : (Maps.size (D.del (nameL i)) : Int) = ((L.filter fun y => y.id != i).length : Int) := by
      have h2 : Maps.size (D.del (nameL i)) = (L.filter fun y => y.id != i).length := HH1.out.size
      omega
    have HO1 := Lib.hid hown1
    have HG1 := Lib.hid (show w.grownBy w1 (some b) from grown_tr (only_alloc (only_alloc (World.grownBy.refl w _) _) _) hgrow1)
    have K8 : Blk w1 w.heap.size 33 #[.int .i64 0, .slice none 0 0, .int .i64 0, .bool false, .int .u64 0, .int .u64 0] :=
      Blk.grown (Blk.alloc (Blk.new w _ _) _) hgrow1 (fun e => by have := Option.some.inj e; omega)
    have c0 : w1.cell? ⟨w.heap.size, 0, none⟩ = some (.int .i64 0) := K8.cell 0
    have c1 : w1.cell? ⟨w.heap.size, 1, none⟩ = some (.slice none 0 0) := K8.cell 1
    have c2 : w1.cell? ⟨w.heap.size, 2, none⟩ = some (.int .i64 0) := K8.cell 2
    have c3 : w1.cell? ⟨w.heap.size, 3, none⟩ = some (.bool false) := K8.cell 3
    have c4 : w1.cell? ⟨w.heap.size, 4, none⟩ = some (.int .u64 0) := K8.cell 4
    have c5 : w1.cell? ⟨w.heap.size, 5, none⟩ = some (.int .u64 0) := K8.cell 5
    have f8 := K8.frozen
    clear hown1 hgrow1 hturn1 K8
    go_wp2_with (at_len; refine wpList_len_own _ rfl _ 120 rfl 22 159 Tryz.underlying120 ptK.R b q _ rfl HO1.out ?_)
    have HWF := fun (u0 u1 u2 u3 u4 u5 : Value) => (show MapR Tryz.prog 22 ptK b q (L.filter fun y => y.id != i) ((((((w1.setCell ⟨w.heap.size, 0, none⟩ u0).setCell ⟨w.heap.size, 1, none⟩ u1).setCell ⟨w.heap.size, 2, none⟩ u2).setCell ⟨w.heap.size, 3, none⟩ u3).setCell ⟨w.heap.size, 4, none⟩ u4).setCell ⟨w.heap.size, 5, none⟩ u5) ∧ w.grownBy ((((((w1.setCell ⟨w.heap.size, 0, none⟩ u0).setCell ⟨w.heap.size, 1, none⟩ u1).setCell ⟨w.heap.size, 2, none⟩ u2).setCell ⟨w.heap.size, 3, none⟩ u3).setCell ⟨w.heap.size, 4, none⟩ u4).setCell ⟨w.heap.size, 5, none⟩ u5) (some b) from by
      have hne : ∀ j, b ≠ (⟨w.heap.size, j, none⟩ : Addr).block := fun j => by show b ≠ w.heap.size; omega
      have hge : ∀ j, (⟨w.heap.size, j, none⟩ : Addr).block = b ∨ w.heap.size ≤ (⟨w.heap.size, j, none⟩ : Addr).block := fun j => .inr (Nat.le_refl _)
      exact ⟨⟨_, (((((HO1.out.setCell (hne 0) _).setCell (hne 1) _).setCell (hne 2) _).setCell (hne 3) _).setCell (hne 4) _).setCell (hne 5) _, HH1.out⟩, only_setCell (only_setCell (only_setCell (only_setCell (only_setCell (only_setCell HG1.out (hge 0) _) (hge 1) _) (hge 2) _) (hge 3) _) (hge 4) _) (hge 5) _⟩)
    exact bodyPost_ret (v := repE 0 ((L.filter fun y => y.id != i).length : Int)) (by simp [results, Tryz.results101, go_sem, c0, c1, c2, c3, c4, c5]) rfl (.inr ⟨HB.out, rfl, HWF _ _ _ _ _ _⟩)
theorem spZero (w : World) : (zeroValue 67).run Tryz.prog w = .ok (.agg (SpV.cells ⟨0, 0, 0⟩)) w := by kernel_rfl
set_option maxRecDepth 100000 in
set_option maxHeartbeats 2000000 in
theorem spCome_any (L : List SpV) (b q : Nat) (room : Int) (x : SpV) (hx : x.id < 4294967296) (hq : q < 1000000000) (w : World) (hM : MapR Tryz.prog 22 spK b q L w) :
    Calls Tryz.prog 99 #[.map (some b), .int .i64 room, .int .u32 (x.id : Int), .agg x.cells] w fun e w' =>
      (((L.any fun y => y.id == x.id) = true ∧ e = .returned (repE 262 0) ∧ MapR Tryz.prog 22 spK b q L w' ∧ Below w.heap.size w w') ∨
       ((L.any fun y => y.id == x.id) = false ∧ room ≤ (L.length : Int) ∧ e = .returned (repE 5 0) ∧ MapR Tryz.prog 22 spK b q L w' ∧ Below w.heap.size w w') ∨
       ((L.any fun y => y.id == x.id) = false ∧ (L.length : Int) < room ∧ e = .returned (repE 0 ((L.length : Int) + 1)) ∧ MapR Tryz.prog 22 spK b (q + 1) (L ++ [x]) w' ∧ w.grownBy w' (some b))) := by
  obtain ⟨D, hown, hH⟩ := hM
  have HO := Lib.hid hown
  have HH := Lib.hid hH
  have hlt := hown.lt
  have HLE := Lib.hid (hown.size_le)
  clear hown hH
  go_enter Tryz.func99, Tryz.ntmps99
  go_wp2_with (at_lookup; refine wpList_lookup_own_ok _ rfl _ _ 121 rfl 22 67 lawU32 Tryz.underlying121 spK.R (spZero _) _ [] (spK.R_enc spK_ok ⟨0, 0, 0⟩) b q D rfl ((HO.out.alloc _).alloc _) _ _ rfl (key32 x.id hx) ?_)
  intro v ps hv
  obtain ⟨y, rfl, _⟩ := RecK.R_inv spK_ok hv
  rw [show spK.enc y = y.cells from rfl]
  obtain ⟨hb, hhb⟩ : ∃ hb, Maps.has D (nameL x.id) = hb := ⟨_, rfl⟩
  have HB := Lib.hid (show (L.any fun y => y.id == x.id) = hb by rw [← hhb]; exact (HH.out.has x.id).symm)
  rw [hhb]
  clear hv
  cases hb with
  | true =>
    go_wp2_with fail
    exact bodyPost_ret (v := repE 262 0) (by simp [results, Tryz.results99, go_sem]) rfl (.inl ⟨HB.out, rfl, ⟨D, ((HO.out.alloc _).alloc _).alloc _, HH.out⟩, (((Below.refl w.heap.size w).alloc (Nat.le_refl _) _).alloc (by simp) _).alloc (by simp; omega) _⟩)
  | false =>
    have hsz : (Maps.size D : Int) = (L.length : Int) := by rw [HH.out.size]
    by_cases hr : room ≤ (L.length : Int)
    · have HR := Lib.hid hr
      have hd : decide (room ≤ (L.length : Int)) = true := decide_eq_true hr
      clear hr
      go_wp2_with (at_len; refine wpList_len_own _ rfl _ 121 rfl 22 67 Tryz.underlying121 spK.R b q D rfl (((HO.out.alloc _).alloc _).alloc _) ?_)
      exact bodyPost_ret (v := repE 5 0) (by simp [results, Tryz.results99, go_sem]) rfl (.inr (.inl ⟨HB.out, HR.out, rfl, ⟨D, ((HO.out.alloc _).alloc _).alloc _, HH.out⟩, (((Below.refl w.heap.size w).alloc (Nat.le_refl _) _).alloc (by simp) _).alloc (by simp; omega) _⟩))
    · have HR := Lib.hid (show (L.length : Int) < room by omega)
      have hd : decide (room ≤ (L.length : Int)) = false := decide_eq_false hr
      clear hr
      go_wp2_with (first | (at_len; refine wpList_len_own _ rfl _ 121 rfl 22 67 Tryz.underlying121 spK.R b q D rfl (((HO.out.alloc _).alloc _).alloc _) ?_) | (at_mapUpdate; refine wpList_mapUpdate_own _ rfl _ _ _ 121 rfl 22 67 lawU32 Tryz.underlying121 spK.R b q D rfl (((HO.out.alloc _).alloc _).alloc _) (by unfold maxLen; omega) _ _ (nameL x.id) rfl rfl (key32 x.id hx) (spK.dat x) [] (spK.R_enc spK_ok x) ?_))
      intro w1 hown1 hgrow1
      have HH1 := Lib.hid (HH.out.put (HO.out.tidy lawU32) x hx HB.out)
      have hsz1 : (Maps.size (D.put (nameL x.id) (spK.dat x)) : Int) = (L.length : Int) + 1 := by
        have h := HH1.out.size
        rw [List.length_append] at h
        have h2 : Maps.size (D.put (nameL x.id) (spK.dat x)) = L.length + 1 := h
        omega
      have HO1 := Lib.hid hown1
      have HG1 := Lib.hid (show w.grownBy w1 (some b) from grown_tr (only_alloc (only_alloc (only_alloc (World.grownBy.refl w _) _) _) _) hgrow1)
      have K8 : Blk w1 (w.heap.size + 1) 33 #[.int .i64 0, .slice none 0 0, .int .i64 0, .bool false, .int .u64 0, .int .u64 0] := by
        have h := Blk.new (w.alloc (.cells x.cells 67)) 33 #[.int .i64 0, .slice none 0 0, .int .i64 0, .bool false, .int .u64 0, .int .u64 0]
        rw [World.size_alloc] at h
        exact Blk.grown (Blk.alloc h _) hgrow1 (fun e => by have := Option.some.inj e; omega)
      have c0 : w1.cell? ⟨w.heap.size + 1, 0, none⟩ = some (.int .i64 0) := K8.cell 0
      have c1 : w1.cell? ⟨w.heap.size + 1, 1, none⟩ = some (.slice none 0 0) := K8.cell 1
      have c2 : w1.cell? ⟨w.heap.size + 1, 2, none⟩ = some (.int .i64 0) := K8.cell 2
      have c3 : w1.cell? ⟨w.heap.size + 1, 3, none⟩ = some (.bool false) := K8.cell 3
      have c4 : w1.cell? ⟨w.heap.size + 1, 4, none⟩ = some (.int .u64 0) := K8.cell 4
      have c5 : w1.cell? ⟨w.heap.size + 1, 5, none⟩ = some (.int .u64 0) := K8.cell 5
      have f8 := K8.frozen
      clear hown1 hgrow1 hsz K8
      go_wp2_with (at_len; refine wpList_len_own _ rfl _ 121 rfl 22 67 Tryz.underlying121 spK.R b (q + 1) _ rfl HO1.out ?_)
      have HWF := fun (u0 u1 u2 u3 u4 u5 : Value) => (show MapR Tryz.prog 22 spK b (q + 1) (L ++ [x]) ((((((w1.setCell ⟨w.heap.size + 1, 0, none⟩ u0).setCell ⟨w.heap.size + 1, 1, none⟩ u1).setCell ⟨w.heap.size + 1, 2, none⟩ u2).setCell ⟨w.heap.size + 1, 3, none⟩ u3).setCell ⟨w.heap.size + 1, 4, none⟩ u4).setCell ⟨w.heap.size + 1, 5, none⟩ u5) ∧ w.grownBy ((((((w1.setCell ⟨w.heap.size + 1, 0, none⟩ u0).setCell ⟨w.heap.size + 1, 1, none⟩ u1).setCell ⟨w.heap.size + 1, 2, none⟩ u2).setCell ⟨w.heap.size + 1, 3, none⟩ u3).setCell ⟨w.heap.size + 1, 4, none⟩ u4).setCell ⟨w.heap.size + 1, 5, none⟩ u5) (some b) from by
        have hne : ∀ j, b ≠ (⟨w.heap.size + 1, j, none⟩ : Addr).block := fun j => by show b ≠ w.heap.size + 1; omega
        have hge : ∀ j, (⟨w.heap.size + 1, j, none⟩ : Addr).block = b ∨ w.heap.size ≤ (⟨w.heap.size + 1, j, none⟩ : Addr).block := fun j => .inr (by show w.heap.size ≤ w.heap.size + 1; omega)
        exact ⟨⟨_, (((((HO1.out.setCell (hne 0) _).setCell (hne 1) _).setCell (hne 2) _).setCell (hne 3) _).setCell (hne 4) _).setCell (hne 5) _, HH1.out⟩, only_setCell (only_setCell (only_setCell (only_setCell (only_setCell (only_setCell HG1.out (hge 0) _) (hge 1) _) (hge 2) _) (hge 3) _) (hge 4) _) (hge 5) _⟩)
      exact bodyPost_ret (v := repE 0 ((L.length : Int) + 1)) (by simp [results, Tryz.results99, go_sem, c0, c1, c2, c3, c4, c5]) rfl (.inr (.inr ⟨HB.out, HR.out, rfl, HWF _ _ _ _ _ _⟩))
set_option maxRecDepth 100000 in
set_option maxHeartbeats 2000000 in
theorem spLose_any (L : List SpV) (b q : Nat) (i : Nat) (hi : i < 4294967296) (w : World) (hM : MapR Tryz.prog 22 spK b q L w) :
    Calls Tryz.prog 102 #[.map (some b), .int .u32 (i : Int)] w fun e w' =>
      (((L.any fun y => y.id == i) = false ∧ e = .returned (repE 263 0) ∧ MapR Tryz.prog 22 spK b q L w' ∧ Below w.heap.size w w') ∨
       ((L.any fun y => y.id == i) = true ∧ e = .returned (repE 0 ((L.filter fun y => y.id != i).length : Int)) ∧ MapR Tryz.prog 22 spK b q (L.filter fun y => y.id != i) w' ∧ w.grownBy w' (some b))) := by
  obtain ⟨D, hown, hH⟩ := hM
  have HO := Lib.hid hown
  have HH := Lib.hid hH
  have hlt := hown.lt
  clear hown hH
  go_enter Tryz.func102, Tryz.ntmps102
  go_wp2_with (at_lookup; refine wpList_lookup_own_ok _ rfl _ _ 121 rfl 22 67 lawU32 Tryz.underlying121 spK.R (spZero _) _ [] (spK.R_enc spK_ok ⟨0, 0, 0⟩) b q D rfl (HO.out.alloc _) _ _ rfl (key32 i hi) ?_)
  intro v ps hv
  obtain ⟨y, rfl, _⟩ := RecK.R_inv spK_ok hv
  rw [show spK.enc y = y.cells from rfl]
  obtain ⟨hb, hhb⟩ : ∃ hb, Maps.has D (nameL i) = hb := ⟨_, rfl⟩
  have HB := Lib.hid (show (L.any fun y => y.id == i) = hb by rw [← hhb]; exact (HH.out.has i).symm)
  rw [hhb]
  clear hv
  cases hb with
  | false =>
    go_wp2_with fail
    exact bodyPost_ret (v := repE 263 0) (by simp [results, Tryz.results102, go_sem]) rfl (.inl ⟨HB.out, rfl, ⟨D, (HO.out.alloc _).alloc _, HH.out⟩, ((Below.refl w.heap.size w).alloc (Nat.le_refl _) _).alloc (by simp) _⟩)
  | true =>
    go_wp2_with (at_delete; refine wpList_delete_own _ rfl _ _ 121 22 rfl 67 lawU32 Tryz.underlying121 spK.R b q D rfl ((HO.out.alloc _).alloc _) _ _ rfl (key32 i hi) ?_)
    intro w1 hown1 hturn1
    have hgrow1 := hturn1.grown
    have HH1 := Lib.hid (HH.out.del (HO.out.tidy lawU32) i)
    have hsz1 : (Maps.size (D.del (nameL i)) : Int) = ((L.filter fun y => y.id != i).length : Int) := by
      have h2 : Maps.size (D.del (nameL i)) = (L.filter fun y => y.id != i).length := HH1.out.size
      omega
    have HO1 := Lib.hid hown1
    have HG1 := Lib.hid (show w.grownBy w1 (some b) from grown_tr (only_alloc (only_alloc (World.grownBy.refl w _) _) _) hgrow1)
    have K8 : Blk w1 w.heap.size 33 #[.int .i64 0, .slice none 0 0, .int .i64 0, .bool false, .int .u64 0, .int .u64 0] :=
      Blk.grown (Blk.alloc (Blk.new w _ _) _) hgrow1 (fun e => by have := Option.some.inj e; omega)
    have c0 : w1.cell? ⟨w.heap.size, 0, none⟩ = some (.int .i64 0) := K8.cell 0
    have c1 : w1.cell? ⟨w.heap.size, 1, none⟩ = some (.slice none 0 0) := K8.cell 1
    have c2 : w1.cell? ⟨w.heap.size, 2, none⟩ = some (.int .i64 0) := K8.cell 2
    have c3 : w1.cell? ⟨w.heap.size, 3, none⟩ = some (.bool false) := K8.cell 3
    have c4 : w1.cell? ⟨w.heap.size, 4, none⟩ = some (.int .u64 0) := K8.cell 4
    have c5 : w1.cell? ⟨w.heap.size, 5, none⟩ = some (.int .u64 0) := K8.cell 5
    have f8 := K8.frozen
    clear hown1 hgrow1 hturn1 K8
    go_wp2_with (at_len; refine wpList_len_own _ rfl _ 121 rfl 22 67 Tryz.underlying121 spK.R b q _ rfl HO1.out ?_)
    have HWF := fun (u0 u1 u2 u3 u4 u5 : Value) => (show MapR Tryz.prog 22 spK b q (L.filter fun y => y.id != i) ((((((w1.setCell ⟨w.heap.size, 0, none⟩ u0).setCell ⟨w.heap.size, 1, none⟩ u1).setCell ⟨w.heap.size, 2, none⟩ u2).setCell ⟨w.heap.size, 3, none⟩ u3).setCell ⟨w.heap.size, 4, none⟩ u4).setCell ⟨w.heap.size, 5, none⟩ u5) ∧ w.grownBy ((((((w1.setCell ⟨w.heap.size, 0, none⟩ u0).setCell ⟨w.heap.size, 1, none⟩ u1).setCell ⟨w.heap.size, 2, none⟩ u2).setCell ⟨w.heap.size, 3, none⟩ u3).setCell ⟨w.heap.size, 4, none⟩ u4).setCell ⟨w.heap.size, 5, none⟩ u5) (some b) from by
      have hne : ∀ j, b ≠ (⟨w.heap.size, j, none⟩ : Addr).block := fun j => by show b ≠ w.heap.size; omega
      have hge : ∀ j, (⟨w.heap.size, j, none⟩ : Addr).block = b ∨ w.heap.size ≤ (⟨w.heap.size, j, none⟩ : Addr).block := fun j => .inr (Nat.le_refl _)
      exact ⟨⟨_, (((((HO1.out.setCell (hne 0) _).setCell (hne 1) _).setCell (hne 2) _).setCell (hne 3) _).setCell (hne 4) _).setCell (hne 5) _, HH1.out⟩, only_setCell (only_setCell (only_setCell (only_setCell (only_setCell (only_setCell HG1.out (hge 0) _) (hge 1) _) (hge 2) _) (hge 3) _) (hge 4) _) (hge 5) _⟩)
    exact bodyPost_ret (v := repE 0 ((L.filter fun y => y.id != i).length : Int)) (by simp [results, Tryz.results102, go_sem, c0, c1, c2, c3, c4, c5]) rfl (.inr ⟨HB.out, rfl, HWF _ _ _ _ _ _⟩)
theorem bxZero (w : World) : (zeroValue 71).run Tryz.prog w = .ok (.agg (BxV.cells ⟨0, 0, 0, 0, 0⟩)) w := by kernel_rfl
set_option maxRecDepth 100000 in
set_option maxHeartbeats 2000000 in
theorem bxCome_any (L : List BxV) (b q : Nat) (room : Int) (x : BxV) (hx : x.id < 4294967296) (hq : q < 1000000000) (w : World) (hM : MapR Tryz.prog 22 bxK b q L w) :
    Calls Tryz.prog 100 #[.map (some b), .int .i64 room, .int .u32 (x.id : Int), .agg x.cells] w fun e w' =>
      (((L.any fun y => y.id == x.id) = true ∧ e = .returned (repE 262 0) ∧ MapR Tryz.prog 22 bxK b q L w' ∧ Below w.heap.size w w') ∨
       ((L.any fun y => y.id == x.id) = false ∧ room ≤ (L.length : Int) ∧ e = .returned (repE 5 0) ∧ MapR Tryz.prog 22 bxK b q L w' ∧ Below w.heap.size w w') ∨
       ((L.any fun y => y.id == x.id) = false ∧ (L.length : Int) < room ∧ e = .returned (repE 0 ((L.length : Int) + 1)) ∧ MapR Tryz.prog 22 bxK b (q + 1) (L ++ [x]) w' ∧ w.grownBy w' (some b))) := by
  obtain ⟨D, hown, hH⟩ := hM
  have HO := Lib.hid hown
  have HH := Lib.hid hH
  have hlt := hown.lt
  have HLE := Lib.hid (hown.size_le)
  clear hown hH
  go_enter Tryz.func100, Tryz.ntmps100
  go_wp2_with (at_lookup; refine wpList_lookup_own_ok _ rfl _ _ 122 rfl 22 71 lawU32 Tryz.underlying122 bxK.R (bxZero _) _ [] (bxK.R_enc bxK_ok ⟨0, 0, 0, 0, 0⟩) b q D rfl ((HO.out.alloc _).alloc _) _ _ rfl (key32 x.id hx) ?_)
  intro v ps hv
  obtain ⟨y, rfl, _⟩ := RecK.R_inv bxK_ok hv
  rw [show bxK.enc y = y.cells from rfl]
  obtain ⟨hb, hhb⟩ : ∃ hb, Maps.has D (nameL x.id) = hb := ⟨_, rfl⟩
  have HB := Lib.hid (show (L.any fun y => y.id == x.id) = hb by rw [← hhb]; exact (HH.out.has x.id).symm)
  rw [hhb]
  clear hv
  cases hb with
  | true =>
    go_wp2_with fail
    exact bodyPost_ret (v := repE 262 0) (by simp [results, Tryz.results100, go_sem]) rfl (.inl ⟨HB.out, rfl, ⟨D, ((HO.out.alloc _).alloc _).alloc _, HH.out⟩, (((Below.refl w.heap.size w).alloc (Nat.le_refl _) _).alloc (by simp) _).alloc (by simp; omega) _⟩)
  | false =>
    have hsz : (Maps.size D : Int) = (L.length : Int) := by rw [HH.out.size]
    by_cases hr : room ≤ (L.length : Int)
    · have HR := Lib.hid hr
      have hd : decide (room ≤ (L.length : Int)) = true := decide_eq_true hr
      clear hr
      go_wp2_with (at_len; refine wpList_len_own _ rfl _ 122 rfl 22 71 Tryz.underlying122 bxK.R b q D rfl (((HO.out.alloc _).alloc _).alloc _) ?_)
      exact bodyPost_ret (v := repE 5 0) (by simp [results, Tryz.results100, go_sem]) rfl (.inr (.inl ⟨HB.out, HR.out, rfl, ⟨D, ((HO.out.alloc _).alloc _).alloc _, HH.out⟩, (((Below.refl w.heap.size w).alloc (Nat.le_refl _) _).alloc (by simp) _).alloc (by simp; omega) _⟩))
    · have HR := Lib.hid (show (L.length : Int) < room by omega)
      have hd : decide (room ≤ (L.length : Int)) = false := decide_eq_false hr
      clear hr
      go_wp2_with (first | (at_len; refine wpList_len_own _ rfl _ 122 rfl 22 71 Tryz.underlying122 bxK.R b q D rfl (((HO.out.alloc _).alloc _).alloc _) ?_) | (at_mapUpdate; refine wpList_mapUpdate_own _ rfl _ _ _ 122 rfl 22 71 lawU32 Tryz.underlying122 bxK.R b q D rfl (((HO.out.alloc _).alloc _).alloc _) (by unfold maxLen; omega) _ _ (nameL x.id) rfl rfl (key32 x.id hx) (bxK.dat x) [] (bxK.R_enc bxK_ok x) ?_))
      intro w1 hown1 hgrow1
      have HH1 := Lib.hid (HH.out.put (HO.out.tidy lawU32) x hx HB.out)
      have hsz1 : (Maps.size (D.put (nameL x.id) (bxK.dat x)) : Int) = (L.length : Int) + 1 := by
        have h := HH1.out.size
        rw [List.length_append] at h
        have h2 : Maps.size (D.put (nameL x.id) (bxK.dat x)) = L.length + 1 := h
        omega
      have HO1 := Lib.hid hown1
      have HG1 := Lib.hid (show w.grownBy w1 (some b) from grown_tr (only_alloc (only_alloc (only_alloc (World.grownBy.refl w _) _) _) _) hgrow1)
      have K8 : Blk w1 (w.heap.size + 1) 33 #[.int .i64 0, .slice none 0 0, .int .i64 0, .bool false, .int .u64 0, .int .u64 0] := by
        have h := Blk.new (w.alloc (.cells x.cells 71)) 33 #[.int .i64 0, .slice none 0 0, .int .i64 0, .bool false, .int .u64 0, .int .u64 0]
        rw [World.size_alloc] at h
        exact Blk.grown (Blk.alloc h _) hgrow1 (fun e => by have := Option.some.inj e; omega)
      have c0 : w1.cell? ⟨w.heap.size + 1, 0, none⟩ = some (.int .i64 0) := K8.cell 0
      have c1 : w1.cell? ⟨w.heap.size + 1, 1, none⟩ = some (.slice none 0 0) := K8.cell 1
      have c2 : w1.cell? ⟨w.heap.size + 1, 2, none⟩ = some (.int .i64 0) := K8.cell 2
      have c3 : w1.cell? ⟨w.heap.size + 1, 3, none⟩ = some (.bool false) := K8.cell 3
      have c4 : w1.cell? ⟨w.heap.size + 1, 4, none⟩ = some (.int .u64 0) := K8.cell 4
      have c5 : w1.cell? ⟨w.heap.size + 1, 5, none⟩ = some (.int .u64 0) := K8.cell 5
      have f8 := K8.frozen
      clear hown1 hgrow1 hsz K8
      go_wp2_with (at_len; refine wpList_len_own _ rfl _ 122 rfl 22 71 Tryz.underlying122 bxK.R b (q + 1) _ rfl HO1.out ?_)
      have HWF := fun (u0 u1 u2 u3 u4 u5 : Value) => (show MapR Tryz.prog 22 bxK b (q + 1) (L ++ [x]) ((((((w1.setCell ⟨w.heap.size + 1, 0, none⟩ u0).setCell ⟨w.heap.size + 1, 1, none⟩ u1).setCell ⟨w.heap.size + 1, 2, none⟩ u2).setCell ⟨w.heap.size + 1, 3, none⟩ u3).setCell ⟨w.heap.size + 1, 4, none⟩ u4).setCell ⟨w.heap.size + 1, 5, none⟩ u5) ∧ w.grownBy ((((((w1.setCell ⟨w.heap.size + 1, 0, none⟩ u0).setCell ⟨w.heap.size + 1, 1, none⟩ u1).setCell ⟨w.heap.size + 1, 2, none⟩ u2).setCell ⟨w.heap.size + 1, 3, none⟩ u3).setCell ⟨w.heap.size + 1, 4, none⟩ u4).setCell ⟨w.heap.size + 1, 5, none⟩ u5) (some b) from by
        have hne : ∀ j, b ≠ (⟨w.heap.size + 1, j, none⟩ : Addr).block := fun j => by show b ≠ w.heap.size + 1; omega
        have hge : ∀ j, (⟨w.heap.size + 1, j, none⟩ : Addr).block = b ∨ w.heap.size ≤ (⟨w.heap.size + 1, j, none⟩ : Addr).block := fun j => .inr (by show w.heap.size ≤ w.heap.size + 1; omega)
        exact ⟨⟨_, (((((HO1.out.setCell (hne 0) _).setCell (hne 1) _).setCell (hne 2) _).setCell (hne 3) _).setCell (hne 4) _).setCell (hne 5) _, HH1.out⟩, only_setCell (only_setCell (only_setCell (only_setCell (only_setCell (only_setCell HG1.out (hge 0) _) (hge 1) _) (hge 2) _) (hge 3) _) (hge 4) _) (hge 5) _⟩)
      exact bodyPost_ret (v := repE 0 ((L.length : Int) + 1)) (by simp [results, Tryz.results100, go_sem, c0, c1, c2, c3, c4, c5]) rfl (.inr (.inr ⟨HB.out, HR.out, rfl, HWF _ _ _ _ _ _⟩))
set_option maxRecDepth 100000 in
set_option maxHeartbeats 2000000 in
theorem bxLose_any (L : List BxV) (b q : Nat) (i : Nat) (hi : i < 4294967296) (w : World) (hM : MapR Tryz.prog 22 bxK b q L w) :
    Calls Tryz.prog 103 #[.map (some b), .int .u32 (i : Int)] w fun e w' =>
      (((L.any fun y => y.id == i) = false ∧ e = .returned (repE 263 0) ∧ MapR Tryz.prog 22 bxK b q L w' ∧ Below w.heap.size w w') ∨
       ((L.any fun y => y.id == i) = true ∧ e = .returned (repE 0 ((L.filter fun y => y.id != i).length : Int)) ∧ MapR Tryz.prog 22 bxK b q (L.filter fun y => y.id != i) w' ∧ w.grownBy w' (some b))) := by
  obtain ⟨D, hown, hH⟩ := hM
  have HO := Lib.hid hown
  have HH := Lib.hid hH
  have hlt := hown.lt
  clear hown hH
  go_enter Tryz.func103, Tryz.ntmps103
  go_wp2_with (at_lookup; refine wpList_lookup_own_ok _ rfl _ _ 122 rfl 22 71 lawU32 Tryz.underlying122 bxK.R (bxZero _) _ [] (bxK.R_enc bxK_ok ⟨0, 0, 0, 0, 0⟩) b q D rfl (HO.out.alloc _) _ _ rfl (key32 i hi) ?_)
  intro v ps hv
  obtain ⟨y, rfl, _⟩ := RecK.R_inv bxK_ok hv
  rw [show bxK.enc y = y.cells from rfl]
  obtain ⟨hb, hhb⟩ : ∃ hb, Maps.has D (nameL i) = hb := ⟨_, rfl⟩
  have HB := Lib.hid (show (L.any fun y => y.id == i) = hb by rw [← hhb]; exact (HH.out.has i).symm)
  rw [hhb]
  clear hv
  cases hb with
  | false =>
    go_wp2_with fail
    exact bodyPost_ret (v := repE 263 0) (by simp [results, Tryz.results103, go_sem]) rfl (.inl ⟨HB.out, rfl, ⟨D, (HO.out.alloc _).alloc _, HH.out⟩, ((Below.refl w.heap.size w).alloc (Nat.le_refl _) _).alloc (by simp) _⟩)
  | true =>
    go_wp2_with (at_delete; refine wpList_delete_own _ rfl _ _ 122 22 rfl 71 lawU32 Tryz.underlying122 bxK.R b q D rfl ((HO.out.alloc _).alloc _) _ _ rfl (key32 i hi) ?_)
    intro w1 hown1 hturn1
    have hgrow1 := hturn1.grown
    have HH1 := Lib.hid (HH.out.del (HO.out.tidy lawU32) i)
    have hsz1 : (Maps.size (D.del (nameL i)) : Int) = ((L.filter fun y => y.id != i).length : Int) := by
      have h2 : Maps.size (D.del (nameL i)) = (L.filter fun y => y.id != i).length := HH1.out.size
      omega
    have HO1 := Lib.hid hown1
    have HG1 := Lib.hid (show w.grownBy w1 (some b) from grown_tr (only_alloc (only_alloc (World.grownBy.refl w _) _) _) hgrow1)
    have K8 : Blk w1 w.heap.size 33 #[.int .i64 0, .slice none 0 0, .int .i64 0, .bool false, .int .u64 0, .int .u64 0] :=
      Blk.grown (Blk.alloc (Blk.new w _ _) _) hgrow1 (fun e => by have := Option.some.inj e; omega)
    have c0 : w1.cell? ⟨w.heap.size, 0, none⟩ = some (.int .i64 0) := K8.cell 0
    have c1 : w1.cell? ⟨w.heap.size, 1, none⟩ = some (.slice none 0 0) := K8.cell 1
    have c2 : w1.cell? ⟨w.heap.size, 2, none⟩ = some (.int .i64 0) := K8.cell 2
    have c3 : w1.cell? ⟨w.heap.size, 3, none⟩ = some (.bool false) := K8.cell 3
    have c4 : w1.cell? ⟨w.heap.size, 4, none⟩ = some (.int .u64 0) := K8.cell 4
    have c5 : w1.cell? ⟨w.heap.size, 5, none⟩ = some (.int .u64 0) := K8.cell 5
    have f8 := K8.frozen
    clear hown1 hgrow1 hturn1 K8
    go_wp2_with (at_len; refine wpList_len_own _ rfl _ 122 rfl 22 71 Tryz.underlying122 bxK.R b q _ rfl HO1.out ?_)
    have HWF := fun (u0 u1 u2 u3 u4 u5 : Value) => (show MapR Tryz.prog 22 bxK b q (L.filter fun y => y.id != i) ((((((w1.setCell ⟨w.heap.size, 0, none⟩ u0).setCell ⟨w.heap.size, 1, none⟩ u1).setCell ⟨w.heap.size, 2, none⟩ u2).setCell ⟨w.heap.size, 3, none⟩ u3).setCell ⟨w.heap.size, 4, none⟩ u4).setCell ⟨w.heap.size, 5, none⟩ u5) ∧ w.grownBy ((((((w1.setCell ⟨w.heap.size, 0, none⟩ u0).setCell ⟨w.heap.size, 1, none⟩ u1).setCell ⟨w.heap.size, 2, none⟩ u2).setCell ⟨w.heap.size, 3, none⟩ u3).setCell ⟨w.heap.size, 4, none⟩ u4).setCell ⟨w.heap.size, 5, none⟩ u5) (some b) from by
      have hne : ∀ j, b ≠ (⟨w.heap.size, j, none⟩ : Addr).block := fun j => by show b ≠ w.heap.size; omega
      have hge : ∀ j, (⟨w.heap.size, j, none⟩ : Addr).block = b ∨ w.heap.size ≤ (⟨w.heap.size, j, none⟩ : Addr).block := fun j => .inr (Nat.le_refl _)
      exact ⟨⟨_, (((((HO1.out.setCell (hne 0) _).setCell (hne 1) _).setCell (hne 2) _).setCell (hne 3) _).setCell (hne 4) _).setCell (hne 5) _, HH1.out⟩, only_setCell (only_setCell (only_setCell (only_setCell (only_setCell (only_setCell HG1.out (hge 0) _) (hge 1) _) (hge 2) _) (hge 3) _) (hge 4) _) (hge 5) _⟩)
    exact bodyPost_ret (v := repE 0 ((L.filter fun y => y.id != i).length : Int)) (by simp [results, Tryz.results103, go_sem, c0, c1, c2, c3, c4, c5]) rfl (.inr ⟨HB.out, rfl, HWF _ _ _ _ _ _⟩)
end Go.Proofs.YtokpgopdkimmmaaGreatDoor
/- model.chosen: the names of the records of a map that are so. -/
namespace Go.Proofs.YtokpgopdkimmmaaGreatDoor
open Go.RowKit Go.Maps
set_option linter.unusedVariables false
set_option linter.unusedSimpArgs false

theorem infoU32 : (Tryz.prog.info? 22).map (fun i => (i.zero, i.size, i.bytes)) = some (some (.int .u32 0), 1, 4) := by kernel_rfl
theorem inv32 (key : Value) (kl : Lit) (h : keyOf Tryz.prog 22 key = some kl) : ∃ x : Int, key = .int .u32 x := by
  obtain ⟨x, hx, _⟩ := Maps.keyOf_int_inv Tryz.underlying22 h
  exact ⟨x, hx⟩
theorem key32_inv {x : Int} {kl : Lit} (h : keyOf Tryz.prog 22 (.int .u32 x) = some kl) : ∃ i : Nat, i < 4294967296 ∧ x = (i : Int) ∧ kl = nameL i := by
  obtain ⟨y, hy, rfl, hw⟩ := Maps.keyOf_int_inv Tryz.underlying22 h
  injection hy with _ hy
  subst hy
  simp only [Lit.wf, Bool.and_eq_true, decide_eq_true_eq] at hw
  have h1 : x < 4294967296 := Int.lt_of_le_of_lt hw.2 (by decide)
  exact ⟨x.toNat, by omega, (Int.toNat_of_nonneg hw.1).symm, by unfold nameL; rw [Int.toNat_of_nonneg hw.1]⟩
theorem own_mono {w : World} {B B' k n : Nat} {e : TypeId} {v : Value} {xs : List Value} (h : w.ownsRow B e k v n xs) (hb : B' ≤ B) : w.ownsRow B' e k v n xs :=
  ⟨h.1, h.2.imp id fun ⟨g, cap, cur, hv, hg, r⟩ => ⟨g, cap, cur, hv, Nat.le_trans hb hg, r⟩⟩
abbrev uval (n : Nat) : Value := .int .u32 (n : Int)
def uvals (l : List Nat) : List Value := l.map uval
theorem uvals_app (a b : List Nat) : uvals (a ++ b) = uvals a ++ uvals b := by simp [uvals]
theorem uvals_one : ∀ (l : List Nat), ∀ u ∈ uvals l, u.oneCell' = true := by
  intro l u hu
  obtain ⟨n, _, rfl⟩ := List.mem_map.1 hu
  rfl
/-- The names of those that are so. -/
def soL {α : Type} (k : RecK α) (so : α → Bool) (l : List α) : List Nat := (l.filter so).map k.name
theorem soL_snoc {α : Type} (k : RecK α) (so : α → Bool) (l : List α) (x : α) : soL k so (l ++ [x]) = soL k so l ++ (if so x = true then [k.name x] else []) := by
  unfold soL
  rw [List.filter_append, List.map_append]
  congr 1
  by_cases h : so x = true <;> simp [List.filter_cons, h]

set_option maxRecDepth 100000 in
set_option maxHeartbeats 4000000 in
theorem ptChosen_any (L : List PtV) (hLL : L.length ≤ 1000000) (b q : Nat) (so : PtV → Bool) (gf : FuncId) (cap : Array Value) (w : World) (hM : MapR Tryz.prog 22 ptK b q L w)
    (heg : ∀ args w, (callFunc gf args).run Tryz.prog w = .ok (.enter gf args) w)
    (hso : ∀ x ∈ L, ∀ W, Below w.heap.size w W → Calls Tryz.prog gf (#[.agg x.cells] ++ cap) W fun e W' => e = .returned (.bool (so x)) ∧ Below W.heap.size W W')
    (srt : List Nat → List Nat)
    (hsort : ∀ (ids : List Nat) (v : Value) (W : World), ids.Perm (soL ptK so L) → W.ownsRow w.heap.size 22 1 v ids.length (uvals ids) → Below w.heap.size w W →
      Calls Tryz.prog 153 #[v] W fun e W' => e = .returned (.tuple #[]) ∧ W'.ownsRow w.heap.size 22 1 v ids.length (uvals (srt ids)) ∧ Below w.heap.size w W') :
    Calls Tryz.prog 104 #[.map (some b), .func (.func gf) #[] cap] w fun e w' => ∃ v ids, e = .returned v ∧ ids.Perm (soL ptK so L) ∧ w'.ownsRow w.heap.size 22 1 v ids.length (uvals (srt ids)) ∧ Below w.heap.size w w' := by
  obtain ⟨D, hown, hH⟩ := hM
  obtain ⟨i0, hi, hzz, hz1, hz2⟩ := info_parts infoU32
  have HO := Lib.hid hown
  have HH := Lib.hid hH
  have HSO := Lib.hid hso
  have HSR := Lib.hid hsort
  have hlt := hown.lt
  clear hown hH hso hsort
  go_enter Tryz.func104, Tryz.ntmps104
  go_wp2_with (first | (at_range; refine wpList_range_own _ rfl _ 120 rfl 22 159 lawU32 Tryz.underlying120 ptK.R b q D rfl HO.out ?_; intro w0 hrg0 hg0 hs0) | go_in)
  go_frame
  have HB0 := Lib.hid (show Below w.heap.size w w0 from ⟨hg0.os, hg0.tape, hg0.output, hg0.size, fun i hi => hg0.block i hi (by simp)⟩)
  obtain ⟨r, hr⟩ : ∃ r, w.heap.size = r := ⟨_, rfl⟩
  have HRR := Lib.hid (show w.heap.size ≤ r by omega)
  rw [hr] at hrg0 ⊢
  have hrw : r < w0.heap.size := by omega
  have HRG0 := Lib.hid hrg0
  have hsz : Maps.size D ≤ 1000000 := by rw [HH.out.size]; exact hLL
  clear hrg0 hg0 hs0 hr
  go_loopw [5] (fun v wr => ∃ (done : List PtV) (left : Lit → Bool) (cnt m : Nat) (a : Option Addr) (c : Nat), v = .slice a m c ∧ Hid (m = (soL ptK so done).length) ∧ m ≤ done.length ∧ done.length + cnt ≤ 1000000 ∧ Hid (wr.ranges Tryz.prog 22 ptK.R b r q D left cnt) ∧ Hid (GoneR ptK D L left done) ∧ Hid (wr.ownsRow (r + 1) 22 1 (.slice a m c) m (uvals (soL ptK so done))) ∧ r < wr.heap.size ∧ Hid (Below w.heap.size w wr)) (fun _ wr => wr.rangeLeft b r)
  case atStart => exact ⟨[], _, _, 0, none, 0, rfl, Lib.hid rfl, Nat.le_refl _, by simpa using hsz, HRG0, Lib.hid (GoneR.start HH.out), Lib.hid (World.ownsRow_nil _ _ _ _), hrw, HB0⟩
  case round =>
    clear HRG0 HB0 hrw hsz
    obtain ⟨done, left, cnt, m, a, c, rfl, HM, hm, hcnt, HRG, HG, HW, hrw, HB⟩ := hrel
    go_wp2_with (first | (at_next; refine wpList_next_ranges _ rfl _ rfl 22 lawU32 ptK.R (Value.int .u32) (fun c => .agg (ptK.enc c)) inv32 (fun v y h => by obtain ⟨x, hx, _⟩ := RecK.R_inv ptK_ok h; exact ⟨x, hx⟩) b r q D left cnt rfl HRG.out ?_ ?_) | go_in)
    · intro _ hl0
      have HPM := Lib.hid (show (soL ptK so done).Perm (soL ptK so L) from ((GoneR.perm HH.out HG.out hl0).filter so).map _)
      have HW2 := Lib.hid (show wr.ownsRow w.heap.size 22 1 (.slice a (soL ptK so done).length c) (soL ptK so done).length (uvals (soL ptK so done)) by rw [← HM.out]; exact own_mono HW.out (by have := HRR.out; omega))
      clear hl0
      rw [HM.out]
      go_wp2_with fail
      refine (HSR.out _ _ _ HPM.out HW2.out HB.out).mono ?_
      rintro e w9 ⟨rfl, ho9, hb9⟩
      go_wp2_with fail
      go_ret
      exact ⟨_, _, rfl, HPM.out, ho9, hb9⟩
    · intro x cc kl y1 y2 w1 cnt1 hkey hlx hRc hat hrg1 hlt1 hg1 hs1 hen
      obtain ⟨i, hi32, rfl, rfl⟩ := key32_inv hkey
      obtain ⟨hni, hcL, hnd, hG2⟩ := GoneR.step ptK_ok HH.out HG.out hlx hRc hat
      have HRG1 := Lib.hid hrg1
      have HG2 := Lib.hid hG2
      have HCL := Lib.hid hcL
      have HNI := Lib.hid hni
      have HB1 := Lib.hid (show Below w.heap.size w w1 from HB.out.trans ⟨hg1.os, hg1.tape, hg1.output, hg1.size, fun j hj => hg1.block j (by have := HB.out.size; omega) (fun e => by have := Option.some.inj e; have := HRR.out; omega)⟩)
      have HW1 := Lib.hid (show w1.ownsRow (r + 1) 22 1 (.slice a m c) m (uvals (soL ptK so done)) from HW.out.kept hg1 (.inr fun e => by have := (HW.out.lt _ e).1; omega))
      have hrw1 : r < w1.heap.size := by omega
      have HLT := Lib.hid hlt1
      rw [show ptK.enc cc = cc.cells from rfl] at hen ⊢
      clear hkey hlx hRc hat hrg1 hg1 hs1 hcL hnd hG2 HG HW HB hni
      go_wp2_with fail
      refine (HSO.out cc HCL.out _ (HB1.out.alloc HB1.out.size _)).mono ?_
      rintro e w2 ⟨rfl, hb2⟩
      have HB2 := Lib.hid (bl (HB1.out.alloc HB1.out.size (.cells cc.cells 159)) (Nat.le_trans HB1.out.size (by simp)) hb2)
      have HW2 := Lib.hid (own_below (HW1.out.alloc (.cells cc.cells 159)) hb2)
      have HRG2 := Lib.hid ((HRG1.out.alloc (.cells cc.cells 159)).kept (only_of_below hb2 none) (by simp) (by simp))
      have hrw2 : r < w2.heap.size := HRG2.out.lt
      have HSN := Lib.hid (soL_snoc ptK so done cc)
      clear hb2 HW1 HRG1 HB1 hen hrw1
      have hm9 : m ≤ 1000000 := by omega
      cases hsc : so cc with
      | false =>
        rw [hsc] at HSN
        have HM2 := Lib.hid (show soL ptK so (done ++ [cc]) = soL ptK so done by rw [HSN.out]; simp)
        clear hsc
        go_wp2_with fail
        go_roundw
        case rel => exact ⟨done ++ [cc], _, cnt1, m, a, c, rfl, Lib.hid (by rw [HM2.out]; exact HM.out), by rw [List.length_append, List.length_singleton]; omega, by rw [List.length_append, List.length_singleton]; have := HLT.out; omega, HRG2, HG2, Lib.hid (by rw [HM2.out]; exact HW2.out), hrw2, HB2⟩
        case measure => rw [HRG2.out.left_eq, HRG.out.left_eq]; exact HLT.out
      | true =>
        rw [hsc] at HSN
        have HM2 := Lib.hid (show soL ptK so (done ++ [cc]) = soL ptK so done ++ [i] by rw [HSN.out]; simp only [if_true]; rw [HNI.out])
        clear hsc
        go_wp2_with (at_builtin; refine wpList_append_any _ rfl (.tmp 18) (.tmp 20) 28 rfl (r + 1) 22 i0 (.int .u32 0) 1 4 Tryz.underlying28 hi hzz hz1 hz2 rfl (by decide) _ _ _ rfl (HW2.out.alloc _) (w2.heap.size + 1) (some ⟨w2.heap.size, 0, none⟩) 1 1 (uvals [i]) rfl (reads_new w2 _ _) (uvals_one _) (by unfold maxLen; omega) (by omega) (by simp; omega) ?_)
        intro v4 w4 hown4 hgrow4 hat4
        rw [← uvals_app] at hown4
        obtain ⟨a4, k4, rfl⟩ := own_shape hown4
        have hrow : ∀ g, (Value.slice a m c).ownBlock = some g → r + 1 ≤ g := fun g hg => (HW2.out.lt g hg).1
        have HB4 := Lib.hid ((HB2.out.alloc HB2.out.size _).grown hgrow4 (by have := HB2.out.size; simp; omega) (fun g hg => by have := hrow g hg; have := HRR.out; omega))
        have HRG4 := Lib.hid ((HRG2.out.alloc (.cells #[.int .u32 (i : Int)] 22)).kept hgrow4 (fun e => by have := hrow b e.symm; have := HRR.out; omega) (fun e => by have := hrow r e.symm; omega))
        have HW4 := Lib.hid (show w4.ownsRow (r + 1) 22 1 (.slice a4 (m + 1) k4) (m + 1) (uvals (soL ptK so (done ++ [cc]))) by rw [HM2.out]; exact hown4)
        have hrw4 : r < w4.heap.size := HRG4.out.lt
        clear hown4 hgrow4 hat4 hrow HW2 HB2 HRG2
        go_wp2_with fail
        go_roundw
        case rel => exact ⟨done ++ [cc], _, cnt1, m + 1, a4, k4, by first | rfl | trivial, Lib.hid (by rw [HM2.out, List.length_append, ← HM.out]; rfl), by rw [List.length_append, List.length_singleton]; omega, by rw [List.length_append, List.length_singleton]; have := HLT.out; omega, HRG4, HG2, HW4, hrw4, HB4⟩
        case measure => rw [HRG4.out.left_eq, HRG.out.left_eq]; exact HLT.out
set_option maxRecDepth 100000 in
set_option maxHeartbeats 4000000 in
theorem spChosen_any (L : List SpV) (hLL : L.length ≤ 1000000) (b q : Nat) (so : SpV → Bool) (gf : FuncId) (cap : Array Value) (w : World) (hM : MapR Tryz.prog 22 spK b q L w)
    (heg : ∀ args w, (callFunc gf args).run Tryz.prog w = .ok (.enter gf args) w)
    (hso : ∀ x ∈ L, ∀ W, Below w.heap.size w W → Calls Tryz.prog gf (#[.agg x.cells] ++ cap) W fun e W' => e = .returned (.bool (so x)) ∧ Below W.heap.size W W')
    (srt : List Nat → List Nat)
    (hsort : ∀ (ids : List Nat) (v : Value) (W : World), ids.Perm (soL spK so L) → W.ownsRow w.heap.size 22 1 v ids.length (uvals ids) → Below w.heap.size w W →
      Calls Tryz.prog 153 #[v] W fun e W' => e = .returned (.tuple #[]) ∧ W'.ownsRow w.heap.size 22 1 v ids.length (uvals (srt ids)) ∧ Below w.heap.size w W') :
    Calls Tryz.prog 116 #[.map (some b), .func (.func gf) #[] cap] w fun e w' => ∃ v ids, e = .returned v ∧ ids.Perm (soL spK so L) ∧ w'.ownsRow w.heap.size 22 1 v ids.length (uvals (srt ids)) ∧ Below w.heap.size w w' := by
  obtain ⟨D, hown, hH⟩ := hM
  obtain ⟨i0, hi, hzz, hz1, hz2⟩ := info_parts infoU32
  have HO := Lib.hid hown
  have HH := Lib.hid hH
  have HSO := Lib.hid hso
  have HSR := Lib.hid hsort
  have hlt := hown.lt
  clear hown hH hso hsort
  go_enter Tryz.func116, Tryz.ntmps116
  go_wp2_with (first | (at_range; refine wpList_range_own _ rfl _ 121 rfl 22 67 lawU32 Tryz.underlying121 spK.R b q D rfl HO.out ?_; intro w0 hrg0 hg0 hs0) | go_in)
  go_frame
  have HB0 := Lib.hid (show Below w.heap.size w w0 from ⟨hg0.os, hg0.tape, hg0.output, hg0.size, fun i hi => hg0.block i hi (by simp)⟩)
  obtain ⟨r, hr⟩ : ∃ r, w.heap.size = r := ⟨_, rfl⟩
  have HRR := Lib.hid (show w.heap.size ≤ r by omega)
  rw [hr] at hrg0 ⊢
  have hrw : r < w0.heap.size := by omega
  have HRG0 := Lib.hid hrg0
  have hsz : Maps.size D ≤ 1000000 := by rw [HH.out.size]; exact hLL
  clear hrg0 hg0 hs0 hr
  go_loopw [5] (fun v wr => ∃ (done : List SpV) (left : Lit → Bool) (cnt m : Nat) (a : Option Addr) (c : Nat), v = .slice a m c ∧ Hid (m = (soL spK so done).length) ∧ m ≤ done.length ∧ done.length + cnt ≤ 1000000 ∧ Hid (wr.ranges Tryz.prog 22 spK.R b r q D left cnt) ∧ Hid (GoneR spK D L left done) ∧ Hid (wr.ownsRow (r + 1) 22 1 (.slice a m c) m (uvals (soL spK so done))) ∧ r < wr.heap.size ∧ Hid (Below w.heap.size w wr)) (fun _ wr => wr.rangeLeft b r)
  case atStart => exact ⟨[], _, _, 0, none, 0, rfl, Lib.hid rfl, Nat.le_refl _, by simpa using hsz, HRG0, Lib.hid (GoneR.start HH.out), Lib.hid (World.ownsRow_nil _ _ _ _), hrw, HB0⟩
  case round =>
    clear HRG0 HB0 hrw hsz
    obtain ⟨done, left, cnt, m, a, c, rfl, HM, hm, hcnt, HRG, HG, HW, hrw, HB⟩ := hrel
    go_wp2_with (first | (at_next; refine wpList_next_ranges _ rfl _ rfl 22 lawU32 spK.R (Value.int .u32) (fun c => .agg (spK.enc c)) inv32 (fun v y h => by obtain ⟨x, hx, _⟩ := RecK.R_inv spK_ok h; exact ⟨x, hx⟩) b r q D left cnt rfl HRG.out ?_ ?_) | go_in)
    · intro _ hl0
      have HPM := Lib.hid (show (soL spK so done).Perm (soL spK so L) from ((GoneR.perm HH.out HG.out hl0).filter so).map _)
      have HW2 := Lib.hid (show wr.ownsRow w.heap.size 22 1 (.slice a (soL spK so done).length c) (soL spK so done).length (uvals (soL spK so done)) by rw [← HM.out]; exact own_mono HW.out (by have := HRR.out; omega))
      clear hl0
      rw [HM.out]
      go_wp2_with fail
      refine (HSR.out _ _ _ HPM.out HW2.out HB.out).mono ?_
      rintro e w9 ⟨rfl, ho9, hb9⟩
      go_wp2_with fail
      go_ret
      exact ⟨_, _, rfl, HPM.out, ho9, hb9⟩
    · intro x cc kl y1 y2 w1 cnt1 hkey hlx hRc hat hrg1 hlt1 hg1 hs1 hen
      obtain ⟨i, hi32, rfl, rfl⟩ := key32_inv hkey
      obtain ⟨hni, hcL, hnd, hG2⟩ := GoneR.step spK_ok HH.out HG.out hlx hRc hat
      have HRG1 := Lib.hid hrg1
      have HG2 := Lib.hid hG2
      have HCL := Lib.hid hcL
      have HNI := Lib.hid hni
      have HB1 := Lib.hid (show Below w.heap.size w w1 from HB.out.trans ⟨hg1.os, hg1.tape, hg1.output, hg1.size, fun j hj => hg1.block j (by have := HB.out.size; omega) (fun e => by have := Option.some.inj e; have := HRR.out; omega)⟩)
      have HW1 := Lib.hid (show w1.ownsRow (r + 1) 22 1 (.slice a m c) m (uvals (soL spK so done)) from HW.out.kept hg1 (.inr fun e => by have := (HW.out.lt _ e).1; omega))
      have hrw1 : r < w1.heap.size := by omega
      have HLT := Lib.hid hlt1
      rw [show spK.enc cc = cc.cells from rfl] at hen ⊢
      clear hkey hlx hRc hat hrg1 hg1 hs1 hcL hnd hG2 HG HW HB hni
      go_wp2_with fail
      refine (HSO.out cc HCL.out _ (HB1.out.alloc HB1.out.size _)).mono ?_
      rintro e w2 ⟨rfl, hb2⟩
      have HB2 := Lib.hid (bl (HB1.out.alloc HB1.out.size (.cells cc.cells 67)) (Nat.le_trans HB1.out.size (by simp)) hb2)
      have HW2 := Lib.hid (own_below (HW1.out.alloc (.cells cc.cells 67)) hb2)
      have HRG2 := Lib.hid ((HRG1.out.alloc (.cells cc.cells 67)).kept (only_of_below hb2 none) (by simp) (by simp))
      have hrw2 : r < w2.heap.size := HRG2.out.lt
      have HSN := Lib.hid (soL_snoc spK so done cc)
      clear hb2 HW1 HRG1 HB1 hen hrw1
      have hm9 : m ≤ 1000000 := by omega
      cases hsc : so cc with
      | false =>
        rw [hsc] at HSN
        have HM2 := Lib.hid (show soL spK so (done ++ [cc]) = soL spK so done by rw [HSN.out]; simp)
        clear hsc
        go_wp2_with fail
        go_roundw
        case rel => exact ⟨done ++ [cc], _, cnt1, m, a, c, rfl, Lib.hid (by rw [HM2.out]; exact HM.out), by rw [List.length_append, List.length_singleton]; omega, by rw [List.length_append, List.length_singleton]; have := HLT.out; omega, HRG2, HG2, Lib.hid (by rw [HM2.out]; exact HW2.out), hrw2, HB2⟩
        case measure => rw [HRG2.out.left_eq, HRG.out.left_eq]; exact HLT.out
      | true =>
        rw [hsc] at HSN
        have HM2 := Lib.hid (show soL spK so (done ++ [cc]) = soL spK so done ++ [i] by rw [HSN.out]; simp only [if_true]; rw [HNI.out])
        clear hsc
        go_wp2_with (at_builtin; refine wpList_append_any _ rfl (.tmp 18) (.tmp 20) 28 rfl (r + 1) 22 i0 (.int .u32 0) 1 4 Tryz.underlying28 hi hzz hz1 hz2 rfl (by decide) _ _ _ rfl (HW2.out.alloc _) (w2.heap.size + 1) (some ⟨w2.heap.size, 0, none⟩) 1 1 (uvals [i]) rfl (reads_new w2 _ _) (uvals_one _) (by unfold maxLen; omega) (by omega) (by simp; omega) ?_)
        intro v4 w4 hown4 hgrow4 hat4
        rw [← uvals_app] at hown4
        obtain ⟨a4, k4, rfl⟩ := own_shape hown4
        have hrow : ∀ g, (Value.slice a m c).ownBlock = some g → r + 1 ≤ g := fun g hg => (HW2.out.lt g hg).1
        have HB4 := Lib.hid ((HB2.out.alloc HB2.out.size _).grown hgrow4 (by have := HB2.out.size; simp; omega) (fun g hg => by have := hrow g hg; have := HRR.out; omega))
        have HRG4 := Lib.hid ((HRG2.out.alloc (.cells #[.int .u32 (i : Int)] 22)).kept hgrow4 (fun e => by have := hrow b e.symm; have := HRR.out; omega) (fun e => by have := hrow r e.symm; omega))
        have HW4 := Lib.hid (show w4.ownsRow (r + 1) 22 1 (.slice a4 (m + 1) k4) (m + 1) (uvals (soL spK so (done ++ [cc]))) by rw [HM2.out]; exact hown4)
        have hrw4 : r < w4.heap.size := HRG4.out.lt
        clear hown4 hgrow4 hat4 hrow HW2 HB2 HRG2
        go_wp2_with fail
        go_roundw
        case rel => exact ⟨done ++ [cc], _, cnt1, m + 1, a4, k4, by first | rfl | trivial, Lib.hid (by rw [HM2.out, List.length_append, ← HM.out]; rfl), by rw [List.length_append, List.length_singleton]; omega, by rw [List.length_append, List.length_singleton]; have := HLT.out; omega, HRG4, HG2, HW4, hrw4, HB4⟩
        case measure => rw [HRG4.out.left_eq, HRG.out.left_eq]; exact HLT.out
set_option maxRecDepth 100000 in
set_option maxHeartbeats 4000000 in
theorem bxChosen_any (L : List BxV) (hLL : L.length ≤ 1000000) (b q : Nat) (so : BxV → Bool) (gf : FuncId) (cap : Array Value) (w : World) (hM : MapR Tryz.prog 22 bxK b q L w)
    (heg : ∀ args w, (callFunc gf args).run Tryz.prog w = .ok (.enter gf args) w)
    (hso : ∀ x ∈ L, ∀ W, Below w.heap.size w W → Calls Tryz.prog gf (#[.agg x.cells] ++ cap) W fun e W' => e = .returned (.bool (so x)) ∧ Below W.heap.size W W')
    (srt : List Nat → List Nat)
    (hsort : ∀ (ids : List Nat) (v : Value) (W : World), ids.Perm (soL bxK so L) → W.ownsRow w.heap.size 22 1 v ids.length (uvals ids) → Below w.heap.size w W →
      Calls Tryz.prog 153 #[v] W fun e W' => e = .returned (.tuple #[]) ∧ W'.ownsRow w.heap.size 22 1 v ids.length (uvals (srt ids)) ∧ Below w.heap.size w W') :
    Calls Tryz.prog 125 #[.map (some b), .func (.func gf) #[] cap] w fun e w' => ∃ v ids, e = .returned v ∧ ids.Perm (soL bxK so L) ∧ w'.ownsRow w.heap.size 22 1 v ids.length (uvals (srt ids)) ∧ Below w.heap.size w w' := by
  obtain ⟨D, hown, hH⟩ := hM
  obtain ⟨i0, hi, hzz, hz1, hz2⟩ := info_parts infoU32
  have HO := Lib.hid hown
  have HH := Lib.hid hH
  have HSO := Lib.hid hso
  have HSR := Lib.hid hsort
  have hlt := hown.lt
  clear hown hH hso hsort
  go_enter Tryz.func125, Tryz.ntmps125
  go_wp2_with (first | (at_range; refine wpList_range_own _ rfl _ 122 rfl 22 71 lawU32 Tryz.underlying122 bxK.R b q D rfl HO.out ?_; intro w0 hrg0 hg0 hs0) | go_in)
  go_frame
  have HB0 := Lib.hid (show Below w.heap.size w w0 from ⟨hg0.os, hg0.tape, hg0.output, hg0.size, fun i hi => hg0.block i hi (by simp)⟩)
  obtain ⟨r, hr⟩ : ∃ r, w.heap.size = r := ⟨_, rfl⟩
  have HRR := Lib.hid (show w.heap.size ≤ r by omega)
  rw [hr] at hrg0 ⊢
  have hrw : r < w0.heap.size := by omega
  have HRG0 := Lib.hid hrg0
  have hsz : Maps.size D ≤ 1000000 := by rw [HH.out.size]; exact hLL
  clear hrg0 hg0 hs0 hr
  go_loopw [5] (fun v wr => ∃ (done : List BxV) (left : Lit → Bool) (cnt m : Nat) (a : Option Addr) (c : Nat), v = .slice a m c ∧ Hid (m = (soL bxK so done).length) ∧ m ≤ done.length ∧ done.length + cnt ≤ 1000000 ∧ Hid (wr.ranges Tryz.prog 22 bxK.R b r q D left cnt) ∧ Hid (GoneR bxK D L left done) ∧ Hid (wr.ownsRow (r + 1) 22 1 (.slice a m c) m (uvals (soL bxK so done))) ∧ r < wr.heap.size ∧ Hid (Below w.heap.size w wr)) (fun _ wr => wr.rangeLeft b r)
  case atStart => exact ⟨[], _, _, 0, none, 0, rfl, Lib.hid rfl, Nat.le_refl _, by simpa using hsz, HRG0, Lib.hid (GoneR.start HH.out), Lib.hid (World.ownsRow_nil _ _ _ _), hrw, HB0⟩
  case round =>
    clear HRG0 HB0 hrw hsz
    obtain ⟨done, left, cnt, m, a, c, rfl, HM, hm, hcnt, HRG, HG, HW, hrw, HB⟩ := hrel
    go_wp2_with (first | (at_next; refine wpList_next_ranges _ rfl _ rfl 22 lawU32 bxK.R (Value.int .u32) (fun c => .agg (bxK.enc c)) inv32 (fun v y h => by obtain ⟨x, hx, _⟩ := RecK.R_inv bxK_ok h; exact ⟨x, hx⟩) b r q D left cnt rfl HRG.out ?_ ?_) | go_in)
    · intro _ hl0
      have HPM := Lib.hid (show (soL bxK so done).Perm (soL bxK so L) from ((GoneR.perm HH.out HG.out hl0).filter so).map _)
      have HW2 := Lib.hid (show wr.ownsRow w.heap.size 22 1 (.slice a (soL bxK so done).length c) (soL bxK so done).length (uvals (soL bxK so done)) by rw [← HM.out]; exact own_mono HW.out (by have := HRR.out; omega))
      clear hl0
      rw [HM.out]
      go_wp2_with fail
      refine (HSR.out _ _ _ HPM.out HW2.out HB.out).mono ?_
      rintro e w9 ⟨rfl, ho9, hb9⟩
      go_wp2_with fail
      go_ret
      exact ⟨_, _, rfl, HPM.out, ho9, hb9⟩
    · intro x cc kl y1 y2 w1 cnt1 hkey hlx hRc hat hrg1 hlt1 hg1 hs1 hen
      obtain ⟨i, hi32, rfl, rfl⟩ := key32_inv hkey
      obtain ⟨hni, hcL, hnd, hG2⟩ := GoneR.step bxK_ok HH.out HG.out hlx hRc hat
      have HRG1 := Lib.hid hrg1
      have HG2 := Lib.hid hG2
      have HCL := Lib.hid hcL
      have HNI := Lib.hid hni
      have HB1 := Lib.hid (show Below w.heap.size w w1 from HB.out.trans ⟨hg1.os, hg1.tape, hg1.output, hg1.size, fun j hj => hg1.block j (by have := HB.out.size; omega) (fun e => by have := Option.some.inj e; have := HRR.out; omega)⟩)
      have HW1 := Lib.hid (show w1.ownsRow (r + 1) 22 1 (.slice a m c) m (uvals (soL bxK so done)) from HW.out.kept hg1 (.inr fun e => by have := (HW.out.lt _ e).1; omega))
      have hrw1 : r < w1.heap.size := by omega
      have HLT := Lib.hid hlt1
      rw [show bxK.enc cc = cc.cells from rfl] at hen ⊢
      clear hkey hlx hRc hat hrg1 hg1 hs1 hcL hnd hG2 HG HW HB hni
      go_wp2_with fail
      refine (HSO.out cc HCL.out _ (HB1.out.alloc HB1.out.size _)).mono ?_
      rintro e w2 ⟨rfl, hb2⟩
      have HB2 := Lib.hid (bl (HB1.out.alloc HB1.out.size (.cells cc.cells 71)) (Nat.le_trans HB1.out.size (by simp)) hb2)
      have HW2 := Lib.hid (own_below (HW1.out.alloc (.cells cc.cells 71)) hb2)
      have HRG2 := Lib.hid ((HRG1.out.alloc (.cells cc.cells 71)).kept (only_of_below hb2 none) (by simp) (by simp))
      have hrw2 : r < w2.heap.size := HRG2.out.lt
      have HSN := Lib.hid (soL_snoc bxK so done cc)
      clear hb2 HW1 HRG1 HB1 hen hrw1
      have hm9 : m ≤ 1000000 := by omega
      cases hsc : so cc with
      | false =>
        rw [hsc] at HSN
        have HM2 := Lib.hid (show soL bxK so (done ++ [cc]) = soL bxK so done by rw [HSN.out]; simp)
        clear hsc
        go_wp2_with fail
        go_roundw
        case rel => exact ⟨done ++ [cc], _, cnt1, m, a, c, rfl, Lib.hid (by rw [HM2.out]; exact HM.out), by rw [List.length_append, List.length_singleton]; omega, by rw [List.length_append, List.length_singleton]; have := HLT.out; omega, HRG2, HG2, Lib.hid (by rw [HM2.out]; exact HW2.out), hrw2, HB2⟩
        case measure => rw [HRG2.out.left_eq, HRG.out.left_eq]; exact HLT.out
      | true =>
        rw [hsc] at HSN
        have HM2 := Lib.hid (show soL bxK so (done ++ [cc]) = soL bxK so done ++ [i] by rw [HSN.out]; simp only [if_true]; rw [HNI.out])
        clear hsc
        go_wp2_with (at_builtin; refine wpList_append_any _ rfl (.tmp 18) (.tmp 20) 28 rfl (r + 1) 22 i0 (.int .u32 0) 1 4 Tryz.underlying28 hi hzz hz1 hz2 rfl (by decide) _ _ _ rfl (HW2.out.alloc _) (w2.heap.size + 1) (some ⟨w2.heap.size, 0, none⟩) 1 1 (uvals [i]) rfl (reads_new w2 _ _) (uvals_one _) (by unfold maxLen; omega) (by omega) (by simp; omega) ?_)
        intro v4 w4 hown4 hgrow4 hat4
        rw [← uvals_app] at hown4
        obtain ⟨a4, k4, rfl⟩ := own_shape hown4
        have hrow : ∀ g, (Value.slice a m c).ownBlock = some g → r + 1 ≤ g := fun g hg => (HW2.out.lt g hg).1
        have HB4 := Lib.hid ((HB2.out.alloc HB2.out.size _).grown hgrow4 (by have := HB2.out.size; simp; omega) (fun g hg => by have := hrow g hg; have := HRR.out; omega))
        have HRG4 := Lib.hid ((HRG2.out.alloc (.cells #[.int .u32 (i : Int)] 22)).kept hgrow4 (fun e => by have := hrow b e.symm; have := HRR.out; omega) (fun e => by have := hrow r e.symm; omega))
        have HW4 := Lib.hid (show w4.ownsRow (r + 1) 22 1 (.slice a4 (m + 1) k4) (m + 1) (uvals (soL bxK so (done ++ [cc]))) by rw [HM2.out]; exact hown4)
        have hrw4 : r < w4.heap.size := HRG4.out.lt
        clear hown4 hgrow4 hat4 hrow HW2 HB2 HRG2
        go_wp2_with fail
        go_roundw
        case rel => exact ⟨done ++ [cc], _, cnt1, m + 1, a4, k4, by first | rfl | trivial, Lib.hid (by rw [HM2.out, List.length_append, ← HM.out]; rfl), by rw [List.length_append, List.length_singleton]; omega, by rw [List.length_append, List.length_singleton]; have := HLT.out; omega, HRG4, HG2, HW4, hrw4, HB4⟩
        case measure => rw [HRG4.out.left_eq, HRG.out.left_eq]; exact HLT.out
end Go.Proofs.YtokpgopdkimmmaaGreatDoor
/- model.New, none: a model in memory. -/
namespace Go.Proofs.YtokpgopdkimmmaaGreatDoor
open Go.RowKit Go.Maps
set_option linter.unusedVariables false
set_option linter.unusedSimpArgs false

/-- What a model holds. -/
structure ModV where
  room : Int
  pts : List PtV
  sps : List SpV
  bxs : List BxV
/-- A model in memory. -/
structure ModelAt (w : World) (m p s b q : Nat) (M : ModV) : Prop where
  blk : Blk w m 124 #[.int .i64 M.room, .map (some p), .map (some s), .map (some b)]
  pts : MapR Tryz.prog 22 ptK p q M.pts w
  sps : MapR Tryz.prog 22 spK s q M.sps w
  bxs : MapR Tryz.prog 22 bxK b q M.bxs w
  ord : p < s ∧ s < b ∧ b < m
theorem ModelAt.later {w w' : World} {m p s b q : Nat} {M : ModV} (h : ModelAt w m p s b q M) (hb : Below w.heap.size w w') : ModelAt w' m p s b q M :=
  ⟨Blk.below h.blk hb (Blk.lt h.blk), h.pts.later hb, h.sps.later hb, h.bxs.later hb, h.ord⟩
set_option maxRecDepth 100000 in
set_option maxHeartbeats 1000000 in
theorem mnew_any (room : Int) (h1 : 1 ≤ room) (h2 : room ≤ 2147483648) (w : World) : Calls Tryz.prog 26 #[.int .i64 room] w fun e w' => ∃ m p s b, e = .returned (.tuple #[.pointer (some ⟨m, 0, none⟩), .int .i64 0]) ∧ ModelAt w' m p s b 0 ⟨room, [], [], []⟩ ∧ w.heap.size ≤ p ∧ Below w.heap.size w w' := by
  have hmm := @run_makeMap Tryz.prog
  have hd1 : decide (room < 1) = false := decide_eq_false (by omega)
  have hd2 : decide ((2147483648 : Int) < room) = false := decide_eq_false (by omega)
  go_enter Tryz.func26, Tryz.ntmps26
  go_wp2_with fail
  have e1 : ∀ o : Obj, (w.alloc o).heap.size = w.heap.size + 1 := fun o => by simp
  have hS := MapR.made (P := Tryz.prog) (kt := 22) (k := spK) (w.alloc (.map #[] 0))
  have hX := MapR.made (P := Tryz.prog) (kt := 22) (k := bxK) ((w.alloc (.map #[] 0)).alloc (.map #[] 0))
  have hN := Blk.new (((w.alloc (.map #[] 0)).alloc (.map #[] 0)).alloc (.map #[] 0)) 124 #[.int .i64 room, .map (some w.heap.size), .map (some (w.heap.size + 1)), .map (some (w.heap.size + 1 + 1))]
  simp only [World.size_alloc] at hS hX hN
  have al : ∀ (W : World) (o : Obj), Below W.heap.size W (W.alloc o) := fun W o => (Below.refl _ _).alloc (Nat.le_refl _) o
  exact bodyPost_ret (v := .tuple #[.pointer (some ⟨w.heap.size + 1 + 1 + 1, 0, none⟩), .int .i64 0]) (by simp [results, Tryz.results26, go_sem]) rfl
    ⟨_, w.heap.size, w.heap.size + 1, w.heap.size + 1 + 1, rfl, ⟨hN, (((MapR.made w).later (al _ _)).later (al _ _)).later (al _ _), (hS.later (al _ _)).later (al _ _), hX.later (al _ _), ⟨by omega, by omega, by omega⟩⟩, Nat.le_refl _, ((((Below.refl w.heap.size w).alloc (Nat.le_refl _) _).alloc (by simp) _).alloc (by simp; omega) _).alloc (by simp; omega) _⟩
set_option maxRecDepth 100000 in
set_option maxHeartbeats 1000000 in
theorem mnone_any {m p s b q : Nat} {M : ModV} (w : World) (h : ModelAt w m p s b q M) : Calls Tryz.prog 69 #[.pointer (some ⟨m, 0, none⟩)] w fun e w' => e = .returned (.bool false) ∧ w = w' := by
  have c1 : w.cell? ⟨m, 1, none⟩ = some (.map (some p)) := h.blk.cell 1
  have hne : ∀ W, (binOp .eql 120 (.map (some p)) (.map none)).run Tryz.prog W = .ok (.bool false) W := fun W => by
    exact run_eql_map_nil W _ _ _ (some p) Tryz.underlying120
  clear h
  go_enter Tryz.func69, Tryz.ntmps69
  go_wp2_with fail
  go_ret
  exact ⟨rfl, rfl⟩
end Go.Proofs.YtokpgopdkimmmaaGreatDoor
