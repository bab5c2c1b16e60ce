/- OpsWrong: what is wrong with an operation is what a model without items tells of it (written by gen/opswrong.py). -/
import Derived.Test.YtokpgopdkimmmaaGreatDoorModM5
import Derived.Test.YtokpgopdkimmmaaGreatDoorModM6
import Derived.Test.YtokpgopdkimmmaaGreatDoorOpAwake
namespace Go.Proofs.YtokpgopdkimmmaaGreatDoor
open Go.RowKit Go.Maps
set_option linter.unusedVariables false
set_option linter.unusedSimpArgs false

theorem swept_nil {w : World} {m p s b q : Nat} {M : ModV} (h : ModelAt w m p s b q M) (hn : M.bxs = []) : Swept w b 122 0 ∧ Swept w b 124 0 := by
  have hb := h.bxs
  rw [hn] at hb
  have ha : ∀ V, Below w.heap.size w V → Calls Tryz.prog 123 #[.map (some b)] V fun e w1 => e = .returned (.slice none 0 0) ∧ Below V.heap.size V w1 := fun V hV =>
    (all_any b q [] (by simp) V (hb.later hV)).mono fun e w1 ⟨A, c, he, _, hz, hbl⟩ => by
      obtain ⟨rfl, rfl⟩ := hz (by simp [allB])
      exact ⟨by rw [he]; simp [allB], hbl⟩
  exact ⟨fun V hV => (ha V hV).mono fun e w1 ⟨he, hbl⟩ => ⟨_, he, hbl, area0_any w1⟩, fun V hV => (ha V hV).mono fun e w1 ⟨he, hbl⟩ => ⟨_, he, hbl, rim0_any w1⟩⟩
abbrev M0 (room : Int) : ModV := ⟨room, [], [], []⟩
theorem come_nil {α : Type} (k : RecK α) (x : α) : (comeV k 1 [] x).1 = 0 := by
  unfold comeV
  rw [if_neg (by simp), if_neg (by simp)]
theorem lose_nil {α : Type} (k : RecK α) (i : Nat) : (loseV k [] i).1 = 263 := by
  unfold loseV
  rw [if_neg (by simp)]
theorem rightB_not (a b : Int) : (rightB a b = false) = (b < a) := by unfold rightB; simp
theorem rightBox_not (a b c d : Int) : (rightBoxB a b c d = false) = (b < a ∨ d < c) := by
  unfold rightBoxB rightB
  simp
  omega
theorem wrong_lose (o : OpV) (h : 4 ≤ o.k ∧ o.k ≤ 6) : wrongN o = 0 ∧ (doR o (M0 1) 0 0).1.err = 263 := by
  obtain ⟨k, a, b, c, d, i⟩ := o
  rcases (show k = 4 ∨ k = 5 ∨ k = 6 by simp only at h; omega) with rfl | rfl | rfl
  · exact ⟨rfl, lose_nil ptK i⟩
  · exact ⟨rfl, lose_nil spK i⟩
  · exact ⟨rfl, lose_nil bxK i⟩
theorem wrong_rest (o : OpV) (h : ¬ (4 ≤ o.k ∧ o.k ≤ 6)) : wrongN o = (doR o (M0 1) 0 0).1.err := by
  obtain ⟨k, a, b, c, d, i⟩ := o
  rcases code_cases (k := k) with rfl | hk | ⟨j, rfl⟩
  · rfl
  · have hc := (no_code (.inr hk)).2.2
    unfold wrongN doR
    rw [if_pos hc, if_pos hc]
  · rcases (show j = 0 ∨ j = 1 ∨ j = 2 ∨ 6 ≤ j.val by simp only at h; omega) with rfl | rfl | rfl | hj
    · exact (come_nil ptK (opPt ⟨1, a, b, c, d, i⟩)).symm
    · show (if isCode 2 = false then (260 : Int) else if (2 = 2 ∧ b < a) ∨ (2 = 3 ∧ (b < a ∨ d < c)) then 261 else 0) = (if rightB a b = false then ((261 : Int), (0 : Int), M0 1) else _).1
      rw [if_neg (by decide)]
      by_cases hb : b < a
      · rw [if_pos (.inl ⟨rfl, hb⟩), if_pos ((rightB_not a b) ▸ hb)]
      · rw [if_neg (by omega), if_neg (by rw [rightB_not]; exact hb)]
        exact (come_nil spK (opSp ⟨2, a, b, c, d, i⟩)).symm
    · show (if isCode 3 = false then (260 : Int) else if (3 = 2 ∧ b < a) ∨ (3 = 3 ∧ (b < a ∨ d < c)) then 261 else 0) = (if rightBoxB a b c d = false then ((261 : Int), (0 : Int), M0 1) else _).1
      rw [if_neg (by decide)]
      by_cases hb : b < a ∨ d < c
      · rw [if_pos (.inr ⟨rfl, hb⟩), if_pos ((rightBox_not a b c d) ▸ hb)]
      · rw [if_neg (by omega), if_neg (by rw [rightBox_not]; exact hb)]
        exact (come_nil bxK (opBx ⟨3, a, b, c, d, i⟩)).symm
    · unfold wrongN doR
      have hc : ¬ isCode (j.val + 1) = false := by
        have hd : ∀ j : Fin 20, ¬ isCode (j.val + 1) = false := by decide
        exact hd j
      rw [if_neg hc, if_neg hc, if_neg (by simp only; omega), if_neg (by simp only; omega)]
      by_cases h14 : j.val + 1 ≤ 14
      · rw [if_pos h14]
        simp only [pointR]
        split
        · rfl
        · split <;> rfl
      · rw [if_neg h14]
        simp only [otherR]
        repeat' (first | rfl | split)
set_option maxRecDepth 100000 in
set_option maxHeartbeats 4000000 in
theorem OpsWrong_rest (o : OpV) (ho : o.ok) (hk : o.k < 4 ∨ 6 < o.k) (w : World) (hE : Env27 w) : Calls Tryz.prog 6 #[o.val] w fun e w' => e = .returned (.bool true) ∧ Below w.heap.size w w' := by
  have HE := Lib.hid hE
  have HO := Lib.hid ho
  have hd : (decide ((4 : Int) ≤ (o.k : Int)) && decide ((o.k : Int) ≤ 6)) = false := by rcases hk with h | h <;> simp <;> omega
  have HK := Lib.hid hk
  have KO0 := Lib.hid (show OpB (w.alloc (.cells o.cells 24)) w.heap.size o from Blk.new w _ _)
  have HB0' := Lib.hid ((Below.refl w.heap.size w).alloc (Nat.le_refl _) (.cells o.cells 24))
  clear ho hE
  go_enter Tryz.func6, Tryz.ntmps6
  go_wp2_with fail
  refine (mnew_any 1 (by omega) (by omega) _).mono ?_
  rintro e w1 ⟨m, p, s, b, rfl, hM, hp, hb1⟩
  have ho := hM.ord
  have HM := Lib.hid hM
  have KO1 := Lib.hid (Blk.below KO0.out hb1 (Blk.lt KO0.out))
  have HB1 := Lib.hid (bl HB0'.out HB0'.out.size hb1)
  have HPP := Lib.hid (show w.heap.size + 1 ≤ p ∧ p < s ∧ s < b by simp at hp; exact ⟨hp, ho.1, ho.2.1⟩)
  obtain ⟨c0, c1, c2, c3, c4, c5⟩ := op_cellsM KO1.out
  clear hM hp hb1 ho
  go_wp2_with fail
  refine (mdo_any o HO.out m p s b 0 (M0 1) w1 HM.out (by omega) (by simp) ⟨by simp, by simp⟩ 0 0 (swept_nil HM.out rfl).1 (swept_nil HM.out rfl).2).mono ?_
  rintro e w2 ⟨A, cc, rfl, hr, hM2, hT⟩
  have hnb : ∀ i, (i = p ∨ i = s ∨ i = b) → w.heap.size + 1 ≤ i := fun i h => by have := HPP.out; omega
  have HB2 := Lib.hid (HB1.out.trans (hT.below HB1.out.size fun i h => by have := hnb i h; omega))
  have KO2 := Lib.hid (KO1.out.turned hT (fun h => by have := hnb _ h; omega))
  generalize hrr : (doR o (M0 1) 0 0).1 = RR at hr ⊢
  have HRR := Lib.hid (show RR.err = (doR o (M0 1) 0 0).1.err by rw [hrr])
  clear hrr
  obtain ⟨re, ri, rc, ry, rw0⟩ := RR
  obtain ⟨hi, hhi⟩ : ∃ hi : Int, ((rw0 / 18446744073709551616 : Nat) : Int) = hi := ⟨_, rfl⟩
  obtain ⟨lo, hlo⟩ : ∃ lo : Int, ((rw0 % 18446744073709551616 : Nat) : Int) = lo := ⟨_, rfl⟩
  have HV := Lib.hid (show repV ⟨re, ri, rc, ry, rw0⟩ A cc = .agg #[.int .i64 re, .slice A ri.length cc, .int .i64 rc, .bool ry, .int .u64 hi, .int .u64 lo] by rw [← hhi, ← hlo] <;> rfl)
  clear hhi hlo hr hM2 hT hnb c0 c1 c2 c3 c4 c5
  rw [HV.out]
  have KR := Lib.hid (Blk.new w2 33 #[.int .i64 re, .slice A ri.length cc, .int .i64 rc, .bool ry, .int .u64 hi, .int .u64 lo])
  have KO := Lib.hid (Blk.alloc KO2.out (.cells #[.int .i64 re, .slice A ri.length cc, .int .i64 rc, .bool ry, .int .u64 hi, .int .u64 lo] 33))
  have HB0 := Lib.hid (HB2.out.alloc HB2.out.size (.cells #[.int .i64 re, .slice A ri.length cc, .int .i64 rc, .bool ry, .int .u64 hi, .int .u64 lo] 33))
  go_upto_region 5 with fail
  generalize w2.alloc _ = W0 at KR KO HB0 ⊢
  obtain ⟨c0, c1, c2, c3, c4, c5⟩ := op_cellsM KO.out
  have HWRN : wrongN o = re := (wrong_rest o (by have := HK.out; omega)).trans HRR.out.symm
  have HWR := Lib.hid (fun W (hW : Below W0.heap.size W0 W) => show Calls Tryz.prog 10 #[o.val] W (fun e w' => e = .returned (.int .i64 re) ∧ Below W.heap.size W w') from HWRN ▸ wrong_any o HO.out W ((HE.out.later HB0.out).later hW).k)
  have HAW := Lib.hid (fun W (hW : Below W0.heap.size W0 W) => awake27_any W ((HE.out.later HB0.out).later hW))
  clear HWRN hd
  rcases HK.out with hk4 | hk6
  · have hd1 : decide ((4 : Int) ≤ (o.k : Int)) = false := decide_eq_false (by omega)
    clear hk
    go_upto_region 7 with fail
    clear c0 c1 c2 c3 c4 c5 hd1
    refine wp_region_until (fun w' => Below W0.heap.size W0 w') [0, 1, 2, 3, 4, 5, 6, 7, 8] (by kernel_rfl) ?_
    have hS : (fun w' => Below W0.heap.size W0 w') W0.drew := (Below.refl _ _).drew
    refine wpAnyG_take (i := 0) rfl (by kernel_rfl) (by kernel_rfl) (by kernel_rfl) (by kernel_rfl) (by kernel_rfl) (by kernel_rfl) (fun _ _ _ h => h) rfl (by intro w' hb; obtain ⟨c0, c1, c2, c3, c4, c5⟩ := op_cellsM (Blk.below KO.out hb (Blk.lt KO.out)); have r0 := Blk.cell (Blk.below KR.out hb (Blk.lt KR.out)) 0; go_simp; try (first | rfl | simp)) hS ?_
    (try simp only [Act.put, List.getElem_toArray, List.getElem_cons_succ, List.getElem_cons_zero, List.setIfInBounds_toArray, List.set_cons_zero, List.set_cons_succ])
    refine wpAnyG_take (i := 2) rfl (by kernel_rfl) (by kernel_rfl) (by kernel_rfl) (by kernel_rfl) (by kernel_rfl) (by kernel_rfl) (fun _ _ _ h => h) rfl (by intro w' hb; go_simp; try (first | rfl | simp)) hS ?_
    (try simp only [Act.put, List.getElem_toArray, List.getElem_cons_succ, List.getElem_cons_zero, List.setIfInBounds_toArray, List.set_cons_zero, List.set_cons_succ])
    refine wpAnyG_take (i := 3) rfl (by kernel_rfl) (by kernel_rfl) (by kernel_rfl) (by kernel_rfl) (by kernel_rfl) (by kernel_rfl) (fun _ _ _ h => h) rfl (by intro w' hb; obtain ⟨c0, c1, c2, c3, c4, c5⟩ := op_cellsM (Blk.below KO.out hb (Blk.lt KO.out)); have r0 := Blk.cell (Blk.below KR.out hb (Blk.lt KR.out)) 0; go_simp; try (first | rfl | simp)) hS ?_
    (try simp only [Act.put, List.getElem_toArray, List.getElem_cons_succ, List.getElem_cons_zero, List.setIfInBounds_toArray, List.set_cons_zero, List.set_cons_succ])
    refine wpAnyG_step (i := 1) rfl (by kernel_rfl) rfl (fun K hK => ?_)
    go_simp
    refine (HWR.out _ hS).mono ?_
    rintro e y1 ⟨rfl, hb⟩
    refine hK.out _ _ (bl hS hS.size hb) (fun hS => ?_)
    clear hK K
    clear hb
    (try simp only [Act.put, List.getElem_toArray, List.getElem_cons_succ, List.getElem_cons_zero, List.setIfInBounds_toArray, List.set_cons_zero, List.set_cons_succ])
    refine wpAnyG_take (i := 4) (v := .bool true) rfl (by kernel_rfl) (by kernel_rfl) (by kernel_rfl) (by kernel_rfl) (by kernel_rfl) (by kernel_rfl) (fun _ _ _ h => h) rfl (by intro w' hb; go_simp; try (first | rfl | simp)) hS ?_
    (try simp only [Act.put, List.getElem_toArray, List.getElem_cons_succ, List.getElem_cons_zero, List.setIfInBounds_toArray, List.set_cons_zero, List.set_cons_succ])
    refine wpAnyG_take (i := 5) rfl (by kernel_rfl) (by kernel_rfl) (by kernel_rfl) (by kernel_rfl) (by kernel_rfl) (by kernel_rfl) (fun _ _ _ h => h) rfl (by intro w' hb; go_simp; try (first | rfl | simp)) hS ?_
    (try simp only [Act.put, List.getElem_toArray, List.getElem_cons_succ, List.getElem_cons_zero, List.setIfInBounds_toArray, List.set_cons_zero, List.set_cons_succ])
    refine wpAnyG_step (i := 6) rfl (by kernel_rfl) rfl (fun K hK => ?_)
    go_simp
    refine (HAW.out _ hS).mono ?_
    rintro e y2 ⟨rfl, hb⟩
    refine hK.out _ _ (bl hS hS.size hb) (fun hS => ?_)
    clear hK K
    clear hb
    (try simp only [Act.put, List.getElem_toArray, List.getElem_cons_succ, List.getElem_cons_zero, List.setIfInBounds_toArray, List.set_cons_zero, List.set_cons_succ])
    refine wpAnyG_take (i := 7) (v := .bool true) rfl (by kernel_rfl) (by kernel_rfl) (by kernel_rfl) (by kernel_rfl) (by kernel_rfl) (by kernel_rfl) (fun _ _ _ h => h) rfl (by intro w' hb; go_simp; try (first | rfl | simp)) hS ?_
    (try simp only [Act.put, List.getElem_toArray, List.getElem_cons_succ, List.getElem_cons_zero, List.setIfInBounds_toArray, List.set_cons_zero, List.set_cons_succ])
    refine wpAnyG_take (i := 8) rfl (by kernel_rfl) (by kernel_rfl) (by kernel_rfl) (by kernel_rfl) (by kernel_rfl) (by kernel_rfl) (fun _ _ _ h => h) rfl (by intro w' hb; go_simp; try (first | rfl | simp)) hS ?_
    (try simp only [Act.put, List.getElem_toArray, List.getElem_cons_succ, List.getElem_cons_zero, List.setIfInBounds_toArray, List.set_cons_zero, List.set_cons_succ])
    refine wpAnyU_done (by kernel_rfl) ?_ _
    have HSS := Lib.hid hS
    clear hS
    go_wp2_with fail
    go_ret
    exact ⟨rfl, bl HB0.out HB0.out.size HSS.out⟩
  · have hd1 : decide ((4 : Int) ≤ (o.k : Int)) = true := decide_eq_true (by omega)
    have hd2 : decide ((o.k : Int) ≤ 6) = false := decide_eq_false (by omega)
    clear hk
    go_upto_region 7 with fail
    clear c0 c1 c2 c3 c4 c5 hd1 hd2
    refine wp_region_until (fun w' => Below W0.heap.size W0 w') [0, 1, 2, 3, 4, 5, 6, 7, 8] (by kernel_rfl) ?_
    have hS : (fun w' => Below W0.heap.size W0 w') W0.drew := (Below.refl _ _).drew
    refine wpAnyG_take (i := 0) rfl (by kernel_rfl) (by kernel_rfl) (by kernel_rfl) (by kernel_rfl) (by kernel_rfl) (by kernel_rfl) (fun _ _ _ h => h) rfl (by intro w' hb; obtain ⟨c0, c1, c2, c3, c4, c5⟩ := op_cellsM (Blk.below KO.out hb (Blk.lt KO.out)); have r0 := Blk.cell (Blk.below KR.out hb (Blk.lt KR.out)) 0; go_simp; try (first | rfl | simp)) hS ?_
    (try simp only [Act.put, List.getElem_toArray, List.getElem_cons_succ, List.getElem_cons_zero, List.setIfInBounds_toArray, List.set_cons_zero, List.set_cons_succ])
    refine wpAnyG_take (i := 2) rfl (by kernel_rfl) (by kernel_rfl) (by kernel_rfl) (by kernel_rfl) (by kernel_rfl) (by kernel_rfl) (fun _ _ _ h => h) rfl (by intro w' hb; go_simp; try (first | rfl | simp)) hS ?_
    (try simp only [Act.put, List.getElem_toArray, List.getElem_cons_succ, List.getElem_cons_zero, List.setIfInBounds_toArray, List.set_cons_zero, List.set_cons_succ])
    refine wpAnyG_take (i := 3) rfl (by kernel_rfl) (by kernel_rfl) (by kernel_rfl) (by kernel_rfl) (by kernel_rfl) (by kernel_rfl) (fun _ _ _ h => h) rfl (by intro w' hb; obtain ⟨c0, c1, c2, c3, c4, c5⟩ := op_cellsM (Blk.below KO.out hb (Blk.lt KO.out)); have r0 := Blk.cell (Blk.below KR.out hb (Blk.lt KR.out)) 0; go_simp; try (first | rfl | simp)) hS ?_
    (try simp only [Act.put, List.getElem_toArray, List.getElem_cons_succ, List.getElem_cons_zero, List.setIfInBounds_toArray, List.set_cons_zero, List.set_cons_succ])
    refine wpAnyG_step (i := 1) rfl (by kernel_rfl) rfl (fun K hK => ?_)
    go_simp
    refine (HWR.out _ hS).mono ?_
    rintro e y1 ⟨rfl, hb⟩
    refine hK.out _ _ (bl hS hS.size hb) (fun hS => ?_)
    clear hK K
    clear hb
    (try simp only [Act.put, List.getElem_toArray, List.getElem_cons_succ, List.getElem_cons_zero, List.setIfInBounds_toArray, List.set_cons_zero, List.set_cons_succ])
    refine wpAnyG_take (i := 4) (v := .bool true) rfl (by kernel_rfl) (by kernel_rfl) (by kernel_rfl) (by kernel_rfl) (by kernel_rfl) (by kernel_rfl) (fun _ _ _ h => h) rfl (by intro w' hb; go_simp; try (first | rfl | simp)) hS ?_
    (try simp only [Act.put, List.getElem_toArray, List.getElem_cons_succ, List.getElem_cons_zero, List.setIfInBounds_toArray, List.set_cons_zero, List.set_cons_succ])
    refine wpAnyG_take (i := 5) rfl (by kernel_rfl) (by kernel_rfl) (by kernel_rfl) (by kernel_rfl) (by kernel_rfl) (by kernel_rfl) (fun _ _ _ h => h) rfl (by intro w' hb; go_simp; try (first | rfl | simp)) hS ?_
    (try simp only [Act.put, List.getElem_toArray, List.getElem_cons_succ, List.getElem_cons_zero, List.setIfInBounds_toArray, List.set_cons_zero, List.set_cons_succ])
    refine wpAnyG_step (i := 6) rfl (by kernel_rfl) rfl (fun K hK => ?_)
    go_simp
    refine (HAW.out _ hS).mono ?_
    rintro e y2 ⟨rfl, hb⟩
    refine hK.out _ _ (bl hS hS.size hb) (fun hS => ?_)
    clear hK K
    clear hb
    (try simp only [Act.put, List.getElem_toArray, List.getElem_cons_succ, List.getElem_cons_zero, List.setIfInBounds_toArray, List.set_cons_zero, List.set_cons_succ])
    refine wpAnyG_take (i := 7) (v := .bool true) rfl (by kernel_rfl) (by kernel_rfl) (by kernel_rfl) (by kernel_rfl) (by kernel_rfl) (by kernel_rfl) (fun _ _ _ h => h) rfl (by intro w' hb; go_simp; try (first | rfl | simp)) hS ?_
    (try simp only [Act.put, List.getElem_toArray, List.getElem_cons_succ, List.getElem_cons_zero, List.setIfInBounds_toArray, List.set_cons_zero, List.set_cons_succ])
    refine wpAnyG_take (i := 8) rfl (by kernel_rfl) (by kernel_rfl) (by kernel_rfl) (by kernel_rfl) (by kernel_rfl) (by kernel_rfl) (fun _ _ _ h => h) rfl (by intro w' hb; go_simp; try (first | rfl | simp)) hS ?_
    (try simp only [Act.put, List.getElem_toArray, List.getElem_cons_succ, List.getElem_cons_zero, List.setIfInBounds_toArray, List.set_cons_zero, List.set_cons_succ])
    refine wpAnyU_done (by kernel_rfl) ?_ _
    have HSS := Lib.hid hS
    clear hS
    go_wp2_with fail
    go_ret
    exact ⟨rfl, bl HB0.out HB0.out.size HSS.out⟩
set_option maxRecDepth 100000 in
set_option maxHeartbeats 4000000 in
theorem OpsWrong_lose (o : OpV) (ho : o.ok) (hk : 4 ≤ o.k ∧ o.k ≤ 6) (w : World) (hE : Env27 w) : Calls Tryz.prog 6 #[o.val] w fun e w' => e = .returned (.bool true) ∧ Below w.heap.size w w' := by
  have HE := Lib.hid hE
  have HO := Lib.hid ho
  have HK := Lib.hid hk
  clear hk
  have KO0 := Lib.hid (show OpB (w.alloc (.cells o.cells 24)) w.heap.size o from Blk.new w _ _)
  have HB0' := Lib.hid ((Below.refl w.heap.size w).alloc (Nat.le_refl _) (.cells o.cells 24))
  clear ho hE
  go_enter Tryz.func6, Tryz.ntmps6
  go_wp2_with fail
  refine (mnew_any 1 (by omega) (by omega) _).mono ?_
  rintro e w1 ⟨m, p, s, b, rfl, hM, hp, hb1⟩
  have ho := hM.ord
  have HM := Lib.hid hM
  have KO1 := Lib.hid (Blk.below KO0.out hb1 (Blk.lt KO0.out))
  have HB1 := Lib.hid (bl HB0'.out HB0'.out.size hb1)
  have HPP := Lib.hid (show w.heap.size + 1 ≤ p ∧ p < s ∧ s < b by simp at hp; exact ⟨hp, ho.1, ho.2.1⟩)
  obtain ⟨c0, c1, c2, c3, c4, c5⟩ := op_cellsM KO1.out
  clear hM hp hb1 ho
  go_wp2_with fail
  refine (mdo_any o HO.out m p s b 0 (M0 1) w1 HM.out (by omega) (by simp) ⟨by simp, by simp⟩ 0 0 (swept_nil HM.out rfl).1 (swept_nil HM.out rfl).2).mono ?_
  rintro e w2 ⟨A, cc, rfl, hr, hM2, hT⟩
  have hnb : ∀ i, (i = p ∨ i = s ∨ i = b) → w.heap.size + 1 ≤ i := fun i h => by have := HPP.out; omega
  have HB2 := Lib.hid (HB1.out.trans (hT.below HB1.out.size fun i h => by have := hnb i h; omega))
  have KO2 := Lib.hid (KO1.out.turned hT (fun h => by have := hnb _ h; omega))
  generalize hrr : (doR o (M0 1) 0 0).1 = RR at hr ⊢
  have HRR := Lib.hid (show RR.err = (doR o (M0 1) 0 0).1.err by rw [hrr])
  clear hrr
  obtain ⟨re, ri, rc, ry, rw0⟩ := RR
  obtain ⟨hi, hhi⟩ : ∃ hi : Int, ((rw0 / 18446744073709551616 : Nat) : Int) = hi := ⟨_, rfl⟩
  obtain ⟨lo, hlo⟩ : ∃ lo : Int, ((rw0 % 18446744073709551616 : Nat) : Int) = lo := ⟨_, rfl⟩
  have HV := Lib.hid (show repV ⟨re, ri, rc, ry, rw0⟩ A cc = .agg #[.int .i64 re, .slice A ri.length cc, .int .i64 rc, .bool ry, .int .u64 hi, .int .u64 lo] by rw [← hhi, ← hlo] <;> rfl)
  clear hhi hlo hr hM2 hT hnb c0 c1 c2 c3 c4 c5
  rw [HV.out]
  have KR := Lib.hid (Blk.new w2 33 #[.int .i64 re, .slice A ri.length cc, .int .i64 rc, .bool ry, .int .u64 hi, .int .u64 lo])
  have KO := Lib.hid (Blk.alloc KO2.out (.cells #[.int .i64 re, .slice A ri.length cc, .int .i64 rc, .bool ry, .int .u64 hi, .int .u64 lo] 33))
  have HB0 := Lib.hid (HB2.out.alloc HB2.out.size (.cells #[.int .i64 re, .slice A ri.length cc, .int .i64 rc, .bool ry, .int .u64 hi, .int .u64 lo] 33))
  go_upto_region 5 with fail
  generalize w2.alloc _ = W0 at KR KO HB0 ⊢
  obtain ⟨c0, c1, c2, c3, c4, c5⟩ := op_cellsM KO.out
  have HWRN : wrongN o = 0 := (wrong_lose o HK.out).1
  have HWR := Lib.hid (fun W (hW : Below W0.heap.size W0 W) => show Calls Tryz.prog 10 #[o.val] W (fun e w' => e = .returned (.int .i64 0) ∧ Below W.heap.size W w') from HWRN ▸ wrong_any o HO.out W ((HE.out.later HB0.out).later hW).k)
  have HAW := Lib.hid (fun W (hW : Below W0.heap.size W0 W) => awake27_any W ((HE.out.later HB0.out).later hW))
  obtain rfl : re = 263 := HRR.out.trans (wrong_lose o HK.out).2
  clear HWRN
  have hd1 : decide ((4 : Int) ≤ (o.k : Int)) = true := decide_eq_true (by have := HK.out; omega)
  have hd2 : decide ((o.k : Int) ≤ 6) = true := decide_eq_true (by have := HK.out; omega)
  go_wp2_with fail
  refine (HWR.out _ (Below.refl _ _)).mono ?_
  rintro e w3 ⟨rfl, hb3⟩
  have r0 := Blk.cell (Blk.below KR.out hb3 (Blk.lt KR.out)) 0
  have HB3 := Lib.hid hb3
  clear hb3
  go_wp2_with fail
  refine (HAW.out _ HB3.out).mono ?_
  rintro e w4 ⟨rfl, hb4⟩
  have HB4 := Lib.hid (bl HB3.out HB3.out.size hb4)
  clear hb4
  go_wp2_with fail
  go_ret
  exact ⟨rfl, bl HB0.out HB0.out.size HB4.out⟩
theorem OpsWrong_walk (o : OpV) (ho : o.ok) (w : World) (hE : Env27 w) : Calls Tryz.prog 6 #[o.val] w fun e w' => e = .returned (.bool true) ∧ Below w.heap.size w w' := by
  by_cases h : 4 ≤ o.k ∧ o.k ≤ 6
  · exact OpsWrong_lose o ho h w hE
  · exact OpsWrong_rest o ho (by omega) w hE
end Go.Proofs.YtokpgopdkimmmaaGreatDoor
