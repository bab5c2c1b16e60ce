/- ops.Bytes: the walk. -/
import Derived.Test.YtokpgopdkimmmaaDoorOpPut
import Derived.Test.YtokpgopdkimmmaaDoorOpRead
namespace Go.Proofs.YtokpgopdkimmmaaDoor
open Go.RowKit
set_option linter.unusedVariables false
set_option linter.unusedSimpArgs false

theorem reads_new0 (w : World) (v : Value) (e : TypeId) : Reads (w.alloc (.cells #[v] e)) (w.heap.size + 1) 1 (some ⟨w.heap.size, 0, none⟩) 1 [v] := reads_new w v e
/-- A row of operations in memory. -/
def OpsAt (w : World) (g lo : Nat) (ls : List OpV) : Prop := ∀ (i : Nat) (o : OpV), ls[i]? = some o → ∀ j, j < 6 → w.cell? ⟨g, lo + i * 6 + j, none⟩ = o.cells[j]?
theorem OpsAt.keep {w w' : World} {g lo : Nat} {ls : List OpV} (h : OpsAt w g lo ls) (hk : ∀ p : Addr, p.block = g → w'.cell? p = w.cell? p) : OpsAt w' g lo ls := fun i o ho j hj => (hk _ rfl).trans (h i o ho j hj)
theorem rd_at {w : World} {g : Nat} (hg : g = w.heap.size) (v : Value) (e : TypeId) : Reads (w.alloc (.cells #[v] e)) (g + 1) 1 (some ⟨g, 0, none⟩) 1 [v] := by subst hg; exact reads_new w v e
/-- The bytes of the first numbers. -/
def numsB (o : OpV) (j : Nat) : List Nat := (List.range j).flatMap fun i => beN 8 (u64N (o.num i))
theorem numsB_succ (o : OpV) (j : Nat) : numsB o (j + 1) = numsB o j ++ beN 8 (u64N (o.num j)) := by unfold numsB; rw [List.range_succ, List.flatMap_append]; simp
theorem numsB_len (o : OpV) : ∀ j, (numsB o j).length = 8 * j
  | 0 => rfl
  | j + 1 => by rw [numsB_succ, List.length_append, numsB_len o j, beN_len]; omega
theorem opBytes_nums (o : OpV) : opBytes o = o.k :: (numsB o 4 ++ beN 4 o.id) := by simp [numsB, List.range_succ, opBytes, OpV.num, List.append_assoc]
theorem u64_wrap (x : Int) : IntKind.u64.wrap x = ((u64N x : Nat) : Int) := by rw [IntKind.wrap_u64]; unfold u64N; omega
theorem OpB.bsame {w w' : World} {b c : Nat} {o : OpV} (h : OpB w b o) (hs : BSame 5 c w w') (hne : b ≠ c) : OpB w' b o :=
  hs.2 b _ h hne (fun cs fr e => by
    injection e with _ e2
    exact absurd e2 (by decide))
set_option maxRecDepth 100000 in
set_option maxHeartbeats 4000000 in
theorem bytes_any (ls : List OpV) (hok : ∀ o ∈ ls, o.ok) (hl : ls.length ≤ 1000) (g lo cap : Nat) (w : World) (hg : g < w.heap.size) (ho : OpsAt w g lo ls) :
    Calls Tryd.prog 7 #[.slice (some ⟨g, lo, none⟩) ls.length cap] w fun e w' => ∃ v, e = .returned v ∧ w'.ownsRow w.heap.size 5 1 v (bytesL ls).length (bvals (bytesL ls)) ∧ Below w.heap.size w w' := by
  have HO := Lib.hid ho
  have HK := Lib.hid hok
  clear ho hok
  obtain ⟨i0, hi, hzz, hz1, hz2⟩ := info_parts infoU8
  go_enter Tryd.func7, Tryd.ntmps7
  go_wp2_with fail
  go_loopw [12] (fun i wr => ∃ k : Nat, k ≤ ls.length ∧ i = .int .i64 (k : Int) ∧ Hid (Bag wr w.heap.size w.heap.size (bytesL (ls.take k))) ∧ Hid (Below w.heap.size w wr)) (fun i _ => ls.length - (intOf i).toNat)
  case atStart =>
    refine ⟨0, Nat.zero_le _, rfl, Lib.hid ⟨Nat.le_refl _, .slice none 0 0, Blk.new w _ _, ?_⟩, Lib.hid ((Below.refl _ w).alloc (Nat.le_refl _) _)⟩
    exact World.ownsRow_nil _ _ _ _
  case round =>
    obtain ⟨k, hk, rfl, HG, HL⟩ := hrel
    obtain ⟨wo, rfl⟩ : ∃ wo : World, wo = wr := ⟨_, rfl⟩
    by_cases hlt : k < ls.length
    · obtain ⟨o, hoo⟩ : ∃ o, ls[k]? = some o := ⟨ls[k], List.getElem?_eq_getElem hlt⟩
      have hcs : ∀ j, j < 6 → wo.cell? ⟨g, lo + k * 6 + j, none⟩ = o.cells[j]? := fun j hj => (HL.out.cell (p := ⟨g, lo + k * 6 + j, none⟩) hg).trans (HO.out k o hoo j hj)
      have c0 : wo.cell? ⟨g, lo + k * 6, none⟩ = some (.int .u8 (o.k : Int)) := hcs 0 (by decide)
      have c1 : wo.cell? ⟨g, lo + k * 6 + 1, none⟩ = some (.int .i64 o.a) := hcs 1 (by decide)
      have c2 : wo.cell? ⟨g, lo + k * 6 + 2, none⟩ = some (.int .i64 o.b) := hcs 2 (by decide)
      have c3 : wo.cell? ⟨g, lo + k * 6 + 3, none⟩ = some (.int .i64 o.c) := hcs 3 (by decide)
      have c4 : wo.cell? ⟨g, lo + k * 6 + 4, none⟩ = some (.int .i64 o.d) := hcs 4 (by decide)
      have c5 : wo.cell? ⟨g, lo + k * 6 + 5, none⟩ = some (.int .u32 (o.id : Int)) := hcs 5 (by decide)
      have HOK := Lib.hid (HK.out o (List.mem_of_getElem? hoo))
      have HTK := Lib.hid (show ls.take (k + 1) = ls.take k ++ [o] by rw [List.take_add_one, hoo]; rfl)
      obtain ⟨_, v, hv, hown⟩ := HG.out
      obtain ⟨va, vc, rfl⟩ := own_shape hown
      have hbl : w.heap.size < wo.heap.size := hv.lt
      have HV := Lib.hid hv
      have HW := Lib.hid hown
      have HNE := Lib.hid (show some w.heap.size ≠ (Value.slice va (bytesL (ls.take k)).length vc).ownBlock from fun e => own_blk_ne hown hv (by decide) e.symm)
      have HNO := Lib.hid (show some wo.heap.size ≠ (Value.slice va (bytesL (ls.take k)).length vc).ownBlock from fun e => by have := (hown.lt _ e.symm).2; omega)
      have hbn : (bytesL (ls.take k)).length ≤ 37000 := by rw [bytesL_len, List.length_take]; omega
      have hcb : (wo.alloc (.cells o.cells 29)).cell? ⟨w.heap.size, 0, none⟩ = some (Value.slice va (bytesL (ls.take k)).length vc) := Blk.cell (Blk.alloc hv _) 0
      have hx2 : wo.heap.size < (wo.alloc (.cells o.cells 29)).heap.size := by simp
      clear hcs hoo hv hown
      go_wp2_with (at_builtin; refine wpList_append_any _ rfl (.tmp 16) (.tmp 19) 24 rfl w.heap.size 5 i0 (.int .u8 0) 1 1 Tryd.underlying24 hi hzz hz1 hz2 rfl (by decide) _ _ _ rfl ((HW.out.alloc _).alloc _) (wo.heap.size + 1 + 1) (some ⟨wo.heap.size + 1, 0, none⟩) 1 1 [.int .u8 (o.k : Int)] rfl (rd_at (by simp) _ _) (by intro u hu; simp at hu; subst hu; rfl) (by unfold maxLen; omega) (by omega) (by simp; omega) ?_)
      intro v1 w1 hown1 hgrow hat
      obtain ⟨a1, k1, rfl⟩ := own_shape hown1
      have hgr : wo.grownBy w1 (Value.slice va (bytesL (ls.take k)).length vc).ownBlock := grown_tr (only_alloc (only_alloc (World.grownBy.refl wo _) _) _) hgrow
      have hcb1 : w1.cell? ⟨w.heap.size, 0, none⟩ = some (Value.slice va (bytesL (ls.take k)).length vc) := Blk.cell (Blk.grown HV.out hgr HNE.out) 0
      have hfb1 : w1.frozen? ⟨w.heap.size, 0, none⟩ = false := Blk.frozen (Blk.grown HV.out hgr HNE.out) 0
      have HP := Lib.hid (bag_put (x := [o.k]) (Nat.le_refl _) HV.out HW.out hown1 hgr)
      have hbo1 : OpB w1 wo.heap.size o := Blk.grown (Blk.alloc (Blk.new wo _ _) _) hgrow HNO.out
      have hb6 : OpB (w1.setCell ⟨w.heap.size, 0, none⟩ (.slice a1 ((bytesL (ls.take k)).length + 1) k1)) wo.heap.size o := Blk.far hbo1 (fun e => by have : wo.heap.size = w.heap.size := e; omega) _
      have e1 : (w1.setCell ⟨w.heap.size, 0, none⟩ (.slice a1 ((bytesL (ls.take k)).length + 1) k1)).cell? ⟨wo.heap.size, 1, none⟩ = some (.int .i64 o.a) := Blk.cell hb6 1
      have e2 : (w1.setCell ⟨w.heap.size, 0, none⟩ (.slice a1 ((bytesL (ls.take k)).length + 1) k1)).cell? ⟨wo.heap.size, 2, none⟩ = some (.int .i64 o.b) := Blk.cell hb6 2
      have e3 : (w1.setCell ⟨w.heap.size, 0, none⟩ (.slice a1 ((bytesL (ls.take k)).length + 1) k1)).cell? ⟨wo.heap.size, 3, none⟩ = some (.int .i64 o.c) := Blk.cell hb6 3
      have e4 : (w1.setCell ⟨w.heap.size, 0, none⟩ (.slice a1 ((bytesL (ls.take k)).length + 1) k1)).cell? ⟨wo.heap.size, 4, none⟩ = some (.int .i64 o.d) := Blk.cell hb6 4
      have HO6 := Lib.hid hb6
      clear hown1 hgrow hat hgr hbo1 hb6 c0 c1 c2 c3 c4 c5 hcb HG HW HV HNE HNO
      go_wp2_with fail
      generalize w1.setCell ⟨w.heap.size, 0, none⟩ (.slice a1 ((bytesL (ls.take k)).length + 1) k1) = w2 at HP HO6 ⊢
      have HB2 := Lib.hid (HL.out.trans HP.out.2.1)
      have HG2 := Lib.hid (show Bag w2 w.heap.size w.heap.size (bytesL (ls.take k) ++ (o.k :: numsB o 0)) from HP.out.1)
      obtain ⟨bo, hbo⟩ : ∃ b, wo.heap.size = b := ⟨_, rfl⟩
      rw [hbo] at HO6 ⊢
      have hblo : w.heap.size < bo := by omega
      clear hcb1 hfb1 HP HL e1 e2 e3 e4 hbo hx2 hbl wo
      have HK30 := Lib.hid hk
      go_loopw [30] (fun jv wi => ∃ j : Nat, j ≤ 4 ∧ jv = .int .i64 (j : Int) ∧ Hid (Bag wi w.heap.size w.heap.size (bytesL (ls.take k) ++ (o.k :: numsB o j))) ∧ Hid (OpB wi bo o) ∧ Hid (Below w.heap.size w wi)) (fun jv _ => 4 - (intOf jv).toNat)
      case atStart => exact ⟨0, by decide, rfl, HG2, HO6, HB2⟩
      case round =>
        clear HG2 HO6 HB2
        obtain ⟨j, hj, rfl, HG, HOB, HB⟩ := hrel
        have hlj : (bytesL (ls.take k) ++ (o.k :: numsB o j)).length ≤ 37100 := by rw [List.length_append, List.length_cons, numsB_len]; omega
        by_cases hj4 : j < 4
        · have hix : ∀ w, (Instr.index 47 (.agg #[.int .i64 o.a, .int .i64 o.b, .int .i64 o.c, .int .i64 o.d]) (.int .i64 (j : Int))).run Tryd.prog w = .ok (.int .i64 (o.num j)) w := by
            rcases (show j = 0 ∨ j = 1 ∨ j = 2 ∨ j = 3 by omega) with rfl | rfl | rfl | rfl
            all_goals exact fun _ => by kernel_rfl
          have hcv := u64_wrap (o.num j)
          have hu := u64N_lt (o.num j)
          have HNS := Lib.hid (numsB_succ o j)
          go_wp2_with fail
          refine (put_any (u64N (o.num j)) 8 hu (by decide) w.heap.size w.heap.size _ (by omega) _ HG.out).mono ?_
          rintro e w3 ⟨rfl, hg3, hb3, hs3⟩
          have HG3 := Lib.hid hg3
          have HO3 := Lib.hid (HOB.out.bsame hs3 (by omega))
          have HB3 := Lib.hid (HB.out.trans hb3)
          clear hg3 hb3 hs3 HG HOB HB hix hcv
          go_wp2_with fail
          go_roundw
          case rel => exact ⟨j + 1, by omega, by go_num, Lib.hid (by rw [HNS.out]; have h := HG3.out; rw [List.append_assoc, List.cons_append] at h; exact h), HO3, HB3⟩
          case measure => simp [intOf] <;> omega
        · obtain rfl : j = 4 := by omega
          have c5 : wr.cell? ⟨bo, 5, none⟩ = some (.int .u32 (o.id : Int)) := Blk.cell HOB.out 5
          have hid := HOK.out.id
          go_wp2_with fail
          refine (put_any o.id 4 (by omega) (by decide) w.heap.size w.heap.size _ (by omega) _ HG.out).mono ?_
          rintro e w3 ⟨rfl, hg3, hb3, hs3⟩
          have HG3 := Lib.hid hg3
          have HB3 := Lib.hid (HB.out.trans hb3)
          clear hg3 hb3 hs3 HG HOB HB c5
          go_wp2_with fail
          go_roundw
          case rel => exact ⟨k + 1, by omega, by go_num, Lib.hid (by rw [HTK.out, bytesL_snoc, opBytes_nums]; have h := HG3.out; rw [List.append_assoc, List.cons_append] at h; exact h), HB3⟩
          case measure => simp [intOf] <;> omega
    · have hke : k = ls.length := by omega
      subst hke
      have HG2 := HG
      rw [List.take_length] at HG2
      obtain ⟨_, v, hv, hown⟩ := HG2.out
      have hc := hv.cell 0
      have HW := Lib.hid hown
      clear hown hv
      go_wp2_with fail
      go_ret
      exact ⟨v, rfl, HW.out, HL.out⟩
end Go.Proofs.YtokpgopdkimmmaaDoor
