import Derived.Test.YtokpgopdkimmmaaGreatDoorModM3
import Derived.RangeFuncNested
import Derived.RangeFuncBound
import Derived.RangeFuncCalls
import Derived.RangeFuncLeaves
import Derived.Shelf.Abstract
import Derived.OwnWalkIn
import Derived.TacticsInMore
import Derived.LoopNIn
import Derived.LoopIn
import Derived.Maps.RangeWalk
import Derived.Sort.MapsRangeIn
import Derived.Test.YtokpgopdkimmmaaGreatDoorModM2
import Derived.Test.YtokpgopdkimmmaaGreatDoorSortM2
import Derived.Test.YtokpgopdkimmmaaGreatDoorTellsM2
/- The names of a map's boxes: maps.Keys, slices.Collect, slices.Sorted (written by gen/mkeys.py). -/
namespace Go.Proofs.YtokpgopdkimmmaaGreatDoor
open Go.RowKit Go.Maps Go.Shelf
attribute [local go_sem] Oper.semAt_some
set_option linter.unusedVariables false
set_option linter.unusedSimpArgs false

set_option maxRecDepth 100000 in
set_option maxHeartbeats 2000000 in
/-- The iterator: each name comes, once. -/
theorem keys1_in (F : Fence) (n : Nat) (hf : F.fn 193) (hro : F.round = none) (hn : 1 ≤ n) (l Bm b q : Nat) (L : List BxV) (J Jx : List Nat → World → Prop)
    (hY : ∀ pre x W, J pre W → pre.length < L.length → YieldAt F (n - 1) Tryz.prog l #[uval x] W fun e W' =>
      (e = .returned (.bool true) ∧ J (pre ++ [x]) W' ∧ KeepsWalks W W') ∨ (e = .returned (.bool false) ∧ Jx (pre ++ [x]) W'))
    (W : World) (hJ : AbidesFrom W.heap.size J) (hm : W.cell? ⟨Bm, 0, none⟩ = some (.map (some b))) (hM : MapR Tryz.prog 22 bxK b q L W) (h0 : J [] W) :
    CallsIn F n Tryz.prog 193 #[.func (.yield l) #[] #[], .pointer (some ⟨Bm, 0, none⟩)] W fun e W' => (∃ v, e = .returned v) ∧
      ((∃ ss : List Nat, ss.Perm (L.map BxV.id) ∧ J ss W') ∨ (∃ pre, Jx pre W')) := by
  obtain ⟨D, hown, hH⟩ := hM
  have HO := Lib.hid hown
  have HH := Lib.hid hH
  have hsz : Maps.size D ≤ L.length := by rw [hH.size]; exact Nat.le_refl _
  clear hown hH
  refine callsIn_of_wp Tryz.func193 rfl hf ?_ hro
  simp only [Tryz.ntmps193, List.size_toArray, List.length_cons, List.length_nil, Nat.reduceAdd, Nat.reduceSub, Array.replicate_succ, Array.replicate_zero, List.push_toArray, List.append_toArray, List.nil_append, List.cons_append]
  gi_wp2_with (first
    | (gi_at_range; refine wpListIn_range_own _ rfl _ 122 rfl 22 71 lawU32 Tryz.underlying122 bxK.R b q D rfl HO.out ?_; intro w0 hrg0 hg0 hs0)
    | gi_in)
  go_frame
  have HRG0 := Lib.hid hrg0
  have HJ0 := Lib.hid (hJ [] W w0 none h0 hg0 (fun r e => by cases e))
  clear hrg0 hg0 hs0 h0
  gi_loopw [3] (fun _ wr => ∃ (done : List BxV) (left : Lit → Bool) (cnt : Nat), Hid (wr.ranges Tryz.prog 22 bxK.R b W.heap.size q D left cnt) ∧ done.length + cnt ≤ L.length ∧ Hid (GoneR bxK D L left done) ∧ Hid (J (done.map BxV.id) wr))
    (fun _ wr => wr.rangeLeft b W.heap.size)
  case atStart => exact ⟨[], _, _, HRG0, by simpa using hsz, Lib.hid (GoneR.start HH.out), HJ0⟩
  case round =>
    obtain ⟨done, left, cnt, HRG, hcs, HG, HJs⟩ := hrel
    clear HRG0 HJ0
    gi_wp2_with (first
      | (gi_at_next; refine wpListIn_next_ranges _ rfl _ rfl 22 lawU32 bxK.R (Value.int .u32) (fun c => .agg (bxK.enc c)) inv32 (fun v y h => by obtain ⟨x, hx, _⟩ := RecK.R_inv bxK_ok h; exact ⟨x, hx⟩) b W.heap.size q D left cnt rfl HRG.out ?_ ?_)
      | gi_in)
    · intro hc0 hl0
      have HPM := Lib.hid (show (done.map BxV.id).Perm (L.map BxV.id) from (GoneR.perm HH.out HG.out hl0).map _)
      clear hl0
      gi_wp2
      go_end0
      exact ⟨⟨_, rfl⟩, .inl ⟨_, HPM.out, HJs.out⟩⟩
    · intro x cc kl y1 y2 w2 cnt2 hkey hlk hv hat hrg2 hlt hg2 hs2 hen
      obtain ⟨i, hi32, rfl, rfl⟩ := key32_inv hkey
      obtain ⟨hni, hcL, hnd, hG2⟩ := GoneR.step bxK_ok HH.out HG.out hlk hv hat
      have hJ2 : J (done.map BxV.id) w2 := hJ _ wr w2 (some W.heap.size) HJs.out hg2 (fun r e => by cases e; exact ⟨Nat.le_refl _, HRG.out.iter_walk⟩)
      have HRG2 := Lib.hid hrg2
      have HG2 := Lib.hid hG2
      have HNI := Lib.hid hni
      have HLT := Lib.hid hlt
      obtain ⟨fn, tmps, assign, body, hy, hR⟩ := hY (done.map BxV.id) i w2 hJ2 (by rw [List.length_map]; omega)
      clear hs2 hkey hlk hv hat hrg2 hg2 hcL hnd hG2 hni hlt hJ2
      gi_wp2
      refine hR.mono ?_
      rintro e W3 (⟨rfl, hJ3, hk3⟩ | ⟨rfl, hJx3⟩)
      · have HRG3 := Lib.hid (HRG2.out.of_walks hk3)
        have HJ3 := Lib.hid (show J ((done ++ [cc]).map BxV.id) W3 by rw [List.map_append, List.map_singleton, show cc.id = i from HNI.out]; exact hJ3)
        clear hk3 hJ3
        gi_wp2
        go_roundw
        case rel => exact ⟨done ++ [cc], _, cnt2, HRG3, by rw [List.length_append, List.length_singleton]; have := HLT.out; omega, HG2, HJ3⟩
        case measure => rw [HRG3.out.left_eq, HRG.out.left_eq]; exact HLT.out
      · gi_wp2
        refine bodyPost_ret (results_none rfl _ _ _) rfl ?_
        exact ⟨⟨_, rfl⟩, .inr ⟨_, hJx3⟩⟩
/-- The iterator's contract. -/
theorem keys_stops (F : Fence) (n : Nat) (hf : F.fn 193) (hro : F.round = none) (hn : 1 ≤ n) (Bm b q : Nat) (L : List BxV) (w : World) (hBm : Bm < w.heap.size) (hm : w.cell? ⟨Bm, 0, none⟩ = some (.map (some b))) (hM : MapR Tryz.prog 22 bxK b q L w) :
    SeqStopsK F n Tryz.prog 193 #[.pointer (some ⟨Bm, 0, none⟩)] (fun x : Nat => #[uval x]) KeepsWalks (fun ys => ys.Perm (L.map BxV.id)) (fun _ => True) L.length w := by
  intro l J Jx W hW hJ _ hY h0
  refine (keys1_in F n hf hro hn l Bm b q L J Jx (fun pre x W hj hp => hY pre x W hj hp) W hJ ((hW.cell (p := ⟨Bm, 0, none⟩) hBm).trans hm) (hM.later hW) h0).mono ?_
  rintro e W' ⟨h1, ⟨ys, hys, hJ⟩ | ⟨pre, hJ⟩⟩
  · exact ⟨h1, .inl ⟨ys, hys, hJ⟩⟩
  · exact ⟨h1, .inr ⟨pre, trivial, hJ⟩⟩

/-- What AppendSeq keeps between two rounds. -/
def AInv (w : World) (Bs : Nat) (l : List Nat) (W : World) : Prop := ∃ v, Blk W Bs 28 #[v] ∧ W.ownsRow w.heap.size 22 1 v l.length (uvals l) ∧ Below w.heap.size w W
theorem ainv_own {w : World} {Bs B : Nat} (hwB : w.heap.size ≤ B) : OwnFrom B (AInv w Bs) := by
  rintro s W W' row ⟨v, hb, ho, hbl⟩ hg hr
  refine ⟨v, (hg.block Bs hb.lt (fun e => ?_)).trans hb, ho.kept hg ?_, hbl.grown hg hbl.size (fun r e => Nat.le_trans hwB (hr r e).1)⟩
  · obtain ⟨_, o, h1, h2⟩ := hr Bs e.symm
    unfold Blk at hb
    rw [hb] at h1
    cases h1
    cases h2
  · rcases ho.2 with ⟨rfl, _⟩ | ⟨g, cap, cur, rfl, hg2, hb2, _⟩
    · exact .inl rfl
    · refine .inr fun e => ?_
      obtain ⟨_, o, h1, h2⟩ := hr g e.symm
      rw [hb2] at h1
      cases h1
      cases h2
set_option maxRecDepth 100000 in
set_option maxHeartbeats 4000000 in
theorem appendSeq_any (Bm b q : Nat) (L : List BxV) (hLL : L.length ≤ 1000000) (w : World) (hB : Blk w Bm 122 #[.map (some b)]) (hM : MapR Tryz.prog 22 bxK b q L w) :
    Calls Tryz.prog 213 #[.slice none 0 0, .func (.func 193) #[] #[.pointer (some ⟨Bm, 0, none⟩)]] w fun e w' => ∃ v ids, e = .returned v ∧ ids.Perm (L.map BxV.id) ∧ w'.ownsRow w.heap.size 22 1 v ids.length (uvals ids) ∧ Below w.heap.size w w' := by
  obtain ⟨i0, hi, hzz, hz1, hz2⟩ := info_parts infoU32
  refine (callsIn_wide (n := 6)).1 ?_
  refine callsIn_of_wp_marks Tryz.func213 rfl trivial ?_ rfl
  simp only [Tryz.ntmps213, List.size_toArray, List.length_cons, List.length_nil, Nat.reduceAdd, Nat.reduceSub, Array.replicate_succ, Array.replicate_zero, List.push_toArray, List.append_toArray, List.nil_append, List.cons_append]
  have HBM := Lib.hid (Blk.alloc hB (.cells #[.slice none 0 0] 28))
  have HM := Lib.hid (hM.later ((Below.refl _ _).alloc (Nat.le_refl _) (.cells #[.slice none 0 0] 28)))
  have HN := Lib.hid (Blk.new w 28 #[.slice none 0 0])
  have HBV := Lib.hid ((Below.refl w.heap.size w).alloc (Nat.le_refl _) (.cells #[.slice none 0 0] 28))
  clear hB hM
  gi_wp2_with fail
  obtain ⟨V, hV⟩ : ∃ V, w.alloc (.cells #[.slice none 0 0] 28) = V := ⟨_, rfl⟩
  rw [hV] at HBM HM HN HBV ⊢
  have hVs : V.heap.size = w.heap.size + 1 := by rw [← hV]; simp
  refine wpIn_rangeFunc_ownG rfl (by omega) (gf := 193) (lb := #[.pointer (some ⟨Bm, 0, none⟩)]) rfl trivial (enters_of Tryz.func193 (by kernel_rfl) rfl)
    (keys_stops Fence.wide _ trivial rfl (by omega) Bm b q L V (Blk.lt HBM.out) (Blk.cell HBM.out 0) HM.out) KeepsWalks.trans (fun W l o o' _ h _ h2 => KeepsWalks.putObj o' h h2) (Below.refl _ _) (fun _ => rfl)
    (AInv w w.heap.size) (fun _ (_ : List Nat) _ => False) (ainv_own (by omega)) (fun _ _ _ _ _ hs _ _ => hs) ⟨_, HN.out, World.ownsRow_nil _ _ _ _, HBV.out⟩
    (fun (x : Nat) => { tmps := #[.slice none 0 0, .func (.func 193) #[] #[.pointer (some ⟨Bm, 0, none⟩)], .pointer (some ⟨w.heap.size, 0, none⟩), undef, .slice none 0 0, uval x, .func (.func 193) #[] #[.pointer (some ⟨Bm, 0, none⟩)], uval x, undef, undef, undef, undef, undef], defers := [] }) ?assign ?body ?done ?stop
  case assign =>
    intro l x W' K hK
    gi_wp2
    exact hK
  case stop =>
    rintro D c pre W' hD hpre h _
    exact h.elim
  case body =>
    rintro l pre x W' ⟨v, hb, ho, hbl⟩ hlt
    have HB := Lib.hid hb
    have HO := Lib.hid ho
    have HBL := Lib.hid hbl
    have c0 : W'.cell? ⟨w.heap.size, 0, none⟩ = some v := hb.cell 0
    have f0 := Blk.frozen hb
    have hbm : w.heap.size < W'.heap.size := hb.lt
    clear hb ho hbl
    have hms : maxLen = 9223372036854775807 := rfl
    gi_wp2_with (gi_at_builtin; refine wpListIn_append_own _ rfl _ _ 28 rfl w.heap.size 22 i0 (.int .u32 0) 1 4 Tryz.underlying28 hi hzz hz1 hz2 rfl (by decide) _ _ _ rfl (HO.out.alloc _) ⟨W'.heap.size, 0, none⟩ 1 1 [uval x] rfl rfl (cell_one_new _ _ _) (by simp [Value.oneCell', uval]) (by omega) (by omega) (by simp; omega) ?_)
    intro v' w3 hown' hg3 hnil3
    obtain ⟨va, vc, hvv⟩ : ∃ va vc, v' = .slice va (pre.length + 1) vc := by
      rcases hown'.2 with ⟨h1, h0⟩ | ⟨g, cap, cur, h1, _⟩
      · omega
      · exact ⟨_, _, h1⟩
    have hvb : ∀ (i : Nat) (o : Obj), W'.heap[i]? = some o → (∀ cs fr, o ≠ .cells cs 22 fr) → some i ≠ v.ownBlock := by
      intro i o h1 h2
      rcases HO.out.2 with ⟨rfl, _⟩ | ⟨g, cap, cur, rfl, _, hg, _⟩
      · intro e; cases e
      · intro e
        obtain rfl : i = g := by simpa [Value.ownBlock] using e
        rw [hg] at h1
        cases h1
        exact h2 _ _ rfl
    have hw : ∀ (i : Nat) (o : Obj), W'.heap[i]? = some o → (∀ cs fr, o ≠ .cells cs 22 fr) → w3.heap[i]? = some o := fun i o h1 h2 =>
      (hg3.block i (by have := (Array.getElem?_eq_some_iff.1 h1).1; simp; omega) (hvb i o h1 h2)).trans ((Below.heap_alloc _ _ i (Array.getElem?_eq_some_iff.1 h1).1).trans h1)
    have K3 : Blk w3 w.heap.size 28 #[v] := hw _ _ HB.out (fun cs fr e => by cases e)
    have HK4 := Lib.hid (fun (i : Nat) (o : Obj) (h1 : W'.heap[i]? = some o) (h2 : ∀ cs t fr, o ≠ .cells cs t fr) => show (w3.setCell ⟨w.heap.size, 0, none⟩ v').heap[i]? = some o from
      (Below.heap_setCell w3 ⟨w.heap.size, 0, none⟩ v' i (by rintro rfl; have h := HB.out; unfold Blk at h; rw [h1] at h; exact h2 _ _ _ (Option.some.inj h))).trans (hw i o h1 fun cs fr => h2 cs _ fr))
    have HB3 := Lib.hid ((HBL.out.alloc HBL.out.size (.cells #[uval x] 22)).grown hg3 (by have := HBL.out.size; simp; omega) (fun r e => (HO.out.lt r e).1))
    have HS := Lib.hid (show W'.heap.size ≤ w3.heap.size by have := hg3.size; simp at this; omega)
    have HA := Lib.hid (show AInv w w.heap.size (pre ++ [x]) (w3.setCell ⟨w.heap.size, 0, none⟩ v') from
      ⟨v', K3.set_ 0 v', by
        have h := hown'.kept (row := some w.heap.size) (w' := w3.setCell ⟨w.heap.size, 0, none⟩ v') (only_setCell (World.grownBy.refl w3 _) (.inl rfl) v') (by
          rcases hown'.2 with ⟨rfl, _⟩ | ⟨g, cap, cur, rfl, _, hg, _⟩
          · exact .inl rfl
          · refine .inr fun e => ?_
            obtain rfl : g = w.heap.size := by simpa [Value.ownBlock] using e
            unfold Blk at K3
            rw [K3] at hg
            cases hg)
        rw [uvals_app, List.length_append]
        exact h, HB3.out.setCell (Nat.le_refl _) v'⟩)
    have c3 : w3.cell? ⟨w.heap.size, 0, none⟩ = some v := K3.cell 0
    have f3 := Blk.frozen K3
    clear hvb hw K3 hown' hg3 hnil3 c0 f0
    rw [hvv] at HA HK4 ⊢
    clear hvv
    gi_wp2_with fail
    exact ⟨⟨by rw [World.size_setCell]; exact HS.out, fun i o _ hi ho => HK4.out i o hi (fun cs t fr e => by rw [e] at ho; cases ho)⟩,
      ⟨by rw [World.size_setCell]; exact HS.out, fun i o hi ho => HK4.out i o hi (fun cs t fr e => by rw [e] at ho; cases ho)⟩, HA.out⟩
  case done =>
    rintro D ys W' hD hys ⟨v, hb, ho, hbl⟩ hK
    have HK := Lib.hid hK
    have HO := Lib.hid ho
    have HBL := Lib.hid hbl
    have HY := Lib.hid hys
    have c0 : W'.cell? ⟨w.heap.size, 0, none⟩ = some v := hb.cell 0
    have hbm : w.heap.size < W'.heap.size := hb.lt
    clear hb ho hbl hK hys
    gi_wp2
    refine ⟨by simp, .inl ⟨_, _, rfl, run_takeDeferred HK.out, ?_⟩⟩
    refine ⟨v, by simp [results, Tryz.f213, go_sem], v, ys, rfl, HY.out, HO.out.kept (grownBy_putObj' W' D (.deferred none)) (by
      rcases HO.out.2 with ⟨rfl, _⟩ | ⟨g, cap, cur, rfl, _, hg, _⟩
      · exact .inl rfl
      · refine .inr fun e => ?_
        obtain rfl : g = D := by simpa [Value.ownBlock] using e
        have h := HK.out
        rw [hg] at h
        cases h), HBL.out.grown (grownBy_putObj' W' D (.deferred none)) HBL.out.size (fun k e => by cases e; omega)⟩
set_option maxRecDepth 100000 in
set_option maxHeartbeats 1000000 in
theorem collect_any (Bm b q : Nat) (L : List BxV) (hLL : L.length ≤ 1000000) (w : World) (hB : Blk w Bm 122 #[.map (some b)]) (hM : MapR Tryz.prog 22 bxK b q L w) :
    Calls Tryz.prog 192 #[.func (.func 193) #[] #[.pointer (some ⟨Bm, 0, none⟩)]] w fun e w' => ∃ v ids, e = .returned v ∧ ids.Perm (L.map BxV.id) ∧ w'.ownsRow w.heap.size 22 1 v ids.length (uvals ids) ∧ Below w.heap.size w w' := by
  have HC := Lib.hid (appendSeq_any Bm b q L hLL w hB hM)
  clear hB hM
  go_enter Tryz.func192, Tryz.ntmps192
  go_wp2_with fail
  refine HC.out.mono ?_
  rintro e w1 ⟨v, ids, rfl, hp, ho, hb⟩
  go_wp2_with fail
  go_ret
  exact ⟨v, ids, rfl, hp, ho, hb⟩
set_option maxRecDepth 100000 in
set_option maxHeartbeats 1000000 in
/-- The names, rising. -/
theorem sorted_any (Bm b q : Nat) (L : List BxV) (hLL : L.length ≤ 1000000) (w : World) (hB : Blk w Bm 122 #[.map (some b)]) (hM : MapR Tryz.prog 22 bxK b q L w) :
    Calls Tryz.prog 160 #[.func (.func 193) #[] #[.pointer (some ⟨Bm, 0, none⟩)]] w fun e w' => ∃ A c, e = .returned (.slice A (sortN (L.map BxV.id)).length c) ∧ Row32 w w' A (sortN (L.map BxV.id)) ∧ Below w.heap.size w w' := by
  have HC := Lib.hid (collect_any Bm b q L hLL w hB hM)
  clear hB hM
  go_enter Tryz.func160, Tryz.ntmps160
  go_wp2_with fail
  refine HC.out.mono ?_
  rintro e w1 ⟨v, ids, rfl, hp, ho, hb⟩
  have HO := Lib.hid ho
  have HB := Lib.hid hb
  have HP := Lib.hid hp
  have HLN := Lib.hid (show ids.length < 4611686018427387904 by rw [hp.length_eq, List.length_map]; omega)
  clear ho hb hp
  go_wp2_with fail
  refine (sort_for ids v w1 HLN.out HO.out HB.out).mono ?_
  rintro e w2 ⟨rfl, ho, hb⟩
  obtain ⟨A, c, rfl, hr⟩ := pick_out HP.out ho
  have HR := Lib.hid hr
  have HB2 := Lib.hid hb
  clear ho hb hr
  go_wp2_with fail
  go_ret
  exact ⟨A, c, rfl, HR.out, HB2.out⟩
set_option maxRecDepth 100000 in
set_option maxHeartbeats 1000000 in
theorem keys_any (b : Nat) (w : World) : Calls Tryz.prog 161 #[.map (some b)] w fun e w' => e = .returned (.func (.func 193) #[] #[.pointer (some ⟨w.heap.size, 0, none⟩)]) ∧ w.alloc (.cells #[.map (some b)] 122) = w' := by
  go_enter Tryz.func161, Tryz.ntmps161
  go_wp2_with fail
  go_ret
  exact ⟨rfl, rfl⟩
end Go.Proofs.YtokpgopdkimmmaaGreatDoor
/- model.all, of boxes: by rising names. -/
namespace Go.Proofs.YtokpgopdkimmmaaGreatDoor
open Go.RowKit Go.Maps
set_option linter.unusedVariables false
set_option linter.unusedSimpArgs false

/-- Boxes, by rising names. -/
def allB (L : List BxV) : List BxV := L.mergeSort fun x y => decide (x.id ≤ y.id)
theorem allB_perm (L : List BxV) : (allB L).Perm L := List.mergeSort_perm _ _
theorem allB_len (L : List BxV) : (allB L).length = L.length := (allB_perm L).length_eq
theorem allB_ids (L : List BxV) : (allB L).map BxV.id = sortN (L.map BxV.id) := by
  refine rising_perm (((allB_perm L).map _).trans (sortN_perm _).symm) ?_ (sortN_rising _)
  rw [List.pairwise_map]
  have h := List.pairwise_mergeSort (le := fun x y : BxV => decide (x.id ≤ y.id)) (fun a b c h1 h2 => by simp at *; omega) (fun a b => by simp; omega) L
  exact h.imp fun h => by simpa using h
theorem bx_look {b q : Nat} {L : List BxV} {w : World} (hM : MapR Tryz.prog 22 bxK b q L w) (x : BxV) (hx : x ∈ L) :
    (Instr.lookup 122 (.map (some b)) (.int .u32 (x.id : Int)) false).run Tryz.prog w = .ok (.agg x.cells) w := by
  obtain ⟨D, hown, hH⟩ := hM
  obtain ⟨v, ps, hrun, hv⟩ := hown.lookup lawU32 Tryz.underlying122 (bxZero w) (bxK.R_enc bxK_ok ⟨0, 0, 0, 0, 0⟩) (key32 x.id (hH.lt x hx))
  obtain ⟨y, rfl, h2⟩ := RecK.R_inv bxK_ok hv
  have h3 := hH.at_ x hx (bxK.dat ⟨0, 0, 0, 0, 0⟩)
  have h4 := congrArg Prod.fst h2
  simp only at h4
  rw [show D.atKey (nameL x.id) (bxK.dat ⟨0, 0, 0, 0, 0⟩) = bxK.dat x from h3] at h4
  obtain rfl := bxK_ok.inj _ _ h4
  exact hrun
theorem bxk : ∀ x : BxV, x.cells.size = 5 := fun _ => rfl
theorem infoBx : (Tryz.prog.info? 71).map (fun i => (i.zero, i.size, i.bytes)) = some (some (.agg (BxV.cells ⟨0, 0, 0, 0, 0⟩)), 5, 40) := by kernel_rfl
theorem bx_ones (x : BxV) : ∀ u ∈ x.cells.toList, u.oneCell' = true := by
  intro u hu
  simp [BxV.cells] at hu
  rcases hu with rfl | rfl | rfl | rfl | rfl <;> rfl
set_option maxRecDepth 100000 in
set_option maxHeartbeats 2000000 in
theorem all_any (b q : Nat) (L : List BxV) (hLL : L.length ≤ 1000000) (w : World) (hM : MapR Tryz.prog 22 bxK b q L w) :
    Calls Tryz.prog 123 #[.map (some b)] w fun e w' => ∃ A c, e = .returned (.slice A (allB L).length c) ∧ RecRow w' BxV.cells 5 A (allB L) ∧ (allB L = [] → A = none ∧ c = 0) ∧ Below w.heap.size w w' := by
  obtain ⟨i0, hi, hzz, hz1, hz2⟩ := info_parts infoBx
  have HM := Lib.hid hM
  have HLK := Lib.hid (fun (W : World) (hb : Below w.heap.size w W) (x : BxV) (hx : x ∈ allB L) => bx_look (hM.later hb) x ((allB_perm L).mem_iff.1 hx))
  obtain ⟨bs, hbs⟩ : ∃ bs, allB L = bs := ⟨_, rfl⟩
  have HID := Lib.hid (show sortN (L.map BxV.id) = bs.map BxV.id by rw [← hbs, allB_ids])
  have hlb : bs.length ≤ 1000000 := by rw [← hbs, allB_len]; exact hLL
  rw [hbs] at HLK ⊢
  clear hM hbs
  go_enter Tryz.func123, Tryz.ntmps123
  go_wp2_with fail
  refine (keys_any b _).mono ?_
  rintro e w1 ⟨rfl, rfl⟩
  go_wp2_with fail
  refine (sorted_any w.heap.size b q L hLL _ (Blk.new w _ _) (HM.out.later ((Below.refl _ _).alloc (Nat.le_refl _) _))).mono ?_
  rintro e w2 ⟨A, c, rfl, hr, hb⟩
  have HB2 := Lib.hid (bl ((Below.refl w.heap.size w).alloc (Nat.le_refl _) (.cells #[.map (some b)] 122)) (by simp) hb)
  rw [HID.out] at hr ⊢
  have HR := Lib.hid hr.1
  rw [List.length_map]
  clear hr hb
  go_wp2_with fail
  go_loopw [3, 10] (fun v i wr => ∃ (k : Nat) (g : Option Addr) (cp : Nat), k ≤ bs.length ∧ i = .int .i64 (k : Int) ∧ v = .slice g k cp ∧ (k = 0 → g = none ∧ cp = 0) ∧ Hid (wr.ownsRow w2.heap.size 71 5 (.slice g k cp) k (flatR BxV.cells (bs.take k))) ∧ Hid (Below w2.heap.size w2 wr)) (fun _ i _ => bs.length - (intOf i).toNat)
  case atStart => exact ⟨0, none, 0, Nat.zero_le _, rfl, rfl, fun _ => ⟨rfl, rfl⟩, Lib.hid (World.ownsRow_nil _ _ _ _), Lib.hid (Below.refl _ _)⟩
  case round =>
    obtain ⟨k, g, cp, hk, rfl, rfl, hz, HW, HB⟩ := hrel
    have HZ := Lib.hid hz
    clear hz
    by_cases hlt : k < bs.length
    · obtain ⟨x, hx⟩ : ∃ x, bs[k]? = some x := ⟨_, List.getElem?_eq_getElem hlt⟩
      have hxm : x ∈ bs := List.mem_of_getElem? hx
      have hcid : (bs.map BxV.id)[k]? = some x.id := by rw [List.getElem?_map, hx]; rfl
      obtain ⟨ga, lo, rfl, hgl, hcell⟩ := RecRow.at_ (HR.out.later HB.out) hcid
      have hc0 : wr.cell? ⟨ga, lo + k, none⟩ = some (.int .u32 (x.id : Int)) := by have h := hcell 0 (by omega); simpa [ucell] using h
      have hlk := HLK.out wr (HB2.out.trans (HB.out.mono HB2.out.size)) x hxm
      have HT := Lib.hid (show flatR BxV.cells (bs.take (k + 1)) = flatR BxV.cells (bs.take k) ++ x.cells.toList by
        rw [List.take_add_one, hx]; unfold flatR; rw [List.flatMap_append]; simp)
      clear hcell hcid hxm hx
      have hlI : decide ((k : Int) < (bs.length : Int)) = true := decide_eq_true (by omega)
      go_wp2_with (at_builtin; refine wpList_append_any _ rfl (.tmp 14) (.tmp 18) 175 rfl w2.heap.size 71 i0 (.agg (BxV.cells ⟨0, 0, 0, 0, 0⟩)) 5 40 Tryz.underlying175 hi hzz hz1 hz2 rfl (by decide) _ _ _ rfl (HW.out.alloc _) (wr.heap.size + 1) (some ⟨wr.heap.size, 0, none⟩) 1 1 x.cells.toList rfl (reads_cells wr x.cells _ 1 5 rfl) (bx_ones x) (by unfold maxLen; omega) (by omega) (by have := HB.out.size; simp; omega) ?_)
      intro v' w' hown hgrow hat
      obtain ⟨va, vc, rfl⟩ : ∃ va vc, v' = .slice va (k + 1) vc := by
        rcases hown.2 with ⟨_, h0⟩ | ⟨g', cap', cur', h1, _⟩
        · omega
        · exact ⟨_, _, h1⟩
      have HW2 := Lib.hid (show w'.ownsRow w2.heap.size 71 5 (.slice va (k + 1) vc) (k + 1) (flatR BxV.cells (bs.take (k + 1))) by rw [HT.out]; exact hown)
      have HB3 := Lib.hid ((HB.out.alloc HB.out.size _).grown hgrow (by have := HB.out.size; simp; omega) (fun r e => (HW.out.lt r e).1))
      clear hown hgrow hat hlk hc0 hgl HT
      go_wp2_with fail
      go_roundw
      case rel => exact ⟨k + 1, va, vc, by omega, by simp, rfl, fun e => by omega, HW2, HB3⟩
      case measure => simp [intOf]; omega
    · obtain rfl : k = bs.length := by omega
      have hlI : decide ((bs.length : Int) < (bs.length : Int)) = false := decide_eq_false (by omega)
      have HW2 := Lib.hid (show wr.ownsRow w2.heap.size 71 5 (.slice g bs.length cp) bs.length (flatR BxV.cells bs) by have h := HW.out; rw [List.take_length] at h; exact h)
      go_wp2_with fail
      go_ret
      exact ⟨g, cp, rfl, RecRow.of_own bxk HW2.out rfl, fun e => HZ.out (by rw [e]; rfl), HB2.out.trans (HB.out.mono HB2.out.size)⟩
end Go.Proofs.YtokpgopdkimmmaaGreatDoor
/- The cells of no boxes: rank.Squeeze of nothing, lines, Blocks, Area, Rim. -/
namespace Go.Proofs.YtokpgopdkimmmaaGreatDoor
open Go.RowKit
set_option linter.unusedVariables false
set_option linter.unusedSimpArgs false

set_option maxRecDepth 100000 in
set_option maxHeartbeats 1000000 in
theorem ins0i_any (A : Option Addr) (c : Nat) (w : World) : Calls Tryz.prog 225 #[.slice A 0 c, .int .i64 0, .int .i64 0] w fun e w' => e = .returned (.tuple #[]) ∧ w = w' := by
  go_enter Tryz.func225, Tryz.ntmps225
  go_wp2_with fail
  go_loopw [6] (fun v wr => v = .int .i64 1 ∧ w = wr) (fun _ _ => 0)
  case atStart => exact ⟨rfl, rfl⟩
  case round =>
    obtain ⟨rfl, rfl⟩ := hrel
    go_wp2_with fail
    go_end0
    exact ⟨rfl, rfl⟩
set_option maxRecDepth 100000 in
set_option maxHeartbeats 1000000 in
theorem pdq0i_any (A : Option Addr) (c : Nat) (n : Int) (w : World) : Calls Tryz.prog 224 #[.slice A 0 c, .int .i64 0, .int .i64 0, .int .i64 n] w fun e w' => e = .returned (.tuple #[]) ∧ w = w' := by
  go_enter Tryz.func224, Tryz.ntmps224
  go_wp2_with fail
  go_loopw [1, 2, 3] (fun v1 v2 v3 wr => v1 = .int .i64 0 ∧ v2 = .int .i64 0 ∧ v3 = .int .i64 n ∧ w = wr) (fun _ _ _ _ => 0)
  case atStart => exact ⟨rfl, rfl, rfl, rfl⟩
  case round =>
    obtain ⟨rfl, rfl, rfl, rfl⟩ := hrel
    go_wp2_with fail
    refine (ins0i_any A c _).mono ?_
    rintro e w1 ⟨rfl, rfl⟩
    go_wp2_with fail
    simp [bodyPost, results, Tryz.results224, go_sem]
set_option maxRecDepth 100000 in
set_option maxHeartbeats 1000000 in
theorem sort0i_any (A : Option Addr) (c : Nat) (w : World) : Calls Tryz.prog 220 #[.slice A 0 c] w fun e w' => e = .returned (.tuple #[]) ∧ w = w' := by
  go_enter Tryz.func220, Tryz.ntmps220
  go_wp2_with fail
  refine (len0_any _).mono ?_
  rintro e w1 ⟨rfl, rfl⟩
  go_wp2_with fail
  refine (pdq0i_any A c _ _).mono ?_
  rintro e w1 ⟨rfl, rfl⟩
  go_wp2_with fail
  go_end0
  exact ⟨rfl, rfl⟩
set_option maxRecDepth 100000 in
set_option maxHeartbeats 1000000 in
theorem clone0_any (w : World) : Calls Tryz.prog 219 #[.slice none 0 0] w fun e w' => e = .returned (.slice none 0 0) ∧ w = w' := by
  have hnil : ∀ W, (binOp .eql 61 (.slice none 0 0) (.slice none 0 0)).run Tryz.prog W = .ok (.bool true) W := fun _ => by kernel_rfl
  go_enter Tryz.func219, Tryz.ntmps219
  go_wp2_with fail
  go_ret
  exact ⟨rfl, rfl⟩
set_option maxRecDepth 100000 in
set_option maxHeartbeats 1000000 in
theorem compact0_any (w : World) : Calls Tryz.prog 221 #[.slice none 0 0] w fun e w' => e = .returned (.slice none 0 0) ∧ w = w' := by
  go_enter Tryz.func221, Tryz.ntmps221
  go_wp2_with fail
  go_ret
  exact ⟨rfl, rfl⟩
set_option maxRecDepth 100000 in
set_option maxHeartbeats 1000000 in
theorem squeeze0_any (w : World) : Calls Tryz.prog 210 #[.slice none 0 0] w fun e w' => e = .returned (.slice none 0 0) ∧ w = w' := by
  go_enter Tryz.func210, Tryz.ntmps210
  go_wp2_with fail
  refine (clone0_any w).mono ?_
  rintro e w1 ⟨rfl, rfl⟩
  go_wp2_with fail
  refine (sort0i_any none 0 w).mono ?_
  rintro e w1 ⟨rfl, rfl⟩
  go_wp2_with fail
  refine (compact0_any w).mono ?_
  rintro e w1 ⟨rfl, rfl⟩
  go_wp2_with fail
  go_ret
  exact ⟨rfl, rfl⟩
set_option maxRecDepth 100000 in
set_option maxHeartbeats 1000000 in
theorem lines0_any (w : World) : Calls Tryz.prog 188 #[.slice none 0 0] w fun e w' => e = .returned (.tuple #[.slice none 0 0, .slice none 0 0]) ∧ w = w' := by
  go_enter Tryz.func188, Tryz.ntmps188
  go_wp2_with fail
  go_loopw [4, 5, 10] (fun v4 v5 v10 wr => v4 = .slice none 0 0 ∧ v5 = .slice none 0 0 ∧ v10 = .int .i64 0 ∧ w = wr) (fun _ _ _ _ => 0)
  case atStart => exact ⟨rfl, rfl, rfl, rfl⟩
  case round =>
    obtain ⟨rfl, rfl, rfl, rfl⟩ := hrel
    go_wp2_with fail
    refine (squeeze0_any w).mono ?_
    rintro e w1 ⟨rfl, rfl⟩
    go_wp2_with fail
    refine (squeeze0_any w).mono ?_
    rintro e w1 ⟨rfl, rfl⟩
    go_wp2_with fail
    go_ret2
    exact ⟨rfl, rfl⟩
set_option maxRecDepth 100000 in
set_option maxHeartbeats 1000000 in
theorem blocks0_any (w : World) : Calls Tryz.prog 156 #[.slice none 0 0] w fun e w' => e = .returned (.tuple #[.slice none 0 0, .slice none 0 0, .slice none 0 0]) ∧ Below w.heap.size w w' := by
  go_enter Tryz.func156, Tryz.ntmps156
  go_wp2_with fail
  refine (lines0_any _).mono ?_
  rintro e w1 ⟨rfl, rfl⟩
  go_wp2_with fail
  rw [show max (-1 : Int) 0 = 0 from rfl]
  have HB := Lib.hid ((((Below.refl w.heap.size w).alloc (Nat.le_refl _) (.cells #[.slice none 0 0] 175)).alloc (by simp) (.cells #[.slice none 0 0] 61)).alloc (by simp; omega) (.cells #[.slice none 0 0] 61))
  go_loopw [7, 21] (fun v7 v21 wr => v7 = .slice none 0 0 ∧ v21 = .int .i64 0 ∧ ((w.alloc (.cells #[.slice none 0 0] 175)).alloc (.cells #[.slice none 0 0] 61)).alloc (.cells #[.slice none 0 0] 61) = wr) (fun _ _ _ => 0)
  case atStart => exact ⟨rfl, rfl, rfl⟩
  case round =>
    obtain ⟨rfl, rfl, rfl⟩ := hrel
    go_wp2_with fail
    go_quiet (fail)
    go_wp2_with fail
    exact bodyPost_ret (v := .tuple #[.slice none 0 0, .slice none 0 0, .slice none 0 0]) (by simp [results, Tryz.results156, go_sem]) rfl ⟨rfl, below_drewN' HB.out _⟩
set_option maxRecDepth 100000 in
set_option maxHeartbeats 1000000 in
theorem area0_any (w : World) : Calls Tryz.prog 122 #[.slice none 0 0] w fun e w' => e = .returned (wideV 0) ∧ Below w.heap.size w w' := by
  have K2 := Lib.hid (Blk.new w 31 #[.int .u64 0, .int .u64 0])
  have HB0 := Lib.hid ((Below.refl w.heap.size w).alloc (Nat.le_refl _) (.cells #[.int .u64 0, .int .u64 0] 31))
  go_enter Tryz.func122, Tryz.ntmps122
  go_wp2_with fail
  refine (blocks0_any _).mono ?_
  rintro e w1 ⟨rfl, hb1⟩
  replace K2 := Lib.hid (Blk.below K2.out hb1 (Blk.lt K2.out))
  have HB := Lib.hid (bl HB0.out HB0.out.size hb1)
  obtain ⟨b2, hb2⟩ : ∃ b, w.heap.size = b := ⟨_, rfl⟩
  have LT := Lib.hid (show w.heap.size ≤ b2 by omega)
  rw [hb2] at K2 ⊢
  clear hb1 hb2 HB0
  go_wp2_with fail
  have HB2 := Lib.hid (HB.out.alloc HB.out.size (.cells #[.int .u64 0, .int .u64 0] 31))
  have K6 := Lib.hid (Blk.new w1 31 #[.int .u64 0, .int .u64 0])
  replace K2 := Lib.hid (Blk.alloc K2.out (.cells #[.int .u64 0, .int .u64 0] 31))
  generalize w1.alloc (.cells #[.int .u64 0, .int .u64 0] 31) = V at HB2 K6 K2 ⊢
  obtain ⟨b6, hb6⟩ : ∃ b, w1.heap.size = b := ⟨_, rfl⟩
  rw [hb6] at K6 ⊢
  clear hb6
  go_loopw [19] (fun v wr => v = .int .i64 0 ∧ V = wr) (fun _ _ => 0)
  case atStart => exact ⟨rfl, rfl⟩
  case round =>
    obtain ⟨rfl, rfl⟩ := hrel
    have c0 : V.cell? ⟨b6, 0, none⟩ = some (.int .u64 0) := K6.out.cell 0
    have c1 : V.cell? ⟨b6, 1, none⟩ = some (.int .u64 0) := K6.out.cell 1
    have d0 : V.cell? ⟨b2, 0, none⟩ = some (.int .u64 0) := K2.out.cell 0
    have d1 : V.cell? ⟨b2, 1, none⟩ = some (.int .u64 0) := K2.out.cell 1
    have f2 := Blk.frozen K2.out
    go_wp2_with fail
    exact bodyPost_ret (v := wideV 0) (by simp [results, Tryz.results122, go_sem, d0, d1]; rfl) rfl ⟨rfl, (HB2.out.setCell (p := ⟨b2, 0, none⟩) LT.out _).setCell (p := ⟨b2, 1, none⟩) LT.out _⟩
set_option maxRecDepth 100000 in
set_option maxHeartbeats 1000000 in
theorem rim0_any (w : World) : Calls Tryz.prog 124 #[.slice none 0 0] w fun e w' => e = .returned (wideV 0) ∧ Below w.heap.size w w' := by
  have K2 := Lib.hid (Blk.new w 31 #[.int .u64 0, .int .u64 0])
  have HB0 := Lib.hid ((Below.refl w.heap.size w).alloc (Nat.le_refl _) (.cells #[.int .u64 0, .int .u64 0] 31))
  go_enter Tryz.func124, Tryz.ntmps124
  go_wp2_with fail
  refine (blocks0_any _).mono ?_
  rintro e w1 ⟨rfl, hb1⟩
  replace K2 := Lib.hid (Blk.below K2.out hb1 (Blk.lt K2.out))
  have HB := Lib.hid (bl HB0.out HB0.out.size hb1)
  obtain ⟨b2, hb2⟩ : ∃ b, w.heap.size = b := ⟨_, rfl⟩
  have LT := Lib.hid (show w.heap.size ≤ b2 by omega)
  rw [hb2] at K2 ⊢
  clear hb1 hb2 HB0
  go_wp2_with fail
  have HB2 := Lib.hid ((HB.out.alloc HB.out.size (.cells #[.slice none 0 0] 215)).alloc (Nat.le_trans HB.out.size (by simp)) (.cells #[.int .u64 0, .int .u64 0] 31))
  have K6 := Lib.hid (show Blk ((w1.alloc (.cells #[.slice none 0 0] 215)).alloc (.cells #[.int .u64 0, .int .u64 0] 31)) (w1.heap.size + 1) 31 #[.int .u64 0, .int .u64 0] by
    have h := Blk.new (w1.alloc (.cells #[.slice none 0 0] 215)) 31 #[.int .u64 0, .int .u64 0]
    rw [World.size_alloc] at h
    exact h)
  replace K2 := Lib.hid (Blk.alloc (Blk.alloc K2.out (.cells #[.slice none 0 0] 215)) (.cells #[.int .u64 0, .int .u64 0] 31))
  generalize (w1.alloc (.cells #[.slice none 0 0] 215)).alloc (.cells #[.int .u64 0, .int .u64 0] 31) = V at HB2 K6 K2 ⊢
  obtain ⟨b6, hb6⟩ : ∃ b, w1.heap.size = b := ⟨_, rfl⟩
  rw [hb6] at K6 ⊢
  clear hb6
  go_loopw [21] (fun v wr => v = .int .i64 0 ∧ V = wr) (fun _ _ => 0)
  case atStart => exact ⟨rfl, rfl⟩
  case round =>
    obtain ⟨rfl, rfl⟩ := hrel
    have c0 : V.cell? ⟨b6 + 1, 0, none⟩ = some (.int .u64 0) := K6.out.cell 0
    have c1 : V.cell? ⟨b6 + 1, 1, none⟩ = some (.int .u64 0) := K6.out.cell 1
    have d0 : V.cell? ⟨b2, 0, none⟩ = some (.int .u64 0) := K2.out.cell 0
    have d1 : V.cell? ⟨b2, 1, none⟩ = some (.int .u64 0) := K2.out.cell 1
    have f2 := Blk.frozen K2.out
    go_wp2_with fail
    exact bodyPost_ret (v := wideV 0) (by simp [results, Tryz.results124, go_sem, d0, d1]; rfl) rfl ⟨rfl, (HB2.out.setCell (p := ⟨b2, 0, none⟩) LT.out _).setCell (p := ⟨b2, 1, none⟩) LT.out _⟩
end Go.Proofs.YtokpgopdkimmmaaGreatDoor
