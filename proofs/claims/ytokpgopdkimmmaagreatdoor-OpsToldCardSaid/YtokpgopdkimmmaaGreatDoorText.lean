/- The contract of wide.Text. -/
import Derived.Test.YtokpgopdkimmmaaGreatDoorBackward
import Derived.Test.YtokpgopdkimmmaaGreatDoorBWrite
import Derived.Test.YtokpgopdkimmmaaGreatDoorFmtUint
import Derived.Lib.SmallJoins
namespace Go.Proofs.YtokpgopdkimmmaaGreatDoor
open Go.RowKit Go.Shelf
attribute [local go_sem] Oper.semAt_some
set_option linter.unusedVariables false
set_option linter.unusedSimpArgs false

abbrev BW (b : Nat) (l : List UInt8) (W : World) : Prop := Lib.IsBuilder 105 5 b b (Lib.byteCells l) W
theorem BSame.of_below {e : TypeId} {b : Nat} {W W' : World} (h : Below W.heap.size W W') : BSame e b W W' :=
  ⟨h.size, fun k o ho _ _ => (h.block k (Array.getElem?_eq_some_iff.1 ho).1).trans ho⟩
/-- A builder lies as it lay where its own block and all bytes do. -/
theorem bw_keep {b : Nat} {l : List UInt8} {W W' : World} (h : BW b l W) (hk : ∀ (k : Nat) (cs : Array Value) (e : TypeId) (fr : Nat × Nat), W.heap[k]? = some (Obj.cells cs e fr) → W'.heap[k]? = some (Obj.cells cs e fr)) : BW b l W' := by
  have key : ∀ p, Lib.BuilderAt 105 5 b b p (Lib.byteCells l) W → Lib.BuilderAt 105 5 b b p (Lib.byteCells l) W' := by
    rintro p ⟨hB, v, hb, ho, hne⟩
    refine ⟨hB, v, hk _ _ _ _ hb, ownsRow_block ho (fun g hg => ?_), hne⟩
    obtain ⟨cs, fr, hc⟩ := own_cells ho g hg
    exact (hk _ _ _ _ hc).trans hc.symm
  rcases h with h | h
  · exact .inl (key _ h)
  · exact .inr (key _ h)
theorem bw_below {b : Nat} {l : List UInt8} {W W' : World} (h : BW b l W) (hb : Below W.heap.size W W') : BW b l W' :=
  bw_keep h (fun k cs e fr hc => (hb.block k (Array.getElem?_eq_some_iff.1 hc).1).trans hc)
theorem bw_lt {b : Nat} {l : List UInt8} {W : World} (h : BW b l W) : ∃ cs, W.heap[b]? = some (.cells cs 105 (0, 0)) := by
  rcases h with ⟨_, v, hb, _⟩ | ⟨_, v, hb, _⟩
  · exact ⟨_, hb⟩
  · exact ⟨_, hb⟩
/-- The state between two pieces. -/
def TInv (w V : World) (b : Nat) (pre : List Pce) (W : World) : Prop :=
  BW b ((pre.map (fun p => p.1.2)).foldl textStep []) W ∧ BSame 5 b V W ∧ Below w.heap.size w W
theorem tinv_own {w V : World} {b B : Nat} (hwB : w.heap.size ≤ B) (hVB : V.heap.size ≤ B) : OwnFrom B (TInv w V b) := by
  rintro s W W' row ⟨h1, h2, h3⟩ hg hr
  refine ⟨bw_keep h1 (fun k cs e fr hc => ?_), h2.grown' hg (fun r hr2 => ?_), h3.grown hg h3.size (fun r e => ?_)⟩
  · refine (hg.block k (Array.getElem?_eq_some_iff.1 hc).1 (fun e2 => ?_)).trans hc
    obtain ⟨_, o, ho, hoc⟩ := hr k e2.symm
    rw [hc] at ho
    cases ho
    cases hoc
  · exact Nat.le_trans hVB (hr r hr2).1
  · exact Nat.le_trans hwB (hr r e).1
theorem row_block {W : World} {base : Nat} {ao : Option Addr} {ca : Nat} {ls : List Nat} (h : W.ownsRow base 29 1 (.slice ao ls.length ca) ls.length (ls.map fun (n : Nat) => Value.int .u64 (n : Int))) (bx : Nat) :
    ∃ g, (ls ≠ [] → ao = some ⟨g, 0, none⟩) ∧ (g = bx ∨ ∃ cs, W.heap[g]? = some (.cells cs 29 (0, 0))) ∧ ∀ j x, ls[j]? = some x → W.cell? ⟨g, j, none⟩ = some (.int .u64 ((x : Nat) : Int)) := by
  rcases h.2 with ⟨_, h0⟩ | ⟨g, c, cur, hv, _, hg, _⟩
  · have : ls = [] := List.length_eq_zero_iff.1 h0
    subst this
    exact ⟨bx, fun h => absurd rfl h, .inl rfl, fun j x hj => by simp at hj⟩
  · simp only [Value.slice.injEq] at hv
    obtain ⟨rfl, _, rfl⟩ := hv
    refine ⟨g, fun _ => rfl, .inr ⟨cur, hg⟩, fun j x hj => ?_⟩
    have hl : j < ls.length := (List.getElem?_eq_some_iff.1 hj).1
    have hx := h.cellAt j (by omega)
    rw [List.getElem?_map, hj] at hx
    exact hx
theorem tab64 : Tryz.prog.globalNamed "internal/strconv.uint64pow10" = some 5 := by kernel_rfl
theorem keeps_two {b bx g : Nat} {W W' : World} (hs : BSame 5 b W W') {o o2 : Obj} (h1 : W.heap[bx]? = some o) (h1b : bx ≠ b) (h1c : ∀ cs fr, o ≠ .cells cs 5 fr) (h2 : W.heap[g]? = some o2) (h2b : g ≠ b) (h2c : ∀ cs fr, o2 ≠ .cells cs 5 fr) : KeepsTwo bx g W W' :=
  ⟨fun i => World.cell?_of_block ((hs.2 _ _ h1 h1b h1c).trans h1.symm), fun i => World.cell?_of_block ((hs.2 _ _ h2 h2b h2c).trans h2.symm)⟩
theorem bsame_keeps {b B : Nat} {W W' : World} (hs : BSame 5 b W W') (hb : ∃ cs, W.heap[b]? = some (.cells cs 105 (0, 0))) : KeepsFrom B W W' :=
  ⟨hs.1, fun k o _ hk ho => hs.2 k o hk (fun e => by
    obtain ⟨cs, hc⟩ := hb
    rw [e, hc] at hk
    cases hk
    cases ho) (fun cs fr e => by rw [e] at ho; cases ho)⟩
theorem step_nil (n : Nat) : textStep [] n = Lib.decDigits n := by unfold textStep; rw [if_pos rfl]
theorem step_more {bs : List UInt8} (h : bs ≠ []) (n : Nat) : textStep bs n = bs ++ (List.replicate (19 - Lib.nDigits n) 48 ++ Lib.decDigits n) := by unfold textStep; rw [if_neg h]
theorem rep48 (c : Nat) : Lib.repeatL [48] c = List.replicate c 48 := by
  have h := Lib.repeatL_replicate 48 1 c
  rw [Nat.mul_one] at h
  exact h

set_option maxRecDepth 100000 in
set_option maxHeartbeats 4000000 in
theorem text_any (a : Nat) (ha : a < wTop) (w : World) (htab : Lib.TabIs Tryz.prog w "internal/strconv.uint64pow10" .u64 Lib.pow10Tab) :
    Calls Tryz.prog 42 #[wideV a] w fun e w' => e = .returned (.string ⟨(textL a).toArray⟩) ∧ Below w.heap.size w w' := by
  refine (callsIn_wide (n := 6)).1 ?_
  refine callsIn_of_wp_marks Tryz.func42 rfl trivial ?_ rfl
  simp only [Tryz.ntmps42, List.size_toArray, List.length_cons, List.length_nil, Nat.reduceAdd, Nat.reduceSub, Array.replicate_succ, Array.replicate_zero, List.push_toArray, List.append_toArray, List.nil_append, List.cons_append]
  obtain ⟨ls, hls⟩ : ∃ ls, piecesF 3 a = ls := ⟨_, rfl⟩
  have HPA := Lib.hid (fun w => pieces_any a ha w)
  have HT := Lib.hid htab
  have HL := Lib.hid (text_pieces a (wtop_pc ha))
  have HLT := Lib.hid (pieces_lt 3 a)
  have HLN := Lib.hid (pieces_len 3 a)
  rw [hls] at HL HLT HLN
  clear htab ha
  unfold PiecesP at HPA
  rw [hls] at HPA
  unfold wideV at HPA ⊢
  generalize ((a / 18446744073709551616 : Nat) : Int) = vh at HPA ⊢
  generalize ((a % 18446744073709551616 : Nat) : Int) = vl at HPA ⊢
  gi_wp2_with fail
  refine ⟨trivial, (callsIn_wide.2 (HPA.out _)).mono ?_⟩
  rintro e w1 ⟨ao, ca, rfl, ho1, hb1⟩
  have hs1 := hb1.size
  simp only [World.size_alloc] at hs1 hb1 ho1
  have hbw1 : BW (w.heap.size + 1) [] w1 := by
    have h := Lib.fresh_isBuilder 105 5 (w.alloc (.cells #[.int .u64 vh, .int .u64 vl] 31))
    rw [World.size_alloc] at h
    exact bw_below h (by simpa only [World.size_alloc] using hb1)
  have hB1 : Below w.heap.size w w1 := (((Below.refl w.heap.size w).alloc (Nat.le_refl _) _).alloc (by simp) _).trans (hb1.mono (by omega))
  obtain ⟨g, hao, hgb, hgc⟩ := row_block ho1 w1.heap.size
  gi_wp2_with (refine ⟨trivial, ?_⟩; gi_at_call 81; refine (callsIn_wide.2 (back_any _ _ _ _)).mono ?_; rintro e w' ⟨rfl, rfl⟩)
  obtain ⟨V, hV⟩ : ∃ V, w1.alloc (.cells #[.slice ao ls.length ca] 135) = V := ⟨_, rfl⟩
  have hVs : V.heap.size = w1.heap.size + 1 := by rw [← hV]; simp
  have hVb : V.heap[w1.heap.size]? = some (.cells #[.slice ao ls.length ca] 135 (0, 0)) := by rw [← hV]; exact World.alloc_heap_new _ _
  have hV1 : Below w1.heap.size w1 V := by rw [← hV]; exact (Below.refl _ _).alloc (Nat.le_refl _) _
  obtain ⟨o2, hgV, hgne, hgty⟩ : ∃ o2, V.heap[g]? = some o2 ∧ g ≠ w.heap.size + 1 ∧ ∀ (cs : Array Value) fr, o2 ≠ .cells cs 5 fr := by
    rcases hgb with rfl | ⟨cs, hc⟩
    · exact ⟨_, hVb, by omega, fun cs fr e => by cases e⟩
    · refine ⟨_, (hV1.block _ (Array.getElem?_eq_some_iff.1 hc).1).trans hc, ?_, fun cs fr e => by cases e⟩
      rintro rfl
      obtain ⟨cs2, h2⟩ := bw_lt hbw1
      rw [h2] at hc
      cases hc
  have hgl : g < V.heap.size := (Array.getElem?_eq_some_iff.1 hgV).1
  have hgcV : ∀ j x, ls[j]? = some x → V.cell? ⟨g, j, none⟩ = some (.int .u64 ((x : Nat) : Int)) := by
    intro j x hj
    have h := hgc j x hj
    exact (hV1.cell (p := ⟨g, j, none⟩) (World.block_lt_of_cell? _ _ h)).trans h
  have hbwV := bw_below hbw1 hV1
  have hBV : Below w.heap.size w V := hB1.trans (hV1.mono hB1.size)
  rw [hV]
  refine wpIn_rangeFunc_ownG rfl (by omega) (gf := 131) (lb := #[.pointer (some ⟨w1.heap.size, 0, none⟩)]) rfl trivial (enters_of Tryz.func131 (by kernel_rfl) rfl)
    (back_stops Fence.wide _ trivial rfl (by omega) w1.heap.size g ao ca ls HLT.out HLN.out hao V (by omega) hgl (by rw [Lib.cell_of_heap hVb]; rfl) hgcV) KeepsTwo.trans (keepsTwo_put (by omega) hgl) (Below.refl _ _) (fun _ => rfl)
    (TInv w V (w.heap.size + 1)) (fun _ (_ : List Pce) _ => False) (tinv_own (by omega) (Nat.le_refl _)) (fun _ _ _ _ _ hs _ _ => hs) ⟨hbwV, BSame.refl _ _ _, hBV⟩
    (fun (x : Pce) => { tmps := #[Value.agg #[Value.int IntKind.u64 vh, Value.int IntKind.u64 vl], Value.pointer (some { block := w.heap.size, off := 0 }), Value.string { data := #[] }, Value.pointer (some { block := w.heap.size + 1, off := 0 }), undef, .int .u64 ((x.1.2 : Nat) : Int), undef, Value.agg #[Value.int IntKind.u64 vh, Value.int IntKind.u64 vl], .slice ao ls.length ca, .func (.func 131) #[] #[.pointer (some ⟨w1.heap.size, 0, none⟩)], .int .i64 x.1.1, .int .u64 ((x.1.2 : Nat) : Int), undef, undef, undef, undef, undef, undef, undef, undef, undef, undef, undef, undef, undef, undef], defers := [] }) ?assign ?body ?done ?stop
  case assign =>
    intro l x W' K hK
    gi_wp2
    exact hK
  case stop =>
    rintro D c pre W' hD hpre h _
    exact h.elim
  case body =>
    rintro l pre ⟨⟨xi, xv⟩, hxv⟩ W' ⟨hbw, hbs, hbl⟩ hlt
    have hxv' : xv < Pc := hxv
    have hx64 : xv < 18446744073709551616 := by unfold Pc at hxv'; omega
    have hnd := nDigits_le19 hxv'
    have HT' := Lib.hid (Go.Joins.tab_stays tab64 HT.out hbl (Nat.le_refl _))
    obtain ⟨bs, hbse⟩ : ∃ bs, (pre.map (fun p => p.1.2)).foldl textStep [] = bs := ⟨_, rfl⟩
    rw [hbse] at hbw
    have hlen : bs.length ≤ 57 := by
      have h := text_foldl_len (pre.map (fun p => p.1.2)) (fun n hn => by
        obtain ⟨q, _, rfl⟩ := List.mem_map.1 hn
        exact q.2) []
      rw [hbse, List.length_map] at h
      have := HLN.out
      simp only [List.length_nil] at h
      omega
    have HNX : Hid (((pre ++ [⟨(xi, xv), hxv⟩] : List Pce).map (fun p => p.1.2)).foldl textStep [] = textStep bs xv) := Lib.hid (by
      rw [List.map_append, List.foldl_append, hbse]; rfl)
    have hszW := hbl.size
    have hVW := hbs.1
    have fin : ∀ W2, BSame 5 (w.heap.size + 1) W' W2 → Below w.heap.size W' W2 → BW (w.heap.size + 1) (textStep bs xv) W2 →
        KeepsFrom V.heap.size W' W2 ∧ KeepsTwo w1.heap.size g W' W2 ∧ TInv w V (w.heap.size + 1) (pre ++ [⟨(xi, xv), hxv⟩]) W2 := by
      intro W2 k1 k2 k3
      refine ⟨bsame_keeps k1 (bw_lt hbw), ?_, ?_, hbs.trans k1, hbl.trans k2⟩
      · exact keeps_two k1 (hbs.2 _ _ hVb (by omega) (fun cs fr e => by cases e)) (by omega) (fun cs fr e => by cases e) (hbs.2 _ _ hgV hgne hgty) hgne hgty
      · rw [HNX.out]; exact k3
    have FIN := Lib.hid fin
    obtain ⟨t, ht⟩ : ∃ t : ByteArray, (⟨(Lib.decDigits xv).toArray⟩ : ByteArray) = t := ⟨_, rfl⟩
    have hts : t.size = Lib.nDigits xv := by
      rw [← ht, ← Lib.decDigits_length]
      exact List.size_toArray
    have HTC := Lib.hid (show Lib.strCells t = Lib.byteCells (Lib.decDigits xv) by rw [← ht]; rfl)
    have HFM := Lib.hid (fun W h => fmtUint_any xv hx64 W h)
    rw [ht] at HFM
    have ht19 : t.size ≤ 19 := by omega
    have HBW := Lib.hid hbw
    have HBL := Lib.hid hbl
    have HTS := Lib.hid hts
    clear hbw hbs hbl hbse fin hts ht hnd hlt hxv' hx64
    by_cases hbn : bs = []
    · subst hbn
      gi_wp2_with fail
      refine ⟨trivial, (CallsIn.inRound l (callsIn_wide.2 (HFM.out _ HT'.out))).mono ?_⟩
      rintro e w2 ⟨rfl, hb2⟩
      have hbw2 := bw_below HBW.out hb2
      have h2 := Tryz.Builder_Len _ _ _ _ hbw2
      rw [show ((Lib.byteCells []).length : Int) = 0 from rfl] at h2
      have HS2 := Lib.hid (show BSame 5 (w.heap.size + 1) W' w2 from BSame.of_below hb2)
      have HB2 := Lib.hid (hb2.mono hszW)
      have hsz2 := hb2.size
      have H2 := Lib.hid h2
      clear hb2 h2
      gi_wp2_with fail
      refine ⟨trivial, (CallsIn.inRound l (callsIn_wide.2 H2.out)).mono ?_⟩
      rintro e w2' ⟨rfl, rfl⟩
      gi_wp2_with fail
      refine ⟨trivial, (CallsIn.inRound l (callsIn_wide.2 (Tryz.Builder_WriteString_far _ _ _ t _ hbw2 (by show 0 + t.size ≤ 140737488355328; omega) (by omega)))).mono ?_⟩
      rintro e w3 ⟨rfl, hba, hb3, hs3⟩
      gi_wp2
      refine FIN.out _ (HS2.out.trans hs3) (HB2.out.trans (hb3.mono (by omega))) ?_
      rw [step_nil]
      rw [HTC.out] at hba
      exact .inr hba
    · have hpos : 0 < bs.length := List.length_pos_iff.2 hbn
      have hposI : (0 : Int) < (bs.length : Int) := by omega
      obtain ⟨c, hc⟩ : ∃ c, 19 - t.size = c := ⟨_, rfl⟩
      have hw : IntKind.i64.wrap (19 - (t.size : Int)) = (c : Int) := by rw [IntKind.wrap_i64]; omega
      have hc19 : c ≤ 19 := by omega
      obtain ⟨rp, hrp⟩ : ∃ rp : ByteArray, (⟨(Lib.repeatL [48] c).toArray⟩ : ByteArray) = rp := ⟨_, rfl⟩
      have HREP := Lib.hid (show ∀ W, Calls Tryz.prog 25 #[.string { data := #[48] }, .int .i64 (c : Int)] W fun e w' => e = .returned (.string rp) ∧ Below W.heap.size W w' from fun W => by
        have h := Tryz.strings_Repeat { data := #[48] } c W (by omega) (by rw [show (({ data := #[48] } : ByteArray)).size = 1 from rfl]; omega)
        rw [show ((({ data := #[48] } : ByteArray)).data.toList) = [48] from rfl, hrp] at h
        exact h)
      have hrs : rp.size = c := by
        rw [← hrp]
        refine List.size_toArray.trans ?_
        rw [rep48, List.length_replicate]
      have HRC := Lib.hid (show Lib.byteCells bs ++ Lib.strCells rp ++ Lib.strCells t = Lib.byteCells (textStep bs xv) by
        rw [step_more hbn, HTC.out, ← hrp, Lib.strCells_toArray, rep48, Lib.byteCells_append, Lib.byteCells_append, ← HTS.out, hc, List.append_assoc])
      clear hc hrp hbn
      gi_wp2_with fail
      refine ⟨trivial, (CallsIn.inRound l (callsIn_wide.2 (HFM.out _ HT'.out))).mono ?_⟩
      rintro e w2 ⟨rfl, hb2⟩
      have hbw2 := bw_below HBW.out hb2
      have h2 := Tryz.Builder_Len _ _ _ _ hbw2
      rw [Lib.byteCells_length] at h2
      have HS2 := Lib.hid (show BSame 5 (w.heap.size + 1) W' w2 from BSame.of_below hb2)
      have HB2 := Lib.hid (hb2.mono hszW)
      have hsz2 := hb2.size
      have H2 := Lib.hid h2
      clear hb2 h2
      gi_wp2_with fail
      refine ⟨trivial, (CallsIn.inRound l (callsIn_wide.2 H2.out)).mono ?_⟩
      rintro e w2' ⟨rfl, rfl⟩
      gi_wp2_with fail
      refine ⟨trivial, (CallsIn.inRound l (callsIn_wide.2 (HREP.out _))).mono ?_⟩
      rintro e w3 ⟨rfl, hb3⟩
      have hbw3 := bw_below hbw2 hb3
      have HS3 := Lib.hid (HS2.out.trans (show BSame 5 (w.heap.size + 1) _ w3 from BSame.of_below hb3))
      have HB3 := Lib.hid (HB2.out.trans (hb3.mono (by omega)))
      have hsz3 := hb3.size
      clear hb3
      gi_wp2_with fail
      refine ⟨trivial, (CallsIn.inRound l (callsIn_wide.2 (Tryz.Builder_WriteString_far _ _ _ rp _ hbw3 (by rw [Lib.byteCells_length]; omega) (by omega)))).mono ?_⟩
      rintro e w4 ⟨rfl, hba4, hb4, hs4⟩
      have HS4 := Lib.hid (HS3.out.trans hs4)
      have HB4 := Lib.hid (HB3.out.trans (hb4.mono (by omega)))
      have hsz4 := hb4.size
      clear hb4 hs4
      gi_wp2_with fail
      refine ⟨trivial, (CallsIn.inRound l (callsIn_wide.2 (Tryz.Builder_WriteString_far _ _ _ t _ (.inr hba4) (by rw [List.length_append, Lib.byteCells_length, Lib.strCells_length]; omega) (by omega)))).mono ?_⟩
      rintro e w5 ⟨rfl, hba5, hb5, hs5⟩
      gi_wp2
      refine FIN.out _ (HS4.out.trans hs5) (HB4.out.trans (hb5.mono (by omega))) ?_
      rw [HRC.out] at hba5
      exact .inr hba5
  case done =>
    rintro D ys W' hD hys ⟨hbw, hbs, hbl⟩ hK
    have hys' : ys.map (fun p => p.1.2) = ls.reverse := hys
    rw [hys'] at hbw
    obtain ⟨bs, hbse⟩ : ∃ bs, ls.reverse.foldl textStep [] = bs := ⟨_, rfl⟩
    rw [hbse] at hbw HL
    have hszW := hbl.size
    have hVW := hbs.1
    have HBL := Lib.hid hbl
    have HK := Lib.hid hK
    have fin : ∀ W2, Below w.heap.size w W2 → Below w.heap.size w (W2.putObj D (.deferred none)) := fun W2 h2 =>
      h2.grown (grownBy_putObj' W2 D (.deferred none)) h2.size (fun k e => by cases e; omega)
    have h2 := Tryz.Builder_Len _ _ _ _ hbw
    rw [Lib.byteCells_length] at h2
    by_cases hbn : bs = []
    · subst hbn
      rw [if_pos rfl] at HL
      have HE := Lib.hid (show (⟨(textL a).toArray⟩ : ByteArray) = { data := #[48] } by rw [← HL.out])
      rw [show (([] : List UInt8).length : Int) = 0 from rfl] at h2
      gi_wp2_with fail
      refine ⟨trivial, (callsIn_wide.2 h2).mono ?_⟩
      rintro e w2' ⟨rfl, rfl⟩
      gi_wp2
      refine ⟨by simp, .inl ⟨_, _, rfl, run_takeDeferred HK.out, ?_⟩⟩
      refine ⟨.string { data := #[48] }, by simp [results, Tryz.f42, go_sem], by rw [HE.out], fin _ HBL.out⟩
    · rw [if_neg hbn] at HL
      have hpos : 0 < bs.length := List.length_pos_iff.2 hbn
      have h3 := Tryz.Builder_String_far _ _ bs _ hbw hbn
      gi_wp2_with fail
      refine ⟨trivial, (callsIn_wide.2 h2).mono ?_⟩
      rintro e w2' ⟨rfl, rfl⟩
      gi_wp2_with fail
      refine ⟨trivial, (callsIn_wide.2 h3).mono ?_⟩
      rintro e w4 ⟨rfl, hb4, hs4⟩
      have hK4 : w4.heap[D]? = some (.deferred (some [])) := hs4.2 _ _ hK (fun e => by
        obtain ⟨cs, hc⟩ := bw_lt hbw
        rw [e, hc] at hK
        cases hK) (fun cs fr e => by cases e)
      have bel4 : Below w.heap.size _ w4 := hb4.mono (by omega)
      gi_wp2
      refine ⟨by simp, .inl ⟨_, _, rfl, run_takeDeferred hK4, ?_⟩⟩
      refine ⟨.string ⟨bs.toArray⟩, by simp [results, Tryz.f42, go_sem], by rw [HL.out], fin _ (HBL.out.trans bel4)⟩
end Go.Proofs.YtokpgopdkimmmaaGreatDoor
