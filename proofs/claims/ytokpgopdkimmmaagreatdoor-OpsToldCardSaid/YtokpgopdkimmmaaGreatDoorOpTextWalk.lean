/- ops.Text: the walk. -/
import Derived.Test.YtokpgopdkimmmaaGreatDoorOpText
namespace Go.Proofs.YtokpgopdkimmmaaGreatDoor
open Go.RowKit
set_option linter.unusedVariables false
set_option linter.unusedSimpArgs false

theorem env_quiet {P : Program} {f : FuncId} {args : Array Value} {v : Value} {W : World} {s : Since W} {T : World → Prop} (ht : T W) (hl : ∀ w', Below W.heap.size W w' → T w') (h : ∀ w, T w → Calls P f args w fun e w' => e = .returned v ∧ Below w.heap.size w w') :
    Calls P f args s.w fun e w' => e = .returned v ∧ ∃ s' : Since W, w' = s'.w :=
  (h s.w (hl _ s.h)).mono fun _ w' ⟨he, hb⟩ => ⟨he, ⟨w', bl s.h s.h.size hb⟩, rfl⟩
theorem itoa_any (n : Nat) (hn : n < 256) (w : World) (ht : Tab64 w) : Calls Tryz.prog 39 #[.int .i64 (n : Int)] w fun e w' => e = .returned (.string ⟨(Lib.decDigits n).toArray⟩) ∧ Below w.heap.size w w' := by
  have h := Tryz.strconv_Itoa (n : Int) (by omega) (by omega) w ht
  have e : Lib.itoa (n : Int) = Lib.decDigits n := by unfold Lib.itoa; rw [if_neg (by omega)]; rfl
  rw [e] at h
  exact h.mono fun _ _ ⟨h, k, os, e⟩ => ⟨h, e ▸ Lib.below_grow _ w (Nat.le_refl _) k os⟩
set_option maxRecDepth 100000 in
set_option maxHeartbeats 4000000 in
theorem optext_any (o : OpV) (ho : o.ok) (w : World) (ht : Tab64 w) (hk : Blanks w) (he : ErrVars w) :
    Calls Tryz.prog 12 #[o.val] w fun e w' => e = .returned (.string ⟨(textL' o).toArray⟩) ∧ Below w.heap.size w w' := by
  have HT := Lib.hid ht
  have HK := Lib.hid hk
  have HE := Lib.hid he
  have HTX := Lib.hid (show textL' o = if isCode o.k = true ∧ sameB (onlyL o (letOf o.k)) o = true then toldL o (wordOf o.k) (letOf o.k) else toldL o (opWord ++ Lib.decDigits o.k) [105, 97, 98, 99, 100] from rfl)
  obtain ⟨tx, htx⟩ : ∃ tx, textL' o = tx := ⟨_, rfl⟩
  rw [htx] at HTX ⊢
  have hk256 := ho.k
  clear ht hk he htx
  go_enter Tryz.func12, Tryz.ntmps12
  go_wp2_with fail
  have K1 := Lib.hid (show OpB (w.alloc (.cells o.cells 24)) w.heap.size o from Blk.new w _ _)
  have HB := Lib.hid ((Below.refl w.heap.size w).alloc (Nat.le_refl _) (.cells o.cells 24))
  refine (line_any o.k hk256 _ (HK.out.later HB.out)).mono ?_
  rintro e w1 ⟨rfl, hb⟩
  replace K1 := Lib.hid (K1.out.later hb)
  replace HB := Lib.hid (bl HB.out (by simp) hb)
  obtain ⟨b1, hb1⟩ : ∃ b, w.heap.size = b := ⟨_, rfl⟩
  rw [hb1] at K1 ⊢
  have HG := Lib.hid (show w.heap.size ≤ b1 by omega)
  have HLT := Lib.hid (show b1 < w1.heap.size from Blk.lt K1.out)
  clear hb hb1 HK
  obtain ⟨ic, hic⟩ : ∃ ic, isCode o.k = ic := ⟨_, rfl⟩
  rw [hic] at HTX ⊢
  clear hic
  go_upto_if 16 with (fail)
  go_cut [16] (fun v wd => Hid (¬ (ic = true ∧ sameB (onlyL o (letOf o.k)) o = true)) ∧ Hid (OpB wd b1 o) ∧ Hid (Below w.heap.size w wd))
  case first =>
    cases ic
    case false =>
      go_wp2_with fail
      go_meet
      case rel => exact ⟨Lib.hid (fun h => by cases h.1), K1, HB⟩
    case true =>
      have HLS := Lib.hid (letOf_let o.k)
      obtain ⟨ls, hls⟩ : ∃ ls, letOf o.k = ls := ⟨_, rfl⟩
      obtain ⟨wd, hwd⟩ : ∃ ls, wordOf o.k = ls := ⟨_, rfl⟩
      have hwl : wd.length ≤ 100 ∧ ls.length ≤ 10 := by
        rw [← hwd, ← hls]
        rcases Nat.eq_zero_or_pos o.k with h | h
        · rw [h]; exact ⟨by simp [wordOf], by simp [letOf]⟩
        · rcases Nat.lt_or_ge 20 o.k with h2 | h2
          · unfold letOf wordOf
            rw [if_neg (by omega), if_neg (by omega), List.getD_eq_getElem?_getD, List.getElem?_eq_none (by simp [opTab]; omega)]
            simp
          · obtain ⟨_, _, r3, r4⟩ := opRows_at ⟨o.k - 1, by omega⟩
            simp only [Nat.sub_add_cancel h] at r3 r4
            omega
      rw [hls, hwd] at HTX
      rw [hls] at HLS ⊢
      rw [hwd]
      have HQ := Lib.hid hls
      have HWD := Lib.hid hwd
      clear hls hwd
      obtain ⟨s, hs⟩ : ∃ s : ByteArray, ⟨ls.toArray⟩ = s := ⟨_, rfl⟩
      have hsz : s.size = ls.length := by rw [← hs, mk_size]
      have hat : ∀ (i : Nat) (h : i < s.size), ls[i]? = some s[i] := by
        intro i h
        subst hs
        exact Lib.getElem_mk ls i h
      have HS := Lib.hid hs
      rw [hs]
      clear hs
      have c10 : w1.cell? ⟨b1, 0, none⟩ = some (.int .u8 (o.k : Int)) := Blk.cell K1.out 0
      go_wp2_with fail
      obtain ⟨b6, hb6⟩ : ∃ b, w1.heap.size = b := ⟨_, rfl⟩
      have HN := Lib.hid (show b1 < b6 by have := HLT.out; omega)
      have K6 := Lib.hid (show OpB ((w1.alloc (.cells (codeOnly o.k).cells 24)).iter s 0) b6 (onlyL o (ls.take 0)) by rw [← hb6]; exact Blk.alloc (Blk.new w1 _ _) (.stringIter s 0))
      have K1' := Lib.hid (show OpB ((w1.alloc (.cells (codeOnly o.k).cells 24)).iter s 0) b1 o from Blk.alloc (Blk.alloc K1.out _) (.stringIter s 0))
      have HI := Lib.hid (show ((w1.alloc (.cells (codeOnly o.k).cells 24)).iter s 0).heap[b6 + 1]? = some (.stringIter s 0) by
        rw [← hb6]
        have h := World.iter_heap (w1.alloc (.cells (codeOnly o.k).cells 24)) s 0
        rw [World.size_alloc] at h
        exact h)
      have HB' := Lib.hid (show Below w.heap.size w ((w1.alloc (.cells (codeOnly o.k).cells 24)).iter s 0) from (HB.out.alloc HB.out.size _).alloc (Nat.le_trans HB.out.size (by simp)) (.stringIter s 0))
      rw [hb6]
      have hV : (w1.alloc (.cells #[.int .u8 (o.k : Int), .int .i64 0, .int .i64 0, .int .i64 0, .int .i64 0, .int .u32 0] 24)).iter s 0 = (w1.alloc (.cells (codeOnly o.k).cells 24)).iter s 0 := rfl
      rw [hV]
      generalize (w1.alloc (.cells (codeOnly o.k).cells 24)).iter s 0 = V at K6 K1' HI HB' ⊢
      clear hb6 hV K1 HB c10
      go_loopw [8] (fun _ wr => ∃ pos : Nat, pos ≤ ls.length ∧ Hid (wr.heap[b6 + 1]? = some (.stringIter s pos)) ∧ Hid (OpB wr b6 (onlyL o (ls.take pos))) ∧ Hid (OpB wr b1 o) ∧ Hid (Below w.heap.size w wr)) (fun _ wr => s.size - wr.iterPos (b6 + 1))
      case atStart => exact ⟨0, Nat.zero_le _, HI, K6, K1', HB'⟩
      case round =>
        clear HI K6 K1' HB'
        obtain ⟨pos, hpos, HI, K6, K1, HB⟩ := hrel
        by_cases hp : pos < s.size
        · have hc := hat pos hp
          obtain ⟨c, hcc⟩ : ∃ c, s[pos] = c := ⟨_, rfl⟩
          rw [hcc] at hc
          have hL := HLS.out c (List.mem_of_getElem? hc)
          have ha : (s[pos]'hp).toNat < 128 := by
            rw [hcc]
            rcases hL with rfl | ⟨_, h⟩
            · decide
            · omega
          have hnx : ∀ ty, (Instr.next (.pointer (some ⟨b6 + 1, 0, none⟩)) true ty).run Tryz.prog wr = .ok (.tuple #[.bool true, .int .i64 pos, .int .i32 (c.toNat : Int)]) (wr.iterAt (b6 + 1) s (pos + 1)) := fun ty => by
            rw [Lib.run_next_ascii_at wr (b6 + 1) s pos ty HI.out hp ha, hcc]
          have HI' := Lib.hid (Lib.iterAt_heap wr (b6 + 1) s pos (pos + 1) HI.out)
          have K6' := Lib.hid (show OpB (wr.iterAt (b6 + 1) s (pos + 1)) b6 (onlyL o (ls.take pos)) from (Lib.iterAt_other wr (b6 + 1) b6 s (pos + 1) (by omega)).trans K6.out)
          have K1' := Lib.hid (show OpB (wr.iterAt (b6 + 1) s (pos + 1)) b1 o from (Lib.iterAt_other wr (b6 + 1) b1 s (pos + 1) (by have := HN.out; omega)).trans K1.out)
          have HB' := Lib.hid (Lib.below_iterAt HB.out (k := b6 + 1) (by have := HG.out; have := HN.out; omega) s (pos + 1))
          have hpl : pos < ls.length := by omega
          have HO := Lib.hid (show (onlyL o (ls.take pos)).put c (o.at c) = onlyL o (ls.take (pos + 1)) by rw [List.take_add_one, hc, Option.toList_some, onlyL_snoc])
          have HP := Lib.hid (show wr.iterPos (b6 + 1) = pos by unfold World.iterPos; rw [HI.out])
          have HL := Lib.hid hL
          generalize wr.iterAt (b6 + 1) s (pos + 1) = W1 at hnx HI' K6' K1' HB'
          clear hc hcc ha hL HI K6 K1 HB
          go_wp2_with fail
          refine (get_any b1 o ho c HL.out _ K1'.out (Tab64.later HT.out HB'.out)).mono ?_
          rintro e w2 ⟨rfl, hb2⟩
          have K6 := Lib.hid (K6'.out.later hb2)
          have K1 := Lib.hid (K1'.out.later hb2)
          have HI := Lib.hid ((hb2.block (b6 + 1) (Array.getElem?_eq_some_iff.1 HI'.out).1).trans HI'.out)
          have HB := Lib.hid (bl HB'.out HB'.out.size hb2)
          clear hb2 hnx K6' K1' HI' HB'
          go_wp2_with fail
          refine (set_say b6 _ o ho c HL.out _ K6.out (HE.out.later HB.out)).mono ?_
          rintro e w3 ⟨rfl, hO3, hg3⟩
          have K6' := Lib.hid (show OpB w3 b6 (onlyL o (ls.take (pos + 1))) by rw [← HO.out]; exact hO3)
          have K1' := Lib.hid (show OpB w3 b1 o from Blk.grown K1.out hg3 (fun h => by have := HN.out; injection h with h; omega))
          have HI' := Lib.hid ((hg3.block (b6 + 1) (Array.getElem?_eq_some_iff.1 HI.out).1 (fun h => by injection h with h; omega)).trans HI.out)
          have HB' := Lib.hid (HB.out.grown hg3 HB.out.size (fun r hr => by cases hr; have := HG.out; have := HN.out; omega))
          clear hO3 hg3 K6 K1 HI HB
          go_wp2_with fail
          refine ⟨⟨pos + 1, by omega, HI', K6', K1', HB'⟩, ?_⟩
          rw [HP.out, show w3.iterPos (b6 + 1) = pos + 1 by unfold World.iterPos; rw [HI'.out]]
          omega
        · have hnx : ∀ ty, (Instr.next (.pointer (some ⟨b6 + 1, 0, none⟩)) true ty).run Tryz.prog wr = _ := fun ty => Lib.run_next_end_at wr (b6 + 1) s pos ty HI.out hp
          have hpe : ls.take pos = ls := List.take_of_length_le (by omega)
          rw [hpe] at K6
          obtain ⟨p, hpp⟩ : ∃ p, onlyL o ls = p := ⟨_, rfl⟩
          rw [hpp] at K6 HTX
          have HPP := Lib.hid hpp
          clear hpp hpe
          have c10 : wr.cell? ⟨b1, 0, none⟩ = some (.int .u8 (o.k : Int)) := Blk.cell K1.out 0
          have c11 : wr.cell? ⟨b1, 1, none⟩ = some (.int .i64 o.a) := Blk.cell K1.out 1
          have c12 : wr.cell? ⟨b1, 2, none⟩ = some (.int .i64 o.b) := Blk.cell K1.out 2
          have c13 : wr.cell? ⟨b1, 3, none⟩ = some (.int .i64 o.c) := Blk.cell K1.out 3
          have c14 : wr.cell? ⟨b1, 4, none⟩ = some (.int .i64 o.d) := Blk.cell K1.out 4
          have c15 : wr.cell? ⟨b1, 5, none⟩ = some (.int .u32 (o.id : Int)) := Blk.cell K1.out 5
          by_cases hsb : p = o
          case pos =>
            subst hsb
            have c60 : wr.cell? ⟨b6, 0, none⟩ = some (.int .u8 (p.k : Int)) := Blk.cell K6.out 0
            have c61 : wr.cell? ⟨b6, 1, none⟩ = some (.int .i64 p.a) := Blk.cell K6.out 1
            have c62 : wr.cell? ⟨b6, 2, none⟩ = some (.int .i64 p.b) := Blk.cell K6.out 2
            have c63 : wr.cell? ⟨b6, 3, none⟩ = some (.int .i64 p.c) := Blk.cell K6.out 3
            have c64 : wr.cell? ⟨b6, 4, none⟩ = some (.int .i64 p.d) := Blk.cell K6.out 4
            have c65 : wr.cell? ⟨b6, 5, none⟩ = some (.int .u32 (p.id : Int)) := Blk.cell K6.out 5
            have HTT := Lib.hid (show tx = toldL p wd ls by rw [HTX.out, if_pos (by simp [sameB])])
            rw [← HS.out]
            go_wp2_with fail
            refine (told_any p ho wd ls hwl.1 hwl.2 HLS.out _ (Tab64.later HT.out HB.out)).mono ?_
            rintro e w9 ⟨rfl, hb9⟩
            have HB9 := Lib.hid (bl HB.out HB.out.size hb9)
            clear hb9
            go_wp2
            go_ret
            exact ⟨by rw [HTT.out]; rfl, HB9.out⟩
          case neg =>
            have HNS := Lib.hid (show ¬ (p.k = o.k ∧ p.a = o.a ∧ p.b = o.b ∧ p.c = o.c ∧ p.d = o.d ∧ p.id = o.id) from fun h => hsb (by
              obtain ⟨k1, a1, b1, c1, d1, i1⟩ := p
              obtain ⟨k2, a2, b2, c2, d2, i2⟩ := o
              simp only at h
              obtain ⟨rfl, rfl, rfl, rfl, rfl, rfl⟩ := h
              rfl))
            have HNB := Lib.hid (show ¬ (true = true ∧ sameB (onlyL o (letOf o.k)) o = true) from fun h => HNS.out (by
              have h2 := h.2
              rw [HQ.out, HPP.out] at h2
              unfold sameB at h2
              simp only [Bool.and_eq_true, decide_eq_true_eq] at h2
              obtain ⟨⟨⟨⟨⟨g1, g2⟩, g3⟩, g4⟩, g5⟩, g6⟩ := h2
              exact ⟨g1, g2, g3, g4, g5, g6⟩))
            have c60 : wr.cell? ⟨b6, 0, none⟩ = some (.int .u8 (p.k : Int)) := Blk.cell K6.out 0
            have c61 : wr.cell? ⟨b6, 1, none⟩ = some (.int .i64 p.a) := Blk.cell K6.out 1
            have c62 : wr.cell? ⟨b6, 2, none⟩ = some (.int .i64 p.b) := Blk.cell K6.out 2
            have c63 : wr.cell? ⟨b6, 3, none⟩ = some (.int .i64 p.c) := Blk.cell K6.out 3
            have c64 : wr.cell? ⟨b6, 4, none⟩ = some (.int .i64 p.d) := Blk.cell K6.out 4
            have c65 : wr.cell? ⟨b6, 5, none⟩ = some (.int .u32 (p.id : Int)) := Blk.cell K6.out 5
            clear hsb
            go_upto_if 33 with (fail)
            all_goals first
              | exact absurd ⟨by omega, by omega, by omega, by omega, by omega, by omega⟩ HNS.out
              | (go_wp2_with fail
                 rw [← HS.out, ← HQ.out, ← HWD.out]
                 go_meet
                 case rel => exact ⟨HNB, K1, HB⟩)
  case rest =>
    obtain ⟨HNB, K1, HB⟩ := hcut
    have HTT := Lib.hid (show tx = toldL o (opWord ++ Lib.decDigits o.k) [105, 97, 98, 99, 100] by rw [HTX.out, if_neg HNB.out])
    clear HTX HNB HLT
    go_upto_region 10 with (fail)
    have HWO := Lib.hid (show (opWord ++ Lib.decDigits o.k).length ≤ 100 by
      rw [List.length_append, Lib.decDigits_length]
      have := nDig_le (n := o.k) (k := 3) (Nat.lt_trans hk256 (by decide)) (by decide)
      have : opWord.length = 3 := rfl
      omega)
    have HTV := Lib.hid (Tab64.later HT.out HB.out)
    have TD := fun s : Since wc => env_quiet (P := Tryz.prog) (f := 38) (s := s) (T := Tab64) HTV.out (fun w' h => Tab64.later HTV.out h) (fun w h => told_any o ho (opWord ++ Lib.decDigits o.k) [105, 97, 98, 99, 100] HWO.out (by decide) (by
      intro c hc
      simp only [List.mem_cons, List.not_mem_nil, or_false] at hc
      rcases hc with rfl | rfl | rfl | rfl | rfl
      · exact .inl rfl
      all_goals exact .inr (by decide)) w h)
    have IT := fun s : Since wc => env_quiet (P := Tryz.prog) (f := 39) (s := s) (T := Tab64) HTV.out (fun w' h => Tab64.later HTV.out h) (fun w h => itoa_any o.k hk256 w h)
    have hcat : (⟨#[111, 112, 32]⟩ : ByteArray) ++ ⟨(Lib.decDigits o.k).toArray⟩ = ⟨(opWord ++ Lib.decDigits o.k).toArray⟩ := cat_mk opWord _
    have hdl : (Lib.decDigits o.k).length ≤ 50 := by
      rw [Lib.decDigits_length]
      have := nDig_le (n := o.k) (k := 3) (Nat.lt_trans hk256 (by decide)) (by decide)
      omega
    have hl1 := Blk.lt K1.out
    have c10 : wc.cell? ⟨b1, 0, none⟩ = some (.int .u8 (o.k : Int)) := Blk.cell K1.out 0
    have c11 : wc.cell? ⟨b1, 1, none⟩ = some (.int .i64 o.a) := Blk.cell K1.out 1
    have c12 : wc.cell? ⟨b1, 2, none⟩ = some (.int .i64 o.b) := Blk.cell K1.out 2
    have c13 : wc.cell? ⟨b1, 3, none⟩ = some (.int .i64 o.c) := Blk.cell K1.out 3
    have c14 : wc.cell? ⟨b1, 4, none⟩ = some (.int .i64 o.d) := Blk.cell K1.out 4
    have c15 : wc.cell? ⟨b1, 5, none⟩ = some (.int .u32 (o.id : Int)) := Blk.cell K1.out 5
    refine since_wp (fun s0 => ?_)
    refine wp_region_since (by kernel_rfl) (by kernel_rfl) ?_
    repeat (go_big_quiet_step ((first
      | (go_at_call 39; with_reducible exact IT _)
      | (go_at_call 38; with_reducible exact TD _))))
    refine wpQuiet_nil ?_
    rintro _ ⟨s1, rfl⟩
    go_wp2
    go_ret
    exact ⟨by rw [HTT.out]; rfl, since_below HB.out s1 HB.out.size⟩
end Go.Proofs.YtokpgopdkimmmaaGreatDoor
