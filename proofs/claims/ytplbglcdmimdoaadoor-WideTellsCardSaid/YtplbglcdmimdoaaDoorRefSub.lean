/- The document's difference. -/
import Derived.Test.YtplbglcdmimdoaaDoorRefCmp
namespace Go.Proofs.YtplbglcdmimdoaaDoor
open Go.RowKit
set_option linter.unusedVariables false
set_option linter.unusedSimpArgs false

theorem box3g {w : World} {P : Program} {c : Code} {Q : Exit → Act → World → Prop} {a : Act} {ah al bh bl ch cl : Int} {tx ty tz : TypeId} (h : ∀ W, Below w.heap.size w W → w.heap.size + 1 + 1 < W.heap.size → WB W w.heap.size ah al → WB W (w.heap.size + 1) bh bl → WF W (w.heap.size + 1 + 1) ch cl → c.wp P Q a W) :
    c.wp P Q a (((w.alloc (.cells #[.int .u64 ah, .int .u64 al] tx)).alloc (.cells #[.int .u64 bh, .int .u64 bl] ty)).alloc (.cells #[.int .u64 ch, .int .u64 cl] tz)) :=
  from_box3 fun W h1 h2 h3 => h W h1.below h3.lt ⟨h1.lt, h1.cell 0, h1.cell 1⟩ ⟨h2.lt, h2.cell 0, h2.cell 1⟩ ⟨h3.lt, h3.cell 0, h3.cell 1, h3.frozen 0, h3.frozen 1⟩
theorem BlkI.later {w w' : World} {g : Nat} {l : List Nat} (h : BlkI w g l) (hb : Below w.heap.size w w') : BlkI w' g l := Blk.below h hb (Blk.lt h)
theorem BlkI.drewN {w : World} {g : Nat} {l : List Nat} (h : BlkI w g l) (k : Nat) : BlkI (w.drewN k) g l := h
theorem RowN.drewN {w : World} {g : Nat} {l : List Nat} (h : RowN w g l) (k : Nat) : RowN (w.drewN k) g l := h
theorem RowN.far {w : World} {g b i : Nat} {l : List Nat} (h : RowN w g l) (hne : g ≠ b) (v : Value) : RowN (w.setCell ⟨b, i, none⟩ v) g l :=
  ⟨by have := h.1; simpa using this, fun k x hx => by rw [World.cell?_setCell_other _ _ _ _ (fun e => hne (by cases e; rfl))]; exact h.2 k x hx⟩
theorem BlkI.far {w : World} {g b i : Nat} {l : List Nat} (h : BlkI w g l) (hne : g ≠ b) (v : Value) : BlkI (w.setCell ⟨b, i, none⟩ v) g l := Blk.far h (p := ⟨b, i, none⟩) hne v
theorem WF.far {w : World} {g b i : Nat} {h l : Int} (k : WF w g h l) (hne : g ≠ b) (v : Value) : WF (w.setCell ⟨b, i, none⟩ v) g h l :=
  ⟨by have := k.1; simpa using this, by rw [World.cell?_setCell_other _ _ _ _ (fun e => hne (by cases e; rfl))]; exact k.2.1, by rw [World.cell?_setCell_other _ _ _ _ (fun e => hne (by cases e; rfl))]; exact k.2.2.1, by rw [World.frozen?_setCell]; exact k.2.2.2.1, by rw [World.frozen?_setCell]; exact k.2.2.2.2⟩
theorem WF.drewN {w : World} {g : Nat} {h l : Int} (k : WF w g h l) (n : Nat) : WF (w.drewN n) g h l := k
/-- The run of make([]int, 128). -/
theorem make128 : ∃ Z : Array Value, Z = (ints (List.replicate 128 0)).toArray ∧ ∀ W, (Instr.makeSlice 80 (.int .i64 128) (.int .i64 128)).run Tryd.prog W = .ok (.slice (some ⟨W.heap.size, 0, none⟩) 128 128) (W.alloc (.cells Z 3)) := by
  obtain ⟨ib, hib, hbz, hb1, hb2⟩ := info_parts infoInt01
  have hmk := fun W => run_make_rowN (P := Tryd.prog) 80 3 ib (.int .i64 0) Tryd.underlying80 hib hbz .i64 .i64 128 128 (Nat.le_refl _) (by rw [hb2]; omega) (by omega) W
  rw [hb1] at hmk
  refine ⟨_, rfl, fun W => ?_⟩
  have h := hmk W
  rw [show 128 * 1 = 128 from rfl, show (Value.int .i64 0).cells = #[.int .i64 0] from rfl, made_ints] at h
  exact h
/-- What the rounds of Sub keep. -/
def SubW (a b g1 g2 g3 b4 k : Nat) (w wr : World) : Prop :=
  RowN wr g2 (bitsN 128 b) ∧ BlkI wr g3 (bitsN k (a - b) ++ List.replicate (128 - k) 0) ∧ WF wr b4 0 0 ∧ Below w.heap.size w wr
theorem SubW.drewN {a b g1 g2 g3 b4 k : Nat} {w wr : World} (h : SubW a b g1 g2 g3 b4 k w wr) (n : Nat) : SubW a b g1 g2 g3 b4 k w (wr.drewN n) := ⟨h.1.drewN n, h.2.1.drewN n, h.2.2.1.drewN n, below_drewN' h.2.2.2 n⟩
theorem SubW.step {a b g1 g2 g3 b4 k d : Nat} {w wr : World} (h : SubW a b g1 g2 g3 b4 k w wr) (hk : k < 128) (hd : (a - b) / 2 ^ k % 2 = d) (hn : w.heap.size ≤ b4 ∧ b4 < g1 ∧ g1 < g2 ∧ g2 < g3) : SubW a b g1 g2 g3 b4 (k + 1) w (wr.setCell ⟨g3, k, none⟩ (.int .i64 (d : Int))) := by
  obtain ⟨h1, h2, h3, h4⟩ := h
  refine ⟨h1.far (by omega) _, ?_, h3.far (by omega) _, h4.setCell (p := ⟨g3, k, none⟩) (by show w.heap.size ≤ g3; omega) _⟩
  rw [← set_out k 128 (a - b) d hk hd]
  exact h2.set k d
theorem SubW.x {a b g1 g2 g3 b4 k i : Nat} {w wr : World} (h : SubW a b g1 g2 g3 b4 k w wr) (hn : w.heap.size ≤ b4 ∧ b4 < g1 ∧ g1 < g2 ∧ g2 < g3) (v : Value) : SubW a b g1 g2 g3 b4 k w (wr.setCell ⟨g1, i, none⟩ v) := by
  obtain ⟨h1, h2, h3, h4⟩ := h
  exact ⟨h1.far (by omega) _, h2.far (by omega) _, h3.far (by omega) _, h4.setCell (p := ⟨g1, i, none⟩) (by show w.heap.size ≤ g1; omega) _⟩
set_option maxRecDepth 100000 in
set_option maxHeartbeats 4000000 in
theorem rsub_any (a b : Nat) (ha : a < wTop) (hb : b < wTop) (w : World) : Calls Tryd.prog 26 #[wideV a, wideV b] w fun e w' =>
    e = .returned (.tuple #[wideV (a - b), .bool (decide (b ≤ a))]) ∧ Below w.heap.size w w' := by
  obtain ⟨pa, qa, ea⟩ := words_of a
  obtain ⟨pb, qb, eb⟩ := words_of b
  obtain ⟨pc, qc, ec⟩ := words_of (a - b)
  have BA := Lib.hid (fun w => by have h := bits_any a ha w; rw [ea] at h; exact h)
  have BB := Lib.hid (fun w => by have h := bits_any b hb w; rw [eb] at h; exact h)
  have CM := Lib.hid (fun w => by have h := rcmp_any a b ha hb w; rw [ea, eb] at h; exact h)
  have NA := Lib.hid (fun g w (hR : RowN w g (bitsN 128 (a - b))) => by
    have h := number_any 128 (a - b) 128 g (by omega) (Nat.lt_of_le_of_lt (Nat.sub_le _ _) ha) (by omega) w hR
    rw [if_pos (Nat.lt_of_le_of_lt (Nat.sub_le _ _) ha), decide_eq_true (Nat.lt_of_le_of_lt (Nat.sub_le _ _) ha), ec] at h
    exact h)
  have H0 := Lib.hid (fun (h : b ≤ a) => SubOut.start (a := a) (b := b) ha h)
  obtain ⟨Z, hZ, hmk⟩ := make128
  have HZ := Lib.hid hZ
  have EC := Lib.hid ec
  clear hZ
  rw [ea, eb, ec]
  clear ha hb ea eb ec
  go_enter Tryd.func26, Tryd.ntmps26
  go_upto_region 1 with (fail)
  refine box3g (fun V hB hlt k2 k3 k4 => ?_)
  obtain ⟨b2, hb2⟩ : ∃ b, w.heap.size = b := ⟨_, rfl⟩
  have HG := Lib.hid (show w.heap.size ≤ b2 by omega)
  rw [hb2] at hlt k2 k3 k4 ⊢
  clear hb2
  have KS := Lib.hid (show Below w.heap.size w V ∧ V.cell? ⟨b2, 0, none⟩ = some (.int .u64 pa) ∧ V.cell? ⟨b2, 1, none⟩ = some (.int .u64 qa) ∧ V.cell? ⟨b2 + 1, 0, none⟩ = some (.int .u64 pb) ∧ V.cell? ⟨b2 + 1, 1, none⟩ = some (.int .u64 qb) from ⟨hB, k2.2.1, k2.2.2, k3.2.1, k3.2.2⟩)
  have K4 := Lib.hid k4
  have HL := Lib.hid hlt
  clear hB k2 k3 k4 hlt
  obtain ⟨hB0, c20, c21, c30, c31⟩ := KS.out
  by_cases hab : a < b
  · obtain ⟨c40, c41, f40, f41⟩ := K4.out.2
    have hcm : cmpI a b = -1 := by unfold cmpI; rw [if_pos (by omega)]
    have HE := Lib.hid (show pc = 0 ∧ qc = 0 by
      have e := EC.out
      rw [show a - b = 0 by omega] at e
      have e2 := Array.toList_inj.2 (Value.agg.inj e)
      simp only [List.cons.injEq, Value.int.injEq, true_and, and_true] at e2
      exact ⟨e2.1.symm, e2.2.symm⟩)
    obtain ⟨rfl, rfl⟩ := HE.out
    have HD := Lib.hid hab
    go_wp2_with fail
    refine (CM.out _).mono ?_
    rintro e w1 ⟨rfl, hb⟩
    rw [hcm]
    have c40' := (hb.cell (p := ⟨b2 + 1 + 1, 0, none⟩) K4.out.1).trans c40
    have c41' := (hb.cell (p := ⟨b2 + 1 + 1, 1, none⟩) K4.out.1).trans c41
    have f40' := (hb.frozen (p := ⟨b2 + 1 + 1, 0, none⟩) K4.out.1).trans f40
    have f41' := (hb.frozen (p := ⟨b2 + 1 + 1, 1, none⟩) K4.out.1).trans f41
    have HB1 := Lib.hid (bl hB0 hB0.size hb)
    clear hb c40 c41 f40 f41 hB0 c20 c21 c30 c31
    go_wp2_with fail
    simp [bodyPost, results, Tryd.results26, go_sem, c40', c41']
    exact ⟨HD.out, (HB1.out.setCell (p := ⟨b2 + 1 + 1, 0, none⟩) (by have := HG.out; show w.heap.size ≤ b2 + 1 + 1; omega) _).setCell (p := ⟨b2 + 1 + 1, 1, none⟩) (by have := HG.out; show w.heap.size ≤ b2 + 1 + 1; omega) _⟩
  · have hcm : 0 ≤ cmpI a b := by unfold cmpI; rw [if_neg (by omega)]; split <;> decide
    have HS0 := Lib.hid (H0.out (by omega))
    have HD := Lib.hid (show b ≤ a by omega)
    go_wp2_with fail
    refine (CM.out _).mono ?_
    rintro e w1 ⟨rfl, hb⟩
    generalize cmpI a b = cr at hcm ⊢
    replace K4 := Lib.hid (K4.out.later hb)
    replace HL := Lib.hid (Nat.lt_of_lt_of_le HL.out hb.size)
    replace KS := Lib.hid (keep2 KS.out hb)
    clear hb hB0 c20 c21 c30 c31 hab
    go_upto_region 3 with (fail)
    go_cut [6, 7] (fun x y wc => ∃ g1 g2, x = .slice (some ⟨g1, 0, none⟩) 128 128 ∧ y = .slice (some ⟨g2, 0, none⟩) 128 128 ∧ Hid (BlkI wc g1 (bitsN 128 a)) ∧ Hid (RowN wc g2 (bitsN 128 b)) ∧ Hid (b2 + 1 + 1 < g1 ∧ g1 < g2) ∧ Hid (WF wc (b2 + 1 + 1) 0 0) ∧ Hid (Below w.heap.size w wc))
    case first =>
      have K4d : WF w1.drew (b2 + 1 + 1) 0 0 := K4.out
      go_region_held3 (fun y => Below w.heap.size w y ∧ y.cell? ⟨b2, 0, none⟩ = some (.int .u64 pa) ∧ y.cell? ⟨b2, 1, none⟩ = some (.int .u64 qa) ∧ y.cell? ⟨b2 + 1, 0, none⟩ = some (.int .u64 pb) ∧ y.cell? ⟨b2 + 1, 1, none⟩ = some (.int .u64 qb))
        (first
          | exact keep2 KS.out ((Below.refl _ _).drew)
          | assumption)
        (first
          | (go_at_call 52; (with_reducible refine (BA.out _).mono ?_); rintro e w' ⟨g, rfl, hR, hg, hb⟩; have hS := keep2 (by assumption) hb; have hK : WF w' (b2 + 1 + 1) 0 0 := WF.later (by assumption) hb; have hg1 : b2 + 1 + 1 < g := Nat.lt_of_lt_of_le HL.out hg; have hl1 : g < w'.heap.size := Blk.lt hR)
          | (go_at_call 52; (with_reducible refine (BB.out _).mono ?_); rintro e w' ⟨g, rfl, hR, hg, hb⟩; have hS := keep2 (by assumption) hb; have hK : WF w' (b2 + 1 + 1) 0 0 := WF.later (by assumption) hb; have hQ := BlkI.later (by assumption) hb; have hg2 := Nat.lt_of_lt_of_le (by assumption) hg))
      all_goals
        go_wp2_with fail
        go_meet
        case rel => exact ⟨_, _, rfl, rfl, Lib.hid (by assumption), Lib.hid (RowN.of_blk (by assumption)), Lib.hid ⟨by assumption, by assumption⟩, Lib.hid (by assumption), Lib.hid (And.left (by assumption))⟩
    case rest =>
    obtain ⟨g1, g2, rfl, rfl, X1, R2, HO, K4', HB⟩ := hcut
    clear KS K4 HL BA BB CM H0
    go_wp2_with fail
    obtain ⟨g3, hg3⟩ : ∃ b, wc.heap.size = b := ⟨_, rfl⟩
    have HN := Lib.hid (show w.heap.size ≤ b2 + 1 + 1 ∧ b2 + 1 + 1 < g1 ∧ g1 < g2 ∧ g2 < g3 by have := HO.out; have := R2.out.1; have := HG.out; omega)
    have X1' := Lib.hid (show BlkI (wc.alloc (.cells Z 3)) g1 (bitsN 128 a) from Blk.alloc X1.out _)
    have SW := Lib.hid (show SubW a b g1 g2 g3 (b2 + 1 + 1) 0 w (wc.alloc (.cells Z 3)) from ⟨R2.out.alloc _, by
      rw [← hg3]
      unfold BlkI
      rw [show bitsN 0 (a - b) ++ List.replicate (128 - 0) 0 = List.replicate 128 0 from rfl, ← HZ.out]
      exact Blk.new wc _ Z, K4'.out.later ((Below.refl _ _).alloc (Nat.le_refl _) _), HB.out.alloc HB.out.size _⟩)
    rw [hg3]
    generalize wc.alloc (.cells Z 3) = W1 at X1' SW ⊢
    clear HZ hmk X1 R2 HO K4' HB hg3 HG
    go_loopw [9] (fun i wr => ∃ k : Nat, k ≤ 128 ∧ i = .int .i64 (k : Int) ∧ Hid (∃ lx, BlkI wr g1 lx ∧ SubOut k a b lx) ∧ Hid (SubW a b g1 g2 g3 (b2 + 1 + 1) k w wr)) (fun i _ => 128 - (intOf i).toNat)
    case atStart => exact ⟨0, by omega, rfl, Lib.hid ⟨_, X1'.out, HS0.out⟩, SW⟩
    case round =>
      clear X1' SW HS0
      obtain ⟨k, hk, rfl, HX, SW⟩ := hrel
      rcases Nat.lt_or_ge k 128 with h | h
      · obtain ⟨lx, hX, hS⟩ := HX.out
        obtain ⟨x, hx, hx1, hxl, q1, q2⟩ := hS.at h
        have c1 := hX.cell k x hx
        obtain ⟨hR2, hO, hK, hB⟩ := SW.out
        have c2 := hR2.2 k (b / 2 ^ k % 2) (bitsN_get 128 b k h)
        obtain ⟨y, hy⟩ : ∃ y, b / 2 ^ k % 2 = y := ⟨_, rfl⟩
        rw [hy] at c2 q1 q2
        have hy1 : y ≤ 1 := by omega
        have HSX := Lib.hid hX
        have hol : (bitsN k (a - b) ++ List.replicate (128 - k) 0).length = 128 := by rw [List.length_append, bitsN_len, List.length_replicate]; omega
        obtain ⟨z, hz⟩ : ∃ z, (bitsN k (a - b) ++ List.replicate (128 - k) 0)[k]? = some z := ⟨_, List.getElem?_eq_getElem (by omega)⟩
        have c3 := hO.cell k z hz
        have f3 := Blk.frozen hO k
        have N0 := HN.out
        clear hR2 hO hK hB hX hS hx hy hz hol
        by_cases hxy : y ≤ x
        · obtain ⟨d, hd⟩ : ∃ d, x - y = d := ⟨_, rfl⟩
          obtain ⟨q11, q12⟩ := q1 hxy
          rw [hd] at q12
          have s1 : IntKind.i64.wrap ((x : Int) - y) = (d : Int) := by rw [IntWalk.i64_in _ (by omega)]; omega
          have HQ1 := Lib.hid q11
          have HQ2 := Lib.hid q12.symm
          have hd0 : d ≤ 1 := by omega
          clear q1 q2 q11 q12 hd hxl hxy hx1 hy1
          go_wp2_with fail
          go_quiet (fail)
          go_wp2_with fail
          go_roundw
          case rel => exact ⟨k + 1, by omega, rfl, Lib.hid ⟨lx, (HSX.out.drewN _).far (by omega) _, HQ1.out⟩, Lib.hid ((SW.out.drewN _).step h HQ2.out HN.out)⟩
          case measure => simp [intOf]; omega
        · obtain ⟨rfl, rfl, hdd, U, hin, hfin⟩ := q2 (by omega)
          have HIN := Lib.hid hin
          have HFIN := Lib.hid hfin
          have HD := Lib.hid hdd
          have s1 : IntKind.i64.wrap ((0 : Int) - 1) = -1 := by decide
          have c1' : wr.cell? ⟨g1, k, none⟩ = some (.int .i64 0) := c1
          have c2' : wr.cell? ⟨g2, k, none⟩ = some (.int .i64 1) := c2
          clear q1 q2 hin hfin hdd c1 c2 hxl hxy hx1 hy1 c3 f3
          go_wp2_with fail
          go_quiet (fail)
          go_wp2_with fail
          have SW1 := Lib.hid (SW.out.drewN nq)
          have X1 := Lib.hid (HSX.out.drewN nq)
          generalize wr.drewN nq = V1 at SW1 X1 ⊢
          clear SW HSX HX
          go_loopw [11] (fun kv wq => ∃ q : Nat, k + 1 ≤ q ∧ kv = .int .i64 (q : Int) ∧ Hid (∃ l, BlkI wq g1 l ∧ SubIn k q U l) ∧ Hid (SubW a b g1 g2 g3 (b2 + 1 + 1) k w wq)) (fun i _ => 128 - (intOf i).toNat)
          case atStart => exact ⟨k + 1, Nat.le_refl _, rfl, Lib.hid ⟨lx, X1.out, HIN.out⟩, SW1⟩
          case round =>
            clear X1 SW1 HIN
            obtain ⟨q, hq, rfl, HX, SW⟩ := hrel
            obtain ⟨l, hX, hS⟩ := HX.out
            obtain ⟨hq2, x, hx, hx1, hx2, hx3⟩ := hS.at
            have c1 := hX.cell q x hx
            have f1 := Blk.frozen hX q
            have HSX := Lib.hid hX
            clear hX hS hx
            rcases (show x = 0 ∨ x = 1 by omega) with rfl | rfl
            · have H2 := Lib.hid (hx2 rfl)
              clear hx2 hx3
              go_wp2_with fail
              go_roundw
              case rel => exact ⟨q + 1, by omega, rfl, Lib.hid ⟨_, HSX.out.set q 1, H2.out⟩, Lib.hid (SW.out.x HN.out _)⟩
              case measure => simp [intOf]; omega
            · have H3 := Lib.hid (hx3 rfl)
              clear hx2 hx3
              obtain ⟨-, hO, -, -⟩ := SW.out
              have hol : (bitsN k (a - b) ++ List.replicate (128 - k) 0).length = 128 := by rw [List.length_append, bitsN_len, List.length_replicate]; omega
              obtain ⟨z, hz⟩ : ∃ z, (bitsN k (a - b) ++ List.replicate (128 - k) 0)[k]? = some z := ⟨_, List.getElem?_eq_getElem (by omega)⟩
              have c3 := hO.cell k z hz
              have f3 := Blk.frozen hO k
              clear hO hol hz
              go_wp2_with fail
              go_roundw
              case rel => exact ⟨k + 1, by omega, rfl, Lib.hid ⟨_, (HSX.out.set q 0).far (by omega) _, HFIN.out _ H3.out⟩, Lib.hid ((SW.out.x HN.out _).step h HD.out HN.out)⟩
              case measure => simp [intOf]; omega
      · have hk' : k = 128 := by omega
        subst hk'
        have hR := RowN.of_blk SW.out.2.1
        rw [show bitsN 128 (a - b) ++ List.replicate (128 - 128) 0 = bitsN 128 (a - b) by simp] at hR
        go_wp2_with fail
        refine (NA.out _ _ hR).mono ?_
        rintro e w9 ⟨rfl, hb⟩
        have K9 := SW.out.2.2.1.later hb
        have c40 := WF.c0 K9
        have c41 := WF.c1 K9
        have f40 := WF.f0 K9
        have f41 := WF.f1 K9
        have HB9 := Lib.hid (bl SW.out.2.2.2 SW.out.2.2.2.size hb)
        clear hb K9 hR
        go_wp2_with fail
        simp [bodyPost, results, Tryd.results26, go_sem, c40, c41]
        exact ⟨HD.out, (HB9.out.setCell (p := ⟨b2 + 1 + 1, 0, none⟩) HN.out.1 _).setCell (p := ⟨b2 + 1 + 1, 1, none⟩) HN.out.1 _⟩
end Go.Proofs.YtplbglcdmimdoaaDoor
