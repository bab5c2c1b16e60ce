/- The document's sum. -/
import Derived.Test.YtplbglcdmimdoaaDoorRefSum
import Derived.Test.YtplbglcdmimdoaaDoorWideBoxes
import Derived.Deep.RegionHeld3
namespace Go.Proofs.YtplbglcdmimdoaaDoor
open Go.RowKit
set_option linter.unusedVariables false
set_option linter.unusedSimpArgs false

theorem WO.later {W W' : World} {b : Nat} {h l : Int} {t : TypeId} (k : WO W b h l t) (hb : Below W.heap.size W W') : WO W' b h l t := Blk.below k hb (Blk.lt k)
theorem keep2 {w y y' : World} {b2 b3 : Nat} {v1 v2 v3 v4 : Value} (h : Below w.heap.size w y ∧ y.cell? ⟨b2, 0, none⟩ = some v1 ∧ y.cell? ⟨b2, 1, none⟩ = some v2 ∧ y.cell? ⟨b3, 0, none⟩ = some v3 ∧ y.cell? ⟨b3, 1, none⟩ = some v4) (hb : Below y.heap.size y y') :
    Below w.heap.size w y' ∧ y'.cell? ⟨b2, 0, none⟩ = some v1 ∧ y'.cell? ⟨b2, 1, none⟩ = some v2 ∧ y'.cell? ⟨b3, 0, none⟩ = some v3 ∧ y'.cell? ⟨b3, 1, none⟩ = some v4 := by
  obtain ⟨h0, h1, h2, h3, h4⟩ := h
  have l2 := World.block_lt_of_cell? _ _ h1
  have l3 := World.block_lt_of_cell? _ _ h3
  exact ⟨bl h0 h0.size hb, (hb.cell (p := ⟨b2, 0, none⟩) l2).trans h1, (hb.cell (p := ⟨b2, 1, none⟩) l2).trans h2, (hb.cell (p := ⟨b3, 0, none⟩) l3).trans h3, (hb.cell (p := ⟨b3, 1, none⟩) l3).trans h4⟩
theorem set2 {w y : World} {b2 b3 b4 : Nat} {v1 v2 v3 v4 : Value} (h : Below w.heap.size w y ∧ y.cell? ⟨b2, 0, none⟩ = some v1 ∧ y.cell? ⟨b2, 1, none⟩ = some v2 ∧ y.cell? ⟨b3, 0, none⟩ = some v3 ∧ y.cell? ⟨b3, 1, none⟩ = some v4) (hg : w.heap.size ≤ b4 ∧ b2 ≠ b4 ∧ b3 ≠ b4) (u v : Value) :
    Below w.heap.size w ((y.setCell ⟨b4, 0, none⟩ u).setCell ⟨b4, 1, none⟩ v) ∧ ((y.setCell ⟨b4, 0, none⟩ u).setCell ⟨b4, 1, none⟩ v).cell? ⟨b2, 0, none⟩ = some v1 ∧ ((y.setCell ⟨b4, 0, none⟩ u).setCell ⟨b4, 1, none⟩ v).cell? ⟨b2, 1, none⟩ = some v2 ∧ ((y.setCell ⟨b4, 0, none⟩ u).setCell ⟨b4, 1, none⟩ v).cell? ⟨b3, 0, none⟩ = some v3 ∧ ((y.setCell ⟨b4, 0, none⟩ u).setCell ⟨b4, 1, none⟩ v).cell? ⟨b3, 1, none⟩ = some v4 := by
  obtain ⟨h0, h1, h2, h3, h4⟩ := h
  obtain ⟨g0, g1, g2⟩ := hg
  have e : ∀ b i, b ≠ b4 → ((y.setCell ⟨b4, 0, none⟩ u).setCell ⟨b4, 1, none⟩ v).cell? ⟨b, i, none⟩ = y.cell? ⟨b, i, none⟩ := fun b i hb => by
    rw [World.cell?_setCell_other _ _ _ _ (fun e => hb (by cases e; rfl)), World.cell?_setCell_other _ _ _ _ (fun e => hb (by cases e; rfl))]
  exact ⟨(h0.setCell (p := ⟨b4, 0, none⟩) g0 u).setCell (p := ⟨b4, 1, none⟩) g0 v, (e _ _ g1).trans h1, (e _ _ g1).trans h2, (e _ _ g2).trans h3, (e _ _ g2).trans h4⟩
/-- A wide number in a box that may be written. -/
def WF (W : World) (b : Nat) (h l : Int) : Prop := b < W.heap.size ∧ W.cell? ⟨b, 0, none⟩ = some (.int .u64 h) ∧ W.cell? ⟨b, 1, none⟩ = some (.int .u64 l) ∧ W.frozen? ⟨b, 0, none⟩ = false ∧ W.frozen? ⟨b, 1, none⟩ = false
theorem WF.later {W W' : World} {b : Nat} {h l : Int} (k : WF W b h l) (hb : Below W.heap.size W W') : WF W' b h l :=
  ⟨Nat.lt_of_lt_of_le k.1 hb.size, (hb.cell (p := ⟨b, 0, none⟩) k.1).trans k.2.1, (hb.cell (p := ⟨b, 1, none⟩) k.1).trans k.2.2.1, (hb.frozen (p := ⟨b, 0, none⟩) k.1).trans k.2.2.2.1, (hb.frozen (p := ⟨b, 1, none⟩) k.1).trans k.2.2.2.2⟩
theorem WF.new (w : World) (h l : Int) (t : TypeId) : WF (w.alloc (.cells #[.int .u64 h, .int .u64 l] t)) w.heap.size h l := ⟨by simp, cells_at w _ t 0, cells_at w _ t 1, World.frozen?_alloc_new w _ t 0, World.frozen?_alloc_new w _ t 1⟩
theorem WF.c0 {W : World} {b : Nat} {h l : Int} (k : WF W b h l) : W.cell? ⟨b, 0, none⟩ = some (.int .u64 h) := k.2.1
theorem WF.c1 {W : World} {b : Nat} {h l : Int} (k : WF W b h l) : W.cell? ⟨b, 1, none⟩ = some (.int .u64 l) := k.2.2.1
theorem WF.f0 {W : World} {b : Nat} {h l : Int} (k : WF W b h l) : W.frozen? ⟨b, 0, none⟩ = false := k.2.2.2.1
theorem WF.f1 {W : World} {b : Nat} {h l : Int} (k : WF W b h l) : W.frozen? ⟨b, 1, none⟩ = false := k.2.2.2.2
theorem box3f {w : World} {P : Program} {c : Code} {Q : Exit → Act → World → Prop} {a : Act} {ah al bh bl ch cl : Int} {tx ty tz : TypeId} (h : ∀ W, Below w.heap.size w W → WB W w.heap.size ah al → WB W (w.heap.size + 1) bh bl → WF W (w.heap.size + 1 + 1) ch cl → c.wp P Q a W) :
    c.wp P Q a (((w.alloc (.cells #[.int .u64 ah, .int .u64 al] tx)).alloc (.cells #[.int .u64 bh, .int .u64 bl] ty)).alloc (.cells #[.int .u64 ch, .int .u64 cl] tz)) :=
  from_box3 fun W h1 h2 h3 => h W h1.below ⟨h1.lt, h1.cell 0, h1.cell 1⟩ ⟨h2.lt, h2.cell 0, h2.cell 1⟩ ⟨h3.lt, h3.cell 0, h3.cell 1, h3.frozen 0, h3.frozen 1⟩
/-- The bits of a wide number's words, as a row. -/
theorem bits_row (v : Nat) (hv : v < wTop) (p q : Int) (e : wideV v = W2 p q) (w : World) : Calls Tryd.prog 52 #[W2 p q] w fun e w' =>
    ∃ g, e = .returned (.slice (some ⟨g, 0, none⟩) 128 128) ∧ RowN w' g (bitsN 128 v) ∧ Below w.heap.size w w' := by
  rw [← e]
  exact (bits_any v hv w).mono fun _ _ ⟨g, h1, h2, _, h4⟩ => ⟨g, h1, RowN.of_blk h2, h4⟩
set_option maxRecDepth 100000 in
set_option maxHeartbeats 4000000 in
theorem radd_any (a b : Nat) (ha : a < wTop) (hb : b < wTop) (w : World) : Calls Tryd.prog 25 #[wideV a, wideV b] w fun e w' =>
    e = .returned (.tuple #[wideV (if a + b < wTop then a + b else 0), .bool (decide (a + b < wTop))]) ∧ Below w.heap.size w w' := by
  obtain ⟨pa, qa, ea⟩ := words_of a
  obtain ⟨pb, qb, eb⟩ := words_of b
  obtain ⟨c, hc⟩ : ∃ c, (if a + b < wTop then a + b else 0) = c := ⟨_, rfl⟩
  obtain ⟨ok, hok⟩ : ∃ ok, decide (a + b < wTop) = ok := ⟨_, rfl⟩
  obtain ⟨pc, qc, ec⟩ := words_of c
  have BA := Lib.hid (bits_row a ha pa qa ea)
  have BB := Lib.hid (bits_row b hb pb qb eb)
  have SA := Lib.hid (fun ga gb w (hA : RowN w ga (bitsN 128 a)) (hB : RowN w gb (bitsN 128 b)) => sum_any a b ga gb 128 128 ha hb w hA hB (by omega) (by omega))
  have NA := Lib.hid (fun cap g (hcap : 129 ≤ cap) w (hR : RowN w g (bitsN 129 (a + b))) => by
    have h := number_any 129 (a + b) cap g (by omega) (Nat.lt_of_lt_of_le (Nat.add_lt_add ha hb) (by decide)) hcap w hR
    rw [hc, hok, ec] at h
    exact h)
  rw [ea, eb, hc, hok, ec]
  clear ha hb hc hok ea eb ec
  go_enter Tryd.func25, Tryd.ntmps25
  go_upto_region 1 with (fail)
  refine box3f (fun V hB k2 k3 k4 => ?_)
  obtain ⟨b2, hb2⟩ : ∃ b, w.heap.size = b := ⟨_, rfl⟩
  have HG := Lib.hid (show w.heap.size ≤ b2 + 1 + 1 ∧ b2 ≠ b2 + 1 + 1 ∧ b2 + 1 ≠ b2 + 1 + 1 by omega)
  rw [hb2] at k2 k3 k4 ⊢
  clear hb2
  have KS := Lib.hid (show Below w.heap.size w V ∧ V.cell? ⟨b2, 0, none⟩ = some (.int .u64 pa) ∧ V.cell? ⟨b2, 1, none⟩ = some (.int .u64 qa) ∧ V.cell? ⟨b2 + 1, 0, none⟩ = some (.int .u64 pb) ∧ V.cell? ⟨b2 + 1, 1, none⟩ = some (.int .u64 qb) from ⟨hB, k2.2.1, k2.2.2, k3.2.1, k3.2.2⟩)
  clear hB k2 k3
  have K4 : WF V.drew (b2 + 1 + 1) 0 0 := k4
  clear k4
  go_region_held3 (fun y => Below w.heap.size w y ∧ y.cell? ⟨b2, 0, none⟩ = some (.int .u64 pa) ∧ y.cell? ⟨b2, 1, none⟩ = some (.int .u64 qa) ∧ y.cell? ⟨b2 + 1, 0, none⟩ = some (.int .u64 pb) ∧ y.cell? ⟨b2 + 1, 1, none⟩ = some (.int .u64 qb))
    (first
      | exact keep2 KS.out ((Below.refl _ _).drew)
      | assumption
      | exact set2 (by assumption) HG.out _ _)
    (first
      | (go_at_call 52; with_reducible refine (BA.out _).mono ?_; rintro e w' ⟨g, rfl, hR, hb⟩; have hS := keep2 (by assumption) hb; have hK : WF w' (b2 + 1 + 1) 0 0 := WF.later (by assumption) hb)
      | (go_at_call 52; with_reducible refine (BB.out _).mono ?_; rintro e w' ⟨g, rfl, hR, hb⟩; have hS := keep2 (by assumption) hb; have hK : WF w' (b2 + 1 + 1) 0 0 := WF.later (by assumption) hb; have hQ := RowN.later (by assumption) hb)
      | (go_at_call 51; with_reducible refine (SA.out _ _ _ (by assumption) (by assumption)).mono ?_; rintro e w' ⟨g, cap, rfl, hcap, _, hR, hb⟩; have hS := keep2 (by assumption) hb; have hK : WF w' (b2 + 1 + 1) 0 0 := WF.later (by assumption) hb)
      | (go_at_call 50; with_reducible refine (NA.out _ _ (by assumption) _ (by assumption)).mono ?_; rintro e w' ⟨rfl, hb⟩; have hS := keep2 (by assumption) hb; have hK : WF w' (b2 + 1 + 1) 0 0 := WF.later (by assumption) hb; have c4 := WF.c0 hK; have d4 := WF.c1 hK; have e4 := WF.f0 hK; have f4 := WF.f1 hK))
  all_goals
    go_wp2_with fail
    simp [bodyPost, results, Tryd.results25, go_sem, c4, d4]
    exact (set2 hS HG.out _ _).1
end Go.Proofs.YtplbglcdmimdoaaDoor
