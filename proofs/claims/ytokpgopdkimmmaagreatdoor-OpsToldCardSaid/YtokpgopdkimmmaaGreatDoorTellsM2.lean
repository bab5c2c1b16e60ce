import Derived.Test.YtokpgopdkimmmaaGreatDoorTellsM1
import Derived.Deep.RegionHeld3
import Derived.Test.YtokpgopdkimmmaaGreatDoorDigits
/- Wide numbers in boxes: small lemmas for the walks of layer 1's statements. -/
namespace Go.Proofs.YtokpgopdkimmmaaGreatDoor
open Go.RowKit
set_option linter.unusedVariables false
set_option linter.unusedSimpArgs false

theorem words_of (v : Nat) : ∃ h l : Int, wideV v = W2 h l := ⟨_, _, rfl⟩
theorem box2 {w : World} {P : Program} {c : Code} {Q : Exit → Act → World → Prop} {a : Act} {ah al bh bl : Int} {tx ty : TypeId} (h : ∀ W, Below w.heap.size w W → WB W w.heap.size ah al → WB W (w.heap.size + 1) bh bl → c.wp P Q a W) :
    c.wp P Q a ((w.alloc (.cells #[.int .u64 ah, .int .u64 al] tx)).alloc (.cells #[.int .u64 bh, .int .u64 bl] ty)) :=
  from_box2 fun W h1 h2 => h W h1.below ⟨h1.lt, h1.cell 0, h1.cell 1⟩ ⟨h2.lt, h2.cell 0, h2.cell 1⟩
theorem keepS {V w' : World} {b : Nat} {x y : Value} (l : b < V.heap.size) (c : V.cell? ⟨b, 0, none⟩ = some x) (d : V.cell? ⟨b, 1, none⟩ = some y) (h : Below V.heap.size V w') :
    Below V.heap.size V w' ∧ w'.cell? ⟨b, 0, none⟩ = some x ∧ w'.cell? ⟨b, 1, none⟩ = some y :=
  ⟨h, (h.cell (p := ⟨b, 0, none⟩) l).trans c, (h.cell (p := ⟨b, 1, none⟩) l).trans d⟩
theorem blx {V y w' : World} {p : Prop} (h : Below V.heap.size V y ∧ p) (hb : Below y.heap.size y w') : Below V.heap.size V w' := bl h.1 h.1.size hb
theorem allocx {V y : World} {p : Prop} (o : Obj) (h : Below V.heap.size V y ∧ p) : Below V.heap.size V (y.alloc o) := h.1.alloc h.1.size o
theorem allocy {V y : World} (o : Obj) (h : Below V.heap.size V y) : Below V.heap.size V (y.alloc o) := h.alloc h.size o
theorem newcell {z w' : World} {u v : Value} {t : TypeId} (hb : Below (z.alloc (.cells #[u, v] t)).heap.size (z.alloc (.cells #[u, v] t)) w') : w'.cell? ⟨z.heap.size, 0, none⟩ = some u ∧ w'.cell? ⟨z.heap.size, 1, none⟩ = some v ∧ w'.frozen? ⟨z.heap.size, 0, none⟩ = false ∧ w'.frozen? ⟨z.heap.size, 1, none⟩ = false :=
  ⟨(hb.cell (p := ⟨z.heap.size, 0, none⟩) (by simp)).trans (cells_at z _ t 0), (hb.cell (p := ⟨z.heap.size, 1, none⟩) (by simp)).trans (cells_at z _ t 1), (hb.frozen (p := ⟨z.heap.size, 0, none⟩) (by simp)).trans (World.frozen?_alloc_new z _ t 0), (hb.frozen (p := ⟨z.heap.size, 1, none⟩) (by simp)).trans (World.frozen?_alloc_new z _ t 1)⟩
theorem newcelld {z w' : World} {u v : Value} {t : TypeId} (hb : Below (z.alloc (.cells #[u, v] t)).drew.heap.size (z.alloc (.cells #[u, v] t)).drew w') : w'.cell? ⟨z.heap.size, 0, none⟩ = some u ∧ w'.cell? ⟨z.heap.size, 1, none⟩ = some v ∧ w'.frozen? ⟨z.heap.size, 0, none⟩ = false ∧ w'.frozen? ⟨z.heap.size, 1, none⟩ = false :=
  ⟨(hb.cell (p := ⟨z.heap.size, 0, none⟩) (by show z.heap.size < (z.alloc _).heap.size; simp)).trans (cells_at z _ t 0), (hb.cell (p := ⟨z.heap.size, 1, none⟩) (by show z.heap.size < (z.alloc _).heap.size; simp)).trans (cells_at z _ t 1), (hb.frozen (p := ⟨z.heap.size, 0, none⟩) (by show z.heap.size < (z.alloc _).heap.size; simp)).trans (World.frozen?_alloc_new z _ t 0), (hb.frozen (p := ⟨z.heap.size, 1, none⟩) (by show z.heap.size < (z.alloc _).heap.size; simp)).trans (World.frozen?_alloc_new z _ t 1)⟩
theorem carrycell {y w' : World} {g : Nat} {u v : Value} (h : y.cell? ⟨g, 0, none⟩ = some u ∧ y.cell? ⟨g, 1, none⟩ = some v ∧ y.frozen? ⟨g, 0, none⟩ = false ∧ y.frozen? ⟨g, 1, none⟩ = false) (hb : Below y.heap.size y w') :
    w'.cell? ⟨g, 0, none⟩ = some u ∧ w'.cell? ⟨g, 1, none⟩ = some v ∧ w'.frozen? ⟨g, 0, none⟩ = false ∧ w'.frozen? ⟨g, 1, none⟩ = false := by
  have l := World.block_lt_of_cell? _ _ h.1
  exact ⟨(hb.cell (p := ⟨g, 0, none⟩) l).trans h.1, (hb.cell (p := ⟨g, 1, none⟩) l).trans h.2.1, (hb.frozen (p := ⟨g, 0, none⟩) l).trans h.2.2.1, (hb.frozen (p := ⟨g, 1, none⟩) l).trans h.2.2.2⟩
theorem setx {V y : World} {g : Nat} {u v : Value} (h : Below V.heap.size V y) (hg : V.heap.size ≤ g) : Below V.heap.size V ((y.setCell ⟨g, 0, none⟩ u).setCell ⟨g, 1, none⟩ v) :=
  (h.setCell (p := ⟨g, 0, none⟩) hg u).setCell (p := ⟨g, 1, none⟩) hg v
theorem wb_set {y : World} {g : Nat} {u v : Value} {hi lo : Int} (h : y.cell? ⟨g, 0, none⟩ = some u ∧ y.cell? ⟨g, 1, none⟩ = some v ∧ y.frozen? ⟨g, 0, none⟩ = false ∧ y.frozen? ⟨g, 1, none⟩ = false) :
    WB ((y.setCell ⟨g, 0, none⟩ (.int .u64 hi)).setCell ⟨g, 1, none⟩ (.int .u64 lo)) g hi lo :=
  ⟨by have := World.block_lt_of_cell? _ _ h.1; simpa using this, by
    rw [World.cell?_setCell_other _ _ _ _ (fun e => by cases e)]; exact World.cell?_setCell_same (u := u) _ _ _ h.1, by
    refine World.cell?_setCell_same (u := v) _ _ _ ?_
    rw [World.cell?_setCell_other _ _ _ _ (fun e => by cases e)]; exact h.2.1⟩
theorem box3 {w : World} {P : Program} {c : Code} {Q : Exit → Act → World → Prop} {a : Act} {ah al bh bl ch cl : Int} {tx ty tz : TypeId} (h : ∀ W, Below w.heap.size w W → WB W w.heap.size ah al → WB W (w.heap.size + 1) bh bl → WB W (w.heap.size + 1 + 1) ch cl → c.wp P Q a W) :
    c.wp P Q a (((w.alloc (.cells #[.int .u64 ah, .int .u64 al] tx)).alloc (.cells #[.int .u64 bh, .int .u64 bl] ty)).alloc (.cells #[.int .u64 ch, .int .u64 cl] tz)) :=
  from_box3 fun W h1 h2 h3 => h W h1.below ⟨h1.lt, h1.cell 0, h1.cell 1⟩ ⟨h2.lt, h2.cell 0, h2.cell 1⟩ ⟨h3.lt, h3.cell 0, h3.cell 1⟩
theorem of_words (h l : Int) (h1 : 0 ≤ h) (h2 : h < 18446744073709551616) (l1 : 0 ≤ l) (l2 : l < 18446744073709551616) : ∃ v, v < wTop ∧ W2 h l = wideV v := by
  obtain ⟨h, rfl⟩ := Int.eq_ofNat_of_zero_le h1
  obtain ⟨l, rfl⟩ := Int.eq_ofNat_of_zero_le l1
  exact ⟨h * 18446744073709551616 + l, by unfold wTop; omega, (wideV_of h l (by omega)).symm⟩
end Go.Proofs.YtokpgopdkimmmaaGreatDoor
/- The document's sum. -/
namespace Go.Proofs.YtokpgopdkimmmaaGreatDoor
open Go.RowKit
set_option linter.unusedVariables false
set_option linter.unusedSimpArgs false

theorem WO.later {W W' : World} {b : Nat} {h l : Int} {t : TypeId} (k : WO W b h l t) (hb : Below W.heap.size W W') : WO W' b h l t := Blk.below k hb (Blk.lt k)
theorem keep2 {w y y' : World} {b2 b3 : Nat} {v1 v2 v3 v4 : Value} (h : Below w.heap.size w y ∧ y.cell? ⟨b2, 0, none⟩ = some v1 ∧ y.cell? ⟨b2, 1, none⟩ = some v2 ∧ y.cell? ⟨b3, 0, none⟩ = some v3 ∧ y.cell? ⟨b3, 1, none⟩ = some v4) (hb : Below y.heap.size y y') :
    Below w.heap.size w y' ∧ y'.cell? ⟨b2, 0, none⟩ = some v1 ∧ y'.cell? ⟨b2, 1, none⟩ = some v2 ∧ y'.cell? ⟨b3, 0, none⟩ = some v3 ∧ y'.cell? ⟨b3, 1, none⟩ = some v4 := by
  obtain ⟨h0, h1, h2, h3, h4⟩ := h
  have l2 := World.block_lt_of_cell? _ _ h1
  have l3 := World.block_lt_of_cell? _ _ h3
  exact ⟨bl h0 h0.size hb, (hb.cell (p := ⟨b2, 0, none⟩) l2).trans h1, (hb.cell (p := ⟨b2, 1, none⟩) l2).trans h2, (hb.cell (p := ⟨b3, 0, none⟩) l3).trans h3, (hb.cell (p := ⟨b3, 1, none⟩) l3).trans h4⟩
theorem set2 {w y : World} {b2 b3 b4 : Nat} {v1 v2 v3 v4 : Value} (h : Below w.heap.size w y ∧ y.cell? ⟨b2, 0, none⟩ = some v1 ∧ y.cell? ⟨b2, 1, none⟩ = some v2 ∧ y.cell? ⟨b3, 0, none⟩ = some v3 ∧ y.cell? ⟨b3, 1, none⟩ = some v4) (hg : w.heap.size ≤ b4 ∧ b2 ≠ b4 ∧ b3 ≠ b4) (u v : Value) :
    Below w.heap.size w ((y.setCell ⟨b4, 0, none⟩ u).setCell ⟨b4, 1, none⟩ v) ∧ ((y.setCell ⟨b4, 0, none⟩ u).setCell ⟨b4, 1, none⟩ v).cell? ⟨b2, 0, none⟩ = some v1 ∧ ((y.setCell ⟨b4, 0, none⟩ u).setCell ⟨b4, 1, none⟩ v).cell? ⟨b2, 1, none⟩ = some v2 ∧ ((y.setCell ⟨b4, 0, none⟩ u).setCell ⟨b4, 1, none⟩ v).cell? ⟨b3, 0, none⟩ = some v3 ∧ ((y.setCell ⟨b4, 0, none⟩ u).setCell ⟨b4, 1, none⟩ v).cell? ⟨b3, 1, none⟩ = some v4 := by
  obtain ⟨h0, h1, h2, h3, h4⟩ := h
  obtain ⟨g0, g1, g2⟩ := hg
  have e : ∀ b i, b ≠ b4 → ((y.setCell ⟨b4, 0, none⟩ u).setCell ⟨b4, 1, none⟩ v).cell? ⟨b, i, none⟩ = y.cell? ⟨b, i, none⟩ := fun b i hb => by
    rw [World.cell?_setCell_other _ _ _ _ (fun e => hb (by cases e; rfl)), World.cell?_setCell_other _ _ _ _ (fun e => hb (by cases e; rfl))]
  exact ⟨(h0.setCell (p := ⟨b4, 0, none⟩) g0 u).setCell (p := ⟨b4, 1, none⟩) g0 v, (e _ _ g1).trans h1, (e _ _ g1).trans h2, (e _ _ g2).trans h3, (e _ _ g2).trans h4⟩
/-- A wide number in a box that may be written. -/
def WF (W : World) (b : Nat) (h l : Int) : Prop := b < W.heap.size ∧ W.cell? ⟨b, 0, none⟩ = some (.int .u64 h) ∧ W.cell? ⟨b, 1, none⟩ = some (.int .u64 l) ∧ W.frozen? ⟨b, 0, none⟩ = false ∧ W.frozen? ⟨b, 1, none⟩ = false
theorem WF.later {W W' : World} {b : Nat} {h l : Int} (k : WF W b h l) (hb : Below W.heap.size W W') : WF W' b h l :=
  ⟨Nat.lt_of_lt_of_le k.1 hb.size, (hb.cell (p := ⟨b, 0, none⟩) k.1).trans k.2.1, (hb.cell (p := ⟨b, 1, none⟩) k.1).trans k.2.2.1, (hb.frozen (p := ⟨b, 0, none⟩) k.1).trans k.2.2.2.1, (hb.frozen (p := ⟨b, 1, none⟩) k.1).trans k.2.2.2.2⟩
theorem WF.new (w : World) (h l : Int) (t : TypeId) : WF (w.alloc (.cells #[.int .u64 h, .int .u64 l] t)) w.heap.size h l := ⟨by simp, cells_at w _ t 0, cells_at w _ t 1, World.frozen?_alloc_new w _ t 0, World.frozen?_alloc_new w _ t 1⟩
theorem WF.c0 {W : World} {b : Nat} {h l : Int} (k : WF W b h l) : W.cell? ⟨b, 0, none⟩ = some (.int .u64 h) := k.2.1
theorem WF.c1 {W : World} {b : Nat} {h l : Int} (k : WF W b h l) : W.cell? ⟨b, 1, none⟩ = some (.int .u64 l) := k.2.2.1
theorem WF.f0 {W : World} {b : Nat} {h l : Int} (k : WF W b h l) : W.frozen? ⟨b, 0, none⟩ = false := k.2.2.2.1
theorem WF.f1 {W : World} {b : Nat} {h l : Int} (k : WF W b h l) : W.frozen? ⟨b, 1, none⟩ = false := k.2.2.2.2
theorem box3f {w : World} {P : Program} {c : Code} {Q : Exit → Act → World → Prop} {a : Act} {ah al bh bl ch cl : Int} {tx ty tz : TypeId} (h : ∀ W, Below w.heap.size w W → WB W w.heap.size ah al → WB W (w.heap.size + 1) bh bl → WF W (w.heap.size + 1 + 1) ch cl → c.wp P Q a W) :
    c.wp P Q a (((w.alloc (.cells #[.int .u64 ah, .int .u64 al] tx)).alloc (.cells #[.int .u64 bh, .int .u64 bl] ty)).alloc (.cells #[.int .u64 ch, .int .u64 cl] tz)) :=
  from_box3 fun W h1 h2 h3 => h W h1.below ⟨h1.lt, h1.cell 0, h1.cell 1⟩ ⟨h2.lt, h2.cell 0, h2.cell 1⟩ ⟨h3.lt, h3.cell 0, h3.cell 1, h3.frozen 0, h3.frozen 1⟩
/-- The bits of a wide number's words, as a row. -/
theorem bits_row (v : Nat) (hv : v < wTop) (p q : Int) (e : wideV v = W2 p q) (w : World) : Calls Tryz.prog 84 #[W2 p q] w fun e w' =>
    ∃ g, e = .returned (.slice (some ⟨g, 0, none⟩) 128 128) ∧ RowN w' g (bitsN 128 v) ∧ Below w.heap.size w w' := by
  rw [← e]
  exact (bits_any v hv w).mono fun _ _ ⟨g, h1, h2, _, h4⟩ => ⟨g, h1, RowN.of_blk h2, h4⟩
set_option maxRecDepth 100000 in
set_option maxHeartbeats 4000000 in
theorem radd_any (a b : Nat) (ha : a < wTop) (hb : b < wTop) (w : World) : Calls Tryz.prog 145 #[wideV a, wideV b] w fun e w' =>
    e = .returned (.tuple #[wideV (if a + b < wTop then a + b else 0), .bool (decide (a + b < wTop))]) ∧ Below w.heap.size w w' := by
  obtain ⟨pa, qa, ea⟩ := words_of a
  obtain ⟨pb, qb, eb⟩ := words_of b
  obtain ⟨c, hc⟩ : ∃ c, (if a + b < wTop then a + b else 0) = c := ⟨_, rfl⟩
  obtain ⟨ok, hok⟩ : ∃ ok, decide (a + b < wTop) = ok := ⟨_, rfl⟩
  obtain ⟨pc, qc, ec⟩ := words_of c
  have BA := Lib.hid (bits_row a ha pa qa ea)
  have BB := Lib.hid (bits_row b hb pb qb eb)
  have SA := Lib.hid (fun ga gb w (hA : RowN w ga (bitsN 128 a)) (hB : RowN w gb (bitsN 128 b)) => sum_any a b ga gb 128 128 ha hb w hA hB (by omega) (by omega))
  have NA := Lib.hid (fun cap g (hcap : 129 ≤ cap) w (hR : RowN w g (bitsN 129 (a + b))) => by
    have h := number_any 129 (a + b) cap g (by omega) (Nat.lt_of_lt_of_le (Nat.add_lt_add ha hb) (by decide)) hcap w hR
    rw [hc, hok, ec] at h
    exact h)
  rw [ea, eb, hc, hok, ec]
  clear ha hb hc hok ea eb ec
  go_enter Tryz.func145, Tryz.ntmps145
  go_upto_region 1 with (fail)
  refine box3f (fun V hB k2 k3 k4 => ?_)
  obtain ⟨b2, hb2⟩ : ∃ b, w.heap.size = b := ⟨_, rfl⟩
  have HG := Lib.hid (show w.heap.size ≤ b2 + 1 + 1 ∧ b2 ≠ b2 + 1 + 1 ∧ b2 + 1 ≠ b2 + 1 + 1 by omega)
  rw [hb2] at k2 k3 k4 ⊢
  clear hb2
  have KS := Lib.hid (show Below w.heap.size w V ∧ V.cell? ⟨b2, 0, none⟩ = some (.int .u64 pa) ∧ V.cell? ⟨b2, 1, none⟩ = some (.int .u64 qa) ∧ V.cell? ⟨b2 + 1, 0, none⟩ = some (.int .u64 pb) ∧ V.cell? ⟨b2 + 1, 1, none⟩ = some (.int .u64 qb) from ⟨hB, k2.2.1, k2.2.2, k3.2.1, k3.2.2⟩)
  clear hB k2 k3
  have K4 : WF V.drew (b2 + 1 + 1) 0 0 := k4
  clear k4
  go_region_held3 (fun y => Below w.heap.size w y ∧ y.cell? ⟨b2, 0, none⟩ = some (.int .u64 pa) ∧ y.cell? ⟨b2, 1, none⟩ = some (.int .u64 qa) ∧ y.cell? ⟨b2 + 1, 0, none⟩ = some (.int .u64 pb) ∧ y.cell? ⟨b2 + 1, 1, none⟩ = some (.int .u64 qb))
    (first
      | exact keep2 KS.out ((Below.refl _ _).drew)
      | assumption
      | exact set2 (by assumption) HG.out _ _)
    (first
      | (go_at_call 84; with_reducible refine (BA.out _).mono ?_; rintro e w' ⟨g, rfl, hR, hb⟩; have hS := keep2 (by assumption) hb; have hK : WF w' (b2 + 1 + 1) 0 0 := WF.later (by assumption) hb)
      | (go_at_call 84; with_reducible refine (BB.out _).mono ?_; rintro e w' ⟨g, rfl, hR, hb⟩; have hS := keep2 (by assumption) hb; have hK : WF w' (b2 + 1 + 1) 0 0 := WF.later (by assumption) hb; have hQ := RowN.later (by assumption) hb)
      | (go_at_call 180; with_reducible refine (SA.out _ _ _ (by assumption) (by assumption)).mono ?_; rintro e w' ⟨g, cap, rfl, hcap, _, hR, hb⟩; have hS := keep2 (by assumption) hb; have hK : WF w' (b2 + 1 + 1) 0 0 := WF.later (by assumption) hb)
      | (go_at_call 179; with_reducible refine (NA.out _ _ (by assumption) _ (by assumption)).mono ?_; rintro e w' ⟨rfl, hb⟩; have hS := keep2 (by assumption) hb; have hK : WF w' (b2 + 1 + 1) 0 0 := WF.later (by assumption) hb; have c4 := WF.c0 hK; have d4 := WF.c1 hK; have e4 := WF.f0 hK; have f4 := WF.f1 hK))
  all_goals
    go_wp2_with fail
    simp [bodyPost, results, Tryz.results145, go_sem, c4, d4]
    exact (set2 hS HG.out _ _).1
end Go.Proofs.YtokpgopdkimmmaaGreatDoor
/- The document's order. -/
namespace Go.Proofs.YtokpgopdkimmmaaGreatDoor
open Go.RowKit
set_option linter.unusedVariables false
set_option linter.unusedSimpArgs false

theorem words_inj {a b : Nat} {p q : Int} (ha : wideV a = W2 p q) (hb : wideV b = W2 p q) : a = b := by
  have e := Value.agg.inj (ha.trans hb.symm)
  have e2 := Array.toList_inj.2 e
  simp only [List.cons.injEq, Value.int.injEq, true_and, and_true] at e2
  omega
end Go.Proofs.YtokpgopdkimmmaaGreatDoor
/- The document's difference. -/
namespace Go.Proofs.YtokpgopdkimmmaaGreatDoor
open Go.RowKit
set_option linter.unusedVariables false
set_option linter.unusedSimpArgs false

theorem box3g {w : World} {P : Program} {c : Code} {Q : Exit → Act → World → Prop} {a : Act} {ah al bh bl ch cl : Int} {tx ty tz : TypeId} (h : ∀ W, Below w.heap.size w W → w.heap.size + 1 + 1 < W.heap.size → WB W w.heap.size ah al → WB W (w.heap.size + 1) bh bl → WF W (w.heap.size + 1 + 1) ch cl → c.wp P Q a W) :
    c.wp P Q a (((w.alloc (.cells #[.int .u64 ah, .int .u64 al] tx)).alloc (.cells #[.int .u64 bh, .int .u64 bl] ty)).alloc (.cells #[.int .u64 ch, .int .u64 cl] tz)) :=
  from_box3 fun W h1 h2 h3 => h W h1.below h3.lt ⟨h1.lt, h1.cell 0, h1.cell 1⟩ ⟨h2.lt, h2.cell 0, h2.cell 1⟩ ⟨h3.lt, h3.cell 0, h3.cell 1, h3.frozen 0, h3.frozen 1⟩
theorem BlkI.later {w w' : World} {g : Nat} {l : List Nat} (h : BlkI w g l) (hb : Below w.heap.size w w') : BlkI w' g l := Blk.below h hb (Blk.lt h)
theorem BlkI.drewN {w : World} {g : Nat} {l : List Nat} (h : BlkI w g l) (k : Nat) : BlkI (w.drewN k) g l := h
theorem RowN.drewN {w : World} {g : Nat} {l : List Nat} (h : RowN w g l) (k : Nat) : RowN (w.drewN k) g l := h
theorem RowN.far {w : World} {g b i : Nat} {l : List Nat} (h : RowN w g l) (hne : g ≠ b) (v : Value) : RowN (w.setCell ⟨b, i, none⟩ v) g l :=
  ⟨by have := h.1; simpa using this, fun k x hx => by rw [World.cell?_setCell_other _ _ _ _ (fun e => hne (by cases e; rfl))]; exact h.2 k x hx⟩
theorem BlkI.far {w : World} {g b i : Nat} {l : List Nat} (h : BlkI w g l) (hne : g ≠ b) (v : Value) : BlkI (w.setCell ⟨b, i, none⟩ v) g l := Blk.far h (p := ⟨b, i, none⟩) hne v
theorem WF.far {w : World} {g b i : Nat} {h l : Int} (k : WF w g h l) (hne : g ≠ b) (v : Value) : WF (w.setCell ⟨b, i, none⟩ v) g h l :=
  ⟨by have := k.1; simpa using this, by rw [World.cell?_setCell_other _ _ _ _ (fun e => hne (by cases e; rfl))]; exact k.2.1, by rw [World.cell?_setCell_other _ _ _ _ (fun e => hne (by cases e; rfl))]; exact k.2.2.1, by rw [World.frozen?_setCell]; exact k.2.2.2.1, by rw [World.frozen?_setCell]; exact k.2.2.2.2⟩
theorem WF.drewN {w : World} {g : Nat} {h l : Int} (k : WF w g h l) (n : Nat) : WF (w.drewN n) g h l := k
/-- The run of make([]int, 128). -/
theorem make128 : ∃ Z : Array Value, Z = (ints (List.replicate 128 0)).toArray ∧ ∀ W, (Instr.makeSlice 137 (.int .i64 128) (.int .i64 128)).run Tryz.prog W = .ok (.slice (some ⟨W.heap.size, 0, none⟩) 128 128) (W.alloc (.cells Z 3)) := by
  obtain ⟨ib, hib, hbz, hb1, hb2⟩ := info_parts infoInt01
  have hmk := fun W => run_make_rowN (P := Tryz.prog) 137 3 ib (.int .i64 0) Tryz.underlying137 hib hbz .i64 .i64 128 128 (Nat.le_refl _) (by rw [hb2]; omega) (by omega) W
  rw [hb1] at hmk
  refine ⟨_, rfl, fun W => ?_⟩
  have h := hmk W
  rw [show 128 * 1 = 128 from rfl, show (Value.int .i64 0).cells = #[.int .i64 0] from rfl, made_ints] at h
  exact h
/-- What the rounds of Sub keep. -/
def SubW (a b g1 g2 g3 b4 k : Nat) (w wr : World) : Prop :=
  RowN wr g2 (bitsN 128 b) ∧ BlkI wr g3 (bitsN k (a - b) ++ List.replicate (128 - k) 0) ∧ WF wr b4 0 0 ∧ Below w.heap.size w wr
theorem SubW.drewN {a b g1 g2 g3 b4 k : Nat} {w wr : World} (h : SubW a b g1 g2 g3 b4 k w wr) (n : Nat) : SubW a b g1 g2 g3 b4 k w (wr.drewN n) := ⟨h.1.drewN n, h.2.1.drewN n, h.2.2.1.drewN n, below_drewN' h.2.2.2 n⟩
theorem SubW.step {a b g1 g2 g3 b4 k d : Nat} {w wr : World} (h : SubW a b g1 g2 g3 b4 k w wr) (hk : k < 128) (hd : (a - b) / 2 ^ k % 2 = d) (hn : w.heap.size ≤ b4 ∧ b4 < g1 ∧ g1 < g2 ∧ g2 < g3) : SubW a b g1 g2 g3 b4 (k + 1) w (wr.setCell ⟨g3, k, none⟩ (.int .i64 (d : Int))) := by
  obtain ⟨h1, h2, h3, h4⟩ := h
  refine ⟨h1.far (by omega) _, ?_, h3.far (by omega) _, h4.setCell (p := ⟨g3, k, none⟩) (by show w.heap.size ≤ g3; omega) _⟩
  rw [← set_out k 128 (a - b) d hk hd]
  exact h2.set k d
theorem SubW.x {a b g1 g2 g3 b4 k i : Nat} {w wr : World} (h : SubW a b g1 g2 g3 b4 k w wr) (hn : w.heap.size ≤ b4 ∧ b4 < g1 ∧ g1 < g2 ∧ g2 < g3) (v : Value) : SubW a b g1 g2 g3 b4 k w (wr.setCell ⟨g1, i, none⟩ v) := by
  obtain ⟨h1, h2, h3, h4⟩ := h
  exact ⟨h1.far (by omega) _, h2.far (by omega) _, h3.far (by omega) _, h4.setCell (p := ⟨g1, i, none⟩) (by show w.heap.size ≤ g1; omega) _⟩
end Go.Proofs.YtokpgopdkimmmaaGreatDoor
/- The document's product, and how much one number is above another. -/
namespace Go.Proofs.YtokpgopdkimmmaaGreatDoor
open Go.RowKit
set_option linter.unusedVariables false
set_option linter.unusedSimpArgs false

theorem bit_u64 (n k : Nat) (hn : n < 18446744073709551616) : bits BinOp.and IntKind.u64 ((n : Int) / 2 ^ k) 1 = ((n / 2 ^ k % 2 : Nat) : Int) := by
  have e : (n : Int) / 2 ^ k = ((n / 2 ^ k : Nat) : Int) := by rw [Int.natCast_ediv, Int.natCast_pow]; rfl
  have h1 : n / 2 ^ k < 18446744073709551616 := Nat.lt_of_le_of_lt (Nat.div_le_self _ _) hn
  rw [e]
  generalize n / 2 ^ k = m at h1 ⊢
  rw [and_one_u64 _ (by omega) (by omega)]
  omega
theorem WF.set {w : World} {b : Nat} {h l : Int} (k : WF w b h l) (x y : Int) : WF ((w.setCell ⟨b, 0, none⟩ (.int .u64 x)).setCell ⟨b, 1, none⟩ (.int .u64 y)) b x y :=
  ⟨by have := k.1; simpa using this, by
    rw [World.cell?_setCell_other _ _ _ _ (fun e => by cases e)]; exact World.cell?_setCell_same (u := .int .u64 h) _ _ _ k.2.1, by
    refine World.cell?_setCell_same (u := .int .u64 l) _ _ _ ?_
    rw [World.cell?_setCell_other _ _ _ _ (fun e => by cases e)]; exact k.2.2.1, by rw [World.frozen?_setCell, World.frozen?_setCell]; exact k.2.2.2.1, by rw [World.frozen?_setCell, World.frozen?_setCell]; exact k.2.2.2.2⟩
theorem WF.far2 {w : World} {g b : Nat} {h l : Int} (k : WF w g h l) (hne : g ≠ b) (u v : Value) : WF ((w.setCell ⟨b, 0, none⟩ u).setCell ⟨b, 1, none⟩ v) g h l := (k.far hne u).far hne v
theorem below_two {B : Nat} {w y : World} (h : Below B w y) {b : Nat} (hb : B ≤ b) (u v : Value) : Below B w ((y.setCell ⟨b, 0, none⟩ u).setCell ⟨b, 1, none⟩ v) :=
  (h.setCell (p := ⟨b, 0, none⟩) hb u).setCell (p := ⟨b, 1, none⟩) hb v
theorem WF.grown {w w' : World} {b r : Nat} {h l : Int} (k : WF w b h l) (hg : w.grownBy w' (some r)) (hne : b ≠ r) : WF w' b h l := by
  have e := hg.block b k.1 (fun e => hne (Option.some.inj e))
  exact ⟨Nat.lt_of_lt_of_le k.1 hg.size, (World.cell?_of_block (a := ⟨b, 0, none⟩) e).trans k.2.1, (World.cell?_of_block (a := ⟨b, 1, none⟩) e).trans k.2.2.1, (World.frozen?_of_block (a := ⟨b, 0, none⟩) e).trans k.2.2.2.1, (World.frozen?_of_block (a := ⟨b, 1, none⟩) e).trans k.2.2.2.2⟩
theorem mul_pow_top {a k : Nat} (ha : a < 18446744073709551616) (hk : k ≤ 64) : a * 2 ^ k < wTop := by
  have h1 : 2 ^ k ≤ 2 ^ 64 := Nat.pow_le_pow_right (by decide) hk
  calc a * 2 ^ k ≤ a * 2 ^ 64 := Nat.mul_le_mul_left _ h1
    _ < 18446744073709551616 * 2 ^ 64 := Nat.mul_lt_mul_of_pos_right ha (by decide)
    _ = wTop := by decide
theorem mul_low_top {a b : Nat} (ha : a < 18446744073709551616) (hb : b < 18446744073709551616) (k : Nat) : a * (b % 2 ^ k) < wTop := by
  have h1 : b % 2 ^ k < 18446744073709551616 := Nat.lt_of_le_of_lt (Nat.mod_le _ _) hb
  exact Nat.mul_lt_mul'' ha h1
theorem three_boxes (w : World) (x0 x1 y0 y1 z0 z1 : Int) (t : TypeId) : ∃ W, W = ((w.alloc (.cells #[.int .u64 x0, .int .u64 x1] t)).alloc (.cells #[.int .u64 y0, .int .u64 y1] t)).alloc (.cells #[.int .u64 z0, .int .u64 z1] t) ∧
    WF W w.heap.size x0 x1 ∧ WF W (w.heap.size + 1) y0 y1 ∧ WF W (w.heap.size + 1 + 1) z0 z1 ∧ Below w.heap.size w W := by
  refine ⟨_, rfl, ((WF.new w x0 x1 t).later ((Below.refl _ _).alloc (Nat.le_refl _) _)).later ((Below.refl _ _).alloc (Nat.le_refl _) _), ?_, ?_, ?_⟩
  · have h := WF.new (w.alloc (.cells #[.int .u64 x0, .int .u64 x1] t)) y0 y1 t
    rw [World.size_alloc] at h
    exact h.later ((Below.refl _ _).alloc (Nat.le_refl _) _)
  · have h := WF.new ((w.alloc (.cells #[.int .u64 x0, .int .u64 x1] t)).alloc (.cells #[.int .u64 y0, .int .u64 y1] t)) z0 z1 t
    rw [World.size_alloc, World.size_alloc] at h
    exact h
  · exact (((Below.refl _ _).alloc (Nat.le_refl _) _).alloc (by simp) _).alloc (by simp; omega) _
end Go.Proofs.YtokpgopdkimmmaaGreatDoor
/- The document's digits. -/
namespace Go.Proofs.YtokpgopdkimmmaaGreatDoor
open Go.RowKit
open Go.Lib (decDigits nDigits decDigits_one decDigits_length nDigits_small nDigits_big)
set_option linter.unusedVariables false
set_option linter.unusedSimpArgs false

theorem nDig39 {a : Nat} (h : a < wTop) : nDigits a ≤ 39 := by
  have h1 := nDigits_mono (a := a) (b := 340282366920938463463374607431768211455) (by unfold wTop at h; omega)
  have h2 := Lib.nDigits_unique 38 340282366920938463463374607431768211455 (by decide) (by decide)
  omega
def strLen : Value → Nat
  | .string s => s.size
  | _ => 0
theorem strLen_mk (l : List UInt8) : strLen (.string ⟨l.toArray⟩) = l.length := by simp [strLen, ByteArray.size]
set_option maxRecDepth 100000 in
set_option maxHeartbeats 4000000 in
theorem rtext_any (a : Nat) (ha : a < wTop) (w : World) : Calls Tryz.prog 44 #[wideV a] w fun e w' => e = .returned (.string ⟨(textL a).toArray⟩) ∧ Below w.heap.size w w' := by
  obtain ⟨pa, qa, ea⟩ := words_of a
  have BA := Lib.hid (fun w => by have h := bits_any a ha w; rw [ea] at h; exact h)
  have HA := Lib.hid ha
  rw [ea]
  clear ha ea
  go_enter Tryz.func44, Tryz.ntmps44
  go_wp2_with fail
  refine (BA.out _).mono ?_
  rintro e w1 ⟨g, rfl, hI, hg, hb⟩
  have HB := Lib.hid (bl ((Below.refl w.heap.size w).alloc (Nat.le_refl _) (.cells #[.int .u64 pa, .int .u64 qa] 31)) (by simp) hb)
  have HI := Lib.hid hI
  have HG := Lib.hid (show w.heap.size ≤ g by simp at hg; omega)
  clear hI hg hb BA
  go_wp2_with fail
  go_loopw [4, 5] (fun sv av wr => ∃ (v : Nat) (sfx : List UInt8) (ag : Bool), sv = .string ⟨sfx.toArray⟩ ∧ av = .bool ag ∧ sfx.length ≤ nDigits a ∧ Hid (v < wTop) ∧ Hid (BlkI wr g (bitsN 128 v)) ∧ Hid (ag = true → decDigits a = decDigits v ++ sfx) ∧ Hid (ag = false → decDigits a = sfx) ∧ Hid (Below w.heap.size w wr)) (fun sv _ _ => nDigits a - strLen sv)
  case atStart => exact ⟨a, [], true, rfl, rfl, by simp, HA, HI, Lib.hid (fun _ => by simp), Lib.hid (fun h => by cases h), HB⟩
  case round =>
    clear HI HB
    obtain ⟨v, sfx, ag, rfl, rfl, hlen, HV, HI, HT, HF, HB⟩ := hrel
    cases ag
    · have HE := Lib.hid (HF.out rfl)
      clear HT HF
      go_wp2
      go_ret
      exact ⟨by unfold textL; rw [HE.out]; rfl, HB.out⟩
    · have HE := Lib.hid (HT.out rfl)
      clear HT HF
      go_wp2_with fail
      obtain ⟨wo, rfl⟩ : ∃ wo : World, wo = wr := ⟨_, rfl⟩
      go_loopw [5, 6, 7] (fun av rv iv wq => ∃ (j r : Nat) (ag : Bool), j ≤ 128 ∧ r ≤ 9 ∧ iv = .int .i64 ((j : Int) - 1) ∧ rv = .int .i64 (r : Int) ∧ av = .bool ag ∧ Hid (r = v / 2 ^ j % 10) ∧ Hid (ag = decide (0 < v / 2 ^ j / 10)) ∧ Hid (BlkI wq g (tenL v j)) ∧ Hid (Below w.heap.size w wq)) (fun _ _ i _ => ((intOf i) + 1).toNat)
      case atStart =>
        obtain ⟨t1, t2, t3⟩ := tenL_start v HV.out
        exact ⟨128, 0, false, Nat.le_refl _, by omega, rfl, rfl, rfl, Lib.hid t2.symm, Lib.hid (by rw [t3]; rfl), Lib.hid (by rw [t1]; exact HI.out), HB⟩
      case round =>
        clear HI HB
        obtain ⟨j, r, ag, hj, hr, rfl, rfl, rfl, HR, HAG, HI, HB⟩ := hrel
        cases j with
        | zero =>
          obtain ⟨dg, hdg⟩ : ∃ dg, UInt8.ofNat (48 + r) = dg := ⟨_, rfl⟩
          have hxr : (⟨#[48, 49, 50, 51, 52, 53, 54, 55, 56, 57]⟩ : ByteArray).extract r (r + 1) = ⟨[dg].toArray⟩ := by
            rw [← hdg]
            have key : ∀ r, r < 10 → (⟨#[48, 49, 50, 51, 52, 53, 54, 55, 56, 57]⟩ : ByteArray).extract r (r + 1) = ⟨[UInt8.ofNat (48 + r)].toArray⟩ := by decide
            exact key r (by omega)
          have HDG := Lib.hid hdg
          have hl39 : sfx.length ≤ 39 := by have := nDig39 HA.out; omega
          have hcat : (⟨#[dg]⟩ : ByteArray) ++ ⟨sfx.toArray⟩ = ⟨(dg :: sfx).toArray⟩ := by
            apply ByteArray.ext
            simp
          have HC := Lib.hid hcat
          have R0 := Lib.hid (show r = v % 10 by have := HR.out; rwa [Nat.pow_zero, Nat.div_one] at this)
          have A0 := Lib.hid (show ag = decide (0 < v / 10) by have := HAG.out; rwa [Nat.pow_zero, Nat.div_one] at this)
          clear hdg hcat
          go_wp2_with fail
          go_roundw
          case rel =>
            have hval : v < 10 → decDigits v = [dg] := fun h => by rw [decDigits_one h, ← HDG.out, R0.out, Nat.mod_eq_of_lt h]
            have hbig : ¬ v < 10 → decDigits v = decDigits (v / 10) ++ [dg] := fun h => by rw [dec_big h, ← HDG.out, R0.out]
            have hlen2 : (dg :: sfx).length ≤ nDigits a := by
              rw [← decDigits_length a, HE.out, List.length_append, List.length_cons]
              have := decDigits_length v
              have := Lib.nDigits_pos v
              omega
            refine ⟨v / 10, dg :: sfx, ag, by rw [HC.out], rfl, hlen2, Lib.hid (Nat.lt_of_le_of_lt (Nat.div_le_self _ _) HV.out), Lib.hid (by rw [← tenL_end]; exact HI.out), Lib.hid (fun h => ?_), Lib.hid (fun h => ?_), HB⟩
            · have := A0.out
              rw [h] at this
              have hv := of_decide_eq_true this.symm
              rw [HE.out, hbig (by omega), List.append_assoc]
              rfl
            · have := A0.out
              rw [h] at this
              have hv := of_decide_eq_false this.symm
              rw [HE.out, hval (by omega)]
              rfl
          case measure =>
            rw [HC.out, strLen_mk, strLen_mk, List.length_cons]
            have h1 := HE.out
            have h2 := congrArg List.length h1
            rw [List.length_append, decDigits_length, decDigits_length] at h2
            have := Lib.nDigits_pos v
            omega
        | succ i =>
          have e0 : ((i + 1 : Nat) : Int) - 1 = (i : Int) := by omega
          rw [e0]
          clear e0
          obtain ⟨t1, t2, t3, t4⟩ := tenL_step v i (by omega)
          rw [← HR.out] at t2 t3 t4
          obtain ⟨x, hx⟩ : ∃ x, v / 2 ^ i % 2 = x := ⟨_, rfl⟩
          rw [hx] at t1 t2 t3 t4
          have hx1 : x ≤ 1 := by omega
          obtain ⟨t, ht⟩ : ∃ t, r * 2 + x = t := ⟨_, rfl⟩
          obtain ⟨d, hd⟩ : ∃ d, t / 10 = d := ⟨_, rfl⟩
          obtain ⟨r', hr'⟩ : ∃ d, t % 10 = d := ⟨_, rfl⟩
          rw [ht, hd] at t2 t4
          rw [ht, hr'] at t3
          have c1 := HI.out.cell i x t1
          have f1 := Blk.frozen HI.out i
          have e1 : (r : Int) * 2 + (x : Int) = (t : Int) := by omega
          have e2 : (t : Int).tdiv 10 = (d : Int) := by rw [Int.tdiv_eq_ediv_of_nonneg (by omega)]; omega
          have e3 : (t : Int).tmod 10 = (r' : Int) := by rw [Int.tmod_eq_emod_of_nonneg (by omega)]; omega
          have e2' : (t : Int) / 10 = (d : Int) := by omega
          have e3' : (t : Int) % 10 = (r' : Int) := by omega
          have hd9 : d ≤ 9 := by omega
          have hr9 : r' ≤ 9 := by omega
          have T2 := Lib.hid t2
          have T3 := Lib.hid t3
          have T4 := Lib.hid t4
          clear t1 t2 t3 t4 hx ht hd hr' hr hx1
          cases ag
          · by_cases hdz : d = 0
            · subst hdz
              go_wp2_with fail
              go_roundw
              case rel => exact ⟨i, r', false, by omega, hr9, rfl, rfl, rfl, Lib.hid T3.out, Lib.hid (by
                have h1 := T4.out
                have h2 := HAG.out
                simp at h2
                symm
                simp
                omega), Lib.hid (by rw [← T2.out]; exact HI.out.set i 0), Lib.hid (HB.out.setCell (p := ⟨g, i, none⟩) HG.out _)⟩
              case measure => simp [intOf]
            · have hd0 : 0 < d := by omega
              go_wp2_with fail
              refine ⟨⟨i, r', true, by omega, hr9, rfl, rfl, by simp [hd0], Lib.hid T3.out, Lib.hid (by
                have h1 := T4.out
                symm
                simp
                omega), Lib.hid (by rw [← T2.out]; exact HI.out.set i d), Lib.hid (HB.out.setCell (p := ⟨g, i, none⟩) HG.out _)⟩, by simp [intOf]⟩
          · go_wp2_with fail
            go_roundw
            case rel => exact ⟨i, r', true, by omega, hr9, rfl, rfl, rfl, Lib.hid T3.out, Lib.hid (by
              have h1 := T4.out
              have h2 := HAG.out
              symm at h2
              simp at h2
              symm
              simp
              omega), Lib.hid (by rw [← T2.out]; exact HI.out.set i d), Lib.hid (HB.out.setCell (p := ⟨g, i, none⟩) HG.out _)⟩
            case measure => simp [intOf]
end Go.Proofs.YtokpgopdkimmmaaGreatDoor
