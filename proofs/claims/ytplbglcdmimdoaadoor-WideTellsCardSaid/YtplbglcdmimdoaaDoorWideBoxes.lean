/- Wide numbers in boxes: small lemmas for the walks of layer 1's statements. -/
import Derived.Test.YtplbglcdmimdoaaDoorWideAwake
namespace Go.Proofs.YtplbglcdmimdoaaDoor
open Go.RowKit
set_option linter.unusedVariables false
set_option linter.unusedSimpArgs false

theorem words_of (v : Nat) : ∃ h l : Int, wideV v = W2 h l := ⟨_, _, rfl⟩
theorem box2 {w : World} {P : Program} {c : Code} {Q : Exit → Act → World → Prop} {a : Act} {ah al bh bl : Int} {tx ty : TypeId} (h : ∀ W, Below w.heap.size w W → WB W w.heap.size ah al → WB W (w.heap.size + 1) bh bl → c.wp P Q a W) :
    c.wp P Q a ((w.alloc (.cells #[.int .u64 ah, .int .u64 al] tx)).alloc (.cells #[.int .u64 bh, .int .u64 bl] ty)) :=
  from_box2 fun W h1 h2 => h W h1.below ⟨h1.lt, h1.cell 0, h1.cell 1⟩ ⟨h2.lt, h2.cell 0, h2.cell 1⟩
theorem keepS {V w' : World} {b : Nat} {x y : Value} (l : b < V.heap.size) (c : V.cell? ⟨b, 0, none⟩ = some x) (d : V.cell? ⟨b, 1, none⟩ = some y) (h : Below V.heap.size V w') :
    Below V.heap.size V w' ∧ w'.cell? ⟨b, 0, none⟩ = some x ∧ w'.cell? ⟨b, 1, none⟩ = some y :=
  ⟨h, (h.cell (p := ⟨b, 0, none⟩) l).trans c, (h.cell (p := ⟨b, 1, none⟩) l).trans d⟩
theorem blx {V y w' : World} {p : Prop} (h : Below V.heap.size V y ∧ p) (hb : Below y.heap.size y w') : Below V.heap.size V w' := bl h.1 h.1.size hb
theorem allocx {V y : World} {p : Prop} (o : Obj) (h : Below V.heap.size V y ∧ p) : Below V.heap.size V (y.alloc o) := h.1.alloc h.1.size o
theorem allocy {V y : World} (o : Obj) (h : Below V.heap.size V y) : Below V.heap.size V (y.alloc o) := h.alloc h.size o
theorem newcell {z w' : World} {u v : Value} {t : TypeId} (hb : Below (z.alloc (.cells #[u, v] t)).heap.size (z.alloc (.cells #[u, v] t)) w') : w'.cell? ⟨z.heap.size, 0, none⟩ = some u ∧ w'.cell? ⟨z.heap.size, 1, none⟩ = some v ∧ w'.frozen? ⟨z.heap.size, 0, none⟩ = false ∧ w'.frozen? ⟨z.heap.size, 1, none⟩ = false :=
  ⟨(hb.cell (p := ⟨z.heap.size, 0, none⟩) (by simp)).trans (cells_at z _ t 0), (hb.cell (p := ⟨z.heap.size, 1, none⟩) (by simp)).trans (cells_at z _ t 1), (hb.frozen (p := ⟨z.heap.size, 0, none⟩) (by simp)).trans (World.frozen?_alloc_new z _ t 0), (hb.frozen (p := ⟨z.heap.size, 1, none⟩) (by simp)).trans (World.frozen?_alloc_new z _ t 1)⟩
theorem newcelld {z w' : World} {u v : Value} {t : TypeId} (hb : Below (z.alloc (.cells #[u, v] t)).drew.heap.size (z.alloc (.cells #[u, v] t)).drew w') : w'.cell? ⟨z.heap.size, 0, none⟩ = some u ∧ w'.cell? ⟨z.heap.size, 1, none⟩ = some v ∧ w'.frozen? ⟨z.heap.size, 0, none⟩ = false ∧ w'.frozen? ⟨z.heap.size, 1, none⟩ = false :=
  ⟨(hb.cell (p := ⟨z.heap.size, 0, none⟩) (by show z.heap.size < (z.alloc _).heap.size; simp)).trans (cells_at z _ t 0), (hb.cell (p := ⟨z.heap.size, 1, none⟩) (by show z.heap.size < (z.alloc _).heap.size; simp)).trans (cells_at z _ t 1), (hb.frozen (p := ⟨z.heap.size, 0, none⟩) (by show z.heap.size < (z.alloc _).heap.size; simp)).trans (World.frozen?_alloc_new z _ t 0), (hb.frozen (p := ⟨z.heap.size, 1, none⟩) (by show z.heap.size < (z.alloc _).heap.size; simp)).trans (World.frozen?_alloc_new z _ t 1)⟩
theorem carrycell {y w' : World} {g : Nat} {u v : Value} (h : y.cell? ⟨g, 0, none⟩ = some u ∧ y.cell? ⟨g, 1, none⟩ = some v ∧ y.frozen? ⟨g, 0, none⟩ = false ∧ y.frozen? ⟨g, 1, none⟩ = false) (hb : Below y.heap.size y w') :
    w'.cell? ⟨g, 0, none⟩ = some u ∧ w'.cell? ⟨g, 1, none⟩ = some v ∧ w'.frozen? ⟨g, 0, none⟩ = false ∧ w'.frozen? ⟨g, 1, none⟩ = false := by
  have l := World.block_lt_of_cell? _ _ h.1
  exact ⟨(hb.cell (p := ⟨g, 0, none⟩) l).trans h.1, (hb.cell (p := ⟨g, 1, none⟩) l).trans h.2.1, (hb.frozen (p := ⟨g, 0, none⟩) l).trans h.2.2.1, (hb.frozen (p := ⟨g, 1, none⟩) l).trans h.2.2.2⟩
theorem setx {V y : World} {g : Nat} {u v : Value} (h : Below V.heap.size V y) (hg : V.heap.size ≤ g) : Below V.heap.size V ((y.setCell ⟨g, 0, none⟩ u).setCell ⟨g, 1, none⟩ v) :=
  (h.setCell (p := ⟨g, 0, none⟩) hg u).setCell (p := ⟨g, 1, none⟩) hg v
theorem wb_set {y : World} {g : Nat} {u v : Value} {hi lo : Int} (h : y.cell? ⟨g, 0, none⟩ = some u ∧ y.cell? ⟨g, 1, none⟩ = some v ∧ y.frozen? ⟨g, 0, none⟩ = false ∧ y.frozen? ⟨g, 1, none⟩ = false) :
    WB ((y.setCell ⟨g, 0, none⟩ (.int .u64 hi)).setCell ⟨g, 1, none⟩ (.int .u64 lo)) g hi lo :=
  ⟨by have := World.block_lt_of_cell? _ _ h.1; simpa using this, by
    rw [World.cell?_setCell_other _ _ _ _ (fun e => by cases e)]; exact World.cell?_setCell_same (u := u) _ _ _ h.1, by
    refine World.cell?_setCell_same (u := v) _ _ _ ?_
    rw [World.cell?_setCell_other _ _ _ _ (fun e => by cases e)]; exact h.2.1⟩
theorem box3 {w : World} {P : Program} {c : Code} {Q : Exit → Act → World → Prop} {a : Act} {ah al bh bl ch cl : Int} {tx ty tz : TypeId} (h : ∀ W, Below w.heap.size w W → WB W w.heap.size ah al → WB W (w.heap.size + 1) bh bl → WB W (w.heap.size + 1 + 1) ch cl → c.wp P Q a W) :
    c.wp P Q a (((w.alloc (.cells #[.int .u64 ah, .int .u64 al] tx)).alloc (.cells #[.int .u64 bh, .int .u64 bl] ty)).alloc (.cells #[.int .u64 ch, .int .u64 cl] tz)) :=
  from_box3 fun W h1 h2 h3 => h W h1.below ⟨h1.lt, h1.cell 0, h1.cell 1⟩ ⟨h2.lt, h2.cell 0, h2.cell 1⟩ ⟨h3.lt, h3.cell 0, h3.cell 1⟩
theorem of_words (h l : Int) (h1 : 0 ≤ h) (h2 : h < 18446744073709551616) (l1 : 0 ≤ l) (l2 : l < 18446744073709551616) : ∃ v, v < wTop ∧ W2 h l = wideV v := by
  obtain ⟨h, rfl⟩ := Int.eq_ofNat_of_zero_le h1
  obtain ⟨l, rfl⟩ := Int.eq_ofNat_of_zero_le l1
  exact ⟨h * 18446744073709551616 + l, by unfold wTop; omega, (wideV_of h l (by omega)).symm⟩
end Go.Proofs.YtplbglcdmimdoaaDoor
