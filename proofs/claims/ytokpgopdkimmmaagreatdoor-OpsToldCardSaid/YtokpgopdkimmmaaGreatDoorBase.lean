/- Small lemmas that all walks of this seat use; they say nothing of the program. -/
import Derived.Test.YtokpgopdkimmmaaGreatDoorRows
import Derived.WalkKit
import Derived.WalkSpells
import Derived.WalkLawsBesides
import Derived.Lib.Hide
import Derived.Deep.QuietTactic
import Derived.BigQuiet
namespace Go.Proofs.YtokpgopdkimmmaaGreatDoor
open Go.RowKit

theorem ret_int {k : IntKind} {a b : Int} (h : a = b) : Ending.returned (.int k a) = .returned (.int k b) := by rw [h]
theorem ret_bool {a b : Bool} (h : a = b) : Ending.returned (.bool a) = .returned (.bool b) := by rw [h]

/-- What a call leaves alone, in the walk's own words. -/
theorem bfacts {W w1 : World} (hb : Below W.heap.size W w1) :
    (∀ b o, b < W.heap.size → w1.cell? ⟨b, o, none⟩ = W.cell? ⟨b, o, none⟩) ∧ (∀ b o, b < W.heap.size → w1.frozen? ⟨b, o, none⟩ = W.frozen? ⟨b, o, none⟩) ∧ W.heap.size ≤ w1.heap.size :=
  ⟨fun b o h => hb.cell (p := ⟨b, o, none⟩) h, fun b o h => hb.frozen (p := ⟨b, o, none⟩) h, hb.size⟩

/-- One call more. -/
theorem bl {B : Nat} {a w w1 : World} (h : Below B a w) (hB : B ≤ w.heap.size) (hb : Below w.heap.size w w1) : Below B a w1 := h.trans (hb.mono hB)

/-- A region that draws its order, each of whose operations reads what was there or is a call that leaves what was there as it was: one walk, in the order of the text, serves every order. -/
theorem wp_region_below {P : Program} {id : Nat} {Q : Exit → Act → World → Prop} {a : Act} {w : World} {l : List Oper} (hm : P.follows .mixedOrders = true) (hB : Region.lexB .any l.toArray = true)
    (h : wpQuiet P l.toArray (fun w' => Below w.heap.size w w') (fun a' => ∀ w', Below w.heap.size w w' → Q .normal a' w') l a) : (Code.region id l.toArray true).wp P Q a w :=
  wp_region_quiet (C := fun w' => Below w.heap.size w w') hm hB ((Below.refl _ _).drew) (by simpa using h)

theorem quiet_val {P : Program} {C : World → Prop} {o : Oper} {a : Act} {K : Act → Prop} (v : Value) (h : ∀ w, C w → (execOp a.eval o).run P w = .ok (.value v) w) (hk : K (a.put o.dst v)) : o.quiet P a C K :=
  ⟨v, fun w hw => by unfold Oper.quietAt; rw [h w hw]; exact ⟨rfl, rfl⟩, hk⟩

theorem quiet_call {P : Program} {C : World → Prop} {o : Oper} {a : Act} {K : Act → Prop} (v : Value) (f : FuncId) (args : Array Value) (h : ∀ w, C w → (execOp a.eval o).run P w = .ok (.enter f args) w) (hc : ∀ w, C w → Calls P f args w fun e w' => e = .returned v ∧ C w') (hk : K (a.put o.dst v)) : o.quiet P a C K :=
  ⟨v, fun w hw => by unfold Oper.quietAt; rw [h w hw]; exact ⟨rfl, hc w hw⟩, hk⟩

/-- A contract that leaves what was there, met in a world that comes of w0. -/
theorem quiet_below {P : Program} {f : FuncId} {args : Array Value} {w0 w : World} {B : Nat} {v : Value} (hw : Below B w0 w) (hB : B ≤ w.heap.size) (h : Calls P f args w fun e w' => e = .returned v ∧ Below w.heap.size w w') :
    Calls P f args w fun e w' => e = .returned v ∧ Below B w0 w' := h.mono fun _ _ ⟨he, hb⟩ => ⟨he, bl hw hB hb⟩
theorem quiet_same {P : Program} {f : FuncId} {args : Array Value} {w0 w : World} {B : Nat} {v : Value} (hw : Below B w0 w) (h : Calls P f args w fun e w' => e = .returned v ∧ w = w') :
    Calls P f args w fun e w' => e = .returned v ∧ Below B w0 w' := h.mono fun _ _ ⟨he, hb⟩ => ⟨he, hb ▸ hw⟩

/-- A world that has come of W: what was there is as it was. -/
structure Since (W : World) where
  w : World
  h : Below W.heap.size W w

instance (W : World) : Nonempty (Since W) := ⟨⟨W, Below.refl _ _⟩⟩

@[go_sem] theorem Since.cell {W : World} (s : Since W) (b o : Nat) (hb : b < W.heap.size) : s.w.cell? ⟨b, o, none⟩ = W.cell? ⟨b, o, none⟩ := s.h.cell (p := ⟨b, o, none⟩) hb
@[go_sem] theorem Since.frozen {W : World} (s : Since W) (b o : Nat) (hb : b < W.heap.size) : s.w.frozen? ⟨b, o, none⟩ = W.frozen? ⟨b, o, none⟩ := s.h.frozen (p := ⟨b, o, none⟩) hb
@[go_sem] theorem Since.lt {W : World} (s : Since W) (b : Nat) (hb : b < W.heap.size) : (b < s.w.heap.size) = True := eq_true (Nat.lt_of_lt_of_le hb s.h.size)
theorem Since.size {W : World} (s : Since W) : W.heap.size ≤ s.w.heap.size := s.h.size

theorem since_calls {P : Program} {f : FuncId} {args : Array Value} {w : World} {R : Ending → World → Prop} (h : ∀ s : Since w, Calls P f args s.w R) : Calls P f args w R := h ⟨w, Below.refl _ _⟩
theorem since_wp {P : Program} {c : Code} {Q : Exit → Act → World → Prop} {a : Act} {w : World} (h : ∀ s : Since w, c.wp P Q a s.w) : c.wp P Q a w := h ⟨w, Below.refl _ _⟩

/-- A contract that leaves what was there, met in a world that has come of W. -/
theorem since_of {P : Program} {f : FuncId} {args : Array Value} {v : Value} {W : World} (h : ∀ w, Calls P f args w fun e w' => e = .returned v ∧ Below w.heap.size w w') (s : Since W) :
    Calls P f args s.w fun e w' => ∃ s' : Since W, e = .returned v ∧ s'.w = w' :=
  (h s.w).mono fun _ w' ⟨he, hb⟩ => ⟨⟨w', bl s.h s.h.size hb⟩, he, rfl⟩

theorem since_quiet {P : Program} {f : FuncId} {args : Array Value} {v : Value} {W : World} {s : Since W} (h : ∀ w, Calls P f args w fun e w' => e = .returned v ∧ Below w.heap.size w w') :
    Calls P f args s.w fun e w' => e = .returned v ∧ ∃ s' : Since W, w' = s'.w :=
  (h s.w).mono fun _ w' ⟨he, hb⟩ => ⟨he, ⟨w', bl s.h s.h.size hb⟩, rfl⟩

theorem since_below {B : Nat} {w W : World} (h : Below B w W) (s : Since W) (hB : B ≤ W.heap.size) : Below B w s.w := bl h hB s.h

/-- A contract, its value said otherwise. -/
theorem asv {P : Program} {f : FuncId} {args : Array Value} {v v' : Value} (h : ∀ w, Calls P f args w fun e w' => e = .returned v ∧ Below w.heap.size w w') (hv : v = v') : ∀ w, Calls P f args w fun e w' => e = .returned v' ∧ Below w.heap.size w w' := hv ▸ h

/-- A region that draws its order, in a world that has come of W. -/
theorem wp_region_since {P : Program} {id : Nat} {Q : Exit → Act → World → Prop} {a : Act} {W : World} {s : Since W} {l : List Oper} (hm : P.follows .mixedOrders = true) (hB : Region.lexB .any l.toArray = true)
    (h : wpQuiet P l.toArray (fun w' => ∃ s : Since W, w' = s.w) (fun a' => ∀ w', (∃ s : Since W, w' = s.w) → Q .normal a' w') l a) : (Code.region id l.toArray true).wp P Q a s.w :=
  wp_region_quiet (C := fun w' => ∃ s : Since W, w' = s.w) hm hB ⟨⟨_, s.h.drew⟩, rfl⟩ (by simpa using h)

/-- A block of cells that lies in W and did not lie in w. -/
structure Boxed1 (w W : World) (b : Nat) (a : Array Value) : Prop where
  below : Below w.heap.size w W
  lt : b < W.heap.size
  ge : w.heap.size ≤ b
  cell : ∀ i, W.cell? ⟨b, i, none⟩ = a[i]?
  frozen : ∀ i, W.frozen? ⟨b, i, none⟩ = false

theorem cells_at (w : World) (x : Array Value) (t : TypeId) (i : Nat) : (w.alloc (.cells x t)).cell? ⟨w.heap.size, i, none⟩ = x[i]? := World.cell?_alloc_new w x t i
theorem cells_past (w : World) (o : Obj) (b i : Nat) (h : b < w.heap.size) : (w.alloc o).cell? ⟨b, i, none⟩ = w.cell? ⟨b, i, none⟩ := World.cell?_alloc_lt w o ⟨b, i, none⟩ h
theorem frozen_past (w : World) (o : Obj) (b i : Nat) (h : b < w.heap.size) : (w.alloc o).frozen? ⟨b, i, none⟩ = w.frozen? ⟨b, i, none⟩ := World.frozen?_alloc_old w o ⟨b, i, none⟩ (Nat.ne_of_lt h)

theorem boxed_new (w : World) (x : Array Value) (t : TypeId) : Boxed1 w (w.alloc (.cells x t)) w.heap.size x :=
  ⟨(Below.refl _ _).alloc (Nat.le_refl _) _, by simp, Nat.le_refl _, cells_at w x t, fun i => World.frozen?_alloc_new w x t i⟩
theorem Boxed1.alloc {w W : World} {b : Nat} {a : Array Value} (h : Boxed1 w W b a) (o : Obj) : Boxed1 w (W.alloc o) b a :=
  ⟨h.below.alloc h.below.size _, by have := h.lt; simp; omega, h.ge, fun i => (cells_past W o b i h.lt).trans (h.cell i), fun i => (frozen_past W o b i h.lt).trans (h.frozen i)⟩
theorem Boxed1.first {w W : World} {b : Nat} {a : Array Value} (o : Obj) (h : Boxed1 (w.alloc o) W b a) : Boxed1 w W b a :=
  ⟨((Below.refl _ _).alloc (Nat.le_refl _) _).trans (h.below.mono (by simp)), h.lt, by have := h.ge; simp at this; omega, h.cell, h.frozen⟩

section
variable {P : Program} {c : Code} {Q : Exit → Act → World → Prop} {a : Act} {w : World}
theorem from_box1 {x : Array Value} {tx : TypeId} (h : ∀ W, Boxed1 w W (w.heap.size) x → c.wp P Q a W) : c.wp P Q a (w.alloc (.cells x tx)) :=
  h _ (boxed_new w x tx)
theorem from_box2 {x y : Array Value} {tx ty : TypeId} (h : ∀ W, Boxed1 w W (w.heap.size) x → Boxed1 w W (w.heap.size + 1) y → c.wp P Q a W) : c.wp P Q a ((w.alloc (.cells x tx)).alloc (.cells y ty)) :=
  h _ ((boxed_new w x tx).alloc (.cells y ty))
    (by have e : (w.alloc (.cells x tx)).heap.size = w.heap.size + 1 := by simp only [World.size_alloc]
        have g := Boxed1.first (.cells x tx) (boxed_new (w.alloc (.cells x tx)) y ty)
        rw [e] at g; exact g)
theorem from_box3 {x y z : Array Value} {tx ty tz : TypeId} (h : ∀ W, Boxed1 w W (w.heap.size) x → Boxed1 w W (w.heap.size + 1) y → Boxed1 w W (w.heap.size + 1 + 1) z → c.wp P Q a W) : c.wp P Q a (((w.alloc (.cells x tx)).alloc (.cells y ty)).alloc (.cells z tz)) :=
  h _ (((boxed_new w x tx).alloc (.cells y ty)).alloc (.cells z tz))
    (by have e : (w.alloc (.cells x tx)).heap.size = w.heap.size + 1 := by simp only [World.size_alloc]
        have g := Boxed1.first (.cells x tx) ((boxed_new (w.alloc (.cells x tx)) y ty).alloc (.cells z tz))
        rw [e] at g; exact g)
    (by have e : ((w.alloc (.cells x tx)).alloc (.cells y ty)).heap.size = w.heap.size + 1 + 1 := by simp only [World.size_alloc]
        have g := Boxed1.first (.cells x tx) (Boxed1.first (.cells y ty) (boxed_new ((w.alloc (.cells x tx)).alloc (.cells y ty)) z tz))
        rw [e] at g; exact g)
theorem from_box4 {x y z u : Array Value} {tx ty tz tu : TypeId} (h : ∀ W, Boxed1 w W (w.heap.size) x → Boxed1 w W (w.heap.size + 1) y → Boxed1 w W (w.heap.size + 1 + 1) z → Boxed1 w W (w.heap.size + 1 + 1 + 1) u → c.wp P Q a W) : c.wp P Q a ((((w.alloc (.cells x tx)).alloc (.cells y ty)).alloc (.cells z tz)).alloc (.cells u tu)) :=
  h _ ((((boxed_new w x tx).alloc (.cells y ty)).alloc (.cells z tz)).alloc (.cells u tu))
    (by have e : (w.alloc (.cells x tx)).heap.size = w.heap.size + 1 := by simp only [World.size_alloc]
        have g := Boxed1.first (.cells x tx) (((boxed_new (w.alloc (.cells x tx)) y ty).alloc (.cells z tz)).alloc (.cells u tu))
        rw [e] at g; exact g)
    (by have e : ((w.alloc (.cells x tx)).alloc (.cells y ty)).heap.size = w.heap.size + 1 + 1 := by simp only [World.size_alloc]
        have g := Boxed1.first (.cells x tx) (Boxed1.first (.cells y ty) ((boxed_new ((w.alloc (.cells x tx)).alloc (.cells y ty)) z tz).alloc (.cells u tu)))
        rw [e] at g; exact g)
    (by have e : (((w.alloc (.cells x tx)).alloc (.cells y ty)).alloc (.cells z tz)).heap.size = w.heap.size + 1 + 1 + 1 := by simp only [World.size_alloc]
        have g := Boxed1.first (.cells x tx) (Boxed1.first (.cells y ty) (Boxed1.first (.cells z tz) (boxed_new (((w.alloc (.cells x tx)).alloc (.cells y ty)).alloc (.cells z tz)) u tu)))
        rw [e] at g; exact g)
theorem from_box5 {x y z u v : Array Value} {tx ty tz tu tv : TypeId} (h : ∀ W, Boxed1 w W (w.heap.size) x → Boxed1 w W (w.heap.size + 1) y → Boxed1 w W (w.heap.size + 1 + 1) z → Boxed1 w W (w.heap.size + 1 + 1 + 1) u → Boxed1 w W (w.heap.size + 1 + 1 + 1 + 1) v → c.wp P Q a W) : c.wp P Q a (((((w.alloc (.cells x tx)).alloc (.cells y ty)).alloc (.cells z tz)).alloc (.cells u tu)).alloc (.cells v tv)) :=
  h _ (((((boxed_new w x tx).alloc (.cells y ty)).alloc (.cells z tz)).alloc (.cells u tu)).alloc (.cells v tv))
    (by have e : (w.alloc (.cells x tx)).heap.size = w.heap.size + 1 := by simp only [World.size_alloc]
        have g := Boxed1.first (.cells x tx) ((((boxed_new (w.alloc (.cells x tx)) y ty).alloc (.cells z tz)).alloc (.cells u tu)).alloc (.cells v tv))
        rw [e] at g; exact g)
    (by have e : ((w.alloc (.cells x tx)).alloc (.cells y ty)).heap.size = w.heap.size + 1 + 1 := by simp only [World.size_alloc]
        have g := Boxed1.first (.cells x tx) (Boxed1.first (.cells y ty) (((boxed_new ((w.alloc (.cells x tx)).alloc (.cells y ty)) z tz).alloc (.cells u tu)).alloc (.cells v tv)))
        rw [e] at g; exact g)
    (by have e : (((w.alloc (.cells x tx)).alloc (.cells y ty)).alloc (.cells z tz)).heap.size = w.heap.size + 1 + 1 + 1 := by simp only [World.size_alloc]
        have g := Boxed1.first (.cells x tx) (Boxed1.first (.cells y ty) (Boxed1.first (.cells z tz) ((boxed_new (((w.alloc (.cells x tx)).alloc (.cells y ty)).alloc (.cells z tz)) u tu).alloc (.cells v tv))))
        rw [e] at g; exact g)
    (by have e : ((((w.alloc (.cells x tx)).alloc (.cells y ty)).alloc (.cells z tz)).alloc (.cells u tu)).heap.size = w.heap.size + 1 + 1 + 1 + 1 := by simp only [World.size_alloc]
        have g := Boxed1.first (.cells x tx) (Boxed1.first (.cells y ty) (Boxed1.first (.cells z tz) (Boxed1.first (.cells u tu) (boxed_new ((((w.alloc (.cells x tx)).alloc (.cells y ty)).alloc (.cells z tz)).alloc (.cells u tu)) v tv))))
        rw [e] at g; exact g)
theorem from_box6 {x y z u v s : Array Value} {tx ty tz tu tv ts : TypeId} (h : ∀ W, Boxed1 w W (w.heap.size) x → Boxed1 w W (w.heap.size + 1) y → Boxed1 w W (w.heap.size + 1 + 1) z → Boxed1 w W (w.heap.size + 1 + 1 + 1) u → Boxed1 w W (w.heap.size + 1 + 1 + 1 + 1) v → Boxed1 w W (w.heap.size + 1 + 1 + 1 + 1 + 1) s → c.wp P Q a W) : c.wp P Q a ((((((w.alloc (.cells x tx)).alloc (.cells y ty)).alloc (.cells z tz)).alloc (.cells u tu)).alloc (.cells v tv)).alloc (.cells s ts)) :=
  h _ ((((((boxed_new w x tx).alloc (.cells y ty)).alloc (.cells z tz)).alloc (.cells u tu)).alloc (.cells v tv)).alloc (.cells s ts))
    (by have e : (w.alloc (.cells x tx)).heap.size = w.heap.size + 1 := by simp only [World.size_alloc]
        have g := Boxed1.first (.cells x tx) (((((boxed_new (w.alloc (.cells x tx)) y ty).alloc (.cells z tz)).alloc (.cells u tu)).alloc (.cells v tv)).alloc (.cells s ts))
        rw [e] at g; exact g)
    (by have e : ((w.alloc (.cells x tx)).alloc (.cells y ty)).heap.size = w.heap.size + 1 + 1 := by simp only [World.size_alloc]
        have g := Boxed1.first (.cells x tx) (Boxed1.first (.cells y ty) ((((boxed_new ((w.alloc (.cells x tx)).alloc (.cells y ty)) z tz).alloc (.cells u tu)).alloc (.cells v tv)).alloc (.cells s ts)))
        rw [e] at g; exact g)
    (by have e : (((w.alloc (.cells x tx)).alloc (.cells y ty)).alloc (.cells z tz)).heap.size = w.heap.size + 1 + 1 + 1 := by simp only [World.size_alloc]
        have g := Boxed1.first (.cells x tx) (Boxed1.first (.cells y ty) (Boxed1.first (.cells z tz) (((boxed_new (((w.alloc (.cells x tx)).alloc (.cells y ty)).alloc (.cells z tz)) u tu).alloc (.cells v tv)).alloc (.cells s ts))))
        rw [e] at g; exact g)
    (by have e : ((((w.alloc (.cells x tx)).alloc (.cells y ty)).alloc (.cells z tz)).alloc (.cells u tu)).heap.size = w.heap.size + 1 + 1 + 1 + 1 := by simp only [World.size_alloc]
        have g := Boxed1.first (.cells x tx) (Boxed1.first (.cells y ty) (Boxed1.first (.cells z tz) (Boxed1.first (.cells u tu) ((boxed_new ((((w.alloc (.cells x tx)).alloc (.cells y ty)).alloc (.cells z tz)).alloc (.cells u tu)) v tv).alloc (.cells s ts)))))
        rw [e] at g; exact g)
    (by have e : (((((w.alloc (.cells x tx)).alloc (.cells y ty)).alloc (.cells z tz)).alloc (.cells u tu)).alloc (.cells v tv)).heap.size = w.heap.size + 1 + 1 + 1 + 1 + 1 := by simp only [World.size_alloc]
        have g := Boxed1.first (.cells x tx) (Boxed1.first (.cells y ty) (Boxed1.first (.cells z tz) (Boxed1.first (.cells u tu) (Boxed1.first (.cells v tv) (boxed_new (((((w.alloc (.cells x tx)).alloc (.cells y ty)).alloc (.cells z tz)).alloc (.cells u tu)).alloc (.cells v tv)) s ts)))))
        rw [e] at g; exact g)
end

theorem Boxed1.drew {w W : World} {b : Nat} {a : Array Value} (h : Boxed1 w W b a) : Boxed1 w W.drew b a := ⟨h.below.drew, h.lt, h.ge, h.cell, h.frozen⟩
theorem Boxed1.set {w W : World} {b : Nat} {a : Array Value} (h : Boxed1 w W b a) (k : Nat) (v : Value) (hk : k < a.size) : Boxed1 w (W.setCell ⟨b, k, none⟩ v) b (a.setIfInBounds k v) :=
  ⟨h.below.setCell h.ge _, by rw [World.size_setCell]; exact h.lt, h.ge, fun i => by
    by_cases e : i = k
    · subst e
      rw [World.cell?_setCell_same (u := a[i]) _ _ _ ((h.cell i).trans (Array.getElem?_eq_getElem hk))]
      simp [hk]
    · rw [World.cell?_setCell_other _ _ _ _ (fun e' => e (by cases e'; rfl)), h.cell i, Array.getElem?_setIfInBounds_ne (Ne.symm e)], fun i => by rw [World.frozen?_setCell]; exact h.frozen i⟩
theorem Boxed1.other {w W : World} {b : Nat} {a : Array Value} (h : Boxed1 w W b a) (c k : Nat) (v : Value) (hc : w.heap.size ≤ c) (hne : b ≠ c) : Boxed1 w (W.setCell ⟨c, k, none⟩ v) b a :=
  ⟨h.below.setCell hc _, by rw [World.size_setCell]; exact h.lt, h.ge, fun i => by rw [World.cell?_setCell_other _ _ _ _ (fun e' => hne (by cases e'; rfl))]; exact h.cell i, fun i => by rw [World.frozen?_setCell]; exact h.frozen i⟩
theorem two_boxed (w : World) (x y : Array Value) (tx ty : TypeId) : Boxed1 w ((w.alloc (.cells x tx)).alloc (.cells y ty)).drew w.heap.size x ∧ Boxed1 w ((w.alloc (.cells x tx)).alloc (.cells y ty)).drew (w.heap.size + 1) y :=
  ⟨((boxed_new w x tx).alloc _).drew, by
    have e : (w.alloc (.cells x tx)).heap.size = w.heap.size + 1 := by simp only [World.size_alloc]
    have g := Boxed1.first (.cells x tx) (boxed_new (w.alloc (.cells x tx)) y ty)
    rw [e] at g; exact g.drew⟩
end Go.Proofs.YtokpgopdkimmmaaGreatDoor
