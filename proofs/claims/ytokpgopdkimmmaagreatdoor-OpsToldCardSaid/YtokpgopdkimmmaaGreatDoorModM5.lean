import Derived.Test.YtokpgopdkimmmaaGreatDoorModM3
import Derived.Test.YtokpgopdkimmmaaGreatDoorModM1
import Derived.Test.YtokpgopdkimmmaaGreatDoorRegG
import Derived.Test.YtokpgopdkimmmaaGreatDoorModM4
import Derived.RegionTactic
import Derived.BigRegion
import Derived.Deep.Cut
import Derived.Deep.DeepCutAuto
import Derived.StillTailTactics
/- model.change: something comes, or goes (written by gen/mchange.py). -/
namespace Go.Proofs.YtokpgopdkimmmaaGreatDoor
open Go.RowKit Go.Maps
set_option linter.unusedVariables false
set_option linter.unusedSimpArgs false

/-- An item more: an error, how many, the items. -/
def comeV {α : Type} (k : RecK α) (room : Int) (L : List α) (x : α) : Int × Int × List α :=
  if (L.any fun y => k.name y == k.name x) = true then (262, 0, L) else if room ≤ (L.length : Int) then (5, 0, L) else (0, (L.length : Int) + 1, L ++ [x])
/-- One less. -/
def loseV {α : Type} (k : RecK α) (L : List α) (i : Nat) : Int × Int × List α :=
  if (L.any fun y => k.name y == i) = true then (0, ((L.filter fun y => k.name y != i).length : Int), L.filter fun y => k.name y != i) else (263, 0, L)
def opPt (o : OpV) : PtV := ⟨o.a, o.b, o.id⟩
def opSp (o : OpV) : SpV := ⟨o.a, o.b, o.id⟩
def opBx (o : OpV) : BxV := ⟨o.a, o.b, o.c, o.d, o.id⟩
/-- What comes of an operation by which something comes, or goes. -/
def changeR (o : OpV) (M : ModV) : Int × Int × ModV :=
  if o.k = 1 then ((comeV ptK M.room M.pts (opPt o)).1, (comeV ptK M.room M.pts (opPt o)).2.1, { M with pts := (comeV ptK M.room M.pts (opPt o)).2.2 })
  else if o.k = 2 then (if rightB o.a o.b = false then (261, 0, M) else ((comeV spK M.room M.sps (opSp o)).1, (comeV spK M.room M.sps (opSp o)).2.1, { M with sps := (comeV spK M.room M.sps (opSp o)).2.2 }))
  else if o.k = 3 then (if rightBoxB o.a o.b o.c o.d = false then (261, 0, M) else ((comeV bxK M.room M.bxs (opBx o)).1, (comeV bxK M.room M.bxs (opBx o)).2.1, { M with bxs := (comeV bxK M.room M.bxs (opBx o)).2.2 }))
  else if o.k = 4 then ((loseV ptK M.pts o.id).1, (loseV ptK M.pts o.id).2.1, { M with pts := (loseV ptK M.pts o.id).2.2 })
  else if o.k = 5 then ((loseV spK M.sps o.id).1, (loseV spK M.sps o.id).2.1, { M with sps := (loseV spK M.sps o.id).2.2 })
  else ((loseV bxK M.bxs o.id).1, (loseV bxK M.bxs o.id).2.1, { M with bxs := (loseV bxK M.bxs o.id).2.2 })
section
variable {W : World} {m p s b q : Nat} {M : ModV}
theorem ModelAt.more (h : ModelAt W m p s b q M) : ModelAt W m p s b (q + 1) M := ⟨h.blk, h.pts.more (Nat.le_succ q), h.sps.more (Nat.le_succ q), h.bxs.more (Nat.le_succ q), h.ord⟩
/-- The model, turned: an error, how many, the model behind. -/
def TurnedM (w : World) (m p s b q : Nat) (er c : Int) (M' : ModV) (e : Ending) (w' : World) : Prop :=
  e = .returned (repE er c) ∧ ModelAt w' m p s b q M' ∧ Turned (fun i => i = p ∨ i = s ∨ i = b) w w'
theorem ptComeM (h : ModelAt W m p s b q M) (x : PtV) (hx : x.id < 4294967296) (hq : q < 1000000000) : Calls Tryz.prog 98 #[.map (some p), .int .i64 M.room, .int .u32 (x.id : Int), .agg x.cells] W
    (TurnedM W m p s b (q + 1) (comeV ptK M.room M.pts x).1 (comeV ptK M.room M.pts x).2.1 { M with pts := (comeV ptK M.room M.pts x).2.2 }) := by
  have ho := h.ord
  refine (ptCome_any M.pts p q M.room x hx hq W h.pts).mono ?_
  rintro e w1 (⟨ha, rfl, hm, hb⟩ | ⟨ha, hr, rfl, hm, hb⟩ | ⟨ha, hr, rfl, hm, hg⟩)
  · rw [show comeV ptK M.room M.pts x = (262, 0, M.pts) from if_pos ha]
    exact ⟨rfl, (h.later hb).more, Turned.mono (may := fun _ => False) (Turned.of_below hb) fun _ f => f.elim⟩
  · rw [show comeV ptK M.room M.pts x = (5, 0, M.pts) from (if_neg (by show ¬ (M.pts.any fun y => y.id == x.id) = true; rw [ha]; simp)).trans (if_pos hr)]
    exact ⟨rfl, (h.later hb).more, Turned.mono (may := fun _ => False) (Turned.of_below hb) fun _ f => f.elim⟩
  · rw [show comeV ptK M.room M.pts x = (0, (M.pts.length : Int) + 1, M.pts ++ [x]) from (if_neg (by show ¬ (M.pts.any fun y => y.id == x.id) = true; rw [ha]; simp)).trans (if_neg (by omega))]
    have hT : Turned (fun i => i = p) W w1 := Turned.of_grown hg fun g e => (Option.some.inj e).symm
    have h' := h.more
    exact ⟨rfl, ⟨h.blk.turned hT (by omega), hm, (h'.sps.turned hT (by omega)), (h'.bxs.turned hT (by omega)), h.ord⟩, hT.mono fun i e => .inl e⟩
theorem ptLoseM (h : ModelAt W m p s b q M) (i : Nat) (hi : i < 4294967296) : Calls Tryz.prog 101 #[.map (some p), .int .u32 (i : Int)] W
    (TurnedM W m p s b (q + 1) (loseV ptK M.pts i).1 (loseV ptK M.pts i).2.1 { M with pts := (loseV ptK M.pts i).2.2 }) := by
  have ho := h.ord
  refine (ptLose_any M.pts p q i hi W h.pts).mono ?_
  rintro e w1 (⟨ha, rfl, hm, hb⟩ | ⟨ha, rfl, hm, hg⟩)
  · rw [show loseV ptK M.pts i = (263, 0, M.pts) from if_neg (by show ¬ (M.pts.any fun y => y.id == i) = true; rw [ha]; simp)]
    exact ⟨rfl, (h.later hb).more, Turned.mono (may := fun _ => False) (Turned.of_below hb) fun _ f => f.elim⟩
  · rw [show loseV ptK M.pts i = (0, ((M.pts.filter fun y => y.id != i).length : Int), M.pts.filter fun y => y.id != i) from if_pos ha]
    have hT : Turned (fun i => i = p) W w1 := Turned.of_grown hg fun g e => (Option.some.inj e).symm
    have h' := h.more
    have hm := hm.more (Nat.le_succ q)
    exact ⟨rfl, ⟨h.blk.turned hT (by omega), hm, (h'.sps.turned hT (by omega)), (h'.bxs.turned hT (by omega)), h.ord⟩, hT.mono fun i e => .inl e⟩
theorem spComeM (h : ModelAt W m p s b q M) (x : SpV) (hx : x.id < 4294967296) (hq : q < 1000000000) : Calls Tryz.prog 99 #[.map (some s), .int .i64 M.room, .int .u32 (x.id : Int), .agg x.cells] W
    (TurnedM W m p s b (q + 1) (comeV spK M.room M.sps x).1 (comeV spK M.room M.sps x).2.1 { M with sps := (comeV spK M.room M.sps x).2.2 }) := by
  have ho := h.ord
  refine (spCome_any M.sps s q M.room x hx hq W h.sps).mono ?_
  rintro e w1 (⟨ha, rfl, hm, hb⟩ | ⟨ha, hr, rfl, hm, hb⟩ | ⟨ha, hr, rfl, hm, hg⟩)
  · rw [show comeV spK M.room M.sps x = (262, 0, M.sps) from if_pos ha]
    exact ⟨rfl, (h.later hb).more, Turned.mono (may := fun _ => False) (Turned.of_below hb) fun _ f => f.elim⟩
  · rw [show comeV spK M.room M.sps x = (5, 0, M.sps) from (if_neg (by show ¬ (M.sps.any fun y => y.id == x.id) = true; rw [ha]; simp)).trans (if_pos hr)]
    exact ⟨rfl, (h.later hb).more, Turned.mono (may := fun _ => False) (Turned.of_below hb) fun _ f => f.elim⟩
  · rw [show comeV spK M.room M.sps x = (0, (M.sps.length : Int) + 1, M.sps ++ [x]) from (if_neg (by show ¬ (M.sps.any fun y => y.id == x.id) = true; rw [ha]; simp)).trans (if_neg (by omega))]
    have hT : Turned (fun i => i = s) W w1 := Turned.of_grown hg fun g e => (Option.some.inj e).symm
    have h' := h.more
    exact ⟨rfl, ⟨h.blk.turned hT (by omega), (h'.pts.turned hT (by omega)), hm, (h'.bxs.turned hT (by omega)), h.ord⟩, hT.mono fun i e => .inr (.inl e)⟩
theorem spLoseM (h : ModelAt W m p s b q M) (i : Nat) (hi : i < 4294967296) : Calls Tryz.prog 102 #[.map (some s), .int .u32 (i : Int)] W
    (TurnedM W m p s b (q + 1) (loseV spK M.sps i).1 (loseV spK M.sps i).2.1 { M with sps := (loseV spK M.sps i).2.2 }) := by
  have ho := h.ord
  refine (spLose_any M.sps s q i hi W h.sps).mono ?_
  rintro e w1 (⟨ha, rfl, hm, hb⟩ | ⟨ha, rfl, hm, hg⟩)
  · rw [show loseV spK M.sps i = (263, 0, M.sps) from if_neg (by show ¬ (M.sps.any fun y => y.id == i) = true; rw [ha]; simp)]
    exact ⟨rfl, (h.later hb).more, Turned.mono (may := fun _ => False) (Turned.of_below hb) fun _ f => f.elim⟩
  · rw [show loseV spK M.sps i = (0, ((M.sps.filter fun y => y.id != i).length : Int), M.sps.filter fun y => y.id != i) from if_pos ha]
    have hT : Turned (fun i => i = s) W w1 := Turned.of_grown hg fun g e => (Option.some.inj e).symm
    have h' := h.more
    have hm := hm.more (Nat.le_succ q)
    exact ⟨rfl, ⟨h.blk.turned hT (by omega), (h'.pts.turned hT (by omega)), hm, (h'.bxs.turned hT (by omega)), h.ord⟩, hT.mono fun i e => .inr (.inl e)⟩
theorem bxComeM (h : ModelAt W m p s b q M) (x : BxV) (hx : x.id < 4294967296) (hq : q < 1000000000) : Calls Tryz.prog 100 #[.map (some b), .int .i64 M.room, .int .u32 (x.id : Int), .agg x.cells] W
    (TurnedM W m p s b (q + 1) (comeV bxK M.room M.bxs x).1 (comeV bxK M.room M.bxs x).2.1 { M with bxs := (comeV bxK M.room M.bxs x).2.2 }) := by
  have ho := h.ord
  refine (bxCome_any M.bxs b q M.room x hx hq W h.bxs).mono ?_
  rintro e w1 (⟨ha, rfl, hm, hb⟩ | ⟨ha, hr, rfl, hm, hb⟩ | ⟨ha, hr, rfl, hm, hg⟩)
  · rw [show comeV bxK M.room M.bxs x = (262, 0, M.bxs) from if_pos ha]
    exact ⟨rfl, (h.later hb).more, Turned.mono (may := fun _ => False) (Turned.of_below hb) fun _ f => f.elim⟩
  · rw [show comeV bxK M.room M.bxs x = (5, 0, M.bxs) from (if_neg (by show ¬ (M.bxs.any fun y => y.id == x.id) = true; rw [ha]; simp)).trans (if_pos hr)]
    exact ⟨rfl, (h.later hb).more, Turned.mono (may := fun _ => False) (Turned.of_below hb) fun _ f => f.elim⟩
  · rw [show comeV bxK M.room M.bxs x = (0, (M.bxs.length : Int) + 1, M.bxs ++ [x]) from (if_neg (by show ¬ (M.bxs.any fun y => y.id == x.id) = true; rw [ha]; simp)).trans (if_neg (by omega))]
    have hT : Turned (fun i => i = b) W w1 := Turned.of_grown hg fun g e => (Option.some.inj e).symm
    have h' := h.more
    exact ⟨rfl, ⟨h.blk.turned hT (by omega), (h'.pts.turned hT (by omega)), (h'.sps.turned hT (by omega)), hm, h.ord⟩, hT.mono fun i e => .inr (.inr e)⟩
theorem bxLoseM (h : ModelAt W m p s b q M) (i : Nat) (hi : i < 4294967296) : Calls Tryz.prog 103 #[.map (some b), .int .u32 (i : Int)] W
    (TurnedM W m p s b (q + 1) (loseV bxK M.bxs i).1 (loseV bxK M.bxs i).2.1 { M with bxs := (loseV bxK M.bxs i).2.2 }) := by
  have ho := h.ord
  refine (bxLose_any M.bxs b q i hi W h.bxs).mono ?_
  rintro e w1 (⟨ha, rfl, hm, hb⟩ | ⟨ha, rfl, hm, hg⟩)
  · rw [show loseV bxK M.bxs i = (263, 0, M.bxs) from if_neg (by show ¬ (M.bxs.any fun y => y.id == i) = true; rw [ha]; simp)]
    exact ⟨rfl, (h.later hb).more, Turned.mono (may := fun _ => False) (Turned.of_below hb) fun _ f => f.elim⟩
  · rw [show loseV bxK M.bxs i = (0, ((M.bxs.filter fun y => y.id != i).length : Int), M.bxs.filter fun y => y.id != i) from if_pos ha]
    have hT : Turned (fun i => i = b) W w1 := Turned.of_grown hg fun g e => (Option.some.inj e).symm
    have h' := h.more
    have hm := hm.more (Nat.le_succ q)
    exact ⟨rfl, ⟨h.blk.turned hT (by omega), (h'.pts.turned hT (by omega)), (h'.sps.turned hT (by omega)), hm, h.ord⟩, hT.mono fun i e => .inr (.inr e)⟩
end
/-- The variables of change. -/
structure ChgSt (w W : World) (m p s b q : Nat) (M : ModV) (o : OpV) (bo br bs bb : Nat) : Prop where
  mod : ModelAt W m p s b q M
  op : OpB W bo o
  rep : Blk W br 33 rep0
  sp : Blk W bs 67 (opSp o).cells
  bx : BxB W bb (opBx o)
  below : Below w.heap.size w W
  ge : w.heap.size ≤ br
  ne : br ≠ m ∧ br ≠ p ∧ br ≠ s ∧ br ≠ b
theorem ChgSt.later {w W W' : World} {m p s b q : Nat} {M : ModV} {o : OpV} {bo br bs bb : Nat} (h : ChgSt w W m p s b q M o bo br bs bb) (hb : Below W.heap.size W W') : ChgSt w W' m p s b q M o bo br bs bb :=
  ⟨h.mod.later hb, Blk.below h.op hb (Blk.lt h.op), h.rep.below hb h.rep.lt, h.sp.below hb h.sp.lt, Blk.below h.bx hb (Blk.lt h.bx), bl h.below h.below.size hb, h.ge, h.ne⟩
theorem chg_of {w V : World} {m p s b q : Nat} {M : ModV} {o : OpV} {bo br : Nat} (h : OthSt w V m p s b q M o bo br) (hb : m < w.heap.size) :
    ChgSt w ((V.alloc (.cells (opSp o).cells 67)).alloc (.cells (opBx o).cells 71)).drew m p s b q M o bo br V.heap.size (V.heap.size + 1) ∧
    ChgSt w ((V.alloc (.cells (opBx o).cells 71)).alloc (.cells (opSp o).cells 67)).drew m p s b q M o bo br (V.heap.size + 1) V.heap.size := by
  have ho := h.mod.ord
  have hge := h.ge
  have al : ∀ x y : Obj, Below V.heap.size V ((V.alloc x).alloc y).drew := fun x y => (((Below.refl _ _).alloc (Nat.le_refl _) x).alloc (by simp) y).drew
  have h1 := Blk.new (V.alloc (.cells (opSp o).cells 67)) 71 (opBx o).cells
  have h2 := Blk.new (V.alloc (.cells (opBx o).cells 71)) 67 (opSp o).cells
  simp only [World.size_alloc] at h1 h2
  exact ⟨⟨h.mod.later (al _ _), Blk.below h.op (al _ _) (Blk.lt h.op), h.rep.below (al _ _) h.rep.lt, ((Blk.new V _ _).alloc _).drew, Blk.drew h1, bl h.below h.below.size (al _ _), h.ge, ⟨by omega, by omega, by omega, by omega⟩⟩,
    ⟨h.mod.later (al _ _), Blk.below h.op (al _ _) (Blk.lt h.op), h.rep.below (al _ _) h.rep.lt, h2.drew, Blk.drew ((Blk.new V _ _).alloc _), bl h.below h.below.size (al _ _), h.ge, ⟨by omega, by omega, by omega, by omega⟩⟩⟩
/-- The reply's block is written. -/
theorem chg_end {w W w1 : World} {m p s b q q' : Nat} {M M' : ModV} {o : OpV} {bo br bs bb : Nat} (h : ChgSt w W m p s b q M o bo br bs bb) (hM : ModelAt w1 m p s b q' M') (hT : Turned (fun i => i = p ∨ i = s ∨ i = b) W w1) (v0 v1 v2 v3 v4 v5 : Value) :
    ModelAt ((((((w1.setCell ⟨br, 0, none⟩ v0).setCell ⟨br, 1, none⟩ v1).setCell ⟨br, 2, none⟩ v2).setCell ⟨br, 3, none⟩ v3).setCell ⟨br, 4, none⟩ v4).setCell ⟨br, 5, none⟩ v5) m p s b q' M' ∧
    Turned (fun i => i = p ∨ i = s ∨ i = b) w ((((((w1.setCell ⟨br, 0, none⟩ v0).setCell ⟨br, 1, none⟩ v1).setCell ⟨br, 2, none⟩ v2).setCell ⟨br, 3, none⟩ v3).setCell ⟨br, 4, none⟩ v4).setCell ⟨br, 5, none⟩ v5) := by
  have f : ∀ {W : World}, ModelAt W m p s b q' M' → ∀ (j : Nat) (v : Value), ModelAt (W.setCell ⟨br, j, none⟩ v) m p s b q' M' := fun g j v => g.far h.ne.1 h.ne.2.1 h.ne.2.2.1 h.ne.2.2.2 v
  have T : Turned (fun i => i = p ∨ i = s ∨ i = b) w w1 := Turned.then_ (may' := fun i => i = p ∨ i = s ∨ i = b) ⟨h.below.os, h.below.tape, h.below.output, h.below.size, fun i hi _ => h.below.block i hi⟩ hT (fun i g _ => g)
  have t : ∀ {W : World}, Turned (fun i => i = p ∨ i = s ∨ i = b) w W → ∀ (j : Nat) (v : Value), Turned (fun i => i = p ∨ i = s ∨ i = b) w (W.setCell ⟨br, j, none⟩ v) := fun g j v => g.setCell (.inr h.ge) v
  exact ⟨f (f (f (f (f (f hM 0 v0) 1 v1) 2 v2) 3 v3) 4 v4) 5 v5, t (t (t (t (t (t T 0 v0) 1 v1) 2 v2) 3 v3) 4 v4) 5 v5⟩
set_option maxRecDepth 100000 in
set_option maxHeartbeats 8000000 in
theorem change_1 (a c1 c2 c3 : Int) (id : Nat) (hid : id < 4294967296) (m p s b q : Nat) (M : ModV) (hq : q < 1000000000) (w : World) (hM : ModelAt w m p s b q M) :
    Calls Tryz.prog 70 #[ptr m, (OpV.mk 1 a c1 c2 c3 id).val] w (TurnedM w m p s b (q + 1) (changeR ⟨1, a, c1, c2, c3, id⟩ M).1 (changeR ⟨1, a, c1, c2, c3, id⟩ M).2.1 (changeR ⟨1, a, c1, c2, c3, id⟩ M).2.2) := by
  have HS0 := Lib.hid (OthSt.start hM ⟨1, a, c1, c2, c3, id⟩)
  have HLT := Lib.hid hM.blk.lt
  clear hM
  obtain ⟨X, hX⟩ : ∃ X, changeR ⟨1, a, c1, c2, c3, id⟩ M = X := ⟨_, rfl⟩
  rw [hX]
  have HX := Lib.hid hX
  clear hX
  go_enter Tryz.func70, Tryz.ntmps70
  go_upto_region 1 with fail
  generalize (w.alloc _).alloc _ = V at HS0 ⊢
  go_cut [5, 6] (fun v5 v6 wc => ∃ bs bb, v5 = ptr bs ∧ v6 = ptr bb ∧ Hid (ChgSt w wc m p s b q M ⟨1, a, c1, c2, c3, id⟩ w.heap.size (w.heap.size + 1) bs bb))
  case first =>
    refine wp_region_until (fun w' => Below V.heap.size V w') [0, 1, 2, 3, 4, 5, 6, 7, 8, 9, 10, 11, 12, 13, 14, 15, 16, 17, 18, 19, 20, 21] (by kernel_rfl) ?_
    have hS : (fun w' => Below V.heap.size V w') V.drew := (Below.refl _ _).drew
    refine wpAnyG_take (i := 0) rfl (by kernel_rfl) (by kernel_rfl) (by kernel_rfl) (by kernel_rfl) (by kernel_rfl) (by kernel_rfl) (fun _ _ _ h => h) rfl (by intro w' hb; go_simp; try rfl) hS ?_
    (try simp only [Act.put, List.getElem_toArray, List.getElem_cons_succ, List.getElem_cons_zero, List.setIfInBounds_toArray, List.set_cons_zero, List.set_cons_succ])
    refine wpAnyG_take (i := 1) rfl (by kernel_rfl) (by kernel_rfl) (by kernel_rfl) (by kernel_rfl) (by kernel_rfl) (by kernel_rfl) (fun _ _ _ h => h) rfl (by intro w' hb; obtain ⟨c0, c1, c2, c3, c4, c5⟩ := op_cellsM (Blk.below HS0.out.op hb (Blk.lt HS0.out.op)); go_simp; try rfl) hS ?_
    (try simp only [Act.put, List.getElem_toArray, List.getElem_cons_succ, List.getElem_cons_zero, List.setIfInBounds_toArray, List.set_cons_zero, List.set_cons_succ])
    refine wpAnyG_take (i := 2) rfl (by kernel_rfl) (by kernel_rfl) (by kernel_rfl) (by kernel_rfl) (by kernel_rfl) (by kernel_rfl) (fun _ _ _ h => h) rfl (by intro w' hb; go_simp; try rfl) hS ?_
    (try simp only [Act.put, List.getElem_toArray, List.getElem_cons_succ, List.getElem_cons_zero, List.setIfInBounds_toArray, List.set_cons_zero, List.set_cons_succ])
    refine wpAnyG_take (i := 3) rfl (by kernel_rfl) (by kernel_rfl) (by kernel_rfl) (by kernel_rfl) (by kernel_rfl) (by kernel_rfl) (fun _ _ _ h => h) rfl (by intro w' hb; obtain ⟨c0, c1, c2, c3, c4, c5⟩ := op_cellsM (Blk.below HS0.out.op hb (Blk.lt HS0.out.op)); go_simp; try rfl) hS ?_
    (try simp only [Act.put, List.getElem_toArray, List.getElem_cons_succ, List.getElem_cons_zero, List.setIfInBounds_toArray, List.set_cons_zero, List.set_cons_succ])
    refine wpAnyG_take (i := 4) rfl (by kernel_rfl) (by kernel_rfl) (by kernel_rfl) (by kernel_rfl) (by kernel_rfl) (by kernel_rfl) (fun _ _ _ h => h) rfl (by intro w' hb; go_simp; try rfl) hS ?_
    (try simp only [Act.put, List.getElem_toArray, List.getElem_cons_succ, List.getElem_cons_zero, List.setIfInBounds_toArray, List.set_cons_zero, List.set_cons_succ])
    refine wpAnyG_take (i := 5) rfl (by kernel_rfl) (by kernel_rfl) (by kernel_rfl) (by kernel_rfl) (by kernel_rfl) (by kernel_rfl) (fun _ _ _ h => h) rfl (by intro w' hb; obtain ⟨c0, c1, c2, c3, c4, c5⟩ := op_cellsM (Blk.below HS0.out.op hb (Blk.lt HS0.out.op)); go_simp; try rfl) hS ?_
    (try simp only [Act.put, List.getElem_toArray, List.getElem_cons_succ, List.getElem_cons_zero, List.setIfInBounds_toArray, List.set_cons_zero, List.set_cons_succ])
    refine wpAnyG_take (i := 6) rfl (by kernel_rfl) (by kernel_rfl) (by kernel_rfl) (by kernel_rfl) (by kernel_rfl) (by kernel_rfl) (fun _ _ _ h => h) rfl (by intro w' hb; go_simp; try rfl) hS ?_
    (try simp only [Act.put, List.getElem_toArray, List.getElem_cons_succ, List.getElem_cons_zero, List.setIfInBounds_toArray, List.set_cons_zero, List.set_cons_succ])
    refine wpAnyG_take (i := 7) rfl (by kernel_rfl) (by kernel_rfl) (by kernel_rfl) (by kernel_rfl) (by kernel_rfl) (by kernel_rfl) (fun _ _ _ h => h) rfl (by intro w' hb; go_simp; try rfl) hS ?_
    (try simp only [Act.put, List.getElem_toArray, List.getElem_cons_succ, List.getElem_cons_zero, List.setIfInBounds_toArray, List.set_cons_zero, List.set_cons_succ])
    refine wpAnyG_take (i := 8) rfl (by kernel_rfl) (by kernel_rfl) (by kernel_rfl) (by kernel_rfl) (by kernel_rfl) (by kernel_rfl) (fun _ _ _ h => h) rfl (by intro w' hb; obtain ⟨c0, c1, c2, c3, c4, c5⟩ := op_cellsM (Blk.below HS0.out.op hb (Blk.lt HS0.out.op)); go_simp; try rfl) hS ?_
    (try simp only [Act.put, List.getElem_toArray, List.getElem_cons_succ, List.getElem_cons_zero, List.setIfInBounds_toArray, List.set_cons_zero, List.set_cons_succ])
    refine wpAnyG_take (i := 9) rfl (by kernel_rfl) (by kernel_rfl) (by kernel_rfl) (by kernel_rfl) (by kernel_rfl) (by kernel_rfl) (fun _ _ _ h => h) rfl (by intro w' hb; go_simp; try rfl) hS ?_
    (try simp only [Act.put, List.getElem_toArray, List.getElem_cons_succ, List.getElem_cons_zero, List.setIfInBounds_toArray, List.set_cons_zero, List.set_cons_succ])
    refine wpAnyG_take (i := 10) rfl (by kernel_rfl) (by kernel_rfl) (by kernel_rfl) (by kernel_rfl) (by kernel_rfl) (by kernel_rfl) (fun _ _ _ h => h) rfl (by intro w' hb; obtain ⟨c0, c1, c2, c3, c4, c5⟩ := op_cellsM (Blk.below HS0.out.op hb (Blk.lt HS0.out.op)); go_simp; try rfl) hS ?_
    (try simp only [Act.put, List.getElem_toArray, List.getElem_cons_succ, List.getElem_cons_zero, List.setIfInBounds_toArray, List.set_cons_zero, List.set_cons_succ])
    refine wpAnyG_take (i := 11) rfl (by kernel_rfl) (by kernel_rfl) (by kernel_rfl) (by kernel_rfl) (by kernel_rfl) (by kernel_rfl) (fun _ _ _ h => h) rfl (by intro w' hb; go_simp; try rfl) hS ?_
    (try simp only [Act.put, List.getElem_toArray, List.getElem_cons_succ, List.getElem_cons_zero, List.setIfInBounds_toArray, List.set_cons_zero, List.set_cons_succ])
    refine wpAnyG_take (i := 12) rfl (by kernel_rfl) (by kernel_rfl) (by kernel_rfl) (by kernel_rfl) (by kernel_rfl) (by kernel_rfl) (fun _ _ _ h => h) rfl (by intro w' hb; obtain ⟨c0, c1, c2, c3, c4, c5⟩ := op_cellsM (Blk.below HS0.out.op hb (Blk.lt HS0.out.op)); go_simp; try rfl) hS ?_
    (try simp only [Act.put, List.getElem_toArray, List.getElem_cons_succ, List.getElem_cons_zero, List.setIfInBounds_toArray, List.set_cons_zero, List.set_cons_succ])
    refine wpAnyG_take (i := 13) rfl (by kernel_rfl) (by kernel_rfl) (by kernel_rfl) (by kernel_rfl) (by kernel_rfl) (by kernel_rfl) (fun _ _ _ h => h) rfl (by intro w' hb; go_simp; try rfl) hS ?_
    (try simp only [Act.put, List.getElem_toArray, List.getElem_cons_succ, List.getElem_cons_zero, List.setIfInBounds_toArray, List.set_cons_zero, List.set_cons_succ])
    refine wpAnyG_take (i := 14) rfl (by kernel_rfl) (by kernel_rfl) (by kernel_rfl) (by kernel_rfl) (by kernel_rfl) (by kernel_rfl) (fun _ _ _ h => h) rfl (by intro w' hb; obtain ⟨c0, c1, c2, c3, c4, c5⟩ := op_cellsM (Blk.below HS0.out.op hb (Blk.lt HS0.out.op)); go_simp; try rfl) hS ?_
    (try simp only [Act.put, List.getElem_toArray, List.getElem_cons_succ, List.getElem_cons_zero, List.setIfInBounds_toArray, List.set_cons_zero, List.set_cons_succ])
    refine wpAnyG_take (i := 15) rfl (by kernel_rfl) (by kernel_rfl) (by kernel_rfl) (by kernel_rfl) (by kernel_rfl) (by kernel_rfl) (fun _ _ _ h => h) rfl (by intro w' hb; go_simp; try rfl) hS ?_
    (try simp only [Act.put, List.getElem_toArray, List.getElem_cons_succ, List.getElem_cons_zero, List.setIfInBounds_toArray, List.set_cons_zero, List.set_cons_succ])
    refine wpAnyG_take (i := 16) rfl (by kernel_rfl) (by kernel_rfl) (by kernel_rfl) (by kernel_rfl) (by kernel_rfl) (by kernel_rfl) (fun _ _ _ h => h) rfl (by intro w' hb; obtain ⟨c0, c1, c2, c3, c4, c5⟩ := op_cellsM (Blk.below HS0.out.op hb (Blk.lt HS0.out.op)); go_simp; try rfl) hS ?_
    (try simp only [Act.put, List.getElem_toArray, List.getElem_cons_succ, List.getElem_cons_zero, List.setIfInBounds_toArray, List.set_cons_zero, List.set_cons_succ])
    refine wpAnyG_take (i := 17) rfl (by kernel_rfl) (by kernel_rfl) (by kernel_rfl) (by kernel_rfl) (by kernel_rfl) (by kernel_rfl) (fun _ _ _ h => h) rfl (by intro w' hb; go_simp; try rfl) hS ?_
    (try simp only [Act.put, List.getElem_toArray, List.getElem_cons_succ, List.getElem_cons_zero, List.setIfInBounds_toArray, List.set_cons_zero, List.set_cons_succ])
    refine wpAnyG_two (i := 18) (j := 19) rfl rfl (by kernel_rfl) rfl rfl (fun K hK => ?_) (fun K hK => ?_)
    · go_simp
      refine hK.out _ _ (hS.alloc hS.size _) (fun hS => ?_)
      clear hK K
      (try simp only [Act.put, List.getElem_toArray, List.getElem_cons_succ, List.getElem_cons_zero, List.setIfInBounds_toArray, List.set_cons_zero, List.set_cons_succ])
      refine wpAnyG_step (i := 19) rfl (by kernel_rfl) rfl (fun K hK => ?_)
      go_simp
      refine hK.out _ _ (hS.alloc hS.size _) (fun hS => ?_)
      clear hK K
      (try simp only [Act.put, List.getElem_toArray, List.getElem_cons_succ, List.getElem_cons_zero, List.setIfInBounds_toArray, List.set_cons_zero, List.set_cons_succ])
      refine wpAnyG_step (i := 20) rfl (by kernel_rfl) rfl (fun K hK => ?_)
      go_simp
      refine hK.out _ _ (Below.drew (((Below.refl _ _).alloc (Nat.le_refl _) _).alloc (by simp) _)) (fun hS => ?_)
      clear hK K
      (try simp only [Act.put, List.getElem_toArray, List.getElem_cons_succ, List.getElem_cons_zero, List.setIfInBounds_toArray, List.set_cons_zero, List.set_cons_succ])
      refine wpAnyG_step (i := 21) rfl (by kernel_rfl) rfl (fun K hK => ?_)
      go_simp
      refine hK.out _ _ (Below.drew (((Below.refl _ _).alloc (Nat.le_refl _) _).alloc (by simp) _)) (fun hS => ?_)
      clear hK K
      (try simp only [Act.put, List.getElem_toArray, List.getElem_cons_succ, List.getElem_cons_zero, List.setIfInBounds_toArray, List.set_cons_zero, List.set_cons_succ])
      refine wpAnyU_done (by kernel_rfl) ?_ _
      clear hS
      go_wp2_with fail
      go_meet
      case rel => exact ⟨_, _, rfl, rfl, Lib.hid (chg_of HS0.out HLT.out).1⟩
    · go_simp
      refine hK.out _ _ (hS.alloc hS.size _) (fun hS => ?_)
      clear hK K
      (try simp only [Act.put, List.getElem_toArray, List.getElem_cons_succ, List.getElem_cons_zero, List.setIfInBounds_toArray, List.set_cons_zero, List.set_cons_succ])
      refine wpAnyG_step (i := 18) rfl (by kernel_rfl) rfl (fun K hK => ?_)
      go_simp
      refine hK.out _ _ (hS.alloc hS.size _) (fun hS => ?_)
      clear hK K
      (try simp only [Act.put, List.getElem_toArray, List.getElem_cons_succ, List.getElem_cons_zero, List.setIfInBounds_toArray, List.set_cons_zero, List.set_cons_succ])
      refine wpAnyG_step (i := 20) rfl (by kernel_rfl) rfl (fun K hK => ?_)
      go_simp
      refine hK.out _ _ (Below.drew (((Below.refl _ _).alloc (Nat.le_refl _) _).alloc (by simp) _)) (fun hS => ?_)
      clear hK K
      (try simp only [Act.put, List.getElem_toArray, List.getElem_cons_succ, List.getElem_cons_zero, List.setIfInBounds_toArray, List.set_cons_zero, List.set_cons_succ])
      refine wpAnyG_step (i := 21) rfl (by kernel_rfl) rfl (fun K hK => ?_)
      go_simp
      refine hK.out _ _ (Below.drew (((Below.refl _ _).alloc (Nat.le_refl _) _).alloc (by simp) _)) (fun hS => ?_)
      clear hK K
      (try simp only [Act.put, List.getElem_toArray, List.getElem_cons_succ, List.getElem_cons_zero, List.setIfInBounds_toArray, List.set_cons_zero, List.set_cons_succ])
      refine wpAnyU_done (by kernel_rfl) ?_ _
      clear hS
      go_wp2_with fail
      go_meet
      case rel => exact ⟨_, _, rfl, rfl, Lib.hid (chg_of HS0.out HLT.out).2⟩
  case rest =>
    obtain ⟨bs, bb, rfl, rfl, HS⟩ := hcut
    clear HS0
    generalize w.heap.size = bo at HS ⊢
    obtain ⟨br, hbr⟩ : ∃ br, bo + 1 = br := ⟨_, rfl⟩
    rw [hbr] at HS ⊢
    clear hbr
    obtain ⟨c0, c1', c2', c3', c4', c5'⟩ := op_cellsM HS.out.op
    obtain ⟨d0, d1, d2⟩ : wc.cell? ⟨bs, 0, none⟩ = some (.int .i64 a) ∧ wc.cell? ⟨bs, 1, none⟩ = some (.int .i64 c1) ∧ wc.cell? ⟨bs, 2, none⟩ = some (.int .u32 (id : Int)) := ⟨HS.out.sp.cell 0, HS.out.sp.cell 1, HS.out.sp.cell 2⟩
    obtain ⟨x0, x1, x2, x3, x4⟩ := bx_cells HS.out.bx
    have m0 : wc.cell? ⟨m, 0, none⟩ = some (.int .i64 M.room) := HS.out.mod.blk.cell 0
    have m1 : wc.cell? ⟨m, 1, none⟩ = some (.map (some p)) := HS.out.mod.blk.cell 1
    have m2 : wc.cell? ⟨m, 2, none⟩ = some (.map (some s)) := HS.out.mod.blk.cell 2
    have m3 : wc.cell? ⟨m, 3, none⟩ = some (.map (some b)) := HS.out.mod.blk.cell 3
    go_upto_region 4 with fail
    go_still_tail 17, (by kernel_rfl)
    change wpList _ _ _ _ _ wc.drew
    replace HS := Lib.hid (HS.out.later ((Below.refl _ _).drew))
    generalize wc.drew = W1 at HS ⊢
    clear c0 c1' c2' c3' c4' c5' d0 d1 d2 x0 x1 x2 x3 x4 m0 m1 m2 m3
    go_wp2_with fail
    refine (ptComeM HS.out.mod (opPt ⟨1, a, c1, c2, c3, id⟩) hid hq).mono ?_
    rintro e w2 ⟨rfl, hM2, hT2⟩
    have HR := Lib.hid (show X = ((comeV ptK M.room M.pts (opPt ⟨1, a, c1, c2, c3, id⟩)).1, (comeV ptK M.room M.pts (opPt ⟨1, a, c1, c2, c3, id⟩)).2.1, { M with pts := (comeV ptK M.room M.pts (opPt ⟨1, a, c1, c2, c3, id⟩)).2.2 }) from HX.out.symm.trans rfl)
    generalize (comeV ptK M.room M.pts (opPt ⟨1, a, c1, c2, c3, id⟩)).1 = er at hM2 hT2 HR ⊢
    generalize (comeV ptK M.room M.pts (opPt ⟨1, a, c1, c2, c3, id⟩)).2.1 = cn at hM2 hT2 HR ⊢
    generalize (comeV ptK M.room M.pts (opPt ⟨1, a, c1, c2, c3, id⟩)).2.2 = M2 at hM2 hT2 HR ⊢
    have HF := Lib.hid (fun v0 v1 v2 v3 v4 v5 => chg_end HS.out hM2 hT2 v0 v1 v2 v3 v4 v5)
    obtain ⟨r0, r1, r2, r3, r4, r5⟩ := rep_cells (HS.out.rep.turned hT2 (by rintro (e | e | e); exact HS.out.ne.2.1 e; exact HS.out.ne.2.2.1 e; exact HS.out.ne.2.2.2 e))
    have f := Blk.frozen (HS.out.rep.turned hT2 (by rintro (e | e | e); exact HS.out.ne.2.1 e; exact HS.out.ne.2.2.1 e; exact HS.out.ne.2.2.2 e))
    clear hM2 hT2
    go_wp2_with fail
    exact bodyPost_ret (v := repE er cn) (by simp [results, Tryz.results70, go_sem, r0, r1, r2, r3, r4, r5]) rfl (by rw [HR.out]; exact ⟨rfl, HF.out _ _ _ _ _ _⟩)
set_option maxRecDepth 100000 in
set_option maxHeartbeats 8000000 in
theorem change_2 (a c1 c2 c3 : Int) (id : Nat) (hid : id < 4294967296) (m p s b q : Nat) (M : ModV) (hq : q < 1000000000) (w : World) (hM : ModelAt w m p s b q M) :
    Calls Tryz.prog 70 #[ptr m, (OpV.mk 2 a c1 c2 c3 id).val] w (TurnedM w m p s b (q + 1) (changeR ⟨2, a, c1, c2, c3, id⟩ M).1 (changeR ⟨2, a, c1, c2, c3, id⟩ M).2.1 (changeR ⟨2, a, c1, c2, c3, id⟩ M).2.2) := by
  have HS0 := Lib.hid (OthSt.start hM ⟨2, a, c1, c2, c3, id⟩)
  have HLT := Lib.hid hM.blk.lt
  clear hM
  obtain ⟨X, hX⟩ : ∃ X, changeR ⟨2, a, c1, c2, c3, id⟩ M = X := ⟨_, rfl⟩
  rw [hX]
  have HX := Lib.hid hX
  clear hX
  obtain ⟨t, ht⟩ : ∃ t, rightB a c1 = t := ⟨_, rfl⟩
  have HT := Lib.hid (fun w => asv (RightSpan_any a c1 (id : Int)) (congrArg Value.bool ht) w)
  have HTT := Lib.hid ht
  clear ht
  go_enter Tryz.func70, Tryz.ntmps70
  go_upto_region 1 with fail
  generalize (w.alloc _).alloc _ = V at HS0 ⊢
  go_cut [5, 6] (fun v5 v6 wc => ∃ bs bb, v5 = ptr bs ∧ v6 = ptr bb ∧ Hid (ChgSt w wc m p s b q M ⟨2, a, c1, c2, c3, id⟩ w.heap.size (w.heap.size + 1) bs bb))
  case first =>
    refine wp_region_until (fun w' => Below V.heap.size V w') [0, 1, 2, 3, 4, 5, 6, 7, 8, 9, 10, 11, 12, 13, 14, 15, 16, 17, 18, 19, 20, 21] (by kernel_rfl) ?_
    have hS : (fun w' => Below V.heap.size V w') V.drew := (Below.refl _ _).drew
    refine wpAnyG_take (i := 0) rfl (by kernel_rfl) (by kernel_rfl) (by kernel_rfl) (by kernel_rfl) (by kernel_rfl) (by kernel_rfl) (fun _ _ _ h => h) rfl (by intro w' hb; go_simp; try rfl) hS ?_
    (try simp only [Act.put, List.getElem_toArray, List.getElem_cons_succ, List.getElem_cons_zero, List.setIfInBounds_toArray, List.set_cons_zero, List.set_cons_succ])
    refine wpAnyG_take (i := 1) rfl (by kernel_rfl) (by kernel_rfl) (by kernel_rfl) (by kernel_rfl) (by kernel_rfl) (by kernel_rfl) (fun _ _ _ h => h) rfl (by intro w' hb; obtain ⟨c0, c1, c2, c3, c4, c5⟩ := op_cellsM (Blk.below HS0.out.op hb (Blk.lt HS0.out.op)); go_simp; try rfl) hS ?_
    (try simp only [Act.put, List.getElem_toArray, List.getElem_cons_succ, List.getElem_cons_zero, List.setIfInBounds_toArray, List.set_cons_zero, List.set_cons_succ])
    refine wpAnyG_take (i := 2) rfl (by kernel_rfl) (by kernel_rfl) (by kernel_rfl) (by kernel_rfl) (by kernel_rfl) (by kernel_rfl) (fun _ _ _ h => h) rfl (by intro w' hb; go_simp; try rfl) hS ?_
    (try simp only [Act.put, List.getElem_toArray, List.getElem_cons_succ, List.getElem_cons_zero, List.setIfInBounds_toArray, List.set_cons_zero, List.set_cons_succ])
    refine wpAnyG_take (i := 3) rfl (by kernel_rfl) (by kernel_rfl) (by kernel_rfl) (by kernel_rfl) (by kernel_rfl) (by kernel_rfl) (fun _ _ _ h => h) rfl (by intro w' hb; obtain ⟨c0, c1, c2, c3, c4, c5⟩ := op_cellsM (Blk.below HS0.out.op hb (Blk.lt HS0.out.op)); go_simp; try rfl) hS ?_
    (try simp only [Act.put, List.getElem_toArray, List.getElem_cons_succ, List.getElem_cons_zero, List.setIfInBounds_toArray, List.set_cons_zero, List.set_cons_succ])
    refine wpAnyG_take (i := 4) rfl (by kernel_rfl) (by kernel_rfl) (by kernel_rfl) (by kernel_rfl) (by kernel_rfl) (by kernel_rfl) (fun _ _ _ h => h) rfl (by intro w' hb; go_simp; try rfl) hS ?_
    (try simp only [Act.put, List.getElem_toArray, List.getElem_cons_succ, List.getElem_cons_zero, List.setIfInBounds_toArray, List.set_cons_zero, List.set_cons_succ])
    refine wpAnyG_take (i := 5) rfl (by kernel_rfl) (by kernel_rfl) (by kernel_rfl) (by kernel_rfl) (by kernel_rfl) (by kernel_rfl) (fun _ _ _ h => h) rfl (by intro w' hb; obtain ⟨c0, c1, c2, c3, c4, c5⟩ := op_cellsM (Blk.below HS0.out.op hb (Blk.lt HS0.out.op)); go_simp; try rfl) hS ?_
    (try simp only [Act.put, List.getElem_toArray, List.getElem_cons_succ, List.getElem_cons_zero, List.setIfInBounds_toArray, List.set_cons_zero, List.set_cons_succ])
    refine wpAnyG_take (i := 6) rfl (by kernel_rfl) (by kernel_rfl) (by kernel_rfl) (by kernel_rfl) (by kernel_rfl) (by kernel_rfl) (fun _ _ _ h => h) rfl (by intro w' hb; go_simp; try rfl) hS ?_
    (try simp only [Act.put, List.getElem_toArray, List.getElem_cons_succ, List.getElem_cons_zero, List.setIfInBounds_toArray, List.set_cons_zero, List.set_cons_succ])
    refine wpAnyG_take (i := 7) rfl (by kernel_rfl) (by kernel_rfl) (by kernel_rfl) (by kernel_rfl) (by kernel_rfl) (by kernel_rfl) (fun _ _ _ h => h) rfl (by intro w' hb; go_simp; try rfl) hS ?_
    (try simp only [Act.put, List.getElem_toArray, List.getElem_cons_succ, List.getElem_cons_zero, List.setIfInBounds_toArray, List.set_cons_zero, List.set_cons_succ])
    refine wpAnyG_take (i := 8) rfl (by kernel_rfl) (by kernel_rfl) (by kernel_rfl) (by kernel_rfl) (by kernel_rfl) (by kernel_rfl) (fun _ _ _ h => h) rfl (by intro w' hb; obtain ⟨c0, c1, c2, c3, c4, c5⟩ := op_cellsM (Blk.below HS0.out.op hb (Blk.lt HS0.out.op)); go_simp; try rfl) hS ?_
    (try simp only [Act.put, List.getElem_toArray, List.getElem_cons_succ, List.getElem_cons_zero, List.setIfInBounds_toArray, List.set_cons_zero, List.set_cons_succ])
    refine wpAnyG_take (i := 9) rfl (by kernel_rfl) (by kernel_rfl) (by kernel_rfl) (by kernel_rfl) (by kernel_rfl) (by kernel_rfl) (fun _ _ _ h => h) rfl (by intro w' hb; go_simp; try rfl) hS ?_
    (try simp only [Act.put, List.getElem_toArray, List.getElem_cons_succ, List.getElem_cons_zero, List.setIfInBounds_toArray, List.set_cons_zero, List.set_cons_succ])
    refine wpAnyG_take (i := 10) rfl (by kernel_rfl) (by kernel_rfl) (by kernel_rfl) (by kernel_rfl) (by kernel_rfl) (by kernel_rfl) (fun _ _ _ h => h) rfl (by intro w' hb; obtain ⟨c0, c1, c2, c3, c4, c5⟩ := op_cellsM (Blk.below HS0.out.op hb (Blk.lt HS0.out.op)); go_simp; try rfl) hS ?_
    (try simp only [Act.put, List.getElem_toArray, List.getElem_cons_succ, List.getElem_cons_zero, List.setIfInBounds_toArray, List.set_cons_zero, List.set_cons_succ])
    refine wpAnyG_take (i := 11) rfl (by kernel_rfl) (by kernel_rfl) (by kernel_rfl) (by kernel_rfl) (by kernel_rfl) (by kernel_rfl) (fun _ _ _ h => h) rfl (by intro w' hb; go_simp; try rfl) hS ?_
    (try simp only [Act.put, List.getElem_toArray, List.getElem_cons_succ, List.getElem_cons_zero, List.setIfInBounds_toArray, List.set_cons_zero, List.set_cons_succ])
    refine wpAnyG_take (i := 12) rfl (by kernel_rfl) (by kernel_rfl) (by kernel_rfl) (by kernel_rfl) (by kernel_rfl) (by kernel_rfl) (fun _ _ _ h => h) rfl (by intro w' hb; obtain ⟨c0, c1, c2, c3, c4, c5⟩ := op_cellsM (Blk.below HS0.out.op hb (Blk.lt HS0.out.op)); go_simp; try rfl) hS ?_
    (try simp only [Act.put, List.getElem_toArray, List.getElem_cons_succ, List.getElem_cons_zero, List.setIfInBounds_toArray, List.set_cons_zero, List.set_cons_succ])
    refine wpAnyG_take (i := 13) rfl (by kernel_rfl) (by kernel_rfl) (by kernel_rfl) (by kernel_rfl) (by kernel_rfl) (by kernel_rfl) (fun _ _ _ h => h) rfl (by intro w' hb; go_simp; try rfl) hS ?_
    (try simp only [Act.put, List.getElem_toArray, List.getElem_cons_succ, List.getElem_cons_zero, List.setIfInBounds_toArray, List.set_cons_zero, List.set_cons_succ])
    refine wpAnyG_take (i := 14) rfl (by kernel_rfl) (by kernel_rfl) (by kernel_rfl) (by kernel_rfl) (by kernel_rfl) (by kernel_rfl) (fun _ _ _ h => h) rfl (by intro w' hb; obtain ⟨c0, c1, c2, c3, c4, c5⟩ := op_cellsM (Blk.below HS0.out.op hb (Blk.lt HS0.out.op)); go_simp; try rfl) hS ?_
    (try simp only [Act.put, List.getElem_toArray, List.getElem_cons_succ, List.getElem_cons_zero, List.setIfInBounds_toArray, List.set_cons_zero, List.set_cons_succ])
    refine wpAnyG_take (i := 15) rfl (by kernel_rfl) (by kernel_rfl) (by kernel_rfl) (by kernel_rfl) (by kernel_rfl) (by kernel_rfl) (fun _ _ _ h => h) rfl (by intro w' hb; go_simp; try rfl) hS ?_
    (try simp only [Act.put, List.getElem_toArray, List.getElem_cons_succ, List.getElem_cons_zero, List.setIfInBounds_toArray, List.set_cons_zero, List.set_cons_succ])
    refine wpAnyG_take (i := 16) rfl (by kernel_rfl) (by kernel_rfl) (by kernel_rfl) (by kernel_rfl) (by kernel_rfl) (by kernel_rfl) (fun _ _ _ h => h) rfl (by intro w' hb; obtain ⟨c0, c1, c2, c3, c4, c5⟩ := op_cellsM (Blk.below HS0.out.op hb (Blk.lt HS0.out.op)); go_simp; try rfl) hS ?_
    (try simp only [Act.put, List.getElem_toArray, List.getElem_cons_succ, List.getElem_cons_zero, List.setIfInBounds_toArray, List.set_cons_zero, List.set_cons_succ])
    refine wpAnyG_take (i := 17) rfl (by kernel_rfl) (by kernel_rfl) (by kernel_rfl) (by kernel_rfl) (by kernel_rfl) (by kernel_rfl) (fun _ _ _ h => h) rfl (by intro w' hb; go_simp; try rfl) hS ?_
    (try simp only [Act.put, List.getElem_toArray, List.getElem_cons_succ, List.getElem_cons_zero, List.setIfInBounds_toArray, List.set_cons_zero, List.set_cons_succ])
    refine wpAnyG_two (i := 18) (j := 19) rfl rfl (by kernel_rfl) rfl rfl (fun K hK => ?_) (fun K hK => ?_)
    · go_simp
      refine hK.out _ _ (hS.alloc hS.size _) (fun hS => ?_)
      clear hK K
      (try simp only [Act.put, List.getElem_toArray, List.getElem_cons_succ, List.getElem_cons_zero, List.setIfInBounds_toArray, List.set_cons_zero, List.set_cons_succ])
      refine wpAnyG_step (i := 19) rfl (by kernel_rfl) rfl (fun K hK => ?_)
      go_simp
      refine hK.out _ _ (hS.alloc hS.size _) (fun hS => ?_)
      clear hK K
      (try simp only [Act.put, List.getElem_toArray, List.getElem_cons_succ, List.getElem_cons_zero, List.setIfInBounds_toArray, List.set_cons_zero, List.set_cons_succ])
      refine wpAnyG_step (i := 20) rfl (by kernel_rfl) rfl (fun K hK => ?_)
      go_simp
      refine hK.out _ _ (Below.drew (((Below.refl _ _).alloc (Nat.le_refl _) _).alloc (by simp) _)) (fun hS => ?_)
      clear hK K
      (try simp only [Act.put, List.getElem_toArray, List.getElem_cons_succ, List.getElem_cons_zero, List.setIfInBounds_toArray, List.set_cons_zero, List.set_cons_succ])
      refine wpAnyG_step (i := 21) rfl (by kernel_rfl) rfl (fun K hK => ?_)
      go_simp
      refine hK.out _ _ (Below.drew (((Below.refl _ _).alloc (Nat.le_refl _) _).alloc (by simp) _)) (fun hS => ?_)
      clear hK K
      (try simp only [Act.put, List.getElem_toArray, List.getElem_cons_succ, List.getElem_cons_zero, List.setIfInBounds_toArray, List.set_cons_zero, List.set_cons_succ])
      refine wpAnyU_done (by kernel_rfl) ?_ _
      clear hS
      go_wp2_with fail
      go_meet
      case rel => exact ⟨_, _, rfl, rfl, Lib.hid (chg_of HS0.out HLT.out).1⟩
    · go_simp
      refine hK.out _ _ (hS.alloc hS.size _) (fun hS => ?_)
      clear hK K
      (try simp only [Act.put, List.getElem_toArray, List.getElem_cons_succ, List.getElem_cons_zero, List.setIfInBounds_toArray, List.set_cons_zero, List.set_cons_succ])
      refine wpAnyG_step (i := 18) rfl (by kernel_rfl) rfl (fun K hK => ?_)
      go_simp
      refine hK.out _ _ (hS.alloc hS.size _) (fun hS => ?_)
      clear hK K
      (try simp only [Act.put, List.getElem_toArray, List.getElem_cons_succ, List.getElem_cons_zero, List.setIfInBounds_toArray, List.set_cons_zero, List.set_cons_succ])
      refine wpAnyG_step (i := 20) rfl (by kernel_rfl) rfl (fun K hK => ?_)
      go_simp
      refine hK.out _ _ (Below.drew (((Below.refl _ _).alloc (Nat.le_refl _) _).alloc (by simp) _)) (fun hS => ?_)
      clear hK K
      (try simp only [Act.put, List.getElem_toArray, List.getElem_cons_succ, List.getElem_cons_zero, List.setIfInBounds_toArray, List.set_cons_zero, List.set_cons_succ])
      refine wpAnyG_step (i := 21) rfl (by kernel_rfl) rfl (fun K hK => ?_)
      go_simp
      refine hK.out _ _ (Below.drew (((Below.refl _ _).alloc (Nat.le_refl _) _).alloc (by simp) _)) (fun hS => ?_)
      clear hK K
      (try simp only [Act.put, List.getElem_toArray, List.getElem_cons_succ, List.getElem_cons_zero, List.setIfInBounds_toArray, List.set_cons_zero, List.set_cons_succ])
      refine wpAnyU_done (by kernel_rfl) ?_ _
      clear hS
      go_wp2_with fail
      go_meet
      case rel => exact ⟨_, _, rfl, rfl, Lib.hid (chg_of HS0.out HLT.out).2⟩
  case rest =>
    obtain ⟨bs, bb, rfl, rfl, HS⟩ := hcut
    clear HS0
    generalize w.heap.size = bo at HS ⊢
    obtain ⟨br, hbr⟩ : ∃ br, bo + 1 = br := ⟨_, rfl⟩
    rw [hbr] at HS ⊢
    clear hbr
    obtain ⟨c0, c1', c2', c3', c4', c5'⟩ := op_cellsM HS.out.op
    obtain ⟨d0, d1, d2⟩ : wc.cell? ⟨bs, 0, none⟩ = some (.int .i64 a) ∧ wc.cell? ⟨bs, 1, none⟩ = some (.int .i64 c1) ∧ wc.cell? ⟨bs, 2, none⟩ = some (.int .u32 (id : Int)) := ⟨HS.out.sp.cell 0, HS.out.sp.cell 1, HS.out.sp.cell 2⟩
    obtain ⟨x0, x1, x2, x3, x4⟩ := bx_cells HS.out.bx
    have m0 : wc.cell? ⟨m, 0, none⟩ = some (.int .i64 M.room) := HS.out.mod.blk.cell 0
    have m1 : wc.cell? ⟨m, 1, none⟩ = some (.map (some p)) := HS.out.mod.blk.cell 1
    have m2 : wc.cell? ⟨m, 2, none⟩ = some (.map (some s)) := HS.out.mod.blk.cell 2
    have m3 : wc.cell? ⟨m, 3, none⟩ = some (.map (some b)) := HS.out.mod.blk.cell 3
    cases t with
    | false =>
      go_wp2_with fail
      refine (HT.out _).mono ?_
      rintro e w2 ⟨rfl, hb⟩
      have HS2 := Lib.hid (HS.out.later hb)
      have HF := Lib.hid (fun v0 v1 v2 v3 v4 v5 => chg_end HS2.out HS2.out.mod.more (Turned.refl _ _) v0 v1 v2 v3 v4 v5)
      obtain ⟨r0, r1, r2, r3, r4, r5⟩ := rep_cells HS2.out.rep
      have f := Blk.frozen HS2.out.rep
      have HR := Lib.hid (show X = (261, 0, M) from HX.out.symm.trans (by unfold changeR; rw [if_neg (by simp), if_pos rfl, if_pos HTT.out]))
      clear hb c0 c1' c2' c3' c4' c5' d0 d1 d2 x0 x1 x2 x3 x4 m0 m1 m2 m3
      go_wp2_with fail
      exact bodyPost_ret (v := repE 261 0) (by simp [results, Tryz.results70, go_sem, r0, r1, r2, r3, r4, r5]) rfl (by rw [HR.out]; exact ⟨rfl, HF.out _ _ _ _ _ _⟩)
    | true =>
      go_upto_region 8 with (refine (HT.out _).mono ?_; rintro e w2 ⟨rfl, hb⟩; replace HS := Lib.hid (HS.out.later hb); clear c0 c1' c2' c3' c4' c5' d0 d1 d2 x0 x1 x2 x3 x4 m0 m1 m2 m3; obtain ⟨c0, c1', c2', c3', c4', c5'⟩ := op_cellsM HS.out.op; obtain ⟨d0, d1, d2⟩ : w2.cell? ⟨bs, 0, none⟩ = some (.int .i64 a) ∧ w2.cell? ⟨bs, 1, none⟩ = some (.int .i64 c1) ∧ w2.cell? ⟨bs, 2, none⟩ = some (.int .u32 (id : Int)) := ⟨HS.out.sp.cell 0, HS.out.sp.cell 1, HS.out.sp.cell 2⟩; obtain ⟨x0, x1, x2, x3, x4⟩ := bx_cells HS.out.bx; have m0 : w2.cell? ⟨m, 0, none⟩ = some (.int .i64 M.room) := HS.out.mod.blk.cell 0; have m1 : w2.cell? ⟨m, 1, none⟩ = some (.map (some p)) := HS.out.mod.blk.cell 1; have m2 : w2.cell? ⟨m, 2, none⟩ = some (.map (some s)) := HS.out.mod.blk.cell 2; have m3 : w2.cell? ⟨m, 3, none⟩ = some (.map (some b)) := HS.out.mod.blk.cell 3; clear hb)
      go_still_tail 11, (by kernel_rfl)
      change wpList _ _ _ _ _ w2.drew
      replace HS := Lib.hid (HS.out.later ((Below.refl _ _).drew))
      generalize w2.drew = W1 at HS ⊢
      clear c0 c1' c2' c3' c4' c5' d0 d1 d2 x0 x1 x2 x3 x4 m0 m1 m2 m3
      go_wp2_with fail
      refine (spComeM HS.out.mod (opSp ⟨2, a, c1, c2, c3, id⟩) hid hq).mono ?_
      rintro e w2 ⟨rfl, hM2, hT2⟩
      have HR := Lib.hid (show X = ((comeV spK M.room M.sps (opSp ⟨2, a, c1, c2, c3, id⟩)).1, (comeV spK M.room M.sps (opSp ⟨2, a, c1, c2, c3, id⟩)).2.1, { M with sps := (comeV spK M.room M.sps (opSp ⟨2, a, c1, c2, c3, id⟩)).2.2 }) from HX.out.symm.trans (by unfold changeR; rw [if_neg (by simp), if_pos rfl, if_neg (by rw [HTT.out]; simp)]))
      generalize (comeV spK M.room M.sps (opSp ⟨2, a, c1, c2, c3, id⟩)).1 = er at hM2 hT2 HR ⊢
      generalize (comeV spK M.room M.sps (opSp ⟨2, a, c1, c2, c3, id⟩)).2.1 = cn at hM2 hT2 HR ⊢
      generalize (comeV spK M.room M.sps (opSp ⟨2, a, c1, c2, c3, id⟩)).2.2 = M2 at hM2 hT2 HR ⊢
      have HF := Lib.hid (fun v0 v1 v2 v3 v4 v5 => chg_end HS.out hM2 hT2 v0 v1 v2 v3 v4 v5)
      obtain ⟨r0, r1, r2, r3, r4, r5⟩ := rep_cells (HS.out.rep.turned hT2 (by rintro (e | e | e); exact HS.out.ne.2.1 e; exact HS.out.ne.2.2.1 e; exact HS.out.ne.2.2.2 e))
      have f := Blk.frozen (HS.out.rep.turned hT2 (by rintro (e | e | e); exact HS.out.ne.2.1 e; exact HS.out.ne.2.2.1 e; exact HS.out.ne.2.2.2 e))
      clear hM2 hT2
      go_wp2_with fail
      exact bodyPost_ret (v := repE er cn) (by simp [results, Tryz.results70, go_sem, r0, r1, r2, r3, r4, r5]) rfl (by rw [HR.out]; exact ⟨rfl, HF.out _ _ _ _ _ _⟩)
set_option maxRecDepth 100000 in
set_option maxHeartbeats 8000000 in
theorem change_3 (a c1 c2 c3 : Int) (id : Nat) (hid : id < 4294967296) (m p s b q : Nat) (M : ModV) (hq : q < 1000000000) (w : World) (hM : ModelAt w m p s b q M) :
    Calls Tryz.prog 70 #[ptr m, (OpV.mk 3 a c1 c2 c3 id).val] w (TurnedM w m p s b (q + 1) (changeR ⟨3, a, c1, c2, c3, id⟩ M).1 (changeR ⟨3, a, c1, c2, c3, id⟩ M).2.1 (changeR ⟨3, a, c1, c2, c3, id⟩ M).2.2) := by
  have HS0 := Lib.hid (OthSt.start hM ⟨3, a, c1, c2, c3, id⟩)
  have HLT := Lib.hid hM.blk.lt
  clear hM
  obtain ⟨X, hX⟩ : ∃ X, changeR ⟨3, a, c1, c2, c3, id⟩ M = X := ⟨_, rfl⟩
  rw [hX]
  have HX := Lib.hid hX
  clear hX
  obtain ⟨t, ht⟩ : ∃ t, rightBoxB a c1 c2 c3 = t := ⟨_, rfl⟩
  have HT := Lib.hid (fun w => asv (RightBox_any a c1 c2 c3 (id : Int)) (congrArg Value.bool ht) w)
  have HTT := Lib.hid ht
  clear ht
  go_enter Tryz.func70, Tryz.ntmps70
  go_upto_region 1 with fail
  generalize (w.alloc _).alloc _ = V at HS0 ⊢
  go_cut [5, 6] (fun v5 v6 wc => ∃ bs bb, v5 = ptr bs ∧ v6 = ptr bb ∧ Hid (ChgSt w wc m p s b q M ⟨3, a, c1, c2, c3, id⟩ w.heap.size (w.heap.size + 1) bs bb))
  case first =>
    refine wp_region_until (fun w' => Below V.heap.size V w') [0, 1, 2, 3, 4, 5, 6, 7, 8, 9, 10, 11, 12, 13, 14, 15, 16, 17, 18, 19, 20, 21] (by kernel_rfl) ?_
    have hS : (fun w' => Below V.heap.size V w') V.drew := (Below.refl _ _).drew
    refine wpAnyG_take (i := 0) rfl (by kernel_rfl) (by kernel_rfl) (by kernel_rfl) (by kernel_rfl) (by kernel_rfl) (by kernel_rfl) (fun _ _ _ h => h) rfl (by intro w' hb; go_simp; try rfl) hS ?_
    (try simp only [Act.put, List.getElem_toArray, List.getElem_cons_succ, List.getElem_cons_zero, List.setIfInBounds_toArray, List.set_cons_zero, List.set_cons_succ])
    refine wpAnyG_take (i := 1) rfl (by kernel_rfl) (by kernel_rfl) (by kernel_rfl) (by kernel_rfl) (by kernel_rfl) (by kernel_rfl) (fun _ _ _ h => h) rfl (by intro w' hb; obtain ⟨c0, c1, c2, c3, c4, c5⟩ := op_cellsM (Blk.below HS0.out.op hb (Blk.lt HS0.out.op)); go_simp; try rfl) hS ?_
    (try simp only [Act.put, List.getElem_toArray, List.getElem_cons_succ, List.getElem_cons_zero, List.setIfInBounds_toArray, List.set_cons_zero, List.set_cons_succ])
    refine wpAnyG_take (i := 2) rfl (by kernel_rfl) (by kernel_rfl) (by kernel_rfl) (by kernel_rfl) (by kernel_rfl) (by kernel_rfl) (fun _ _ _ h => h) rfl (by intro w' hb; go_simp; try rfl) hS ?_
    (try simp only [Act.put, List.getElem_toArray, List.getElem_cons_succ, List.getElem_cons_zero, List.setIfInBounds_toArray, List.set_cons_zero, List.set_cons_succ])
    refine wpAnyG_take (i := 3) rfl (by kernel_rfl) (by kernel_rfl) (by kernel_rfl) (by kernel_rfl) (by kernel_rfl) (by kernel_rfl) (fun _ _ _ h => h) rfl (by intro w' hb; obtain ⟨c0, c1, c2, c3, c4, c5⟩ := op_cellsM (Blk.below HS0.out.op hb (Blk.lt HS0.out.op)); go_simp; try rfl) hS ?_
    (try simp only [Act.put, List.getElem_toArray, List.getElem_cons_succ, List.getElem_cons_zero, List.setIfInBounds_toArray, List.set_cons_zero, List.set_cons_succ])
    refine wpAnyG_take (i := 4) rfl (by kernel_rfl) (by kernel_rfl) (by kernel_rfl) (by kernel_rfl) (by kernel_rfl) (by kernel_rfl) (fun _ _ _ h => h) rfl (by intro w' hb; go_simp; try rfl) hS ?_
    (try simp only [Act.put, List.getElem_toArray, List.getElem_cons_succ, List.getElem_cons_zero, List.setIfInBounds_toArray, List.set_cons_zero, List.set_cons_succ])
    refine wpAnyG_take (i := 5) rfl (by kernel_rfl) (by kernel_rfl) (by kernel_rfl) (by kernel_rfl) (by kernel_rfl) (by kernel_rfl) (fun _ _ _ h => h) rfl (by intro w' hb; obtain ⟨c0, c1, c2, c3, c4, c5⟩ := op_cellsM (Blk.below HS0.out.op hb (Blk.lt HS0.out.op)); go_simp; try rfl) hS ?_
    (try simp only [Act.put, List.getElem_toArray, List.getElem_cons_succ, List.getElem_cons_zero, List.setIfInBounds_toArray, List.set_cons_zero, List.set_cons_succ])
    refine wpAnyG_take (i := 6) rfl (by kernel_rfl) (by kernel_rfl) (by kernel_rfl) (by kernel_rfl) (by kernel_rfl) (by kernel_rfl) (fun _ _ _ h => h) rfl (by intro w' hb; go_simp; try rfl) hS ?_
    (try simp only [Act.put, List.getElem_toArray, List.getElem_cons_succ, List.getElem_cons_zero, List.setIfInBounds_toArray, List.set_cons_zero, List.set_cons_succ])
    refine wpAnyG_take (i := 7) rfl (by kernel_rfl) (by kernel_rfl) (by kernel_rfl) (by kernel_rfl) (by kernel_rfl) (by kernel_rfl) (fun _ _ _ h => h) rfl (by intro w' hb; go_simp; try rfl) hS ?_
    (try simp only [Act.put, List.getElem_toArray, List.getElem_cons_succ, List.getElem_cons_zero, List.setIfInBounds_toArray, List.set_cons_zero, List.set_cons_succ])
    refine wpAnyG_take (i := 8) rfl (by kernel_rfl) (by kernel_rfl) (by kernel_rfl) (by kernel_rfl) (by kernel_rfl) (by kernel_rfl) (fun _ _ _ h => h) rfl (by intro w' hb; obtain ⟨c0, c1, c2, c3, c4, c5⟩ := op_cellsM (Blk.below HS0.out.op hb (Blk.lt HS0.out.op)); go_simp; try rfl) hS ?_
    (try simp only [Act.put, List.getElem_toArray, List.getElem_cons_succ, List.getElem_cons_zero, List.setIfInBounds_toArray, List.set_cons_zero, List.set_cons_succ])
    refine wpAnyG_take (i := 9) rfl (by kernel_rfl) (by kernel_rfl) (by kernel_rfl) (by kernel_rfl) (by kernel_rfl) (by kernel_rfl) (fun _ _ _ h => h) rfl (by intro w' hb; go_simp; try rfl) hS ?_
    (try simp only [Act.put, List.getElem_toArray, List.getElem_cons_succ, List.getElem_cons_zero, List.setIfInBounds_toArray, List.set_cons_zero, List.set_cons_succ])
    refine wpAnyG_take (i := 10) rfl (by kernel_rfl) (by kernel_rfl) (by kernel_rfl) (by kernel_rfl) (by kernel_rfl) (by kernel_rfl) (fun _ _ _ h => h) rfl (by intro w' hb; obtain ⟨c0, c1, c2, c3, c4, c5⟩ := op_cellsM (Blk.below HS0.out.op hb (Blk.lt HS0.out.op)); go_simp; try rfl) hS ?_
    (try simp only [Act.put, List.getElem_toArray, List.getElem_cons_succ, List.getElem_cons_zero, List.setIfInBounds_toArray, List.set_cons_zero, List.set_cons_succ])
    refine wpAnyG_take (i := 11) rfl (by kernel_rfl) (by kernel_rfl) (by kernel_rfl) (by kernel_rfl) (by kernel_rfl) (by kernel_rfl) (fun _ _ _ h => h) rfl (by intro w' hb; go_simp; try rfl) hS ?_
    (try simp only [Act.put, List.getElem_toArray, List.getElem_cons_succ, List.getElem_cons_zero, List.setIfInBounds_toArray, List.set_cons_zero, List.set_cons_succ])
    refine wpAnyG_take (i := 12) rfl (by kernel_rfl) (by kernel_rfl) (by kernel_rfl) (by kernel_rfl) (by kernel_rfl) (by kernel_rfl) (fun _ _ _ h => h) rfl (by intro w' hb; obtain ⟨c0, c1, c2, c3, c4, c5⟩ := op_cellsM (Blk.below HS0.out.op hb (Blk.lt HS0.out.op)); go_simp; try rfl) hS ?_
    (try simp only [Act.put, List.getElem_toArray, List.getElem_cons_succ, List.getElem_cons_zero, List.setIfInBounds_toArray, List.set_cons_zero, List.set_cons_succ])
    refine wpAnyG_take (i := 13) rfl (by kernel_rfl) (by kernel_rfl) (by kernel_rfl) (by kernel_rfl) (by kernel_rfl) (by kernel_rfl) (fun _ _ _ h => h) rfl (by intro w' hb; go_simp; try rfl) hS ?_
    (try simp only [Act.put, List.getElem_toArray, List.getElem_cons_succ, List.getElem_cons_zero, List.setIfInBounds_toArray, List.set_cons_zero, List.set_cons_succ])
    refine wpAnyG_take (i := 14) rfl (by kernel_rfl) (by kernel_rfl) (by kernel_rfl) (by kernel_rfl) (by kernel_rfl) (by kernel_rfl) (fun _ _ _ h => h) rfl (by intro w' hb; obtain ⟨c0, c1, c2, c3, c4, c5⟩ := op_cellsM (Blk.below HS0.out.op hb (Blk.lt HS0.out.op)); go_simp; try rfl) hS ?_
    (try simp only [Act.put, List.getElem_toArray, List.getElem_cons_succ, List.getElem_cons_zero, List.setIfInBounds_toArray, List.set_cons_zero, List.set_cons_succ])
    refine wpAnyG_take (i := 15) rfl (by kernel_rfl) (by kernel_rfl) (by kernel_rfl) (by kernel_rfl) (by kernel_rfl) (by kernel_rfl) (fun _ _ _ h => h) rfl (by intro w' hb; go_simp; try rfl) hS ?_
    (try simp only [Act.put, List.getElem_toArray, List.getElem_cons_succ, List.getElem_cons_zero, List.setIfInBounds_toArray, List.set_cons_zero, List.set_cons_succ])
    refine wpAnyG_take (i := 16) rfl (by kernel_rfl) (by kernel_rfl) (by kernel_rfl) (by kernel_rfl) (by kernel_rfl) (by kernel_rfl) (fun _ _ _ h => h) rfl (by intro w' hb; obtain ⟨c0, c1, c2, c3, c4, c5⟩ := op_cellsM (Blk.below HS0.out.op hb (Blk.lt HS0.out.op)); go_simp; try rfl) hS ?_
    (try simp only [Act.put, List.getElem_toArray, List.getElem_cons_succ, List.getElem_cons_zero, List.setIfInBounds_toArray, List.set_cons_zero, List.set_cons_succ])
    refine wpAnyG_take (i := 17) rfl (by kernel_rfl) (by kernel_rfl) (by kernel_rfl) (by kernel_rfl) (by kernel_rfl) (by kernel_rfl) (fun _ _ _ h => h) rfl (by intro w' hb; go_simp; try rfl) hS ?_
    (try simp only [Act.put, List.getElem_toArray, List.getElem_cons_succ, List.getElem_cons_zero, List.setIfInBounds_toArray, List.set_cons_zero, List.set_cons_succ])
    refine wpAnyG_two (i := 18) (j := 19) rfl rfl (by kernel_rfl) rfl rfl (fun K hK => ?_) (fun K hK => ?_)
    · go_simp
      refine hK.out _ _ (hS.alloc hS.size _) (fun hS => ?_)
      clear hK K
      (try simp only [Act.put, List.getElem_toArray, List.getElem_cons_succ, List.getElem_cons_zero, List.setIfInBounds_toArray, List.set_cons_zero, List.set_cons_succ])
      refine wpAnyG_step (i := 19) rfl (by kernel_rfl) rfl (fun K hK => ?_)
      go_simp
      refine hK.out _ _ (hS.alloc hS.size _) (fun hS => ?_)
      clear hK K
      (try simp only [Act.put, List.getElem_toArray, List.getElem_cons_succ, List.getElem_cons_zero, List.setIfInBounds_toArray, List.set_cons_zero, List.set_cons_succ])
      refine wpAnyG_step (i := 20) rfl (by kernel_rfl) rfl (fun K hK => ?_)
      go_simp
      refine hK.out _ _ (Below.drew (((Below.refl _ _).alloc (Nat.le_refl _) _).alloc (by simp) _)) (fun hS => ?_)
      clear hK K
      (try simp only [Act.put, List.getElem_toArray, List.getElem_cons_succ, List.getElem_cons_zero, List.setIfInBounds_toArray, List.set_cons_zero, List.set_cons_succ])
      refine wpAnyG_step (i := 21) rfl (by kernel_rfl) rfl (fun K hK => ?_)
      go_simp
      refine hK.out _ _ (Below.drew (((Below.refl _ _).alloc (Nat.le_refl _) _).alloc (by simp) _)) (fun hS => ?_)
      clear hK K
      (try simp only [Act.put, List.getElem_toArray, List.getElem_cons_succ, List.getElem_cons_zero, List.setIfInBounds_toArray, List.set_cons_zero, List.set_cons_succ])
      refine wpAnyU_done (by kernel_rfl) ?_ _
      clear hS
      go_wp2_with fail
      go_meet
      case rel => exact ⟨_, _, rfl, rfl, Lib.hid (chg_of HS0.out HLT.out).1⟩
    · go_simp
      refine hK.out _ _ (hS.alloc hS.size _) (fun hS => ?_)
      clear hK K
      (try simp only [Act.put, List.getElem_toArray, List.getElem_cons_succ, List.getElem_cons_zero, List.setIfInBounds_toArray, List.set_cons_zero, List.set_cons_succ])
      refine wpAnyG_step (i := 18) rfl (by kernel_rfl) rfl (fun K hK => ?_)
      go_simp
      refine hK.out _ _ (hS.alloc hS.size _) (fun hS => ?_)
      clear hK K
      (try simp only [Act.put, List.getElem_toArray, List.getElem_cons_succ, List.getElem_cons_zero, List.setIfInBounds_toArray, List.set_cons_zero, List.set_cons_succ])
      refine wpAnyG_step (i := 20) rfl (by kernel_rfl) rfl (fun K hK => ?_)
      go_simp
      refine hK.out _ _ (Below.drew (((Below.refl _ _).alloc (Nat.le_refl _) _).alloc (by simp) _)) (fun hS => ?_)
      clear hK K
      (try simp only [Act.put, List.getElem_toArray, List.getElem_cons_succ, List.getElem_cons_zero, List.setIfInBounds_toArray, List.set_cons_zero, List.set_cons_succ])
      refine wpAnyG_step (i := 21) rfl (by kernel_rfl) rfl (fun K hK => ?_)
      go_simp
      refine hK.out _ _ (Below.drew (((Below.refl _ _).alloc (Nat.le_refl _) _).alloc (by simp) _)) (fun hS => ?_)
      clear hK K
      (try simp only [Act.put, List.getElem_toArray, List.getElem_cons_succ, List.getElem_cons_zero, List.setIfInBounds_toArray, List.set_cons_zero, List.set_cons_succ])
      refine wpAnyU_done (by kernel_rfl) ?_ _
      clear hS
      go_wp2_with fail
      go_meet
      case rel => exact ⟨_, _, rfl, rfl, Lib.hid (chg_of HS0.out HLT.out).2⟩
  case rest =>
    obtain ⟨bs, bb, rfl, rfl, HS⟩ := hcut
    clear HS0
    generalize w.heap.size = bo at HS ⊢
    obtain ⟨br, hbr⟩ : ∃ br, bo + 1 = br := ⟨_, rfl⟩
    rw [hbr] at HS ⊢
    clear hbr
    obtain ⟨c0, c1', c2', c3', c4', c5'⟩ := op_cellsM HS.out.op
    obtain ⟨d0, d1, d2⟩ : wc.cell? ⟨bs, 0, none⟩ = some (.int .i64 a) ∧ wc.cell? ⟨bs, 1, none⟩ = some (.int .i64 c1) ∧ wc.cell? ⟨bs, 2, none⟩ = some (.int .u32 (id : Int)) := ⟨HS.out.sp.cell 0, HS.out.sp.cell 1, HS.out.sp.cell 2⟩
    obtain ⟨x0, x1, x2, x3, x4⟩ := bx_cells HS.out.bx
    have m0 : wc.cell? ⟨m, 0, none⟩ = some (.int .i64 M.room) := HS.out.mod.blk.cell 0
    have m1 : wc.cell? ⟨m, 1, none⟩ = some (.map (some p)) := HS.out.mod.blk.cell 1
    have m2 : wc.cell? ⟨m, 2, none⟩ = some (.map (some s)) := HS.out.mod.blk.cell 2
    have m3 : wc.cell? ⟨m, 3, none⟩ = some (.map (some b)) := HS.out.mod.blk.cell 3
    cases t with
    | false =>
      go_wp2_with fail
      refine (HT.out _).mono ?_
      rintro e w2 ⟨rfl, hb⟩
      have HS2 := Lib.hid (HS.out.later hb)
      have HF := Lib.hid (fun v0 v1 v2 v3 v4 v5 => chg_end HS2.out HS2.out.mod.more (Turned.refl _ _) v0 v1 v2 v3 v4 v5)
      obtain ⟨r0, r1, r2, r3, r4, r5⟩ := rep_cells HS2.out.rep
      have f := Blk.frozen HS2.out.rep
      have HR := Lib.hid (show X = (261, 0, M) from HX.out.symm.trans (by unfold changeR; rw [if_neg (by simp), if_neg (by simp), if_pos rfl, if_pos HTT.out]))
      clear hb c0 c1' c2' c3' c4' c5' d0 d1 d2 x0 x1 x2 x3 x4 m0 m1 m2 m3
      go_wp2_with fail
      exact bodyPost_ret (v := repE 261 0) (by simp [results, Tryz.results70, go_sem, r0, r1, r2, r3, r4, r5]) rfl (by rw [HR.out]; exact ⟨rfl, HF.out _ _ _ _ _ _⟩)
    | true =>
      go_upto_region 12 with (refine (HT.out _).mono ?_; rintro e w2 ⟨rfl, hb⟩; replace HS := Lib.hid (HS.out.later hb); clear c0 c1' c2' c3' c4' c5' d0 d1 d2 x0 x1 x2 x3 x4 m0 m1 m2 m3; obtain ⟨c0, c1', c2', c3', c4', c5'⟩ := op_cellsM HS.out.op; obtain ⟨d0, d1, d2⟩ : w2.cell? ⟨bs, 0, none⟩ = some (.int .i64 a) ∧ w2.cell? ⟨bs, 1, none⟩ = some (.int .i64 c1) ∧ w2.cell? ⟨bs, 2, none⟩ = some (.int .u32 (id : Int)) := ⟨HS.out.sp.cell 0, HS.out.sp.cell 1, HS.out.sp.cell 2⟩; obtain ⟨x0, x1, x2, x3, x4⟩ := bx_cells HS.out.bx; have m0 : w2.cell? ⟨m, 0, none⟩ = some (.int .i64 M.room) := HS.out.mod.blk.cell 0; have m1 : w2.cell? ⟨m, 1, none⟩ = some (.map (some p)) := HS.out.mod.blk.cell 1; have m2 : w2.cell? ⟨m, 2, none⟩ = some (.map (some s)) := HS.out.mod.blk.cell 2; have m3 : w2.cell? ⟨m, 3, none⟩ = some (.map (some b)) := HS.out.mod.blk.cell 3; clear hb)
      go_still_tail 11, (by kernel_rfl)
      change wpList _ _ _ _ _ w2.drew
      replace HS := Lib.hid (HS.out.later ((Below.refl _ _).drew))
      generalize w2.drew = W1 at HS ⊢
      clear c0 c1' c2' c3' c4' c5' d0 d1 d2 x0 x1 x2 x3 x4 m0 m1 m2 m3
      go_wp2_with fail
      refine (bxComeM HS.out.mod (opBx ⟨3, a, c1, c2, c3, id⟩) hid hq).mono ?_
      rintro e w2 ⟨rfl, hM2, hT2⟩
      have HR := Lib.hid (show X = ((comeV bxK M.room M.bxs (opBx ⟨3, a, c1, c2, c3, id⟩)).1, (comeV bxK M.room M.bxs (opBx ⟨3, a, c1, c2, c3, id⟩)).2.1, { M with bxs := (comeV bxK M.room M.bxs (opBx ⟨3, a, c1, c2, c3, id⟩)).2.2 }) from HX.out.symm.trans (by unfold changeR; rw [if_neg (by simp), if_neg (by simp), if_pos rfl, if_neg (by rw [HTT.out]; simp)]))
      generalize (comeV bxK M.room M.bxs (opBx ⟨3, a, c1, c2, c3, id⟩)).1 = er at hM2 hT2 HR ⊢
      generalize (comeV bxK M.room M.bxs (opBx ⟨3, a, c1, c2, c3, id⟩)).2.1 = cn at hM2 hT2 HR ⊢
      generalize (comeV bxK M.room M.bxs (opBx ⟨3, a, c1, c2, c3, id⟩)).2.2 = M2 at hM2 hT2 HR ⊢
      have HF := Lib.hid (fun v0 v1 v2 v3 v4 v5 => chg_end HS.out hM2 hT2 v0 v1 v2 v3 v4 v5)
      obtain ⟨r0, r1, r2, r3, r4, r5⟩ := rep_cells (HS.out.rep.turned hT2 (by rintro (e | e | e); exact HS.out.ne.2.1 e; exact HS.out.ne.2.2.1 e; exact HS.out.ne.2.2.2 e))
      have f := Blk.frozen (HS.out.rep.turned hT2 (by rintro (e | e | e); exact HS.out.ne.2.1 e; exact HS.out.ne.2.2.1 e; exact HS.out.ne.2.2.2 e))
      clear hM2 hT2
      go_wp2_with fail
      exact bodyPost_ret (v := repE er cn) (by simp [results, Tryz.results70, go_sem, r0, r1, r2, r3, r4, r5]) rfl (by rw [HR.out]; exact ⟨rfl, HF.out _ _ _ _ _ _⟩)
set_option maxRecDepth 100000 in
set_option maxHeartbeats 8000000 in
theorem change_4 (a c1 c2 c3 : Int) (id : Nat) (hid : id < 4294967296) (m p s b q : Nat) (M : ModV) (hq : q < 1000000000) (w : World) (hM : ModelAt w m p s b q M) :
    Calls Tryz.prog 70 #[ptr m, (OpV.mk 4 a c1 c2 c3 id).val] w (TurnedM w m p s b (q + 1) (changeR ⟨4, a, c1, c2, c3, id⟩ M).1 (changeR ⟨4, a, c1, c2, c3, id⟩ M).2.1 (changeR ⟨4, a, c1, c2, c3, id⟩ M).2.2) := by
  have HS0 := Lib.hid (OthSt.start hM ⟨4, a, c1, c2, c3, id⟩)
  have HLT := Lib.hid hM.blk.lt
  clear hM
  obtain ⟨X, hX⟩ : ∃ X, changeR ⟨4, a, c1, c2, c3, id⟩ M = X := ⟨_, rfl⟩
  rw [hX]
  have HX := Lib.hid hX
  clear hX
  go_enter Tryz.func70, Tryz.ntmps70
  go_upto_region 1 with fail
  generalize (w.alloc _).alloc _ = V at HS0 ⊢
  go_cut [5, 6] (fun v5 v6 wc => ∃ bs bb, v5 = ptr bs ∧ v6 = ptr bb ∧ Hid (ChgSt w wc m p s b q M ⟨4, a, c1, c2, c3, id⟩ w.heap.size (w.heap.size + 1) bs bb))
  case first =>
    refine wp_region_until (fun w' => Below V.heap.size V w') [0, 1, 2, 3, 4, 5, 6, 7, 8, 9, 10, 11, 12, 13, 14, 15, 16, 17, 18, 19, 20, 21] (by kernel_rfl) ?_
    have hS : (fun w' => Below V.heap.size V w') V.drew := (Below.refl _ _).drew
    refine wpAnyG_take (i := 0) rfl (by kernel_rfl) (by kernel_rfl) (by kernel_rfl) (by kernel_rfl) (by kernel_rfl) (by kernel_rfl) (fun _ _ _ h => h) rfl (by intro w' hb; go_simp; try rfl) hS ?_
    (try simp only [Act.put, List.getElem_toArray, List.getElem_cons_succ, List.getElem_cons_zero, List.setIfInBounds_toArray, List.set_cons_zero, List.set_cons_succ])
    refine wpAnyG_take (i := 1) rfl (by kernel_rfl) (by kernel_rfl) (by kernel_rfl) (by kernel_rfl) (by kernel_rfl) (by kernel_rfl) (fun _ _ _ h => h) rfl (by intro w' hb; obtain ⟨c0, c1, c2, c3, c4, c5⟩ := op_cellsM (Blk.below HS0.out.op hb (Blk.lt HS0.out.op)); go_simp; try rfl) hS ?_
    (try simp only [Act.put, List.getElem_toArray, List.getElem_cons_succ, List.getElem_cons_zero, List.setIfInBounds_toArray, List.set_cons_zero, List.set_cons_succ])
    refine wpAnyG_take (i := 2) rfl (by kernel_rfl) (by kernel_rfl) (by kernel_rfl) (by kernel_rfl) (by kernel_rfl) (by kernel_rfl) (fun _ _ _ h => h) rfl (by intro w' hb; go_simp; try rfl) hS ?_
    (try simp only [Act.put, List.getElem_toArray, List.getElem_cons_succ, List.getElem_cons_zero, List.setIfInBounds_toArray, List.set_cons_zero, List.set_cons_succ])
    refine wpAnyG_take (i := 3) rfl (by kernel_rfl) (by kernel_rfl) (by kernel_rfl) (by kernel_rfl) (by kernel_rfl) (by kernel_rfl) (fun _ _ _ h => h) rfl (by intro w' hb; obtain ⟨c0, c1, c2, c3, c4, c5⟩ := op_cellsM (Blk.below HS0.out.op hb (Blk.lt HS0.out.op)); go_simp; try rfl) hS ?_
    (try simp only [Act.put, List.getElem_toArray, List.getElem_cons_succ, List.getElem_cons_zero, List.setIfInBounds_toArray, List.set_cons_zero, List.set_cons_succ])
    refine wpAnyG_take (i := 4) rfl (by kernel_rfl) (by kernel_rfl) (by kernel_rfl) (by kernel_rfl) (by kernel_rfl) (by kernel_rfl) (fun _ _ _ h => h) rfl (by intro w' hb; go_simp; try rfl) hS ?_
    (try simp only [Act.put, List.getElem_toArray, List.getElem_cons_succ, List.getElem_cons_zero, List.setIfInBounds_toArray, List.set_cons_zero, List.set_cons_succ])
    refine wpAnyG_take (i := 5) rfl (by kernel_rfl) (by kernel_rfl) (by kernel_rfl) (by kernel_rfl) (by kernel_rfl) (by kernel_rfl) (fun _ _ _ h => h) rfl (by intro w' hb; obtain ⟨c0, c1, c2, c3, c4, c5⟩ := op_cellsM (Blk.below HS0.out.op hb (Blk.lt HS0.out.op)); go_simp; try rfl) hS ?_
    (try simp only [Act.put, List.getElem_toArray, List.getElem_cons_succ, List.getElem_cons_zero, List.setIfInBounds_toArray, List.set_cons_zero, List.set_cons_succ])
    refine wpAnyG_take (i := 6) rfl (by kernel_rfl) (by kernel_rfl) (by kernel_rfl) (by kernel_rfl) (by kernel_rfl) (by kernel_rfl) (fun _ _ _ h => h) rfl (by intro w' hb; go_simp; try rfl) hS ?_
    (try simp only [Act.put, List.getElem_toArray, List.getElem_cons_succ, List.getElem_cons_zero, List.setIfInBounds_toArray, List.set_cons_zero, List.set_cons_succ])
    refine wpAnyG_take (i := 7) rfl (by kernel_rfl) (by kernel_rfl) (by kernel_rfl) (by kernel_rfl) (by kernel_rfl) (by kernel_rfl) (fun _ _ _ h => h) rfl (by intro w' hb; go_simp; try rfl) hS ?_
    (try simp only [Act.put, List.getElem_toArray, List.getElem_cons_succ, List.getElem_cons_zero, List.setIfInBounds_toArray, List.set_cons_zero, List.set_cons_succ])
    refine wpAnyG_take (i := 8) rfl (by kernel_rfl) (by kernel_rfl) (by kernel_rfl) (by kernel_rfl) (by kernel_rfl) (by kernel_rfl) (fun _ _ _ h => h) rfl (by intro w' hb; obtain ⟨c0, c1, c2, c3, c4, c5⟩ := op_cellsM (Blk.below HS0.out.op hb (Blk.lt HS0.out.op)); go_simp; try rfl) hS ?_
    (try simp only [Act.put, List.getElem_toArray, List.getElem_cons_succ, List.getElem_cons_zero, List.setIfInBounds_toArray, List.set_cons_zero, List.set_cons_succ])
    refine wpAnyG_take (i := 9) rfl (by kernel_rfl) (by kernel_rfl) (by kernel_rfl) (by kernel_rfl) (by kernel_rfl) (by kernel_rfl) (fun _ _ _ h => h) rfl (by intro w' hb; go_simp; try rfl) hS ?_
    (try simp only [Act.put, List.getElem_toArray, List.getElem_cons_succ, List.getElem_cons_zero, List.setIfInBounds_toArray, List.set_cons_zero, List.set_cons_succ])
    refine wpAnyG_take (i := 10) rfl (by kernel_rfl) (by kernel_rfl) (by kernel_rfl) (by kernel_rfl) (by kernel_rfl) (by kernel_rfl) (fun _ _ _ h => h) rfl (by intro w' hb; obtain ⟨c0, c1, c2, c3, c4, c5⟩ := op_cellsM (Blk.below HS0.out.op hb (Blk.lt HS0.out.op)); go_simp; try rfl) hS ?_
    (try simp only [Act.put, List.getElem_toArray, List.getElem_cons_succ, List.getElem_cons_zero, List.setIfInBounds_toArray, List.set_cons_zero, List.set_cons_succ])
    refine wpAnyG_take (i := 11) rfl (by kernel_rfl) (by kernel_rfl) (by kernel_rfl) (by kernel_rfl) (by kernel_rfl) (by kernel_rfl) (fun _ _ _ h => h) rfl (by intro w' hb; go_simp; try rfl) hS ?_
    (try simp only [Act.put, List.getElem_toArray, List.getElem_cons_succ, List.getElem_cons_zero, List.setIfInBounds_toArray, List.set_cons_zero, List.set_cons_succ])
    refine wpAnyG_take (i := 12) rfl (by kernel_rfl) (by kernel_rfl) (by kernel_rfl) (by kernel_rfl) (by kernel_rfl) (by kernel_rfl) (fun _ _ _ h => h) rfl (by intro w' hb; obtain ⟨c0, c1, c2, c3, c4, c5⟩ := op_cellsM (Blk.below HS0.out.op hb (Blk.lt HS0.out.op)); go_simp; try rfl) hS ?_
    (try simp only [Act.put, List.getElem_toArray, List.getElem_cons_succ, List.getElem_cons_zero, List.setIfInBounds_toArray, List.set_cons_zero, List.set_cons_succ])
    refine wpAnyG_take (i := 13) rfl (by kernel_rfl) (by kernel_rfl) (by kernel_rfl) (by kernel_rfl) (by kernel_rfl) (by kernel_rfl) (fun _ _ _ h => h) rfl (by intro w' hb; go_simp; try rfl) hS ?_
    (try simp only [Act.put, List.getElem_toArray, List.getElem_cons_succ, List.getElem_cons_zero, List.setIfInBounds_toArray, List.set_cons_zero, List.set_cons_succ])
    refine wpAnyG_take (i := 14) rfl (by kernel_rfl) (by kernel_rfl) (by kernel_rfl) (by kernel_rfl) (by kernel_rfl) (by kernel_rfl) (fun _ _ _ h => h) rfl (by intro w' hb; obtain ⟨c0, c1, c2, c3, c4, c5⟩ := op_cellsM (Blk.below HS0.out.op hb (Blk.lt HS0.out.op)); go_simp; try rfl) hS ?_
    (try simp only [Act.put, List.getElem_toArray, List.getElem_cons_succ, List.getElem_cons_zero, List.setIfInBounds_toArray, List.set_cons_zero, List.set_cons_succ])
    refine wpAnyG_take (i := 15) rfl (by kernel_rfl) (by kernel_rfl) (by kernel_rfl) (by kernel_rfl) (by kernel_rfl) (by kernel_rfl) (fun _ _ _ h => h) rfl (by intro w' hb; go_simp; try rfl) hS ?_
    (try simp only [Act.put, List.getElem_toArray, List.getElem_cons_succ, List.getElem_cons_zero, List.setIfInBounds_toArray, List.set_cons_zero, List.set_cons_succ])
    refine wpAnyG_take (i := 16) rfl (by kernel_rfl) (by kernel_rfl) (by kernel_rfl) (by kernel_rfl) (by kernel_rfl) (by kernel_rfl) (fun _ _ _ h => h) rfl (by intro w' hb; obtain ⟨c0, c1, c2, c3, c4, c5⟩ := op_cellsM (Blk.below HS0.out.op hb (Blk.lt HS0.out.op)); go_simp; try rfl) hS ?_
    (try simp only [Act.put, List.getElem_toArray, List.getElem_cons_succ, List.getElem_cons_zero, List.setIfInBounds_toArray, List.set_cons_zero, List.set_cons_succ])
    refine wpAnyG_take (i := 17) rfl (by kernel_rfl) (by kernel_rfl) (by kernel_rfl) (by kernel_rfl) (by kernel_rfl) (by kernel_rfl) (fun _ _ _ h => h) rfl (by intro w' hb; go_simp; try rfl) hS ?_
    (try simp only [Act.put, List.getElem_toArray, List.getElem_cons_succ, List.getElem_cons_zero, List.setIfInBounds_toArray, List.set_cons_zero, List.set_cons_succ])
    refine wpAnyG_two (i := 18) (j := 19) rfl rfl (by kernel_rfl) rfl rfl (fun K hK => ?_) (fun K hK => ?_)
    · go_simp
      refine hK.out _ _ (hS.alloc hS.size _) (fun hS => ?_)
      clear hK K
      (try simp only [Act.put, List.getElem_toArray, List.getElem_cons_succ, List.getElem_cons_zero, List.setIfInBounds_toArray, List.set_cons_zero, List.set_cons_succ])
      refine wpAnyG_step (i := 19) rfl (by kernel_rfl) rfl (fun K hK => ?_)
      go_simp
      refine hK.out _ _ (hS.alloc hS.size _) (fun hS => ?_)
      clear hK K
      (try simp only [Act.put, List.getElem_toArray, List.getElem_cons_succ, List.getElem_cons_zero, List.setIfInBounds_toArray, List.set_cons_zero, List.set_cons_succ])
      refine wpAnyG_step (i := 20) rfl (by kernel_rfl) rfl (fun K hK => ?_)
      go_simp
      refine hK.out _ _ (Below.drew (((Below.refl _ _).alloc (Nat.le_refl _) _).alloc (by simp) _)) (fun hS => ?_)
      clear hK K
      (try simp only [Act.put, List.getElem_toArray, List.getElem_cons_succ, List.getElem_cons_zero, List.setIfInBounds_toArray, List.set_cons_zero, List.set_cons_succ])
      refine wpAnyG_step (i := 21) rfl (by kernel_rfl) rfl (fun K hK => ?_)
      go_simp
      refine hK.out _ _ (Below.drew (((Below.refl _ _).alloc (Nat.le_refl _) _).alloc (by simp) _)) (fun hS => ?_)
      clear hK K
      (try simp only [Act.put, List.getElem_toArray, List.getElem_cons_succ, List.getElem_cons_zero, List.setIfInBounds_toArray, List.set_cons_zero, List.set_cons_succ])
      refine wpAnyU_done (by kernel_rfl) ?_ _
      clear hS
      go_wp2_with fail
      go_meet
      case rel => exact ⟨_, _, rfl, rfl, Lib.hid (chg_of HS0.out HLT.out).1⟩
    · go_simp
      refine hK.out _ _ (hS.alloc hS.size _) (fun hS => ?_)
      clear hK K
      (try simp only [Act.put, List.getElem_toArray, List.getElem_cons_succ, List.getElem_cons_zero, List.setIfInBounds_toArray, List.set_cons_zero, List.set_cons_succ])
      refine wpAnyG_step (i := 18) rfl (by kernel_rfl) rfl (fun K hK => ?_)
      go_simp
      refine hK.out _ _ (hS.alloc hS.size _) (fun hS => ?_)
      clear hK K
      (try simp only [Act.put, List.getElem_toArray, List.getElem_cons_succ, List.getElem_cons_zero, List.setIfInBounds_toArray, List.set_cons_zero, List.set_cons_succ])
      refine wpAnyG_step (i := 20) rfl (by kernel_rfl) rfl (fun K hK => ?_)
      go_simp
      refine hK.out _ _ (Below.drew (((Below.refl _ _).alloc (Nat.le_refl _) _).alloc (by simp) _)) (fun hS => ?_)
      clear hK K
      (try simp only [Act.put, List.getElem_toArray, List.getElem_cons_succ, List.getElem_cons_zero, List.setIfInBounds_toArray, List.set_cons_zero, List.set_cons_succ])
      refine wpAnyG_step (i := 21) rfl (by kernel_rfl) rfl (fun K hK => ?_)
      go_simp
      refine hK.out _ _ (Below.drew (((Below.refl _ _).alloc (Nat.le_refl _) _).alloc (by simp) _)) (fun hS => ?_)
      clear hK K
      (try simp only [Act.put, List.getElem_toArray, List.getElem_cons_succ, List.getElem_cons_zero, List.setIfInBounds_toArray, List.set_cons_zero, List.set_cons_succ])
      refine wpAnyU_done (by kernel_rfl) ?_ _
      clear hS
      go_wp2_with fail
      go_meet
      case rel => exact ⟨_, _, rfl, rfl, Lib.hid (chg_of HS0.out HLT.out).2⟩
  case rest =>
    obtain ⟨bs, bb, rfl, rfl, HS⟩ := hcut
    clear HS0
    generalize w.heap.size = bo at HS ⊢
    obtain ⟨br, hbr⟩ : ∃ br, bo + 1 = br := ⟨_, rfl⟩
    rw [hbr] at HS ⊢
    clear hbr
    obtain ⟨c0, c1', c2', c3', c4', c5'⟩ := op_cellsM HS.out.op
    obtain ⟨d0, d1, d2⟩ : wc.cell? ⟨bs, 0, none⟩ = some (.int .i64 a) ∧ wc.cell? ⟨bs, 1, none⟩ = some (.int .i64 c1) ∧ wc.cell? ⟨bs, 2, none⟩ = some (.int .u32 (id : Int)) := ⟨HS.out.sp.cell 0, HS.out.sp.cell 1, HS.out.sp.cell 2⟩
    obtain ⟨x0, x1, x2, x3, x4⟩ := bx_cells HS.out.bx
    have m0 : wc.cell? ⟨m, 0, none⟩ = some (.int .i64 M.room) := HS.out.mod.blk.cell 0
    have m1 : wc.cell? ⟨m, 1, none⟩ = some (.map (some p)) := HS.out.mod.blk.cell 1
    have m2 : wc.cell? ⟨m, 2, none⟩ = some (.map (some s)) := HS.out.mod.blk.cell 2
    have m3 : wc.cell? ⟨m, 3, none⟩ = some (.map (some b)) := HS.out.mod.blk.cell 3
    go_upto_region 14 with fail
    go_still_tail 6, (by kernel_rfl)
    change wpList _ _ _ _ _ wc.drew
    replace HS := Lib.hid (HS.out.later ((Below.refl _ _).drew))
    generalize wc.drew = W1 at HS ⊢
    clear c0 c1' c2' c3' c4' c5' d0 d1 d2 x0 x1 x2 x3 x4 m0 m1 m2 m3
    go_wp2_with fail
    refine (ptLoseM HS.out.mod id hid).mono ?_
    rintro e w2 ⟨rfl, hM2, hT2⟩
    have HR := Lib.hid (show X = ((loseV ptK M.pts id).1, (loseV ptK M.pts id).2.1, { M with pts := (loseV ptK M.pts id).2.2 }) from HX.out.symm.trans rfl)
    generalize (loseV ptK M.pts id).1 = er at hM2 hT2 HR ⊢
    generalize (loseV ptK M.pts id).2.1 = cn at hM2 hT2 HR ⊢
    generalize (loseV ptK M.pts id).2.2 = M2 at hM2 hT2 HR ⊢
    have HF := Lib.hid (fun v0 v1 v2 v3 v4 v5 => chg_end HS.out hM2 hT2 v0 v1 v2 v3 v4 v5)
    obtain ⟨r0, r1, r2, r3, r4, r5⟩ := rep_cells (HS.out.rep.turned hT2 (by rintro (e | e | e); exact HS.out.ne.2.1 e; exact HS.out.ne.2.2.1 e; exact HS.out.ne.2.2.2 e))
    have f := Blk.frozen (HS.out.rep.turned hT2 (by rintro (e | e | e); exact HS.out.ne.2.1 e; exact HS.out.ne.2.2.1 e; exact HS.out.ne.2.2.2 e))
    clear hM2 hT2
    go_wp2_with fail
    exact bodyPost_ret (v := repE er cn) (by simp [results, Tryz.results70, go_sem, r0, r1, r2, r3, r4, r5]) rfl (by rw [HR.out]; exact ⟨rfl, HF.out _ _ _ _ _ _⟩)
set_option maxRecDepth 100000 in
set_option maxHeartbeats 8000000 in
theorem change_5 (a c1 c2 c3 : Int) (id : Nat) (hid : id < 4294967296) (m p s b q : Nat) (M : ModV) (hq : q < 1000000000) (w : World) (hM : ModelAt w m p s b q M) :
    Calls Tryz.prog 70 #[ptr m, (OpV.mk 5 a c1 c2 c3 id).val] w (TurnedM w m p s b (q + 1) (changeR ⟨5, a, c1, c2, c3, id⟩ M).1 (changeR ⟨5, a, c1, c2, c3, id⟩ M).2.1 (changeR ⟨5, a, c1, c2, c3, id⟩ M).2.2) := by
  have HS0 := Lib.hid (OthSt.start hM ⟨5, a, c1, c2, c3, id⟩)
  have HLT := Lib.hid hM.blk.lt
  clear hM
  obtain ⟨X, hX⟩ : ∃ X, changeR ⟨5, a, c1, c2, c3, id⟩ M = X := ⟨_, rfl⟩
  rw [hX]
  have HX := Lib.hid hX
  clear hX
  go_enter Tryz.func70, Tryz.ntmps70
  go_upto_region 1 with fail
  generalize (w.alloc _).alloc _ = V at HS0 ⊢
  go_cut [5, 6] (fun v5 v6 wc => ∃ bs bb, v5 = ptr bs ∧ v6 = ptr bb ∧ Hid (ChgSt w wc m p s b q M ⟨5, a, c1, c2, c3, id⟩ w.heap.size (w.heap.size + 1) bs bb))
  case first =>
    refine wp_region_until (fun w' => Below V.heap.size V w') [0, 1, 2, 3, 4, 5, 6, 7, 8, 9, 10, 11, 12, 13, 14, 15, 16, 17, 18, 19, 20, 21] (by kernel_rfl) ?_
    have hS : (fun w' => Below V.heap.size V w') V.drew := (Below.refl _ _).drew
    refine wpAnyG_take (i := 0) rfl (by kernel_rfl) (by kernel_rfl) (by kernel_rfl) (by kernel_rfl) (by kernel_rfl) (by kernel_rfl) (fun _ _ _ h => h) rfl (by intro w' hb; go_simp; try rfl) hS ?_
    (try simp only [Act.put, List.getElem_toArray, List.getElem_cons_succ, List.getElem_cons_zero, List.setIfInBounds_toArray, List.set_cons_zero, List.set_cons_succ])
    refine wpAnyG_take (i := 1) rfl (by kernel_rfl) (by kernel_rfl) (by kernel_rfl) (by kernel_rfl) (by kernel_rfl) (by kernel_rfl) (fun _ _ _ h => h) rfl (by intro w' hb; obtain ⟨c0, c1, c2, c3, c4, c5⟩ := op_cellsM (Blk.below HS0.out.op hb (Blk.lt HS0.out.op)); go_simp; try rfl) hS ?_
    (try simp only [Act.put, List.getElem_toArray, List.getElem_cons_succ, List.getElem_cons_zero, List.setIfInBounds_toArray, List.set_cons_zero, List.set_cons_succ])
    refine wpAnyG_take (i := 2) rfl (by kernel_rfl) (by kernel_rfl) (by kernel_rfl) (by kernel_rfl) (by kernel_rfl) (by kernel_rfl) (fun _ _ _ h => h) rfl (by intro w' hb; go_simp; try rfl) hS ?_
    (try simp only [Act.put, List.getElem_toArray, List.getElem_cons_succ, List.getElem_cons_zero, List.setIfInBounds_toArray, List.set_cons_zero, List.set_cons_succ])
    refine wpAnyG_take (i := 3) rfl (by kernel_rfl) (by kernel_rfl) (by kernel_rfl) (by kernel_rfl) (by kernel_rfl) (by kernel_rfl) (fun _ _ _ h => h) rfl (by intro w' hb; obtain ⟨c0, c1, c2, c3, c4, c5⟩ := op_cellsM (Blk.below HS0.out.op hb (Blk.lt HS0.out.op)); go_simp; try rfl) hS ?_
    (try simp only [Act.put, List.getElem_toArray, List.getElem_cons_succ, List.getElem_cons_zero, List.setIfInBounds_toArray, List.set_cons_zero, List.set_cons_succ])
    refine wpAnyG_take (i := 4) rfl (by kernel_rfl) (by kernel_rfl) (by kernel_rfl) (by kernel_rfl) (by kernel_rfl) (by kernel_rfl) (fun _ _ _ h => h) rfl (by intro w' hb; go_simp; try rfl) hS ?_
    (try simp only [Act.put, List.getElem_toArray, List.getElem_cons_succ, List.getElem_cons_zero, List.setIfInBounds_toArray, List.set_cons_zero, List.set_cons_succ])
    refine wpAnyG_take (i := 5) rfl (by kernel_rfl) (by kernel_rfl) (by kernel_rfl) (by kernel_rfl) (by kernel_rfl) (by kernel_rfl) (fun _ _ _ h => h) rfl (by intro w' hb; obtain ⟨c0, c1, c2, c3, c4, c5⟩ := op_cellsM (Blk.below HS0.out.op hb (Blk.lt HS0.out.op)); go_simp; try rfl) hS ?_
    (try simp only [Act.put, List.getElem_toArray, List.getElem_cons_succ, List.getElem_cons_zero, List.setIfInBounds_toArray, List.set_cons_zero, List.set_cons_succ])
    refine wpAnyG_take (i := 6) rfl (by kernel_rfl) (by kernel_rfl) (by kernel_rfl) (by kernel_rfl) (by kernel_rfl) (by kernel_rfl) (fun _ _ _ h => h) rfl (by intro w' hb; go_simp; try rfl) hS ?_
    (try simp only [Act.put, List.getElem_toArray, List.getElem_cons_succ, List.getElem_cons_zero, List.setIfInBounds_toArray, List.set_cons_zero, List.set_cons_succ])
    refine wpAnyG_take (i := 7) rfl (by kernel_rfl) (by kernel_rfl) (by kernel_rfl) (by kernel_rfl) (by kernel_rfl) (by kernel_rfl) (fun _ _ _ h => h) rfl (by intro w' hb; go_simp; try rfl) hS ?_
    (try simp only [Act.put, List.getElem_toArray, List.getElem_cons_succ, List.getElem_cons_zero, List.setIfInBounds_toArray, List.set_cons_zero, List.set_cons_succ])
    refine wpAnyG_take (i := 8) rfl (by kernel_rfl) (by kernel_rfl) (by kernel_rfl) (by kernel_rfl) (by kernel_rfl) (by kernel_rfl) (fun _ _ _ h => h) rfl (by intro w' hb; obtain ⟨c0, c1, c2, c3, c4, c5⟩ := op_cellsM (Blk.below HS0.out.op hb (Blk.lt HS0.out.op)); go_simp; try rfl) hS ?_
    (try simp only [Act.put, List.getElem_toArray, List.getElem_cons_succ, List.getElem_cons_zero, List.setIfInBounds_toArray, List.set_cons_zero, List.set_cons_succ])
    refine wpAnyG_take (i := 9) rfl (by kernel_rfl) (by kernel_rfl) (by kernel_rfl) (by kernel_rfl) (by kernel_rfl) (by kernel_rfl) (fun _ _ _ h => h) rfl (by intro w' hb; go_simp; try rfl) hS ?_
    (try simp only [Act.put, List.getElem_toArray, List.getElem_cons_succ, List.getElem_cons_zero, List.setIfInBounds_toArray, List.set_cons_zero, List.set_cons_succ])
    refine wpAnyG_take (i := 10) rfl (by kernel_rfl) (by kernel_rfl) (by kernel_rfl) (by kernel_rfl) (by kernel_rfl) (by kernel_rfl) (fun _ _ _ h => h) rfl (by intro w' hb; obtain ⟨c0, c1, c2, c3, c4, c5⟩ := op_cellsM (Blk.below HS0.out.op hb (Blk.lt HS0.out.op)); go_simp; try rfl) hS ?_
    (try simp only [Act.put, List.getElem_toArray, List.getElem_cons_succ, List.getElem_cons_zero, List.setIfInBounds_toArray, List.set_cons_zero, List.set_cons_succ])
    refine wpAnyG_take (i := 11) rfl (by kernel_rfl) (by kernel_rfl) (by kernel_rfl) (by kernel_rfl) (by kernel_rfl) (by kernel_rfl) (fun _ _ _ h => h) rfl (by intro w' hb; go_simp; try rfl) hS ?_
    (try simp only [Act.put, List.getElem_toArray, List.getElem_cons_succ, List.getElem_cons_zero, List.setIfInBounds_toArray, List.set_cons_zero, List.set_cons_succ])
    refine wpAnyG_take (i := 12) rfl (by kernel_rfl) (by kernel_rfl) (by kernel_rfl) (by kernel_rfl) (by kernel_rfl) (by kernel_rfl) (fun _ _ _ h => h) rfl (by intro w' hb; obtain ⟨c0, c1, c2, c3, c4, c5⟩ := op_cellsM (Blk.below HS0.out.op hb (Blk.lt HS0.out.op)); go_simp; try rfl) hS ?_
    (try simp only [Act.put, List.getElem_toArray, List.getElem_cons_succ, List.getElem_cons_zero, List.setIfInBounds_toArray, List.set_cons_zero, List.set_cons_succ])
    refine wpAnyG_take (i := 13) rfl (by kernel_rfl) (by kernel_rfl) (by kernel_rfl) (by kernel_rfl) (by kernel_rfl) (by kernel_rfl) (fun _ _ _ h => h) rfl (by intro w' hb; go_simp; try rfl) hS ?_
    (try simp only [Act.put, List.getElem_toArray, List.getElem_cons_succ, List.getElem_cons_zero, List.setIfInBounds_toArray, List.set_cons_zero, List.set_cons_succ])
    refine wpAnyG_take (i := 14) rfl (by kernel_rfl) (by kernel_rfl) (by kernel_rfl) (by kernel_rfl) (by kernel_rfl) (by kernel_rfl) (fun _ _ _ h => h) rfl (by intro w' hb; obtain ⟨c0, c1, c2, c3, c4, c5⟩ := op_cellsM (Blk.below HS0.out.op hb (Blk.lt HS0.out.op)); go_simp; try rfl) hS ?_
    (try simp only [Act.put, List.getElem_toArray, List.getElem_cons_succ, List.getElem_cons_zero, List.setIfInBounds_toArray, List.set_cons_zero, List.set_cons_succ])
    refine wpAnyG_take (i := 15) rfl (by kernel_rfl) (by kernel_rfl) (by kernel_rfl) (by kernel_rfl) (by kernel_rfl) (by kernel_rfl) (fun _ _ _ h => h) rfl (by intro w' hb; go_simp; try rfl) hS ?_
    (try simp only [Act.put, List.getElem_toArray, List.getElem_cons_succ, List.getElem_cons_zero, List.setIfInBounds_toArray, List.set_cons_zero, List.set_cons_succ])
    refine wpAnyG_take (i := 16) rfl (by kernel_rfl) (by kernel_rfl) (by kernel_rfl) (by kernel_rfl) (by kernel_rfl) (by kernel_rfl) (fun _ _ _ h => h) rfl (by intro w' hb; obtain ⟨c0, c1, c2, c3, c4, c5⟩ := op_cellsM (Blk.below HS0.out.op hb (Blk.lt HS0.out.op)); go_simp; try rfl) hS ?_
    (try simp only [Act.put, List.getElem_toArray, List.getElem_cons_succ, List.getElem_cons_zero, List.setIfInBounds_toArray, List.set_cons_zero, List.set_cons_succ])
    refine wpAnyG_take (i := 17) rfl (by kernel_rfl) (by kernel_rfl) (by kernel_rfl) (by kernel_rfl) (by kernel_rfl) (by kernel_rfl) (fun _ _ _ h => h) rfl (by intro w' hb; go_simp; try rfl) hS ?_
    (try simp only [Act.put, List.getElem_toArray, List.getElem_cons_succ, List.getElem_cons_zero, List.setIfInBounds_toArray, List.set_cons_zero, List.set_cons_succ])
    refine wpAnyG_two (i := 18) (j := 19) rfl rfl (by kernel_rfl) rfl rfl (fun K hK => ?_) (fun K hK => ?_)
    · go_simp
      refine hK.out _ _ (hS.alloc hS.size _) (fun hS => ?_)
      clear hK K
      (try simp only [Act.put, List.getElem_toArray, List.getElem_cons_succ, List.getElem_cons_zero, List.setIfInBounds_toArray, List.set_cons_zero, List.set_cons_succ])
      refine wpAnyG_step (i := 19) rfl (by kernel_rfl) rfl (fun K hK => ?_)
      go_simp
      refine hK.out _ _ (hS.alloc hS.size _) (fun hS => ?_)
      clear hK K
      (try simp only [Act.put, List.getElem_toArray, List.getElem_cons_succ, List.getElem_cons_zero, List.setIfInBounds_toArray, List.set_cons_zero, List.set_cons_succ])
      refine wpAnyG_step (i := 20) rfl (by kernel_rfl) rfl (fun K hK => ?_)
      go_simp
      refine hK.out _ _ (Below.drew (((Below.refl _ _).alloc (Nat.le_refl _) _).alloc (by simp) _)) (fun hS => ?_)
      clear hK K
      (try simp only [Act.put, List.getElem_toArray, List.getElem_cons_succ, List.getElem_cons_zero, List.setIfInBounds_toArray, List.set_cons_zero, List.set_cons_succ])
      refine wpAnyG_step (i := 21) rfl (by kernel_rfl) rfl (fun K hK => ?_)
      go_simp
      refine hK.out _ _ (Below.drew (((Below.refl _ _).alloc (Nat.le_refl _) _).alloc (by simp) _)) (fun hS => ?_)
      clear hK K
      (try simp only [Act.put, List.getElem_toArray, List.getElem_cons_succ, List.getElem_cons_zero, List.setIfInBounds_toArray, List.set_cons_zero, List.set_cons_succ])
      refine wpAnyU_done (by kernel_rfl) ?_ _
      clear hS
      go_wp2_with fail
      go_meet
      case rel => exact ⟨_, _, rfl, rfl, Lib.hid (chg_of HS0.out HLT.out).1⟩
    · go_simp
      refine hK.out _ _ (hS.alloc hS.size _) (fun hS => ?_)
      clear hK K
      (try simp only [Act.put, List.getElem_toArray, List.getElem_cons_succ, List.getElem_cons_zero, List.setIfInBounds_toArray, List.set_cons_zero, List.set_cons_succ])
      refine wpAnyG_step (i := 18) rfl (by kernel_rfl) rfl (fun K hK => ?_)
      go_simp
      refine hK.out _ _ (hS.alloc hS.size _) (fun hS => ?_)
      clear hK K
      (try simp only [Act.put, List.getElem_toArray, List.getElem_cons_succ, List.getElem_cons_zero, List.setIfInBounds_toArray, List.set_cons_zero, List.set_cons_succ])
      refine wpAnyG_step (i := 20) rfl (by kernel_rfl) rfl (fun K hK => ?_)
      go_simp
      refine hK.out _ _ (Below.drew (((Below.refl _ _).alloc (Nat.le_refl _) _).alloc (by simp) _)) (fun hS => ?_)
      clear hK K
      (try simp only [Act.put, List.getElem_toArray, List.getElem_cons_succ, List.getElem_cons_zero, List.setIfInBounds_toArray, List.set_cons_zero, List.set_cons_succ])
      refine wpAnyG_step (i := 21) rfl (by kernel_rfl) rfl (fun K hK => ?_)
      go_simp
      refine hK.out _ _ (Below.drew (((Below.refl _ _).alloc (Nat.le_refl _) _).alloc (by simp) _)) (fun hS => ?_)
      clear hK K
      (try simp only [Act.put, List.getElem_toArray, List.getElem_cons_succ, List.getElem_cons_zero, List.setIfInBounds_toArray, List.set_cons_zero, List.set_cons_succ])
      refine wpAnyU_done (by kernel_rfl) ?_ _
      clear hS
      go_wp2_with fail
      go_meet
      case rel => exact ⟨_, _, rfl, rfl, Lib.hid (chg_of HS0.out HLT.out).2⟩
  case rest =>
    obtain ⟨bs, bb, rfl, rfl, HS⟩ := hcut
    clear HS0
    generalize w.heap.size = bo at HS ⊢
    obtain ⟨br, hbr⟩ : ∃ br, bo + 1 = br := ⟨_, rfl⟩
    rw [hbr] at HS ⊢
    clear hbr
    obtain ⟨c0, c1', c2', c3', c4', c5'⟩ := op_cellsM HS.out.op
    obtain ⟨d0, d1, d2⟩ : wc.cell? ⟨bs, 0, none⟩ = some (.int .i64 a) ∧ wc.cell? ⟨bs, 1, none⟩ = some (.int .i64 c1) ∧ wc.cell? ⟨bs, 2, none⟩ = some (.int .u32 (id : Int)) := ⟨HS.out.sp.cell 0, HS.out.sp.cell 1, HS.out.sp.cell 2⟩
    obtain ⟨x0, x1, x2, x3, x4⟩ := bx_cells HS.out.bx
    have m0 : wc.cell? ⟨m, 0, none⟩ = some (.int .i64 M.room) := HS.out.mod.blk.cell 0
    have m1 : wc.cell? ⟨m, 1, none⟩ = some (.map (some p)) := HS.out.mod.blk.cell 1
    have m2 : wc.cell? ⟨m, 2, none⟩ = some (.map (some s)) := HS.out.mod.blk.cell 2
    have m3 : wc.cell? ⟨m, 3, none⟩ = some (.map (some b)) := HS.out.mod.blk.cell 3
    go_upto_region 16 with fail
    go_still_tail 6, (by kernel_rfl)
    change wpList _ _ _ _ _ wc.drew
    replace HS := Lib.hid (HS.out.later ((Below.refl _ _).drew))
    generalize wc.drew = W1 at HS ⊢
    clear c0 c1' c2' c3' c4' c5' d0 d1 d2 x0 x1 x2 x3 x4 m0 m1 m2 m3
    go_wp2_with fail
    refine (spLoseM HS.out.mod id hid).mono ?_
    rintro e w2 ⟨rfl, hM2, hT2⟩
    have HR := Lib.hid (show X = ((loseV spK M.sps id).1, (loseV spK M.sps id).2.1, { M with sps := (loseV spK M.sps id).2.2 }) from HX.out.symm.trans rfl)
    generalize (loseV spK M.sps id).1 = er at hM2 hT2 HR ⊢
    generalize (loseV spK M.sps id).2.1 = cn at hM2 hT2 HR ⊢
    generalize (loseV spK M.sps id).2.2 = M2 at hM2 hT2 HR ⊢
    have HF := Lib.hid (fun v0 v1 v2 v3 v4 v5 => chg_end HS.out hM2 hT2 v0 v1 v2 v3 v4 v5)
    obtain ⟨r0, r1, r2, r3, r4, r5⟩ := rep_cells (HS.out.rep.turned hT2 (by rintro (e | e | e); exact HS.out.ne.2.1 e; exact HS.out.ne.2.2.1 e; exact HS.out.ne.2.2.2 e))
    have f := Blk.frozen (HS.out.rep.turned hT2 (by rintro (e | e | e); exact HS.out.ne.2.1 e; exact HS.out.ne.2.2.1 e; exact HS.out.ne.2.2.2 e))
    clear hM2 hT2
    go_wp2_with fail
    exact bodyPost_ret (v := repE er cn) (by simp [results, Tryz.results70, go_sem, r0, r1, r2, r3, r4, r5]) rfl (by rw [HR.out]; exact ⟨rfl, HF.out _ _ _ _ _ _⟩)
set_option maxRecDepth 100000 in
set_option maxHeartbeats 8000000 in
theorem change_6 (a c1 c2 c3 : Int) (id : Nat) (hid : id < 4294967296) (m p s b q : Nat) (M : ModV) (hq : q < 1000000000) (w : World) (hM : ModelAt w m p s b q M) :
    Calls Tryz.prog 70 #[ptr m, (OpV.mk 6 a c1 c2 c3 id).val] w (TurnedM w m p s b (q + 1) (changeR ⟨6, a, c1, c2, c3, id⟩ M).1 (changeR ⟨6, a, c1, c2, c3, id⟩ M).2.1 (changeR ⟨6, a, c1, c2, c3, id⟩ M).2.2) := by
  have HS0 := Lib.hid (OthSt.start hM ⟨6, a, c1, c2, c3, id⟩)
  have HLT := Lib.hid hM.blk.lt
  clear hM
  obtain ⟨X, hX⟩ : ∃ X, changeR ⟨6, a, c1, c2, c3, id⟩ M = X := ⟨_, rfl⟩
  rw [hX]
  have HX := Lib.hid hX
  clear hX
  go_enter Tryz.func70, Tryz.ntmps70
  go_upto_region 1 with fail
  generalize (w.alloc _).alloc _ = V at HS0 ⊢
  go_cut [5, 6] (fun v5 v6 wc => ∃ bs bb, v5 = ptr bs ∧ v6 = ptr bb ∧ Hid (ChgSt w wc m p s b q M ⟨6, a, c1, c2, c3, id⟩ w.heap.size (w.heap.size + 1) bs bb))
  case first =>
    refine wp_region_until (fun w' => Below V.heap.size V w') [0, 1, 2, 3, 4, 5, 6, 7, 8, 9, 10, 11, 12, 13, 14, 15, 16, 17, 18, 19, 20, 21] (by kernel_rfl) ?_
    have hS : (fun w' => Below V.heap.size V w') V.drew := (Below.refl _ _).drew
    refine wpAnyG_take (i := 0) rfl (by kernel_rfl) (by kernel_rfl) (by kernel_rfl) (by kernel_rfl) (by kernel_rfl) (by kernel_rfl) (fun _ _ _ h => h) rfl (by intro w' hb; go_simp; try rfl) hS ?_
    (try simp only [Act.put, List.getElem_toArray, List.getElem_cons_succ, List.getElem_cons_zero, List.setIfInBounds_toArray, List.set_cons_zero, List.set_cons_succ])
    refine wpAnyG_take (i := 1) rfl (by kernel_rfl) (by kernel_rfl) (by kernel_rfl) (by kernel_rfl) (by kernel_rfl) (by kernel_rfl) (fun _ _ _ h => h) rfl (by intro w' hb; obtain ⟨c0, c1, c2, c3, c4, c5⟩ := op_cellsM (Blk.below HS0.out.op hb (Blk.lt HS0.out.op)); go_simp; try rfl) hS ?_
    (try simp only [Act.put, List.getElem_toArray, List.getElem_cons_succ, List.getElem_cons_zero, List.setIfInBounds_toArray, List.set_cons_zero, List.set_cons_succ])
    refine wpAnyG_take (i := 2) rfl (by kernel_rfl) (by kernel_rfl) (by kernel_rfl) (by kernel_rfl) (by kernel_rfl) (by kernel_rfl) (fun _ _ _ h => h) rfl (by intro w' hb; go_simp; try rfl) hS ?_
    (try simp only [Act.put, List.getElem_toArray, List.getElem_cons_succ, List.getElem_cons_zero, List.setIfInBounds_toArray, List.set_cons_zero, List.set_cons_succ])
    refine wpAnyG_take (i := 3) rfl (by kernel_rfl) (by kernel_rfl) (by kernel_rfl) (by kernel_rfl) (by kernel_rfl) (by kernel_rfl) (fun _ _ _ h => h) rfl (by intro w' hb; obtain ⟨c0, c1, c2, c3, c4, c5⟩ := op_cellsM (Blk.below HS0.out.op hb (Blk.lt HS0.out.op)); go_simp; try rfl) hS ?_
    (try simp only [Act.put, List.getElem_toArray, List.getElem_cons_succ, List.getElem_cons_zero, List.setIfInBounds_toArray, List.set_cons_zero, List.set_cons_succ])
    refine wpAnyG_take (i := 4) rfl (by kernel_rfl) (by kernel_rfl) (by kernel_rfl) (by kernel_rfl) (by kernel_rfl) (by kernel_rfl) (fun _ _ _ h => h) rfl (by intro w' hb; go_simp; try rfl) hS ?_
    (try simp only [Act.put, List.getElem_toArray, List.getElem_cons_succ, List.getElem_cons_zero, List.setIfInBounds_toArray, List.set_cons_zero, List.set_cons_succ])
    refine wpAnyG_take (i := 5) rfl (by kernel_rfl) (by kernel_rfl) (by kernel_rfl) (by kernel_rfl) (by kernel_rfl) (by kernel_rfl) (fun _ _ _ h => h) rfl (by intro w' hb; obtain ⟨c0, c1, c2, c3, c4, c5⟩ := op_cellsM (Blk.below HS0.out.op hb (Blk.lt HS0.out.op)); go_simp; try rfl) hS ?_
    (try simp only [Act.put, List.getElem_toArray, List.getElem_cons_succ, List.getElem_cons_zero, List.setIfInBounds_toArray, List.set_cons_zero, List.set_cons_succ])
    refine wpAnyG_take (i := 6) rfl (by kernel_rfl) (by kernel_rfl) (by kernel_rfl) (by kernel_rfl) (by kernel_rfl) (by kernel_rfl) (fun _ _ _ h => h) rfl (by intro w' hb; go_simp; try rfl) hS ?_
    (try simp only [Act.put, List.getElem_toArray, List.getElem_cons_succ, List.getElem_cons_zero, List.setIfInBounds_toArray, List.set_cons_zero, List.set_cons_succ])
    refine wpAnyG_take (i := 7) rfl (by kernel_rfl) (by kernel_rfl) (by kernel_rfl) (by kernel_rfl) (by kernel_rfl) (by kernel_rfl) (fun _ _ _ h => h) rfl (by intro w' hb; go_simp; try rfl) hS ?_
    (try simp only [Act.put, List.getElem_toArray, List.getElem_cons_succ, List.getElem_cons_zero, List.setIfInBounds_toArray, List.set_cons_zero, List.set_cons_succ])
    refine wpAnyG_take (i := 8) rfl (by kernel_rfl) (by kernel_rfl) (by kernel_rfl) (by kernel_rfl) (by kernel_rfl) (by kernel_rfl) (fun _ _ _ h => h) rfl (by intro w' hb; obtain ⟨c0, c1, c2, c3, c4, c5⟩ := op_cellsM (Blk.below HS0.out.op hb (Blk.lt HS0.out.op)); go_simp; try rfl) hS ?_
    (try simp only [Act.put, List.getElem_toArray, List.getElem_cons_succ, List.getElem_cons_zero, List.setIfInBounds_toArray, List.set_cons_zero, List.set_cons_succ])
    refine wpAnyG_take (i := 9) rfl (by kernel_rfl) (by kernel_rfl) (by kernel_rfl) (by kernel_rfl) (by kernel_rfl) (by kernel_rfl) (fun _ _ _ h => h) rfl (by intro w' hb; go_simp; try rfl) hS ?_
    (try simp only [Act.put, List.getElem_toArray, List.getElem_cons_succ, List.getElem_cons_zero, List.setIfInBounds_toArray, List.set_cons_zero, List.set_cons_succ])
    refine wpAnyG_take (i := 10) rfl (by kernel_rfl) (by kernel_rfl) (by kernel_rfl) (by kernel_rfl) (by kernel_rfl) (by kernel_rfl) (fun _ _ _ h => h) rfl (by intro w' hb; obtain ⟨c0, c1, c2, c3, c4, c5⟩ := op_cellsM (Blk.below HS0.out.op hb (Blk.lt HS0.out.op)); go_simp; try rfl) hS ?_
    (try simp only [Act.put, List.getElem_toArray, List.getElem_cons_succ, List.getElem_cons_zero, List.setIfInBounds_toArray, List.set_cons_zero, List.set_cons_succ])
    refine wpAnyG_take (i := 11) rfl (by kernel_rfl) (by kernel_rfl) (by kernel_rfl) (by kernel_rfl) (by kernel_rfl) (by kernel_rfl) (fun _ _ _ h => h) rfl (by intro w' hb; go_simp; try rfl) hS ?_
    (try simp only [Act.put, List.getElem_toArray, List.getElem_cons_succ, List.getElem_cons_zero, List.setIfInBounds_toArray, List.set_cons_zero, List.set_cons_succ])
    refine wpAnyG_take (i := 12) rfl (by kernel_rfl) (by kernel_rfl) (by kernel_rfl) (by kernel_rfl) (by kernel_rfl) (by kernel_rfl) (fun _ _ _ h => h) rfl (by intro w' hb; obtain ⟨c0, c1, c2, c3, c4, c5⟩ := op_cellsM (Blk.below HS0.out.op hb (Blk.lt HS0.out.op)); go_simp; try rfl) hS ?_
    (try simp only [Act.put, List.getElem_toArray, List.getElem_cons_succ, List.getElem_cons_zero, List.setIfInBounds_toArray, List.set_cons_zero, List.set_cons_succ])
    refine wpAnyG_take (i := 13) rfl (by kernel_rfl) (by kernel_rfl) (by kernel_rfl) (by kernel_rfl) (by kernel_rfl) (by kernel_rfl) (fun _ _ _ h => h) rfl (by intro w' hb; go_simp; try rfl) hS ?_
    (try simp only [Act.put, List.getElem_toArray, List.getElem_cons_succ, List.getElem_cons_zero, List.setIfInBounds_toArray, List.set_cons_zero, List.set_cons_succ])
    refine wpAnyG_take (i := 14) rfl (by kernel_rfl) (by kernel_rfl) (by kernel_rfl) (by kernel_rfl) (by kernel_rfl) (by kernel_rfl) (fun _ _ _ h => h) rfl (by intro w' hb; obtain ⟨c0, c1, c2, c3, c4, c5⟩ := op_cellsM (Blk.below HS0.out.op hb (Blk.lt HS0.out.op)); go_simp; try rfl) hS ?_
    (try simp only [Act.put, List.getElem_toArray, List.getElem_cons_succ, List.getElem_cons_zero, List.setIfInBounds_toArray, List.set_cons_zero, List.set_cons_succ])
    refine wpAnyG_take (i := 15) rfl (by kernel_rfl) (by kernel_rfl) (by kernel_rfl) (by kernel_rfl) (by kernel_rfl) (by kernel_rfl) (fun _ _ _ h => h) rfl (by intro w' hb; go_simp; try rfl) hS ?_
    (try simp only [Act.put, List.getElem_toArray, List.getElem_cons_succ, List.getElem_cons_zero, List.setIfInBounds_toArray, List.set_cons_zero, List.set_cons_succ])
    refine wpAnyG_take (i := 16) rfl (by kernel_rfl) (by kernel_rfl) (by kernel_rfl) (by kernel_rfl) (by kernel_rfl) (by kernel_rfl) (fun _ _ _ h => h) rfl (by intro w' hb; obtain ⟨c0, c1, c2, c3, c4, c5⟩ := op_cellsM (Blk.below HS0.out.op hb (Blk.lt HS0.out.op)); go_simp; try rfl) hS ?_
    (try simp only [Act.put, List.getElem_toArray, List.getElem_cons_succ, List.getElem_cons_zero, List.setIfInBounds_toArray, List.set_cons_zero, List.set_cons_succ])
    refine wpAnyG_take (i := 17) rfl (by kernel_rfl) (by kernel_rfl) (by kernel_rfl) (by kernel_rfl) (by kernel_rfl) (by kernel_rfl) (fun _ _ _ h => h) rfl (by intro w' hb; go_simp; try rfl) hS ?_
    (try simp only [Act.put, List.getElem_toArray, List.getElem_cons_succ, List.getElem_cons_zero, List.setIfInBounds_toArray, List.set_cons_zero, List.set_cons_succ])
    refine wpAnyG_two (i := 18) (j := 19) rfl rfl (by kernel_rfl) rfl rfl (fun K hK => ?_) (fun K hK => ?_)
    · go_simp
      refine hK.out _ _ (hS.alloc hS.size _) (fun hS => ?_)
      clear hK K
      (try simp only [Act.put, List.getElem_toArray, List.getElem_cons_succ, List.getElem_cons_zero, List.setIfInBounds_toArray, List.set_cons_zero, List.set_cons_succ])
      refine wpAnyG_step (i := 19) rfl (by kernel_rfl) rfl (fun K hK => ?_)
      go_simp
      refine hK.out _ _ (hS.alloc hS.size _) (fun hS => ?_)
      clear hK K
      (try simp only [Act.put, List.getElem_toArray, List.getElem_cons_succ, List.getElem_cons_zero, List.setIfInBounds_toArray, List.set_cons_zero, List.set_cons_succ])
      refine wpAnyG_step (i := 20) rfl (by kernel_rfl) rfl (fun K hK => ?_)
      go_simp
      refine hK.out _ _ (Below.drew (((Below.refl _ _).alloc (Nat.le_refl _) _).alloc (by simp) _)) (fun hS => ?_)
      clear hK K
      (try simp only [Act.put, List.getElem_toArray, List.getElem_cons_succ, List.getElem_cons_zero, List.setIfInBounds_toArray, List.set_cons_zero, List.set_cons_succ])
      refine wpAnyG_step (i := 21) rfl (by kernel_rfl) rfl (fun K hK => ?_)
      go_simp
      refine hK.out _ _ (Below.drew (((Below.refl _ _).alloc (Nat.le_refl _) _).alloc (by simp) _)) (fun hS => ?_)
      clear hK K
      (try simp only [Act.put, List.getElem_toArray, List.getElem_cons_succ, List.getElem_cons_zero, List.setIfInBounds_toArray, List.set_cons_zero, List.set_cons_succ])
      refine wpAnyU_done (by kernel_rfl) ?_ _
      clear hS
      go_wp2_with fail
      go_meet
      case rel => exact ⟨_, _, rfl, rfl, Lib.hid (chg_of HS0.out HLT.out).1⟩
    · go_simp
      refine hK.out _ _ (hS.alloc hS.size _) (fun hS => ?_)
      clear hK K
      (try simp only [Act.put, List.getElem_toArray, List.getElem_cons_succ, List.getElem_cons_zero, List.setIfInBounds_toArray, List.set_cons_zero, List.set_cons_succ])
      refine wpAnyG_step (i := 18) rfl (by kernel_rfl) rfl (fun K hK => ?_)
      go_simp
      refine hK.out _ _ (hS.alloc hS.size _) (fun hS => ?_)
      clear hK K
      (try simp only [Act.put, List.getElem_toArray, List.getElem_cons_succ, List.getElem_cons_zero, List.setIfInBounds_toArray, List.set_cons_zero, List.set_cons_succ])
      refine wpAnyG_step (i := 20) rfl (by kernel_rfl) rfl (fun K hK => ?_)
      go_simp
      refine hK.out _ _ (Below.drew (((Below.refl _ _).alloc (Nat.le_refl _) _).alloc (by simp) _)) (fun hS => ?_)
      clear hK K
      (try simp only [Act.put, List.getElem_toArray, List.getElem_cons_succ, List.getElem_cons_zero, List.setIfInBounds_toArray, List.set_cons_zero, List.set_cons_succ])
      refine wpAnyG_step (i := 21) rfl (by kernel_rfl) rfl (fun K hK => ?_)
      go_simp
      refine hK.out _ _ (Below.drew (((Below.refl _ _).alloc (Nat.le_refl _) _).alloc (by simp) _)) (fun hS => ?_)
      clear hK K
      (try simp only [Act.put, List.getElem_toArray, List.getElem_cons_succ, List.getElem_cons_zero, List.setIfInBounds_toArray, List.set_cons_zero, List.set_cons_succ])
      refine wpAnyU_done (by kernel_rfl) ?_ _
      clear hS
      go_wp2_with fail
      go_meet
      case rel => exact ⟨_, _, rfl, rfl, Lib.hid (chg_of HS0.out HLT.out).2⟩
  case rest =>
    obtain ⟨bs, bb, rfl, rfl, HS⟩ := hcut
    clear HS0
    generalize w.heap.size = bo at HS ⊢
    obtain ⟨br, hbr⟩ : ∃ br, bo + 1 = br := ⟨_, rfl⟩
    rw [hbr] at HS ⊢
    clear hbr
    obtain ⟨c0, c1', c2', c3', c4', c5'⟩ := op_cellsM HS.out.op
    obtain ⟨d0, d1, d2⟩ : wc.cell? ⟨bs, 0, none⟩ = some (.int .i64 a) ∧ wc.cell? ⟨bs, 1, none⟩ = some (.int .i64 c1) ∧ wc.cell? ⟨bs, 2, none⟩ = some (.int .u32 (id : Int)) := ⟨HS.out.sp.cell 0, HS.out.sp.cell 1, HS.out.sp.cell 2⟩
    obtain ⟨x0, x1, x2, x3, x4⟩ := bx_cells HS.out.bx
    have m0 : wc.cell? ⟨m, 0, none⟩ = some (.int .i64 M.room) := HS.out.mod.blk.cell 0
    have m1 : wc.cell? ⟨m, 1, none⟩ = some (.map (some p)) := HS.out.mod.blk.cell 1
    have m2 : wc.cell? ⟨m, 2, none⟩ = some (.map (some s)) := HS.out.mod.blk.cell 2
    have m3 : wc.cell? ⟨m, 3, none⟩ = some (.map (some b)) := HS.out.mod.blk.cell 3
    go_upto_region 17 with fail
    go_still_tail 6, (by kernel_rfl)
    change wpList _ _ _ _ _ wc.drew
    replace HS := Lib.hid (HS.out.later ((Below.refl _ _).drew))
    generalize wc.drew = W1 at HS ⊢
    clear c0 c1' c2' c3' c4' c5' d0 d1 d2 x0 x1 x2 x3 x4 m0 m1 m2 m3
    go_wp2_with fail
    refine (bxLoseM HS.out.mod id hid).mono ?_
    rintro e w2 ⟨rfl, hM2, hT2⟩
    have HR := Lib.hid (show X = ((loseV bxK M.bxs id).1, (loseV bxK M.bxs id).2.1, { M with bxs := (loseV bxK M.bxs id).2.2 }) from HX.out.symm.trans rfl)
    generalize (loseV bxK M.bxs id).1 = er at hM2 hT2 HR ⊢
    generalize (loseV bxK M.bxs id).2.1 = cn at hM2 hT2 HR ⊢
    generalize (loseV bxK M.bxs id).2.2 = M2 at hM2 hT2 HR ⊢
    have HF := Lib.hid (fun v0 v1 v2 v3 v4 v5 => chg_end HS.out hM2 hT2 v0 v1 v2 v3 v4 v5)
    obtain ⟨r0, r1, r2, r3, r4, r5⟩ := rep_cells (HS.out.rep.turned hT2 (by rintro (e | e | e); exact HS.out.ne.2.1 e; exact HS.out.ne.2.2.1 e; exact HS.out.ne.2.2.2 e))
    have f := Blk.frozen (HS.out.rep.turned hT2 (by rintro (e | e | e); exact HS.out.ne.2.1 e; exact HS.out.ne.2.2.1 e; exact HS.out.ne.2.2.2 e))
    clear hM2 hT2
    go_wp2_with fail
    exact bodyPost_ret (v := repE er cn) (by simp [results, Tryz.results70, go_sem, r0, r1, r2, r3, r4, r5]) rfl (by rw [HR.out]; exact ⟨rfl, HF.out _ _ _ _ _ _⟩)
end Go.Proofs.YtokpgopdkimmmaaGreatDoor
/- model.Do: an operation. -/
namespace Go.Proofs.YtokpgopdkimmmaaGreatDoor
open Go.RowKit Go.Maps
set_option linter.unusedVariables false
set_option linter.unusedSimpArgs false

theorem change_any (o : OpV) (h1 : 1 ≤ o.k) (h6 : o.k ≤ 6) (hid : o.id < 4294967296) (m p s b q : Nat) (M : ModV) (hq : q < 1000000000) (w : World) (hM : ModelAt w m p s b q M) :
    Calls Tryz.prog 70 #[ptr m, o.val] w (TurnedM w m p s b (q + 1) (changeR o M).1 (changeR o M).2.1 (changeR o M).2.2) := by
  obtain ⟨k, x, y, z, u, i⟩ := o
  rcases (show k = 1 ∨ k = 2 ∨ k = 3 ∨ k = 4 ∨ k = 5 ∨ k = 6 by simp only at h1 h6; omega) with rfl | rfl | rfl | rfl | rfl | rfl
  · exact change_1 x y z u i hid m p s b q M hq w hM
  · exact change_2 x y z u i hid m p s b q M hq w hM
  · exact change_3 x y z u i hid m p s b q M hq w hM
  · exact change_4 x y z u i hid m p s b q M hq w hM
  · exact change_5 x y z u i hid m p s b q M hq w hM
  · exact change_6 x y z u i hid m p s b q M hq w hM
theorem point_any (o : OpV) (h1 : 7 ≤ o.k) (h6 : o.k ≤ 14) (m p s b q : Nat) (M : ModV) (hL : M.pts.length ≤ 1000000) (w : World) (hM : ModelAt w m p s b q M) :
    Calls Tryz.prog 71 #[ptr m, o.val] w (Replied w (pointR o M.pts)) := by
  obtain ⟨k, x, y, z, u, i⟩ := o
  rcases (show k = 7 ∨ k = 8 ∨ k = 9 ∨ k = 10 ∨ k = 11 ∨ k = 12 ∨ k = 13 ∨ k = 14 by simp only at h1 h6; omega) with rfl | rfl | rfl | rfl | rfl | rfl | rfl | rfl
  · exact point_7 x y z u i m p s b q M hL w hM
  · exact point_8 x y z u i m p s b q M hL w hM
  · exact point_9 x y z u i m p s b q M hL w hM
  · exact point_10 x y z u i m p s b q M hL w hM
  · exact point_11 x y z u i m p s b q M hL w hM
  · exact point_12 x y z u i m p s b q M hL w hM
  · exact point_13 x y z u i m p s b q M hL w hM
  · exact point_14 x y z u i m p s b q M hL w hM
theorem other_any (o : OpV) (h1 : 15 ≤ o.k) (h6 : o.k ≤ 20) (m p s b q : Nat) (M : ModV) (hL : M.sps.length ≤ 1000000 ∧ M.bxs.length ≤ 1000000) (w : World) (hM : ModelAt w m p s b q M) (aw rw : Nat)
    (hA : Swept w b 122 aw) (hR : Swept w b 124 rw) :
    Calls Tryz.prog 72 #[ptr m, o.val] w (Replied w (otherR o M aw rw)) := by
  obtain ⟨k, x, y, z, u, i⟩ := o
  rcases (show k = 15 ∨ k = 16 ∨ k = 17 ∨ k = 18 ∨ k = 19 ∨ k = 20 by simp only at h1 h6; omega) with rfl | rfl | rfl | rfl | rfl | rfl
  · exact other_15 x y z u i m p s b q M hL w hM
  · exact other_16 x y z u i m p s b q M hL w hM
  · exact other_17 x y z u i m p s b q M hL w hM
  · exact other_18 x y z u i m p s b q M hL w hM aw hA
  · exact other_19 x y z u i m p s b q M hL w hM rw hR
  · exact other_20 x y z u i m p s b q M hL w hM
/-- What a model replies, and the model behind it. -/
def doR (o : OpV) (M : ModV) (aw rw : Nat) : RepV × ModV :=
  if isCode o.k = false then (⟨260, [], 0, false, 0⟩, M)
  else if o.k ≤ 6 then (⟨(changeR o M).1, [], (changeR o M).2.1, false, 0⟩, (changeR o M).2.2)
  else if o.k ≤ 14 then (pointR o M.pts, M) else (otherR o M aw rw, M)
theorem Swept.later {w W : World} {b : Nat} {f : FuncId} {n : Nat} (h : Swept w b f n) (hb : Below w.heap.size w W) : Swept W b f n := fun V hV => h V (bl hb hb.size hV)
/-- What Do leaves. -/
def Done (w : World) (m p s b q : Nat) (r : RepV) (M : ModV) (e : Ending) (w' : World) : Prop :=
  ∃ A cc, e = .returned (repV r A cc) ∧ RecRow w' ucell 1 A r.ids ∧ ModelAt w' m p s b q M ∧ Turned (fun i => i = p ∨ i = s ∨ i = b) w w'
/-- The reply's block is written, behind whatever has turned. -/
theorem do_end {w W w1 : World} {m p s b q q' : Nat} {M M' : ModV} {o : OpV} {bo br : Nat} (h : OthSt w W m p s b q M o bo br) (hmb : m < w.heap.size) (hM : ModelAt w1 m p s b q' M') (hT : Turned (fun i => i = p ∨ i = s ∨ i = b) W w1)
    {A : Option Addr} {ids : List Nat} (hr : RecRow w1 ucell 1 A ids) (hA : ∀ a, A = some a → a.block ≠ br) (v0 v1 v2 v3 v4 v5 : Value) :
    RecRow ((((((w1.setCell ⟨br, 0, none⟩ v0).setCell ⟨br, 1, none⟩ v1).setCell ⟨br, 2, none⟩ v2).setCell ⟨br, 3, none⟩ v3).setCell ⟨br, 4, none⟩ v4).setCell ⟨br, 5, none⟩ v5) ucell 1 A ids ∧
    ModelAt ((((((w1.setCell ⟨br, 0, none⟩ v0).setCell ⟨br, 1, none⟩ v1).setCell ⟨br, 2, none⟩ v2).setCell ⟨br, 3, none⟩ v3).setCell ⟨br, 4, none⟩ v4).setCell ⟨br, 5, none⟩ v5) m p s b q' M' ∧
    Turned (fun i => i = p ∨ i = s ∨ i = b) w ((((((w1.setCell ⟨br, 0, none⟩ v0).setCell ⟨br, 1, none⟩ v1).setCell ⟨br, 2, none⟩ v2).setCell ⟨br, 3, none⟩ v3).setCell ⟨br, 4, none⟩ v4).setCell ⟨br, 5, none⟩ v5) := by
  have hge := h.ge
  have ho := h.mod.ord
  have f : ∀ {W : World}, ModelAt W m p s b q' M' → ∀ (j : Nat) (v : Value), ModelAt (W.setCell ⟨br, j, none⟩ v) m p s b q' M' := fun g j v => g.far (by show br ≠ m; omega) (by show br ≠ p; omega) (by show br ≠ s; omega) (by show br ≠ b; omega) v
  have T : Turned (fun i => i = p ∨ i = s ∨ i = b) w w1 := Turned.then_ (may' := fun i => i = p ∨ i = s ∨ i = b) ⟨h.below.os, h.below.tape, h.below.output, h.below.size, fun i hi _ => h.below.block i hi⟩ hT (fun i g _ => g)
  have t : ∀ {W : World}, Turned (fun i => i = p ∨ i = s ∨ i = b) w W → ∀ (j : Nat) (v : Value), Turned (fun i => i = p ∨ i = s ∨ i = b) w (W.setCell ⟨br, j, none⟩ v) := fun g j v => g.setCell (.inr hge) v
  have r : ∀ {W : World}, RecRow W ucell 1 A ids → ∀ (j : Nat) (v : Value), RecRow (W.setCell ⟨br, j, none⟩ v) ucell 1 A ids := fun g j v => g.same (by rw [World.size_setCell]; exact Nat.le_refl _) fun a ha => Below.heap_setCell _ _ v a.block (hA a ha)
  exact ⟨r (r (r (r (r (r hr 0 v0) 1 v1) 2 v2) 3 v3) 4 v4) 5 v5, f (f (f (f (f (f hM 0 v0) 1 v1) 2 v2) 3 v3) 4 v4) 5 v5, t (t (t (t (t (t T 0 v0) 1 v1) 2 v2) 3 v3) 4 v4) 5 v5⟩
set_option maxRecDepth 100000 in
set_option maxHeartbeats 2000000 in
theorem do_zero (o : OpV) (hk : o.k = 0) (m p s b q : Nat) (M : ModV) (w : World) (hM : ModelAt w m p s b q M) :
    Calls Tryz.prog 27 #[ptr m, o.val] w (Done w m p s b (q + 1) ⟨260, [], 0, false, 0⟩ M) := by
  have HS := Lib.hid (OthSt.start hM o)
  have HLT := Lib.hid hM.blk.lt
  clear hM
  obtain ⟨k, x, y, z, u, i⟩ := o
  obtain rfl : k = 0 := hk
  go_enter Tryz.func27, Tryz.ntmps27
  go_wp2_with fail
  generalize (w.alloc _).alloc _ = V at HS ⊢
  refine (mnone_any _ HS.out.mod).mono ?_
  rintro e w1 ⟨rfl, rfl⟩
  generalize w.heap.size = bo at HS ⊢
  obtain ⟨br, hbr⟩ : ∃ br, bo + 1 = br := ⟨_, rfl⟩
  rw [hbr] at HS ⊢
  clear hbr
  obtain ⟨c0, c1, c2, c3, c4, c5⟩ := op_cellsM HS.out.op
  obtain ⟨r0, r1, r2, r3, r4, r5⟩ := rep_cells HS.out.rep
  have f := Blk.frozen HS.out.rep
  go_wp2_with fail
  have HF := Lib.hid (fun v0 v1 v2 v3 v4 v5 => do_end HS.out HLT.out HS.out.mod.more (Turned.refl _ _) (A := none) (ids := []) (RecRow.nil V none) (fun a ha => by cases ha) v0 v1 v2 v3 v4 v5)
  exact bodyPost_ret (v := repE 260 0) (by simp [results, Tryz.results27, go_sem, r0, r1, r2, r3, r4, r5]) rfl ⟨none, 0, rfl, HF.out _ _ _ _ _ _⟩
set_option maxRecDepth 100000 in
set_option maxHeartbeats 2000000 in
theorem do_far (o : OpV) (hk : 20 < o.k) (m p s b q : Nat) (M : ModV) (w : World) (hM : ModelAt w m p s b q M) :
    Calls Tryz.prog 27 #[ptr m, o.val] w (Done w m p s b (q + 1) ⟨260, [], 0, false, 0⟩ M) := by
  have HS := Lib.hid (OthSt.start hM o)
  have HLT := Lib.hid hM.blk.lt
  clear hM
  obtain ⟨k, x, y, z, u, i⟩ := o
  replace hk : 20 < k := hk
  have ha1 : decide ((k : Int) < 1) = false := decide_eq_false (by omega)
  have ha2 : decide ((20 : Int) < (k : Int)) = true := decide_eq_true (by omega)
  clear hk
  go_enter Tryz.func27, Tryz.ntmps27
  go_wp2_with fail
  generalize (w.alloc _).alloc _ = V at HS ⊢
  refine (mnone_any _ HS.out.mod).mono ?_
  rintro e w1 ⟨rfl, rfl⟩
  generalize w.heap.size = bo at HS ⊢
  obtain ⟨br, hbr⟩ : ∃ br, bo + 1 = br := ⟨_, rfl⟩
  rw [hbr] at HS ⊢
  clear hbr
  obtain ⟨c0, c1, c2, c3, c4, c5⟩ := op_cellsM HS.out.op
  obtain ⟨r0, r1, r2, r3, r4, r5⟩ := rep_cells HS.out.rep
  have f := Blk.frozen HS.out.rep
  go_wp2_with fail
  have HF := Lib.hid (fun v0 v1 v2 v3 v4 v5 => do_end HS.out HLT.out HS.out.mod.more (Turned.refl _ _) (A := none) (ids := []) (RecRow.nil V none) (fun a ha => by cases ha) v0 v1 v2 v3 v4 v5)
  exact bodyPost_ret (v := repE 260 0) (by simp [results, Tryz.results27, go_sem, r0, r1, r2, r3, r4, r5]) rfl ⟨none, 0, rfl, HF.out _ _ _ _ _ _⟩
set_option maxRecDepth 100000 in
set_option maxHeartbeats 2000000 in
theorem do_change (o : OpV) (h1 : 1 ≤ o.k) (h6 : o.k ≤ 6) (hid : o.id < 4294967296) (m p s b q : Nat) (M : ModV) (w : World) (hM : ModelAt w m p s b q M) (hq : q < 1000000000) :
    Calls Tryz.prog 27 #[ptr m, o.val] w (Done w m p s b (q + 1) ⟨(changeR o M).1, [], (changeR o M).2.1, false, 0⟩ (changeR o M).2.2) := by
  have HS := Lib.hid (OthSt.start hM o)
  have HLT := Lib.hid hM.blk.lt
  clear hM
  obtain ⟨k, x, y, z, u, i⟩ := o
  replace h1 : 1 ≤ k := h1
  replace h6 : k ≤ 6 := h6
  obtain ⟨er, cn, M2, hX⟩ : ∃ er cn M2, changeR ⟨k, x, y, z, u, i⟩ M = (er, cn, M2) := ⟨_, _, _, rfl⟩
  have HC := Lib.hid (fun V hV => by have g := change_any ⟨k, x, y, z, u, i⟩ h1 h6 hid m p s b q M hq V hV; rw [hX] at g; exact g)
  have ha1 : decide ((k : Int) < 1) = false := decide_eq_false (by omega)
  have ha2 : decide ((20 : Int) < (k : Int)) = false := decide_eq_false (by omega)
  have ha3 : decide ((k : Int) ≤ 6) = true := decide_eq_true (by omega)
  rw [hX]
  clear h1 h6 hid hq hX
  go_enter Tryz.func27, Tryz.ntmps27
  go_wp2_with fail
  generalize (w.alloc _).alloc _ = V at HS ⊢
  refine (mnone_any _ HS.out.mod).mono ?_
  rintro e w1 ⟨rfl, rfl⟩
  generalize w.heap.size = bo at HS ⊢
  obtain ⟨br, hbr⟩ : ∃ br, bo + 1 = br := ⟨_, rfl⟩
  rw [hbr] at HS ⊢
  clear hbr
  obtain ⟨c0, c1, c2, c3, c4, c5⟩ := op_cellsM HS.out.op
  obtain ⟨r0, r1, r2, r3, r4, r5⟩ := rep_cells HS.out.rep
  have f := Blk.frozen HS.out.rep
  go_wp2_with fail
  refine (HC.out V HS.out.mod).mono ?_
  rintro e w2 ⟨rfl, hM2, hT2⟩
  clear r0 r1 r2 r3 r4 r5 f c0 c1 c2 c3 c4 c5
  have hne : ¬ (br = p ∨ br = s ∨ br = b) := by have := HS.out.ge; have := HS.out.mod.ord; have := HLT.out; omega
  obtain ⟨r0, r1, r2, r3, r4, r5⟩ := rep_cells (HS.out.rep.turned hT2 hne)
  have f := Blk.frozen (HS.out.rep.turned hT2 hne)
  have HF := Lib.hid (fun v0 v1 v2 v3 v4 v5 => do_end HS.out HLT.out hM2 hT2 (A := none) (ids := []) (RecRow.nil w2 none) (fun a ha => by cases ha) v0 v1 v2 v3 v4 v5)
  clear hM2 hT2 hne
  go_wp2_with fail
  exact bodyPost_ret (v := repE er cn) (by simp [results, Tryz.results27, go_sem, r0, r1, r2, r3, r4, r5]) rfl ⟨none, 0, rfl, HF.out _ _ _ _ _ _⟩
set_option maxRecDepth 100000 in
set_option maxHeartbeats 2000000 in
theorem do_point (o : OpV) (h1 : 7 ≤ o.k) (h6 : o.k ≤ 14) (m p s b q : Nat) (M : ModV) (w : World) (hM : ModelAt w m p s b q M) (hL : M.pts.length ≤ 1000000) :
    Calls Tryz.prog 27 #[ptr m, o.val] w (Done w m p s b (q + 1) (pointR o M.pts) M) := by
  have HS := Lib.hid (OthSt.start hM o)
  have HLT := Lib.hid hM.blk.lt
  clear hM
  obtain ⟨k, x, y, z, u, i⟩ := o
  replace h1 : 7 ≤ k := h1
  replace h6 : k ≤ 14 := h6
  obtain ⟨RR, hRR⟩ : ∃ RR, pointR ⟨k, x, y, z, u, i⟩ M.pts = RR := ⟨_, rfl⟩
  have HC := Lib.hid (fun V hV => hRR ▸ point_any ⟨k, x, y, z, u, i⟩ h1 h6 m p s b q M hL V hV)
  have ha1 : decide ((k : Int) < 1) = false := decide_eq_false (by omega)
  have ha2 : decide ((20 : Int) < (k : Int)) = false := decide_eq_false (by omega)
  have ha3 : decide ((k : Int) ≤ 6) = false := decide_eq_false (by omega)
  have ha4 : decide ((k : Int) ≤ 14) = true := decide_eq_true (by omega)
  rw [hRR]
  clear h1 h6 hL hRR
  go_enter Tryz.func27, Tryz.ntmps27
  go_wp2_with fail
  generalize (w.alloc _).alloc _ = V at HS ⊢
  refine (mnone_any _ HS.out.mod).mono ?_
  rintro e w1 ⟨rfl, rfl⟩
  generalize w.heap.size = bo at HS ⊢
  obtain ⟨br, hbr⟩ : ∃ br, bo + 1 = br := ⟨_, rfl⟩
  rw [hbr] at HS ⊢
  clear hbr
  obtain ⟨c0, c1, c2, c3, c4, c5⟩ := op_cellsM HS.out.op
  obtain ⟨r0, r1, r2, r3, r4, r5⟩ := rep_cells HS.out.rep
  have f := Blk.frozen HS.out.rep
  go_wp2_with fail
  refine (HC.out V HS.out.mod).mono ?_
  rintro e w2 ⟨A, cc, rfl, hr, hb⟩
  clear r0 r1 r2 r3 r4 r5 f c0 c1 c2 c3 c4 c5
  obtain ⟨r0, r1, r2, r3, r4, r5⟩ := rep_cells (HS.out.rep.below hb HS.out.rep.lt)
  have f := Blk.frozen (HS.out.rep.below hb HS.out.rep.lt)
  have HF := Lib.hid (fun v0 v1 v2 v3 v4 v5 => do_end HS.out HLT.out (HS.out.mod.later hb).more (Turned.mono (may := fun _ => False) (Turned.of_below hb) fun _ g => g.elim) hr.1 (fun a ha => by have h1 := hr.2 a ha; have h2 := HS.out.rep.lt; omega) v0 v1 v2 v3 v4 v5)
  clear hr hb
  obtain ⟨re, ri, rc, ry, rw0⟩ := RR
  obtain ⟨hi, hhi⟩ : ∃ hi : Int, ((rw0 / 18446744073709551616 : Nat) : Int) = hi := ⟨_, rfl⟩
  obtain ⟨lo, hlo⟩ : ∃ lo : Int, ((rw0 % 18446744073709551616 : Nat) : Int) = lo := ⟨_, rfl⟩
  have HV := Lib.hid (show repV ⟨re, ri, rc, ry, rw0⟩ A cc = .agg #[.int .i64 re, .slice A ri.length cc, .int .i64 rc, .bool ry, .int .u64 hi, .int .u64 lo] by rw [← hhi, ← hlo] <;> rfl)
  clear hhi hlo
  rw [HV.out]
  go_wp2_with fail
  exact bodyPost_ret (v := .agg #[.int .i64 re, .slice A ri.length cc, .int .i64 rc, .bool ry, .int .u64 hi, .int .u64 lo]) (by simp [results, Tryz.results27, go_sem, r0, r1, r2, r3, r4, r5]) rfl ⟨A, cc, congrArg Ending.returned HV.out.symm, HF.out _ _ _ _ _ _⟩
set_option maxRecDepth 100000 in
set_option maxHeartbeats 2000000 in
theorem do_other (o : OpV) (h1 : 15 ≤ o.k) (h6 : o.k ≤ 20) (m p s b q : Nat) (M : ModV) (w : World) (hM : ModelAt w m p s b q M) (hL : M.sps.length ≤ 1000000 ∧ M.bxs.length ≤ 1000000) (an rn : Nat) (hA : Swept w b 122 an) (hR : Swept w b 124 rn) :
    Calls Tryz.prog 27 #[ptr m, o.val] w (Done w m p s b (q + 1) (otherR o M an rn) M) := by
  have HS := Lib.hid (OthSt.start hM o)
  have HLT := Lib.hid hM.blk.lt
  clear hM
  obtain ⟨k, x, y, z, u, i⟩ := o
  replace h1 : 15 ≤ k := h1
  replace h6 : k ≤ 20 := h6
  obtain ⟨RR, hRR⟩ : ∃ RR, otherR ⟨k, x, y, z, u, i⟩ M an rn = RR := ⟨_, rfl⟩
  have HC := Lib.hid (fun V (hbV : Below w.heap.size w V) hV => hRR ▸ other_any ⟨k, x, y, z, u, i⟩ h1 h6 m p s b q M hL V hV an rn (hA.later hbV) (hR.later hbV))
  have ha1 : decide ((k : Int) < 1) = false := decide_eq_false (by omega)
  have ha2 : decide ((20 : Int) < (k : Int)) = false := decide_eq_false (by omega)
  have ha3 : decide ((k : Int) ≤ 6) = false := decide_eq_false (by omega)
  have ha4 : decide ((k : Int) ≤ 14) = false := decide_eq_false (by omega)
  rw [hRR]
  clear h1 h6 hL hRR hA hR
  go_enter Tryz.func27, Tryz.ntmps27
  go_wp2_with fail
  generalize (w.alloc _).alloc _ = V at HS ⊢
  refine (mnone_any _ HS.out.mod).mono ?_
  rintro e w1 ⟨rfl, rfl⟩
  generalize w.heap.size = bo at HS ⊢
  obtain ⟨br, hbr⟩ : ∃ br, bo + 1 = br := ⟨_, rfl⟩
  rw [hbr] at HS ⊢
  clear hbr
  obtain ⟨c0, c1, c2, c3, c4, c5⟩ := op_cellsM HS.out.op
  obtain ⟨r0, r1, r2, r3, r4, r5⟩ := rep_cells HS.out.rep
  have f := Blk.frozen HS.out.rep
  go_wp2_with fail
  refine (HC.out V HS.out.below HS.out.mod).mono ?_
  rintro e w2 ⟨A, cc, rfl, hr, hb⟩
  clear r0 r1 r2 r3 r4 r5 f c0 c1 c2 c3 c4 c5
  obtain ⟨r0, r1, r2, r3, r4, r5⟩ := rep_cells (HS.out.rep.below hb HS.out.rep.lt)
  have f := Blk.frozen (HS.out.rep.below hb HS.out.rep.lt)
  have HF := Lib.hid (fun v0 v1 v2 v3 v4 v5 => do_end HS.out HLT.out (HS.out.mod.later hb).more (Turned.mono (may := fun _ => False) (Turned.of_below hb) fun _ g => g.elim) hr.1 (fun a ha => by have h1 := hr.2 a ha; have h2 := HS.out.rep.lt; omega) v0 v1 v2 v3 v4 v5)
  clear hr hb
  obtain ⟨re, ri, rc, ry, rw0⟩ := RR
  obtain ⟨hi, hhi⟩ : ∃ hi : Int, ((rw0 / 18446744073709551616 : Nat) : Int) = hi := ⟨_, rfl⟩
  obtain ⟨lo, hlo⟩ : ∃ lo : Int, ((rw0 % 18446744073709551616 : Nat) : Int) = lo := ⟨_, rfl⟩
  have HV := Lib.hid (show repV ⟨re, ri, rc, ry, rw0⟩ A cc = .agg #[.int .i64 re, .slice A ri.length cc, .int .i64 rc, .bool ry, .int .u64 hi, .int .u64 lo] by rw [← hhi, ← hlo] <;> rfl)
  clear hhi hlo
  rw [HV.out]
  go_wp2_with fail
  exact bodyPost_ret (v := .agg #[.int .i64 re, .slice A ri.length cc, .int .i64 rc, .bool ry, .int .u64 hi, .int .u64 lo]) (by simp [results, Tryz.results27, go_sem, r0, r1, r2, r3, r4, r5]) rfl ⟨A, cc, congrArg Ending.returned HV.out.symm, HF.out _ _ _ _ _ _⟩
/-- model.Do, whatever the operation. -/
theorem mdo_any (o : OpV) (ho : o.ok) (m p s b q : Nat) (M : ModV) (w : World) (hM : ModelAt w m p s b q M) (hq : q < 1000000000) (hp : M.pts.length ≤ 1000000) (hL : M.sps.length ≤ 1000000 ∧ M.bxs.length ≤ 1000000) (an rn : Nat)
    (hA : Swept w b 122 an) (hR : Swept w b 124 rn) : Calls Tryz.prog 27 #[ptr m, o.val] w (Done w m p s b (q + 1) (doR o M an rn).1 (doR o M an rn).2) := by
  unfold doR
  by_cases h0 : o.k = 0 ∨ 20 < o.k
  · rw [if_pos (no_code h0).2.2]
    rcases h0 with h | h
    · exact do_zero o h m p s b q M w hM
    · exact do_far o h m p s b q M w hM
  · rw [if_neg (by
      rcases code_cases (k := o.k) with h | h | ⟨j, hj⟩
      · exact absurd (.inl h) h0
      · exact absurd (.inr h) h0
      · have hd : ∀ j : Fin 20, ¬ isCode (j.val + 1) = false := by decide
        rw [hj]
        exact hd j)]
    by_cases h6 : o.k ≤ 6
    · rw [if_pos h6]
      exact do_change o (by omega) h6 ho.id m p s b q M w hM hq
    · rw [if_neg h6]
      by_cases h14 : o.k ≤ 14
      · rw [if_pos h14]
        exact do_point o (by omega) h14 m p s b q M w hM hp
      · rw [if_neg h14]
        exact do_other o (by omega) (by omega) m p s b q M w hM hL an rn hA hR
end Go.Proofs.YtokpgopdkimmmaaGreatDoor
