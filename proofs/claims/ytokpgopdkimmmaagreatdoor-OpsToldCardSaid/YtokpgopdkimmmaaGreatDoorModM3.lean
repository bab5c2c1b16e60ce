import Derived.Test.YtokpgopdkimmmaaGreatDoorModM2
import Derived.Test.YtokpgopdkimmmaaGreatDoorTellsM3
import Derived.Test.YtokpgopdkimmmaaGreatDoorOpTextWalk
import Derived.Test.YtokpgopdkimmmaaGreatDoorSortM2
/- The model's closures over points, spans, boxes: which ones are so. -/
namespace Go.Proofs.YtokpgopdkimmmaaGreatDoor
open Go.RowKit Go.Maps
set_option linter.unusedVariables false
set_option linter.unusedSimpArgs false

/-- A box in memory. -/
abbrev BxB (w : World) (b : Nat) (x : BxV) : Prop := Blk w b 71 x.cells
abbrev PtB (w : World) (b : Nat) (x : PtV) : Prop := Blk w b 159 x.cells
theorem bx_cells {w : World} {b : Nat} {x : BxV} (h : BxB w b x) : w.cell? ⟨b, 0, none⟩ = some (.int .i64 x.x1) ∧ w.cell? ⟨b, 1, none⟩ = some (.int .i64 x.x2) ∧ w.cell? ⟨b, 2, none⟩ = some (.int .i64 x.y1) ∧ w.cell? ⟨b, 3, none⟩ = some (.int .i64 x.y2) ∧ w.cell? ⟨b, 4, none⟩ = some (.int .u32 (x.id : Int)) :=
  ⟨h.cell 0, h.cell 1, h.cell 2, h.cell 3, h.cell 4⟩
theorem pt_cells {w : World} {b : Nat} {x : PtV} (h : PtB w b x) : w.cell? ⟨b, 0, none⟩ = some (.int .i64 x.x) ∧ w.cell? ⟨b, 1, none⟩ = some (.int .i64 x.y) ∧ w.cell? ⟨b, 2, none⟩ = some (.int .u32 (x.id : Int)) :=
  ⟨h.cell 0, h.cell 1, h.cell 2⟩
theorem op_cellsM {w : World} {b : Nat} {o : OpV} (h : OpB w b o) : w.cell? ⟨b, 0, none⟩ = some (.int .u8 (o.k : Int)) ∧ w.cell? ⟨b, 1, none⟩ = some (.int .i64 o.a) ∧ w.cell? ⟨b, 2, none⟩ = some (.int .i64 o.b) ∧ w.cell? ⟨b, 3, none⟩ = some (.int .i64 o.c) ∧ w.cell? ⟨b, 4, none⟩ = some (.int .i64 o.d) ∧ w.cell? ⟨b, 5, none⟩ = some (.int .u32 (o.id : Int)) :=
  ⟨Blk.cell h 0, Blk.cell h 1, Blk.cell h 2, Blk.cell h 3, Blk.cell h 4, Blk.cell h 5⟩
abbrev ptr (b : Nat) : Value := .pointer (some ⟨b, 0, none⟩)
def ptIn (x : BxV) (p : PtV) : Bool := inB p.x p.y x.x1 x.x2 x.y1 x.y2

set_option maxRecDepth 100000 in
set_option maxHeartbeats 1000000 in
theorem point1_any (p : PtV) (b : Nat) (x : BxV) (w : World) (h : BxB w b x) : Calls Tryz.prog 105 (#[.agg p.cells] ++ #[ptr b]) w fun e w' => e = .returned (.bool (ptIn x p)) ∧ Below w.heap.size w w' := by
  show Calls _ _ #[.agg p.cells, ptr b] _ _
  obtain ⟨c0, c1, c2, c3, c4⟩ := bx_cells h
  have hlt := Blk.lt h
  clear h
  go_enter Tryz.func105, Tryz.ntmps105
  go_wp2_with fail
  refine (In_any _ _ _ _ _ _ _ _ _).mono ?_
  rintro e w1 ⟨rfl, hb1⟩
  go_wp2_with fail
  go_ret
  exact ⟨rfl, bl ((Below.refl _ _).alloc (Nat.le_refl _) _) (by simp) hb1⟩
set_option maxRecDepth 100000 in
set_option maxHeartbeats 1000000 in
theorem point2_any (p : PtV) (b : Nat) (x : BxV) (w : World) (h : BxB w b x) : Calls Tryz.prog 107 (#[.agg p.cells] ++ #[ptr b]) w fun e w' => e = .returned (.bool (ptIn x p)) ∧ Below w.heap.size w w' := by
  show Calls _ _ #[.agg p.cells, ptr b] _ _
  obtain ⟨c0, c1, c2, c3, c4⟩ := bx_cells h
  have hlt := Blk.lt h
  clear h
  go_enter Tryz.func107, Tryz.ntmps107
  go_wp2_with fail
  refine (In_any _ _ _ _ _ _ _ _ _).mono ?_
  rintro e w1 ⟨rfl, hb1⟩
  go_wp2_with fail
  go_ret
  exact ⟨rfl, bl ((Below.refl _ _).alloc (Nat.le_refl _) _) (by simp) hb1⟩

/-- Is a point in a corner? -/
def cornerB (o : OpV) (p : PtV) : Bool :=
  if o.c = 0 then decide (p.x ≤ o.a) && decide (p.y ≤ o.b) else if o.c = 1 then decide (o.a ≤ p.x) && decide (p.y ≤ o.b)
  else if o.c = 2 then decide (p.x ≤ o.a) && decide (o.b ≤ p.y) else if o.c = 3 then decide (o.a ≤ p.x) && decide (o.b ≤ p.y) else false
theorem cmpI_le (x y : Int) : decide (cmpI x y ≤ 0) = decide (x ≤ y) := by
  unfold cmpI
  split
  · simp; omega
  · split
    · simp; omega
    · simp; omega
theorem cmpI_ge (x y : Int) : decide (0 ≤ cmpI x y) = decide (y ≤ x) := by
  unfold cmpI
  split
  · simp; omega
  · split
    · simp; omega
    · simp; omega
set_option maxRecDepth 100000 in
set_option maxHeartbeats 4000000 in
theorem corner_any (p : PtV) (o : OpV) (w : World) : Calls Tryz.prog 109 #[.agg p.cells, o.val] w fun e w' => e = .returned (.bool (cornerB o p)) ∧ Below w.heap.size w w' := by
  obtain ⟨k, a, b, c, d, id⟩ := o
  have HP := Lib.hid (show cornerB ⟨k, a, b, c, d, id⟩ p = (if c = 0 then decide (cmpI p.x a ≤ 0) && decide (cmpI p.y b ≤ 0) else if c = 1 then decide (0 ≤ cmpI p.x a) && decide (cmpI p.y b ≤ 0) else if c = 2 then decide (cmpI p.x a ≤ 0) && decide (0 ≤ cmpI p.y b) else if c = 3 then decide (0 ≤ cmpI p.x a) && decide (0 ≤ cmpI p.y b) else false) by rw [cmpI_le, cmpI_le, cmpI_ge, cmpI_ge]; rfl)
  go_enter Tryz.func109, Tryz.ntmps109
  go_wp2_with fail
  go_quiet (first | (go_at_call 154; exact Calls.quiet_of_same ((compare64 _ _ _).mono fun _ _ ⟨he, hw⟩ => ⟨he, hw.symm⟩)))
  go_wp2_with fail
  all_goals
    go_ret
    refine ⟨ret_bool ?_, below_drewN' (((Below.refl _ _).alloc (Nat.le_refl _) _).alloc (by simp) _) _⟩
    rw [HP.out]
    clear HP
    simp_all
    all_goals omega

set_option maxRecDepth 100000 in
set_option maxHeartbeats 1000000 in
theorem point3_any (p : PtV) (b : Nat) (o : OpV) (w : World) (h : OpB w b o) : Calls Tryz.prog 108 (#[.agg p.cells] ++ #[ptr b]) w fun e w' => e = .returned (.bool (cornerB o p)) ∧ Below w.heap.size w w' := by
  show Calls _ _ #[.agg p.cells, ptr b] _ _
  obtain ⟨c0, c1, c2, c3, c4, c5⟩ := op_cellsM h
  have hlt := Blk.lt h
  clear h
  go_enter Tryz.func108, Tryz.ntmps108
  go_wp2_with fail
  refine (corner_any p o _).mono ?_
  rintro e w1 ⟨rfl, hb1⟩
  go_wp2_with fail
  go_ret
  exact ⟨rfl, bl ((Below.refl _ _).alloc (Nat.le_refl _) _) (by simp) hb1⟩

/-- Is a point lower than another one, of those in a box? -/
def ptLower (x : BxV) (p q : PtV) : Bool := ptIn x q && decide (byI q.y p.y (q.id : Int) (p.id : Int) < 0)
set_option maxRecDepth 100000 in
set_option maxHeartbeats 1000000 in
theorem point41_any (q : PtV) (b c : Nat) (x : BxV) (p : PtV) (w : World) (h : BxB w b x) (hc : PtB w c p) : Calls Tryz.prog 111 (#[.agg q.cells] ++ #[ptr b, ptr c]) w fun e w' => e = .returned (.bool (ptLower x p q)) ∧ Below w.heap.size w w' := by
  show Calls _ _ #[.agg q.cells, ptr b, ptr c] _ _
  obtain ⟨c0, c1, c2, c3, c4⟩ := bx_cells h
  obtain ⟨d0, d1, d2⟩ := pt_cells hc
  have hlt := Blk.lt h
  have hlc := Blk.lt hc
  clear h hc
  obtain ⟨t, ht⟩ : ∃ t, ptIn x q = t := ⟨_, rfl⟩
  have hi : ∀ w, Calls Tryz.prog 106 #[.agg q.cells, .agg x.cells] w fun e w' => e = .returned (.bool t) ∧ Below w.heap.size w w' := fun w => by rw [← ht]; exact In_any _ _ _ _ _ _ _ _ w
  have HT := Lib.hid ht
  clear ht
  cases t with
  | false =>
    go_enter Tryz.func111, Tryz.ntmps111
    go_wp2_with fail
    refine (hi _).mono ?_
    rintro e w1 ⟨rfl, hb1⟩
    go_wp2_with fail
    go_ret
    exact ⟨ret_bool (by unfold ptLower; rw [HT.out]; rfl), bl ((Below.refl _ _).alloc (Nat.le_refl _) _) (by simp) hb1⟩
  | true =>
    go_enter Tryz.func111, Tryz.ntmps111
    go_wp2_with fail
    refine (hi _).mono ?_
    rintro e w1 ⟨rfl, hb1⟩
    have hz : w.heap.size < w1.heap.size := by have := hb1.size; simp at this; omega
    have HB1 := Lib.hid (bl ((Below.refl w.heap.size w).alloc (Nat.le_refl _) _) (by simp) hb1)
    obtain ⟨f1, f2, _⟩ := bfacts hb1
    clear hb1
    go_wp2_with fail
    refine (ByY_any _ _ _ _ _ _ _).mono ?_
    rintro e w2 ⟨rfl, hb2⟩
    go_wp2_with fail
    go_ret
    exact ⟨ret_bool (by unfold ptLower; rw [HT.out]; rfl), bl HB1.out (by have := HB1.out.size; omega) hb2⟩
end Go.Proofs.YtokpgopdkimmmaaGreatDoor
/- model.chosen, its names rising. -/
namespace Go.Proofs.YtokpgopdkimmmaaGreatDoor
open Go.RowKit Go.Maps
set_option linter.unusedVariables false
set_option linter.unusedSimpArgs false

theorem soL_le {α : Type} (k : RecK α) (so : α → Bool) (L : List α) : (soL k so L).length ≤ L.length := by
  unfold soL
  rw [List.length_map]
  exact List.length_filter_le _ _
/-- The names of those that are so, rising. -/
def pickN {α : Type} (k : RecK α) (so : α → Bool) (L : List α) : List Nat := sortN (soL k so L)
theorem flat_u (l : List Nat) : flatR ucell l = uvals l := by
  unfold flatR uvals
  induction l with
  | nil => rfl
  | cons x l ih => rw [List.flatMap_cons, List.map_cons, ih]; rfl
/-- A row of names that did not lie in w. -/
def Row32 (w w' : World) (A : Option Addr) (ids : List Nat) : Prop := RecRow w' ucell 1 A ids ∧ ∀ a, A = some a → w.heap.size ≤ a.block
theorem Row32.set {w w' : World} {A : Option Addr} {ids : List Nat} (h : Row32 w w' A ids) {p : Addr} (hp : p.block < w.heap.size) (v : Value) : Row32 w (w'.setCell p v) A ids :=
  ⟨h.1.same (by rw [World.size_setCell]; exact Nat.le_refl _) fun a ha => Below.heap_setCell w' p v a.block (fun e => by have := h.2 a ha; omega), h.2⟩
theorem pick_out {w w' : World} {v : Value} {ids l : List Nat} (hp : ids.Perm l) (h : w'.ownsRow w.heap.size 22 1 v ids.length (uvals (sortN ids))) : ∃ A c, v = .slice A (sortN l).length c ∧ Row32 w w' A (sortN l) := by
  rw [sortN_eq hp] at h
  have hl : ids.length = (sortN l).length := by rw [sortN_len, hp.length_eq]
  rw [hl, ← flat_u] at h
  have h' := h
  rcases h'.2 with ⟨rfl, h0⟩ | ⟨g, cap, cur, rfl, hg, _⟩
  · have hz : sortN l = [] := List.length_eq_zero_iff.1 h0
    rw [hz]
    exact ⟨none, 0, rfl, RecRow.nil _ _, fun a ha => by cases ha⟩
  · exact ⟨_, cap, rfl, RecRow.of_own ucellk h rfl, fun a ha => by cases ha; exact hg⟩
theorem sort_for {w : World} (ids : List Nat) (v : Value) (W : World) (hn : ids.length < 4611686018427387904) (ho : W.ownsRow w.heap.size 22 1 v ids.length (uvals ids)) (hb : Below w.heap.size w W) :
    Calls Tryz.prog 153 #[v] W fun e W' => e = .returned (.tuple #[]) ∧ W'.ownsRow w.heap.size 22 1 v ids.length (uvals (sortN ids)) ∧ Below w.heap.size w W' :=
  (sort32_any w.heap.size ids v W hn ho).mono fun e W' ⟨he, ho', ht⟩ => ⟨he, ho', hb.trans (ht.below hb.size fun g hg => (ho.lt g hg).1)⟩
section
variable (b q : Nat) (gf : FuncId) (cap : Array Value) (w : World) (heg : ∀ args w, (callFunc gf args).run Tryz.prog w = .ok (.enter gf args) w)
theorem ptPick_any (L : List PtV) (hLL : L.length ≤ 1000000) (so : PtV → Bool) (hM : MapR Tryz.prog 22 ptK b q L w) (heg : ∀ args w, (callFunc gf args).run Tryz.prog w = .ok (.enter gf args) w)
    (hso : ∀ x ∈ L, ∀ W, Below w.heap.size w W → Calls Tryz.prog gf (#[.agg x.cells] ++ cap) W fun e W' => e = .returned (.bool (so x)) ∧ Below W.heap.size W W') :
    Calls Tryz.prog 104 #[.map (some b), .func (.func gf) #[] cap] w fun e w' => ∃ A c, e = .returned (.slice A (pickN ptK so L).length c) ∧ Row32 w w' A (pickN ptK so L) ∧ Below w.heap.size w w' :=
  (ptChosen_any L hLL b q so gf cap w hM heg hso sortN fun ids v W hp ho hb => sort_for ids v W (by have := hp.length_eq; have := soL_le ptK so L; omega) ho hb).mono fun e w' ⟨v, ids, he, hp, ho, hb⟩ => by
    obtain ⟨A, c, rfl, hr⟩ := pick_out hp ho
    exact ⟨A, c, he, hr, hb⟩
theorem spPick_any (L : List SpV) (hLL : L.length ≤ 1000000) (so : SpV → Bool) (hM : MapR Tryz.prog 22 spK b q L w) (heg : ∀ args w, (callFunc gf args).run Tryz.prog w = .ok (.enter gf args) w)
    (hso : ∀ x ∈ L, ∀ W, Below w.heap.size w W → Calls Tryz.prog gf (#[.agg x.cells] ++ cap) W fun e W' => e = .returned (.bool (so x)) ∧ Below W.heap.size W W') :
    Calls Tryz.prog 116 #[.map (some b), .func (.func gf) #[] cap] w fun e w' => ∃ A c, e = .returned (.slice A (pickN spK so L).length c) ∧ Row32 w w' A (pickN spK so L) ∧ Below w.heap.size w w' :=
  (spChosen_any L hLL b q so gf cap w hM heg hso sortN fun ids v W hp ho hb => sort_for ids v W (by have := hp.length_eq; have := soL_le spK so L; omega) ho hb).mono fun e w' ⟨v, ids, he, hp, ho, hb⟩ => by
    obtain ⟨A, c, rfl, hr⟩ := pick_out hp ho
    exact ⟨A, c, he, hr, hb⟩
theorem bxPick_any (L : List BxV) (hLL : L.length ≤ 1000000) (so : BxV → Bool) (hM : MapR Tryz.prog 22 bxK b q L w) (heg : ∀ args w, (callFunc gf args).run Tryz.prog w = .ok (.enter gf args) w)
    (hso : ∀ x ∈ L, ∀ W, Below w.heap.size w W → Calls Tryz.prog gf (#[.agg x.cells] ++ cap) W fun e W' => e = .returned (.bool (so x)) ∧ Below W.heap.size W W') :
    Calls Tryz.prog 125 #[.map (some b), .func (.func gf) #[] cap] w fun e w' => ∃ A c, e = .returned (.slice A (pickN bxK so L).length c) ∧ Row32 w w' A (pickN bxK so L) ∧ Below w.heap.size w w' :=
  (bxChosen_any L hLL b q so gf cap w hM heg hso sortN fun ids v W hp ho hb => sort_for ids v W (by have := hp.length_eq; have := soL_le bxK so L; omega) ho hb).mono fun e w' ⟨v, ids, he, hp, ho, hb⟩ => by
    obtain ⟨A, c, rfl, hr⟩ := pick_out hp ho
    exact ⟨A, c, he, hr, hb⟩
end
end Go.Proofs.YtokpgopdkimmmaaGreatDoor
/- The model's closures that ask again: the lowest point, the skyline. -/
namespace Go.Proofs.YtokpgopdkimmmaaGreatDoor
open Go.RowKit Go.Maps
set_option linter.unusedVariables false
set_option linter.unusedSimpArgs false

theorem pick_none {α : Type} (k : RecK α) (so : α → Bool) (L : List α) : (((pickN k so L).length : Int) == 0) = !(L.any so) := by
  unfold pickN soL
  rw [sortN_len, List.length_map]
  cases h : L.any so with
  | true =>
    obtain ⟨x, hx, hs⟩ := List.any_eq_true.1 h
    have : 0 < (L.filter so).length := List.length_pos_of_mem (List.mem_filter.2 ⟨hx, hs⟩)
    rw [Bool.not_true, beq_eq_false_iff_ne]
    omega
  | false =>
    have : L.filter so = [] := by
      rw [List.filter_eq_nil_iff]
      intro x hx hs
      rw [List.any_eq_false] at h
      exact h x hx hs
    rw [this]
    rfl
theorem pick_le {α : Type} (k : RecK α) (so : α → Bool) (L : List α) : (pickN k so L).length ≤ L.length := by
  unfold pickN soL
  rw [sortN_len, List.length_map]
  exact List.length_filter_le _ _
/-- A model, where a variable that holds it stands. -/
structure ModelVar (w : World) (bm m p s b q : Nat) (M : ModV) : Prop where
  var : Blk w bm 53 #[ptr m]
  mod : ModelAt w m p s b q M
theorem ModelVar.later {w w' : World} {bm m p s b q : Nat} {M : ModV} (h : ModelVar w bm m p s b q M) (hb : Below w.heap.size w w') : ModelVar w' bm m p s b q M := ⟨Blk.below h.var hb (Blk.lt h.var), h.mod.later hb⟩
theorem ModelVar.alloc {w : World} {bm m p s b q : Nat} {M : ModV} (h : ModelVar w bm m p s b q M) (o : Obj) : ModelVar (w.alloc o) bm m p s b q M := h.later ((Below.refl _ _).alloc (Nat.le_refl _) o)
theorem ModelVar.cells {w : World} {bm m p s b q : Nat} {M : ModV} (h : ModelVar w bm m p s b q M) : w.cell? ⟨bm, 0, none⟩ = some (ptr m) ∧ w.cell? ⟨m, 1, none⟩ = some (.map (some p)) ∧ w.cell? ⟨m, 2, none⟩ = some (.map (some s)) ∧ w.cell? ⟨m, 3, none⟩ = some (.map (some b)) ∧ bm < w.heap.size ∧ m < w.heap.size :=
  ⟨h.var.cell 0, h.mod.blk.cell 1, h.mod.blk.cell 2, h.mod.blk.cell 3, h.var.lt, h.mod.blk.lt⟩

/-- The first point of a strip: none is lower. -/
def ptFirst (x : BxV) (L : List PtV) (p : PtV) : Bool := ptIn x p && !(L.any (ptLower x p))
set_option maxRecDepth 100000 in
set_option maxHeartbeats 2000000 in
theorem point4_any (pt : PtV) (c bm m p s b q : Nat) (x : BxV) (M : ModV) (hL : M.pts.length ≤ 1000000) (w : World) (h : BxB w c x) (hM : ModelVar w bm m p s b q M) :
    Calls Tryz.prog 110 (#[.agg pt.cells] ++ #[ptr c, ptr bm]) w fun e w' => e = .returned (.bool (ptFirst x M.pts pt)) ∧ Below w.heap.size w w' := by
  show Calls _ _ #[.agg pt.cells, ptr c, ptr bm] _ _
  obtain ⟨c0, c1, c2, c3, c4⟩ := bx_cells h
  have hlt := Blk.lt h
  obtain ⟨t, ht⟩ : ∃ t, ptIn x pt = t := ⟨_, rfl⟩
  have hi : ∀ w, Calls Tryz.prog 106 #[.agg pt.cells, .agg x.cells] w fun e w' => e = .returned (.bool t) ∧ Below w.heap.size w w' := fun w => by rw [← ht]; exact In_any _ _ _ _ _ _ _ _ w
  have HT := Lib.hid ht
  have HM := Lib.hid hM
  have HB := Lib.hid h
  have hbm := Blk.lt hM.var
  clear ht hM h
  cases t with
  | false =>
    go_enter Tryz.func110, Tryz.ntmps110
    go_wp2_with fail
    refine (hi _).mono ?_
    rintro e w1 ⟨rfl, hb1⟩
    go_wp2_with fail
    go_ret
    exact ⟨ret_bool (by unfold ptFirst; rw [HT.out]; rfl), bl ((Below.refl _ _).alloc (Nat.le_refl _) _) (by simp) hb1⟩
  | true =>
    have hpn := pick_none ptK (ptLower x pt) M.pts
    obtain ⟨u, hu⟩ : ∃ u, M.pts.any (ptLower x pt) = u := ⟨_, rfl⟩
    rw [hu] at hpn
    obtain ⟨N, hN⟩ : ∃ N, (pickN ptK (ptLower x pt) M.pts).length = N := ⟨_, rfl⟩
    rw [hN] at hpn
    have HU := Lib.hid hu
    have HN := Lib.hid hN
    clear hu hN
    go_enter Tryz.func110, Tryz.ntmps110
    go_wp2_with fail
    refine (hi _).mono ?_
    rintro e w1 ⟨rfl, hb1⟩
    have HB1 := Lib.hid (bl ((Below.refl w.heap.size w).alloc (Nat.le_refl _) _) (by simp) hb1)
    have HM1 := Lib.hid ((HM.out.alloc _).later hb1)
    have HX1 := Lib.hid (Blk.below (Blk.alloc HB.out _) hb1 (Blk.lt (Blk.alloc HB.out _)))
    have HP1 := Lib.hid (Blk.below (Blk.new w 159 pt.cells) hb1 (Blk.lt (Blk.new w _ _)))
    obtain ⟨d0, d1, d2, d3, d4, d5⟩ := HM1.out.cells
    clear hb1 hi
    go_wp2_with fail
    refine (ptPick_any p q 111 #[ptr c, ptr w.heap.size] w1 M.pts hL (ptLower x pt) HM1.out.mod.pts (enters_of Tryz.func111 (by kernel_rfl) rfl)
      (fun y _ W hW => point41_any y c w.heap.size x pt W (Blk.below HX1.out hW (Blk.lt HX1.out)) (Blk.below HP1.out hW (Blk.lt HP1.out)))).mono ?_
    rintro e w2 ⟨A, cc, rfl, hr, hb2⟩
    rw [HN.out]
    have HB2 := Lib.hid (bl HB1.out HB1.out.size hb2)
    clear hr hb2
    go_wp2_with fail
    go_ret
    exact ⟨ret_bool (by unfold ptFirst; rw [HT.out, HU.out]; rfl), HB2.out⟩

set_option maxRecDepth 100000 in
set_option maxHeartbeats 1000000 in
theorem point51_any (qt : PtV) (c : Nat) (pt : PtV) (w : World) (h : PtB w c pt) :
    Calls Tryz.prog 114 (#[.agg qt.cells] ++ #[ptr c]) w fun e w' => e = .returned (.bool (overB qt.x qt.y pt.x pt.y)) ∧ Below w.heap.size w w' := by
  show Calls _ _ #[.agg qt.cells, ptr c] _ _
  obtain ⟨d0, d1, d2⟩ := pt_cells h
  have hlt := Blk.lt h
  clear h
  go_enter Tryz.func114, Tryz.ntmps114
  go_wp2_with fail
  refine (Over_any _ _ _ _ _ _ _).mono ?_
  rintro e w1 ⟨rfl, hb1⟩
  go_wp2_with fail
  go_ret
  exact ⟨rfl, bl ((Below.refl _ _).alloc (Nat.le_refl _) _) (by simp) hb1⟩
/-- A point of the skyline: none is over it. -/
def ptSky (L : List PtV) (p : PtV) : Bool := !(L.any fun q => overB q.x q.y p.x p.y)
set_option maxRecDepth 100000 in
set_option maxHeartbeats 2000000 in
theorem point5_any (pt : PtV) (bm m p s b q : Nat) (M : ModV) (hL : M.pts.length ≤ 1000000) (w : World) (hM : ModelVar w bm m p s b q M) :
    Calls Tryz.prog 113 (#[.agg pt.cells] ++ #[ptr bm]) w fun e w' => e = .returned (.bool (ptSky M.pts pt)) ∧ Below w.heap.size w w' := by
  show Calls _ _ #[.agg pt.cells, ptr bm] _ _
  have hpn := pick_none ptK (fun q => overB q.x q.y pt.x pt.y) M.pts
  obtain ⟨u, hu⟩ : ∃ u, (M.pts.any fun q => overB q.x q.y pt.x pt.y) = u := ⟨_, rfl⟩
  rw [hu] at hpn
  obtain ⟨N, hN⟩ : ∃ N, (pickN ptK (fun q => overB q.x q.y pt.x pt.y) M.pts).length = N := ⟨_, rfl⟩
  rw [hN] at hpn
  have HU := Lib.hid hu
  have HN := Lib.hid hN
  have HM := Lib.hid (hM.alloc (.cells pt.cells 159))
  have HP := Lib.hid (Blk.new w 159 pt.cells)
  obtain ⟨d0, d1, d2, d3, d4, d5⟩ := hM.cells
  clear hu hN hM
  go_enter Tryz.func113, Tryz.ntmps113
  go_wp2_with fail
  refine (ptPick_any p q 114 #[ptr w.heap.size] _ M.pts hL (fun q => overB q.x q.y pt.x pt.y) HM.out.mod.pts (enters_of Tryz.func114 (by kernel_rfl) rfl)
    (fun y _ W hW => point51_any y w.heap.size pt W (Blk.below HP.out hW (Blk.lt HP.out)))).mono ?_
  rintro e w2 ⟨A, cc, rfl, hr, hb2⟩
  rw [HN.out]
  have HB2 := Lib.hid (bl ((Below.refl w.heap.size w).alloc (Nat.le_refl _) (.cells pt.cells 159)) (by simp) hb2)
  clear hr hb2
  go_wp2_with fail
  go_ret
  exact ⟨ret_bool (by unfold ptSky; rw [HU.out]), HB2.out⟩
end Go.Proofs.YtokpgopdkimmmaaGreatDoor
/- The state of what a model is asked: its variables in memory. -/
namespace Go.Proofs.YtokpgopdkimmmaaGreatDoor
open Go.RowKit Go.Maps
set_option linter.unusedVariables false
set_option linter.unusedSimpArgs false

abbrev rep0 : Array Value := #[.int .i64 0, .slice none 0 0, .int .i64 0, .bool false, .int .u64 0, .int .u64 0]
section
variable {w W W' : World} {m p s b q : Nat} {M : ModV} {o : OpV} {x : BxV}
/-- A reply's block is written over. -/
theorem Blk.set6 {R : Nat} {t : TypeId} {a0 a1 a2 a3 a4 a5 : Value} (h : Blk w R t #[a0, a1, a2, a3, a4, a5]) (v0 v1 v2 v3 v4 v5 : Value) :
    Blk ((((((w.setCell ⟨R, 0, none⟩ v0).setCell ⟨R, 1, none⟩ v1).setCell ⟨R, 2, none⟩ v2).setCell ⟨R, 3, none⟩ v3).setCell ⟨R, 4, none⟩ v4).setCell ⟨R, 5, none⟩ v5) R t #[v0, v1, v2, v3, v4, v5] :=
  (((((h.set_ 0 v0).set_ 1 v1).set_ 2 v2).set_ 3 v3).set_ 4 v4).set_ 5 v5
theorem rep_cells {R : Nat} {t : TypeId} {a0 a1 a2 a3 a4 a5 : Value} (h : Blk w R t #[a0, a1, a2, a3, a4, a5]) : w.cell? ⟨R, 0, none⟩ = some a0 ∧ w.cell? ⟨R, 1, none⟩ = some a1 ∧ w.cell? ⟨R, 2, none⟩ = some a2 ∧ w.cell? ⟨R, 3, none⟩ = some a3 ∧ w.cell? ⟨R, 4, none⟩ = some a4 ∧ w.cell? ⟨R, 5, none⟩ = some a5 :=
  ⟨h.cell 0, h.cell 1, h.cell 2, h.cell 3, h.cell 4, h.cell 5⟩
theorem below_set6 {B R : Nat} (h : Below B w W) (hR : B ≤ R) (v0 v1 v2 v3 v4 v5 : Value) :
    Below B w ((((((W.setCell ⟨R, 0, none⟩ v0).setCell ⟨R, 1, none⟩ v1).setCell ⟨R, 2, none⟩ v2).setCell ⟨R, 3, none⟩ v3).setCell ⟨R, 4, none⟩ v4).setCell ⟨R, 5, none⟩ v5) :=
  (((((h.setCell (p := ⟨R, 0, none⟩) hR v0).setCell (p := ⟨R, 1, none⟩) hR v1).setCell (p := ⟨R, 2, none⟩) hR v2).setCell (p := ⟨R, 3, none⟩) hR v3).setCell (p := ⟨R, 4, none⟩) hR v4).setCell (p := ⟨R, 5, none⟩) hR v5
theorem Row32.set6 {A : Option Addr} {ids : List Nat} {R : Nat} (h : Row32 w W A ids) (hR : R < w.heap.size) (v0 v1 v2 v3 v4 v5 : Value) :
    Row32 w ((((((W.setCell ⟨R, 0, none⟩ v0).setCell ⟨R, 1, none⟩ v1).setCell ⟨R, 2, none⟩ v2).setCell ⟨R, 3, none⟩ v3).setCell ⟨R, 4, none⟩ v4).setCell ⟨R, 5, none⟩ v5) A ids :=
  (((((h.set (p := ⟨R, 0, none⟩) hR v0).set (p := ⟨R, 1, none⟩) hR v1).set (p := ⟨R, 2, none⟩) hR v2).set (p := ⟨R, 3, none⟩) hR v3).set (p := ⟨R, 4, none⟩) hR v4).set (p := ⟨R, 5, none⟩) hR v5
/-- The variables of point: the model, the operation, the reply, a strip. -/
structure AskSt (w W : World) (m p s b q : Nat) (M : ModV) (o : OpV) (x : BxV) (bm bo br bs : Nat) : Prop where
  mv : ModelVar W bm m p s b q M
  op : OpB W bo o
  rep : Blk W br 33 rep0
  strip : BxB W bs x
  below : Below w.heap.size w W
  ge : w.heap.size ≤ br ∧ w.heap.size ≤ bs
  ne : bs ≠ bm ∧ bs ≠ m ∧ bs ≠ p ∧ bs ≠ s ∧ bs ≠ b ∧ bs ≠ bo ∧ bs ≠ br
theorem AskSt.start (hM : ModelAt w m p s b q M) (o : OpV) (x : BxV) :
    AskSt w ((((w.alloc (.cells #[ptr m] 53)).alloc (.cells o.cells 24)).alloc (.cells rep0 33)).alloc (.cells x.cells 71)) m p s b q M o x w.heap.size (w.heap.size + 1) (w.heap.size + 1 + 1) (w.heap.size + 1 + 1 + 1) := by
  have h1 := Blk.new w 53 #[ptr m]
  have h2 := Blk.new (w.alloc (.cells #[ptr m] 53)) 24 o.cells
  have h3 := Blk.new ((w.alloc (.cells #[ptr m] 53)).alloc (.cells o.cells 24)) 33 rep0
  have h4 := Blk.new (((w.alloc (.cells #[ptr m] 53)).alloc (.cells o.cells 24)).alloc (.cells rep0 33)) 71 x.cells
  simp only [World.size_alloc] at h2 h3 h4
  have al : ∀ (W : World) (o : Obj), Below W.heap.size W (W.alloc o) := fun W o => (Below.refl _ _).alloc (Nat.le_refl _) o
  have hm := hM.blk.lt
  have ho := hM.ord
  exact ⟨⟨((h1.alloc _).alloc _).alloc _, (((hM.later (al _ _)).later (al _ _)).later (al _ _)).later (al _ _)⟩, (Blk.alloc h2 _).alloc _, h3.alloc _, h4,
    ((((Below.refl w.heap.size w).alloc (Nat.le_refl _) _).alloc (by simp) _).alloc (by simp; omega) _).alloc (by simp; omega) _, ⟨by omega, by omega⟩, ⟨by omega, by omega, by omega, by omega, by omega, by omega, by omega⟩⟩
theorem ModelAt.far (h : ModelAt W m p s b q M) {a : Addr} (h1 : a.block ≠ m) (h2 : a.block ≠ p) (h3 : a.block ≠ s) (h4 : a.block ≠ b) (v : Value) : ModelAt (W.setCell a v) m p s b q M :=
  ⟨h.blk.far (Ne.symm h1) v, h.pts.same (Below.heap_setCell W a v p (Ne.symm h2)), h.sps.same (Below.heap_setCell W a v s (Ne.symm h3)), h.bxs.same (Below.heap_setCell W a v b (Ne.symm h4)), h.ord⟩
theorem AskSt.drew {bm bo br bs : Nat} (h : AskSt w W m p s b q M o x bm bo br bs) : AskSt w W.drew m p s b q M o x bm bo br bs :=
  ⟨⟨h.mv.var.drew, h.mv.mod.later ((Below.refl _ _).drew)⟩, Blk.drew h.op, h.rep.drew, Blk.drew h.strip, h.below.drew, h.ge, h.ne⟩
/-- A side of the strip is written. -/
theorem AskSt.put {bm bo br bs : Nat} {x' : BxV} (h : AskSt w W m p s b q M o x bm bo br bs) (i : Nat) (v : Value) (hx : x.cells.setIfInBounds i v = x'.cells) : AskSt w (W.setCell ⟨bs, i, none⟩ v) m p s b q M o x' bm bo br bs :=
  ⟨⟨h.mv.var.far (Ne.symm h.ne.1) v, h.mv.mod.far h.ne.2.1 h.ne.2.2.1 h.ne.2.2.2.1 h.ne.2.2.2.2.1 v⟩, Blk.far h.op (Ne.symm h.ne.2.2.2.2.2.1) v, h.rep.far (Ne.symm h.ne.2.2.2.2.2.2) v, by have g := Blk.set_ h.strip i v; rw [hx] at g; exact g, h.below.setCell h.ge.2 v, h.ge, h.ne⟩
end
theorem Row32.since {w V w' : World} {A : Option Addr} {ids : List Nat} (h : Row32 V w' A ids) (hs : w.heap.size ≤ V.heap.size) : Row32 w w' A ids := ⟨h.1, fun a ha => Nat.le_trans hs (h.2 a ha)⟩
theorem Row32.none_ (w w' : World) : Row32 w w' none [] := ⟨RecRow.nil _ _, fun a ha => by cases ha⟩
/-- What is replied: names in memory. -/
def Replied (w : World) (r : RepV) (e : Ending) (w' : World) : Prop := ∃ A cc, e = .returned (repV r A cc) ∧ Row32 w w' A r.ids ∧ Below w.heap.size w w'
end Go.Proofs.YtokpgopdkimmmaaGreatDoor
/- The model's closures over spans and boxes. -/
namespace Go.Proofs.YtokpgopdkimmmaaGreatDoor
open Go.RowKit Go.Maps
set_option linter.unusedVariables false
set_option linter.unusedSimpArgs false

set_option maxRecDepth 100000 in
set_option maxHeartbeats 1000000 in
theorem other1_any (x : SpV) (c : Nat) (o : OpV) (w : World) (h : OpB w c o) : Calls Tryz.prog 117 (#[.agg x.cells] ++ #[ptr c]) w fun e w' => e = .returned (.bool (stabB x.lo x.hi o.a)) ∧ Below w.heap.size w w' := by
  show Calls _ _ #[.agg x.cells, ptr c] _ _
  obtain ⟨c0, c1, c2, c3, c4, c5⟩ := op_cellsM h
  have hlt := Blk.lt h
  clear h
  go_enter Tryz.func117, Tryz.ntmps117
  go_wp2_with fail
  refine (Stab_any _ _ _ _ _).mono ?_
  rintro e w1 ⟨rfl, hb1⟩
  go_wp2_with fail
  go_ret
  exact ⟨rfl, bl ((Below.refl _ _).alloc (Nat.le_refl _) _) (by simp) hb1⟩
set_option maxRecDepth 100000 in
set_option maxHeartbeats 1000000 in
theorem other2_any (x : SpV) (c : Nat) (o : OpV) (w : World) (h : OpB w c o) : Calls Tryz.prog 119 (#[.agg x.cells] ++ #[ptr c]) w fun e w' => e = .returned (.bool (stabB x.lo x.hi o.a)) ∧ Below w.heap.size w w' := by
  show Calls _ _ #[.agg x.cells, ptr c] _ _
  obtain ⟨c0, c1, c2, c3, c4, c5⟩ := op_cellsM h
  have hlt := Blk.lt h
  clear h
  go_enter Tryz.func119, Tryz.ntmps119
  go_wp2_with fail
  refine (Stab_any _ _ _ _ _).mono ?_
  rintro e w1 ⟨rfl, hb1⟩
  go_wp2_with fail
  go_ret
  exact ⟨rfl, bl ((Below.refl _ _).alloc (Nat.le_refl _) _) (by simp) hb1⟩
set_option maxRecDepth 100000 in
set_option maxHeartbeats 1000000 in
theorem other3_any (x : SpV) (c : Nat) (o : OpV) (w : World) (h : OpB w c o) : Calls Tryz.prog 120 (#[.agg x.cells] ++ #[ptr c]) w fun e w' => e = .returned (.bool (meetB x.lo x.hi o.a o.b)) ∧ Below w.heap.size w w' := by
  show Calls _ _ #[.agg x.cells, ptr c] _ _
  obtain ⟨c0, c1, c2, c3, c4, c5⟩ := op_cellsM h
  have hlt := Blk.lt h
  clear h
  go_enter Tryz.func120, Tryz.ntmps120
  go_wp2_with fail
  refine (Meet_any _ _ _ _ _ _).mono ?_
  rintro e w1 ⟨rfl, hb1⟩
  go_wp2_with fail
  go_ret
  exact ⟨rfl, bl ((Below.refl _ _).alloc (Nat.le_refl _) _) (by simp) hb1⟩
set_option maxRecDepth 100000 in
set_option maxHeartbeats 1000000 in
theorem other4_any (x : BxV) (c : Nat) (pt : PtV) (w : World) (h : PtB w c pt) : Calls Tryz.prog 126 (#[.agg x.cells] ++ #[ptr c]) w fun e w' => e = .returned (.bool (ptIn x pt)) ∧ Below w.heap.size w w' := by
  show Calls _ _ #[.agg x.cells, ptr c] _ _
  obtain ⟨d0, d1, d2⟩ := pt_cells h
  have hlt := Blk.lt h
  clear h
  go_enter Tryz.func126, Tryz.ntmps126
  go_wp2_with fail
  refine (In_any _ _ _ _ _ _ _ _ _).mono ?_
  rintro e w1 ⟨rfl, hb1⟩
  go_wp2_with fail
  go_ret
  exact ⟨rfl, bl ((Below.refl _ _).alloc (Nat.le_refl _) _) (by simp) hb1⟩
end Go.Proofs.YtokpgopdkimmmaaGreatDoor
