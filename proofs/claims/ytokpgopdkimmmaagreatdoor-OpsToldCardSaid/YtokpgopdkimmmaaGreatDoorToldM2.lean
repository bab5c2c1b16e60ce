import Derived.Test.YtokpgopdkimmmaaGreatDoorSortM2
import Derived.Test.YtokpgopdkimmmaaGreatDoorToldM1
import Derived.Test.YtokpgopdkimmmaaGreatDoorModM6
import Derived.Test.YtokpgopdkimmmaaGreatDoorTellsM3
import Derived.Test.YtokpgopdkimmmaaGreatDoorRegG
import Derived.StillTailTactics
/- rank.Squeeze: each number once, rising. -/
namespace Go.Proofs.YtokpgopdkimmmaaGreatDoor
open Go.RowKit Go.Sort
set_option linter.unusedVariables false
set_option linter.unusedSimpArgs false

/-- Each number once, rising. -/
def sortI (l : List Int) : List Int := l.mergeSort fun x y => decide (x ≤ y)
theorem sortI_perm (l : List Int) : (sortI l).Perm l := List.mergeSort_perm _ _
theorem sortI_len (l : List Int) : (sortI l).length = l.length := (sortI_perm l).length_eq
theorem sortI_rising (l : List Int) : (sortI l).Pairwise (· ≤ ·) := by
  have h := List.pairwise_mergeSort (le := fun x y : Int => decide (x ≤ y)) (fun a b c h1 h2 => by simp at *; omega) (fun a b => by simp; omega) l
  exact h.imp fun h => by simpa using h
def squeezeL (l : List Int) : List Int := Lib.compactUpTo (sortI l).toArray (sortI l).length
theorem squeezeL_nil : squeezeL [] = [] := by simp [squeezeL, sortI, Lib.compactUpTo]
theorem squeezeL_le (l : List Int) : (squeezeL l).length ≤ l.length := by
  unfold squeezeL Lib.compactUpTo
  rw [List.length_map]
  refine Nat.le_trans (List.length_filter_le _ _) ?_
  rw [List.length_range, sortI_len]
  exact Nat.le_refl _
abbrev ival (x : Int) : Value := .int .i64 x
theorem flat_i (l : List Int) : flatR icell l = l.map ival := by
  unfold flatR
  induction l with
  | nil => rfl
  | cons x l ih => rw [List.flatMap_cons, List.map_cons, ih]; rfl
theorem infoI64 : (Tryz.prog.info? 2).map (fun i => (i.zero, i.size, i.bytes)) = some (some (.int .i64 0), 1, 8) := by kernel_rfl
theorem sizeI64 : ∀ w, (sizeOf 2).run Tryz.prog w = .ok 1 w := fun w => by simp [go_sem]
theorem own_prefix {w : World} {base g cap n m : Nat} {e : TypeId} {os : Array Obj} {cur : Array Value} {xs zs : List Int} (hl : (xs ++ zs).length = m) (hbase : base ≤ g) (hb : w.heap[g]? = some (.cells cur e (0, 0)))
    (h1 : m ≤ cap) (h2 : cap ≤ maxLen) (h3 : cur.size = cap * 1) :
    (grow (putRow (Value.int .i64) (Sort.ahead w n) g 0 (xs ++ zs).toArray) os).ownsRow base e 1 (.slice (some ⟨g, 0, none⟩) xs.length cap) xs.length (xs.map ival) := by
  have hx : xs.length ≤ m := by rw [← hl]; simp
  refine ⟨by simp, .inr ⟨g, cap, _, rfl, hbase, heap_sortedE _ _ hb, by omega, h2, by simp [putCells, h3], ?_⟩⟩
  have h := take_putE (Value.int .i64) cur (xs ++ zs) (by rw [hl]; omega)
  rw [Nat.mul_one]
  have h' := congrArg (List.take xs.length) h
  rw [List.take_take, Nat.min_eq_left (by simp), List.map_append, List.take_left' (by simp)] at h'
  exact h'
set_option maxRecDepth 100000 in
set_option maxHeartbeats 2000000 in
theorem squeeze_any (l : List Int) (hl : l.length ≤ 1000000) (A : Option Addr) (c : Nat) (w : World) (hA : l = [] → A = none ∧ c = 0) (hr : RecRow w icell 1 A l) :
    Calls Tryz.prog 210 #[.slice A l.length c] w fun e w' => ∃ A' c', e = .returned (.slice A' (squeezeL l).length c') ∧ w'.ownsRow w.heap.size 2 1 (.slice A' (squeezeL l).length c') (squeezeL l).length ((squeezeL l).map ival) ∧ (l = [] → A' = none ∧ c' = 0) ∧ Below w.heap.size w w' := by
  rcases hr with rfl | ⟨g, lo, rfl, hg, hc⟩
  · obtain ⟨rfl, rfl⟩ := hA rfl
    rw [squeezeL_nil]
    exact (squeeze0_any w).mono fun e w' ⟨he, hw⟩ => ⟨none, 0, he, World.ownsRow_nil _ _ _ _, fun _ => ⟨rfl, rfl⟩, hw ▸ Below.refl _ _⟩
  · obtain ⟨i0, hi, hzz, hz1, hz2⟩ := info_parts infoI64
    have hne : l ≠ [] := fun e => by have := hA e; cases this.1
    have HCL := Lib.hid (AnyE.slices_Clone Tryz.laysClone i0 (.int .i64 0) 1 8 hi hzz hz1 hz2 rfl (by decide) sizeI64 g lo l.length c (l.map ival) w (by simp) (by unfold maxLen; omega) (by omega) (fun j u hj => by
      rw [List.getElem?_map] at hj
      cases hx : l[j]? with
      | none => rw [hx] at hj; cases hj
      | some x =>
        rw [hx] at hj
        cases hj
        have h := hc j x hx 0 (by omega)
        simpa [icell] using h) (by
      intro u hu
      obtain ⟨x, _, rfl⟩ := List.mem_map.1 hu
      rfl))
    have HNE := Lib.hid hne
    clear hc hg hA hne
    go_enter Tryz.func210, Tryz.ntmps210
    go_wp2_with fail
    refine HCL.out.mono ?_
    rintro e w1 ⟨v', rfl, ho, hv, hb⟩
    obtain ⟨g1, cap, cur, rfl, hg1, hb1, h1, h2, h3, h4⟩ := ho.2.resolve_left (fun h => hv h.1)
    have hH : Sort.Holds (Value.int .i64) w1 g1 0 l.toArray := holds_ofE _ hb1 (by rw [← h4, Nat.mul_one])
    have HST := Lib.hid (Tryz.slices_Sort_i64 g1 0 cap l w1 hH (Array.getElem?_eq_some_iff.1 hb1).1 (by omega))
    have HB1 := Lib.hid hb1
    have HX := Lib.hid (And.intro hg1 (And.intro h1 (And.intro h2 h3)))
    have HBW := Lib.hid hb
    clear ho hv hb hb1 hH hg1 h1 h2 h3 h4
    go_wp2_with fail
    refine HST.out.mono ?_
    rintro e w2 ⟨rfl, n, os, rfl⟩
    obtain ⟨hg1, h1, h2, h3⟩ := HX.out
    have ho2 := own_sortedE (Value.int .i64) (w := w1) (base := w.heap.size) (g := g1) (cap := cap) (n := n) (e := 2) (os := os) (cur := cur) (ss := l) (ts := sortI l) (sortI_len l) hg1 HB1.out h1 h2 h3
    have hgr := grown_sortedE (Value.int .i64) (w := w1) (g := g1) (n := n) (os := os) (sortI l).toArray
    rw [show (l.mergeSort fun x y => decide (x ≤ y)) = sortI l from rfl]
    obtain ⟨W2, hW2⟩ : ∃ W2, grow (putRow (Value.int .i64) (Sort.ahead w1 n) g1 0 (sortI l).toArray) os = W2 := ⟨_, rfl⟩
    rw [hW2] at ho2 hgr ⊢
    have HB2 := Lib.hid (HBW.out.grown hgr HBW.out.size (fun r e => by cases e; exact hg1))
    obtain ⟨g2, cap2, cur2, hv2, hg2, hb2, h12, h22, h32, h42⟩ := ho2.2.resolve_left (fun h => by cases h.1)
    cases hv2
    have hH2 : Sort.Holds (Value.int .i64) W2 g1 0 (sortI l).toArray := holds_ofE _ hb2 (by rw [sortI_len]; simpa using h42)
    have HCM := Lib.hid (AnyE.slices_Compact Tryz.laysCompact (Value.int .i64) (fun x => rfl) ⟨fun x y w => by simp [binOp, Op.intCmp]; rfl, (EqlAt.int _ _ .i64).2⟩ ⟨fun x y w => by simp [binOp, Op.intCmp]; rfl, (EqlAt.int _ _ .i64).2⟩ 0 (fun w => by kernel_rfl) g1 0 cap (sortI l).toArray W2 hH2 (by simp [sortI_len]; omega) (by simp [sortI_len]; omega))
    have HX2 := Lib.hid (And.intro hg2 (And.intro hb2 (And.intro h12 (And.intro h22 h32))))
    have HSZ := Lib.hid (show (sortI l).toArray.size = l.length by simp [sortI_len])
    clear hW2 ho2 hgr hg1 h1 h2 h3 hg2 hb2 h12 h22 h32 h42 hH2
    rw [HSZ.out] at HCM
    have HSQ := Lib.hid (show Lib.compactUpTo (sortI l).toArray l.length = squeezeL l by unfold squeezeL; rw [sortI_len])
    rw [HSQ.out] at HCM
    go_wp2_with fail
    refine HCM.out.mono ?_
    rintro e w3 ⟨rfl, q, rfl⟩
    obtain ⟨hg2, hb2, h12, h22, h32⟩ := HX2.out
    have hle := squeezeL_le l
    have ho3 := own_prefix (w := W2) (base := w.heap.size) (g := g1) (cap := cap) (n := q) (m := l.length) (e := 2) (os := #[]) (cur := cur2) (xs := squeezeL l) (zs := List.replicate (l.length - (squeezeL l).length) 0) (by simp; omega) hg2 hb2 h12 h22 h32
    have hgr := grown_sortedE (Value.int .i64) (w := W2) (g := g1) (n := q) (os := #[]) (squeezeL l ++ List.replicate (l.length - (squeezeL l).length) 0).toArray
    rw [grow_empty] at ho3 hgr
    obtain ⟨W3, hW3⟩ : ∃ W3, putRow (Value.int .i64) (Sort.ahead W2 q) g1 0 (squeezeL l ++ List.replicate (l.length - (squeezeL l).length) 0).toArray = W3 := ⟨_, rfl⟩
    rw [hW3] at ho3 hgr ⊢
    have HO3 := Lib.hid ho3
    have HB3 := Lib.hid (HB2.out.grown hgr HB2.out.size (fun r e => by cases e; exact hg2))
    clear hW3 ho3 hgr hg2 hb2 h12 h22 h32
    go_wp2_with fail
    go_ret
    exact ⟨_, cap, rfl, HO3.out, fun e => absurd e HNE.out, HB3.out⟩
end Go.Proofs.YtokpgopdkimmmaaGreatDoor
/- cells.Held: is a cell covered? slices.IndexFunc, ContainsFunc over boxes. -/
namespace Go.Proofs.YtokpgopdkimmmaaGreatDoor
open Go.RowKit Go.Maps
set_option linter.unusedVariables false
set_option linter.unusedSimpArgs false

section
variable (zs : List BxV) (hz : zs.length ≤ 1000000) (A : Option Addr) (c : Nat) (p : BxV → Bool) (gf : FuncId) (cap : Array Value) (w : World) (hr : RecRow w BxV.cells 5 A zs)
    (heg : ∀ args w, (callFunc gf args).run Tryz.prog w = .ok (.enter gf args) w)
    (hso : ∀ x ∈ zs, ∀ W, Below w.heap.size w W → Calls Tryz.prog gf (#[.agg x.cells] ++ cap) W fun e W' => e = .returned (.bool (p x)) ∧ Below W.heap.size W W')
include hz hr heg hso
set_option maxRecDepth 100000 in
set_option maxHeartbeats 2000000 in
theorem indexFunc_any : Calls Tryz.prog 222 #[.slice A zs.length c, .func (.func gf) #[] cap] w fun e w' => (∃ i : Int, e = .returned (.int .i64 i) ∧ decide (0 ≤ i) = zs.any p) ∧ Below w.heap.size w w' := by
  have HR := Lib.hid hr
  have HSO := Lib.hid hso
  clear hr hso
  go_enter Tryz.func222, Tryz.ntmps222
  go_wp2_with fail
  go_loopw [8] (fun v wr => ∃ k : Nat, k ≤ zs.length ∧ v = .int .i64 (k : Int) ∧ Hid ((zs.take k).any p = false) ∧ Hid (Below w.heap.size w wr)) (fun v _ => zs.length - (intOf v).toNat)
  case atStart => exact ⟨0, Nat.zero_le _, rfl, Lib.hid rfl, Lib.hid (Below.refl _ _)⟩
  case round =>
    obtain ⟨k, hk, rfl, HP, HB⟩ := hrel
    by_cases hlt : k < zs.length
    · obtain ⟨x, hx⟩ : ∃ x, zs[k]? = some x := ⟨_, List.getElem?_eq_getElem hlt⟩
      have hlI : decide ((k : Int) < (zs.length : Int)) = true := decide_eq_true (by omega)
      obtain ⟨ga, lo, rfl, hgl, hcell⟩ := RecRow.at_ (HR.out.later HB.out) hx
      have e0 : wr.cell? ⟨ga, lo + k * 5, none⟩ = some (.int .i64 x.x1) := hcell 0 (by omega)
      have e1 : wr.cell? ⟨ga, lo + k * 5 + 1, none⟩ = some (.int .i64 x.x2) := hcell 1 (by omega)
      have e2 : wr.cell? ⟨ga, lo + k * 5 + 2, none⟩ = some (.int .i64 x.y1) := hcell 2 (by omega)
      have e3 : wr.cell? ⟨ga, lo + k * 5 + 3, none⟩ = some (.int .i64 x.y2) := hcell 3 (by omega)
      have e4 : wr.cell? ⟨ga, lo + k * 5 + 4, none⟩ = some (.int .u32 (x.id : Int)) := hcell 4 (by omega)
      have HX := Lib.hid hx
      have HT := Lib.hid (show (zs.take (k + 1)).any p = ((zs.take k).any p || p x) by rw [List.take_add_one, hx, List.any_append]; simp)
      clear hcell hx
      go_wp2_with fail
      refine (HSO.out x (List.mem_of_getElem? HX.out) _ HB.out).mono ?_
      rintro e w1 ⟨rfl, hb1⟩
      have HB1 := Lib.hid (bl HB.out HB.out.size hb1)
      clear hb1 e0 e1 e2 e3 e4
      cases hp : p x with
      | true =>
        have HA := Lib.hid (show zs.any p = true from List.any_eq_true.2 ⟨x, List.mem_of_getElem? HX.out, hp⟩)
        clear hp
        go_wp2_with fail
        go_ret
        exact ⟨⟨_, rfl, by rw [HA.out]; exact decide_eq_true (by omega)⟩, HB1.out⟩
      | false =>
        have HT2 := Lib.hid (show (zs.take (k + 1)).any p = false by rw [HT.out, HP.out, hp]; rfl)
        clear hp
        go_wp2_with fail
        go_roundw
        case rel => exact ⟨k + 1, by omega, by simp, HT2, HB1⟩
        case measure => simp [intOf]; omega
    · obtain rfl : k = zs.length := by omega
      have hlI : decide ((zs.length : Int) < (zs.length : Int)) = false := decide_eq_false (by omega)
      have HA := Lib.hid (show zs.any p = false by have h := HP.out; rw [List.take_length] at h; exact h)
      go_wp2_with fail
      go_ret
      exact ⟨⟨-1, rfl, by rw [HA.out]; rfl⟩, HB.out⟩
set_option maxRecDepth 100000 in
set_option maxHeartbeats 1000000 in
theorem containsFunc_any : Calls Tryz.prog 211 #[.slice A zs.length c, .func (.func gf) #[] cap] w fun e w' => e = .returned (.bool (zs.any p)) ∧ Below w.heap.size w w' := by
  have HC := Lib.hid (indexFunc_any zs hz A c p gf cap w hr heg hso)
  clear hr hso heg
  go_enter Tryz.func211, Tryz.ntmps211
  go_wp2_with fail
  refine HC.out.mono ?_
  rintro e w1 ⟨⟨i, rfl, hi⟩, hb⟩
  go_wp2_with fail
  go_ret
  exact ⟨rfl, hb⟩
end
/-- Is the cell at a corner covered? -/
def cellOf (x y : Int) (b : BxV) : Bool := cellB b.x1 b.x2 b.y1 b.y2 x y
def heldL (zs : List BxV) (x y : Int) : Bool := zs.any (cellOf x y)
set_option maxRecDepth 100000 in
set_option maxHeartbeats 1000000 in
theorem held1_any (x : BxV) (b1 b2 : Nat) (X Y : Int) (w : World) (h1 : Blk w b1 2 #[.int .i64 X]) (h2 : Blk w b2 2 #[.int .i64 Y]) :
    Calls Tryz.prog 212 (#[.agg x.cells] ++ #[.pointer (some ⟨b1, 0, none⟩), .pointer (some ⟨b2, 0, none⟩)]) w fun e w' => e = .returned (.bool (cellOf X Y x)) ∧ Below w.heap.size w w' := by
  show Calls _ _ #[.agg x.cells, .pointer (some ⟨b1, 0, none⟩), .pointer (some ⟨b2, 0, none⟩)] _ _
  have c1 : w.cell? ⟨b1, 0, none⟩ = some (.int .i64 X) := h1.cell 0
  have c2 : w.cell? ⟨b2, 0, none⟩ = some (.int .i64 Y) := h2.cell 0
  have l1 := h1.lt
  have l2 := h2.lt
  clear h1 h2
  go_enter Tryz.func212, Tryz.ntmps212
  go_wp2_with fail
  refine (Cell_any _ _ _ _ _ _ _ _).mono ?_
  rintro e w1 ⟨rfl, hb1⟩
  go_wp2_with fail
  go_ret
  exact ⟨rfl, bl ((Below.refl _ _).alloc (Nat.le_refl _) _) (by simp) hb1⟩
set_option maxRecDepth 100000 in
set_option maxHeartbeats 1000000 in
theorem held_any (zs : List BxV) (hz : zs.length ≤ 1000000) (A : Option Addr) (c : Nat) (X Y : Int) (w : World) (hr : RecRow w BxV.cells 5 A zs) :
    Calls Tryz.prog 190 #[.slice A zs.length c, .int .i64 X, .int .i64 Y] w fun e w' => e = .returned (.bool (heldL zs X Y)) ∧ Below w.heap.size w w' := by
  have al : ∀ (W : World) (o : Obj), Below W.heap.size W (W.alloc o) := fun W o => (Below.refl _ _).alloc (Nat.le_refl _) o
  have HR := Lib.hid ((hr.later (al w (.cells #[.int .i64 X] 2))).later (al _ (.cells #[.int .i64 Y] 2)))
  have H1 := Lib.hid ((Blk.new w 2 #[.int .i64 X]).alloc (.cells #[.int .i64 Y] 2))
  have H2 := Blk.new (w.alloc (.cells #[.int .i64 X] 2)) 2 #[.int .i64 Y]
  simp only [World.size_alloc] at H2
  replace H2 := Lib.hid H2
  have HB := Lib.hid (((Below.refl w.heap.size w).alloc (Nat.le_refl _) (.cells #[.int .i64 X] 2)).alloc (by simp) (.cells #[.int .i64 Y] 2))
  clear hr al
  go_enter Tryz.func190, Tryz.ntmps190
  go_wp2_with fail
  refine (containsFunc_any zs hz A c (cellOf X Y) 212 _ _ HR.out (enters_of Tryz.func212 (by kernel_rfl) rfl)
    (fun y _ W hW => held1_any y w.heap.size (w.heap.size + 1) X Y W (H1.out.below hW H1.out.lt) (H2.out.below hW H2.out.lt))).mono ?_
  rintro e w1 ⟨rfl, hb1⟩
  go_wp2_with fail
  go_ret
  exact ⟨rfl, bl HB.out HB.out.size hb1⟩
end Go.Proofs.YtokpgopdkimmmaaGreatDoor
/- cells.lines: the lines of those boxes that cover a cell (written by gen/mlines.py). -/
namespace Go.Proofs.YtokpgopdkimmmaaGreatDoor
open Go.RowKit
set_option linter.unusedVariables false
set_option linter.unusedSimpArgs false

theorem own_ne_blk {W : World} {base : Nat} {e t : TypeId} {k n : Nat} {v : Value} {xs : List Value} (ho : W.ownsRow base e k v n xs) {b : Nat} {cs : Array Value} (hb : Blk W b t cs) (hne : t ≠ e) : some b ≠ v.ownBlock := by
  rcases ho.2 with ⟨rfl, _⟩ | ⟨g, cap, cur, rfl, _, hg, _⟩
  · intro h; cases h
  · intro h
    obtain rfl : b = g := by simpa [Value.ownBlock] using h
    unfold Blk at hb
    rw [hb] at hg
    cases hg
    exact hne rfl
theorem reads_blk {W : World} {g : Nat} {t : TypeId} {cs : Array Value} (h : Blk W g t cs) : Reads W (g + 1) 1 (some ⟨g, 0, none⟩) cs.size cs.toList := by
  unfold Blk at h
  refine ⟨by simp, fun h0 => ⟨⟨g, 0, none⟩, rfl, Nat.lt_succ_self g, fun j u hj => ?_⟩⟩
  rw [show ((⟨g, 0, none⟩ : Addr).add j) = ⟨g, j, none⟩ from by unfold Addr.add; by_cases h : j = 0 <;> simp [h]]
  rw [Blk.cell h j]
  simpa using hj
/-- Two rows of numbers that grow side by side. -/
structure TwoRows (w W : World) (v4 v5 : Value) (l4 l5 : List Int) : Prop where
  o4 : W.ownsRow w.heap.size 2 1 v4 l4.length (l4.map ival)
  o5 : W.ownsRow w.heap.size 2 1 v5 l5.length (l5.map ival)
  ne : v4.ownBlock = none ∨ v4.ownBlock ≠ v5.ownBlock
  below : Below w.heap.size w W
section
variable {w W W' : World} {v4 v5 v' : Value} {l4 l5 : List Int}
theorem TwoRows.alloc (h : TwoRows w W v4 v5 l4 l5) (o : Obj) : TwoRows w (W.alloc o) v4 v5 l4 l5 := ⟨h.o4.alloc o, h.o5.alloc o, h.ne, h.below.alloc h.below.size o⟩
theorem TwoRows.drew (h : TwoRows w W v4 v5 l4 l5) : TwoRows w W.drew v4 v5 l4 l5 := ⟨h.o4, h.o5, h.ne, h.below.drew⟩
theorem TwoRows.later (h : TwoRows w W v4 v5 l4 l5) (hb : Below W.heap.size W W') : TwoRows w W' v4 v5 l4 l5 := ⟨own_below h.o4 hb, own_below h.o5 hb, h.ne, bl h.below h.below.size hb⟩
theorem own_some {base : Nat} {e : TypeId} {k n : Nat} {v : Value} {xs : List Value} (h : W.ownsRow base e k v n xs) : v.ownBlock = none ∨ ∃ g, v.ownBlock = some g ∧ g < W.heap.size ∧ base ≤ g := by
  cases hv : v.ownBlock with
  | none => exact .inl rfl
  | some g => exact .inr ⟨g, rfl, (h.lt g hv).2, (h.lt g hv).1⟩
theorem TwoRows.app4 (h : TwoRows w W v4 v5 l4 l5) (a b : Int) (ho : W'.ownsRow w.heap.size 2 1 v' (l4.length + 2) (l4.map ival ++ [ival a, ival b])) (hg : W.grownBy W' v4.ownBlock) (hat : v'.ownBlock = v4.ownBlock ∨ v'.ownBlock = some W.heap.size) : TwoRows w W' v' v5 (l4 ++ [a, b]) l5 := by
  have h5 := own_some h.o5
  refine ⟨by rw [List.length_append, List.map_append]; exact ho, h.o5.kept hg ?_, ?_, h.below.grown hg h.below.size (fun r e => (h.o4.lt r e).1)⟩
  · rcases h5 with h5 | ⟨g, h5, _, _⟩
    · exact .inl h5
    · rcases h.ne with h4 | h4
      · exact .inr (by rw [h5, h4]; simp)
      · exact .inr (Ne.symm h4)
  · rcases h5 with h5 | ⟨g, h5, hlt, _⟩
    · cases hv : v'.ownBlock with
      | none => exact .inl rfl
      | some r => exact .inr (by rw [h5]; simp)
    · rcases hat with ha | ha
      · rw [ha]; exact h.ne
      · exact .inr (by rw [ha, h5]; intro e; have := Option.some.inj e; omega)
theorem TwoRows.app5 (h : TwoRows w W v4 v5 l4 l5) (a b : Int) (ho : W'.ownsRow w.heap.size 2 1 v' (l5.length + 2) (l5.map ival ++ [ival a, ival b])) (hg : W.grownBy W' v5.ownBlock) (hat : v'.ownBlock = v5.ownBlock ∨ v'.ownBlock = some W.heap.size) : TwoRows w W' v4 v' l4 (l5 ++ [a, b]) := by
  have h4 := own_some h.o4
  refine ⟨h.o4.kept hg h.ne, by rw [List.length_append, List.map_append]; exact ho, ?_, h.below.grown hg h.below.size (fun r e => (h.o5.lt r e).1)⟩
  rcases h4 with h4 | ⟨g, h4, hlt, _⟩
  · exact .inl h4
  · rcases hat with ha | ha
    · rw [ha]; exact h.ne
    · exact .inr (by rw [ha, h4]; intro e; have := Option.some.inj e; omega)
end
theorem ones2 (a b : Int) : ∀ u ∈ [ival a, ival b], u.oneCell' = true := by
  intro u hu
  simp at hu
  rcases hu with rfl | rfl <;> rfl
/-- Does a box cover a cell? -/
def covB (b : BxV) : Bool := cellB b.x1 b.x2 b.y1 b.y2 b.x1 b.y1
def rawX (zs : List BxV) : List Int := (zs.filter covB).flatMap fun b => [b.x1, b.x2]
def rawY (zs : List BxV) : List Int := (zs.filter covB).flatMap fun b => [b.y1, b.y2]
def linesX (zs : List BxV) : List Int := squeezeL (rawX zs)
def linesY (zs : List BxV) : List Int := squeezeL (rawY zs)
theorem raw_len (zs : List BxV) : (rawX zs).length = 2 * (zs.filter covB).length ∧ (rawY zs).length = 2 * (zs.filter covB).length := by
  unfold rawX rawY
  generalize zs.filter covB = l
  induction l with
  | nil => exact ⟨rfl, rfl⟩
  | cons b l ih => simp [List.flatMap_cons] at ih ⊢; omega
theorem raw_le (zs : List BxV) : (rawX zs).length ≤ 2 * zs.length ∧ (rawY zs).length ≤ 2 * zs.length := by
  have h := raw_len zs
  have := List.length_filter_le covB zs
  omega
theorem rawX_snoc (zs : List BxV) (x : BxV) : rawX (zs ++ [x]) = rawX zs ++ (if covB x = true then [x.x1, x.x2] else []) := by
  unfold rawX
  rw [List.filter_append, List.flatMap_append]
  by_cases h : covB x = true <;> simp [List.filter_cons, h]
theorem rawY_snoc (zs : List BxV) (x : BxV) : rawY (zs ++ [x]) = rawY zs ++ (if covB x = true then [x.y1, x.y2] else []) := by
  unfold rawY
  rw [List.filter_append, List.flatMap_append]
  by_cases h : covB x = true <;> simp [List.filter_cons, h]
theorem own_shape1 {W : World} {base : Nat} {e : TypeId} {k : Nat} {v : Value} {n : Nat} {xs : List Value} (h : W.ownsRow base e k v n xs) : ∃ a c, v = .slice a n c := by
  rcases h.2 with ⟨rfl, rfl⟩ | ⟨g, c, _, rfl, _⟩
  · exact ⟨_, _, rfl⟩
  · exact ⟨_, _, rfl⟩
set_option maxRecDepth 100000 in
set_option maxHeartbeats 4000000 in
theorem lines_any (zs : List BxV) (hz : zs.length ≤ 100000) (A : Option Addr) (c : Nat) (w : World) (hr : RecRow w BxV.cells 5 A zs) :
    Calls Tryz.prog 188 #[.slice A zs.length c] w fun e w' => ∃ A1 c1 A2 c2, e = .returned (.tuple #[.slice A1 (linesX zs).length c1, .slice A2 (linesY zs).length c2]) ∧
      RecRow w' icell 1 A1 (linesX zs) ∧ RecRow w' icell 1 A2 (linesY zs) ∧ (rawX zs = [] → A1 = none ∧ c1 = 0) ∧ (rawY zs = [] → A2 = none ∧ c2 = 0) ∧ Below w.heap.size w w' := by
  obtain ⟨i0, hi, hzz, hz1, hz2⟩ := info_parts infoI64
  have HR := Lib.hid hr
  clear hr
  go_enter Tryz.func188, Tryz.ntmps188
  go_wp2_with fail
  go_loopw [4, 5, 10] (fun u4 u5 v10 wr => ∃ (k : Nat) (v4 v5 : Value), v4 = u4 ∧ v5 = u5 ∧ k ≤ zs.length ∧ v10 = .int .i64 (k : Int) ∧ Hid (TwoRows w wr v4 v5 (rawX (zs.take k)) (rawY (zs.take k))) ∧ Hid (rawX (zs.take k) = [] → v4 = .slice none 0 0) ∧ Hid (rawY (zs.take k) = [] → v5 = .slice none 0 0)) (fun _ _ v _ => zs.length - (intOf v).toNat)
  case atStart => exact ⟨0, _, _, rfl, rfl, Nat.zero_le _, rfl, Lib.hid ⟨World.ownsRow_nil _ _ _ _, World.ownsRow_nil _ _ _ _, .inl rfl, Below.refl _ _⟩, Lib.hid fun _ => rfl, Lib.hid fun _ => rfl⟩
  case round =>
    obtain ⟨k, v4, v5, rfl, rfl, hk, rfl, HT, HZ4, HZ5⟩ := hrel
    by_cases hlt : k < zs.length
    · obtain ⟨x, hx⟩ : ∃ x, zs[k]? = some x := ⟨_, List.getElem?_eq_getElem hlt⟩
      have hlI : decide ((k : Int) < (zs.length : Int)) = true := decide_eq_true (by omega)
      obtain ⟨ga, lo, rfl, hgl, hcell⟩ := RecRow.at_ (HR.out.later HT.out.below) hx
      have e0 : wr.cell? ⟨ga, lo + k * 5, none⟩ = some (.int .i64 x.x1) := hcell 0 (by omega)
      have e1 : wr.cell? ⟨ga, lo + k * 5 + 1, none⟩ = some (.int .i64 x.x2) := hcell 1 (by omega)
      have e2 : wr.cell? ⟨ga, lo + k * 5 + 2, none⟩ = some (.int .i64 x.y1) := hcell 2 (by omega)
      have e3 : wr.cell? ⟨ga, lo + k * 5 + 3, none⟩ = some (.int .i64 x.y2) := hcell 3 (by omega)
      have e4 : wr.cell? ⟨ga, lo + k * 5 + 4, none⟩ = some (.int .u32 (x.id : Int)) := hcell 4 (by omega)
      have HXS := Lib.hid (show rawX (zs.take (k + 1)) = rawX (zs.take k) ++ (if covB x = true then [x.x1, x.x2] else []) by rw [List.take_add_one, hx]; exact rawX_snoc _ _)
      have HYS := Lib.hid (show rawY (zs.take (k + 1)) = rawY (zs.take k) ++ (if covB x = true then [x.y1, x.y2] else []) by rw [List.take_add_one, hx]; exact rawY_snoc _ _)
      have HLL := Lib.hid (show (rawX (zs.take k)).length ≤ 200000 ∧ (rawY (zs.take k)).length ≤ 200000 by have h := raw_le (zs.take k); have := List.length_take_le k zs; omega)
      obtain ⟨t, ht⟩ : ∃ t, covB x = t := ⟨_, rfl⟩
      have HCV := Lib.hid (fun W => asv (Cell_any x.x1 x.x2 x.y1 x.y2 (x.id : Int) x.x1 x.y1) (congrArg Value.bool ht) W)
      rw [ht] at HXS HYS
      have KB0 := Lib.hid (Blk.new wr 71 x.cells)
      have HT0 := Lib.hid (HT.out.alloc (.cells x.cells 71))
      clear hcell hx ht HT
      go_upto_region 5 with fail
      generalize wr.alloc _ = V at KB0 HT0 ⊢
      obtain ⟨b7, hb7⟩ : ∃ b, wr.heap.size = b := ⟨_, rfl⟩
      rw [hb7] at KB0 ⊢
      obtain ⟨f0, f1, f2, f3, f4⟩ := bx_cells KB0.out
      clear e0 e1 e2 e3 e4 hb7
      go_wp2_with fail
      refine (HCV.out _).mono ?_
      rintro e V0 ⟨rfl, hb0⟩
      have KB := Lib.hid (Blk.below KB0.out hb0 (Blk.lt KB0.out))
      have HT := Lib.hid (HT0.out.later hb0)
      clear hb0 HT0 KB0 f0 f1 f2 f3 f4 HCV
      cases t with
      | false =>
        go_wp2_with fail
        go_roundw
        case rel => exact ⟨k + 1, _, _, rfl, rfl, by omega, by simp, by rw [HXS.out, HYS.out]; simpa using HT, by rw [HXS.out]; simpa using HZ4, by rw [HYS.out]; simpa using HZ5⟩
        case measure => simp [intOf]; omega
      | true =>
        go_upto_region 6 with fail
        refine wp_region_until (fun w' => BxB w' b7 x) [0, 1, 2, 3, 4, 5, 6, 7, 8, 9, 10, 11, 12, 13, 14, 15] (by kernel_rfl) ?_
        have hS : (fun w' => BxB w' b7 x) V0.drew := Blk.drew KB.out
        replace HT := Lib.hid HT.out.drew
        obtain ⟨W0, hW0⟩ : ∃ W, V0.drew = W := ⟨_, rfl⟩
        rw [hW0] at HT hS ⊢
        clear hW0 KB
        refine wpAnyG_take (i := 0) rfl (by kernel_rfl) (by kernel_rfl) (by kernel_rfl) (by kernel_rfl) (by kernel_rfl) (by kernel_rfl) (fun _ _ _ h => h) rfl (by intro w' hb; go_simp; try rfl) hS ?_
        (try simp only [Act.put, List.getElem_toArray, List.getElem_cons_succ, List.getElem_cons_zero, List.setIfInBounds_toArray, List.set_cons_zero, List.set_cons_succ])
        refine wpAnyG_take (i := 1) rfl (by kernel_rfl) (by kernel_rfl) (by kernel_rfl) (by kernel_rfl) (by kernel_rfl) (by kernel_rfl) (fun _ _ _ h => h) rfl (by intro w' hb; go_simp; try rfl) hS ?_
        (try simp only [Act.put, List.getElem_toArray, List.getElem_cons_succ, List.getElem_cons_zero, List.setIfInBounds_toArray, List.set_cons_zero, List.set_cons_succ])
        refine wpAnyG_take (i := 2) rfl (by kernel_rfl) (by kernel_rfl) (by kernel_rfl) (by kernel_rfl) (by kernel_rfl) (by kernel_rfl) (fun _ _ _ h => h) rfl (by intro w' hb; obtain ⟨e0, e1, e2, e3, e4⟩ := bx_cells hb; go_simp; try rfl) hS ?_
        (try simp only [Act.put, List.getElem_toArray, List.getElem_cons_succ, List.getElem_cons_zero, List.setIfInBounds_toArray, List.set_cons_zero, List.set_cons_succ])
        refine wpAnyG_take (i := 3) rfl (by kernel_rfl) (by kernel_rfl) (by kernel_rfl) (by kernel_rfl) (by kernel_rfl) (by kernel_rfl) (fun _ _ _ h => h) rfl (by intro w' hb; go_simp; try rfl) hS ?_
        (try simp only [Act.put, List.getElem_toArray, List.getElem_cons_succ, List.getElem_cons_zero, List.setIfInBounds_toArray, List.set_cons_zero, List.set_cons_succ])
        refine wpAnyG_take (i := 4) rfl (by kernel_rfl) (by kernel_rfl) (by kernel_rfl) (by kernel_rfl) (by kernel_rfl) (by kernel_rfl) (fun _ _ _ h => h) rfl (by intro w' hb; obtain ⟨e0, e1, e2, e3, e4⟩ := bx_cells hb; go_simp; try rfl) hS ?_
        (try simp only [Act.put, List.getElem_toArray, List.getElem_cons_succ, List.getElem_cons_zero, List.setIfInBounds_toArray, List.set_cons_zero, List.set_cons_succ])
        refine wpAnyG_take (i := 7) rfl (by kernel_rfl) (by kernel_rfl) (by kernel_rfl) (by kernel_rfl) (by kernel_rfl) (by kernel_rfl) (fun _ _ _ h => h) rfl (by intro w' hb; go_simp; try rfl) hS ?_
        (try simp only [Act.put, List.getElem_toArray, List.getElem_cons_succ, List.getElem_cons_zero, List.setIfInBounds_toArray, List.set_cons_zero, List.set_cons_succ])
        refine wpAnyG_take (i := 8) rfl (by kernel_rfl) (by kernel_rfl) (by kernel_rfl) (by kernel_rfl) (by kernel_rfl) (by kernel_rfl) (fun _ _ _ h => h) rfl (by intro w' hb; go_simp; try rfl) hS ?_
        (try simp only [Act.put, List.getElem_toArray, List.getElem_cons_succ, List.getElem_cons_zero, List.setIfInBounds_toArray, List.set_cons_zero, List.set_cons_succ])
        refine wpAnyG_take (i := 9) rfl (by kernel_rfl) (by kernel_rfl) (by kernel_rfl) (by kernel_rfl) (by kernel_rfl) (by kernel_rfl) (fun _ _ _ h => h) rfl (by intro w' hb; obtain ⟨e0, e1, e2, e3, e4⟩ := bx_cells hb; go_simp; try rfl) hS ?_
        (try simp only [Act.put, List.getElem_toArray, List.getElem_cons_succ, List.getElem_cons_zero, List.setIfInBounds_toArray, List.set_cons_zero, List.set_cons_succ])
        refine wpAnyG_take (i := 10) rfl (by kernel_rfl) (by kernel_rfl) (by kernel_rfl) (by kernel_rfl) (by kernel_rfl) (by kernel_rfl) (fun _ _ _ h => h) rfl (by intro w' hb; go_simp; try rfl) hS ?_
        (try simp only [Act.put, List.getElem_toArray, List.getElem_cons_succ, List.getElem_cons_zero, List.setIfInBounds_toArray, List.set_cons_zero, List.set_cons_succ])
        refine wpAnyG_take (i := 11) rfl (by kernel_rfl) (by kernel_rfl) (by kernel_rfl) (by kernel_rfl) (by kernel_rfl) (by kernel_rfl) (fun _ _ _ h => h) rfl (by intro w' hb; obtain ⟨e0, e1, e2, e3, e4⟩ := bx_cells hb; go_simp; try rfl) hS ?_
        (try simp only [Act.put, List.getElem_toArray, List.getElem_cons_succ, List.getElem_cons_zero, List.setIfInBounds_toArray, List.set_cons_zero, List.set_cons_succ])
        refine wpAnyG_two (i := 5) (j := 12) rfl rfl (by kernel_rfl) rfl rfl (fun K hK => ?_) (fun K hK => ?_)
        · go_simp
          refine hK.out _ _ (Blk.alloc hS _) (fun hS => ?_)
          clear hK K
          have RX := Lib.hid (Blk.new W0 2 #[ival x.x1, ival x.x2])
          replace HT := Lib.hid (HT.out.alloc (.cells #[ival x.x1, ival x.x2] 2))
          obtain ⟨W1, hW1⟩ : ∃ W, W0.alloc (.cells #[ival x.x1, ival x.x2] 2) = W := ⟨_, rfl⟩
          rw [hW1] at RX HT hS ⊢
          obtain ⟨gX, hgX⟩ : ∃ g, W0.heap.size = g := ⟨_, rfl⟩
          rw [hgX] at RX ⊢
          clear hW1 hgX
          (try simp only [Act.put, List.getElem_toArray, List.getElem_cons_succ, List.getElem_cons_zero, List.setIfInBounds_toArray, List.set_cons_zero, List.set_cons_succ])
          refine wpAnyG_two (i := 6) (j := 12) rfl rfl (by kernel_rfl) rfl rfl (fun K hK => ?_) (fun K hK => ?_)
          · refine wp_append_any _ (.tmp 20) (.tmp 25) 61 rfl w.heap.size 2 i0 (.int .i64 0) 1 8 Tryz.underlying61 hi hzz hz1 hz2 rfl (by decide) _ _ _ rfl HT.out.o4 (gX + 1) (some ⟨gX, 0, none⟩) 2 2 [ival x.x1, ival x.x2] rfl (reads_blk RX.out) (ones2 _ _) (by unfold maxLen; have := HLL.out; omega) (by have := HLL.out; omega) HT.out.below.size ?_
            intro vX W2 ho hgr hat
            refine hK.out _ _ (Blk.grown hS hgr (own_ne_blk HT.out.o4 hS (by decide))) (fun hS => ?_)
            clear hK K
            replace HT := Lib.hid (HT.out.app4 _ _ ho hgr hat)
            clear ho hgr hat
            (try simp only [Act.put, List.getElem_toArray, List.getElem_cons_succ, List.getElem_cons_zero, List.setIfInBounds_toArray, List.set_cons_zero, List.set_cons_succ])
            refine wpAnyG_step (i := 12) rfl (by kernel_rfl) rfl (fun K hK => ?_)
            go_simp
            refine hK.out _ _ (Blk.alloc hS _) (fun hS => ?_)
            clear hK K
            have RY := Lib.hid (Blk.new W2 2 #[ival x.y1, ival x.y2])
            replace HT := Lib.hid (HT.out.alloc (.cells #[ival x.y1, ival x.y2] 2))
            obtain ⟨W3, hW3⟩ : ∃ W, W2.alloc (.cells #[ival x.y1, ival x.y2] 2) = W := ⟨_, rfl⟩
            rw [hW3] at RY HT hS ⊢
            obtain ⟨gY, hgY⟩ : ∃ g, W2.heap.size = g := ⟨_, rfl⟩
            rw [hgY] at RY ⊢
            clear hW3 hgY
            (try simp only [Act.put, List.getElem_toArray, List.getElem_cons_succ, List.getElem_cons_zero, List.setIfInBounds_toArray, List.set_cons_zero, List.set_cons_succ])
            refine wpAnyG_step (i := 13) rfl (by kernel_rfl) rfl (fun K hK => ?_)
            refine wp_append_any _ (.tmp 27) (.tmp 32) 61 rfl w.heap.size 2 i0 (.int .i64 0) 1 8 Tryz.underlying61 hi hzz hz1 hz2 rfl (by decide) _ _ _ rfl HT.out.o5 (gY + 1) (some ⟨gY, 0, none⟩) 2 2 [ival x.y1, ival x.y2] rfl (reads_blk RY.out) (ones2 _ _) (by unfold maxLen; have := HLL.out; omega) (by have := HLL.out; omega) HT.out.below.size ?_
            intro vY W4 ho hgr hat
            refine hK.out _ _ (Blk.grown hS hgr (own_ne_blk HT.out.o5 hS (by decide))) (fun hS => ?_)
            clear hK K
            replace HT := Lib.hid (HT.out.app5 _ _ ho hgr hat)
            clear ho hgr hat
            (try simp only [Act.put, List.getElem_toArray, List.getElem_cons_succ, List.getElem_cons_zero, List.setIfInBounds_toArray, List.set_cons_zero, List.set_cons_succ])
            refine wpAnyG_take (i := 14) rfl (by kernel_rfl) (by kernel_rfl) (by kernel_rfl) (by kernel_rfl) (by kernel_rfl) (by kernel_rfl) (fun _ _ _ h => h) rfl (by intro w' hb; go_simp; try rfl) hS ?_
            (try simp only [Act.put, List.getElem_toArray, List.getElem_cons_succ, List.getElem_cons_zero, List.setIfInBounds_toArray, List.set_cons_zero, List.set_cons_succ])
            refine wpAnyG_take (i := 15) rfl (by kernel_rfl) (by kernel_rfl) (by kernel_rfl) (by kernel_rfl) (by kernel_rfl) (by kernel_rfl) (fun _ _ _ h => h) rfl (by intro w' hb; go_simp; try rfl) hS ?_
            (try simp only [Act.put, List.getElem_toArray, List.getElem_cons_succ, List.getElem_cons_zero, List.setIfInBounds_toArray, List.set_cons_zero, List.set_cons_succ])
            refine wpAnyU_done (by kernel_rfl) ?_ _
            clear hS
            have HX2 := Lib.hid (show rawX (zs.take (k + 1)) = rawX (zs.take k) ++ [x.x1, x.x2] by rw [HXS.out]; rfl)
            have HY2 := Lib.hid (show rawY (zs.take (k + 1)) = rawY (zs.take k) ++ [x.y1, x.y2] by rw [HYS.out]; rfl)
            go_wp2_with fail
            go_roundw
            case rel => exact ⟨k + 1, _, _, rfl, rfl, by omega, by simp, by rw [HX2.out, HY2.out]; exact HT, Lib.hid fun h => absurd h (by rw [HX2.out]; simp), Lib.hid fun h => absurd h (by rw [HY2.out]; simp)⟩
            case measure => simp [intOf]; omega
          · go_simp
            refine hK.out _ _ (Blk.alloc hS _) (fun hS => ?_)
            clear hK K
            have HN4 := Lib.hid (show v4.ownBlock ≠ some W1.heap.size from fun e => by have h := HT.out.o4.lt _ e; omega)
            have RY := Lib.hid (Blk.new W1 2 #[ival x.y1, ival x.y2])
            replace HT := Lib.hid (HT.out.alloc (.cells #[ival x.y1, ival x.y2] 2))
            replace RX := Lib.hid (RX.out.alloc (.cells #[ival x.y1, ival x.y2] 2))
            obtain ⟨W2, hW2⟩ : ∃ W, W1.alloc (.cells #[ival x.y1, ival x.y2] 2) = W := ⟨_, rfl⟩
            rw [hW2] at RY HT hS RX ⊢
            obtain ⟨gY, hgY⟩ : ∃ g, W1.heap.size = g := ⟨_, rfl⟩
            rw [hgY] at RY HN4 ⊢
            clear hW2 hgY
            (try simp only [Act.put, List.getElem_toArray, List.getElem_cons_succ, List.getElem_cons_zero, List.setIfInBounds_toArray, List.set_cons_zero, List.set_cons_succ])
            refine wpAnyG_step (i := 6) rfl (by kernel_rfl) rfl (fun K hK => ?_)
            refine wp_append_any _ (.tmp 20) (.tmp 25) 61 rfl w.heap.size 2 i0 (.int .i64 0) 1 8 Tryz.underlying61 hi hzz hz1 hz2 rfl (by decide) _ _ _ rfl HT.out.o4 (gX + 1) (some ⟨gX, 0, none⟩) 2 2 [ival x.x1, ival x.x2] rfl (reads_blk RX.out) (ones2 _ _) (by unfold maxLen; have := HLL.out; omega) (by have := HLL.out; omega) HT.out.below.size ?_
            intro vX W3 ho hgr hat
            refine hK.out _ _ (Blk.grown hS hgr (own_ne_blk HT.out.o4 hS (by decide))) (fun hS => ?_)
            clear hK K
            replace RY := Lib.hid (Blk.grown RY.out hgr (fun e => HN4.out e.symm))
            replace HT := Lib.hid (HT.out.app4 _ _ ho hgr hat)
            clear ho hgr hat
            (try simp only [Act.put, List.getElem_toArray, List.getElem_cons_succ, List.getElem_cons_zero, List.setIfInBounds_toArray, List.set_cons_zero, List.set_cons_succ])
            refine wpAnyG_step (i := 13) rfl (by kernel_rfl) rfl (fun K hK => ?_)
            refine wp_append_any _ (.tmp 27) (.tmp 32) 61 rfl w.heap.size 2 i0 (.int .i64 0) 1 8 Tryz.underlying61 hi hzz hz1 hz2 rfl (by decide) _ _ _ rfl HT.out.o5 (gY + 1) (some ⟨gY, 0, none⟩) 2 2 [ival x.y1, ival x.y2] rfl (reads_blk RY.out) (ones2 _ _) (by unfold maxLen; have := HLL.out; omega) (by have := HLL.out; omega) HT.out.below.size ?_
            intro vY W4 ho hgr hat
            refine hK.out _ _ (Blk.grown hS hgr (own_ne_blk HT.out.o5 hS (by decide))) (fun hS => ?_)
            clear hK K
            replace HT := Lib.hid (HT.out.app5 _ _ ho hgr hat)
            clear ho hgr hat
            (try simp only [Act.put, List.getElem_toArray, List.getElem_cons_succ, List.getElem_cons_zero, List.setIfInBounds_toArray, List.set_cons_zero, List.set_cons_succ])
            refine wpAnyG_take (i := 14) rfl (by kernel_rfl) (by kernel_rfl) (by kernel_rfl) (by kernel_rfl) (by kernel_rfl) (by kernel_rfl) (fun _ _ _ h => h) rfl (by intro w' hb; go_simp; try rfl) hS ?_
            (try simp only [Act.put, List.getElem_toArray, List.getElem_cons_succ, List.getElem_cons_zero, List.setIfInBounds_toArray, List.set_cons_zero, List.set_cons_succ])
            refine wpAnyG_take (i := 15) rfl (by kernel_rfl) (by kernel_rfl) (by kernel_rfl) (by kernel_rfl) (by kernel_rfl) (by kernel_rfl) (fun _ _ _ h => h) rfl (by intro w' hb; go_simp; try rfl) hS ?_
            (try simp only [Act.put, List.getElem_toArray, List.getElem_cons_succ, List.getElem_cons_zero, List.setIfInBounds_toArray, List.set_cons_zero, List.set_cons_succ])
            refine wpAnyU_done (by kernel_rfl) ?_ _
            clear hS
            have HX2 := Lib.hid (show rawX (zs.take (k + 1)) = rawX (zs.take k) ++ [x.x1, x.x2] by rw [HXS.out]; rfl)
            have HY2 := Lib.hid (show rawY (zs.take (k + 1)) = rawY (zs.take k) ++ [x.y1, x.y2] by rw [HYS.out]; rfl)
            go_wp2_with fail
            go_roundw
            case rel => exact ⟨k + 1, _, _, rfl, rfl, by omega, by simp, by rw [HX2.out, HY2.out]; exact HT, Lib.hid fun h => absurd h (by rw [HX2.out]; simp), Lib.hid fun h => absurd h (by rw [HY2.out]; simp)⟩
            case measure => simp [intOf]; omega
        · go_simp
          refine hK.out _ _ (Blk.alloc hS _) (fun hS => ?_)
          clear hK K
          have HN4 := Lib.hid (show v4.ownBlock ≠ some W0.heap.size from fun e => by have h := HT.out.o4.lt _ e; omega)
          have RY := Lib.hid (Blk.new W0 2 #[ival x.y1, ival x.y2])
          replace HT := Lib.hid (HT.out.alloc (.cells #[ival x.y1, ival x.y2] 2))
          obtain ⟨W1, hW1⟩ : ∃ W, W0.alloc (.cells #[ival x.y1, ival x.y2] 2) = W := ⟨_, rfl⟩
          rw [hW1] at RY HT hS ⊢
          obtain ⟨gY, hgY⟩ : ∃ g, W0.heap.size = g := ⟨_, rfl⟩
          rw [hgY] at RY HN4 ⊢
          clear hW1 hgY
          (try simp only [Act.put, List.getElem_toArray, List.getElem_cons_succ, List.getElem_cons_zero, List.setIfInBounds_toArray, List.set_cons_zero, List.set_cons_succ])
          refine wpAnyG_step (i := 5) rfl (by kernel_rfl) rfl (fun K hK => ?_)
          go_simp
          refine hK.out _ _ (Blk.alloc hS _) (fun hS => ?_)
          clear hK K
          have RX := Lib.hid (Blk.new W1 2 #[ival x.x1, ival x.x2])
          replace HT := Lib.hid (HT.out.alloc (.cells #[ival x.x1, ival x.x2] 2))
          replace RY := Lib.hid (RY.out.alloc (.cells #[ival x.x1, ival x.x2] 2))
          obtain ⟨W2, hW2⟩ : ∃ W, W1.alloc (.cells #[ival x.x1, ival x.x2] 2) = W := ⟨_, rfl⟩
          rw [hW2] at RX HT hS RY ⊢
          obtain ⟨gX, hgX⟩ : ∃ g, W1.heap.size = g := ⟨_, rfl⟩
          rw [hgX] at RX ⊢
          clear hW2 hgX
          (try simp only [Act.put, List.getElem_toArray, List.getElem_cons_succ, List.getElem_cons_zero, List.setIfInBounds_toArray, List.set_cons_zero, List.set_cons_succ])
          refine wpAnyG_step (i := 6) rfl (by kernel_rfl) rfl (fun K hK => ?_)
          refine wp_append_any _ (.tmp 20) (.tmp 25) 61 rfl w.heap.size 2 i0 (.int .i64 0) 1 8 Tryz.underlying61 hi hzz hz1 hz2 rfl (by decide) _ _ _ rfl HT.out.o4 (gX + 1) (some ⟨gX, 0, none⟩) 2 2 [ival x.x1, ival x.x2] rfl (reads_blk RX.out) (ones2 _ _) (by unfold maxLen; have := HLL.out; omega) (by have := HLL.out; omega) HT.out.below.size ?_
          intro vX W3 ho hgr hat
          refine hK.out _ _ (Blk.grown hS hgr (own_ne_blk HT.out.o4 hS (by decide))) (fun hS => ?_)
          clear hK K
          replace RY := Lib.hid (Blk.grown RY.out hgr (fun e => HN4.out e.symm))
          replace HT := Lib.hid (HT.out.app4 _ _ ho hgr hat)
          clear ho hgr hat
          (try simp only [Act.put, List.getElem_toArray, List.getElem_cons_succ, List.getElem_cons_zero, List.setIfInBounds_toArray, List.set_cons_zero, List.set_cons_succ])
          refine wpAnyG_step (i := 13) rfl (by kernel_rfl) rfl (fun K hK => ?_)
          refine wp_append_any _ (.tmp 27) (.tmp 32) 61 rfl w.heap.size 2 i0 (.int .i64 0) 1 8 Tryz.underlying61 hi hzz hz1 hz2 rfl (by decide) _ _ _ rfl HT.out.o5 (gY + 1) (some ⟨gY, 0, none⟩) 2 2 [ival x.y1, ival x.y2] rfl (reads_blk RY.out) (ones2 _ _) (by unfold maxLen; have := HLL.out; omega) (by have := HLL.out; omega) HT.out.below.size ?_
          intro vY W4 ho hgr hat
          refine hK.out _ _ (Blk.grown hS hgr (own_ne_blk HT.out.o5 hS (by decide))) (fun hS => ?_)
          clear hK K
          replace HT := Lib.hid (HT.out.app5 _ _ ho hgr hat)
          clear ho hgr hat
          (try simp only [Act.put, List.getElem_toArray, List.getElem_cons_succ, List.getElem_cons_zero, List.setIfInBounds_toArray, List.set_cons_zero, List.set_cons_succ])
          refine wpAnyG_take (i := 14) rfl (by kernel_rfl) (by kernel_rfl) (by kernel_rfl) (by kernel_rfl) (by kernel_rfl) (by kernel_rfl) (fun _ _ _ h => h) rfl (by intro w' hb; go_simp; try rfl) hS ?_
          (try simp only [Act.put, List.getElem_toArray, List.getElem_cons_succ, List.getElem_cons_zero, List.setIfInBounds_toArray, List.set_cons_zero, List.set_cons_succ])
          refine wpAnyG_take (i := 15) rfl (by kernel_rfl) (by kernel_rfl) (by kernel_rfl) (by kernel_rfl) (by kernel_rfl) (by kernel_rfl) (fun _ _ _ h => h) rfl (by intro w' hb; go_simp; try rfl) hS ?_
          (try simp only [Act.put, List.getElem_toArray, List.getElem_cons_succ, List.getElem_cons_zero, List.setIfInBounds_toArray, List.set_cons_zero, List.set_cons_succ])
          refine wpAnyU_done (by kernel_rfl) ?_ _
          clear hS
          have HX2 := Lib.hid (show rawX (zs.take (k + 1)) = rawX (zs.take k) ++ [x.x1, x.x2] by rw [HXS.out]; rfl)
          have HY2 := Lib.hid (show rawY (zs.take (k + 1)) = rawY (zs.take k) ++ [x.y1, x.y2] by rw [HYS.out]; rfl)
          go_wp2_with fail
          go_roundw
          case rel => exact ⟨k + 1, _, _, rfl, rfl, by omega, by simp, by rw [HX2.out, HY2.out]; exact HT, Lib.hid fun h => absurd h (by rw [HX2.out]; simp), Lib.hid fun h => absurd h (by rw [HY2.out]; simp)⟩
          case measure => simp [intOf]; omega
    · obtain rfl : k = zs.length := by omega
      have hlI : decide ((zs.length : Int) < (zs.length : Int)) = false := decide_eq_false (by omega)
      rw [List.take_length] at HT HZ4 HZ5
      obtain ⟨A4, c4, rfl⟩ := own_shape1 HT.out.o4
      obtain ⟨A5, c5, rfl⟩ := own_shape1 HT.out.o5
      have HLL := Lib.hid (raw_le zs)
      have HR4 := Lib.hid (show RecRow wr icell 1 A4 (rawX zs) from RecRow.of_own icellk (by rw [flat_i]; exact HT.out.o4) rfl)
      have HR5 := Lib.hid (show RecRow wr icell 1 A5 (rawY zs) from RecRow.of_own icellk (by rw [flat_i]; exact HT.out.o5) rfl)
      have HN4 := Lib.hid (show rawX zs = [] → A4 = none ∧ c4 = 0 from fun h => by have := HZ4.out h; simp at this; exact ⟨this.1, this.2.2⟩)
      have HN5 := Lib.hid (show rawY zs = [] → A5 = none ∧ c5 = 0 from fun h => by have := HZ5.out h; simp at this; exact ⟨this.1, this.2.2⟩)
      have HB := Lib.hid HT.out.below
      clear HT HZ4 HZ5
      go_wp2_with fail
      refine (squeeze_any (rawX zs) (by have := HLL.out; omega) A4 c4 _ HN4.out HR4.out).mono ?_
      rintro e w1 ⟨A1, c1, rfl, ho1, hn1, hb1⟩
      have HO1 := Lib.hid (show RecRow w1 icell 1 A1 (linesX zs) from RecRow.of_own icellk (by rw [flat_i]; exact ho1) rfl)
      have HN1 := Lib.hid hn1
      have HB1 := Lib.hid (bl HB.out HB.out.size hb1)
      replace HR5 := Lib.hid (HR5.out.later hb1)
      clear ho1 hn1 hb1
      go_wp2_with fail
      refine (squeeze_any (rawY zs) (by have := HLL.out; omega) A5 c5 _ HN5.out HR5.out).mono ?_
      rintro e w2 ⟨A2, c2, rfl, ho2, hn2, hb2⟩
      have HO2 := Lib.hid (show RecRow w2 icell 1 A2 (linesY zs) from RecRow.of_own icellk (by rw [flat_i]; exact ho2) rfl)
      have HN2 := Lib.hid hn2
      have HB2 := Lib.hid (bl HB1.out HB1.out.size hb2)
      replace HO1 := Lib.hid (HO1.out.later hb2)
      clear ho2 hn2 hb2
      go_wp2_with fail
      go_ret2
      exact ⟨A1, c1, A2, c2, rfl, HO1.out, HO2.out, HN1.out, HN2.out, HB2.out⟩
end Go.Proofs.YtokpgopdkimmmaaGreatDoor
/- cells.Blocks: which blocks are covered. -/
namespace Go.Proofs.YtokpgopdkimmmaaGreatDoor
open Go.RowKit
set_option linter.unusedVariables false
set_option linter.unusedSimpArgs false

/-- A column, filled up to a place. -/
def bcol (h : Nat → Bool) (n k : Nat) : Array Value := ((List.range n).map fun j => (.bool (decide (j < k) && h j) : Value)).toArray
theorem bcol_size (h : Nat → Bool) (n k : Nat) : (bcol h n k).size = n := by simp [bcol]
theorem bcol_get (h : Nat → Bool) (n k j : Nat) (hj : j < n) : (bcol h n k)[j]? = some (.bool (decide (j < k) && h j)) := by
  unfold bcol
  rw [List.getElem?_toArray, List.getElem?_map, List.getElem?_range hj]
  rfl
theorem bcol_set (h : Nat → Bool) (n k : Nat) (hk : k < n) : (bcol h n k).setIfInBounds k (.bool (h k)) = bcol h n (k + 1) := by
  apply Array.ext_getElem?
  intro j
  rw [Array.getElem?_setIfInBounds]
  by_cases hj : j < n
  · rw [bcol_get h n (k + 1) j hj]
    by_cases e : k = j
    · subst e
      rw [if_pos rfl, if_pos (by rw [bcol_size]; exact hk)]
      simp
    · rw [if_neg e, bcol_get h n k j hj]
      congr 3
      rw [Bool.eq_iff_iff]
      simp
      omega
  · have h1 : k ≠ j := by omega
    rw [if_neg h1, Array.getElem?_eq_none (by rw [bcol_size]; omega), Array.getElem?_eq_none (by rw [bcol_size]; omega)]
theorem bcol_made (h : Nat → Bool) (n : Nat) : madeCells #[.bool false] n = bcol h n 0 := by
  apply Array.ext'
  rw [toList_madeCells_one]
  unfold bcol
  refine List.ext_getElem (by simp) fun j h1 h2 => ?_
  simp
theorem infoB : (Tryz.prog.info? 4).map (fun i => (i.zero, i.size, i.bytes)) = some (some (.bool false), 1, 1) := by kernel_rfl
theorem infoBs : (Tryz.prog.info? 218).map (fun i => (i.zero, i.size, i.bytes)) = some (some (.slice none 0 0), 1, 24) := by kernel_rfl
theorem i_at {W : World} {A : Option Addr} {xs : List Int} (h : RecRow W icell 1 A xs) {i : Nat} {x : Int} (hx : xs[i]? = some x) : ∃ g lo, A = some ⟨g, lo, none⟩ ∧ W.cell? ⟨g, lo + i, none⟩ = some (.int .i64 x) := by
  obtain ⟨g, lo, rfl, _, hc⟩ := h.at_ hx
  exact ⟨g, lo, rfl, by have h := hc 0 (by omega); simpa [icell] using h⟩
/-- The variables of Blocks. -/
structure BkSt (w W : World) (zs : List BxV) (A : Option Addr) (c : Nat) (X : Option Addr) (cx : Nat) (Y : Option Addr) (cy : Nat) (ba bx by_ : Nat) : Prop where
  l : Blk W ba 175 #[.slice A zs.length c]
  x : Blk W bx 61 #[.slice X (linesX zs).length cx]
  y : Blk W by_ 61 #[.slice Y (linesY zs).length cy]
  rl : RecRow W BxV.cells 5 A zs
  rx : RecRow W icell 1 X (linesX zs)
  ry : RecRow W icell 1 Y (linesY zs)
  below : Below w.heap.size w W
theorem BkSt.later {w W W' : World} {zs : List BxV} {A : Option Addr} {c : Nat} {X : Option Addr} {cx : Nat} {Y : Option Addr} {cy : Nat} {ba bx by_ : Nat} (h : BkSt w W zs A c X cx Y cy ba bx by_) (hb : Below W.heap.size W W') : BkSt w W' zs A c X cx Y cy ba bx by_ :=
  ⟨h.l.below hb h.l.lt, h.x.below hb h.x.lt, h.y.below hb h.y.lt, h.rl.later hb, h.rx.later hb, h.ry.later hb, bl h.below h.below.size hb⟩
set_option maxRecDepth 100000 in
set_option maxHeartbeats 2000000 in
theorem blocks1_any (zs : List BxV) (hz : zs.length ≤ 100000) (A : Option Addr) (c : Nat) (X : Option Addr) (cx : Nat) (Y : Option Addr) (cy : Nat) (ba bx bi by_ i k : Nat) (hi : i < (linesX zs).length) (hk : k < (linesY zs).length) (xv yv : Int) (hxv : (linesX zs)[i]? = some xv) (hyv : (linesY zs)[k]? = some yv) (w0 w : World)
    (h : BkSt w0 w zs A c X cx Y cy ba bx by_) (hbi : Blk w bi 3 #[.int .i64 (i : Int)]) :
    Calls Tryz.prog 189 #[.int .i64 (k : Int), .pointer (some ⟨ba, 0, none⟩), .pointer (some ⟨bx, 0, none⟩), .pointer (some ⟨bi, 0, none⟩), .pointer (some ⟨by_, 0, none⟩)] w fun e w' => e = .returned (.bool (heldL zs xv yv)) ∧ Below w.heap.size w w' := by
  have c1 : w.cell? ⟨ba, 0, none⟩ = some (.slice A zs.length c) := h.l.cell 0
  have c2 : w.cell? ⟨bx, 0, none⟩ = some (.slice X (linesX zs).length cx) := h.x.cell 0
  have c3 : w.cell? ⟨bi, 0, none⟩ = some (.int .i64 (i : Int)) := hbi.cell 0
  have c4 : w.cell? ⟨by_, 0, none⟩ = some (.slice Y (linesY zs).length cy) := h.y.cell 0
  obtain ⟨gx, lx, rfl, cx0⟩ := i_at h.rx hxv
  obtain ⟨gy, ly, rfl, cy0⟩ := i_at h.ry hyv
  have hi0 : (0 : Int) ≤ (i : Int) ∧ (i : Int) < ((linesX zs).length : Int) := by omega
  have hk0 : (0 : Int) ≤ (k : Int) ∧ (k : Int) < ((linesY zs).length : Int) := by omega
  have HRL := Lib.hid h.rl
  clear h hbi hxv hyv
  go_enter Tryz.func189, Tryz.ntmps189
  go_upto_region 1 with fail
  go_still_tail 9, (by kernel_rfl)
  change wpList _ _ _ _ _ w.drew
  have HB := Lib.hid ((Below.refl w.heap.size w).drew)
  replace HRL := Lib.hid (HRL.out.later ((Below.refl _ _).drew))
  generalize w.drew = W1 at HB HRL ⊢
  clear c1 c2 c3 c4 cx0 cy0
  go_wp2_with fail
  refine (held_any zs (by omega) A c xv yv _ HRL.out).mono ?_
  rintro e w1 ⟨rfl, hb1⟩
  go_wp2_with fail
  go_ret
  exact ⟨rfl, bl HB.out HB.out.size hb1⟩
theorem squeezeL_pos {l : List Int} (h : l ≠ []) : 0 < (squeezeL l).length := by
  unfold squeezeL Lib.compactUpTo
  rw [List.length_map]
  have hl : 0 < (sortI l).length := by rw [sortI_len]; exact List.length_pos_iff.2 h
  exact List.length_pos_of_mem (a := 0) (List.mem_filter.2 ⟨List.mem_range.2 hl, Lib.keeps_lt_one _ 0 (by omega)⟩)
theorem lines_pos {zs : List BxV} (h : 0 < (linesX zs).length) : 0 < (linesY zs).length := by
  have h1 : rawX zs ≠ [] := by
    intro e
    unfold linesX at h
    rw [e, squeezeL_nil] at h
    simp at h
  have h2 := raw_len zs
  have h3 : rawY zs ≠ [] := by
    intro e
    rw [e] at h2
    have := List.length_pos_iff.2 h1
    simp only [List.length_nil] at h2
    omega
  exact squeezeL_pos h3
def colH (zs : List BxV) (i : Nat) : Nat → Bool := fun j => heldL zs ((linesX zs).getD i 0) ((linesY zs).getD j 0)
abbrev colV (n g : Nat) : Value := .slice (some ⟨g, 0, none⟩) n n
/-- The columns in memory. -/
structure Cols (zs : List BxV) (B : Nat) (W : World) (v : Value) (n : Nat) (gs : List Nat) : Prop where
  row : W.ownsRow B 218 1 v gs.length (gs.map (colV n))
  col : ∀ (j g : Nat), gs[j]? = some g → Blk W g 4 (bcol (colH zs j) n n) ∧ B ≤ g
theorem Cols.later {zs : List BxV} {B : Nat} {W W' : World} {v : Value} {n : Nat} {gs : List Nat} (h : Cols zs B W v n gs) (hb : Below W.heap.size W W') : Cols zs B W' v n gs :=
  ⟨own_below h.row hb, fun j g hg => ⟨(h.col j g hg).1.below hb (h.col j g hg).1.lt, (h.col j g hg).2⟩⟩
set_option maxRecDepth 100000 in
set_option maxHeartbeats 4000000 in
theorem blocks_any (zs : List BxV) (hz : zs.length ≤ 100000) (A : Option Addr) (c : Nat) (w : World) (hr : RecRow w BxV.cells 5 A zs) :
    Calls Tryz.prog 156 #[.slice A zs.length c] w fun e w' => ∃ X cx Y cy B v gs, e = .returned (.tuple #[.slice X (linesX zs).length cx, .slice Y (linesY zs).length cy, v]) ∧
      RecRow w' icell 1 X (linesX zs) ∧ RecRow w' icell 1 Y (linesY zs) ∧ gs.length = (linesX zs).length - 1 ∧ Cols zs B w' v ((linesY zs).length - 1) gs ∧ w.heap.size ≤ B ∧ Below w.heap.size w w' := by
  obtain ⟨i0, hi, hzz, hz1, hz2⟩ := info_parts infoBs
  obtain ⟨ib, hib, hbz, hb1, hb2⟩ := info_parts infoB
  have al : ∀ (W : World) (o : Obj), Below W.heap.size W (W.alloc o) := fun W o => (Below.refl _ _).alloc (Nat.le_refl _) o
  have AL := Lib.hid al
  have HR0 := Lib.hid (hr.later (al w (.cells #[.slice A zs.length c] 175)))
  have HL0 := Lib.hid (Blk.new w 175 #[.slice A zs.length c])
  have HB0 := Lib.hid ((Below.refl w.heap.size w).alloc (Nat.le_refl _) (.cells #[.slice A zs.length c] 175))
  clear hr al
  go_enter Tryz.func156, Tryz.ntmps156
  go_wp2_with fail
  refine (lines_any zs hz A c _ HR0.out).mono ?_
  rintro e w1 ⟨X, cx, Y, cy, rfl, hrx, hry, hn1, hn2, hb⟩
  have HL1 := Lib.hid (HL0.out.below hb HL0.out.lt)
  have HR1 := Lib.hid (HR0.out.later hb)
  have HB1 := Lib.hid (bl HB0.out HB0.out.size hb)
  have HX1 := Lib.hid hrx
  have HY1 := Lib.hid hry
  have hwlt : w.heap.size < w1.heap.size := HL1.out.lt
  generalize hbb : w.heap.size = ba at HL1 ⊢
  clear hb hrx hry hn1 hn2 HL0 HR0
  go_upto_region 2 with fail
  have K5 := Lib.hid ((Blk.new w1 61 #[.slice X (linesX zs).length cx]).alloc (.cells #[.slice Y (linesY zs).length cy] 61))
  have K6 := Blk.new (w1.alloc (.cells #[.slice X (linesX zs).length cx] 61)) 61 #[.slice Y (linesY zs).length cy]
  rw [World.size_alloc] at K6
  have hb2 : Below w1.heap.size w1 ((w1.alloc (.cells #[.slice X (linesX zs).length cx] 61)).alloc (.cells #[.slice Y (linesY zs).length cy] 61)) := ((Below.refl _ _).alloc (Nat.le_refl _) _).alloc (by simp) _
  have HST := Lib.hid (show BkSt w _ zs A c X cx Y cy ba w1.heap.size (w1.heap.size + 1) from ⟨HL1.out.below hb2 HL1.out.lt, K5.out, K6, HR1.out.later hb2, HX1.out.later hb2, HY1.out.later hb2, bl HB1.out HB1.out.size hb2⟩)
  clear hb2 K5 K6 HL1 HR1 HB1 HX1 HY1
  generalize (w1.alloc _).alloc _ = Wb at HST ⊢
  obtain ⟨bx, hbx⟩ : ∃ b, w1.heap.size = b := ⟨_, rfl⟩
  rw [hbx] at HST ⊢
  obtain ⟨by_, hby⟩ : ∃ b, bx + 1 = b := ⟨_, rfl⟩
  rw [hby] at HST ⊢
  clear hbx hby hbb hwlt w1
  have x1 : Wb.cell? ⟨bx, 0, none⟩ = some (.slice X (linesX zs).length cx) := HST.out.x.cell 0
  obtain ⟨nx, hnx⟩ : ∃ nx, (linesX zs).length - 1 = nx := ⟨_, rfl⟩
  have hmx : max (((linesX zs).length : Int) - 1) 0 = (nx : Int) := by omega
  have HNX := Lib.hid hnx
  have hlx : (linesX zs).length ≤ 200000 ∧ (linesY zs).length ≤ 200000 := by
    have h1 := raw_le zs
    have h2 := squeezeL_le (rawX zs)
    have h3 := squeezeL_le (rawY zs)
    unfold linesX linesY
    omega
  have hnxl : nx ≤ 200000 := by omega
  clear hnx
  go_wp2_with fail
  clear x1 hmx
  go_loopw [7, 21] (fun u7 v21 wr => ∃ (i : Nat) (v : Value) (gs : List Nat), v = u7 ∧ i ≤ nx ∧ v21 = .int .i64 (i : Int) ∧ gs.length = i ∧ Hid (Cols zs Wb.heap.size wr v ((linesY zs).length - 1) gs) ∧ Hid (Below Wb.heap.size Wb wr)) (fun _ v _ => nx - (intOf v).toNat)
  case atStart => exact ⟨0, _, [], rfl, Nat.zero_le _, rfl, rfl, Lib.hid ⟨World.ownsRow_nil _ _ _ _, fun j g hg => by simp at hg⟩, Lib.hid (Below.refl _ _)⟩
  case round =>
    obtain ⟨i, v, gs, rfl, hin, rfl, hgl, HC, HB⟩ := hrel
    have HS := Lib.hid (HST.out.later HB.out)
    by_cases hlt : i < nx
    · have hlI : decide ((i : Int) < (nx : Int)) = true := decide_eq_true (by omega)
      have hxl : i + 1 < (linesX zs).length := by have := HNX.out; omega
      obtain ⟨ny, hny⟩ : ∃ ny, (linesY zs).length - 1 = ny := ⟨_, rfl⟩
      have hyl : 0 < (linesY zs).length := lines_pos (by omega)
      have hnyI : ((linesY zs).length : Int) - 1 = (ny : Int) := by omega
      have HNY := Lib.hid (show ny + 1 = (linesY zs).length by omega)
      rw [hny] at HC ⊢
      have y1 : wr.cell? ⟨by_, 0, none⟩ = some (.slice Y (linesY zs).length cy) := HS.out.y.cell 0
      have hbyl := HS.out.y.lt
      have hmk := fun W => run_make_rowN (P := Tryz.prog) 218 4 ib (.bool false) Tryz.underlying218 hib hbz .i64 .i64 ny ny (Nat.le_refl _) (by rw [hb2]; omega) (by omega) W
      rw [hb1, Nat.mul_one] at hmk
      have hmd := bcol_made (colH zs i) ny
      have hmd' : madeCells (Value.bool false).cells ny = bcol (colH zs i) ny 0 := hmd
      simp only [hmd'] at hmk
      have HBI := Lib.hid ((Blk.new wr 3 #[.int .i64 (i : Int)]).alloc (.cells (bcol (colH zs i) ny 0) 4))
      have HGC := Blk.new (wr.alloc (.cells #[.int .i64 (i : Int)] 3)) 4 (bcol (colH zs i) ny 0)
      rw [World.size_alloc] at HGC
      replace HGC := Lib.hid HGC
      have HB2 := Lib.hid (((Below.refl wr.heap.size wr).alloc (Nat.le_refl _) (.cells #[.int .i64 (i : Int)] 3)).alloc (by simp) (.cells (bcol (colH zs i) ny 0) 4))
      clear hny hmd hmd' hyl
      go_upto_region 8 with fail
      generalize (wr.alloc _).alloc _ = Vi at HBI HGC HB2 ⊢
      obtain ⟨bi, hbi⟩ : ∃ b, wr.heap.size = b := ⟨_, rfl⟩
      have HBIE := Lib.hid (show wr.heap.size ≤ bi by omega)
      rw [hbi] at HBI HGC ⊢
      obtain ⟨gc, hgc⟩ : ∃ b, bi + 1 = b := ⟨_, rfl⟩
      have HGE := Lib.hid (show wr.heap.size ≤ gc ∧ bi ≠ gc by omega)
      rw [hgc] at HGC ⊢
      clear hmk y1 hbi hgc hb1 hb2
      obtain ⟨wo, rfl⟩ : ∃ wo : World, wo = wr := ⟨_, rfl⟩
      go_wp2_with fail
      go_loopw [31] (fun u wr => ∃ k : Nat, k ≤ ny ∧ u = .int .i64 (k : Int) ∧ Hid (Blk wr gc 4 (bcol (colH zs i) ny k)) ∧ Hid (Blk wr bi 3 #[.int .i64 (i : Int)]) ∧ Hid (Below wo.heap.size wo wr)) (fun v _ => ny - (intOf v).toNat)
      case atStart => exact ⟨0, Nat.zero_le _, rfl, HGC, HBI, HB2⟩
      case round =>
        clear HGC HBI HB2
        obtain ⟨k, hk, rfl, HG, HI, HQ⟩ := hrel
        have HSQ := Lib.hid (HS.out.later HQ.out)
        by_cases hkl : k < ny
        · have hkI : decide ((k : Int) < (ny : Int)) = true := decide_eq_true (by omega)
          have hkI2 : (0 : Int) ≤ (k : Int) ∧ (k : Int) < (ny : Int) := by omega
          obtain ⟨xv, hxv⟩ : ∃ x, (linesX zs)[i]? = some x := ⟨_, List.getElem?_eq_getElem (by omega)⟩
          obtain ⟨yv, hyv⟩ : ∃ y, (linesY zs)[k]? = some y := ⟨_, List.getElem?_eq_getElem (by have := HNY.out; omega)⟩
          have HH := Lib.hid (show colH zs i k = heldL zs xv yv by unfold colH; rw [List.getD_eq_getElem?_getD, hxv, List.getD_eq_getElem?_getD, hyv]; rfl)
          have HCA := Lib.hid (blocks1_any zs hz A c X cx Y cy ba bx bi by_ i k (by omega) (by have := HNY.out; omega) xv yv hxv hyv w wr HSQ.out HI.out)
          clear hxv hyv
          go_wp2_with fail
          refine HCA.out.mono ?_
          rintro e w2 ⟨rfl, hb⟩
          have KG := Lib.hid (HG.out.below hb HG.out.lt)
          have KI := Lib.hid (HI.out.below hb HI.out.lt)
          have HQ2 := Lib.hid (bl HQ.out HQ.out.size hb)
          have g0 : w2.cell? ⟨gc, k, none⟩ = some (.bool (decide (k < k) && colH zs i k)) := by rw [KG.out.cell k]; exact bcol_get _ _ _ _ hkl
          have f0 := Blk.frozen KG.out
          clear hb HCA
          go_wp2_with fail
          go_roundw
          case rel => exact ⟨k + 1, by omega, by simp, Lib.hid (by rw [← HH.out, ← bcol_set _ _ _ hkl]; exact KG.out.set_ k _), Lib.hid (KI.out.far (by exact HGE.out.2) _), Lib.hid (HQ2.out.setCell HGE.out.1 _)⟩
          case measure => simp [intOf]; omega
        · obtain rfl : k = ny := by omega
          have hkI : decide ((k : Int) < (k : Int)) = false := decide_eq_false (by omega)
          have HC2 := Lib.hid (HC.out.later HQ.out)
          have HBQ := Lib.hid (bl HB.out HB.out.size HQ.out)
          go_wp2_with (at_builtin; refine wpList_append_any _ rfl (.tmp 41) (.tmp 43) 215 rfl Wb.heap.size 218 i0 (.slice none 0 0) 1 24 Tryz.underlying215 hi hzz hz1 hz2 rfl (by decide) _ _ _ rfl (HC2.out.row.alloc _) (wr.heap.size + 1) (some ⟨wr.heap.size, 0, none⟩) 1 1 [colV k gc] rfl (reads_blk (Blk.new _ 218 #[colV k gc])) (by intro u hu; simp at hu; subst hu; rfl) (by unfold maxLen; omega) (by omega) (by have := HBQ.out.size; simp; omega) ?_)
          intro v' w' hown hgrow hat
          have K2 := HG.out.alloc (.cells #[colV k gc] 218)
          have hcol : ∀ (j g : Nat), (gs ++ [gc])[j]? = some g → Blk w' g 4 (bcol (colH zs j) k k) ∧ Wb.heap.size ≤ g := by
            intro j g hj
            have hkeep : ∀ {g : Nat} {cs : Array Value}, Blk (wr.alloc (.cells #[colV k gc] 218)) g 4 cs → Blk w' g 4 cs := fun h => Blk.grown h hgrow (own_ne_blk (HC2.out.row.alloc _) h (by decide))
            by_cases hjl : j < gs.length
            · rw [List.getElem?_append_left hjl] at hj
              exact ⟨hkeep ((HC2.out.col j g hj).1.alloc _), (HC2.out.col j g hj).2⟩
            · rw [List.getElem?_append_right (by omega)] at hj
              have hj0 : j - gs.length = 0 := by
                cases hd : j - gs.length with
                | zero => rfl
                | succ n => rw [hd] at hj; simp at hj
              rw [hj0] at hj
              simp at hj
              subst hj
              obtain rfl : j = i := by omega
              exact ⟨hkeep K2, by have := HGE.out.1; have := HB.out.size; omega⟩
          have HCN := Lib.hid (show Cols zs Wb.heap.size w' v' k (gs ++ [gc]) from ⟨by rw [List.length_append, List.map_append, hgl]; exact hown, hcol⟩)
          have HBN := Lib.hid ((HBQ.out.alloc HBQ.out.size (.cells #[colV k gc] 218)).grown hgrow (by have := HBQ.out.size; simp; omega) (fun r e => (HC2.out.row.lt r e).1))
          clear hown hgrow hat K2 hcol
          go_wp2_with fail
          go_roundw
          case rel => exact ⟨i + 1, _, gs ++ [gc], rfl, by omega, by simp, by simp [hgl], HCN, HBN⟩
          case measure => simp [intOf]; omega
    · obtain rfl : i = nx := by omega
      have hlI : decide ((i : Int) < (i : Int)) = false := decide_eq_false (by omega)
      have x1 : wr.cell? ⟨bx, 0, none⟩ = some (.slice X (linesX zs).length cx) := HS.out.x.cell 0
      have y1 : wr.cell? ⟨by_, 0, none⟩ = some (.slice Y (linesY zs).length cy) := HS.out.y.cell 0
      have hxl := HS.out.x.lt
      have hyl := HS.out.y.lt
      have HE := Lib.hid (show gs.length = (linesX zs).length - 1 by rw [hgl, HNX.out])
      clear hgl
      go_upto_region 15 with fail
      go_quiet (fail)
      go_wp2_with fail
      exact bodyPost_ret (v := .tuple #[.slice X (linesX zs).length cx, .slice Y (linesY zs).length cy, v]) (by simp [results, Tryz.results156, go_sem]) rfl
        ⟨X, cx, Y, cy, Wb.heap.size, v, gs, rfl, HS.out.rx, HS.out.ry, HE.out, HC.out.later (below_drewN' (Below.refl _ _) _), HST.out.below.size, below_drewN' HS.out.below _⟩
end Go.Proofs.YtokpgopdkimmmaaGreatDoor
