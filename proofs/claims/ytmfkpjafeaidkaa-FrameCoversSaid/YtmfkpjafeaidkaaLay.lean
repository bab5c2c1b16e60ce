/- The contract of frame.lay: a tree is put behind what is there. -/
import Derived.Test.YtmfkpjafeaidkaaPutsFar
import Derived.Test.YtmfkpjafeaidkaaTree
namespace Go.Proofs.Ytmfkpjafeaidkaa
open Go.RowKit
set_option linter.unusedVariables false

/-- Room and right: the node is put. -/
theorem put_ok {ns : List Nd} {most : Int} {x : Nd} (hm : mayB x.k x.l x.r (ksFrom [] ns) = true) (hr : (ns.length : Int) < most) : putAt ns most x = ns.length ∧ putNs ns most x = ns ++ [x] := by
  have h : putErr ns most x = 0 := by unfold putErr; rw [if_pos hm, if_pos hr]
  exact ⟨by unfold putAt; rw [if_pos h], by unfold putNs; rw [if_pos h]⟩
theorem may_last {ns xs : List Nd} {x : Nd} (h : rightL [] (ns ++ (xs ++ [x])) = true) : mayB x.k x.l x.r (ksFrom [] (ns ++ xs)) = true := by
  rw [← List.append_assoc, rightL_snoc] at h
  exact (Bool.and_eq_true _ _ ▸ h).2
theorem right_tree {ns : List Nd} {n : Nat} {f : Int} (hr : rightL [] ns = true) (h : 1 ≤ n) : rightL [] (ns ++ treeL n f ns.length) = true := by
  have hl : (ksFrom [] ns).length = ns.length := by rw [ksFrom_len]; simp
  have := (tree_right h f (ksFrom [] ns)).1
  rw [hl] at this
  rw [rightL_append, hr, this]; rfl
theorem PoolFar.right {base pb : Nat} {most : Int} {ns : List Nd} {B : List Nat} {w : World} (h : PoolFar base pb most ns B w) : rightL [] ns = true := h.own.right

def LayP (base pb : Nat) (most : Int) (B : List Nat) (ns : List Nd) (n : Nat) (f : Int) (w : World) (e : Ending) (w' : World) : Prop :=
  e = .returned (.int .i64 (ns.length + (2 * n - 2))) ∧ PoolFar base pb most (ns ++ treeL n f ns.length) B w' ∧ Below base w w' ∧ ∀ b ∈ B, w'.heap[b]? = w.heap[b]?

set_option maxRecDepth 100000 in
set_option maxHeartbeats 2000000 in
theorem lay_one {base pb : Nat} {most : Int} {B : List Nat} (f : Int) (ns : List Nd) (w : World) (h : PoolFar base pb most ns B w) (hb : base ≤ w.heap.size) (h0 : 0 ≤ f) (h1 : f + 1 ≤ 17179869184) (hm : (ns.length : Int) + 1 ≤ most) :
    Calls Try.prog 42 #[.pointer (some ⟨pb, 0, none⟩), .int .i64 f, .int .i64 (f + 1)] w (LayP base pb most B ns 1 f w) := by
  obtain ⟨p1, p2⟩ := put_ok (most := most) (may_last (xs := []) (x := leafNd f) (by have := right_tree (f := f) h.right (Nat.le_refl 1); rw [treeL_one] at this; exact this)) (by simp; omega)
  rw [List.append_nil] at p1 p2
  have HP1 := Lib.hid p1
  have HP2 := Lib.hid p2
  have h3 := (h.made (g := w.heap.size) ((Below.refl w.heap.size w).alloc (Nat.le_refl _) (.cells (leafNd f).cells 49)) (Nat.le_refl _) (by simp)).sub (B' := B) (fun b hb => List.mem_cons_of_mem _ hb)
  have hkeep : ∀ b ∈ B, b < w.heap.size := fun b hb => by obtain ⟨fp, _, hB⟩ := h; exact (hB b hb).2
  have HK := Lib.hid hkeep
  have H3 := Lib.hid h3
  clear p1 p2 h h3 hkeep
  go_enter Try.func42, Try.ntmps42
  go_wp2_with fail
  refine (put_far (leafNd f) _ H3.out (Nat.le_trans hb (by simp))).mono ?_
  rintro e w1 ⟨rfl, g1, g2, g3⟩
  have G1 := Lib.hid g1
  have G2 := Lib.hid g2
  have G3 := Lib.hid g3
  clear g1 g2 g3
  go_wp2
  go_ret
  refine ⟨by rw [HP1.out]; simp, by have h := G1.out; rw [HP2.out] at h; rw [treeL_one]; exact h, (((Below.refl _ w).alloc (Nat.le_refl _) _).mono hb).trans G2.out, fun b hm => (G3.out b hm).trans (Below.heap_alloc _ _ _ (HK.out b hm))⟩

/-- What lay does, of so many leaves. -/
def LayOk (base pb : Nat) (most : Int) (n : Nat) : Prop :=
  ∀ (B : List Nat) (f t : Int) (ns : List Nd) (w : World), t = f + n → PoolFar base pb most ns B w → base ≤ w.heap.size → 0 ≤ f → t ≤ 17179869184 → (ns.length : Int) + (2 * n - 1) ≤ most →
    Calls Try.prog 42 #[.pointer (some ⟨pb, 0, none⟩), .int .i64 f, .int .i64 t] w (LayP base pb most B ns n f w)
theorem PoolFar.setCell {base pb : Nat} {most : Int} {ns : List Nd} {B : List Nat} {w : World} (h : PoolFar base pb most ns B w) {x : Nat} (hx : x ∈ B) (i : Nat) (v : Value) : PoolFar base pb most ns B (w.setCell ⟨x, i, none⟩ v) := by
  obtain ⟨fp, h, hB⟩ := h
  exact ⟨fp, h.keep fun b hb => Below.heap_setCell _ _ _ _ (fun e => (hB x hx).1 (by rw [← (show b = x from e)]; exact hb)), fun b hb => ⟨(hB b hb).1, by rw [World.size_setCell]; exact (hB b hb).2⟩⟩
theorem PoolFar.lt {base pb : Nat} {most : Int} {ns : List Nd} {B : List Nat} {w : World} (h : PoolFar base pb most ns B w) : ∀ b ∈ B, b < w.heap.size := fun b hb => by obtain ⟨fp, _, hB⟩ := h; exact (hB b hb).2
theorem blk_cells {w : World} {x : Nat} {t : TypeId} {cs : Array Value} (h : Blk w x t cs) : (∀ i v, cs[i]? = some v → w.cell? ⟨x, i, none⟩ = some v) ∧ (∀ i, w.frozen? ⟨x, i, none⟩ = false) ∧ x < w.heap.size :=
  ⟨fun i v hv => by rw [← hv]; exact cell_of_row w x i _ _ _ h, fun i => by simp [World.frozen?, show w.heap[x]? = _ from h], lt_of_block h⟩

set_option maxRecDepth 100000 in
set_option maxHeartbeats 4000000 in
theorem lay_two {base pb : Nat} {most : Int} {n : Nat} (hn : 2 ≤ n) (i1 : LayOk base pb most (lhalf n)) (i2 : LayOk base pb most (n / 2)) : LayOk base pb most n := by
  intro B f t ns w ht h hb h0 h1 hm
  have hlt : 1 < t - f := by omega
  obtain ⟨la, lb, lc, ld⟩ := lhalf_lt hn
  have hs := lhalf_add n
  have hmid : t - (t - f) / 2 = f + lhalf n := by rw [ht]; unfold lhalf; omega
  have I1 := Lib.hid i1
  have I2 := Lib.hid i2
  have HT := Lib.hid (show t = f + n from ht)
  have H := Lib.hid h
  have HM := Lib.hid hm
  have hft : f < t := by omega
  have HN := Lib.hid (show 2 ≤ n ∧ 1 ≤ lhalf n ∧ 1 ≤ n / 2 ∧ lhalf n + n / 2 = n from ⟨hn, lc, ld, hs⟩)
  have HMID := Lib.hid hmid
  clear i1 i2 ht h hm hn la lb lc ld hs hmid
  go_enter Try.func42, Try.ntmps42
  go_wp2_with fail
  have hmid0 : f < t - (t - f) / 2 := by omega
  have hmid1 : t - (t - f) / 2 < t := by omega
  generalize t - (t - f) / 2 = mid at HMID hmid0 hmid1 ⊢
  have HX := Lib.hid ((Below.refl w.heap.size w).alloc (Nat.le_refl _) (.cells #[.int .u8 2, .int .i64 (-1), .int .i64 (-1), .int .i64 f, .int .i64 t, .int .i64 0, .int .i64 0] 49))
  refine (I1.out (w.heap.size :: B) f mid ns _ HMID.out (H.out.made HX.out (Nat.le_refl _) (by simp)) (Nat.le_trans hb (by simp)) h0 (by omega) (by have := HM.out; have := HN.out; omega)).mono ?_
  rintro e w1 ⟨rfl, g1, g2, g3⟩
  have b1 : Blk w1 w.heap.size 49 #[.int .u8 2, .int .i64 (-1), .int .i64 (-1), .int .i64 f, .int .i64 t, .int .i64 0, .int .i64 0] := (g3 _ (List.mem_cons_self ..)).trans (World.alloc_heap_new w _)
  have B1 := Lib.hid b1
  obtain ⟨c1, z1, x1⟩ := blk_cells b1
  have c10 := c1 1 _ rfl
  have z10 := z1 1
  have G1 := Lib.hid g1
  have G2 := Lib.hid g2
  have G3 := Lib.hid g3
  clear g1 g2 g3 b1 c1 z1
  go_wp2_with fail
  have b2 := B1.out.set_ 1 (.int .i64 (ns.length + (2 * lhalf n - 2)))
  have hb1 : base ≤ w1.heap.size := by have := G2.out.size; simp at this; omega
  refine (I2.out (w.heap.size :: B) mid t (ns ++ treeL (lhalf n) f ns.length) _ (by have := HMID.out; have := HT.out; have := HN.out; omega) (G1.out.setCell (List.mem_cons_self ..) 1 _) (by rw [World.size_setCell]; exact hb1) (by omega) h1 (by rw [List.length_append, treeL_len HN.out.2.1]; have := HM.out; have := HN.out; omega)).mono ?_
  rintro e w2 ⟨rfl, g1, g2, g3⟩
  have b3 : Blk w2 w.heap.size 49 _ := (g3 _ (List.mem_cons_self ..)).trans b2
  have hl1 : (((ns ++ treeL (lhalf n) f ns.length).length : Nat) : Int) = ns.length + (2 * lhalf n - 1) := by rw [List.length_append, treeL_len HN.out.2.1]; have := HN.out; omega
  have hl2 : (((ns ++ treeL (lhalf n) f ns.length).length : Nat) : Int) + (2 * (n / 2 : Nat) - 2) = ns.length + (2 * n - 3) := by rw [hl1]; have := HN.out; omega
  rw [hl2]
  have B3 := Lib.hid b3
  obtain ⟨c1, z1, x1⟩ := blk_cells b3
  have c20 := c1 0 _ rfl
  have c21 := c1 1 _ rfl
  have c22 := c1 2 _ rfl
  have c23 := c1 3 _ rfl
  have c24 := c1 4 _ rfl
  have c25 := c1 5 _ rfl
  have c26 := c1 6 _ rfl
  have z20 := z1 2
  have HL1 := Lib.hid hl1
  rw [hl1] at g1
  have K1 := Lib.hid g1
  have K2 := Lib.hid g2
  have K3 := Lib.hid g3
  clear g1 g2 g3 b2 b3 c1 z1 hl1 hl2 c10 z10
  have hb2 : base ≤ w2.heap.size := by have := K2.out.size; rw [World.size_setCell] at this; omega
  go_wp2_with fail
  have hN := HN.out
  have hR : rightL [] (ns ++ treeL n f ns.length) = true := right_tree H.out.right (by omega)
  rw [treeL_two hN.1, ← List.append_assoc (treeL (lhalf n) f ns.length)] at hR
  have hpre : PoolFar base pb most (ns ++ (treeL (lhalf n) f ns.length ++ treeL (n / 2) (f + lhalf n) (ns.length + (2 * lhalf n - 1)))) (w.heap.size :: B) w2 := by
    have h := K1.out
    rw [HMID.out, List.append_assoc] at h
    exact h
  have hlen : ((ns ++ (treeL (lhalf n) f ns.length ++ treeL (n / 2) (f + lhalf n) (ns.length + (2 * lhalf n - 1)))).length : Int) = ns.length + (2 * n - 2) := by
    rw [List.length_append, List.length_append, treeL_len hN.2.1, treeL_len hN.2.2.1]; omega
  obtain ⟨p1, p2⟩ := put_ok (most := most) (may_last hR) (by rw [hlen]; have := HM.out; omega)
  have hval : (Value.agg #[.int .u8 2, .int .i64 (ns.length + (2 * lhalf n - 2)), .int .i64 (ns.length + (2 * n - 3)), .int .i64 f, .int .i64 t, .int .i64 0, .int .i64 0]) = (innerNd n f ns.length).val := by rw [HT.out]; rfl
  rw [hval]
  have HP1 := Lib.hid (p1.trans hlen)
  have HP2 := Lib.hid p2
  have HPRE := Lib.hid hpre
  clear hR hpre hlen p1 p2 hval hN
  refine (put_far (innerNd n f ns.length) _ (HPRE.out.setCell (List.mem_cons_self ..) 2 _) (by rw [World.size_setCell]; exact hb2)).mono ?_
  rintro e w3 ⟨rfl, g1, g2, g3⟩
  rw [HP1.out]
  have N1 := Lib.hid g1
  have N2 := Lib.hid g2
  have N3 := Lib.hid g3
  clear g1 g2 g3
  go_wp2
  go_ret
  have ht2 : treeL n f ns.length = treeL (lhalf n) f ns.length ++ treeL (n / 2) (f + lhalf n) (ns.length + (2 * lhalf n - 1)) ++ [innerNd n f ns.length] := by rw [treeL_two HN.out.1, List.append_assoc]
  refine ⟨rfl, ?_, ?_, ?_⟩
  · have h := N1.out
    rw [HP2.out] at h
    rw [ht2, ← List.append_assoc]
    exact h.sub fun b hb => List.mem_cons_of_mem _ hb
  · have e1 : Below base w w1 := (HX.out.mono hb).trans G2.out
    have e2 : Below base w w2 := (e1.setCell (p := ⟨w.heap.size, 1, none⟩) hb _).trans K2.out
    exact (e2.setCell (p := ⟨w.heap.size, 2, none⟩) hb _).trans N2.out
  · intro b hm
    have hlt := H.out.lt b hm
    have hne : b ≠ w.heap.size := by omega
    have m := List.mem_cons_of_mem w.heap.size hm
    rw [N3.out b m, Below.heap_setCell _ _ _ _ hne, K3.out b m, Below.heap_setCell _ _ _ _ hne, G3.out b m]
    exact Below.heap_alloc _ _ _ hlt

theorem lay_any (base pb : Nat) (most : Int) {n : Nat} (h : 1 ≤ n) : LayOk base pb most n := by
  refine half_ind (M := fun n => LayOk base pb most n) ?_ (fun n h i1 i2 => lay_two h i1 i2) n h
  rintro B f t ns w rfl hp hb h0 h1 hm
  exact lay_one f ns w hp hb h0 (by simpa using h1) (by simp at hm; omega)
end Go.Proofs.Ytmfkpjafeaidkaa
