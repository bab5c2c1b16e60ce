/- The contract of gridironlow.Apart: lists that lie apart are found apart; they are written over. -/
import Derived.Test.YtmfkpjafeaidkaaCuts
import Derived.Deep.RegionHeld3
namespace Go.Proofs.Ytmfkpjafeaidkaa
open Go.RowKit
set_option linter.unusedVariables false

/-- A list of places as Apart sees it: its block, its length, its capacity. -/
structure Ent where
  g : Option Nat
  n : Nat
  c : Nat
def Ent.zero : Ent := ⟨none, 0, 0⟩
def Ent.at (e : Ent) : Option Addr := e.g.map fun b => ⟨b, 0, none⟩
def Ent.v (e : Ent) : Value := .slice e.at e.n e.c
def Ent.full (e : Ent) : Value := .slice e.at e.c e.c
/-- It lies so in a world. -/
structure EntOk (w : World) (e : Ent) : Prop where
  le : e.n ≤ e.c
  max : e.c ≤ maxLen
  nil : e.g = none → e.c = 0
  blk : ∀ b, e.g = some b → ∃ cur, w.heap[b]? = some (.cells cur 3 (0, 0)) ∧ cur.size = e.c
theorem ent_of_owned {w : World} {base : Nat} {a : Option Addr} {n c : Nat} {xs : List Value} (h : w.ownsRow base 3 1 (.slice a n c) n xs) : ∃ e : Ent, e.v = .slice a n c ∧ EntOk w e ∧ (∀ b, e.g = some b → base ≤ b) ∧ e.g = (Value.slice a n c).ownBlock := by
  rcases h.2 with ⟨h1, h2⟩ | ⟨g, cap, cur, hv, hb, hh, hnc, hcm, hcs, _⟩
  · simp only [Value.slice.injEq] at h1
    obtain ⟨rfl, rfl, rfl⟩ := h1
    exact ⟨⟨none, 0, 0⟩, rfl, ⟨Nat.le_refl _, Nat.zero_le _, fun _ => rfl, fun b hb => (by cases hb)⟩, fun b hb => (by cases hb), rfl⟩
  · simp only [Value.slice.injEq] at hv
    obtain ⟨rfl, _, rfl⟩ := hv
    exact ⟨⟨some g, n, c⟩, rfl, ⟨hnc, hcm, fun h => (by cases h), fun b h => (by cases h; exact ⟨cur, hh, by simpa using hcs⟩)⟩, fun b h => (by cases h; exact hb), rfl⟩

def blocks (es : List Ent) : List Nat := es.filterMap (·.g)
def Distinct (es : List Ent) : Prop := ∀ i j b, i < es.length → j < es.length → (es.getD i Ent.zero).g = some b → (es.getD j Ent.zero).g = some b → i = j
theorem mem_blocks {es : List Ent} {i : Nat} (h : i < es.length) {b : Nat} (hb : (es.getD i Ent.zero).g = some b) : b ∈ blocks es := by
  unfold blocks
  rw [List.mem_filterMap]
  exact ⟨es.getD i Ent.zero, by rw [List.getD_eq_getElem?_getD, List.getElem?_eq_getElem h]; simp, hb⟩

/-- The first k are full of their numbers, and j places of the next one. -/
structure FillSt (es : List Ent) (k j : Nat) (w wr : World) : Prop where
  chg : ChgOnly (blocks es) w wr
  cur : ∀ i, i < es.length → ∀ b, (es.getD i Ent.zero).g = some b → ∃ cur, wr.heap[b]? = some (.cells cur 3 (0, 0)) ∧ cur.size = (es.getD i Ent.zero).c ∧
    (i < k → ∀ p, p < (es.getD i Ent.zero).c → cur[p]? = some (.int .i64 (-7 - i))) ∧ (i = k → ∀ p, p < j → cur[p]? = some (.int .i64 (-7 - i)))
theorem FillSt.start {es : List Ent} {w : World} (h : ∀ i, i < es.length → EntOk w (es.getD i Ent.zero)) : FillSt es 0 0 w w :=
  ⟨ChgOnly.refl _ _, fun i hi b hb => by
    obtain ⟨cur, h1, h2⟩ := (h i hi).blk b hb
    exact ⟨cur, h1, h2, fun h => by omega, fun _ p h => by omega⟩⟩
theorem FillSt.grown {es : List Ent} {k j : Nat} {w wr w1 : World} (h : FillSt es k j w wr) {row : Option Nat} (hg : wr.grownBy w1 row) (hr : ∀ r, row = some r → w.heap.size ≤ r) (hb : ∀ b ∈ blocks es, b < w.heap.size) : FillSt es k j w w1 :=
  ⟨h.chg.step (.grown hg) (fun x hx => .inr (by
      cases e : row with
      | none => rw [e] at hx; simp at hx
      | some g => rw [e] at hx; simp at hx; subst hx; exact hr _ e)), fun i hi b hbb => by
    obtain ⟨cur, h1, h2⟩ := h.cur i hi b hbb
    have hlt := hb b (mem_blocks hi hbb)
    exact ⟨cur, (hg.block b (Nat.lt_of_lt_of_le hlt h.chg.size) (fun e => by have := hr b e.symm; omega)).trans h1, h2⟩⟩
theorem FillSt.next {es : List Ent} {k : Nat} {w wr : World} (h : FillSt es k (es.getD k Ent.zero).c w wr) : FillSt es (k + 1) 0 w wr :=
  ⟨h.chg, fun i hi b hb => by
    obtain ⟨cur, h1, h2, h3, h4⟩ := h.cur i hi b hb
    refine ⟨cur, h1, h2, fun hik p hp => ?_, fun _ p hp => by omega⟩
    by_cases e : i = k
    · exact h4 e p (by rw [← e]; exact hp)
    · exact h3 (by omega) p hp⟩
theorem FillSt.store {es : List Ent} {k j g : Nat} {w wr : World} (h : FillSt es k j w wr) (hk : k < es.length) (hg : (es.getD k Ent.zero).g = some g) (hj : j < (es.getD k Ent.zero).c) (hd : Distinct es) :
    FillSt es k (j + 1) w (wr.setCell ⟨g, j, none⟩ (.int .i64 (-7 - k))) := by
  refine ⟨h.chg.step (fp := [g]) ⟨rfl, rfl, rfl, by simp, fun i _ hn => Below.heap_setCell _ _ _ _ (fun e => hn (by rw [e]; simp))⟩ (fun x hx => .inl (by simp at hx; subst hx; exact mem_blocks hk hg)), fun i hi b hb => ?_⟩
  obtain ⟨cur, h1, h2, h3, h4⟩ := h.cur i hi b hb
  by_cases e : i = k
  · subst e
    rw [hg] at hb
    cases hb
    refine ⟨cur.setIfInBounds j (.int .i64 (-7 - i)), ?_, by simpa using h2, fun h => by omega, fun _ p hp => ?_⟩
    · simp [World.setCell, Array.getElem?_modify, h1]
    · by_cases ep : p = j
      · subst ep; rw [Array.getElem?_setIfInBounds_self_of_lt (by omega)]
      · rw [Array.getElem?_setIfInBounds_ne (Ne.symm ep)]; exact h4 rfl p (by omega)
  · refine ⟨cur, ?_, h2, h3, fun h => absurd h e⟩
    rw [Below.heap_setCell _ _ _ _ (fun eb => e (hd i k b hi hk hb (by rw [hg, eb])))]
    exact h1
theorem FillSt.cell {es : List Ent} {k j g : Nat} {w wr : World} (h : FillSt es k j w wr) {i : Nat} (hi : i < es.length) (hg : (es.getD i Ent.zero).g = some g) (p : Nat) (hp : p < (es.getD i Ent.zero).c) :
    (∃ u, wr.cell? ⟨g, p, none⟩ = some u) ∧ wr.frozen? ⟨g, p, none⟩ = false := by
  obtain ⟨cur, h1, h2, _⟩ := h.cur i hi g hg
  refine ⟨⟨cur[p]'(by omega), ?_⟩, ?_⟩
  · rw [cell_of_row wr g p cur 3 (0, 0) h1]; exact Array.getElem?_eq_getElem _
  · simp [World.frozen?, h1]
theorem FillSt.done {es : List Ent} {w wr : World} (h : FillSt es es.length 0 w wr) {i g p : Nat} (hi : i < es.length) (hg : (es.getD i Ent.zero).g = some g) (hp : p < (es.getD i Ent.zero).c) : wr.cell? ⟨g, p, none⟩ = some (.int .i64 (-7 - i)) := by
  obtain ⟨cur, h1, h2, h3, _⟩ := h.cur i hi g hg
  rw [cell_of_row wr g p cur 3 (0, 0) h1]; exact h3 hi p hp
theorem full_cut (e : Ent) (h : e.n ≤ e.c) : ∀ w, (Instr.sliceAt 29 (.slice e.at e.n e.c) none (some (.int .i64 (e.c : Int))) none).run Try.prog w = .ok (.slice e.at e.c e.c) w := by
  intro w
  have he : Try.prog.elem 29 = 3 := by kernel_rfl
  have ht' : Try.prog.underlying 29 = some (.slice (Try.prog.elem 29)) := by rw [he]; exact Try.underlying29
  rw [run_sliceAt_slice w _ _ _ _ _ ht', run_slice_any w _ _ _ _ ht']
  simp [Instr.sliceBounds, run_sliceBound, he, Result.andThen, sliced]
  unfold Ent.at
  intro _
  cases e.g with
  | none => rfl
  | some g => rfl
theorem infoInts : (Try.prog.info? 29).map (fun i => (i.zero, i.size, i.bytes)) = some (some (.slice none 0 0), 1, 24) := by kernel_rfl

theorem reads_new (w : World) (v : Value) (e : TypeId) : Reads (w.alloc (.cells #[v] e)).drew (w.heap.size + 1) 1 (some ⟨w.heap.size, 0, none⟩) 1 [v] :=
  ⟨rfl, fun _ => ⟨_, rfl, by simp, fun j u hu => by
    have hj : j = 0 := by have := (List.getElem?_eq_some_iff.1 hu).1; simp at this; omega
    subst hj
    simp at hu
    subst hu
    exact cells_at w #[v] e 0⟩⟩
set_option maxRecDepth 100000 in
set_option maxHeartbeats 4000000 in
theorem apart_any (es : List Ent) (lb lo cap : Nat) (w : World) (hlb : ∀ i, i < es.length → w.cell? ⟨lb, lo + i, none⟩ = some (es.getD i Ent.zero).v) (hok : ∀ i, i < es.length → EntOk w (es.getD i Ent.zero)) (hd : Distinct es) (hnl : lb ∉ blocks es) (hll : lb < w.heap.size) (hlen : es.length ≤ 100) :
    Calls Try.prog 24 #[.slice (some ⟨lb, lo, none⟩) es.length cap] w fun e w' => e = .returned (.bool true) ∧ ChgOnly (blocks es) w w' := by
  have hbl : ∀ b ∈ blocks es, b < w.heap.size := by
    intro b hb
    unfold blocks at hb
    rw [List.mem_filterMap] at hb
    obtain ⟨e, he, hg⟩ := hb
    obtain ⟨i, hi, rfl⟩ := List.mem_iff_getElem.1 he
    obtain ⟨cur, h1, _⟩ := (hok i hi).blk b (by rw [List.getD_eq_getElem?_getD, List.getElem?_eq_getElem hi]; exact hg)
    exact (Array.getElem?_eq_some_iff.1 h1).1
  have HLB := Lib.hid hlb
  have HOK := Lib.hid hok
  have HD := Lib.hid hd
  have HBL := Lib.hid hbl
  have HNL := Lib.hid hnl
  have HS := Lib.hid (FillSt.start hok)
  clear hlb hok hd hbl hnl
  obtain ⟨i0, hi, hzz, hz1, hz2⟩ := info_parts infoInts
  go_enter Try.func24, Try.ntmps24
  go_wp2_with fail
  go_loopw [3, 4] (fun v i wr => ∃ (k : Nat) (a : Option Addr) (c : Nat), k ≤ es.length ∧ i = .int .i64 k ∧ v = .slice a k c ∧ Hid (wr.ownsRow w.heap.size 29 1 (.slice a k c) k ((es.take k).map Ent.full)) ∧ Hid (FillSt es k 0 w wr)) (fun _ i _ => es.length - (intOf i).toNat)
  case atStart => exact ⟨0, none, 0, Nat.zero_le _, rfl, rfl, Lib.hid (World.ownsRow_nil _ _ _ _), HS⟩
  case round =>
    obtain ⟨k, a, c, hk, rfl, rfl, HO, HF⟩ := hrel
    by_cases hlt : k < es.length
    · have hc := HLB.out k hlt
      have hok := HOK.out k hlt
      have hcl : wr.cell? ⟨lb, lo + k, none⟩ = some (es.getD k Ent.zero).v := (World.cell?_of_block (w := w) (HF.out.chg.block lb hll HNL.out)).trans hc
      have hcut := full_cut _ hok.le
      have HST := Lib.hid (fun (g j : Nat) (wx : World) (h : FillSt es k j w wx) => FillSt.store (g := g) h hlt)
      have HCE := Lib.hid (fun (g j p : Nat) (wx : World) (h : FillSt es k j w wx) => FillSt.cell (g := g) h hlt (p := p))
      have hnx := fun (wx : World) (h : FillSt es k (es.getD k Ent.zero).c w wx) => h.next
      have htk : es.take (k + 1) = es.take k ++ [es.getD k Ent.zero] := by
        rw [List.take_succ_eq_append_getElem hlt]; simp [List.getD, List.getElem?_eq_getElem hlt]
      obtain ⟨en, hen⟩ : ∃ en, es.getD k Ent.zero = en := ⟨_, rfl⟩
      rw [hen] at hcl hok hcut htk HST HCE hnx
      have hnil := hok.nil
      have hmax := hok.max
      unfold maxLen at hmax
      have HTK := Lib.hid htk
      have HNX := Lib.hid hnx
      have HNIL := Lib.hid hnil
      clear hen hc hok htk hnx hnil
      unfold Ent.v at hcl
      obtain ⟨A, hA⟩ : ∃ A, en.at = A := ⟨_, rfl⟩
      have HA := Lib.hid hA
      rw [hA] at hcl hcut
      clear hA
      obtain ⟨gc, hgc⟩ : ∃ gc, en.c = gc := ⟨_, rfl⟩
      rw [hgc] at hcl hcut HST HCE hmax HNX HNIL
      have HGC := Lib.hid hgc
      clear hgc
      have hls : lb < wr.heap.size := Nat.lt_of_lt_of_le hll HF.out.chg.size
      go_wp2_with fail
      have HNE := Lib.hid (show some lb ≠ (Value.slice a k c).ownBlock from fun e => by have := (HO.out.lt lb e.symm).1; omega)
      go_region_held3 (fun w' => w'.cell? ⟨lb, lo + k, none⟩ = some (.slice A en.n gc))
        (first
          | go_keep
          | (refine (World.cell?_of_block (hgrow.block lb (by simp; omega) HNE.out)).trans ?_; assumption))
        ((refine step_append_any _ (by rfl) _ _ _ (by rfl) w.heap.size 29 i0 (.slice none 0 0) 1 24 Try.underlying82 hi hzz hz1 hz2 rfl (by omega) (.slice a k c) k ((es.take k).map Ent.full) (by rfl) ((HO.out.alloc _).drew)
            (wr.heap.size + 1) (some ⟨wr.heap.size, 0, none⟩) 1 1 [.slice A gc gc] (by rfl) (reads_new _ _ _) (by simp [Value.oneCell']) (by unfold maxLen; omega) (by omega) (Nat.le_trans HF.out.chg.size (by simp)) ?_; intro v1 w1 hown1 hgrow hat))
      have hg0 : wr.grownBy w1 (Value.slice a k c).ownBlock := grownBy_trans (only_drew (only_alloc (World.grownBy.refl wr _) _)) hgrow
      have HF1 := Lib.hid (HF.out.grown hg0 (fun r hr => (HO.out.lt r hr).1) HBL.out)
      obtain ⟨a1, c1, rfl⟩ := own_shape hown1
      have HO1 := Lib.hid (show w1.ownsRow w.heap.size 29 1 (.slice a1 (k + 1) c1) (k + 1) ((es.take (k + 1)).map Ent.full) by
        rw [HTK.out, List.map_append]
        have : en.full = .slice A gc gc := by unfold Ent.full; rw [HA.out, HGC.out]
        rw [List.map_singleton, this]; exact hown1)
      have HFU := Lib.hid (show ((es.take (k + 1)).map Ent.full)[k]? = some (.slice A gc gc) by
        have : en.full = .slice A gc gc := by unfold Ent.full; rw [HA.out, HGC.out]
        rw [HTK.out, List.map_append, List.map_singleton, this, List.getElem?_append_right (by rw [List.length_map, List.length_take]; omega), show k - ((es.take k).map Ent.full).length = 0 by rw [List.length_map, List.length_take]; omega]; rfl)
      obtain ⟨g1, rfl⟩ : ∃ g, a1 = some ⟨g, 0, none⟩ := by
        rcases hown1.2 with ⟨_, h⟩ | ⟨g, _, _, h, _⟩
        · omega
        · simp only [Value.slice.injEq] at h; exact ⟨g, h.1⟩
      clear hown1 hgrow hat hg0 hcut hcl
      go_wp2_with fail
      obtain ⟨wo, rfl⟩ : ∃ wo : World, wo = wr := ⟨_, rfl⟩
      go_loopw [5] (fun i wr => ∃ j : Nat, j ≤ gc ∧ i = .int .i64 j ∧ Hid (wr.ownsRow w.heap.size 29 1 (.slice (some ⟨g1, 0, none⟩) (k + 1) c1) (k + 1) ((es.take (k + 1)).map Ent.full)) ∧ Hid (FillSt es k j w wr)) (fun i _ => gc - (intOf i).toNat)
      case atStart => exact ⟨0, Nat.zero_le _, rfl, HO1, HF1⟩
      case round =>
        obtain ⟨j, hj, rfl, HO, HF⟩ := hrel
        have hcw : wr.cell? ⟨g1, k, none⟩ = some (.slice A gc gc) := (HO.out.cellAt k (by omega)).trans HFU.out
        by_cases hjl : j < gc
        · obtain ⟨g, hg⟩ : ∃ g, en.g = some g := by
            cases e : en.g with
            | none => have := HNIL.out e; omega
            | some g => exact ⟨g, rfl⟩
          have hA : A = some ⟨g, 0, none⟩ := by rw [← HA.out]; unfold Ent.at; rw [hg]; rfl
          subst hA
          obtain ⟨⟨u, hcu⟩, hfu⟩ := HCE.out g j j wr HF.out hg hjl
          have HF2 := Lib.hid (HST.out g j wr HF.out hg hjl HD.out)
          have hgl : g < w.heap.size := by
            obtain ⟨cur, h1, _⟩ := HF.out.cur k hlt g (by rw [show es.getD k Ent.zero = en by
              have h := HTK.out
              rw [List.take_succ_eq_append_getElem hlt] at h
              simp only [List.append_cancel_left_eq, List.cons.injEq, and_true] at h
              rw [List.getD_eq_getElem?_getD, List.getElem?_eq_getElem hlt]; exact h]; exact hg)
            exact HBL.out g (mem_blocks hlt (by rw [show es.getD k Ent.zero = en by
              have h := HTK.out
              rw [List.take_succ_eq_append_getElem hlt] at h
              simp only [List.append_cancel_left_eq, List.cons.injEq, and_true] at h
              rw [List.getD_eq_getElem?_getD, List.getElem?_eq_getElem hlt]; exact h]; exact hg))
          have HO2 := Lib.hid (ownsRow_setCell_other HO.out (a := ⟨g, j, none⟩) (fun e => by have := (HO.out.lt g e).1; omega) (.int .i64 (-7 - (k : Int))))
          clear hg
          go_wp2_with fail
          go_roundw
          case rel => exact ⟨j + 1, by omega, by go_num, HO2, HF2⟩
          case measure => simp [intOf]; omega
        · have hge : gc ≤ j := by omega
          have HF2 := Lib.hid (HNX.out wr (by have : j = gc := by omega
                                              rw [← this]; exact HF.out))
          clear hj
          go_wp2_with fail
          go_roundw
          case rel => exact ⟨k + 1, some ⟨g1, 0, none⟩, c1, by omega, by go_num, rfl, HO, HF2⟩
          case measure => simp [intOf]; omega
    · have hke : k = es.length := by omega
      subst hke
      have HO' := Lib.hid (show wr.ownsRow w.heap.size 29 1 (.slice a es.length c) es.length (es.map Ent.full) by have := HO.out; rwa [List.take_length] at this)
      clear HO hk hlt
      go_wp2_with fail
      obtain ⟨wo, rfl⟩ : ∃ wo : World, wo = wr := ⟨_, rfl⟩
      go_loop [6] (fun i => ∃ q : Nat, q ≤ es.length ∧ i = .int .i64 q) (fun i => es.length - (intOf i).toNat)
      case atStart => exact ⟨0, Nat.zero_le _, rfl⟩
      case round =>
        obtain ⟨q, hq, rfl⟩ := hrel
        by_cases hql : q < es.length
        · obtain ⟨g1, rfl⟩ : ∃ g, a = some ⟨g, 0, none⟩ := by
            rcases HO'.out.2 with ⟨_, h⟩ | ⟨g, _, _, h, _⟩
            · omega
            · simp only [Value.slice.injEq] at h; exact ⟨g, h.1⟩
          have hcw := HO'.out.cellAt q (by omega)
          have hfu : (es.map Ent.full)[q]? = some (es.getD q Ent.zero).full := by
            rw [List.getElem?_map, List.getD_eq_getElem?_getD, List.getElem?_eq_getElem hql]; rfl
          rw [hfu] at hcw
          have hok := HOK.out q hql
          have HDN := Lib.hid (fun (g p : Nat) => HF.out.done hql (g := g) (p := p))
          obtain ⟨en, hen⟩ : ∃ en, es.getD q Ent.zero = en := ⟨_, rfl⟩
          rw [hen] at hcw hok HDN
          have hnil := hok.nil
          have hmax := hok.max
          unfold maxLen at hmax
          unfold Ent.full at hcw
          obtain ⟨A, hA⟩ : ∃ A, en.at = A := ⟨_, rfl⟩
          have HA := Lib.hid hA
          rw [hA] at hcw
          obtain ⟨gc, hgc⟩ : ∃ gc, en.c = gc := ⟨_, rfl⟩
          rw [hgc] at hcw HDN hmax hnil
          have HNIL := Lib.hid hnil
          clear hfu hok hen hnil hA hgc
          go_wp2_with fail
          go_loop [7] (fun i => ∃ p : Nat, p ≤ gc ∧ i = .int .i64 p) (fun i => gc - (intOf i).toNat)
          case atStart => exact ⟨0, Nat.zero_le _, rfl⟩
          case round =>
            obtain ⟨p, hp, rfl⟩ := hrel
            by_cases hpl : p < gc
            · obtain ⟨g, hg⟩ : ∃ g, en.g = some g := by
                cases e : en.g with
                | none => have := HNIL.out e; omega
                | some g => exact ⟨g, rfl⟩
              have hA : A = some ⟨g, 0, none⟩ := by rw [← HA.out]; unfold Ent.at; rw [hg]; rfl
              subst hA
              have hcp := HDN.out g p hg hpl
              clear hg
              go_wp2_with fail
              go_round
              case rel => exact ⟨p + 1, by omega, by go_num⟩
              case measure => simp [intOf]; omega
            · have hge : gc ≤ p := by omega
              clear hp
              go_wp2_with fail
              go_round
              case rel => exact ⟨q + 1, by omega, by go_num⟩
              case measure => simp [intOf]; omega
        · have hge : es.length ≤ q := by omega
          clear hq
          go_wp2_with fail
          go_ret
          exact ⟨rfl, HF.out.chg⟩
end Go.Proofs.Ytmfkpjafeaidkaa
