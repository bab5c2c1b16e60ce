/- An argument that is a slice of operations, opened: operations in memory. -/
import Derived.Test.YtokpgopdkimmmaaDoorOpReadWalk
import Derived.Test.YtokpgopdkimmmaaDoorOpen
import Derived.Deep.Slices
import Derived.Deep.Fields
import Derived.ChangeSame
import Derived.SizedLaws
import Derived.Lib.SmallJoins
namespace Go.Proofs.YtokpgopdkimmmaaDoor
open Go.ChangeShapes Go.WideShapes Go.Deep
set_option linter.unusedVariables false

section
variable {H : Type} {enc : TypeId × Value → H} {P : Program} {w : World} {base : Nat} {spare : Nat → Bool} {held : Bool}
theorem open_slice_fields {t e : TypeId} {fs : Array Field} {fuel : Nat} {cs : List Value} {x : DataW H × List MemPlace} (ht : P.underlying t = some (.slice e)) (he : P.underlying e = some (.struct fs))
    (hone : oneCellFields P fs = true) (hC : P.cellsOf e = fs.size) (h : DataW.trod enc P w base spare held fuel t cs = some x) :
    (cs = [.slice none 0 0] ∧ x = (.nil, [])) ∨
    ∃ (a : Addr) (len cap m : Nat) (D : Nat → DataW H) (Pl : Nat → List MemPlace), cs = [.slice (some a) len cap] ∧ base ≤ a.block ∧ len ≤ cap ∧ cap ≤ maxLen ∧ m = (if spare a.block then cap else len) ∧
      x = (.slice ((List.range len).map D) ((List.range (m - len)).map fun j => D (len + j)), MemPlace.row a (m * fs.size) ++ (List.range m).flatMap Pl) ∧
      ∀ i, i < m → ∃ (ys : List (DataW H × List MemPlace)) (n : Nat), D i = .agg (ys.map (·.1)) ∧ Pl i = ys.flatMap (·.2) ∧ ys.length = fs.size ∧
        ∀ (j : Nat) (f : Field), fs[j]? = some f → ∃ (v : Value) (y : DataW H × List MemPlace), w.cell? (a.add (i * fs.size + j)) = some v ∧ ys[j]? = some y ∧ DataW.trod enc P w base spare held n f.type [v] = some y := by
  rcases open_slice ht h with h0 | ⟨a, len, cap, m, n, D, Pl, hcs, hb, hl, hm, hmm, hx, hi⟩
  · exact .inl h0
  · refine .inr ⟨a, len, cap, m, D, Pl, hcs, hb, hl, hm, hmm, by rw [hC] at hx; exact hx, fun i him => ?_⟩
    obtain ⟨cs', hc, ht'⟩ := hi i him
    rw [hC] at hc
    obtain ⟨ys, n', hn', hy, hlen, hyl, hf⟩ := DataW.trod_struct he ht'
    obtain ⟨_, hcl, hat⟩ := World.cells?_some hc
    simp only [Prod.mk.injEq] at hy
    refine ⟨ys, n', hy.1, hy.2, hyl, fun j f hj => ?_⟩
    obtain ⟨ho, hk⟩ := hone_of hone j f hj
    have hjl : j < fs.size := (Array.getElem?_eq_some_iff.1 hj).1
    have hcell := hat j hjl
    have hv : cs'[j]? = some (cs'[j]'(by omega)) := List.getElem?_eq_getElem (by omega)
    have h1 := hf j f hj
    rw [ho, hk] at h1
    have hone' : (cs'.drop j).take 1 = [cs'[j]'(by omega)] := by
      rw [List.drop_eq_getElem_cons (by omega)]
      rfl
    rw [hone'] at h1
    have hys : ys[j]? = some (ys[j]'(by omega)) := List.getElem?_eq_getElem (by omega)
    refine ⟨_, _, ?_, hys, h1.trans hys⟩
    rw [← Go.Deep.add_add, hcell, hv]
end

theorem in64_wf {n : Int} (h : (Lit.int .i64 n).wf = true) : In64 n := by
  simp only [Lit.wf, Bool.and_eq_true, decide_eq_true_eq] at h
  exact ⟨h.1, Int.lt_of_le_of_lt h.2 (by decide)⟩
theorem opV_of {k a b c d i : Int} (hk : (Lit.int .u8 k).wf = true) (ha : (Lit.int .i64 a).wf = true) (hb : (Lit.int .i64 b).wf = true) (hc : (Lit.int .i64 c).wf = true) (hd : (Lit.int .i64 d).wf = true) (hi : (Lit.int .u32 i).wf = true) :
    ∃ o : OpV, o.ok ∧ o.cells = #[.int .u8 k, .int .i64 a, .int .i64 b, .int .i64 c, .int .i64 d, .int .u32 i] := by
  simp only [Lit.wf, Bool.and_eq_true, decide_eq_true_eq] at hk hi
  have hk2 : 0 ≤ k ∧ k < 256 := ⟨hk.1, Int.lt_of_le_of_lt hk.2 (by decide)⟩
  have hi2 : 0 ≤ i ∧ i < 4294967296 := ⟨hi.1, Int.lt_of_le_of_lt hi.2 (by decide)⟩
  refine ⟨⟨k.toNat, a, b, c, d, i.toNat⟩, ⟨?_, in64_wf ha, in64_wf hb, in64_wf hc, in64_wf hd, ?_⟩, ?_⟩
  · show k.toNat < 256; omega
  · show i.toNat < 4294967296; omega
  · show #[Value.int .u8 (k.toNat : Int), _, _, _, _, Value.int .u32 (i.toNat : Int)] = _
    rw [Int.toNat_of_nonneg hk2.1, Int.toNat_of_nonneg hi2.1]
set_option maxRecDepth 100000 in
theorem open_ops {H : Type} {enc : TypeId × Value → H} {W : World} {b0 : Nat} {r : Reach} {v : Value} {d : DataW H} {p : List MemPlace}
    (hv : Value.okWide Tryd.prog W r b0 22 v) (h : DataW.Trod enc Tryd.prog W 0 (fun _ => true) true 22 v d p) :
    ∃ (ls : List OpV) (A : Option Addr) (cap : Nat), v = .slice A ls.length cap ∧ OpRow W A ls ∧ ls.length ≤ cap ∧ cap ≤ maxLen ∧ (∀ o ∈ ls, o.ok) ∧ (cap = 0 ∨ ∃ el sp, d = .slice el sp ∧ el.length + sp.length = cap) := by
  obtain ⟨a0, len0, cap0, rfl⟩ := okWide_slice Tryd.underlying22 hv
  obtain ⟨fuel, hf⟩ := h
  rcases open_slice_fields Tryd.underlying22 Tryd.underlying29 (by kernel_rfl) (by kernel_rfl) hf with ⟨h0, hx⟩ | ⟨a, len, cap, m, D, Pl, hcs, hb, hl, hm, hmm, hx, hi⟩
  · simp only [Value.cells, List.cons.injEq, and_true, Value.slice.injEq] at h0
    obtain ⟨rfl, rfl, rfl⟩ := h0
    exact ⟨[], none, 0, rfl, .inl rfl, Nat.le_refl _, Nat.zero_le _, (by intro n hn; cases hn), .inl rfl⟩
  · simp only [Value.cells, List.cons.injEq, and_true, Value.slice.injEq] at hcs
    obtain ⟨rfl, rfl, rfl⟩ := hcs
    simp only [if_true] at hmm
    subst hmm
    simp only [Prod.mk.injEq] at hx
    have key : ∀ i, i < len0 → ∃ o : OpV, o.ok ∧ ∀ j, j < 6 → W.cell? (a.add (i * 6 + j)) = o.cells[j]? := by
      intro i hlt
      obtain ⟨ys, n', _, _, _, hf⟩ := hi i (by omega)
      obtain ⟨v0, y0, c0, _, t0⟩ := hf 0 _ rfl
      obtain ⟨v1, y1, c1, _, t1⟩ := hf 1 _ rfl
      obtain ⟨v2, y2, c2, _, t2⟩ := hf 2 _ rfl
      obtain ⟨v3, y3, c3, _, t3⟩ := hf 3 _ rfl
      obtain ⟨v4, y4, c4, _, t4⟩ := hf 4 _ rfl
      obtain ⟨v5, y5, c5, _, t5⟩ := hf 5 _ rfl
      obtain ⟨n0, e0, _, g0⟩ := DataW.trod_int Tryd.underlying5 t0
      obtain ⟨n1, e1, _, g1⟩ := DataW.trod_int Tryd.underlying2 t1
      obtain ⟨n2, e2, _, g2⟩ := DataW.trod_int Tryd.underlying2 t2
      obtain ⟨n3, e3, _, g3⟩ := DataW.trod_int Tryd.underlying2 t3
      obtain ⟨n4, e4, _, g4⟩ := DataW.trod_int Tryd.underlying2 t4
      obtain ⟨n5, e5, _, g5⟩ := DataW.trod_int Tryd.underlying27 t5
      simp only [List.cons.injEq, and_true] at e0 e1 e2 e3 e4 e5
      subst e0 e1 e2 e3 e4 e5
      obtain ⟨o, ho, hcells⟩ := opV_of g0 g1 g2 g3 g4 g5
      refine ⟨o, ho, fun j hj => ?_⟩
      rw [hcells]
      match j, hj with
      | 0, _ => exact c0
      | 1, _ => exact c1
      | 2, _ => exact c2
      | 3, _ => exact c3
      | 4, _ => exact c4
      | 5, _ => exact c5
    have hch : ∃ f : Nat → OpV, ∀ i, i < len0 → (f i).ok ∧ ∀ j, j < 6 → W.cell? (a.add (i * 6 + j)) = (f i).cells[j]? :=
      ⟨fun i => if h : i < len0 then Classical.choose (key i h) else codeOnly 0, fun i hlt => by simp only [hlt, dif_pos]; exact Classical.choose_spec (key i hlt)⟩
    obtain ⟨f, hf2⟩ := hch
    have hlen : ((List.range len0).map f).length = len0 := by simp
    refine ⟨(List.range len0).map f, some a, m, by rw [hlen], ?_, by rw [hlen]; exact hl, hm, ?_, .inr ⟨_, _, hx.1, by simp; omega⟩⟩
    · by_cases hz : len0 = 0
      · left; subst hz; rfl
      · right
        have h0 := (hf2 0 (by omega)).2 0 (by omega)
        obtain ⟨b, off, sp⟩ := a
        have hsp : sp = none := by
          rw [show (0 * 6 + 0) = 0 from rfl] at h0
          cases sp with
          | none => rfl
          | some x =>
            unfold World.cell? Addr.add at h0
            simp only [if_true, Option.isSome_some] at h0
            split at h0 <;> simp at h0
        subst hsp
        have hbl : b < W.heap.size := by
          have h1 : W.cell? ⟨b, off, none⟩ = some (.int .u8 ((f 0).k : Int)) := by
            have : (⟨b, off, none⟩ : Addr).add (0 * 6 + 0) = ⟨b, off, none⟩ := by simp [Addr.add]
            rw [← this]; exact h0
          exact World.block_lt_of_cell? _ _ h1
        refine ⟨b, off, rfl, hbl, fun i x hx' j hj => ?_⟩
        have hi' : i < len0 := by have := (List.getElem?_eq_some_iff.1 hx').1; rwa [hlen] at this
        rw [List.getElem?_map, List.getElem?_range hi'] at hx'
        obtain rfl : f i = x := by simpa using hx'
        have h1 := (hf2 i hi').2 j hj
        rw [← h1]
        unfold Addr.add
        split
        · rename_i hz'; rw [show i * 6 = 0 by omega, show j = 0 by omega]; rfl
        · rw [Nat.add_assoc]
    · intro n hn
      obtain ⟨i, hi', rfl⟩ := List.mem_map.1 hn
      exact (hf2 i (List.mem_range.1 hi')).1
theorem bytesOp : Tryd.prog.bytesOf 29 = 48 := by kernel_rfl
/-- The form's own reach bounds how many operations come in. -/
theorem ops_reach {H : Type} {ts : List TypeId} {ds : List (DataW H)} {j n cap : Nat} {d : DataW H} (hsz : (DataW.weightsEach Tryd.prog ts ds).all (· ≤ reachBytes) = true) (ht : ts[j]? = some 22) (hd : ds[j]? = some d) (hc : n ≤ cap) (h : cap = 0 ∨ ∃ el sp, d = .slice el sp ∧ el.length + sp.length = cap) : n ≤ 1000000000000000 := by
  rcases h with h | ⟨el, sp, rfl, h⟩
  · omega
  · have g := sized_slice hsz ht hd Tryd.underlying22
    rw [h, bytesOp] at g
    unfold reachBytes at g
    omega
set_option maxRecDepth 100000 in
/-- An operation by value. -/
theorem open_op {H : Type} {enc : TypeId × Value → H} {W : World} {b0 : Nat} {r : Reach} {v : Value} {d : DataW H} {p : List MemPlace}
    (hv : Value.okWide Tryd.prog W r b0 29 v) (h : DataW.Trod enc Tryd.prog W 0 (fun _ => true) true 29 v d p) : ∃ o : OpV, v = o.val ∧ o.ok := by
  obtain ⟨v0, v1, v2, v3, v4, v5, y0, y1, y2, y3, y4, y5, n, rfl, _, _, t0, t1, t2, t3, t4, t5⟩ := open_agg6 Tryd.underlying29 (by kernel_rfl) (by kernel_rfl) hv h
  obtain ⟨n0, e0, _, g0⟩ := DataW.trod_int Tryd.underlying5 t0
  obtain ⟨n1, e1, _, g1⟩ := DataW.trod_int Tryd.underlying2 t1
  obtain ⟨n2, e2, _, g2⟩ := DataW.trod_int Tryd.underlying2 t2
  obtain ⟨n3, e3, _, g3⟩ := DataW.trod_int Tryd.underlying2 t3
  obtain ⟨n4, e4, _, g4⟩ := DataW.trod_int Tryd.underlying2 t4
  obtain ⟨n5, e5, _, g5⟩ := DataW.trod_int Tryd.underlying27 t5
  simp only [List.cons.injEq, and_true] at e0 e1 e2 e3 e4 e5
  subst e0 e1 e2 e3 e4 e5
  obtain ⟨o, ho, hcells⟩ := opV_of g0 g1 g2 g3 g4 g5
  exact ⟨o, by rw [OpV.val, hcells], ho⟩
theorem bytesCells : Tryd.prog.cellsOf 5 = 1 := by kernel_rfl
set_option maxRecDepth 100000 in
/-- A slice of bytes, opened: bytes in memory. -/
theorem open_bytesR {H : Type} {enc : TypeId × Value → H} {W : World} {b0 : Nat} {r : Reach} {v : Value} {d : DataW H} {p : List MemPlace}
    (hv : Value.okWide Tryd.prog W r b0 24 v) (h : DataW.Trod enc Tryd.prog W 0 (fun _ => true) true 24 v d p) :
    ∃ (l : List Nat) (A : Option Addr) (cap : Nat), v = .slice A l.length cap ∧ RecRow W bcell 1 A l ∧ l.length ≤ cap ∧ cap ≤ maxLen ∧ ∀ x ∈ l, x < 256 := by
  obtain ⟨a0, len0, cap0, rfl⟩ := okWide_slice Tryd.underlying24 hv
  obtain ⟨fuel, hf⟩ := h
  rcases open_ints Tryd.underlying24 Tryd.underlying5 bytesCells hf with ⟨hcs, hx⟩ | ⟨a, len', cap', zs, hcs, _, hl, hm, hz, hx, hcell, hwz⟩
  · simp only [Value.cells, List.cons.injEq, and_true, Value.slice.injEq] at hcs
    obtain ⟨rfl, rfl, rfl⟩ := hcs
    exact ⟨[], none, 0, rfl, .inl rfl, Nat.le_refl _, Nat.zero_le _, by simp⟩
  · simp only [Value.cells, List.cons.injEq, and_true, Value.slice.injEq] at hcs
    obtain ⟨rfl, rfl, rfl⟩ := hcs
    simp only [if_true] at hz
    have hlen : ((zs.take len0).map Int.toNat).length = len0 := by rw [List.length_map, List.length_take]; omega
    have hnn : ∀ n ∈ zs, 0 ≤ n ∧ n < 256 := fun n hn => by
      have := hwz n hn
      simp only [Lit.wf, Bool.and_eq_true, decide_eq_true_eq] at this
      exact ⟨this.1, Int.lt_of_le_of_lt this.2 (by decide)⟩
    refine ⟨(zs.take len0).map Int.toNat, some a, cap0, by rw [hlen], ?_, by rw [hlen]; exact hl, hm, ?_⟩
    · rcases Nat.eq_zero_or_pos len0 with h0 | h0
      · left; subst h0; simp
      · have hc0 := hcell 0 (by omega)
        obtain ⟨b, off, sp⟩ := a
        have hsp : sp = none := by
          cases sp with
          | none => rfl
          | some x =>
            unfold World.cell? Addr.add at hc0
            simp only [if_true, Option.isSome_some] at hc0
            split at hc0 <;> simp at hc0
        subst hsp
        have hbl : b < W.heap.size := by
          have h1 : W.cell? ⟨b, off, none⟩ = some (.int .u8 (zs.getD 0 0)) := by
            have : (⟨b, off, none⟩ : Addr).add 0 = ⟨b, off, none⟩ := by simp [Addr.add]
            rw [← this]; exact hc0
          exact World.block_lt_of_cell? _ _ h1
        refine .inr ⟨b, off, rfl, hbl, fun i x hx' j hj => ?_⟩
        obtain rfl : j = 0 := by omega
        have hi' : i < len0 := by have := (List.getElem?_eq_some_iff.1 hx').1; rwa [hlen] at this
        rw [List.getElem?_map, List.getElem?_take_of_lt hi', List.getElem?_eq_getElem (by omega)] at hx'
        obtain rfl : zs[i].toNat = x := by simpa using hx'
        have h1 := hcell i (by omega)
        have h2 : zs.getD i 0 = zs[i] := by simp [List.getD, List.getElem?_eq_getElem (show i < zs.length by omega)]
        have h3 := hnn zs[i] (List.getElem_mem _)
        rw [h2] at h1
        show W.cell? ⟨b, off + i * 1 + 0, none⟩ = some (.int .u8 (zs[i].toNat : Int))
        rw [Int.toNat_of_nonneg h3.1, ← h1, Nat.mul_one, Nat.add_zero]
        unfold Addr.add
        split
        · rename_i hz'; rw [hz', Nat.add_zero]
        · rfl
    · intro x hx'
      obtain ⟨n, hn, rfl⟩ := List.mem_map.1 hx'
      have := hnn n (List.mem_of_mem_take hn)
      omega
end Go.Proofs.YtokpgopdkimmmaaDoor
