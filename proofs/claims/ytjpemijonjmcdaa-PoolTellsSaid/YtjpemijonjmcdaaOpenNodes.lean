/- An argument that is a slice of nodes, opened: nodes in memory. -/
import Derived.Test.YtjpemijonjmcdaaPoolSpec
import Derived.Deep.Slices
import Derived.Deep.Fields
import Derived.ChangeSame
import Derived.SizedLaws
import Derived.Lib.SmallJoins
namespace Go.Proofs.Ytjpemijonjmcdaa
open Go.ChangeShapes Go.WideShapes Go.Deep
set_option linter.unusedVariables false

section
variable {H : Type} {enc : TypeId × Value → H} {P : Program} {w : World} {base : Nat} {spare : Nat → Bool} {held : Bool}
theorem open_slice_fields {t e : TypeId} {fs : Array Field} {fuel : Nat} {cs : List Value} {x : DataW H × List MemPlace} (ht : P.underlying t = some (.slice e)) (he : P.underlying e = some (.struct fs))
    (hone : oneCellFields P fs = true) (hC : P.cellsOf e = fs.size) (h : DataW.trod enc P w base spare held fuel t cs = some x) :
    (cs = [.slice none 0 0] ∧ x = (.nil, [])) ∨
    ∃ (a : Addr) (len cap m : Nat) (D : Nat → DataW H) (Pl : Nat → List MemPlace), cs = [.slice (some a) len cap] ∧ base ≤ a.block ∧ len ≤ cap ∧ cap ≤ maxLen ∧ m = (if spare a.block then cap else len) ∧
      x = (.slice ((List.range len).map D) ((List.range (m - len)).map fun j => D (len + j)), MemPlace.row a (m * fs.size) ++ (List.range m).flatMap Pl) ∧
      ∀ i, i < m → ∃ (ys : List (DataW H × List MemPlace)) (n : Nat), D i = .agg (ys.map (·.1)) ∧ Pl i = ys.flatMap (·.2) ∧ ys.length = fs.size ∧
        ∀ (j : Nat) (f : Field), fs[j]? = some f → ∃ (v : Value) (y : DataW H × List MemPlace), w.cell? (a.add (i * fs.size + j)) = some v ∧ ys[j]? = some y ∧ DataW.trod enc P w base spare held n f.type [v] = some y := by
  rcases open_slice ht h with h0 | ⟨a, len, cap, m, n, D, Pl, hcs, hb, hl, hm, hmm, hx, hi⟩
  · exact .inl h0
  · refine .inr ⟨a, len, cap, m, D, Pl, hcs, hb, hl, hm, hmm, by rw [hC] at hx; exact hx, fun i him => ?_⟩
    obtain ⟨cs', hc, ht'⟩ := hi i him
    rw [hC] at hc
    obtain ⟨ys, n', hn', hy, hlen, hyl, hf⟩ := DataW.trod_struct he ht'
    obtain ⟨_, hcl, hat⟩ := World.cells?_some hc
    simp only [Prod.mk.injEq] at hy
    refine ⟨ys, n', hy.1, hy.2, hyl, fun j f hj => ?_⟩
    obtain ⟨ho, hk⟩ := hone_of hone j f hj
    have hjl : j < fs.size := (Array.getElem?_eq_some_iff.1 hj).1
    have hcell := hat j hjl
    have hv : cs'[j]? = some (cs'[j]'(by omega)) := List.getElem?_eq_getElem (by omega)
    have h1 := hf j f hj
    rw [ho, hk] at h1
    have hone' : (cs'.drop j).take 1 = [cs'[j]'(by omega)] := by
      rw [List.drop_eq_getElem_cons (by omega)]
      rfl
    rw [hone'] at h1
    have hys : ys[j]? = some (ys[j]'(by omega)) := List.getElem?_eq_getElem (by omega)
    refine ⟨_, _, ?_, hys, h1.trans hys⟩
    rw [← Go.Deep.add_add, hcell, hv]
end

structure NdWf (n : Nd) : Prop where
  k : (Lit.int .u8 n.k).wf = true
  l : (Lit.int .i64 n.l).wf = true
  r : (Lit.int .i64 n.r).wf = true
  f : (Lit.int .i64 n.f).wf = true
  t : (Lit.int .i64 n.t).wf = true
  a : (Lit.int .i64 n.a).wf = true
  i : (Lit.int .i64 n.i).wf = true

theorem open_nodes {H : Type} {enc : TypeId × Value → H} {W : World} {b0 : Nat} {r : Reach} {v : Value} {d : DataW H} {p : List MemPlace}
    (hv : Value.okWide Try.prog W r b0 22 v) (h : DataW.Trod enc Try.prog W 0 (fun _ => true) true 22 v d p) :
    ∃ (ns : List Nd) (ao : Option Addr) (cap : Nat), v = .slice ao ns.length cap ∧ NdRow W ao ns ∧ ns.length ≤ cap ∧ (∀ n ∈ ns, NdWf n) ∧ (cap = 0 ∨ ∃ el sp, d = .slice el sp ∧ el.length + sp.length = cap) := by
  obtain ⟨a0, len0, cap0, rfl⟩ := okWide_slice Try.underlying22 hv
  obtain ⟨fuel, hf⟩ := h
  rcases open_slice_fields Try.underlying22 Try.underlying36 (by kernel_rfl) (by kernel_rfl) hf with ⟨h0, hx⟩ | ⟨a, len, cap, m, D, Pl, hcs, hb, hl, hm, hmm, hx, hi⟩
  · simp only [Value.cells, List.cons.injEq, and_true, Value.slice.injEq] at h0
    obtain ⟨rfl, rfl, rfl⟩ := h0
    exact ⟨[], none, 0, rfl, .inl rfl, Nat.le_refl _, (by intro n hn; cases hn), .inl rfl⟩
  · simp only [Value.cells, List.cons.injEq, and_true, Value.slice.injEq] at hcs
    obtain ⟨rfl, rfl, rfl⟩ := hcs
    simp only [if_true] at hmm
    subst hmm
    simp only [Prod.mk.injEq] at hx
    have key : ∀ i, i < len0 → ∃ n : Nd, NdWf n ∧ ∀ j, j < 7 → W.cell? (a.add (i * 7 + j)) = n.cells[j]? := by
      intro i hlt
      obtain ⟨ys, n', _, _, _, hf⟩ := hi i (by omega)
      obtain ⟨v0, y0, c0, _, t0⟩ := hf 0 _ rfl
      obtain ⟨v1, y1, c1, _, t1⟩ := hf 1 _ rfl
      obtain ⟨v2, y2, c2, _, t2⟩ := hf 2 _ rfl
      obtain ⟨v3, y3, c3, _, t3⟩ := hf 3 _ rfl
      obtain ⟨v4, y4, c4, _, t4⟩ := hf 4 _ rfl
      obtain ⟨v5, y5, c5, _, t5⟩ := hf 5 _ rfl
      obtain ⟨v6, y6, c6, _, t6⟩ := hf 6 _ rfl
      obtain ⟨n0, e0, _, g0⟩ := DataW.trod_int Try.underlying5 t0
      obtain ⟨n1, e1, _, g1⟩ := DataW.trod_int Try.underlying3 t1
      obtain ⟨n2, e2, _, g2⟩ := DataW.trod_int Try.underlying3 t2
      obtain ⟨n3, e3, _, g3⟩ := DataW.trod_int Try.underlying3 t3
      obtain ⟨n4, e4, _, g4⟩ := DataW.trod_int Try.underlying3 t4
      obtain ⟨n5, e5, _, g5⟩ := DataW.trod_int Try.underlying2 t5
      obtain ⟨n6, e6, _, g6⟩ := DataW.trod_int Try.underlying3 t6
      simp only [List.cons.injEq, and_true] at e0 e1 e2 e3 e4 e5 e6
      subst e0 e1 e2 e3 e4 e5 e6
      refine ⟨⟨n0, n1, n2, n3, n4, n5, n6⟩, ⟨g0, g1, g2, g3, g4, g5, g6⟩, fun j hj => ?_⟩
      match j, hj with
      | 0, _ => exact c0
      | 1, _ => exact c1
      | 2, _ => exact c2
      | 3, _ => exact c3
      | 4, _ => exact c4
      | 5, _ => exact c5
      | 6, _ => exact c6
    have hch : ∃ f : Nat → Nd, ∀ i, i < len0 → NdWf (f i) ∧ ∀ j, j < 7 → W.cell? (a.add (i * 7 + j)) = (f i).cells[j]? :=
      ⟨fun i => if h : i < len0 then Classical.choose (key i h) else Nd.zero, fun i hlt => by simp only [hlt, dif_pos]; exact Classical.choose_spec (key i hlt)⟩
    obtain ⟨f, hf2⟩ := hch
    have hlen : ((List.range len0).map f).length = len0 := by simp
    refine ⟨(List.range len0).map f, some a, m, by rw [hlen], ?_, by rw [hlen]; exact hl, ?_, .inr ⟨_, _, hx.1, by simp; omega⟩⟩
    · by_cases hz : len0 = 0
      · left; subst hz; rfl
      · right
        have h0 := (hf2 0 (by omega)).2 0 (by omega)
        obtain ⟨b, off, sp⟩ := a
        have hsp : sp = none := by
          rw [show (0 * 7 + 0) = 0 from rfl] at h0
          cases sp with
          | none => rfl
          | some x =>
            unfold World.cell? Addr.add at h0
            simp only [if_true, Option.isSome_some] at h0
            split at h0 <;> simp [Nd.cells] at h0
        subst hsp
        refine ⟨b, off, rfl, fun i hi' j hj => ?_⟩
        rw [hlen] at hi'
        have h1 := (hf2 i hi').2 j hj
        have e : ((List.range len0).map f).getD i Nd.zero = f i := by
          rw [List.getD_eq_getElem?_getD, List.getElem?_map, List.getElem?_range hi']; rfl
        rw [e, ← h1]
        unfold Addr.add
        split
        · rename_i hz'; rw [show i * 7 = 0 by omega, show j = 0 by omega]; rfl
        · rw [Nat.add_assoc]
    · intro n hn
      obtain ⟨i, hi', rfl⟩ := List.mem_map.1 hn
      exact (hf2 i (List.mem_range.1 hi')).1
theorem bytesNode : Try.prog.bytesOf 36 = 56 := by kernel_rfl
/-- The form's own reach bounds how many nodes come in. -/
theorem nodes_reach {H : Type} {ts : List TypeId} {ds : List (DataW H)} {j n cap : Nat} {d : DataW H} (hsz : (DataW.weightsEach Try.prog ts ds).all (· ≤ reachBytes) = true) (ht : ts[j]? = some 22) (hd : ds[j]? = some d) (hc : n ≤ cap) (h : cap = 0 ∨ ∃ el sp, d = .slice el sp ∧ el.length + sp.length = cap) : n ≤ 2513169434907 ∧ cap ≤ 2513169434907 := by
  rcases h with h | ⟨el, sp, rfl, h⟩
  · omega
  · have g := sized_slice hsz ht hd Try.underlying22
    rw [h, bytesNode] at g
    unfold reachBytes at g
    omega
end Go.Proofs.Ytjpemijonjmcdaa
