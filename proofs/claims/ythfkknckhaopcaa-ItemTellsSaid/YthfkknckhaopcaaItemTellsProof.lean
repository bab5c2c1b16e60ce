/- ItemTells holds of all that is asked: who stands ahead of whom, what holds what, what is right, over and covered is as the reference says. No condition. -/
import Derived.Test.YthfkknckhaopcaaItemTells
import Derived.ProofKit
import Derived.OpenShut
import Derived.ShutString
import Derived.ChangeOld
import Derived.Lib.SmallJoins
namespace Go.Proofs.Ythfkknckhaopcaa
open Go.ChangeShapes Go.WideShapes Go.ChangeAt Go.RowKit Go.Joins
open Go.ChangeMaps (open_string shut_string)

theorem leaf_of {H : Type} {enc : TypeId × Value → H} {P : Program} {w : World} {base : Nat} {spare : Nat → Bool} {held : Bool} {t : TypeId} {fs : Array Field} {fuel : Nat} {cs : List Value} {x : DataW H × List MemPlace} (ht : P.underlying t = some (.struct fs)) (h : DataW.trod enc P w base spare held fuel t cs = some x) (i : Nat) (f : Field) (hi : fs[i]? = some f) :
    ∃ (n : Nat) (y : DataW H × List MemPlace), DataW.trod enc P w base spare held n f.type ((cs.drop f.offset).take (P.cellsOf f.type)) = some y := by
  obtain ⟨xs, n, _, _, _, hlen, hg⟩ := DataW.trod_struct ht h
  have hl : i < fs.size := (Array.getElem?_eq_some_iff.1 hi).1
  exact ⟨n, xs[i]'(by omega), (hg i f hi).trans (List.getElem?_eq_getElem (by omega))⟩
theorem cellsA : Try.prog.cellsOf 44 = 19 := by kernel_rfl
theorem cellsP : Try.prog.cellsOf 24 = 3 := by kernel_rfl
theorem cellsS : Try.prog.cellsOf 29 = 3 := by kernel_rfl
theorem cellsB : Try.prog.cellsOf 38 = 5 := by kernel_rfl
theorem cellsI : Try.prog.cellsOf 2 = 1 := by kernel_rfl
theorem cellsU : Try.prog.cellsOf 22 = 1 := by kernel_rfl
theorem open_asked {H : Type} {enc : TypeId × Value → H} {w : World} {base : Nat} {spare : Nat → Bool} {held : Bool} {r : Reach} {b0 : Nat} {v : Value} {d : DataW H} {p : List MemPlace} (hv : Value.okWide Try.prog w r b0 44 v) (h : DataW.Trod enc Try.prog w base spare held 44 v d p) :
    ∃ px py pid qx qy qid slo shi sid tlo thi tid bx1 bx2 by1 by2 bid x y : Int, v = .agg #[.int .i64 px, .int .i64 py, .int .u32 pid, .int .i64 qx, .int .i64 qy, .int .u32 qid, .int .i64 slo, .int .i64 shi, .int .u32 sid, .int .i64 tlo, .int .i64 thi, .int .u32 tid, .int .i64 bx1, .int .i64 bx2, .int .i64 by1, .int .i64 by2, .int .u32 bid, .int .i64 x, .int .i64 y] := by
  obtain ⟨cs, rfl, hsz⟩ := okWide_struct Try.underlying44 hv
  obtain ⟨l⟩ := cs
  match l, hsz.trans cellsA with
  | [c0, c1, c2, c3, c4, c5, c6, c7, c8, c9, c10, c11, c12, c13, c14, c15, c16, c17, c18], _ =>
    obtain ⟨fuel, hf⟩ := h
    simp only [Value.cells] at hf
    obtain ⟨n0, y0, f0⟩ := leaf_of Try.underlying44 hf 0 _ rfl
    simp [cellsP] at f0
    obtain ⟨n0_0, y0_0, g0_0⟩ := leaf_of Try.underlying24 f0 0 _ rfl
    simp [cellsI] at g0_0
    obtain ⟨a0, e0, _, _⟩ := DataW.trod_int Try.underlying2 g0_0
    simp only [List.cons.injEq, and_true] at e0
    subst e0
    obtain ⟨n0_1, y0_1, g0_1⟩ := leaf_of Try.underlying24 f0 1 _ rfl
    simp [cellsI] at g0_1
    obtain ⟨a1, e1, _, _⟩ := DataW.trod_int Try.underlying2 g0_1
    simp only [List.cons.injEq, and_true] at e1
    subst e1
    obtain ⟨n0_2, y0_2, g0_2⟩ := leaf_of Try.underlying24 f0 2 _ rfl
    simp [cellsU] at g0_2
    obtain ⟨a2, e2, _, _⟩ := DataW.trod_int Try.underlying22 g0_2
    simp only [List.cons.injEq, and_true] at e2
    subst e2
    obtain ⟨n1, y1, f1⟩ := leaf_of Try.underlying44 hf 1 _ rfl
    simp [cellsP] at f1
    obtain ⟨n1_0, y1_0, g1_0⟩ := leaf_of Try.underlying24 f1 0 _ rfl
    simp [cellsI] at g1_0
    obtain ⟨a3, e3, _, _⟩ := DataW.trod_int Try.underlying2 g1_0
    simp only [List.cons.injEq, and_true] at e3
    subst e3
    obtain ⟨n1_1, y1_1, g1_1⟩ := leaf_of Try.underlying24 f1 1 _ rfl
    simp [cellsI] at g1_1
    obtain ⟨a4, e4, _, _⟩ := DataW.trod_int Try.underlying2 g1_1
    simp only [List.cons.injEq, and_true] at e4
    subst e4
    obtain ⟨n1_2, y1_2, g1_2⟩ := leaf_of Try.underlying24 f1 2 _ rfl
    simp [cellsU] at g1_2
    obtain ⟨a5, e5, _, _⟩ := DataW.trod_int Try.underlying22 g1_2
    simp only [List.cons.injEq, and_true] at e5
    subst e5
    obtain ⟨n2, y2, f2⟩ := leaf_of Try.underlying44 hf 2 _ rfl
    simp [cellsS] at f2
    obtain ⟨n2_0, y2_0, g2_0⟩ := leaf_of Try.underlying29 f2 0 _ rfl
    simp [cellsI] at g2_0
    obtain ⟨a6, e6, _, _⟩ := DataW.trod_int Try.underlying2 g2_0
    simp only [List.cons.injEq, and_true] at e6
    subst e6
    obtain ⟨n2_1, y2_1, g2_1⟩ := leaf_of Try.underlying29 f2 1 _ rfl
    simp [cellsI] at g2_1
    obtain ⟨a7, e7, _, _⟩ := DataW.trod_int Try.underlying2 g2_1
    simp only [List.cons.injEq, and_true] at e7
    subst e7
    obtain ⟨n2_2, y2_2, g2_2⟩ := leaf_of Try.underlying29 f2 2 _ rfl
    simp [cellsU] at g2_2
    obtain ⟨a8, e8, _, _⟩ := DataW.trod_int Try.underlying22 g2_2
    simp only [List.cons.injEq, and_true] at e8
    subst e8
    obtain ⟨n3, y3, f3⟩ := leaf_of Try.underlying44 hf 3 _ rfl
    simp [cellsS] at f3
    obtain ⟨n3_0, y3_0, g3_0⟩ := leaf_of Try.underlying29 f3 0 _ rfl
    simp [cellsI] at g3_0
    obtain ⟨a9, e9, _, _⟩ := DataW.trod_int Try.underlying2 g3_0
    simp only [List.cons.injEq, and_true] at e9
    subst e9
    obtain ⟨n3_1, y3_1, g3_1⟩ := leaf_of Try.underlying29 f3 1 _ rfl
    simp [cellsI] at g3_1
    obtain ⟨a10, e10, _, _⟩ := DataW.trod_int Try.underlying2 g3_1
    simp only [List.cons.injEq, and_true] at e10
    subst e10
    obtain ⟨n3_2, y3_2, g3_2⟩ := leaf_of Try.underlying29 f3 2 _ rfl
    simp [cellsU] at g3_2
    obtain ⟨a11, e11, _, _⟩ := DataW.trod_int Try.underlying22 g3_2
    simp only [List.cons.injEq, and_true] at e11
    subst e11
    obtain ⟨n4, y4, f4⟩ := leaf_of Try.underlying44 hf 4 _ rfl
    simp [cellsB] at f4
    obtain ⟨n4_0, y4_0, g4_0⟩ := leaf_of Try.underlying38 f4 0 _ rfl
    simp [cellsI] at g4_0
    obtain ⟨a12, e12, _, _⟩ := DataW.trod_int Try.underlying2 g4_0
    simp only [List.cons.injEq, and_true] at e12
    subst e12
    obtain ⟨n4_1, y4_1, g4_1⟩ := leaf_of Try.underlying38 f4 1 _ rfl
    simp [cellsI] at g4_1
    obtain ⟨a13, e13, _, _⟩ := DataW.trod_int Try.underlying2 g4_1
    simp only [List.cons.injEq, and_true] at e13
    subst e13
    obtain ⟨n4_2, y4_2, g4_2⟩ := leaf_of Try.underlying38 f4 2 _ rfl
    simp [cellsI] at g4_2
    obtain ⟨a14, e14, _, _⟩ := DataW.trod_int Try.underlying2 g4_2
    simp only [List.cons.injEq, and_true] at e14
    subst e14
    obtain ⟨n4_3, y4_3, g4_3⟩ := leaf_of Try.underlying38 f4 3 _ rfl
    simp [cellsI] at g4_3
    obtain ⟨a15, e15, _, _⟩ := DataW.trod_int Try.underlying2 g4_3
    simp only [List.cons.injEq, and_true] at e15
    subst e15
    obtain ⟨n4_4, y4_4, g4_4⟩ := leaf_of Try.underlying38 f4 4 _ rfl
    simp [cellsU] at g4_4
    obtain ⟨a16, e16, _, _⟩ := DataW.trod_int Try.underlying22 g4_4
    simp only [List.cons.injEq, and_true] at e16
    subst e16
    obtain ⟨n5, y5, f5⟩ := leaf_of Try.underlying44 hf 5 _ rfl
    simp [cellsI] at f5
    obtain ⟨a17, e17, _, _⟩ := DataW.trod_int Try.underlying2 f5
    simp only [List.cons.injEq, and_true] at e17
    subst e17
    obtain ⟨n6, y6, f6⟩ := leaf_of Try.underlying44 hf 6 _ rfl
    simp [cellsI] at f6
    obtain ⟨a18, e18, _, _⟩ := DataW.trod_int Try.underlying2 f6
    simp only [List.cons.injEq, and_true] at e18
    subst e18
    exact ⟨a0, a1, a2, a3, a4, a5, a6, a7, a8, a9, a10, a11, a12, a13, a14, a15, a16, a17, a18, rfl⟩

theorem ownItemTells : ownKnob Try.prog.godebug = none := by kernel_rfl
theorem laidOutItemTells : laidOutB Try.prog = true := by kernel_rfl
set_option linter.unusedVariables false
set_option maxRecDepth 100000 in
theorem ItemTells_lifted (os : Os) (started : os.Started) (H : Type) (enc : TypeId × Value → H) :
    ReturnsInHanded {} Try.checked os 8 .any (Rows.itemTellsSpec.pre6 enc Try.prog Try.f8 Rows.itemTellsRow.domain false) (Rows.itemTellsSpec.post enc Try.prog Try.f8 false true false false) := by
  refine returnsInHanded_of_change (C := Try.checked) ownItemTells started (by kernel_rfl) Try.func8
    (ChangeSpec.witness6 (enc := enc) (C := Try.checked) false ⟨#[], #[.agg #[.int .i64 0, .int .i64 0, .int .u32 0, .int .i64 0, .int .i64 0, .int .u32 0, .int .i64 0, .int .i64 0, .int .u32 0, .int .i64 0, .int .i64 0, .int .u32 0, .int .i64 0, .int .i64 0, .int .i64 0, .int .i64 0, .int .u32 0, .int .i64 0, .int .i64 0]], []⟩ 8 (by kernel_rfl) (by kernel_rfl) (by kernel_rfl) (by kernel_rfl)) ?_
  intro W base args ds gs before hval0 hW hcnd _
  have hval : ∀ (j : Nat) t v, Try.f8.params[j]? = some t → args[j]? = some v → Value.okWide Try.prog W .any base t v := hval0
  have hW' := hW
  obtain ⟨p, q, hA0, hV, rfl, hfz, hnd⟩ := hW
  have hA : DataW.TrodAll enc Try.prog W 0 (fun _ => true) true Try.f8.params.toList args.toList ds p := hA0
  rw [Try.params8] at hA hval
  obtain ⟨v0, vs0, d0, ds0, p0, q0, hargs, rfl, rfl, h0, r0⟩ := trodAll_cons hA
  obtain ⟨rfl, rfl, rfl⟩ := trodAll_nil r0
  obtain rfl : args = #[v0] := by cases args; simp_all
  obtain ⟨rfl, rfl⟩ := trodVars_none hV
  have k0 := h0
  have lt0 : ∀ x ∈ p0, x.block < W.heap.size := by obtain ⟨m, hm⟩ := k0; exact DataW.trod_lt m _ _ _ hm
  have k0 := h0
  have lt0 : ∀ x ∈ p0, x.block < W.heap.size := by obtain ⟨m, hm⟩ := k0; exact DataW.trod_lt m _ _ _ hm
  obtain ⟨px, py, pid, qx, qy, qid, slo, shi, sid, tlo, thi, tid, bx1, bx2, by1, by2, bid, x, y, rfl⟩ := open_asked (hval 0 44 v0 rfl rfl) h0
  clear hA0 hval0
  refine (ItemTells_walk px py pid qx qy qid slo shi sid tlo thi tid bx1 bx2 by1 by2 bid x y W).mono fun e W' ⟨he, bel⟩ => ?_
  subst he
  exact ⟨_, rfl, _, _, _, [], _, [], hW', trodAll_mk1 (shut_bool Try.underlying4 _), (trodAll_cons_mk (Below.trod laidOutItemTells (by kernel_rfl) (of_decide_eq_true (by kernel_rfl)) k0 bel lt0) trodAll_mk0), rfl, bel.frame _, fun h => by cases h⟩

theorem ItemTells_holds : Rows.ItemTellsSaid :=
  OpenClaim.holds_of_wide 8 Try.f8 rfl rfl rfl rfl rfl rfl rfl ⟨rfl, rfl, rfl, rfl, rfl⟩ rfl rfl rfl rfl rfl (by kernel_rfl) Try.func8 (by kernel_rfl)
    (of_decide_eq_true (by kernel_rfl)) (by unfold Func.isWrapper; first | (rw [if_pos (by decide +kernel)]; kernel_rfl) | (rw [if_neg (by decide +kernel)]; exact ⟨rfl, rfl⟩))
    (fun os started H enc _ => ItemTells_lifted os started H enc)

end Go.Proofs.Ythfkknckhaopcaa
