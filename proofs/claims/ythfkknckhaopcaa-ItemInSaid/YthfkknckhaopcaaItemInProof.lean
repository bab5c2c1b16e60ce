/- ItemIn holds of every point and every box: a box holds a point just if its sides hold its two numbers; a right box holds its corners, another one nothing. No condition. -/
import Derived.Test.YthfkknckhaopcaaItemIn
import Derived.Test.YthfkknckhaopcaaOpen
import Derived.ProofKit
import Derived.OpenShut
import Derived.ShutString
import Derived.ChangeOld
import Derived.Lib.SmallJoins
namespace Go.Proofs.Ythfkknckhaopcaa
open Go.ChangeShapes Go.WideShapes Go.ChangeAt Go.RowKit Go.Joins
open Go.ChangeMaps (open_string shut_string)

theorem ownItemIn : ownKnob Try.prog.godebug = none := by kernel_rfl
theorem laidOutItemIn : laidOutB Try.prog = true := by kernel_rfl
set_option linter.unusedVariables false
set_option maxRecDepth 100000 in
theorem ItemIn_lifted (os : Os) (started : os.Started) (H : Type) (enc : TypeId × Value → H) :
    ReturnsInHanded {} Try.checked os 6 .any (Rows.itemInSpec.pre6 enc Try.prog Try.f6 Rows.itemInRow.domain false) (Rows.itemInSpec.post enc Try.prog Try.f6 false true false false) := by
  refine returnsInHanded_of_change (C := Try.checked) ownItemIn started (by kernel_rfl) Try.func6
    (ChangeSpec.witness6 (enc := enc) (C := Try.checked) false ⟨#[], #[.agg #[.int .i64 0, .int .i64 0, .int .u32 0], .agg #[.int .i64 0, .int .i64 0, .int .i64 0, .int .i64 0, .int .u32 0]], []⟩ 8 (by kernel_rfl) (by kernel_rfl) (by kernel_rfl) (by kernel_rfl)) ?_
  intro W base args ds gs before hval0 hW hcnd _
  have hval : ∀ (j : Nat) t v, Try.f6.params[j]? = some t → args[j]? = some v → Value.okWide Try.prog W .any base t v := hval0
  have hW' := hW
  obtain ⟨p, q, hA0, hV, rfl, hfz, hnd⟩ := hW
  have hA : DataW.TrodAll enc Try.prog W 0 (fun _ => true) true Try.f6.params.toList args.toList ds p := hA0
  rw [Try.params6] at hA hval
  obtain ⟨v0, vs0, d0, ds0, p0, q0, hargs, rfl, rfl, h0, r0⟩ := trodAll_cons hA
  obtain ⟨v1, vs1, d1, ds1, p1, q1, rfl, rfl, rfl, h1, r1⟩ := trodAll_cons r0
  obtain ⟨rfl, rfl, rfl⟩ := trodAll_nil r1
  obtain rfl : args = #[v0, v1] := by cases args; simp_all
  obtain ⟨rfl, rfl⟩ := trodVars_none hV
  have k0 := h0
  have lt0 : ∀ x ∈ p0, x.block < W.heap.size := by obtain ⟨m, hm⟩ := k0; exact DataW.trod_lt m _ _ _ hm
  obtain ⟨c00, c01, c02, y00, y01, y02, m0, rfl, rfl, rfl, g00, g01, g02⟩ := open_agg3 Try.underlying24 (by kernel_rfl) (by kernel_rfl) (hval 0 24 v0 rfl rfl) h0
  obtain ⟨px, e00, rfl, wpx⟩ := DataW.trod_int Try.underlying2 g00
  simp only [List.cons.injEq, and_true] at e00
  subst e00
  obtain ⟨py, e01, rfl, wpy⟩ := DataW.trod_int Try.underlying2 g01
  simp only [List.cons.injEq, and_true] at e01
  subst e01
  obtain ⟨pid, e02, rfl, wpid⟩ := DataW.trod_int Try.underlying22 g02
  simp only [List.cons.injEq, and_true] at e02
  subst e02
  have k1 := h1
  have lt1 : ∀ x ∈ p1, x.block < W.heap.size := by obtain ⟨m, hm⟩ := k1; exact DataW.trod_lt m _ _ _ hm
  obtain ⟨c10, c11, c12, c13, c14, y10, y11, y12, y13, y14, m1, rfl, rfl, rfl, g10, g11, g12, g13, g14⟩ := open_agg5 Try.underlying38 (by kernel_rfl) (by kernel_rfl) (hval 1 38 v1 rfl rfl) h1
  obtain ⟨bx1, e10, rfl, wbx1⟩ := DataW.trod_int Try.underlying2 g10
  simp only [List.cons.injEq, and_true] at e10
  subst e10
  obtain ⟨bx2, e11, rfl, wbx2⟩ := DataW.trod_int Try.underlying2 g11
  simp only [List.cons.injEq, and_true] at e11
  subst e11
  obtain ⟨by1, e12, rfl, wby1⟩ := DataW.trod_int Try.underlying2 g12
  simp only [List.cons.injEq, and_true] at e12
  subst e12
  obtain ⟨by2, e13, rfl, wby2⟩ := DataW.trod_int Try.underlying2 g13
  simp only [List.cons.injEq, and_true] at e13
  subst e13
  obtain ⟨bid, e14, rfl, wbid⟩ := DataW.trod_int Try.underlying22 g14
  simp only [List.cons.injEq, and_true] at e14
  subst e14
  clear hA0 hval0
  refine (ItemIn_walk px py pid bx1 bx2 by1 by2 bid W).mono fun e W' ⟨he, bel⟩ => ?_
  subst he
  exact ⟨_, rfl, _, _, _, [], _, [], hW', trodAll_mk1 (shut_bool Try.underlying4 _), (trodAll_cons_mk (Below.trod laidOutItemIn (by kernel_rfl) (of_decide_eq_true (by kernel_rfl)) k0 bel lt0) (trodAll_cons_mk (Below.trod laidOutItemIn (by kernel_rfl) (of_decide_eq_true (by kernel_rfl)) k1 bel lt1) trodAll_mk0)), rfl, bel.frame _, fun h => by cases h⟩

theorem ItemIn_holds : Rows.ItemInSaid :=
  OpenClaim.holds_of_wide 6 Try.f6 rfl rfl rfl rfl rfl rfl rfl ⟨rfl, rfl, rfl, rfl, rfl⟩ rfl rfl rfl rfl rfl (by kernel_rfl) Try.func6 (by kernel_rfl)
    (of_decide_eq_true (by kernel_rfl)) (by unfold Func.isWrapper; first | (rw [if_pos (by decide +kernel)]; kernel_rfl) | (rw [if_neg (by decide +kernel)]; exact ⟨rfl, rfl⟩))
    (fun os started H enc _ => ItemIn_lifted os started H enc)

end Go.Proofs.Ythfkknckhaopcaa
