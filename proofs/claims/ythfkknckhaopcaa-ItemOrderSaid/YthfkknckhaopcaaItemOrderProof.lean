/- ItemOrder holds of every three points and every three spans: of two things just one stands ahead, unless they have the same place and name; orders go on. No condition. -/
import Derived.Test.YthfkknckhaopcaaItemOrder
import Derived.ProofKit
import Derived.OpenShut
import Derived.ShutString
import Derived.ChangeOld
import Derived.Lib.SmallJoins
namespace Go.Proofs.Ythfkknckhaopcaa
open Go.ChangeShapes Go.WideShapes Go.ChangeAt Go.RowKit Go.Joins
open Go.ChangeMaps (open_string shut_string)

theorem ownItemOrder : ownKnob Try.prog.godebug = none := by kernel_rfl
theorem laidOutItemOrder : laidOutB Try.prog = true := by kernel_rfl
set_option linter.unusedVariables false
set_option maxRecDepth 100000 in
theorem ItemOrder_lifted (os : Os) (started : os.Started) (H : Type) (enc : TypeId × Value → H) :
    ReturnsInHanded {} Try.checked os 5 .any (Rows.itemOrderSpec.pre6 enc Try.prog Try.f5 Rows.itemOrderRow.domain false) (Rows.itemOrderSpec.post enc Try.prog Try.f5 false true false false) := by
  refine returnsInHanded_of_change (C := Try.checked) ownItemOrder started (by kernel_rfl) Try.func5
    (ChangeSpec.witness6 (enc := enc) (C := Try.checked) false ⟨#[], #[.agg #[.int .i64 0, .int .i64 0, .int .u32 0], .agg #[.int .i64 0, .int .i64 0, .int .u32 0], .agg #[.int .i64 0, .int .i64 0, .int .u32 0], .agg #[.int .i64 0, .int .i64 0, .int .u32 0], .agg #[.int .i64 0, .int .i64 0, .int .u32 0], .agg #[.int .i64 0, .int .i64 0, .int .u32 0]], []⟩ 8 (by kernel_rfl) (by kernel_rfl) (by kernel_rfl) (by kernel_rfl)) ?_
  intro W base args ds gs before hval0 hW hcnd _
  have hval : ∀ (j : Nat) t v, Try.f5.params[j]? = some t → args[j]? = some v → Value.okWide Try.prog W .any base t v := hval0
  have hW' := hW
  obtain ⟨p, q, hA0, hV, rfl, hfz, hnd⟩ := hW
  have hA : DataW.TrodAll enc Try.prog W 0 (fun _ => true) true Try.f5.params.toList args.toList ds p := hA0
  rw [Try.params5] at hA hval
  obtain ⟨v0, vs0, d0, ds0, p0, q0, hargs, rfl, rfl, h0, r0⟩ := trodAll_cons hA
  obtain ⟨v1, vs1, d1, ds1, p1, q1, rfl, rfl, rfl, h1, r1⟩ := trodAll_cons r0
  obtain ⟨v2, vs2, d2, ds2, p2, q2, rfl, rfl, rfl, h2, r2⟩ := trodAll_cons r1
  obtain ⟨v3, vs3, d3, ds3, p3, q3, rfl, rfl, rfl, h3, r3⟩ := trodAll_cons r2
  obtain ⟨v4, vs4, d4, ds4, p4, q4, rfl, rfl, rfl, h4, r4⟩ := trodAll_cons r3
  obtain ⟨v5, vs5, d5, ds5, p5, q5, rfl, rfl, rfl, h5, r5⟩ := trodAll_cons r4
  obtain ⟨rfl, rfl, rfl⟩ := trodAll_nil r5
  obtain rfl : args = #[v0, v1, v2, v3, v4, v5] := by cases args; simp_all
  obtain ⟨rfl, rfl⟩ := trodVars_none hV
  have k0 := h0
  have lt0 : ∀ x ∈ p0, x.block < W.heap.size := by obtain ⟨m, hm⟩ := k0; exact DataW.trod_lt m _ _ _ hm
  obtain ⟨c00, c01, c02, y00, y01, y02, m0, rfl, rfl, rfl, g00, g01, g02⟩ := open_agg3 Try.underlying24 (by kernel_rfl) (by kernel_rfl) (hval 0 24 v0 rfl rfl) h0
  obtain ⟨px, e00, rfl, wpx⟩ := DataW.trod_int Try.underlying2 g00
  simp only [List.cons.injEq, and_true] at e00
  subst e00
  obtain ⟨py, e01, rfl, wpy⟩ := DataW.trod_int Try.underlying2 g01
  simp only [List.cons.injEq, and_true] at e01
  subst e01
  obtain ⟨pid, e02, rfl, wpid⟩ := DataW.trod_int Try.underlying22 g02
  simp only [List.cons.injEq, and_true] at e02
  subst e02
  have k1 := h1
  have lt1 : ∀ x ∈ p1, x.block < W.heap.size := by obtain ⟨m, hm⟩ := k1; exact DataW.trod_lt m _ _ _ hm
  obtain ⟨c10, c11, c12, y10, y11, y12, m1, rfl, rfl, rfl, g10, g11, g12⟩ := open_agg3 Try.underlying24 (by kernel_rfl) (by kernel_rfl) (hval 1 24 v1 rfl rfl) h1
  obtain ⟨qx, e10, rfl, wqx⟩ := DataW.trod_int Try.underlying2 g10
  simp only [List.cons.injEq, and_true] at e10
  subst e10
  obtain ⟨qy, e11, rfl, wqy⟩ := DataW.trod_int Try.underlying2 g11
  simp only [List.cons.injEq, and_true] at e11
  subst e11
  obtain ⟨qid, e12, rfl, wqid⟩ := DataW.trod_int Try.underlying22 g12
  simp only [List.cons.injEq, and_true] at e12
  subst e12
  have k2 := h2
  have lt2 : ∀ x ∈ p2, x.block < W.heap.size := by obtain ⟨m, hm⟩ := k2; exact DataW.trod_lt m _ _ _ hm
  obtain ⟨c20, c21, c22, y20, y21, y22, m2, rfl, rfl, rfl, g20, g21, g22⟩ := open_agg3 Try.underlying24 (by kernel_rfl) (by kernel_rfl) (hval 2 24 v2 rfl rfl) h2
  obtain ⟨rx, e20, rfl, wrx⟩ := DataW.trod_int Try.underlying2 g20
  simp only [List.cons.injEq, and_true] at e20
  subst e20
  obtain ⟨ry, e21, rfl, wry⟩ := DataW.trod_int Try.underlying2 g21
  simp only [List.cons.injEq, and_true] at e21
  subst e21
  obtain ⟨rid, e22, rfl, wrid⟩ := DataW.trod_int Try.underlying22 g22
  simp only [List.cons.injEq, and_true] at e22
  subst e22
  have k3 := h3
  have lt3 : ∀ x ∈ p3, x.block < W.heap.size := by obtain ⟨m, hm⟩ := k3; exact DataW.trod_lt m _ _ _ hm
  obtain ⟨c30, c31, c32, y30, y31, y32, m3, rfl, rfl, rfl, g30, g31, g32⟩ := open_agg3 Try.underlying29 (by kernel_rfl) (by kernel_rfl) (hval 3 29 v3 rfl rfl) h3
  obtain ⟨slo, e30, rfl, wslo⟩ := DataW.trod_int Try.underlying2 g30
  simp only [List.cons.injEq, and_true] at e30
  subst e30
  obtain ⟨shi, e31, rfl, wshi⟩ := DataW.trod_int Try.underlying2 g31
  simp only [List.cons.injEq, and_true] at e31
  subst e31
  obtain ⟨sid, e32, rfl, wsid⟩ := DataW.trod_int Try.underlying22 g32
  simp only [List.cons.injEq, and_true] at e32
  subst e32
  have k4 := h4
  have lt4 : ∀ x ∈ p4, x.block < W.heap.size := by obtain ⟨m, hm⟩ := k4; exact DataW.trod_lt m _ _ _ hm
  obtain ⟨c40, c41, c42, y40, y41, y42, m4, rfl, rfl, rfl, g40, g41, g42⟩ := open_agg3 Try.underlying29 (by kernel_rfl) (by kernel_rfl) (hval 4 29 v4 rfl rfl) h4
  obtain ⟨tlo, e40, rfl, wtlo⟩ := DataW.trod_int Try.underlying2 g40
  simp only [List.cons.injEq, and_true] at e40
  subst e40
  obtain ⟨thi, e41, rfl, wthi⟩ := DataW.trod_int Try.underlying2 g41
  simp only [List.cons.injEq, and_true] at e41
  subst e41
  obtain ⟨tid, e42, rfl, wtid⟩ := DataW.trod_int Try.underlying22 g42
  simp only [List.cons.injEq, and_true] at e42
  subst e42
  have k5 := h5
  have lt5 : ∀ x ∈ p5, x.block < W.heap.size := by obtain ⟨m, hm⟩ := k5; exact DataW.trod_lt m _ _ _ hm
  obtain ⟨c50, c51, c52, y50, y51, y52, m5, rfl, rfl, rfl, g50, g51, g52⟩ := open_agg3 Try.underlying29 (by kernel_rfl) (by kernel_rfl) (hval 5 29 v5 rfl rfl) h5
  obtain ⟨ulo, e50, rfl, wulo⟩ := DataW.trod_int Try.underlying2 g50
  simp only [List.cons.injEq, and_true] at e50
  subst e50
  obtain ⟨uhi, e51, rfl, wuhi⟩ := DataW.trod_int Try.underlying2 g51
  simp only [List.cons.injEq, and_true] at e51
  subst e51
  obtain ⟨uid, e52, rfl, wuid⟩ := DataW.trod_int Try.underlying22 g52
  simp only [List.cons.injEq, and_true] at e52
  subst e52
  clear hA0 hval0
  refine (ItemOrder_walk px py pid qx qy qid rx ry rid slo shi sid tlo thi tid ulo uhi uid W).mono fun e W' ⟨he, bel⟩ => ?_
  subst he
  exact ⟨_, rfl, _, _, _, [], _, [], hW', trodAll_mk1 (shut_bool Try.underlying4 _), (trodAll_cons_mk (Below.trod laidOutItemOrder (by kernel_rfl) (of_decide_eq_true (by kernel_rfl)) k0 bel lt0) (trodAll_cons_mk (Below.trod laidOutItemOrder (by kernel_rfl) (of_decide_eq_true (by kernel_rfl)) k1 bel lt1) (trodAll_cons_mk (Below.trod laidOutItemOrder (by kernel_rfl) (of_decide_eq_true (by kernel_rfl)) k2 bel lt2) (trodAll_cons_mk (Below.trod laidOutItemOrder (by kernel_rfl) (of_decide_eq_true (by kernel_rfl)) k3 bel lt3) (trodAll_cons_mk (Below.trod laidOutItemOrder (by kernel_rfl) (of_decide_eq_true (by kernel_rfl)) k4 bel lt4) (trodAll_cons_mk (Below.trod laidOutItemOrder (by kernel_rfl) (of_decide_eq_true (by kernel_rfl)) k5 bel lt5) trodAll_mk0)))))), rfl, bel.frame _, fun h => by cases h⟩

theorem ItemOrder_holds : Rows.ItemOrderSaid :=
  OpenClaim.holds_of_wide 5 Try.f5 rfl rfl rfl rfl rfl rfl rfl ⟨rfl, rfl, rfl, rfl, rfl⟩ rfl rfl rfl rfl rfl (by kernel_rfl) Try.func5 (by kernel_rfl)
    (of_decide_eq_true (by kernel_rfl)) (by unfold Func.isWrapper; first | (rw [if_pos (by decide +kernel)]; kernel_rfl) | (rw [if_neg (by decide +kernel)]; exact ⟨rfl, rfl⟩))
    (fun os started H enc _ => ItemOrder_lifted os started H enc)

end Go.Proofs.Ythfkknckhaopcaa
