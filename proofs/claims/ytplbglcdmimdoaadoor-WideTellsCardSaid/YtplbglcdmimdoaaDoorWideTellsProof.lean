/- WideTells holds of any two wide numbers, and whatever is asked besides. -/
import Derived.Test.YtplbglcdmimdoaaDoorWideTellsLaw
import Derived.Test.YtplbglcdmimdoaaDoorLaidWide
import Derived.Test.YtplbglcdmimdoaaDoorOpen
import Derived.Test.YtplbglcdmimdoaaDoorTie
import Derived.Test.YtplbglcdmimdoaaDoorCards
import Derived.ProofKit
import Derived.OpenShut
import Derived.ShutString
import Derived.ChangeOld
import Derived.Lib.SmallJoins
import Derived.SizedLaws
import Derived.SevenTiedAt
namespace Go.Proofs.YtplbglcdmimdoaaDoor
open Go.ChangeShapes Go.WideShapes Go.ChangeAt Go.RowKit Go.Joins

theorem ownWideTells : ownKnob Tryd.prog.godebug = none := by kernel_rfl
theorem laidOutWideTells : laidOutB Tryd.prog = true := by kernel_rfl
set_option linter.unusedVariables false
set_option maxRecDepth 100000 in
theorem WideTells_lifted (os : Os) (started : os.Started) (H : Type) (enc : TypeId × Value → H) :
    ReturnsInHanded {} Tryd.checked os 8 .any (fun w args => (Rows.wideTellsSpec.pre enc Tryd.prog Tryd.f8 [] false w args ∧ laidMetH Tryd.prog laidWide w) ∧ sizedMet enc Tryd.prog Tryd.f8 (OpenSpec.ofChange Rows.wideTellsSpec) false w args)
      (Rows.wideTellsSpec.post enc Tryd.prog Tryd.f8 false true false false) := by
  refine returnsInHanded_of_change_and (C := Tryd.checked) (X := fun w _ => laidMetH Tryd.prog laidWide w) (fun _ _ _ hh h => h.of_heap hh) ownWideTells started (by kernel_rfl) Tryd.func8
    (ChangeSpec.witness_shaped (enc := enc) (C := Tryd.checked) (os := os) (X := fun w _ => laidMetH Tryd.prog laidWide w) false (World.doorLaid Tryd.prog 4000 os) #[.agg #[.int .u64 0, .int .u64 0], .agg #[.int .u64 0, .int .u64 0], .agg #[.int .u64 0, .int .u64 0, .int .i64 0, .int .i64 0, .string ⟨#[]⟩]] 8 rfl (World.shaped_of_RefB (by kernel_rfl) (by kernel_rfl)) (by kernel_rfl) (by kernel_rfl) (by kernel_rfl) (door_wide os _)) ?_
  intro W base args ds gs before hval0 hW _ _ hL _
  have hval : ∀ (j : Nat) t v, Tryd.f8.params[j]? = some t → args[j]? = some v → Value.okWide Tryd.prog W .any base t v := hval0
  have hW' := hW
  obtain ⟨p, q, hA0, hV, rfl, hfz, hnd⟩ := hW
  have hA : DataW.TrodAll enc Tryd.prog W 0 (fun _ => true) true Tryd.f8.params.toList args.toList ds p := hA0
  rw [Tryd.params8] at hA hval
  obtain ⟨v0, vs0, d0, ds0, p0, q0, hargs, rfl, rfl, h0, r0⟩ := trodAll_cons hA
  obtain ⟨v1, vs1, d1, ds1, p1, q1, rfl, rfl, rfl, h1, r1⟩ := trodAll_cons r0
  obtain ⟨v2, vs2, d2, ds2, p2, q2, rfl, rfl, rfl, h2, r2⟩ := trodAll_cons r1
  obtain ⟨rfl, rfl, rfl⟩ := trodAll_nil r2
  obtain rfl : args = #[v0, v1, v2] := by cases args; simp_all
  obtain ⟨rfl, rfl⟩ := trodVars_none hV
  have k0 := h0
  have lt0 : ∀ x ∈ p0, x.block < W.heap.size := by obtain ⟨m, hm⟩ := k0; exact DataW.trod_lt m _ _ _ hm
  obtain ⟨c00, c01, y00, y01, m0, rfl, rfl, rfl, g00, g01⟩ := open_agg2 Tryd.underlying24 (by kernel_rfl) (by kernel_rfl) (hval 0 24 v0 rfl rfl) h0
  obtain ⟨ah, e00, rfl, wah⟩ := DataW.trod_int Tryd.underlying22 g00
  simp only [List.cons.injEq, and_true] at e00
  subst e00
  obtain ⟨al, e01, rfl, wal⟩ := DataW.trod_int Tryd.underlying22 g01
  simp only [List.cons.injEq, and_true] at e01
  subst e01
  have k1 := h1
  have lt1 : ∀ x ∈ p1, x.block < W.heap.size := by obtain ⟨m, hm⟩ := k1; exact DataW.trod_lt m _ _ _ hm
  obtain ⟨c10, c11, y10, y11, m1, rfl, rfl, rfl, g10, g11⟩ := open_agg2 Tryd.underlying24 (by kernel_rfl) (by kernel_rfl) (hval 1 24 v1 rfl rfl) h1
  obtain ⟨bh, e10, rfl, wbh⟩ := DataW.trod_int Tryd.underlying22 g10
  simp only [List.cons.injEq, and_true] at e10
  subst e10
  obtain ⟨bl, e11, rfl, wbl⟩ := DataW.trod_int Tryd.underlying22 g11
  simp only [List.cons.injEq, and_true] at e11
  subst e11
  have k2 := h2
  have lt2 : ∀ x ∈ p2, x.block < W.heap.size := by obtain ⟨m, hm⟩ := k2; exact DataW.trod_lt m _ _ _ hm
  obtain ⟨c20, c21, c22, c23, c24, y20, y21, y22, y23, y24, m2, rfl, rfl, rfl, g20, g21, g22, g23, g24⟩ := open_agg5 Tryd.underlying60 (by kernel_rfl) (by kernel_rfl) (hval 2 60 v2 rfl rfl) h2
  obtain ⟨xn, e20, rfl, wxn⟩ := DataW.trod_int Tryd.underlying22 g20
  simp only [List.cons.injEq, and_true] at e20
  subst e20
  obtain ⟨xm, e21, rfl, wxm⟩ := DataW.trod_int Tryd.underlying22 g21
  simp only [List.cons.injEq, and_true] at e21
  subst e21
  obtain ⟨xi, e22, rfl, wxi⟩ := DataW.trod_int Tryd.underlying2 g22
  simp only [List.cons.injEq, and_true] at e22
  subst e22
  obtain ⟨xj, e23, rfl, wxj⟩ := DataW.trod_int Tryd.underlying2 g23
  simp only [List.cons.injEq, and_true] at e23
  subst e23
  obtain ⟨xs, e24, rfl, wxs⟩ := DataW.trod_string Tryd.underlying9 g24
  simp only [List.cons.injEq, and_true] at e24
  subst e24
  clear hA0 hval0
  refine (WideTells_words ah al (by have h := wah; simp only [Lit.wf, Bool.and_eq_true, decide_eq_true_eq] at h; exact h.1) (by have h := wah; simp only [Lit.wf, Bool.and_eq_true, decide_eq_true_eq] at h; exact Int.lt_of_le_of_lt h.2 (by decide)) (by have h := wal; simp only [Lit.wf, Bool.and_eq_true, decide_eq_true_eq] at h; exact h.1) (by have h := wal; simp only [Lit.wf, Bool.and_eq_true, decide_eq_true_eq] at h; exact Int.lt_of_le_of_lt h.2 (by decide)) bh bl (by have h := wbh; simp only [Lit.wf, Bool.and_eq_true, decide_eq_true_eq] at h; exact h.1) (by have h := wbh; simp only [Lit.wf, Bool.and_eq_true, decide_eq_true_eq] at h; exact Int.lt_of_le_of_lt h.2 (by decide)) (by have h := wbl; simp only [Lit.wf, Bool.and_eq_true, decide_eq_true_eq] at h; exact h.1) (by have h := wbl; simp only [Lit.wf, Bool.and_eq_true, decide_eq_true_eq] at h; exact Int.lt_of_le_of_lt h.2 (by decide)) xn xm xi xj xs (by have h := wxn; simp only [Lit.wf, Bool.and_eq_true, decide_eq_true_eq] at h; exact h.1) (by have h := wxn; simp only [Lit.wf, Bool.and_eq_true, decide_eq_true_eq] at h; exact Int.lt_of_le_of_lt h.2 (by decide)) (by have h := wxm; simp only [Lit.wf, Bool.and_eq_true, decide_eq_true_eq] at h; exact h.1) (by have h := wxm; simp only [Lit.wf, Bool.and_eq_true, decide_eq_true_eq] at h; exact Int.lt_of_le_of_lt h.2 (by decide)) (by have h := wxi; simp only [Lit.wf, Bool.and_eq_true, decide_eq_true_eq] at h; exact h.1) (by have h := wxi; simp only [Lit.wf, Bool.and_eq_true, decide_eq_true_eq] at h; exact Int.lt_of_le_of_lt h.2 (by decide)) (by have h := wxj; simp only [Lit.wf, Bool.and_eq_true, decide_eq_true_eq] at h; exact h.1) (by have h := wxj; simp only [Lit.wf, Bool.and_eq_true, decide_eq_true_eq] at h; exact Int.lt_of_le_of_lt h.2 (by decide)) W (pow10_of hL)).mono fun e W' ⟨he, bel⟩ => ?_
  subst he
  exact ⟨_, rfl, _, _, _, [], _, [], hW', trodAll_mk1 (shut_bool Tryd.underlying4 _), (trodAll_cons_mk (Below.trod laidOutWideTells (by kernel_rfl) (of_decide_eq_true (by kernel_rfl)) k0 bel lt0) (trodAll_cons_mk (Below.trod laidOutWideTells (by kernel_rfl) (of_decide_eq_true (by kernel_rfl)) k1 bel lt1) (trodAll_cons_mk (Below.trod laidOutWideTells (by kernel_rfl) (of_decide_eq_true (by kernel_rfl)) k2 bel lt2) trodAll_mk0))), rfl, bel.frame _, fun h => by cases h⟩

theorem WideTells_holds : Rows.WideTellsSaid :=
  OpenClaim.holds_of_wide 8 Tryd.f8 rfl rfl rfl rfl rfl rfl rfl ⟨rfl, rfl, rfl, rfl, rfl⟩ rfl rfl rfl rfl rfl (by kernel_rfl) Tryd.func8 (by kernel_rfl)
    (of_decide_eq_true (by kernel_rfl)) (by unfold Func.isWrapper; first | (rw [if_pos (by decide +kernel)]; kernel_rfl) | (rw [if_neg (by decide +kernel)]; exact ⟨rfl, rfl⟩))
    (fun os started H enc _ => WideTells_lifted os started H enc)

/-- The tied card. -/
theorem WideTells_card : Rows.WideTellsCardSaid :=
  Claim7.holds_tied_plain_at .later [] [.data, .data, .data] true (true, "1d2722854f4a2c522822e8af33364f4d84537adcbe8faaaca132b3f140c47316") false
    WideTells_holds (fun _ h => by cases h) (by kernel_rfl) (fun _ h => by cases h) wideTells_row_tie rfl ⟨rfl, rfl⟩ (by kernel_rfl) rfl
    (fun f fn hf hfn => by
      obtain rfl : f = 8 := Option.some.inj ((show Tryd.prog.funcNamed Rows.wideTellsRow.func = some 8 by kernel_rfl).symm.trans hf) |>.symm
      obtain rfl : fn = Tryd.f8 := (Option.some.inj (Tryd.func8.symm.trans hfn)).symm
      exact ⟨by kernel_rfl, fun j t ht => by
        rw [Tryd.params8] at ht
        have hm : t ∈ [24, 60] := by simpa using Array.mem_of_getElem? ht
        have hall : ([24, 60].all fun u => !Tryd.prog.wantsStandIn u) = true := by kernel_rfl
        exact (show Tryd.prog.wantsStandIn t = false by simpa using List.all_eq_true.1 hall t hm)⟩)
    (by kernel_rfl)
end Go.Proofs.YtplbglcdmimdoaaDoor
