/- The contract of the document's Put (layer 5). -/
import Derived.Test.YtjpemijonjmcdaaRefHeight
namespace Go.Proofs.Ytjpemijonjmcdaa
open Go.RowKit
set_option linter.unusedVariables false
set_option linter.unusedSimpArgs false

theorem wpAnyU_two {P : Program} {md : Region.Mode} {ops : Array Oper} {Q : Exit → Act → World → Prop} {S : World → Prop} {D : List Nat} {i j : Nat} {oi oj : Oper} {fuel : Nat} {listed : Array Bool} {a : Act} {w : World} (hi : ops[i]? = some oi) (hj : ops[j]? = some oj) (hr : Region.ready md ops listed = [i, j]) (hgi : oi.guard = none) (hgj : oj.guard = none)
    (h1 : ∀ K : Act → World → Prop, Shut (∀ a' w', S w' → (S w' → wpAnyU P md ops Q S D fuel (listed.setIfInBounds i true) a' w') → K a' w') → oi.wp P a w K Q)
    (h2 : ∀ K : Act → World → Prop, Shut (∀ a' w', S w' → (S w' → wpAnyU P md ops Q S D fuel (listed.setIfInBounds j true) a' w') → K a' w') → oj.wp P a w K Q) : wpAnyU P md ops Q S D (fuel + 1) listed a w := by
  refine ⟨fun h0 => (by rw [hr] at h0; cases h0), fun x hx => ?_⟩
  rw [hr] at hx
  rcases (by simpa using hx : x = i ∨ x = j) with rfl | rfl
  · unfold wpOp
    have hw : Region.wanted oi (yielded ops a.tmps) = true := by simp [Region.wanted, hgi]
    simp only [hi, hw, if_true]
    exact .inl (h1 _ fun a' w' hS h2 => ⟨fun _ => hS, h2 hS⟩)
  · unfold wpOp
    have hw : Region.wanted oj (yielded ops a.tmps) = true := by simp [Region.wanted, hgj]
    simp only [hj, hw, if_true]
    exact .inl (h2 _ fun a' w' hS h2 => ⟨fun _ => hS, h2 hS⟩)

theorem rput_fin {Z : World} {base k : Nat} {a : Option Addr} {ns : List Nd} {n : Nd} (ho : Z.ownsRow base 36 7 (.slice a (ns.length + 1) k) (ns.length + 1) (flatN ns ++ n.cells.toList)) : NdRow Z a (ns ++ [n]) ∧ ns.length + 1 ≤ k ∧ ∀ g ∈ addrB a, base ≤ g ∧ g < Z.heap.size :=
  ⟨row_of_nodes (by rw [flatN_snoc]; exact ho) (by simp), own_cap ho, fun g hg => ho.lt g ((mem_addrB (n := ns.length + 1) (c := k)).1 hg)⟩

theorem reads_cells_at {w : World} {g : Nat} (hg : g = w.heap.size) (cs : Array Value) (e : TypeId) (m size : Nat) (h : cs.size = m * size) : Reads (w.alloc (.cells cs e)) (g + 1) size (some ⟨g, 0, none⟩) m cs.toList := by subst hg; exact reads_cells w cs e m size h
theorem own_zero_at {w : World} {g : Nat} (hg : g = w.heap.size) (e : TypeId) (size : Nat) {B : Nat} (hB : B ≤ w.heap.size) : (w.alloc (.cells #[] e)).ownsRow B e size (.slice (some ⟨g, 0, none⟩) 0 0) 0 [] := by subst hg; exact own_zero w e size hB

/-- What there is behind the document's Put: nodes in memory that nobody writes. -/
def RPut (ao : Option Addr) (ns : List Nd) (most : Int) (n : Nd) (w : World) (e : Ending) (w' : World) : Prop :=
  ∃ a c, e = .returned (.tuple #[.slice a (putNs ns most n).length c, .int .i64 (putAt ns most n), .int .i64 (putErr ns most n)]) ∧ NdRow w' a (putNs ns most n) ∧ (putNs ns most n).length ≤ c ∧ Below w.heap.size w w' ∧ (a = ao ∨ ∀ g ∈ addrB a, w.heap.size ≤ g ∧ g < w'.heap.size)

set_option maxRecDepth 100000 in
set_option maxHeartbeats 4000000 in
theorem rput_any (ns : List Nd) (ao : Option Addr) (cap : Nat) (most : Int) (n : Nd) (w : World) (hr : rightL [] ns = true) (hrow : NdRow w ao ns) (hlen : ns.length ≤ 60) (hcap : ns.length ≤ cap) :
    Calls Try.prog 36 #[.slice ao ns.length cap, .int .i64 most, n.val] w (RPut ao ns most n w) := by
  have HN := Lib.hid hrow
  have hme := may_eq hr n
  have HPE := Lib.hid (show putErr ns most n = if rmayB ns n = true then (if (ns.length : Int) < most then 0 else 5) else 50 by unfold putErr; rw [hme])
  clear hrow hme hr
  go_enter Try.func36, Try.ntmps36
  go_upto_region 1 with (fail)
  refine from_box1 (fun V hV => ?_)
  obtain ⟨hB, zlt, zge, cn, fn⟩ := hV
  have m0 : V.cell? ⟨w.heap.size, 0, none⟩ = some (.int .u8 n.k) := cn 0
  have m1 : V.cell? ⟨w.heap.size, 1, none⟩ = some (.int .i64 n.l) := cn 1
  have m2 : V.cell? ⟨w.heap.size, 2, none⟩ = some (.int .i64 n.r) := cn 2
  have m3 : V.cell? ⟨w.heap.size, 3, none⟩ = some (.int .i64 n.f) := cn 3
  have m4 : V.cell? ⟨w.heap.size, 4, none⟩ = some (.int .i64 n.t) := cn 4
  have m5 : V.cell? ⟨w.heap.size, 5, none⟩ = some (.int .i64 n.a) := cn 5
  have m6 : V.cell? ⟨w.heap.size, 6, none⟩ = some (.int .i64 n.i) := cn 6
  have HBV := Lib.hid hB
  clear hB cn fn
  cases hm : rmayB ns n with
  | false =>
    have HE := Lib.hid (show putErr ns most n = 50 ∧ putAt ns most n = 0 ∧ putNs ns most n = ns by
      have h := HPE.out
      rw [hm, if_neg (by simp)] at h
      exact ⟨h, by unfold putAt; rw [h, if_neg (by omega)], by unfold putNs; rw [h, if_neg (by omega)]⟩)
    have HM := Lib.hid hm
    clear hm
    go_wp2_with fail
    refine (rmay_any ns n ao cap _ (HN.out.later HBV.out) (by omega)).mono ?_
    rw [HM.out]
    rintro e w1 ⟨rfl, hb1⟩
    have HB1 := Lib.hid (bl HBV.out HBV.out.size hb1)
    clear hb1
    go_wp2
    refine bodyPost_ret (v := .tuple #[.slice ao ns.length cap, .int .i64 0, .int .i64 50]) (by simp [results, Try.results36, go_sem]) rfl ?_
    refine ⟨ao, cap, by rw [HE.out.1, HE.out.2.1, HE.out.2.2], by rw [HE.out.2.2]; exact HN.out.later HB1.out, by rw [HE.out.2.2]; exact hcap, HB1.out, .inl rfl⟩
  | true =>
    have hpe := HPE.out
    rw [hm, if_pos rfl] at hpe
    have HM := Lib.hid hm
    clear hm
    by_cases hfull : most ≤ ns.length
    · have HE := Lib.hid (show putErr ns most n = 5 ∧ putAt ns most n = 0 ∧ putNs ns most n = ns by
        rw [if_neg (by omega)] at hpe
        exact ⟨hpe, by unfold putAt; rw [hpe, if_neg (by omega)], by unfold putNs; rw [hpe, if_neg (by omega)]⟩)
      clear hpe
      go_wp2_with fail
      refine (rmay_any ns n ao cap _ (HN.out.later HBV.out) (by omega)).mono ?_
      rw [HM.out]
      rintro e w1 ⟨rfl, hb1⟩
      have HB1 := Lib.hid (bl HBV.out HBV.out.size hb1)
      clear hb1
      go_wp2
      refine bodyPost_ret (v := .tuple #[.slice ao ns.length cap, .int .i64 0, .int .i64 5]) (by simp [results, Try.results36, go_sem]) rfl ?_
      refine ⟨ao, cap, by rw [HE.out.1, HE.out.2.1, HE.out.2.2], by rw [HE.out.2.2]; exact HN.out.later HB1.out, by rw [HE.out.2.2]; exact hcap, HB1.out, .inl rfl⟩
    · have hroom : (ns.length : Int) < most := by omega
      have HE := Lib.hid (show putErr ns most n = 0 ∧ putAt ns most n = ns.length ∧ putNs ns most n = ns ++ [n] by
        rw [if_pos hroom] at hpe
        exact ⟨hpe, by unfold putAt; rw [hpe, if_pos rfl], by unfold putNs; rw [hpe, if_pos rfl]⟩)
      clear hpe hfull
      go_wp2_with fail
      refine (rmay_any ns n ao cap _ (HN.out.later HBV.out) (by omega)).mono ?_
      rw [HM.out]
      rintro e w1 ⟨rfl, hb1⟩
      have e0 := (hb1.cell (p := ⟨w.heap.size, 0, none⟩) zlt).trans m0
      have e1 := (hb1.cell (p := ⟨w.heap.size, 1, none⟩) zlt).trans m1
      have e2 := (hb1.cell (p := ⟨w.heap.size, 2, none⟩) zlt).trans m2
      have e3 := (hb1.cell (p := ⟨w.heap.size, 3, none⟩) zlt).trans m3
      have e4 := (hb1.cell (p := ⟨w.heap.size, 4, none⟩) zlt).trans m4
      have e5 := (hb1.cell (p := ⟨w.heap.size, 5, none⟩) zlt).trans m5
      have e6 := (hb1.cell (p := ⟨w.heap.size, 6, none⟩) zlt).trans m6
      have HB1 := Lib.hid (bl HBV.out HBV.out.size hb1)
      clear hb1 m0 m1 m2 m3 m4 m5 m6
      go_wp2_with fail
      -- REGION
      obtain ⟨i0, hi, hzz, hz1, hz2⟩ := info_parts infoNode
      have hzw : w.heap.size < w1.heap.size := World.block_lt_of_cell? _ _ e0
      have HA := Lib.hid (HN.out.later HB1.out)
      have hS : Below w1.heap.size w1 w1.drew := (Below.refl _ _).drew
      refine wp_region_until (fun w' => Below w1.heap.size w1 w') [0, 2, 3, 4, 5] (by kernel_rfl) ?_
      refine wpAnyU_free (i := 1) rfl (by kernel_rfl) (by kernel_rfl) (by kernel_rfl) (by kernel_rfl) (by kernel_rfl) (fun _ _ _ h => h) rfl (fun w => by go_simp; rfl) (.inr hS) ?_
      (try simp only [Act.put, List.setIfInBounds_toArray, List.set_cons_zero, List.set_cons_succ])
      refine wpAnyU_free (i := 6) rfl (by kernel_rfl) (by kernel_rfl) (by kernel_rfl) (by kernel_rfl) (by kernel_rfl) (fun _ _ _ h => h) rfl (fun w => by go_simp; rfl) (.inr hS) ?_
      (try simp only [Act.put, List.setIfInBounds_toArray, List.set_cons_zero, List.set_cons_succ])
      refine wpAnyU_free (i := 7) rfl (by kernel_rfl) (by kernel_rfl) (by kernel_rfl) (by kernel_rfl) (by kernel_rfl) (fun _ _ _ h => h) rfl (fun w => by go_simp; rfl) (.inr hS) ?_
      (try simp only [Act.put, List.setIfInBounds_toArray, List.set_cons_zero, List.set_cons_succ])
      refine wpAnyU_take (i := 3) rfl (by kernel_rfl) (by kernel_rfl) (by kernel_rfl) (by kernel_rfl) (by kernel_rfl) (by kernel_rfl) (fun _ _ _ h => h) rfl (by intro x hw; have f0 := (hw.cell (p := ⟨w.heap.size, 0, none⟩) hzw).trans e0; have f1 := (hw.cell (p := ⟨w.heap.size, 1, none⟩) hzw).trans e1; have f2 := (hw.cell (p := ⟨w.heap.size, 2, none⟩) hzw).trans e2; have f3 := (hw.cell (p := ⟨w.heap.size, 3, none⟩) hzw).trans e3; have f4 := (hw.cell (p := ⟨w.heap.size, 4, none⟩) hzw).trans e4; have f5 := (hw.cell (p := ⟨w.heap.size, 5, none⟩) hzw).trans e5; have f6 := (hw.cell (p := ⟨w.heap.size, 6, none⟩) hzw).trans e6; go_simp; rfl) hS ?_
      (try simp only [Act.put, List.setIfInBounds_toArray, List.set_cons_zero, List.set_cons_succ])
      clear e0 e1 e2 e3 e4 e5 e6
      obtain ⟨X, hX⟩ : ∃ X, w1.drew = X := ⟨_, rfl⟩
      rw [hX] at hS ⊢
      clear hX
      have hS0 := hS
      refine wpAnyU_two (i := 0) (j := 4) rfl rfl (by kernel_rfl) rfl rfl (fun K hK => ?_) (fun K hK => ?_)
      · go_simp
        refine hK.out _ _ (hS.alloc hS.size _) (fun hS => ?_)
        clear hK K
        (try simp only [Act.put, List.setIfInBounds_toArray, List.set_cons_zero, List.set_cons_succ])
        refine wpAnyU_two (i := 2) (j := 4) rfl rfl (by kernel_rfl) rfl rfl (fun K hK => ?_) (fun K hK => ?_)
        · have hown := own_zero X 36 7 hS0.size
          refine wp_append_any _ _ _ _ rfl w1.heap.size 36 i0 (nodeV 0 0 0 0 0 0 0) 7 56 Try.underlying22 hi hzz hz1 hz2 rfl (by omega) (.slice (some ⟨X.heap.size, 0, none⟩) 0 0) 0 [] rfl hown _ ao ns.length cap (flatN ns) rfl ((HA.out.later hS).reads) (flatN_one ns) (by unfold maxLen; omega) (by omega) hS.size ?_
          intro v1 Y ho1 hg1 _
          rw [Nat.zero_add, List.nil_append] at ho1
          obtain ⟨a1, k1, rfl⟩ := own_shape ho1
          refine hK.out _ _ (hS.grown hg1 hS.size (fun r hr => (hown.lt r hr).1)) (fun hS => ?_)
          clear hK K
          (try simp only [Act.put, List.setIfInBounds_toArray, List.set_cons_zero, List.set_cons_succ])
          refine wpAnyU_step (i := 4) rfl (by kernel_rfl) rfl (fun K hK => ?_)
          go_simp
          refine hK.out _ _ (hS.alloc hS.size _) (fun hS => ?_)
          clear hK K
          (try simp only [Act.put, List.setIfInBounds_toArray, List.set_cons_zero, List.set_cons_succ])
          refine wpAnyU_step (i := 5) rfl (by kernel_rfl) rfl (fun K hK => ?_)
          have hown2 := ho1.alloc (.cells n.cells 36)
          refine wp_append_any _ _ _ _ rfl w1.heap.size 36 i0 (nodeV 0 0 0 0 0 0 0) 7 56 Try.underlying22 hi hzz hz1 hz2 rfl (by omega) (.slice a1 ns.length k1) ns.length (flatN ns) rfl hown2 _ _ 1 1 n.cells.toList rfl (reads_cells Y n.cells 36 1 7 rfl) (flatN_one [n]) (by unfold maxLen; omega) (by omega) hS.size ?_
          intro v2 Z ho2 hg2 _
          obtain ⟨a2, k2, rfl⟩ := own_shape ho2
          refine hK.out _ _ (hS.grown hg2 hS.size (fun r hr => (hown2.lt r hr).1)) (fun hS => ?_)
          clear hK K
          (try simp only [Act.put, List.setIfInBounds_toArray, List.set_cons_zero, List.set_cons_succ])
          refine wpAnyU_rest _ 8 3 rfl rfl (by kernel_rfl) (by kernel_rfl) ?_
          simp only [List.drop_succ_cons, List.drop_zero]
          have HF := Lib.hid (rput_fin ho2)
          have HBF := Lib.hid (bl HB1.out HB1.out.size hS)
          clear ho2 hg2 hown2 hS
          go_wp2
          refine bodyPost_ret (v := .tuple #[.slice a2 (ns.length + 1) k2, .int .i64 ns.length, .int .i64 0]) (by simp [results, Try.results36, go_sem]) rfl ?_
          refine ⟨a2, k2, by rw [HE.out.1, HE.out.2.1, HE.out.2.2]; simp, by rw [HE.out.2.2]; exact HF.out.1, by rw [HE.out.2.2]; simp; exact HF.out.2.1, HBF.out, .inr (fun g hg => ⟨Nat.le_trans HB1.out.size (HF.out.2.2 g hg).1, (HF.out.2.2 g hg).2⟩)⟩
        · go_simp
          refine hK.out _ _ (hS.alloc hS.size _) (fun hS => ?_)
          clear hK K
          (try simp only [Act.put, List.setIfInBounds_toArray, List.set_cons_zero, List.set_cons_succ])
          refine wpAnyU_step (i := 2) rfl (by kernel_rfl) rfl (fun K hK => ?_)
          have hown := (own_zero X 36 7 hS0.size).alloc (.cells n.cells 36)
          refine wp_append_any _ _ _ _ rfl w1.heap.size 36 i0 (nodeV 0 0 0 0 0 0 0) 7 56 Try.underlying22 hi hzz hz1 hz2 rfl (by omega) (.slice (some ⟨X.heap.size, 0, none⟩) 0 0) 0 [] rfl hown _ ao ns.length cap (flatN ns) rfl ((HA.out.later hS).reads) (flatN_one ns) (by unfold maxLen; omega) (by omega) hS.size ?_
          intro v1 Y ho1 hg1 _
          rw [Nat.zero_add, List.nil_append] at ho1
          obtain ⟨a1, k1, rfl⟩ := own_shape ho1
          refine hK.out _ _ (hS.grown hg1 hS.size (fun r hr => (hown.lt r hr).1)) (fun hS => ?_)
          clear hK K
          (try simp only [Act.put, List.setIfInBounds_toArray, List.set_cons_zero, List.set_cons_succ])
          refine wpAnyU_step (i := 5) rfl (by kernel_rfl) rfl (fun K hK => ?_)
          have hown2 := ho1
          refine wp_append_any _ _ _ _ rfl w1.heap.size 36 i0 (nodeV 0 0 0 0 0 0 0) 7 56 Try.underlying22 hi hzz hz1 hz2 rfl (by omega) (.slice a1 ns.length k1) ns.length (flatN ns) rfl hown2 _ _ 1 1 n.cells.toList rfl (reads_block (reads_cells_at (show X.heap.size + 1 = (X.alloc (.cells #[] 36)).heap.size by simp) n.cells 36 1 7 rfl) (hg1.block _ (by simp) (by simp [Value.ownBlock]))) (flatN_one [n]) (by unfold maxLen; omega) (by omega) hS.size ?_
          intro v2 Z ho2 hg2 _
          obtain ⟨a2, k2, rfl⟩ := own_shape ho2
          refine hK.out _ _ (hS.grown hg2 hS.size (fun r hr => (hown2.lt r hr).1)) (fun hS => ?_)
          clear hK K
          (try simp only [Act.put, List.setIfInBounds_toArray, List.set_cons_zero, List.set_cons_succ])
          refine wpAnyU_rest _ 8 3 rfl rfl (by kernel_rfl) (by kernel_rfl) ?_
          simp only [List.drop_succ_cons, List.drop_zero]
          have HF := Lib.hid (rput_fin ho2)
          have HBF := Lib.hid (bl HB1.out HB1.out.size hS)
          clear ho2 hg2 hown2 hS
          go_wp2
          refine bodyPost_ret (v := .tuple #[.slice a2 (ns.length + 1) k2, .int .i64 ns.length, .int .i64 0]) (by simp [results, Try.results36, go_sem]) rfl ?_
          refine ⟨a2, k2, by rw [HE.out.1, HE.out.2.1, HE.out.2.2]; simp, by rw [HE.out.2.2]; exact HF.out.1, by rw [HE.out.2.2]; simp; exact HF.out.2.1, HBF.out, .inr (fun g hg => ⟨Nat.le_trans HB1.out.size (HF.out.2.2 g hg).1, (HF.out.2.2 g hg).2⟩)⟩
      · go_simp
        refine hK.out _ _ (hS.alloc hS.size _) (fun hS => ?_)
        clear hK K
        (try simp only [Act.put, List.setIfInBounds_toArray, List.set_cons_zero, List.set_cons_succ])
        refine wpAnyU_step (i := 0) rfl (by kernel_rfl) rfl (fun K hK => ?_)
        go_simp
        refine hK.out _ _ (hS.alloc hS.size _) (fun hS => ?_)
        clear hK K
        (try simp only [Act.put, List.setIfInBounds_toArray, List.set_cons_zero, List.set_cons_succ])
        refine wpAnyU_step (i := 2) rfl (by kernel_rfl) rfl (fun K hK => ?_)
        have hown := own_zero_at (show X.heap.size + 1 = (X.alloc (.cells n.cells 36)).heap.size by simp) 36 7 (Nat.le_trans hS0.size (by simp))
        refine wp_append_any _ _ _ _ rfl w1.heap.size 36 i0 (nodeV 0 0 0 0 0 0 0) 7 56 Try.underlying22 hi hzz hz1 hz2 rfl (by omega) (.slice (some ⟨X.heap.size + 1, 0, none⟩) 0 0) 0 [] rfl hown _ ao ns.length cap (flatN ns) rfl ((HA.out.later hS).reads) (flatN_one ns) (by unfold maxLen; omega) (by omega) hS.size ?_
        intro v1 Y ho1 hg1 _
        rw [Nat.zero_add, List.nil_append] at ho1
        obtain ⟨a1, k1, rfl⟩ := own_shape ho1
        refine hK.out _ _ (hS.grown hg1 hS.size (fun r hr => (hown.lt r hr).1)) (fun hS => ?_)
        clear hK K
        (try simp only [Act.put, List.setIfInBounds_toArray, List.set_cons_zero, List.set_cons_succ])
        refine wpAnyU_step (i := 5) rfl (by kernel_rfl) rfl (fun K hK => ?_)
        have hown2 := ho1
        refine wp_append_any _ _ _ _ rfl w1.heap.size 36 i0 (nodeV 0 0 0 0 0 0 0) 7 56 Try.underlying22 hi hzz hz1 hz2 rfl (by omega) (.slice a1 ns.length k1) ns.length (flatN ns) rfl hown2 _ _ 1 1 n.cells.toList rfl (reads_block ((reads_cells X n.cells 36 1 7 rfl).alloc (by simp) (.cells #[] 36)) (hg1.block _ (by simp only [World.size_alloc]; omega) (by simp [Value.ownBlock]))) (flatN_one [n]) (by unfold maxLen; omega) (by omega) hS.size ?_
        intro v2 Z ho2 hg2 _
        obtain ⟨a2, k2, rfl⟩ := own_shape ho2
        refine hK.out _ _ (hS.grown hg2 hS.size (fun r hr => (hown2.lt r hr).1)) (fun hS => ?_)
        clear hK K
        (try simp only [Act.put, List.setIfInBounds_toArray, List.set_cons_zero, List.set_cons_succ])
        refine wpAnyU_rest _ 8 3 rfl rfl (by kernel_rfl) (by kernel_rfl) ?_
        simp only [List.drop_succ_cons, List.drop_zero]
        have HF := Lib.hid (rput_fin ho2)
        have HBF := Lib.hid (bl HB1.out HB1.out.size hS)
        clear ho2 hg2 hown2 hS
        go_wp2
        refine bodyPost_ret (v := .tuple #[.slice a2 (ns.length + 1) k2, .int .i64 ns.length, .int .i64 0]) (by simp [results, Try.results36, go_sem]) rfl ?_
        refine ⟨a2, k2, by rw [HE.out.1, HE.out.2.1, HE.out.2.2]; simp, by rw [HE.out.2.2]; exact HF.out.1, by rw [HE.out.2.2]; simp; exact HF.out.2.1, HBF.out, .inr (fun g hg => ⟨Nat.le_trans HB1.out.size (HF.out.2.2 g hg).1, (HF.out.2.2 g hg).2⟩)⟩
end Go.Proofs.Ytjpemijonjmcdaa
