/- WideSums: the walk. -/
import Derived.Test.YtplbglcdmimdoaaDoorWideBoxes
namespace Go.Proofs.YtplbglcdmimdoaaDoor
open Go.RowKit
set_option linter.unusedVariables false
set_option linter.unusedSimpArgs false

set_option maxRecDepth 100000 in
set_option maxHeartbeats 4000000 in
theorem WideSums_way (pa qa pb qb pc qc px qx pz qz pv qv pw qw : Int) (p q r s : Bool) (hc : (p = true ∧ q = true ∧ r = true ∧ s = true ∧ pz = pw ∧ qz = qw) ∨ ((p = true ∧ q = false ∨ p = false ∧ q = true) ∧ (r = true ∧ s = false ∨ r = false ∧ s = true)))
    (AD1 : Hid (∀ w, Calls Tryd.prog 11 #[W2 pa qa, W2 pb qb] w fun e w' => e = .returned (.tuple #[W2 px qx, .bool p]) ∧ Below w.heap.size w w')) (AD2 : Hid (∀ w, Calls Tryd.prog 11 #[W2 pb qb, W2 pa qa] w fun e w' => e = .returned (.tuple #[W2 px qx, .bool p]) ∧ Below w.heap.size w w')) (AD3 : Hid (∀ w, Calls Tryd.prog 11 #[W2 px qx, W2 pc qc] w fun e w' => e = .returned (.tuple #[W2 pz qz, .bool q]) ∧ Below w.heap.size w w'))
    (AD4 : Hid (∀ w, Calls Tryd.prog 11 #[W2 pb qb, W2 pc qc] w fun e w' => e = .returned (.tuple #[W2 pv qv, .bool r]) ∧ Below w.heap.size w w')) (AD5 : Hid (∀ w, Calls Tryd.prog 11 #[W2 pa qa, W2 pv qv] w fun e w' => e = .returned (.tuple #[W2 pw qw, .bool s]) ∧ Below w.heap.size w w'))
    (w : World) (HT : Hid (Lib.TabIs Tryd.prog w "internal/strconv.uint64pow10" .u64 Lib.pow10Tab)) : Calls Tryd.prog 3 #[W2 pa qa, W2 pb qb, W2 pc qc] w fun e w' => e = .returned (.bool true) ∧ Below w.heap.size w w' := by
  go_enter Tryd.func3, Tryd.ntmps3
  go_upto_region 1 with (fail)
  refine box3 (fun V hB k3 k4 k5 => ?_)
  have HB := Lib.hid hB
  have K3 := Lib.hid k3
  have K4 := Lib.hid k4
  have K5 := Lib.hid k5
  clear k3 k4 k5 hB
  obtain ⟨b3, hb3⟩ : ∃ b, w.heap.size = b := ⟨_, rfl⟩
  rw [hb3] at K3 K4 K5 ⊢
  clear hb3
  rcases hc with ⟨rfl, rfl, rfl, rfl, rfl, rfl⟩ | hc
  rotate_left
  rcases hc with ⟨⟨rfl, rfl⟩ | ⟨rfl, rfl⟩, ⟨rfl, rfl⟩ | ⟨rfl, rfl⟩⟩
  rotate_left 4
  case inl =>
    obtain ⟨l3, c3, d3⟩ := K3.out
    obtain ⟨l4, c4, d4⟩ := K4.out
    go_wp2_with fail
    clear l3 c3 d3 l4 c4 d4
    refine (AD1.out _).mono ?_
    rintro e wl1 ⟨rfl, hb⟩
    go_upto_region 2 with (fail)
    replace K3 := Lib.hid ((K3.out.later hb).alloc (.cells #[.int .u64 px, .int .u64 qx] 24))
    replace K4 := Lib.hid ((K4.out.later hb).alloc (.cells #[.int .u64 px, .int .u64 qx] 24))
    replace K5 := Lib.hid ((K5.out.later hb).alloc (.cells #[.int .u64 px, .int .u64 qx] 24))
    replace HB := Lib.hid (bla HB.out hb (.cells #[.int .u64 px, .int .u64 qx] 24))
    have K7 := Lib.hid (WB.new wl1 px qx 24)
    obtain ⟨b7, hbe⟩ : ∃ b, wl1.heap.size = b := ⟨_, rfl⟩
    rw [hbe] at K7 ⊢
    clear hb hbe
    generalize wl1.alloc (.cells #[.int .u64 px, .int .u64 qx] 24) = vl1 at K3 K4 K5 K7 HB ⊢
    obtain ⟨l3, c3, d3⟩ := K3.out
    obtain ⟨l4, c4, d4⟩ := K4.out
    go_wp2_with fail
    clear l3 c3 d3 l4 c4 d4
    refine (AD2.out _).mono ?_
    rintro e wl2 ⟨rfl, hb⟩
    go_upto_region 3 with (fail)
    replace K3 := Lib.hid ((K3.out.later hb).alloc (.cells #[.int .u64 px, .int .u64 qx] 24))
    replace K4 := Lib.hid ((K4.out.later hb).alloc (.cells #[.int .u64 px, .int .u64 qx] 24))
    replace K5 := Lib.hid ((K5.out.later hb).alloc (.cells #[.int .u64 px, .int .u64 qx] 24))
    replace K7 := Lib.hid ((K7.out.later hb).alloc (.cells #[.int .u64 px, .int .u64 qx] 24))
    replace HB := Lib.hid (bla HB.out hb (.cells #[.int .u64 px, .int .u64 qx] 24))
    have K9 := Lib.hid (WB.new wl2 px qx 24)
    obtain ⟨b9, hbe⟩ : ∃ b, wl2.heap.size = b := ⟨_, rfl⟩
    rw [hbe] at K9 ⊢
    clear hb hbe
    generalize wl2.alloc (.cells #[.int .u64 px, .int .u64 qx] 24) = vl2 at K3 K4 K5 K7 K9 HB ⊢
    obtain ⟨l7, c7, d7⟩ := K7.out
    obtain ⟨l9, c9, d9⟩ := K9.out
    obtain ⟨l5, c5, d5⟩ := K5.out
    go_wp2_with fail
    clear l7 c7 d7 l9 c9 d9 l5 c5 d5
    refine (AD3.out _).mono ?_
    rintro e wl3 ⟨rfl, hb⟩
    go_upto_region 6 with (fail)
    replace K3 := Lib.hid ((K3.out.later hb).alloc (.cells #[.int .u64 pz, .int .u64 qz] 24))
    replace K4 := Lib.hid ((K4.out.later hb).alloc (.cells #[.int .u64 pz, .int .u64 qz] 24))
    replace K5 := Lib.hid ((K5.out.later hb).alloc (.cells #[.int .u64 pz, .int .u64 qz] 24))
    replace K7 := Lib.hid ((K7.out.later hb).alloc (.cells #[.int .u64 pz, .int .u64 qz] 24))
    replace K9 := Lib.hid ((K9.out.later hb).alloc (.cells #[.int .u64 pz, .int .u64 qz] 24))
    replace HB := Lib.hid (bla HB.out hb (.cells #[.int .u64 pz, .int .u64 qz] 24))
    have K11 := Lib.hid (WB.new wl3 pz qz 24)
    obtain ⟨b11, hbe⟩ : ∃ b, wl3.heap.size = b := ⟨_, rfl⟩
    rw [hbe] at K11 ⊢
    clear hb hbe
    generalize wl3.alloc (.cells #[.int .u64 pz, .int .u64 qz] 24) = vl3 at K3 K4 K5 K7 K9 K11 HB ⊢
    obtain ⟨l4, c4, d4⟩ := K4.out
    obtain ⟨l5, c5, d5⟩ := K5.out
    go_wp2_with fail
    clear l4 c4 d4 l5 c5 d5
    refine (AD4.out _).mono ?_
    rintro e wl4 ⟨rfl, hb⟩
    go_upto_region 8 with (fail)
    replace K3 := Lib.hid ((K3.out.later hb).alloc (.cells #[.int .u64 pv, .int .u64 qv] 24))
    replace K4 := Lib.hid ((K4.out.later hb).alloc (.cells #[.int .u64 pv, .int .u64 qv] 24))
    replace K5 := Lib.hid ((K5.out.later hb).alloc (.cells #[.int .u64 pv, .int .u64 qv] 24))
    replace K7 := Lib.hid ((K7.out.later hb).alloc (.cells #[.int .u64 pv, .int .u64 qv] 24))
    replace K9 := Lib.hid ((K9.out.later hb).alloc (.cells #[.int .u64 pv, .int .u64 qv] 24))
    replace K11 := Lib.hid ((K11.out.later hb).alloc (.cells #[.int .u64 pv, .int .u64 qv] 24))
    replace HB := Lib.hid (bla HB.out hb (.cells #[.int .u64 pv, .int .u64 qv] 24))
    have K13 := Lib.hid (WB.new wl4 pv qv 24)
    obtain ⟨b13, hbe⟩ : ∃ b, wl4.heap.size = b := ⟨_, rfl⟩
    rw [hbe] at K13 ⊢
    clear hb hbe
    generalize wl4.alloc (.cells #[.int .u64 pv, .int .u64 qv] 24) = vl4 at K3 K4 K5 K7 K9 K11 K13 HB ⊢
    obtain ⟨l3, c3, d3⟩ := K3.out
    obtain ⟨l13, c13, d13⟩ := K13.out
    go_wp2_with fail
    clear l3 c3 d3 l13 c13 d13
    refine (AD5.out _).mono ?_
    rintro e wl5 ⟨rfl, hb⟩
    go_upto_region 9 with (fail)
    replace K3 := Lib.hid ((K3.out.later hb).alloc (.cells #[.int .u64 pz, .int .u64 qz] 24))
    replace K4 := Lib.hid ((K4.out.later hb).alloc (.cells #[.int .u64 pz, .int .u64 qz] 24))
    replace K5 := Lib.hid ((K5.out.later hb).alloc (.cells #[.int .u64 pz, .int .u64 qz] 24))
    replace K7 := Lib.hid ((K7.out.later hb).alloc (.cells #[.int .u64 pz, .int .u64 qz] 24))
    replace K9 := Lib.hid ((K9.out.later hb).alloc (.cells #[.int .u64 pz, .int .u64 qz] 24))
    replace K11 := Lib.hid ((K11.out.later hb).alloc (.cells #[.int .u64 pz, .int .u64 qz] 24))
    replace K13 := Lib.hid ((K13.out.later hb).alloc (.cells #[.int .u64 pz, .int .u64 qz] 24))
    replace HB := Lib.hid (bla HB.out hb (.cells #[.int .u64 pz, .int .u64 qz] 24))
    have K14 := Lib.hid (WB.new wl5 pz qz 24)
    obtain ⟨b14, hbe⟩ : ∃ b, wl5.heap.size = b := ⟨_, rfl⟩
    rw [hbe] at K14 ⊢
    clear hb hbe
    generalize wl5.alloc (.cells #[.int .u64 pz, .int .u64 qz] 24) = vl5 at K3 K4 K5 K7 K9 K11 K13 K14 HB ⊢
    obtain ⟨l11, c11, d11⟩ := K11.out
    obtain ⟨l14, c14, d14⟩ := K14.out
    go_wp2_with fail
    clear l11 c11 d11 l14 c14 d14
    refine (awake01_any _ (Tab64.later HT.out HB.out)).mono ?_
    rintro e wz ⟨rfl, hb⟩
    replace HB := Lib.hid (bl HB.out HB.out.size hb)
    clear hb
    go_wp2
    go_ret
    exact ⟨rfl, HB.out⟩
  all_goals
    obtain ⟨l3, c3, d3⟩ := K3.out
    obtain ⟨l4, c4, d4⟩ := K4.out
    go_wp2_with fail
    clear l3 c3 d3 l4 c4 d4
    refine (AD1.out _).mono ?_
    rintro e wl1 ⟨rfl, hb⟩
    go_upto_region 2 with (fail)
    replace K3 := Lib.hid ((K3.out.later hb).alloc (.cells #[.int .u64 px, .int .u64 qx] 24))
    replace K4 := Lib.hid ((K4.out.later hb).alloc (.cells #[.int .u64 px, .int .u64 qx] 24))
    replace K5 := Lib.hid ((K5.out.later hb).alloc (.cells #[.int .u64 px, .int .u64 qx] 24))
    replace HB := Lib.hid (bla HB.out hb (.cells #[.int .u64 px, .int .u64 qx] 24))
    have K7 := Lib.hid (WB.new wl1 px qx 24)
    obtain ⟨b7, hbe⟩ : ∃ b, wl1.heap.size = b := ⟨_, rfl⟩
    rw [hbe] at K7 ⊢
    clear hb hbe
    generalize wl1.alloc (.cells #[.int .u64 px, .int .u64 qx] 24) = vl1 at K3 K4 K5 K7 HB ⊢
    obtain ⟨l3, c3, d3⟩ := K3.out
    obtain ⟨l4, c4, d4⟩ := K4.out
    go_wp2_with fail
    clear l3 c3 d3 l4 c4 d4
    refine (AD2.out _).mono ?_
    rintro e wl2 ⟨rfl, hb⟩
    go_upto_region 3 with (fail)
    replace K3 := Lib.hid ((K3.out.later hb).alloc (.cells #[.int .u64 px, .int .u64 qx] 24))
    replace K4 := Lib.hid ((K4.out.later hb).alloc (.cells #[.int .u64 px, .int .u64 qx] 24))
    replace K5 := Lib.hid ((K5.out.later hb).alloc (.cells #[.int .u64 px, .int .u64 qx] 24))
    replace K7 := Lib.hid ((K7.out.later hb).alloc (.cells #[.int .u64 px, .int .u64 qx] 24))
    replace HB := Lib.hid (bla HB.out hb (.cells #[.int .u64 px, .int .u64 qx] 24))
    have K9 := Lib.hid (WB.new wl2 px qx 24)
    obtain ⟨b9, hbe⟩ : ∃ b, wl2.heap.size = b := ⟨_, rfl⟩
    rw [hbe] at K9 ⊢
    clear hb hbe
    generalize wl2.alloc (.cells #[.int .u64 px, .int .u64 qx] 24) = vl2 at K3 K4 K5 K7 K9 HB ⊢
    obtain ⟨l7, c7, d7⟩ := K7.out
    obtain ⟨l9, c9, d9⟩ := K9.out
    obtain ⟨l5, c5, d5⟩ := K5.out
    go_wp2_with fail
    clear l7 c7 d7 l9 c9 d9 l5 c5 d5
    refine (AD3.out _).mono ?_
    rintro e wl3 ⟨rfl, hb⟩
    go_upto_region 6 with (fail)
    replace K3 := Lib.hid ((K3.out.later hb).alloc (.cells #[.int .u64 pz, .int .u64 qz] 24))
    replace K4 := Lib.hid ((K4.out.later hb).alloc (.cells #[.int .u64 pz, .int .u64 qz] 24))
    replace K5 := Lib.hid ((K5.out.later hb).alloc (.cells #[.int .u64 pz, .int .u64 qz] 24))
    replace K7 := Lib.hid ((K7.out.later hb).alloc (.cells #[.int .u64 pz, .int .u64 qz] 24))
    replace K9 := Lib.hid ((K9.out.later hb).alloc (.cells #[.int .u64 pz, .int .u64 qz] 24))
    replace HB := Lib.hid (bla HB.out hb (.cells #[.int .u64 pz, .int .u64 qz] 24))
    have K11 := Lib.hid (WB.new wl3 pz qz 24)
    obtain ⟨b11, hbe⟩ : ∃ b, wl3.heap.size = b := ⟨_, rfl⟩
    rw [hbe] at K11 ⊢
    clear hb hbe
    generalize wl3.alloc (.cells #[.int .u64 pz, .int .u64 qz] 24) = vl3 at K3 K4 K5 K7 K9 K11 HB ⊢
    obtain ⟨l4, c4, d4⟩ := K4.out
    obtain ⟨l5, c5, d5⟩ := K5.out
    go_wp2_with fail
    clear l4 c4 d4 l5 c5 d5
    refine (AD4.out _).mono ?_
    rintro e wl4 ⟨rfl, hb⟩
    go_upto_region 8 with (fail)
    replace K3 := Lib.hid ((K3.out.later hb).alloc (.cells #[.int .u64 pv, .int .u64 qv] 24))
    replace K4 := Lib.hid ((K4.out.later hb).alloc (.cells #[.int .u64 pv, .int .u64 qv] 24))
    replace K5 := Lib.hid ((K5.out.later hb).alloc (.cells #[.int .u64 pv, .int .u64 qv] 24))
    replace K7 := Lib.hid ((K7.out.later hb).alloc (.cells #[.int .u64 pv, .int .u64 qv] 24))
    replace K9 := Lib.hid ((K9.out.later hb).alloc (.cells #[.int .u64 pv, .int .u64 qv] 24))
    replace K11 := Lib.hid ((K11.out.later hb).alloc (.cells #[.int .u64 pv, .int .u64 qv] 24))
    replace HB := Lib.hid (bla HB.out hb (.cells #[.int .u64 pv, .int .u64 qv] 24))
    have K13 := Lib.hid (WB.new wl4 pv qv 24)
    obtain ⟨b13, hbe⟩ : ∃ b, wl4.heap.size = b := ⟨_, rfl⟩
    rw [hbe] at K13 ⊢
    clear hb hbe
    generalize wl4.alloc (.cells #[.int .u64 pv, .int .u64 qv] 24) = vl4 at K3 K4 K5 K7 K9 K11 K13 HB ⊢
    obtain ⟨l3, c3, d3⟩ := K3.out
    obtain ⟨l13, c13, d13⟩ := K13.out
    go_wp2_with fail
    clear l3 c3 d3 l13 c13 d13
    refine (AD5.out _).mono ?_
    rintro e wl5 ⟨rfl, hb⟩
    go_upto_region 9 with (fail)
    replace K3 := Lib.hid ((K3.out.later hb).alloc (.cells #[.int .u64 pw, .int .u64 qw] 24))
    replace K4 := Lib.hid ((K4.out.later hb).alloc (.cells #[.int .u64 pw, .int .u64 qw] 24))
    replace K5 := Lib.hid ((K5.out.later hb).alloc (.cells #[.int .u64 pw, .int .u64 qw] 24))
    replace K7 := Lib.hid ((K7.out.later hb).alloc (.cells #[.int .u64 pw, .int .u64 qw] 24))
    replace K9 := Lib.hid ((K9.out.later hb).alloc (.cells #[.int .u64 pw, .int .u64 qw] 24))
    replace K11 := Lib.hid ((K11.out.later hb).alloc (.cells #[.int .u64 pw, .int .u64 qw] 24))
    replace K13 := Lib.hid ((K13.out.later hb).alloc (.cells #[.int .u64 pw, .int .u64 qw] 24))
    replace HB := Lib.hid (bla HB.out hb (.cells #[.int .u64 pw, .int .u64 qw] 24))
    have K14 := Lib.hid (WB.new wl5 pw qw 24)
    obtain ⟨b14, hbe⟩ : ∃ b, wl5.heap.size = b := ⟨_, rfl⟩
    rw [hbe] at K14 ⊢
    clear hb hbe
    generalize wl5.alloc (.cells #[.int .u64 pw, .int .u64 qw] 24) = vl5 at K3 K4 K5 K7 K9 K11 K13 K14 HB ⊢
    obtain ⟨l11, c11, d11⟩ := K11.out
    obtain ⟨l14, c14, d14⟩ := K14.out
    go_wp2_with fail
    clear l11 c11 d11 l14 c14 d14
    refine (awake01_any _ (Tab64.later HT.out HB.out)).mono ?_
    rintro e wz ⟨rfl, hb⟩
    replace HB := Lib.hid (bl HB.out HB.out.size hb)
    clear hb
    go_wp2
    go_ret
    exact ⟨rfl, HB.out⟩
theorem WideSums_walk (a b c : Nat) (ha : a < wTop) (hb : b < wTop) (hc : c < wTop)
    (w : World) (ht : Lib.TabIs Tryd.prog w "internal/strconv.uint64pow10" .u64 Lib.pow10Tab) : Calls Tryd.prog 3 #[wideV a, wideV b, wideV c] w fun e w' => e = .returned (.bool true) ∧ Below w.heap.size w w' := by
  obtain ⟨x, hx⟩ : ∃ x, (if a + b < wTop then a + b else 0) = x := ⟨_, rfl⟩
  obtain ⟨v, hv⟩ : ∃ x, (if b + c < wTop then b + c else 0) = x := ⟨_, rfl⟩
  have hx' : x < wTop := by rw [← hx]; unfold wTop; split <;> omega
  have hv' : v < wTop := by rw [← hv]; unfold wTop; split <;> omega
  obtain ⟨z, hz⟩ : ∃ z, (if x + c < wTop then x + c else 0) = z := ⟨_, rfl⟩
  obtain ⟨u, hu⟩ : ∃ u, (if a + v < wTop then a + v else 0) = u := ⟨_, rfl⟩
  obtain ⟨p, hp⟩ : ∃ p, decide (a + b < wTop) = p := ⟨_, rfl⟩
  obtain ⟨q, hq⟩ : ∃ p, decide (x + c < wTop) = p := ⟨_, rfl⟩
  obtain ⟨r, hr⟩ : ∃ p, decide (b + c < wTop) = p := ⟨_, rfl⟩
  obtain ⟨s, hs⟩ : ∃ p, decide (a + v < wTop) = p := ⟨_, rfl⟩
  have A1 := wadd_any a b ha hb
  have A2 := wadd_any b a hb ha
  have A3 := wadd_any x c hx' hc
  have A4 := wadd_any b c hb hc
  have A5 := wadd_any a v ha hv'
  rw [Nat.add_comm b a] at A2
  rw [hx, hp] at A1 A2
  rw [hz, hq] at A3
  rw [hv, hr] at A4
  rw [hu, hs] at A5
  have hcase : (p = true ∧ q = true ∧ r = true ∧ s = true ∧ z = u) ∨ ((p = true ∧ q = false ∨ p = false ∧ q = true) ∧ (r = true ∧ s = false ∨ r = false ∧ s = true)) := by
    rw [← hp, ← hq, ← hr, ← hs]
    simp only [decide_eq_true_eq, decide_eq_false_iff_not]
    unfold wTop at *
    clear A1 A2 A3 A4 A5 hp hq hr hs
    split at hx <;> split at hv <;> split at hz <;> split at hu <;> omega
  clear hx hv hx' hv' hz hu hp hq hr hs
  obtain ⟨pa, qa, ea⟩ := words_of a
  obtain ⟨pb, qb, eb⟩ := words_of b
  obtain ⟨pc, qc, ec⟩ := words_of c
  obtain ⟨px, qx, ex⟩ := words_of x
  obtain ⟨pv, qv, ev⟩ := words_of v
  obtain ⟨pz, qz, ez⟩ := words_of z
  obtain ⟨pw, qw, ew⟩ := words_of u
  rw [ea, eb, ex] at A1 A2
  rw [ex, ec, ez] at A3
  rw [eb, ec, ev] at A4
  rw [ea, ev, ew] at A5
  rw [ea, eb, ec]
  refine WideSums_way pa qa pb qb pc qc px qx pz qz pv qv pw qw p q r s ?_ (Lib.hid A1) (Lib.hid A2) (Lib.hid A3) (Lib.hid A4) (Lib.hid A5) w (Lib.hid ht)
  rcases hcase with ⟨h1, h2, h3, h4, rfl⟩ | h
  · rw [ez] at ew
    simp only [Value.agg.injEq] at ew
    have e := Array.toList_inj.2 ew
    simp only [List.cons.injEq, Value.int.injEq, true_and, and_true] at e
    exact .inl ⟨h1, h2, h3, h4, e.1, e.2⟩
  · exact .inr h
theorem WideSums_words (ah al : Int) (a1 : 0 ≤ ah) (a2 : ah < 18446744073709551616) (a3 : 0 ≤ al) (a4 : al < 18446744073709551616) (bh bl : Int) (b1 : 0 ≤ bh) (b2 : bh < 18446744073709551616) (b3 : 0 ≤ bl) (b4 : bl < 18446744073709551616) (ch cl : Int) (c1 : 0 ≤ ch) (c2 : ch < 18446744073709551616) (c3 : 0 ≤ cl) (c4 : cl < 18446744073709551616)
    (w : World) (ht : Lib.TabIs Tryd.prog w "internal/strconv.uint64pow10" .u64 Lib.pow10Tab) : Calls Tryd.prog 3 #[W2 ah al, W2 bh bl, W2 ch cl] w fun e w' => e = .returned (.bool true) ∧ Below w.heap.size w w' := by
  obtain ⟨a, alt, ae⟩ := of_words ah al a1 a2 a3 a4
  obtain ⟨b, blt, be⟩ := of_words bh bl b1 b2 b3 b4
  obtain ⟨c, clt, ce⟩ := of_words ch cl c1 c2 c3 c4
  rw [ae, be, ce]
  exact WideSums_walk a b c alt blt clt w ht
end Go.Proofs.YtplbglcdmimdoaaDoor
