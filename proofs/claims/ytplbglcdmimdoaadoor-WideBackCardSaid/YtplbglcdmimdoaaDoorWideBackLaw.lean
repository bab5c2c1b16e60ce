/- WideBack: the walk. -/
import Derived.Test.YtplbglcdmimdoaaDoorWideBoxes
namespace Go.Proofs.YtplbglcdmimdoaaDoor
open Go.RowKit
set_option linter.unusedVariables false
set_option linter.unusedSimpArgs false

set_option maxRecDepth 100000 in
set_option maxHeartbeats 4000000 in
theorem WideBack_walk (a b : Nat) (ha : a < wTop) (hb : b < wTop)
    (w : World) (ht : Lib.TabIs Tryd.prog w "internal/strconv.uint64pow10" .u64 Lib.pow10Tab) : Calls Tryd.prog 9 #[wideV a, wideV b] w fun e w' => e = .returned (.bool true) ∧ Below w.heap.size w w' := by
  have HT := Lib.hid ht
  clear ht
  have e0 : wideV 0 = W2 0 0 := rfl
  have eM : wideV 340282366920938463463374607431768211455 = W2 18446744073709551615 18446744073709551615 := rfl
  have hab : a < 340282366920938463463374607431768211456 ∧ b < 340282366920938463463374607431768211456 := ⟨ha, hb⟩
  obtain ⟨pa, qa, ea⟩ := words_of a
  obtain ⟨pb, qb, eb⟩ := words_of b
  obtain ⟨pl, ql, el⟩ := words_of (340282366920938463463374607431768211455 - a)
  obtain ⟨pc, qc, ec⟩ := words_of (a + b)
  obtain ⟨pd, qd, ed⟩ := words_of (a - b)
  have S1 := Lib.hid (fun w => by have h := wsub_any 340282366920938463463374607431768211455 a (by decide) ha w; rw [eM, ea, el, decide_eq_true (by omega)] at h; exact h)
  have FIT : Hid (∀ fits : Bool, decide (a + b < wTop) = fits → (∀ w, Calls Tryd.prog 11 #[W2 pa qa, W2 pb qb] w fun e w' => e = .returned (.tuple #[if fits then W2 pc qc else W2 0 0, .bool fits]) ∧ Below w.heap.size w w') ∧
      ∃ r : Int, (fits = true → r ≤ 0) ∧ (fits = false → 0 < r) ∧ ∀ w, Calls Tryd.prog 27 #[W2 pb qb, W2 pl ql] w fun e w' => e = .returned (.int .i64 r) ∧ Below w.heap.size w w') := Lib.hid (by
    intro fits hf
    refine ⟨fun w => ?_, cmpI b ((340282366920938463463374607431768211455 - a : Nat) : Int), ?_, ?_, fun w => ?_⟩
    · have h := wadd_any a b ha hb w
      rw [ea, eb] at h
      cases fits
      · rw [if_neg (of_decide_eq_false hf), hf, e0] at h; exact h
      · rw [if_pos (of_decide_eq_true hf), hf, ec] at h; exact h
    · intro hq; subst hq
      have := of_decide_eq_true hf
      unfold cmpI wTop at *
      split <;> omega
    · intro hq; subst hq
      have := of_decide_eq_false hf
      unfold cmpI wTop at *
      rw [if_neg (by omega), if_pos (by omega)]; decide
    · have h := wcmp_any b (340282366920938463463374607431768211455 - a) w
      rw [eb, el] at h
      exact h)
  have FIT2 : Hid (a + b < wTop → (∀ w, Calls Tryd.prog 24 #[W2 pc qc, W2 pb qb] w fun e w' => e = .returned (.tuple #[W2 pa qa, .bool true]) ∧ Below w.heap.size w w') ∧
      (∀ w, Calls Tryd.prog 24 #[W2 pc qc, W2 pa qa] w fun e w' => e = .returned (.tuple #[W2 pb qb, .bool true]) ∧ Below w.heap.size w w') ∧
      (∃ r : Int, 0 ≤ r ∧ ∀ w, Calls Tryd.prog 27 #[W2 pc qc, W2 pa qa] w fun e w' => e = .returned (.int .i64 r) ∧ Below w.heap.size w w') ∧
      (∃ r : Int, 0 ≤ r ∧ ∀ w, Calls Tryd.prog 27 #[W2 pc qc, W2 pb qb] w fun e w' => e = .returned (.int .i64 r) ∧ Below w.heap.size w w')) := Lib.hid (by
    intro hf
    refine ⟨fun w => ?_, fun w => ?_, ⟨cmpI ((a + b : Nat) : Int) a, ?_, fun w => ?_⟩, ⟨cmpI ((a + b : Nat) : Int) b, ?_, fun w => ?_⟩⟩
    · have h := wsub_any (a + b) b hf hb w
      rw [ec, eb, show a + b - b = a by omega, ea, decide_eq_true (by omega)] at h; exact h
    · have h := wsub_any (a + b) a hf ha w
      rw [ec, ea, show a + b - a = b by omega, eb, decide_eq_true (by omega)] at h; exact h
    · unfold cmpI; rw [if_neg (by omega)]; split <;> decide
    · have h := wcmp_any (a + b) a w
      rw [ec, ea] at h; exact h
    · unfold cmpI; rw [if_neg (by omega)]; split <;> decide
    · have h := wcmp_any (a + b) b w
      rw [ec, eb] at h; exact h)
  have MORE : Hid (∀ more : Bool, decide (b ≤ a) = more → (∀ w, Calls Tryd.prog 24 #[W2 pa qa, W2 pb qb] w fun e w' => e = .returned (.tuple #[if more then W2 pd qd else W2 0 0, .bool more]) ∧ Below w.heap.size w w') ∧
      (∃ r : Int, (more = true → 0 ≤ r) ∧ (more = false → r < 0) ∧ ∀ w, Calls Tryd.prog 27 #[W2 pa qa, W2 pb qb] w fun e w' => e = .returned (.int .i64 r) ∧ Below w.heap.size w w') ∧
      (more = true → ∀ w, Calls Tryd.prog 11 #[W2 pd qd, W2 pb qb] w fun e w' => e = .returned (.tuple #[W2 pa qa, .bool true]) ∧ Below w.heap.size w w')) := Lib.hid (by
    intro more hm
    refine ⟨fun w => ?_, ⟨cmpI a b, ?_, ?_, fun w => ?_⟩, fun hq w => ?_⟩
    · have h := wsub_any a b ha hb w
      rw [ea, eb, hm] at h
      cases more
      · rw [show a - b = 0 by have := of_decide_eq_false hm; omega, e0] at h; exact h
      · rw [ed] at h; exact h
    · intro hq; subst hq
      have := of_decide_eq_true hm
      unfold cmpI; rw [if_neg (by omega)]; split <;> decide
    · intro hq; subst hq
      have := of_decide_eq_false hm
      unfold cmpI; rw [if_pos (by omega)]; decide
    · have h := wcmp_any a b w
      rw [ea, eb] at h; exact h
    · subst hq
      have := of_decide_eq_true hm
      have h := wadd_any (a - b) b (by unfold wTop; omega) hb w
      rw [if_pos (by unfold wTop; omega), show a - b + b = a by omega, decide_eq_true (by unfold wTop; omega), ed, eb, ea] at h; exact h)
  rw [ea, eb]
  clear hab el ec ed ea eb
  go_enter Tryd.func9, Tryd.ntmps9
  go_upto_region 1 with (fail)
  refine box2 (fun V hB k2 k3 => ?_)
  obtain ⟨b2, hb2⟩ : ∃ b, w.heap.size = b := ⟨_, rfl⟩
  rw [hb2] at k2 k3 ⊢
  have HB := Lib.hid hB
  have KK2 := Lib.hid k2
  have KK3 := Lib.hid k3
  obtain ⟨l2, c2, d2⟩ := k2
  clear k3 hB hb2
  go_cut [5, 6] (fun v5 v6 wc => ∃ b5, v5 = .pointer (some ⟨b5, 0, none⟩) ∧ v6 = .bool true ∧ Hid (WB wc b5 pl ql) ∧ Hid (Below V.heap.size V wc))
  case first =>
    go_region_held3 (fun w' => Below V.heap.size V w' ∧ w'.cell? ⟨b2, 0, none⟩ = some (.int .u64 pa) ∧ w'.cell? ⟨b2, 1, none⟩ = some (.int .u64 qa))
      (first
        | exact keepS l2 c2 d2 ((Below.refl _ _).drew)
        | exact keepS l2 c2 d2 (by assumption)
        | exact keepS l2 c2 d2 (allocy _ (by assumption))
        | exact keepS l2 c2 d2 (allocx _ (by assumption))
        | exact keepS l2 c2 d2 (setx (by assumption) (Below.size (by assumption)))
        | exact keepS l2 c2 d2 (setx (by assumption) (Nat.le_refl _)))
      (first
        | (go_at_call 35; refine (most_any _).mono ?_; rintro e w' ⟨rfl, hb⟩; have hV := blx (V := V) (by assumption) hb; have hz := hb.size; (try simp only [World.size_alloc] at hz); (first | (have hn := newcell hb; (try dsimp only [World.drew] at hn)) | (have hn := newcelld hb) | (have hn := carrycell (by assumption) hb) | skip))
        | (go_at_call 24; refine (S1.out _).mono ?_; rintro e w' ⟨rfl, hb⟩; have hV := blx (V := V) (by assumption) hb; have hz := hb.size; (try simp only [World.size_alloc] at hz); (first | (have hn := newcell hb; (try dsimp only [World.drew] at hn)) | (have hn := newcelld hb) | (have hn := carrycell (by assumption) hb) | skip)))
    all_goals
      go_wp2_with fail
      go_meet
      case rel => first | exact ⟨_, rfl, rfl, Lib.hid (WB.new _ _ _ _), Lib.hid (And.left (by assumption))⟩ | exact ⟨_, rfl, rfl, Lib.hid (wb_set (by assumption)), Lib.hid (And.left (by assumption))⟩
  case rest =>
  obtain ⟨b5, rfl, rfl, K5, HBc⟩ := hcut
  have K2 := Lib.hid (KK2.out.later HBc.out)
  have K3 := Lib.hid (KK3.out.later HBc.out)
  replace HB := Lib.hid (bl HB.out HB.out.size HBc.out)
  clear HBc KK2 KK3 l2 c2 d2 S1
  go_upto_region 4 with (fail)
  obtain ⟨fits, hf⟩ : ∃ fits : Bool, decide (a + b < wTop) = fits := ⟨_, rfl⟩
  obtain ⟨ad, r1, hr1, hr1', cm1⟩ := FIT.out fits hf
  have AD := Lib.hid ad
  have C1 := Lib.hid cm1
  clear ad cm1
  cases fits
  case false =>
      have hr := hr1' rfl
      clear hr1 hr1' FIT FIT2
      obtain ⟨l2, c2, d2⟩ := K2.out
      obtain ⟨l3, c3, d3⟩ := K3.out
      go_wp2_with fail
      clear l2 c2 d2 l3 c3 d3
      refine (AD.out _).mono ?_
      rintro e wl1 ⟨rfl, hb⟩
      go_upto_region 5 with (fail)
      replace K2 := Lib.hid ((K2.out.later hb).alloc (.cells #[.int .u64 0, .int .u64 0] 24))
      replace K3 := Lib.hid ((K3.out.later hb).alloc (.cells #[.int .u64 0, .int .u64 0] 24))
      replace K5 := Lib.hid ((K5.out.later hb).alloc (.cells #[.int .u64 0, .int .u64 0] 24))
      replace HB := Lib.hid (bla HB.out hb (.cells #[.int .u64 0, .int .u64 0] 24))
      have K7 := Lib.hid (WB.new wl1 0 0 24)
      obtain ⟨b7, hbe⟩ : ∃ b, wl1.heap.size = b := ⟨_, rfl⟩
      rw [hbe] at K7 ⊢
      clear hb hbe
      generalize wl1.alloc (.cells #[.int .u64 0, .int .u64 0] 24) = vl1 at K2 K3 K5 K7 HB ⊢
      obtain ⟨l3, c3, d3⟩ := K3.out
      obtain ⟨l5, c5, d5⟩ := K5.out
      go_wp2_with fail
      clear l3 c3 d3 l5 c5 d5
      refine (C1.out _).mono ?_
      rintro e wl2 ⟨rfl, hb⟩
      replace K2 := Lib.hid (K2.out.later hb)
      replace K3 := Lib.hid (K3.out.later hb)
      replace K5 := Lib.hid (K5.out.later hb)
      replace K7 := Lib.hid (K7.out.later hb)
      replace HB := Lib.hid (bl HB.out HB.out.size hb)
      clear hb
      obtain ⟨l2, c2, d2⟩ := K2.out
      obtain ⟨l3, c3, d3⟩ := K3.out
      obtain ⟨l5, c5, d5⟩ := K5.out
      obtain ⟨l7, c7, d7⟩ := K7.out
      go_upto_region 14 with (fail)
      clear l2 c2 d2 l3 c3 d3 l5 c5 d5 l7 c7 d7
      obtain ⟨more, hm⟩ : ∃ more : Bool, decide (b ≤ a) = more := ⟨_, rfl⟩
      obtain ⟨sd, ⟨r4, hr4, hr4', cm4⟩, a2⟩ := MORE.out more hm
      have SD := Lib.hid sd
      have C4 := Lib.hid cm4
      clear sd cm4 MORE K5
      cases more
      case false =>
        have hr := hr4' rfl
        clear hr4 hr4' a2
        obtain ⟨l2, c2, d2⟩ := K2.out
        obtain ⟨l3, c3, d3⟩ := K3.out
        go_wp2_with fail
        clear l2 c2 d2 l3 c3 d3
        refine (SD.out _).mono ?_
        rintro e wl1 ⟨rfl, hb⟩
        go_upto_region 15 with (fail)
        replace K2 := Lib.hid ((K2.out.later hb).alloc (.cells #[.int .u64 0, .int .u64 0] 24))
        replace K3 := Lib.hid ((K3.out.later hb).alloc (.cells #[.int .u64 0, .int .u64 0] 24))
        replace HB := Lib.hid (bla HB.out hb (.cells #[.int .u64 0, .int .u64 0] 24))
        have K13 := Lib.hid (WB.new wl1 0 0 24)
        obtain ⟨b13, hbe⟩ : ∃ b, wl1.heap.size = b := ⟨_, rfl⟩
        rw [hbe] at K13 ⊢
        clear hb hbe
        generalize wl1.alloc (.cells #[.int .u64 0, .int .u64 0] 24) = vl1 at K2 K3 K13 HB ⊢
        obtain ⟨l2, c2, d2⟩ := K2.out
        obtain ⟨l3, c3, d3⟩ := K3.out
        go_wp2_with fail
        clear l2 c2 d2 l3 c3 d3
        refine (C4.out _).mono ?_
        rintro e wl2 ⟨rfl, hb⟩
        replace K2 := Lib.hid (K2.out.later hb)
        replace K3 := Lib.hid (K3.out.later hb)
        replace K13 := Lib.hid (K13.out.later hb)
        replace HB := Lib.hid (bl HB.out HB.out.size hb)
        clear hb
        obtain ⟨l2, c2, d2⟩ := K2.out
        obtain ⟨l3, c3, d3⟩ := K3.out
        obtain ⟨l13, c13, d13⟩ := K13.out
        go_wp2_with fail
        clear l2 c2 d2 l3 c3 d3 l13 c13 d13
        refine (awake01_any _ (Tab64.later HT.out HB.out)).mono ?_
        rintro e wz ⟨rfl, hb⟩
        replace HB := Lib.hid (bl HB.out HB.out.size hb)
        clear hb
        go_wp2
        go_ret
        exact ⟨rfl, HB.out⟩
      case true =>
        have hr := hr4 rfl
        have A2 := Lib.hid (a2 rfl)
        clear hr4 hr4' a2
        obtain ⟨l2, c2, d2⟩ := K2.out
        obtain ⟨l3, c3, d3⟩ := K3.out
        go_wp2_with fail
        clear l2 c2 d2 l3 c3 d3
        refine (SD.out _).mono ?_
        rintro e wl1 ⟨rfl, hb⟩
        go_upto_region 15 with (fail)
        replace K2 := Lib.hid ((K2.out.later hb).alloc (.cells #[.int .u64 pd, .int .u64 qd] 24))
        replace K3 := Lib.hid ((K3.out.later hb).alloc (.cells #[.int .u64 pd, .int .u64 qd] 24))
        replace HB := Lib.hid (bla HB.out hb (.cells #[.int .u64 pd, .int .u64 qd] 24))
        have K13 := Lib.hid (WB.new wl1 pd qd 24)
        obtain ⟨b13, hbe⟩ : ∃ b, wl1.heap.size = b := ⟨_, rfl⟩
        rw [hbe] at K13 ⊢
        clear hb hbe
        generalize wl1.alloc (.cells #[.int .u64 pd, .int .u64 qd] 24) = vl1 at K2 K3 K13 HB ⊢
        obtain ⟨l2, c2, d2⟩ := K2.out
        obtain ⟨l3, c3, d3⟩ := K3.out
        go_wp2_with fail
        clear l2 c2 d2 l3 c3 d3
        refine (C4.out _).mono ?_
        rintro e wl2 ⟨rfl, hb⟩
        replace K2 := Lib.hid (K2.out.later hb)
        replace K3 := Lib.hid (K3.out.later hb)
        replace K13 := Lib.hid (K13.out.later hb)
        replace HB := Lib.hid (bl HB.out HB.out.size hb)
        clear hb
        obtain ⟨l13, c13, d13⟩ := K13.out
        obtain ⟨l3, c3, d3⟩ := K3.out
        go_wp2_with fail
        clear l13 c13 d13 l3 c3 d3
        refine (A2.out _).mono ?_
        rintro e wl3 ⟨rfl, hb⟩
        go_upto_region 20 with (fail)
        replace K2 := Lib.hid ((K2.out.later hb).alloc (.cells #[.int .u64 pa, .int .u64 qa] 24))
        replace K3 := Lib.hid ((K3.out.later hb).alloc (.cells #[.int .u64 pa, .int .u64 qa] 24))
        replace K13 := Lib.hid ((K13.out.later hb).alloc (.cells #[.int .u64 pa, .int .u64 qa] 24))
        replace HB := Lib.hid (bla HB.out hb (.cells #[.int .u64 pa, .int .u64 qa] 24))
        have K15 := Lib.hid (WB.new wl3 pa qa 24)
        obtain ⟨b15, hbe⟩ : ∃ b, wl3.heap.size = b := ⟨_, rfl⟩
        rw [hbe] at K15 ⊢
        clear hb hbe
        generalize wl3.alloc (.cells #[.int .u64 pa, .int .u64 qa] 24) = vl3 at K2 K3 K13 K15 HB ⊢
        obtain ⟨l2, c2, d2⟩ := K2.out
        obtain ⟨l3, c3, d3⟩ := K3.out
        obtain ⟨l13, c13, d13⟩ := K13.out
        obtain ⟨l15, c15, d15⟩ := K15.out
        go_wp2_with fail
        clear l2 c2 d2 l3 c3 d3 l13 c13 d13 l15 c15 d15
        refine (awake01_any _ (Tab64.later HT.out HB.out)).mono ?_
        rintro e wz ⟨rfl, hb⟩
        replace HB := Lib.hid (bl HB.out HB.out.size hb)
        clear hb
        go_wp2
        go_ret
        exact ⟨rfl, HB.out⟩
  case true =>
      have hr := hr1 rfl
      obtain ⟨s2, s3, ⟨r2, hr2, c2'⟩, ⟨r3, hr3, c3'⟩⟩ := FIT2.out (of_decide_eq_true hf)
      have S2 := Lib.hid s2
      have S3 := Lib.hid s3
      have C2 := Lib.hid c2'
      have C3 := Lib.hid c3'
      clear hr1 hr1' FIT FIT2 s2 s3 c2' c3'
      obtain ⟨l2, c2, d2⟩ := K2.out
      obtain ⟨l3, c3, d3⟩ := K3.out
      go_wp2_with fail
      clear l2 c2 d2 l3 c3 d3
      refine (AD.out _).mono ?_
      rintro e wl1 ⟨rfl, hb⟩
      go_upto_region 5 with (fail)
      replace K2 := Lib.hid ((K2.out.later hb).alloc (.cells #[.int .u64 pc, .int .u64 qc] 24))
      replace K3 := Lib.hid ((K3.out.later hb).alloc (.cells #[.int .u64 pc, .int .u64 qc] 24))
      replace K5 := Lib.hid ((K5.out.later hb).alloc (.cells #[.int .u64 pc, .int .u64 qc] 24))
      replace HB := Lib.hid (bla HB.out hb (.cells #[.int .u64 pc, .int .u64 qc] 24))
      have K7 := Lib.hid (WB.new wl1 pc qc 24)
      obtain ⟨b7, hbe⟩ : ∃ b, wl1.heap.size = b := ⟨_, rfl⟩
      rw [hbe] at K7 ⊢
      clear hb hbe
      generalize wl1.alloc (.cells #[.int .u64 pc, .int .u64 qc] 24) = vl1 at K2 K3 K5 K7 HB ⊢
      obtain ⟨l3, c3, d3⟩ := K3.out
      obtain ⟨l5, c5, d5⟩ := K5.out
      go_wp2_with fail
      clear l3 c3 d3 l5 c5 d5
      refine (C1.out _).mono ?_
      rintro e wl2 ⟨rfl, hb⟩
      replace K2 := Lib.hid (K2.out.later hb)
      replace K3 := Lib.hid (K3.out.later hb)
      replace K5 := Lib.hid (K5.out.later hb)
      replace K7 := Lib.hid (K7.out.later hb)
      replace HB := Lib.hid (bl HB.out HB.out.size hb)
      clear hb
      obtain ⟨l7, c7, d7⟩ := K7.out
      obtain ⟨l3, c3, d3⟩ := K3.out
      go_wp2_with fail
      clear l7 c7 d7 l3 c3 d3
      refine (S2.out _).mono ?_
      rintro e wl3 ⟨rfl, hb⟩
      go_upto_region 9 with (fail)
      replace K2 := Lib.hid ((K2.out.later hb).alloc (.cells #[.int .u64 pa, .int .u64 qa] 24))
      replace K3 := Lib.hid ((K3.out.later hb).alloc (.cells #[.int .u64 pa, .int .u64 qa] 24))
      replace K5 := Lib.hid ((K5.out.later hb).alloc (.cells #[.int .u64 pa, .int .u64 qa] 24))
      replace K7 := Lib.hid ((K7.out.later hb).alloc (.cells #[.int .u64 pa, .int .u64 qa] 24))
      replace HB := Lib.hid (bla HB.out hb (.cells #[.int .u64 pa, .int .u64 qa] 24))
      have K9 := Lib.hid (WB.new wl3 pa qa 24)
      obtain ⟨b9, hbe⟩ : ∃ b, wl3.heap.size = b := ⟨_, rfl⟩
      rw [hbe] at K9 ⊢
      clear hb hbe
      generalize wl3.alloc (.cells #[.int .u64 pa, .int .u64 qa] 24) = vl3 at K2 K3 K5 K7 K9 HB ⊢
      obtain ⟨l7, c7, d7⟩ := K7.out
      obtain ⟨l2, c2, d2⟩ := K2.out
      go_wp2_with fail
      clear l7 c7 d7 l2 c2 d2
      refine (S3.out _).mono ?_
      rintro e wl4 ⟨rfl, hb⟩
      go_upto_region 10 with (fail)
      replace K2 := Lib.hid ((K2.out.later hb).alloc (.cells #[.int .u64 pb, .int .u64 qb] 24))
      replace K3 := Lib.hid ((K3.out.later hb).alloc (.cells #[.int .u64 pb, .int .u64 qb] 24))
      replace K5 := Lib.hid ((K5.out.later hb).alloc (.cells #[.int .u64 pb, .int .u64 qb] 24))
      replace K7 := Lib.hid ((K7.out.later hb).alloc (.cells #[.int .u64 pb, .int .u64 qb] 24))
      replace K9 := Lib.hid ((K9.out.later hb).alloc (.cells #[.int .u64 pb, .int .u64 qb] 24))
      replace HB := Lib.hid (bla HB.out hb (.cells #[.int .u64 pb, .int .u64 qb] 24))
      have K11 := Lib.hid (WB.new wl4 pb qb 24)
      obtain ⟨b11, hbe⟩ : ∃ b, wl4.heap.size = b := ⟨_, rfl⟩
      rw [hbe] at K11 ⊢
      clear hb hbe
      generalize wl4.alloc (.cells #[.int .u64 pb, .int .u64 qb] 24) = vl4 at K2 K3 K5 K7 K9 K11 HB ⊢
      obtain ⟨l2, c2, d2⟩ := K2.out
      obtain ⟨l3, c3, d3⟩ := K3.out
      obtain ⟨l5, c5, d5⟩ := K5.out
      obtain ⟨l7, c7, d7⟩ := K7.out
      obtain ⟨l9, c9, d9⟩ := K9.out
      obtain ⟨l11, c11, d11⟩ := K11.out
      go_wp2_with fail
      clear l2 c2 d2 l3 c3 d3 l5 c5 d5 l7 c7 d7 l9 c9 d9 l11 c11 d11
      refine (C2.out _).mono ?_
      rintro e wl5 ⟨rfl, hb⟩
      replace K2 := Lib.hid (K2.out.later hb)
      replace K3 := Lib.hid (K3.out.later hb)
      replace K5 := Lib.hid (K5.out.later hb)
      replace K7 := Lib.hid (K7.out.later hb)
      replace K9 := Lib.hid (K9.out.later hb)
      replace K11 := Lib.hid (K11.out.later hb)
      replace HB := Lib.hid (bl HB.out HB.out.size hb)
      clear hb
      obtain ⟨l2, c2, d2⟩ := K2.out
      obtain ⟨l3, c3, d3⟩ := K3.out
      obtain ⟨l5, c5, d5⟩ := K5.out
      obtain ⟨l7, c7, d7⟩ := K7.out
      obtain ⟨l9, c9, d9⟩ := K9.out
      obtain ⟨l11, c11, d11⟩ := K11.out
      go_wp2_with fail
      clear l2 c2 d2 l3 c3 d3 l5 c5 d5 l7 c7 d7 l9 c9 d9 l11 c11 d11
      refine (C3.out _).mono ?_
      rintro e wl6 ⟨rfl, hb⟩
      replace K2 := Lib.hid (K2.out.later hb)
      replace K3 := Lib.hid (K3.out.later hb)
      replace K5 := Lib.hid (K5.out.later hb)
      replace K7 := Lib.hid (K7.out.later hb)
      replace K9 := Lib.hid (K9.out.later hb)
      replace K11 := Lib.hid (K11.out.later hb)
      replace HB := Lib.hid (bl HB.out HB.out.size hb)
      clear hb
      obtain ⟨l2, c2, d2⟩ := K2.out
      obtain ⟨l3, c3, d3⟩ := K3.out
      obtain ⟨l5, c5, d5⟩ := K5.out
      obtain ⟨l7, c7, d7⟩ := K7.out
      obtain ⟨l9, c9, d9⟩ := K9.out
      obtain ⟨l11, c11, d11⟩ := K11.out
      go_upto_region 14 with (fail)
      clear l2 c2 d2 l3 c3 d3 l5 c5 d5 l7 c7 d7 l9 c9 d9 l11 c11 d11
      obtain ⟨more, hm⟩ : ∃ more : Bool, decide (b ≤ a) = more := ⟨_, rfl⟩
      obtain ⟨sd, ⟨r4, hr4, hr4', cm4⟩, a2⟩ := MORE.out more hm
      have SD := Lib.hid sd
      have C4 := Lib.hid cm4
      clear sd cm4 MORE K5
      cases more
      case false =>
        have hr := hr4' rfl
        clear hr4 hr4' a2
        obtain ⟨l2, c2, d2⟩ := K2.out
        obtain ⟨l3, c3, d3⟩ := K3.out
        go_wp2_with fail
        clear l2 c2 d2 l3 c3 d3
        refine (SD.out _).mono ?_
        rintro e wl1 ⟨rfl, hb⟩
        go_upto_region 15 with (fail)
        replace K2 := Lib.hid ((K2.out.later hb).alloc (.cells #[.int .u64 0, .int .u64 0] 24))
        replace K3 := Lib.hid ((K3.out.later hb).alloc (.cells #[.int .u64 0, .int .u64 0] 24))
        replace HB := Lib.hid (bla HB.out hb (.cells #[.int .u64 0, .int .u64 0] 24))
        have K13 := Lib.hid (WB.new wl1 0 0 24)
        obtain ⟨b13, hbe⟩ : ∃ b, wl1.heap.size = b := ⟨_, rfl⟩
        rw [hbe] at K13 ⊢
        clear hb hbe
        generalize wl1.alloc (.cells #[.int .u64 0, .int .u64 0] 24) = vl1 at K2 K3 K13 HB ⊢
        obtain ⟨l2, c2, d2⟩ := K2.out
        obtain ⟨l3, c3, d3⟩ := K3.out
        go_wp2_with fail
        clear l2 c2 d2 l3 c3 d3
        refine (C4.out _).mono ?_
        rintro e wl2 ⟨rfl, hb⟩
        replace K2 := Lib.hid (K2.out.later hb)
        replace K3 := Lib.hid (K3.out.later hb)
        replace K13 := Lib.hid (K13.out.later hb)
        replace HB := Lib.hid (bl HB.out HB.out.size hb)
        clear hb
        obtain ⟨l2, c2, d2⟩ := K2.out
        obtain ⟨l3, c3, d3⟩ := K3.out
        obtain ⟨l13, c13, d13⟩ := K13.out
        go_wp2_with fail
        clear l2 c2 d2 l3 c3 d3 l13 c13 d13
        refine (awake01_any _ (Tab64.later HT.out HB.out)).mono ?_
        rintro e wz ⟨rfl, hb⟩
        replace HB := Lib.hid (bl HB.out HB.out.size hb)
        clear hb
        go_wp2
        go_ret
        exact ⟨rfl, HB.out⟩
      case true =>
        have hr := hr4 rfl
        have A2 := Lib.hid (a2 rfl)
        clear hr4 hr4' a2
        obtain ⟨l2, c2, d2⟩ := K2.out
        obtain ⟨l3, c3, d3⟩ := K3.out
        go_wp2_with fail
        clear l2 c2 d2 l3 c3 d3
        refine (SD.out _).mono ?_
        rintro e wl1 ⟨rfl, hb⟩
        go_upto_region 15 with (fail)
        replace K2 := Lib.hid ((K2.out.later hb).alloc (.cells #[.int .u64 pd, .int .u64 qd] 24))
        replace K3 := Lib.hid ((K3.out.later hb).alloc (.cells #[.int .u64 pd, .int .u64 qd] 24))
        replace HB := Lib.hid (bla HB.out hb (.cells #[.int .u64 pd, .int .u64 qd] 24))
        have K13 := Lib.hid (WB.new wl1 pd qd 24)
        obtain ⟨b13, hbe⟩ : ∃ b, wl1.heap.size = b := ⟨_, rfl⟩
        rw [hbe] at K13 ⊢
        clear hb hbe
        generalize wl1.alloc (.cells #[.int .u64 pd, .int .u64 qd] 24) = vl1 at K2 K3 K13 HB ⊢
        obtain ⟨l2, c2, d2⟩ := K2.out
        obtain ⟨l3, c3, d3⟩ := K3.out
        go_wp2_with fail
        clear l2 c2 d2 l3 c3 d3
        refine (C4.out _).mono ?_
        rintro e wl2 ⟨rfl, hb⟩
        replace K2 := Lib.hid (K2.out.later hb)
        replace K3 := Lib.hid (K3.out.later hb)
        replace K13 := Lib.hid (K13.out.later hb)
        replace HB := Lib.hid (bl HB.out HB.out.size hb)
        clear hb
        obtain ⟨l13, c13, d13⟩ := K13.out
        obtain ⟨l3, c3, d3⟩ := K3.out
        go_wp2_with fail
        clear l13 c13 d13 l3 c3 d3
        refine (A2.out _).mono ?_
        rintro e wl3 ⟨rfl, hb⟩
        go_upto_region 20 with (fail)
        replace K2 := Lib.hid ((K2.out.later hb).alloc (.cells #[.int .u64 pa, .int .u64 qa] 24))
        replace K3 := Lib.hid ((K3.out.later hb).alloc (.cells #[.int .u64 pa, .int .u64 qa] 24))
        replace K13 := Lib.hid ((K13.out.later hb).alloc (.cells #[.int .u64 pa, .int .u64 qa] 24))
        replace HB := Lib.hid (bla HB.out hb (.cells #[.int .u64 pa, .int .u64 qa] 24))
        have K15 := Lib.hid (WB.new wl3 pa qa 24)
        obtain ⟨b15, hbe⟩ : ∃ b, wl3.heap.size = b := ⟨_, rfl⟩
        rw [hbe] at K15 ⊢
        clear hb hbe
        generalize wl3.alloc (.cells #[.int .u64 pa, .int .u64 qa] 24) = vl3 at K2 K3 K13 K15 HB ⊢
        obtain ⟨l2, c2, d2⟩ := K2.out
        obtain ⟨l3, c3, d3⟩ := K3.out
        obtain ⟨l13, c13, d13⟩ := K13.out
        obtain ⟨l15, c15, d15⟩ := K15.out
        go_wp2_with fail
        clear l2 c2 d2 l3 c3 d3 l13 c13 d13 l15 c15 d15
        refine (awake01_any _ (Tab64.later HT.out HB.out)).mono ?_
        rintro e wz ⟨rfl, hb⟩
        replace HB := Lib.hid (bl HB.out HB.out.size hb)
        clear hb
        go_wp2
        go_ret
        exact ⟨rfl, HB.out⟩
theorem WideBack_words (ah al : Int) (a1 : 0 ≤ ah) (a2 : ah < 18446744073709551616) (a3 : 0 ≤ al) (a4 : al < 18446744073709551616) (bh bl : Int) (b1 : 0 ≤ bh) (b2 : bh < 18446744073709551616) (b3 : 0 ≤ bl) (b4 : bl < 18446744073709551616)
    (w : World) (ht : Lib.TabIs Tryd.prog w "internal/strconv.uint64pow10" .u64 Lib.pow10Tab) : Calls Tryd.prog 9 #[W2 ah al, W2 bh bl] w fun e w' => e = .returned (.bool true) ∧ Below w.heap.size w w' := by
  obtain ⟨a, alt, ae⟩ := of_words ah al a1 a2 a3 a4
  obtain ⟨b, blt, be⟩ := of_words bh bl b1 b2 b3 b4
  rw [ae, be]
  exact WideBack_walk a b alt blt w ht
end Go.Proofs.YtplbglcdmimdoaaDoor
