/- The walk of StackErrors. -/
import Derived.Test.YtjpemijonjmcdaaStackAwake
import Derived.Test.YtjpemijonjmcdaaLowApart
namespace Go.Proofs.Ytjpemijonjmcdaa
open Go.RowKit
set_option linter.unusedVariables false

/-- Two lists of the call's own lie apart. -/
theorem apart2_any (w : World) (a b : Option Addr) (n m c d B : Nat) (xs ys : List Value) (T : TypeId) (ha : w.ownsRow B 3 1 (.slice a n c) n xs) (hb : w.ownsRow B 3 1 (.slice b m d) m ys) (hab : ∀ g, (Value.slice a n c).ownBlock = some g → (Value.slice b m d).ownBlock ≠ some g) (hB : B ≤ w.heap.size) :
    Calls Try.prog 23 #[.slice (some ⟨w.heap.size, 0, none⟩) 2 2] (w.alloc (.cells #[.slice a n c, .slice b m d] T)) fun e w' => e = .returned (.bool true) ∧ Below B w w' := by
  obtain ⟨ea, va, oa, ba, ga⟩ := ent_of_owned (ha.alloc (.cells #[.slice a n c, .slice b m d] T))
  obtain ⟨eb, vb, ob, bb, gb⟩ := ent_of_owned (hb.alloc (.cells #[.slice a n c, .slice b m d] T))
  have la : ∀ x, ea.g = some x → B ≤ x ∧ x < w.heap.size := fun x hx => ha.lt x (ga ▸ hx)
  have lb : ∀ x, eb.g = some x → B ≤ x ∧ x < w.heap.size := fun x hx => hb.lt x (gb ▸ hx)
  have hbl : ∀ x ∈ blocks [ea, eb], B ≤ x ∧ x < w.heap.size := by
    intro x hx
    unfold blocks at hx
    simp only [List.mem_filterMap, List.mem_cons, List.not_mem_nil, or_false] at hx
    obtain ⟨e, rfl | rfl, h⟩ := hx
    · exact la x h
    · exact lb x h
  refine (apart_any [ea, eb] w.heap.size 0 2 _ ?_ ?_ ?_ ?_ (by simp) (by simp)).mono fun e w' ⟨he, hc⟩ => ⟨he, ((Below.refl B w).alloc hB _).trans (hc.toBelow (fun x hx => (hbl x hx).1) (by simp; omega))⟩
  · intro i hi
    rw [cells_at]
    rcases (by simp at hi; omega : i = 0 ∨ i = 1) with rfl | rfl
    · simp [va]
    · simp [vb]
  · intro i hi
    rcases (by simp at hi; omega : i = 0 ∨ i = 1) with rfl | rfl
    · exact oa
    · exact ob
  · intro i j x hi hj h1 h2
    rcases (by simp at hi; omega : i = 0 ∨ i = 1) with rfl | rfl <;> rcases (by simp at hj; omega : j = 0 ∨ j = 1) with rfl | rfl
    · rfl
    · exact absurd (gb ▸ h2) (hab x (ga ▸ h1))
    · exact absurd (gb ▸ h1) (hab x (ga ▸ h2))
    · rfl
  · intro h; have := (hbl _ h).2; omega

set_option maxRecDepth 100000 in
set_option maxHeartbeats 4000000 in
theorem StackErrors_walk (ns : List Nd) (ao : Option Addr) (cap : Nat) (root from0 to0 : Int) (W : World) (hrow : NdRow W ao ns) (hlen : ns.length ≤ 2513169434907) (hcap : ns.length ≤ cap) :
    Calls Try.prog 6 #[.slice ao ns.length cap, .int .i64 root, .int .i64 from0, .int .i64 to0] W fun e w' => e = .returned (.bool true) ∧ Below W.heap.size W w' := by
  by_cases hn : 200 < ns.length
  · clear hrow
    go_enter Try.func6, Try.ntmps6
    go_wp2_with (go_at_call 14; refine (awake7_any _).mono ?_; rintro e w1 ⟨rfl, hb1⟩; have HB1 := Lib.hid hb1; clear hb1)
    go_ret
    exact ⟨rfl, HB1.out⟩
  by_cases hg : rightL [] ns = true ∧ 0 ≤ root ∧ root < ns.length
  · have HN := Lib.hid hrow
    have HE := Lib.hid (show walkErr ns root = 0 by unfold walkErr; rw [if_pos hg.1, if_pos hg.2])
    have HO := Lib.hid (show walkOut ns (fun _ => true) root = ent ns (fun _ => true) root by unfold walkOut; rw [if_pos hg])
    have HO2 := Lib.hid (show walkOut ns (overB ns from0 to0) root = ent ns (overB ns from0 to0) root by unfold walkOut; rw [if_pos hg])
    have h1 := ent_len ns (overB ns from0 to0) (root.toNat + 1) root
    have h2 : 0 < (ent ns (overB ns from0 to0) root).length := by rw [ent_eq (right_kidsOk hg.1) _ _ hg.2.1 hg.2.2]; simp
    have h3 := ent_len_le hg.1 (fun _ => true) root hg.2.1 hg.2.2
    change (ent ns (overB ns from0 to0) root).length ≤ (ent ns (fun _ => true) root).length at h1
    obtain ⟨hr, h0, hlt⟩ := hg
    have HR := Lib.hid hr
    clear hrow hr
    obtain ⟨out, hout⟩ : ∃ out, ent ns (fun _ => true) root = out := ⟨_, rfl⟩
    rw [hout] at HO h1 h3
    obtain ⟨cnt, hcnt⟩ : ∃ cnt, (ent ns (overB ns from0 to0) root).length = cnt := ⟨_, rfl⟩
    have HCNT := Lib.hid (show (walkOut ns (overB ns from0 to0) root).length = cnt by rw [HO2.out]; exact hcnt)
    rw [hcnt] at h1 h2
    clear hout hcnt HO2
    have h4 : 0 < out.length := by omega
    go_enter Try.func6, Try.ntmps6
    go_wp2_with fail
    refine (all_any ns ao cap root _ HN.out hlen).mono ?_
    rw [HE.out, HO.out]
    rintro e w1 ⟨a1, c1, rfl, ho1, hb1⟩
    have HB1 := Lib.hid hb1
    have HO1 := Lib.hid ho1
    clear ho1 hb1
    go_wp2_with fail
    refine (leaves_any ns ao cap root from0 to0 _ (HN.out.later HB1.out) hlen).mono ?_
    rw [HE.out, HCNT.out]
    rintro e w2 ⟨a2, c2, rfl, ho2, hb2⟩
    obtain ⟨tl, htl⟩ : ∃ tl, toldL ns from0 to0 (walkOut ns (overB ns from0 to0) root) = tl := ⟨_, rfl⟩
    rw [htl] at ho2 ⊢
    have HB2 := Lib.hid (bl HB1.out HB1.out.size hb2)
    have HO1' := Lib.hid (own_below HO1.out hb2)
    have HAB := Lib.hid (show ∀ g, (Value.slice a1 out.length c1).ownBlock = some g → (Value.slice a2 tl.length c2).ownBlock ≠ some g from fun g h1 h2 => by
      have := (HO1.out.lt g h1).2; have := (ho2.lt g h2).1; omega)
    have HO2 := Lib.hid (ownsRow_mono ho2 HB1.out.size)
    clear ho2 hb2 htl
    go_wp2_with fail
    refine (right_any ns ao cap _ (HN.out.later HB2.out) hlen).mono ?_
    rw [HR.out]
    rintro e w3 ⟨rfl, hb3⟩
    have HB3 := Lib.hid (bl HB2.out HB2.out.size hb3)
    have HX1 := Lib.hid (own_below HO1'.out hb3)
    have HX2 := Lib.hid (own_below HO2.out hb3)
    clear hb3
    go_wp2_with fail
    refine (apart2_any w3 a1 a2 out.length tl.length c1 c2 W.heap.size _ _ 25 HX1.out HX2.out HAB.out HB3.out.size).mono ?_
    rintro e w4 ⟨rfl, hb4⟩
    have HB4 := Lib.hid (HB3.out.trans hb4)
    clear hb4
    go_wp2_with fail
    refine (awake7_any _).mono ?_
    rintro e w5 ⟨rfl, hb5⟩
    have HB5 := Lib.hid (bl HB4.out HB4.out.size hb5)
    clear hb5
    go_wp2
    go_ret
    exact ⟨rfl, HB5.out⟩
  · have HN := Lib.hid hrow
    have HO := Lib.hid (show ∀ d, walkOut ns d root = [] from fun d => by unfold walkOut; rw [if_neg hg])
    clear hrow
    cases hr : rightL [] ns
    · have HE := Lib.hid (show walkErr ns root = 50 by unfold walkErr; rw [hr]; rfl)
      have HR := Lib.hid hr
      clear hr hg
      go_enter Try.func6, Try.ntmps6
      go_wp2_with fail
      refine (all_any ns ao cap root _ HN.out hlen).mono ?_
      rw [HE.out, HO.out]
      rintro e w1 ⟨a1, c1, rfl, ho1, hb1⟩
      have HB1 := Lib.hid hb1
      clear ho1 hb1
      go_wp2_with fail
      refine (leaves_any ns ao cap root from0 to0 _ (HN.out.later HB1.out) hlen).mono ?_
      rw [HE.out, HO.out, show toldL ns from0 to0 [] = [] from rfl]
      rintro e w2 ⟨a2, c2, rfl, ho2, hb2⟩
      have HB2 := Lib.hid (bl HB1.out HB1.out.size hb2)
      clear ho2 hb2
      go_wp2_with fail
      refine (right_any ns ao cap _ (HN.out.later HB2.out) hlen).mono ?_
      rw [HR.out]
      rintro e w3 ⟨rfl, hb3⟩
      have HB3 := Lib.hid (bl HB2.out HB2.out.size hb3)
      clear hb3
      go_wp2_with fail
      refine (awake7_any _).mono ?_
      rintro e w5 ⟨rfl, hb5⟩
      have HB5 := Lib.hid (bl HB3.out HB3.out.size hb5)
      clear hb5
      go_wp2
      go_ret
      exact ⟨rfl, HB5.out⟩
    · have hdec : (root < 0) ∨ (0 ≤ root ∧ (ns.length : Int) ≤ root) := by
        by_cases h : root < 0
        · exact .inl h
        · by_cases h2 : root < ns.length
          · exact absurd ⟨hr, by omega, h2⟩ hg
          · exact .inr ⟨by omega, by omega⟩
      have HE := Lib.hid (show walkErr ns root = 2 by unfold walkErr; rw [if_pos hr, if_neg (fun h => hg ⟨hr, h⟩)])
      have HR := Lib.hid hr
      clear hr hg
      rcases hdec with hroot | ⟨hroot0, hroot⟩
      all_goals
        go_enter Try.func6, Try.ntmps6
        go_wp2_with fail
        refine (all_any ns ao cap root _ HN.out hlen).mono ?_
        rw [HE.out, HO.out]
        rintro e w1 ⟨a1, c1, rfl, ho1, hb1⟩
        have HB1 := Lib.hid hb1
        clear ho1 hb1
        go_wp2_with fail
        refine (leaves_any ns ao cap root from0 to0 _ (HN.out.later HB1.out) hlen).mono ?_
        rw [HE.out, HO.out, show toldL ns from0 to0 [] = [] from rfl]
        rintro e w2 ⟨a2, c2, rfl, ho2, hb2⟩
        have HB2 := Lib.hid (bl HB1.out HB1.out.size hb2)
        clear ho2 hb2
        go_wp2_with fail
        refine (right_any ns ao cap _ (HN.out.later HB2.out) hlen).mono ?_
        rw [HR.out]
        rintro e w3 ⟨rfl, hb3⟩
        have HB3 := Lib.hid (bl HB2.out HB2.out.size hb3)
        clear hb3
        go_wp2_with fail
        refine (awake7_any _).mono ?_
        rintro e w5 ⟨rfl, hb5⟩
        have HB5 := Lib.hid (bl HB3.out HB3.out.size hb5)
        clear hb5
        go_wp2
        go_ret
        exact ⟨rfl, HB5.out⟩
end Go.Proofs.Ytjpemijonjmcdaa
