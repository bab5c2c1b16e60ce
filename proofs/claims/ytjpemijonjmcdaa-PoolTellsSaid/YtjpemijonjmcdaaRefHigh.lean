/- The contracts of the document's Roots, high and Height (layer 5). -/
import Derived.Test.YtjpemijonjmcdaaPoolHeightLaw
import Derived.Test.YtjpemijonjmcdaaStackRoots
namespace Go.Proofs.Ytjpemijonjmcdaa
open Go.RowKit
set_option linter.unusedVariables false
set_option linter.unusedSimpArgs false

def kidRoots (ns : List Nd) (k : Nat) : List Int := (rangeI k).filter fun x => !(kidB ns x)
theorem kidRoots_succ (ns : List Nd) (k : Nat) : kidRoots ns (k + 1) = kidRoots ns k ++ (if kidB ns (k : Int) = true then [] else [(k : Int)]) := by
  unfold kidRoots
  rw [rangeI_succ, List.filter_append]
  cases h : kidB ns (k : Int) <;> simp [h]
theorem kidRoots_len (ns : List Nd) (k : Nat) : (kidRoots ns k).length ≤ k := by
  unfold kidRoots
  refine Nat.le_trans (List.length_filter_le _ _) ?_
  unfold rangeI; simp
theorem kidRoots_eq {ns : List Nd} (h : rightL [] ns = true) : kidRoots ns ns.length = rootsL (ksFrom [] ns) := by
  unfold kidRoots rootsL
  rw [ksFrom_len, List.length_nil, Nat.zero_add]
  refine List.filter_congr fun x hx => ?_
  have hx' := mem_rangeI.1 hx
  rw [flags ns h x hx'.1 hx'.2]

set_option maxRecDepth 100000 in
set_option maxHeartbeats 1000000 in
theorem rroots_any (ns : List Nd) (ao : Option Addr) (cap : Nat) (w : World) (hrow : NdRow w ao ns) (hlen : ns.length ≤ 2513169434907) :
    Calls Try.prog 38 #[.slice ao ns.length cap] w (IntsP (kidRoots ns ns.length) w) := by
  have HN := Lib.hid hrow
  clear hrow
  obtain ⟨i0, hi, hzz, hz1, hz2⟩ := info_parts infoInt
  go_enter Try.func38, Try.ntmps38
  go_wp2_with fail
  go_loopw [3, 4] (fun v i wr => ∃ (k : Nat) (a : Option Addr) (c m : Nat), k ≤ ns.length ∧ i = .int .i64 k ∧ v = .slice a m c ∧ m ≤ k ∧ Hid (m = (kidRoots ns k).length) ∧ Hid (wr.ownsRow w.heap.size 3 1 (.slice a m c) m ((kidRoots ns k).map (.int .i64))) ∧ Hid (Below w.heap.size w wr)) (fun _ i _ => ns.length - (intOf i).toNat)
  case atStart => exact ⟨0, none, 0, 0, Nat.zero_le _, rfl, rfl, Nat.le_refl _, Lib.hid rfl, Lib.hid (World.ownsRow_nil _ _ _ _), Lib.hid (Below.refl _ _)⟩
  case round =>
    obtain ⟨k, a, c, m, hk, rfl, rfl, hmk, HM, HO, HB⟩ := hrel
    by_cases hlt : k < ns.length
    · have hrt := kidRoots_succ ns k
      cases hkb : kidB ns (k : Int) with
      | false =>
        rw [hkb, if_neg (by simp)] at hrt
        have HRT := Lib.hid hrt
        have HKB := Lib.hid hkb
        clear hrt hkb
        go_wp2_with fail
        refine (kid_any ns ao cap (k : Int) _ (HN.out.later HB.out) hlen).mono ?_
        rw [HKB.out]
        rintro e w1 ⟨rfl, rfl⟩
        go_wp2_with (at_builtin; refine wpList_append_any _ rfl (.tmp 15) (.tmp 17) 25 rfl w.heap.size 3 i0 (.int .i64 0) 1 8 Try.underlying25 hi hzz hz1 hz2 rfl (by decide) _ _ _ rfl (HO.out.alloc _) (wr.heap.size + 1) (some ⟨wr.heap.size, 0, none⟩) 1 1 [.int .i64 (k : Int)] rfl (reads_cells wr #[.int .i64 (k : Int)] _ 1 1 rfl) (by intro u hu; simp at hu; subst hu; rfl) (by unfold maxLen; omega) (by omega) (Nat.le_trans HB.out.size (by simp)) ?_)
        intro v2 w2 ho2 hg2 _
        obtain ⟨a2, k2, rfl⟩ := own_shape ho2
        have HB2 := Lib.hid ((HB.out.alloc HB.out.size (.cells #[.int .i64 (k : Int)] 3)).grown hg2 (Nat.le_trans HB.out.size (by simp)) (fun r hr => (HO.out.lt r hr).1))
        have HO2 := Lib.hid ho2
        clear ho2 hg2
        go_wp2_with fail
        go_roundw
        case rel =>
          refine ⟨k + 1, a2, k2, m + 1, by omega, by go_num, rfl, by omega, Lib.hid ?_, Lib.hid ?_, HB2⟩
          · rw [HRT.out, HM.out]; simp
          · rw [HRT.out]; simpa using HO2.out
        case measure => simp [intOf]; omega
      | true =>
        rw [hkb, if_pos rfl, List.append_nil] at hrt
        have HRT := Lib.hid hrt
        have HKB := Lib.hid hkb
        clear hrt hkb
        go_wp2_with fail
        refine (kid_any ns ao cap (k : Int) _ (HN.out.later HB.out) hlen).mono ?_
        rw [HKB.out]
        rintro e w1 ⟨rfl, rfl⟩
        go_wp2_with fail
        go_roundw
        case rel => exact ⟨k + 1, a, c, m, by omega, by go_num, rfl, by omega, Lib.hid (by rw [HRT.out, HM.out]), Lib.hid (by rw [HRT.out]; exact HO.out), HB⟩
        case measure => simp [intOf]; omega
    · have hke : k = ns.length := by omega
      subst hke
      clear hlt hk
      go_wp2
      go_ret
      have hm := HM.out
      subst hm
      exact ⟨a, c, rfl, HO.out, HB.out⟩

/-- How high the node of a place is, of right nodes. -/
def hgt (ns : List Nd) (i : Nat) : Int := (hsL ns).getD i 0
theorem hgt_kid {ns : List Nd} (k x : Nat) (hk : k ≤ ns.length) (hx : x < k) : (hsL (ns.take k)).getD x 0 = hgt ns x := by
  obtain ⟨t, ht⟩ := hsL_prefix ns k
  have hl : (hsL (ns.take k)).length = k := by rw [hsL_len, List.length_take]; omega
  unfold hgt
  rw [← ht, List.getD_eq_getElem?_getD, List.getD_eq_getElem?_getD, List.getElem?_append_left (by omega)]
theorem hgt_leaf {ns : List Nd} (h : rightL [] ns = true) (k : Nat) (hk : k < ns.length) (h1 : (ns.getD k Nd.zero).k = 1) : hgt ns k = 0 := by
  have hm : mayB (ns.getD k Nd.zero).k (ns.getD k Nd.zero).l (ns.getD k Nd.zero).r (ksFrom [] (ns.take k)) = true := by
    cases e : mayB (ns.getD k Nd.zero).k (ns.getD k Nd.zero).l (ns.getD k Nd.zero).r (ksFrom [] (ns.take k)) with
    | true => rfl
    | false => rw [rightL_no ns k hk e] at h; cases h
  unfold hgt
  rw [hsL_at ns k hk]
  unfold mayB at hm
  rw [if_pos h1, Bool.and_eq_true] at hm
  unfold hOf
  rw [List.isEmpty_iff.1 hm.2]
  rfl
/-- An inner node: by one higher than the higher kid. -/
theorem hgt_inner {ns : List Nd} (h : rightL [] ns = true) (k : Nat) (hk : k < ns.length) (h1 : (ns.getD k Nd.zero).k ≠ 1) :
    hgt ns k = max (if 0 ≤ (ns.getD k Nd.zero).l then hgt ns (ns.getD k Nd.zero).l.toNat else 0) (if 0 ≤ (ns.getD k Nd.zero).r then hgt ns (ns.getD k Nd.zero).r.toNat else 0) + 1 := by
  have hm : mayB (ns.getD k Nd.zero).k (ns.getD k Nd.zero).l (ns.getD k Nd.zero).r (ksFrom [] (ns.take k)) = true := by
    cases e : mayB (ns.getD k Nd.zero).k (ns.getD k Nd.zero).l (ns.getD k Nd.zero).r (ksFrom [] (ns.take k)) with
    | true => rfl
    | false => rw [rightL_no ns k hk e] at h; cases h
  obtain ⟨k1, k2⟩ := right_kidsOk h (k : Int) (by omega) (by omega)
  rw [show nd ns (k : Int) = ns.getD k Nd.zero by unfold nd; simp] at k1 k2
  have hb : ∀ x : Nat, x < k → 0 ≤ hgt ns x := fun x hx => by
    rw [← hgt_kid k x (by omega) hx]
    exact (hsL_bd (right_kidsOk h) k (by omega) x hx).1
  have hv : ∀ x : Int, 0 ≤ x → x < k → (hsL (ns.take k)).getD x.toNat 0 = hgt ns x.toNat := fun x h0 h1 => hgt_kid k x.toNat (by omega) (by omega)
  have hg : hgt ns k = hOf (hsL (ns.take k)) (ns.getD k Nd.zero) := hsL_at ns k hk
  rw [hg]
  generalize ns.getD k Nd.zero = n at *
  unfold mayB at hm
  rw [if_neg h1, Bool.and_eq_true] at hm
  unfold hOf hFold kidsL
  have hm2 := hm.2
  by_cases e1 : n.l = -1 <;> by_cases e2 : n.r = -1
  · exfalso
    rw [e1, e2] at hm2
    split at hm2 <;> simp [kidsL] at hm2
  · rw [if_pos e1, if_neg e2, if_neg (by omega), if_pos (by omega)]
    have := hb n.r.toNat (by omega)
    have := hv n.r (by omega) (by omega)
    simp only [List.nil_append, List.foldl_cons, List.foldl_nil, this]
    omega
  · rw [if_neg e1, if_pos e2, if_pos (by omega), if_neg (by omega)]
    have := hb n.l.toNat (by omega)
    have := hv n.l (by omega) (by omega)
    simp only [List.append_nil, List.foldl_cons, List.foldl_nil, this]
    omega
  · rw [if_neg e1, if_neg e2, if_pos (by omega), if_pos (by omega)]
    have := hb n.l.toNat (by omega)
    have := hb n.r.toNat (by omega)
    have h3 := hv n.l (by omega) (by omega)
    have h4 := hv n.r (by omega) (by omega)
    simp only [List.cons_append, List.nil_append, List.foldl_cons, List.foldl_nil, h3, h4]
    omega
end Go.Proofs.Ytjpemijonjmcdaa
