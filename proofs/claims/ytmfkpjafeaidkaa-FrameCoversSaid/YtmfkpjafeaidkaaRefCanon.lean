/- The contracts of gridironref06: parent, Canon, Path. -/
import Derived.Test.YtmfkpjafeaidkaaRefFrame
namespace Go.Proofs.Ytmfkpjafeaidkaa
open Go.RowKit
set_option linter.unusedVariables false
set_option linter.unusedSimpArgs false

def hasKid (n : Nd) (x : Int) : Bool := n.l == x || n.r == x
/-- The first one whose kid a place is; -1: nobody. -/
def parentB (ns : List Nd) (x : Int) : Int := match (List.range ns.length).find? (fun i => hasKid (ns.getD i Nd.zero) x) with | some i => i | none => -1
theorem parentB_at {ns : List Nd} {x : Int} (k : Nat) (hk : k < ns.length) (hb : hasKid (ns.getD k Nd.zero) x = true) (hn : ∀ j, j < k → hasKid (ns.getD j Nd.zero) x = false) : parentB ns x = k := by
  unfold parentB
  rw [show (List.range ns.length).find? (fun i => hasKid (ns.getD i Nd.zero) x) = some k from List.find?_range_eq_some.2 ⟨hb, List.mem_range.2 hk, fun j hj => by rw [hn j hj]; rfl⟩]
theorem parentB_no {ns : List Nd} {x : Int} (hn : ∀ j, j < ns.length → hasKid (ns.getD j Nd.zero) x = false) : parentB ns x = -1 := by
  unfold parentB
  rw [show (List.range ns.length).find? (fun i => hasKid (ns.getD i Nd.zero) x) = none from List.find?_range_eq_none.2 (fun j hj => by rw [hn j hj]; rfl)]
theorem parentB_range (ns : List Nd) (x : Int) : -1 ≤ parentB ns x ∧ parentB ns x < ns.length := by
  unfold parentB
  cases h : (List.range ns.length).find? (fun i => hasKid (ns.getD i Nd.zero) x) with
  | none => simp; omega
  | some k => have := List.mem_range.1 (List.mem_of_find?_eq_some h); simp; omega

set_option maxRecDepth 100000 in
set_option maxHeartbeats 2000000 in
theorem parent_any (ns : List Nd) (ao : Option Addr) (cap : Nat) (x : Int) (w : World) (hrow : NdRow w ao ns) (hlen : ns.length ≤ 2000000) :
    Calls Try.prog 32 #[.slice ao ns.length cap, .int .i64 x] w fun e w' => e = .returned (.int .i64 (parentB ns x)) ∧ w = w' := by
  have HROW := Lib.hid hrow
  clear hrow
  go_enter Try.func32, Try.ntmps32
  go_wp2_with fail
  go_loopw [5] (fun i wr => ∃ k : Nat, k ≤ ns.length ∧ i = .int .i64 k ∧ Hid (∀ j, j < k → hasKid (ns.getD j Nd.zero) x = false) ∧ wr = w) (fun i _ => ns.length - (intOf i).toNat)
  case atStart => exact ⟨0, Nat.zero_le _, rfl, Lib.hid (fun j h => by omega), rfl⟩
  case round =>
    obtain ⟨k, hk, rfl, HN, hwr⟩ := hrel
    replace hwr := hwr.symm
    subst hwr
    by_cases hlt : k < ns.length
    · obtain ⟨bx, ox, rfl, e0, e1, e2, e3, e4, e5, e6⟩ := HROW.out.node k hlt
      obtain ⟨u, hu⟩ : ∃ u, ns.getD k Nd.zero = u := ⟨_, rfl⟩
      rw [hu] at e1 e2
      have HU := Lib.hid hu
      clear e0 e3 e4 e5 e6 hu
      by_cases h1 : u.l = x
      · have b1 : (u.l == x) = true := by simpa using h1
        have HP := Lib.hid (parentB_at k hlt (by rw [HU.out]; unfold hasKid; rw [b1]; rfl) HN.out)
        clear h1
        go_wp2
        go_ret
        exact ⟨by rw [HP.out]; rfl, rfl⟩
      · have b1 : (u.l == x) = false := by simpa using h1
        by_cases h2 : u.r = x
        · have b2 : (u.r == x) = true := by simpa using h2
          have HP := Lib.hid (parentB_at k hlt (by rw [HU.out]; unfold hasKid; rw [b2]; simp) HN.out)
          clear h1 h2
          go_wp2
          go_ret
          exact ⟨by rw [HP.out]; rfl, rfl⟩
        · have b2 : (u.r == x) = false := by simpa using h2
          clear h1 h2
          go_wp2_with fail
          go_roundw
          case rel => exact ⟨k + 1, by omega, by go_num, Lib.hid (fun j hj => by
            by_cases e : j = k
            · subst e; rw [HU.out]; unfold hasKid; rw [b1, b2]; rfl
            · exact HN.out j (by omega)), trivial⟩
          case measure => simp [intOf]; omega
    · have HP := Lib.hid (parentB_no (ns := ns) (x := x) (fun j hj => HN.out j (by omega)))
      go_wp2
      go_ret
      exact ⟨by rw [HP.out]; rfl, rfl⟩

/-- Is a place told for a leaf? -/
def refC (ns : List Nd) (lo hi leaf x : Int) : Bool := (nd ns x).f == leaf && (withinB (nd ns x) lo hi && (decide (parentB ns x < 0) || !(withinB (nd ns (parentB ns x)) lo hi)))
def refLeaf (ns : List Nd) (lo hi leaf : Int) (k : Nat) : List Int := (rangeI k).filter (refC ns lo hi leaf)
def refUpto (ns : List Nd) (lo hi : Int) (i : Nat) : List Int := (rangeI i).flatMap fun d => refLeaf ns lo hi (lo + d) ns.length
theorem refLeaf_succ (ns : List Nd) (lo hi leaf : Int) (k : Nat) : refLeaf ns lo hi leaf (k + 1) = refLeaf ns lo hi leaf k ++ (if refC ns lo hi leaf k then [(k : Int)] else []) := by
  unfold refLeaf; rw [rangeI_succ, List.filter_append]; congr 1; simp [List.filter_cons]
theorem refUpto_succ (ns : List Nd) (lo hi : Int) (i : Nat) : refUpto ns lo hi (i + 1) = refUpto ns lo hi i ++ refLeaf ns lo hi (lo + i) ns.length := by
  unfold refUpto; rw [rangeI_succ, List.flatMap_append]; simp
theorem refLeaf_len (ns : List Nd) (lo hi leaf : Int) (k : Nat) : (refLeaf ns lo hi leaf k).length ≤ k := by
  have := List.length_filter_le (refC ns lo hi leaf) (rangeI k)
  unfold refLeaf
  simp [rangeI] at this ⊢
  exact this
theorem refUpto_len (ns : List Nd) (lo hi : Int) (i : Nat) : (refUpto ns lo hi i).length ≤ i * ns.length := by
  induction i with
  | zero => simp [refUpto, rangeI]
  | succ i ih =>
    rw [refUpto_succ, List.length_append, Nat.succ_mul]
    have := refLeaf_len ns lo hi (lo + i) ns.length
    omega

set_option maxRecDepth 100000 in
set_option maxHeartbeats 8000000 in
theorem refCanon_any (ns : List Nd) (ao : Option Addr) (cap n : Nat) (lo hi : Int) (w : World) (hrow : NdRow w ao ns) (hlen : ns.length = 2 * n - 1) (hn : 1 ≤ n) (hn2 : n ≤ 1000) (h0 : 0 ≤ lo) (h1 : lo < hi) (h2 : hi ≤ n) (hsub : SubAt ns n 0 0) :
    Calls Try.prog 13 #[.slice ao ns.length cap, .int .i64 lo, .int .i64 hi] w fun e w' => ∃ a c, e = .returned (.tuple #[.slice a (refUpto ns lo hi (hi - lo).toNat).length c, .int .i64 (entT lo hi n 0)]) ∧
      w'.ownsRow w.heap.size 3 1 (.slice a (refUpto ns lo hi (hi - lo).toNat).length c) (refUpto ns lo hi (hi - lo).toNat).length ((refUpto ns lo hi (hi - lo).toNat).map (.int .i64)) ∧ Below w.heap.size w w' := by
  have HROW := Lib.hid hrow
  have HLEN := Lib.hid hlen
  have HSUB := Lib.hid hsub
  obtain ⟨N, hN⟩ : ∃ N, ns.length = N := ⟨_, rfl⟩
  have hNl : N ≤ 2000 := by omega
  have hN1 : 1 ≤ N := by omega
  have HNN := Lib.hid hN
  have hq : (lo == hi) = false := by simp; omega
  have HUL := Lib.hid (fun i (hi' : i ≤ 1000) => show (refUpto ns lo hi i).length ≤ 2000000 from by
    have := refUpto_len ns lo hi i
    have h3 : i * ns.length ≤ 1000 * 2000 := Nat.mul_le_mul hi' (by omega)
    omega)
  have HPR := Lib.hid (parentB_range ns)
  rw [hN] at HPR ⊢
  clear hrow hlen hsub hN
  obtain ⟨i0, hi0, hzz, hz1, hz2⟩ := info_parts infoInt
  go_enter Try.func13, Try.ntmps13
  go_wp2_with fail
  go_loopw [8, 9] (fun ov lv wr => ∃ (d m : Nat) (oa : Option Addr) (oc : Nat), (d : Int) ≤ hi - lo ∧ lv = .int .i64 (lo + d) ∧ ov = .slice oa m oc ∧ m ≤ 2000000 ∧ Hid (m = (refUpto ns lo hi d).length) ∧ Hid (wr.ownsRow w.heap.size 3 1 (.slice oa m oc) m ((refUpto ns lo hi d).map (.int .i64))) ∧ Hid (Below w.heap.size w wr)) (fun _ lv _ => (hi - intOf lv).toNat)
  case atStart => exact ⟨0, 0, none, 0, by omega, by go_num, rfl, by omega, Lib.hid rfl, Lib.hid (World.ownsRow_nil _ _ _ _), Lib.hid (Below.refl _ _)⟩
  case round =>
    obtain ⟨d, m, oa, oc, hd, rfl, rfl, hm, HM, HO, HB⟩ := hrel
    by_cases hlt : lo + d < hi
    · go_wp2_with fail
      obtain ⟨wo, rfl⟩ : ∃ wo : World, wo = wr := ⟨_, rfl⟩
      go_loopw [8, 10] (fun ov iv wr => ∃ (k m : Nat) (oa : Option Addr) (oc : Nat), k ≤ N ∧ iv = .int .i64 k ∧ ov = .slice oa m oc ∧ m ≤ 2000000 + k ∧ Hid (m = (refUpto ns lo hi d ++ refLeaf ns lo hi (lo + d) k).length) ∧ Hid (wr.ownsRow w.heap.size 3 1 (.slice oa m oc) m ((refUpto ns lo hi d ++ refLeaf ns lo hi (lo + d) k).map (.int .i64))) ∧ Hid (Below w.heap.size w wr)) (fun _ iv _ => N - (intOf iv).toNat)
      case atStart => exact ⟨0, m, oa, oc, by omega, rfl, rfl, by omega, Lib.hid (by rw [HM.out]; simp [refLeaf, rangeI]), Lib.hid (by have h := HO.out; simpa [refLeaf, rangeI] using h), HB⟩
      case round =>
        clear HO HM HB hm
        obtain ⟨k, m, oa, oc, hk, rfl, rfl, hm, HM, HO, HB⟩ := hrel
        by_cases hkl : k < N
        · have hrw := HROW.out.later HB.out
          obtain ⟨bx, ox, rfl, e0, e1, e2, e3, e4, e5, e6⟩ := hrw.node k (by rw [HNN.out]; exact hkl)
          obtain ⟨u, hu⟩ : ∃ u, ns.getD k Nd.zero = u := ⟨_, rfl⟩
          rw [hu] at e0 e1 e2 e3 e4 e5 e6
          have hu' : nd ns (k : Int) = u := by unfold nd; simpa using hu
          obtain ⟨p, hp⟩ : ∃ p, parentB ns (k : Int) = p := ⟨_, rfl⟩
          have hpr := HPR.out (k : Int)
          rw [hp] at hpr
          have HRS := Lib.hid (refLeaf_succ ns lo hi (lo + d) k)
          have HRC := Lib.hid (show refC ns lo hi (lo + d) k = (u.f == lo + d && (withinB u lo hi && (decide (p < 0) || !(withinB (nd ns p) lo hi)))) by unfold refC; rw [hu', hp])
          have HRW := Lib.hid hrw
          have HPP := Lib.hid hp
          have hwu := within_any u lo hi
          obtain ⟨b2, hb2⟩ : ∃ b2, withinB u lo hi = b2 := ⟨_, rfl⟩
          rw [hb2] at hwu HRC
          have HWU := Lib.hid hwu
          obtain ⟨hp1, hp2⟩ := hpr
          clear hu hu' hp hwu hb2 hrw
          have HPAR := Lib.hid (fun w' (h : NdRow w' (some ⟨bx, ox, none⟩) ns) => by have h := parent_any ns (some ⟨bx, ox, none⟩) cap k w' h (by rw [HNN.out]; omega); rw [HNN.out, HPP.out] at h; exact h)
          go_wp2_with fail
          refine (HPAR.out wr HRW.out).mono ?_
          rintro e w1 ⟨rfl, rfl⟩
          by_cases hf : u.f = lo + d
          · have bf : (u.f == lo + d) = true := by simpa using hf
            clear hf
            go_wp2_with fail
            refine (HWU.out _).mono ?_
            rintro e w2 ⟨rfl, hb⟩
            have HB2 := Lib.hid (bl HB.out HB.out.size hb)
            have HO2 := Lib.hid (own_below HO.out hb)
            have hbx2 : w.heap.size ≤ w2.heap.size := HB2.out.size
            cases b2 with
            | false =>
              clear hb
              have HCT := Lib.hid (show refC ns lo hi (lo + d) k = false by rw [HRC.out, bf]; rfl)
              go_wp2_with fail
              go_roundw
              case rel => exact ⟨k + 1, m, oa, oc, by omega, by go_num, rfl, by omega, Lib.hid (by rw [HRS.out, HCT.out]; simpa using HM.out), Lib.hid (by rw [HRS.out, HCT.out]; have h := HO2.out; simpa using h), HB2⟩
              case measure => simp [intOf]; omega
            | true =>
              by_cases hp0 : p < 0
              · clear hb
                have HCT := Lib.hid (show refC ns lo hi (lo + d) k = true by rw [HRC.out, bf, decide_eq_true hp0]; rfl)
                go_wp2_with (at_builtin; refine wpList_append_any _ rfl (.tmp 60) (.tmp 62) 29 rfl w.heap.size 3 i0 (.int .i64 0) 1 8 Try.underlying29 hi0 hzz hz1 hz2 rfl (by decide) _ _ _ rfl (HO2.out.alloc _) (w2.heap.size + 1) (some ⟨w2.heap.size, 0, none⟩) 1 1 [.int .i64 (k : Int)] rfl (reads_cells w2 #[.int .i64 (k : Int)] _ 1 1 rfl) (by intro u hu; simp at hu; subst hu; rfl) (by unfold maxLen; omega) (by omega) (Nat.le_trans HB2.out.size (by simp)) ?_)
                intro v2 w5 ho5 hg5 _
                obtain ⟨oa2, oc2, rfl⟩ := own_shape ho5
                have HB5 := Lib.hid ((HB2.out.alloc HB2.out.size (.cells #[.int .i64 (k : Int)] 3)).grown hg5 (Nat.le_trans HB2.out.size (by simp)) (fun r hr => (HO2.out.lt r hr).1))
                have HO5 := Lib.hid ho5
                clear ho5 hg5
                go_wp2_with fail
                go_roundw
                case rel => exact ⟨k + 1, m + 1, oa2, oc2, by omega, by go_num, rfl, by omega, Lib.hid (by rw [HRS.out, HCT.out, if_pos rfl, ← List.append_assoc, List.length_append, ← HM.out]; rfl), Lib.hid (by rw [HRS.out, HCT.out, if_pos rfl]; have h := HO5.out; simpa [List.map_append, List.append_assoc] using h), HB5⟩
                case measure => simp [intOf]; omega
              · have hp0' : 0 ≤ p := by omega
                obtain ⟨pk, hpk⟩ : ∃ pk : Nat, p = pk := ⟨p.toNat, by omega⟩
                subst hpk
                have hpkN : pk < N := by omega
                obtain ⟨bx', ox', hh, d0, d1, d2, d3, d4, d5, d6⟩ := (HRW.out.later hb).node pk (by rw [HNN.out]; exact hpkN)
                cases hh
                obtain ⟨v, hv⟩ : ∃ v, ns.getD pk Nd.zero = v := ⟨_, rfl⟩
                rw [hv] at d0 d1 d2 d3 d4 d5 d6
                have hv' : nd ns (pk : Int) = v := by unfold nd; simpa using hv
                rw [hv'] at HRC
                have hwv := within_any v lo hi
                obtain ⟨b3, hb3⟩ : ∃ b3, withinB v lo hi = b3 := ⟨_, rfl⟩
                rw [hb3] at hwv HRC
                have HWV := Lib.hid hwv
                clear hb hv hv' hwv hb3 e0 e1 e2 e3 e4 e5 e6
                go_wp2_with fail
                refine (HWV.out _).mono ?_
                rintro e w3 ⟨rfl, hb⟩
                have HB3 := Lib.hid (bl HB2.out HB2.out.size hb)
                have HO3 := Lib.hid (own_below HO2.out hb)
                cases b3 with
                | false =>
                  clear hb d0 d1 d2 d3 d4 d5 d6
                  have HCT := Lib.hid (show refC ns lo hi (lo + d) k = true by rw [HRC.out, bf]; simp)
                  go_wp2_with (at_builtin; refine wpList_append_any _ rfl (.tmp 60) (.tmp 62) 29 rfl w.heap.size 3 i0 (.int .i64 0) 1 8 Try.underlying29 hi0 hzz hz1 hz2 rfl (by decide) _ _ _ rfl (HO3.out.alloc _) (w3.heap.size + 1) (some ⟨w3.heap.size, 0, none⟩) 1 1 [.int .i64 (k : Int)] rfl (reads_cells w3 #[.int .i64 (k : Int)] _ 1 1 rfl) (by intro u hu; simp at hu; subst hu; rfl) (by unfold maxLen; omega) (by omega) (Nat.le_trans HB3.out.size (by simp)) ?_)
                  intro v2 w5 ho5 hg5 _
                  obtain ⟨oa2, oc2, rfl⟩ := own_shape ho5
                  have HB5 := Lib.hid ((HB3.out.alloc HB3.out.size (.cells #[.int .i64 (k : Int)] 3)).grown hg5 (Nat.le_trans HB3.out.size (by simp)) (fun r hr => (HO3.out.lt r hr).1))
                  have HO5 := Lib.hid ho5
                  clear ho5 hg5
                  go_wp2_with fail
                  go_roundw
                  case rel => exact ⟨k + 1, m + 1, oa2, oc2, by omega, by go_num, rfl, by omega, Lib.hid (by rw [HRS.out, HCT.out, if_pos rfl, ← List.append_assoc, List.length_append, ← HM.out]; rfl), Lib.hid (by rw [HRS.out, HCT.out, if_pos rfl]; have h := HO5.out; simpa [List.map_append, List.append_assoc] using h), HB5⟩
                  case measure => simp [intOf]; omega
                | true =>
                  clear hb d0 d1 d2 d3 d4 d5 d6
                  have HCT := Lib.hid (show refC ns lo hi (lo + d) k = false by rw [HRC.out, bf, decide_eq_false (by omega)]; rfl)
                  go_wp2_with fail
                  go_roundw
                  case rel => exact ⟨k + 1, m, oa, oc, by omega, by go_num, rfl, by omega, Lib.hid (by rw [HRS.out, HCT.out]; simpa using HM.out), Lib.hid (by rw [HRS.out, HCT.out]; have h := HO3.out; simpa using h), HB3⟩
                  case measure => simp [intOf]; omega
          · have bf : (u.f == lo + d) = false := by simpa using hf
            clear hf
            have HCT := Lib.hid (show refC ns lo hi (lo + d) k = false by rw [HRC.out, bf]; rfl)
            go_wp2_with fail
            go_roundw
            case rel => exact ⟨k + 1, m, oa, oc, by omega, by go_num, rfl, by omega, Lib.hid (by rw [HRS.out, HCT.out]; simpa using HM.out), Lib.hid (by rw [HRS.out, HCT.out]; have h := HO.out; simpa using h), HB⟩
            case measure => simp [intOf]; omega
        · have HE := Lib.hid (show k = N by omega)
          go_wp2_with fail
          go_roundw
          case rel => exact ⟨d + 1, m, oa, oc, by omega, by go_num, rfl, by rw [HM.out, HE.out, ← HNN.out, ← refUpto_succ]; exact HUL.out _ (by omega), Lib.hid (by rw [HM.out, HE.out, ← HNN.out, ← refUpto_succ]), Lib.hid (by rw [refUpto_succ, HNN.out, ← HE.out]; exact HO.out), HB⟩
          case measure => simp [intOf]; omega
    · have HE := Lib.hid (show d = (hi - lo).toNat by omega)
      have HP := Lib.hid (show (N : Int) - 1 = 0 + (2 * n - 2) by have := HLEN.out; have := HNN.out; omega)
      go_wp2_with fail
      refine (entered_any ns ao cap N lo hi HNN.out (by omega) hn 0 0 (N - 1) wr HSUB.out HP.out (HROW.out.later HB.out)).mono ?_
      rintro e w1 ⟨rfl, hb⟩
      have HB1 := Lib.hid (bl HB.out HB.out.size hb)
      have HO1 := Lib.hid (own_below HO.out hb)
      clear hb
      go_wp2
      go_ret2
      exact ⟨oa, oc, by rw [← HE.out, ← HM.out]; rfl, by rw [← HE.out, ← HM.out]; exact HO1.out, HB1.out⟩
end Go.Proofs.Ytmfkpjafeaidkaa
