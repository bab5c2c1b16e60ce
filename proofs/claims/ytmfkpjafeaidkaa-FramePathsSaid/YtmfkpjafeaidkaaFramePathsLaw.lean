/- The walk of FramePaths. -/
import Derived.Test.YtmfkpjafeaidkaaFrameAskSt
import Derived.Test.YtmfkpjafeaidkaaPathLaws
namespace Go.Proofs.Ytmfkpjafeaidkaa
open Go.RowKit
set_option linter.unusedVariables false
set_option linter.unusedSimpArgs false

set_option maxRecDepth 100000 in
set_option maxHeartbeats 8000000 in
theorem FramePaths_walk (n a b which : Int) (w : World) (h0 : 0 ≤ n) (h1 : n ≤ 65535) : Calls Try.prog 7 #[.int .u16 n, .int .i64 a, .int .i64 b, .int .i64 which] w fun e w' => e = .returned (.bool true) ∧ Below w.heap.size w w' := by
  obtain ⟨m, hm, hm1, hm2⟩ : ∃ m : Nat, n % 1500 + 1 = m ∧ 1 ≤ m ∧ m ≤ 1500 := ⟨(n % 1500 + 1).toNat, by omega, by omega, by omega⟩
  have HM := Lib.hid hm
  clear hm
  go_enter Try.func7, Try.ntmps7
  go_wp2_with fail
  rw [HM.out]
  refine (made_any m w (by omega)).mono ?_
  rintro e w1 ⟨la, lc, rfl, hf, hl, _, hb⟩
  have S1 := Lib.hid (show AskS w.heap.size w.heap.size m (frameN m).length la lc none 0 [] none 0 [] w w1 from ⟨hf, hl, nil_own _ _ _, nil_own _ _ _, hb, Nat.le_refl _, hb.size⟩)
  obtain ⟨fb, hfb⟩ : ∃ fb, w.heap.size = fb := ⟨_, rfl⟩
  rw [hfb] at S1 ⊢
  obtain ⟨N, hN⟩ : ∃ N, (frameN m).length = N := ⟨_, rfl⟩
  have hNl : N ≤ 3000 := by rw [← hN, frameN_len]; omega
  have HNN := Lib.hid hN
  rw [hN] at S1 ⊢
  clear hf hl hb hN h0 h1
  go_wp2_with fail
  refine (pick_any which m w1 (by omega) (by omega)).mono ?_
  rintro e w2 ⟨leaf, rfl, hleaf, rfl⟩
  obtain ⟨L, hL⟩ : ∃ L, pathT leaf m 0 0 = L := ⟨_, rfl⟩
  have HPE := Lib.hid (show pathL m leaf = L ∧ pathErr m leaf = 0 by
    have h : pathOk m leaf := ⟨by omega, by omega⟩
    unfold pathL pathErr
    rw [if_pos h, if_pos h]
    exact ⟨hL, rfl⟩)
  have HPA := Lib.hid (show PathAt (frameN m) leaf 0 m L from hL ▸ path_at leaf (by omega) 0 0 (SubAt.all (by omega)) (by omega) (by omega))
  have hLlog : L.length ≤ logN m + 1 := hL ▸ path_log leaf (by omega) (by omega) 0 0
  have hlog16 := logN_le m (by omega)
  have hL0 : L = (2 * (m : Int) - 2) :: L.tail := by
    have h := pathT_cons leaf m 0 0
    rw [hL, Int.zero_add] at h
    exact h
  have HMET := Lib.hid (fun lo hi => (show metN L (canonT lo hi m 0 0) = if lo ≤ leaf ∧ leaf < hi then 1 else 0 from hL ▸ path_met lo hi leaf (by omega) 0 0 (by omega) (by omega)))
  obtain ⟨xs, x, hLx, hx1, hx2, hx3, hx4⟩ := path_last (ns := frameN m) leaf (show 1 ≤ m by omega) 0 0 (SubAt.all (by omega)) (by omega) (by omega)
  rw [hL] at hLx
  have HL0 := Lib.hid hL0
  have HLX := Lib.hid hLx
  have HX := Lib.hid (And.intro hx1 (And.intro hx2 (And.intro hx3 hx4)))
  obtain ⟨k, hk⟩ : ∃ k, L.length = k := ⟨_, rfl⟩
  have HK := Lib.hid hk
  have hk1 : 1 ≤ k := by rw [← hk, hL0]; simp
  rw [hk] at hLlog
  obtain ⟨lg, hlg⟩ : ∃ lg, logN m = lg := ⟨_, rfl⟩
  have HLG := Lib.hid hlg
  rw [hlg] at hLlog hlog16
  clear hL hL0 hLx hx1 hx2 hx3 hx4 hk hlg
  go_wp2_with fail
  refine (path_any fb m leaf w1 S1.out.f).mono ?_
  unfold PathP
  rw [HPE.out.1, HPE.out.2, HK.out]
  rintro e w2 ⟨pa, pc, rfl, ho, hf, hc⟩
  have S2 := Lib.hid ((S1.out.onF hf hc).withP (ps' := L) (by rw [HK.out]; exact ownsRow_mono ho S1.out.low.2))
  clear ho hf hc S1 HPE
  have hp := S2.out.p
  rw [HK.out] at hp
  obtain ⟨pg, rfl⟩ := own_addr hp (by omega)
  have c0 := (hp.cellAt 0 (by omega))
  rw [HL0.out] at c0
  simp only [List.map_cons, List.getElem?_cons_zero] at c0
  have hkc := own_cap hp
  clear hp
  have HLOG := Lib.hid (fun w => by have h := log_any m w (by omega); rw [HLG.out] at h; exact h)
  have HROOT := Lib.hid (fun w (h : FrameIn fb m w) => by have h := root_yes fb m w h; rw [show rootOf m = 2 * m - 2 by unfold rootOf; rw [if_neg (by omega)]] at h; exact h)
  have hpg : pg < w2.heap.size := World.block_lt_of_cell? _ _ c0
  have q0 : ((k : Int) == 0) = false := by simp; omega
  have q1 : ¬ ((lg : Int) + 1 < (k : Int)) := by omega
  have q2 : decide ((lg : Int) + 1 < (k : Int)) = false := by simp; omega
  go_wp2_with fail
  refine since_wp (fun s => ?_)
  refine wp_region_since (by kernel_rfl) (by kernel_rfl) ?_
  repeat (go_big_quiet_step (fail))
  go_big_quiet_step ((exact same_quiet (HLOG.out _)))
  repeat (go_big_quiet_step (fail))
  go_big_quiet_step ((exact same_quiet (HROOT.out _ (S2.out.f.later (Since.h _)))))
  repeat (go_big_quiet_step (fail))
  refine wpQuiet_nil ?_
  rintro _ ⟨s2, rfl⟩
  clear s
  have S3 := Lib.hid (S2.out.later s2.h)
  generalize s2.w = W3 at S3 ⊢
  clear s2 S2 hpg c0
  go_wp2_with fail
  go_loopw [78] (fun i wr => ∃ j : Nat, j ≤ k ∧ i = .int .i64 j ∧ wr = W3) (fun i _ => k - (intOf i).toNat)
  case atStart => exact ⟨0, Nat.zero_le _, rfl, rfl⟩
  case round =>
    obtain ⟨j, hj, rfl, rfl⟩ := hrel
    have hp := S3.out.p
    rw [HK.out] at hp
    by_cases hjk : j < k
    · obtain ⟨g1, g2, g3, g4, g5⟩ := HPA.out j (by rw [HK.out]; exact hjk)
      have d0 : wr.cell? ⟨pg, j, none⟩ = some (.int .i64 (L.getD j 0)) := by rw [hp.cellAt j (by omega), List.getElem?_map, List.getD_eq_getElem?_getD, List.getElem?_eq_getElem (by rw [HK.out]; exact hjk)]; rfl
      obtain ⟨x0, hx0⟩ : ∃ x0 : Nat, L.getD j 0 = x0 := ⟨(L.getD j 0).toNat, by omega⟩
      have hxN : x0 < (frameN m).length := by rw [frameN_len]; omega
      have hnx : nd (frameN m) (L.getD j 0) = (frameN m).getD x0 Nd.zero := by rw [hx0]; unfold nd; simp
      rw [hnx] at g3 g4
      rw [hx0] at d0 g5
      obtain ⟨bx, ox, rfl, e0, e1, e2, e3, e4, e5, e6⟩ := (S3.out.nodes HNN.out).node x0 hxN
      rw [HNN.out] at hxN
      generalize (frameN m).getD x0 Nd.zero = u at g3 g4 e0 e1 e2 e3 e4 e5 e6
      have q1 : ¬ (leaf : Int) < u.f := by omega
      have q2 : ¬ u.t ≤ (leaf : Int) := by omega
      clear g1 g2 g3 g4 hnx hx0 e0 e1 e2 e5 e6
      by_cases hj0 : j = 0
      · subst hj0
        clear hp g5
        go_wp2_with fail
        go_roundw
        case rel => exact ⟨1, by omega, by go_num, trivial⟩
        case measure => simp [intOf]; omega
      · have g6 := g5 (by omega)
        obtain ⟨z1, z2, _, _, _⟩ := HPA.out (j - 1) (by rw [HK.out]; omega)
        have d1 : wr.cell? ⟨pg, j - 1, none⟩ = some (.int .i64 (L.getD (j - 1) 0)) := by rw [hp.cellAt (j - 1) (by omega), List.getElem?_map, List.getD_eq_getElem?_getD, List.getElem?_eq_getElem (by rw [HK.out]; omega)]; rfl
        obtain ⟨y0, hy0⟩ : ∃ y0 : Nat, L.getD (j - 1) 0 = y0 := ⟨(L.getD (j - 1) 0).toNat, by omega⟩
        have hyN : y0 < (frameN m).length := by rw [frameN_len]; omega
        have hny : nd (frameN m) (L.getD (j - 1) 0) = (frameN m).getD y0 Nd.zero := by rw [hy0]; unfold nd; simp
        rw [hny] at g6
        rw [hy0] at d1
        obtain ⟨by', oy, hh, f0, f1, f2, f3, f4, f5, f6⟩ := (S3.out.nodes HNN.out).node y0 hyN
        cases hh
        rw [HNN.out] at hyN
        generalize (frameN m).getD y0 Nd.zero = v at g6 f0 f1 f2 f3 f4 f5 f6
        obtain ⟨i1, hi1⟩ : ∃ i1, j = i1 + 1 := ⟨j - 1, by omega⟩
        subst hi1
        rw [Nat.add_sub_cancel] at d1
        clear hp g5 z1 z2 hny hy0 f0 f3 f4 f5 f6
        by_cases hl : v.l = x0
        · rw [hl] at f1
          generalize v.r = vr at f2
          clear hl g6
          go_wp2_with fail
          go_roundw
          case rel => exact ⟨i1 + 2, by omega, by go_num, trivial⟩
          case measure => simp [intOf]; omega
        · have hr : v.r = x0 := g6.resolve_left hl
          rw [hr] at f2
          generalize v.l = vl at f1 hl
          clear hr g6
          go_wp2_with fail
          go_roundw
          case rel => exact ⟨i1 + 2, by omega, by go_num, trivial⟩
          case measure => simp [intOf]; omega
    · have hge : k ≤ j := by omega
      clear hjk
      obtain ⟨k1, rfl⟩ : ∃ k1, k = k1 + 1 := ⟨k - 1, by omega⟩
      have hxl : xs.length = k1 := by have := congrArg List.length HLX.out; rw [HK.out] at this; simp at this; omega
      have hxg : L.getD k1 0 = x := by rw [HLX.out, List.getD_eq_getElem?_getD, List.getElem?_append_right (by omega), hxl, Nat.sub_self]; rfl
      have hlast : wr.cell? ⟨pg, k1, none⟩ = some (.int .i64 x) := by
        rw [hp.cellAt k1 (by omega), List.getElem?_map, ← hxg, List.getD_eq_getElem?_getD, List.getElem?_eq_getElem (by rw [HK.out]; omega)]; rfl
      obtain ⟨g1, g2, _, _, _⟩ := HPA.out k1 (by rw [HK.out]; omega)
      rw [hxg] at g1 g2
      obtain ⟨x0, rfl⟩ : ∃ x0 : Nat, x = x0 := ⟨x.toNat, by omega⟩
      have hxN : x0 < (frameN m).length := by rw [frameN_len]; omega
      obtain ⟨bx, ox, rfl, e0, e1, e2, e3, e4, e5, e6⟩ := (S3.out.nodes HNN.out).node x0 hxN
      have hnx : nd (frameN m) (x0 : Int) = (frameN m).getD x0 Nd.zero := by unfold nd; simp
      have hk1' := HX.out.1
      have hi1' := HX.out.2.1
      rw [hnx] at hk1' hi1'
      rw [HNN.out] at hxN
      rw [hk1'] at e0
      rw [hi1'] at e6
      generalize (frameN m).getD x0 Nd.zero = u at e0 e1 e2 e3 e4 e5 e6 hk1' hi1'
      have HXL := Lib.hid hxl
      have hbx : bx < wr.heap.size := World.block_lt_of_cell? _ _ e0
      clear g1 g2 hnx hk1' hi1' hxg hxl hp
      go_wp2_with fail
      have S4 := Lib.hid (S3.out.later ((Below.refl wr.heap.size wr).alloc (Nat.le_refl _) (.cells #[.int .u8 1, .int .i64 u.l, .int .i64 u.r, .int .i64 u.f, .int .i64 u.t, .int .i64 u.a, .int .i64 leaf] 49)))
      generalize wr.alloc (.cells #[.int .u8 1, .int .i64 u.l, .int .i64 u.r, .int .i64 u.f, .int .i64 u.t, .int .i64 u.a, .int .i64 leaf] 49) = W4 at S4 ⊢
      clear e0 e1 e2 e3 e4 e5 e6 hlast hbx S3
      refine (ranged_any m a b W4 (by omega)).mono ?_
      rintro e w5 ⟨lo, hi, rfl, hlo, hhi, rfl⟩
      obtain ⟨C, hC⟩ : ∃ C, canonL m lo hi = C := ⟨_, rfl⟩
      have HCE := Lib.hid (show canonErr m lo hi = 0 by unfold canonErr; rw [if_pos ⟨by omega, by omega, by omega⟩])
      have HCM := Lib.hid (show metN L C = if (lo : Int) ≤ leaf ∧ (leaf : Int) < hi then 1 else 0 by
        rw [← hC]
        unfold canonL
        by_cases h : (lo : Int) < hi
        · rw [if_pos ⟨⟨by omega, by omega, by omega⟩, h⟩]; exact HMET.out lo hi
        · rw [if_neg (fun g => h g.2), metN_nil, if_neg (by omega)])
      have HCC := Lib.hid hC
      have hCl : C.length ≤ m := hC ▸ canonL_lenP m lo hi
      obtain ⟨kc, hkc⟩ : ∃ kc, C.length = kc := ⟨_, rfl⟩
      have HKC := Lib.hid hkc
      rw [hkc] at hCl
      clear hC hkc
      go_wp2_with fail
      refine (canon_any fb m lo hi W4 S4.out.f).mono ?_
      unfold CanonP
      rw [HCC.out, HCE.out, HKC.out]
      generalize canonE m lo hi = E0
      rintro e w6 ⟨ca, cc, rfl, ho, hf, hc⟩
      have S6 := Lib.hid ((S4.out.onF hf hc).withQ (qs' := C) (by rw [HKC.out]; exact ownsRow_mono ho S4.out.low.2))
      clear ho hf hc S4 HCE HCC
      go_wp2_with fail
      have HLE := Lib.hid (fun q (h : q ≤ kc) => show metN L (C.take q) ≤ 1 from by
        have h1 : metN L (C.take q) + metN L (C.drop q) = metN L C := by rw [← metN_append, List.take_append_drop]
        rw [HCM.out] at h1
        split at h1 <;> omega)
      have HSTEP := Lib.hid (fun q (h : q < kc) => show metN L (C.take (q + 1)) = metN L (C.take q) + L.count (C.getD q 0) from by
        rw [List.take_add_one, metN_append, List.getElem?_eq_getElem (by rw [HKC.out]; exact h), List.getD_eq_getElem?_getD, List.getElem?_eq_getElem (by rw [HKC.out]; exact h)]
        simp [metN])
      have HCNT := Lib.hid (fun j (h : j < k1 + 1) c => show (L.take (j + 1)).count c = (L.take j).count c + (if L.getD j 0 = c then 1 else 0) from by
        rw [List.take_add_one, List.count_append, List.getElem?_eq_getElem (by rw [HK.out]; exact h), List.getD_eq_getElem?_getD, List.getElem?_eq_getElem (by rw [HK.out]; exact h)]
        simp [List.count_cons])
      have HCLE := Lib.hid (fun j c => show (L.take j).count c ≤ L.count c from (List.take_sublist _ _).count_le c)
      obtain ⟨W6, hW6⟩ : ∃ W6, w6 = W6 := ⟨_, rfl⟩
      rw [hW6] at S6
      go_loopw [24, 175] (fun mv iv wr => ∃ q mm : Nat, q ≤ kc ∧ mm ≤ 1 ∧ iv = .int .i64 q ∧ mv = .int .i64 mm ∧ Hid (mm = metN L (C.take q)) ∧ wr = W6) (fun _ i _ => kc - (intOf i).toNat)
      case atStart => exact ⟨0, 0, Nat.zero_le _, Nat.zero_le _, rfl, rfl, Lib.hid rfl, hW6⟩
      case round =>
        clear hW6
        obtain ⟨q, mm, hq, hmm, rfl, rfl, HMM, hwr⟩ := hrel
        replace hwr := hwr.symm
        subst hwr
        by_cases hqk : q < kc
        · have hS := HSTEP.out q hqk
          have hle := HLE.out (q + 1) (by omega)
          rw [hS] at hle
          have hcq := S6.out.q
          rw [HKC.out] at hcq
          obtain ⟨qg, rfl⟩ := own_addr hcq (by omega)
          have d0 : W6.cell? ⟨qg, q, none⟩ = some (.int .i64 (C.getD q 0)) := by rw [hcq.cellAt q (by omega), List.getElem?_map, List.getD_eq_getElem?_getD, List.getElem?_eq_getElem (by rw [HKC.out]; exact hqk)]; rfl
          have hcap := own_cap hcq
          obtain ⟨c, hcc⟩ : ∃ c, C.getD q 0 = c := ⟨_, rfl⟩
          rw [hcc] at d0 hS hle
          have HS := Lib.hid hS
          have HLE2 := Lib.hid (show mm + L.count c ≤ 1 by rw [HMM.out]; exact hle)
          have HPROW := Lib.hid (fun j (h : j < k1 + 1) => show W6.cell? ⟨pg, j, none⟩ = some (.int .i64 (L.getD j 0)) from by
            have hp := S6.out.p
            rw [HK.out] at hp
            rw [hp.cellAt j (by omega), List.getElem?_map, List.getD_eq_getElem?_getD, List.getElem?_eq_getElem (by rw [HK.out]; exact h)]; rfl)
          clear hS hle hcq hcc
          go_wp2_with fail
          obtain ⟨wo, hwo⟩ : ∃ wo : World, wo = W6 := ⟨_, rfl⟩
          go_loopw [24, 181] (fun mv iv wq => ∃ j cc : Nat, j ≤ k1 + 1 ∧ mm + cc ≤ 1 ∧ iv = .int .i64 j ∧ mv = .int .i64 ((mm + cc : Nat) : Int) ∧ Hid (cc = (L.take j).count c) ∧ wq = wo) (fun _ i _ => k1 + 1 - (intOf i).toNat)
          case atStart => exact ⟨0, 0, Nat.zero_le _, by omega, rfl, rfl, Lib.hid (by simp), hwo.symm⟩
          case round =>
            obtain ⟨j, cc, hj, hcm, rfl, rfl, HCC, hwq⟩ := hrel
            replace hwq := hwq.symm
            subst hwq
            replace hwo := hwo.symm
            subst hwo
            by_cases hjk : j < k1 + 1
            · have d1 := HPROW.out j hjk
              have hct := HCNT.out j hjk c
              have hcle := HCLE.out (j + 1) c
              rw [hct] at hcle
              by_cases hxc : L.getD j 0 = c
              · rw [if_pos hxc] at hct hcle
                rw [hxc] at d1
                have hb : mm + (cc + 1) ≤ 1 := by have := HLE2.out; have := HCC.out; omega
                have HCT := Lib.hid hct
                clear hct hcle hxc
                go_wp2_with fail
                go_roundw
                case rel => exact ⟨j + 1, cc + 1, by omega, hb, by go_num, by go_num, Lib.hid (by rw [HCT.out, HCC.out]), trivial⟩
                case measure => simp [intOf]; omega
              · rw [if_neg hxc] at hct hcle
                have HCT := Lib.hid hct
                clear hct hcle
                generalize L.getD j 0 = lj at d1 hxc
                go_wp2_with fail
                go_roundw
                case rel => exact ⟨j + 1, cc, by omega, hcm, by go_num, rfl, Lib.hid (by rw [HCT.out, HCC.out]; rfl), trivial⟩
                case measure => simp [intOf]; omega
            · have hjg : j = k1 + 1 := by omega
              subst hjg
              have HCC2 := Lib.hid (show cc = L.count c by rw [HCC.out, List.take_of_length_le (by rw [HK.out]; exact Nat.le_refl _)])
              clear HCC hjk
              go_wp2_with fail
              go_roundw
              case rel => exact ⟨q + 1, mm + cc, by omega, hcm, by go_num, by go_num, Lib.hid (by rw [HS.out, HCC2.out, HMM.out]), trivial⟩
              case measure => simp [intOf]; omega
        · have hqg : q = kc := by omega
          subst hqg
          have HMT := Lib.hid (show mm = if (lo : Int) ≤ leaf ∧ (leaf : Int) < hi then 1 else 0 by rw [HMM.out, List.take_of_length_le (by rw [HKC.out]; exact Nat.le_refl _), HCM.out])
          clear HMM HLE HSTEP HCNT HCLE HCM hqk
          obtain ⟨hx3, hx4⟩ := HX.out.2.2
          have HC3 := Lib.hid (show canonL m leaf ((leaf : Int) + 1) = [(x0 : Int)] ∧ canonE m leaf ((leaf : Int) + 1) = 2 * k1 + 1 ∧ canonErr m leaf ((leaf : Int) + 1) = 0 from by
            have h1 : canonOk m leaf ((leaf : Int) + 1) := ⟨by omega, by omega, by omega⟩
            unfold canonL canonE canonErr
            rw [if_pos ⟨h1, by omega⟩, if_pos ⟨h1, by omega⟩, if_pos h1]
            exact ⟨hx3, by rw [hx4, HXL.out], rfl⟩)
          clear hx3 hx4
          go_wp2_with fail
          refine (canon_any fb m leaf ((leaf : Int) + 1) W6 S6.out.f).mono ?_
          unfold CanonP
          rw [HC3.out.1, HC3.out.2.1, HC3.out.2.2]
          rintro e w7 ⟨oa, oc, rfl, ho, hf, hc⟩
          have S7 := Lib.hid (S6.out.onF hf hc)
          have HO7 := Lib.hid (row_of_owned ho)
          clear ho hf hc S6 HC3
          have hpp := S7.out.p
          rw [HK.out] at hpp
          have HSL := Lib.hid (show Row w7 (some ⟨pg, k1, none⟩) ([(x0 : Int)].map (.int .i64)) from .inr ⟨pg, k1, rfl, fun i hi => by
            have : i = 0 := by simpa using hi
            subst this
            rw [Nat.add_zero, hpp.cellAt k1 (by omega), HLX.out, List.map_append, List.getElem?_append_right (by simp [HXL.out])]
            simp [HXL.out]⟩)
          clear hpp
          have hmm2 : ((leaf : Int) < lo ∧ mm = 0) ∨ ((lo : Int) ≤ leaf ∧ (leaf : Int) < hi ∧ mm = 1) ∨ ((lo : Int) ≤ leaf ∧ (hi : Int) ≤ leaf ∧ mm = 0) := by
            have h := HMT.out
            split at h <;> omega
          clear HMT hmm
          rcases hmm2 with ⟨y1, rfl⟩ | ⟨y1, y2, rfl⟩ | ⟨y1, y2, rfl⟩
          all_goals
            go_wp2_with fail
            refine (ints_any [(x0 : Int)] [(x0 : Int)] oa (some ⟨pg, k1, none⟩) oc _ w7 HO7.out HSL.out (by unfold maxLen; simp) (by unfold maxLen; simp)).mono ?_
            rw [show sameB [(x0 : Int)] [(x0 : Int)] = true from decide_eq_true rfl]
            rintro e w8 ⟨rfl, hb⟩
            have S8 := Lib.hid (S7.out.later hb)
            clear hb S7 HO7 HSL
            go_wp2_with fail
            refine (awake6_any _).mono ?_
            rintro e w9 ⟨rfl, hb⟩
            have HB := Lib.hid (bl S8.out.b S8.out.low.2 hb)
            clear hb S8
            go_wp2
            go_ret
            exact ⟨by first | rfl | exact congrArg (fun b => Ending.returned (Value.bool b)) (by simp; omega), by have h := HB.out; rw [← hfb] at h; exact h⟩
end Go.Proofs.Ytmfkpjafeaidkaa
