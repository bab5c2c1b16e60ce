/- The walk of FrameCovers. -/
import Derived.Test.YtmfkpjafeaidkaaFrameMap
import Derived.Test.YtmfkpjafeaidkaaCoverLaws
import Derived.Test.YtmfkpjafeaidkaaShapeLaws
namespace Go.Proofs.Ytmfkpjafeaidkaa
open Go.RowKit Go.Maps
set_option linter.unusedVariables false
set_option linter.unusedSimpArgs false

set_option maxRecDepth 100000 in
set_option maxHeartbeats 8000000 in
theorem FrameCovers_walk (n a b : Int) (w : World) (h0 : 0 ≤ n) (h1 : n ≤ 65535) : Calls Try.prog 6 #[.int .u16 n, .int .i64 a, .int .i64 b] w fun e w' => e = .returned (.bool true) ∧ Below w.heap.size w w' := by
  have hmm := @run_makeMap Try.prog
  obtain ⟨m, hm, hm2⟩ : ∃ m : Nat, n % 1501 = m ∧ m ≤ 1500 := ⟨(n % 1501).toNat, by omega, by omega⟩
  have HM := Lib.hid hm
  clear hm
  go_enter Try.func6, Try.ntmps6
  go_wp2_with fail
  rw [HM.out]
  refine (made_any m w (by omega)).mono ?_
  rintro e w1 ⟨la, lc, rfl, hf, hl, _, hb⟩
  have S1 := Lib.hid (show AskS w.heap.size w.heap.size m (frameN m).length la lc none 0 [] none 0 [] w w1 from ⟨hf, hl, nil_own _ _ _, nil_own _ _ _, hb, Nat.le_refl _, hb.size⟩)
  obtain ⟨fb, hfb⟩ : ∃ fb, w.heap.size = fb := ⟨_, rfl⟩
  rw [hfb] at S1 ⊢
  obtain ⟨N, hN⟩ : ∃ N, (frameN m).length = N := ⟨_, rfl⟩
  have hNl : N ≤ 3000 := by rw [← hN, frameN_len]; omega
  have HNN := Lib.hid hN
  rw [hN] at S1 ⊢
  clear hf hl hb hN h0 h1
  go_wp2_with fail
  refine (ranged_any m a b w1 (by omega)).mono ?_
  rintro e w5 ⟨lo, hi, rfl, hlo, hhi, rfl⟩
  have HCE := Lib.hid (show canonErr m lo hi = 0 by unfold canonErr; rw [if_pos ⟨by omega, by omega, by omega⟩])
  rcases Nat.eq_or_lt_of_le hlo with rfl | hlt
  · have HL := Lib.hid (show canonL m lo lo = [] ∧ canonE m lo lo = 0 by unfold canonL canonE; rw [if_neg (by omega), if_neg (by omega)]; exact ⟨rfl, rfl⟩)
    go_wp2_with fail
    refine (canon_any fb m lo lo w1 S1.out.f).mono ?_
    unfold CanonP
    rw [HL.out.1, HL.out.2, HCE.out]
    rintro e w6 ⟨ca, cc, rfl, ho, hf, hc⟩
    have S6 := Lib.hid (S1.out.onF hf hc)
    clear ho hf hc S1 HL HCE
    go_wp2_with fail
    refine (awake6_any _).mono ?_
    rintro e w3 ⟨rfl, hb⟩
    have HB := Lib.hid (bl S6.out.b S6.out.low.2 hb)
    clear hb S6
    go_wp2
    go_ret
    exact ⟨rfl, by have h := HB.out; rw [← hfb] at h; exact h⟩
  · have hm1 : 1 ≤ m := by omega
    have hcl : (canonL m lo hi = canonT lo hi m 0 0) ∧ canonE m lo hi = entT lo hi m 0 := by
      have hk : canonOk m lo hi ∧ (lo : Int) < hi := ⟨⟨by omega, by omega, by omega⟩, by omega⟩
      unfold canonL canonE; rw [if_pos hk, if_pos hk]; exact ⟨rfl, rfl⟩
    have HL := Lib.hid hcl
    have HROW := Lib.hid (show RowOf (frameN m) lo (canonT lo hi m 0 0) hi by
      have h := canon_row (ns := frameN m) lo hi (by omega) hm1 0 0 (SubAt.all hm1) (by omega)
      rw [show max (lo : Int) 0 = lo by omega, show min (hi : Int) (0 + m) = hi by omega] at h
      exact h)
    have HKID := Lib.hid (canon_kids (ns := frameN m) lo hi hm1 0 0 (SubAt.all hm1))
    have HMEM := Lib.hid (canonT_mem lo hi hm1 0 0)
    have hfew := canon_few lo hi hm1 (by omega) 0 0
    have hle := canon_le_ent lo hi hm1 0 0
    have HSH := Lib.hid (shape_at hm1 0 0 (SubAt.all hm1))
    have hlog16 := logN_le m (by omega)
    have HNM := Lib.hid (show (N : Int) = 2 * m - 1 by have := frameN_len m; rw [HNN.out] at this; omega)
    clear hcl
    obtain ⟨lg, hlg⟩ : ∃ lg, logN m = lg := ⟨_, rfl⟩
    have HLG := Lib.hid hlg
    rw [hlg] at hfew hlog16
    clear hlg
    generalize entT lo hi m 0 = E at HL hfew hle
    generalize canonT lo hi m 0 0 = C at HL HROW HKID HMEM hfew hle
    obtain ⟨kc, hkc⟩ : ∃ kc, C.length = kc := ⟨_, rfl⟩
    have HKC := Lib.hid hkc
    rw [hkc] at hfew hle
    clear hkc
    have hkcl : kc ≤ 100 := by omega
    have hq : ((lo : Int) == (hi : Int)) = false := by simp; omega
    go_wp2_with fail
    refine (canon_any fb m lo hi w1 S1.out.f).mono ?_
    unfold CanonP
    rw [HL.out.1, HL.out.2, HCE.out, HKC.out]
    rintro e w6 ⟨ca, cc, rfl, ho, hf, hc⟩
    have S6 := Lib.hid ((S1.out.onF hf hc).withQ (qs' := C) (by rw [HKC.out]; exact ownsRow_mono ho S1.out.low.2))
    clear ho hf hc S1 HL HCE
    go_wp2_with fail
    have HM0 := Lib.hid (MapSt.made w6)
    have HB0 := Lib.hid ((Below.refl w6.heap.size w6).alloc (Nat.le_refl _) (.map #[] 0))
    obtain ⟨mb, hmb⟩ : ∃ mb, w6.heap.size = mb := ⟨_, rfl⟩
    have hmb2 := S6.out.low.2
    rw [hmb] at HM0 HB0 ⊢
    rw [hmb] at hmb2
    have HMB := Lib.hid hmb
    clear hmb
    go_loopw [17, 69] (fun av iv wr => ∃ (q : Nat) (a0 : Int), q ≤ kc ∧ 0 ≤ a0 ∧ a0 ≤ 2000000 ∧ av = .int .i64 a0 ∧ iv = .int .i64 q ∧ Hid (RowOf (frameN m) a0 (C.drop q) hi) ∧ Hid (MapSt mb q (C.take q) wr) ∧ Hid (Below mb w6 wr)) (fun _ i _ => kc - (intOf i).toNat)
    case atStart => exact ⟨0, lo, Nat.zero_le _, by omega, by omega, rfl, rfl, HROW, HM0, HB0⟩
    case round =>
      clear HM0 HB0 HROW
      obtain ⟨q, a0, hq, ha0, ha1, rfl, rfl, HR, HM, HB⟩ := hrel
      have S := Lib.hid (S6.out.later (by rw [HMB.out]; exact HB.out))
      have hws := HB.out.size
      by_cases hqk : q < kc
      · have hqC : q < C.length := by rw [HKC.out]; exact hqk
        have hx := HMEM.out (C.getD q 0) (by rw [List.getD_eq_getElem?_getD, List.getElem?_eq_getElem hqC]; exact List.getElem_mem hqC)
        have hcq := S.out.q
        rw [HKC.out] at hcq
        obtain ⟨qg, rfl⟩ := own_addr hcq (by omega)
        have d0 : wr.cell? ⟨qg, q, none⟩ = some (.int .i64 (C.getD q 0)) := by rw [hcq.cellAt q (by omega), List.getElem?_map, List.getD_eq_getElem?_getD, List.getElem?_eq_getElem hqC]; rfl
        have hcap := own_cap hcq
        have hr := HR.out
        have hdr : C.drop q = C.getD q 0 :: C.drop (q + 1) := by rw [List.drop_eq_getElem_cons hqC, List.getD_eq_getElem?_getD, List.getElem?_eq_getElem hqC]; rfl
        have htk : C.take (q + 1) = C.take q ++ [C.getD q 0] := by rw [List.take_add_one, List.getD_eq_getElem?_getD, List.getElem?_eq_getElem hqC]; rfl
        rw [hdr] at hr
        obtain ⟨hr1, hr2⟩ := hr
        obtain ⟨x0, hx0⟩ : ∃ x0 : Nat, C.getD q 0 = x0 := ⟨(C.getD q 0).toNat, by omega⟩
        rw [hx0] at hx d0 hr1 hr2 htk
        have hxN : x0 < N := by have := HNM.out; omega
        obtain ⟨bx, ox, rfl, e0, e1, e2, e3, e4, e5, e6⟩ := (S.out.nodes HNN.out).node x0 (by rw [HNN.out]; exact hxN)
        have hnx : nd (frameN m) (x0 : Int) = (frameN m).getD x0 Nd.zero := by unfold nd; simp
        have hrg := sub_range hm1 0 0 (SubAt.all hm1) x0 (by omega) (by have := HNM.out; omega)
        rw [hnx] at hr1 hr2 hrg
        rw [hr1] at e3
        generalize (frameN m).getD x0 Nd.zero = u at e4 hr1 hr2 hrg
        generalize u.t = ut at e4 hr2 hrg
        have hb1 : 0 ≤ ut := by omega
        have hb2 : ut ≤ 2000000 := by omega
        have HR2 := Lib.hid hr2
        have HTK := Lib.hid htk
        have HM2 := HM.out
        obtain ⟨D, hown, hD1, hD2⟩ := HM2
        have HOWN := Lib.hid hown
        have HD := Lib.hid (And.intro hD1 hD2)
        have HKEY := Lib.hid (keyOf_int_mk Try.underlying3 (show (Lit.int .i64 (x0 : Int)).wf = true from WalkArith.wf_i64 (by omega)))
        clear e0 e1 e2 e5 e6 hx hcq hdr htk hx0 hnx hrg hr1 hr2 hown hD1 hD2 hqC
        go_wp2_with (first
          | (at_mapUpdate; refine wpList_mapUpdate_own _ rfl _ _ _ 70 rfl 3 3 lawInt Try.underlying70 _ mb q _ rfl HOWN.out (by unfold maxLen; omega) _ _ _ rfl rfl HKEY.out _ [] (plainElem_int Try.underlying3 (by decide)) ?_; intro w1' hown1 hgrow1))
        go_roundw
        case rel => exact ⟨q + 1, ut, by omega, hb1, hb2, rfl, by go_num, HR2, Lib.hid (by rw [HTK.out]; exact MapSt.put HD.out.1 HD.out.2 hown1), Lib.hid (HB.out.grown hgrow1 (by rw [← HMB.out]; exact hws) (fun j hj => by cases hj; exact Nat.le_refl _))⟩
        case measure => simp [intOf]; omega
      · have hqg : q = kc := by omega
        subst hqg
        have har : a0 = hi := by
          have h := HR.out
          rw [List.drop_of_length_le (by rw [HKC.out]; exact Nat.le_refl _)] at h
          exact h
        subst har
        have HM2 := Lib.hid (show MapSt mb q C wr from by
          have h := HM.out
          rw [List.take_of_length_le (by rw [HKC.out]; exact Nat.le_refl _)] at h
          exact h)
        clear HM HR S hws hqk
        go_wp2_with fail
        go_loopw [100] (fun iv wq => ∃ j : Nat, j ≤ N ∧ iv = .int .i64 j ∧ Hid (MapSt mb q C wq) ∧ Hid (Below mb w6 wq)) (fun i _ => N - (intOf i).toNat)
        case atStart => exact ⟨0, Nat.zero_le _, rfl, HM2, HB⟩
        case round =>
          clear HM2 HB
          obtain ⟨j, hj, rfl, HM, HB⟩ := hrel
          have S := Lib.hid (S6.out.later (by rw [HMB.out]; exact HB.out))
          have hws := HB.out.size
          by_cases hjN : j < N
          · obtain ⟨bx, ox, rfl, e0, e1, e2, e3, e4, e5, e6⟩ := (S.out.nodes HNN.out).node j (by rw [HNN.out]; exact hjN)
            have hsh := HSH.out j (by omega) (by have := HNM.out; omega)
            have hkd := HKID.out j (by omega) (by have := HNM.out; omega)
            have hnx : nd (frameN m) (j : Int) = (frameN m).getD j Nd.zero := by unfold nd; simp
            unfold ShapeAt at hsh
            rw [hnx] at hsh hkd
            generalize (frameN m).getD j Nd.zero = u at e0 e1 e2 e3 e4 e5 e6 hsh hkd
            obtain ⟨_, hsh⟩ := hsh
            have HW : ∀ cs : Array Value, Hid (Below mb w6 (wr.alloc (.cells cs 49))) := fun cs => Lib.hid (HB.out.alloc (by rw [← HMB.out]; exact hws) _)
            have HW2 := Lib.hid HW
            have HMN := Lib.hid (fun cs : Array Value => HM.out.later ((Below.refl wr.heap.size wr).alloc (Nat.le_refl _) (.cells cs 49)))
            clear HW
            rcases hsh with ⟨k1, _⟩ | ⟨k1, _, k3, k4, k5, k6, _⟩
            · rw [k1] at e0
              clear k1 hkd hnx
              go_wp2_with fail
              go_roundw
              case rel => exact ⟨j + 1, by omega, by go_num, Lib.hid (HMN.out _), HW2.out _⟩
              case measure => simp [intOf]; omega
            · obtain ⟨c1, c2⟩ := hkd k1
              rw [k1] at e0
              obtain ⟨lx, hlx⟩ : ∃ lx : Nat, u.l = lx := ⟨u.l.toNat, by omega⟩
              obtain ⟨rx, hrx⟩ : ∃ rx : Nat, u.r = rx := ⟨u.r.toNat, by omega⟩
              rw [hlx] at e1 c1 c2 k4
              rw [hrx] at e2 c1 c2 k6
              have l1 := fun cs => (HMN.out cs).look (lx : Int) (WalkArith.wf_i64 (by omega))
              have l2 := fun cs => (HMN.out cs).look (rx : Int) (WalkArith.wf_i64 (by omega))
              generalize u.f = uf at e3 c2 l1 l2
              generalize u.t = ut at e4 c2 l1 l2
              have C3 := Lib.hid (And.intro c1 c2)
              clear c1 c2 k1 k3 k4 k5 k6 hlx hrx hnx
              have fin : ∀ bl br : Bool, decide ((lx : Int) ∈ C) = bl → decide ((rx : Int) ∈ C) = br → (bl = false ∧ br = false) ∨ (¬((lo : Int) ≤ uf ∧ ut ≤ hi) ∧ ((bl = true ∧ br = false) ∨ (bl = false ∧ br = true))) := by
                intro bl br h1 h2
                obtain ⟨g1, g2⟩ := C3.out
                cases bl <;> cases br
                · exact .inl ⟨rfl, rfl⟩
                · exact .inr ⟨g2 (.inr (of_decide_eq_true h2)), .inr ⟨rfl, rfl⟩⟩
                · exact .inr ⟨g2 (.inl (of_decide_eq_true h1)), .inl ⟨rfl, rfl⟩⟩
                · exact absurd ⟨of_decide_eq_true h1, of_decide_eq_true h2⟩ g1
              obtain ⟨bl, hbl⟩ : ∃ bl, decide ((lx : Int) ∈ C) = bl := ⟨_, rfl⟩
              obtain ⟨br, hbr⟩ : ∃ br, decide ((rx : Int) ∈ C) = br := ⟨_, rfl⟩
              have fin2 := fin bl br hbl hbr
              have hil : (if (lx : Int) ∈ C then (1 : Int) else 0) = if bl = true then 1 else 0 := by rw [← hbl]; simp
              have hir : (if (rx : Int) ∈ C then (1 : Int) else 0) = if br = true then 1 else 0 := by rw [← hbr]; simp
              simp only [hil] at l1
              simp only [hir] at l2
              clear fin hbl hbr hil hir C3
              rcases fin2 with ⟨rfl, rfl⟩ | ⟨hni, ⟨rfl, rfl⟩ | ⟨rfl, rfl⟩⟩
              · simp only [Bool.false_eq_true, if_false] at l1 l2
                rcases (show uf < lo ∨ ((lo : Int) ≤ uf ∧ ut ≤ hi) ∨ ((lo : Int) ≤ uf ∧ (hi : Int) < ut) by omega) with i1 | ⟨i1, i2⟩ | ⟨i1, i2⟩
                all_goals
                  go_wp2_with fail
                  go_roundw
                  case rel => exact ⟨j + 1, by omega, by go_num, Lib.hid (HMN.out _), HW2.out _⟩
                  case measure => simp [intOf]; omega
              · simp only [Bool.false_eq_true, if_false, if_true] at l1 l2
                rcases (show uf < lo ∨ ((lo : Int) ≤ uf ∧ (hi : Int) < ut) by omega) with i1 | ⟨i1, i2⟩
                all_goals
                  go_wp2_with fail
                  go_roundw
                  case rel => exact ⟨j + 1, by omega, by go_num, Lib.hid (HMN.out _), HW2.out _⟩
                  case measure => simp [intOf]; omega
              · simp only [Bool.false_eq_true, if_false, if_true] at l1 l2
                rcases (show uf < lo ∨ ((lo : Int) ≤ uf ∧ (hi : Int) < ut) by omega) with i1 | ⟨i1, i2⟩
                all_goals
                  go_wp2_with fail
                  go_roundw
                  case rel => exact ⟨j + 1, by omega, by go_num, Lib.hid (HMN.out _), HW2.out _⟩
                  case measure => simp [intOf]; omega
          · have hjg : j = N := by omega
            subst hjg
            go_wp2_with fail
            refine (log_any m wr (by omega)).mono ?_
            rw [HLG.out]
            rintro e w8 ⟨rfl, rfl⟩
            have hl2 : (lg = 0 ∧ (q : Int) ≤ 1) ∨ (1 ≤ lg ∧ (q : Int) ≤ 2 * lg) := by omega
            rcases hl2 with ⟨rfl, z1⟩ | ⟨z0, z1⟩
            all_goals
              go_wp2_with fail
              refine (awake6_any _).mono ?_
              rintro e w9 ⟨rfl, hb⟩
              have HB2 := Lib.hid (bl S.out.b S.out.low.2 hb)
              clear hb
              go_wp2
              go_ret
              exact ⟨rfl, by have h := HB2.out; rw [← hfb] at h; exact h⟩
end Go.Proofs.Ytmfkpjafeaidkaa
