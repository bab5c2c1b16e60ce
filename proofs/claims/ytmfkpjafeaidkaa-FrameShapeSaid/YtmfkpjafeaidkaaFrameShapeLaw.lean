/- The walk of FrameShape. -/
import Derived.Test.YtmfkpjafeaidkaaFrameAskSt
import Derived.Test.YtmfkpjafeaidkaaShapeLaws
import Derived.Deep.RegionHeld3
namespace Go.Proofs.Ytmfkpjafeaidkaa
open Go.RowKit
set_option linter.unusedVariables false
set_option linter.unusedSimpArgs false

set_option maxRecDepth 100000 in
set_option maxHeartbeats 8000000 in
theorem FrameShape_walk (n : Int) (w : World) (h0 : 0 ≤ n) (h1 : n ≤ 65535) : Calls Try.prog 8 #[.int .u16 n] w fun e w' => e = .returned (.bool true) ∧ Below w.heap.size w w' := by
  obtain ⟨m, hm, hm2⟩ : ∃ m : Nat, n % 1501 = m ∧ m ≤ 1500 := ⟨(n % 1501).toNat, by omega, by omega⟩
  have HM := Lib.hid hm
  clear hm
  go_enter Try.func8, Try.ntmps8
  go_wp2_with fail
  rw [HM.out]
  refine (made_any m w (by omega)).mono ?_
  rintro e w1 ⟨la, lc, rfl, hf, hl, _, hb⟩
  have S1 := Lib.hid (show AskS w.heap.size w.heap.size m (frameN m).length la lc none 0 [] none 0 [] w w1 from ⟨hf, hl, nil_own _ _ _, nil_own _ _ _, hb, Nat.le_refl _, hb.size⟩)
  obtain ⟨fb, hfb⟩ : ∃ fb, w.heap.size = fb := ⟨_, rfl⟩
  rw [hfb] at S1 ⊢
  obtain ⟨N, hN⟩ : ∃ N, (frameN m).length = N := ⟨_, rfl⟩
  have hNl : N ≤ 3000 := by rw [← hN, frameN_len]; omega
  have HNN := Lib.hid hN
  rw [hN] at S1 ⊢
  have hcapN := own_cap S1.out.l
  have HRI := Lib.hid (fun w' (h : NdRow w' la (frameN m)) => by
    have h := right_any (frameN m) la lc w' h (by rw [HNN.out]; omega)
    rw [frameN_right, HNN.out] at h
    exact h)
  clear hf hl hb hN h0 h1
  go_wp2_with fail
  refine (HRI.out _ (S1.out.nodes HNN.out)).mono ?_
  rintro e w2 ⟨rfl, hb⟩
  have S2 := Lib.hid (S1.out.later hb)
  clear hb S1 HRI
  rcases Nat.eq_zero_or_pos m with rfl | hpos
  · go_wp2_with fail
    refine (root_yes fb 0 w2 S2.out.f).mono ?_
    rw [show rootOf 0 = -1 from rfl]
    rintro e w3 ⟨rfl, rfl⟩
    go_wp2_with fail
    refine (awake6_any _).mono ?_
    rintro e w3 ⟨rfl, hb⟩
    have HB := Lib.hid (bl S2.out.b S2.out.low.2 hb)
    clear hb S2
    go_wp2
    go_ret
    exact ⟨rfl, by have h := HB.out; rw [← hfb] at h; exact h⟩
  · obtain ⟨hh1, hh2⟩ := frame_high hpos (by omega)
    have HHI := Lib.hid (fun w' (h : NdRow w' la (frameN m)) => by
      have h := height_any (frameN m) la lc (2 * m - 2) w' h (by rw [HNN.out]; omega) (by rw [HNN.out]; exact hcapN)
      rw [hh1, hh2, HNN.out] at h
      exact h)
    have hlog16 := logN_le m (by omega)
    have hNm : N = 2 * m - 1 := by rw [← HNN.out, frameN_len]
    have HNM := Lib.hid hNm
    obtain ⟨m1, rfl⟩ : ∃ m1, m = m1 + 1 := ⟨m - 1, by omega⟩
    obtain ⟨N1, rfl⟩ : ∃ N1, N = N1 + 1 := ⟨N - 1, by omega⟩
    have HN1 := Lib.hid (show (N1 : Int) = 2 * ((m1 + 1 : Nat) : Int) - 2 by omega)
    have HROOT := Lib.hid (fun w (h : FrameIn fb (m1 + 1) w) => by have h := root_yes fb (m1 + 1) w h; rw [show rootOf (m1 + 1) = (N1 : Int) by unfold rootOf; rw [if_neg (by omega)]; exact HN1.out.symm] at h; exact h)
    have HLOG := Lib.hid (fun w => log_any (m1 + 1) w (by omega))
    generalize logN (m1 + 1) = lg at HHI HLOG hlog16
    rw [← HN1.out] at HHI
    have hl := (SubAt.all (show 1 ≤ m1 + 1 by omega)).root
    have hN1 : N1 < (frameN (m1 + 1)).length := by rw [HNN.out]; omega
    obtain ⟨bx, ox, rfl, e0, e1, e2, e3, e4, e5, e6⟩ := (S2.out.nodes HNN.out).node N1 hN1
    have hu : (frameN (m1 + 1)).getD N1 Nd.zero = rootNd (m1 + 1) 0 0 := by
      rw [← hl, Int.zero_add, ← HN1.out]; unfold nd; simp
    rw [hu] at e3 e4
    rw [rootNd_f] at e3
    rw [rootNd_t (by omega), Int.zero_add] at e4
    clear hh1 hh2 hl hu hN1 e0 e1 e2 e5 e6 hNm
    go_wp2_with fail
    refine (HHI.out _ (S2.out.nodes HNN.out)).mono ?_
    rintro e w3 ⟨rfl, hb⟩
    have S3 := Lib.hid (S2.out.later hb)
    have hbx : bx < w2.heap.size := World.block_lt_of_cell? _ _ e3
    have d3 := (bfacts hb).1 _ (ox + N1 * 7 + 3) hbx
    have d4 := (bfacts hb).1 _ (ox + N1 * 7 + 4) hbx
    rw [e3] at d3
    rw [e4] at d4
    clear hb S2 HHI hbx e3 e4
    go_wp2_with fail
    refine (HLOG.out _).mono ?_
    rintro e w4 ⟨rfl, rfl⟩
    go_wp2_with fail
    refine (HROOT.out _ S3.out.f).mono ?_
    rintro e w4 ⟨rfl, rfl⟩
    clear HLOG HROOT
    go_wp2_with fail
    obtain ⟨hlv1, hlv2⟩ := frame_leaves (show 1 ≤ m1 + 1 by omega)
    rw [HNN.out] at hlv1 hlv2
    have HLV1 := Lib.hid hlv1
    have HLV2 := Lib.hid hlv2
    have HSH := Lib.hid (shape_at (show 1 ≤ m1 + 1 by omega) 0 0 (SubAt.all (show 1 ≤ m1 + 1 by omega)))
    have HSTEP := Lib.hid (fun i (h : i < N1 + 1) => lvN_step (frameN (m1 + 1)) i (by rw [HNN.out]; exact h))
    have HLE := Lib.hid (lvN_le (frameN (m1 + 1)))
    clear hlv1 hlv2 d3 d4
    go_loopw [9, 10, 87] (fun kv lv iv wr => ∃ j c : Nat, j ≤ N1 + 1 ∧ c ≤ j ∧ iv = .int .i64 j ∧ lv = .int .i64 c ∧ kv = .int .i64 (2 * ((j : Int) - c)) ∧ Hid (c = lvN (frameN (m1 + 1)) j) ∧ Hid (AskS fb fb (m1 + 1) (N1 + 1) (some ⟨bx, ox, none⟩) lc none 0 [] none 0 [] w wr)) (fun _ _ i _ => N1 + 1 - (intOf i).toNat)
    case atStart => exact ⟨0, 0, Nat.zero_le _, Nat.zero_le _, rfl, rfl, rfl, Lib.hid rfl, S3⟩
    case round =>
      clear S3
      obtain ⟨j, c, hj, hc, rfl, rfl, rfl, HC, S⟩ := hrel
      by_cases hjN : j < N1 + 1
      · have hsh := HSH.out j (by omega) (by have := HN1.out; omega)
        have hst := HSTEP.out j hjN
        have hle := HLE.out (j + 1)
        obtain ⟨bx', ox', hh, e0, e1, e2, e3, e4, e5, e6⟩ := (S.out.nodes HNN.out).node j (by rw [HNN.out]; exact hjN)
        cases hh
        have hlf := HLV2.out j hjN
        obtain ⟨u, hu⟩ : ∃ u, (frameN (m1 + 1)).getD j Nd.zero = u := ⟨_, rfl⟩
        have hnu : nd (frameN (m1 + 1)) (j : Int) = u := by rw [← hu]; unfold nd; simp
        unfold ShapeAt at hsh
        rw [hnu] at hsh
        rw [hu] at e0 e1 e2 e3 e4 e5 e6 hlf hst
        obtain ⟨ha, hsh⟩ := hsh
        rw [ha] at e5
        clear hu hnu ha
        rcases hsh with ⟨k1, k2, k3⟩ | ⟨k1, k2, k3, k4, k5, k6, k7, k8, k9, k10, k11⟩
        · have hf := hlf k1
          rw [if_pos k1] at hst
          rw [k1] at e0
          rw [← HC.out] at hf hst
          rw [k3, hf] at e6
          rw [hf] at k2
          rw [k2] at e4
          rw [hf] at e3
          have HST := Lib.hid hst
          generalize u.l = ul at e1
          generalize u.r = ur at e2
          clear k1 k2 k3 hf hst hlf hle
          go_wp2_with fail
          go_roundw
          case rel => exact ⟨j + 1, c + 1, by omega, by omega, by go_num, by go_num, by go_num, Lib.hid HST.out.symm, Lib.hid (S.out.later ((Below.refl wr.heap.size wr).alloc (Nat.le_refl _) _))⟩
          case measure => simp [intOf]; omega
        · rw [if_neg (by omega), Nat.add_zero, ← HC.out] at hst
          rw [k1] at e0
          rw [k2] at e6
          have HST := Lib.hid hst
          obtain ⟨lx, hlx⟩ : ∃ lx : Nat, u.l = lx := ⟨u.l.toNat, by omega⟩
          obtain ⟨rx, hrx⟩ : ∃ rx : Nat, u.r = rx := ⟨u.r.toNat, by omega⟩
          have hnl : nd (frameN (m1 + 1)) u.l = (frameN (m1 + 1)).getD lx Nd.zero := by rw [hlx]; unfold nd; simp
          have hnr : nd (frameN (m1 + 1)) u.r = (frameN (m1 + 1)).getD rx Nd.zero := by rw [hrx]; unfold nd; simp
          rw [hnl, hnr] at k10 k11 k8
          rw [hnl] at k7
          rw [hnr] at k9
          have hlxN : lx < N1 + 1 := by omega
          have hrxN : rx < N1 + 1 := by omega
          have b1 := sub_range (show 1 ≤ m1 + 1 by omega) 0 0 (SubAt.all (show 1 ≤ m1 + 1 by omega)) u.l (by omega) (by have := HN1.out; omega)
          have b2 := sub_range (show 1 ≤ m1 + 1 by omega) 0 0 (SubAt.all (show 1 ≤ m1 + 1 by omega)) u.r (by omega) (by have := HN1.out; omega)
          rw [hnl] at b1
          rw [hnr] at b2
          rw [hlx] at e1
          rw [hrx] at e2
          have KB := Lib.hid (And.intro b1 b2)
          clear b1 b2
          generalize u.f = uf at e3 k7
          generalize u.t = ut at e4 k9
          clear k1 k2 k3 k4 k5 k6 hst hlf hle hlx hrx hnl hnr
          have K := Lib.hid (And.intro k7 (And.intro k8 (And.intro k9 (And.intro k10 k11))))
          clear k7 k8 k9 k10 k11
          go_wp2_with fail
          refine from_box1 (fun V hV => ?_)
          obtain ⟨hB, zlt, zge, cn, fn⟩ := hV
          have SV := Lib.hid (S.out.later hB)
          have m1' : V.cell? ⟨wr.heap.size, 1, none⟩ = some (.int .i64 lx) := cn 1
          have m2' : V.cell? ⟨wr.heap.size, 2, none⟩ = some (.int .i64 rx) := cn 2
          have m3' : V.cell? ⟨wr.heap.size, 3, none⟩ = some (.int .i64 uf) := cn 3
          have m4' : V.cell? ⟨wr.heap.size, 4, none⟩ = some (.int .i64 ut) := cn 4
          obtain ⟨bx', ox', hh, a0, a1, a2, a3, a4, a5, a6⟩ := (SV.out.nodes HNN.out).node lx (by rw [HNN.out]; exact hlxN)
          cases hh
          obtain ⟨bx', ox', hh, b0, b1, b2, b3, b4, b5, b6⟩ := (SV.out.nodes HNN.out).node rx (by rw [HNN.out]; exact hrxN)
          cases hh
          generalize (frameN (m1 + 1)).getD lx Nd.zero = L at K KB a0 a1 a2 a3 a4 a5 a6
          generalize (frameN (m1 + 1)).getD rx Nd.zero = R at K KB b0 b1 b2 b3 b4 b5 b6
          have r0 : (0 : Int) ≤ (lx : Int) := by omega
          have r1 : (lx : Int) < (N1 : Int) + 1 := by omega
          have r2 : (0 : Int) ≤ (rx : Int) := by omega
          have r3 : (rx : Int) < (N1 : Int) + 1 := by omega
          have t1 := World.new_ne V _ m1'
          have t2 := World.new_ne V _ a0
          have t3 := zlt
          have t4 : bx < V.heap.size := World.block_lt_of_cell? _ _ a0
          clear cn fn hB e0 e1 e2 e3 e4 e5 e6 S
          go_cut [13, 14] (fun va vb wc => ∃ ga gb : Nat, va = .pointer (some ⟨ga, 0, none⟩) ∧ vb = .pointer (some ⟨gb, 0, none⟩) ∧ wc.cell? ⟨ga, 3, none⟩ = some (.int .i64 L.f) ∧ wc.cell? ⟨ga, 4, none⟩ = some (.int .i64 L.t) ∧ wc.cell? ⟨gb, 3, none⟩ = some (.int .i64 R.f) ∧ wc.cell? ⟨gb, 4, none⟩ = some (.int .i64 R.t) ∧ Hid (Below V.heap.size V wc))
          case first =>
            go_region_held3 (fun w' => w'.cell? ⟨wr.heap.size, 1, none⟩ = some (.int .i64 lx) ∧ w'.cell? ⟨wr.heap.size, 2, none⟩ = some (.int .i64 rx) ∧
              w'.cell? ⟨bx, ox + lx * 7, none⟩ = some (.int .u8 L.k) ∧ w'.cell? ⟨bx, ox + lx * 7 + 1, none⟩ = some (.int .i64 L.l) ∧ w'.cell? ⟨bx, ox + lx * 7 + 2, none⟩ = some (.int .i64 L.r) ∧ w'.cell? ⟨bx, ox + lx * 7 + 3, none⟩ = some (.int .i64 L.f) ∧ w'.cell? ⟨bx, ox + lx * 7 + 4, none⟩ = some (.int .i64 L.t) ∧ w'.cell? ⟨bx, ox + lx * 7 + 5, none⟩ = some (.int .i64 L.a) ∧ w'.cell? ⟨bx, ox + lx * 7 + 6, none⟩ = some (.int .i64 L.i) ∧
              w'.cell? ⟨bx, ox + rx * 7, none⟩ = some (.int .u8 R.k) ∧ w'.cell? ⟨bx, ox + rx * 7 + 1, none⟩ = some (.int .i64 R.l) ∧ w'.cell? ⟨bx, ox + rx * 7 + 2, none⟩ = some (.int .i64 R.r) ∧ w'.cell? ⟨bx, ox + rx * 7 + 3, none⟩ = some (.int .i64 R.f) ∧ w'.cell? ⟨bx, ox + rx * 7 + 4, none⟩ = some (.int .i64 R.t) ∧ w'.cell? ⟨bx, ox + rx * 7 + 5, none⟩ = some (.int .i64 R.a) ∧ w'.cell? ⟨bx, ox + rx * 7 + 6, none⟩ = some (.int .i64 R.i)) (go_keep) (fail)
            · go_wp2_with fail
              go_meet
              case rel => exact ⟨V.heap.size, V.heap.size + 1, rfl, rfl, by simp, by simp, by simp, by simp, Lib.hid ((((Below.refl V.heap.size V).alloc (Nat.le_refl _) _).alloc (by simp) _).drew)⟩
            · go_wp2_with fail
              go_meet
              case rel => exact ⟨V.heap.size + 1, V.heap.size, rfl, rfl, by simp, by simp, by simp, by simp, Lib.hid ((((Below.refl V.heap.size V).alloc (Nat.le_refl _) _).alloc (by simp) _).drew)⟩
          case rest =>
          obtain ⟨ga, gb, rfl, rfl, x1, x2, x3, x4, HBC⟩ := hcut
          have SC := Lib.hid (SV.out.later HBC.out)
          have y3 := (bfacts HBC.out).1 _ 3 zlt
          have y4 := (bfacts HBC.out).1 _ 4 zlt
          rw [m3'] at y3
          rw [m4'] at y4
          obtain ⟨k7, k8, k9, k10, k11⟩ := K.out
          obtain ⟨⟨z1, z2, z3⟩, z4, z5, z6⟩ := KB.out
          rw [k7] at x1 k10 k11 z1 z2
          rw [k8] at x2 k10 k11 z2 z3
          rw [k9] at x4 k10 k11 z5 z6
          generalize R.f = mid at x2 x3 k10 k11 z2 z3 z4 z5
          rw [Int.zero_add] at z3 z6
          clear m1' m2' m3' m4' a0 a1 a2 a3 a4 a5 a6 b0 b1 b2 b3 b4 b5 b6 t1 t2 t3 t4 zlt zge SV HBC k7 k8 k9 K KB
          go_wp2_with fail
          go_roundw
          case rel => exact ⟨j + 1, c, by omega, by omega, by go_num, rfl, by go_num, Lib.hid HST.out.symm, SC⟩
          case measure => simp [intOf]; omega
      · have hjg : j = N1 + 1 := by omega
        subst hjg
        have hcm : c = m1 + 1 := by rw [HC.out]; exact HLV1.out
        have HN2 := HN1.out
        subst hcm
        go_wp2_with fail
        refine (awake6_any _).mono ?_
        rintro e w9 ⟨rfl, hb⟩
        have HB := Lib.hid (bl S.out.b S.out.low.2 hb)
        clear hb S
        go_wp2
        go_ret
        exact ⟨rfl, by have h := HB.out; rw [← hfb] at h; exact h⟩
end Go.Proofs.Ytmfkpjafeaidkaa
