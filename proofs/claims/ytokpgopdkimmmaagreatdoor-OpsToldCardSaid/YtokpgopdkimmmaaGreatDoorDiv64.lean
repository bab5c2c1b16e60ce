/- math/bits.Div64 at the divisor 10^19: the quotient and the rest. -/
import Derived.Test.YtokpgopdkimmmaaGreatDoorBase
import Derived.Test.YtokpgopdkimmmaaGreatDoorShelfText
import Derived.Lib.Mul64
import Derived.Deep.QuietTactic
import Derived.BigQuiet
import Derived.Laws.Bits64b
import Derived.Laws.BitsAllLaws
import Derived.Deep.CutBlock
import Derived.Deep.DeepCutAuto
namespace Go.Proofs.YtokpgopdkimmmaaGreatDoor
open Go.RowKit Go.Shelf
set_option linter.unusedVariables false
set_option linter.unusedSimpArgs false

theorem kn_dec (u n q r t : Nat) (hu : u < 10000000000000000000) (hn : n < 4294967296) (ht : (u * 4294967296 + n) / 10000000000000000000 = t) (h : q * 2328306436 + r = u) (hr : r < 4294967296) (hq : t ≤ q) (hc : 4294967296 ≤ q ∨ r * 4294967296 + n < q * 2313682944) : 1 ≤ q ∧ t ≤ q - 1 ∧ (q - 1) * 2328306436 + (r + 2328306436) = u := by omega
theorem kn_end (u n q r t : Nat) (hu : u < 10000000000000000000) (hn : n < 4294967296) (ht : (u * 4294967296 + n) / 10000000000000000000 = t) (h : q * 2328306436 + r = u) (hq : t ≤ q) (hc : q < 4294967296) (hc2 : q * 2313682944 ≤ r * 4294967296 + n) : q = t := by omega
theorem kn_brk (u n q r t : Nat) (hu : u < 10000000000000000000) (hn : n < 4294967296) (ht : (u * 4294967296 + n) / 10000000000000000000 = t) (h : q * 2328306436 + r = u) (hq : t ≤ q) (hr : 4294967296 ≤ r) : q = t := by omega
theorem kn_mod (x y : Int) : (x % 18446744073709551616 - y) % 18446744073709551616 = (x - y) % 18446744073709551616 := by omega
theorem kn_q (t1 t0 Q : Nat) (h1 : t1 < 4294967296) (h0 : t0 < 4294967296) (h : Q = t1 * 4294967296 + t0) : ((t1 : Int) * 4294967296 % 18446744073709551616 + t0) % 18446744073709551616 = Q := by omega
theorem kn_top (q r u : Nat) (h : q * 2328306436 + r = u) (hu : u < 10000000000000000000) : q ≤ 4294967297 := by omega
theorem kn_start (u n t q r : Nat) (hq : u / 2328306436 = q) (hr : u % 2328306436 = r) (ht : (u * 4294967296 + n) / 10000000000000000000 = t) (hu : u < 10000000000000000000) (hn : n < 4294967296) : t ≤ q ∧ q * 2328306436 + r = u ∧ r < 4294967296 ∧ q ≤ 4294967297 ∧ (u : Int) / 2328306436 = (q : Int) ∧ (u : Int) - (q : Int) * 2328306436 = (r : Int) := by
  have h1 : (u : Int) / 2328306436 = (q : Int) := by omega
  have h2 : q * 2328306436 + r = u := by omega
  have h3 : r < 2328306436 := by omega
  clear hq hr
  exact ⟨by omega, h2, by omega, by omega, h1, by omega⟩
theorem kn_wrap (r : Nat) (h : r < 4294967296) : IntKind.u64.wrap (r : Int) = (r : Int) := by rw [IntKind.wrap_u64]; omega
theorem kn_all (hi lo t1 u t0 : Nat) (hh : hi < 10000000000000000000) (hl : lo < 18446744073709551616) (h1 : (hi * 4294967296 + lo / 4294967296) / 10000000000000000000 = t1) (h2 : (hi * 4294967296 + lo / 4294967296) % 10000000000000000000 = u) (h3 : (u * 4294967296 + lo % 4294967296) / 10000000000000000000 = t0) :
  t1 < 4294967296 ∧ t0 < 4294967296 ∧ u < 10000000000000000000 ∧ (hi * 18446744073709551616 + lo) / 10000000000000000000 = t1 * 4294967296 + t0 ∧ (hi * 18446744073709551616 + lo) % 10000000000000000000 = (u * 4294967296 + lo % 4294967296) % 10000000000000000000 := by omega
theorem kn_un (hi n t : Nat) (hh : hi < 10000000000000000000) (hn : n < 4294967296) (ht : (hi * 4294967296 + n) / 10000000000000000000 = t) : (((hi : Int) * 4294967296) % 18446744073709551616 + n - ((t : Int) * 10000000000000000000) % 18446744073709551616) % 18446744073709551616 = (((hi * 4294967296 + n) % 10000000000000000000 : Nat) : Int) := by omega

theorem below_drewN (w : World) (n : Nat) : Below w.heap.size w (w.drewN n) := by
  induction n with
  | zero => exact Below.refl _ _
  | succ n ih => exact ih.drew
theorem lz19 (w : World) : Calls Tryz.prog 169 #[.int .u64 10000000000000000000] w fun e w' => e = .returned (.int .i64 0) ∧ w' = w := by
  have h := Tryz.bits_LeadingZeros64 10000000000000000000 w (by decide) (by decide)
  rw [show (64 - (Lib.bitLen (Int.toNat 10000000000000000000) : Int)) = 0 by decide] at h
  exact h
set_option maxRecDepth 100000 in
set_option maxHeartbeats 1000000 in
theorem div64_any (hi lo : Nat) (hh : hi < 10000000000000000000) (hl : lo < 18446744073709551616) (w : World) : Calls Tryz.prog 132 #[.int .u64 hi, .int .u64 lo, .int .u64 10000000000000000000] w fun e w' =>
    e = .returned (.tuple #[.int .u64 (((hi * 18446744073709551616 + lo) / 10000000000000000000 : Nat) : Int), .int .u64 (((hi * 18446744073709551616 + lo) % 10000000000000000000 : Nat) : Int)]) ∧ Below w.heap.size w w' := by
  obtain ⟨Q, hQ⟩ : ∃ Q, (hi * 18446744073709551616 + lo) / 10000000000000000000 = Q := ⟨_, rfl⟩
  obtain ⟨R, hR⟩ : ∃ R, (hi * 18446744073709551616 + lo) % 10000000000000000000 = R := ⟨_, rfl⟩
  rw [hQ, hR]
  by_cases h0 : hi = 0
  · subst h0
    have HQ := Lib.hid (show (lo : Int) / 10000000000000000000 = Q by omega)
    have HR := Lib.hid (show (lo : Int) % 10000000000000000000 = R by omega)
    clear hQ hR
    go_enter Tryz.func132, Tryz.ntmps132
    go_wp2_with fail
    go_quiet (fail)
    go_wp2
    rw [HQ.out, HR.out]
    go_ret2
    exact ⟨rfl, below_drewN w _⟩
  · have HQ := Lib.hid hQ
    have HR := Lib.hid hR
    clear hQ hR
    have HLZ := Lib.hid (lz19 w)
    obtain ⟨n1, hn1⟩ : ∃ n1, lo / 4294967296 = n1 := ⟨_, rfl⟩
    obtain ⟨n0, hn0⟩ : ∃ n0, lo % 4294967296 = n0 := ⟨_, rfl⟩
    have b1 : n1 < 4294967296 := by omega
    have b0 : n0 < 4294967296 := by omega
    have HN1 := Lib.hid hn1
    have HN0 := Lib.hid hn0
    have q0 : ((hi : Int) == 0) = false := by simpa using h0
    have h1 : 0 < hi := by omega
    have q1 : decide ((10000000000000000000 : Int) ≤ (hi : Int)) = false := by simp only [decide_eq_false_iff_not]; omega
    obtain ⟨t1, ht1⟩ : ∃ t1, (hi * 4294967296 + n1) / 10000000000000000000 = t1 := ⟨_, rfl⟩
    obtain ⟨u, hu⟩ : ∃ u, (hi * 4294967296 + n1) % 10000000000000000000 = u := ⟨_, rfl⟩
    obtain ⟨t0, ht0⟩ : ∃ t0, (u * 4294967296 + n0) / 10000000000000000000 = t0 := ⟨_, rfl⟩
    have HALL := Lib.hid (kn_all hi lo t1 u t0 hh hl (by rw [hn1]; exact ht1) (by rw [hn1]; exact hu) (by rw [hn0]; exact ht0))
    have HU := Lib.hid (kn_un hi n1 t1 hh b1 ht1)
    have HU0 := Lib.hid (kn_un u n0 t0 HALL.out.2.2.1 b0 ht0)
    have D1 := Lib.hid (kn_dec hi n1)
    have HT1 := Lib.hid ht1
    have HT0 := Lib.hid ht0
    have HUU := Lib.hid hu
    have HHH := Lib.hid hh
    have HHL := Lib.hid hl
    have w1' : IntKind.u64.wrap (hi : Int) = (hi : Int) := by rw [IntKind.wrap_u64]; omega
    have w2' : IntKind.u64.wrap (lo : Int) = (lo : Int) := by rw [IntKind.wrap_u64]; omega
    have w3' : (lo : Int) / 18446744073709551616 = 0 := by omega
    have w4' : (lo : Int) / 4294967296 = (n1 : Int) := by omega
    have w5' : bits .and .u64 (lo : Int) 4294967295 = (n0 : Int) := by
      have h := u64_and_nat lo 4294967295 hl (by decide)
      rw [show lo &&& 4294967295 = lo % 4294967296 from Nat.and_two_pow_sub_one_eq_mod lo 32, hn0] at h
      exact h
    have w6' : bits .or .u64 (hi : Int) 0 = (hi : Int) := by
      have h := u64_or_nat hi 0 (by omega) (by decide)
      rw [Nat.or_zero] at h
      exact h
    have w7' : bits .and .u64 10000000000000000000 4294967295 = 2313682944 := by
      have h := u64_and_nat 10000000000000000000 4294967295 (by decide) (by decide)
      exact h.trans (by decide)
    obtain ⟨q1, hq1⟩ : ∃ q, hi / 2328306436 = q := ⟨_, rfl⟩
    obtain ⟨r1, hr1⟩ : ∃ r, hi % 2328306436 = r := ⟨_, rfl⟩
    have HS1 := Lib.hid (kn_start hi n1 t1 q1 r1 hq1 hr1 ht1 hh b1)
    have e11 := HS1.out.2.2.2.2.1
    have e21 := HS1.out.2.2.2.2.2
    have l11 := HS1.out.2.2.2.1
    have l21 := HS1.out.2.2.1
    have e31 := kn_wrap r1 l21
    clear hq1 hr1
    obtain ⟨q0, hq0⟩ : ∃ q, u / 2328306436 = q := ⟨_, rfl⟩
    obtain ⟨r0, hr0⟩ : ∃ r, u % 2328306436 = r := ⟨_, rfl⟩
    have HS0 := Lib.hid (kn_start u n0 t0 q0 r0 hq0 hr0 ht0 HALL.out.2.2.1 b0)
    have e10 := HS0.out.2.2.2.2.1
    have e20 := HS0.out.2.2.2.2.2
    have l10 := HS0.out.2.2.2.1
    have l20 := HS0.out.2.2.1
    have e30 := kn_wrap r0 l20
    clear hq0 hr0
    have hh4 : (hi : Int) < 18446744073709551616 := by omega
    have hu4 : (u : Int) < 18446744073709551616 := by have := HALL.out.2.2.1; omega
    clear hn1 hn0 h0 hh hl ht1 hu ht0
    go_enter Tryz.func132, Tryz.ntmps132
    go_wp2_with fail
    refine HLZ.out.mono ?_
    rintro e w1 ⟨rfl, rfl⟩
    go_upto_block 0 with (fail)
    go_cut [15] (fun x wc => x = .int .u64 (t1 : Int) ∧ wc = w1)
    case first =>
      go_wp2_with fail
      go_loop [15, 16] (fun x y => ∃ q r : Nat, x = .int .u64 q ∧ y = .int .u64 r ∧ Hid (q * 2328306436 + r = hi) ∧ r < 4294967296 ∧ Hid (t1 ≤ q) ∧ q ≤ 4294967297) (fun x _ => (intOf x).toNat)
      case atStart => exact ⟨q1, r1, rfl, rfl, Lib.hid HS1.out.2.1, l21, Lib.hid HS1.out.1, l11⟩
      case round =>
        obtain ⟨q, r, rfl, rfl, HQR, hr, HT, hq⟩ := hrel
        by_cases hc : 4294967296 ≤ q ∨ r * 4294967296 + n1 < q * 2313682944
        · obtain ⟨p1, p2, p3⟩ := kn_dec hi n1 q r t1 HHH.out b1 HT1.out HQR.out hr HT.out hc
          have P2 := Lib.hid p2
          have P3 := Lib.hid p3
          clear p2 p3
          by_cases c3 : 4294967296 ≤ r + 2328306436
          · rcases (show 4294967296 ≤ q ∨ (q < 4294967296 ∧ r * 4294967296 + n1 < q * 2313682944) by omega) with c1 | ⟨c1, c2⟩
            all_goals
              first | (have d1 : decide ((4294967296 : Int) ≤ (q : Int)) = false := by simp only [decide_eq_false_iff_not]; omega) | (have d1 : decide ((4294967296 : Int) ≤ (q : Int)) = true := by simp only [decide_eq_true_eq]; omega)
              try have d2 : decide (4294967296 * (r : Int) + (n1 : Int) < (q : Int) * 2313682944) = true := by simp only [decide_eq_true_eq]; omega
              have d3 : decide ((4294967296 : Int) ≤ (r : Int) + 2328306436) = true := by simp only [decide_eq_true_eq]; omega
              have C3 := Lib.hid c3
              clear hc c1 c3
              try clear c2
              go_wp2_with fail
              go_meet
              case rel => exact ⟨by rw [← kn_brk hi n1 (q - 1) (r + 2328306436) t1 HHH.out b1 HT1.out P3.out P2.out C3.out]; exact congrArg (Value.int IntKind.u64) (by omega), by first | exact True.intro | exact rfl⟩
          · rcases (show 4294967296 ≤ q ∨ (q < 4294967296 ∧ r * 4294967296 + n1 < q * 2313682944) by omega) with c1 | ⟨c1, c2⟩
            all_goals
              first | (have d1 : decide ((4294967296 : Int) ≤ (q : Int)) = false := by simp only [decide_eq_false_iff_not]; omega) | (have d1 : decide ((4294967296 : Int) ≤ (q : Int)) = true := by simp only [decide_eq_true_eq]; omega)
              try have d2 : decide (4294967296 * (r : Int) + (n1 : Int) < (q : Int) * 2313682944) = true := by simp only [decide_eq_true_eq]; omega
              have d3 : decide ((4294967296 : Int) ≤ (r : Int) + 2328306436) = false := by simp only [decide_eq_false_iff_not]; omega
              have C3 := Lib.hid c3
              clear hc c1 c3
              try clear c2
              go_wp2_with fail
              go_round
              case rel => exact ⟨q - 1, r + 2328306436, congrArg (Value.int IntKind.u64) (by omega), congrArg (Value.int IntKind.u64) (by omega), P3, by have := C3.out; omega, P2, by omega⟩
              case measure => simp [intOf]; omega
        · have c1 : q < 4294967296 := by omega
          have c2 : q * 2313682944 ≤ r * 4294967296 + n1 := by omega
          have d1 : decide ((4294967296 : Int) ≤ (q : Int)) = false := by simp only [decide_eq_false_iff_not]; omega
          have d2 : decide (4294967296 * (r : Int) + (n1 : Int) < (q : Int) * 2313682944) = false := by simp only [decide_eq_false_iff_not]; omega
          have C1 := Lib.hid c1
          have C2 := Lib.hid c2
          clear hc c1 c2
          go_wp2_with fail
          go_meet
          case rel => exact ⟨by rw [← kn_end hi n1 q r t1 HHH.out b1 HT1.out HQR.out HT.out C1.out C2.out], by first | exact True.intro | exact rfl⟩
    case rest =>
      obtain ⟨rfl, rfl⟩ := hcut
      have e3 : IntKind.u64.wrap (IntKind.u64.wrap (IntKind.u64.wrap ((hi : Int) * 4294967296) + (n1 : Int)) - IntKind.u64.wrap ((t1 : Int) * 10000000000000000000)) = (u : Int) := by
        simp only [IntKind.wrap_u64]
        rw [kn_mod, HU.out, HUU.out]
      clear e11 e21 e31 w3' w4' w5' w6' w7'
      obtain ⟨w2, rfl⟩ : ∃ w2 : World, w2 = wc := ⟨_, rfl⟩
      go_upto_block 2 with (fail)
      go_cut [18] (fun x wc => x = .int .u64 (t0 : Int) ∧ wc = w2)
      case first =>
        go_wp2_with fail
        go_loop [18, 16] (fun x y => ∃ q r : Nat, x = .int .u64 q ∧ y = .int .u64 r ∧ Hid (q * 2328306436 + r = u) ∧ r < 4294967296 ∧ Hid (t0 ≤ q) ∧ q ≤ 4294967297) (fun x _ => (intOf x).toNat)
        case atStart => exact ⟨q0, r0, rfl, rfl, Lib.hid HS0.out.2.1, l20, Lib.hid HS0.out.1, l10⟩
        case round =>
          obtain ⟨q, r, rfl, rfl, HQR, hr, HT, hq⟩ := hrel
          by_cases hc : 4294967296 ≤ q ∨ r * 4294967296 + n0 < q * 2313682944
          · obtain ⟨p1, p2, p3⟩ := kn_dec u n0 q r t0 HALL.out.2.2.1 b0 HT0.out HQR.out hr HT.out hc
            have P2 := Lib.hid p2
            have P3 := Lib.hid p3
            clear p2 p3
            by_cases c3 : 4294967296 ≤ r + 2328306436
            · rcases (show 4294967296 ≤ q ∨ (q < 4294967296 ∧ r * 4294967296 + n0 < q * 2313682944) by omega) with c1 | ⟨c1, c2⟩
              all_goals
                first | (have d1 : decide ((4294967296 : Int) ≤ (q : Int)) = false := by simp only [decide_eq_false_iff_not]; omega) | (have d1 : decide ((4294967296 : Int) ≤ (q : Int)) = true := by simp only [decide_eq_true_eq]; omega)
                try have d2 : decide (4294967296 * (r : Int) + (n0 : Int) < (q : Int) * 2313682944) = true := by simp only [decide_eq_true_eq]; omega
                have d3 : decide ((4294967296 : Int) ≤ (r : Int) + 2328306436) = true := by simp only [decide_eq_true_eq]; omega
                have C3 := Lib.hid c3
                clear hc c1 c3
                try clear c2
                go_wp2_with fail
                go_meet
                case rel => exact ⟨by rw [← kn_brk u n0 (q - 1) (r + 2328306436) t0 HALL.out.2.2.1 b0 HT0.out P3.out P2.out C3.out]; exact congrArg (Value.int IntKind.u64) (by omega), by first | exact True.intro | exact rfl⟩
            · rcases (show 4294967296 ≤ q ∨ (q < 4294967296 ∧ r * 4294967296 + n0 < q * 2313682944) by omega) with c1 | ⟨c1, c2⟩
              all_goals
                first | (have d1 : decide ((4294967296 : Int) ≤ (q : Int)) = false := by simp only [decide_eq_false_iff_not]; omega) | (have d1 : decide ((4294967296 : Int) ≤ (q : Int)) = true := by simp only [decide_eq_true_eq]; omega)
                try have d2 : decide (4294967296 * (r : Int) + (n0 : Int) < (q : Int) * 2313682944) = true := by simp only [decide_eq_true_eq]; omega
                have d3 : decide ((4294967296 : Int) ≤ (r : Int) + 2328306436) = false := by simp only [decide_eq_false_iff_not]; omega
                have C3 := Lib.hid c3
                clear hc c1 c3
                try clear c2
                go_wp2_with fail
                go_round
                case rel => exact ⟨q - 1, r + 2328306436, congrArg (Value.int IntKind.u64) (by omega), congrArg (Value.int IntKind.u64) (by omega), P3, by have := C3.out; omega, P2, by omega⟩
                case measure => simp [intOf]; omega
          · have c1 : q < 4294967296 := by omega
            have c2 : q * 2313682944 ≤ r * 4294967296 + n0 := by omega
            have d1 : decide ((4294967296 : Int) ≤ (q : Int)) = false := by simp only [decide_eq_false_iff_not]; omega
            have d2 : decide (4294967296 * (r : Int) + (n0 : Int) < (q : Int) * 2313682944) = false := by simp only [decide_eq_false_iff_not]; omega
            have C1 := Lib.hid c1
            have C2 := Lib.hid c2
            clear hc c1 c2
            go_wp2_with fail
            go_meet
            case rel => exact ⟨by rw [← kn_end u n0 q r t0 HALL.out.2.2.1 b0 HT0.out HQR.out HT.out C1.out C2.out], by first | exact True.intro | exact rfl⟩
      case rest =>
        obtain ⟨rfl, rfl⟩ := hcut
        have e6 : IntKind.u64.wrap (IntKind.u64.wrap ((t1 : Int) * 4294967296) + (t0 : Int)) = (Q : Int) := by
          simp only [IntKind.wrap_u64]
          exact kn_q t1 t0 Q HALL.out.1 HALL.out.2.1 (HQ.out.symm.trans HALL.out.2.2.2.1)
        have e7 : IntKind.u64.wrap (IntKind.u64.wrap (IntKind.u64.wrap ((u : Int) * 4294967296) + (n0 : Int)) - IntKind.u64.wrap ((t0 : Int) * 10000000000000000000)) = (R : Int) := by
          simp only [IntKind.wrap_u64]
          rw [kn_mod, HU0.out]
          have h := HALL.out.2.2.2.2
          rw [HN0.out] at h
          exact congrArg _ (h.symm.trans HR.out)
        clear e10 e20 e3 e30
        go_wp2_with fail
        go_ret2
        exact ⟨rfl, Below.refl _ _⟩
end Go.Proofs.YtokpgopdkimmmaaGreatDoor
