/- The walk of FrameTells. -/
import Derived.Test.YtmfkpjafeaidkaaFrameAwake
import Derived.Test.YtmfkpjafeaidkaaRefPath
import Derived.Test.YtmfkpjafeaidkaaRefNodes
import Derived.Test.YtmfkpjafeaidkaaLowNodes
namespace Go.Proofs.Ytmfkpjafeaidkaa
open Go.RowKit
set_option linter.unusedVariables false
set_option linter.unusedSimpArgs false

set_option maxRecDepth 100000 in
set_option maxHeartbeats 1000000 in
theorem refCanon_same (ns : List Nd) (ao : Option Addr) (cap : Nat) (lo hi : Int) (w : World) (he : lo = hi) :
    Calls Try.prog 13 #[.slice ao ns.length cap, .int .i64 lo, .int .i64 hi] w fun e w' => e = .returned (.tuple #[.slice none 0 0, .int .i64 0]) ∧ w = w' := by
  have hq : (lo == hi) = true := by simpa using he
  clear he
  go_enter Try.func13, Try.ntmps13
  go_wp2
  go_ret2
  exact ⟨rfl, rfl⟩

/-- The frame, and the document's nodes. -/
structure TellS (B fb n : Nat) (a : Option Addr) (c : Nat) (w0 w : World) : Prop where
  f : FrameIn fb n w
  l : w.ownsRow B 49 7 (.slice a (frameN n).length c) (frameN n).length (flatN (frameN n))
  b : Below B w0 w
  low : B ≤ fb ∧ B ≤ w.heap.size
theorem TellS.on {B fb n : Nat} {a : Option Addr} {c : Nat} {w0 w w' : World} (h : TellS B fb n a c w0 w) (hf : FrameIn fb n w') (hc : ChgOnly [fb] w w') : TellS B fb n a c w0 w' :=
  ⟨hf, own_frame h.l h.f (by decide) hc, ChgOnly.below_of h.b h.low.2 hc h.low.1, h.low.1, Nat.le_trans h.low.2 hc.size⟩
theorem TellS.later {B fb n : Nat} {a : Option Addr} {c : Nat} {w0 w w' : World} (h : TellS B fb n a c w0 w) (hb : Below w.heap.size w w') : TellS B fb n a c w0 w' :=
  ⟨h.f.later hb, own_below h.l hb, bl h.b h.low.2 hb, h.low.1, Nat.le_trans h.low.2 hb.size⟩

theorem canonT_len (lo hi : Int) {n : Nat} (h : 1 ≤ n) : ∀ f b, (canonT lo hi n f b).length ≤ n := by
  refine half_ind (M := fun n => ∀ f b, (canonT lo hi n f b).length ≤ n) (fun f b => ?_) (fun n h i1 i2 f b => ?_) n h
  · rw [canonT]; split
    · simp
    · split
      · simp
      · rw [dif_pos (by omega)]; simp
  · have hs := lhalf_add n
    have h1 := i1 f b
    have h2 := i2 (f + lhalf n) (b + (2 * lhalf n - 1))
    rw [canonT]; split
    · simp
    · split
      · simp; omega
      · rw [dif_neg (by omega), List.length_append]; omega
set_option maxRecDepth 100000 in
set_option maxHeartbeats 8000000 in
theorem FrameTells_small (n : Nat) (lo hi leaf : Int) (w : World) (hn : n ≤ 150) : Calls Try.prog 3 #[.int .i64 n, .int .i64 lo, .int .i64 hi, .int .i64 leaf] w fun e w' => e = .returned (.bool true) ∧ Below w.heap.size w w' := by
  have hn0 : ¬ (150 : Int) < n := by omega
  have hn1 : ¬ (n : Int) < 0 := by omega
  have hn2 : ¬ (17179869184 : Int) < n := by omega
  have HF0 := Lib.hid (newFrame_in n w (by omega))
  have hlen : (frameN n).length ≤ 300 := by rw [frameN_len]; omega
  go_enter Try.func3, Try.ntmps3
  go_wp2_with fail
  refine (frameNew_any n w (by omega)).mono ?_
  rintro e w1 ⟨rfl, rfl⟩
  have HB1 := Lib.hid ((Below.refl w.heap.size w).alloc (Nat.le_refl _) (newFrame n))
  have hs1 : (w.alloc (newFrame n)).heap.size = w.heap.size + 1 := by simp
  generalize w.alloc (newFrame n) = W1 at HF0 HB1 hs1 ⊢
  go_wp2_with fail
  refine (refNodes_any n 0 n 0 W1 (by omega) (by omega) (by omega) (by omega) (by omega)).mono ?_
  rintro e w2 ⟨la, lc, rfl, ho, hb⟩
  have S2 := Lib.hid (show TellS w.heap.size w.heap.size n la lc w w2 from ⟨HF0.out.later hb, ownsRow_mono ho (by omega), bl HB1.out HB1.out.size hb, Nat.le_refl _, by have := hb.size; omega⟩)
  obtain ⟨fb, hfb⟩ : ∃ fb, w.heap.size = fb := ⟨_, rfl⟩
  rw [hfb] at S2 ⊢
  rw [show (treeL n 0 0).length = (frameN n).length from rfl]
  obtain ⟨N, hN⟩ : ∃ N, (frameN n).length = N := ⟨_, rfl⟩
  have HNN := Lib.hid hN
  rw [hN] at hlen ⊢
  clear ho hb HF0 HB1 hs1 hN
  go_upto_region 10 with (go_at_call 12; refine (canon_any fb n lo hi w2 S2.out.f).mono ?_; unfold CanonP; rintro e w3 ⟨ca, cc, rfl, ho, hf, hc⟩)
  have S3 := Lib.hid (S2.out.on hf hc)
  have R3 := Lib.hid (row_of_owned ho)
  clear ho hf hc S2
  go_cut [71] (fun v wc => v = .bool (!decide (canonOk n lo hi)) ∧ wc = w3)
  case first =>
    rcases (show lo < 0 ∨ (0 ≤ lo ∧ hi < lo) ∨ (0 ≤ lo ∧ lo ≤ hi ∧ (n : Int) < hi) ∨ (0 ≤ lo ∧ lo ≤ hi ∧ hi ≤ (n : Int)) by omega) with x1 | ⟨x1, x2⟩ | ⟨x1, x2, x3⟩ | ⟨x1, x2, x3⟩
    all_goals
      have HV := Lib.hid (show decide (canonOk n lo hi) = decide (0 ≤ lo ∧ lo ≤ hi ∧ hi ≤ n) from rfl)
      go_wp2_with fail
      go_meet
      case rel => exact ⟨congrArg Value.bool (by rw [HV.out, Bool.eq_iff_iff]; first | (simp; done) | (simp; omega)), rfl⟩
  case rest =>
  obtain ⟨rfl, rfl⟩ := hcut
  go_upto_if 71 with (fail)
  go_cut [10, 12, 13] (fun _ _ _ wc => Hid (TellS fb fb n la lc w wc))
  case first =>
    by_cases hOk : canonOk n lo hi
    · have hE : canonErr n lo hi = 0 := by unfold canonErr; rw [if_pos hOk]
      rw [show (!decide (canonOk n lo hi)) = false by simp [hOk], hE]
      obtain ⟨o1, o2, o3⟩ := hOk
      rcases Int.lt_or_le lo hi with hlt | hge
      · have hL : canonL n lo hi = canonT lo hi n 0 0 := by unfold canonL; rw [if_pos ⟨⟨o1, o2, o3⟩, hlt⟩]
        have hK : canonE n lo hi = entT lo hi n 0 := by unfold canonE; rw [if_pos ⟨⟨o1, o2, o3⟩, hlt⟩]
        have hLN := canonT_len lo hi (show 1 ≤ n by omega) 0 0
        have HQ := Lib.hid (fun w' (h : NdRow w' la (frameN n)) => by
          have h := refCanon_any (frameN n) la lc n lo hi w' h (frameN_len n) (by omega) (by omega) o1 hlt o3 (SubAt.all (by omega))
          rw [refUpto_canon (by omega) o1 hlt o3, HNN.out] at h
          exact h)
        clear hE
        rw [hL, hK]
        have R4 := Lib.hid (show Row _ ca ((canonT lo hi n 0 0).map (.int .i64)) by have h := R3.out; rw [hL] at h; exact h)
        clear hL hK R3
        generalize entT lo hi n 0 = EN at HQ ⊢
        generalize canonT lo hi n 0 0 = LN at HQ R4 hLN ⊢
        go_wp2_with fail
        refine (HQ.out _ (row_of_nodes S3.out.l rfl)).mono ?_
        rintro e w4 ⟨ba, bc, rfl, ho, hb⟩
        have S4 := Lib.hid (S3.out.later hb)
        have Ra := Lib.hid (R4.out.later hb)
        have Rb := Lib.hid (row_of_owned ho)
        clear ho hb S3 R4 HQ
        go_wp2_with fail
        refine (ints_any LN LN ca ba _ _ _ Ra.out Rb.out (by unfold maxLen; omega) (by unfold maxLen; omega)).mono ?_
        rintro e w5 ⟨rfl, hb⟩
        rw [show sameB LN LN = true by simp [sameB]]
        have S5 := Lib.hid (S4.out.later hb)
        clear hb S4 Ra Rb
        go_wp2_with fail
        go_meet
        case rel => exact S5
      · have hL : canonL n lo hi = [] := by unfold canonL; rw [if_neg (by omega)]
        have hK : canonE n lo hi = 0 := by unfold canonE; rw [if_neg (by omega)]
        have HQ := Lib.hid (fun w' => by
          have h := refCanon_same (frameN n) la lc lo hi w' (by omega)
          rw [HNN.out] at h
          exact h)
        clear hE R3
        rw [hL, hK]
        clear hL hK
        go_wp2_with fail
        refine (HQ.out _).mono ?_
        rintro e w4 ⟨rfl, rfl⟩
        clear HQ
        go_wp2_with fail
        refine (ints_any [] [] ca none _ _ _ (row_nil _ _) (row_nil _ _) (by unfold maxLen; simp) (by unfold maxLen; simp)).mono ?_
        rintro e w5 ⟨rfl, hb⟩
        rw [show sameB [] [] = true by simp [sameB]]
        have S5 := Lib.hid (S3.out.later hb)
        clear hb S3
        go_wp2_with fail
        go_meet
        case rel => exact S5
    · have hE : canonErr n lo hi = 2 := by unfold canonErr; rw [if_neg hOk]
      have hL : canonL n lo hi = [] := by unfold canonL; rw [if_neg (fun h => hOk h.1)]
      have hK : canonE n lo hi = 0 := by unfold canonE; rw [if_neg (fun h => hOk h.1)]
      rw [show (!decide (canonOk n lo hi)) = true by simp [hOk], hE, hL, hK]
      clear hE hL hK hOk R3
      go_wp2_with fail
      go_meet
      case rel => exact S3
  case rest =>
    clear S3 R3
    have S5 := hcut
    go_upto_region 17 with (go_at_call 15; refine (path_any fb n leaf wc S5.out.f).mono ?_; unfold PathP; rintro e w6 ⟨pa, pc, rfl, ho, hf, hc⟩)
    have S6 := Lib.hid (S5.out.on hf hc)
    have R6 := Lib.hid (row_of_owned ho)
    clear ho hf hc hcut S5
    go_cut [115] (fun v wc => v = .bool (!decide (pathOk n leaf)) ∧ wc = w6)
    case first =>
      rcases (show leaf < 0 ∨ (0 ≤ leaf ∧ (n : Int) ≤ leaf) ∨ (0 ≤ leaf ∧ leaf < (n : Int)) by omega) with x1 | ⟨x1, x2⟩ | ⟨x1, x2⟩
      all_goals
        have HV := Lib.hid (show decide (pathOk n leaf) = decide (0 ≤ leaf ∧ leaf < n) from rfl)
        go_wp2_with fail
        go_meet
        case rel => exact ⟨congrArg Value.bool (by rw [HV.out, Bool.eq_iff_iff]; first | (simp; done) | (simp; omega)), rfl⟩
    case rest =>
    obtain ⟨rfl, rfl⟩ := hcut
    go_upto_if 115 with (fail)
    go_cut [10, 16] (fun _ _ wc => Hid (TellS fb fb n la lc w wc))
    case first =>
      by_cases hOk : pathOk n leaf
      · have hE : pathErr n leaf = 0 := by unfold pathErr; rw [if_pos hOk]
        have hL : pathL n leaf = pathT leaf n 0 0 := by unfold pathL; rw [if_pos hOk]
        rw [show (!decide (pathOk n leaf)) = false by simp [hOk], hE]
        obtain ⟨o1, o2⟩ := hOk
        have hLN := pathT_len leaf (show 1 ≤ n by omega) 0 0
        have HQ := Lib.hid (fun w' (h : NdRow w' la (frameN n)) => by
          have h := refPath_any (frameN n) la lc leaf w' h (by rw [frameN_len]; omega)
          rw [refDown_path o1 o2, HNN.out] at h
          exact h)
        clear hE
        rw [hL]
        have R7 := Lib.hid (show Row _ pa ((pathT leaf n 0 0).map (.int .i64)) by have h := R6.out; rw [hL] at h; exact h)
        clear hL R6
        generalize pathT leaf n 0 0 = LN at HQ R7 hLN ⊢
        go_wp2_with fail
        refine (HQ.out _ (row_of_nodes S6.out.l rfl)).mono ?_
        rintro e w7 ⟨ba, bc, rfl, ho, hb⟩
        have S7 := Lib.hid (S6.out.later hb)
        have Ra := Lib.hid (R7.out.later hb)
        have Rb := Lib.hid (row_of_owned ho)
        clear ho hb S6 R7 HQ
        go_wp2_with fail
        refine (ints_any LN LN pa ba _ _ _ Ra.out Rb.out (by unfold maxLen; omega) (by unfold maxLen; omega)).mono ?_
        rintro e w8 ⟨rfl, hb⟩
        rw [show sameB LN LN = true by simp [sameB]]
        have S8 := Lib.hid (S7.out.later hb)
        clear hb S7 Ra Rb
        go_wp2_with fail
        go_meet
        case rel => exact S8
      · have hE : pathErr n leaf = 2 := by unfold pathErr; rw [if_neg hOk]
        have hL : pathL n leaf = [] := by unfold pathL; rw [if_neg hOk]
        rw [show (!decide (pathOk n leaf)) = true by simp [hOk], hE, hL]
        clear hE hL hOk R6
        go_wp2_with fail
        go_meet
        case rel => exact S6
    case rest =>
      clear S6 R6
      have S8 := hcut
      clear hcut
      go_wp2_with fail
      refine (leaves_yes fb n wc S8.out.f).mono ?_
      rintro e w9 ⟨rfl, rfl⟩
      go_wp2_with fail
      rcases Nat.eq_zero_or_pos n with rfl | hpos
      · have HR : rootOf 0 = -1 := rfl
        refine (root_yes fb 0 wc S8.out.f).mono ?_
        rw [HR]
        rintro e w9 ⟨rfl, rfl⟩
        go_wp2_with fail
        refine (frameNodes_yes fb 0 wc S8.out.f).mono ?_
        rintro e w10 ⟨na, nc, rfl, ho, hf, hc⟩
        rw [HNN.out] at ho ⊢
        have S10 := Lib.hid (S8.out.on hf hc)
        have R10 := Lib.hid (row_of_nodes ho HNN.out.symm)
        clear ho hf hc S8 HR
        have HQ := Lib.hid (fun w' (h1 : NdRow w' na (frameN 0)) (h2 : NdRow w' la (frameN 0)) => by have h := nodes_any (frameN 0) (frameN 0) na la nc lc w' h1 h2 (by rw [frameN_len]; omega) (by rw [frameN_len]; omega); rw [(sameN_iff _ _).2 rfl, HNN.out] at h; exact h)
        go_wp2_with fail
        refine (HQ.out _ R10.out (row_of_nodes S10.out.l rfl)).mono ?_
        rintro e w11 ⟨rfl, hb⟩
        have S11 := Lib.hid (S10.out.later hb)
        clear hb S10
        go_wp2_with fail
        refine (awake6_any _).mono ?_
        rintro e w12 ⟨rfl, hb⟩
        have HB := Lib.hid (bl S11.out.b S11.out.low.2 hb)
        clear hb S11
        go_wp2
        go_ret
        exact ⟨rfl, by have h := HB.out; rw [← hfb] at h; exact h⟩
      · have HR : rootOf n = 2 * n - 2 := by unfold rootOf; rw [if_neg (by omega)]
        refine (root_yes fb n wc S8.out.f).mono ?_
        rw [HR]
        rintro e w9 ⟨rfl, rfl⟩
        go_wp2_with fail
        refine (frameNodes_yes fb n wc S8.out.f).mono ?_
        rintro e w10 ⟨na, nc, rfl, ho, hf, hc⟩
        rw [HNN.out] at ho ⊢
        have S10 := Lib.hid (S8.out.on hf hc)
        have R10 := Lib.hid (row_of_nodes ho HNN.out.symm)
        clear ho hf hc S8 HR
        have HQ := Lib.hid (fun w' (h1 : NdRow w' na (frameN n)) (h2 : NdRow w' la (frameN n)) => by have h := nodes_any (frameN n) (frameN n) na la nc lc w' h1 h2 (by rw [frameN_len]; omega) (by rw [frameN_len]; omega); rw [(sameN_iff _ _).2 rfl, HNN.out] at h; exact h)
        go_wp2_with fail
        refine (HQ.out _ R10.out (row_of_nodes S10.out.l rfl)).mono ?_
        rintro e w11 ⟨rfl, hb⟩
        have S11 := Lib.hid (S10.out.later hb)
        clear hb S10
        go_wp2_with fail
        refine (awake6_any _).mono ?_
        rintro e w12 ⟨rfl, hb⟩
        have HB := Lib.hid (bl S11.out.b S11.out.low.2 hb)
        clear hb S11
        go_wp2
        go_ret
        exact ⟨rfl, by have h := HB.out; rw [← hfb] at h; exact h⟩
end Go.Proofs.Ytmfkpjafeaidkaa
