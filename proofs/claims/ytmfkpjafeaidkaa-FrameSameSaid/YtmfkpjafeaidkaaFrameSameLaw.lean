/- The walk of FrameSame. -/
import Derived.Test.YtmfkpjafeaidkaaFrameSameSt
import Derived.Test.YtmfkpjafeaidkaaLowNodes
namespace Go.Proofs.Ytmfkpjafeaidkaa
open Go.RowKit
set_option linter.unusedVariables false
set_option linter.unusedSimpArgs false

theorem canonL_len (n : Nat) (lo hi : Int) : (canonL n lo hi).length ≤ n := by
  have key : ∀ {n : Nat}, 1 ≤ n → ∀ f b, (canonT lo hi n f b).length ≤ n := by
    intro n h
    refine half_ind (M := fun n => ∀ f b, (canonT lo hi n f b).length ≤ n) (fun f b => ?_) (fun n h i1 i2 f b => ?_) n h
    · rw [canonT]; split
      · simp
      · split
        · simp
        · rw [dif_pos (by omega)]; simp
    · have hs := lhalf_add n
      have h1 := i1 f b
      have h2 := i2 (f + lhalf n) (b + (2 * lhalf n - 1))
      rw [canonT]; split
      · simp
      · split
        · simp; omega
        · rw [dif_neg (by omega), List.length_append]; omega
  unfold canonL
  split
  · next h =>
    obtain ⟨⟨h1, h2, h3⟩, h4⟩ := h
    exact key (by omega) 0 0
  · simp
/-- Canon of a range that is one. -/
def CanonG (fb m : Nat) (L : List Int) (E : Nat) (w : World) (e : Ending) (w' : World) : Prop :=
  ∃ a c, e = .returned (.tuple #[.slice a L.length c, .int .i64 E, .int .i64 0]) ∧ w'.ownsRow w.heap.size 3 1 (.slice a L.length c) L.length (L.map (.int .i64)) ∧ FrameIn fb m w' ∧ ChgOnly [fb] w w' ∧ FrameFrom fb m w w'
theorem canonG (m lo hi : Nat) (h1 : lo ≤ hi) (h2 : hi ≤ m) : ∃ L E, L.length ≤ m ∧ ∀ fb w, FrameIn fb m w → Calls Try.prog 12 #[.pointer (some ⟨fb, 0, none⟩), .int .i64 lo, .int .i64 hi] w (CanonG fb m L E w) := by
  refine ⟨canonL m lo hi, canonE m lo hi, canonL_len m lo hi, fun fb w h => ?_⟩
  have h := canon_far fb m lo hi w h
  unfold CanonF at h
  rw [show canonErr m lo hi = 0 by unfold canonErr; rw [if_pos ⟨by omega, by omega, by omega⟩]] at h
  exact h

set_option maxRecDepth 100000 in
set_option maxHeartbeats 8000000 in
theorem FrameSame_walk (n a b : Int) (w : World) (h0 : 0 ≤ n) (h1 : n ≤ 65535) : Calls Try.prog 4 #[.int .u16 n, .int .i64 a, .int .i64 b] w fun e w' => e = .returned (.bool true) ∧ Below w.heap.size w w' := by
  obtain ⟨m, hm, hm2⟩ : ∃ m : Nat, n % 301 = m ∧ m ≤ 300 := ⟨(n % 301).toNat, by omega, by omega⟩
  have HM := Lib.hid hm
  clear hm
  go_enter Try.func4, Try.ntmps4
  go_wp2_with fail
  rw [HM.out]
  refine (made_any m w (by omega)).mono ?_
  rintro e w1 ⟨la, lc, rfl, hf, hl, ha, hb⟩
  have hsz := hb.size
  have hfl := hf.lt
  have HF := Lib.hid hf
  have HL := Lib.hid hl
  have HA := Lib.hid ha
  have HB := Lib.hid hb
  obtain ⟨fb, hfb⟩ : ∃ fb, w.heap.size = fb := ⟨_, rfl⟩
  rw [hfb] at HF HL HA HB hsz hfl ⊢
  obtain ⟨N, hN⟩ : ∃ N, (frameN m).length = N := ⟨_, rfl⟩
  have hNl : N ≤ 600 := by rw [← hN, frameN_len]; omega
  have HNN := Lib.hid hN
  rw [hN] at HL HA ⊢
  clear hf hl ha hb hN
  clear h0 h1
  go_wp2_with fail
  refine (frameNew_any m w1 (by omega)).mono ?_
  rintro e w2 ⟨rfl, rfl⟩
  have hA1 := (Below.refl w1.heap.size w1).alloc (Nat.le_refl _) (newFrame m)
  have S2 := Lib.hid (show SameS fb fb w1.heap.size m N la lc (flatN (frameN m)) none 0 [] none 0 [] none 0 [] w (w1.alloc (newFrame m)) from
    ⟨HF.out.later hA1, newFrame_in m w1 (by omega), fun p hp => (HA.out p hp).later hA1, fun p _ => newFrame_away m p w1, own_below HL.out hA1, nil_own _ _ _, nil_own _ _ _, fun p h => (by simp [Value.ownBlock] at h), World.ownsRow_nil _ _ _ _, fun p _ h => (by simp [Value.ownBlock] at h), bl HB.out hsz hA1, Nat.le_refl _, by omega, by omega, by simp; omega⟩)
  generalize w1.alloc (newFrame m) = W2 at S2 ⊢
  obtain ⟨gb, hgb⟩ : ∃ gb, w1.heap.size = gb := ⟨_, rfl⟩
  rw [hgb] at S2 ⊢
  clear HF HL HA HB hsz hfl hA1 hgb
  go_wp2_with fail
  refine (ranged_any m a b W2 (by omega)).mono ?_
  rintro e w3 ⟨lo, hi, rfl, hlo, hhi, rfl⟩
  obtain ⟨L, E, hLl, hcan⟩ := canonG m lo hi hlo hhi
  have HC := Lib.hid hcan
  clear hcan
  go_wp2_with fail
  refine (HC.out gb W2 S2.out.g).mono ?_
  unfold CanonG
  rintro e w4 ⟨xa, xc, rfl, ho, hg, hc, hfr⟩
  have S4 := Lib.hid ((S2.out.onG hg hc hfr).withX (ownsRow_mono ho S2.out.low.2.2.2))
  clear ho hg hc hfr S2
  go_wp2_with fail
  refine (HC.out fb w4 S4.out.f).mono ?_
  unfold CanonG
  rintro e w5 ⟨ya, yc, rfl, ho, hf, hc, hfr⟩
  have S5 := Lib.hid ((S4.out.onF hf hc hfr).withY (ownsRow_mono ho S4.out.low.2.2.2) (fun p h1 h2 => by
    have := (S4.out.x.lt p h1).2
    have := (ho.lt p h2).1
    omega))
  clear ho hf hc hfr S4
  have HR5 := Lib.hid (row_of_nodes (n := (frameN m).length) (ns := frameN m) (by have h := S5.out.l; rw [← HNN.out] at h; exact h) rfl)
  have HK := Lib.hid (fun w' (h : NdRow w' la (frameN m)) => by
    have h := copyNodes_any (frameN m) la lc w' h (by rw [HNN.out]; omega)
    unfold NodesP at h
    rw [HNN.out] at h
    exact h)
  go_wp2_with fail
  refine (HK.out _ HR5.out).mono ?_
  rintro e w6 ⟨ka, kc, rfl, ho, hb⟩
  have S6 := Lib.hid ((S5.out.later hb).withK (ks' := frameN m) (ka' := ka) (kc' := kc) (by rw [HNN.out]; exact ownsRow_mono ho S5.out.low.2.2.2) (fun p h1 h2 => by
    have := (S5.out.l.lt p h1).2
    rw [HNN.out] at h2
    have := (ho.lt p h2).1
    omega))
  clear ho hb HK HR5 S5
  have HLS := Lib.hid (⟨_, S6.out⟩ : ∃ ls, SameS fb fb gb m N la lc ls xa xc L ya yc L ka kc (frameN m) w w6)
  clear S6
  go_wp2_with fail
  go_loopw [70] (fun i wr => ∃ q : Nat, q ≤ N ∧ i = .int .i64 q ∧ Hid (∃ ls, SameS fb fb gb m N la lc ls xa xc L ya yc L ka kc (frameN m) w wr)) (fun i _ => N - (intOf i).toNat)
  case atStart => exact ⟨0, Nat.zero_le _, rfl, HLS⟩
  case round =>
    clear HLS
    obtain ⟨q, hq, rfl, HS⟩ := hrel
    by_cases hql : q < N
    · obtain ⟨ls, hS⟩ := HS.out
      have hxs := hS.l
      obtain ⟨p, rfl⟩ := ints_at_own_some hxs (by omega)
      have HSS := Lib.hid hS
      have hxl := hxs.1
      have hxcc := own_cap hxs
      have e0 := hxs.frozenAt (q * 7)
      have d0 := (hxs.cellAt (q * 7) (by omega)).trans (List.getElem?_eq_getElem (by omega))
      have e1 := hxs.frozenAt (q * 7 + 1)
      have d1 := (hxs.cellAt (q * 7 + 1) (by omega)).trans (List.getElem?_eq_getElem (by omega))
      have e2 := hxs.frozenAt (q * 7 + 2)
      have d2 := (hxs.cellAt (q * 7 + 2) (by omega)).trans (List.getElem?_eq_getElem (by omega))
      have e3 := hxs.frozenAt (q * 7 + 3)
      have d3 := (hxs.cellAt (q * 7 + 3) (by omega)).trans (List.getElem?_eq_getElem (by omega))
      have e4 := hxs.frozenAt (q * 7 + 4)
      have d4 := (hxs.cellAt (q * 7 + 4) (by omega)).trans (List.getElem?_eq_getElem (by omega))
      have e5 := hxs.frozenAt (q * 7 + 5)
      have d5 := (hxs.cellAt (q * 7 + 5) (by omega)).trans (List.getElem?_eq_getElem (by omega))
      have e6 := hxs.frozenAt (q * 7 + 6)
      have d6 := (hxs.cellAt (q * 7 + 6) (by omega)).trans (List.getElem?_eq_getElem (by omega))
      clear hxs hS HS
      go_wp2_with fail
      go_roundw
      case rel => exact ⟨q + 1, by omega, by go_num, Lib.hid (HSS.out.set7 _ _ _ _ _ _ _ _ _ _ _ _ _ _)⟩
      case measure => simp [intOf]; omega
    · have hge : N ≤ q := by omega
      clear hql
      obtain ⟨ls, hS⟩ := HS.out
      have S7 := Lib.hid hS
      clear hS HS
      have HX7 := Lib.hid (row_of_owned S7.out.x)
      have HY7 := Lib.hid (row_of_owned S7.out.y)
      go_wp2_with fail
      refine (ints_any L L xa ya xc yc _ HX7.out HY7.out (by unfold maxLen; omega) (by unfold maxLen; omega)).mono ?_
      rw [show sameB L L = true from decide_eq_true rfl]
      rintro e w8 ⟨rfl, hb⟩
      have S8 := Lib.hid (S7.out.later hb)
      clear hb S7 HX7 HY7
      have HFN := Lib.hid (fun fb w' (h : FrameIn fb m w') => by
        have h := frameNodes_far fb m w' h
        rw [HNN.out] at h
        exact h)
      have HNQ := Lib.hid (fun w' na nc (h1 : NdRow w' na (frameN m)) (h2 : NdRow w' ka (frameN m)) => by
        have h := nodes_any (frameN m) (frameN m) na ka nc kc w' h1 h2 (by rw [HNN.out]; omega) (by rw [HNN.out]; omega)
        rw [(sameN_iff _ _).2 rfl, HNN.out] at h
        exact h)
      go_wp2_with fail
      refine (HFN.out fb w8 S8.out.f).mono ?_
      rintro e w9 ⟨na, nc, rfl, ho, hf, hc, hfr, _⟩
      have S9 := Lib.hid (S8.out.onF hf hc hfr)
      have R9 := Lib.hid (row_of_nodes ho HNN.out.symm)
      clear ho hf hc hfr S8
      go_wp2_with fail
      refine (HNQ.out _ na nc R9.out (row_of_nodes S9.out.k rfl)).mono ?_
      rintro e w10 ⟨rfl, hb⟩
      have S10 := Lib.hid (S9.out.later hb)
      clear hb S9 R9
      go_wp2_with fail
      refine (HFN.out gb w10 S10.out.g).mono ?_
      rintro e w11 ⟨nb, nd', rfl, ho, hf, hc, hfr, _⟩
      have S11 := Lib.hid (S10.out.onG hf hc hfr)
      have R11 := Lib.hid (row_of_nodes ho HNN.out.symm)
      clear ho hf hc hfr S10
      go_wp2_with fail
      refine (HNQ.out _ nb nd' R11.out (row_of_nodes S11.out.k rfl)).mono ?_
      rintro e w12 ⟨rfl, hb⟩
      have S12 := Lib.hid (S11.out.later hb)
      clear hb S11 R11 HNQ HFN
      go_wp2_with fail
      refine (HC.out fb w12 S12.out.f).mono ?_
      unfold CanonG
      rintro e w13 ⟨za, zc, rfl, ho, hf, hc, hfr⟩
      have S13 := Lib.hid (S12.out.onF hf hc hfr)
      have HZ := Lib.hid (ownsRow_mono ho S12.out.low.2.2.2)
      have HZX := Lib.hid (show ∀ p, (Value.slice xa L.length xc).ownBlock = some p → (Value.slice za L.length zc).ownBlock ≠ some p from fun p h1 h2 => by
        have := (S12.out.x.lt p h1).2
        have := (ho.lt p h2).1
        omega)
      have HZY := Lib.hid (show ∀ p, (Value.slice ya L.length yc).ownBlock = some p → (Value.slice za L.length zc).ownBlock ≠ some p from fun p h1 h2 => by
        have := (S12.out.y.lt p h1).2
        have := (ho.lt p h2).1
        omega)
      clear ho hf hc hfr S12 HC
      go_wp2_with fail
      refine (ints_any L L za ya zc yc _ (row_of_owned HZ.out) (row_of_owned S13.out.y) (by unfold maxLen; omega) (by unfold maxLen; omega)).mono ?_
      rw [show sameB L L = true from decide_eq_true rfl]
      rintro e w14 ⟨rfl, hb⟩
      have S14 := Lib.hid (S13.out.later hb)
      have HZ14 := Lib.hid (own_below HZ.out hb)
      clear hb S13 HZ
      go_wp2_with fail
      refine (apart3_any w14 xa ya za L.length L.length L.length xc yc zc fb _ _ _ 29 S14.out.x S14.out.y HZ14.out S14.out.xy HZX.out HZY.out S14.out.low.2.2.2).mono ?_
      rintro e w15 ⟨rfl, hb⟩
      have HB15 := Lib.hid (S14.out.b.trans hb)
      have hs15 := hb.size
      have hl14 := S14.out.low.2.2.2
      clear hb S14 HZ14 HZX HZY
      go_wp2_with fail
      refine (awake6_any _).mono ?_
      rintro e w16 ⟨rfl, hb⟩
      have HB16 := Lib.hid (bl HB15.out (by omega) hb)
      clear hb HB15 hs15 hl14
      go_wp2
      go_ret
      exact ⟨rfl, by have h := HB16.out; rw [← hfb] at h; exact h⟩
end Go.Proofs.Ytmfkpjafeaidkaa
