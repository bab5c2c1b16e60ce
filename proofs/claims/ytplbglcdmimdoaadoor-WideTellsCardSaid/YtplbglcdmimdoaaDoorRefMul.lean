/- The document's product, and how much one number is above another. -/
import Derived.Test.YtplbglcdmimdoaaDoorRefSub
namespace Go.Proofs.YtplbglcdmimdoaaDoor
open Go.RowKit
set_option linter.unusedVariables false
set_option linter.unusedSimpArgs false

theorem bit_u64 (n k : Nat) (hn : n < 18446744073709551616) : bits BinOp.and IntKind.u64 ((n : Int) / 2 ^ k) 1 = ((n / 2 ^ k % 2 : Nat) : Int) := by
  have e : (n : Int) / 2 ^ k = ((n / 2 ^ k : Nat) : Int) := by rw [Int.natCast_ediv, Int.natCast_pow]; rfl
  have h1 : n / 2 ^ k < 18446744073709551616 := Nat.lt_of_le_of_lt (Nat.div_le_self _ _) hn
  rw [e]
  generalize n / 2 ^ k = m at h1 ⊢
  rw [and_one_u64 _ (by omega) (by omega)]
  omega
theorem WF.set {w : World} {b : Nat} {h l : Int} (k : WF w b h l) (x y : Int) : WF ((w.setCell ⟨b, 0, none⟩ (.int .u64 x)).setCell ⟨b, 1, none⟩ (.int .u64 y)) b x y :=
  ⟨by have := k.1; simpa using this, by
    rw [World.cell?_setCell_other _ _ _ _ (fun e => by cases e)]; exact World.cell?_setCell_same (u := .int .u64 h) _ _ _ k.2.1, by
    refine World.cell?_setCell_same (u := .int .u64 l) _ _ _ ?_
    rw [World.cell?_setCell_other _ _ _ _ (fun e => by cases e)]; exact k.2.2.1, by rw [World.frozen?_setCell, World.frozen?_setCell]; exact k.2.2.2.1, by rw [World.frozen?_setCell, World.frozen?_setCell]; exact k.2.2.2.2⟩
theorem WF.far2 {w : World} {g b : Nat} {h l : Int} (k : WF w g h l) (hne : g ≠ b) (u v : Value) : WF ((w.setCell ⟨b, 0, none⟩ u).setCell ⟨b, 1, none⟩ v) g h l := (k.far hne u).far hne v
theorem below_two {B : Nat} {w y : World} (h : Below B w y) {b : Nat} (hb : B ≤ b) (u v : Value) : Below B w ((y.setCell ⟨b, 0, none⟩ u).setCell ⟨b, 1, none⟩ v) :=
  (h.setCell (p := ⟨b, 0, none⟩) hb u).setCell (p := ⟨b, 1, none⟩) hb v
theorem WF.grown {w w' : World} {b r : Nat} {h l : Int} (k : WF w b h l) (hg : w.grownBy w' (some r)) (hne : b ≠ r) : WF w' b h l := by
  have e := hg.block b k.1 (fun e => hne (Option.some.inj e))
  exact ⟨Nat.lt_of_lt_of_le k.1 hg.size, (World.cell?_of_block (a := ⟨b, 0, none⟩) e).trans k.2.1, (World.cell?_of_block (a := ⟨b, 1, none⟩) e).trans k.2.2.1, (World.frozen?_of_block (a := ⟨b, 0, none⟩) e).trans k.2.2.2.1, (World.frozen?_of_block (a := ⟨b, 1, none⟩) e).trans k.2.2.2.2⟩
theorem mul_pow_top {a k : Nat} (ha : a < 18446744073709551616) (hk : k ≤ 64) : a * 2 ^ k < wTop := by
  have h1 : 2 ^ k ≤ 2 ^ 64 := Nat.pow_le_pow_right (by decide) hk
  calc a * 2 ^ k ≤ a * 2 ^ 64 := Nat.mul_le_mul_left _ h1
    _ < 18446744073709551616 * 2 ^ 64 := Nat.mul_lt_mul_of_pos_right ha (by decide)
    _ = wTop := by decide
theorem mul_low_top {a b : Nat} (ha : a < 18446744073709551616) (hb : b < 18446744073709551616) (k : Nat) : a * (b % 2 ^ k) < wTop := by
  have h1 : b % 2 ^ k < 18446744073709551616 := Nat.lt_of_le_of_lt (Nat.mod_le _ _) hb
  exact Nat.mul_lt_mul'' ha h1
theorem three_boxes (w : World) (x0 x1 y0 y1 z0 z1 : Int) (t : TypeId) : ∃ W, W = ((w.alloc (.cells #[.int .u64 x0, .int .u64 x1] t)).alloc (.cells #[.int .u64 y0, .int .u64 y1] t)).alloc (.cells #[.int .u64 z0, .int .u64 z1] t) ∧
    WF W w.heap.size x0 x1 ∧ WF W (w.heap.size + 1) y0 y1 ∧ WF W (w.heap.size + 1 + 1) z0 z1 ∧ Below w.heap.size w W := by
  refine ⟨_, rfl, ((WF.new w x0 x1 t).later ((Below.refl _ _).alloc (Nat.le_refl _) _)).later ((Below.refl _ _).alloc (Nat.le_refl _) _), ?_, ?_, ?_⟩
  · have h := WF.new (w.alloc (.cells #[.int .u64 x0, .int .u64 x1] t)) y0 y1 t
    rw [World.size_alloc] at h
    exact h.later ((Below.refl _ _).alloc (Nat.le_refl _) _)
  · have h := WF.new ((w.alloc (.cells #[.int .u64 x0, .int .u64 x1] t)).alloc (.cells #[.int .u64 y0, .int .u64 y1] t)) z0 z1 t
    rw [World.size_alloc, World.size_alloc] at h
    exact h
  · exact (((Below.refl _ _).alloc (Nat.le_refl _) _).alloc (by simp) _).alloc (by simp; omega) _
set_option maxRecDepth 100000 in
set_option maxHeartbeats 4000000 in
theorem rmul_any (a b : Nat) (ha : a < 18446744073709551616) (hb : b < 18446744073709551616) (w : World) : Calls Tryd.prog 31 #[.int .u64 a, .int .u64 b] w fun e w' =>
    e = .returned (wideV (a * b)) ∧ Below w.heap.size w w' := by
  have HA := Lib.hid ha
  have HBB := Lib.hid hb
  obtain ⟨i0, hi, hzz, hz1, hz2⟩ := info_parts infoInt01
  go_enter Tryd.func31, Tryd.ntmps31
  go_wp2_with fail
  obtain ⟨W0, hW0, k4, k5, k6, hB⟩ := three_boxes w 0 0 0 (a : Int) 0 0 24
  rw [← hW0]
  obtain ⟨b4, hb4⟩ : ∃ b, w.heap.size = b := ⟨_, rfl⟩
  have HG := Lib.hid (show w.heap.size ≤ b4 by omega)
  rw [hb4] at k4 k5 k6 ⊢
  have K4 := Lib.hid k4
  have K5 := Lib.hid k5
  have K6 := Lib.hid k6
  have HB := Lib.hid hB
  clear hW0 k4 k5 k6 hB hb4 ha hb
  go_loopw [7] (fun i wr => ∃ k : Nat, k ≤ 64 ∧ i = .int .i64 (k : Int) ∧ Hid (WF wr b4 0 0) ∧ Hid (∃ p q, wideV (a * 2 ^ k) = W2 p q ∧ WF wr (b4 + 1) p q) ∧ Hid (∃ p q, wideV (a * (b % 2 ^ k)) = W2 p q ∧ WF wr (b4 + 1 + 1) p q) ∧ Hid (Below w.heap.size w wr)) (fun i _ => 64 - (intOf i).toNat)
  case atStart =>
    refine ⟨0, by omega, rfl, K4, Lib.hid ⟨0, a, ?_, K5.out⟩, Lib.hid ⟨0, 0, ?_, K6.out⟩, HB⟩
    · rw [Nat.pow_zero, Nat.mul_one]
      unfold wideV
      rw [Nat.div_eq_of_lt HA.out, Nat.mod_eq_of_lt HA.out]
      rfl
    · rw [Nat.pow_zero, Nat.mod_one, Nat.mul_zero]; rfl
  case round =>
    clear K4 K5 K6 HB
    obtain ⟨k, hk, rfl, K4, HX, HY, HB⟩ := hrel
    obtain ⟨px, qx, ex, k5⟩ := HX.out
    obtain ⟨po, qo, eo, k6⟩ := HY.out
    have EX := Lib.hid ex
    have EO := Lib.hid eo
    have K5 := Lib.hid k5
    have K6 := Lib.hid k6
    clear HX HY ex eo k5 k6
    rcases Nat.lt_or_ge k 64 with h | h
    · obtain ⟨y, hy⟩ : ∃ y, b / 2 ^ k % 2 = y := ⟨_, rfl⟩
      have ey := bit_u64 b k HBB.out
      rw [hy] at ey
      have HYY := Lib.hid hy
      have hy2 : y = 0 ∨ y = 1 := by omega
      obtain ⟨p1, q1, e1⟩ := words_of (a * (b % 2 ^ (k + 1)))
      have E1 := Lib.hid e1
      clear hy e1
      go_upto_region 6 with (fail)
      go_upto_if 20 with (fail)
      go_cut [20] (fun v wd => Hid (WF wd b4 0 0) ∧ Hid (WF wd (b4 + 1) px qx) ∧ Hid (WF wd (b4 + 1 + 1) p1 q1) ∧ Hid (Below w.heap.size w wd))
      case first =>
        rcases hy2 with rfl | rfl
        · have HE := Lib.hid (show p1 = po ∧ q1 = qo by
            have e : b % 2 ^ (k + 1) = b % 2 ^ k := by rw [mod_bit, HYY.out]; omega
            have e1 := E1.out
            rw [e] at e1
            have e2 := Array.toList_inj.2 (Value.agg.inj (e1.symm.trans EO.out))
            simp only [List.cons.injEq, Value.int.injEq, true_and, and_true] at e2
            exact e2)
          obtain ⟨rfl, rfl⟩ := HE.out
          go_wp2_with fail
          go_meet
          case rel => exact ⟨K4, K5, K6, HB⟩
        · have AD := Lib.hid (fun w => by
            have h := radd_any (a * (b % 2 ^ k)) (a * 2 ^ k) (mul_low_top HA.out HBB.out k) (mul_pow_top HA.out (by omega)) w
            have e : a * (b % 2 ^ k) + a * 2 ^ k = a * (b % 2 ^ (k + 1)) := by
              rw [mod_bit b k, HYY.out, Nat.mul_one, Nat.mul_add]
            rw [e, if_pos (mul_low_top HA.out HBB.out (k + 1)), decide_eq_true (mul_low_top HA.out HBB.out (k + 1)), EO.out, EX.out, E1.out] at h
            exact h)
          have c5 := WF.c0 K5.out
          have d5 := WF.c1 K5.out
          have c6 := WF.c0 K6.out
          have d6 := WF.c1 K6.out
          go_wp2_with fail
          refine (AD.out _).mono ?_
          rintro e w1 ⟨rfl, hb⟩
          have K4' := Lib.hid (K4.out.later hb)
          have K5' := Lib.hid (K5.out.later hb)
          have K6' := Lib.hid (K6.out.later hb)
          have HB' := Lib.hid (bl HB.out HB.out.size hb)
          have c6' := WF.c0 K6'.out
          have d6' := WF.c1 K6'.out
          have e6' := WF.f0 K6'.out
          have f6' := WF.f1 K6'.out
          clear hb c5 d5 c6 d6
          go_wp2_with fail
          go_meet
          case rel => exact ⟨Lib.hid (K4'.out.far2 (by omega) _ _), Lib.hid (K5'.out.far2 (by omega) _ _), Lib.hid (K6'.out.set _ _), Lib.hid (below_two HB'.out (by have := HG.out; omega) _ _)⟩
      case rest =>
      clear K4 K5 K6 HB
      obtain ⟨K4, K5, K6, HB⟩ := hcut
      have c5 := WF.c0 K5.out
      have d5 := WF.c1 K5.out
      have l5 : b4 + 1 < wc.heap.size := K5.out.1
      have BX := Lib.hid (fun w => by
        have h := bits_any (a * 2 ^ k) (mul_pow_top HA.out (by omega)) w
        rw [EX.out] at h
        exact h)
      obtain ⟨p2, q2, e2⟩ := words_of (a * 2 ^ (k + 1))
      have NX := Lib.hid (fun cap g (hcap : 128 ≤ cap) w (hR : RowN w g (bitsN 128 (a * 2 ^ (k + 1)))) => by
        have ht := mul_pow_top (a := a) (k := k + 1) HA.out (by omega)
        have h := number_any 128 (a * 2 ^ (k + 1)) cap g (by omega) ht hcap w hR
        rw [if_pos ht, decide_eq_true ht, e2] at h
        exact h)
      have HSH := Lib.hid (show 0 :: (bitsN 127 (a * 2 ^ k)) = bitsN 128 (a * 2 ^ (k + 1)) by
        rw [Nat.pow_succ, Nat.mul_comm (2 ^ k) 2, ← Nat.mul_assoc, Nat.mul_comm a 2, Nat.mul_assoc, bitsN_double])
      have E2 := Lib.hid e2
      clear hy2 e2
      go_wp2_with fail
      refine (BX.out _).mono ?_
      rintro e w1 ⟨g, rfl, hI, hg, hb⟩
      obtain ⟨g0, hg0⟩ : ∃ g, wc.heap.size = g := ⟨_, rfl⟩
      have HO0 : w1.ownsRow g0 3 1 (.slice (some ⟨g0, 0, none⟩) 1 1) 1 [.int .i64 0] := by
        rw [← hg0]
        have hblk : Blk w1 wc.heap.size 3 #[.int .i64 0] := Blk.below (Blk.new wc _ _) hb (by simp)
        exact ⟨rfl, .inr ⟨_, 1, _, rfl, Nat.le_refl _, hblk, Nat.le_refl _, by unfold maxLen; omega, rfl, rfl⟩⟩
      have HR0 : Reads w1 w1.heap.size 1 (some ⟨g, 0, none⟩) 127 (ints (bitsN 127 (a * 2 ^ k))) := by
        refine ⟨by rw [ints_len, bitsN_len], fun _ => ⟨_, rfl, Blk.lt hI, fun j u hu => ?_⟩⟩
        rw [ints_get] at hu
        have hj : j < 127 := by
          rcases Nat.lt_or_ge j 127 with h | h
          · exact h
          · rw [List.getElem?_eq_none (by rw [bitsN_len]; exact h)] at hu; cases hu
        rw [bitsN_get _ _ _ hj] at hu
        have hc := hI.cell j _ (bitsN_get 128 (a * 2 ^ k) j (by omega))
        have : (⟨g, 0, none⟩ : Addr).add j = ⟨g, j, none⟩ := by unfold Addr.add; split <;> simp_all
        rw [this, hc]
        simpa using hu
      have K4' := Lib.hid ((K4.out.later ((Below.refl _ _).alloc (Nat.le_refl _) _)).later hb)
      have K5' := Lib.hid ((K5.out.later ((Below.refl _ _).alloc (Nat.le_refl _) _)).later hb)
      have K6' := Lib.hid ((K6.out.later ((Below.refl _ _).alloc (Nat.le_refl _) _)).later hb)
      have HB' := Lib.hid (bl (HB.out.alloc HB.out.size (.cells #[.int .i64 0] 3)) (Nat.le_trans HB.out.size (by simp)) hb)
      have HS' := Lib.hid (show g0 ≤ w1.heap.size by have := hb.size; simp at this; omega)
      have HGG := Lib.hid (show w.heap.size ≤ g0 ∧ b4 + 1 + 1 < g0 by have := HB.out.size; have := K6.out.1; omega)
      have HO := Lib.hid HO0
      have HR := Lib.hid HR0
      rw [hg0]
      clear hg0 hI hg hb HO0 HR0 l5 c5 d5 K4 K5 K6 HB
      go_wp2_with (at_builtin; refine wpList_append_any _ rfl (.tmp 28) (.tmp 31) 80 rfl g0 3 i0 (.int .i64 0) 1 8 Tryd.underlying80 hi hzz hz1 hz2 rfl (by decide) _ _ _ rfl HO.out w1.heap.size (some ⟨g, 0, none⟩) 127 128 (ints (bitsN 127 (a * 2 ^ k))) rfl HR.out (by intro u hu; unfold ints at hu; obtain ⟨x, _, rfl⟩ := List.mem_map.1 hu; rfl) (by unfold maxLen; omega) (by omega) HS'.out ?_)
      intro v2 w2 ho2 hg2 _
      obtain ⟨a2, k2, rfl⟩ := own_shape ho2
      have ho3 : w2.ownsRow g0 3 1 (.slice a2 128 k2) 128 (ints (bitsN 128 (a * 2 ^ (k + 1)))) := by
        rw [← HSH.out]
        exact ho2
      obtain ⟨g', rfl, h1, h2, h3⟩ := row_of_own ho3 (by omega)
      have K4 := Lib.hid (K4'.out.grown (r := g0) hg2 (by have := HGG.out; omega))
      have K5 := Lib.hid (K5'.out.grown (r := g0) hg2 (by have := HGG.out; omega))
      have K6 := Lib.hid (K6'.out.grown (r := g0) hg2 (by have := HGG.out; omega))
      have HB := Lib.hid (HB'.out.grown hg2 HB'.out.size (fun r hr => by cases hr; exact HGG.out.1))
      have HR3 := Lib.hid h3
      clear ho2 ho3 hg2 h1 h3 HO HR K4' K5' K6' HB' HS'
      go_wp2_with fail
      refine (NX.out _ _ h2 _ HR3.out).mono ?_
      rintro e w3 ⟨rfl, hb⟩
      have K4' := Lib.hid (K4.out.later hb)
      have K5' := Lib.hid (K5.out.later hb)
      have K6' := Lib.hid (K6.out.later hb)
      have HB' := Lib.hid (bl HB.out HB.out.size hb)
      have c5 := WF.c0 K5'.out
      have d5 := WF.c1 K5'.out
      have e5 := WF.f0 K5'.out
      have f5 := WF.f1 K5'.out
      clear hb HR3 K4 K5 K6 HB
      go_wp2_with fail
      go_roundw
      case rel =>
        refine ⟨k + 1, by omega, rfl, Lib.hid (K4'.out.far2 (by omega) _ _), Lib.hid ⟨p2, q2, E2.out, K5'.out.set _ _⟩, Lib.hid ⟨p1, q1, E1.out, K6'.out.far2 (by omega) _ _⟩, Lib.hid (below_two HB'.out (by have := HG.out; omega) _ _)⟩
      case measure => simp [intOf]; omega
    · have hk' : k = 64 := by omega
      subst hk'
      have c6 := WF.c0 K6.out
      have d6 := WF.c1 K6.out
      have c4 := WF.c0 K4.out
      have d4 := WF.c1 K4.out
      have e4 := WF.f0 K4.out
      have f4 := WF.f1 K4.out
      have HE := Lib.hid (show wideV (a * b) = W2 po qo by
        have e := EO.out
        rw [Nat.mod_eq_of_lt (show b < 2 ^ 64 from HBB.out)] at e
        exact e)
      go_wp2_with fail
      simp [bodyPost, results, Tryd.results31, go_sem, c4, d4]
      exact ⟨HE.out.symm, below_two HB.out HG.out _ _⟩
set_option maxRecDepth 100000 in
set_option maxHeartbeats 4000000 in
theorem rdiff_any (a b : Int) (ha : -9223372036854775808 ≤ a) (ha2 : a < 9223372036854775808) (hb : -9223372036854775808 ≤ b) (hb2 : b < 9223372036854775808) (w : World) : Calls Tryd.prog 32 #[.int .i64 a, .int .i64 b] w fun e w' => e = .returned (.int .u64 ((b - a).toNat : Int)) ∧ Below w.heap.size w w' := by
  obtain ⟨x, hx⟩ : ∃ x : Nat, IntKind.u64.wrap (IntKind.u64.wrap a + 9223372036854775808) = (x : Int) ∧ (x : Int) = a + 9223372036854775808 := ⟨(a + 9223372036854775808).toNat, by rw [wrap_u64, wrap_u64]; omega, by omega⟩
  obtain ⟨y, hy⟩ : ∃ y : Nat, IntKind.u64.wrap (IntKind.u64.wrap b + 9223372036854775808) = (y : Int) ∧ (y : Int) = b + 9223372036854775808 := ⟨(b + 9223372036854775808).toNat, by rw [wrap_u64, wrap_u64]; omega, by omega⟩
  have hxs : x < 18446744073709551616 := by omega
  have hys : y < 18446744073709551616 := by omega
  obtain ⟨d, hd⟩ : ∃ d, y - x = d := ⟨_, rfl⟩
  have hdd : (b - a).toNat = d := by omega
  have sw : ∀ n : Nat, n < 18446744073709551616 → wideV n = W2 0 n := fun n h => by unfold wideV; rw [Nat.div_eq_of_lt h, Nat.mod_eq_of_lt h]; rfl
  have SB := Lib.hid (fun w => by
    have h := rsub_any y x (by unfold wTop; omega) (by unfold wTop; omega) w
    rw [sw y hys, sw x hxs, hd, sw d (by omega)] at h
    exact h)
  have e1 := hx.1
  have e2 := hy.1
  have HD := Lib.hid hdd
  clear hx hy hxs hys hd hdd sw
  go_enter Tryd.func32, Tryd.ntmps32
  go_wp2_with fail
  refine (SB.out _).mono ?_
  rintro e w1 ⟨rfl, hb⟩
  have HB := Lib.hid (bl (((Below.refl w.heap.size w).alloc (Nat.le_refl _) (.cells #[.int .u64 0, .int .u64 (x : Int)] 24)).alloc (by simp) (.cells #[.int .u64 0, .int .u64 (y : Int)] 24)) (by simp; omega) hb)
  clear hb
  go_wp2
  go_ret
  exact ⟨by rw [HD.out]; rfl, HB.out.alloc HB.out.size _⟩
end Go.Proofs.YtplbglcdmimdoaaDoor
