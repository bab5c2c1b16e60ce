/- WideProducts: the walk. -/
import Derived.Test.YtplbglcdmimdoaaDoorWideBoxes
namespace Go.Proofs.YtplbglcdmimdoaaDoor
open Go.RowKit
set_option linter.unusedVariables false
set_option linter.unusedSimpArgs false

set_option maxRecDepth 100000 in
set_option maxHeartbeats 1000000 in
theorem WideProducts_way (a b c half rest lo hi d : Nat) (pm qm p1 q1 p2 q2 p3 q3 p4 q4 pd qd : Int)
    (ha : a < 18446744073709551616) (hb : b < 18446744073709551616) (hc : c < 18446744073709551616) (hhalf : Hid (b / 2 = half)) (hrest : Hid (b - half = rest)) (hlo : Hid (min b c = lo)) (hhi : Hid (max b c = hi)) (hd : Hid (hi - lo = d))
    (M1 : Hid (∀ w, Calls Tryd.prog 23 #[.int .u64 (a : Int), .int .u64 (b : Int)] w fun e w' => e = .returned (W2 pm qm) ∧ Below w.heap.size w w')) (M2 : Hid (∀ w, Calls Tryd.prog 23 #[.int .u64 (b : Int), .int .u64 (a : Int)] w fun e w' => e = .returned (W2 pm qm) ∧ Below w.heap.size w w'))
    (M3 : Hid (∀ w, Calls Tryd.prog 23 #[.int .u64 (a : Int), .int .u64 0] w fun e w' => e = .returned (W2 0 0) ∧ Below w.heap.size w w')) (M4 : Hid (∀ w, Calls Tryd.prog 23 #[.int .u64 (a : Int), .int .u64 1] w fun e w' => e = .returned (W2 0 a) ∧ Below w.heap.size w w')) (O1 : Hid (∀ w, Calls Tryd.prog 13 #[.int .u64 (a : Int)] w fun e w' => e = .returned (W2 0 a) ∧ Below w.heap.size w w'))
    (M5 : Hid (∀ w, Calls Tryd.prog 23 #[.int .u64 (a : Int), .int .u64 (half : Int)] w fun e w' => e = .returned (W2 p1 q1) ∧ Below w.heap.size w w')) (M6 : Hid (∀ w, Calls Tryd.prog 23 #[.int .u64 (a : Int), .int .u64 (rest : Int)] w fun e w' => e = .returned (W2 p2 q2) ∧ Below w.heap.size w w')) (A1 : Hid (∀ w, Calls Tryd.prog 11 #[W2 p1 q1, W2 p2 q2] w fun e w' => e = .returned (.tuple #[W2 pm qm, .bool true]) ∧ Below w.heap.size w w'))
    (M7 : Hid (∀ w, Calls Tryd.prog 23 #[.int .u64 (a : Int), .int .u64 (hi : Int)] w fun e w' => e = .returned (W2 p3 q3) ∧ Below w.heap.size w w')) (M8 : Hid (∀ w, Calls Tryd.prog 23 #[.int .u64 (a : Int), .int .u64 (lo : Int)] w fun e w' => e = .returned (W2 p4 q4) ∧ Below w.heap.size w w')) (S1 : Hid (∀ w, Calls Tryd.prog 24 #[W2 p3 q3, W2 p4 q4] w fun e w' => e = .returned (.tuple #[W2 pd qd, .bool true]) ∧ Below w.heap.size w w'))
    (M9 : Hid (∀ w, Calls Tryd.prog 23 #[.int .u64 (a : Int), .int .u64 (d : Int)] w fun e w' => e = .returned (W2 pd qd) ∧ Below w.heap.size w w'))
    (w : World) (HT : Hid (Lib.TabIs Tryd.prog w "internal/strconv.uint64pow10" .u64 Lib.pow10Tab)) : Calls Tryd.prog 7 #[.int .u64 (a : Int), .int .u64 (b : Int), .int .u64 (c : Int)] w fun e w' => e = .returned (.bool true) ∧ Below w.heap.size w w' := by
  have e1 : (b : Int) / 2 = (half : Int) := by have := hhalf.out; omega
  have e2 : (b : Int) - half = (rest : Int) := by have := hhalf.out; have := hrest.out; omega
  have e3 : (hi : Int) - lo = (d : Int) := by have := hlo.out; have := hhi.out; have := hd.out; omega
  have b1 : half < 18446744073709551616 := by have := hhalf.out; omega
  have b2 : rest < 18446744073709551616 := by have := hrest.out; omega
  have b3 : lo < 18446744073709551616 := by have := hlo.out; omega
  have b4 : hi < 18446744073709551616 := by have := hhi.out; omega
  have b5 : d < 18446744073709551616 := by have := hd.out; omega
  have b6 : lo ≤ hi := by have := hlo.out; have := hhi.out; omega
  have e4 : min (b : Int) c = lo := by have := hlo.out; omega
  have e5 : max (b : Int) c = hi := by have := hhi.out; omega
  go_enter Tryd.func7, Tryd.ntmps7
  go_wp2_with fail
  refine (M1.out _).mono ?_
  rintro e w1 ⟨rfl, hb⟩
  go_upto_region 2 with (fail)
  have HB := Lib.hid (bla (Below.refl _ _) hb (.cells #[.int .u64 pm, .int .u64 qm] 24))
  have K7 := WB.new w1 pm qm 24
  obtain ⟨b7, hbe⟩ : ∃ b, w1.heap.size = b := ⟨_, rfl⟩
  rw [hbe] at K7 ⊢
  clear hb hbe
  generalize w1.alloc (.cells #[.int .u64 pm, .int .u64 qm] 24) = V at K7 HB ⊢
  obtain ⟨l7, c7, d7⟩ := K7
  have KV := Lib.hid (show WB V b7 pm qm from ⟨l7, c7, d7⟩)
  refine since_wp (fun s0 => ?_)
  refine wp_region_since (by kernel_rfl) (by kernel_rfl) ?_
  repeat (go_big_quiet_step ((first
      | (go_at_call 23; first | with_reducible exact since_quiet M2.out | with_reducible exact since_quiet M3.out | with_reducible exact since_quiet M4.out)
      | (go_at_call 13; with_reducible exact since_quiet O1.out))))
  refine wpQuiet_nil ?_
  rintro _ ⟨s, rfl⟩
  replace HB := Lib.hid (since_below HB.out s HB.out.size)
  replace KV := Lib.hid (KV.out.later s.h)
  clear l7 c7 d7 s0
  obtain ⟨U, hU⟩ : ∃ U, s.w = U := ⟨_, rfl⟩
  rw [hU] at HB KV ⊢
  clear hU s M1 M2 M3 M4 O1
  clear V
  go_wp2_with fail
  refine (M5.out _).mono ?_
  rintro e wl1 ⟨rfl, hb⟩
  replace KV := Lib.hid (KV.out.later hb)
  replace HB := Lib.hid (bl HB.out HB.out.size hb)
  clear hb
  go_wp2_with fail
  refine (M6.out _).mono ?_
  rintro e wl2 ⟨rfl, hb⟩
  replace KV := Lib.hid (KV.out.later hb)
  replace HB := Lib.hid (bl HB.out HB.out.size hb)
  clear hb
  go_wp2_with fail
  refine (A1.out _).mono ?_
  rintro e wl3 ⟨rfl, hb⟩
  go_upto_region 6 with (fail)
  replace KV := Lib.hid ((KV.out.later hb).alloc (.cells #[.int .u64 pm, .int .u64 qm] 24))
  replace HB := Lib.hid (bla HB.out hb (.cells #[.int .u64 pm, .int .u64 qm] 24))
  have K10 := Lib.hid (WB.new wl3 pm qm 24)
  obtain ⟨b10, hbe⟩ : ∃ b, wl3.heap.size = b := ⟨_, rfl⟩
  rw [hbe] at K10 ⊢
  clear hb hbe
  generalize wl3.alloc (.cells #[.int .u64 pm, .int .u64 qm] 24) = vl3 at KV K10 HB ⊢
  obtain ⟨lV, cV, dV⟩ := KV.out
  obtain ⟨l10, c10, d10⟩ := K10.out
  go_wp2_with fail
  clear lV cV dV l10 c10 d10
  refine (M7.out _).mono ?_
  rintro e wl4 ⟨rfl, hb⟩
  replace KV := Lib.hid (KV.out.later hb)
  replace K10 := Lib.hid (K10.out.later hb)
  replace HB := Lib.hid (bl HB.out HB.out.size hb)
  clear hb
  go_wp2_with fail
  refine (M8.out _).mono ?_
  rintro e wl5 ⟨rfl, hb⟩
  replace KV := Lib.hid (KV.out.later hb)
  replace K10 := Lib.hid (K10.out.later hb)
  replace HB := Lib.hid (bl HB.out HB.out.size hb)
  clear hb
  go_wp2_with fail
  refine (S1.out _).mono ?_
  rintro e wl6 ⟨rfl, hb⟩
  go_upto_region 10 with (fail)
  replace KV := Lib.hid ((KV.out.later hb).alloc (.cells #[.int .u64 pd, .int .u64 qd] 24))
  replace K10 := Lib.hid ((K10.out.later hb).alloc (.cells #[.int .u64 pd, .int .u64 qd] 24))
  replace HB := Lib.hid (bla HB.out hb (.cells #[.int .u64 pd, .int .u64 qd] 24))
  have K14 := Lib.hid (WB.new wl6 pd qd 24)
  obtain ⟨b14, hbe⟩ : ∃ b, wl6.heap.size = b := ⟨_, rfl⟩
  rw [hbe] at K14 ⊢
  clear hb hbe
  generalize wl6.alloc (.cells #[.int .u64 pd, .int .u64 qd] 24) = vl6 at KV K10 K14 HB ⊢
  obtain ⟨l14, c14, d14⟩ := K14.out
  refine since_wp (fun s0 => ?_)
  refine wp_region_since (by kernel_rfl) (by kernel_rfl) ?_
  have HTV := Lib.hid (Tab64.later HT.out HB.out)
  have AW := fun s : Since vl6 => tab_quiet (P := Tryd.prog) (f := 12) (s := s) (T := fun w => Lib.TabIs Tryd.prog w "internal/strconv.uint64pow10" .u64 Lib.pow10Tab) HTV.out (fun w' h => Tab64.later HTV.out h) awake01_any
  repeat (go_big_quiet_step ((first
      | (go_at_call 12; with_reducible exact AW _)
      | (go_at_call 23; with_reducible exact since_quiet M9.out))))
  refine wpQuiet_nil ?_
  rintro _ ⟨s, rfl⟩
  go_wp2
  go_ret
  exact ⟨rfl, since_below HB.out s HB.out.size⟩
theorem mul_top {a b : Nat} (ha : a < 18446744073709551616) (hb : b < 18446744073709551616) : a * b < wTop := Nat.mul_lt_mul'' ha hb
theorem small_words {n : Nat} (h : n < 18446744073709551616) : wideV n = W2 0 n := by
  unfold wideV
  rw [Nat.div_eq_of_lt h, Nat.mod_eq_of_lt h]
  rfl
theorem WideProducts_words (a b c : Int) (a1 : 0 ≤ a) (a2 : a < 18446744073709551616) (b1 : 0 ≤ b) (b2 : b < 18446744073709551616) (c1 : 0 ≤ c) (c2 : c < 18446744073709551616)
    (w : World) (ht : Lib.TabIs Tryd.prog w "internal/strconv.uint64pow10" .u64 Lib.pow10Tab) : Calls Tryd.prog 7 #[.int .u64 a, .int .u64 b, .int .u64 c] w fun e w' => e = .returned (.bool true) ∧ Below w.heap.size w w' := by
  obtain ⟨a, rfl⟩ := Int.eq_ofNat_of_zero_le a1
  obtain ⟨b, rfl⟩ := Int.eq_ofNat_of_zero_le b1
  obtain ⟨c, rfl⟩ := Int.eq_ofNat_of_zero_le c1
  have ha : a < 18446744073709551616 := by omega
  have hb : b < 18446744073709551616 := by omega
  have hc : c < 18446744073709551616 := by omega
  obtain ⟨half, hhalf⟩ : ∃ x, b / 2 = x := ⟨_, rfl⟩
  obtain ⟨rest, hrest⟩ : ∃ x, b - half = x := ⟨_, rfl⟩
  obtain ⟨lo, hlo⟩ : ∃ x, min b c = x := ⟨_, rfl⟩
  obtain ⟨hi, hhi⟩ : ∃ x, max b c = x := ⟨_, rfl⟩
  obtain ⟨d, hd⟩ : ∃ x, hi - lo = x := ⟨_, rfl⟩
  have k1 : half < 18446744073709551616 := by omega
  have k2 : rest < 18446744073709551616 := by omega
  have k3 : lo < 18446744073709551616 := by omega
  have k4 : hi < 18446744073709551616 := by omega
  have k5 : d < 18446744073709551616 := by omega
  have k6 : lo ≤ hi := by omega
  have s1 : a * half + a * rest = a * b := by rw [← Nat.mul_add]; congr 1; omega
  have s2 : a * hi - a * lo = a * d := by rw [← Nat.mul_sub]; congr 1
  have s3 : a * lo ≤ a * hi := Nat.mul_le_mul_left _ k6
  have M1 := wmul_any a b ha hb
  have M2 := wmul_any b a hb ha
  rw [Nat.mul_comm b a] at M2
  have M3 := wmul_any a 0 ha (by decide)
  rw [Nat.mul_zero, small_words (by decide)] at M3
  have M4 := wmul_any a 1 ha (by decide)
  rw [Nat.mul_one, small_words ha] at M4
  have O1 := wof_any a ha
  rw [small_words ha] at O1
  have M5 := wmul_any a half ha k1
  have M6 := wmul_any a rest ha k2
  have A1 := wadd_any (a * half) (a * rest) (mul_top ha k1) (mul_top ha k2)
  rw [s1, if_pos (mul_top ha hb), decide_eq_true (mul_top ha hb)] at A1
  have M7 := wmul_any a hi ha k4
  have M8 := wmul_any a lo ha k3
  have S1 := wsub_any (a * hi) (a * lo) (mul_top ha k4) (mul_top ha k3)
  rw [s2, decide_eq_true s3] at S1
  have M9 := wmul_any a d ha k5
  obtain ⟨pm, qm, em⟩ := words_of (a * b)
  obtain ⟨p1, q1, e1⟩ := words_of (a * half)
  obtain ⟨p2, q2, e2⟩ := words_of (a * rest)
  obtain ⟨p3, q3, e3⟩ := words_of (a * hi)
  obtain ⟨p4, q4, e4⟩ := words_of (a * lo)
  obtain ⟨pd, qd, ed⟩ := words_of (a * d)
  rw [em] at M1 M2
  rw [e1] at M5
  rw [e2] at M6
  rw [e1, e2, em] at A1
  rw [e3] at M7
  rw [e4] at M8
  rw [e3, e4, ed] at S1
  rw [ed] at M9
  exact WideProducts_way a b c half rest lo hi d pm qm p1 q1 p2 q2 p3 q3 p4 q4 pd qd ha hb hc (Lib.hid hhalf) (Lib.hid hrest) (Lib.hid hlo) (Lib.hid hhi) (Lib.hid hd) (Lib.hid M1) (Lib.hid M2) (Lib.hid M3) (Lib.hid M4) (Lib.hid O1) (Lib.hid M5) (Lib.hid M6) (Lib.hid A1) (Lib.hid M7) (Lib.hid M8) (Lib.hid S1) (Lib.hid M9) w (Lib.hid ht)
end Go.Proofs.YtplbglcdmimdoaaDoor
