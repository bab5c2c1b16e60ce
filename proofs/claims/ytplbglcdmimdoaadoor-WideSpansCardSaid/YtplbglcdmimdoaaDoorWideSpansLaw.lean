/- WideSpans: the walk. -/
import Derived.Test.YtplbglcdmimdoaaDoorWideAwake
namespace Go.Proofs.YtplbglcdmimdoaaDoor
open Go.RowKit
set_option linter.unusedVariables false
set_option linter.unusedSimpArgs false

theorem wof2 (n : Nat) (h : n < 18446744073709551616) (w : World) : Calls Tryd.prog 13 #[.int .u64 n] w fun e w' => e = .returned (W2 0 n) ∧ Below w.heap.size w w' := by
  have k := wof_any n h w
  unfold wideV at k
  rw [Nat.div_eq_of_lt h, Nat.mod_eq_of_lt h] at k
  exact k
theorem wadd2 (m n : Nat) (h : m + n < 18446744073709551616) (w : World) : Calls Tryd.prog 11 #[W2 0 m, W2 0 n] w fun e w' => e = .returned (.tuple #[W2 0 (m + n : Nat), .bool true]) ∧ Below w.heap.size w w' := by
  have k := wadd_any m n (by unfold wTop; omega) (by unfold wTop; omega) w
  rw [if_pos (by unfold wTop; omega), decide_eq_true (by unfold wTop; omega)] at k
  unfold wideV at k
  rw [Nat.div_eq_of_lt h, Nat.mod_eq_of_lt h, Nat.div_eq_of_lt (show m < 18446744073709551616 by omega), Nat.mod_eq_of_lt (show m < 18446744073709551616 by omega), Nat.div_eq_of_lt (show n < 18446744073709551616 by omega), Nat.mod_eq_of_lt (show n < 18446744073709551616 by omega)] at k
  exact k
set_option maxRecDepth 100000 in
set_option maxHeartbeats 2000000 in
theorem WideSpans_walk (a b c : Int) (ha : -9223372036854775808 ≤ a) (ha2 : a < 9223372036854775808) (hb : -9223372036854775808 ≤ b) (hb2 : b < 9223372036854775808) (hc : -9223372036854775808 ≤ c) (hc2 : c < 9223372036854775808)
    (w : World) (ht : Lib.TabIs Tryd.prog w "internal/strconv.uint64pow10" .u64 Lib.pow10Tab) : Calls Tryd.prog 4 #[.int .i64 a, .int .i64 b, .int .i64 c] w fun e w' => e = .returned (.bool true) ∧ Below w.heap.size w w' := by
  have HT := Lib.hid ht
  clear ht
  go_enter Tryd.func4, Tryd.ntmps4
  go_upto_region 4 with (fail)
  have hxy : min a (min b (min (max a b) c)) ≤ max (min a b) (min (max a b) c) := by omega
  have hyz : max (min a b) (min (max a b) c) ≤ max a (max b c) := by omega
  have hx : -9223372036854775808 ≤ min a (min b (min (max a b) c)) := by omega
  have hz : max a (max b c) < 9223372036854775808 := by omega
  generalize min a (min b (min (max a b) c)) = x at hxy hx ⊢
  generalize max (min a b) (min (max a b) c) = y at hxy hyz ⊢
  generalize max a (max b c) = z at hyz hz ⊢
  generalize min a b = g1
  generalize max a b = g2
  generalize min g2 c = g3
  clear ha ha2 hb hb2 hc hc2
  obtain ⟨m, hm⟩ : ∃ m, (y - x).toNat = m := ⟨_, rfl⟩
  obtain ⟨n, hn⟩ : ∃ n, (z - y).toNat = n := ⟨_, rfl⟩
  obtain ⟨s, hs⟩ : ∃ s, m + n = s := ⟨_, rfl⟩
  have hs2 : (z - x).toNat = s := by omega
  have hs3 : s < 18446744073709551616 := by omega
  have D1 := Lib.hid (fun w => by have h := wdiff_any x y (by omega) (by omega) (by omega) (by omega) w; rw [hm] at h; exact h)
  have D2 := Lib.hid (fun w => by have h := wdiff_any y z (by omega) (by omega) (by omega) (by omega) w; rw [hn] at h; exact h)
  have D3 := Lib.hid (fun w => by have h := wdiff_any x z (by omega) (by omega) (by omega) (by omega) w; rw [hs2] at h; exact h)
  have D4 := Lib.hid (fun w => by have h := wdiff_any x x (by omega) (by omega) (by omega) (by omega) w; rw [show (x - x).toNat = 0 by omega] at h; exact h)
  have D5 := Lib.hid (fun w => by have h := wdiff_any z x (by omega) (by omega) (by omega) (by omega) w; rw [show (x - z).toNat = 0 by omega] at h; exact h)
  have O1 := Lib.hid (fun w => wof2 m (by omega) w)
  have O2 := Lib.hid (fun w => wof2 n (by omega) w)
  have O3 := Lib.hid (fun w => wof2 s (by omega) w)
  have AD := Lib.hid (fun w => by have h := wadd2 m n (by omega) w; rw [hs] at h; exact h)
  have HQ : ∃ q : Bool, (((s : Nat) : Int) == 0) = q ∧ (x == z) = q := by
    by_cases h : x = z
    · exact ⟨true, by have : s = 0 := by omega
                      simp [this], by simp [h]⟩
    · exact ⟨false, by have : s ≠ 0 := by omega
                       simp [this], by simp [h]⟩
  clear hm hn hs hs2 hs3 hxy hyz hx hz
  go_wp2_with fail
  refine (D1.out w).mono ?_
  rintro e w1 ⟨rfl, rfl⟩
  go_wp2_with fail
  refine (O1.out w).mono ?_
  rintro e w1 ⟨rfl, hb⟩
  have hB := hb
  clear hb
  go_wp2_with fail
  refine (D2.out w1).mono ?_
  rintro e w2 ⟨rfl, rfl⟩
  go_wp2_with fail
  refine (O2.out w1).mono ?_
  rintro e w2 ⟨rfl, hb⟩
  replace hB := bl hB hB.size hb
  clear hb
  go_wp2_with fail
  refine (AD.out w2).mono ?_
  rintro e w3 ⟨rfl, hb⟩
  have k := WB.new w3 0 (s : Int) 24
  replace hB := bla hB hb (.cells #[.int .u64 0, .int .u64 (s : Int)] 24)
  obtain ⟨b, hbe⟩ : ∃ b, w3.heap.size = b := ⟨_, rfl⟩
  rw [hbe] at k
  clear hb
  go_wp2_with fail
  clear hbe
  generalize w3.alloc (.cells #[.int .u64 0, .int .u64 (s : Int)] 24) = V at k hB ⊢
  obtain ⟨l1, c1, d1⟩ := k
  have HB := Lib.hid hB
  have HTV := Lib.hid (Tab64.later HT.out hB)
  have AW := fun s : Since V => tab_quiet (P := Tryd.prog) (f := 12) (s := s) (T := fun w => Lib.TabIs Tryd.prog w "internal/strconv.uint64pow10" .u64 Lib.pow10Tab) HTV.out (fun w' h => Tab64.later HTV.out h) awake01_any
  clear hB D1 D2 O1 O2 AD
  obtain ⟨q, hq1, hq2⟩ := HQ
  refine since_wp (fun s0 => ?_)
  refine wp_region_since (by kernel_rfl) (by kernel_rfl) ?_
  cases q
  all_goals
    repeat (go_big_quiet_step ((first
      | (go_at_call 12; with_reducible exact AW _)
      | (go_at_call 14; first | with_reducible exact same_quiet D3.out | with_reducible exact same_quiet D4.out | with_reducible exact same_quiet D5.out)
      | (go_at_call 13; with_reducible exact since_quiet O3.out))))
    refine wpQuiet_nil ?_
    rintro _ ⟨s, rfl⟩
    go_wp2
    go_ret
    exact ⟨rfl, since_below HB.out s HB.out.size⟩
end Go.Proofs.YtplbglcdmimdoaaDoor
