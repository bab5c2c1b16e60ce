/- The bounds of layer 29: product, sum, squared, Most, Placed; what they are in plain numbers. -/
import Derived.Test.YtplbglcdmimdoaaDoorBase
import Derived.Test.YtplbglcdmimdoaaDoorShelfWide
import Derived.Lib.BitFns
import Derived.IntWalk
namespace Go.Proofs.YtplbglcdmimdoaaDoor
open Go.RowKit
set_option linter.unusedVariables false
set_option linter.unusedSimpArgs false

/-- How often 1 is doubled. -/
def lgN (n : Nat) : Nat := if n < 2 then 0 else Lib.bitLen (n - 1)
theorem lgN_two {n : Nat} (h : 2 ≤ n) (h2 : n ≤ 9223372036854775808) : lgN n = 1 + lgN (n - n / 2) := by
  unfold lgN
  rw [if_neg (by omega), Lib.bitLen_half (n - 1) (by omega) (by omega), show (n - 1) / 2 = n - n / 2 - 1 by omega]
  by_cases e : n - n / 2 < 2
  · rw [if_pos e, show n - n / 2 - 1 = 0 by omega]; rfl
  · rw [if_neg e]
theorem lgN_mono : ∀ n, n ≤ 9223372036854775808 → ∀ m, m ≤ n → lgN m ≤ lgN n := by
  intro n
  induction n using Nat.strongRecOn with
  | _ n ih =>
    intro hn m hm
    by_cases e : m < 2
    · unfold lgN; rw [if_pos e]; omega
    · rw [lgN_two (by omega) (by omega), lgN_two (show 2 ≤ n by omega) hn]
      have := ih (n - n / 2) (by omega) (by omega) (m - m / 2) (by omega)
      omega
theorem lgN_le (n k : Nat) (hk : k ≤ 64) (h : n ≤ 2 ^ k) : lgN n ≤ k := by
  unfold lgN
  split
  · omega
  · exact Lib.bitLen_le (n - 1) k hk (by omega)
def sqN (n : Nat) : Nat := lgN (n + 2) * lgN (n + 2)
def prodN (a b : Nat) : Nat := min (a * b) 4611686018427387904
def sumN (a b : Nat) : Nat := min (a + b) 4611686018427387904
def mostN (n k : Nat) : Nat := sumN (prodN 8 k) (16 * sqN n + 16)
def placedN (m : Nat) : Nat := sumN (prodN m (32 * sqN m)) 32
theorem lg_pos (n : Nat) (h : n ≤ 2199023255552) : 1 ≤ lgN (n + 2) := by
  have := lgN_mono (n + 2) (by omega) 2 (by omega)
  have h2 : lgN 2 = 1 := by decide
  omega
theorem lg_top (n : Nat) (h : n ≤ 2199023255552) : lgN (n + 2) ≤ 42 := lgN_le (n + 2) 42 (by omega) (by omega)
theorem sq_le (n : Nat) (h : n ≤ 2199023255552) : 1 ≤ sqN n ∧ sqN n ≤ 1764 := by
  have h1 := lg_pos n h
  have h2 := lg_top n h
  unfold sqN
  exact ⟨Nat.mul_le_mul h1 h1, Nat.mul_le_mul h2 h2⟩
theorem sq_mono {m n : Nat} (h : m ≤ n) (hn : n ≤ 2199023255552) : sqN m ≤ sqN n := by
  have := lgN_mono (n + 2) (by omega) (m + 2) (by omega)
  exact Nat.mul_le_mul this this

set_option maxRecDepth 100000 in
set_option maxHeartbeats 1000000 in
theorem log29_any (n : Nat) (w : World) (h : n ≤ 4611686018427387906) : Calls Tryd.prog 70 #[.int .i64 n] w fun e w' => e = .returned (.int .i64 (lgN n)) ∧ w = w' := by
  have HL1 := Lib.hid (fun h : n < 2 => show lgN n = 0 from if_pos h)
  have HL2 := Lib.hid (fun h : ¬ n < 2 => show lgN n = Lib.bitLen (n - 1) from if_neg h)
  rcases Nat.lt_or_ge n 2 with h2 | h2
  · go_enter Tryd.func70, Tryd.ntmps70
    go_wp2_with fail
    go_ret
    exact ⟨by rw [HL1.out h2]; rfl, rfl⟩
  · go_enter Tryd.func70, Tryd.ntmps70
    go_wp2_with fail
    refine (Tryd.bits_Len (n - 1) w (by omega) (by omega)).mono ?_
    rintro e w1 ⟨rfl, rfl⟩
    go_wp2
    go_ret
    exact ⟨by rw [HL2.out (by omega)]; rfl, rfl⟩
set_option maxRecDepth 100000 in
set_option maxHeartbeats 1000000 in
theorem product_any (a b : Nat) (w : World) (ha : a ≤ 4611686018427387904) (hb : b ≤ 4611686018427387904) : Calls Tryd.prog 40 #[.int .i64 a, .int .i64 b] w fun e w' => e = .returned (.int .i64 (prodN a b)) ∧ w = w' := by
  have hp : (a * b / 18446744073709551616 > 0 ∧ prodN a b = 4611686018427387904) ∨ (a * b / 18446744073709551616 = 0 ∧ 4611686018427387904 < a * b % 18446744073709551616 ∧ prodN a b = 4611686018427387904) ∨ (a * b / 18446744073709551616 = 0 ∧ a * b % 18446744073709551616 ≤ 4611686018427387904 ∧ prodN a b = a * b % 18446744073709551616) := by
    unfold prodN
    omega
  go_enter Tryd.func40, Tryd.ntmps40
  go_wp2_with fail
  refine (Tryd.bits_Mul64 a b (by omega) (by omega) w).mono ?_
  rintro e w1 ⟨rfl, rfl⟩
  generalize a * b / 18446744073709551616 = H at hp ⊢
  have hl : a * b % 18446744073709551616 < 18446744073709551616 := Nat.mod_lt _ (by omega)
  generalize a * b % 18446744073709551616 = L at hp hl ⊢
  rcases hp with ⟨h1, hr⟩ | ⟨rfl, h1, hr⟩ | ⟨rfl, h1, hr⟩
  all_goals
    have HR := Lib.hid hr
    clear hr
    go_wp2
    go_ret
    exact ⟨by rw [HR.out]; rfl, rfl⟩
set_option maxRecDepth 100000 in
set_option maxHeartbeats 1000000 in
theorem sum_any (a b : Nat) (w : World) (ha : a ≤ 4611686018427387904) (hb : b ≤ 4611686018427387904) : Calls Tryd.prog 39 #[.int .i64 a, .int .i64 b] w fun e w' => e = .returned (.int .i64 (sumN a b)) ∧ w = w' := by
  have hs : (a + b < 4611686018427387904 ∧ sumN a b = a + b) ∨ (a + b = 4611686018427387904 ∧ sumN a b = a + b) ∨ (4611686018427387904 < a + b ∧ sumN a b = 4611686018427387904) := by unfold sumN; omega
  generalize sumN a b = R at hs ⊢
  rcases hs with ⟨h1, rfl⟩ | ⟨h1, rfl⟩ | ⟨h1, rfl⟩
  all_goals
    go_enter Tryd.func39, Tryd.ntmps39
    go_wp2
    go_ret
    refine ⟨?_, rfl⟩
    exact ret_int (by omega)
set_option maxRecDepth 100000 in
set_option maxHeartbeats 1000000 in
theorem squared_any (n : Nat) (w : World) (h : n ≤ 2199023255552) : Calls Tryd.prog 41 #[.int .i64 n] w fun e w' => e = .returned (.int .i64 (sqN n)) ∧ w = w' := by
  have H1 := Lib.hid (lg_top n h)
  have HS := Lib.hid (show sqN n = lgN (n + 2) * lgN (n + 2) from rfl)
  have h2 : (n : Int) < 4611686018427387904 := by omega
  clear h
  go_enter Tryd.func41, Tryd.ntmps41
  go_wp2_with fail
  refine (log29_any (n + 2) w (by omega)).mono ?_
  rintro e w1 ⟨rfl, rfl⟩
  generalize lgN (n + 2) = g at H1 HS ⊢
  have h1 := H1.out
  have hg : g * g ≤ 1764 := Nat.mul_le_mul h1 h1
  rw [← HS.out] at hg
  go_wp2_with fail
  go_ret
  refine ⟨ret_int ?_, rfl⟩
  rw [← Int.natCast_mul, ← HS.out]
  unfold wrap64
  omega
theorem prodN_le (a b : Nat) : prodN a b ≤ 4611686018427387904 := by unfold prodN; omega
theorem mostN_eq (n k : Nat) : mostN n k = sumN (prodN 8 k) (16 * sqN n + 16) := rfl
theorem placedN_eq (m : Nat) : placedN m = sumN (prodN m (32 * sqN m)) 32 := rfl
set_option maxRecDepth 100000 in
set_option maxHeartbeats 1000000 in
theorem most_nat (n k : Nat) (w : World) (hn : n ≤ 2199023255552) (hk : k ≤ 2199023255552) : Calls Tryd.prog 15 #[.int .i64 n, .int .i64 k] w fun e w' => e = .returned (.int .i64 (mostN n k)) ∧ w = w' := by
  have HP := Lib.hid (prodN_le 8 k)
  have HQ := Lib.hid (sq_le n (by omega))
  have HM := Lib.hid (mostN_eq n k)
  go_enter Tryd.func15, Tryd.ntmps15
  go_wp2_with fail
  refine (product_any 8 k _ (by omega) (by omega)).mono ?_
  rintro e w1 ⟨rfl, rfl⟩
  have hP := HP.out
  generalize prodN 8 k = P at hP HM ⊢
  go_wp2_with fail
  refine (squared_any n _ (by omega)).mono ?_
  rintro e w1 ⟨rfl, rfl⟩
  obtain ⟨hq1, hq2⟩ := HQ.out
  generalize sqN n = Q at hq1 hq2 HM ⊢
  clear HP HQ
  go_wp2_with fail
  refine (sum_any P (16 * Q + 16) _ (by omega) (by omega)).mono ?_
  rintro e w1 ⟨rfl, rfl⟩
  go_wp2
  go_ret
  exact ⟨by rw [HM.out]; rfl, rfl⟩
theorem bound_zero : ((prodN 8 0 : Nat) : Int) = 0 ∧ ((sqN 0 : Nat) : Int) = 1 ∧ ((sumN 0 32 : Nat) : Int) = 32 ∧ ((prodN 0 32 : Nat) : Int) = 0 := by decide
theorem bound_zero2 : mostN 0 0 = 32 ∧ placedN 0 = 32 := by decide
set_option maxRecDepth 100000 in
set_option maxHeartbeats 1000000 in
theorem most_neg (n k : Int) (w : World) (hn : n < 0) (hk : k < 0) : Calls Tryd.prog 15 #[.int .i64 n, .int .i64 k] w fun e w' => e = .returned (.int .i64 32) ∧ w = w' := by
  have Z := Lib.hid bound_zero
  go_enter Tryd.func15, Tryd.ntmps15
  go_wp2_with fail
  rw [show max k 0 = 0 by omega]
  refine (product_any 8 0 _ (by omega) (by omega)).mono ?_
  rw [Z.out.1]
  rintro e w1 ⟨rfl, rfl⟩
  go_wp2_with fail
  rw [show max n 0 = 0 by omega]
  refine (squared_any 0 _ (by omega)).mono ?_
  rw [Z.out.2.1]
  rintro e w1 ⟨rfl, rfl⟩
  go_wp2_with fail
  refine (sum_any 0 32 _ (by omega) (by omega)).mono ?_
  rw [Z.out.2.2.1]
  rintro e w1 ⟨rfl, rfl⟩
  go_wp2
  go_ret
  exact ⟨rfl, rfl⟩
set_option maxRecDepth 100000 in
set_option maxHeartbeats 1000000 in
theorem placed_nat (n : Nat) (w : World) (hn : n ≤ 2199023255552) : Calls Tryd.prog 16 #[.int .i64 n] w fun e w' => e = .returned (.int .i64 (placedN n)) ∧ w = w' := by
  have HQ := Lib.hid (sq_le n (by omega))
  have HM := Lib.hid (placedN_eq n)
  go_enter Tryd.func16, Tryd.ntmps16
  go_wp2_with fail
  refine (squared_any n _ (by omega)).mono ?_
  rintro e w1 ⟨rfl, rfl⟩
  obtain ⟨hq1, hq2⟩ := HQ.out
  generalize sqN n = Q at hq1 hq2 HM ⊢
  go_wp2_with fail
  refine (product_any n (32 * Q) _ (by omega) (by omega)).mono ?_
  rintro e w1 ⟨rfl, rfl⟩
  have hP := prodN_le n (32 * Q)
  generalize prodN n (32 * Q) = P at hP HM ⊢
  go_wp2_with fail
  refine (sum_any P 32 _ (by omega) (by omega)).mono ?_
  rintro e w1 ⟨rfl, rfl⟩
  go_wp2
  go_ret
  exact ⟨by rw [HM.out]; rfl, rfl⟩
set_option maxRecDepth 100000 in
set_option maxHeartbeats 1000000 in
theorem placed_neg (n : Int) (w : World) (hn : n < 0) : Calls Tryd.prog 16 #[.int .i64 n] w fun e w' => e = .returned (.int .i64 32) ∧ w = w' := by
  have Z := Lib.hid bound_zero
  go_enter Tryd.func16, Tryd.ntmps16
  go_wp2_with fail
  rw [show max n 0 = 0 by omega]
  refine (squared_any 0 _ (by omega)).mono ?_
  rw [Z.out.2.1]
  rintro e w1 ⟨rfl, rfl⟩
  go_wp2_with fail
  refine (product_any 0 32 _ (by omega) (by omega)).mono ?_
  rw [Z.out.2.2.2]
  rintro e w1 ⟨rfl, rfl⟩
  go_wp2_with fail
  refine (sum_any 0 32 _ (by omega) (by omega)).mono ?_
  rw [Z.out.2.2.1]
  rintro e w1 ⟨rfl, rfl⟩
  go_wp2
  go_ret
  exact ⟨rfl, rfl⟩
end Go.Proofs.YtplbglcdmimdoaaDoor
