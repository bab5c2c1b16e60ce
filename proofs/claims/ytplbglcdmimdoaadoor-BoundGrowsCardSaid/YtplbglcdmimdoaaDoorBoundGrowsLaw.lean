/- The walk of BoundGrows. -/
import Derived.Test.YtplbglcdmimdoaaDoorBoundAwake
namespace Go.Proofs.YtplbglcdmimdoaaDoor
open Go.RowKit
set_option linter.unusedVariables false
set_option linter.unusedSimpArgs false

theorem most_val {n k : Nat} (hn : n ≤ 1099511627777) (hk : k ≤ 1099511627777) : mostN n k = 8 * k + (16 * sqN n + 16) := by
  have h := sq_le n (by omega)
  rw [mostN_eq]
  unfold prodN sumN
  omega
theorem placed_val {n : Nat} (hn : n ≤ 1099511627777) : placedN n = n * (32 * sqN n) + 32 ∧ n * (32 * sqN n) ≤ 1099511627777 * 56448 := by
  have h := sq_le n (by omega)
  have h2 : n * (32 * sqN n) ≤ 1099511627777 * 56448 := Nat.mul_le_mul hn (by omega)
  rw [placedN_eq]
  unfold prodN sumN
  omega
theorem placed_step {n : Nat} (hn : n ≤ 1099511627776) : placedN n + 32 ≤ placedN (n + 1) := by
  obtain ⟨h1, _⟩ := placed_val (n := n) (by omega)
  obtain ⟨h2, _⟩ := placed_val (n := n + 1) (by omega)
  have h3 := sq_mono (show n ≤ n + 1 by omega) (by omega)
  have h4 := sq_le (n + 1) (by omega)
  have h5 : n * (32 * sqN n) ≤ n * (32 * sqN (n + 1)) := Nat.mul_le_mul_left n (by omega)
  rw [h1, h2, Nat.add_mul, Nat.one_mul]
  omega
theorem placed_mono {m n : Nat} (h : m ≤ n) (hn : n ≤ 1099511627776) : placedN m ≤ placedN n := by
  obtain ⟨h1, _⟩ := placed_val (n := n) (by omega)
  obtain ⟨h2, _⟩ := placed_val (n := m) (by omega)
  have h3 := sq_mono h (by omega)
  have h4 : m * (32 * sqN m) ≤ n * (32 * sqN n) := Nat.mul_le_mul h (by omega)
  omega
set_option maxRecDepth 100000 in
set_option maxHeartbeats 4000000 in
theorem BoundGrows_walk (a b : Int) (ha : 0 ≤ a) (hb : 0 ≤ b) (w : World) (ht : Blanks w) : Calls Tryd.prog 5 #[.int .u64 a, .int .u64 b] w fun e w' => e = .returned (.bool true) ∧ Below w.heap.size w w' := by
  obtain ⟨n, hn, hn2⟩ : ∃ n : Nat, a % 1099511627776 = n ∧ n < 1099511627776 := ⟨(a % 1099511627776).toNat, by omega, by omega⟩
  obtain ⟨k, hk, hk2⟩ : ∃ k : Nat, b % 1099511627776 = k ∧ k < 1099511627776 := ⟨(b % 1099511627776).toNat, by omega, by omega⟩
  have HT := Lib.hid ht
  have HN := Lib.hid hn
  have HK := Lib.hid hk
  clear ht hn hk
  have V1 := Lib.hid (most_val (n := n) (k := k) (by omega) (by omega))
  have V2 := Lib.hid (most_val (n := n + 1) (k := k) (by omega) (by omega))
  have V3 := Lib.hid (most_val (n := n) (k := k + 1) (by omega) (by omega))
  have Q1 := Lib.hid (sq_mono (show n ≤ n + 1 by omega) (by omega))
  have P1 := Lib.hid (placed_step (n := n) (by omega))
  have T1 := Lib.hid (sq_le n (by omega))
  have T2 := Lib.hid (sq_le (n + 1) (by omega))
  have U1 := Lib.hid (placed_val (n := n) (by omega)).2
  have U2 := Lib.hid (placed_val (n := n) (by omega)).1
  go_enter Tryd.func5, Tryd.ntmps5
  go_wp2_with fail
  rw [HN.out, HK.out]
  refine (most_nat (n + 1) k w (by omega) (by omega)).mono ?_
  rintro e w1 ⟨rfl, rfl⟩
  go_wp2_with fail
  refine (most_nat n k w (by omega) (by omega)).mono ?_
  rintro e w1 ⟨rfl, rfl⟩
  have m1 : mostN n k ≤ mostN (n + 1) k := by have := V1.out; have := V2.out; have := Q1.out; omega
  have m2 : mostN n (k + 1) = mostN n k + 8 := by have := V1.out; have := V3.out; omega
  have m3 : mostN n k ≤ 8796093100000 := by have := V1.out; have := T1.out; omega
  have M2 := Lib.hid m2
  clear m2
  generalize mostN (n + 1) k = A at m1 ⊢
  go_wp2_with fail
  refine (most_nat n (k + 1) w (by omega) (by omega)).mono ?_
  rw [M2.out]
  rintro e w1 ⟨rfl, rfl⟩
  go_wp2_with fail
  refine (most_nat n k w (by omega) (by omega)).mono ?_
  rintro e w1 ⟨rfl, rfl⟩
  generalize mostN n k = M at m1 m3 ⊢
  go_wp2_with fail
  refine (placed_nat (n + 1) w (by omega)).mono ?_
  rintro e w1 ⟨rfl, rfl⟩
  go_wp2_with fail
  refine (placed_nat n w (by omega)).mono ?_
  rintro e w1 ⟨rfl, rfl⟩
  have p1 := P1.out
  have p2 : placedN n ≤ 62065232000000000 + 1000000000000 := by have := U1.out; have := U2.out; omega
  generalize placedN (n + 1) = PB at p1 ⊢
  generalize placedN n = PA at p1 p2 ⊢
  clear P1 U1 U2 Q1 T1 T2 V1 V2 V3 M2
  have M00 := Lib.hid (fun w => by have h := most_nat 0 0 w (by omega) (by omega); rw [closed29.1] at h; exact h)
  rcases Nat.lt_or_ge k n with h | h
  · have hmin : min (n : Int) (k : Int) = (k : Nat) := by omega
    have hmax : max (n : Int) (k : Int) = (n : Nat) := by omega
    have HMI := Lib.hid hmin
    have HMA := Lib.hid hmax
    have g1 : mostN k 0 ≤ mostN n 0 := by
      rw [most_val (by omega) (by omega), most_val (by omega) (by omega)]
      have := sq_mono (show k ≤ n by omega) (by omega)
      omega
    have g2 := placed_mono (show k ≤ n by omega) (by omega)
    have G := Lib.hid (And.intro g1 g2)
    clear g1 g2 hmin hmax
    go_wp2_with fail
    rw [HMI.out]
    refine (most_nat k 0 w (by omega) (by omega)).mono ?_
    rintro e w1 ⟨rfl, rfl⟩
    go_wp2_with fail
    rw [HMA.out]
    refine (most_nat n 0 w (by omega) (by omega)).mono ?_
    rintro e w1 ⟨rfl, rfl⟩
    have g1 := G.out.1
    generalize mostN k 0 = X1 at g1 ⊢
    generalize mostN n 0 = X2 at g1 ⊢
    go_wp2_with fail
    refine (placed_nat k w (by omega)).mono ?_
    rintro e w1 ⟨rfl, rfl⟩
    go_wp2_with fail
    rw [HMA.out]
    refine (placed_nat n w (by omega)).mono ?_
    rintro e w1 ⟨rfl, rfl⟩
    have g2 := G.out.2
    generalize placedN k = Y1 at g2 ⊢
    generalize placedN n = Y2 at g2 ⊢
    clear G
    go_wp2_with fail
    refine (most_neg _ _ w (by omega) (by omega)).mono ?_
    rintro e w1 ⟨rfl, rfl⟩
    go_wp2_with fail
    refine (M00.out w).mono ?_
    rintro e w1 ⟨rfl, rfl⟩
    go_wp2_with fail
    refine (placed_neg _ w (by omega)).mono ?_
    rintro e w1 ⟨rfl, rfl⟩
    go_wp2_with fail
    refine (awake29_any w HT.out).mono ?_
    rintro e w1 ⟨rfl, hb⟩
    have HB := Lib.hid hb
    clear hb
    go_wp2
    go_ret
    exact ⟨rfl, HB.out⟩
  · have hmin : min (n : Int) (k : Int) = (n : Nat) := by omega
    have hmax : max (n : Int) (k : Int) = (k : Nat) := by omega
    have HMI := Lib.hid hmin
    have HMA := Lib.hid hmax
    have g1 : mostN n 0 ≤ mostN k 0 := by
      rw [most_val (by omega) (by omega), most_val (by omega) (by omega)]
      have := sq_mono (show n ≤ k by omega) (by omega)
      omega
    have g2 := placed_mono (show n ≤ k by omega) (by omega)
    have G := Lib.hid (And.intro g1 g2)
    clear g1 g2 hmin hmax
    go_wp2_with fail
    rw [HMI.out]
    refine (most_nat n 0 w (by omega) (by omega)).mono ?_
    rintro e w1 ⟨rfl, rfl⟩
    go_wp2_with fail
    rw [HMA.out]
    refine (most_nat k 0 w (by omega) (by omega)).mono ?_
    rintro e w1 ⟨rfl, rfl⟩
    have g1 := G.out.1
    generalize mostN n 0 = X1 at g1 ⊢
    generalize mostN k 0 = X2 at g1 ⊢
    go_wp2_with fail
    refine (placed_nat n w (by omega)).mono ?_
    rintro e w1 ⟨rfl, rfl⟩
    go_wp2_with fail
    rw [HMA.out]
    refine (placed_nat k w (by omega)).mono ?_
    rintro e w1 ⟨rfl, rfl⟩
    have g2 := G.out.2
    generalize placedN n = Y1 at g2 ⊢
    generalize placedN k = Y2 at g2 ⊢
    clear G
    go_wp2_with fail
    refine (most_neg _ _ w (by omega) (by omega)).mono ?_
    rintro e w1 ⟨rfl, rfl⟩
    go_wp2_with fail
    refine (M00.out w).mono ?_
    rintro e w1 ⟨rfl, rfl⟩
    go_wp2_with fail
    refine (placed_neg _ w (by omega)).mono ?_
    rintro e w1 ⟨rfl, rfl⟩
    go_wp2_with fail
    refine (awake29_any w HT.out).mono ?_
    rintro e w1 ⟨rfl, hb⟩
    have HB := Lib.hid hb
    clear hb
    go_wp2
    go_ret
    exact ⟨rfl, HB.out⟩
end Go.Proofs.YtplbglcdmimdoaaDoor
