/- What the frame's laws ask: Pick, ranged, made. -/
import Derived.Test.YtmfkpjafeaidkaaFrameAwake
import Derived.Test.YtmfkpjafeaidkaaCanonFar
namespace Go.Proofs.Ytmfkpjafeaidkaa
open Go.RowKit
set_option linter.unusedVariables false
set_option linter.unusedSimpArgs false

set_option maxRecDepth 100000 in
set_option maxHeartbeats 1000000 in
theorem pick_any (x : Int) (n : Nat) (w : World) (h1 : 1 ≤ n) (h2 : n ≤ 2000000) : Calls Try.prog 26 #[.int .i64 x, .int .i64 n] w fun e w' => ∃ k : Nat, e = .returned (.int .i64 k) ∧ k < n ∧ w = w' := by
  have ht1 : x.tmod n < n := Int.tmod_lt_of_pos x (by omega)
  have ht2 : -(n : Int) < x.tmod n := by
    have h := Int.tmod_lt_of_pos (-x) (show (0 : Int) < n by omega)
    rw [Int.neg_tmod] at h
    omega
  go_enter Try.func26, Try.ntmps26
  go_wp2
  go_ret
  have e1 := Int.emod_nonneg (x.tmod n + n) (show (n : Int) ≠ 0 by omega)
  have e2 := Int.emod_lt_of_pos (x.tmod n + n) (show (0 : Int) < n by omega)
  exact ⟨((x.tmod n + n) % n).toNat, by rw [Int.toNat_of_nonneg e1]; rfl, by omega, rfl⟩
set_option maxRecDepth 100000 in
set_option maxHeartbeats 1000000 in
theorem ranged_any (n : Nat) (a b : Int) (w : World) (h2 : n ≤ 1000000) : Calls Try.prog 22 #[.int .i64 n, .int .i64 a, .int .i64 b] w fun e w' => ∃ lo hi : Nat, e = .returned (.tuple #[.int .i64 lo, .int .i64 hi]) ∧ lo ≤ hi ∧ hi ≤ n ∧ w = w' := by
  go_enter Try.func22, Try.ntmps22
  go_wp2_with fail
  refine (pick_any a (n + 1) w (by omega) (by omega)).mono ?_
  rintro e w1 ⟨x, rfl, hx, rfl⟩
  go_wp2_with fail
  refine (pick_any b (n + 1) w (by omega) (by omega)).mono ?_
  rintro e w1 ⟨y, rfl, hy, rfl⟩
  rcases Nat.lt_trichotomy x y with h | rfl | h
  · go_wp2
    refine bodyPost_ret (v := .tuple #[.int .i64 x, .int .i64 y]) ?_ rfl ⟨x, y, rfl, by omega, by omega, rfl⟩
    simp [results, Try.results22, go_sem]
  · go_wp2
    refine bodyPost_ret (v := .tuple #[.int .i64 x, .int .i64 x]) ?_ rfl ⟨x, x, rfl, by omega, by omega, rfl⟩
    simp [results, Try.results22, go_sem]
  · go_wp2
    refine bodyPost_ret (v := .tuple #[.int .i64 y, .int .i64 x]) ?_ rfl ⟨y, x, rfl, by omega, by omega, rfl⟩
    simp [results, Try.results22, go_sem]
set_option maxRecDepth 100000 in
set_option maxHeartbeats 1000000 in
theorem made_any (n : Nat) (w : World) (hn : n ≤ 2000000) : Calls Try.prog 21 #[.int .i64 n] w fun e w' => ∃ a c, e = .returned (.tuple #[.pointer (some ⟨w.heap.size, 0, none⟩), .slice a (frameN n).length c, .bool true]) ∧ FrameIn w.heap.size n w' ∧
    w'.ownsRow w.heap.size 49 7 (.slice a (frameN n).length c) (frameN n).length (flatN (frameN n)) ∧ (∀ g, (Value.slice a (frameN n).length c).ownBlock = some g → FrameAway w.heap.size n g w') ∧ Below w.heap.size w w' := by
  have HF0 := Lib.hid (newFrame_in n w (by omega))
  go_enter Try.func21, Try.ntmps21
  go_wp2_with fail
  refine (frameNew_any n w (by omega)).mono ?_
  rintro e w1 ⟨rfl, rfl⟩
  have HB1 := Lib.hid ((Below.refl w.heap.size w).alloc (Nat.le_refl _) (newFrame n))
  have hs1 : (w.alloc (newFrame n)).heap.size = w.heap.size + 1 := by simp
  generalize w.alloc (newFrame n) = W1 at HF0 HB1 hs1 ⊢
  obtain ⟨fb, hfb⟩ : ∃ fb, w.heap.size = fb := ⟨_, rfl⟩
  have HN := Lib.hid (frameN_len n)
  rw [hfb] at HF0 HB1 hs1 ⊢
  go_wp2_with fail
  refine (frameNodes_far fb n W1 HF0.out).mono ?_
  rintro e w2 ⟨na, nc, rfl, ho, hf, hc, hoff, hown⟩
  have HO := Lib.hid ho
  have HF := Lib.hid hf
  have HW := Lib.hid hown
  have HB2 := Lib.hid (ChgOnly.below_of HB1.out (by omega) hc (Nat.le_refl _))
  clear ho hf hc hoff hown
  have hN : ((frameN n).length = 0 ∧ n = 0) ∨ ((frameN n).length = 2 * n - 1 ∧ 1 ≤ n) := by have := HN.out; omega
  obtain ⟨N, hNN⟩ : ∃ N, (frameN n).length = N := ⟨_, rfl⟩
  have HNN := Lib.hid hNN
  rw [hNN] at hN ⊢
  clear hNN
  rcases hN with ⟨rfl, rfl⟩ | ⟨rfl, h1⟩
  · go_wp2_with fail
    refine (leaves_yes fb _ w2 HF.out).mono ?_
    rintro e w3 ⟨rfl, rfl⟩
    go_wp2
    refine bodyPost_ret (v := .tuple #[.pointer (some ⟨fb, 0, none⟩), .slice na 0 nc, .bool true]) (by simp [results, Try.results21, go_sem]) rfl ?_
    rw [hfb]
    exact ⟨na, nc, by rw [HNN.out], HF.out, ownsRow_mono HO.out (by omega), HW.out, HB2.out⟩
  · go_wp2_with fail
    refine (leaves_yes fb _ w2 HF.out).mono ?_
    rintro e w3 ⟨rfl, rfl⟩
    go_wp2
    refine bodyPost_ret (v := .tuple #[.pointer (some ⟨fb, 0, none⟩), .slice na (2 * n - 1 : Nat) nc, .bool true]) (by simp [results, Try.results21, go_sem]) rfl ?_
    rw [hfb]
    exact ⟨na, nc, by rw [HNN.out], HF.out, ownsRow_mono HO.out (by omega), HW.out, HB2.out⟩
end Go.Proofs.Ytmfkpjafeaidkaa
