/- rank.Log. -/
import Derived.Test.YtmfkpjafeaidkaaTree
import Derived.Test.YtmfkpjafeaidkaaBitsLen
import Derived.Lib.BitFns
namespace Go.Proofs.Ytmfkpjafeaidkaa
open Go.RowKit
set_option linter.unusedVariables false
set_option linter.unusedSimpArgs false

/-- How often 1 is doubled. -/
def logN (n : Nat) : Nat := if n < 2 then 0 else Lib.bitLen (n - 1)
theorem logN_one {n : Nat} (h : n < 2) : logN n = 0 := if_pos h
theorem logN_two {n : Nat} (h : 2 ≤ n) (h2 : n ≤ 2000000) : logN n = 1 + logN (lhalf n) := by
  unfold logN
  rw [if_neg (by omega), Lib.bitLen_half (n - 1) (by omega) (by omega), show (n - 1) / 2 = lhalf n - 1 by unfold lhalf; omega]
  by_cases e : lhalf n < 2
  · rw [if_pos e, show lhalf n - 1 = 0 by omega]; rfl
  · rw [if_neg e]
theorem logN_mono : ∀ n, n ≤ 2000000 → ∀ m, m ≤ n → logN m ≤ logN n := by
  intro n
  induction n using Nat.strongRecOn with
  | _ n ih =>
    intro hn m hm
    by_cases e : m < 2
    · rw [logN_one e]; omega
    · rw [logN_two (by omega) (by omega), logN_two (show 2 ≤ n by omega) hn]
      have := ih (lhalf n) (lhalf_lt (by omega)).1 (by unfold lhalf; omega) (lhalf m) (by unfold lhalf; omega)
      omega
theorem logN_right {n : Nat} (h : 2 ≤ n) (h2 : n ≤ 2000000) : 1 + logN (n / 2) ≤ logN n := by
  rw [logN_two h h2]
  have := logN_mono (lhalf n) (by unfold lhalf; omega) (n / 2) (by unfold lhalf; omega)
  omega
theorem logN_le (n : Nat) (h : n ≤ 65535) : logN n ≤ 16 := by
  unfold logN
  split
  · omega
  · exact Lib.bitLen_le (n - 1) 16 (by omega) (by omega)

set_option maxRecDepth 100000 in
set_option maxHeartbeats 1000000 in
theorem log_any (n : Nat) (w : World) (h : n ≤ 65535) : Calls Try.prog 25 #[.int .i64 n] w fun e w' => e = .returned (.int .i64 (logN n)) ∧ w = w' := by
  have HL1 := Lib.hid (fun h => logN_one (n := n) h)
  have HL2 := Lib.hid (fun h : ¬ n < 2 => show logN n = Lib.bitLen (n - 1) from if_neg h)
  rcases Nat.lt_or_ge n 2 with h2 | h2
  · go_enter Try.func25, Try.ntmps25
    go_wp2_with fail
    go_ret
    exact ⟨by rw [HL1.out h2]; rfl, rfl⟩
  · go_enter Try.func25, Try.ntmps25
    go_wp2_with fail
    refine (bitsLen_any (n - 1) w (by omega) (by omega)).mono ?_
    rintro e w1 ⟨rfl, rfl⟩
    go_wp2
    go_ret
    exact ⟨by rw [HL2.out (by omega)]; rfl, rfl⟩
end Go.Proofs.Ytmfkpjafeaidkaa
