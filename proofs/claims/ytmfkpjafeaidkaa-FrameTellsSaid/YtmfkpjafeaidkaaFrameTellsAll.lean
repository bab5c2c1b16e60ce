/- FrameTells, whatever numbers. -/
import Derived.Test.YtmfkpjafeaidkaaFrameTellsLaw
namespace Go.Proofs.Ytmfkpjafeaidkaa
open Go.RowKit
set_option linter.unusedVariables false
set_option linter.unusedSimpArgs false

set_option maxRecDepth 100000 in
set_option maxHeartbeats 1000000 in
theorem FrameTells_big (n lo hi leaf : Int) (w : World) (h1 : 150 < n) (h2 : n ≤ 17179869184) : Calls Try.prog 3 #[.int .i64 n, .int .i64 lo, .int .i64 hi, .int .i64 leaf] w fun e w' => e = .returned (.bool true) ∧ Below w.heap.size w w' := by
  go_enter Try.func3, Try.ntmps3
  go_wp2_with fail
  refine (awake6_any _).mono ?_
  rintro e w1 ⟨rfl, hb⟩
  have HB := Lib.hid hb
  clear hb
  go_wp2
  go_ret
  exact ⟨rfl, HB.out⟩
set_option maxRecDepth 100000 in
set_option maxHeartbeats 1000000 in
theorem FrameTells_bad (n lo hi leaf : Int) (w : World) (h : n < 0 ∨ 17179869184 < n) : Calls Try.prog 3 #[.int .i64 n, .int .i64 lo, .int .i64 hi, .int .i64 leaf] w fun e w' => e = .returned (.bool true) ∧ Below w.heap.size w w' := by
  have H := Lib.hid h
  rcases h with h | h
  all_goals
    go_enter Try.func3, Try.ntmps3
    go_wp2_with fail
    refine (frameNew_bad n w H.out).mono ?_
    rintro e w1 ⟨rfl, rfl⟩
    go_wp2_with fail
    refine (awake6_any _).mono ?_
    rintro e w1 ⟨rfl, hb⟩
    have HB := Lib.hid hb
    clear hb
    go_wp2
    go_ret
    exact ⟨rfl, HB.out⟩
theorem FrameTells_walk (n lo hi leaf : Int) (w : World) : Calls Try.prog 3 #[.int .i64 n, .int .i64 lo, .int .i64 hi, .int .i64 leaf] w fun e w' => e = .returned (.bool true) ∧ Below w.heap.size w w' := by
  by_cases h : n < 0 ∨ 17179869184 < n
  · exact FrameTells_bad n lo hi leaf w h
  · by_cases h2 : 150 < n
    · exact FrameTells_big n lo hi leaf w h2 (by omega)
    · obtain ⟨m, rfl⟩ : ∃ m : Nat, n = m := ⟨n.toNat, by omega⟩
      exact FrameTells_small m lo hi leaf w (by omega)
end Go.Proofs.Ytmfkpjafeaidkaa
