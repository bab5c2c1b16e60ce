/- The examples of the chapter: awake tells true. -/
import Derived.Test.YthfkknckhaopcaaItemRef
namespace Go.Proofs.Ythfkknckhaopcaa
open Go.RowKit
attribute [local go_sem] cellB inB stabB byI firstI cmpI meetB overB

set_option maxHeartbeats 4000000 in
theorem awake_true  (w : World) :
    Calls Try.prog 10 #[] w fun e w' => e = .returned (.bool true) ∧ Below w.heap.size w w' := by
  go_enter Try.func10, Try.ntmps10
  go_wp2_with fail
  refine since_wp (fun s => ?_)
  repeat (first | (rw [rounds_succ]; go_wp2_with (first | (go_at_call 21; refine (since_of (Cell_any _ _ _ _ _ _ _) _).mono ?_; rintro e w' ⟨s, rfl, rfl⟩) | (go_at_call 14; refine (since_of (ByX_any _ _ _ _ _ _) _).mono ?_; rintro e w' ⟨s, rfl, rfl⟩) | (go_at_call 15; refine (since_of (ByY_any _ _ _ _ _ _) _).mono ?_; rintro e w' ⟨s, rfl, rfl⟩) | (go_at_call 9; refine (since_of (Over_any _ _ _ _ _ _) _).mono ?_; rintro e w' ⟨s, rfl, rfl⟩) | (go_at_call 12; refine (since_of (Stab_any _ _ _ _) _).mono ?_; rintro e w' ⟨s, rfl, rfl⟩) | (go_at_call 11; refine (since_of (Meet_any _ _ _ _ _) _).mono ?_; rintro e w' ⟨s, rfl, rfl⟩) | (go_at_call 19; refine (since_of (In_any _ _ _ _ _ _ _ _) _).mono ?_; rintro e w' ⟨s, rfl, rfl⟩))) | (refine wp_loop_rounds 6 ?_))
  go_ret
  refine ⟨rfl, ?_⟩
  (refine since_below ?_ _ ?_ <;> (repeat' first | exact Below.refl _ _ | assumption | (refine Below.alloc ?_ ?_ _) | simp | omega))

end Go.Proofs.Ythfkknckhaopcaa
