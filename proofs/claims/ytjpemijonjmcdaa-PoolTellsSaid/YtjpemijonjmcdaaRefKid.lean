/- The contracts of gridironref05.Kid, free and May. -/
import Derived.Test.YtjpemijonjmcdaaLowInts
namespace Go.Proofs.Ytjpemijonjmcdaa
open Go.RowKit
set_option linter.unusedVariables false

/-- Is a place somebody's kid? -/
def kidB (ns : List Nd) (p : Int) : Bool := ns.any fun n => n.l == p || n.r == p
theorem kidB_snoc (ns : List Nd) (n : Nd) (p : Int) : kidB (ns ++ [n]) p = (kidB ns p || (n.l == p || n.r == p)) := by unfold kidB; simp
theorem kidB_yes (ns : List Nd) (p : Int) (k : Nat) (h : k < ns.length) (hk : ((ns.getD k Nd.zero).l == p || (ns.getD k Nd.zero).r == p) = true) : kidB ns p = true := by
  unfold kidB
  rw [List.any_eq_true]
  exact ⟨ns.getD k Nd.zero, by rw [List.getD_eq_getElem?_getD, List.getElem?_eq_getElem h]; simp, hk⟩
/-- A place of a node that is nobody's kid. -/
def freeB (ns : List Nd) (p : Int) : Bool := decide (0 ≤ p ∧ p < ns.length) && !kidB ns p
def rmayB (ns : List Nd) (n : Nd) : Bool := if n.k = 1 then decide (n.l = -1 ∧ n.r = -1) else if n.k ≠ 2 ∨ n.l = n.r then false else (n.l == -1 || freeB ns n.l) && (n.r == -1 || freeB ns n.r)

set_option maxRecDepth 100000 in
set_option maxHeartbeats 1000000 in
theorem kid_any (ns : List Nd) (ao : Option Addr) (cap : Nat) (p : Int) (w : World) (hrow : NdRow w ao ns) (hlen : ns.length ≤ 2513169434907) :
    Calls Try.prog 54 #[.slice ao ns.length cap, .int .i64 p] w fun e w' => e = .returned (.bool (kidB ns p)) ∧ w = w' := by
  go_enter Try.func54, Try.ntmps54
  go_wp2_with fail
  go_loop [5] (fun i => ∃ k : Nat, k ≤ ns.length ∧ i = .int .i64 k ∧ Hid (kidB (ns.take k) p = false)) (fun i => ns.length - (intOf i).toNat)
  case atStart => exact ⟨0, Nat.zero_le _, rfl, Lib.hid rfl⟩
  case round =>
    obtain ⟨k, hk, rfl, HK⟩ := hrel
    by_cases hlt : k < ns.length
    · obtain ⟨b, off, rfl, _, c1, c2, _⟩ := hrow.node k hlt
      have HS := Lib.hid (kidB_snoc (ns.take k) (ns.getD k Nd.zero) p)
      have HT := Lib.hid (take_snoc' ns k hlt)
      have HY := Lib.hid (kidB_yes ns p k hlt)
      clear hrow
      obtain ⟨n, hn⟩ : ∃ n, ns.getD k Nd.zero = n := ⟨_, rfl⟩
      rw [hn] at c1 c2 HS HT HY
      clear hn
      cases e1 : (n.l == p)
      · cases e2 : (n.r == p)
        · have HE := Lib.hid (show (n.l == p || n.r == p) = false by rw [e1, e2]; rfl)
          go_wp2
          go_round
          case rel => exact ⟨k + 1, by omega, by go_num, Lib.hid (by rw [HT.out, HS.out, HK.out, HE.out]; rfl)⟩
          case measure => simp [intOf]; omega
        · have HE := Lib.hid (show (n.l == p || n.r == p) = true by rw [e1, e2]; rfl)
          go_wp2
          go_ret
          exact ⟨by rw [HY.out HE.out]; rfl, rfl⟩
      · have HE := Lib.hid (show (n.l == p || n.r == p) = true by rw [e1]; rfl)
        go_wp2
        go_ret
        exact ⟨by rw [HY.out HE.out]; rfl, rfl⟩
    · have HE := Lib.hid (show k = ns.length by omega)
      clear hrow
      go_wp2
      go_ret
      refine ⟨?_, rfl⟩
      have h := HK.out
      rw [HE.out, List.take_length] at h
      rw [h]; rfl

set_option maxRecDepth 100000 in
set_option maxHeartbeats 1000000 in
theorem free_any (ns : List Nd) (ao : Option Addr) (cap : Nat) (p : Int) (w : World) (hrow : NdRow w ao ns) (hlen : ns.length ≤ 2513169434907) :
    Calls Try.prog 57 #[.slice ao ns.length cap, .int .i64 p] w fun e w' => e = .returned (.bool (freeB ns p)) ∧ w = w' := by
  by_cases h0 : p < 0
  · have HF := Lib.hid (show freeB ns p = false by unfold freeB; rw [decide_eq_false (by omega)]; rfl)
    go_enter Try.func57, Try.ntmps57
    go_wp2
    go_ret
    exact ⟨by rw [HF.out]; rfl, rfl⟩
  · by_cases h1 : p < ns.length
    · have HF := Lib.hid (show freeB ns p = !kidB ns p by unfold freeB; rw [decide_eq_true (by omega)]; rfl)
      have h0' : 0 ≤ p := by omega
      go_enter Try.func57, Try.ntmps57
      go_wp2_with (go_at_call 54; refine (kid_any ns ao cap p _ hrow hlen).mono ?_; rintro e w' ⟨rfl, rfl⟩)
      go_ret
      exact ⟨by rw [HF.out]; rfl, rfl⟩
    · have HF := Lib.hid (show freeB ns p = false by unfold freeB; rw [decide_eq_false (by omega)]; rfl)
      have h0' : 0 ≤ p := by omega
      have h1' : (ns.length : Int) ≤ p := by omega
      clear h0 h1
      go_enter Try.func57, Try.ntmps57
      go_wp2
      go_ret
      exact ⟨by rw [HF.out]; rfl, rfl⟩

set_option maxRecDepth 100000 in
set_option maxHeartbeats 1000000 in
theorem rmay_any (ns : List Nd) (n : Nd) (ao : Option Addr) (cap : Nat) (w : World) (hrow : NdRow w ao ns) (hlen : ns.length ≤ 2513169434907) :
    Calls Try.prog 53 #[.slice ao ns.length cap, n.val] w fun e w' => e = .returned (.bool (rmayB ns n)) ∧ Below w.heap.size w w' := by
  have hbel : ∀ o, Below w.heap.size w (w.alloc o) := fun o => (Below.refl _ _).alloc (Nat.le_refl _) o
  have hN := fun o => hrow.later (hbel o)
  have HB := Lib.hid hbel
  clear hbel hrow
  by_cases k1 : n.k = 1
  · have b1 : (n.k == 1) = true := by simpa using k1
    cases e1 : (n.l == -1)
    · have HR := Lib.hid (show rmayB ns n = false by unfold rmayB; rw [if_pos k1]; simp at e1; simp [e1])
      clear k1
      go_enter Try.func53, Try.ntmps53
      go_wp2
      go_ret
      exact ⟨by rw [HR.out]; rfl, HB.out _⟩
    · have HR := Lib.hid (show rmayB ns n = (n.r == -1) by unfold rmayB; rw [if_pos k1]; simp at e1; rw [Bool.eq_iff_iff]; simp [e1])
      clear k1
      go_enter Try.func53, Try.ntmps53
      go_wp2
      go_ret
      exact ⟨by rw [HR.out]; rfl, HB.out _⟩
  · have b1 : (n.k == 1) = false := by simpa using k1
    by_cases k2 : n.k = 2
    · have b2 : (n.k != 2) = false := by simpa using k2
      cases e0 : (n.l == n.r)
      · have HR := Lib.hid (show rmayB ns n = ((n.l == -1 || freeB ns n.l) && (n.r == -1 || freeB ns n.r)) by unfold rmayB; simp at e0; rw [if_neg k1, if_neg (by simp [k2, e0])])
        clear k1 k2
        cases e1 : (n.l == -1) <;> cases e2 : (n.r == -1) <;> cases f1 : freeB ns n.l
        all_goals
          rw [e1, e2, f1] at HR
          go_enter Try.func53, Try.ntmps53
          go_wp2_with (go_at_call 57; refine (free_any ns ao cap _ _ (hN _) hlen).mono ?_; rintro e w' ⟨rfl, rfl⟩)
          go_ret
          exact ⟨by rw [HR.out]; rfl, HB.out _⟩
      · have HR := Lib.hid (show rmayB ns n = false by unfold rmayB; simp at e0; rw [if_neg k1, if_pos (.inr e0)])
        clear k1 k2
        go_enter Try.func53, Try.ntmps53
        go_wp2
        go_ret
        exact ⟨by rw [HR.out]; rfl, HB.out _⟩
    · have b2 : (n.k != 2) = true := by simpa using k2
      have HR := Lib.hid (show rmayB ns n = false by unfold rmayB; rw [if_neg k1, if_pos (.inl k2)])
      clear k1 k2
      go_enter Try.func53, Try.ntmps53
      go_wp2
      go_ret
      exact ⟨by rw [HR.out]; rfl, HB.out _⟩
end Go.Proofs.Ytjpemijonjmcdaa
