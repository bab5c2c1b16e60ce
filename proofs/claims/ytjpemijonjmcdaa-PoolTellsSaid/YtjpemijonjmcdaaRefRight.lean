/- The contracts of gridironref05.Right and gridironref07.Errors. -/
import Derived.Test.YtjpemijonjmcdaaRightEq
import Derived.Deep.QuietTactic
import Derived.Deep.DeepCutAuto
namespace Go.Proofs.Ytjpemijonjmcdaa
open Go.RowKit
set_option linter.unusedVariables false

theorem since_quiet2 {P : Program} {f : FuncId} {args : Array Value} {v : Value} {W : World} {s : Since W} (h : Calls P f args s.w fun e w' => e = .returned v ∧ Below s.w.heap.size s.w w') :
    Calls P f args s.w fun e w' => e = .returned v ∧ ∃ s' : Since W, w' = s'.w :=
  h.mono fun _ w' ⟨he, hb⟩ => ⟨he, ⟨w', bl s.h s.h.size hb⟩, rfl⟩

theorem NdRow.take {w : World} {ao : Option Addr} {ns : List Nd} (h : NdRow w ao ns) (k : Nat) : NdRow w ao (ns.take k) := by
  rcases h with h | ⟨b, off, e, hc⟩
  · subst h; exact .inl (by simp)
  · refine .inr ⟨b, off, e, fun i hi j hj => ?_⟩
    have h1 : i < k := by simp at hi; omega
    have h2 : i < ns.length := by simp at hi; omega
    rw [hc i h2 j hj, List.getD_eq_getElem?_getD, List.getD_eq_getElem?_getD, List.getElem?_take_of_lt h1]

set_option maxRecDepth 100000 in
set_option maxHeartbeats 1000000 in
theorem rright_any (ns : List Nd) (ao : Option Addr) (cap : Nat) (w : World) (hrow : NdRow w ao ns) (hlen : ns.length ≤ 2513169434907) (hcap : ns.length ≤ cap) :
    Calls Try.prog 35 #[.slice ao ns.length cap] w fun e w' => e = .returned (.bool (rightL [] ns)) ∧ Below w.heap.size w w' := by
  go_enter Try.func35, Try.ntmps35
  go_wp2_with fail
  go_loopw [3] (fun i wr => ∃ k : Nat, k ≤ ns.length ∧ i = .int .i64 k ∧ Hid (rightL [] (ns.take k) = true) ∧ ∃ s : Since w, wr = s.w)
    (fun i _ => ns.length - (intOf i).toNat)
  case atStart => exact ⟨0, Nat.zero_le _, rfl, Lib.hid rfl, ⟨w, Below.refl _ _⟩, rfl⟩
  case round =>
    obtain ⟨k, hk, rfl, HRT, s, rfl⟩ := hrel
    by_cases hlt : k < ns.length
    · obtain ⟨b, off, rfl, c0, c1, c2, c3, c4, c5, c6⟩ := hrow.node k hlt
      have hN := hrow.take k
      have hno := rightL_no ns k hlt
      have hyes := rightL_snoc [] (ns.take k) (ns.getD k Nd.zero)
      rw [← take_snoc' ns k hlt, HRT.out, Bool.true_and] at hyes
      have hm := may_eq HRT.out (ns.getD k Nd.zero)
      rw [hm] at hno hyes
      have hks : (ns.take k).length = k := by simp; omega
      have hb : b < w.heap.size := World.block_lt_of_cell? _ _ c0
      obtain ⟨n, hn⟩ : ∃ n, ns.getD k Nd.zero = n := ⟨_, rfl⟩
      rw [hn] at c0 c1 c2 c3 c4 c5 c6 hno hyes
      obtain ⟨xs, hxs⟩ : ∃ xs, ns.take k = xs := ⟨_, rfl⟩
      rw [hxs] at hN hno hyes hks
      subst hks
      have HN := Lib.hid hN
      have HNO := Lib.hid hno
      have HYES := Lib.hid hyes
      clear hN hno hyes hm hxs hn hrow HRT
      cases hm : rmayB xs n
      · go_wp2_with fail
        refine wp_region_since (by kernel_rfl) (by kernel_rfl) ?_
        repeat (go_big_quiet_step ((first | (go_at_call 53; exact since_quiet2 (rmay_any xs n _ _ _ (HN.out.later (Since.h _)) (by omega))))))
        refine wpQuiet_nil ?_
        rintro _ ⟨s, rfl⟩
        rw [hm]
        have HM := Lib.hid hm
        clear hm
        go_wp2
        go_ret
        exact ⟨by rw [HNO.out HM.out]; rfl, s.h⟩
      · go_wp2_with fail
        refine wp_region_since (by kernel_rfl) (by kernel_rfl) ?_
        repeat (go_big_quiet_step ((first | (go_at_call 53; exact since_quiet2 (rmay_any xs n _ _ _ (HN.out.later (Since.h _)) (by omega))))))
        refine wpQuiet_nil ?_
        rintro _ ⟨s, rfl⟩
        rw [hm]
        have HM := Lib.hid hm
        clear hm
        go_wp2
        go_roundw
        case rel => exact ⟨xs.length + 1, by omega, by go_num, Lib.hid (HYES.out.trans HM.out), _, rfl⟩
        case measure => simp [intOf]; omega
    · have HE := Lib.hid (show k = ns.length by omega)
      clear hrow
      go_wp2
      go_ret
      refine ⟨?_, s.h⟩
      have h := HRT.out
      rw [HE.out, List.take_length] at h
      rw [h]; rfl
end Go.Proofs.Ytjpemijonjmcdaa
