/- The contract of pool.Right. -/
import Derived.Test.YtmfkpjafeaidkaaPoolSpec
namespace Go.Proofs.Ytmfkpjafeaidkaa
open Go.RowKit
set_option linter.unusedVariables false

set_option maxRecDepth 100000 in
set_option maxHeartbeats 1000000 in
theorem right_any (ns : List Nd) (ao : Option Addr) (cap : Nat) (w : World) (hrow : NdRow w ao ns) (hlen : ns.length ≤ 2513169434907) :
    Calls Try.prog 27 #[.slice ao ns.length cap] w fun e w' => e = .returned (.bool (rightL [] ns)) ∧ Below w.heap.size w w' := by
  go_enter Try.func27, Try.ntmps27
  go_wp2
  go_loopw [3, 5, 8] (fun kd _ i wr => ∃ k : Nat, k ≤ ns.length ∧ i = .int .i64 k ∧ (∃ ka kc, kd = .slice ka k kc ∧ wr.ownsRow w.heap.size 4 1 (.slice ka k kc) k ((ksFrom [] (ns.take k)).map .bool)) ∧ rightL [] (ns.take k) = true ∧ Below w.heap.size w wr)
    (fun _ _ i _ => ns.length - (intOf i).toNat)
  case atStart => exact ⟨0, Nat.zero_le _, rfl, ⟨none, 0, rfl, World.ownsRow_nil _ _ _ _⟩, rfl, Below.refl _ _⟩
  case round =>
    obtain ⟨k, hk, rfl, ⟨ka, kc, rfl, hown⟩, hrt, hB⟩ := hrel
    by_cases hlt : k < ns.length
    · have hr := hrow.later hB
      rcases hr with h | ⟨b, off, rfl, hc⟩
      · subst h; simp at hlt
      · have hc' := hc k hlt
        have hno := rightL_no ns k hlt
        have hyes := rightL_snoc [] (ns.take k) (ns.getD k Nd.zero)
        rw [← take_snoc' ns k hlt, hrt, Bool.true_and] at hyes
        have hks : (ksFrom [] (ns.take k)).length = k := by rw [ksFrom_len]; simp; omega
        have hkn := ksFrom_snoc [] (ns.take k) (ns.getD k Nd.zero)
        rw [← take_snoc' ns k hlt] at hkn
        obtain ⟨n, hn⟩ : ∃ n, ns.getD k Nd.zero = n := ⟨_, rfl⟩
        rw [hn] at hc' hno hyes hkn
        have c0 : wr.cell? ⟨b, off + k * 7, none⟩ = some (.int .u8 n.k) := hc' 0 (by omega)
        have c1 : wr.cell? ⟨b, off + k * 7 + 1, none⟩ = some (.int .i64 n.l) := hc' 1 (by omega)
        have c2 : wr.cell? ⟨b, off + k * 7 + 2, none⟩ = some (.int .i64 n.r) := hc' 2 (by omega)
        have c3 : wr.cell? ⟨b, off + k * 7 + 3, none⟩ = some (.int .i64 n.f) := hc' 3 (by omega)
        have c4 : wr.cell? ⟨b, off + k * 7 + 4, none⟩ = some (.int .i64 n.t) := hc' 4 (by omega)
        have c5 : wr.cell? ⟨b, off + k * 7 + 5, none⟩ = some (.int .i64 n.a) := hc' 5 (by omega)
        have c6 : wr.cell? ⟨b, off + k * 7 + 6, none⟩ = some (.int .i64 n.i) := hc' 6 (by omega)
        have HOW := Lib.hid hown
        have HRT := Lib.hid hrt
        have HNO := Lib.hid hno
        have HYES := Lib.hid hyes
        have HKN := Lib.hid hkn
        generalize hK : ksFrom [] (ns.take k) = ks at *
        have HK := Lib.hid hK
        clear hown hrt hno hyes hkn hK hc hc' hn hrow
        subst hks
        go_wp2_with fail
        have hBa := hB.alloc hB.size (.cells #[.int .u8 n.k, .int .i64 n.l, .int .i64 n.r, .int .i64 n.f, .int .i64 n.t, .int .i64 n.a, .int .i64 n.i] 49)
        refine (may_any n.k n.l n.r n.f n.t n.a n.i ks ka kc _ ((row_of_owned HOW.out).later ((Below.refl _ _).alloc (Nat.le_refl _) _)) (by unfold maxLen; omega)).mono ?_
        rintro e w1 ⟨rfl, hb1⟩
        have hB1 := bl hBa hBa.size hb1
        cases hm : mayB n.k n.l n.r ks
        · have HB1 := Lib.hid hB1
          clear hB1 hBa hb1 hB c0 c1 c2 c3 c4 c5 c6
          go_wp2
          go_ret
          exact ⟨by rw [HNO.out hm]; rfl, HB1.out⟩
        · obtain ⟨hc1, hf1, hz1⟩ := bfacts hb1
          have hown1 : w1.ownsRow w.heap.size 4 1 (.slice ka ks.length kc) ks.length (ks.map .bool) := (HOW.out.alloc _).kept (grownBy_of_below hb1 none) (by
            cases h : (Value.slice ka ks.length kc).ownBlock
            · exact .inl rfl
            · exact .inr (by simp))
          have HB1 := Lib.hid hB1
          have HM := Lib.hid hm
          have HO1 := Lib.hid hown1
          clear hB1 hBa hb1 hB c0 c1 c2 c3 c4 c5 c6 hown1
          go_wp2_with fail
          clear hc1 hf1 hz1
          refine (put_any n.k n.l n.r n.f n.t n.a n.i ks ka kc w.heap.size w1 HO1.out (may_kids HM.out) (by omega) HB1.out.size).mono ?_
          rintro e w2 ⟨v', rfl, ho2, hg2, hl2⟩
          have hsh : ∃ g c, v' = .slice (some ⟨g, 0, none⟩) (ks.length + 1) c := by
            rcases ho2.2 with ⟨_, h⟩ | ⟨g, c, _, h, _⟩
            · omega
            · exact ⟨g, c, h⟩
          obtain ⟨g, c, rfl⟩ := hsh
          have hB2 : Below w.heap.size w w2 := HB1.out.grown hg2 HB1.out.size (fun r hr => (HO1.out.lt r hr).1)
          have HB2 := Lib.hid hB2
          have HO2 := Lib.hid ho2
          clear hB2 ho2 hg2 hl2
          go_wp2
          go_roundw
          case rel =>
            refine ⟨ks.length + 1, by omega, by go_num, ⟨_, _, rfl, ?_⟩, by rw [HYES.out]; exact HM.out, HB2.out⟩
            have h := HO2.out
            rw [show markL ks (kidsL n.l n.r) ++ [false] = stepK ks n from rfl, ← HKN.out] at h
            exact h
          case measure => simp [intOf]; omega
    · go_wp2
      go_ret
      have hkk : k = ns.length := by omega
      subst hkk
      rw [List.take_length] at hrt
      exact ⟨by rw [hrt]; rfl, hB⟩
end Go.Proofs.Ytmfkpjafeaidkaa
