/- The contracts of the document's high and Height (layer 5). -/
import Derived.Test.YtjpemijonjmcdaaRefHigh
namespace Go.Proofs.Ytjpemijonjmcdaa
open Go.RowKit
set_option linter.unusedVariables false
set_option linter.unusedSimpArgs false

theorem hgt_bd {ns : List Nd} (h : rightL [] ns = true) (k : Nat) (hk : k < ns.length) : 0 ≤ hgt ns k ∧ hgt ns k ≤ k := by
  have h1 := hsL_bd (right_kidsOk h) ns.length (Nat.le_refl _) k hk
  rw [List.take_length] at h1
  exact h1

set_option maxRecDepth 100000 in
set_option maxHeartbeats 4000000 in
theorem rhigh_any (ns : List Nd) (ao : Option Addr) (cap : Nat) (hr : rightL [] ns = true) (hlen : ns.length ≤ 2513169434907) : ∀ (m : Nat) (x : Int), x.toNat < m → 0 ≤ x → x < ns.length → ∀ w : World, NdRow w ao ns →
    Calls Try.prog 52 #[.slice ao ns.length cap, .int .i64 x] w fun e w' => e = .returned (.int .i64 (hgt ns x.toNat)) ∧ w = w' := by
  intro m
  induction m with
  | zero => intro x h; omega
  | succ m ih =>
    intro x hm h0 hx w hrow
    obtain ⟨b, off, rfl, c0, c1, c2, _⟩ := hrow.node x.toNat (by omega)
    have hbd : ∀ y : Int, 0 ≤ y → y < ns.length → 0 ≤ hgt ns y.toNat ∧ hgt ns y.toNat ≤ 2513169434907 := fun y h1 h2 => by
      have := hgt_bd hr y.toNat (by omega)
      omega
    have hk := right_kidsOk hr x h0 hx
    rw [show nd ns x = ns.getD x.toNat Nd.zero from rfl] at hk
    have hleaf := hgt_leaf hr x.toNat (by omega)
    have hinner := hgt_inner hr x.toNat (by omega)
    obtain ⟨n, hn⟩ : ∃ n, ns.getD x.toNat Nd.zero = n := ⟨_, rfl⟩
    rw [hn] at c0 c1 c2 hk hleaf hinner
    clear hn
    by_cases h1 : n.k = 1
    · have HE := Lib.hid (hleaf h1)
      have hb : (n.k == 1) = true := by rw [h1]; rfl
      clear hinner hleaf hk h1 ih hrow hbd
      go_enter Try.func52, Try.ntmps52
      go_wp2
      go_ret
      exact ⟨by rw [HE.out]; rfl, rfl⟩
    · have hinn := hinner h1
      have hb : (n.k == 1) = false := by rw [beq_eq_false_iff_ne]; exact h1
      have HN := Lib.hid hrow
      clear hinner hleaf hrow h1
      obtain ⟨hkl, hkr⟩ := hk
      by_cases hl : 0 ≤ n.l
      · have IHL := Lib.hid (ih n.l (by omega) hl (by omega) w HN.out)
        have hla := hbd n.l hl (by omega)
        rw [if_pos hl] at hinn
        obtain ⟨A, hA⟩ : ∃ A, hgt ns n.l.toNat = A := ⟨_, rfl⟩
        rw [hA] at hinn IHL hla
        obtain ⟨ha0, ha1⟩ := hla
        by_cases hr0 : 0 ≤ n.r
        · have IHR := Lib.hid (ih n.r (by omega) hr0 (by omega) w HN.out)
          have hra := hbd n.r hr0 (by omega)
          rw [if_pos hr0] at hinn
          obtain ⟨B, hB⟩ : ∃ B, hgt ns n.r.toNat = B := ⟨_, rfl⟩
          rw [hB] at hinn IHR hra
          obtain ⟨hb0, hb1⟩ := hra
          clear ih hbd hA hB hkl hkr
          by_cases hle : B ≤ A
          · have HE := Lib.hid (hinn.trans (show max A B + 1 = A + 1 by omega))
            clear hinn
            go_enter Try.func52, Try.ntmps52
            go_wp2_with fail
            refine IHL.out.mono ?_
            rintro e w1 ⟨rfl, rfl⟩
            go_wp2_with fail
            refine IHR.out.mono ?_
            rintro e w2 ⟨rfl, rfl⟩
            go_wp2
            go_ret
            exact ⟨by rw [HE.out]; rfl, rfl⟩
          · have hle' : A < B := by omega
            have HE := Lib.hid (hinn.trans (show max A B + 1 = B + 1 by omega))
            clear hinn hle
            go_enter Try.func52, Try.ntmps52
            go_wp2_with fail
            refine IHL.out.mono ?_
            rintro e w1 ⟨rfl, rfl⟩
            go_wp2_with fail
            refine IHR.out.mono ?_
            rintro e w2 ⟨rfl, rfl⟩
            go_wp2
            go_ret
            exact ⟨by rw [HE.out]; rfl, rfl⟩
        · rw [if_neg hr0] at hinn
          have hr1 : n.r < 0 := by omega
          have HE := Lib.hid (hinn.trans (show max A 0 + 1 = A + 1 by omega))
          clear hinn ih hbd hA hkl hkr hr0
          go_enter Try.func52, Try.ntmps52
          go_wp2_with fail
          refine IHL.out.mono ?_
          rintro e w1 ⟨rfl, rfl⟩
          go_wp2
          go_ret
          exact ⟨by rw [HE.out]; rfl, rfl⟩
      · rw [if_neg hl] at hinn
        have hl1 : n.l < 0 := by omega
        by_cases hr0 : 0 ≤ n.r
        · have IHR := Lib.hid (ih n.r (by omega) hr0 (by omega) w HN.out)
          have hra := hbd n.r hr0 (by omega)
          rw [if_pos hr0] at hinn
          obtain ⟨B, hB⟩ : ∃ B, hgt ns n.r.toNat = B := ⟨_, rfl⟩
          rw [hB] at hinn IHR hra
          obtain ⟨hb0, hb1⟩ := hra
          clear ih hbd hB hkl hkr hl
          by_cases hz : B ≤ 0
          · have HE := Lib.hid (hinn.trans (show max 0 B + 1 = 1 by omega))
            have HZ := Lib.hid (show B = 0 by omega)
            clear hinn hz hb0 hb1
            rw [HZ.out] at IHR
            go_enter Try.func52, Try.ntmps52
            go_wp2_with fail
            refine IHR.out.mono ?_
            rintro e w2 ⟨rfl, rfl⟩
            go_wp2
            go_ret
            exact ⟨by rw [HE.out]; rfl, rfl⟩
          · have hz' : 0 < B := by omega
            have HE := Lib.hid (hinn.trans (show max 0 B + 1 = B + 1 by omega))
            clear hinn hz
            go_enter Try.func52, Try.ntmps52
            go_wp2_with fail
            refine IHR.out.mono ?_
            rintro e w2 ⟨rfl, rfl⟩
            go_wp2
            go_ret
            exact ⟨by rw [HE.out]; rfl, rfl⟩
        · rw [if_neg hr0] at hinn
          have hr1 : n.r < 0 := by omega
          have HE := Lib.hid (hinn.trans (show max 0 0 + 1 = (1 : Int) by omega))
          clear hinn ih hbd hkl hkr hr0 hl
          go_enter Try.func52, Try.ntmps52
          go_wp2
          go_ret
          exact ⟨by rw [HE.out]; rfl, rfl⟩

set_option maxRecDepth 100000 in
set_option maxHeartbeats 1000000 in
theorem rheight_any (ns : List Nd) (ao : Option Addr) (cap : Nat) (i : Int) (w : World) (hrow : NdRow w ao ns) (hlen : ns.length ≤ 2513169434907) (hcap : ns.length ≤ cap) :
    Calls Try.prog 34 #[.slice ao ns.length cap, .int .i64 i] w fun e w' => e = .returned (.tuple #[.int .i64 (hRes ns i), .int .i64 (walkErr ns i)]) ∧ Below w.heap.size w w' := by
  have HN := Lib.hid hrow
  clear hrow
  cases hr : rightL [] ns with
  | false =>
    have HE := Lib.hid (show walkErr ns i = 50 ∧ hRes ns i = 0 by
      have h : walkErr ns i = 50 := by unfold walkErr; rw [hr]; rfl
      exact ⟨h, by unfold hRes; rw [h]; rfl⟩)
    have HR := Lib.hid hr
    clear hr
    go_enter Try.func34, Try.ntmps34
    go_wp2_with fail
    refine (rright_any ns ao cap _ HN.out hlen hcap).mono ?_
    rw [HR.out]
    rintro e w1 ⟨rfl, hb1⟩
    have HB1 := Lib.hid hb1
    clear hb1
    go_wp2
    go_ret2
    exact ⟨by rw [HE.out.1, HE.out.2]; rfl, HB1.out⟩
  | true =>
    have HR := Lib.hid hr
    clear hr
    by_cases h0 : i < 0
    · have HE := Lib.hid (show walkErr ns i = 2 ∧ hRes ns i = 0 by
        have h : walkErr ns i = 2 := by unfold walkErr; rw [if_pos HR.out, if_neg (by omega)]
        exact ⟨h, by unfold hRes; rw [h]; rfl⟩)
      go_enter Try.func34, Try.ntmps34
      go_wp2_with fail
      refine (rright_any ns ao cap _ HN.out hlen hcap).mono ?_
      rw [HR.out]
      rintro e w1 ⟨rfl, hb1⟩
      have HB1 := Lib.hid hb1
      clear hb1
      go_wp2
      go_ret2
      exact ⟨by rw [HE.out.1, HE.out.2]; rfl, HB1.out⟩
    · have h0' : 0 ≤ i := by omega
      clear h0
      by_cases h1 : i < ns.length
      · have HE := Lib.hid (show walkErr ns i = 0 ∧ hRes ns i = hgt ns i.toNat by
          have h : walkErr ns i = 0 := by unfold walkErr; rw [if_pos HR.out, if_pos (by omega)]
          exact ⟨h, by unfold hRes; rw [if_pos h]; rfl⟩)
        have HH := Lib.hid (rhigh_any ns ao cap HR.out hlen (i.toNat + 1) i (by omega) h0' h1)
        go_enter Try.func34, Try.ntmps34
        go_wp2_with fail
        refine (rright_any ns ao cap _ HN.out hlen hcap).mono ?_
        rw [HR.out]
        rintro e w1 ⟨rfl, hb1⟩
        have HB1 := Lib.hid hb1
        clear hb1
        go_wp2_with fail
        refine (HH.out _ (HN.out.later HB1.out)).mono ?_
        rintro e w2 ⟨rfl, rfl⟩
        go_wp2
        go_ret2
        exact ⟨by rw [HE.out.1, HE.out.2]; rfl, HB1.out⟩
      · have HE := Lib.hid (show walkErr ns i = 2 ∧ hRes ns i = 0 by
          have h : walkErr ns i = 2 := by unfold walkErr; rw [if_pos HR.out, if_neg (by omega)]
          exact ⟨h, by unfold hRes; rw [h]; rfl⟩)
        have h1' : (ns.length : Int) ≤ i := by omega
        clear h1
        go_enter Try.func34, Try.ntmps34
        go_wp2_with fail
        refine (rright_any ns ao cap _ HN.out hlen hcap).mono ?_
        rw [HR.out]
        rintro e w1 ⟨rfl, hb1⟩
        have HB1 := Lib.hid hb1
        clear hb1
        go_wp2
        go_ret2
        exact ⟨by rw [HE.out.1, HE.out.2]; rfl, HB1.out⟩
end Go.Proofs.Ytjpemijonjmcdaa
