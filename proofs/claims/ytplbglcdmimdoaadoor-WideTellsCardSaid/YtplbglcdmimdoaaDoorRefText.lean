/- The document's digits. -/
import Derived.Test.YtplbglcdmimdoaaDoorRefMul
import Derived.Test.YtplbglcdmimdoaaDoorDigits
namespace Go.Proofs.YtplbglcdmimdoaaDoor
open Go.RowKit
open Go.Lib (decDigits nDigits decDigits_one decDigits_length nDigits_small nDigits_big)
set_option linter.unusedVariables false
set_option linter.unusedSimpArgs false

theorem nDig39 {a : Nat} (h : a < wTop) : nDigits a ≤ 39 := by
  have h1 := nDigits_mono (a := a) (b := 340282366920938463463374607431768211455) (by unfold wTop at h; omega)
  have h2 := Lib.nDigits_unique 38 340282366920938463463374607431768211455 (by decide) (by decide)
  omega
def strLen : Value → Nat
  | .string s => s.size
  | _ => 0
theorem strLen_mk (l : List UInt8) : strLen (.string ⟨l.toArray⟩) = l.length := by simp [strLen, ByteArray.size]
set_option maxRecDepth 100000 in
set_option maxHeartbeats 4000000 in
theorem rtext_any (a : Nat) (ha : a < wTop) (w : World) : Calls Tryd.prog 34 #[wideV a] w fun e w' => e = .returned (.string ⟨(textL a).toArray⟩) ∧ Below w.heap.size w w' := by
  obtain ⟨pa, qa, ea⟩ := words_of a
  have BA := Lib.hid (fun w => by have h := bits_any a ha w; rw [ea] at h; exact h)
  have HA := Lib.hid ha
  rw [ea]
  clear ha ea
  go_enter Tryd.func34, Tryd.ntmps34
  go_wp2_with fail
  refine (BA.out _).mono ?_
  rintro e w1 ⟨g, rfl, hI, hg, hb⟩
  have HB := Lib.hid (bl ((Below.refl w.heap.size w).alloc (Nat.le_refl _) (.cells #[.int .u64 pa, .int .u64 qa] 24)) (by simp) hb)
  have HI := Lib.hid hI
  have HG := Lib.hid (show w.heap.size ≤ g by simp at hg; omega)
  clear hI hg hb BA
  go_wp2_with fail
  go_loopw [4, 5] (fun sv av wr => ∃ (v : Nat) (sfx : List UInt8) (ag : Bool), sv = .string ⟨sfx.toArray⟩ ∧ av = .bool ag ∧ sfx.length ≤ nDigits a ∧ Hid (v < wTop) ∧ Hid (BlkI wr g (bitsN 128 v)) ∧ Hid (ag = true → decDigits a = decDigits v ++ sfx) ∧ Hid (ag = false → decDigits a = sfx) ∧ Hid (Below w.heap.size w wr)) (fun sv _ _ => nDigits a - strLen sv)
  case atStart => exact ⟨a, [], true, rfl, rfl, by simp, HA, HI, Lib.hid (fun _ => by simp), Lib.hid (fun h => by cases h), HB⟩
  case round =>
    clear HI HB
    obtain ⟨v, sfx, ag, rfl, rfl, hlen, HV, HI, HT, HF, HB⟩ := hrel
    cases ag
    · have HE := Lib.hid (HF.out rfl)
      clear HT HF
      go_wp2
      go_ret
      exact ⟨by unfold textL; rw [HE.out]; rfl, HB.out⟩
    · have HE := Lib.hid (HT.out rfl)
      clear HT HF
      go_wp2_with fail
      obtain ⟨wo, rfl⟩ : ∃ wo : World, wo = wr := ⟨_, rfl⟩
      go_loopw [5, 6, 7] (fun av rv iv wq => ∃ (j r : Nat) (ag : Bool), j ≤ 128 ∧ r ≤ 9 ∧ iv = .int .i64 ((j : Int) - 1) ∧ rv = .int .i64 (r : Int) ∧ av = .bool ag ∧ Hid (r = v / 2 ^ j % 10) ∧ Hid (ag = decide (0 < v / 2 ^ j / 10)) ∧ Hid (BlkI wq g (tenL v j)) ∧ Hid (Below w.heap.size w wq)) (fun _ _ i _ => ((intOf i) + 1).toNat)
      case atStart =>
        obtain ⟨t1, t2, t3⟩ := tenL_start v HV.out
        exact ⟨128, 0, false, Nat.le_refl _, by omega, rfl, rfl, rfl, Lib.hid t2.symm, Lib.hid (by rw [t3]; rfl), Lib.hid (by rw [t1]; exact HI.out), HB⟩
      case round =>
        clear HI HB
        obtain ⟨j, r, ag, hj, hr, rfl, rfl, rfl, HR, HAG, HI, HB⟩ := hrel
        cases j with
        | zero =>
          obtain ⟨dg, hdg⟩ : ∃ dg, UInt8.ofNat (48 + r) = dg := ⟨_, rfl⟩
          have hxr : (⟨#[48, 49, 50, 51, 52, 53, 54, 55, 56, 57]⟩ : ByteArray).extract r (r + 1) = ⟨[dg].toArray⟩ := by
            rw [← hdg]
            have key : ∀ r, r < 10 → (⟨#[48, 49, 50, 51, 52, 53, 54, 55, 56, 57]⟩ : ByteArray).extract r (r + 1) = ⟨[UInt8.ofNat (48 + r)].toArray⟩ := by decide
            exact key r (by omega)
          have HDG := Lib.hid hdg
          have hl39 : sfx.length ≤ 39 := by have := nDig39 HA.out; omega
          have hcat : (⟨#[dg]⟩ : ByteArray) ++ ⟨sfx.toArray⟩ = ⟨(dg :: sfx).toArray⟩ := by
            apply ByteArray.ext
            simp
          have HC := Lib.hid hcat
          have R0 := Lib.hid (show r = v % 10 by have := HR.out; rwa [Nat.pow_zero, Nat.div_one] at this)
          have A0 := Lib.hid (show ag = decide (0 < v / 10) by have := HAG.out; rwa [Nat.pow_zero, Nat.div_one] at this)
          clear hdg hcat
          go_wp2_with fail
          go_roundw
          case rel =>
            have hval : v < 10 → decDigits v = [dg] := fun h => by rw [decDigits_one h, ← HDG.out, R0.out, Nat.mod_eq_of_lt h]
            have hbig : ¬ v < 10 → decDigits v = decDigits (v / 10) ++ [dg] := fun h => by rw [dec_big h, ← HDG.out, R0.out]
            have hlen2 : (dg :: sfx).length ≤ nDigits a := by
              rw [← decDigits_length a, HE.out, List.length_append, List.length_cons]
              have := decDigits_length v
              have := Lib.nDigits_pos v
              omega
            refine ⟨v / 10, dg :: sfx, ag, by rw [HC.out], rfl, hlen2, Lib.hid (Nat.lt_of_le_of_lt (Nat.div_le_self _ _) HV.out), Lib.hid (by rw [← tenL_end]; exact HI.out), Lib.hid (fun h => ?_), Lib.hid (fun h => ?_), HB⟩
            · have := A0.out
              rw [h] at this
              have hv := of_decide_eq_true this.symm
              rw [HE.out, hbig (by omega), List.append_assoc]
              rfl
            · have := A0.out
              rw [h] at this
              have hv := of_decide_eq_false this.symm
              rw [HE.out, hval (by omega)]
              rfl
          case measure =>
            rw [HC.out, strLen_mk, strLen_mk, List.length_cons]
            have h1 := HE.out
            have h2 := congrArg List.length h1
            rw [List.length_append, decDigits_length, decDigits_length] at h2
            have := Lib.nDigits_pos v
            omega
        | succ i =>
          have e0 : ((i + 1 : Nat) : Int) - 1 = (i : Int) := by omega
          rw [e0]
          clear e0
          obtain ⟨t1, t2, t3, t4⟩ := tenL_step v i (by omega)
          rw [← HR.out] at t2 t3 t4
          obtain ⟨x, hx⟩ : ∃ x, v / 2 ^ i % 2 = x := ⟨_, rfl⟩
          rw [hx] at t1 t2 t3 t4
          have hx1 : x ≤ 1 := by omega
          obtain ⟨t, ht⟩ : ∃ t, r * 2 + x = t := ⟨_, rfl⟩
          obtain ⟨d, hd⟩ : ∃ d, t / 10 = d := ⟨_, rfl⟩
          obtain ⟨r', hr'⟩ : ∃ d, t % 10 = d := ⟨_, rfl⟩
          rw [ht, hd] at t2 t4
          rw [ht, hr'] at t3
          have c1 := HI.out.cell i x t1
          have f1 := Blk.frozen HI.out i
          have e1 : (r : Int) * 2 + (x : Int) = (t : Int) := by omega
          have e2 : (t : Int).tdiv 10 = (d : Int) := by rw [Int.tdiv_eq_ediv_of_nonneg (by omega)]; omega
          have e3 : (t : Int).tmod 10 = (r' : Int) := by rw [Int.tmod_eq_emod_of_nonneg (by omega)]; omega
          have e2' : (t : Int) / 10 = (d : Int) := by omega
          have e3' : (t : Int) % 10 = (r' : Int) := by omega
          have hd9 : d ≤ 9 := by omega
          have hr9 : r' ≤ 9 := by omega
          have T2 := Lib.hid t2
          have T3 := Lib.hid t3
          have T4 := Lib.hid t4
          clear t1 t2 t3 t4 hx ht hd hr' hr hx1
          cases ag
          · by_cases hdz : d = 0
            · subst hdz
              go_wp2_with fail
              go_roundw
              case rel => exact ⟨i, r', false, by omega, hr9, rfl, rfl, rfl, Lib.hid T3.out, Lib.hid (by
                have h1 := T4.out
                have h2 := HAG.out
                simp at h2
                symm
                simp
                omega), Lib.hid (by rw [← T2.out]; exact HI.out.set i 0), Lib.hid (HB.out.setCell (p := ⟨g, i, none⟩) HG.out _)⟩
              case measure => simp [intOf]
            · have hd0 : 0 < d := by omega
              go_wp2_with fail
              refine ⟨⟨i, r', true, by omega, hr9, rfl, rfl, by simp [hd0], Lib.hid T3.out, Lib.hid (by
                have h1 := T4.out
                symm
                simp
                omega), Lib.hid (by rw [← T2.out]; exact HI.out.set i d), Lib.hid (HB.out.setCell (p := ⟨g, i, none⟩) HG.out _)⟩, by simp [intOf]⟩
          · go_wp2_with fail
            go_roundw
            case rel => exact ⟨i, r', true, by omega, hr9, rfl, rfl, rfl, Lib.hid T3.out, Lib.hid (by
              have h1 := T4.out
              have h2 := HAG.out
              symm at h2
              simp at h2
              symm
              simp
              omega), Lib.hid (by rw [← T2.out]; exact HI.out.set i d), Lib.hid (HB.out.setCell (p := ⟨g, i, none⟩) HG.out _)⟩
            case measure => simp [intOf]
end Go.Proofs.YtplbglcdmimdoaaDoor
