/- The contract of (*pool.Pool).Roots. -/
import Derived.Test.YtjpemijonjmcdaaPoolPutObj
namespace Go.Proofs.Ytjpemijonjmcdaa
open Go.RowKit
set_option linter.unusedVariables false

theorem rootsL_snoc (ks : List Bool) (b : Bool) : rootsL (ks ++ [b]) = rootsL ks ++ (if b then [] else [(ks.length : Int)]) := by
  unfold rootsL
  rw [List.length_append, List.length_singleton, rangeI_succ, List.filter_append]
  congr 1
  · apply List.filter_congr
    intro x hx
    obtain ⟨h0, h1⟩ := mem_rangeI.1 hx
    rw [List.getD_eq_getElem?_getD, List.getD_eq_getElem?_getD, List.getElem?_append_left (by omega)]
  · have : (ks ++ [b]).getD ((ks.length : Int)).toNat true = b := by
      rw [List.getD_eq_getElem?_getD, List.getElem?_append_right (by simp)]; simp
    rw [List.filter_cons, List.filter_nil, this]
    cases b <;> rfl
theorem rootsL_len (ks : List Bool) : (rootsL ks).length ≤ ks.length := by
  have := List.length_filter_le (fun x : Int => !(ks.getD x.toNat true)) (rangeI ks.length)
  unfold rootsL
  unfold rangeI at *
  simp at this ⊢
  exact this
theorem roots_take (ks : List Bool) (k : Nat) (h : k < ks.length) : rootsL (ks.take (k + 1)) = rootsL (ks.take k) ++ (if ks.getD k false then [] else [(k : Int)]) := by
  rw [List.take_succ_eq_append_getElem h, rootsL_snoc]
  rw [List.length_take, Nat.min_eq_left (by omega), List.getD_eq_getElem?_getD, List.getElem?_eq_getElem h]; rfl

set_option maxRecDepth 100000 in
set_option maxHeartbeats 2000000 in
theorem roots_any {base pb nc kc : Nat} {most : Int} {ns : List Nd} {na ka : Option Addr} (w : World) (h : PoolIn base pb most ns na ka nc kc w) :
    Calls Try.prog 29 #[.pointer (some ⟨pb, 0, none⟩)] w (IntsP (rootsL (ksFrom [] ns)) w) := by
  obtain ⟨c0, c1, c2, c3, _⟩ := h.cells
  have hl := h.len
  have hkl : (ksFrom [] ns).length = ns.length := by rw [ksFrom_len]; simp
  have HK := Lib.hid (row_of_owned h.kid)
  obtain ⟨ks, hks⟩ : ∃ ks, ksFrom [] ns = ks := ⟨_, rfl⟩
  rw [hks] at hkl HK ⊢
  have HKL := Lib.hid hkl
  obtain ⟨i0, hi, hzz, hz1, hz2⟩ := info_parts infoInt
  clear h hks hkl
  go_enter Try.func29, Try.ntmps29
  go_wp2_with fail
  go_loopw [3, 13] (fun v i wr => ∃ (k : Nat) (a : Option Addr) (c m : Nat), k ≤ ns.length ∧ i = .int .i64 k ∧ v = .slice a m c ∧ m ≤ k ∧ Hid (m = (rootsL (ks.take k)).length) ∧ Hid (wr.ownsRow w.heap.size 3 1 (.slice a m c) m ((rootsL (ks.take k)).map (.int .i64))) ∧ Hid (Below w.heap.size w wr)) (fun _ i _ => ns.length - (intOf i).toNat)
  case atStart => exact ⟨0, none, 0, 0, Nat.zero_le _, rfl, rfl, Nat.le_refl _, Lib.hid rfl, Lib.hid (World.ownsRow_nil _ _ _ _), Lib.hid (Below.refl _ _)⟩
  case round =>
    obtain ⟨k, a, c, m, hk, rfl, rfl, hmk, HM, HO, HB⟩ := hrel
    by_cases hlt : k < ns.length
    · have hkk : k < ks.length := by have := HKL.out; omega
      obtain ⟨b1, o1, rfl, cx, _⟩ := (HK.out.later HB.out).at k (by simpa using hkk)
      rw [List.getElem_map] at cx
      have hrt := roots_take ks k hkk
      rw [show ks.getD k false = ks[k] by rw [List.getD_eq_getElem?_getD, List.getElem?_eq_getElem hkk]; rfl] at hrt
      obtain ⟨x, hx⟩ : ∃ x, ks[k] = x := ⟨_, rfl⟩
      rw [hx] at cx hrt
      have HRT := Lib.hid hrt
      clear hx hrt
      cases x
      · go_wp2_with (at_builtin; refine wpList_append_any _ rfl (.tmp 20) (.tmp 22) 25 rfl w.heap.size 3 i0 (.int .i64 0) 1 8 Try.underlying25 hi hzz hz1 hz2 rfl (by decide) _ _ _ rfl (HO.out.alloc _) (wr.heap.size + 1) (some ⟨wr.heap.size, 0, none⟩) 1 1 [.int .i64 (k : Int)] rfl (reads_cells wr #[.int .i64 (k : Int)] _ 1 1 rfl) (by intro u hu; simp at hu; subst hu; rfl) (by unfold maxLen; omega) (by omega) (Nat.le_trans HB.out.size (by simp)) ?_)
        intro v2 w2 ho2 hg2 _
        obtain ⟨a2, k2, rfl⟩ := own_shape ho2
        have HB2 := Lib.hid ((HB.out.alloc HB.out.size (.cells #[.int .i64 (k : Int)] 3)).grown hg2 (Nat.le_trans HB.out.size (by simp)) (fun r hr => (HO.out.lt r hr).1))
        have HO2 := Lib.hid ho2
        clear ho2 hg2
        go_wp2_with fail
        go_roundw
        case rel =>
          refine ⟨k + 1, a2, k2, m + 1, by omega, by go_num, rfl, by omega, Lib.hid ?_, Lib.hid ?_, HB2⟩
          · rw [HRT.out, HM.out]; simp
          · rw [HRT.out]; simpa using HO2.out
        case measure => simp [intOf]; omega
      · go_wp2_with fail
        go_roundw
        case rel =>
          refine ⟨k + 1, a, c, m, by omega, by go_num, rfl, by omega, Lib.hid ?_, Lib.hid ?_, HB⟩
          · rw [HRT.out, HM.out]; simp
          · rw [HRT.out]; simpa using HO.out
        case measure => simp [intOf]; omega
    · have HE := Lib.hid (show ks.take k = ks from List.take_of_length_le (by have := HKL.out; omega))
      clear hk
      go_wp2
      go_ret
      have hm := HM.out
      rw [HE.out] at hm
      subst hm
      refine ⟨a, c, rfl, ?_, HB.out⟩
      have h := HO.out
      rw [HE.out] at h
      exact h
end Go.Proofs.Ytjpemijonjmcdaa
