/- The document's bits: sum. -/
import Derived.Test.YtplbglcdmimdoaaDoorRefNumber
import Derived.Test.YtplbglcdmimdoaaDoorPieces
import Derived.IntWalk
namespace Go.Proofs.YtplbglcdmimdoaaDoor
open Go.RowKit
set_option linter.unusedVariables false
set_option linter.unusedSimpArgs false

/-- An own row of numbers lies in a block from its first cell on. -/
theorem row_of_own {w : World} {base n c : Nat} {A : Option Addr} {l : List Nat} (h : w.ownsRow base 3 1 (.slice A n c) n (ints l)) (hn : 0 < n) : ∃ g, A = some ⟨g, 0, none⟩ ∧ base ≤ g ∧ n ≤ c ∧ RowN w g l := by
  rcases h.2 with ⟨_, h2⟩ | ⟨g, cap, cur, h1, hg, hb, hc1, hc2, hsz, htk⟩
  · omega
  · simp only [Value.slice.injEq, true_and] at h1
    obtain ⟨rfl, rfl⟩ := h1
    refine ⟨g, rfl, hg, hc1, lt_of_heap hb, fun k x hx => ?_⟩
    have hk : (ints l)[k]? = some (.int .i64 (x : Int)) := by rw [ints_get, hx]; rfl
    have hkl : k < n * 1 := by
      have := (List.getElem?_eq_some_iff.1 hk).1
      have := h.1
      omega
    rw [← htk, List.getElem?_take, if_pos hkl, Array.getElem?_toList] at hk
    rw [cell_of_row w g k cur _ (0, 0) hb]
    exact hk
set_option maxRecDepth 100000 in
set_option maxHeartbeats 1000000 in
theorem sum_any (a b ga gb ca cb : Nat) (ha : a < 2 ^ 128) (hb : b < 2 ^ 128) (w : World) (hA : RowN w ga (bitsN 128 a)) (hB : RowN w gb (bitsN 128 b)) (hca : 128 ≤ ca) (hcb : 128 ≤ cb) :
    Calls Tryd.prog 51 #[.slice (some ⟨ga, 0, none⟩) 128 ca, .slice (some ⟨gb, 0, none⟩) 128 cb] w fun e w' =>
      ∃ g c, e = .returned (.slice (some ⟨g, 0, none⟩) 129 c) ∧ 129 ≤ c ∧ w.heap.size ≤ g ∧ RowN w' g (bitsN 129 (a + b)) ∧ Below w.heap.size w w' := by
  have RA := Lib.hid hA
  have RB := Lib.hid hB
  have HE := Lib.hid (sum_end a b ha hb)
  clear hA hB ha hb
  obtain ⟨i0, hi, hzz, hz1, hz2⟩ := info_parts infoInt01
  go_enter Tryd.func51, Tryd.ntmps51
  go_wp2_with fail
  go_loopw [5, 6, 7] (fun v cv iv wr => ∃ (k c cc : Nat) (A : Option Addr), k ≤ 128 ∧ cc ≤ 1 ∧ iv = .int .i64 (k : Int) ∧ cv = .int .i64 (cc : Int) ∧ v = .slice A k c ∧ Hid (cc = carryN a b k) ∧ Hid (wr.ownsRow w.heap.size 3 1 (.slice A k c) k (ints (bitsN k (a + b)))) ∧ Hid (Below w.heap.size w wr)) (fun _ _ i _ => 128 - (intOf i).toNat)
  case atStart => exact ⟨0, 0, 0, none, by omega, by omega, rfl, rfl, rfl, Lib.hid (by unfold carryN; simp [Nat.mod_one]), Lib.hid (World.ownsRow_nil _ _ _ _), Lib.hid (Below.refl _ _)⟩
  case round =>
    obtain ⟨k, c, cc, A, hk, hcc, rfl, rfl, rfl, HC, HO, HB⟩ := hrel
    rcases Nat.lt_or_ge k 128 with h | h
    · have c1 := ((RA.out.later HB.out).2 k (a / 2 ^ k % 2) (bitsN_get 128 a k h))
      have c2 := ((RB.out.later HB.out).2 k (b / 2 ^ k % 2) (bitsN_get 128 b k h))
      obtain ⟨st1, st2⟩ := carry_step a b k
      rw [← HC.out] at st1 st2
      obtain ⟨x, hx⟩ : ∃ x, a / 2 ^ k % 2 = x := ⟨_, rfl⟩
      obtain ⟨y, hy⟩ : ∃ y, b / 2 ^ k % 2 = y := ⟨_, rfl⟩
      rw [hx] at c1
      rw [hy] at c2
      rw [hx, hy] at st1 st2
      have hx2 : x ≤ 1 := by omega
      have hy2 : y ≤ 1 := by omega
      obtain ⟨t, ht⟩ : ∃ t, x + y + cc = t := ⟨_, rfl⟩
      obtain ⟨u, hu⟩ : ∃ u, x + y = u := ⟨_, rfl⟩
      rw [ht] at st1 st2
      have ht3 : t ≤ 3 := by omega
      have s1 : IntKind.i64.wrap ((x : Int) + y) = (u : Int) := by rw [IntWalk.i64_in _ (by omega)]; omega
      have s2 : IntKind.i64.wrap ((u : Int) + cc) = (t : Int) := by rw [IntWalk.i64_in _ (by omega)]; omega
      have S1 := Lib.hid st1
      have S2 := Lib.hid st2
      clear hx hy ht hu st1 st2
      obtain ⟨r, hr⟩ : ∃ r, t % 2 = r := ⟨_, rfl⟩
      obtain ⟨q, hq⟩ : ∃ q, t / 2 = q := ⟨_, rfl⟩
      have HRR := Lib.hid (show r = (a + b) / 2 ^ k % 2 by rw [← hr]; exact S1.out)
      have HQ := Lib.hid (show q = carryN a b (k + 1) by rw [← hq]; exact S2.out)
      have hq1 : q ≤ 1 := by omega
      have er : (t : Int).tmod 2 = (r : Int) := by rw [Int.tmod_eq_emod_of_nonneg (by omega)]; omega
      have eq : (t : Int).tdiv 2 = (q : Int) := by rw [Int.tdiv_eq_ediv_of_nonneg (by omega)]; omega
      have er' : (t : Int) % 2 = (r : Int) := by omega
      have eq' : (t : Int) / 2 = (q : Int) := by omega
      have HCC := Lib.hid hq1
      clear hr hq hx2 hy2 S1 S2
      go_wp2_with fail
      go_quiet (fail)
      have HO1 := Lib.hid (show (wr.drewN nq).ownsRow w.heap.size 3 1 (.slice A k c) k (ints (bitsN k (a + b))) from HO.out)
      have HB1 := Lib.hid (below_drewN' HB.out nq)
      generalize wr.drewN nq = W1 at HO1 HB1 ⊢
      clear HO HB
      go_wp2_with (at_builtin; refine wpList_append_any _ rfl (.tmp 26) (.tmp 29) 80 rfl w.heap.size 3 i0 (.int .i64 0) 1 8 Tryd.underlying80 hi hzz hz1 hz2 rfl (by decide) _ _ _ rfl (HO1.out.alloc _) (W1.heap.size + 1) (some ⟨W1.heap.size, 0, none⟩) 1 1 [.int .i64 (r : Int)] rfl (reads_cells W1 #[.int .i64 (r : Int)] _ 1 1 rfl) (by intro u hu; simp at hu; subst hu; rfl) (by unfold maxLen; omega) (by omega) (Nat.le_trans HB1.out.size (by simp)) ?_)
      intro v2 w2 ho2 hg2 _
      obtain ⟨a2, k2, rfl⟩ := own_shape ho2
      have HB2 := Lib.hid ((HB1.out.alloc HB1.out.size (.cells #[.int .i64 (r : Int)] 3)).grown hg2 (Nat.le_trans HB1.out.size (by simp)) (fun r hr => (HO1.out.lt r hr).1))
      have HO2 := Lib.hid ho2
      clear ho2 hg2
      go_wp2_with fail
      go_roundw
      case rel =>
        refine ⟨k + 1, k2, q, a2, by omega, HCC.out, rfl, rfl, rfl, HQ, Lib.hid ?_, HB2⟩
        rw [bitsN_snoc, ← HRR.out]
        have e : ints (bitsN k (a + b) ++ [r]) = ints (bitsN k (a + b)) ++ [.int .i64 (r : Int)] := by unfold ints; rw [List.map_append]; rfl
        rw [e]
        exact HO2.out
      case measure => simp [intOf]; omega
    · have hk' : k = 128 := by omega
      subst hk'
      go_wp2_with (at_builtin; refine wpList_append_any _ rfl (.tmp 33) (.tmp 35) 80 rfl w.heap.size 3 i0 (.int .i64 0) 1 8 Tryd.underlying80 hi hzz hz1 hz2 rfl (by decide) _ _ _ rfl (HO.out.alloc _) (wr.heap.size + 1) (some ⟨wr.heap.size, 0, none⟩) 1 1 [.int .i64 (cc : Int)] rfl (reads_cells wr #[.int .i64 (cc : Int)] _ 1 1 rfl) (by intro u hu; simp at hu; subst hu; rfl) (by unfold maxLen; omega) (by omega) (Nat.le_trans HB.out.size (by simp)) ?_)
      intro v2 w2 ho2 hg2 _
      obtain ⟨a2, k2, rfl⟩ := own_shape ho2
      have HB2 := Lib.hid ((HB.out.alloc HB.out.size (.cells #[.int .i64 (cc : Int)] 3)).grown hg2 (Nat.le_trans HB.out.size (by simp)) (fun r hr => (HO.out.lt r hr).1))
      have ho3 : w2.ownsRow w.heap.size 3 1 (.slice a2 129 k2) 129 (ints (bitsN 129 (a + b))) := by
        rw [← HE.out, ← HC.out]
        have e : ints (bitsN 128 (a + b) ++ [cc]) = ints (bitsN 128 (a + b)) ++ [.int .i64 (cc : Int)] := by unfold ints; rw [List.map_append]; rfl
        rw [e]
        exact ho2
      obtain ⟨g, rfl, h1, h2, h3⟩ := row_of_own ho3 (by omega)
      have HR3 := Lib.hid h3
      clear ho2 hg2 ho3 h3
      go_wp2_with fail
      go_ret
      exact ⟨g, k2, rfl, h2, h1, HR3.out, HB2.out⟩
end Go.Proofs.YtplbglcdmimdoaaDoor
