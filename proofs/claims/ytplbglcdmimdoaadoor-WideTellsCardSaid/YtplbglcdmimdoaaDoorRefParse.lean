/- What the document reads of whatever bytes. -/
import Derived.Test.YtplbglcdmimdoaaDoorRefMul
import Derived.Test.YtplbglcdmimdoaaDoorWideParse
namespace Go.Proofs.YtplbglcdmimdoaaDoor
open Go.RowKit
set_option linter.unusedVariables false
set_option linter.unusedSimpArgs false

theorem parseW_bad (l : List UInt8) (h : parseGo l 0 = none) : parseW l = none := by
  unfold parseW
  split
  · rfl
  · exact h
set_option maxRecDepth 100000 in
set_option maxHeartbeats 4000000 in
theorem rparse_any (s : ByteArray) (w : World) (hs : s.size ≤ 1000000) : Calls Tryd.prog 30 #[.string s] w fun e w' =>
    e = .returned (.tuple #[wideV ((parseW s.data.toList).getD 0), .int .i64 (if (parseW s.data.toList).isSome then 0 else 10)]) ∧ Below w.heap.size w w' := by
  obtain ⟨l, hl⟩ : ∃ l, s.data.toList = l := ⟨_, rfl⟩
  have hsz : s.size = l.length := by
    rw [← hl]
    exact Array.length_toList.symm
  have hat : ∀ (i : Nat) (h : i < s.size), s[i] = l.getD i 0 := by
    intro i h
    subst hl
    have h' : i < s.data.size := h
    rw [List.getD_eq_getElem?_getD, Array.getElem?_toList, Array.getElem?_eq_getElem h']
    rfl
  rw [hl]
  obtain ⟨rp, hrp⟩ : ∃ rv, wideV ((parseW l).getD 0) = rv := ⟨_, rfl⟩
  obtain ⟨re, hre⟩ : ∃ re : Int, (if (parseW l).isSome then 0 else 10) = re := ⟨_, rfl⟩
  have RN := Lib.hid (show parseW l = none → rp = W2 0 0 ∧ re = 10 from fun h => by rw [← hrp, ← hre, h]; exact ⟨rfl, rfl⟩)
  have RS := Lib.hid (show ∀ v, parseW l = some v → rp = wideV v ∧ re = 0 from fun v h => by rw [← hrp, ← hre, h]; exact ⟨rfl, rfl⟩)
  rw [hrp, hre]
  clear hrp hre
  go_enter Tryd.func30, Tryd.ntmps30
  go_wp2_with fail
  obtain ⟨b2, hb2⟩ : ∃ b, w.heap.size = b := ⟨_, rfl⟩
  have HG := Lib.hid (show w.heap.size ≤ b2 by omega)
  have K2 := Lib.hid (show WF ((w.alloc (.cells #[.int .u64 0, .int .u64 0] 24)).alloc (.cells #[.int .u64 0, .int .u64 0] 24)) b2 0 0 by rw [← hb2]; exact (WF.new w 0 0 _).later ((Below.refl _ _).alloc (Nat.le_refl _) _))
  have K4 := Lib.hid (show WF ((w.alloc (.cells #[.int .u64 0, .int .u64 0] 24)).alloc (.cells #[.int .u64 0, .int .u64 0] 24)) (b2 + 1) 0 0 by rw [← hb2]; have h := WF.new (w.alloc (.cells #[.int .u64 0, .int .u64 0] 24)) 0 0 24; rw [World.size_alloc] at h; exact h)
  have HB := Lib.hid (((Below.refl w.heap.size w).alloc (Nat.le_refl _) (.cells #[.int .u64 0, .int .u64 0] 24)).alloc (by simp) (.cells #[.int .u64 0, .int .u64 0] 24))
  rw [hb2]
  generalize (w.alloc (.cells #[.int .u64 0, .int .u64 0] 24)).alloc (.cells #[.int .u64 0, .int .u64 0] 24) = W0 at K2 K4 HB ⊢
  clear hb2
  go_loopw [5] (fun i wr => ∃ (k v : Nat), k ≤ l.length ∧ i = .int .i64 (k : Int) ∧ Hid (v < wTop) ∧ Hid (parseGo (l.drop k) v = parseGo l 0) ∧ Hid (Below w.heap.size w wr) ∧ Hid (WF wr b2 0 0) ∧ Hid (∃ p q, wideV v = W2 p q ∧ WF wr (b2 + 1) p q)) (fun i _ => l.length - (intOf i).toNat)
  case atStart => exact ⟨0, 0, Nat.zero_le _, rfl, Lib.hid (by decide), Lib.hid rfl, HB, K2, Lib.hid ⟨0, 0, rfl, K4.out⟩⟩
  case round =>
    clear HB K2 K4
    obtain ⟨k, v, hk, rfl, HV, HP, HB, K2, HX⟩ := hrel
    obtain ⟨pv, qv, ev, k4⟩ := HX.out
    have EV := Lib.hid ev
    have K4 := Lib.hid k4
    clear HX ev k4
    by_cases hkl : k < l.length
    · have hks : k < s.size := by omega
      have hc := hat k hks
      have hdr : l.drop k = l.getD k 0 :: l.drop (k + 1) := by rw [List.drop_eq_getElem_cons hkl, List.getD_eq_getElem?_getD, List.getElem?_eq_getElem hkl]; rfl
      have hp := HP.out
      rw [hdr] at hp
      generalize l.getD k 0 = c at hc hp
      have hcr : c.toNat < 256 := c.toNat_lt
      obtain ⟨d, hd⟩ : ∃ d, c.toNat = d := ⟨_, rfl⟩
      have c20 := WF.c0 K2.out
      have c21 := WF.c1 K2.out
      have f20 := WF.f0 K2.out
      have f21 := WF.f1 K2.out
      clear hdr hat hl
      by_cases h48 : d < 48
      · have HN := Lib.hid (show parseW l = none from parseW_bad l (by rw [← hp]; unfold parseGo; rw [if_neg]; rintro ⟨h, _⟩; simp [digitB, hd] at h; omega))
        clear hp
        obtain ⟨rfl, rfl⟩ := RN.out HN.out
        go_wp2_with fail
        simp [bodyPost, results, Tryd.results30, go_sem, c20, c21]
        exact below_two HB.out HG.out _ _
      · by_cases h57 : 57 < d
        · have HN := Lib.hid (show parseW l = none from parseW_bad l (by rw [← hp]; unfold parseGo; rw [if_neg]; rintro ⟨h, _⟩; simp [digitB, hd] at h; omega))
          clear hp
          obtain ⟨rfl, rfl⟩ := RN.out HN.out
          go_wp2_with fail
          simp [bodyPost, results, Tryd.results30, go_sem, c20, c21]
          exact below_two HB.out HG.out _ _
        · obtain ⟨n, rfl⟩ : ∃ n, d = n + 48 := ⟨d - 48, by omega⟩
          have hn9 : n ≤ 9 := by omega
          have hdg : digitB c = true := by simp [digitB, hd]; omega
          have HPC := Lib.hid (show 10 * v + n < wTop → parseGo (l.drop (k + 1)) (10 * v + n) = parseGo l 0 by
            intro h
            rw [← hp]
            conv => rhs; unfold parseGo
            rw [hd, Nat.add_sub_cancel, if_pos ⟨hdg, h⟩])
          have HPN := Lib.hid (show ¬ 10 * v + n < wTop → parseW l = none by
            intro h
            refine parseW_bad l ?_
            rw [← hp]
            unfold parseGo
            rw [hd, Nat.add_sub_cancel, if_neg (fun g => h g.2)])
          clear hp hdg c20 c21 f20 f21
          go_wp2_with fail
          have HSZ := Lib.hid (show b2 + 1 < wr.heap.size from K4.out.1)
          obtain ⟨wo, rfl⟩ : ∃ wo : World, wo = wr := ⟨_, rfl⟩
          obtain ⟨b6, hb6⟩ : ∃ b, wo.heap.size = b := ⟨_, rfl⟩
          have HN6 := Lib.hid (show b2 + 1 < b6 by have := HSZ.out; omega)
          have K6' := Lib.hid (show ∃ p r, wideV (n + 0 * v) = W2 p r ∧ WF (wo.alloc (.cells #[.int .u64 0, .int .u64 (n : Int)] 24)) b6 p r from ⟨0, n, by rw [Nat.zero_mul, Nat.add_zero]; unfold wideV; rw [Nat.div_eq_of_lt (by omega), Nat.mod_eq_of_lt (by omega)]; rfl, by rw [← hb6]; exact WF.new wo 0 n _⟩)
          have K4' := Lib.hid (K4.out.later ((Below.refl _ _).alloc (Nat.le_refl _) (.cells #[.int .u64 0, .int .u64 (n : Int)] 24)))
          have K2' := Lib.hid (K2.out.later ((Below.refl _ _).alloc (Nat.le_refl _) (.cells #[.int .u64 0, .int .u64 (n : Int)] 24)))
          have HB' := Lib.hid (HB.out.alloc HB.out.size (.cells #[.int .u64 0, .int .u64 (n : Int)] 24))
          rw [hb6]
          generalize wo.alloc (.cells #[.int .u64 0, .int .u64 (n : Int)] 24) = W1 at K6' K4' K2' HB' ⊢
          clear hb6 K4 K2 HB HSZ
          go_loopw [7] (fun iv wq => ∃ q : Nat, q ≤ 10 ∧ iv = .int .i64 (q : Int) ∧ Hid (n + q * v < wTop) ∧ Hid (∃ p r, wideV (n + q * v) = W2 p r ∧ WF wq b6 p r) ∧ Hid (WF wq (b2 + 1) pv qv) ∧ Hid (WF wq b2 0 0) ∧ Hid (Below w.heap.size w wq)) (fun i _ => 10 - (intOf i).toNat)
          case atStart => exact ⟨0, by omega, rfl, Lib.hid (by unfold wTop; omega), K6', K4', K2', HB'⟩
          case round =>
            clear K6' K4' K2' HB'
            obtain ⟨q, hq, rfl, HQ, HX6, K4, K2, HB⟩ := hrel
            obtain ⟨p6, r6, e6, k6⟩ := HX6.out
            have E6 := Lib.hid e6
            have K6 := Lib.hid k6
            have c6 := WF.c0 K6.out
            have d6 := WF.c1 K6.out
            have l6 : b6 < wr.heap.size := K6.out.1
            clear HX6 e6 k6
            rcases Nat.lt_or_ge q 10 with h | h
            · have c4 := WF.c0 K4.out
              have d4 := WF.c1 K4.out
              by_cases hf : n + q * v + v < wTop
              · obtain ⟨p7, r7, e7⟩ := words_of (n + q * v + v)
                have AD := Lib.hid (fun w => by
                  have h := radd_any (n + q * v) v HQ.out HV.out w
                  rw [if_pos hf, decide_eq_true hf, E6.out, EV.out, e7] at h
                  exact h)
                have E7 := Lib.hid e7
                have HF := Lib.hid hf
                clear e7 hf
                go_wp2_with fail
                refine (AD.out _).mono ?_
                rintro e w1 ⟨rfl, hb⟩
                have K6' := Lib.hid ((K6.out.later hb).later ((Below.refl _ _).alloc (Nat.le_refl _) (.cells #[.int .u64 p7, .int .u64 r7] 24)))
                have K4' := Lib.hid ((K4.out.later hb).later ((Below.refl _ _).alloc (Nat.le_refl _) (.cells #[.int .u64 p7, .int .u64 r7] 24)))
                have K2' := Lib.hid ((K2.out.later hb).later ((Below.refl _ _).alloc (Nat.le_refl _) (.cells #[.int .u64 p7, .int .u64 r7] 24)))
                have HB' := Lib.hid ((bl HB.out HB.out.size hb).alloc (bl HB.out HB.out.size hb).size (.cells #[.int .u64 p7, .int .u64 r7] 24))
                have K8 := Lib.hid (WF.new w1 p7 r7 24)
                clear hb c6 d6 c4 d4 l6 K6 K4 K2 HB
                go_upto_region 12 with (fail)
                generalize w1.alloc (.cells #[.int .u64 p7, .int .u64 r7] 24) = W2' at K6' K4' K2' HB' K8 ⊢
                have c6 := WF.c0 K6'.out
                have d6 := WF.c1 K6'.out
                have e6 := WF.f0 K6'.out
                have f6 := WF.f1 K6'.out
                have c8 := WF.c0 K8.out
                have d8 := WF.c1 K8.out
                go_wp2_with fail
                go_roundw
                case rel =>
                  refine ⟨q + 1, by omega, rfl, Lib.hid ?_, Lib.hid ⟨p7, r7, ?_, K6'.out.set _ _⟩, Lib.hid (K4'.out.far2 (by have := HN6.out; omega) _ _), Lib.hid (K2'.out.far2 (by have := HN6.out; omega) _ _), Lib.hid (below_two HB'.out (by have := HN6.out; have := HG.out; omega) _ _)⟩
                  · rw [Nat.succ_mul, ← Nat.add_assoc]; exact HF.out
                  · rw [Nat.succ_mul, ← Nat.add_assoc]; exact E7.out
                case measure => simp [intOf]; omega
              · have AD := Lib.hid (fun w => by
                  have h := radd_any (n + q * v) v HQ.out HV.out w
                  rw [if_neg hf, decide_eq_false hf, E6.out, EV.out, show wideV 0 = W2 0 0 from rfl] at h
                  exact h)
                have HN := Lib.hid (HPN.out (by
                  intro h2
                  refine hf (Nat.lt_of_le_of_lt ?_ h2)
                  have : q * v + v ≤ 10 * v := by rw [← Nat.succ_mul]; exact Nat.mul_le_mul_right _ (by omega)
                  omega))
                obtain ⟨rfl, rfl⟩ := RN.out HN.out
                clear hf
                go_wp2_with fail
                refine (AD.out _).mono ?_
                rintro e w1 ⟨rfl, hb⟩
                have K2' := Lib.hid ((K2.out.later hb).later ((Below.refl _ _).alloc (Nat.le_refl _) (.cells #[.int .u64 0, .int .u64 0] 24)))
                have HB' := Lib.hid ((bl HB.out HB.out.size hb).alloc (bl HB.out HB.out.size hb).size (.cells #[.int .u64 0, .int .u64 0] 24))
                clear hb c6 d6 c4 d4 l6 K6 K4 K2 HB
                go_upto_region 12 with (fail)
                generalize w1.alloc (.cells #[.int .u64 0, .int .u64 0] 24) = W2' at K2' HB' ⊢
                have c2 := WF.c0 K2'.out
                have d2 := WF.c1 K2'.out
                have e2 := WF.f0 K2'.out
                have f2 := WF.f1 K2'.out
                go_wp2_with fail
                simp [bodyPost, results, Tryd.results30, go_sem, c2, d2]
                exact below_two HB'.out HG.out _ _
            · have hq10 : q = 10 := by omega
              subst hq10
              have HFT := Lib.hid (show 10 * v + n < wTop by have := HQ.out; omega)
              have c4 := WF.c0 K4.out
              have d4 := WF.c1 K4.out
              have e4 := WF.f0 K4.out
              have f4 := WF.f1 K4.out
              go_wp2_with fail
              go_roundw
              case rel =>
                refine ⟨k + 1, 10 * v + n, by omega, rfl, HFT, Lib.hid (HPC.out HFT.out), Lib.hid (below_two HB.out (by have := HG.out; omega) _ _), Lib.hid (K2.out.far2 (by omega) _ _), Lib.hid ⟨p6, r6, ?_, K4.out.set _ _⟩⟩
                rw [Nat.add_comm]; exact E6.out
              case measure => simp [intOf]; omega
    · have hk' : k = l.length := by omega
      subst hk'
      have HPV := Lib.hid (show parseGo l 0 = some v by rw [← HP.out, List.drop_length]; rfl)
      have c2 := WF.c0 K2.out
      have d2 := WF.c1 K2.out
      have e2 := WF.f0 K2.out
      have f2 := WF.f1 K2.out
      have c4 := WF.c0 K4.out
      have d4 := WF.c1 K4.out
      clear hkl hk HP hl
      cases l with
      | nil =>
        have HN := Lib.hid (show parseW [] = none from rfl)
        clear hat
        obtain ⟨rfl, rfl⟩ := RN.out HN.out
        go_wp2_with fail
        simp [bodyPost, results, Tryd.results30, go_sem, c2, d2]
        exact below_two HB.out HG.out _ _
      | cons c t =>
        have hz : 0 < s.size := by rw [hsz]; simp
        have h0 : s[0] = c := by rw [hat 0 hz]; rfl
        have hll : (c :: t).length = t.length + 1 := rfl
        rw [hll] at hsz ⊢
        clear hat
        by_cases hc : c = 48
        · subst hc
          by_cases ht : t = []
          · subst ht
            have HS := Lib.hid (show parseW [48] = some v by unfold parseW; rw [if_neg (by simp)]; exact HPV.out)
            obtain ⟨rfl, rfl⟩ := RS.out v HS.out
            go_wp2_with fail
            simp [bodyPost, results, Tryd.results30, go_sem, c2, d2]
            exact ⟨EV.out.symm, below_two HB.out HG.out _ _⟩
          · have ht1 : 0 < t.length := List.length_pos_iff.2 ht
            have HN := Lib.hid (show parseW (48 :: t) = none by unfold parseW; rw [if_pos (.inr ⟨rfl, by simp [ht]⟩)])
            clear ht
            obtain ⟨rfl, rfl⟩ := RN.out HN.out
            go_wp2_with fail
            simp [bodyPost, results, Tryd.results30, go_sem, c2, d2]
            exact below_two HB.out HG.out _ _
        · have q : ¬ ((c.toNat : Int) = 48) := fun h => hc (UInt8.toNat_inj.1 (show c.toNat = 48 by omega))
          have HS := Lib.hid (show parseW (c :: t) = some v by unfold parseW; rw [if_neg (by simp [hc])]; exact HPV.out)
          clear hc
          obtain ⟨rfl, rfl⟩ := RS.out v HS.out
          go_wp2_with fail
          simp [bodyPost, results, Tryd.results30, go_sem, c2, d2]
          exact ⟨EV.out.symm, below_two HB.out HG.out _ _⟩
end Go.Proofs.YtplbglcdmimdoaaDoor
