import Derived.Test.YtokpgopdkimmmaaGreatDoorTellsM2
import Derived.Test.YtokpgopdkimmmaaGreatDoorWideParse
import Derived.Test.YtokpgopdkimmmaaGreatDoorTellsM3
import Derived.StillTactics
import Derived.Test.YtokpgopdkimmmaaGreatDoorOpReplyWalk
import Derived.Laws.OwnMore
import Derived.Laws.BitsLemmas
import Derived.Test.YtokpgopdkimmmaaGreatDoorTellsM5
import Derived.Test.YtokpgopdkimmmaaGreatDoorOpLaw
import Derived.Test.YtokpgopdkimmmaaGreatDoorDigits
/- What the document reads of whatever bytes. -/
namespace Go.Proofs.YtokpgopdkimmmaaGreatDoor
open Go.RowKit
set_option linter.unusedVariables false
set_option linter.unusedSimpArgs false

theorem parseW_bad (l : List UInt8) (h : parseGo l 0 = none) : parseW l = none := by
  unfold parseW
  split
  · rfl
  · exact h
set_option maxRecDepth 100000 in
set_option maxHeartbeats 4000000 in
theorem rparse_any (s : ByteArray) (w : World) (hs : s.size ≤ 1000000) : Calls Tryz.prog 88 #[.string s] w fun e w' =>
    e = .returned (.tuple #[wideV ((parseW s.data.toList).getD 0), .int .i64 (if (parseW s.data.toList).isSome then 0 else 10)]) ∧ Below w.heap.size w w' := by
  obtain ⟨l, hl⟩ : ∃ l, s.data.toList = l := ⟨_, rfl⟩
  have hsz : s.size = l.length := by
    rw [← hl]
    exact Array.length_toList.symm
  have hat : ∀ (i : Nat) (h : i < s.size), s[i] = l.getD i 0 := by
    intro i h
    subst hl
    have h' : i < s.data.size := h
    rw [List.getD_eq_getElem?_getD, Array.getElem?_toList, Array.getElem?_eq_getElem h']
    rfl
  rw [hl]
  obtain ⟨rp, hrp⟩ : ∃ rv, wideV ((parseW l).getD 0) = rv := ⟨_, rfl⟩
  obtain ⟨re, hre⟩ : ∃ re : Int, (if (parseW l).isSome then 0 else 10) = re := ⟨_, rfl⟩
  have RN := Lib.hid (show parseW l = none → rp = W2 0 0 ∧ re = 10 from fun h => by rw [← hrp, ← hre, h]; exact ⟨rfl, rfl⟩)
  have RS := Lib.hid (show ∀ v, parseW l = some v → rp = wideV v ∧ re = 0 from fun v h => by rw [← hrp, ← hre, h]; exact ⟨rfl, rfl⟩)
  rw [hrp, hre]
  clear hrp hre
  go_enter Tryz.func88, Tryz.ntmps88
  go_wp2_with fail
  obtain ⟨b2, hb2⟩ : ∃ b, w.heap.size = b := ⟨_, rfl⟩
  have HG := Lib.hid (show w.heap.size ≤ b2 by omega)
  have K2 := Lib.hid (show WF ((w.alloc (.cells #[.int .u64 0, .int .u64 0] 31)).alloc (.cells #[.int .u64 0, .int .u64 0] 31)) b2 0 0 by rw [← hb2]; exact (WF.new w 0 0 _).later ((Below.refl _ _).alloc (Nat.le_refl _) _))
  have K4 := Lib.hid (show WF ((w.alloc (.cells #[.int .u64 0, .int .u64 0] 31)).alloc (.cells #[.int .u64 0, .int .u64 0] 31)) (b2 + 1) 0 0 by rw [← hb2]; have h := WF.new (w.alloc (.cells #[.int .u64 0, .int .u64 0] 31)) 0 0 31; rw [World.size_alloc] at h; exact h)
  have HB := Lib.hid (((Below.refl w.heap.size w).alloc (Nat.le_refl _) (.cells #[.int .u64 0, .int .u64 0] 31)).alloc (by simp) (.cells #[.int .u64 0, .int .u64 0] 31))
  rw [hb2]
  generalize (w.alloc (.cells #[.int .u64 0, .int .u64 0] 31)).alloc (.cells #[.int .u64 0, .int .u64 0] 31) = W0 at K2 K4 HB ⊢
  clear hb2
  go_loopw [5] (fun i wr => ∃ (k v : Nat), k ≤ l.length ∧ i = .int .i64 (k : Int) ∧ Hid (v < wTop) ∧ Hid (parseGo (l.drop k) v = parseGo l 0) ∧ Hid (Below w.heap.size w wr) ∧ Hid (WF wr b2 0 0) ∧ Hid (∃ p q, wideV v = W2 p q ∧ WF wr (b2 + 1) p q)) (fun i _ => l.length - (intOf i).toNat)
  case atStart => exact ⟨0, 0, Nat.zero_le _, rfl, Lib.hid (by decide), Lib.hid rfl, HB, K2, Lib.hid ⟨0, 0, rfl, K4.out⟩⟩
  case round =>
    clear HB K2 K4
    obtain ⟨k, v, hk, rfl, HV, HP, HB, K2, HX⟩ := hrel
    obtain ⟨pv, qv, ev, k4⟩ := HX.out
    have EV := Lib.hid ev
    have K4 := Lib.hid k4
    clear HX ev k4
    by_cases hkl : k < l.length
    · have hks : k < s.size := by omega
      have hc := hat k hks
      have hdr : l.drop k = l.getD k 0 :: l.drop (k + 1) := by rw [List.drop_eq_getElem_cons hkl, List.getD_eq_getElem?_getD, List.getElem?_eq_getElem hkl]; rfl
      have hp := HP.out
      rw [hdr] at hp
      generalize l.getD k 0 = c at hc hp
      have hcr : c.toNat < 256 := c.toNat_lt
      obtain ⟨d, hd⟩ : ∃ d, c.toNat = d := ⟨_, rfl⟩
      have c20 := WF.c0 K2.out
      have c21 := WF.c1 K2.out
      have f20 := WF.f0 K2.out
      have f21 := WF.f1 K2.out
      clear hdr hat hl
      by_cases h48 : d < 48
      · have HN := Lib.hid (show parseW l = none from parseW_bad l (by rw [← hp]; unfold parseGo; rw [if_neg]; rintro ⟨h, _⟩; simp [digitB, hd] at h; omega))
        clear hp
        obtain ⟨rfl, rfl⟩ := RN.out HN.out
        go_wp2_with fail
        simp [bodyPost, results, Tryz.results88, go_sem, c20, c21]
        exact below_two HB.out HG.out _ _
      · by_cases h57 : 57 < d
        · have HN := Lib.hid (show parseW l = none from parseW_bad l (by rw [← hp]; unfold parseGo; rw [if_neg]; rintro ⟨h, _⟩; simp [digitB, hd] at h; omega))
          clear hp
          obtain ⟨rfl, rfl⟩ := RN.out HN.out
          go_wp2_with fail
          simp [bodyPost, results, Tryz.results88, go_sem, c20, c21]
          exact below_two HB.out HG.out _ _
        · obtain ⟨n, rfl⟩ : ∃ n, d = n + 48 := ⟨d - 48, by omega⟩
          have hn9 : n ≤ 9 := by omega
          have hdg : digitB c = true := by simp [digitB, hd]; omega
          have HPC := Lib.hid (show 10 * v + n < wTop → parseGo (l.drop (k + 1)) (10 * v + n) = parseGo l 0 by
            intro h
            rw [← hp]
            conv => rhs; unfold parseGo
            rw [hd, Nat.add_sub_cancel, if_pos ⟨hdg, h⟩])
          have HPN := Lib.hid (show ¬ 10 * v + n < wTop → parseW l = none by
            intro h
            refine parseW_bad l ?_
            rw [← hp]
            unfold parseGo
            rw [hd, Nat.add_sub_cancel, if_neg (fun g => h g.2)])
          clear hp hdg c20 c21 f20 f21
          go_wp2_with fail
          have HSZ := Lib.hid (show b2 + 1 < wr.heap.size from K4.out.1)
          obtain ⟨wo, rfl⟩ : ∃ wo : World, wo = wr := ⟨_, rfl⟩
          obtain ⟨b6, hb6⟩ : ∃ b, wo.heap.size = b := ⟨_, rfl⟩
          have HN6 := Lib.hid (show b2 + 1 < b6 by have := HSZ.out; omega)
          have K6' := Lib.hid (show ∃ p r, wideV (n + 0 * v) = W2 p r ∧ WF (wo.alloc (.cells #[.int .u64 0, .int .u64 (n : Int)] 31)) b6 p r from ⟨0, n, by rw [Nat.zero_mul, Nat.add_zero]; unfold wideV; rw [Nat.div_eq_of_lt (by omega), Nat.mod_eq_of_lt (by omega)]; rfl, by rw [← hb6]; exact WF.new wo 0 n _⟩)
          have K4' := Lib.hid (K4.out.later ((Below.refl _ _).alloc (Nat.le_refl _) (.cells #[.int .u64 0, .int .u64 (n : Int)] 31)))
          have K2' := Lib.hid (K2.out.later ((Below.refl _ _).alloc (Nat.le_refl _) (.cells #[.int .u64 0, .int .u64 (n : Int)] 31)))
          have HB' := Lib.hid (HB.out.alloc HB.out.size (.cells #[.int .u64 0, .int .u64 (n : Int)] 31))
          rw [hb6]
          generalize wo.alloc (.cells #[.int .u64 0, .int .u64 (n : Int)] 31) = W1 at K6' K4' K2' HB' ⊢
          clear hb6 K4 K2 HB HSZ
          go_loopw [7] (fun iv wq => ∃ q : Nat, q ≤ 10 ∧ iv = .int .i64 (q : Int) ∧ Hid (n + q * v < wTop) ∧ Hid (∃ p r, wideV (n + q * v) = W2 p r ∧ WF wq b6 p r) ∧ Hid (WF wq (b2 + 1) pv qv) ∧ Hid (WF wq b2 0 0) ∧ Hid (Below w.heap.size w wq)) (fun i _ => 10 - (intOf i).toNat)
          case atStart => exact ⟨0, by omega, rfl, Lib.hid (by unfold wTop; omega), K6', K4', K2', HB'⟩
          case round =>
            clear K6' K4' K2' HB'
            obtain ⟨q, hq, rfl, HQ, HX6, K4, K2, HB⟩ := hrel
            obtain ⟨p6, r6, e6, k6⟩ := HX6.out
            have E6 := Lib.hid e6
            have K6 := Lib.hid k6
            have c6 := WF.c0 K6.out
            have d6 := WF.c1 K6.out
            have l6 : b6 < wr.heap.size := K6.out.1
            clear HX6 e6 k6
            rcases Nat.lt_or_ge q 10 with h | h
            · have c4 := WF.c0 K4.out
              have d4 := WF.c1 K4.out
              by_cases hf : n + q * v + v < wTop
              · obtain ⟨p7, r7, e7⟩ := words_of (n + q * v + v)
                have AD := Lib.hid (fun w => by
                  have h := radd_any (n + q * v) v HQ.out HV.out w
                  rw [if_pos hf, decide_eq_true hf, E6.out, EV.out, e7] at h
                  exact h)
                have E7 := Lib.hid e7
                have HF := Lib.hid hf
                clear e7 hf
                go_wp2_with fail
                refine (AD.out _).mono ?_
                rintro e w1 ⟨rfl, hb⟩
                have K6' := Lib.hid ((K6.out.later hb).later ((Below.refl _ _).alloc (Nat.le_refl _) (.cells #[.int .u64 p7, .int .u64 r7] 31)))
                have K4' := Lib.hid ((K4.out.later hb).later ((Below.refl _ _).alloc (Nat.le_refl _) (.cells #[.int .u64 p7, .int .u64 r7] 31)))
                have K2' := Lib.hid ((K2.out.later hb).later ((Below.refl _ _).alloc (Nat.le_refl _) (.cells #[.int .u64 p7, .int .u64 r7] 31)))
                have HB' := Lib.hid ((bl HB.out HB.out.size hb).alloc (bl HB.out HB.out.size hb).size (.cells #[.int .u64 p7, .int .u64 r7] 31))
                have K8 := Lib.hid (WF.new w1 p7 r7 31)
                clear hb c6 d6 c4 d4 l6 K6 K4 K2 HB
                go_upto_region 12 with (fail)
                generalize w1.alloc (.cells #[.int .u64 p7, .int .u64 r7] 31) = W2' at K6' K4' K2' HB' K8 ⊢
                have c6 := WF.c0 K6'.out
                have d6 := WF.c1 K6'.out
                have e6 := WF.f0 K6'.out
                have f6 := WF.f1 K6'.out
                have c8 := WF.c0 K8.out
                have d8 := WF.c1 K8.out
                go_wp2_with fail
                go_roundw
                case rel =>
                  refine ⟨q + 1, by omega, rfl, Lib.hid ?_, Lib.hid ⟨p7, r7, ?_, K6'.out.set _ _⟩, Lib.hid (K4'.out.far2 (by have := HN6.out; omega) _ _), Lib.hid (K2'.out.far2 (by have := HN6.out; omega) _ _), Lib.hid (below_two HB'.out (by have := HN6.out; have := HG.out; omega) _ _)⟩
                  · rw [Nat.succ_mul, ← Nat.add_assoc]; exact HF.out
                  · rw [Nat.succ_mul, ← Nat.add_assoc]; exact E7.out
                case measure => simp [intOf]; omega
              · have AD := Lib.hid (fun w => by
                  have h := radd_any (n + q * v) v HQ.out HV.out w
                  rw [if_neg hf, decide_eq_false hf, E6.out, EV.out, show wideV 0 = W2 0 0 from rfl] at h
                  exact h)
                have HN := Lib.hid (HPN.out (by
                  intro h2
                  refine hf (Nat.lt_of_le_of_lt ?_ h2)
                  have : q * v + v ≤ 10 * v := by rw [← Nat.succ_mul]; exact Nat.mul_le_mul_right _ (by omega)
                  omega))
                obtain ⟨rfl, rfl⟩ := RN.out HN.out
                clear hf
                go_wp2_with fail
                refine (AD.out _).mono ?_
                rintro e w1 ⟨rfl, hb⟩
                have K2' := Lib.hid ((K2.out.later hb).later ((Below.refl _ _).alloc (Nat.le_refl _) (.cells #[.int .u64 0, .int .u64 0] 31)))
                have HB' := Lib.hid ((bl HB.out HB.out.size hb).alloc (bl HB.out HB.out.size hb).size (.cells #[.int .u64 0, .int .u64 0] 31))
                clear hb c6 d6 c4 d4 l6 K6 K4 K2 HB
                go_upto_region 12 with (fail)
                generalize w1.alloc (.cells #[.int .u64 0, .int .u64 0] 31) = W2' at K2' HB' ⊢
                have c2 := WF.c0 K2'.out
                have d2 := WF.c1 K2'.out
                have e2 := WF.f0 K2'.out
                have f2 := WF.f1 K2'.out
                go_wp2_with fail
                simp [bodyPost, results, Tryz.results88, go_sem, c2, d2]
                exact below_two HB'.out HG.out _ _
            · have hq10 : q = 10 := by omega
              subst hq10
              have HFT := Lib.hid (show 10 * v + n < wTop by have := HQ.out; omega)
              have c4 := WF.c0 K4.out
              have d4 := WF.c1 K4.out
              have e4 := WF.f0 K4.out
              have f4 := WF.f1 K4.out
              go_wp2_with fail
              go_roundw
              case rel =>
                refine ⟨k + 1, 10 * v + n, by omega, rfl, HFT, Lib.hid (HPC.out HFT.out), Lib.hid (below_two HB.out (by have := HG.out; omega) _ _), Lib.hid (K2.out.far2 (by omega) _ _), Lib.hid ⟨p6, r6, ?_, K4.out.set _ _⟩⟩
                rw [Nat.add_comm]; exact E6.out
              case measure => simp [intOf]; omega
    · have hk' : k = l.length := by omega
      subst hk'
      have HPV := Lib.hid (show parseGo l 0 = some v by rw [← HP.out, List.drop_length]; rfl)
      have c2 := WF.c0 K2.out
      have d2 := WF.c1 K2.out
      have e2 := WF.f0 K2.out
      have f2 := WF.f1 K2.out
      have c4 := WF.c0 K4.out
      have d4 := WF.c1 K4.out
      clear hkl hk HP hl
      cases l with
      | nil =>
        have HN := Lib.hid (show parseW [] = none from rfl)
        clear hat
        obtain ⟨rfl, rfl⟩ := RN.out HN.out
        go_wp2_with fail
        simp [bodyPost, results, Tryz.results88, go_sem, c2, d2]
        exact below_two HB.out HG.out _ _
      | cons c t =>
        have hz : 0 < s.size := by rw [hsz]; simp
        have h0 : s[0] = c := by rw [hat 0 hz]; rfl
        have hll : (c :: t).length = t.length + 1 := rfl
        rw [hll] at hsz ⊢
        clear hat
        by_cases hc : c = 48
        · subst hc
          by_cases ht : t = []
          · subst ht
            have HS := Lib.hid (show parseW [48] = some v by unfold parseW; rw [if_neg (by simp)]; exact HPV.out)
            obtain ⟨rfl, rfl⟩ := RS.out v HS.out
            go_wp2_with fail
            simp [bodyPost, results, Tryz.results88, go_sem, c2, d2]
            exact ⟨EV.out.symm, below_two HB.out HG.out _ _⟩
          · have ht1 : 0 < t.length := List.length_pos_iff.2 ht
            have HN := Lib.hid (show parseW (48 :: t) = none by unfold parseW; rw [if_pos (.inr ⟨rfl, by simp [ht]⟩)])
            clear ht
            obtain ⟨rfl, rfl⟩ := RN.out HN.out
            go_wp2_with fail
            simp [bodyPost, results, Tryz.results88, go_sem, c2, d2]
            exact below_two HB.out HG.out _ _
        · have q : ¬ ((c.toNat : Int) = 48) := fun h => hc (UInt8.toNat_inj.1 (show c.toNat = 48 by omega))
          have HS := Lib.hid (show parseW (c :: t) = some v by unfold parseW; rw [if_neg (by simp [hc])]; exact HPV.out)
          clear hc
          obtain ⟨rfl, rfl⟩ := RS.out v HS.out
          go_wp2_with fail
          simp [bodyPost, results, Tryz.results88, go_sem, c2, d2]
          exact ⟨EV.out.symm, below_two HB.out HG.out _ _⟩
end Go.Proofs.YtokpgopdkimmmaaGreatDoor
/- The document's answer of layer 27: a number read from a word. -/
namespace Go.Proofs.YtokpgopdkimmmaaGreatDoor
open Go.RowKit
set_option linter.unusedVariables false
set_option linter.unusedSimpArgs false

/-- A number's answer: its low word, the sign before it, whether it is one. -/
def numR (v : Option Nat) (m : Bool) : Value := .tuple #[.int .u64 ((v.getD 0 % 18446744073709551616 : Nat) : Int), .bool m, .bool (v.isSome && decide (v.getD 0 / 18446744073709551616 = 0))]
def minusR (s : List UInt8) : Bool := s.head? == some 45
def bodyR (s : List UInt8) : List UInt8 := if minusR s then s.drop 1 else s
set_option maxRecDepth 100000 in
set_option maxHeartbeats 4000000 in
theorem rnum_any (s : List UInt8) (hs : s.length ≤ 1000000) (w : World) : Calls Tryz.prog 53 #[.string ⟨s.toArray⟩] w fun e w' => e = .returned (numR (parseW (bodyR s)) (minusR s)) ∧ Below w.heap.size w w' := by
  have HP := Lib.hid (fun (l : List UInt8) (h : l.length ≤ 1000000) W => rparse_any ⟨l.toArray⟩ W (by rw [mk_size]; exact h))
  have hsz : (⟨s.toArray⟩ : ByteArray).size = s.length := mk_size s
  cases s with
  | nil =>
    clear hsz
    go_enter Tryz.func53, Tryz.ntmps53
    go_wp2_with fail
    refine (HP.out [] (by exact hs) _).mono ?_
    rintro e w1 ⟨rfl, hb1⟩
    have HR := Lib.hid (show numR (parseW (bodyR [])) (minusR []) = numR (parseW []) false by rfl)
    have HB := Lib.hid hb1
    clear hb1
    obtain ⟨p, hp⟩ : ∃ p, parseW [] = p := ⟨_, rfl⟩
    rw [hp] at HR ⊢
    clear hp HP
    cases p with
    | none =>
      have HE := Lib.hid (show numR none false = .tuple #[.int .u64 0, .bool false, .bool false] from rfl)
      rw [show wideV ((none : Option Nat).getD 0) = .agg #[.int .u64 0, .int .u64 0] from rfl, show (if (none : Option Nat).isSome = true then (0 : Int) else 10) = 10 from rfl]
      go_wp2_with fail
      have HN := Lib.hid (Blk.new w1 31 #[.int .u64 0, .int .u64 0])
      have HB2 := Lib.hid (HB.out.alloc HB.out.size (.cells #[.int .u64 0, .int .u64 0] 31))
      show Code.wp _ _ _ _ (w1.alloc (.cells #[.int .u64 0, .int .u64 0] 31))
      generalize w1.alloc (.cells #[.int .u64 0, .int .u64 0] 31) = V at HN HB2 ⊢
      obtain ⟨bn, hbn⟩ : ∃ b, w1.heap.size = b := ⟨_, rfl⟩
      rw [hbn] at HN ⊢
      have d0 := HN.out.cell 0
      have d1 := HN.out.cell 1
      simp only [List.getElem_toArray, List.getElem_cons_succ, List.getElem_cons_zero, List.getElem?_toArray, List.getElem?_cons_zero, List.getElem?_cons_succ] at d0 d1
      go_still (by kernel_rfl)
      go_wp2_with fail
      exact bodyPost_ret (v := .tuple #[.int .u64 0, .bool false, .bool false]) (by simp [results, Tryz.results53, go_sem]) rfl ⟨by rw [HR.out, HE.out], HB2.out.drew⟩
    | some v =>
      have HE := Lib.hid (show numR (some v) false = .tuple #[.int .u64 ((v % 18446744073709551616 : Nat) : Int), .bool false, .bool (decide (v / 18446744073709551616 = 0))] from rfl)
      rw [show wideV ((some v).getD 0) = .agg #[.int .u64 ((v / 18446744073709551616 : Nat) : Int), .int .u64 ((v % 18446744073709551616 : Nat) : Int)] from rfl, show (if (some v).isSome = true then (0 : Int) else 10) = 0 from rfl]
      obtain ⟨hi, hhi⟩ : ∃ q, v / 18446744073709551616 = q := ⟨_, rfl⟩
      obtain ⟨lo, hlo⟩ : ∃ q, v % 18446744073709551616 = q := ⟨_, rfl⟩
      rw [hhi, hlo] at HE ⊢
      clear hhi hlo
      by_cases h0 : hi = 0
      · have hq0 : ((hi : Int) == 0) = true := by rw [h0]; rfl
        have HE2 := Lib.hid (show decide (hi = 0) = true by simp [h0])
        clear h0
        go_wp2_with fail
        have HN := Lib.hid (Blk.new w1 31 #[.int .u64 (hi : Int), .int .u64 (lo : Int)])
        have HB2 := Lib.hid (HB.out.alloc HB.out.size (.cells #[.int .u64 (hi : Int), .int .u64 (lo : Int)] 31))
        show Code.wp _ _ _ _ (w1.alloc (.cells #[.int .u64 (hi : Int), .int .u64 (lo : Int)] 31))
        generalize w1.alloc (.cells #[.int .u64 (hi : Int), .int .u64 (lo : Int)] 31) = V at HN HB2 ⊢
        obtain ⟨bn, hbn⟩ : ∃ b, w1.heap.size = b := ⟨_, rfl⟩
        rw [hbn] at HN ⊢
        have d0 := HN.out.cell 0
        have d1 := HN.out.cell 1
        simp only [List.getElem_toArray, List.getElem_cons_succ, List.getElem_cons_zero, List.getElem?_toArray, List.getElem?_cons_zero, List.getElem?_cons_succ] at d0 d1
        go_still (by kernel_rfl)
        go_wp2_with fail
        exact bodyPost_ret (v := .tuple #[.int .u64 (lo : Int), .bool false, .bool true]) (by simp [results, Tryz.results53, go_sem]) rfl ⟨by rw [HR.out, HE.out, HE2.out], HB2.out.drew⟩
      · have hq0 : ((hi : Int) == 0) = false := by simp; omega
        have HE2 := Lib.hid (show decide (hi = 0) = false by simp [h0])
        clear h0
        go_wp2_with fail
        have HN := Lib.hid (Blk.new w1 31 #[.int .u64 (hi : Int), .int .u64 (lo : Int)])
        have HB2 := Lib.hid (HB.out.alloc HB.out.size (.cells #[.int .u64 (hi : Int), .int .u64 (lo : Int)] 31))
        show Code.wp _ _ _ _ (w1.alloc (.cells #[.int .u64 (hi : Int), .int .u64 (lo : Int)] 31))
        generalize w1.alloc (.cells #[.int .u64 (hi : Int), .int .u64 (lo : Int)] 31) = V at HN HB2 ⊢
        obtain ⟨bn, hbn⟩ : ∃ b, w1.heap.size = b := ⟨_, rfl⟩
        rw [hbn] at HN ⊢
        have d0 := HN.out.cell 0
        have d1 := HN.out.cell 1
        simp only [List.getElem_toArray, List.getElem_cons_succ, List.getElem_cons_zero, List.getElem?_toArray, List.getElem?_cons_zero, List.getElem?_cons_succ] at d0 d1
        go_still (by kernel_rfl)
        go_wp2_with fail
        exact bodyPost_ret (v := .tuple #[.int .u64 (lo : Int), .bool false, .bool false]) (by simp [results, Tryz.results53, go_sem]) rfl ⟨by rw [HR.out, HE.out, HE2.out], HB2.out.drew⟩
  | cons c s =>
    have hl2 : s.length ≤ 1000000 := by simp at hs; omega
    by_cases hc : c = 45
    · subst hc
      have hat : (⟨(45 :: s).toArray⟩ : ByteArray)[0]'(by rw [hsz]; simp) = 45 := rfl
      have hx : (⟨(45 :: s).toArray⟩ : ByteArray).extract 1 (s.length + 1) = ⟨s.toArray⟩ := by rw [Lib.extract_mk]; simp
      go_enter Tryz.func53, Tryz.ntmps53
      go_wp2_with fail
      try rw [hx]
      clear hat hx hsz hs
      refine (HP.out s (by exact hl2) _).mono ?_
      rintro e w1 ⟨rfl, hb1⟩
      have HR := Lib.hid (show numR (parseW (bodyR (45 :: s))) (minusR (45 :: s)) = numR (parseW s) true by rfl)
      have HB := Lib.hid hb1
      clear hb1
      obtain ⟨p, hp⟩ : ∃ p, parseW s = p := ⟨_, rfl⟩
      rw [hp] at HR ⊢
      clear hp HP
      cases p with
      | none =>
        have HE := Lib.hid (show numR none true = .tuple #[.int .u64 0, .bool true, .bool false] from rfl)
        rw [show wideV ((none : Option Nat).getD 0) = .agg #[.int .u64 0, .int .u64 0] from rfl, show (if (none : Option Nat).isSome = true then (0 : Int) else 10) = 10 from rfl]
        go_wp2_with fail
        have HN := Lib.hid (Blk.new w1 31 #[.int .u64 0, .int .u64 0])
        have HB2 := Lib.hid (HB.out.alloc HB.out.size (.cells #[.int .u64 0, .int .u64 0] 31))
        show Code.wp _ _ _ _ (w1.alloc (.cells #[.int .u64 0, .int .u64 0] 31))
        generalize w1.alloc (.cells #[.int .u64 0, .int .u64 0] 31) = V at HN HB2 ⊢
        obtain ⟨bn, hbn⟩ : ∃ b, w1.heap.size = b := ⟨_, rfl⟩
        rw [hbn] at HN ⊢
        have d0 := HN.out.cell 0
        have d1 := HN.out.cell 1
        simp only [List.getElem_toArray, List.getElem_cons_succ, List.getElem_cons_zero, List.getElem?_toArray, List.getElem?_cons_zero, List.getElem?_cons_succ] at d0 d1
        go_still (by kernel_rfl)
        go_wp2_with fail
        exact bodyPost_ret (v := .tuple #[.int .u64 0, .bool true, .bool false]) (by simp [results, Tryz.results53, go_sem]) rfl ⟨by rw [HR.out, HE.out], HB2.out.drew⟩
      | some v =>
        have HE := Lib.hid (show numR (some v) true = .tuple #[.int .u64 ((v % 18446744073709551616 : Nat) : Int), .bool true, .bool (decide (v / 18446744073709551616 = 0))] from rfl)
        rw [show wideV ((some v).getD 0) = .agg #[.int .u64 ((v / 18446744073709551616 : Nat) : Int), .int .u64 ((v % 18446744073709551616 : Nat) : Int)] from rfl, show (if (some v).isSome = true then (0 : Int) else 10) = 0 from rfl]
        obtain ⟨hi, hhi⟩ : ∃ q, v / 18446744073709551616 = q := ⟨_, rfl⟩
        obtain ⟨lo, hlo⟩ : ∃ q, v % 18446744073709551616 = q := ⟨_, rfl⟩
        rw [hhi, hlo] at HE ⊢
        clear hhi hlo
        by_cases h0 : hi = 0
        · have hq0 : ((hi : Int) == 0) = true := by rw [h0]; rfl
          have HE2 := Lib.hid (show decide (hi = 0) = true by simp [h0])
          clear h0
          go_wp2_with fail
          have HN := Lib.hid (Blk.new w1 31 #[.int .u64 (hi : Int), .int .u64 (lo : Int)])
          have HB2 := Lib.hid (HB.out.alloc HB.out.size (.cells #[.int .u64 (hi : Int), .int .u64 (lo : Int)] 31))
          show Code.wp _ _ _ _ (w1.alloc (.cells #[.int .u64 (hi : Int), .int .u64 (lo : Int)] 31))
          generalize w1.alloc (.cells #[.int .u64 (hi : Int), .int .u64 (lo : Int)] 31) = V at HN HB2 ⊢
          obtain ⟨bn, hbn⟩ : ∃ b, w1.heap.size = b := ⟨_, rfl⟩
          rw [hbn] at HN ⊢
          have d0 := HN.out.cell 0
          have d1 := HN.out.cell 1
          simp only [List.getElem_toArray, List.getElem_cons_succ, List.getElem_cons_zero, List.getElem?_toArray, List.getElem?_cons_zero, List.getElem?_cons_succ] at d0 d1
          go_still (by kernel_rfl)
          go_wp2_with fail
          exact bodyPost_ret (v := .tuple #[.int .u64 (lo : Int), .bool true, .bool true]) (by simp [results, Tryz.results53, go_sem]) rfl ⟨by rw [HR.out, HE.out, HE2.out], HB2.out.drew⟩
        · have hq0 : ((hi : Int) == 0) = false := by simp; omega
          have HE2 := Lib.hid (show decide (hi = 0) = false by simp [h0])
          clear h0
          go_wp2_with fail
          have HN := Lib.hid (Blk.new w1 31 #[.int .u64 (hi : Int), .int .u64 (lo : Int)])
          have HB2 := Lib.hid (HB.out.alloc HB.out.size (.cells #[.int .u64 (hi : Int), .int .u64 (lo : Int)] 31))
          show Code.wp _ _ _ _ (w1.alloc (.cells #[.int .u64 (hi : Int), .int .u64 (lo : Int)] 31))
          generalize w1.alloc (.cells #[.int .u64 (hi : Int), .int .u64 (lo : Int)] 31) = V at HN HB2 ⊢
          obtain ⟨bn, hbn⟩ : ∃ b, w1.heap.size = b := ⟨_, rfl⟩
          rw [hbn] at HN ⊢
          have d0 := HN.out.cell 0
          have d1 := HN.out.cell 1
          simp only [List.getElem_toArray, List.getElem_cons_succ, List.getElem_cons_zero, List.getElem?_toArray, List.getElem?_cons_zero, List.getElem?_cons_succ] at d0 d1
          go_still (by kernel_rfl)
          go_wp2_with fail
          exact bodyPost_ret (v := .tuple #[.int .u64 (lo : Int), .bool true, .bool false]) (by simp [results, Tryz.results53, go_sem]) rfl ⟨by rw [HR.out, HE.out, HE2.out], HB2.out.drew⟩
    · have hq : ((c.toNat : Int) == 45) = false := by
        have := c.toNat_lt
        simp only [beq_eq_false_iff_ne, ne_eq]
        intro h
        exact hc (UInt8.toNat_inj.mp (by show c.toNat = 45; omega))
      have HM := Lib.hid (show minusR (c :: s) = false by unfold minusR; simp [hc])
      have hat : (⟨(c :: s).toArray⟩ : ByteArray)[0]'(by rw [hsz]; simp) = c := rfl
      clear hc
      go_enter Tryz.func53, Tryz.ntmps53
      go_wp2_with fail
      clear hat hsz
      refine (HP.out (c :: s) (by exact hs) _).mono ?_
      rintro e w1 ⟨rfl, hb1⟩
      have HR := Lib.hid (show numR (parseW (bodyR (c :: s))) (minusR (c :: s)) = numR (parseW (c :: s)) false by unfold bodyR; rw [HM.out]; rfl)
      have HB := Lib.hid hb1
      clear hb1
      obtain ⟨p, hp⟩ : ∃ p, parseW (c :: s) = p := ⟨_, rfl⟩
      rw [hp] at HR ⊢
      clear hp HP
      cases p with
      | none =>
        have HE := Lib.hid (show numR none false = .tuple #[.int .u64 0, .bool false, .bool false] from rfl)
        rw [show wideV ((none : Option Nat).getD 0) = .agg #[.int .u64 0, .int .u64 0] from rfl, show (if (none : Option Nat).isSome = true then (0 : Int) else 10) = 10 from rfl]
        go_wp2_with fail
        have HN := Lib.hid (Blk.new w1 31 #[.int .u64 0, .int .u64 0])
        have HB2 := Lib.hid (HB.out.alloc HB.out.size (.cells #[.int .u64 0, .int .u64 0] 31))
        show Code.wp _ _ _ _ (w1.alloc (.cells #[.int .u64 0, .int .u64 0] 31))
        generalize w1.alloc (.cells #[.int .u64 0, .int .u64 0] 31) = V at HN HB2 ⊢
        obtain ⟨bn, hbn⟩ : ∃ b, w1.heap.size = b := ⟨_, rfl⟩
        rw [hbn] at HN ⊢
        have d0 := HN.out.cell 0
        have d1 := HN.out.cell 1
        simp only [List.getElem_toArray, List.getElem_cons_succ, List.getElem_cons_zero, List.getElem?_toArray, List.getElem?_cons_zero, List.getElem?_cons_succ] at d0 d1
        go_still (by kernel_rfl)
        go_wp2_with fail
        exact bodyPost_ret (v := .tuple #[.int .u64 0, .bool false, .bool false]) (by simp [results, Tryz.results53, go_sem]) rfl ⟨by rw [HR.out, HE.out], HB2.out.drew⟩
      | some v =>
        have HE := Lib.hid (show numR (some v) false = .tuple #[.int .u64 ((v % 18446744073709551616 : Nat) : Int), .bool false, .bool (decide (v / 18446744073709551616 = 0))] from rfl)
        rw [show wideV ((some v).getD 0) = .agg #[.int .u64 ((v / 18446744073709551616 : Nat) : Int), .int .u64 ((v % 18446744073709551616 : Nat) : Int)] from rfl, show (if (some v).isSome = true then (0 : Int) else 10) = 0 from rfl]
        obtain ⟨hi, hhi⟩ : ∃ q, v / 18446744073709551616 = q := ⟨_, rfl⟩
        obtain ⟨lo, hlo⟩ : ∃ q, v % 18446744073709551616 = q := ⟨_, rfl⟩
        rw [hhi, hlo] at HE ⊢
        clear hhi hlo
        by_cases h0 : hi = 0
        · have hq0 : ((hi : Int) == 0) = true := by rw [h0]; rfl
          have HE2 := Lib.hid (show decide (hi = 0) = true by simp [h0])
          clear h0
          go_wp2_with fail
          have HN := Lib.hid (Blk.new w1 31 #[.int .u64 (hi : Int), .int .u64 (lo : Int)])
          have HB2 := Lib.hid (HB.out.alloc HB.out.size (.cells #[.int .u64 (hi : Int), .int .u64 (lo : Int)] 31))
          show Code.wp _ _ _ _ (w1.alloc (.cells #[.int .u64 (hi : Int), .int .u64 (lo : Int)] 31))
          generalize w1.alloc (.cells #[.int .u64 (hi : Int), .int .u64 (lo : Int)] 31) = V at HN HB2 ⊢
          obtain ⟨bn, hbn⟩ : ∃ b, w1.heap.size = b := ⟨_, rfl⟩
          rw [hbn] at HN ⊢
          have d0 := HN.out.cell 0
          have d1 := HN.out.cell 1
          simp only [List.getElem_toArray, List.getElem_cons_succ, List.getElem_cons_zero, List.getElem?_toArray, List.getElem?_cons_zero, List.getElem?_cons_succ] at d0 d1
          go_still (by kernel_rfl)
          go_wp2_with fail
          exact bodyPost_ret (v := .tuple #[.int .u64 (lo : Int), .bool false, .bool true]) (by simp [results, Tryz.results53, go_sem]) rfl ⟨by rw [HR.out, HE.out, HE2.out], HB2.out.drew⟩
        · have hq0 : ((hi : Int) == 0) = false := by simp; omega
          have HE2 := Lib.hid (show decide (hi = 0) = false by simp [h0])
          clear h0
          go_wp2_with fail
          have HN := Lib.hid (Blk.new w1 31 #[.int .u64 (hi : Int), .int .u64 (lo : Int)])
          have HB2 := Lib.hid (HB.out.alloc HB.out.size (.cells #[.int .u64 (hi : Int), .int .u64 (lo : Int)] 31))
          show Code.wp _ _ _ _ (w1.alloc (.cells #[.int .u64 (hi : Int), .int .u64 (lo : Int)] 31))
          generalize w1.alloc (.cells #[.int .u64 (hi : Int), .int .u64 (lo : Int)] 31) = V at HN HB2 ⊢
          obtain ⟨bn, hbn⟩ : ∃ b, w1.heap.size = b := ⟨_, rfl⟩
          rw [hbn] at HN ⊢
          have d0 := HN.out.cell 0
          have d1 := HN.out.cell 1
          simp only [List.getElem_toArray, List.getElem_cons_succ, List.getElem_cons_zero, List.getElem?_toArray, List.getElem?_cons_zero, List.getElem?_cons_succ] at d0 d1
          go_still (by kernel_rfl)
          go_wp2_with fail
          exact bodyPost_ret (v := .tuple #[.int .u64 (lo : Int), .bool false, .bool false]) (by simp [results, Tryz.results53, go_sem]) rfl ⟨by rw [HR.out, HE.out, HE2.out], HB2.out.drew⟩
end Go.Proofs.YtokpgopdkimmmaaGreatDoor
/- The document's answer of layer 27: the words of a line. -/
namespace Go.Proofs.YtokpgopdkimmmaaGreatDoor
open Go.RowKit
set_option linter.unusedVariables false
set_option linter.unusedSimpArgs false

theorem splitW_blank : ∀ l : List UInt8, splitW (l ++ [32]) = splitW l ++ [[]]
  | [] => rfl
  | c :: l => by
    rw [List.cons_append, splitW, splitW, splitW_blank l]
    split
    · rfl
    · cases h : splitW l with
      | nil => exact absurd h (splitW_ne l)
      | cons w ws => rfl
theorem splitW_char (c : UInt8) (hc : c ≠ 32) : ∀ (l : List UInt8) (init : List (List UInt8)) (last : List UInt8), splitW l = init ++ [last] → splitW (l ++ [c]) = init ++ [last ++ [c]]
  | [], init, last, h => by
    have h2 : init = [] ∧ last = [] := by
      cases init with
      | nil => simpa [splitW] using h.symm
      | cons a t => simp [splitW] at h
    obtain ⟨rfl, rfl⟩ := h2
    simp [splitW, hc]
  | d :: l, init, last, h => by
    rw [splitW] at h
    rw [List.cons_append, splitW]
    by_cases hd : d = 32
    · rw [if_pos hd] at h ⊢
      cases init with
      | nil =>
        have := splitW_ne l
        simp at h
        exact absurd h.2 this
      | cons a t =>
        simp only [List.cons_append, List.cons.injEq] at h
        rw [splitW_char c hc l t last h.2, ← h.1]
        rfl
    · rw [if_neg hd] at h ⊢
      cases hs : splitW l with
      | nil => exact absurd hs (splitW_ne l)
      | cons w ws =>
        rw [hs] at h
        simp only at h
        cases init with
        | nil =>
          simp only [List.nil_append, List.cons.injEq] at h
          rw [splitW_char c hc l [] w (by rw [hs, h.2]; rfl), ← h.1]
          rfl
        | cons a t =>
          simp only [List.cons_append, List.cons.injEq] at h
          rw [splitW_char c hc l (w :: t) last (by rw [hs, h.2]; rfl), ← h.1]
          rfl
abbrev strV (l : List UInt8) : Value := .string ⟨l.toArray⟩
def strVs (l : List (List UInt8)) : List Value := l.map strV
theorem strVs_len (l : List (List UInt8)) : (strVs l).length = l.length := by simp [strVs]
theorem strVs_app (a b : List (List UInt8)) : strVs (a ++ b) = strVs a ++ strVs b := by simp [strVs]
theorem strVs_one (l : List (List UInt8)) : ∀ u ∈ strVs l, u.oneCell' = true := by
  intro u hu
  obtain ⟨n, _, rfl⟩ := List.mem_map.1 hu
  rfl
theorem wrap_i64 (x : Int) : IntKind.i64.wrap x = (x + 9223372036854775808) % 18446744073709551616 - 9223372036854775808 := IntKind.wrap_i64 x
theorem take_snocB (s : ByteArray) (k : Nat) (h : k < s.size) : s.data.toList.take (k + 1) = s.data.toList.take k ++ [s[k]] := by
  rw [List.take_succ_eq_append_getElem (by simpa using h)]; rfl
theorem cat_one (last : List UInt8) (s : ByteArray) (k : Nat) (h : k < s.size) : (⟨last.toArray⟩ : ByteArray) ++ s.extract k (k + 1) = ⟨(last ++ [s[k]]).toArray⟩ := by
  obtain ⟨⟨l⟩⟩ := s
  have hk : k < l.length := by simpa [ByteArray.size] using h
  rw [show (⟨{ toList := l }⟩ : ByteArray).extract k (k + 1) = ⟨((l.drop k).take (k + 1 - k)).toArray⟩ from Lib.extract_mk l k (k + 1), cat_mk]
  rw [List.drop_eq_getElem_cons hk, show k + 1 - k = 1 by omega]
  rfl
theorem own_pos {w : World} {B : Nat} {e : TypeId} {v : Value} {n : Nat} {xs : List Value} (h : w.ownsRow B e 1 v n xs) (hn : 0 < n) : ∃ g cap, v = .slice (some ⟨g, 0, none⟩) n cap := by
  obtain ⟨g, cap, hv, _⟩ := h.form hn
  exact ⟨g, cap, hv⟩
set_option maxRecDepth 100000 in
set_option maxHeartbeats 4000000 in
theorem rsplitB_any (s : ByteArray) (hs : s.size ≤ 1000000) (w : World) : Calls Tryz.prog 51 #[.string s] w fun e w' => ∃ v, e = .returned v ∧ w'.ownsRow w.heap.size 9 1 v (splitW s.data.toList).length (strVs (splitW s.data.toList)) ∧ Below w.heap.size w w' := by
  obtain ⟨i0, hi, hzz, hz1, hz2⟩ := info_parts infoStr
  have HO := Lib.hid (show (w.alloc (.cells #[.string ⟨#[]⟩] 9)).ownsRow w.heap.size 9 1 (.slice (some ⟨w.heap.size, 0, none⟩) 1 1) 1 (strVs [[]]) from World.ownsRow_lit w #[.string ⟨#[]⟩] 1 (Nat.le_refl _) (by unfold maxLen; omega) rfl)
  have HB := Lib.hid ((Below.refl w.heap.size w).alloc (Nat.le_refl _) (.cells #[.string ⟨#[]⟩] 9))
  go_enter Tryz.func51, Tryz.ntmps51
  go_wp2_with fail
  go_loopw [3, 4] (fun v3 v4 wr => ∃ (k n c g : Nat) (init : List (List UInt8)) (last : List UInt8), k ≤ s.size ∧ v4 = .int .i64 (k : Int) ∧ v3 = .slice (some ⟨g, 0, none⟩) n c ∧ n = init.length + 1 ∧ n ≤ k + 1 ∧ last.length ≤ k ∧ Hid (splitW (s.data.toList.take k) = init ++ [last]) ∧ Hid (wr.ownsRow w.heap.size 9 1 (.slice (some ⟨g, 0, none⟩) n c) n (strVs (init ++ [last]))) ∧ Hid (Below w.heap.size w wr)) (fun _ v4 _ => s.size - (intOf v4).toNat)
  case atStart => exact ⟨0, 1, 1, w.heap.size, [], [], Nat.zero_le _, rfl, rfl, rfl, by omega, by simp, Lib.hid rfl, HO, HB⟩
  case round =>
    clear HO HB
    obtain ⟨k, n, c, g, init, last, hk, rfl, rfl, hn, hnk, hll, HS, HO, HB⟩ := hrel
    have HN := Lib.hid hn
    have hn1 : init.length + 1 ≤ n := by omega
    have hn2 : n ≤ init.length + 1 := by omega
    clear hn
    by_cases hlt : k < s.size
    · have HT := Lib.hid (take_snocB s k hlt)
      have HC := Lib.hid (cat_one last s k hlt)
      obtain ⟨c0, hc0⟩ : ∃ c0, s[k] = c0 := ⟨_, rfl⟩
      rw [hc0] at HT HC
      by_cases h32 : c0 = 32
      · subst h32
        have HS2 := Lib.hid (show splitW (s.data.toList.take (k + 1)) = (init ++ [last]) ++ [[]] by rw [HT.out, splitW_blank, HS.out])
        clear HC
        go_wp2_with (at_builtin; refine wpList_append_any _ rfl (.tmp 16) (.tmp 17) 47 rfl w.heap.size 9 i0 (.string ⟨#[]⟩) 1 16 Tryz.underlying47 hi hzz hz1 hz2 rfl (by decide) _ _ _ rfl (HO.out.alloc _) (wr.heap.size + 1) (some ⟨wr.heap.size, 0, none⟩) 1 1 (strVs [[]]) rfl (reads_new wr _ _) (strVs_one _) (by unfold maxLen; omega) (by omega) (by have := HB.out.size; simp; omega) ?_)
        intro v1 w1 hown1 hgrow hat
        rw [← strVs_app] at hown1
        obtain ⟨g1, cap1, rfl⟩ := own_pos hown1 (by omega)
        have HB1 := Lib.hid ((HB.out.alloc HB.out.size _).grown hgrow (by have := HB.out.size; simp; omega) (fun r hr => (HO.out.lt r hr).1))
        have HO1 := Lib.hid hown1
        clear hown1 hgrow hat HO HB
        go_wp2_with fail
        go_roundw
        case rel => exact ⟨k + 1, n + 1, cap1, g1, init ++ [last], [], by omega, by go_num, by first | rfl | trivial, by simp; omega, by omega, by simp, HS2, HO1, HB1⟩
        case measure => simp [intOf] <;> omega
      · have HS2 := Lib.hid (show splitW (s.data.toList.take (k + 1)) = init ++ [last ++ [c0]] by rw [HT.out]; exact splitW_char c0 h32 _ _ _ HS.out)
        have hcell : wr.cell? ⟨g, init.length, none⟩ = some (.string ⟨last.toArray⟩) := by
          rw [HO.out.cellAt init.length (by omega)]
          simp [strVs]
        have hfr : wr.frozen? ⟨g, init.length, none⟩ = false := HO.out.frozenAt _
        have hcat := HC.out
        have hne : ¬ ((c0.toNat : Int) = 32) := fun h => h32 (UInt8.toNat_inj.1 (by have e : (32 : UInt8).toNat = 32 := rfl; omega))
        have hq : ((c0.toNat : Int) == 32) = false := by simpa using hne
        have hsub : (n : Int) - 1 = (init.length : Int) := by omega
        have HST := Lib.hid (HO.out.stored init.length (strV (last ++ [c0])))
        have HSE := Lib.hid (show (strVs (init ++ [last])).set init.length (strV (last ++ [c0])) = strVs (init ++ [last ++ [c0]]) by
          rw [strVs_app, strVs_app, List.set_append_right init.length (strV (last ++ [c0])) (by rw [strVs_len]; exact Nat.le_refl _), strVs_len, Nat.sub_self]
          rfl)
        have HBS := Lib.hid (HB.out.setCell (p := ⟨g, init.length, none⟩) (HO.out.lt g rfl).1 (strV (last ++ [c0])))
        have hx1 : (k : Int) + 1 < 9223372036854775807 := by omega
        have hle : k + 1 ≤ s.size := by omega
        have hinl : init.length < n := by omega
        have hw1 : IntKind.i64.wrap (init.length : Int) = (init.length : Int) := by rw [wrap_i64]; omega
        have hw2 : IntKind.i64.wrap ((k : Int) + 1) = (k : Int) + 1 := by rw [wrap_i64]; omega
        have hsl : ∀ W, (Instr.slice 9 (.string s) (some (.int .i64 (k : Int))) (some (.int .i64 ((k : Int) + 1))) none).run Tryz.prog W = .ok (.string (s.extract k (k + 1))) W := fun W => by
          have h := run_slice_string (P := Tryz.prog) (w := W) 9 s .i64 .i64 (k : Int) ((k : Int) + 1) Tryz.underlying9 (by omega) (by omega) (by omega)
          rw [h]
          rfl
        have hadd : ∀ W, (Op.stringOp .add ⟨last.toArray⟩ (s.extract k (k + 1))).run Tryz.prog W = .ok (.string ⟨(last ++ [c0]).toArray⟩) W := fun W => by
          rw [run_string_add, hcat]
          all_goals first | (rw [mk_size]; omega) | (rw [ByteArray.size_extract]; omega)
        clear HO HB HC HT hcat
        go_wp2_with fail
        go_still_tail 17, (by kernel_rfl)
        go_wp2_with fail
        go_roundw
        case rel => exact ⟨k + 1, n, c, g, init, last ++ [c0], by omega, by go_num, by first | rfl | trivial, HN.out, by omega, by rw [List.length_append, List.length_singleton]; omega, HS2, Lib.hid (by rw [← HSE.out]; exact World.ownsRow.drew HST.out.1), Lib.hid (Below.drew HBS.out)⟩
        case measure => simp [intOf] <;> omega
    · have HE := Lib.hid (show splitW s.data.toList = init ++ [last] by rw [← HS.out, List.take_of_length_le (by rw [show s.data.toList.length = s.size from by rw [Array.length_toList]; rfl]; omega)])
      go_wp2_with fail
      go_ret
      exact ⟨_, rfl, by rw [HE.out]; have h := HO.out; rw [show (init ++ [last]).length = n by rw [List.length_append, List.length_singleton]; omega]; exact h, HB.out⟩
end Go.Proofs.YtokpgopdkimmmaaGreatDoor
/- The document's answer of layer 27: the bytes of operations. -/
namespace Go.Proofs.YtokpgopdkimmmaaGreatDoor
open Go.RowKit
set_option linter.unusedVariables false
set_option linter.unusedSimpArgs false

/-- The byte behind the code that stands j-th. -/
def byteAt (o : OpV) (q r : Nat) : Nat := u64N (o.num q) / 256 ^ (7 - r) % 256
theorem opBytes_at (o : OpV) : ∀ (q : Fin 4) (r : Fin 8), (opBytes o)[1 + (8 * q.val + r.val)]? = some (byteAt o q.val r.val) := by
  obtain ⟨k, a, b, c, d, i⟩ := o
  intro ⟨q, hq⟩ ⟨r, hr⟩
  rcases (show q = 0 ∨ q = 1 ∨ q = 2 ∨ q = 3 by omega) with rfl | rfl | rfl | rfl <;>
    rcases (show r = 0 ∨ r = 1 ∨ r = 2 ∨ r = 3 ∨ r = 4 ∨ r = 5 ∨ r = 6 ∨ r = 7 by omega) with rfl | rfl | rfl | rfl | rfl | rfl | rfl | rfl <;> rfl
theorem opBytes_take (o : OpV) (q r : Nat) (hq : q < 4) (hr : r < 8) : (opBytes o).take (1 + (8 * q + r) + 1) = (opBytes o).take (1 + (8 * q + r)) ++ [byteAt o q r] := by
  rw [List.take_add_one, opBytes_at o ⟨q, hq⟩ ⟨r, hr⟩]
  rfl
theorem opBytes_last (o : OpV) : opBytes o = (opBytes o).take 33 ++ [o.id / 16777216 % 256, o.id / 65536 % 256, o.id / 256 % 256, o.id % 256] := by
  conv => lhs; rw [← List.take_append_drop 33 (opBytes o)]
  congr 1
  obtain ⟨k, a, b, c, d, i⟩ := o
  show beN 4 i = _
  simp [beN]
theorem opBytes_first (o : OpV) : (opBytes o).take 1 = [o.k] := rfl
theorem byte_shift (o : OpV) (q r : Nat) (hr : r < 8) : IntKind.u64.wrap (o.num q) / 2 ^ (56 - r * 8) % 256 = ((byteAt o q r : Nat) : Int) := by
  rw [u64_wrap]
  unfold byteAt
  generalize u64N (o.num q) = x
  rcases (show r = 0 ∨ r = 1 ∨ r = 2 ∨ r = 3 ∨ r = 4 ∨ r = 5 ∨ r = 6 ∨ r = 7 by omega) with rfl | rfl | rfl | rfl | rfl | rfl | rfl | rfl
  all_goals
    simp only [Nat.zero_mul, Nat.reduceMul, Nat.reduceSub, Nat.reducePow, Int.reducePow, Nat.sub_zero]
    omega
set_option maxRecDepth 100000 in
set_option maxHeartbeats 4000000 in
theorem rbytes_any (ls : List OpV) (hok : ∀ o ∈ ls, o.ok) (hl : ls.length ≤ 1000) (A : Option Addr) (cap : Nat) (w : World) (hA : RecRow w OpV.cells 6 A ls) :
    Calls Tryz.prog 9 #[.slice A ls.length cap] w fun e w' => ∃ v, e = .returned v ∧ w'.ownsRow w.heap.size 5 1 v (bytesL ls).length (bvals (bytesL ls)) ∧ Below w.heap.size w w' := by
  obtain ⟨i0, hi, hzz, hz1, hz2⟩ := info_parts infoU8
  have HA := Lib.hid hA
  have HK := Lib.hid hok
  clear hA hok
  go_enter Tryz.func9, Tryz.ntmps9
  go_wp2_with fail
  go_loopw [3, 4] (fun v3 v4 wr => ∃ (k n : Nat) (a : Option Addr) (c : Nat), k ≤ ls.length ∧ v4 = .int .i64 (k : Int) ∧ v3 = .slice a n c ∧ Hid (n = (bytesL (ls.take k)).length) ∧ n ≤ 37 * k ∧ Hid (wr.ownsRow w.heap.size 5 1 (.slice a n c) n (bvals (bytesL (ls.take k)))) ∧ Hid (Below w.heap.size w wr)) (fun _ v4 _ => ls.length - (intOf v4).toNat)
  case atStart => exact ⟨0, 0, none, 0, Nat.zero_le _, rfl, rfl, Lib.hid rfl, by omega, Lib.hid (World.ownsRow_nil _ _ _ _), Lib.hid (Below.refl _ _)⟩
  case round =>
    obtain ⟨k, n, a, c, hk, rfl, rfl, HN, hn, HO, HB⟩ := hrel
    obtain ⟨wo, rfl⟩ : ∃ wo : World, wo = wr := ⟨_, rfl⟩
    by_cases hlt : k < ls.length
    · obtain ⟨o, hoo⟩ : ∃ o, ls[k]? = some o := ⟨ls[k], List.getElem?_eq_getElem hlt⟩
      obtain ⟨g, lo, rfl, hg, hcs⟩ := RecRow.at_ HA.out hoo
      have HOK := Lib.hid (HK.out o (List.mem_of_getElem? hoo))
      have HTK := Lib.hid (show bytesL (ls.take (k + 1)) = bytesL (ls.take k) ++ opBytes o by rw [List.take_add_one, hoo]; exact bytesL_snoc _ _)
      have HC := Lib.hid (fun j hj => (hcs j hj))
      have hk256 := HOK.out.k
      have HG := Lib.hid hg
      have c0 : wo.cell? ⟨g, lo + k * 6, none⟩ = some (.int .u8 (o.k : Int)) := (HB.out.cell (p := ⟨g, lo + k * 6, none⟩) hg).trans (hcs 0 (by decide))
      obtain ⟨done, hdone⟩ : ∃ d, bytesL (ls.take k) = d := ⟨_, rfl⟩
      rw [hdone] at HN HO HTK
      clear hcs hoo hdone
      go_wp2_with (at_builtin; refine wpList_append_any _ rfl (.tmp 13) (.tmp 19) 26 rfl w.heap.size 5 i0 (.int .u8 0) 1 1 Tryz.underlying26 hi hzz hz1 hz2 rfl (by decide) _ _ _ rfl (HO.out.alloc _) (wo.heap.size + 1) (some ⟨wo.heap.size, 0, none⟩) 1 1 (bvals [o.k]) rfl (reads_new wo _ _) (bvals_one _) (by unfold maxLen; omega) (by omega) (by have := HB.out.size; simp; omega) ?_)
      intro v1 w1 hown1 hgrow hat
      obtain ⟨a1, k1, rfl⟩ := own_shape hown1
      rw [← bvals_app] at hown1
      have HB1 := Lib.hid ((HB.out.alloc HB.out.size _).grown hgrow (by have := HB.out.size; simp; omega) (fun r hr => (HO.out.lt r hr).1))
      have HO1 := Lib.hid (show w1.ownsRow w.heap.size 5 1 (.slice a1 (n + 1) k1) (n + 1) (bvals (done ++ (opBytes o).take (1 + 0))) from hown1)
      clear hown1 hgrow hat HO HB c0
      go_wp2_with fail
      go_loopw [3, 5] (fun v3 v5 wi => ∃ (j m : Nat) (a : Option Addr) (c : Nat), j ≤ 32 ∧ v5 = .int .i64 (j : Int) ∧ v3 = .slice a m c ∧ m = n + 1 + j ∧ Hid (wi.ownsRow w.heap.size 5 1 (.slice a m c) m (bvals (done ++ (opBytes o).take (1 + j)))) ∧ Hid (Below w.heap.size w wi)) (fun _ v5 _ => 32 - (intOf v5).toNat)
      case atStart => exact ⟨0, n + 1, a1, k1, by omega, rfl, rfl, rfl, HO1, HB1⟩
      case round =>
        clear HO1 HB1
        obtain ⟨j, m, a2, c2, hj, rfl, rfl, hm, HO, HB⟩ := hrel
        have HM := Lib.hid hm
        have hmb : m ≤ 37 * k + 33 := by omega
        have hm2 : m + 1 = n + 1 + (j + 1) := by omega
        have HM2 := Lib.hid hm2
        clear hm hm2
        by_cases h32 : j < 32
        · obtain ⟨q, r, hq, hr, hjq⟩ : ∃ q r : Nat, q < 4 ∧ r < 8 ∧ j = 8 * q + r := ⟨j / 8, j % 8, by omega, by omega, by omega⟩
          have hdiv : (j : Int) / 8 = (q : Int) := by omega
          have hmod : (j : Int) % 8 = (r : Int) := by omega
          have hj32 : (j : Int) < 32 := by omega
          have HT := Lib.hid (show (opBytes o).take (1 + (j + 1)) = (opBytes o).take (1 + j) ++ [byteAt o q r] by rw [hjq]; exact opBytes_take o q r hq hr)
          have hcs : ∀ j, j < 6 → wr.cell? ⟨g, lo + k * 6 + j, none⟩ = o.cells[j]? := fun j hj => (HB.out.cell (p := ⟨g, lo + k * 6 + j, none⟩) HG.out).trans (HC.out j hj)
          have c0 : wr.cell? ⟨g, lo + k * 6, none⟩ = some (.int .u8 (o.k : Int)) := hcs 0 (by decide)
          have c1 : wr.cell? ⟨g, lo + k * 6 + 1, none⟩ = some (.int .i64 o.a) := hcs 1 (by decide)
          have c2' : wr.cell? ⟨g, lo + k * 6 + 2, none⟩ = some (.int .i64 o.b) := hcs 2 (by decide)
          have c3 : wr.cell? ⟨g, lo + k * 6 + 3, none⟩ = some (.int .i64 o.c) := hcs 3 (by decide)
          have c4 : wr.cell? ⟨g, lo + k * 6 + 4, none⟩ = some (.int .i64 o.d) := hcs 4 (by decide)
          have c5 : wr.cell? ⟨g, lo + k * 6 + 5, none⟩ = some (.int .u32 (o.id : Int)) := hcs 5 (by decide)
          clear hcs hjq
          go_wp2_with fail
          refine (rfour_any o _).mono ?_
          rintro e w3 ⟨g4, rfl, hg4, hg4l, hb3⟩
          have HO3 := Lib.hid (own_below HO.out hb3)
          have HB3 := Lib.hid (bl HB.out HB.out.size hb3)
          have c4q : w3.cell? ⟨g4, q, none⟩ = some (.int .i64 (o.num q)) := by
            rw [Blk.cell hg4 q]
            rcases (show q = 0 ∨ q = 1 ∨ q = 2 ∨ q = 3 by omega) with rfl | rfl | rfl | rfl <;> rfl
          have hbyte := byte_shift o q r hr
          have HW3 := Lib.hid HB3.out.size
          clear hg4 hb3 c0 c1 c2' c3 c4 c5 HO HB
          go_wp2_with (at_builtin; refine wpList_append_any _ rfl (.tmp 25) (.tmp 43) 26 rfl w.heap.size 5 i0 (.int .u8 0) 1 1 Tryz.underlying26 hi hzz hz1 hz2 rfl (by decide) _ _ _ rfl (HO3.out.alloc _) (w3.heap.size + 1) (some ⟨w3.heap.size, 0, none⟩) 1 1 (bvals [byteAt o q r]) rfl (reads_new w3 _ _) (bvals_one _) (by unfold maxLen; omega) (by omega) (by have := HW3.out; simp; omega) ?_)
          intro v1 w1 hown1 hgrow hat
          obtain ⟨a4, k4, rfl⟩ := own_shape hown1
          rw [← bvals_app] at hown1
          have HB4 := Lib.hid ((HB3.out.alloc HB3.out.size _).grown hgrow (by have := HW3.out; simp; omega) (fun r hr => (HO3.out.lt r hr).1))
          have HO4 := Lib.hid (show w1.ownsRow w.heap.size 5 1 (.slice a4 (m + 1) k4) (m + 1) (bvals (done ++ (opBytes o).take (1 + (j + 1)))) by rw [HT.out, ← List.append_assoc]; exact hown1)
          clear hown1 hgrow hat HO3 HB3 HW3 hbyte
          go_wp2_with fail
          go_roundw
          case rel => exact ⟨j + 1, m + 1, a4, k4, by omega, by go_num, by first | rfl | trivial, HM2.out, HO4, HB4⟩
          case measure => simp [intOf] <;> omega
        · obtain rfl : j = 32 := by omega
          have c5 : wr.cell? ⟨g, lo + k * 6 + 5, none⟩ = some (.int .u32 (o.id : Int)) := (HB.out.cell (p := ⟨g, lo + k * 6 + 5, none⟩) HG.out).trans (HC.out 5 (by decide))
          have hid := HOK.out.id
          have HW3 := Lib.hid HB.out.size
          have HL4 := Lib.hid (opBytes_last o)
          obtain ⟨i1, hi1⟩ : ∃ n, o.id / 16777216 % 256 = n := ⟨_, rfl⟩
          obtain ⟨i2, hi2⟩ : ∃ n, o.id / 65536 % 256 = n := ⟨_, rfl⟩
          obtain ⟨i3, hi3⟩ : ∃ n, o.id / 256 % 256 = n := ⟨_, rfl⟩
          obtain ⟨i4, hi4⟩ : ∃ n, o.id % 256 = n := ⟨_, rfl⟩
          rw [hi1, hi2, hi3, hi4] at HL4
          have e1 : (o.id : Int) / 16777216 = (i1 : Int) := by omega
          have e2 : ((o.id : Int) / 65536) % 256 = (i2 : Int) := by omega
          have e3 : ((o.id : Int) / 256) % 256 = (i3 : Int) := by omega
          have e4 : (o.id : Int) % 256 = (i4 : Int) := by omega
          clear hi1 hi2 hi3 hi4
          have HNK := Lib.hid (show n + 1 + 32 + 4 ≤ 37 * (k + 1) by omega)
          have HMM := Lib.hid (show (done ++ opBytes o).length = m + 4 by rw [List.length_append, opBytes_len]; have h1 := HN.out; have h2 := HM.out; omega)
          have HRD := Lib.hid (show Reads (wr.alloc (.cells #[.int .u8 (i1 : Int), .int .u8 (i2 : Int), .int .u8 (i3 : Int), .int .u8 (i4 : Int)] 5)) (wr.heap.size + 1) 1 (some ⟨wr.heap.size, 0, none⟩) 4 (bvals [i1, i2, i3, i4]) from reads_cells wr #[.int .u8 (i1 : Int), .int .u8 (i2 : Int), .int .u8 (i3 : Int), .int .u8 (i4 : Int)] _ 4 1 rfl)
          go_wp2_with (at_builtin; refine wpList_append_any _ rfl (.tmp 50) (.tmp 65) 26 rfl w.heap.size 5 i0 (.int .u8 0) 1 1 Tryz.underlying26 hi hzz hz1 hz2 rfl (by decide) _ _ _ rfl (HO.out.alloc _) (wr.heap.size + 1) (some ⟨wr.heap.size, 0, none⟩) 4 4 (bvals [i1, i2, i3, i4]) rfl HRD.out (bvals_one _) (by unfold maxLen; omega) (by omega) (by have := HW3.out; simp; omega) ?_)
          intro v1 w1 hown1 hgrow hat
          obtain ⟨a4, k4, rfl⟩ := own_shape hown1
          rw [← bvals_app] at hown1
          have HB4 := Lib.hid ((HB.out.alloc HB.out.size _).grown hgrow (by have := HW3.out; simp; omega) (fun r hr => (HO.out.lt r hr).1))
          have HO4 := Lib.hid (show w1.ownsRow w.heap.size 5 1 (.slice a4 (m + 4) k4) (m + 4) (bvals (done ++ opBytes o)) by rw [HL4.out, ← List.append_assoc]; exact hown1)
          clear hown1 hgrow hat HO HB HW3 c5 e1 e2 e3 e4
          go_wp2_with fail
          go_roundw
          case rel => exact ⟨k + 1, m + 4, a4, k4, by omega, by go_num, by first | rfl | trivial, Lib.hid (by rw [HTK.out]; exact HMM.out.symm), by have h1 := HNK.out; have h2 := HM.out; omega, Lib.hid (by rw [HTK.out]; exact HO4.out), HB4⟩
          case measure => simp [intOf] <;> omega
    · obtain rfl : k = ls.length := by omega
      have HE := Lib.hid (show bytesL (ls.take ls.length) = bytesL ls by rw [List.take_length])
      go_wp2_with fail
      go_ret
      exact ⟨_, rfl, by have h := HO.out; rw [HN.out, HE.out] at h; rw [HN.out, HE.out]; exact h, HB.out⟩
end Go.Proofs.YtokpgopdkimmmaaGreatDoor
/- The document's answer of layer 27: the operations of bytes. -/
namespace Go.Proofs.YtokpgopdkimmmaaGreatDoor
open Go.RowKit
set_option linter.unusedVariables false
set_option linter.unusedSimpArgs false

/-- What stands in the q-th number behind j bytes. -/
def nv (b : List Nat) (q j : Nat) : Int := s64 (deN ((b.drop (1 + 8 * q)).take (min 8 (j - 8 * q))))
def nvs (b : List Nat) (j : Nat) : Array Value := #[.int .i64 (nv b 0 j), .int .i64 (nv b 1 j), .int .i64 (nv b 2 j), .int .i64 (nv b 3 j)]
theorem nv_zero (b : List Nat) (q : Nat) : nv b q 0 = 0 := by unfold nv; simp [deN, deF, s64]
theorem nvs_zero (b : List Nat) : nvs b 0 = #[.int .i64 0, .int .i64 0, .int .i64 0, .int .i64 0] := by unfold nvs; simp only [nv_zero]
theorem nv_other (b : List Nat) (p q r : Nat) (hr : r < 8) (hne : p ≠ q) : nv b p (8 * q + r + 1) = nv b p (8 * q + r) := by
  unfold nv
  rw [show min 8 (8 * q + r + 1 - 8 * p) = min 8 (8 * q + r - 8 * p) by omega]
theorem nvs_set (b : List Nat) (q r : Nat) (hq : q < 4) (hr : r < 8) : (nvs b (8 * q + r)).setIfInBounds q (.int .i64 (nv b q (8 * q + r + 1))) = nvs b (8 * q + r + 1) := by
  have h := fun p hne => nv_other b p q r hr hne
  rcases (show q = 0 ∨ q = 1 ∨ q = 2 ∨ q = 3 by omega) with rfl | rfl | rfl | rfl
  · unfold nvs; rw [h 1 (by decide), h 2 (by decide), h 3 (by decide)]; rfl
  · unfold nvs; rw [h 0 (by decide), h 2 (by decide), h 3 (by decide)]; rfl
  · unfold nvs; rw [h 0 (by decide), h 1 (by decide), h 3 (by decide)]; rfl
  · unfold nvs; rw [h 0 (by decide), h 1 (by decide), h 2 (by decide)]; rfl
theorem nvs_at (b : List Nat) (q j : Nat) (hq : q < 4) : (nvs b j)[q]? = some (.int .i64 (nv b q j)) := by
  rcases (show q = 0 ∨ q = 1 ∨ q = 2 ∨ q = 3 by omega) with rfl | rfl | rfl | rfl <;> rfl
theorem s64_byte (n y : Nat) (h : n * 256 + y < 18446744073709551616) : IntKind.i64.wrap (IntKind.i64.wrap (s64 n * 256) + (y : Int)) = s64 (n * 256 + y) := by
  rw [wrap_i64, wrap_i64]
  unfold s64
  split <;> split <;> omega
theorem nv_step (b : List Nat) (hb : ∀ x ∈ b, x < 256) (q r y : Nat) (hq : q < 4) (hr : r < 8) (hy : b[1 + (8 * q + r)]? = some y) : IntKind.i64.wrap (IntKind.i64.wrap (nv b q (8 * q + r) * 256) + (y : Int)) = nv b q (8 * q + r + 1) := by
  have h1 : min 8 (8 * q + r - 8 * q) = r := by omega
  have h2 : min 8 (8 * q + r + 1 - 8 * q) = r + 1 := by omega
  have hyd : (b.drop (1 + 8 * q))[r]? = some y := by rw [List.getElem?_drop, Nat.add_assoc]; exact hy
  have h3 : deN ((b.drop (1 + 8 * q)).take (r + 1)) = deN ((b.drop (1 + 8 * q)).take r) * 256 + y := by
    rw [List.take_add_one, hyd]
    exact deF_snoc 0 y _
  have h4 := deN_take_lt (b.drop (1 + 8 * q)) (r + 1) fun x hx => hb x (List.mem_of_mem_drop hx)
  have h5 : (256 : Nat) ^ (r + 1) ≤ 256 ^ 8 := Nat.pow_le_pow_right (by decide) (by omega)
  have p8 : (256 : Nat) ^ 8 = 18446744073709551616 := by decide
  rw [h3] at h4
  unfold nv
  rw [h1, h2, h3]
  exact s64_byte _ _ (by omega)
theorem opOf_nv (b : List Nat) (k : Nat) (hk : b[0]? = some k) : opOf b = ⟨k, nv b 0 32, nv b 1 32, nv b 2 32, nv b 3 32, deN ((b.drop 33).take 4)⟩ := by
  have h1 : deN (b.take 1) = k := by
    cases b with
    | nil => cases hk
    | cons x t =>
      cases hk
      simp [deN, deF]
  unfold opOf nv
  rw [h1]
  rfl
theorem id_step (b : List Nat) (hb : ∀ x ∈ b, x < 256) (i y : Nat) (hi : i < 4) (hy : b[33 + i]? = some y) : deN ((b.drop 33).take (i + 1)) = deN ((b.drop 33).take i) * 256 + y ∧ deN ((b.drop 33).take i) ≤ 16777215 ∧ y < 256 := by
  have hyd : (b.drop 33)[i]? = some y := by rw [List.getElem?_drop]; exact hy
  refine ⟨?_, ?_, hb y (List.mem_of_getElem? hy)⟩
  · rw [List.take_add_one, hyd]
    exact deF_snoc 0 y _
  · have h4 := deN_take_lt (b.drop 33) i fun x hx => hb x (List.mem_of_mem_drop hx)
    have h5 : (256 : Nat) ^ i ≤ 256 ^ 3 := Nat.pow_le_pow_right (by decide) (by omega)
    have p8 : (256 : Nat) ^ 3 = 16777216 := by decide
    omega
theorem rread_bad (l : List Nat) (A : Option Addr) (cap : Nat) (w : World) (hl : l.length ≤ 1000000) (hm : l.length % 37 ≠ 0) :
    Calls Tryz.prog 17 #[.slice A l.length cap] w fun e w' => e = .returned (.tuple #[.slice none 0 0, .int .i64 270]) ∧ Below w.heap.size w w' := by
  have ht : ((l.length : Int).tmod 37 == 0) = false := by
    rw [Int.tmod_eq_emod_of_nonneg (by omega)]
    simp; omega
  go_enter Tryz.func17, Tryz.ntmps17
  go_wp2_with fail
  exact bodyPost_ret (v := .tuple #[.slice none 0 0, .int .i64 270]) (by simp [results, Tryz.results17, go_sem]) rfl ⟨rfl, Below.refl _ _⟩
set_option maxRecDepth 100000 in
set_option maxHeartbeats 8000000 in
theorem rread_any (l : List Nat) (n : Nat) (A : Option Addr) (cap : Nat) (w : World) (hn : n ≤ 10000) (hln : l.length = 37 * n) (hl : ∀ x ∈ l, x < 256) (hr : RecRow w bcell 1 A l) :
    Calls Tryz.prog 17 #[.slice A l.length cap] w fun e w' => ∃ v, e = .returned (.tuple #[v, .int .i64 0]) ∧ w'.ownsRow w.heap.size 24 6 v n (flatR OpV.cells (readN n l)) ∧ Below w.heap.size w w' := by
  obtain ⟨i0, hi, hzz, hz1, hz2⟩ := info_parts infoOp
  have hd : (l.length : Int) % 37 = 0 := by omega
  have hle : l.length ≤ 370000 := by omega
  have HLN := Lib.hid hln
  have HL := Lib.hid hl
  have HR := Lib.hid hr
  clear hln hl hr
  go_enter Tryz.func17, Tryz.ntmps17
  go_wp2_with fail
  try rw [hd]
  clear hd
  go_loopw [4, 5] (fun v4 v5 wr => ∃ (t p : Nat) (a : Option Addr) (c : Nat), t ≤ n ∧ v5 = .int .i64 (p : Int) ∧ Hid (p = 37 * t) ∧ p ≤ l.length ∧ v4 = .slice a t c ∧ Hid (wr.ownsRow w.heap.size 24 6 (.slice a t c) t (flatR OpV.cells (readN t l))) ∧ Hid (Below w.heap.size w wr)) (fun _ v5 _ => l.length - (intOf v5).toNat)
  case atStart => exact ⟨0, 0, none, 0, Nat.zero_le _, rfl, Lib.hid rfl, Nat.zero_le _, rfl, Lib.hid (World.ownsRow_nil _ _ _ _), Lib.hid (Below.refl _ _)⟩
  case round =>
    obtain ⟨t, p, a, c, ht, rfl, HP, hp, rfl, HO, HB⟩ := hrel
    obtain ⟨wo, rfl⟩ : ∃ wo : World, wo = wr := ⟨_, rfl⟩
    by_cases hlt : p < l.length
    · have htn : t < n := by have h1 := HP.out; have h2 := HLN.out; omega
      have hp37 : p + 37 ≤ l.length := by have h1 := HP.out; have h2 := HLN.out; omega
      obtain ⟨b, hb⟩ : ∃ b, l.drop p = b := ⟨_, rfl⟩
      have HBY := Lib.hid (show ∀ j, j < 37 → ∃ y : Nat, b[j]? = some y ∧ y < 256 ∧ ∃ g lo, A = some ⟨g, lo, none⟩ ∧ g < w.heap.size ∧ w.cell? ⟨g, lo + (p + j), none⟩ = some (.int .u8 (y : Int)) from fun j hj => by
        have hlj : p + j < l.length := by omega
        have hx : l[p + j]? = some l[p + j] := List.getElem?_eq_getElem hlj
        obtain ⟨g, lo, hA, hg, hc⟩ := RecRow.at_ HR.out hx
        refine ⟨l[p + j], by rw [← hb, List.getElem?_drop]; exact hx, HL.out _ (List.mem_of_getElem? hx), g, lo, hA, hg, ?_⟩
        have h0 := hc 0 (by decide)
        rw [Nat.mul_one, Nat.add_zero] at h0
        exact h0)
      have HB256 := Lib.hid (show ∀ x ∈ b, x < 256 from fun x hx => HL.out x (by rw [← hb] at hx; exact List.mem_of_mem_drop hx))
      have HRN := Lib.hid (show readN (t + 1) l = readN t l ++ [opOf b] by rw [readN_snoc, ← HP.out, hb])
      clear hb
      have hmk : ∀ w, (Instr.makeSlice 61 (.int .i64 4) (.int .i64 4)).run Tryz.prog w = .ok (.slice (some ⟨w.heap.size, 0, none⟩) 4 4) (w.alloc (.cells #[.int .i64 0, .int .i64 0, .int .i64 0, .int .i64 0] 2)) := fun _ => by kernel_rfl
      go_wp2_with fail
      clear hmk
      have HN := Lib.hid (show Blk (wo.alloc (.cells #[.int .i64 0, .int .i64 0, .int .i64 0, .int .i64 0] 2)) wo.heap.size 2 (nvs b 0) by rw [nvs_zero]; exact Blk.new wo _ _)
      have HO1 := Lib.hid (HO.out.alloc (.cells #[.int .i64 0, .int .i64 0, .int .i64 0, .int .i64 0] 2))
      have HB1 := Lib.hid (HB.out.alloc HB.out.size (.cells #[.int .i64 0, .int .i64 0, .int .i64 0, .int .i64 0] 2))
      have HWO := Lib.hid HB.out.size
      generalize wo.alloc (.cells #[.int .i64 0, .int .i64 0, .int .i64 0, .int .i64 0] 2) = V at HN HO1 HB1 ⊢
      obtain ⟨g6, hg6⟩ : ∃ b, wo.heap.size = b := ⟨_, rfl⟩
      rw [hg6] at HN HWO ⊢
      clear hg6 HO HB
      go_loopw [7] (fun v7 wi => ∃ j : Nat, j ≤ 32 ∧ v7 = .int .i64 (j : Int) ∧ Hid (Blk wi g6 2 (nvs b j)) ∧ Hid (wi.ownsRow w.heap.size 24 6 (.slice a t c) t (flatR OpV.cells (readN t l))) ∧ Hid (Below w.heap.size w wi)) (fun v7 _ => 32 - (intOf v7).toNat)
      case atStart => exact ⟨0, by omega, rfl, HN, HO1, HB1⟩
      case round =>
        clear HN HO1 HB1
        obtain ⟨j, hj, rfl, HN, HO, HB⟩ := hrel
        by_cases h32 : j < 32
        · obtain ⟨q, r, hq, hr, hjq⟩ : ∃ q r : Nat, q < 4 ∧ r < 8 ∧ j = 8 * q + r := ⟨j / 8, j % 8, by omega, by omega, by omega⟩
          have hdiv : (j : Int) / 8 = (q : Int) := by omega
          have hj32 : (j : Int) < 32 := by omega
          obtain ⟨y, hy, hy256, g, lo, rfl, hg, hcy⟩ := HBY.out (1 + j) (by omega)
          have hcell : wr.cell? ⟨g, lo + (p + (1 + j)), none⟩ = some (.int .u8 (y : Int)) := (HB.out.cell (p := ⟨g, lo + (p + (1 + j)), none⟩) hg).trans hcy
          have hnq : wr.cell? ⟨g6, q, none⟩ = some (.int .i64 (nv b q j)) := (Blk.cell HN.out q).trans (nvs_at b q j hq)
          have hnf : wr.frozen? ⟨g6, q, none⟩ = false := Blk.frozen HN.out q
          obtain ⟨ix, hix⟩ : ∃ ix, p + (1 + j) = ix := ⟨_, rfl⟩
          rw [hix] at hcell
          have hs1 : IntKind.i64.wrap ((p : Int) + 1) = (p : Int) + 1 := by rw [wrap_i64]; omega
          have hs2 : IntKind.i64.wrap ((p : Int) + 1 + (j : Int)) = (ix : Int) := by rw [wrap_i64]; omega
          have hixl : ix < l.length := by omega
          have hq4 : (q : Int) < 4 := by omega
          have hixl' : (ix : Int) < (l.length : Int) := by omega
          have hwq : IntKind.i64.wrap (q : Int) = (q : Int) := by rw [wrap_i64]; omega
          have hwy : IntKind.i64.wrap (y : Int) = (y : Int) := by rw [wrap_i64]; omega
          have hstep := nv_step b HB256.out q r y hq hr (by rw [← hjq]; exact hy)
          rw [← hjq] at hstep
          obtain ⟨z, hz⟩ : ∃ z, nv b q (j + 1) = z := ⟨_, rfl⟩
          rw [hz] at hstep
          have HZ := Lib.hid (show (nvs b j).setIfInBounds q (.int .i64 z) = nvs b (j + 1) by
            have h := nvs_set b q r hq hr
            rw [← hjq, hz] at h
            exact h)
          have HN2 := Lib.hid (Blk.set_ HN.out q (.int .i64 z))
          have HO2 := Lib.hid (ownsRow_setCell_other HO.out (a := ⟨g6, q, none⟩) (own_blk_ne HO.out HN.out (by decide)) (.int .i64 z))
          have HB2 := Lib.hid (HB.out.setCell (p := ⟨g6, q, none⟩) HWO.out (.int .i64 z))
          clear hy hcy hix hjq hz HN HO HB hr
          go_wp2_with fail
          go_still_tail 19, (by kernel_rfl)
          go_wp2_with fail
          go_roundw
          case rel => exact ⟨j + 1, by omega, by go_num, Lib.hid (by rw [← HZ.out]; exact Blk.drew HN2.out), Lib.hid (World.ownsRow.drew HO2.out), Lib.hid (Below.drew HB2.out)⟩
          case measure => simp [intOf] <;> omega
        · obtain rfl : j = 32 := by omega
          obtain ⟨iv, hiv⟩ : ∃ f : Nat → Nat, ∀ i, deN ((b.drop 33).take i) = f i := ⟨_, fun _ => rfl⟩
          have HIV := Lib.hid hiv
          have hiv0 : iv 0 = 0 := by rw [← hiv]; simp [deN, deF]
          have HIV0 := Lib.hid (show (0 : Int) = (iv 0 : Int) by rw [hiv0]; rfl)
          clear hiv hiv0
          go_wp2_with fail
          go_loopw [8, 9] (fun v8 v9 wi => ∃ i : Nat, i ≤ 4 ∧ v9 = .int .i64 ((33 + i : Nat) : Int) ∧ v8 = .int .u32 (iv i : Int) ∧ Hid (Blk wi g6 2 (nvs b 32)) ∧ Hid (wi.ownsRow w.heap.size 24 6 (.slice a t c) t (flatR OpV.cells (readN t l))) ∧ Hid (Below w.heap.size w wi)) (fun _ v9 _ => 37 - (intOf v9).toNat)
          case atStart => exact ⟨0, by omega, rfl, by rw [← HIV0.out], HN, HO, HB⟩
          case round =>
            clear HN HO HB
            obtain ⟨i, hi4, rfl, rfl, HN, HO, HB⟩ := hrel
            obtain ⟨kk, hkk⟩ : ∃ kk, 33 + i = kk := ⟨_, rfl⟩
            have hkk1 : 33 ≤ kk := by omega
            rw [hkk]
            by_cases hi3 : i < 4
            · obtain ⟨y, hy, hy256, g, lo, rfl, hg, hcy⟩ := HBY.out kk (by omega)
              have hcell : wr.cell? ⟨g, lo + (p + kk), none⟩ = some (.int .u8 (y : Int)) := (HB.out.cell (p := ⟨g, lo + (p + kk), none⟩) hg).trans hcy
              obtain ⟨h1, h2, _⟩ := id_step b HB256.out i y hi3 (by rw [hkk]; exact hy)
              rw [HIV.out, HIV.out] at h1
              rw [HIV.out] at h2
              have HS := Lib.hid (show ((iv (i + 1) : Nat) : Int) = (iv i : Int) * 256 + (y : Int) by rw [h1]; omega)
              have hkl : (kk : Int) < 37 := by omega
              have hpk : p + kk < l.length := by omega
              have HKK := Lib.hid (show 33 + (i + 1) = kk + 1 by omega)
              have HM := Lib.hid (show i + 1 ≤ 4 by omega)
              clear hy hcy h1 hkk hi4 hi3
              go_wp2_with fail
              go_roundw
              case rel => exact ⟨i + 1, HM.out, by rw [HKK.out]; go_num, by rw [HS.out], HN, HO, HB⟩
              case measure => simp [intOf] <;> omega
            · obtain rfl : i = 4 := by omega
              obtain rfl : kk = 37 := by omega
              obtain ⟨y, hy, hy256, g, lo, rfl, hg, hcy⟩ := HBY.out 0 (by omega)
              have hcell : wr.cell? ⟨g, lo + p, none⟩ = some (.int .u8 (y : Int)) := (HB.out.cell (p := ⟨g, lo + (p + 0), none⟩) hg).trans hcy
              have HOF := Lib.hid (opOf_nv b y hy)
              have HIW := Lib.hid (HIV.out 4)
              clear hy hcy hkk
              go_wp2_with fail
              refine (rof_any y (iv 4) (nv b 0 32) (nv b 1 32) (nv b 2 32) (nv b 3 32) g6 wr HN.out).mono ?_
              rintro e w5 ⟨rfl, hb5⟩
              have HO5 := Lib.hid (own_below HO.out hb5)
              have HB5 := Lib.hid (bl HB.out HB.out.size hb5)
              have HW5 := Lib.hid HB5.out.size
              obtain ⟨q, hq⟩ : ∃ q : OpV, ⟨y, nv b 0 32, nv b 1 32, nv b 2 32, nv b 3 32, iv 4⟩ = q := ⟨_, rfl⟩
              have HQ := Lib.hid (show readN (t + 1) l = readN t l ++ [q] by rw [HRN.out, HOF.out, HIW.out, hq])
              rw [hq]
              clear hb5 HN HO HB hcell hq
              go_wp2_with (at_builtin; refine wpList_append_any _ rfl (.tmp 58) (.tmp 66) 25 rfl w.heap.size 24 i0 (codeOnly 0).val 6 48 Tryz.underlying25 hi hzz hz1 hz2 rfl (by decide) _ _ _ rfl (HO5.out.alloc _) (w5.heap.size + 1) (some ⟨w5.heap.size, 0, none⟩) 1 1 q.cells.toList rfl (reads_cells w5 q.cells _ 1 6 rfl) (op_ones q) (by unfold maxLen; omega) (by omega) (by have := HW5.out; simp; omega) ?_)
              intro v1 w1 hown1 hgrow hat
              obtain ⟨a4, k4, rfl⟩ := own_shape hown1
              have HB6 := Lib.hid ((HB5.out.alloc HB5.out.size _).grown hgrow (by have := HW5.out; simp; omega) (fun r hr => (HO5.out.lt r hr).1))
              have HO6 := Lib.hid (show w1.ownsRow w.heap.size 24 6 (.slice a4 (t + 1) k4) (t + 1) (flatR OpV.cells (readN (t + 1) l)) by rw [HQ.out, flatR_app, flatR_one]; exact hown1)
              clear hown1 hgrow hat HO5 HB5 HW5
              go_wp2_with fail
              go_roundw
              case rel => exact ⟨t + 1, p + 37, a4, k4, by omega, by go_num, Lib.hid (by rw [HP.out]; omega), by omega, by first | rfl | trivial, HO6, HB6⟩
              case measure => simp [intOf] <;> omega
    · have htn : t = n := by have h1 := HP.out; have h2 := HLN.out; omega
      subst htn
      go_wp2_with fail
      exact bodyPost_ret (v := .tuple #[.slice a t c, .int .i64 0]) (by simp [results, Tryz.results17, go_sem]) rfl ⟨_, rfl, HO.out, HB.out⟩
end Go.Proofs.YtokpgopdkimmmaaGreatDoor
/- What the document's Parse reads is what Parse reads: plain law. -/
namespace Go.Proofs.YtokpgopdkimmmaaGreatDoor
open Go.RowKit
open Go.Lib (decDigits itoa)
set_option linter.unusedVariables false

/-- A word that says a number below 2^64, behind a sign or none. -/
def numOk (w : List UInt8) : Option Nat := (parseW (bodyR w)).bind fun v => if v / 18446744073709551616 = 0 then some v else none
def sgnOf (m : Bool) (n : Nat) : Int := if m then s64 ((18446744073709551616 - n) % 18446744073709551616) else s64 n
theorem numOk_lt {w : List UInt8} {n : Nat} (h : numOk w = some n) : n < 18446744073709551616 := by
  unfold numOk at h
  cases hp : parseW (bodyR w) with
  | none => rw [hp] at h; cases h
  | some v =>
    rw [hp, Option.bind_some] at h
    split at h
    · cases h; omega
    · cases h
theorem sgnOf_in (m : Bool) (n : Nat) (h : n < 18446744073709551616) : In64 (sgnOf m n) := by
  unfold sgnOf
  split
  · exact s64_in _ (Nat.mod_lt _ (by decide))
  · exact s64_in _ h
/-- The numbers of words. -/
def numsP : List (List UInt8) → Option (List Int)
  | [] => some []
  | w :: ws => (numOk w).bind fun n => (numsP ws).map (sgnOf (minusR w) n :: ·)
theorem numsP_app : ∀ a b : List (List UInt8), numsP (a ++ b) = (numsP a).bind fun x => (numsP b).map (x ++ ·)
  | [], b => by simp [numsP]
  | w :: a, b => by
    rw [List.cons_append, numsP, numsP, numsP_app a b]
    cases numOk w with
    | none => rfl
    | some n =>
      simp only [Option.bind_some]
      cases numsP a with
      | none => rfl
      | some x =>
        simp only [Option.bind_some, Option.map_some]
        cases numsP b with
        | none => rfl
        | some y => rfl
theorem numsP_len : ∀ (ws : List (List UInt8)) (l : List Int), numsP ws = some l → l.length = ws.length
  | [], l, h => by cases h; rfl
  | w :: ws, l, h => by
    rw [numsP] at h
    cases hw : numOk w with
    | none => rw [hw] at h; cases h
    | some n =>
      rw [hw, Option.bind_some] at h
      cases hs : numsP ws with
      | none => rw [hs] at h; cases h
      | some x =>
        rw [hs, Option.map_some] at h
        cases h
        rw [List.length_cons, List.length_cons, numsP_len ws x hs]
theorem numsP_in : ∀ (ws : List (List UInt8)) (l : List Int), numsP ws = some l → ∀ x ∈ l, In64 x
  | [], l, h => by cases h; intro x hx; cases hx
  | w :: ws, l, h => by
    rw [numsP] at h
    cases hw : numOk w with
    | none => rw [hw] at h; cases h
    | some n =>
      rw [hw, Option.bind_some] at h
      cases hs : numsP ws with
      | none => rw [hs] at h; cases h
      | some x =>
        rw [hs, Option.map_some] at h
        cases h
        intro y hy
        rcases List.mem_cons.1 hy with rfl | hy
        · exact sgnOf_in _ _ (numOk_lt hw)
        · exact numsP_in ws x hs y hy
def mkOp (c id : Nat) (l : List Int) : OpV := ⟨c, l.getD 0 0, l.getD 1 0, l.getD 2 0, l.getD 3 0, id⟩
/-- What is left is numbers, as many as are named; the line must be the operation's own. -/
def tailP (s : List UInt8) (c id many : Nat) (ws : List (List UInt8)) : Option OpV :=
  if ws.length = many then (numsP ws).bind fun l => if textL' (mkOp c id l) = s then some (mkOp c id l) else none else none
def namedP (s : List UInt8) (c : Nat) (nm : Bool) (many : Nat) (ws : List (List UInt8)) : Option OpV :=
  if nm = true then
    match ws with
    | [] => none
    | w :: ws => (numOk w).bind fun n => if n ≤ 4294967295 then tailP s c n many ws else none
  else tailP s c 0 many ws
def refP (s : List UInt8) (k : Nat) (ws : List (List UInt8)) : Option OpV :=
  if k = 0 then
    match ws with
    | [] => none
    | v :: ws => (numOk v).bind fun n => if n ≤ 255 then namedP s n true 4 ws else none
  else namedP s k (namedB k) (manyN k) ws
theorem dec_numOk (n : Nat) (h : n < 18446744073709551616) : numOk (decDigits n) = some n ∧ minusR (decDigits n) = false := by
  obtain ⟨c, r, e, h1, h2⟩ := dec_first n
  have hm : minusR (decDigits n) = false := by
    rw [e]
    unfold minusR
    simp only [List.head?_cons]
    have hc : c ≠ 45 := fun g => by subst g; exact absurd h1 (by decide)
    simp [hc]
  refine ⟨?_, hm⟩
  unfold numOk bodyR
  rw [hm]
  simp only [Bool.false_eq_true, if_false]
  rw [parse_text n (Nat.lt_trans h (by decide)), Option.bind_some, if_pos (Nat.div_eq_of_lt h)]
theorem itoa_numOk (a : Int) (h : In64 a) : ∃ n, numOk (itoa a) = some n ∧ sgnOf (minusR (itoa a)) n = a := by
  obtain ⟨h1, h2⟩ := h
  unfold itoa
  by_cases h0 : a < 0
  · rw [if_pos h0]
    have hm : minusR (45 :: decDigits a.natAbs) = true := rfl
    refine ⟨a.natAbs, ?_, ?_⟩
    · unfold numOk bodyR
      rw [hm]
      simp only [if_true, List.drop_succ_cons, List.drop_zero]
      rw [parse_text a.natAbs (Nat.lt_trans (show a.natAbs < 18446744073709551616 by omega) (by decide)), Option.bind_some, if_pos (Nat.div_eq_of_lt (by omega))]
    · rw [hm]
      unfold sgnOf s64
      simp only [if_true]
      split <;> omega
  · rw [if_neg h0]
    obtain ⟨g1, g2⟩ := dec_numOk a.toNat (by omega)
    refine ⟨a.toNat, g1, ?_⟩
    rw [g2]
    unfold sgnOf s64
    simp only [Bool.false_eq_true, if_false]
    split <;> omega
theorem numsP_say (o : OpV) (ho : o.ok) : ∀ ls : List UInt8, (∀ c ∈ ls, c ≠ 105) → numsP (ls.map (sayL o)) = some (ls.map fun c => o.num (c.toNat - 97))
  | [], _ => rfl
  | c :: ls, h => by
    have hc := h c List.mem_cons_self
    have he : sayL o c = itoa (o.num (c.toNat - 97)) := by unfold sayL numL; rw [if_neg hc]
    obtain ⟨n, g1, g2⟩ := itoa_numOk _ (ho.num (c.toNat - 97))
    rw [List.map_cons, numsP, he, g1, Option.bind_some, numsP_say o ho ls fun x hx => h x (List.mem_cons_of_mem _ hx), Option.map_some, g2]
    rfl
theorem four_num (o : OpV) (m : Nat) (hm : m ≤ 4) : ((([97, 98, 99, 100] : List UInt8).take m).map fun c => o.num (c.toNat - 97)) = [o.a, o.b, o.c, o.d].take m := by
  rcases (show m = 0 ∨ m = 1 ∨ m = 2 ∨ m = 3 ∨ m = 4 by omega) with rfl | rfl | rfl | rfl | rfl <;> simp [OpV.num]
theorem mem_four {m : Nat} {c : UInt8} (h : c ∈ ([97, 98, 99, 100] : List UInt8).take m) : c ≠ 105 := by
  have h2 := List.mem_of_mem_take h
  simp at h2
  rcases h2 with rfl | rfl | rfl | rfl <;> decide
theorem tailP_say (o : OpV) (ho : o.ok) (m : Nat) (hm : m ≤ 4) (id : Nat) (he : mkOp o.k id ([o.a, o.b, o.c, o.d].take m) = o) : tailP (textL' o) o.k id m ((([97, 98, 99, 100] : List UInt8).take m).map (sayL o)) = some o := by
  unfold tailP
  rw [if_pos (by rw [List.length_map, List.length_take]; simp; omega), numsP_say o ho _ fun c hc => mem_four hc, Option.bind_some, four_num o m hm, he, if_pos rfl]
theorem tailP_ok {s : List UInt8} {c id m : Nat} {ws : List (List UInt8)} {o : OpV} (hc : c < 256) (hi : id < 4294967296) (h : tailP s c id m ws = some o) : textL' o = s ∧ o.ok := by
  unfold tailP at h
  split at h
  · cases hn : numsP ws with
    | none => rw [hn] at h; cases h
    | some l =>
      rw [hn, Option.bind_some] at h
      split at h
      · rename_i ht
        have hin := numsP_in ws l hn
        have hg : ∀ j, In64 (l.getD j 0) := by
          intro j
          rw [List.getD_eq_getElem?_getD]
          cases hj : l[j]? with
          | none => exact in64_zero
          | some x => exact hin x (List.mem_of_getElem? hj)
        have e := Option.some.inj h
        rw [e] at ht
        exact ⟨ht, e ▸ ⟨hc, hg 0, hg 1, hg 2, hg 3, hi⟩⟩
      · cases h
  · cases h
theorem namedP_ok {s : List UInt8} {c m : Nat} {nm : Bool} {ws : List (List UInt8)} {o : OpV} (hc : c < 256) (h : namedP s c nm m ws = some o) : textL' o = s ∧ o.ok := by
  unfold namedP at h
  split at h
  · cases ws with
    | nil => cases h
    | cons w ws =>
      simp only at h
      cases hn : numOk w with
      | none => rw [hn] at h; cases h
      | some n =>
        rw [hn, Option.bind_some] at h
        split at h
        · exact tailP_ok hc (by omega) h
        · cases h
  · exact tailP_ok hc (by decide) h
theorem refP_ok {s : List UInt8} {k : Nat} {ws : List (List UInt8)} {o : OpV} (hk : k < 256) (h : refP s k ws = some o) : textL' o = s ∧ o.ok := by
  unfold refP at h
  split at h
  · cases ws with
    | nil => cases h
    | cons w ws =>
      simp only at h
      cases hn : numOk w with
      | none => rw [hn] at h; cases h
      | some n =>
        rw [hn, Option.bind_some] at h
        split at h
        · exact namedP_ok (by omega) h
        · cases h
  · exact namedP_ok hk h
theorem word_distinct : ∀ i j : Fin 20, wordOf (i.val + 1) = wordOf (j.val + 1) → i = j := by decide +kernel
theorem codeR_word {k : Nat} (hk : isCode k = true) {q : Nat} (h : codeR (wordOf k) q) : q = k := by
  obtain ⟨j, rfl⟩ := code_at hk
  rcases h with ⟨rfl, h⟩ | ⟨h1, h2, h⟩
  · exact absurd rfl (h (j.val + 1) (by omega) (by omega))
  · have := word_distinct ⟨q - 1, by omega⟩ j (by simp only; rw [Nat.sub_add_cancel h1]; exact h)
    have h3 : q - 1 = j.val := congrArg Fin.val this
    omega
theorem word_op : ∀ j : Fin 20, wordOf (j.val + 1) ≠ [111, 112] := by decide +kernel
theorem codeR_op {q : Nat} (h : codeR [111, 112] q) : q = 0 := by
  rcases h with ⟨rfl, _⟩ | ⟨h1, h2, h⟩
  · rfl
  · exact absurd (by simp only; rw [Nat.sub_add_cancel h1]; exact h) (word_op ⟨q - 1, by omega⟩)
theorem codeR_lt {s : List UInt8} {q : Nat} (h : codeR s q) : q < 256 := by
  rcases h with ⟨rfl, _⟩ | ⟨_, h, _⟩ <;> omega
/-- What the document's Parse reads of a line that Text told. -/
theorem refP_told (o : OpV) (ho : o.ok) {w0 : List UInt8} {rest : List (List UInt8)} (hs : splitW (textL' o) = w0 :: rest) {q : Nat} (hq : codeR w0 q) : refP (textL' o) q rest = some o := by
  by_cases hf : isCode o.k = true ∧ sameB (onlyL o (letOf o.k)) o = true
  · obtain ⟨j, hj⟩ := code_at hf.1
    obtain ⟨g1, g2, g3⟩ := words_at j
    obtain ⟨hsh, hm4⟩ := letOf_shape j
    rw [← hj] at g1 g2 g3 hsh hm4
    have hso := sameB_eq hf.2
    have ht : textL' o = toldL o (wordOf o.k) (letOf o.k) := by rw [textL', if_pos hf]
    have hw : splitW (textL' o) = wordOf o.k :: (letOf o.k).map (sayL o) := by rw [ht, toldL, splitW_told o _ _ g1]
    rw [hw, List.cons.injEq] at hs
    obtain ⟨rfl, rfl⟩ := hs
    obtain rfl := codeR_word hf.1 hq
    have hk0 : ¬ o.k = 0 := by omega
    unfold refP
    rw [if_neg hk0, hsh, List.map_append]
    have hmk : mkOp o.k (if namedB o.k = true then o.id else 0) ([o.a, o.b, o.c, o.d].take (manyN o.k)) = o := by
      have hlet := hsh
      rw [hsh] at hso
      obtain ⟨m, hm⟩ : ∃ m, manyN o.k = m := ⟨_, rfl⟩
      rw [hm] at hso hm4 ⊢
      obtain ⟨nb, hnb⟩ : ∃ b, namedB o.k = b := ⟨_, rfl⟩
      rw [hnb] at hso ⊢
      rcases (show m = 0 ∨ m = 1 ∨ m = 2 ∨ m = 3 ∨ m = 4 by omega) with rfl | rfl | rfl | rfl | rfl <;> cases nb <;> exact hso
    cases hnb : namedB o.k with
    | true =>
      rw [hnb] at hmk
      unfold namedP
      rw [if_pos rfl]
      simp only [if_true, List.map_cons, List.map_nil, List.cons_append, List.nil_append]
      have hsi : sayL o 105 = decDigits o.id := by unfold sayL idL; rw [if_pos rfl]
      rw [hsi, (dec_numOk o.id (by have := ho.id; omega)).1, Option.bind_some, if_pos (by have := ho.id; omega)]
      exact tailP_say o ho _ hm4 o.id (by simpa using hmk)
    | false =>
      rw [hnb] at hmk
      unfold namedP
      rw [if_neg (by decide)]
      simp only [Bool.false_eq_true, if_false, List.map_nil, List.nil_append]
      exact tailP_say o ho _ hm4 0 (by simpa using hmk)
  · have ht : textL' o = opWord ++ decDigits o.k ++ restL o [105, 97, 98, 99, 100] := by rw [textL', if_neg hf, toldL]
    have hw : splitW (textL' o) = [111, 112] :: decDigits o.k :: ([105, 97, 98, 99, 100] : List UInt8).map (sayL o) := by
      rw [ht, show opWord ++ decDigits o.k ++ restL o [105, 97, 98, 99, 100] = [111, 112] ++ 32 :: (decDigits o.k ++ restL o [105, 97, 98, 99, 100]) by rw [List.append_assoc]; rfl, splitW_cons _ _ (by decide), splitW_told o _ _ (dec_no32 _)]
    rw [hw, List.cons.injEq] at hs
    obtain ⟨rfl, rfl⟩ := hs
    obtain rfl := codeR_op hq
    unfold refP
    rw [if_pos rfl]
    simp only
    rw [(dec_numOk o.k (by have := ho.k; omega)).1, Option.bind_some, if_pos (by have := ho.k; omega)]
    unfold namedP
    rw [if_pos rfl]
    simp only [List.map_cons]
    have hsi : sayL o 105 = decDigits o.id := by unfold sayL idL; rw [if_pos rfl]
    rw [hsi, (dec_numOk o.id (by have := ho.id; omega)).1, Option.bind_some, if_pos (by have := ho.id; omega)]
    exact tailP_say o ho 4 (Nat.le_refl _) o.id rfl
/-- The document's Parse reads what Parse reads. -/
theorem refP_parse {s w0 : List UInt8} {rest : List (List UInt8)} (hs : splitW s = w0 :: rest) {q : Nat} (hq : codeR w0 q) : refP s q rest = parseOp s := by
  cases hp : parseOp s with
  | some o =>
    have ho := parse_ok hp
    have ht := parse_text_of hp
    subst ht
    exact refP_told o ho hs hq
  | none =>
    cases hr : refP s q rest with
    | none => rfl
    | some o =>
      obtain ⟨ht, ho⟩ := refP_ok (codeR_lt hq) hr
      rw [← ht, parse_told o ho] at hp
      cases hp
end Go.Proofs.YtokpgopdkimmmaaGreatDoor
