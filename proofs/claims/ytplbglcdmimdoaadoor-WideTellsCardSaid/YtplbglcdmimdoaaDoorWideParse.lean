/- wide.Parse: what it reads of whatever bytes. -/
import Derived.Test.YtplbglcdmimdoaaDoorWide
import Derived.RangeFuncRecord
namespace Go.Proofs.YtplbglcdmimdoaaDoor
open Go.RowKit Go.Shelf
set_option linter.unusedVariables false
set_option linter.unusedSimpArgs false

def digitB (c : UInt8) : Bool := decide (48 ≤ c.toNat) && decide (c.toNat ≤ 57)
/-- Digit by digit. -/
def parseGo : List UInt8 → Nat → Option Nat
  | [], v => some v
  | c :: l, v => if digitB c = true ∧ 10 * v + (c.toNat - 48) < wTop then parseGo l (10 * v + (c.toNat - 48)) else none
def parseW (s : List UInt8) : Option Nat := if s = [] ∨ (s.head? = some 48 ∧ s ≠ [48]) then none else parseGo s 0
/-- Ten times as much, word by word. -/
theorem ten_words (v : Nat) (hv : v < wTop) : ∃ over low most high : Nat, v % 18446744073709551616 * 10 / 18446744073709551616 = over ∧ v % 18446744073709551616 * 10 % 18446744073709551616 = low ∧ v / 18446744073709551616 * 10 / 18446744073709551616 = most ∧ v / 18446744073709551616 * 10 % 18446744073709551616 = high ∧
    over < 10 ∧ low < 18446744073709551616 ∧ most < 10 ∧ high < 18446744073709551616 ∧
    ((10 * v < wTop ∧ most = 0 ∧ high + over < 18446744073709551616 ∧ (high + over) * 18446744073709551616 + low = 10 * v) ∨ (wTop ≤ 10 * v ∧ (0 < most ∨ 18446744073709551616 ≤ high + over))) := by
  unfold wTop at *
  obtain ⟨b, hb⟩ : ∃ b, v / 18446744073709551616 = b := ⟨_, rfl⟩
  obtain ⟨r, hr⟩ : ∃ r, v % 18446744073709551616 = r := ⟨_, rfl⟩
  have hv2 : v = 18446744073709551616 * b + r := by omega
  have hr2 : r < 18446744073709551616 := by omega
  rw [hb, hr]
  obtain ⟨d, hd⟩ : ∃ d, r * 10 / 18446744073709551616 = d := ⟨_, rfl⟩
  obtain ⟨lo, hlo⟩ : ∃ lo, r * 10 % 18446744073709551616 = lo := ⟨_, rfl⟩
  have h2 : r * 10 = 18446744073709551616 * d + lo := by omega
  have h3 : lo < 18446744073709551616 := by omega
  have h4 : 10 * v = 18446744073709551616 * (10 * b + d) + lo := by omega
  refine ⟨d, lo, _, _, hd, hlo, rfl, rfl, by omega, h3, by omega, by omega, ?_⟩
  clear hb hr hd hlo
  rcases Nat.lt_or_ge (10 * b + d) 18446744073709551616 with h | h
  · have e1 : b * 10 / 18446744073709551616 = 0 := Nat.div_eq_of_lt (by omega)
    have e2 : b * 10 % 18446744073709551616 = b * 10 := Nat.mod_eq_of_lt (by omega)
    rw [e1, e2]
    exact .inl ⟨by omega, rfl, by omega, by omega⟩
  · refine .inr ⟨by omega, ?_⟩
    rcases Nat.lt_or_ge (b * 10) 18446744073709551616 with g | g
    · rw [Nat.mod_eq_of_lt g]
      exact .inr (by omega)
    · exact .inl (Nat.div_pos g (by omega))
/-- Is it no number at once? -/
def badW (l : List UInt8) : Bool := l.isEmpty || (l.head? == some 48 && !(l == [48]))
theorem parseW_eq (l : List UInt8) : parseW l = if badW l = true then none else parseGo l 0 := by
  unfold parseW badW
  cases l with
  | nil => simp
  | cons c t => by_cases h : c = 48 <;> by_cases g : t = [] <;> simp [h, g]
theorem lt_of_heap {w : World} {b : Nat} {o : Obj} (h : w.heap[b]? = some o) : b < w.heap.size := (Array.getElem?_eq_some_iff.1 h).1
theorem cells2_set {w : World} {b : Nat} {x y u v : Value} {T : TypeId} (h : w.heap[b]? = some (.cells #[x, y] T (0, 0))) : ((w.setCell ⟨b, 0, none⟩ u).setCell ⟨b, 1, none⟩ v).heap[b]? = some (.cells #[u, v] T (0, 0)) := by
  simp [World.setCell, Array.getElem?_modify, h]
theorem wide_split {a h l : Nat} (hl : l < 18446744073709551616) (ha : h * 18446744073709551616 + l = a) : a / 18446744073709551616 = h ∧ a % 18446744073709551616 = l := by omega
set_option maxRecDepth 100000 in
set_option maxHeartbeats 4000000 in
theorem parse_any (s : ByteArray) (w : World) (hs : s.size ≤ 1000000) : Calls Tryd.prog 29 #[.string s] w fun e w' =>
    e = .returned (.tuple #[wideV ((parseW s.data.toList).getD 0), .int .i64 (if (parseW s.data.toList).isSome then 0 else 10)]) ∧ Below w.heap.size w w' := by
  obtain ⟨l, hl⟩ : ∃ l, s.data.toList = l := ⟨_, rfl⟩
  have hsz : s.size = l.length := by
    rw [← hl]
    exact Array.length_toList.symm
  have hat : ∀ (i : Nat) (h : i < s.size), s[i] = l.getD i 0 := by
    intro i h
    subst hl
    have h' : i < s.data.size := h
    rw [List.getD_eq_getElem?_getD, Array.getElem?_toList, Array.getElem?_eq_getElem h']
    rfl
  have hl2 : s.toList = l := (ByteArray.toList_eq s).trans hl
  rw [hl, parseW_eq]
  obtain ⟨rv, hrv⟩ : ∃ rv, (if badW l = true then none else parseGo l 0).getD 0 = rv := ⟨_, rfl⟩
  obtain ⟨re, hre⟩ : ∃ re : Int, (if (if badW l = true then none else parseGo l 0).isSome = true then 0 else 10) = re := ⟨_, rfl⟩
  have RB := Lib.hid (show badW l = true → rv = 0 ∧ re = 10 from fun h => by rw [← hrv, ← hre, if_pos h]; exact ⟨rfl, rfl⟩)
  have RN := Lib.hid (show badW l = false → parseGo l 0 = none → rv = 0 ∧ re = 10 from fun h g => by rw [← hrv, ← hre, h, g]; exact ⟨rfl, rfl⟩)
  have RS := Lib.hid (show badW l = false → ∀ v, parseGo l 0 = some v → rv = v ∧ re = 0 from fun h v g => by rw [← hrv, ← hre, h, g]; exact ⟨rfl, rfl⟩)
  rw [hrv, hre]
  clear hrv hre
  go_enter Tryd.func29, Tryd.ntmps29
  go_upto_region 2 with (fail)
  have HB0 := Lib.hid (((Below.refl w.heap.size w).alloc (Nat.le_refl _) (.cells #[.int .u64 0, .int .u64 0] 24)).alloc (by simp) (.cells #[.int .u64 0, .int .u64 0] 24))
  have HA0 := Lib.hid (show ((w.alloc (.cells #[.int .u64 0, .int .u64 0] 24)).alloc (.cells #[.int .u64 0, .int .u64 0] 24)).heap[w.heap.size]? = some (.cells #[.int .u64 0, .int .u64 0] 24 (0, 0)) from (Below.heap_alloc _ _ _ (by simp)).trans (World.alloc_heap_new w _))
  have HA1 := Lib.hid (show ((w.alloc (.cells #[.int .u64 0, .int .u64 0] 24)).alloc (.cells #[.int .u64 0, .int .u64 0] 24)).heap[w.heap.size + 1]? = some (.cells #[.int .u64 0, .int .u64 0] 24 (0, 0)) by
    have h := World.alloc_heap_new (w.alloc (.cells #[.int .u64 0, .int .u64 0] 24)) (.cells #[.int .u64 0, .int .u64 0] 24)
    rwa [World.size_alloc] at h)
  generalize (w.alloc (.cells #[.int .u64 0, .int .u64 0] 24)).alloc (.cells #[.int .u64 0, .int .u64 0] 24) = W0 at HB0 HA0 HA1 ⊢
  go_cut [23] (fun v wc => v = .bool (badW l) ∧ wc = W0)
  case first =>
    have HBW := Lib.hid (show badW l = (l.isEmpty || (l.head? == some 48 && !(l == [48]))) from rfl)
    cases l with
    | nil =>
      go_wp2_with fail
      go_meet
      case rel => exact ⟨rfl, rfl⟩
    | cons c t =>
      have hz : 0 < s.size := by rw [hsz]; simp
      have h0 : s[0] = c := by rw [hat 0 hz]; rfl
      clear hat hl hsz
      by_cases hc : c = 48
      · subst hc
        by_cases ht : t = []
        · subst ht
          go_wp2_with fail
          go_meet
          case rel => exact ⟨by rw [HBW.out]; rfl, rfl⟩
        · have q : ((48 :: t : List UInt8) == [48]) = false := by simp [ht]
          go_wp2_with fail
          go_meet
          case rel => exact ⟨by rw [HBW.out, q]; rfl, rfl⟩
      · have q : ¬ ((c.toNat : Int) = 48) := fun h => hc (UInt8.toNat_inj.1 (show c.toNat = 48 by omega))
        go_wp2_with fail
        go_meet
        case rel => exact ⟨by rw [HBW.out]; simp [hc], rfl⟩
  case rest =>
  obtain ⟨rfl, rfl⟩ := hcut
  have c10 : wc.cell? ⟨w.heap.size + 1, 0, none⟩ = some (.int .u64 0) := by simp [World.cell?, HA1.out]
  have c11 : wc.cell? ⟨w.heap.size + 1, 1, none⟩ = some (.int .u64 0) := by simp [World.cell?, HA1.out]
  have c00 : wc.cell? ⟨w.heap.size, 0, none⟩ = some (.int .u64 0) := by simp [World.cell?, HA0.out]
  have c01 : wc.cell? ⟨w.heap.size, 1, none⟩ = some (.int .u64 0) := by simp [World.cell?, HA0.out]
  have f00 : wc.frozen? ⟨w.heap.size, 0, none⟩ = false := by simp [World.frozen?, HA0.out]
  have f01 : wc.frozen? ⟨w.heap.size, 1, none⟩ = false := by simp [World.frozen?, HA0.out]
  cases hbw : badW l with
  | true =>
    have HBW := Lib.hid hbw
    have hzz : w.heap.size < wc.heap.size := World.block_lt_of_cell? _ _ c00
    clear hbw
    obtain ⟨rfl, rfl⟩ := RB.out HBW.out
    go_wp2_with fail
    simp [bodyPost, results, Tryd.results29, go_sem, c00, c01, f00, f01]
    exact ⟨rfl, (HB0.out.setCell (p := ⟨w.heap.size, 0, none⟩) (Nat.le_refl _) _).setCell (p := ⟨w.heap.size, 1, none⟩) (Nat.le_refl _) _⟩
  | false =>
    have HBW := Lib.hid hbw
    clear hbw c10 c11 c00 c01 f00 f01
    go_wp2_with fail
    go_loopw [27] (fun i wr => ∃ (k v : Nat), k ≤ l.length ∧ i = .int .i64 k ∧ v < wTop ∧ Hid (parseGo (l.drop k) v = parseGo l 0) ∧ Hid (Below w.heap.size w wr) ∧ Hid (wr.heap[w.heap.size]? = some (.cells #[.int .u64 0, .int .u64 0] 24 (0, 0))) ∧
      Hid (wr.heap[w.heap.size + 1]? = some (.cells #[.int .u64 ((v / 18446744073709551616 : Nat) : Int), .int .u64 ((v % 18446744073709551616 : Nat) : Int)] 24 (0, 0)))) (fun i _ => l.length - (intOf i).toNat)
    case atStart => exact ⟨0, 0, Nat.zero_le _, rfl, by decide, Lib.hid rfl, HB0, HA0, HA1⟩
    case round =>
      clear HB0 HA0 HA1
      obtain ⟨k, v, hk, rfl, hv, HP, HB, HA0, HA1⟩ := hrel
      have c10 : wr.cell? ⟨w.heap.size + 1, 0, none⟩ = some (.int .u64 ((v / 18446744073709551616 : Nat) : Int)) := by simp [World.cell?, HA1.out]
      have c11 : wr.cell? ⟨w.heap.size + 1, 1, none⟩ = some (.int .u64 ((v % 18446744073709551616 : Nat) : Int)) := by simp [World.cell?, HA1.out]
      have c00 : wr.cell? ⟨w.heap.size, 0, none⟩ = some (.int .u64 0) := by simp [World.cell?, HA0.out]
      have c01 : wr.cell? ⟨w.heap.size, 1, none⟩ = some (.int .u64 0) := by simp [World.cell?, HA0.out]
      have f00 : wr.frozen? ⟨w.heap.size, 0, none⟩ = false := by simp [World.frozen?, HA0.out]
      have f01 : wr.frozen? ⟨w.heap.size, 1, none⟩ = false := by simp [World.frozen?, HA0.out]
      have hzz : w.heap.size < wr.heap.size := World.block_lt_of_cell? _ _ c00
      by_cases hkl : k < l.length
      · have hks : k < s.size := by omega
        have hc := hat k hks
        have hdr : l.drop k = l.getD k 0 :: l.drop (k + 1) := by rw [List.drop_eq_getElem_cons hkl, List.getD_eq_getElem?_getD, List.getElem?_eq_getElem hkl]; rfl
        have hp := HP.out
        rw [hdr] at hp
        generalize l.getD k 0 = c at hc hp
        have hcr : c.toNat < 256 := c.toNat_lt
        obtain ⟨d, hd⟩ : ∃ d, c.toNat = d := ⟨_, rfl⟩
        clear hdr hat hl hl2
        by_cases h48 : d < 48
        · have HN := Lib.hid (show parseGo l 0 = none by rw [← hp]; unfold parseGo; rw [if_neg]; rintro ⟨h, _⟩; simp [digitB, hd] at h; omega)
          clear hp
          obtain ⟨rfl, rfl⟩ := RN.out HBW.out HN.out
          go_wp2_with fail
          simp [bodyPost, results, Tryd.results29, go_sem, c00, c01, f00, f01]
          exact ⟨rfl, (HB.out.setCell (p := ⟨w.heap.size, 0, none⟩) (Nat.le_refl _) _).setCell (p := ⟨w.heap.size, 1, none⟩) (Nat.le_refl _) _⟩
        · by_cases h57 : 57 < d
          · have HN := Lib.hid (show parseGo l 0 = none by rw [← hp]; unfold parseGo; rw [if_neg]; rintro ⟨h, _⟩; simp [digitB, hd] at h; omega)
            clear hp
            obtain ⟨rfl, rfl⟩ := RN.out HBW.out HN.out
            go_wp2_with fail
            simp [bodyPost, results, Tryd.results29, go_sem, c00, c01, f00, f01]
            exact ⟨rfl, (HB.out.setCell (p := ⟨w.heap.size, 0, none⟩) (Nat.le_refl _) _).setCell (p := ⟨w.heap.size, 1, none⟩) (Nat.le_refl _) _⟩
          · obtain ⟨n, rfl⟩ : ∃ n, d = n + 48 := ⟨d - 48, by omega⟩
            have hn9 : n ≤ 9 := by omega
            have hdg : digitB c = true := by simp [digitB, hd]; omega
            have HPC := Lib.hid (show 10 * v + n < wTop → parseGo (l.drop (k + 1)) (10 * v + n) = parseGo l 0 by
              intro h
              rw [← hp]
              conv => rhs; unfold parseGo
              rw [hd, Nat.add_sub_cancel, if_pos ⟨hdg, h⟩])
            have HPN := Lib.hid (show ¬ 10 * v + n < wTop → parseGo l 0 = none by
              intro h
              rw [← hp]
              unfold parseGo
              rw [hd, Nat.add_sub_cancel, if_neg (fun g => h g.2)])
            clear hp hdg
            obtain ⟨over, low, most, high, e1, e2, e3, e4, b1, b2, b3, b4, hw⟩ := ten_words v hv
            have HV := Lib.hid hv
            have M1 := Lib.hid (fun w => by
              have h := Tryd.bits_Mul64 (v % 18446744073709551616) 10 (by omega) (by omega) w
              rw [e1, e2] at h
              exact h)
            have M2 := Lib.hid (fun w => by
              have h := Tryd.bits_Mul64 (v / 18446744073709551616) 10 (by unfold wTop at hv; omega) (by omega) w
              rw [e3, e4] at h
              exact h)
            clear e1 e2 e3 e4
            generalize v / 18446744073709551616 = vh at c10 M2 HA1
            generalize v % 18446744073709551616 = vl at c11 M1 HA1
            go_wp2_with fail
            refine (M1.out _).mono ?_
            rintro e w1 ⟨rfl, rfl⟩
            go_wp2_with fail
            refine (M2.out _).mono ?_
            rintro e w1 ⟨rfl, rfl⟩
            clear M1 M2
            rcases hw with ⟨g1, rfl, g3, g4⟩ | ⟨g1, g2⟩
            · have A1 : ∀ w, (callFunc 38 #[.int .u64 (high : Int), .int .u64 (over : Int), .int .u64 0]).run Tryd.prog w = .ok (.value (.tuple #[.int .u64 ((high : Int) + over), .int .u64 0])) w := fun w => by
                have h := add64 high over 0 (by omega) (by omega) (by omega) (by omega) (Int.le_refl 0) (by decide) w
                rw [Int.add_zero, show ((high : Int) + over) % 18446744073709551616 = (high : Int) + over by omega, show ((high : Int) + over) / 18446744073709551616 = 0 by omega] at h
                exact h
              have HAD := Lib.hid (fun w => by
                have h := wadd_any (10 * v) n g1 (by unfold wTop; omega) w
                obtain ⟨s1, s2⟩ := wide_split b2 g4
                rw [show wideV (10 * v) = .agg #[.int .u64 ((high : Int) + over), .int .u64 (low : Int)] by unfold wideV; rw [s1, s2]; simp] at h
                exact h)
              clear g4
              go_wp2_with (simp only [A1])
              refine (wof_any n (by omega) _).mono ?_
              rintro e w2 ⟨rfl, hb2⟩
              have lt0 := lt_of_heap HA0.out
              have lt1 := lt_of_heap HA1.out
              have HX0 := Lib.hid ((hb2.block _ lt0).trans HA0.out)
              have HX1 := Lib.hid ((hb2.block _ lt1).trans HA1.out)
              have HB2 := Lib.hid (bl HB.out (by omega) hb2)
              have hz2 := hb2.size
              clear hb2 c10 c11 c00 c01 f00 f01 A1 lt0 lt1
              go_wp2_with fail
              refine (HAD.out _).mono ?_
              rintro e w3 ⟨rfl, hb3⟩
              have lt0 := lt_of_heap HX0.out
              have lt1 := lt_of_heap HX1.out
              have HY0 := Lib.hid ((hb3.block _ lt0).trans HX0.out)
              have HY1 := Lib.hid ((hb3.block _ lt1).trans HX1.out)
              have HB3 := Lib.hid (bl HB2.out (by omega) hb3)
              have c00 : w3.cell? ⟨w.heap.size, 0, none⟩ = some (.int .u64 0) := by simp [World.cell?, HY0.out]
              have c01 : w3.cell? ⟨w.heap.size, 1, none⟩ = some (.int .u64 0) := by simp [World.cell?, HY0.out]
              have f00 : w3.frozen? ⟨w.heap.size, 0, none⟩ = false := by simp [World.frozen?, HY0.out]
              have f01 : w3.frozen? ⟨w.heap.size, 1, none⟩ = false := by simp [World.frozen?, HY0.out]
              have c10 : w3.cell? ⟨w.heap.size + 1, 0, none⟩ = some (.int .u64 (vh : Int)) := by simp [World.cell?, HY1.out]
              have c11 : w3.cell? ⟨w.heap.size + 1, 1, none⟩ = some (.int .u64 (vl : Int)) := by simp [World.cell?, HY1.out]
              have f10 : w3.frozen? ⟨w.heap.size + 1, 0, none⟩ = false := by simp [World.frozen?, HY1.out]
              have f11 : w3.frozen? ⟨w.heap.size + 1, 1, none⟩ = false := by simp [World.frozen?, HY1.out]
              have lz0 := lt_of_heap HY0.out
              have lz1 := lt_of_heap HY1.out
              clear hb3 lt0 lt1 HX0 HX1 HB2 HAD hz2
              unfold wideV
              by_cases hfit : 10 * v + n < wTop
              · rw [if_pos hfit, decide_eq_true hfit]
                have HPR := Lib.hid (HPC.out hfit)
                obtain ⟨nh, hnh⟩ : ∃ nh, (10 * v + n) / 18446744073709551616 = nh := ⟨_, rfl⟩
                obtain ⟨nl, hnl⟩ : ∃ nl, (10 * v + n) % 18446744073709551616 = nl := ⟨_, rfl⟩
                have HNH := Lib.hid hnh
                have HNL := Lib.hid hnl
                have HF := Lib.hid hfit
                rw [hnh, hnl]
                clear hnh hnl hfit HPC HPN
                go_wp2_with fail
                go_roundw
                case rel =>
                  refine ⟨k + 1, 10 * v + n, by omega, by go_num, HF.out, HPR, Lib.hid ?_, Lib.hid ?_, Lib.hid ?_⟩
                  · exact ((HB3.out.setCell (p := ⟨w.heap.size + 1, 0, none⟩) (Nat.le_succ _) _).setCell (p := ⟨w.heap.size + 1, 1, none⟩) (Nat.le_succ _) _).alloc (by simp; omega) _
                  · exact (Below.heap_alloc _ _ _ (by simp; omega)).trans ((Below.heap_setCell _ _ _ _ (by simp)).trans ((Below.heap_setCell _ _ _ _ (by simp)).trans HY0.out))
                  · rw [HNH.out, HNL.out]
                    exact (Below.heap_alloc _ _ _ (by simp; omega)).trans (cells2_set HY1.out)
                case measure => simp [intOf]; omega
              · rw [if_neg hfit, decide_eq_false hfit]
                obtain ⟨rfl, rfl⟩ := RN.out HBW.out (HPN.out hfit)
                clear hfit HPC HPN
                go_wp2_with fail
                simp [bodyPost, results, Tryd.results29, go_sem, c00, c01, f00, f01, lz0]
                exact ⟨rfl, ((HB3.out.setCell (p := ⟨w.heap.size, 0, none⟩) (Nat.le_refl _) _).setCell (p := ⟨w.heap.size, 1, none⟩) (Nat.le_refl _) _).alloc (by simp; omega) _⟩
            · obtain ⟨rfl, rfl⟩ := RN.out HBW.out (HPN.out (by omega))
              obtain ⟨sm, hsm⟩ : ∃ sm : Nat, (high + over) % 18446744073709551616 = sm := ⟨_, rfl⟩
              obtain ⟨cr, hcr⟩ : ∃ cr : Nat, (high + over) / 18446744073709551616 = cr := ⟨_, rfl⟩
              have A1 : ∀ w, (callFunc 38 #[.int .u64 (high : Int), .int .u64 (over : Int), .int .u64 0]).run Tryd.prog w = .ok (.value (.tuple #[.int .u64 (sm : Int), .int .u64 (cr : Int)])) w := fun w => by
                have h := add64 high over 0 (by omega) (by omega) (by omega) (by omega) (Int.le_refl 0) (by decide) w
                rw [Int.add_zero, show ((high : Int) + over) % 18446744073709551616 = (sm : Int) by omega, show ((high : Int) + over) / 18446744073709551616 = (cr : Int) by omega] at h
                exact h
              have hm1 : (0 : Int) < most + cr := by omega
              have hm2 : (most : Int) + cr < 100 := by omega
              have hs1 : sm < 18446744073709551616 := by omega
              have HAD := Lib.hid (fun w => by
                have h := wadd_any (sm * 18446744073709551616 + low) n (by unfold wTop; omega) (by unfold wTop; omega) w
                obtain ⟨s1, s2⟩ := wide_split b2 (rfl : sm * 18446744073709551616 + low = sm * 18446744073709551616 + low)
                rw [show wideV (sm * 18446744073709551616 + low) = .agg #[.int .u64 (sm : Int), .int .u64 (low : Int)] by unfold wideV; rw [s1, s2]] at h
                exact h)
              clear g1 g2 hsm hcr HPC HPN
              go_wp2_with (simp only [A1])
              refine (wof_any n (by omega) _).mono ?_
              rintro e w2 ⟨rfl, hb2⟩
              have lt0 := lt_of_heap HA0.out
              have HX0 := Lib.hid ((hb2.block _ lt0).trans HA0.out)
              have HB2 := Lib.hid (bl HB.out (by omega) hb2)
              have hz2 := hb2.size
              clear hb2 c10 c11 c00 c01 f00 f01 A1 lt0
              go_wp2_with fail
              refine (HAD.out _).mono ?_
              rintro e w3 ⟨rfl, hb3⟩
              have lt0 := lt_of_heap HX0.out
              have HY0 := Lib.hid ((hb3.block _ lt0).trans HX0.out)
              have HB3 := Lib.hid (bl HB2.out (by omega) hb3)
              have c00 : w3.cell? ⟨w.heap.size, 0, none⟩ = some (.int .u64 0) := by simp [World.cell?, HY0.out]
              have c01 : w3.cell? ⟨w.heap.size, 1, none⟩ = some (.int .u64 0) := by simp [World.cell?, HY0.out]
              have f00 : w3.frozen? ⟨w.heap.size, 0, none⟩ = false := by simp [World.frozen?, HY0.out]
              have f01 : w3.frozen? ⟨w.heap.size, 1, none⟩ = false := by simp [World.frozen?, HY0.out]
              have lz0 := lt_of_heap HY0.out
              clear hb3 lt0 HX0 HB2 HAD hz2
              unfold wideV
              generalize (if sm * 18446744073709551616 + low + n < wTop then sm * 18446744073709551616 + low + n else 0) / 18446744073709551616 = nh
              generalize (if sm * 18446744073709551616 + low + n < wTop then sm * 18446744073709551616 + low + n else 0) % 18446744073709551616 = nl
              generalize decide (sm * 18446744073709551616 + low + n < wTop) = bb
              go_wp2_with fail
              simp [bodyPost, results, Tryd.results29, go_sem, c00, c01, f00, f01, lz0]
              exact ⟨rfl, ((HB3.out.setCell (p := ⟨w.heap.size, 0, none⟩) (Nat.le_refl _) _).setCell (p := ⟨w.heap.size, 1, none⟩) (Nat.le_refl _) _).alloc (by simp; omega) _⟩
      · have hkg : k = l.length := by omega
        subst hkg
        have HN := Lib.hid (show parseGo l 0 = some v by rw [← HP.out, List.drop_of_length_le (Nat.le_refl _)]; rfl)
        obtain ⟨rfl, rfl⟩ := RS.out HBW.out _ HN.out
        go_wp2_with fail
        simp [bodyPost, results, Tryd.results29, go_sem, c00, c01, f00, f01]
        exact ⟨rfl, (HB.out.setCell (p := ⟨w.heap.size, 0, none⟩) (Nat.le_refl _) _).setCell (p := ⟨w.heap.size, 1, none⟩) (Nat.le_refl _) _⟩
end Go.Proofs.YtplbglcdmimdoaaDoor
