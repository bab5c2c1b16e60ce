/- The document's answer of layer 27: Parse. -/
import Derived.Test.YtokpgopdkimmmaaGreatDoorTellsM4
import Derived.Test.YtokpgopdkimmmaaGreatDoorOpParseWalk
namespace Go.Proofs.YtokpgopdkimmmaaGreatDoor
open Go.RowKit
set_option linter.unusedVariables false
set_option linter.unusedSimpArgs false

def scell (x : List UInt8) : Array Value := #[strV x]
theorem scellk : ∀ x, (scell x).size = 1 := fun _ => rfl
theorem flat_str : ∀ l : List (List UInt8), flatR scell l = strVs l
  | [] => rfl
  | x :: l => by rw [flatR_cons, flat_str l]; rfl
theorem sizeStr : ∀ w, (sizeOf 9).run Tryz.prog w = .ok 1 w := fun w => by simp [go_sem]
theorem rec_next {W : World} {g lo cap : Nat} {x : List UInt8} {xs : List (List UInt8)} (h : RecRow W scell 1 (some ⟨g, lo, none⟩) (x :: xs)) (hc : xs.length + 1 ≤ cap) : RecRow W scell 1 (if cap = 1 then some ⟨g, lo, none⟩ else some ⟨g, lo + 1, none⟩) xs := by
  have h2 := rec_add h 1 cap (by simp) (by simpa using hc)
  simpa [Addr.add] using h2
theorem rec_far {W : World} {gw low g i : Nat} {ws : List (List UInt8)} (h : RecRow W scell 1 (some ⟨gw, low, none⟩) ws) (hne : gw ≠ g) (v : Value) : RecRow (W.setCell ⟨g, i, none⟩ v) scell 1 (some ⟨gw, low, none⟩) ws :=
  h.keep (by simp) fun p hp _ => World.cell?_setCell_other _ _ _ _ (fun e => hne (by have h1 := hp _ rfl; subst e; exact h1.symm))
theorem arr_set_at {a : Array Value} {i : Nat} {x y : Value} (h : a[i]? = some x) : (a.setIfInBounds i y)[i]? = some y := by
  have hi := (Array.getElem?_eq_some_iff.1 h).1
  simp [hi]
theorem mk_data (s : List UInt8) : (⟨s.toArray⟩ : ByteArray).data.toList = s := by simp
theorem rsplit_any (s : List UInt8) (hs : s.length ≤ 1000000) (w : World) : Calls Tryz.prog 51 #[.string ⟨s.toArray⟩] w fun e w' => ∃ g c, e = .returned (.slice (some ⟨g, 0, none⟩) (splitW s).length c) ∧ (splitW s).length ≤ c ∧ RecRow w' scell 1 (some ⟨g, 0, none⟩) (splitW s) ∧ Below w.heap.size w w' := by
  have h := rsplitB_any ⟨s.toArray⟩ (by rw [mk_size]; exact hs) w
  rw [mk_data] at h
  refine h.mono ?_
  rintro e w' ⟨v, rfl, ho, hb⟩
  have hpos : 0 < (splitW s).length := List.length_pos_iff.2 (splitW_ne s)
  obtain ⟨g, c, hv, hc, _⟩ := ho.form hpos
  have hc2 : (splitW s).length ≤ c := by
    rcases ho.2 with ⟨h1, h2⟩ | ⟨g', c', cur, h1, _, _, h2, _⟩
    · omega
    · rw [hv] at h1; injection h1 with _ _ h3; omega
  subst hv
  exact ⟨g, c, rfl, hc2, RecRow.of_own scellk (by rw [flat_str]; exact ho) rfl, hb⟩
theorem rnumO_any (s : List UInt8) (hs : s.length ≤ 1000000) (w : World) : Calls Tryz.prog 53 #[.string ⟨s.toArray⟩] w fun e w' => ∃ (x : Nat) (ok : Bool), e = .returned (.tuple #[.int .u64 (x : Int), .bool (minusR s), .bool ok]) ∧ x < 18446744073709551616 ∧ ((ok = true ∧ numOk s = some x) ∨ (ok = false ∧ numOk s = none)) ∧ Below w.heap.size w w' := by
  refine (rnum_any s hs w).mono ?_
  rintro e w' ⟨rfl, hb⟩
  refine ⟨(parseW (bodyR s)).getD 0 % 18446744073709551616, (parseW (bodyR s)).isSome && decide ((parseW (bodyR s)).getD 0 / 18446744073709551616 = 0), rfl, Nat.mod_lt _ (by decide), ?_, hb⟩
  unfold numOk
  cases parseW (bodyR s) with
  | none => exact .inr ⟨rfl, rfl⟩
  | some v =>
    simp only [Option.isSome_some, Option.getD_some, Bool.true_and, Option.bind_some]
    by_cases h : v / 18446744073709551616 = 0
    · refine .inl ⟨decide_eq_true h, ?_⟩
      rw [if_pos h, Nat.mod_eq_of_lt (by omega)]
    · exact .inr ⟨decide_eq_false h, if_neg h⟩
theorem refP_none {s v : List UInt8} {ws : List (List UInt8)} (h : numOk v = none) : refP s 0 (v :: ws) = none := by unfold refP; rw [if_pos rfl]; simp only; rw [h]; rfl
theorem refP_some {s v : List UInt8} {ws : List (List UInt8)} {x : Nat} (h : numOk v = some x) (hx : x ≤ 255) : refP s 0 (v :: ws) = namedP s x true 4 ws := by unfold refP; rw [if_pos rfl]; simp only; rw [h, Option.bind_some, if_pos hx]
theorem refP_big {s v : List UInt8} {ws : List (List UInt8)} {x : Nat} (h : numOk v = some x) (hx : ¬ x ≤ 255) : refP s 0 (v :: ws) = none := by unfold refP; rw [if_pos rfl]; simp only; rw [h, Option.bind_some, if_neg hx]
theorem namedP_none {s v : List UInt8} {c m : Nat} {ws : List (List UInt8)} (h : numOk v = none) : namedP s c true m (v :: ws) = none := by unfold namedP; rw [if_pos rfl]; simp only; rw [h]; rfl
theorem namedP_some {s v : List UInt8} {c m : Nat} {ws : List (List UInt8)} {x : Nat} (h : numOk v = some x) (hx : x ≤ 4294967295) : namedP s c true m (v :: ws) = tailP s c x m ws := by unfold namedP; rw [if_pos rfl]; simp only; rw [h, Option.bind_some, if_pos hx]
theorem namedP_big {s v : List UInt8} {c m : Nat} {ws : List (List UInt8)} {x : Nat} (h : numOk v = some x) (hx : ¬ x ≤ 4294967295) : namedP s c true m (v :: ws) = none := by unfold namedP; rw [if_pos rfl]; simp only; rw [h, Option.bind_some, if_neg hx]
/-- The numbers of a list in four cells. -/
def cellsL (l : List Int) : Array Value := #[.int .i64 (l.getD 0 0), .int .i64 (l.getD 1 0), .int .i64 (l.getD 2 0), .int .i64 (l.getD 3 0)]
theorem cellsL_set (l : List Int) (x : Int) (h : l.length < 4) : (cellsL l).setIfInBounds l.length (.int .i64 x) = cellsL (l ++ [x]) := by
  rcases l with _ | ⟨a, _ | ⟨b, _ | ⟨c, _ | ⟨d, t⟩⟩⟩⟩
  · rfl
  · rfl
  · rfl
  · rfl
  · simp at h; omega
theorem cellsL_at (l : List Int) (i : Nat) (hi : i < 4) : ∃ y, (cellsL l)[i]? = some (.int .i64 y) := by
  rcases (show i = 0 ∨ i = 1 ∨ i = 2 ∨ i = 3 by omega) with rfl | rfl | rfl | rfl <;> exact ⟨_, rfl⟩
theorem conv_plain (x : Nat) (h : x < 18446744073709551616) : IntKind.i64.wrap (x : Int) = sgnOf false x := by
  rw [wrap_i64]
  unfold sgnOf s64
  simp only [Bool.false_eq_true, if_false]
  split <;> omega
theorem conv_minus (x : Nat) (h : x < 18446744073709551616) : IntKind.i64.wrap (IntKind.u64.wrap (-(x : Int))) = sgnOf true x := by
  rw [wrap_i64, wrap_u64]
  unfold sgnOf s64
  simp only [if_true]
  split <;> omega
set_option maxRecDepth 100000 in
set_option maxHeartbeats 8000000 in
theorem rparse27_any (s : List UInt8) (hs : s.length ≤ 1000000) (w : World) :
    Calls Tryz.prog 19 #[.string ⟨s.toArray⟩] w fun e w' => e = .returned (.tuple #[((parseOp s).getD (codeOnly 0)).val, .int .i64 (if (parseOp s).isSome then 0 else 270)]) ∧ Below w.heap.size w w' := by
  obtain ⟨pv, hpv⟩ : ∃ p, (parseOp s).getD (codeOnly 0) = p := ⟨_, rfl⟩
  obtain ⟨pe, hpe⟩ : ∃ p : Int, (if (parseOp s).isSome then 0 else 270) = p := ⟨_, rfl⟩
  have RN := Lib.hid (show parseOp s = none → pv = codeOnly 0 ∧ pe = 270 from fun h => by rw [← hpv, ← hpe, h]; exact ⟨rfl, rfl⟩)
  have RS := Lib.hid (show ∀ p, parseOp s = some p → pv = p ∧ pe = 0 from fun p h => by rw [← hpv, ← hpe, h]; exact ⟨rfl, rfl⟩)
  rw [hpv, hpe]
  clear hpv hpe
  obtain ⟨hl1, hl2⟩ := splitW_len s
  obtain ⟨w0, rest, hwr⟩ : ∃ w0 rest, splitW s = w0 :: rest := by
    cases h : splitW s with
    | nil => exact absurd h (splitW_ne s)
    | cons a b => exact ⟨a, b, rfl⟩
  have HWR := Lib.hid hwr
  have SP := Lib.hid (fun W => by have h := rsplit_any s hs W; rw [hwr, List.length_cons] at h; exact h)
  obtain ⟨sb, hsb⟩ : ∃ sb : ByteArray, ⟨s.toArray⟩ = sb := ⟨_, rfl⟩
  have HSB := Lib.hid hsb
  rw [hsb] at SP ⊢
  have HL0 := Lib.hid (show ∀ x ∈ w0 :: rest, x.length ≤ 1000000 by
    rw [hwr] at hl1
    exact fun x hx => Nat.le_trans (hl1 x hx) hs)
  have hrl : rest.length ≤ 1000000 := by rw [hwr] at hl2; simp at hl2; omega
  clear hl1 hl2 hwr hsb hs
  go_enter Tryz.func19, Tryz.ntmps19
  go_wp2_with fail
  have HB := Lib.hid ((Below.refl w.heap.size w).alloc (Nat.le_refl _) (.cells (codeOnly 0).cells 24))
  have K2 := Lib.hid (show OpB (w.alloc (.cells (codeOnly 0).cells 24)) w.heap.size (codeOnly 0) from Blk.new w _ _)
  refine (SP.out _).mono ?_
  rintro e w1 ⟨g, cap, rfl, hcap, hR, hb⟩
  obtain ⟨n, hn⟩ : ∃ n, rest.length = n := ⟨_, rfl⟩
  have HNL := Lib.hid hn
  rw [hn] at hcap hrl ⊢
  obtain ⟨b2, hb2⟩ : ∃ b, w.heap.size = b := ⟨_, rfl⟩
  have LT := Lib.hid (show w.heap.size ≤ b2 by omega)
  replace HB := Lib.hid (bl HB.out (by simp) hb)
  replace K2 := Lib.hid (K2.out.later hb)
  rw [hb2] at K2 ⊢
  have HW := Lib.hid hR
  have c0 : w1.cell? ⟨g, 0, none⟩ = some (.string ⟨w0.toArray⟩) := by
    obtain ⟨gw, low, hA, hgw, hcw⟩ := RecRow.at_ hR (show (w0 :: rest)[0]? = some w0 from rfl)
    cases hA
    have h := hcw 0 (by decide)
    exact h
  clear hb hR hn hb2 SP
  have HC := Lib.hid (fun W => rcode_any w0 W)
  obtain ⟨wb, hwb⟩ : ∃ b : ByteArray, ⟨w0.toArray⟩ = b := ⟨_, rfl⟩
  rw [hwb] at c0 HC
  clear hwb
  go_wp2_with fail
  refine (HC.out _).mono ?_
  rintro e w2 ⟨⟨q, hq, rfl⟩, rfl⟩
  have hq256 := codeR_lt hq
  have HP := Lib.hid (refP_parse HWR.out hq).symm
  clear hq c0 HC
  go_wp2_with fail
  refine (rnamed_any q w1).mono ?_
  rintro e w2 ⟨rfl, rfl⟩
  have hm4 := many_le q
  obtain ⟨A0, hA0⟩ : ∃ A : Option Addr, some (⟨g, 0, none⟩ : Addr) = A := ⟨_, rfl⟩
  rw [hA0] at HW ⊢
  obtain ⟨A1, run1, row1, _⟩ := rec_from (P := Tryz.prog) (enc := scell) (k := 1) Tryz.underlying47 sizeStr A0 (n + 1) cap 1 (by omega) hcap
  replace HW := Lib.hid (show RecRow w1 scell 1 A1 rest from row1 w1 _ (by simp [HNL.out]) HW.out)
  clear row1 hA0
  rw [show n + 1 - 1 = n by omega] at run1
  have run2 : ∀ W, (Instr.sliceAt 47 (.slice A0 (n + 1) cap) (some (.int .i64 1)) none none).run Tryz.prog W = .ok (.slice A1 n (cap - 1)) W := run1
  clear run1
  have HLN := Lib.hid (fun x hx => HL0.out x (List.mem_cons_of_mem w0 hx))
  obtain ⟨nm0, hnm0⟩ : ∃ b, namedB q = b := ⟨_, rfl⟩
  obtain ⟨m0, hm0⟩ : ∃ b, manyN q = b := ⟨_, rfl⟩
  have HPQ := Lib.hid (show q ≠ 0 → parseOp s = namedP s q nm0 m0 rest from fun h => by rw [HP.out]; unfold refP; rw [if_neg h, hnm0, hm0])
  rw [hnm0]
  rw [hm0] at hm4 ⊢
  clear hnm0 hm0
  go_upto_if 35 with (fail)
  go_cut [4, 5, 6, 7] (fun v4 v5 v6 v7 wd => ∃ (c m : Nat) (nm : Bool) (A : Option Addr) (n cap : Nat) (ws : List (List UInt8)), v4 = .slice A n cap ∧ v5 = .int .u8 (c : Int) ∧ v6 = .bool nm ∧ v7 = .int .i64 (m : Int) ∧ c < 256 ∧ m ≤ 4 ∧ n ≤ cap ∧ n ≤ 1000000 ∧ Hid (ws.length = n) ∧ Hid (∀ x ∈ ws, x.length ≤ 1000000) ∧ Hid (parseOp s = namedP s c nm m ws) ∧ Hid (RecRow wd scell 1 A ws) ∧ Hid (OpB wd b2 (codeOnly 0)) ∧ Hid (Below w.heap.size w wd))
  case first =>
    by_cases hq0 : q = 0
    · subst hq0
      have e0 : (((0 : Nat) : Int) == 0) = true := rfl
      cases rest with
      | nil =>
        obtain rfl : n = 0 := HNL.out.symm
        have HN := Lib.hid (show parseOp s = none by rw [HP.out]; rfl)
        obtain ⟨rfl, rfl⟩ := RN.out HN.out
        have g0 : w1.cell? ⟨b2, 0, none⟩ = some (.int .u8 0) := Blk.cell K2.out 0
        have g1 : w1.cell? ⟨b2, 1, none⟩ = some (.int .i64 0) := Blk.cell K2.out 1
        have g2 : w1.cell? ⟨b2, 2, none⟩ = some (.int .i64 0) := Blk.cell K2.out 2
        have g3 : w1.cell? ⟨b2, 3, none⟩ = some (.int .i64 0) := Blk.cell K2.out 3
        have g4 : w1.cell? ⟨b2, 4, none⟩ = some (.int .i64 0) := Blk.cell K2.out 4
        have g5 : w1.cell? ⟨b2, 5, none⟩ = some (.int .u32 0) := Blk.cell K2.out 5
        have q0 := Blk.frozen K2.out
        go_wp2_with fail
        simp [bodyPost, results, Tryz.results19, go_sem, g0, g1, g2, g3, g4, g5, q0]
        exact ⟨⟨rfl, rfl, rfl, rfl, rfl, rfl⟩, below_six HB.out LT.out _ _ _ _ _ _⟩
      | cons v ws' =>
        obtain ⟨n, rfl⟩ : ∃ k, n = k + 1 := ⟨ws'.length, by have := HNL.out; simp at this; omega⟩
        replace HNL := Lib.hid (show ws'.length = n by have := HNL.out; simp at this; omega)
        obtain ⟨gw, low, hA, hgw, hcw⟩ := RecRow.at_ HW.out (show (v :: ws')[0]? = some v from rfl)
        subst hA
        have cw : w1.cell? ⟨gw, low, none⟩ = some (.string ⟨v.toArray⟩) := by
          have h := hcw 0 (by decide)
          exact h
        have HNUM := Lib.hid (fun W => rnumO_any v (HLN.out v List.mem_cons_self) W)
        obtain ⟨vb, hvb⟩ : ∃ b : ByteArray, ⟨v.toArray⟩ = b := ⟨_, rfl⟩
        rw [hvb] at cw HNUM
        clear hgw hcw hvb
        go_wp2_with fail
        refine (HNUM.out _).mono ?_
        rintro e w4 ⟨x, ok, rfl, hx64, hok, hb4⟩
        have HOK := Lib.hid hok
        have K4 := Lib.hid (K2.out.later hb4)
        have HW4 := Lib.hid (HW.out.later hb4)
        have HB4 := Lib.hid (bl HB.out HB.out.size hb4)
        clear hok hb4 cw K2 HW HB HNUM
        cases ok with
        | false =>
          have HN := Lib.hid (show parseOp s = none by rw [HP.out]; exact refP_none (HOK.out.elim (fun h => by cases h.1) (fun h => h.2)))
          obtain ⟨rfl, rfl⟩ := RN.out HN.out
          have g0 : w4.cell? ⟨b2, 0, none⟩ = some (.int .u8 0) := Blk.cell K4.out 0
          have g1 : w4.cell? ⟨b2, 1, none⟩ = some (.int .i64 0) := Blk.cell K4.out 1
          have g2 : w4.cell? ⟨b2, 2, none⟩ = some (.int .i64 0) := Blk.cell K4.out 2
          have g3 : w4.cell? ⟨b2, 3, none⟩ = some (.int .i64 0) := Blk.cell K4.out 3
          have g4 : w4.cell? ⟨b2, 4, none⟩ = some (.int .i64 0) := Blk.cell K4.out 4
          have g5 : w4.cell? ⟨b2, 5, none⟩ = some (.int .u32 0) := Blk.cell K4.out 5
          have q0 := Blk.frozen K4.out
          go_wp2_with fail
          simp [bodyPost, results, Tryz.results19, go_sem, g0, g1, g2, g3, g4, g5, q0]
          exact ⟨⟨rfl, rfl, rfl, rfl, rfl, rfl⟩, below_six HB4.out LT.out _ _ _ _ _ _⟩
        | true =>
          have HX := Lib.hid (show numOk v = some x from HOK.out.elim (fun h => h.2) (fun h => by cases h.1))
          clear HOK
          by_cases hxb : x ≤ 255
          · have hgt : decide ((x : Int) > 255) = false := decide_eq_false (by omega)
            have hle : (x : Int) ≤ 255 := by omega
            have HP2 := Lib.hid (show parseOp s = namedP s x true 4 ws' by rw [HP.out]; exact refP_some HX.out hxb)
            clear HX
            obtain ⟨A6, hA6⟩ : ∃ A : Option Addr, some (⟨gw, low, none⟩ : Addr) = A := ⟨_, rfl⟩
            rw [hA6] at HW4 ⊢
            obtain ⟨A5, run5, row5, _⟩ := rec_from (P := Tryz.prog) (enc := scell) (k := 1) Tryz.underlying47 sizeStr A6 (n + 1) (cap - 1) 1 (by omega) (by omega)
            have HW5 := Lib.hid (show RecRow w4 scell 1 A5 ws' from row5 w4 _ (by simp [HNL.out]) HW4.out)
            clear row5 HW4 hA6
            rw [show n + 1 - 1 = n by omega] at run5
            have run6 : ∀ W, (Instr.sliceAt 47 (.slice A6 (n + 1) (cap - 1)) (some (.int .i64 1)) none none).run Tryz.prog W = .ok (.slice A5 n ((cap - 1) - 1)) W := run5
            clear run5
            go_wp2_with fail
            go_meet
            case rel => exact ⟨x, 4, true, _, n, _, ws', rfl, by first | rfl | (congr 1; simp [IntKind.wrap]; omega), rfl, rfl, by omega, by omega, by omega, by omega, HNL, Lib.hid (fun y hy => HLN.out y (List.mem_cons_of_mem v hy)), HP2, HW5, K4, HB4⟩
          · have hgt : decide ((x : Int) > 255) = true := decide_eq_true (by omega)
            have HN := Lib.hid (show parseOp s = none by rw [HP.out]; exact refP_big HX.out hxb)
            clear HX
            obtain ⟨rfl, rfl⟩ := RN.out HN.out
            have g0 : w4.cell? ⟨b2, 0, none⟩ = some (.int .u8 0) := Blk.cell K4.out 0
            have g1 : w4.cell? ⟨b2, 1, none⟩ = some (.int .i64 0) := Blk.cell K4.out 1
            have g2 : w4.cell? ⟨b2, 2, none⟩ = some (.int .i64 0) := Blk.cell K4.out 2
            have g3 : w4.cell? ⟨b2, 3, none⟩ = some (.int .i64 0) := Blk.cell K4.out 3
            have g4 : w4.cell? ⟨b2, 4, none⟩ = some (.int .i64 0) := Blk.cell K4.out 4
            have g5 : w4.cell? ⟨b2, 5, none⟩ = some (.int .u32 0) := Blk.cell K4.out 5
            have q0 := Blk.frozen K4.out
            go_wp2_with fail
            simp [bodyPost, results, Tryz.results19, go_sem, g0, g1, g2, g3, g4, g5, q0]
            exact ⟨⟨rfl, rfl, rfl, rfl, rfl, rfl⟩, below_six HB4.out LT.out _ _ _ _ _ _⟩
    · have hq0' : ((q : Int) == 0) = false := by simp; omega
      go_wp2_with fail
      go_meet
      case rel => exact ⟨q, m0, nm0, _, n, _, rest, rfl, rfl, rfl, rfl, hq256, hm4, by omega, by omega, HNL, HLN, Lib.hid (HPQ.out hq0), HW, K2, HB⟩
  case rest =>
    clear HP HPQ HNL HLN HW K2 HB HL0 run2
    obtain ⟨c, m, nm, A, n, cap, ws, rfl, rfl, rfl, rfl, hc256, hm4, hcap, hnl, HNL, HLN, HP, HW, K2, HB⟩ := hcut
    go_upto_if 59 with (fail)
    go_cut [4, 11] (fun v4 v11 wd => ∃ (id : Nat) (A : Option Addr) (n cap : Nat) (ws : List (List UInt8)), v4 = .slice A n cap ∧ v11 = .int .u32 (id : Int) ∧ id < 4294967296 ∧ n ≤ cap ∧ n ≤ 1000000 ∧ Hid (ws.length = n) ∧ Hid (∀ x ∈ ws, x.length ≤ 1000000) ∧ Hid (parseOp s = tailP s c id m ws) ∧ Hid (RecRow wd scell 1 A ws) ∧ Hid (OpB wd b2 (codeOnly 0)) ∧ Hid (Below w.heap.size w wd))
    case first =>
      cases nm with
      | false =>
        have HP2 := Lib.hid (show parseOp s = tailP s c 0 m ws from HP.out)
        go_wp2_with fail
        go_meet
        case rel => exact ⟨0, A, n, cap, ws, rfl, rfl, by decide, hcap, hnl, HNL, HLN, HP2, HW, K2, HB⟩
      | true =>
        cases ws with
        | nil =>
          obtain rfl : n = 0 := HNL.out.symm
          have HN := Lib.hid (show parseOp s = none by rw [HP.out]; rfl)
          obtain ⟨rfl, rfl⟩ := RN.out HN.out
          have g0 : wc.cell? ⟨b2, 0, none⟩ = some (.int .u8 0) := Blk.cell K2.out 0
          have g1 : wc.cell? ⟨b2, 1, none⟩ = some (.int .i64 0) := Blk.cell K2.out 1
          have g2 : wc.cell? ⟨b2, 2, none⟩ = some (.int .i64 0) := Blk.cell K2.out 2
          have g3 : wc.cell? ⟨b2, 3, none⟩ = some (.int .i64 0) := Blk.cell K2.out 3
          have g4 : wc.cell? ⟨b2, 4, none⟩ = some (.int .i64 0) := Blk.cell K2.out 4
          have g5 : wc.cell? ⟨b2, 5, none⟩ = some (.int .u32 0) := Blk.cell K2.out 5
          have q0 := Blk.frozen K2.out
          go_wp2_with fail
          simp [bodyPost, results, Tryz.results19, go_sem, g0, g1, g2, g3, g4, g5, q0]
          exact ⟨⟨rfl, rfl, rfl, rfl, rfl, rfl⟩, below_six HB.out LT.out _ _ _ _ _ _⟩
        | cons v ws' =>
          obtain ⟨n, rfl⟩ : ∃ k, n = k + 1 := ⟨ws'.length, by have := HNL.out; simp at this; omega⟩
          replace HNL := Lib.hid (show ws'.length = n by have := HNL.out; simp at this; omega)
          obtain ⟨gw, low, hA, hgw, hcw⟩ := RecRow.at_ HW.out (show (v :: ws')[0]? = some v from rfl)
          subst hA
          have cw : wc.cell? ⟨gw, low, none⟩ = some (.string ⟨v.toArray⟩) := by
            have h := hcw 0 (by decide)
            exact h
          have HNUM := Lib.hid (fun W => rnumO_any v (HLN.out v List.mem_cons_self) W)
          obtain ⟨vb, hvb⟩ : ∃ b : ByteArray, ⟨v.toArray⟩ = b := ⟨_, rfl⟩
          rw [hvb] at cw HNUM
          clear hgw hcw hvb
          go_wp2_with fail
          refine (HNUM.out _).mono ?_
          rintro e w4 ⟨x, ok, rfl, hx64, hok, hb4⟩
          have HOK := Lib.hid hok
          have K4 := Lib.hid (K2.out.later hb4)
          have HW4 := Lib.hid (HW.out.later hb4)
          have HB4 := Lib.hid (bl HB.out HB.out.size hb4)
          clear hok hb4 cw K2 HW HB HNUM
          cases ok with
          | false =>
            have HN := Lib.hid (show parseOp s = none by rw [HP.out]; exact namedP_none (HOK.out.elim (fun h => by cases h.1) (fun h => h.2)))
            obtain ⟨rfl, rfl⟩ := RN.out HN.out
            have g0 : w4.cell? ⟨b2, 0, none⟩ = some (.int .u8 0) := Blk.cell K4.out 0
            have g1 : w4.cell? ⟨b2, 1, none⟩ = some (.int .i64 0) := Blk.cell K4.out 1
            have g2 : w4.cell? ⟨b2, 2, none⟩ = some (.int .i64 0) := Blk.cell K4.out 2
            have g3 : w4.cell? ⟨b2, 3, none⟩ = some (.int .i64 0) := Blk.cell K4.out 3
            have g4 : w4.cell? ⟨b2, 4, none⟩ = some (.int .i64 0) := Blk.cell K4.out 4
            have g5 : w4.cell? ⟨b2, 5, none⟩ = some (.int .u32 0) := Blk.cell K4.out 5
            have q0 := Blk.frozen K4.out
            go_wp2_with fail
            simp [bodyPost, results, Tryz.results19, go_sem, g0, g1, g2, g3, g4, g5, q0]
            exact ⟨⟨rfl, rfl, rfl, rfl, rfl, rfl⟩, below_six HB4.out LT.out _ _ _ _ _ _⟩
          | true =>
            have HX := Lib.hid (show numOk v = some x from HOK.out.elim (fun h => h.2) (fun h => by cases h.1))
            clear HOK
            by_cases hxb : x ≤ 4294967295
            · have hgt : decide ((x : Int) > 4294967295) = false := decide_eq_false (by omega)
              have hle : (x : Int) ≤ 4294967295 := by omega
              have HP2 := Lib.hid (show parseOp s = tailP s c x m ws' by rw [HP.out]; exact namedP_some HX.out hxb)
              clear HX
              obtain ⟨A6, hA6⟩ : ∃ A : Option Addr, some (⟨gw, low, none⟩ : Addr) = A := ⟨_, rfl⟩
              rw [hA6] at HW4 ⊢
              obtain ⟨A5, run5, row5, _⟩ := rec_from (P := Tryz.prog) (enc := scell) (k := 1) Tryz.underlying47 sizeStr A6 (n + 1) cap 1 (by omega) (by omega)
              have HW5 := Lib.hid (show RecRow w4 scell 1 A5 ws' from row5 w4 _ (by simp [HNL.out]) HW4.out)
              clear row5 HW4 hA6
              rw [show n + 1 - 1 = n by omega] at run5
              have run6 : ∀ W, (Instr.sliceAt 47 (.slice A6 (n + 1) cap) (some (.int .i64 1)) none none).run Tryz.prog W = .ok (.slice A5 n (cap - 1)) W := run5
              clear run5
              go_wp2_with fail
              go_meet
              case rel => exact ⟨x, _, n, _, ws', rfl, by first | rfl | (congr 1; simp [IntKind.wrap]; omega), by omega, by omega, by omega, HNL, Lib.hid (fun y hy => HLN.out y (List.mem_cons_of_mem v hy)), HP2, HW5, K4, HB4⟩
            · have hgt : decide ((x : Int) > 4294967295) = true := decide_eq_true (by omega)
              have HN := Lib.hid (show parseOp s = none by rw [HP.out]; exact namedP_big HX.out hxb)
              clear HX
              obtain ⟨rfl, rfl⟩ := RN.out HN.out
              have g0 : w4.cell? ⟨b2, 0, none⟩ = some (.int .u8 0) := Blk.cell K4.out 0
              have g1 : w4.cell? ⟨b2, 1, none⟩ = some (.int .i64 0) := Blk.cell K4.out 1
              have g2 : w4.cell? ⟨b2, 2, none⟩ = some (.int .i64 0) := Blk.cell K4.out 2
              have g3 : w4.cell? ⟨b2, 3, none⟩ = some (.int .i64 0) := Blk.cell K4.out 3
              have g4 : w4.cell? ⟨b2, 4, none⟩ = some (.int .i64 0) := Blk.cell K4.out 4
              have g5 : w4.cell? ⟨b2, 5, none⟩ = some (.int .u32 0) := Blk.cell K4.out 5
              have q0 := Blk.frozen K4.out
              go_wp2_with fail
              simp [bodyPost, results, Tryz.results19, go_sem, g0, g1, g2, g3, g4, g5, q0]
              exact ⟨⟨rfl, rfl, rfl, rfl, rfl, rfl⟩, below_six HB4.out LT.out _ _ _ _ _ _⟩
    case rest =>
      clear HP HNL HLN HW K2 HB
      obtain ⟨id, A, n, cap, ws, rfl, rfl, hid32, hcap, hnl, HNL, HLN, HP, HW, K2, HB⟩ := hcut
      by_cases hnm : n = m
      · subst hnm
        have hnn : ((n : Int) == (n : Int)) = true := by simp
        have hmk : ∀ w, (Instr.makeSlice 61 (.int .i64 4) (.int .i64 4)).run Tryz.prog w = .ok (.slice (some ⟨w.heap.size, 0, none⟩) 4 4) (w.alloc (.cells #[.int .i64 0, .int .i64 0, .int .i64 0, .int .i64 0] 2)) := fun _ => by kernel_rfl
        have HTP := Lib.hid (show parseOp s = (numsP ws).bind fun l => if textL' (mkOp c id l) = s then some (mkOp c id l) else none by rw [HP.out]; unfold tailP; rw [if_pos HNL.out])
        have HC256 := Lib.hid hc256
        have HID32 := Lib.hid hid32
        clear HP hc256 hid32
        go_wp2_with fail
        clear hmk hnn
        have HN6 := Lib.hid (show Blk (wc.alloc (.cells #[.int .i64 0, .int .i64 0, .int .i64 0, .int .i64 0] 2)) wc.heap.size 2 (cellsL []) from Blk.new wc _ _)
        have LT6 := Lib.hid (show b2 < wc.heap.size ∧ w.heap.size ≤ wc.heap.size from ⟨Blk.lt K2.out, HB.out.size⟩)
        replace K2 := Lib.hid (show OpB (wc.alloc (.cells #[.int .i64 0, .int .i64 0, .int .i64 0, .int .i64 0] 2)) b2 (codeOnly 0) from Blk.alloc K2.out _)
        have HWO := HW
        replace HW := Lib.hid (HW.out.later ((Below.refl _ _).alloc (Nat.le_refl _) (.cells #[.int .i64 0, .int .i64 0, .int .i64 0, .int .i64 0] 2)))
        have HAB := Lib.hid (show ∀ g lo, A = some ⟨g, lo, none⟩ → ws ≠ [] → g ≠ wc.heap.size from fun g lo e h => by
          rcases HWO.out with h2 | ⟨g', lo', e2, h3, _⟩
          · exact absurd h2 h
          · rw [e] at e2; cases e2; omega)
        replace HB := Lib.hid (HB.out.alloc HB.out.size (.cells #[.int .i64 0, .int .i64 0, .int .i64 0, .int .i64 0] 2))
        generalize wc.alloc (.cells #[.int .i64 0, .int .i64 0, .int .i64 0, .int .i64 0] 2) = V at HN6 K2 HW HB ⊢
        obtain ⟨g6, hg6⟩ : ∃ b, wc.heap.size = b := ⟨_, rfl⟩
        rw [hg6] at HN6 LT6 HAB ⊢
        clear hg6
        go_loopw [16] (fun v16 wi => ∃ (i : Nat) (li : List Int), i ≤ n ∧ v16 = .int .i64 (i : Int) ∧ Hid (li.length = i) ∧ Hid (numsP (ws.take i) = some li) ∧ Hid (Blk wi g6 2 (cellsL li)) ∧ Hid (RecRow wi scell 1 A ws) ∧ Hid (OpB wi b2 (codeOnly 0)) ∧ Hid (Below w.heap.size w wi)) (fun v16 _ => n - (intOf v16).toNat)
        case atStart => exact ⟨0, [], Nat.zero_le _, rfl, Lib.hid rfl, Lib.hid rfl, HN6, HW, K2, HB⟩
        case round =>
          clear HN6 HW K2 HB
          obtain ⟨i, li, hi, rfl, HLI, HNP, HN6, HW, K2, HB⟩ := hrel
          by_cases hlt : i < n
          · obtain ⟨v, hv⟩ : ∃ v, ws[i]? = some v := ⟨_, List.getElem?_eq_getElem (by rw [HNL.out]; exact hlt)⟩
            have HWS := Lib.hid (show ws = ws.take i ++ (v :: ws.drop (i + 1)) by
              obtain ⟨h1, h2⟩ := List.getElem?_eq_some_iff.1 hv
              rw [← h2, ← List.drop_eq_getElem_cons h1, List.take_append_drop])
            have HTK := Lib.hid (show ws.take (i + 1) = ws.take i ++ [v] by rw [List.take_add_one, hv]; rfl)
            have HVL := Lib.hid (HLN.out v (List.mem_of_getElem? hv))
            obtain ⟨gw, low, hA, hgw, hcw⟩ := RecRow.at_ HW.out hv
            have hne6 := HAB.out gw low hA (by rintro rfl; simp at hv)
            subst hA
            have cw : wr.cell? ⟨gw, low + i, none⟩ = some (.string ⟨v.toArray⟩) := by
              have h := hcw 0 (by decide)
              rw [Nat.mul_one, Nat.add_zero] at h
              exact h
            have HNUM := Lib.hid (fun W => rnumO_any v HVL.out W)
            obtain ⟨vb, hvb⟩ : ∃ b : ByteArray, ⟨v.toArray⟩ = b := ⟨_, rfl⟩
            rw [hvb] at cw HNUM
            have HNE := Lib.hid hne6
            clear hgw hcw hvb hv hne6
            go_wp2_with fail
            refine (HNUM.out _).mono ?_
            rintro e w4 ⟨x, ok, rfl, hx64, hok, hb4⟩
            have HOK := Lib.hid hok
            have K4 := Lib.hid (K2.out.later hb4)
            have HW4 := Lib.hid (HW.out.later hb4)
            have HN64 := Lib.hid (Blk.below HN6.out hb4 (Blk.lt HN6.out))
            have HB4 := Lib.hid (bl HB.out HB.out.size hb4)
            clear hok hb4 cw K2 HW HB HNUM HN6
            cases ok with
            | false =>
              have HN := Lib.hid (show parseOp s = none by
                rw [HTP.out, HWS.out, numsP_app, HNP.out, Option.bind_some, numsP, HOK.out.elim (fun h => by cases h.1) (fun h => h.2)]
                rfl)
              obtain ⟨rfl, rfl⟩ := RN.out HN.out
              have g0 : w4.cell? ⟨b2, 0, none⟩ = some (.int .u8 0) := Blk.cell K4.out 0
              have g1 : w4.cell? ⟨b2, 1, none⟩ = some (.int .i64 0) := Blk.cell K4.out 1
              have g2 : w4.cell? ⟨b2, 2, none⟩ = some (.int .i64 0) := Blk.cell K4.out 2
              have g3 : w4.cell? ⟨b2, 3, none⟩ = some (.int .i64 0) := Blk.cell K4.out 3
              have g4 : w4.cell? ⟨b2, 4, none⟩ = some (.int .i64 0) := Blk.cell K4.out 4
              have g5 : w4.cell? ⟨b2, 5, none⟩ = some (.int .u32 0) := Blk.cell K4.out 5
              have q0 := Blk.frozen K4.out
              go_wp2_with fail
              simp [bodyPost, results, Tryz.results19, go_sem, g0, g1, g2, g3, g4, g5, q0]
              exact ⟨⟨rfl, rfl, rfl, rfl, rfl, rfl⟩, below_six HB4.out LT.out _ _ _ _ _ _⟩
            | true =>
              have HX := Lib.hid (show numOk v = some x from HOK.out.elim (fun h => h.2) (fun h => by cases h.1))
              have HNP2 := Lib.hid (show numsP (ws.take (i + 1)) = some (li ++ [sgnOf (minusR v) x]) by
                rw [HTK.out, numsP_app, HNP.out, Option.bind_some, numsP, HX.out]
                rfl)
              have hlt4 : i < 4 := by omega
              have hlt4' : (i : Int) < 4 := by omega
              obtain ⟨y0, hy0⟩ := cellsL_at li i hlt4
              have c6 : w4.cell? ⟨g6, i, none⟩ = some (.int .i64 y0) := (Blk.cell HN64.out i).trans hy0
              have f6 : w4.frozen? ⟨g6, i, none⟩ = false := Blk.frozen HN64.out i
              have hw1 := conv_plain x hx64
              have hw2 := conv_minus x hx64
              obtain ⟨y1, hy1⟩ : ∃ y, sgnOf false x = y := ⟨_, rfl⟩
              obtain ⟨y2, hy2⟩ : ∃ y, sgnOf true x = y := ⟨_, rfl⟩
              rw [hy1] at hw1
              rw [hy2] at hw2
              have HLL := Lib.hid (show li.length < 4 by rw [HLI.out]; exact hlt4)
              cases hmn : minusR v with
              | false =>
                have HLI2 := Lib.hid (show (li ++ [y1]).length = i + 1 by rw [List.length_append, List.length_singleton, HLI.out])
                replace HNP2 := Lib.hid (show numsP (ws.take (i + 1)) = some (li ++ [y1]) by rw [HNP2.out, hmn, hy1])
                have HS6 := Lib.hid (show Blk (w4.setCell ⟨g6, i, none⟩ (.int .i64 y1)) g6 2 (cellsL (li ++ [y1])) by
                  have h := Blk.set_ HN64.out i (.int .i64 y1)
                  rw [← HLI.out] at h ⊢
                  rw [cellsL_set li y1 HLL.out] at h
                  exact h)
                have HSW := Lib.hid (show RecRow (w4.setCell ⟨g6, i, none⟩ (.int .i64 y1)) scell 1 (some ⟨gw, low, none⟩) ws from rec_far HW4.out HNE.out _)
                have HSK := Lib.hid (show OpB (w4.setCell ⟨g6, i, none⟩ (.int .i64 y1)) b2 (codeOnly 0) from Blk.far K4.out (p := ⟨g6, i, none⟩) (by have := LT6.out.1; show b2 ≠ g6; omega) _)
                have HSB2 := Lib.hid (HB4.out.setCell (p := ⟨g6, i, none⟩) LT6.out.2 (.int .i64 y1))
                clear hy0 hy1 hy2 hmn HN64 HW4 K4 HB4 hw2 HX HOK
                go_wp2_with fail
                go_roundw
                case rel => exact ⟨i + 1, li ++ [y1], by omega, by go_num, HLI2, HNP2, HS6, HSW, HSK, HSB2⟩
                case measure => simp [intOf] <;> omega
              | true =>
                have HLI2 := Lib.hid (show (li ++ [y2]).length = i + 1 by rw [List.length_append, List.length_singleton, HLI.out])
                replace HNP2 := Lib.hid (show numsP (ws.take (i + 1)) = some (li ++ [y2]) by rw [HNP2.out, hmn, hy2])
                have HS6 := Lib.hid (show Blk ((w4.setCell ⟨g6, i, none⟩ (.int .i64 y1)).setCell ⟨g6, i, none⟩ (.int .i64 y2)) g6 2 (cellsL (li ++ [y2])) by
                  have h := Blk.set_ (Blk.set_ HN64.out i (.int .i64 y1)) i (.int .i64 y2)
                  rw [Array.setIfInBounds_setIfInBounds] at h
                  rw [← HLI.out] at h ⊢
                  rw [cellsL_set li y2 HLL.out] at h
                  exact h)
                have HSW := Lib.hid (show RecRow ((w4.setCell ⟨g6, i, none⟩ (.int .i64 y1)).setCell ⟨g6, i, none⟩ (.int .i64 y2)) scell 1 (some ⟨gw, low, none⟩) ws from rec_far (rec_far HW4.out HNE.out _) HNE.out _)
                have HSK := Lib.hid (show OpB ((w4.setCell ⟨g6, i, none⟩ (.int .i64 y1)).setCell ⟨g6, i, none⟩ (.int .i64 y2)) b2 (codeOnly 0) from Blk.far (Blk.far K4.out (p := ⟨g6, i, none⟩) (by have := LT6.out.1; show b2 ≠ g6; omega) _) (p := ⟨g6, i, none⟩) (by have := LT6.out.1; show b2 ≠ g6; omega) _)
                have HSB2 := Lib.hid ((HB4.out.setCell (p := ⟨g6, i, none⟩) LT6.out.2 (.int .i64 y1)).setCell (p := ⟨g6, i, none⟩) LT6.out.2 (.int .i64 y2))
                have c7 : (w4.setCell ⟨g6, i, none⟩ (.int .i64 y1)).cell? ⟨g6, i, none⟩ = some (.int .i64 y1) := by rw [Blk.cell (Blk.set_ HN64.out i (.int .i64 y1)) i]; exact arr_set_at hy0
                have f7 : (w4.setCell ⟨g6, i, none⟩ (.int .i64 y1)).frozen? ⟨g6, i, none⟩ = false := Blk.frozen (Blk.set_ HN64.out i (.int .i64 y1)) i
                clear hy0 hy1 hy2 hmn HN64 HW4 K4 HB4 HX HOK
                go_wp2_with fail
                go_roundw
                case rel => exact ⟨i + 1, li ++ [y2], by omega, by go_num, HLI2, HNP2, HS6, HSW, HSK, HSB2⟩
                case measure => simp [intOf] <;> omega
          · obtain rfl : i = n := by omega
            have HNS := Lib.hid (show numsP ws = some li by rw [← HNP.out, List.take_of_length_le (by rw [HNL.out]; exact Nat.le_refl _)])
            have HPO := Lib.hid (show (mkOp c id li).ok from by
              have hin := numsP_in ws li HNS.out
              have hg : ∀ j, In64 (li.getD j 0) := by
                intro j
                rw [List.getD_eq_getElem?_getD]
                cases hj : li[j]? with
                | none => exact in64_zero
                | some x => exact hin x (List.mem_of_getElem? hj)
              exact ⟨HC256.out, hg 0, hg 1, hg 2, hg 3, HID32.out⟩)
            have HFIN := Lib.hid (show parseOp s = if textL' (mkOp c id li) = s then some (mkOp c id li) else none by rw [HTP.out, HNS.out, Option.bind_some])
            go_wp2_with fail
            refine (rof_any c id (li.getD 0 0) (li.getD 1 0) (li.getD 2 0) (li.getD 3 0) g6 wr HN6.out).mono ?_
            rintro e w5 ⟨rfl, hb5⟩
            have K5 := Lib.hid (K2.out.later hb5)
            have HB5 := Lib.hid (bl HB.out HB.out.size hb5)
            rw [show (⟨c, li.getD 0 0, li.getD 1 0, li.getD 2 0, li.getD 3 0, id⟩ : OpV) = mkOp c id li from rfl]
            obtain ⟨p, hp⟩ : ∃ p, mkOp c id li = p := ⟨_, rfl⟩
            rw [hp] at HPO HFIN ⊢
            clear hb5 hp HN6 HW K2 HB
            have K6 := Lib.hid (show OpB (w5.alloc (.cells p.cells 24)) b2 (codeOnly 0) from Blk.alloc K5.out _)
            have K20 := Lib.hid (show OpB (w5.alloc (.cells p.cells 24)) w5.heap.size p from Blk.new w5 _ _)
            have HB6 := Lib.hid (HB5.out.alloc HB5.out.size (.cells p.cells 24))
            have L20 := Lib.hid (show b2 < w5.heap.size from Blk.lt K5.out)
            go_wp2_with fail
            refine (rtext27_any p HPO.out _).mono ?_
            rintro e w9 ⟨rfl, hb9⟩
            have K9 := Lib.hid (K6.out.later hb9)
            have K29 := Lib.hid (K20.out.later hb9)
            have HB9 := Lib.hid (bl HB6.out HB6.out.size hb9)
            obtain ⟨b20, hb20⟩ : ∃ b, w5.heap.size = b := ⟨_, rfl⟩
            rw [hb20] at K29 ⊢
            clear hb9 K6 K20 HB6 hb20 K5 HB5 L20
            have c50 : w9.cell? ⟨b20, 0, none⟩ = some (.int .u8 (p.k : Int)) := Blk.cell K29.out 0
            have c51 : w9.cell? ⟨b20, 1, none⟩ = some (.int .i64 p.a) := Blk.cell K29.out 1
            have c52 : w9.cell? ⟨b20, 2, none⟩ = some (.int .i64 p.b) := Blk.cell K29.out 2
            have c53 : w9.cell? ⟨b20, 3, none⟩ = some (.int .i64 p.c) := Blk.cell K29.out 3
            have c54 : w9.cell? ⟨b20, 4, none⟩ = some (.int .i64 p.d) := Blk.cell K29.out 4
            have c55 : w9.cell? ⟨b20, 5, none⟩ = some (.int .u32 (p.id : Int)) := Blk.cell K29.out 5
            have g0 : w9.cell? ⟨b2, 0, none⟩ = some (.int .u8 0) := Blk.cell K9.out 0
            have g1 : w9.cell? ⟨b2, 1, none⟩ = some (.int .i64 0) := Blk.cell K9.out 1
            have g2 : w9.cell? ⟨b2, 2, none⟩ = some (.int .i64 0) := Blk.cell K9.out 2
            have g3 : w9.cell? ⟨b2, 3, none⟩ = some (.int .i64 0) := Blk.cell K9.out 3
            have g4 : w9.cell? ⟨b2, 4, none⟩ = some (.int .i64 0) := Blk.cell K9.out 4
            have g5 : w9.cell? ⟨b2, 5, none⟩ = some (.int .u32 0) := Blk.cell K9.out 5
            have q0 := Blk.frozen K9.out
            by_cases hts : textL' p = s
            · have HS' := Lib.hid (show parseOp s = some p by rw [HFIN.out, if_pos hts])
              obtain ⟨rfl, rfl⟩ := RS.out p HS'.out
              have HEQ : (⟨(textL' pv).toArray⟩ : ByteArray) = sb := by rw [hts]; exact HSB.out
              rw [HEQ]
              clear hts
              go_wp2_with fail
              simp [bodyPost, results, Tryz.results19, go_sem, g0, g1, g2, g3, g4, g5, q0]
              exact below_six HB9.out LT.out _ _ _ _ _ _
            · have HN := Lib.hid (show parseOp s = none by rw [HFIN.out, if_neg hts])
              obtain ⟨tb, htb⟩ : ∃ tb : ByteArray, ⟨(textL' p).toArray⟩ = tb := ⟨_, rfl⟩
              have hneq : (tb.toList == sb.toList) = false := by
                rw [ByteArray.toList_eq, ByteArray.toList_eq, ← HSB.out, ← htb]
                simpa using hts
              rw [htb]
              clear hts htb
              obtain ⟨rfl, rfl⟩ := RN.out HN.out
              go_wp2_with fail
              simp [bodyPost, results, Tryz.results19, go_sem, g0, g1, g2, g3, g4, g5, q0]
              exact ⟨⟨rfl, rfl, rfl, rfl, rfl, rfl⟩, below_six HB9.out LT.out _ _ _ _ _ _⟩
      · have hnn : ((n : Int) == (m : Int)) = false := by simp; omega
        have HN := Lib.hid (show parseOp s = none by rw [HP.out]; unfold tailP; rw [if_neg (by rw [HNL.out]; exact hnm)])
        clear hnm
        obtain ⟨rfl, rfl⟩ := RN.out HN.out
        have g0 : wc.cell? ⟨b2, 0, none⟩ = some (.int .u8 0) := Blk.cell K2.out 0
        have g1 : wc.cell? ⟨b2, 1, none⟩ = some (.int .i64 0) := Blk.cell K2.out 1
        have g2 : wc.cell? ⟨b2, 2, none⟩ = some (.int .i64 0) := Blk.cell K2.out 2
        have g3 : wc.cell? ⟨b2, 3, none⟩ = some (.int .i64 0) := Blk.cell K2.out 3
        have g4 : wc.cell? ⟨b2, 4, none⟩ = some (.int .i64 0) := Blk.cell K2.out 4
        have g5 : wc.cell? ⟨b2, 5, none⟩ = some (.int .u32 0) := Blk.cell K2.out 5
        have q0 := Blk.frozen K2.out
        go_wp2_with fail
        simp [bodyPost, results, Tryz.results19, go_sem, g0, g1, g2, g3, g4, g5, q0]
        exact ⟨⟨rfl, rfl, rfl, rfl, rfl, rfl⟩, below_six HB.out LT.out _ _ _ _ _ _⟩
end Go.Proofs.YtokpgopdkimmmaaGreatDoor
