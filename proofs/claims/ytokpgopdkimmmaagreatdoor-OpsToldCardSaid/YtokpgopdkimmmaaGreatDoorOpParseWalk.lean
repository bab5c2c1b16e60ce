/- ops.Parse: the walk. -/
import Derived.Test.YtokpgopdkimmmaaGreatDoorOpParse
namespace Go.Proofs.YtokpgopdkimmmaaGreatDoor
open Go.RowKit
set_option linter.unusedVariables false
set_option linter.unusedSimpArgs false

/-- The processor's variable that Split reads: some number. -/
def MaxAt (w : World) : Prop := 2 < w.heap.size ∧ ∃ m : Int, w.cell? ⟨2, 0, none⟩ = some (.int .i64 m)
theorem MaxAt.later {w w' : World} (h : MaxAt w) (hb : Below w.heap.size w w') : MaxAt w' := by
  obtain ⟨hl, m, hm⟩ := h
  exact ⟨Nat.lt_of_lt_of_le hl hb.size, m, (hb.cell (p := ⟨_, 0, none⟩) hl).trans hm⟩
theorem opsplit_any (s : List UInt8) (hs : s.length ≤ 1000000) (w : World) (hm : MaxAt w) : Calls Tryz.prog 47 #[.string ⟨s.toArray⟩, .string ⟨#[32]⟩] w fun e w' =>
    ∃ g, e = .returned (.slice (some ⟨g, 0, none⟩) (splitW s).length (splitW s).length) ∧ RowS w' g (splitW s) ∧ Below w.heap.size w w' := by
  obtain ⟨_, m, hm⟩ := hm
  have h := Tryz.strings_Split ⟨s.toArray⟩ ⟨#[32]⟩ m w (by rw [mk_size]; omega) hm (by decide)
  rw [countB_words, splitB_list, List.map_map] at h
  exact h.mono fun _ _ ⟨h1, h2⟩ => ⟨_, h1, h2 ▸ RowS.new w _ _, h2 ▸ (Below.refl _ _).alloc (Nat.le_refl _) _⟩
theorem fields_any (w : World) (ht : Blanks w) (T : ByteArray) (hT : Lib.fields T.data.toList = opRows) (h1 : T.size < 4294967281) (h2 : ∀ (j : Nat) b, T.data.toList[j]? = some b → b.toNat < 128) : Calls Tryz.prog 21 #[.string T] w fun e w' =>
    e = .returned (.slice (some ⟨w.heap.size, 0, none⟩) 20 20) ∧ RowS w' w.heap.size opRows ∧ Below w.heap.size w w' := by
  have h := Tryz.strings_Fields T w h1 h2 ht
  rw [hT] at h
  refine h.mono fun _ _ ⟨h1, h2⟩ => ⟨h1, ?_, ?_⟩
  · rw [h2]; exact RowS.new w opRows _
  · rw [h2]; exact (Below.refl _ _).alloc (Nat.le_refl _) _
theorem splitW_len : ∀ (s : List UInt8), (∀ x ∈ splitW s, x.length ≤ s.length) ∧ (splitW s).length ≤ s.length + 1
  | [] => by simp [splitW]
  | c :: l => by
    obtain ⟨h1, h2⟩ := splitW_len l
    rw [splitW]
    split
    · refine ⟨fun x hx => ?_, by simp; omega⟩
      rcases List.mem_cons.1 hx with rfl | hx
      · simp
      · have := h1 x hx; simp; omega
    · split
      · rename_i w ws hws
        rw [hws] at h1 h2
        refine ⟨fun x hx => ?_, by simpa using Nat.le_succ_of_le h2⟩
        rcases List.mem_cons.1 hx with rfl | hx
        · have := h1 w List.mem_cons_self; simp; omega
        · have := h1 x (List.mem_cons_of_mem _ hx); simp; omega
      · rename_i h; exact absurd h (splitW_ne l)
theorem below_six {B : Nat} {w y : World} {b : Nat} (h : Below B w y) (hb : B ≤ b) (u0 u1 u2 u3 u4 u5 : Value) :
    Below B w ((((((y.setCell ⟨b, 0, none⟩ u0).setCell ⟨b, 1, none⟩ u1).setCell ⟨b, 2, none⟩ u2).setCell ⟨b, 3, none⟩ u3).setCell ⟨b, 4, none⟩ u4).setCell ⟨b, 5, none⟩ u5) :=
  (((((h.setCell (p := ⟨b, 0, none⟩) hb u0).setCell (p := ⟨b, 1, none⟩) hb u1).setCell (p := ⟨b, 2, none⟩) hb u2).setCell (p := ⟨b, 3, none⟩) hb u3).setCell (p := ⟨b, 4, none⟩) hb u4).setCell (p := ⟨b, 5, none⟩) hb u5
theorem RowS.far {w : World} {g b i : Nat} {l : List (List UInt8)} (h : RowS w g l) (hne : g ≠ b) (v : Value) : RowS (w.setCell ⟨b, i, none⟩ v) g l :=
  ⟨by have := h.1; simpa using this, fun k x hx => by rw [World.cell?_setCell_other _ _ _ _ (fun e => hne (by cases e; rfl))]; exact h.2 k x hx⟩
theorem code_set {w : World} {b k : Nat} (h : OpB w b (codeOnly 0)) : OpB (w.setCell ⟨b, 0, none⟩ (.int .u8 (k : Int))) b (codeOnly k) := by
  have h := Blk.set_ h 0 (.int .u8 (k : Int))
  exact h
theorem row_set {w : World} {b : Nat} {u v : Value} (h : Blk w b 47 #[u]) : Blk (w.setCell ⟨b, 0, none⟩ v) b 47 #[v] := by
  have h := Blk.set_ h 0 v
  simpa using h
theorem let_all : ∀ c ∈ allLet, LetB c := by
  intro c hc
  simp only [allLet, List.mem_cons, List.not_mem_nil, or_false] at hc
  rcases hc with rfl | rfl | rfl | rfl | rfl
  · exact .inl rfl
  all_goals exact .inr (by decide)
set_option maxRecDepth 100000 in
set_option maxHeartbeats 4000000 in
theorem opparse_any (s : List UInt8) (hs : s.length ≤ 1000000) (w : World) (ht : Tab64 w) (hk : Blanks w) (he : ErrVars w) (hm : MaxAt w) :
    Calls Tryz.prog 18 #[.string ⟨s.toArray⟩] w fun e w' => e = .returned (.tuple #[((parseOp s).getD (codeOnly 0)).val, .int .i64 (if (parseOp s).isSome then 0 else 270)]) ∧ Below w.heap.size w w' := by
  have HT := Lib.hid ht
  have HK := Lib.hid hk
  have HE := Lib.hid he
  obtain ⟨pv, hpv⟩ : ∃ p, (parseOp s).getD (codeOnly 0) = p := ⟨_, rfl⟩
  obtain ⟨pe, hpe⟩ : ∃ p : Int, (if (parseOp s).isSome then 0 else 270) = p := ⟨_, rfl⟩
  have RN := Lib.hid (show parseOp s = none → pv = codeOnly 0 ∧ pe = 270 from fun h => by rw [← hpv, ← hpe, h]; exact ⟨rfl, rfl⟩)
  have RS := Lib.hid (show ∀ o, parseOp s = some o → pv = o ∧ pe = 0 from fun o h => by rw [← hpv, ← hpe, h]; exact ⟨rfl, rfl⟩)
  rw [hpv, hpe]
  clear hpv hpe ht hk he
  obtain ⟨ws, hws⟩ : ∃ ws, splitW s = ws := ⟨_, rfl⟩
  have hne : ws ≠ [] := by rw [← hws]; exact splitW_ne s
  obtain ⟨hl1, hl2⟩ := splitW_len s
  rw [hws] at hl1 hl2
  obtain ⟨w0, rest, hwr⟩ : ∃ w0 rest, ws = w0 :: rest := by
    cases ws with
    | nil => exact absurd rfl hne
    | cons a b => exact ⟨a, b, rfl⟩
  have HP := Lib.hid (show parseOp s = (candOp (w0 :: rest)).bind fun o => if textL' o = s then some o else none by unfold parseOp; rw [hws, hwr])
  have SP := Lib.hid (fun w hm => by have h := opsplit_any s hs w hm; rw [hws, hwr, List.length_cons] at h; exact h)
  have HM := Lib.hid hm
  obtain ⟨sb, hsb⟩ : ∃ sb : ByteArray, ⟨s.toArray⟩ = sb := ⟨_, rfl⟩
  have HSB := Lib.hid hsb
  rw [hsb] at SP ⊢
  have HL := Lib.hid (show (∀ x ∈ w0 :: rest, x.length ≤ 1000000) ∧ rest.length ≤ 1000000 by
    rw [hwr] at hl1 hl2
    exact ⟨fun x hx => Nat.le_trans (hl1 x hx) hs, by simp at hl2; omega⟩)
  clear hws hne hl1 hl2 hwr hsb hm hs
  go_enter Tryz.func18, Tryz.ntmps18
  go_wp2_with fail
  have HB := Lib.hid ((Below.refl w.heap.size w).alloc (Nat.le_refl _) (.cells (codeOnly 0).cells 24))
  have K2 := Lib.hid (show OpB (w.alloc (.cells (codeOnly 0).cells 24)) w.heap.size (codeOnly 0) from Blk.new w _ _)
  refine (SP.out _ (HM.out.later HB.out)).mono ?_
  rintro e w1 ⟨g, rfl, hR, hb⟩
  obtain ⟨n, hn⟩ : ∃ n, rest.length = n := ⟨_, rfl⟩
  have HNN := Lib.hid hn
  rw [hn]
  obtain ⟨b2, hb2⟩ : ∃ b, w.heap.size = b := ⟨_, rfl⟩
  obtain ⟨bw, hbw⟩ : ∃ b, w1.heap.size = b := ⟨_, rfl⟩
  have LT := Lib.hid (show b2 < bw ∧ g < bw ∧ w.heap.size ≤ b2 by have h1 := hb.size; rw [World.size_alloc] at h1; have h2 := hR.1; omega)
  replace HB := Lib.hid (bl HB.out (by simp) hb)
  replace K2 := Lib.hid (K2.out.later hb)
  rw [hb2] at K2 ⊢
  have RS0 := Lib.hid hR
  clear hb hR hn hb2
  go_upto_region 3 with (fail)
  have KW := Lib.hid (show Blk ((w1.alloc (.cells #[.slice (some ⟨g, 0, none⟩) (n + 1) (n + 1)] 47)).alloc (.cells (codeOnly 0).cells 24)) bw 47 #[.slice (some ⟨g, 0, none⟩) (n + 1) (n + 1)] by rw [← hbw]; exact Blk.alloc (Blk.new w1 _ _) _)
  have K5 := Lib.hid (show OpB ((w1.alloc (.cells #[.slice (some ⟨g, 0, none⟩) (n + 1) (n + 1)] 47)).alloc (.cells (codeOnly 0).cells 24)) (bw + 1) (codeOnly 0) by
    rw [← hbw]
    have h := Blk.new (w1.alloc (.cells #[.slice (some ⟨g, 0, none⟩) (n + 1) (n + 1)] 47)) 24 (codeOnly 0).cells
    rw [World.size_alloc] at h
    exact h)
  replace K2 := Lib.hid (show OpB ((w1.alloc (.cells #[.slice (some ⟨g, 0, none⟩) (n + 1) (n + 1)] 47)).alloc (.cells (codeOnly 0).cells 24)) b2 (codeOnly 0) from Blk.alloc (Blk.alloc K2.out _) _)
  replace RS0 := Lib.hid ((RS0.out.later ((Below.refl _ _).alloc (Nat.le_refl _) (.cells #[.slice (some ⟨g, 0, none⟩) (n + 1) (n + 1)] 47))).later ((Below.refl _ _).alloc (Nat.le_refl _) (.cells (codeOnly 0).cells 24)))
  replace HB := Lib.hid ((HB.out.alloc HB.out.size (.cells #[.slice (some ⟨g, 0, none⟩) (n + 1) (n + 1)] 47)).alloc (Nat.le_trans HB.out.size (by simp)) (.cells (codeOnly 0).cells 24))
  have hV : (w1.alloc (.cells #[.slice (some ⟨g, 0, none⟩) (n + 1) (n + 1)] 47)).alloc (.cells #[.int .u8 0, .int .i64 0, .int .i64 0, .int .i64 0, .int .i64 0, .int .u32 0] 24) = (w1.alloc (.cells #[.slice (some ⟨g, 0, none⟩) (n + 1) (n + 1)] 47)).alloc (.cells (codeOnly 0).cells 24) := rfl
  rw [hV]
  generalize (w1.alloc (.cells #[.slice (some ⟨g, 0, none⟩) (n + 1) (n + 1)] 47)).alloc (.cells (codeOnly 0).cells 24) = V at KW K5 K2 RS0 HB ⊢
  clear hV hbw SP HM
  have cw : V.cell? ⟨bw, 0, none⟩ = some (.slice (some ⟨g, 0, none⟩) (n + 1) (n + 1)) := Blk.cell KW.out 0
  have c0 := RS0.out.2 0 w0 rfl
  have fw := Blk.frozen KW.out 0
  have f20 := Blk.frozen K2.out
  obtain ⟨isop, hio⟩ : ∃ q, (decide (w0 = [111, 112]) && decide (0 < n)) = q := ⟨_, rfl⟩
  have HIO := Lib.hid hio
  clear hio
  go_upto_region 4 with (fail)
  go_cut [23] (fun v wc => v = .bool isop ∧ wc = V)
  case first =>
    by_cases h0 : w0 = [111, 112]
    · subst h0
      have HQ := Lib.hid (show isop = decide (0 < n) by rw [← HIO.out]; rfl)
      cases n with
      | zero =>
        go_wp2_with fail
        go_meet
        case rel => exact ⟨by rw [HQ.out]; rfl, rfl⟩
      | succ n =>
        go_wp2_with fail
        go_meet
        case rel => exact ⟨by rw [HQ.out, decide_eq_true (show 0 < n + 1 by omega), decide_eq_true (show (1 : Int) < (n : Int) + 1 + 1 by omega)], rfl⟩
    · have hq : ((⟨w0.toArray⟩ : ByteArray).toList == [111, 112]) = false := by
        rw [ByteArray.toList_eq]
        simpa using h0
      have HQ := Lib.hid (show isop = false by rw [← HIO.out, decide_eq_false h0]; rfl)
      go_wp2_with fail
      go_meet
      case rel => exact ⟨by rw [HQ.out], rfl⟩
  case rest =>
  obtain ⟨rfl, rfl⟩ := hcut
  go_upto_if 23 with (fail)
  go_cut [6] (fun v wd => ∃ (k off m cap : Nat) (ls : List UInt8) (args : List (List UInt8)), v = .string ⟨ls.toArray⟩ ∧ k < 256 ∧ m + 1 ≤ cap ∧ cap ≤ 1000001 ∧ ls.length ≤ 5 ∧ Hid (headOp (w0 :: rest) = some (k, ls, args)) ∧ Hid (∀ c ∈ ls, LetB c) ∧ Hid (args.length = m) ∧ Hid (args = rest.drop off) ∧
    Hid (Blk wd bw 47 #[.slice (some ⟨g, off, none⟩) (m + 1) cap]) ∧ Hid (RowS wd g (w0 :: rest)) ∧ Hid (OpB wd (bw + 1) (codeOnly k)) ∧ Hid (OpB wd b2 (codeOnly 0)) ∧ Hid (Below w.heap.size w wd))
  case first =>
    cases isop
    case true =>
      have HOP := Lib.hid (show w0 = [111, 112] ∧ 0 < n by have := HIO.out; simpa using this)
      obtain ⟨hw0, hn0⟩ := HOP.out
      obtain ⟨v, args, hva⟩ : ∃ v args, rest = v :: args := by
        cases hre : rest with
        | nil => have := HNN.out; rw [hre] at this; simp at this; omega
        | cons a b => exact ⟨a, b, rfl⟩
      subst hva
      subst hw0
      obtain ⟨m, rfl⟩ : ∃ m, n = m + 1 := ⟨n - 1, by omega⟩
      have c1 := RS0.out.2 1 v rfl
      obtain ⟨sv, hsv⟩ : ∃ sv : ByteArray, ⟨v.toArray⟩ = sv := ⟨_, rfl⟩
      have HSV := Lib.hid hsv
      rw [hsv] at c1
      have PU := Lib.hid (fun w he => by
        have h := pu8_any ⟨v.toArray⟩ (by rw [mk_size]; exact HL.out.1 v (List.mem_cons_of_mem _ List.mem_cons_self)) w he
        rw [hsv] at h
        exact h)
      have hmb : m ≤ 1000000 := by have h1 := HL.out.2; have h2 := HNN.out; simp at h1 h2; omega
      clear hsv hn0
      go_wp2_with fail
      refine (PU.out _ (HE.out.later HB.out)).mono ?_
      rintro e w2 ⟨x, ev, rfl, hx, hr, hb⟩
      have K2' := Lib.hid (K2.out.later hb)
      have K5' := Lib.hid (K5.out.later hb)
      have KW' := Lib.hid (Blk.below KW.out hb (Blk.lt KW.out))
      have RS' := Lib.hid (RS0.out.later hb)
      have HB' := Lib.hid (bl HB.out HB.out.size hb)
      have HR := Lib.hid hr
      clear hb hr K2 K5 KW RS0 HB cw c0 c1 fw f20 PU
      rcases HR.out with ⟨rfl, hr⟩ | ⟨⟨T, N, rfl⟩, hr⟩
      · have hx8 : Lib.parseUintB 8 v = .ok x := by
          have hd : sv.data.toList = v := by rw [← HSV.out]
          rw [← hd]; exact hr
        have HH := Lib.hid (show headOp ([111, 112] :: v :: args) = some (x, allLet, args) by rw [headOp_op, hx8])
        have cw : w2.cell? ⟨bw, 0, none⟩ = some (.slice (some ⟨g, 0, none⟩) (m + 1 + 1) (m + 1 + 1)) := Blk.cell KW'.out 0
        have fw := Blk.frozen KW'.out 0
        have c5 : w2.cell? ⟨bw + 1, 0, none⟩ = some (.int .u8 0) := Blk.cell K5'.out 0
        have f5 := Blk.frozen K5'.out 0
        clear hx8 hr HR
        go_upto_region 8 with (fail)
        go_region
        all_goals
          go_wp2_with fail
          go_meet
          case rel =>
            refine ⟨x, 1, m, m + 1, allLet, args, rfl, hx, Nat.le_refl _, by omega, by decide, HH, Lib.hid let_all, Lib.hid (by have := HNN.out; simpa using this), Lib.hid rfl, Lib.hid ?_, Lib.hid ?_, Lib.hid ?_, Lib.hid ?_, Lib.hid ?_⟩
            · first | exact row_set (Blk.far (KW'.out.drew) (p := ⟨bw + 1, 0, none⟩) (by show bw ≠ bw + 1; omega) _) | exact Blk.far (row_set KW'.out.drew) (p := ⟨bw + 1, 0, none⟩) (by show bw ≠ bw + 1; omega) _
            · first | exact ((show RowS w2.drew g _ from RS'.out).far (by have := LT.out; omega) _).far (by have := LT.out; omega) _
            · first | exact Blk.far (code_set (show OpB w2.drew (bw + 1) (codeOnly 0) from K5'.out)) (p := ⟨bw, 0, none⟩) (by show bw + 1 ≠ bw; omega) _ | exact code_set (Blk.far (K5'.out.drew) (p := ⟨bw, 0, none⟩) (by show bw + 1 ≠ bw; omega) _)
            · first | exact Blk.far (Blk.far (K2'.out.drew) (p := ⟨bw + 1, 0, none⟩) (by have := LT.out; show b2 ≠ bw + 1; omega) _) (p := ⟨bw, 0, none⟩) (by have := LT.out; show b2 ≠ bw; omega) _ | exact Blk.far (Blk.far (K2'.out.drew) (p := ⟨bw, 0, none⟩) (by have := LT.out; show b2 ≠ bw; omega) _) (p := ⟨bw + 1, 0, none⟩) (by have := LT.out; show b2 ≠ bw + 1; omega) _
            · first | exact ((HB'.out.drew).setCell (p := ⟨bw + 1, 0, none⟩) (by have := LT.out; show w.heap.size ≤ bw + 1; omega) _).setCell (p := ⟨bw, 0, none⟩) (by have := LT.out; show w.heap.size ≤ bw; omega) _ | exact ((HB'.out.drew).setCell (p := ⟨bw, 0, none⟩) (by have := LT.out; show w.heap.size ≤ bw; omega) _).setCell (p := ⟨bw + 1, 0, none⟩) (by have := LT.out; show w.heap.size ≤ bw + 1; omega) _
      · have HN := Lib.hid (show parseOp s = none by
          rw [HP.out]
          unfold candOp
          rw [headOp_op]
          have hd : sv.data.toList = v := by rw [← HSV.out]
          rw [hd] at hr
          cases h : Lib.parseUintB 8 v with
          | ok u => exact absurd h (hr u)
          | _ => rfl)
        obtain ⟨rfl, rfl⟩ := RN.out HN.out
        have g0 : w2.cell? ⟨b2, 0, none⟩ = some (.int .u8 0) := Blk.cell K2'.out 0
        have g1 : w2.cell? ⟨b2, 1, none⟩ = some (.int .i64 0) := Blk.cell K2'.out 1
        have g2 : w2.cell? ⟨b2, 2, none⟩ = some (.int .i64 0) := Blk.cell K2'.out 2
        have g3 : w2.cell? ⟨b2, 3, none⟩ = some (.int .i64 0) := Blk.cell K2'.out 3
        have g4 : w2.cell? ⟨b2, 4, none⟩ = some (.int .i64 0) := Blk.cell K2'.out 4
        have g5 : w2.cell? ⟨b2, 5, none⟩ = some (.int .u32 0) := Blk.cell K2'.out 5
        have q0 := Blk.frozen K2'.out
        clear hr HR
        go_wp2_with fail
        simp [bodyPost, results, Tryz.results18, go_sem, g0, g1, g2, g3, g4, g5, q0]
        exact ⟨⟨rfl, rfl, rfl, rfl, rfl, rfl⟩, below_six HB'.out LT.out.2.2 _ _ _ _ _ _⟩
    case false =>
      have HOP := Lib.hid (show ¬ (w0 = [111, 112] ∧ rest ≠ []) by
        have h1 := HIO.out
        rintro ⟨h2, h3⟩
        subst h2
        have h4 : 0 < n := by
          rw [← HNN.out]
          exact List.length_pos_iff.2 h3
        simp [h4] at h1)
      have hnb : n ≤ 1000000 := by have h1 := HL.out.2; have h2 := HNN.out; omega
      go_wp2_with fail
      refine (fields_any _ (HK.out.later HB.out) _ (of_decide_eq_true (by kernel_rfl)) (by decide) (ascii_of _ (by decide))).mono ?_
      rintro e w2 ⟨rfl, hRF, hb⟩
      obtain ⟨gF, hgF⟩ : ∃ x, wc.heap.size = x := ⟨_, rfl⟩
      rw [hgF] at hRF ⊢
      have K2' := Lib.hid (K2.out.later hb)
      have K5' := Lib.hid (K5.out.later hb)
      have KW' := Lib.hid (Blk.below KW.out hb (Blk.lt KW.out))
      have RS' := Lib.hid (RS0.out.later hb)
      have HB' := Lib.hid (bl HB.out HB.out.size hb)
      have cw2 : w2.cell? ⟨bw, 0, none⟩ = some (.slice (some ⟨g, 0, none⟩) (n + 1) (n + 1)) := Blk.cell KW'.out 0
      have c02 := RS'.out.2 0 w0 rfl
      have IX := Lib.hid (index_any opRows w0 bw g gF (n + 1) n (by decide) w2 hRF cw2 c02 (HL.out.1 w0 List.mem_cons_self))
      obtain ⟨ix, hix⟩ : ∃ ix, idxP (w0 ++ [45]) opRows = ix := ⟨_, rfl⟩
      rw [hix] at IX
      have HIX := Lib.hid hix
      clear hix hgF hb K2 K5 KW RS0 HB cw c0 fw f20 cw2 c02 hRF
      go_wp2_with fail
      refine IX.out.mono ?_
      rintro e w3 ⟨rfl, rfl⟩
      by_cases hneg : ix < 0
      · have HN := Lib.hid (show parseOp s = none by
          rw [HP.out]
          unfold candOp
          rw [headOp_cons, if_neg HOP.out, HIX.out, if_pos hneg]
          rfl)
        obtain ⟨rfl, rfl⟩ := RN.out HN.out
        have g0 : w2.cell? ⟨b2, 0, none⟩ = some (.int .u8 0) := Blk.cell K2'.out 0
        have g1 : w2.cell? ⟨b2, 1, none⟩ = some (.int .i64 0) := Blk.cell K2'.out 1
        have g2 : w2.cell? ⟨b2, 2, none⟩ = some (.int .i64 0) := Blk.cell K2'.out 2
        have g3 : w2.cell? ⟨b2, 3, none⟩ = some (.int .i64 0) := Blk.cell K2'.out 3
        have g4 : w2.cell? ⟨b2, 4, none⟩ = some (.int .i64 0) := Blk.cell K2'.out 4
        have g5 : w2.cell? ⟨b2, 5, none⟩ = some (.int .u32 0) := Blk.cell K2'.out 5
        have q0 := Blk.frozen K2'.out
        go_wp2_with fail
        simp [bodyPost, results, Tryz.results18, go_sem, g0, g1, g2, g3, g4, g5, q0]
        exact ⟨⟨rfl, rfl, rfl, rfl, rfl, rfl⟩, below_six HB'.out LT.out.2.2 _ _ _ _ _ _⟩
      · obtain ⟨j, rfl⟩ : ∃ j : Nat, ix = (j : Int) := ⟨ix.toNat, by omega⟩
        have hj : j < 20 := by
          have h := idxP_lt (w0 ++ [45]) opRows
          rw [HIX.out] at h
          have : opRows.length = 20 := rfl
          omega
        have HH := Lib.hid (show headOp (w0 :: rest) = some (j + 1, letOf (j + 1), rest) by
          rw [headOp_cons, if_neg HOP.out, HIX.out, if_neg hneg]
          rfl)
        have c5 : w2.cell? ⟨bw + 1, 0, none⟩ = some (.int .u8 0) := Blk.cell K5'.out 0
        have f5 := Blk.frozen K5'.out 0
        have l5 := Blk.lt K5'.out
        have LA := Lib.hid (fun w hk => by
          have k := line_any (j + 1) (by omega) w hk
          rw [show ((j + 1 : Nat) : Int) = (j : Int) + 1 from rfl] at k
          exact k)
        have K5s := Lib.hid (show OpB (w2.setCell ⟨bw + 1, 0, none⟩ (.int .u8 ((j : Int) + 1))) (bw + 1) (codeOnly (j + 1)) from code_set K5'.out)
        have KWs := Lib.hid (show Blk (w2.setCell ⟨bw + 1, 0, none⟩ (.int .u8 ((j : Int) + 1))) bw 47 #[.slice (some ⟨g, 0, none⟩) (n + 1) (n + 1)] from Blk.far KW'.out (p := ⟨bw + 1, 0, none⟩) (by show bw ≠ bw + 1; omega) _)
        have RSs := Lib.hid (RS'.out.far (b := bw + 1) (i := 0) (by have := LT.out; omega) (.int .u8 ((j : Int) + 1)))
        have K2s := Lib.hid (show OpB (w2.setCell ⟨bw + 1, 0, none⟩ (.int .u8 ((j : Int) + 1))) b2 (codeOnly 0) from Blk.far K2'.out (p := ⟨bw + 1, 0, none⟩) (by have := LT.out; show b2 ≠ bw + 1; omega) _)
        have HBs := Lib.hid (HB'.out.setCell (p := ⟨bw + 1, 0, none⟩) (by have := LT.out; show w.heap.size ≤ bw + 1; omega) (.int .u8 ((j : Int) + 1)))
        have HLL := Lib.hid (show (letOf (j + 1)).length ≤ 5 by obtain ⟨_, _, _, r4⟩ := opRows_at ⟨j, hj⟩; exact r4)
        clear KW' RS' K2' HB' K5' IX
        go_wp2_with fail
        generalize w2.setCell ⟨bw + 1, 0, none⟩ (.int .u8 ((j : Int) + 1)) = W3 at K5s KWs RSs K2s HBs ⊢
        clear c5 f5 l5
        refine (LA.out _ (HK.out.later HBs.out)).mono ?_
        rintro e w4 ⟨rfl, hb4⟩
        go_wp2_with fail
        go_meet
        case rel =>
          exact ⟨j + 1, 0, n, n + 1, letOf (j + 1), rest, rfl, by omega, Nat.le_refl _, by omega, HLL.out, HH, Lib.hid (letOf_let _), HNN, Lib.hid rfl, Lib.hid (Blk.below KWs.out hb4 (Blk.lt KWs.out)), Lib.hid (RSs.out.later hb4), Lib.hid (K5s.out.later hb4), Lib.hid (K2s.out.later hb4), Lib.hid (bl HBs.out HBs.out.size hb4)⟩
  case rest =>
    obtain ⟨k, off, m, cap, ls, args, rfl, hk, hmc, hcap, hls, HH, HLS, HAM, HAR, KW, RS0, K5, K2, HB⟩ := hcut
    clear cw c0 fw f20 HIO
    have cw : wc.cell? ⟨bw, 0, none⟩ = some (.slice (some ⟨g, off, none⟩) (m + 1) cap) := Blk.cell KW.out 0
    obtain ⟨lb, hlb⟩ : ∃ lb : ByteArray, ⟨ls.toArray⟩ = lb := ⟨_, rfl⟩
    have hsz : lb.size = ls.length := by rw [← hlb, mk_size]
    have hat : ∀ (i : Nat) (h : i < lb.size), ls[i]? = some lb[i] := by
      intro i h
      subst hlb
      exact Lib.getElem_mk ls i h
    obtain ⟨nl, hnl⟩ : ∃ nl, ls.length = nl := ⟨_, rfl⟩
    rw [hnl] at hsz hls
    have HNL := Lib.hid hnl
    rw [hlb]
    clear hlb hnl
    by_cases hml : m = nl
    case neg =>
      have HN := Lib.hid (show parseOp s = none by
        rw [HP.out]
        unfold candOp
        rw [HH.out, Option.bind_some, if_neg (by show ¬ args.length = ls.length; rw [HAM.out, HNL.out]; exact hml)]
        rfl)
      have g0 : wc.cell? ⟨b2, 0, none⟩ = some (.int .u8 0) := Blk.cell K2.out 0
      have g1 : wc.cell? ⟨b2, 1, none⟩ = some (.int .i64 0) := Blk.cell K2.out 1
      have g2 : wc.cell? ⟨b2, 2, none⟩ = some (.int .i64 0) := Blk.cell K2.out 2
      have g3 : wc.cell? ⟨b2, 3, none⟩ = some (.int .i64 0) := Blk.cell K2.out 3
      have g4 : wc.cell? ⟨b2, 4, none⟩ = some (.int .i64 0) := Blk.cell K2.out 4
      have g5 : wc.cell? ⟨b2, 5, none⟩ = some (.int .u32 0) := Blk.cell K2.out 5
      have q0 := Blk.frozen K2.out
      obtain ⟨rfl, rfl⟩ := RN.out HN.out
      go_wp2_with fail
      simp [bodyPost, results, Tryz.results18, go_sem, g0, g1, g2, g3, g4, g5, q0]
      exact ⟨⟨rfl, rfl, rfl, rfl, rfl, rfl⟩, below_six HB.out LT.out.2.2 _ _ _ _ _ _⟩
    case pos =>
      subst hml
      have HC := Lib.hid (show parseOp s = (setAll (codeOnly k) ls args).bind fun o => if textL' o = s then some o else none by
        rw [HP.out]
        unfold candOp
        rw [HH.out, Option.bind_some, if_pos (by show args.length = ls.length; rw [HAM.out, HNL.out])])
      have HAL := Lib.hid (show ∀ x ∈ args, x.length ≤ 1000000 from fun x hx => HL.out.1 x (List.mem_cons_of_mem _ (List.mem_of_mem_drop (by rw [← HAR.out]; exact hx))))
      have HARO := Lib.hid (show ∀ (i : Nat) (x : List UInt8), args[i]? = some x → (w0 :: rest)[off + (i + 1)]? = some x from fun i x hx => by
        rw [HAR.out, List.getElem?_drop] at hx
        rw [show off + (i + 1) = (off + i) + 1 by omega, List.getElem?_cons_succ]
        exact hx)
      clear HH HAR HP
      go_wp2_with fail
      obtain ⟨kI, hkI⟩ : ∃ x, wc.heap.size = x := ⟨_, rfl⟩
      have LI := Lib.hid (show bw + 1 < kI ∧ g < kI by have h1 := Blk.lt K5.out; have h2 := RS0.out.1; omega)
      have AL : Below wc.heap.size wc (wc.iter lb 0) := (Below.refl _ _).alloc (Nat.le_refl _) (.stringIter lb 0)
      have HI := Lib.hid (show (wc.iter lb 0).heap[kI]? = some (.stringIter lb 0) by rw [← hkI]; exact World.iter_heap wc lb 0)
      have KW' := Lib.hid (Blk.below KW.out AL (Blk.lt KW.out))
      have K5' := Lib.hid (K5.out.later AL)
      have K2' := Lib.hid (K2.out.later AL)
      have RS' := Lib.hid (RS0.out.later AL)
      have HB' := Lib.hid (bl HB.out HB.out.size AL)
      rw [hkI]
      generalize wc.iter lb 0 = V2 at HI KW' K5' K2' RS' HB' ⊢
      clear hkI AL KW K5 K2 RS0 HB cw
      go_loopw [11, 12] (fun _ _ wr => ∃ (pos : Nat) (p : OpV), pos ≤ m ∧ p.ok ∧ Hid (setAll (codeOnly k) ls args = setAll p (ls.drop pos) (args.drop pos)) ∧ Hid (wr.heap[kI]? = some (.stringIter lb pos)) ∧ Hid (Blk wr bw 47 #[.slice (some ⟨g, off, none⟩) (m + 1) cap]) ∧
        Hid (OpB wr (bw + 1) p) ∧ Hid (OpB wr b2 (codeOnly 0)) ∧ Hid (RowS wr g (w0 :: rest)) ∧ Hid (Below w.heap.size w wr)) (fun _ _ wr => lb.size - wr.iterPos kI)
      case atStart => exact ⟨0, codeOnly k, Nat.zero_le _, codeOnly_ok hk, Lib.hid rfl, HI, KW', K5', K2', RS', HB'⟩
      case round =>
        clear HI KW' K5' K2' RS' HB'
        obtain ⟨pos, p, hpos, hpok, HSA, HI, KW, K5, K2, RS0, HB⟩ := hrel
        by_cases hp : pos < lb.size
        · have hc := hat pos hp
          obtain ⟨c, hcc⟩ : ∃ c, lb[pos] = c := ⟨_, rfl⟩
          rw [hcc] at hc
          have hL := HLS.out c (List.mem_of_getElem? hc)
          have ha : (lb[pos]'hp).toNat < 128 := by
            rw [hcc]
            rcases hL with rfl | ⟨_, h⟩
            · decide
            · omega
          have hnx : ∀ ty, (Instr.next (.pointer (some ⟨kI, 0, none⟩)) true ty).run Tryz.prog wr = .ok (.tuple #[.bool true, .int .i64 pos, .int .i32 (c.toNat : Int)]) (wr.iterAt kI lb (pos + 1)) := fun ty => by
            rw [Lib.run_next_ascii_at wr kI lb pos ty HI.out hp ha, hcc]
          obtain ⟨x, hx⟩ : ∃ x, args[pos]? = some x := ⟨_, List.getElem?_eq_getElem (by rw [HAM.out]; omega)⟩
          have HI' := Lib.hid (Lib.iterAt_heap wr kI lb pos (pos + 1) HI.out)
          have hio : ∀ b, b < kI → (wr.iterAt kI lb (pos + 1)).heap[b]? = wr.heap[b]? := fun b hb => Lib.iterAt_other wr kI b lb (pos + 1) (by omega)
          have KW' := Lib.hid (show Blk (wr.iterAt kI lb (pos + 1)) bw 47 #[.slice (some ⟨g, off, none⟩) (m + 1) cap] from (hio bw (by have := LI.out; omega)).trans KW.out)
          have K5' := Lib.hid (show OpB (wr.iterAt kI lb (pos + 1)) (bw + 1) p from (hio (bw + 1) LI.out.1).trans K5.out)
          have K2' := Lib.hid (show OpB (wr.iterAt kI lb (pos + 1)) b2 (codeOnly 0) from (hio b2 (by have := LI.out; have := LT.out; omega)).trans K2.out)
          have RS' := Lib.hid (show RowS (wr.iterAt kI lb (pos + 1)) g (w0 :: rest) from ⟨by rw [Lib.iterAt_size]; exact RS0.out.1, fun i y hy => (World.cell?_of_block (a := ⟨g, i, none⟩) (hio g LI.out.2)).trans (RS0.out.2 i y hy)⟩)
          have HB' := Lib.hid (Lib.below_iterAt HB.out (k := kI) (by have := LI.out; have := LT.out; omega) lb (pos + 1))
          have cx := RS'.out.2 _ _ (HARO.out pos x hx)
          have cw : (wr.iterAt kI lb (pos + 1)).cell? ⟨bw, 0, none⟩ = some (.slice (some ⟨g, off, none⟩) (m + 1) cap) := Blk.cell KW'.out 0
          have SX := Lib.hid (fun w hb he => set_any (bw + 1) p hpok c hL x (HAL.out x (List.mem_of_getElem? hx)) w hb he)
          have HST := Lib.hid (show setAll (codeOnly k) ls args = (setL p c x).bind fun o' => setAll o' (ls.drop (pos + 1)) (args.drop (pos + 1)) by
            rw [HSA.out, List.drop_eq_getElem_cons (l := ls) (by rw [HNL.out]; omega), List.drop_eq_getElem_cons (l := args) (by rw [HAM.out]; omega)]
            have e1 : ls[pos]'(by rw [HNL.out]; omega) = c := by
              have := List.getElem?_eq_getElem (l := ls) (i := pos) (by rw [HNL.out]; omega)
              rw [this] at hc; exact Option.some.inj hc
            have e2 : args[pos]'(by rw [HAM.out]; omega) = x := by
              have := List.getElem?_eq_getElem (l := args) (i := pos) (by rw [HAM.out]; omega)
              rw [this] at hx; exact Option.some.inj hx
            rw [e1, e2, setAll])
          have HPI := Lib.hid (show wr.iterPos kI = pos by unfold World.iterPos; rw [HI.out])
          have hpm : pos < m := by omega
          generalize wr.iterAt kI lb (pos + 1) = W1 at hnx HI' KW' K5' K2' RS' HB' cx cw
          clear hc hcc ha hL hx hio HI KW K5 K2 RS0 HB
          go_wp2_with fail
          refine (SX.out _ K5'.out (HE.out.later HB'.out)).mono ?_
          rintro e w3 ⟨p', rfl, hq, hpok', hO3, hg3⟩
          have K2 := Lib.hid (show OpB w3 b2 (codeOnly 0) from Blk.grown K2'.out hg3 (fun h => by have := LT.out; injection h with h; omega))
          have KW := Lib.hid (Blk.grown KW'.out hg3 (fun h => by injection h with h; omega))
          have RS := Lib.hid (show RowS w3 g (w0 :: rest) from ⟨Nat.lt_of_lt_of_le RS'.out.1 hg3.size, fun i y hy => (World.cell?_of_block (a := ⟨g, i, none⟩) (hg3.block g RS'.out.1 (fun h => by have := LT.out; injection h with h; omega))).trans (RS'.out.2 i y hy)⟩)
          have HI := Lib.hid ((hg3.block kI (Array.getElem?_eq_some_iff.1 HI'.out).1 (fun h => by have := LI.out; injection h with h; omega)).trans HI'.out)
          have HB := Lib.hid (HB'.out.grown hg3 HB'.out.size (fun r hr => by cases hr; have := LT.out; omega))
          have K5 := Lib.hid hO3
          have HQ := Lib.hid hq
          clear hg3 hO3 hq KW' K5' K2' RS' HI' HB' cx cw SX hnx
          cases hsl : setL p c x with
          | none =>
            have HN := Lib.hid (show parseOp s = none by rw [HC.out, HST.out, hsl]; rfl)
            clear hsl
            have g0 : w3.cell? ⟨b2, 0, none⟩ = some (.int .u8 0) := Blk.cell K2.out 0
            have g1 : w3.cell? ⟨b2, 1, none⟩ = some (.int .i64 0) := Blk.cell K2.out 1
            have g2 : w3.cell? ⟨b2, 2, none⟩ = some (.int .i64 0) := Blk.cell K2.out 2
            have g3 : w3.cell? ⟨b2, 3, none⟩ = some (.int .i64 0) := Blk.cell K2.out 3
            have g4 : w3.cell? ⟨b2, 4, none⟩ = some (.int .i64 0) := Blk.cell K2.out 4
            have g5 : w3.cell? ⟨b2, 5, none⟩ = some (.int .u32 0) := Blk.cell K2.out 5
            have q0 := Blk.frozen K2.out
            obtain ⟨rfl, rfl⟩ := RN.out HN.out
            go_wp2_with fail
            simp [bodyPost, results, Tryz.results18, go_sem, g0, g1, g2, g3, g4, g5, q0]
            exact ⟨⟨rfl, rfl, rfl, rfl, rfl, rfl⟩, below_six HB.out LT.out.2.2 _ _ _ _ _ _⟩
          | some q =>
            have HPP := Lib.hid (show setAll (codeOnly k) ls args = setAll p' (ls.drop (pos + 1)) (args.drop (pos + 1)) by rw [HST.out, hsl, Option.bind_some, HQ.out q hsl])
            clear hsl
            go_wp2_with fail
            refine ⟨⟨pos + 1, p', by omega, hpok', HPP, HI, KW, K5, K2, RS, HB⟩, ?_⟩
            rw [HPI.out, show w3.iterPos kI = pos + 1 by unfold World.iterPos; rw [HI.out]]
            omega
        · have hnx : ∀ ty, (Instr.next (.pointer (some ⟨kI, 0, none⟩)) true ty).run Tryz.prog wr = _ := fun ty => Lib.run_next_end_at wr kI lb pos ty HI.out hp
          have hpm : pos = m := by omega
          have HFIN := Lib.hid (show parseOp s = if textL' p = s then some p else none by
            rw [HC.out, HSA.out, hpm, List.drop_of_length_le (by rw [HNL.out]; exact Nat.le_refl _), List.drop_of_length_le (by rw [HAM.out]; exact Nat.le_refl _)]
            rfl)
          have TX := Lib.hid (optext_any p hpok _ (Tab64.later HT.out HB.out) (HK.out.later HB.out) (HE.out.later HB.out))
          have c50 : wr.cell? ⟨bw + 1, 0, none⟩ = some (.int .u8 (p.k : Int)) := Blk.cell K5.out 0
          have c51 : wr.cell? ⟨bw + 1, 1, none⟩ = some (.int .i64 p.a) := Blk.cell K5.out 1
          have c52 : wr.cell? ⟨bw + 1, 2, none⟩ = some (.int .i64 p.b) := Blk.cell K5.out 2
          have c53 : wr.cell? ⟨bw + 1, 3, none⟩ = some (.int .i64 p.c) := Blk.cell K5.out 3
          have c54 : wr.cell? ⟨bw + 1, 4, none⟩ = some (.int .i64 p.d) := Blk.cell K5.out 4
          have c55 : wr.cell? ⟨bw + 1, 5, none⟩ = some (.int .u32 (p.id : Int)) := Blk.cell K5.out 5
          clear hpm
          go_wp2_with fail
          refine TX.out.mono ?_
          rintro e w9 ⟨rfl, hb9⟩
          have K2' := Lib.hid (K2.out.later hb9)
          have K5' := Lib.hid (K5.out.later hb9)
          have HB' := Lib.hid (bl HB.out HB.out.size hb9)
          clear hb9 c50 c51 c52 c53 c54 c55 hnx HI KW K5 K2 RS0 HB
          have g0 : w9.cell? ⟨b2, 0, none⟩ = some (.int .u8 0) := Blk.cell K2'.out 0
          have g1 : w9.cell? ⟨b2, 1, none⟩ = some (.int .i64 0) := Blk.cell K2'.out 1
          have g2 : w9.cell? ⟨b2, 2, none⟩ = some (.int .i64 0) := Blk.cell K2'.out 2
          have g3 : w9.cell? ⟨b2, 3, none⟩ = some (.int .i64 0) := Blk.cell K2'.out 3
          have g4 : w9.cell? ⟨b2, 4, none⟩ = some (.int .i64 0) := Blk.cell K2'.out 4
          have g5 : w9.cell? ⟨b2, 5, none⟩ = some (.int .u32 0) := Blk.cell K2'.out 5
          have q0 := Blk.frozen K2'.out
          have c50 : w9.cell? ⟨bw + 1, 0, none⟩ = some (.int .u8 (p.k : Int)) := Blk.cell K5'.out 0
          have c51 : w9.cell? ⟨bw + 1, 1, none⟩ = some (.int .i64 p.a) := Blk.cell K5'.out 1
          have c52 : w9.cell? ⟨bw + 1, 2, none⟩ = some (.int .i64 p.b) := Blk.cell K5'.out 2
          have c53 : w9.cell? ⟨bw + 1, 3, none⟩ = some (.int .i64 p.c) := Blk.cell K5'.out 3
          have c54 : w9.cell? ⟨bw + 1, 4, none⟩ = some (.int .i64 p.d) := Blk.cell K5'.out 4
          have c55 : w9.cell? ⟨bw + 1, 5, none⟩ = some (.int .u32 (p.id : Int)) := Blk.cell K5'.out 5
          by_cases hts : textL' p = s
          · have HS' := Lib.hid (show parseOp s = some p by rw [HFIN.out, if_pos hts])
            obtain ⟨rfl, rfl⟩ := RS.out p HS'.out
            have HEQ : (⟨(textL' pv).toArray⟩ : ByteArray) = sb := by rw [hts]; exact HSB.out
            rw [HEQ]
            clear hts
            go_wp2_with fail
            simp [bodyPost, results, Tryz.results18, go_sem, g0, g1, g2, g3, g4, g5, q0]
            exact below_six HB'.out LT.out.2.2 _ _ _ _ _ _
          · have HN := Lib.hid (show parseOp s = none by rw [HFIN.out, if_neg hts])
            obtain ⟨tb, htb⟩ : ∃ tb : ByteArray, ⟨(textL' p).toArray⟩ = tb := ⟨_, rfl⟩
            have hneq : (tb.toList == sb.toList) = false := by
              rw [ByteArray.toList_eq, ByteArray.toList_eq, ← HSB.out, ← htb]
              simpa using hts
            rw [htb]
            clear hts htb
            obtain ⟨rfl, rfl⟩ := RN.out HN.out
            go_wp2_with fail
            simp [bodyPost, results, Tryz.results18, go_sem, g0, g1, g2, g3, g4, g5, q0]
            exact ⟨⟨rfl, rfl, rfl, rfl, rfl, rfl⟩, below_six HB'.out LT.out.2.2 _ _ _ _ _ _⟩
end Go.Proofs.YtokpgopdkimmmaaGreatDoor
