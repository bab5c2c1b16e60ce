/- The chapter's examples (layer 27): awake. -/
import Derived.Test.YtokpgopdkimmmaaGreatDoorTellsM5
import Derived.Test.YtokpgopdkimmmaaGreatDoorOpReplyWalk
import Derived.Test.YtokpgopdkimmmaaGreatDoorOpLaw
namespace Go.Proofs.YtokpgopdkimmmaaGreatDoor
open Go.RowKit
set_option linter.unusedVariables false
set_option linter.unusedSimpArgs false

def opA : OpV := ⟨1, 3, -4, 0, 0, 7⟩
def opB : OpV := ⟨1, 3, -4, 1, 0, 7⟩
theorem in64_of (x : Int) (h : decide (-9223372036854775808 ≤ x) = true ∧ decide (x < 9223372036854775808) = true) : In64 x := ⟨of_decide_eq_true h.1, of_decide_eq_true h.2⟩
theorem opA_ok : opA.ok := ⟨by decide, ⟨by decide, by decide⟩, ⟨by decide, by decide⟩, in64_zero, in64_zero, by decide⟩
theorem opB_ok : opB.ok := ⟨by decide, ⟨by decide, by decide⟩, ⟨by decide, by decide⟩, ⟨by decide, by decide⟩, in64_zero, by decide⟩
theorem textA : textL' opA = [112, 111, 105, 110, 116, 32, 55, 32, 51, 32, 45, 52] := by kernel_rfl
theorem textB : textL' opB = [111, 112, 32, 49, 32, 55, 32, 51, 32, 45, 52, 32, 49, 32, 48] := by kernel_rfl
theorem text99 : textL' (codeOnly 99) = [111, 112, 32, 57, 57, 32, 48, 32, 48, 32, 48, 32, 48, 32, 48] := by kernel_rfl
/-- "point 7 3 -0", "op 1 7 3 -4 0 0", "point 7 3", "", "sky ", "point 4294967296 0 0", "stab 9223372036854775808" -/
def badLines : List (List UInt8) := [[112, 111, 105, 110, 116, 32, 55, 32, 51, 32, 45, 48], [111, 112, 32, 49, 32, 55, 32, 51, 32, 45, 52, 32, 48, 32, 48], [112, 111, 105, 110, 116, 32, 55, 32, 51], [], [115, 107, 121, 32],
  [112, 111, 105, 110, 116, 32, 52, 50, 57, 52, 57, 54, 55, 50, 57, 54, 32, 48, 32, 48], [115, 116, 97, 98, 32, 57, 50, 50, 51, 51, 55, 50, 48, 51, 54, 56, 53, 52, 55, 55, 53, 56, 48, 56]]
theorem bad_none : badLines.map parseOp = [none, none, none, none, none, none, none] := by kernel_rfl
theorem bad_len : ∀ l ∈ badLines, l.length ≤ 1000000 := by decide
theorem parse_sky : parseOp [115, 107, 121] = some (codeOnly 14) := by kernel_rfl
structure Env27 (w : World) : Prop where
  t : Tab64 w
  k : Blanks w
  e : ErrVars w
  m : MaxAt w
theorem Env27.later {w w' : World} (h : Env27 w) (hb : Below w.heap.size w w') : Env27 w' := ⟨Tab64.later h.t hb, h.k.later hb, h.e.later hb, h.m.later hb⟩
theorem bad_at (j : Nat) (l : List UInt8) (h : badLines[j]? = some l) : parseOp l = none := by
  have e := congrArg (fun x => x[j]?) bad_none
  simp only [List.getElem?_map, h, Option.map_some] at e
  have hj := (List.getElem?_eq_some_iff.1 h).1
  have : badLines.length = 7 := rfl
  rcases (show j = 0 ∨ j = 1 ∨ j = 2 ∨ j = 3 ∨ j = 4 ∨ j = 5 ∨ j = 6 by omega) with rfl | rfl | rfl | rfl | rfl | rfl | rfl <;> simpa using e
abbrev badV : Array Value := (badLines.map fun l => Value.string ⟨l.toArray⟩).toArray
abbrev RetS (l : List UInt8) (w : World) (e : Ending) (w' : World) : Prop := e = .returned (.string ⟨l.toArray⟩) ∧ Below w.heap.size w w'
theorem textA_call (w : World) (h : Env27 w) : Calls Tryz.prog 12 #[.agg #[.int .u8 1, .int .i64 3, .int .i64 (-4), .int .i64 0, .int .i64 0, .int .u32 7]] w fun e w' => e = .returned (.string ⟨#[112, 111, 105, 110, 116, 32, 55, 32, 51, 32, 45, 52]⟩) ∧ Below w.heap.size w w' := by
  have g := optext_any opA opA_ok w h.t h.k h.e
  rw [textA] at g
  exact g
theorem textB_call (w : World) (h : Env27 w) : Calls Tryz.prog 12 #[.agg #[.int .u8 1, .int .i64 3, .int .i64 (-4), .int .i64 1, .int .i64 0, .int .u32 7]] w fun e w' => e = .returned (.string ⟨#[111, 112, 32, 49, 32, 55, 32, 51, 32, 45, 52, 32, 49, 32, 48]⟩) ∧ Below w.heap.size w w' := by
  have g := optext_any opB opB_ok w h.t h.k h.e
  rw [textB] at g
  exact g
theorem text99_call (w : World) (h : Env27 w) : Calls Tryz.prog 12 #[.agg #[.int .u8 99, .int .i64 0, .int .i64 0, .int .i64 0, .int .i64 0, .int .u32 0]] w fun e w' => e = .returned (.string ⟨#[111, 112, 32, 57, 57, 32, 48, 32, 48, 32, 48, 32, 48, 32, 48]⟩) ∧ Below w.heap.size w w' := by
  have g := optext_any (codeOnly 99) (codeOnly_ok (by decide)) w h.t h.k h.e
  rw [text99] at g
  exact g
theorem bad_call (l : List UInt8) (hl : l ∈ badLines) (w : World) (h : Env27 w) : Calls Tryz.prog 18 #[.string ⟨l.toArray⟩] w fun e w' => e = .returned (.tuple #[.agg #[.int .u8 0, .int .i64 0, .int .i64 0, .int .i64 0, .int .i64 0, .int .u32 0], .int .i64 270]) ∧ Below w.heap.size w w' := by
  have g := opparse_any l (bad_len l hl) w h.t h.k h.e h.m
  obtain ⟨j, hj⟩ := List.mem_iff_getElem?.1 hl
  rw [bad_at j l hj] at g
  exact g
theorem sky_call (w : World) (h : Env27 w) : Calls Tryz.prog 18 #[.string ⟨#[115, 107, 121]⟩] w fun e w' => e = .returned (.tuple #[.agg #[.int .u8 14, .int .i64 0, .int .i64 0, .int .i64 0, .int .i64 0, .int .u32 0], .int .i64 0]) ∧ Below w.heap.size w w' := by
  have g := opparse_any [115, 107, 121] (by decide) w h.t h.k h.e h.m
  rw [parse_sky] at g
  exact g
theorem sky_bytes : (bytesL [codeOnly 14]).length = 37 ∧ (bvals (bytesL [codeOnly 14]))[0]? = some (.int .u8 14) ∧ (bvals (bytesL [codeOnly 14]))[36]? = some (.int .u8 0) := ⟨by rw [bytesL_len]; rfl, by kernel_rfl, by kernel_rfl⟩
theorem sky_row (w : World) : OpRow ((w.alloc (.cells (codeOnly 14).cells 24)).alloc (.cells (codeOnly 14).cells 24)) (some ⟨w.heap.size + 1, 0, none⟩) [codeOnly 14] := by
  have h := Blk.new (w.alloc (.cells (codeOnly 14).cells 24)) 24 (codeOnly 14).cells
  rw [World.size_alloc] at h
  refine RecRow.of_block opk h fun j _ => ?_
  rw [flatR_one]
  simp
theorem skyB_call (w : World) : Calls Tryz.prog 8 #[.slice (some ⟨w.heap.size + 1, 0, none⟩) 1 1] ((w.alloc (.cells (codeOnly 14).cells 24)).alloc (.cells (codeOnly 14).cells 24)) fun e w' =>
    ∃ g c, e = .returned (.slice (some ⟨g, 0, none⟩) 37 c) ∧ w'.cell? ⟨g, 0, none⟩ = some (.int .u8 14) ∧ w'.cell? ⟨g, 36, none⟩ = some (.int .u8 0) ∧ Below (w.heap.size + 2) ((w.alloc (.cells (codeOnly 14).cells 24)).alloc (.cells (codeOnly 14).cells 24)) w' := by
  refine (bytes_all [codeOnly 14] (fun o ho => by rw [List.mem_singleton.1 ho]; exact codeOnly_ok (by decide)) (by decide) _ 1 _ (sky_row w)).mono ?_
  rintro e w' ⟨v, rfl, ho, hb⟩
  obtain ⟨s1, s2, s3⟩ := sky_bytes
  obtain ⟨g, c, rfl, _, _⟩ := ho.form (by rw [s1]; decide)
  rw [s1]
  have c0 := ho.cells (g := g) rfl 0 _ s2
  have c36 := ho.cells (g := g) rfl 36 _ s3
  refine ⟨g, c, rfl, c0, c36, ?_⟩
  simpa using hb
theorem tell1 : toldR 14 ⟨0, [3, 9], 0, false, 0⟩ = [51, 32, 57] := by kernel_rfl
theorem tell2 : toldR 15 ⟨0, [], 0, false, 0⟩ = [110, 111, 110, 101] := by kernel_rfl
theorem tell3 : toldR 1 ⟨262, [], 0, false, 0⟩ = [101, 114, 114, 111, 114, 32, 50, 54, 50] := by kernel_rfl
theorem wt0 : (0 : Nat) < wTop := by decide
theorem tell1_call (w : World) (h : Env27 w) : Calls Tryz.prog 14 #[.agg #[.int .u8 14, .int .i64 0, .int .i64 0, .int .i64 0, .int .i64 0, .int .u32 0], .agg #[.int .i64 0, .slice (some ⟨w.heap.size, 0, none⟩) 2 2, .int .i64 0, .bool false, .int .u64 0, .int .u64 0]] (w.alloc (.cells #[.int .u32 3, .int .u32 9] 22)) fun e w' =>
    e = .returned (.string ⟨#[51, 32, 57]⟩) ∧ Below (w.heap.size + 1) (w.alloc (.cells #[.int .u32 3, .int .u32 9] 22)) w' := by
  have hE : Env27 (w.alloc (.cells #[.int .u32 3, .int .u32 9] 22)) := h.later ((Below.refl _ _).alloc (Nat.le_refl _) _)
  have g := rep_any (codeOnly 14) (codeOnly_ok (by decide)) ⟨0, [3, 9], 0, false, 0⟩ ⟨in64_zero, in64_zero, by decide, wt0⟩ (some ⟨w.heap.size, 0, none⟩) 2 (w.alloc (.cells #[.int .u32 3, .int .u32 9] 22)) (by decide) (RecRow.of_block ucellk (Blk.new w _ _) (fun j _ => by simp [flatR, ucell])) hE.t hE.k
  rw [show (codeOnly 14).k = 14 from rfl, tell1] at g
  refine g.mono fun e w' ⟨h1, h2⟩ => ⟨h1, ?_⟩
  simpa using h2
theorem tell2_call (w : World) (h : Env27 w) : Calls Tryz.prog 14 #[.agg #[.int .u8 15, .int .i64 0, .int .i64 0, .int .i64 0, .int .i64 0, .int .u32 0], .agg #[.int .i64 0, .slice none 0 0, .int .i64 0, .bool false, .int .u64 0, .int .u64 0]] w fun e w' =>
    e = .returned (.string ⟨#[110, 111, 110, 101]⟩) ∧ Below w.heap.size w w' := by
  have g := rep_any (codeOnly 15) (codeOnly_ok (by decide)) ⟨0, [], 0, false, 0⟩ ⟨in64_zero, in64_zero, by decide, wt0⟩ none 0 w (by decide) (.inl rfl) h.t h.k
  rw [show (codeOnly 15).k = 15 from rfl, tell2] at g
  exact g
theorem tell3_call (w : World) (h : Env27 w) : Calls Tryz.prog 14 #[.agg #[.int .u8 1, .int .i64 3, .int .i64 (-4), .int .i64 0, .int .i64 0, .int .u32 7], .agg #[.int .i64 262, .slice none 0 0, .int .i64 0, .bool false, .int .u64 0, .int .u64 0]] w fun e w' =>
    e = .returned (.string ⟨#[101, 114, 114, 111, 114, 32, 50, 54, 50]⟩) ∧ Below w.heap.size w w' := by
  have g := rep_any opA opA_ok ⟨262, [], 0, false, 0⟩ ⟨⟨by decide, by decide⟩, in64_zero, by decide, wt0⟩ none 0 w (by decide) (.inl rfl) h.t h.k
  rw [show opA.k = 1 from rfl, tell3] at g
  exact g
set_option maxRecDepth 100000 in
set_option maxHeartbeats 4000000 in
theorem awake27_any (w : World) (hE : Env27 w) : Calls Tryz.prog 7 #[] w fun e w' => e = .returned (.bool true) ∧ Below w.heap.size w w' := by
  have HE := Lib.hid hE
  clear hE
  go_enter Tryz.func7, Tryz.ntmps7
  go_upto_region 4 with (fail)
  have HO1 := Lib.hid (show OpB ((w.alloc (.cells opA.cells 24)).alloc (.cells opB.cells 24)) w.heap.size opA from Blk.alloc (Blk.new w _ _) _)
  have HB := Lib.hid (((Below.refl w.heap.size w).alloc (Nat.le_refl _) (.cells opA.cells 24)).alloc (by simp) (.cells opB.cells 24))
  have hb2 : OpB ((w.alloc (.cells opA.cells 24)).alloc (.cells opB.cells 24)) (w.heap.size + 1) opB := by
    have h := Blk.new (w.alloc (.cells opA.cells 24)) 24 opB.cells
    rw [World.size_alloc] at h
    exact h
  have HO2 := Lib.hid hb2
  clear hb2
  show Code.wp _ _ _ _ ((w.alloc (.cells opA.cells 24)).alloc (.cells opB.cells 24))
  generalize (w.alloc (.cells opA.cells 24)).alloc (.cells opB.cells 24) = V at HO1 HO2 HB ⊢
  obtain ⟨b0, hb0⟩ : ∃ b, w.heap.size = b := ⟨_, rfl⟩
  rw [hb0] at HO1 HO2 ⊢
  clear hb0
  have HE1 := Lib.hid (HE.out.later HB.out)
  obtain ⟨a0, a1, a2, a3, a4, a5⟩ : V.cell? ⟨b0, 0, none⟩ = some (.int .u8 1) ∧ V.cell? ⟨b0, 1, none⟩ = some (.int .i64 3) ∧ V.cell? ⟨b0, 2, none⟩ = some (.int .i64 (-4)) ∧ V.cell? ⟨b0, 3, none⟩ = some (.int .i64 0) ∧ V.cell? ⟨b0, 4, none⟩ = some (.int .i64 0) ∧ V.cell? ⟨b0, 5, none⟩ = some (.int .u32 7) :=
    ⟨Blk.cell HO1.out 0, Blk.cell HO1.out 1, Blk.cell HO1.out 2, Blk.cell HO1.out 3, Blk.cell HO1.out 4, Blk.cell HO1.out 5⟩
  go_wp2_with fail
  refine (textA_call V HE1.out).mono ?_
  rintro e w1 ⟨rfl, hb1⟩
  have HB1 := Lib.hid (bl HB.out HB.out.size hb1)
  have HO11 := Lib.hid (HO1.out.later hb1)
  have HO12 := Lib.hid (HO2.out.later hb1)
  clear hb1 a0 a1 a2 a3 a4 a5 HB HO1 HO2 HE1
  have HE1 := Lib.hid (HE.out.later HB1.out)
  obtain ⟨a0, a1, a2, a3, a4, a5⟩ : w1.cell? ⟨b0 + 1, 0, none⟩ = some (.int .u8 1) ∧ w1.cell? ⟨b0 + 1, 1, none⟩ = some (.int .i64 3) ∧ w1.cell? ⟨b0 + 1, 2, none⟩ = some (.int .i64 (-4)) ∧ w1.cell? ⟨b0 + 1, 3, none⟩ = some (.int .i64 1) ∧ w1.cell? ⟨b0 + 1, 4, none⟩ = some (.int .i64 0) ∧ w1.cell? ⟨b0 + 1, 5, none⟩ = some (.int .u32 7) :=
    ⟨Blk.cell HO12.out 0, Blk.cell HO12.out 1, Blk.cell HO12.out 2, Blk.cell HO12.out 3, Blk.cell HO12.out 4, Blk.cell HO12.out 5⟩
  go_wp2_with fail
  refine (textB_call w1 HE1.out).mono ?_
  rintro e w2 ⟨rfl, hb2⟩
  have HB2 := Lib.hid (bl HB1.out HB1.out.size hb2)
  have HO21 := Lib.hid (HO11.out.later hb2)
  clear hb2 a0 a1 a2 a3 a4 a5 HB1 HO11 HO12 HE1
  have HE1 := Lib.hid (HE.out.later HB2.out)
  go_wp2_with fail
  refine (text99_call w2 HE1.out).mono ?_
  rintro e w3 ⟨rfl, hb3⟩
  have HB3 := Lib.hid (bl HB2.out HB2.out.size hb3)
  have HO31 := Lib.hid (HO21.out.later hb3)
  clear hb3 HB2 HO21 HE1
  go_wp2_with fail
  have HS := Lib.hid (show Blk (w3.alloc (.cells badV 9)) w3.heap.size 9 badV from Blk.new w3 _ _)
  have HO4 := Lib.hid (show OpB (w3.alloc (.cells badV 9)) b0 opA from Blk.alloc HO31.out _)
  have HB4 := Lib.hid (HB3.out.alloc HB3.out.size (.cells badV 9))
  show Code.wp _ _ _ _ (w3.alloc (.cells badV 9))
  generalize w3.alloc (.cells badV 9) = V2 at HS HO4 HB4 ⊢
  obtain ⟨bs, hbs⟩ : ∃ b, w3.heap.size = b := ⟨_, rfl⟩
  rw [hbs] at HS ⊢
  clear hbs HB3 HO31 w3 w2 w1 V
  go_loopw [28] (fun iv wr => ∃ j : Nat, j ≤ 7 ∧ iv = .int .i64 (j : Int) ∧ Hid (Blk wr bs 9 badV) ∧ Hid (OpB wr b0 opA) ∧ Hid (Below w.heap.size w wr)) (fun iv _ => 7 - (intOf iv).toNat)
  case atStart => exact ⟨0, by decide, rfl, HS, HO4, HB4⟩
  case round =>
    clear HS HO4 HB4
    obtain ⟨j, hj, rfl, HS, HO, HB⟩ := hrel
    have HE1 := Lib.hid (HE.out.later HB.out)
    by_cases hlt : j < 7
    · obtain ⟨l, hl⟩ : ∃ l, badLines[j]? = some l := ⟨_, List.getElem?_eq_getElem (show j < badLines.length from hlt)⟩
      have hmem := Lib.hid (List.mem_of_getElem? hl)
      have hcj : wr.cell? ⟨bs, j, none⟩ = some (.string ⟨l.toArray⟩) := by
        rw [Blk.cell HS.out j]
        show (badLines.map fun l => Value.string ⟨l.toArray⟩).toArray[j]? = _
        rw [List.getElem?_toArray, List.getElem?_map, hl]
        rfl
      clear hl
      go_wp2_with fail
      refine (bad_call l hmem.out wr HE1.out).mono ?_
      rintro e w5 ⟨rfl, hb5⟩
      have HS5 := Lib.hid (Blk.below HS.out hb5 (Blk.lt HS.out))
      have HO5 := Lib.hid (HO.out.later hb5)
      have HB5 := Lib.hid (bl HB.out HB.out.size hb5)
      clear hb5 hcj HS HO HB HE1
      go_wp2_with fail
      go_roundw
      case rel => exact ⟨j + 1, by omega, by go_num, Lib.hid (Blk.alloc HS5.out _), Lib.hid (Blk.alloc HO5.out _), Lib.hid (HB5.out.alloc HB5.out.size _)⟩
      case measure => simp [intOf] <;> omega
    · obtain rfl : j = 7 := by omega
      clear HS
      go_wp2_with fail
      refine (sky_call wr HE1.out).mono ?_
      rintro e w5 ⟨rfl, hb5⟩
      have HO5 := Lib.hid (HO.out.later hb5)
      have HB5 := Lib.hid (bl HB.out HB.out.size hb5)
      clear hb5 HO HB HE1
      go_wp2_with fail
      have HO6 := Lib.hid (show OpB ((w5.alloc (.cells (codeOnly 14).cells 24)).alloc (.cells (codeOnly 14).cells 24)) b0 opA from Blk.alloc (Blk.alloc HO5.out _) _)
      have HB6 := Lib.hid ((HB5.out.alloc HB5.out.size (.cells (codeOnly 14).cells 24)).alloc (Nat.le_trans HB5.out.size (by simp)) (.cells (codeOnly 14).cells 24))
      refine (skyB_call w5).mono ?_
      rintro e w7 ⟨g7, c7, rfl, q0, q36, hb7⟩
      have hs5 : (((w5.alloc (.cells (codeOnly 14).cells 24)).alloc (.cells (codeOnly 14).cells 24))).heap.size = w5.heap.size + 2 := by simp
      rw [← hs5] at hb7
      have HO7 := Lib.hid (HO6.out.later hb7)
      have HB7 := Lib.hid (bl HB6.out HB6.out.size hb7)
      have HY := Lib.hid (show OpB w7 w5.heap.size (codeOnly 14) from OpB.later (Blk.alloc (Blk.new w5 _ _) _) hb7)
      clear hs5 hb7 HO5 HB5 HO6 HB6
      obtain ⟨by_, hby⟩ : ∃ b, w5.heap.size = b := ⟨_, rfl⟩
      rw [hby] at HY ⊢
      clear hby w5
      have y0 : w7.cell? ⟨by_, 0, none⟩ = some (.int .u8 14) := Blk.cell HY.out 0
      have y1 : w7.cell? ⟨by_, 1, none⟩ = some (.int .i64 0) := Blk.cell HY.out 1
      have y2 : w7.cell? ⟨by_, 2, none⟩ = some (.int .i64 0) := Blk.cell HY.out 2
      have y3 : w7.cell? ⟨by_, 3, none⟩ = some (.int .i64 0) := Blk.cell HY.out 3
      have y4 : w7.cell? ⟨by_, 4, none⟩ = some (.int .i64 0) := Blk.cell HY.out 4
      have y5 : w7.cell? ⟨by_, 5, none⟩ = some (.int .u32 0) := Blk.cell HY.out 5
      go_wp2_with fail
      have HE7 := Lib.hid (HE.out.later HB7.out)
      refine (tell1_call w7 HE7.out).mono ?_
      rintro e w8 ⟨rfl, hb8⟩
      have HB8 := Lib.hid ((HB7.out.alloc HB7.out.size (.cells #[.int .u32 3, .int .u32 9] 22)).trans (hb8.mono (Nat.le_trans HB7.out.size (Nat.le_succ _))))
      have HO8 := Lib.hid (OpB.later (Blk.alloc HO7.out (.cells #[.int .u32 3, .int .u32 9] 22)) (by simpa using hb8))
      clear hb8 HE7 HB7 HO7 HY q0 q36 y0 y1 y2 y3 y4 y5
      have HE8 := Lib.hid (HE.out.later HB8.out)
      go_wp2_with fail
      refine (tell2_call w8 HE8.out).mono ?_
      rintro e w9 ⟨rfl, hb9⟩
      have HB9 := Lib.hid (bl HB8.out HB8.out.size hb9)
      have HO9 := Lib.hid (HO8.out.later hb9)
      clear hb9 HE8 HB8 HO8
      have HE9 := Lib.hid (HE.out.later HB9.out)
      obtain ⟨a0, a1, a2, a3, a4, a5⟩ : w9.cell? ⟨b0, 0, none⟩ = some (.int .u8 1) ∧ w9.cell? ⟨b0, 1, none⟩ = some (.int .i64 3) ∧ w9.cell? ⟨b0, 2, none⟩ = some (.int .i64 (-4)) ∧ w9.cell? ⟨b0, 3, none⟩ = some (.int .i64 0) ∧ w9.cell? ⟨b0, 4, none⟩ = some (.int .i64 0) ∧ w9.cell? ⟨b0, 5, none⟩ = some (.int .u32 7) :=
        ⟨Blk.cell HO9.out 0, Blk.cell HO9.out 1, Blk.cell HO9.out 2, Blk.cell HO9.out 3, Blk.cell HO9.out 4, Blk.cell HO9.out 5⟩
      go_wp2_with fail
      refine (tell3_call w9 HE9.out).mono ?_
      rintro e w10 ⟨rfl, hb10⟩
      have HB10 := Lib.hid (bl HB9.out HB9.out.size hb10)
      clear hb10 HE9 HB9 HO9 a0 a1 a2 a3 a4 a5
      go_wp2_with fail
      go_ret
      exact ⟨rfl, HB10.out⟩
end Go.Proofs.YtokpgopdkimmmaaGreatDoor
