/- What letters stand for, of an operation: set; strconv's readers in one form. -/
import Derived.Test.YtokpgopdkimmmaaGreatDoorOpTold
import Derived.Test.YtokpgopdkimmmaaGreatDoorShelfParse
namespace Go.Proofs.YtokpgopdkimmmaaGreatDoor
open Go.RowKit
set_option linter.unusedVariables false
set_option linter.unusedSimpArgs false

def ErrAt (g : Nat) (w : World) : Prop := g < w.heap.size ∧ ∃ ev, w.cell? ⟨g, 0, none⟩ = some ev ∧ (ev = .nilIface ∨ ∃ te pe, ev = .iface te pe)
def ErrVars (w : World) : Prop := ErrAt 6 w ∧ ErrAt 7 w
theorem ErrAt.later {g : Nat} {w w' : World} (h : ErrAt g w) (hb : Below w.heap.size w w') : ErrAt g w' := by
  obtain ⟨hl, ev, h1, h2⟩ := h
  exact ⟨Nat.lt_of_lt_of_le hl hb.size, ev, (hb.cell (p := ⟨g, 0, none⟩) hl).trans h1, h2⟩
theorem ErrVars.later {w w' : World} (h : ErrVars w) (hb : Below w.heap.size w w') : ErrVars w' := ⟨h.1.later hb, h.2.later hb⟩
/-- What a reader of numbers answers. -/
def ReadU (B : Nat) (l : List UInt8) (x : Nat) (v : Value) : Prop := (v = .nilIface ∧ Lib.parseUintB B l = .ok x) ∨ ((∃ T N, v = .iface T (.pointer (some ⟨N, 0, none⟩))) ∧ ∀ u, Lib.parseUintB B l ≠ .ok u)
def ReadI (l : List UInt8) (x : Int) (v : Value) : Prop := (v = .nilIface ∧ Lib.parseIntB 64 l = .ok x) ∨ ((∃ T N, v = .iface T (.pointer (some ⟨N, 0, none⟩))) ∧ ∀ u, Lib.parseIntB 64 l ≠ .ok u)
theorem pu32_any (s : ByteArray) (hs : s.size ≤ 1000000) (w : World) (he : ErrVars w) : Calls Tryz.prog 48 #[.string s, .int .i64 10, .int .i64 32] w fun e w' =>
    ∃ (x : Nat) (v : Value), e = .returned (.tuple #[.int .u64 (x : Int), v]) ∧ x < 4294967296 ∧ ReadU 32 s.data.toList x v ∧ Below w.heap.size w w' := by
  obtain ⟨⟨_, e1, hc1, hk1⟩, ⟨_, e2, hc2, hk2⟩⟩ := he
  cases h : Lib.parseUintB 32 s.data.toList with
  | ok u =>
    refine (Tryz.strconv_ParseUint_10_at32_ok s (by omega) u h w).mono ?_
    rintro e w' ⟨rfl, hw⟩
    refine ⟨u, _, rfl, ?_, .inl ⟨rfl, h⟩, ?_⟩
    · have := Lib.parseUintB_le h; omega
    · rcases hw with rfl | ⟨t, rfl⟩
      · exact Below.refl _ _
      · exact Go.Joins.below_bytesWorld _ _ _ _ (Nat.le_refl _)
  | range =>
    refine (Tryz.strconv_ParseUint_10_at32_range s (by omega) h e2 w hc2 hk2).mono ?_
    rintro e w' ⟨N, rfl, _, _, hb⟩
    exact ⟨4294967295, _, rfl, by decide, .inr ⟨⟨_, _, rfl⟩, fun u hu => by rw [h] at hu; cases hu⟩, hb⟩
  | _ =>
    refine (Tryz.strconv_ParseUint_10_at32_syntax s (by omega) (fun u hu => by rw [h] at hu; cases hu) (fun hr => by rw [h] at hr; cases hr) e1 w hc1 hk1).mono ?_
    rintro e w' ⟨N, rfl, _, _, hb⟩
    exact ⟨0, _, rfl, by decide, .inr ⟨⟨_, _, rfl⟩, fun u hu => by rw [h] at hu; cases hu⟩, hb⟩
theorem pu8_any (s : ByteArray) (hs : s.size ≤ 1000000) (w : World) (he : ErrVars w) : Calls Tryz.prog 48 #[.string s, .int .i64 10, .int .i64 8] w fun e w' =>
    ∃ (x : Nat) (v : Value), e = .returned (.tuple #[.int .u64 (x : Int), v]) ∧ x < 256 ∧ ReadU 8 s.data.toList x v ∧ Below w.heap.size w w' := by
  obtain ⟨⟨_, e1, hc1, hk1⟩, ⟨_, e2, hc2, hk2⟩⟩ := he
  cases h : Lib.parseUintB 8 s.data.toList with
  | ok u =>
    refine (Tryz.strconv_ParseUint_10_at8_ok s (by omega) u h w).mono ?_
    rintro e w' ⟨rfl, hw⟩
    refine ⟨u, _, rfl, ?_, .inl ⟨rfl, h⟩, ?_⟩
    · have := Lib.parseUintB_le h; omega
    · rcases hw with rfl | ⟨t, rfl⟩
      · exact Below.refl _ _
      · exact Go.Joins.below_bytesWorld _ _ _ _ (Nat.le_refl _)
  | range =>
    refine (Tryz.strconv_ParseUint_10_at8_range s (by omega) h e2 w hc2 hk2).mono ?_
    rintro e w' ⟨N, rfl, _, _, hb⟩
    exact ⟨255, _, rfl, by decide, .inr ⟨⟨_, _, rfl⟩, fun u hu => by rw [h] at hu; cases hu⟩, hb⟩
  | _ =>
    refine (Tryz.strconv_ParseUint_10_at8_syntax s (by omega) (fun u hu => by rw [h] at hu; cases hu) (fun hr => by rw [h] at hr; cases hr) e1 w hc1 hk1).mono ?_
    rintro e w' ⟨N, rfl, _, _, hb⟩
    exact ⟨0, _, rfl, by decide, .inr ⟨⟨_, _, rfl⟩, fun u hu => by rw [h] at hu; cases hu⟩, hb⟩
theorem pi64_any (s : ByteArray) (hs : s.size ≤ 1000000) (w : World) (he : ErrVars w) : Calls Tryz.prog 77 #[.string s, .int .i64 10, .int .i64 64] w fun e w' =>
    ∃ (x : Int) (v : Value), e = .returned (.tuple #[.int .i64 x, v]) ∧ In64 x ∧ ReadI s.data.toList x v ∧ Below w.heap.size w w' := by
  obtain ⟨⟨_, e1, hc1, hk1⟩, ⟨_, e2, hc2, hk2⟩⟩ := he
  cases h : Lib.parseIntB 64 s.data.toList with
  | ok u =>
    refine (Tryz.strconv_ParseInt_10_at64_ok s (by omega) u h w).mono ?_
    rintro e w' ⟨rfl, hw⟩
    refine ⟨u, _, rfl, ?_, .inl ⟨rfl, h⟩, ?_⟩
    · have := Lib.parseIntB_bounds h; exact ⟨by have := this.1; omega, by have := this.2; omega⟩
    · rcases hw with rfl | ⟨t, rfl⟩
      · exact Below.refl _ _
      · exact Go.Joins.below_bytesWorld _ _ _ _ (Nat.le_refl _)
  | range =>
    refine (Tryz.strconv_ParseInt_10_at64_range s (by omega) h e2 w hc2 hk2).mono ?_
    rintro e w' ⟨N, rfl, _, _, hb⟩
    exact ⟨_, _, rfl, by unfold In64 Lib.intSat; split <;> exact ⟨by decide, by decide⟩, .inr ⟨⟨_, _, rfl⟩, fun u hu => by rw [h] at hu; cases hu⟩, hb⟩
  | _ =>
    refine (Tryz.strconv_ParseInt_10_at64_syntax s (by omega) (fun u hu => by rw [h] at hu; cases hu) (fun hr => by rw [h] at hr; cases hr) e1 w hc1 hk1).mono ?_
    rintro e w' ⟨N, rfl, _, _, hb⟩
    exact ⟨0, _, rfl, ⟨by decide, by decide⟩, .inr ⟨⟨_, _, rfl⟩, fun u hu => by rw [h] at hu; cases hu⟩, hb⟩
/-- One letter's number, laid anew. -/
def OpV.put (o : OpV) (c : UInt8) (x : Int) : OpV := if c = 105 then { o with id := x.toNat } else if c = 97 then { o with a := x } else if c = 98 then { o with b := x } else if c = 99 then { o with c := x } else { o with d := x }
theorem OpB.grown {w w' : World} {b : Nat} {o o' : OpV} (h : OpB w b o) (e : w' = w) (ho : o = o') : OpB w' b o' := e ▸ ho ▸ h
set_option maxRecDepth 100000 in
set_option maxHeartbeats 2000000 in
theorem set_id (b : Nat) (o : OpV) (s : ByteArray) (hs : s.size ≤ 1000000) (w : World) (hb : OpB w b o) (he : ErrVars w) : Calls Tryz.prog 36 #[fldV b, .int .i32 105, .string s] w fun e w' =>
    ∃ (x : Nat) (ok : Bool), e = .returned (.bool ok) ∧ x < 4294967296 ∧ (ok = true ↔ Lib.parseUintB 32 s.data.toList = .ok x) ∧ (ok = false → ∀ u, Lib.parseUintB 32 s.data.toList ≠ .ok u) ∧ OpB w' b (o.put 105 x) ∧ w.grownBy w' (some b) := by
  have HE := Lib.hid he
  have HB0 := Lib.hid hb
  have hlt := Blk.lt hb
  clear he hb
  go_enter Tryz.func36, Tryz.ntmps36
  go_wp2_with fail
  have HB1 := Lib.hid ((Below.refl w.heap.size w).alloc (Nat.le_refl _) (.cells #[.pointer (some ⟨b, 0, none⟩)] 75))
  refine (pu32_any s hs _ (HE.out.later HB1.out)).mono ?_
  rintro e w1 ⟨x, v, rfl, hx, hr, hb1⟩
  have HB2 := Lib.hid (bl HB1.out (by simp) hb1)
  have cf := (hb1.cell (p := ⟨w.heap.size, 0, none⟩) (by simp)).trans (cells_at w #[.pointer (some ⟨b, 0, none⟩)] 75 0)
  have K1 := HB0.out.later HB2.out
  have c5 : w1.cell? ⟨b, 5, none⟩ = some (.int .u32 (o.id : Int)) := Blk.cell K1 5
  have f5 := Blk.frozen K1 5
  have HS := Lib.hid (show OpB (w1.setCell ⟨b, 5, none⟩ (.int .u32 (x : Int))) b (o.put 105 (x : Int)) by
    have h := Blk.set_ K1 5 (.int .u32 (x : Int))
    unfold OpB OpV.put
    simpa using h)
  have HGR := Lib.hid (only_setCell (p := ⟨b, 5, none⟩) (only_of_below HB2.out (some b)) (.inl rfl) (.int .u32 (x : Int)))
  clear K1 hb1
  rcases hr with ⟨rfl, hr⟩ | ⟨⟨T, N, rfl⟩, hr⟩
  · have HR := Lib.hid hr
    clear hr
    go_wp2_with fail
    go_ret
    exact ⟨x, true, rfl, hx, ⟨fun _ => HR.out, fun _ => rfl⟩, fun h => (by cases h), HS.out, HGR.out⟩
  · have HR := Lib.hid hr
    clear hr
    go_wp2_with fail
    go_ret
    exact ⟨x, false, rfl, hx, ⟨fun h => (by cases h), fun h => absurd h (HR.out x)⟩, fun _ => HR.out, HS.out, HGR.out⟩
set_option maxRecDepth 100000 in
set_option maxHeartbeats 2000000 in
theorem set_num (b j : Nat) (hj : j < 4) (o : OpV) (s : ByteArray) (hs : s.size ≤ 1000000) (w : World) (hb : OpB w b o) (he : ErrVars w) : Calls Tryz.prog 36 #[fldV b, .int .i32 (97 + (j : Int)), .string s] w fun e w' =>
    ∃ (x : Int) (ok : Bool), e = .returned (.bool ok) ∧ In64 x ∧ (ok = true ↔ Lib.parseIntB 64 s.data.toList = .ok x) ∧ (ok = false → ∀ u, Lib.parseIntB 64 s.data.toList ≠ .ok u) ∧ OpB w' b (o.put (UInt8.ofNat (97 + j)) x) ∧ w.grownBy w' (some b) := by
  have HE := Lib.hid he
  have HB0 := Lib.hid hb
  have hlt := Blk.lt hb
  have h32 : ((97 + (j : Int)) == 105) = false := by simp; omega
  clear he hb
  go_enter Tryz.func36, Tryz.ntmps36
  go_wp2_with fail
  have HB1 := Lib.hid ((Below.refl w.heap.size w).alloc (Nat.le_refl _) (.cells #[.pointer (some ⟨b, 0, none⟩)] 75))
  refine (pi64_any s hs _ (HE.out.later HB1.out)).mono ?_
  rintro e w1 ⟨x, v, rfl, hx, hr, hb1⟩
  have HB2 := Lib.hid (bl HB1.out (by simp) hb1)
  have cf := (hb1.cell (p := ⟨w.heap.size, 0, none⟩) (by simp)).trans (cells_at w #[.pointer (some ⟨b, 0, none⟩)] 75 0)
  have HR := Lib.hid hr
  clear hb1 hr
  go_wp2_with fail
  refine (number_at b j hj _).mono ?_
  rintro e w2 ⟨rfl, hb2⟩
  have HB3 := Lib.hid (bl HB2.out HB2.out.size hb2)
  have K1 := HB0.out.later HB3.out
  obtain ⟨y, hy⟩ : ∃ y, w2.cell? ⟨b, 1 + j, none⟩ = some (.int .i64 y) := by
    rcases (show j = 0 ∨ j = 1 ∨ j = 2 ∨ j = 3 by omega) with rfl | rfl | rfl | rfl <;> exact ⟨_, Blk.cell K1 _⟩
  have f5 := Blk.frozen K1 (1 + j)
  have HS := Lib.hid (show OpB (w2.setCell ⟨b, 1 + j, none⟩ (.int .i64 x)) b (o.put (UInt8.ofNat (97 + j)) x) by
    have h := Blk.set_ K1 (1 + j) (.int .i64 x)
    unfold OpB OpV.put
    rcases (show j = 0 ∨ j = 1 ∨ j = 2 ∨ j = 3 by omega) with rfl | rfl | rfl | rfl <;> simpa using h)
  have HGR := Lib.hid (only_setCell (p := ⟨b, 1 + j, none⟩) (only_of_below HB3.out (some b)) (.inl rfl) (.int .i64 x))
  clear K1 hb2 cf
  rcases HR.out with ⟨rfl, hr⟩ | ⟨⟨T, N, rfl⟩, hr⟩
  · have HR1 := Lib.hid hr
    clear hr HR
    go_wp2_with fail
    go_ret
    exact ⟨x, true, rfl, hx, ⟨fun _ => HR1.out, fun _ => rfl⟩, fun h => (by cases h), HS.out, HGR.out⟩
  · have HR1 := Lib.hid hr
    clear hr HR
    go_wp2_with fail
    go_ret
    exact ⟨x, false, rfl, hx, ⟨fun h => (by cases h), fun h => absurd h (HR1.out x)⟩, fun _ => HR1.out, HS.out, HGR.out⟩
end Go.Proofs.YtokpgopdkimmmaaGreatDoor
