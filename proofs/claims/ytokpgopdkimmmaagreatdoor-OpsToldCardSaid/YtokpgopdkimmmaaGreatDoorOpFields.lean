/- What letters stand for, of an operation: number, get. -/
import Derived.Test.YtokpgopdkimmmaaGreatDoorOpTab
import Derived.Test.YtokpgopdkimmmaaGreatDoorText
import Derived.Test.YtokpgopdkimmmaaGreatDoorWords
import Derived.Test.YtokpgopdkimmmaaGreatDoorShelfOps
import Derived.Lib.LaidTab
namespace Go.Proofs.YtokpgopdkimmmaaGreatDoor
open Go.RowKit
set_option linter.unusedVariables false
set_option linter.unusedSimpArgs false

/-- An operation. -/
structure OpV where
  k : Nat
  a : Int
  b : Int
  c : Int
  d : Int
  id : Nat
abbrev OpV.cells (o : OpV) : Array Value := #[.int .u8 (o.k : Int), .int .i64 o.a, .int .i64 o.b, .int .i64 o.c, .int .i64 o.d, .int .u32 (o.id : Int)]
abbrev OpV.val (o : OpV) : Value := .agg o.cells
def OpV.num (o : OpV) (j : Nat) : Int := if j = 0 then o.a else if j = 1 then o.b else if j = 2 then o.c else o.d
def In64 (x : Int) : Prop := -9223372036854775808 ≤ x ∧ x < 9223372036854775808
structure OpV.ok (o : OpV) : Prop where
  k : o.k < 256
  a : In64 o.a
  b : In64 o.b
  c : In64 o.c
  d : In64 o.d
  id : o.id < 4294967296
theorem OpV.ok.num {o : OpV} (h : o.ok) (j : Nat) : In64 (o.num j) := by
  unfold OpV.num
  split
  · exact h.a
  · split
    · exact h.b
    · split
      · exact h.c
      · exact h.d
/-- An operation in a box. -/
def OpB (w : World) (b : Nat) (o : OpV) : Prop := Blk w b 24 o.cells
abbrev fldV (b : Nat) : Value := .agg #[.pointer (some ⟨b, 0, none⟩)]
set_option maxRecDepth 100000 in
set_option maxHeartbeats 1000000 in
theorem number_at (b j : Nat) (hj : j < 4) (w : World) : Calls Tryz.prog 78 #[fldV b, .int .i32 (97 + (j : Int))] w fun e w' => e = .returned (.pointer (some ⟨b, 1 + j, none⟩)) ∧ Below w.heap.size w w' := by
  have hix : ∀ w, (Instr.index 178 (.agg #[.pointer (some ⟨b, 1, none⟩), .pointer (some ⟨b, 2, none⟩), .pointer (some ⟨b, 3, none⟩), .pointer (some ⟨b, 4, none⟩)]) (.int .i32 (j : Int))).run Tryz.prog w = .ok (.pointer (some ⟨b, 1 + j, none⟩)) w := by
    rcases (show j = 0 ∨ j = 1 ∨ j = 2 ∨ j = 3 by omega) with rfl | rfl | rfl | rfl
    all_goals exact fun _ => by kernel_rfl
  have hsub : IntKind.i32.wrap (97 + (j : Int) - 97) = (j : Int) := by rw [IntKind.wrap_i32]; omega
  go_enter Tryz.func78, Tryz.ntmps78
  go_wp2_with fail
  go_quiet (fail)
  go_wp2
  go_ret
  exact ⟨rfl, below_drewN' ((Below.refl w.heap.size w).alloc (Nat.le_refl _) _) _⟩
/-- What a letter says: i the name, a to d the others (0 to 3). -/
def numL (o : OpV) (j : Nat) : List UInt8 := Lib.itoa (o.num j)
def idL (o : OpV) : List UInt8 := Lib.decDigits o.id
theorem Tab64.later {w w' : World} (h : Lib.TabIs Tryz.prog w "internal/strconv.uint64pow10" .u64 Lib.pow10Tab) (hb : Below w.heap.size w w') : Lib.TabIs Tryz.prog w' "internal/strconv.uint64pow10" .u64 Lib.pow10Tab :=
  Go.Joins.tab_stays tab64 h hb (Nat.le_refl _)
abbrev Tab64 (w : World) : Prop := Lib.TabIs Tryz.prog w "internal/strconv.uint64pow10" .u64 Lib.pow10Tab
theorem fmtInt_any (n : Int) (hn : In64 n) (w : World) (ht : Tab64 w) : Calls Tryz.prog 79 #[.int .i64 n, .int .i64 10] w fun e w' => e = .returned (.string ⟨(Lib.itoa n).toArray⟩) ∧ Below w.heap.size w w' :=
  (Tryz.strconv_FormatInt_10 n hn.1 (by have := hn.2; omega) w ht).mono fun _ _ ⟨h, k, os, e⟩ => ⟨h, e ▸ Lib.below_grow _ w (Nat.le_refl _) k os⟩
set_option maxRecDepth 100000 in
set_option maxHeartbeats 1000000 in
theorem get_id (b : Nat) (o : OpV) (ho : o.ok) (w : World) (hb : OpB w b o) (ht : Lib.TabIs Tryz.prog w "internal/strconv.uint64pow10" .u64 Lib.pow10Tab) :
    Calls Tryz.prog 37 #[fldV b, .int .i32 105] w fun e w' => e = .returned (.string ⟨(idL o).toArray⟩) ∧ Below w.heap.size w w' := by
  have HT := Lib.hid ht
  have hid : w.cell? ⟨b, 5, none⟩ = some (.int .u32 (o.id : Int)) := Blk.cell hb 5
  have hlt := Blk.lt hb
  have h32 := ho.id
  clear hb ht
  go_enter Tryz.func37, Tryz.ntmps37
  go_wp2_with fail
  have HB1 := Lib.hid ((Below.refl w.heap.size w).alloc (Nat.le_refl _) (.cells #[.pointer (some ⟨b, 0, none⟩)] 75))
  refine (fmtUint_any o.id (by omega) _ (Tab64.later HT.out HB1.out)).mono ?_
  rintro e w1 ⟨rfl, hb1⟩
  have HB2 := Lib.hid (bl HB1.out (by simp) hb1)
  clear hb1
  go_wp2
  go_ret
  exact ⟨rfl, HB2.out⟩
set_option maxRecDepth 100000 in
set_option maxHeartbeats 1000000 in
theorem get_num (b j : Nat) (hj : j < 4) (o : OpV) (ho : o.ok) (w : World) (hb : OpB w b o) (ht : Lib.TabIs Tryz.prog w "internal/strconv.uint64pow10" .u64 Lib.pow10Tab) :
    Calls Tryz.prog 37 #[fldV b, .int .i32 (97 + (j : Int))] w fun e w' => e = .returned (.string ⟨(numL o j).toArray⟩) ∧ Below w.heap.size w w' := by
  have HT := Lib.hid ht
  have HO := Lib.hid hb
  have hlt := Blk.lt hb
  have h32 : ((97 + (j : Int)) == 105) = false := by simp; omega
  clear hb ht
  go_enter Tryz.func37, Tryz.ntmps37
  go_wp2_with fail
  have HB1 := Lib.hid ((Below.refl w.heap.size w).alloc (Nat.le_refl _) (.cells #[.pointer (some ⟨b, 0, none⟩)] 75))
  refine (number_at b j hj _).mono ?_
  rintro e w1 ⟨rfl, hb1⟩
  have HB2 := Lib.hid (bl HB1.out (by simp) hb1)
  have hc : w1.cell? ⟨b, 1 + j, none⟩ = some (.int .i64 (o.num j)) := by
    rw [HB2.out.cell (p := ⟨b, 1 + j, none⟩) hlt, Blk.cell HO.out]
    rcases (show j = 0 ∨ j = 1 ∨ j = 2 ∨ j = 3 by omega) with rfl | rfl | rfl | rfl <;> rfl
  have HN := Lib.hid (ho.num j)
  clear hb1 HB1 hlt
  go_wp2_with fail
  refine (fmtInt_any (o.num j) HN.out _ (Tab64.later HT.out HB2.out)).mono ?_
  rintro e w2 ⟨rfl, hb2⟩
  have HB3 := Lib.hid (bl HB2.out HB2.out.size hb2)
  clear hb2
  go_wp2
  go_ret
  exact ⟨rfl, HB3.out⟩
end Go.Proofs.YtokpgopdkimmmaaGreatDoor
