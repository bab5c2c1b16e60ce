/- ops.line at the code 1, and what is wrong with an operation that places a point: nothing. -/
import Derived.Test.YtokpgopdkimmmaaGreatDoorBase
import Derived.Test.YtokpgopdkimmmaaGreatDoorShelfWide
namespace Go.Proofs.YtokpgopdkimmmaaGreatDoor
open Go.RowKit
set_option linter.unusedVariables false
set_option linter.unusedSimpArgs false

theorem ascii_of (l : List UInt8) (h : (l.all fun b => decide (b.toNat < 128)) = true) : ∀ (j : Nat) b, l[j]? = some b → b.toNat < 128 := fun j b hb => by
  have := List.all_eq_true.1 h b (List.mem_of_getElem? hb)
  simpa using this
theorem below_drewN (w : World) (n : Nat) : Below w.heap.size w (w.drewN n) := ⟨rfl, rfl, rfl, Nat.le_refl _, fun _ _ => rfl⟩
/-- The table of blanks lies where the library's own start laid it. -/
def Blanks (w : World) : Prop := Lib.TabIs Tryz.prog w "strings.asciiSpace" .u8 Lib.asciiSpaceTab

set_option maxRecDepth 100000 in
set_option maxHeartbeats 1000000 in
theorem slcut_any (s : ByteArray) (k : Nat) (w : World) (hk : Lib.indexByte s.data.toList 45 = (k : Int)) (hs : k + 1 ≤ s.size) (hm : s.size ≤ 100) :
    Calls Tryz.prog 128 #[.string s, .string ⟨#[45]⟩] w fun e w' => ∃ a b, e = .returned (.tuple #[.string a, .string b, .bool true]) ∧ Below w.heap.size w w' := by
  go_enter Tryz.func128, Tryz.ntmps128
  go_wp2_with fail
  refine (Tryz.stringslite_Index_one s 45 w).mono ?_
  rw [hk]
  rintro e w1 ⟨rfl, rfl⟩
  go_wp2_with fail
  go_quiet (fail)
  go_wp2
  exact bodyPost_ret (v := .tuple #[.string (s.extract 0 k), .string (s.extract (k + 1) s.size), .bool true]) (by simp [results, Tryz.results128, go_sem]) rfl ⟨_, _, rfl, below_drewN _ _⟩
set_option maxRecDepth 100000 in
set_option maxHeartbeats 1000000 in
theorem cut_any (s : ByteArray) (k : Nat) (w : World) (hk : Lib.indexByte s.data.toList 45 = (k : Int)) (hs : k + 1 ≤ s.size) (hm : s.size ≤ 100) :
    Calls Tryz.prog 75 #[.string s, .string ⟨#[45]⟩] w fun e w' => ∃ a b, e = .returned (.tuple #[.string a, .string b, .bool true]) ∧ Below w.heap.size w w' := by
  have HK := Lib.hid hk
  clear hk
  go_enter Tryz.func75, Tryz.ntmps75
  go_wp2_with fail
  refine (slcut_any s k w HK.out hs hm).mono ?_
  rintro e w1 ⟨a, b, rfl, hb⟩
  have HB := Lib.hid hb
  clear hb
  go_wp2
  exact bodyPost_ret (v := .tuple #[.string a, .string b, .bool true]) (by simp [results, Tryz.results75, go_sem]) rfl ⟨_, _, rfl, HB.out⟩
theorem Blanks.later {w w' : World} (h : Blanks w) (hb : Below w.heap.size w w') : Blanks w' := by
  unfold Blanks Lib.TabIs World.var? at *
  cases hg : Tryz.prog.globalNamed "strings.asciiSpace" with
  | none => rw [hg] at h; simp at h
  | some g =>
    rw [hg] at h
    simp only [Option.bind_eq_bind, Option.bind_some] at h ⊢
    cases ho : w.heap[g]? with
    | none => rw [ho] at h; simp at h
    | some o =>
      rw [hb.block g (Array.getElem?_eq_some_iff.1 ho).1]
      exact h
set_option maxRecDepth 100000 in
set_option maxHeartbeats 1000000 in
theorem line_one (w : World) (ht : Blanks w) : Calls Tryz.prog 32 #[.int .u8 1] w fun e w' => ∃ a b, e = .returned (.tuple #[.string a, .string b, .bool true]) ∧ Below w.heap.size w w' := by
  have HT := Lib.hid ht
  clear ht
  go_enter Tryz.func32, Tryz.ntmps32
  go_wp2_with fail
  refine (Tryz.strings_Fields _ w (by decide) (ascii_of _ (by decide)) HT.out).mono ?_
  rintro e w1 ⟨rfl, rfl⟩
  generalize hF : Lib.fields _ = F
  have hFl : F.length = 20 := by rw [← hF]; exact of_decide_eq_true (by kernel_rfl)
  have hF0 : F[0]? = some [112, 111, 105, 110, 116, 45, 105, 97, 98] := by rw [← hF]; exact of_decide_eq_true (by kernel_rfl)
  rw [hFl]
  have hc : (w.alloc (.cells (F.map fun l => Value.string ⟨l.toArray⟩).toArray 9)).cell? ⟨w.heap.size, 0, none⟩ = some (.string ⟨[112, 111, 105, 110, 116, 45, 105, 97, 98].toArray⟩) := by
    rw [cells_at]
    simp [hF0]
  have HB := Lib.hid ((Below.refl w.heap.size w).alloc (Nat.le_refl _) (.cells (F.map fun l => Value.string ⟨l.toArray⟩).toArray 9))
  generalize w.alloc (.cells (F.map fun l => Value.string ⟨l.toArray⟩).toArray 9) = W1 at hc HB ⊢
  clear hF hFl hF0 HT
  go_wp2_with fail
  refine (cut_any ⟨[112, 111, 105, 110, 116, 45, 105, 97, 98].toArray⟩ 5 W1 (by decide) (by decide) (by decide)).mono ?_
  rintro e w2 ⟨a, b, rfl, hb⟩
  have HB2 := Lib.hid (bl HB.out HB.out.size hb)
  clear hb
  go_wp2
  exact bodyPost_ret (v := .tuple #[.string a, .string b, .bool true]) (by simp [results, Tryz.results32, go_sem]) rfl ⟨_, _, rfl, HB2.out⟩
set_option maxRecDepth 100000 in
set_option maxHeartbeats 1000000 in
theorem wrong_point (w : World) (ht : Blanks w) : Calls Tryz.prog 10 #[.agg #[.int .u8 1, .int .i64 0, .int .i64 0, .int .i64 0, .int .i64 0, .int .u32 0]] w fun e w' => e = .returned (.int .i64 0) ∧ Below w.heap.size w w' := by
  have HT := Lib.hid ht
  clear ht
  go_enter Tryz.func10, Tryz.ntmps10
  go_upto_region 1 with (fail)
  refine from_box1 (fun V hV => ?_)
  obtain ⟨hB, zlt, zge, cn, fn⟩ := hV
  have m0 : V.cell? ⟨w.heap.size, 0, none⟩ = some (.int .u8 1) := cn 0
  have HBV := Lib.hid hB
  have HM := Lib.hid cn
  go_wp2_with fail
  refine (line_one V (HT.out.later hB)).mono ?_
  rintro e w1 ⟨a, b, rfl, hb⟩
  have HB1 := Lib.hid (bl hB hB.size hb)
  have c0 := (bfacts hb).1 _ 0 zlt
  have c1 := (bfacts hb).1 _ 1 zlt
  have c2 := (bfacts hb).1 _ 2 zlt
  rw [cn] at c0 c1 c2
  have z1 : w.heap.size < w1.heap.size := Nat.lt_of_lt_of_le zlt hb.size
  clear hb hB m0 cn fn
  go_wp2
  go_ret
  exact ⟨rfl, HB1.out.alloc HB1.out.size _⟩
end Go.Proofs.YtokpgopdkimmmaaGreatDoor
