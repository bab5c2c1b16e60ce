/- The chapter's examples (awake of layer 1). -/
import Derived.Test.YtplbglcdmimdoaaDoorText
import Derived.Test.YtplbglcdmimdoaaDoorWideCmp
import Derived.Test.YtplbglcdmimdoaaDoorWideParse
namespace Go.Proofs.YtplbglcdmimdoaaDoor
open Go.RowKit
set_option linter.unusedVariables false
set_option linter.unusedSimpArgs false

abbrev W2 (h l : Int) : Value := .agg #[.int .u64 h, .int .u64 l]
theorem wideV_of (h l : Nat) (hl : l < 18446744073709551616) : wideV (h * 18446744073709551616 + l) = .agg #[.int .u64 (h : Int), .int .u64 (l : Int)] := by
  unfold wideV
  rw [(wide_split (a := h * 18446744073709551616 + l) hl rfl).1, (wide_split (a := h * 18446744073709551616 + l) hl rfl).2]
theorem Tab64.later {w w' : World} (h : Lib.TabIs Tryd.prog w "internal/strconv.uint64pow10" .u64 Lib.pow10Tab) (hb : Below w.heap.size w w') : Lib.TabIs Tryd.prog w' "internal/strconv.uint64pow10" .u64 Lib.pow10Tab :=
  Go.Joins.tab_stays tab64 h hb (Nat.le_refl _)
set_option maxRecDepth 100000 in
theorem most_any (w : World) : Calls Tryd.prog 35 #[] w fun e w' => e = .returned (W2 18446744073709551615 18446744073709551615) ∧ Below w.heap.size w w' := by
  go_enter Tryd.func35, Tryd.ntmps35
  go_wp2
  simp [bodyPost, results, Tryd.results35, go_sem]
  exact (Below.refl w.heap.size w).alloc (Nat.le_refl _) _
theorem mul01 (w : World) : Calls Tryd.prog 23 #[.int .u64 18446744073709551615, .int .u64 18446744073709551615] w fun e w' => e = .returned (W2 18446744073709551614 1) ∧ Below w.heap.size w w' :=
  wmul_any 18446744073709551615 18446744073709551615 (by decide) (by decide) w
theorem of01 (w : World) : Calls Tryd.prog 13 #[.int .u64 1] w fun e w' => e = .returned (W2 0 1) ∧ Below w.heap.size w w' := wof_any 1 (by decide) w
theorem add01 (w : World) : Calls Tryd.prog 11 #[W2 18446744073709551615 18446744073709551615, W2 0 1] w fun e w' => e = .returned (.tuple #[W2 0 0, .bool false]) ∧ Below w.heap.size w w' :=
  wadd_any 340282366920938463463374607431768211455 1 (by decide) (by decide) w
theorem parse_lit (l : List UInt8) (v : Option Nat) (hl : l.length ≤ 100) (hv : parseW l = v) (w : World) : Calls Tryd.prog 29 #[.string ⟨l.toArray⟩] w fun e w' =>
    e = .returned (.tuple #[wideV (v.getD 0), .int .i64 (if v.isSome then 0 else 10)]) ∧ Below w.heap.size w w' := by
  subst hv
  have h := parse_any ⟨l.toArray⟩ w (by
    have : (⟨l.toArray⟩ : ByteArray).size = l.length := List.size_toArray
    omega)
  exact h
theorem p39 (w : World) : Calls Tryd.prog 29 #[.string ⟨#[51, 52, 48, 50, 56, 50, 51, 54, 54, 57, 50, 48, 57, 51, 56, 52, 54, 51, 52, 54, 51, 51, 55, 52, 54, 48, 55, 52, 51, 49, 55, 54, 56, 50, 49, 49, 52, 53, 53]⟩] w fun e w' =>
    e = .returned (.tuple #[W2 18446744073709551615 18446744073709551615, .int .i64 0]) ∧ Below w.heap.size w w' :=
  parse_lit _ (some 340282366920938463463374607431768211455) (by decide) (by decide +kernel) w
theorem p40 (w : World) : Calls Tryd.prog 29 #[.string ⟨#[51, 52, 48, 50, 56, 50, 51, 54, 54, 57, 50, 48, 57, 51, 56, 52, 54, 51, 52, 54, 51, 51, 55, 52, 54, 48, 55, 52, 51, 49, 55, 54, 56, 50, 49, 49, 52, 53, 54]⟩] w fun e w' =>
    e = .returned (.tuple #[W2 0 0, .int .i64 10]) ∧ Below w.heap.size w w' := parse_lit _ none (by decide) (by decide +kernel) w
theorem p007 (w : World) : Calls Tryd.prog 29 #[.string ⟨#[48, 48, 55]⟩] w fun e w' => e = .returned (.tuple #[W2 0 0, .int .i64 10]) ∧ Below w.heap.size w w' := parse_lit _ none (by decide) (by decide +kernel) w
theorem p0 (w : World) : Calls Tryd.prog 29 #[.string ⟨#[]⟩] w fun e w' => e = .returned (.tuple #[W2 0 0, .int .i64 10]) ∧ Below w.heap.size w w' := parse_lit _ none (by decide) (by decide +kernel) w
theorem pneg (w : World) : Calls Tryd.prog 29 #[.string ⟨#[45, 49]⟩] w fun e w' => e = .returned (.tuple #[W2 0 0, .int .i64 10]) ∧ Below w.heap.size w w' := parse_lit _ none (by decide) (by decide +kernel) w
theorem psp (w : World) : Calls Tryd.prog 29 #[.string ⟨#[49, 32]⟩] w fun e w' => e = .returned (.tuple #[W2 0 0, .int .i64 10]) ∧ Below w.heap.size w w' := parse_lit _ none (by decide) (by decide +kernel) w
theorem text01_val : textL 340282366920938463426481119284349108225 = [51, 52, 48, 50, 56, 50, 51, 54, 54, 57, 50, 48, 57, 51, 56, 52, 54, 51, 52, 50, 54, 52, 56, 49, 49, 49, 57, 50, 56, 52, 51, 52, 57, 49, 48, 56, 50, 50, 53] := by
  unfold textL
  decide +kernel
theorem text01 (w : World) (htab : Lib.TabIs Tryd.prog w "internal/strconv.uint64pow10" .u64 Lib.pow10Tab) : Calls Tryd.prog 33 #[W2 18446744073709551614 1] w fun e w' =>
    e = .returned (.string ⟨#[51, 52, 48, 50, 56, 50, 51, 54, 54, 57, 50, 48, 57, 51, 56, 52, 54, 51, 52, 50, 54, 52, 56, 49, 49, 49, 57, 50, 56, 52, 51, 52, 57, 49, 48, 56, 50, 50, 53]⟩) ∧ Below w.heap.size w w' := by
  have h := text_any 340282366920938463426481119284349108225 (by decide) w htab
  rw [text01_val] at h
  exact h
theorem same_quiet {P : Program} {f : FuncId} {args : Array Value} {v : Value} {W : World} {s : Since W} (h : ∀ w, Calls P f args w fun e w' => e = .returned v ∧ w = w') :
    Calls P f args s.w fun e w' => e = .returned v ∧ ∃ s' : Since W, w' = s'.w := (h s.w).mono fun _ w' ⟨he, hb⟩ => ⟨he, s, hb.symm⟩
theorem tab_quiet {P : Program} {f : FuncId} {args : Array Value} {v : Value} {W : World} {s : Since W} {T : World → Prop} (ht : T W) (hl : ∀ w', Below W.heap.size W w' → T w') (h : ∀ w, T w → Calls P f args w fun e w' => e = .returned v ∧ Below w.heap.size w w') :
    Calls P f args s.w fun e w' => e = .returned v ∧ ∃ s' : Since W, w' = s'.w :=
  (h s.w (hl _ s.h)).mono fun _ w' ⟨he, hb⟩ => ⟨he, ⟨w', bl s.h s.h.size hb⟩, rfl⟩
/-- A wide number in a box. -/
def WB (W : World) (b : Nat) (h l : Int) : Prop := b < W.heap.size ∧ W.cell? ⟨b, 0, none⟩ = some (.int .u64 h) ∧ W.cell? ⟨b, 1, none⟩ = some (.int .u64 l)
theorem WB.new (w : World) (h l : Int) (t : TypeId) : WB (w.alloc (.cells #[.int .u64 h, .int .u64 l] t)) w.heap.size h l := ⟨by simp, cells_at w _ t 0, cells_at w _ t 1⟩
theorem WB.later {W W' : World} {b : Nat} {h l : Int} (k : WB W b h l) (hb : Below W.heap.size W W') : WB W' b h l :=
  ⟨Nat.lt_of_lt_of_le k.1 hb.size, (hb.cell (p := ⟨b, 0, none⟩) k.1).trans k.2.1, (hb.cell (p := ⟨b, 1, none⟩) k.1).trans k.2.2⟩
theorem WB.alloc {W : World} {b : Nat} {h l : Int} (k : WB W b h l) (o : Obj) : WB (W.alloc o) b h l := k.later ((Below.refl _ _).alloc (Nat.le_refl _) o)
theorem bla {w0 w w1 : World} (h : Below w0.heap.size w0 w) (hb : Below w.heap.size w w1) (o : Obj) : Below w0.heap.size w0 (w1.alloc o) := (bl h h.size hb).alloc (Nat.le_trans h.size hb.size) o
def Strs (W : World) (g : Nat) : Prop := g < W.heap.size ∧ W.cell? ⟨g, 0, none⟩ = some (.string { data := #[51, 52, 48, 50, 56, 50, 51, 54, 54, 57, 50, 48, 57, 51, 56, 52, 54, 51, 52, 54, 51, 51, 55, 52, 54, 48, 55, 52, 51, 49, 55, 54, 56, 50, 49, 49, 52, 53, 54] }) ∧ W.cell? ⟨g, 1, none⟩ = some (.string { data := #[48, 48, 55] }) ∧ W.cell? ⟨g, 2, none⟩ = some (.string { data := #[] }) ∧ W.cell? ⟨g, 3, none⟩ = some (.string { data := #[45, 49] }) ∧ W.cell? ⟨g, 4, none⟩ = some (.string { data := #[49, 32] })
theorem Strs.new (w : World) (t : TypeId) : Strs (w.alloc (.cells #[.string { data := #[51, 52, 48, 50, 56, 50, 51, 54, 54, 57, 50, 48, 57, 51, 56, 52, 54, 51, 52, 54, 51, 51, 55, 52, 54, 48, 55, 52, 51, 49, 55, 54, 56, 50, 49, 49, 52, 53, 54] }, .string { data := #[48, 48, 55] }, .string { data := #[] }, .string { data := #[45, 49] }, .string { data := #[49, 32] }] t)) w.heap.size := ⟨by simp, cells_at w _ t 0, cells_at w _ t 1, cells_at w _ t 2, cells_at w _ t 3, cells_at w _ t 4⟩
theorem Strs.later {W W' : World} {g : Nat} (k : Strs W g) (hb : Below W.heap.size W W') : Strs W' g :=
  ⟨Nat.lt_of_lt_of_le k.1 hb.size, (hb.cell (p := ⟨g, 0, none⟩) k.1).trans k.2.1, (hb.cell (p := ⟨g, 1, none⟩) k.1).trans k.2.2.1, (hb.cell (p := ⟨g, 2, none⟩) k.1).trans k.2.2.2.1, (hb.cell (p := ⟨g, 3, none⟩) k.1).trans k.2.2.2.2.1, (hb.cell (p := ⟨g, 4, none⟩) k.1).trans k.2.2.2.2.2⟩
set_option maxRecDepth 100000 in
set_option maxHeartbeats 2000000 in
theorem awake01_any (w : World) (ht : Lib.TabIs Tryd.prog w "internal/strconv.uint64pow10" .u64 Lib.pow10Tab) : Calls Tryd.prog 12 #[] w fun e w' => e = .returned (.bool true) ∧ Below w.heap.size w w' := by
  have HT := Lib.hid ht
  clear ht
  go_enter Tryd.func12, Tryd.ntmps12
  go_wp2_with fail
  refine (mul01 w).mono ?_
  rintro e w1 ⟨rfl, hb⟩
  have k1 := WB.new w1 18446744073709551614 1 24
  have hB := (hb.alloc hb.size (.cells #[.int .u64 18446744073709551614, .int .u64 1] 24))
  obtain ⟨b1, hb1⟩ : ∃ b, w1.heap.size = b := ⟨_, rfl⟩
  go_wp2_with fail
  rw [hb1] at k1
  clear hb hb1
  generalize w1.alloc (.cells #[.int .u64 18446744073709551614, .int .u64 1] 24) = V at k1 hB ⊢
  refine (most_any V).mono ?_
  rintro e w1 ⟨rfl, hb⟩
  replace k1 := k1.later hb
  replace hB := bl hB hB.size hb
  clear hb
  go_wp2_with fail
  refine (of01 w1).mono ?_
  rintro e w2 ⟨rfl, hb⟩
  replace k1 := k1.later hb
  replace hB := bl hB hB.size hb
  clear hb
  go_wp2_with fail
  refine (add01 w2).mono ?_
  rintro e w3 ⟨rfl, hb⟩
  replace k1 := (k1.later hb).alloc (.cells #[.int .u64 0, .int .u64 0] 24)
  replace hB := bla hB hb (.cells #[.int .u64 0, .int .u64 0] 24)
  clear hb
  go_wp2_with fail
  generalize w3.alloc (.cells #[.int .u64 0, .int .u64 0] 24) = V3 at k1 hB ⊢
  refine (p39 V3).mono ?_
  rintro e w4 ⟨rfl, hb⟩
  replace k1 := (k1.later hb).alloc (.cells #[.int .u64 18446744073709551615, .int .u64 18446744073709551615] 24)
  replace hB := bla hB hb (.cells #[.int .u64 18446744073709551615, .int .u64 18446744073709551615] 24)
  have k4 := WB.new w4 18446744073709551615 18446744073709551615 24
  obtain ⟨b4, hb4⟩ : ∃ b, w4.heap.size = b := ⟨_, rfl⟩
  clear hb
  go_wp2_with fail
  rw [hb4] at k4
  replace k1 := k1.alloc (.cells #[.string { data := #[51, 52, 48, 50, 56, 50, 51, 54, 54, 57, 50, 48, 57, 51, 56, 52, 54, 51, 52, 54, 51, 51, 55, 52, 54, 48, 55, 52, 51, 49, 55, 54, 56, 50, 49, 49, 52, 53, 54] }, .string { data := #[48, 48, 55] }, .string { data := #[] }, .string { data := #[45, 49] }, .string { data := #[49, 32] }] 9)
  replace k4 := k4.alloc (.cells #[.string { data := #[51, 52, 48, 50, 56, 50, 51, 54, 54, 57, 50, 48, 57, 51, 56, 52, 54, 51, 52, 54, 51, 51, 55, 52, 54, 48, 55, 52, 51, 49, 55, 54, 56, 50, 49, 49, 52, 53, 54] }, .string { data := #[48, 48, 55] }, .string { data := #[] }, .string { data := #[45, 49] }, .string { data := #[49, 32] }] 9)
  replace hB := hB.alloc hB.size (.cells #[.string { data := #[51, 52, 48, 50, 56, 50, 51, 54, 54, 57, 50, 48, 57, 51, 56, 52, 54, 51, 52, 54, 51, 51, 55, 52, 54, 48, 55, 52, 51, 49, 55, 54, 56, 50, 49, 49, 52, 53, 54] }, .string { data := #[48, 48, 55] }, .string { data := #[] }, .string { data := #[45, 49] }, .string { data := #[49, 32] }] 9)
  have k5 := Strs.new (w4.alloc (.cells #[.int .u64 18446744073709551615, .int .u64 18446744073709551615] 24)) 9
  rw [World.size_alloc, hb4] at k5
  clear hb4
  generalize (w4.alloc (.cells #[.int .u64 18446744073709551615, .int .u64 18446744073709551615] 24)).alloc (.cells #[.string { data := #[51, 52, 48, 50, 56, 50, 51, 54, 54, 57, 50, 48, 57, 51, 56, 52, 54, 51, 52, 54, 51, 51, 55, 52, 54, 48, 55, 52, 51, 49, 55, 54, 56, 50, 49, 49, 52, 53, 54] }, .string { data := #[48, 48, 55] }, .string { data := #[] }, .string { data := #[45, 49] }, .string { data := #[49, 32] }] 9) = V at k1 k4 k5 hB ⊢
  generalize w3.heap.size = b3
  have K1 := Lib.hid k1
  have K4 := Lib.hid k4
  have K5 := Lib.hid k5
  have HB := Lib.hid hB
  clear k1 k4 k5 hB
  go_loopw [23] (fun i wr => ∃ k : Nat, k ≤ 5 ∧ i = .int .i64 k ∧ Hid (Below V.heap.size V wr)) (fun i _ => 5 - (intOf i).toNat)
  case atStart => exact ⟨0, Nat.zero_le _, rfl, Lib.hid (Below.refl _ _)⟩
  case round =>
    obtain ⟨k, hk, rfl, HBr⟩ := hrel
    rcases (show k = 0 ∨ k = 1 ∨ k = 2 ∨ k = 3 ∨ k = 4 ∨ k = 5 by omega) with rfl | rfl | rfl | rfl | rfl | rfl
    · obtain ⟨q, c0, c1, c2, c3, c4⟩ := K5.out.later HBr.out
      clear c1 c2 c3 c4
      go_wp2_with fail
      refine (p40 _).mono ?_
      rintro e w5 ⟨rfl, hb⟩
      have HN := Lib.hid ((bl HBr.out HBr.out.size hb).alloc (Nat.le_trans HBr.out.size hb.size) (.cells #[.int .u64 0, .int .u64 0] 24))
      clear hb
      go_wp2_with fail
      go_roundw
      case rel => exact ⟨1, by omega, by go_num, HN⟩
      case measure => simp [intOf]
    · obtain ⟨q, c0, c1, c2, c3, c4⟩ := K5.out.later HBr.out
      clear c0 c2 c3 c4
      go_wp2_with fail
      refine (p007 _).mono ?_
      rintro e w5 ⟨rfl, hb⟩
      have HN := Lib.hid ((bl HBr.out HBr.out.size hb).alloc (Nat.le_trans HBr.out.size hb.size) (.cells #[.int .u64 0, .int .u64 0] 24))
      clear hb
      go_wp2_with fail
      go_roundw
      case rel => exact ⟨2, by omega, by go_num, HN⟩
      case measure => simp [intOf]
    · obtain ⟨q, c0, c1, c2, c3, c4⟩ := K5.out.later HBr.out
      clear c0 c1 c3 c4
      go_wp2_with fail
      refine (p0 _).mono ?_
      rintro e w5 ⟨rfl, hb⟩
      have HN := Lib.hid ((bl HBr.out HBr.out.size hb).alloc (Nat.le_trans HBr.out.size hb.size) (.cells #[.int .u64 0, .int .u64 0] 24))
      clear hb
      go_wp2_with fail
      go_roundw
      case rel => exact ⟨3, by omega, by go_num, HN⟩
      case measure => simp [intOf]
    · obtain ⟨q, c0, c1, c2, c3, c4⟩ := K5.out.later HBr.out
      clear c0 c1 c2 c4
      go_wp2_with fail
      refine (pneg _).mono ?_
      rintro e w5 ⟨rfl, hb⟩
      have HN := Lib.hid ((bl HBr.out HBr.out.size hb).alloc (Nat.le_trans HBr.out.size hb.size) (.cells #[.int .u64 0, .int .u64 0] 24))
      clear hb
      go_wp2_with fail
      go_roundw
      case rel => exact ⟨4, by omega, by go_num, HN⟩
      case measure => simp [intOf]
    · obtain ⟨q, c0, c1, c2, c3, c4⟩ := K5.out.later HBr.out
      clear c0 c1 c2 c3
      go_wp2_with fail
      refine (psp _).mono ?_
      rintro e w5 ⟨rfl, hb⟩
      have HN := Lib.hid ((bl HBr.out HBr.out.size hb).alloc (Nat.le_trans HBr.out.size hb.size) (.cells #[.int .u64 0, .int .u64 0] 24))
      clear hb
      go_wp2_with fail
      go_roundw
      case rel => exact ⟨5, by omega, by go_num, HN⟩
      case measure => simp [intOf]
    · obtain ⟨l1, c1, d1⟩ := K1.out.later HBr.out
      obtain ⟨l4, c4, d4⟩ := K4.out.later HBr.out
      have HBW := Lib.hid (bl HB.out HB.out.size HBr.out)
      have HTW := Lib.hid (Tab64.later HT.out (by have := HBW.out; exact this))
      have TXT := fun s : Since wr => tab_quiet (P := Tryd.prog) (f := 33) (s := s) (T := fun w => Lib.TabIs Tryd.prog w "internal/strconv.uint64pow10" .u64 Lib.pow10Tab) HTW.out (fun w' h => Tab64.later HTW.out h) text01
      clear HBr
      go_wp2_with fail
      refine since_wp (fun s0 => ?_)
      refine wp_region_since (by kernel_rfl) (by kernel_rfl) ?_
      repeat (go_big_quiet_step ((first
        | (go_at_call 33; exact TXT _)
        | (go_at_call 14; exact same_quiet (fun w => wdiff_any _ _ (by decide) (by decide) (by decide) (by decide) w))
        | (go_at_call 35; exact since_quiet most_any))))
      refine wpQuiet_nil ?_
      rintro _ ⟨s, rfl⟩
      go_wp2
      go_ret
      exact ⟨rfl, since_below HBW.out s HBW.out.size⟩
end Go.Proofs.YtplbglcdmimdoaaDoor
