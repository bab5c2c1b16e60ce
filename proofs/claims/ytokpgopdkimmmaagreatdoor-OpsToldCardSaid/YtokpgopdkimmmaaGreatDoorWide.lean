/- Wide numbers: Of, Add, Sub, Mul, Diff, over their words. (add64, sub64 and the walks of Add and Sub began from the kit's worked WidyWalks.) -/
import Derived.Test.YtokpgopdkimmmaaGreatDoorBase
import Derived.Test.YtokpgopdkimmmaaGreatDoorShelfWide
import Derived.Shelf.Spec.BitsCarry
import Derived.RowKit3
namespace Go.Proofs.YtokpgopdkimmmaaGreatDoor
open Go.RowKit Go.Shelf
set_option linter.unusedVariables false
set_option linter.unusedSimpArgs false

theorem add64 (x y c : Int) (hx : 0 ≤ x) (hx2 : x < 18446744073709551616) (hy : 0 ≤ y) (hy2 : y < 18446744073709551616) (hc0 : 0 ≤ c) (hc : c ≤ 1) (w : World) : (callFunc 191 #[.int .u64 x, .int .u64 y, .int .u64 c]).run Tryz.prog w =
    .ok (.value (.tuple #[.int .u64 ((x + y + c) % 18446744073709551616), .int .u64 ((x + y + c) / 18446744073709551616)])) w := by
  obtain ⟨x, rfl⟩ := Int.eq_ofNat_of_zero_le hx
  obtain ⟨y, rfl⟩ := Int.eq_ofNat_of_zero_le hy
  obtain ⟨c, rfl⟩ := Int.eq_ofNat_of_zero_le hc0
  rw [run_callFunc_extern Tryz.func191 (by kernel_rfl) (by kernel_rfl) (by kernel_rfl) (e := add64Entry) (by kernel_rfl), run_add64 x y c (by omega) (by omega) (by omega) (by omega)]
  simp only [Result.andThen]
/-- A word. -/
def Word (x : Int) : Prop := 0 ≤ x ∧ x < 18446744073709551616
def wideV (v : Nat) : Value := .agg #[.int .u64 ((v / 18446744073709551616 : Nat) : Int), .int .u64 ((v % 18446744073709551616 : Nat) : Int)]
abbrev wTop : Nat := 340282366920938463463374607431768211456
set_option maxRecDepth 100000 in
set_option maxHeartbeats 1000000 in
theorem wadd_words (ah al bh bl h l c d : Int) (ok : Bool) (h1 : Word ah) (h2 : Word al) (h3 : Word bh) (h4 : Word bl) (hl : (al + bl) % 18446744073709551616 = l) (hc : (al + bl) / 18446744073709551616 = c) (hh : (ah + bh + c) % 18446744073709551616 = h) (hd : (ah + bh + c) / 18446744073709551616 = d) (hok : (d = 0 ∧ ok = true) ∨ (d = 1 ∧ ok = false)) (w : World) :
    Calls Tryz.prog 157 #[.agg #[.int .u64 ah, .int .u64 al], .agg #[.int .u64 bh, .int .u64 bl]] w fun e w' =>
      e = .returned (.tuple #[.agg #[.int .u64 (if ok then h else 0), .int .u64 (if ok then l else 0)], .bool ok]) ∧ Below w.heap.size w w' := by
  obtain ⟨a1, a2⟩ := h1; obtain ⟨b1, b2⟩ := h2; obtain ⟨c1, c2⟩ := h3; obtain ⟨d1, d2⟩ := h4
  have k0 : 0 ≤ c := by omega
  have k1 : c ≤ 1 := by omega
  have A1 : ∀ w, (callFunc 191 #[.int .u64 al, .int .u64 bl, .int .u64 0]).run Tryz.prog w = .ok (.value (.tuple #[.int .u64 l, .int .u64 c])) w := fun w => by
    have h := add64 al bl 0 b1 b2 d1 d2 (Int.le_refl 0) (by decide) w
    rw [Int.add_zero, hl, hc] at h
    exact h
  have A2 : ∀ w, (callFunc 191 #[.int .u64 ah, .int .u64 bh, .int .u64 c]).run Tryz.prog w = .ok (.value (.tuple #[.int .u64 h, .int .u64 d])) w := fun w => by
    have h' := add64 ah bh c a1 a2 c1 c2 k0 k1 w
    rw [hh, hd] at h'
    exact h'
  clear hl hc hh hd
  rcases hok with ⟨rfl, rfl⟩ | ⟨rfl, rfl⟩
  all_goals
    go_enter Tryz.func157, Tryz.ntmps157
    go_wp2_with (first | simp only [A1] | simp only [A2])
    simp [bodyPost, results, Tryz.results157, go_sem]
    exact (((Below.refl w.heap.size w).alloc (Nat.le_refl _) _).alloc (by simp) _).alloc (by simp; omega) _
theorem word_hi {v : Nat} (h : v < wTop) : Word ((v / 18446744073709551616 : Nat) : Int) := by unfold Word; unfold wTop at h; omega
theorem word_lo (v : Nat) : Word ((v % 18446744073709551616 : Nat) : Int) := by unfold Word; omega
/-- Add. -/
theorem wadd_any (a b : Nat) (ha : a < wTop) (hb : b < wTop) (w : World) : Calls Tryz.prog 157 #[wideV a, wideV b] w fun e w' =>
    e = .returned (.tuple #[wideV (if a + b < wTop then a + b else 0), .bool (decide (a + b < wTop))]) ∧ Below w.heap.size w w' := by
  by_cases h : a + b < wTop
  · rw [if_pos h, decide_eq_true h]
    exact wadd_words _ _ _ _ (((a + b) / 18446744073709551616 : Nat) : Int) (((a + b) % 18446744073709551616 : Nat) : Int) _ 0 true (word_hi ha) (word_lo a) (word_hi hb) (word_lo b) (by omega) rfl (by unfold wTop at h; omega) (by unfold wTop at h; omega) (.inl ⟨rfl, rfl⟩) w
  · rw [if_neg h, decide_eq_false h]
    exact wadd_words _ _ _ _ _ _ _ 1 false (word_hi ha) (word_lo a) (word_hi hb) (word_lo b) rfl rfl rfl (by unfold wTop at *; omega) (.inr ⟨rfl, rfl⟩) w
set_option maxRecDepth 100000 in
set_option maxHeartbeats 1000000 in
theorem wof_any (n : Nat) (h : n < 18446744073709551616) (w : World) : Calls Tryz.prog 164 #[.int .u64 n] w fun e w' => e = .returned (wideV n) ∧ Below w.heap.size w w' := by
  have HV := Lib.hid (show wideV n = .agg #[.int .u64 0, .int .u64 n] by unfold wideV; rw [Nat.div_eq_of_lt h, Nat.mod_eq_of_lt h]; rfl)
  go_enter Tryz.func164, Tryz.ntmps164
  go_wp2
  simp [bodyPost, results, Tryz.results164, go_sem]
  exact ⟨HV.out.symm, (Below.refl w.heap.size w).alloc (Nat.le_refl _) _⟩
set_option maxRecDepth 100000 in
set_option maxHeartbeats 1000000 in
theorem wmul_any (x y : Nat) (hx : x < 18446744073709551616) (hy : y < 18446744073709551616) (w : World) : Calls Tryz.prog 158 #[.int .u64 x, .int .u64 y] w fun e w' => e = .returned (wideV (x * y)) ∧ Below w.heap.size w w' := by
  have HV := Lib.hid (show wideV (x * y) = .agg #[.int .u64 ((x * y / 18446744073709551616 : Nat) : Int), .int .u64 ((x * y % 18446744073709551616 : Nat) : Int)] from rfl)
  go_enter Tryz.func158, Tryz.ntmps158
  go_wp2_with fail
  refine (Tryz.bits_Mul64 x y hx hy _).mono ?_
  rintro e w1 ⟨rfl, rfl⟩
  generalize x * y / 18446744073709551616 = H at HV ⊢
  generalize x * y % 18446744073709551616 = L at HV ⊢
  go_wp2
  simp [bodyPost, results, Tryz.results158, go_sem]
  exact ⟨HV.out.symm, (Below.refl w.heap.size w).alloc (Nat.le_refl _) _⟩
set_option maxRecDepth 100000 in
set_option maxHeartbeats 1000000 in
theorem wdiff_any (a b : Int) (ha : -9223372036854775808 ≤ a) (ha2 : a < 9223372036854775808) (hb : -9223372036854775808 ≤ b) (hb2 : b < 9223372036854775808) (w : World) : Calls Tryz.prog 159 #[.int .i64 a, .int .i64 b] w fun e w' => e = .returned (.int .u64 ((b - a).toNat : Int)) ∧ w = w' := by
  by_cases h : b ≤ a
  · have HV := Lib.hid (show (b - a).toNat = 0 by omega)
    go_enter Tryz.func159, Tryz.ntmps159
    go_wp2
    go_ret
    exact ⟨by rw [HV.out]; rfl, rfl⟩
  · go_enter Tryz.func159, Tryz.ntmps159
    go_wp2
    go_ret
    refine ⟨congrArg Ending.returned (congrArg (Value.int IntKind.u64) ?_), rfl⟩
    have e : ∀ z, IntKind.u64.wrap z = z % 18446744073709551616 := fun z => rfl
    rw [e, e, e]
    omega
end Go.Proofs.YtokpgopdkimmmaaGreatDoor
