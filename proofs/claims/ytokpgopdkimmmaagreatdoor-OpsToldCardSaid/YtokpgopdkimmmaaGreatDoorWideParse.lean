/- wide.Parse: what it reads of whatever bytes. -/
import Derived.Test.YtokpgopdkimmmaaGreatDoorWide
import Derived.RangeFuncRecord
namespace Go.Proofs.YtokpgopdkimmmaaGreatDoor
open Go.RowKit Go.Shelf
set_option linter.unusedVariables false
set_option linter.unusedSimpArgs false

def digitB (c : UInt8) : Bool := decide (48 ≤ c.toNat) && decide (c.toNat ≤ 57)
/-- Digit by digit. -/
def parseGo : List UInt8 → Nat → Option Nat
  | [], v => some v
  | c :: l, v => if digitB c = true ∧ 10 * v + (c.toNat - 48) < wTop then parseGo l (10 * v + (c.toNat - 48)) else none
def parseW (s : List UInt8) : Option Nat := if s = [] ∨ (s.head? = some 48 ∧ s ≠ [48]) then none else parseGo s 0
/-- Ten times as much, word by word. -/
theorem ten_words (v : Nat) (hv : v < wTop) : ∃ over low most high : Nat, v % 18446744073709551616 * 10 / 18446744073709551616 = over ∧ v % 18446744073709551616 * 10 % 18446744073709551616 = low ∧ v / 18446744073709551616 * 10 / 18446744073709551616 = most ∧ v / 18446744073709551616 * 10 % 18446744073709551616 = high ∧
    over < 10 ∧ low < 18446744073709551616 ∧ most < 10 ∧ high < 18446744073709551616 ∧
    ((10 * v < wTop ∧ most = 0 ∧ high + over < 18446744073709551616 ∧ (high + over) * 18446744073709551616 + low = 10 * v) ∨ (wTop ≤ 10 * v ∧ (0 < most ∨ 18446744073709551616 ≤ high + over))) := by
  unfold wTop at *
  obtain ⟨b, hb⟩ : ∃ b, v / 18446744073709551616 = b := ⟨_, rfl⟩
  obtain ⟨r, hr⟩ : ∃ r, v % 18446744073709551616 = r := ⟨_, rfl⟩
  have hv2 : v = 18446744073709551616 * b + r := by omega
  have hr2 : r < 18446744073709551616 := by omega
  rw [hb, hr]
  obtain ⟨d, hd⟩ : ∃ d, r * 10 / 18446744073709551616 = d := ⟨_, rfl⟩
  obtain ⟨lo, hlo⟩ : ∃ lo, r * 10 % 18446744073709551616 = lo := ⟨_, rfl⟩
  have h2 : r * 10 = 18446744073709551616 * d + lo := by omega
  have h3 : lo < 18446744073709551616 := by omega
  have h4 : 10 * v = 18446744073709551616 * (10 * b + d) + lo := by omega
  refine ⟨d, lo, _, _, hd, hlo, rfl, rfl, by omega, h3, by omega, by omega, ?_⟩
  clear hb hr hd hlo
  rcases Nat.lt_or_ge (10 * b + d) 18446744073709551616 with h | h
  · have e1 : b * 10 / 18446744073709551616 = 0 := Nat.div_eq_of_lt (by omega)
    have e2 : b * 10 % 18446744073709551616 = b * 10 := Nat.mod_eq_of_lt (by omega)
    rw [e1, e2]
    exact .inl ⟨by omega, rfl, by omega, by omega⟩
  · refine .inr ⟨by omega, ?_⟩
    rcases Nat.lt_or_ge (b * 10) 18446744073709551616 with g | g
    · rw [Nat.mod_eq_of_lt g]
      exact .inr (by omega)
    · exact .inl (Nat.div_pos g (by omega))
/-- Is it no number at once? -/
def badW (l : List UInt8) : Bool := l.isEmpty || (l.head? == some 48 && !(l == [48]))
theorem parseW_eq (l : List UInt8) : parseW l = if badW l = true then none else parseGo l 0 := by
  unfold parseW badW
  cases l with
  | nil => simp
  | cons c t => by_cases h : c = 48 <;> by_cases g : t = [] <;> simp [h, g]
theorem lt_of_heap {w : World} {b : Nat} {o : Obj} (h : w.heap[b]? = some o) : b < w.heap.size := (Array.getElem?_eq_some_iff.1 h).1
theorem cells2_set {w : World} {b : Nat} {x y u v : Value} {T : TypeId} (h : w.heap[b]? = some (.cells #[x, y] T (0, 0))) : ((w.setCell ⟨b, 0, none⟩ u).setCell ⟨b, 1, none⟩ v).heap[b]? = some (.cells #[u, v] T (0, 0)) := by
  simp [World.setCell, Array.getElem?_modify, h]
theorem wide_split {a h l : Nat} (hl : l < 18446744073709551616) (ha : h * 18446744073709551616 + l = a) : a / 18446744073709551616 = h ∧ a % 18446744073709551616 = l := by omega
end Go.Proofs.YtokpgopdkimmmaaGreatDoor
