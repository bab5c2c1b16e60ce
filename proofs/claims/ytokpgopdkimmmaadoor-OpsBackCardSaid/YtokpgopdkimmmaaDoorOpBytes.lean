/- ops.Bytes: its closure, that puts a number's bytes. -/
import Derived.Test.YtokpgopdkimmmaaDoorOpParseWalk
import Derived.Test.YtokpgopdkimmmaaDoorBWrite
import Derived.Deep.RegionLaw
namespace Go.Proofs.YtokpgopdkimmmaaDoor
open Go.RowKit
set_option linter.unusedVariables false
set_option linter.unusedSimpArgs false

/-- A number's last bytes, the greatest first. -/
def beN : Nat → Nat → List Nat
  | 0, _ => []
  | m + 1, n => n / 256 ^ m % 256 :: beN m n
theorem beN_len (n : Nat) : ∀ m, (beN m n).length = m
  | 0 => rfl
  | m + 1 => by rw [beN, List.length_cons, beN_len n m]
abbrev bval (n : Nat) : Value := .int .u8 (n : Int)
def bvals (l : List Nat) : List Value := l.map bval
theorem bvals_len (l : List Nat) : (bvals l).length = l.length := by simp [bvals]
theorem bvals_app (a b : List Nat) : bvals (a ++ b) = bvals a ++ bvals b := by simp [bvals]
theorem bvals_one : ∀ (l : List Nat), ∀ u ∈ bvals l, u.oneCell' = true := by
  intro l u hu
  obtain ⟨n, _, rfl⟩ := List.mem_map.1 hu
  rfl
/-- A slice of bytes that the call owns, in a box. -/
structure Bag (w : World) (B b : Nat) (l : List Nat) : Prop where
  low : B ≤ b
  box : ∃ v, Blk w b 24 #[v] ∧ w.ownsRow B 5 1 v l.length (bvals l)
theorem Bag.lt {w : World} {B b : Nat} {l : List Nat} (h : Bag w B b l) : b < w.heap.size := by obtain ⟨_, v, h, _⟩ := h; exact Blk.lt h
theorem bag_alloc {w : World} {B b : Nat} {l : List Nat} (h : Bag w B b l) (o : Obj) : Bag (w.alloc o) B b l := by
  obtain ⟨h0, v, h1, h2⟩ := h
  exact ⟨h0, v, h1.alloc o, h2.alloc o⟩
theorem bag_drew {w : World} {B b : Nat} {l : List Nat} (h : Bag w B b l) : Bag w.drew B b l := by
  obtain ⟨h0, v, h1, h2⟩ := h
  exact ⟨h0, v, h1.drew, h2.drew⟩
/-- What an append and the store of what it gave do to the box. -/
theorem bag_put {w w1 : World} {B b : Nat} {l : List Nat} {v v1 : Value} {x : List Nat} (hB : B ≤ b) (hb : Blk w b 24 #[v]) (ho : w.ownsRow B 5 1 v l.length (bvals l)) (ho1 : w1.ownsRow B 5 1 v1 (l.length + x.length) (bvals l ++ bvals x)) (hg : w.grownBy w1 v.ownBlock) :
    Bag (w1.setCell ⟨b, 0, none⟩ v1) B b (l ++ x) ∧ Below B w (w1.setCell ⟨b, 0, none⟩ v1) ∧ BSame 5 b w (w1.setCell ⟨b, 0, none⟩ v1) := by
  have hne := own_blk_ne ho hb (by decide)
  have hb1 : Blk w1 b 24 #[v] := hb.grown hg (fun e => hne e.symm)
  have hne1 := own_blk_ne ho1 hb1 (by decide)
  have hBw : B ≤ w.heap.size := Nat.le_of_lt (Nat.lt_of_le_of_lt hB hb.lt)
  refine ⟨⟨hB, v1, ?_, ?_⟩, ?_, ?_⟩
  · have := hb1.set_ 0 v1
    exact this
  · rw [List.length_append, bvals_app]
    exact ownsRow_setCell_other ho1 (a := ⟨b, 0, none⟩) hne1 v1
  · exact ((Below.refl B w).grown hg hBw (fun k hk => (ho.lt k hk).1)).setCell (p := ⟨b, 0, none⟩) hB _
  · exact ((BSame.refl _ _ w).grown hg (fun r hr => .inr (own_cells ho r hr))).grown (grown_setCell _ _ _ _) (fun r e => .inl (Option.some.inj e).symm)
end Go.Proofs.YtokpgopdkimmmaaDoor
