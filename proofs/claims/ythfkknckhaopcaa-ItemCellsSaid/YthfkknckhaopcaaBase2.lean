/- More small lemmas on worlds. -/
import Derived.Test.YthfkknckhaopcaaBase
namespace Go.Proofs.Ythfkknckhaopcaa
open Go.RowKit
theorem Boxed1.later {w W W' : World} {b : Nat} {a : Array Value} (h : Boxed1 w W b a) (hb : Below W.heap.size W W') : Boxed1 w W' b a :=
  ⟨bl h.below h.below.size hb, Nat.lt_of_lt_of_le h.lt hb.size, h.ge, fun i => (hb.cell (p := ⟨b, i, none⟩) h.lt).trans (h.cell i), fun i => (hb.frozen (p := ⟨b, i, none⟩) h.lt).trans (h.frozen i)⟩
/-- A cell that was there, in a later world. -/
theorem cells_later {w W : World} {b : Nat} {a : Array Value} (h : ∀ i, w.cell? ⟨b, i, none⟩ = a[i]?) (hb : Below w.heap.size w W) (hl : b < w.heap.size) : ∀ i, W.cell? ⟨b, i, none⟩ = a[i]? := fun i => (hb.cell (p := ⟨b, i, none⟩) hl).trans (h i)
end Go.Proofs.Ythfkknckhaopcaa
