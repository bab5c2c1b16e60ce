/- Nodes in plain Lean: what is right, who is a kid. No program in sight but the node's cells. -/
import Derived.Test.YtmfkpjafeaidkaaPoolPut
namespace Go.Proofs.Ytmfkpjafeaidkaa
open Go.RowKit
set_option linter.unusedVariables false

/-- A node. -/
structure Nd where
  k : Int
  l : Int
  r : Int
  f : Int
  t : Int
  a : Int
  i : Int
def Nd.zero : Nd := ⟨0, 0, 0, 0, 0, 0, 0⟩
/-- Its cells. -/
def Nd.cells (n : Nd) : Array Value := #[.int .u8 n.k, .int .i64 n.l, .int .i64 n.r, .int .i64 n.f, .int .i64 n.t, .int .i64 n.a, .int .i64 n.i]
abbrev Nd.val (n : Nd) : Value := nodeV n.k n.l n.r n.f n.t n.a n.i
def Nd.kids (n : Nd) : List Int := kidsL n.l n.r

/-- Nodes in memory, from an address on. -/
def NdRow (W : World) (ao : Option Addr) (ns : List Nd) : Prop :=
  ns = [] ∨ ∃ b off, ao = some ⟨b, off, none⟩ ∧ ∀ i, i < ns.length → ∀ j, j < 7 → W.cell? ⟨b, off + i * 7 + j, none⟩ = (ns.getD i Nd.zero).cells[j]?
theorem NdRow.later {W W' : World} {ao : Option Addr} {ns : List Nd} (h : NdRow W ao ns) (hb : Below W.heap.size W W') : NdRow W' ao ns := by
  rcases h with h | ⟨b, off, e, h⟩
  · exact .inl h
  · refine .inr ⟨b, off, e, fun i hi j hj => ?_⟩
    have h1 := h i hi j hj
    have h2 : (ns.getD i Nd.zero).cells[j]? = some ((ns.getD i Nd.zero).cells[j]'(by simpa [Nd.cells] using hj)) := Array.getElem?_eq_getElem _
    rw [h2] at h1 ⊢
    exact (hb.cell (p := ⟨b, off + i * 7 + j, none⟩) (World.block_lt_of_cell? _ _ h1)).trans h1

def stepK (ks : List Bool) (n : Nd) : List Bool := markL ks n.kids ++ [false]
def ksFrom (ks : List Bool) (ns : List Nd) : List Bool := ns.foldl stepK ks
def rightL : List Bool → List Nd → Bool
  | _, [] => true
  | ks, n :: ns => mayB n.k n.l n.r ks && rightL (stepK ks n) ns
theorem ksFrom_len (ks : List Bool) (ns : List Nd) : (ksFrom ks ns).length = ks.length + ns.length := by
  unfold ksFrom; induction ns generalizing ks with
  | nil => rfl
  | cons n ns ih => rw [List.foldl_cons, ih]; unfold stepK; rw [List.length_append, markL_len]; simp; omega
theorem ksFrom_snoc (ks : List Bool) (ns : List Nd) (n : Nd) : ksFrom ks (ns ++ [n]) = stepK (ksFrom ks ns) n := by unfold ksFrom; rw [List.foldl_append]; rfl
theorem rightL_append (ks : List Bool) (xs ys : List Nd) : rightL ks (xs ++ ys) = (rightL ks xs && rightL (ksFrom ks xs) ys) := by
  induction xs generalizing ks with
  | nil => simp [rightL, ksFrom]
  | cons n xs ih => simp only [List.cons_append, rightL, ih, Bool.and_assoc]; rfl
theorem rightL_snoc (ks : List Bool) (xs : List Nd) (n : Nd) : rightL ks (xs ++ [n]) = (rightL ks xs && mayB n.k n.l n.r (ksFrom ks xs)) := by rw [rightL_append]; simp [rightL]
theorem take_snoc' (ns : List Nd) (k : Nat) (h : k < ns.length) : ns.take (k + 1) = ns.take k ++ [ns.getD k Nd.zero] := by
  rw [List.take_succ_eq_append_getElem h]; simp [List.getD, List.getElem?_eq_getElem h]
theorem rightL_no (ns : List Nd) (k : Nat) (h : k < ns.length) (hm : mayB (ns.getD k Nd.zero).k (ns.getD k Nd.zero).l (ns.getD k Nd.zero).r (ksFrom [] (ns.take k)) = false) : rightL [] ns = false := by
  have e := List.take_append_drop (k + 1) ns
  rw [← e, rightL_append, take_snoc' ns k h, rightL_snoc, hm]; simp
/-- Who may be put has kids that are there. -/
theorem may_kids {k L R : Int} {ks : List Bool} (h : mayB k L R ks = true) : ∀ x ∈ kidsL L R, 0 ≤ x ∧ x < ks.length := by
  intro x hx
  unfold mayB AllK at h
  have h1 := (List.all_eq_true.1 (Bool.and_eq_true _ _ ▸ h).1) x hx
  unfold okKid at h1
  simp only [Bool.and_eq_true, decide_eq_true_eq] at h1
  exact h1.1
/-- An owned row as cells. -/
theorem row_of_owned {w : World} {base : Nat} {e : TypeId} {ao : Option Addr} {n cap : Nat} {xs : List Value} (h : w.ownsRow base e 1 (.slice ao n cap) n xs) : Row w ao xs := by
  rcases h.2 with ⟨h1, h2⟩ | ⟨g, cap', cur, hv, _⟩
  · left; have := h.1; rw [h2] at this; simpa using this
  · simp only [Value.slice.injEq] at hv
    obtain ⟨rfl, _, rfl⟩ := hv
    exact .inr ⟨g, 0, rfl, fun i hi => by rw [Nat.zero_add]; exact h.cellAt i (by have := h.1; omega)⟩
end Go.Proofs.Ytmfkpjafeaidkaa
