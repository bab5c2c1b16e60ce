/- The state of a walk with a stack of its own and a closure with memory of its own: worlds in plain Lean, no code. -/
import Derived.Test.YtmfkpjafeaidkaaForest
namespace Go.Proofs.Ytmfkpjafeaidkaa
open Go.RowKit
set_option linter.unusedVariables false

/-- Of what was there only the listed blocks may have turned. -/
structure ChgOnly (fp : List Nat) (w w' : World) : Prop where
  os : w'.os = w.os
  tape : w'.tape = w.tape
  output : w'.output = w.output
  size : w.heap.size ≤ w'.heap.size
  block : ∀ k, k < w.heap.size → k ∉ fp → w'.heap[k]? = w.heap[k]?
theorem ChgOnly.refl (fp : List Nat) (w : World) : ChgOnly fp w w := ⟨rfl, rfl, rfl, Nat.le_refl _, fun _ _ _ => rfl⟩
theorem ChgOnly.below {w w' : World} (h : Below w.heap.size w w') (fp : List Nat) : ChgOnly fp w w' := ⟨h.os, h.tape, h.output, h.size, fun k hk _ => h.block k hk⟩
theorem ChgOnly.toBelow {w w' : World} {fp : List Nat} (h : ChgOnly fp w w') {B : Nat} (hf : ∀ b ∈ fp, B ≤ b) (hB : B ≤ w.heap.size) : Below B w w' :=
  ⟨h.os, h.tape, h.output, h.size, fun k hk => h.block k (by omega) (fun hm => by have := hf k hm; omega)⟩
/-- One step more: what it turns is listed, or is new. -/
theorem ChgOnly.step {fp0 fp : List Nat} {w a b : World} (h : ChgOnly fp0 w a) (k : ChgOnly fp a b) (hf : ∀ x ∈ fp, x ∈ fp0 ∨ w.heap.size ≤ x) : ChgOnly fp0 w b :=
  ⟨k.os.trans h.os, k.tape.trans h.tape, k.output.trans h.output, Nat.le_trans h.size k.size, fun i hi hn => (k.block i (Nat.lt_of_lt_of_le hi h.size) (fun hm => by
    rcases hf i hm with h1 | h1
    · exact hn h1
    · omega)).trans (h.block i hi hn)⟩
theorem ChgOnly.alloc {fp : List Nat} (w : World) (o : Obj) : ChgOnly fp w (w.alloc o) := .below ((Below.refl _ _).alloc (Nat.le_refl _) _) _
theorem ChgOnly.grown {w w' : World} {row : Option Nat} (h : w.grownBy w' row) : ChgOnly row.toList w w' :=
  ⟨h.os, h.tape, h.output, h.size, fun k hk hn => h.block k hk (fun e => hn (by rw [← e]; simp))⟩

theorem ownsRow_block {w w' : World} {base : Nat} {e : TypeId} {size : Nat} {v : Value} {n : Nat} {xs : List Value} (h : w.ownsRow base e size v n xs) (hb : ∀ g, v.ownBlock = some g → w'.heap[g]? = w.heap[g]?) : w'.ownsRow base e size v n xs := by
  refine ⟨h.1, ?_⟩
  rcases h.2 with h2 | ⟨g, cap, cur, rfl, hg, hh, r⟩
  · exact .inl h2
  · exact .inr ⟨g, cap, cur, rfl, hg, (hb g rfl).trans hh, r⟩

/-- The stack of a walk, the top first: the i-th from below is at most root less i. -/
def StOk (root : Int) : List Int → Prop
  | [] => True
  | x :: st => 0 ≤ x ∧ x + st.length ≤ root ∧ StOk root st
theorem StOk.len {root : Int} : ∀ {st : List Int}, StOk root st → 0 ≤ root → (st.length : Int) ≤ root + 1
  | [], _, h => by simp; omega
  | x :: st, ⟨h1, h2, h3⟩, _ => by simp; omega

/-- What is asked of the closure: J fp pre W: it has been called with the places of pre; its memory lies in the blocks fp. -/
structure OnSpec (P : Program) (gf : Nat) (caps : Array Value) (d : Int → Bool) (ns : List Nd) (J : List Nat → List Int → World → Prop) : Prop where
  lt : ∀ fp pre W, J fp pre W → ∀ b ∈ fp, b < W.heap.size
  keep : ∀ fp pre W W', J fp pre W → W.heap.size ≤ W'.heap.size → (∀ b ∈ fp, W'.heap[b]? = W.heap[b]?) → J fp pre W'
  call : ∀ fp pre W (x : Int), J fp pre W → 0 ≤ x → x < ns.length → pre.length < ns.length → Calls P gf (#[.int .i64 x, (nd ns x).val] ++ caps) W fun e W' =>
    ∃ fp', e = .returned (.bool (d x)) ∧ J fp' (pre ++ [x]) W' ∧ ChgOnly fp W W' ∧ ∀ b ∈ fp', b ∈ fp ∨ W.heap.size ≤ b

structure WSt (J : List Nat → List Int → World → Prop) (fp0 : List Nat) (root : Int) (E : TypeId) (w : World) (kd : Value) (st pre : List Int) (fp : List Nat) (wr : World) : Prop where
  own : wr.ownsRow w.heap.size E 1 kd st.length (st.reverse.map (.int .i64))
  j : J fp pre wr
  apart : ∀ g, kd.ownBlock = some g → g ∉ fp
  fpn : ∀ b ∈ fp, b ∈ fp0 ∨ w.heap.size ≤ b
  chg : ChgOnly fp0 w wr
  ok : StOk root st

section
variable {P : Program} {gf : Nat} {caps : Array Value} {d : Int → Bool} {ns : List Nd} {J : List Nat → List Int → World → Prop} {fp0 : List Nat} {root : Int} {E : TypeId} {w : World} {kd : Value} {st pre : List Int} {fp : List Nat} {wr : World}
theorem WSt.alloc (on : OnSpec P gf caps d ns J) (h : WSt J fp0 root E w kd st pre fp wr) (o : Obj) : WSt J fp0 root E w kd st pre fp (wr.alloc o) :=
  ⟨h.own.alloc o, on.keep _ _ _ _ h.j (by simp) (fun b hb => Below.heap_alloc _ _ _ (on.lt _ _ _ h.j b hb)), h.apart, h.fpn, h.chg.step (ChgOnly.alloc (fp := []) wr o) (by simp), h.ok⟩
theorem WSt.pop {g n c : Nat} {x : Int} (h : WSt J fp0 root E w (.slice (some ⟨g, 0, none⟩) (n + 1) c) (x :: st) pre fp wr) (hn : st.length = n) : WSt J fp0 root E w (.slice (some ⟨g, 0, none⟩) n c) st pre fp wr := by
  subst hn
  refine ⟨?_, h.j, h.apart, h.fpn, h.chg, h.ok.2.2⟩
  have ho := h.own
  rw [List.reverse_cons, List.map_append] at ho
  exact ownsRow_pop (by simp) ho
theorem WSt.push (on : OnSpec P gf caps d ns J) (h : WSt J fp0 root E w kd st pre fp wr) {k : Int} (hk : StOk root (k :: st)) (o : Obj) {v' : Value} {w' : World}
    (ho : w'.ownsRow w.heap.size E 1 v' (st.length + 1) (st.reverse.map (.int .i64) ++ [.int .i64 k])) (hg : (wr.alloc o).grownBy w' kd.ownBlock) (hl : v'.ownBlock = kd.ownBlock ∨ ∀ k, v'.ownBlock = some k → wr.heap.size + 1 ≤ k) :
    WSt J fp0 root E w v' (k :: st) pre fp w' := by
  have ha := h.alloc on o
  refine ⟨by rw [List.reverse_cons, List.map_append]; exact ho, on.keep _ _ _ _ ha.j hg.size (fun b hb => hg.block b (on.lt _ _ _ ha.j b hb) (fun e => h.apart b e.symm hb)), ?_, h.fpn, ?_, hk⟩
  · intro g hv hm
    rcases hl with e | e
    · exact h.apart g (e ▸ hv) hm
    · have h1 := e g hv
      have h2 := on.lt _ _ _ ha.j g hm
      rw [World.size_alloc] at h2
      omega
  · refine ha.chg.step (.grown hg) (fun x hx => .inr ?_)
    cases e : kd.ownBlock with
    | none => rw [e] at hx; simp at hx
    | some g => rw [e] at hx; simp at hx; subst hx; exact (h.own.lt _ e).1
theorem WSt.called (on : OnSpec P gf caps d ns J) (h : WSt J fp0 root E w kd st pre fp wr) {x : Int} {fp' : List Nat} {w' : World} (hj : J fp' (pre ++ [x]) w') (hc : ChgOnly fp wr w') (hf : ∀ b ∈ fp', b ∈ fp ∨ wr.heap.size ≤ b) :
    WSt J fp0 root E w kd st (pre ++ [x]) fp' w' := by
  refine ⟨ownsRow_block h.own (fun g hg => hc.block g (h.own.lt _ hg).2 (h.apart g hg)), hj, ?_, ?_, h.chg.step hc h.fpn, h.ok⟩
  · intro g hg hm
    rcases hf g hm with e | e
    · exact h.apart g hg e
    · have := (h.own.lt _ hg).2; omega
  · intro b hb
    rcases hf b hb with e | e
    · exact h.fpn b e
    · exact .inr (Nat.le_trans h.chg.size e)
end
end Go.Proofs.Ytmfkpjafeaidkaa
