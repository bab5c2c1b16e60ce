/- The contract of stack.walk: of right nodes the closure is called with the places that a walk enters, in its order. -/
import Derived.Test.YtmfkpjafeaidkaaWalkSt
import Derived.Test.YtmfkpjafeaidkaaPoolRight
import Derived.Deep.LoopGhost
namespace Go.Proofs.Ytmfkpjafeaidkaa
open Go.RowKit
set_option linter.unusedVariables false

/-- What a walk answers. -/
def walkErr (ns : List Nd) (root : Int) : Int := if rightL [] ns = true then (if 0 ≤ root ∧ root < ns.length then 0 else 2) else 50
def walkOut (ns : List Nd) (d : Int → Bool) (root : Int) : List Int := if rightL [] ns = true ∧ 0 ≤ root ∧ root < ns.length then ent ns d root else []
def WalkPost (J : List Nat → List Int → World → Prop) (fp0 : List Nat) (err : Int) (out : List Int) (w : World) (e : Ending) (w' : World) : Prop :=
  ∃ fp, e = .returned (.int .i64 err) ∧ J fp out w' ∧ ChgOnly fp0 w w' ∧ ∀ b ∈ fp, b ∈ fp0 ∨ w.heap.size ≤ b
theorem NdRow.chg {w w' : World} {ao : Option Addr} {ns : List Nd} {fp : List Nat} (h : NdRow w ao ns) (hc : ChgOnly fp w w') (ha : ∀ a, ao = some a → a.block ∉ fp) : NdRow w' ao ns := by
  rcases h with h | ⟨b, off, rfl, h⟩
  · exact .inl h
  · refine .inr ⟨b, off, rfl, fun i hi j hj => ?_⟩
    have h1 := h i hi j hj
    have h2 : (ns.getD i Nd.zero).cells[j]? = some ((ns.getD i Nd.zero).cells[j]'(by simpa [Nd.cells] using hj)) := Array.getElem?_eq_getElem _
    rw [h2] at h1 ⊢
    exact (World.cell?_of_block (w := w) (hc.block b (World.block_lt_of_cell? _ _ h1) (ha _ rfl))).trans h1
/-- The seven cells of a node. -/
theorem NdRow.node {w : World} {ao : Option Addr} {ns : List Nd} (h : NdRow w ao ns) (k : Nat) (hk : k < ns.length) : ∃ b off, ao = some ⟨b, off, none⟩ ∧
    w.cell? ⟨b, off + k * 7, none⟩ = some (.int .u8 (ns.getD k Nd.zero).k) ∧ w.cell? ⟨b, off + k * 7 + 1, none⟩ = some (.int .i64 (ns.getD k Nd.zero).l) ∧ w.cell? ⟨b, off + k * 7 + 2, none⟩ = some (.int .i64 (ns.getD k Nd.zero).r) ∧
    w.cell? ⟨b, off + k * 7 + 3, none⟩ = some (.int .i64 (ns.getD k Nd.zero).f) ∧ w.cell? ⟨b, off + k * 7 + 4, none⟩ = some (.int .i64 (ns.getD k Nd.zero).t) ∧ w.cell? ⟨b, off + k * 7 + 5, none⟩ = some (.int .i64 (ns.getD k Nd.zero).a) ∧ w.cell? ⟨b, off + k * 7 + 6, none⟩ = some (.int .i64 (ns.getD k Nd.zero).i) := by
  rcases h with h | ⟨b, off, e, hc⟩
  · subst h; simp at hk
  · exact ⟨b, off, e, hc k hk 0 (by omega), hc k hk 1 (by omega), hc k hk 2 (by omega), hc k hk 3 (by omega), hc k hk 4 (by omega), hc k hk 5 (by omega), hc k hk 6 (by omega)⟩
theorem infoInt : (Try.prog.info? 3).map (fun i => (i.zero, i.size, i.bytes)) = some (some (.int .i64 0), 1, 8) := by kernel_rfl

end Go.Proofs.Ytmfkpjafeaidkaa
