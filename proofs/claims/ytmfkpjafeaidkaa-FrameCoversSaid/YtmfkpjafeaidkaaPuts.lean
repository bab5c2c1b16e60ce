/- A pool into which nodes are put, one by one. -/
import Derived.Test.YtmfkpjafeaidkaaPoolRoots
namespace Go.Proofs.Ytmfkpjafeaidkaa
open Go.RowKit
set_option linter.unusedVariables false

def puts (most : Int) (l : List Nd) : List Nd := l.foldl (fun ns n => putNs ns most n) []
theorem puts_snoc (most : Int) (l : List Nd) (n : Nd) : puts most (l ++ [n]) = putNs (puts most l) most n := by unfold puts; rw [List.foldl_append]; rfl
theorem puts_take (most : Int) (l : List Nd) (k : Nat) (h : k < l.length) : puts most (l.take (k + 1)) = putNs (puts most (l.take k)) most (l.getD k Nd.zero) := by rw [take_snoc' l k h, puts_snoc]
theorem putNs_len (ns : List Nd) (most : Int) (n : Nd) : (putNs ns most n).length ≤ ns.length + 1 := by unfold putNs; split <;> simp
theorem puts_len (most : Int) (l : List Nd) : (puts most l).length ≤ l.length := by
  refine snoc_ind (motive := fun l => (puts most l).length ≤ l.length) (by simp [puts]) (fun l a ih => ?_) l
  rw [puts_snoc]
  have := putNs_len (puts most l) most a
  simp; omega
/-- A pool whose blocks are all the call's own. -/
def PoolOwn (base pb : Nat) (most : Int) (ns : List Nd) (w : World) : Prop := ∃ fp, PoolRep base pb most ns fp w
theorem PoolOwn.later {base pb : Nat} {most : Int} {ns : List Nd} {w w' : World} (h : PoolOwn base pb most ns w) (hb : Below w.heap.size w w') : PoolOwn base pb most ns w' := h.imp fun _ h => h.later hb
/-- Put, of a pool whose blocks are all the call's own. -/
theorem put_own {base pb : Nat} {most : Int} {ns : List Nd} (n : Nd) (w : World) (h : PoolOwn base pb most ns w) (hb : base ≤ w.heap.size) :
    Calls Try.prog 50 #[.pointer (some ⟨pb, 0, none⟩), n.val] w fun e w' => e = .returned (.tuple #[.int .i64 (putAt ns most n), .int .i64 (putErr ns most n)]) ∧ PoolOwn base pb most (putNs ns most n) w' ∧ Below base w w' := by
  obtain ⟨fp, na, ka, nc, kc, rfl, hp⟩ := h
  refine (putObj_any n w hp).mono ?_
  rintro e w' ⟨fp', rfl, hr, hc, _⟩
  exact ⟨rfl, ⟨fp', hr⟩, hc.toBelow (fun b hb => (hp.lt b hb).1) hb⟩
theorem nodes_own {base pb : Nat} {most : Int} {ns : List Nd} (w : World) (h : PoolOwn base pb most ns w) : Calls Try.prog 43 #[.pointer (some ⟨pb, 0, none⟩)] w (NodesP ns w) := by
  obtain ⟨fp, na, ka, nc, kc, rfl, hp⟩ := h
  exact poolNodes_any w hp
theorem PoolOwn.right {base pb : Nat} {most : Int} {ns : List Nd} {w : World} (h : PoolOwn base pb most ns w) : rightL [] ns = true := by
  obtain ⟨fp, na, ka, nc, kc, rfl, hp⟩ := h
  exact hp.right
theorem PoolOwn.room {base pb : Nat} {most : Int} {ns : List Nd} {w : World} (h : PoolOwn base pb most ns w) : (ns.length : Int) ≤ most := by
  obtain ⟨fp, na, ka, nc, kc, rfl, hp⟩ := h
  exact hp.room
theorem PoolOwn.new (w : World) (most : Int) (h0 : 0 ≤ most) (h1 : most ≤ 68719476736) {base : Nat} (hb : base ≤ w.heap.size) : PoolOwn base w.heap.size most [] (w.alloc (newPool most)) := ⟨_, new_rep w most h0 h1 hb⟩
/-- A pool stands over a store elsewhere. -/
theorem PoolOwn.far {base pb : Nat} {most : Int} {ns : List Nd} {w w' : World} (h : PoolOwn base pb most ns w) {B : Nat} (hf : ∀ fp, PoolRep base pb most ns fp w → ∀ b ∈ fp, w'.heap[b]? = w.heap[b]?) : PoolOwn base pb most ns w' := by
  obtain ⟨fp, h⟩ := h
  exact ⟨fp, h.keep (hf fp h)⟩
end Go.Proofs.Ytmfkpjafeaidkaa
