/- A pool into which nodes are put, beside other blocks that stay as they are. -/
import Derived.Test.YtmfkpjafeaidkaaPuts
namespace Go.Proofs.Ytmfkpjafeaidkaa
open Go.RowKit
set_option linter.unusedVariables false

/-- A pool that has none of some blocks. -/
def PoolFar (base pb : Nat) (most : Int) (ns : List Nd) (B : List Nat) (w : World) : Prop := ∃ fp, PoolRep base pb most ns fp w ∧ ∀ b ∈ B, b ∉ fp ∧ b < w.heap.size
theorem PoolFar.later {base pb : Nat} {most : Int} {ns : List Nd} {B : List Nat} {w w' : World} (h : PoolFar base pb most ns B w) (hb : Below w.heap.size w w') : PoolFar base pb most ns B w' := by
  obtain ⟨fp, h, hB⟩ := h
  exact ⟨fp, h.later hb, fun b hm => ⟨(hB b hm).1, Nat.lt_of_lt_of_le (hB b hm).2 hb.size⟩⟩
theorem PoolFar.own {base pb : Nat} {most : Int} {ns : List Nd} {B : List Nat} {w : World} (h : PoolFar base pb most ns B w) : PoolOwn base pb most ns w := h.imp fun _ h => h.1
theorem PoolFar.sub {base pb : Nat} {most : Int} {ns : List Nd} {B B' : List Nat} {w : World} (h : PoolFar base pb most ns B w) (hs : ∀ b ∈ B', b ∈ B) : PoolFar base pb most ns B' w := h.imp fun _ h => ⟨h.1, fun b hb => h.2 b (hs b hb)⟩
theorem PoolOwn.farNil {base pb : Nat} {most : Int} {ns : List Nd} {w : World} (h : PoolOwn base pb most ns w) : PoolFar base pb most ns [] w := h.imp fun _ h => ⟨h, fun _ hb => absurd hb (List.not_mem_nil)⟩
/-- A block that is made now is none of the pool's. -/
theorem PoolFar.made {base pb : Nat} {most : Int} {ns : List Nd} {B : List Nat} {w w' : World} {g : Nat} (h : PoolFar base pb most ns B w) (hb : Below w.heap.size w w') (h0 : w.heap.size ≤ g) (hg : g < w'.heap.size) : PoolFar base pb most ns (g :: B) w' := by
  obtain ⟨fp, h, hB⟩ := h
  refine ⟨fp, h.later hb, fun b hm => ?_⟩
  rcases List.mem_cons.1 hm with rfl | hm
  · exact ⟨fun hf => by have := (h.lt _ hf).2; omega, hg⟩
  · exact ⟨(hB b hm).1, Nat.lt_of_lt_of_le (hB b hm).2 hb.size⟩
/-- A block below the base is none of the pool's. -/
theorem PoolFar.low {base pb : Nat} {most : Int} {ns : List Nd} {B : List Nat} {w : World} {g : Nat} (h : PoolFar base pb most ns B w) (hg : g < base) (hb : base ≤ w.heap.size) : PoolFar base pb most ns (g :: B) w := by
  obtain ⟨fp, h, hB⟩ := h
  refine ⟨fp, h, fun b hm => ?_⟩
  rcases List.mem_cons.1 hm with rfl | hm
  · exact ⟨fun hf => by have := (h.lt _ hf).1; omega, by omega⟩
  · exact hB b hm
theorem put_far {base pb : Nat} {most : Int} {ns : List Nd} {B : List Nat} (n : Nd) (w : World) (h : PoolFar base pb most ns B w) (hb : base ≤ w.heap.size) :
    Calls Try.prog 50 #[.pointer (some ⟨pb, 0, none⟩), n.val] w fun e w' => e = .returned (.tuple #[.int .i64 (putAt ns most n), .int .i64 (putErr ns most n)]) ∧ PoolFar base pb most (putNs ns most n) B w' ∧ Below base w w' ∧ ∀ b ∈ B, w'.heap[b]? = w.heap[b]? := by
  obtain ⟨fp, ⟨na, ka, nc, kc, rfl, hp⟩, hB⟩ := h
  refine (putObj_any n w hp).mono ?_
  rintro e w' ⟨fp', rfl, hr, hc, hf⟩
  refine ⟨rfl, ⟨fp', hr, fun b hm => ⟨fun h1 => ?_, Nat.lt_of_lt_of_le (hB b hm).2 hc.size⟩⟩, hc.toBelow (fun b hb => (hp.lt b hb).1) hb, fun b hm => hc.block b (hB b hm).2 (hB b hm).1⟩
  rcases hf b h1 with h2 | h2
  · exact (hB b hm).1 h2
  · have := (hB b hm).2; omega
end Go.Proofs.Ytmfkpjafeaidkaa
