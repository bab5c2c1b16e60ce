/- A pool in memory, and the contracts of pool.New, Len, Nodes, Get and of slices.Clone at nodes. -/
import Derived.Test.YtmfkpjafeaidkaaLowApart
import Derived.WalkSpells
namespace Go.Proofs.Ytmfkpjafeaidkaa
open Go.RowKit
set_option linter.unusedVariables false

/-- A pool of nodes: its own block, its nodes' and its marks'. -/
structure PoolIn (base pb : Nat) (most : Int) (ns : List Nd) (na ka : Option Addr) (nc kc : Nat) (w : World) : Prop where
  blk : w.heap[pb]? = some (.cells #[.int .i64 most, .slice na ns.length nc, .slice ka ns.length kc, .bool true] 102 (0, 0))
  ge : base ≤ pb
  nodes : w.ownsRow base 49 7 (.slice na ns.length nc) ns.length (flatN ns)
  kid : w.ownsRow base 4 1 (.slice ka ns.length kc) ns.length ((ksFrom [] ns).map .bool)
  nil : ns = [] → na = none
  pos : 0 ≤ most
  max : most ≤ 68719476736
  room : (ns.length : Int) ≤ most
  right : rightL [] ns = true

def addrB (a : Option Addr) : List Nat := (a.map (·.block)).toList
theorem ownBlock_map (a : Option Addr) (n c : Nat) : (Value.slice a n c).ownBlock = a.map (·.block) := by cases a <;> rfl
theorem mem_addrB {a : Option Addr} {b n c : Nat} : b ∈ addrB a ↔ (Value.slice a n c).ownBlock = some b := by
  rw [ownBlock_map]; unfold addrB; rw [Option.mem_toList]
/-- The blocks of a pool. -/
def poolFp (pb : Nat) (na ka : Option Addr) : List Nat := pb :: (addrB na ++ addrB ka)
def PoolRep (base pb : Nat) (most : Int) (ns : List Nd) (fp : List Nat) (w : World) : Prop := ∃ na ka nc kc, fp = poolFp pb na ka ∧ PoolIn base pb most ns na ka nc kc w

theorem own_of_other {w : World} {base : Nat} {e t : TypeId} {size n g : Nat} {v : Value} {xs : List Value} {cs : Array Value} {fr : Nat × Nat} (h : w.ownsRow base e size v n xs) (hg : w.heap[g]? = some (.cells cs t fr)) (hne : e ≠ t) : v.ownBlock ≠ some g := by
  rcases h.2 with ⟨rfl, _⟩ | ⟨g', cap, cur, rfl, _, hh, _⟩
  · simp [Value.ownBlock]
  · intro he
    have : g' = g := by simpa [Value.ownBlock] using he
    subst this
    rw [hh] at hg
    simp only [Option.some.injEq, Obj.cells.injEq] at hg
    exact hne hg.2.1
theorem own_apart {w : World} {base base' : Nat} {e t : TypeId} {size size' n n' : Nat} {v v' : Value} {xs xs' : List Value} (h : w.ownsRow base e size v n xs) (h' : w.ownsRow base' t size' v' n' xs') (hne : e ≠ t) : ∀ g, v.ownBlock = some g → v'.ownBlock ≠ some g := by
  intro g hg
  rcases h.2 with ⟨rfl, _⟩ | ⟨g', cap, cur, rfl, _, hh, _⟩
  · simp [Value.ownBlock] at hg
  · have : g' = g := by simpa [Value.ownBlock] using hg
    subst this
    exact own_of_other h' hh (Ne.symm hne)
section
variable {base pb nc kc : Nat} {most : Int} {ns : List Nd} {na ka : Option Addr} {w w' : World} {fp : List Nat}
theorem PoolIn.lt (h : PoolIn base pb most ns na ka nc kc w) : ∀ b ∈ poolFp pb na ka, base ≤ b ∧ b < w.heap.size := by
  intro b hb
  unfold poolFp at hb
  rcases List.mem_cons.1 hb with rfl | hb
  · exact ⟨h.ge, lt_of_block h.blk⟩
  · rcases List.mem_append.1 hb with hb | hb
    · exact h.nodes.lt b (mem_addrB.1 hb)
    · exact h.kid.lt b (mem_addrB.1 hb)
/-- Its blocks as they were: the pool as it was. -/
theorem PoolIn.keep (h : PoolIn base pb most ns na ka nc kc w) (hk : ∀ b ∈ poolFp pb na ka, w'.heap[b]? = w.heap[b]?) : PoolIn base pb most ns na ka nc kc w' :=
  ⟨(hk pb (by simp [poolFp])).trans h.blk, h.ge, ownsRow_block h.nodes (fun g hg => hk g (by unfold poolFp; exact List.mem_cons_of_mem _ (List.mem_append_left _ (mem_addrB.2 hg)))), ownsRow_block h.kid (fun g hg => hk g (by unfold poolFp; exact List.mem_cons_of_mem _ (List.mem_append_right _ (mem_addrB.2 hg)))), h.nil, h.pos, h.max, h.room, h.right⟩
theorem PoolIn.later (h : PoolIn base pb most ns na ka nc kc w) (hb : Below w.heap.size w w') : PoolIn base pb most ns na ka nc kc w' := h.keep fun b hm => hb.block b (h.lt b hm).2
theorem PoolRep.keep (h : PoolRep base pb most ns fp w) (hk : ∀ b ∈ fp, w'.heap[b]? = w.heap[b]?) : PoolRep base pb most ns fp w' := by
  obtain ⟨na, ka, nc, kc, rfl, h⟩ := h
  exact ⟨na, ka, nc, kc, rfl, h.keep hk⟩
theorem PoolRep.lt (h : PoolRep base pb most ns fp w) : ∀ b ∈ fp, base ≤ b ∧ b < w.heap.size := by
  obtain ⟨na, ka, nc, kc, rfl, h⟩ := h
  exact h.lt
theorem PoolRep.later (h : PoolRep base pb most ns fp w) (hb : Below w.heap.size w w') : PoolRep base pb most ns fp w' := h.keep fun b hm => hb.block b (h.lt b hm).2
theorem PoolIn.cells (h : PoolIn base pb most ns na ka nc kc w) : w.cell? ⟨pb, 0, none⟩ = some (.int .i64 most) ∧ w.cell? ⟨pb, 1, none⟩ = some (.slice na ns.length nc) ∧ w.cell? ⟨pb, 2, none⟩ = some (.slice ka ns.length kc) ∧ w.cell? ⟨pb, 3, none⟩ = some (.bool true) ∧ (∀ i, w.frozen? ⟨pb, i, none⟩ = false) :=
  ⟨cell_of_row w pb 0 _ _ _ h.blk, cell_of_row w pb 1 _ _ _ h.blk, cell_of_row w pb 2 _ _ _ h.blk, cell_of_row w pb 3 _ _ _ h.blk, fun i => by simp [World.frozen?, h.blk]⟩
theorem PoolIn.len (h : PoolIn base pb most ns na ka nc kc w) : ns.length ≤ 68719476736 := by have := h.room; have := h.max; omega
theorem PoolIn.row (h : PoolIn base pb most ns na ka nc kc w) : NdRow w na ns := row_of_nodes h.nodes rfl
end

/-- What New makes. -/
def newPool (most : Int) : Obj := .cells #[.int .i64 most, .slice none 0 0, .slice none 0 0, .bool true] 102
theorem new_rep (w : World) (most : Int) (h0 : 0 ≤ most) (h1 : most ≤ 68719476736) {base : Nat} (hb : base ≤ w.heap.size) : PoolRep base w.heap.size most [] [w.heap.size] (w.alloc (newPool most)) :=
  ⟨none, none, 0, 0, rfl, World.alloc_heap_new w _, hb, World.ownsRow_nil _ _ _ _, World.ownsRow_nil _ _ _ _, fun _ => rfl, h0, h1, h0, rfl⟩

set_option maxRecDepth 100000 in
set_option maxHeartbeats 1000000 in
theorem new_any (most : Int) (w : World) (h0 : 0 ≤ most) (h1 : most ≤ 68719476736) :
    Calls Try.prog 41 #[.int .i64 most] w fun e w' => e = .returned (.tuple #[.pointer (some ⟨w.heap.size, 0, none⟩), .int .i64 0]) ∧ w.alloc (newPool most) = w' := by
  go_enter Try.func41, Try.ntmps41
  go_wp2
  go_ret2
  exact ⟨rfl, rfl⟩
set_option maxRecDepth 100000 in
set_option maxHeartbeats 1000000 in
theorem new_bad (most : Int) (w : World) (h : most < 0 ∨ 68719476736 < most) :
    Calls Try.prog 41 #[.int .i64 most] w fun e w' => e = .returned (.tuple #[.pointer none, .int .i64 2]) ∧ w = w' := by
  rcases h with h | h
  · go_enter Try.func41, Try.ntmps41
    go_wp2
    go_ret2
    exact ⟨rfl, rfl⟩
  · have h' : 0 ≤ most := by omega
    go_enter Try.func41, Try.ntmps41
    go_wp2
    go_ret2
    exact ⟨rfl, rfl⟩

set_option maxRecDepth 100000 in
set_option maxHeartbeats 1000000 in
theorem clone_any (ns : List Nd) (ao : Option Addr) (cap : Nat) (w : World) (hrow : NdRow w ao ns) (hlen : ns.length ≤ 2513169434907) (hnil : ao = none → ns = []) :
    Calls Try.prog 51 #[.slice ao ns.length cap] w (NodesP ns w) := by
  cases ao with
  | none =>
    have HN := Lib.hid (hnil rfl)
    clear hnil hrow
    have heq := fun w : World => Lib.run_eql_slice_nil (P := Try.prog) w 27 49 none ns.length cap 0 0 Try.underlying27
    go_enter Try.func51, Try.ntmps51
    go_wp2
    go_ret
    rw [HN.out]
    exact ⟨none, 0, rfl, World.ownsRow_nil _ _ _ _, Below.refl _ _⟩
  | some ad =>
    have hR := hrow.reads.alloc (Nat.le_refl _) (.cells #[] 49)
    have HR := Lib.hid hR
    clear hR hrow hnil
    obtain ⟨i0, hi, hzz, hz1, hz2⟩ := info_parts infoNode
    have heq := fun w : World => Lib.run_eql_slice_nil (P := Try.prog) w 27 49 (some ad) ns.length cap 0 0 Try.underlying27
    go_enter Try.func51, Try.ntmps51
    go_wp2_with (at_builtin; refine wpList_append_any _ rfl (.tmp 5) (.tmp 6) 27 rfl w.heap.size 49 i0 (nodeV 0 0 0 0 0 0 0) 7 56 Try.underlying27 hi hzz hz1 hz2 rfl (by decide) _ _ _ rfl (own_zero w _ 7 (Nat.le_refl _)) _ _ _ _ _ rfl HR.out (flatN_one ns) (by unfold maxLen; omega) (by omega) (by simp) ?_)
    intro v2 w2 ho2 hg2 _
    obtain ⟨a2, k2, rfl⟩ := own_shape ho2
    have hb : Below w.heap.size w w2 := ((Below.refl _ w).alloc (Nat.le_refl _) _).grown hg2 (by simp) (fun r hr => by simp [Value.ownBlock] at hr; omega)
    have HB := Lib.hid hb
    have HO := Lib.hid ho2
    clear hb ho2 hg2
    go_wp2
    go_ret
    refine ⟨a2, k2, by simp, ?_, HB.out⟩
    have h := HO.out
    simpa using h
theorem PoolIn.none {base pb nc kc : Nat} {most : Int} {ns : List Nd} {na ka : Option Addr} {w : World} (h : PoolIn base pb most ns na ka nc kc w) : na = none → ns = [] := by
  intro e
  rcases h.nodes.2 with ⟨_, h2⟩ | ⟨g, _, _, hv, _⟩
  · exact List.eq_nil_of_length_eq_zero h2
  · simp only [Value.slice.injEq] at hv
    rw [e] at hv; cases hv.1

set_option maxRecDepth 100000 in
set_option maxHeartbeats 1000000 in
theorem poolNodes_any {base pb nc kc : Nat} {most : Int} {ns : List Nd} {na ka : Option Addr} (w : World) (h : PoolIn base pb most ns na ka nc kc w) :
    Calls Try.prog 43 #[.pointer (some ⟨pb, 0, none⟩)] w (NodesP ns w) := by
  obtain ⟨c0, c1, c2, c3, _⟩ := h.cells
  have H := Lib.hid h
  have hl := h.len
  clear h
  go_enter Try.func43, Try.ntmps43
  go_wp2_with fail
  refine (clone_any ns na nc _ H.out.row (by omega) H.out.none).mono ?_
  rintro e w2 ⟨a, c, rfl, ho, hb⟩
  have HO := Lib.hid ho
  have HB := Lib.hid hb
  clear ho hb
  go_wp2
  go_ret
  exact ⟨a, c, rfl, HO.out, HB.out⟩

def getNd (ns : List Nd) (i : Int) : Nd := if 0 ≤ i ∧ i < ns.length then nd ns i else Nd.zero
end Go.Proofs.Ytmfkpjafeaidkaa
