/- The contract of stack.Leaves. -/
import Derived.Test.YtjpemijonjmcdaaStackLeaves
import Derived.Deep.QuietTactic
namespace Go.Proofs.Ytjpemijonjmcdaa
open Go.RowKit
set_option linter.unusedVariables false

theorem leaves1_spec (B s : Nat) (ns : List Nd) (from0 to0 : Int) (hlen : ns.length ≤ 2513169434907) :
    OnSpec Try.prog 46 #[.pointer (some ⟨s + 3, 0, none⟩), .pointer (some ⟨s, 0, none⟩), .pointer (some ⟨s + 1, 0, none⟩), .pointer (some ⟨s + 2, 0, none⟩)] (overB ns from0 to0) ns (LeavesJ B s ns from0 to0) := by
  refine ⟨?_, ?_, ?_⟩
  · rintro fp pre W ⟨a, c, rfl, hBs, h0, h1, h2, h3, hown, hne⟩ b hb
    rcases List.mem_append.1 hb with h | h
    · have := lt_of_block h3
      simp at h; omega
    · exact (hown.lt b (by simpa using h)).2
  · rintro fp pre W W' ⟨a, c, rfl, hBs, h0, h1, h2, h3, hown, hne⟩ _ hs
    exact ⟨a, c, rfl, hBs, (hs _ (by simp)).trans h0, (hs _ (by simp)).trans h1, (hs _ (by simp)).trans h2, (hs _ (by simp)).trans h3, ownsRow_block hown (fun g hg => hs g (List.mem_append_right _ (by simp [hg]))), hne⟩
  · intro fp pre W x hj _ _ hp
    cases hd : overB ns from0 to0 x
    · exact leaves1_no B s ns from0 to0 hlen fp pre W x hj hp hd
    · by_cases hk : (nd ns x).k = 1
      · exact leaves1_leaf B s ns from0 to0 hlen fp pre W x hj hp hd hk
      · exact leaves1_inner B s ns from0 to0 hlen fp pre W x hj hp hd hk

def LeavesPost (err : Int) (out : List Int) (n : Int) (w : World) (e : Ending) (w' : World) : Prop :=
  ∃ a c, e = .returned (.tuple #[.slice a out.length c, .int .i64 n, .int .i64 err]) ∧ w'.ownsRow w.heap.size 3 1 (.slice a out.length c) out.length (out.map (.int .i64)) ∧ Below w.heap.size w w'

set_option maxRecDepth 100000 in
set_option maxHeartbeats 1000000 in
theorem leaves_any (ns : List Nd) (ao : Option Addr) (cap : Nat) (root from0 to0 : Int) (w : World) (hrow : NdRow w ao ns) (hlen : ns.length ≤ 2513169434907) :
    Calls Try.prog 19 #[.slice ao ns.length cap, .int .i64 root, .int .i64 from0, .int .i64 to0] w (LeavesPost (walkErr ns root) (toldL ns from0 to0 (walkOut ns (overB ns from0 to0) root)) (walkOut ns (overB ns from0 to0) root).length w) := by
  have on : OnSpec Try.prog 46 #[.pointer (some ⟨w.heap.size + 1 + 1 + 1, 0, none⟩), .pointer (some ⟨w.heap.size, 0, none⟩), .pointer (some ⟨w.heap.size + 1, 0, none⟩), .pointer (some ⟨w.heap.size + 1 + 1, 0, none⟩)] (overB ns from0 to0) ns (LeavesJ w.heap.size w.heap.size ns from0 to0) := leaves1_spec w.heap.size w.heap.size ns from0 to0 hlen
  have hb : Below w.heap.size w ((((w.alloc (.cells #[.int .i64 from0] 3)).alloc (.cells #[.int .i64 to0] 3)).alloc (.cells #[.slice none 0 0] 25)).alloc (.cells #[.int .i64 0] 3)) :=
    ((((Below.refl _ w).alloc (Nat.le_refl _) _).alloc (by simp only [World.size_alloc]; omega) _).alloc (by simp only [World.size_alloc]; omega) _).alloc (by simp only [World.size_alloc]; omega) _
  have hN := hrow.later hb
  have n1 (v : World) (o : Obj) : (v.alloc o).heap[v.heap.size]? = some o := World.alloc_heap_new v o
  have hJ : LeavesJ w.heap.size w.heap.size ns from0 to0 [w.heap.size, w.heap.size + 1, w.heap.size + 2, w.heap.size + 3] [] ((((w.alloc (.cells #[.int .i64 from0] 3)).alloc (.cells #[.int .i64 to0] 3)).alloc (.cells #[.slice none 0 0] 25)).alloc (.cells #[.int .i64 0] 3)) := by
    refine ⟨none, 0, rfl, Nat.le_refl _, ?_, ?_, ?_, ?_, World.ownsRow_nil _ _ _ _, fun g h => by simp [Value.ownBlock] at h⟩
    · rw [Below.heap_alloc _ _ _ (by simp only [World.size_alloc]; omega), Below.heap_alloc _ _ _ (by simp only [World.size_alloc]; omega), Below.heap_alloc _ _ _ (by simp only [World.size_alloc]; omega)]; exact n1 _ _
    · rw [Below.heap_alloc _ _ _ (by simp only [World.size_alloc]; omega), Below.heap_alloc _ _ _ (by simp only [World.size_alloc]; omega)]
      have h := n1 (w.alloc (.cells #[.int .i64 from0] 3)) (.cells #[.int .i64 to0] 3)
      rw [World.size_alloc] at h; exact h
    · rw [Below.heap_alloc _ _ _ (by simp only [World.size_alloc]; omega)]
      have h := n1 ((w.alloc (.cells #[.int .i64 from0] 3)).alloc (.cells #[.int .i64 to0] 3)) (.cells #[.slice none 0 0] 25)
      rw [World.size_alloc, World.size_alloc] at h; exact h
    · have h := n1 (((w.alloc (.cells #[.int .i64 from0] 3)).alloc (.cells #[.int .i64 to0] 3)).alloc (.cells #[.slice none 0 0] 25)) (.cells #[.int .i64 0] 3)
      rw [World.size_alloc, World.size_alloc, World.size_alloc] at h; exact h
  have hA : ∀ a, ao = some a → ns ≠ [] → a.block ∉ [w.heap.size, w.heap.size + 1, w.heap.size + 2, w.heap.size + 3] := by
    intro a ha hns hm
    rcases hrow with h | ⟨b, off, e, h⟩
    · exact hns h
    · rw [e] at ha
      cases ha
      have h1 := h 0 (List.length_pos_iff.2 hns) 0 (by omega)
      have h2 : (ns.getD 0 Nd.zero).cells[0]? = some ((ns.getD 0 Nd.zero).cells[0]'(by simp [Nd.cells])) := Array.getElem?_eq_getElem _
      rw [h2] at h1
      have hlt : b < w.heap.size := World.block_lt_of_cell? _ _ h1
      simp only [List.mem_cons, List.not_mem_nil, or_false] at hm
      have hm' : b = w.heap.size ∨ b = w.heap.size + 1 ∨ b = w.heap.size + 2 ∨ b = w.heap.size + 3 := hm
      omega
  have HJ := Lib.hid hJ
  have HA := Lib.hid hA
  have HN := Lib.hid hN
  have HB := Lib.hid hb
  have HON := Lib.hid on
  clear hJ hA hN hb on n1 hrow
  go_enter Try.func19, Try.ntmps19
  go_wp2_with fail
  refine (walk_any ns ao cap root 46 _ (overB ns from0 to0) _ HON.out _ (enters_of Try.func46 (by kernel_rfl) rfl) _ HN.out hlen HJ.out HA.out).mono ?_
  rintro e w2 ⟨fp, rfl, ⟨a, c, _, _, h0, h1, h2, h3, hown, _⟩, hchg, _⟩
  have c2 : w2.cell? ⟨w.heap.size + 1 + 1, 0, none⟩ = _ := cell_of_one h2
  have c3 : w2.cell? ⟨w.heap.size + 1 + 1 + 1, 0, none⟩ = _ := cell_of_one h3
  have HO := Lib.hid hown
  have HC := Lib.hid (HB.out.trans (hchg.toBelow (B := w.heap.size) (by intro b hb; simp at hb; omega) (by simp only [World.size_alloc]; omega)))
  clear h0 h1 h2 h3 hown hchg
  go_wp2_with fail
  go_quiet (fail)
  go_wp2
  go_ret3
  exact ⟨a, c, rfl, HO.out, HC.out.trans ⟨rfl, rfl, rfl, Nat.le_refl _, fun _ _ => rfl⟩⟩
end Go.Proofs.Ytjpemijonjmcdaa
