/- The contracts of stack.All and of its closure. -/
import Derived.Test.YtjpemijonjmcdaaStackWalk
namespace Go.Proofs.Ytjpemijonjmcdaa
open Go.RowKit
set_option linter.unusedVariables false

theorem ChgOnly.setCell (w : World) (cb k : Nat) (v : Value) : ChgOnly [cb] w (w.setCell ⟨cb, k, none⟩ v) :=
  ⟨rfl, rfl, rfl, by simp, fun i _ hn => Below.heap_setCell _ _ _ _ (fun e => hn (by rw [e]; simp))⟩
/-- What the closure of All holds: the slice in its block, and the places that it was called with. -/
def AllJ (B cb : Nat) (fp : List Nat) (pre : List Int) (W : World) : Prop :=
  ∃ a c, fp = cb :: (Value.slice a pre.length c).ownBlock.toList ∧ B ≤ cb ∧ W.heap[cb]? = some (.cells #[.slice a pre.length c] 25 (0, 0)) ∧ W.ownsRow B 3 1 (.slice a pre.length c) pre.length (pre.map (.int .i64)) ∧ (∀ g, (Value.slice a pre.length c).ownBlock = some g → g ≠ cb)

set_option maxRecDepth 100000 in
set_option maxHeartbeats 1000000 in
theorem all1_call (B cb : Nat) (ns : List Nd) (hlen : ns.length ≤ 2513169434907) (fp : List Nat) (pre : List Int) (W : World) (x : Int) (hj : AllJ B cb fp pre W) (hp : pre.length < ns.length) (n : Nd) :
    Calls Try.prog 43 #[.int .i64 x, n.val, .pointer (some ⟨cb, 0, none⟩)] W fun e W' =>
      ∃ fp', e = .returned (.bool true) ∧ AllJ B cb fp' (pre ++ [x]) W' ∧ ChgOnly fp W W' ∧ ∀ b ∈ fp', b ∈ fp ∨ W.heap.size ≤ b := by
  obtain ⟨a, c, rfl, hBc, hcb, hown, hne⟩ := hj
  have hc := cell_of_one hcb
  have hf := free_of_one hcb
  have hlt : cb < W.heap.size := lt_of_block hcb
  have HO := Lib.hid hown
  have HB := Lib.hid hcb
  have HNE := Lib.hid hne
  clear hown hcb hne
  obtain ⟨i0, hi, hzz, hz1, hz2⟩ := info_parts infoInt
  have hone : ∀ k : Int, ∀ u ∈ [Value.int .i64 k], u.oneCell' = true := fun k u hu => by simp at hu; subst hu; rfl
  go_enter Try.func43, Try.ntmps43
  go_wp2_with (at_builtin; refine wpList_append_sharp _ rfl (.tmp 6) (.tmp 8) 25 rfl B 3 i0 (.int .i64 0) 1 8 Try.underlying25 hi hzz hz1 hz2 rfl (by decide) _ _ _ rfl ((HO.out.alloc _).alloc _) ⟨W.heap.size + 1, 0, none⟩ 1 1 [.int .i64 x] rfl rfl ?c1 (hone _) (by unfold maxLen; omega) (by omega) ?c5 ?_)
  case c1 => have h := cell_one_new (W.alloc (.cells #[.int .u8 n.k, .int .i64 n.l, .int .i64 n.r, .int .i64 n.f, .int .i64 n.t, .int .i64 n.a, .int .i64 n.i] 36)) (.int .i64 x) 3; rw [World.size_alloc] at h; exact h
  case c5 => simp only [World.size_alloc]; omega
  intro v' w3 ho hg hl
  obtain ⟨a', c', rfl⟩ : ∃ a' c', v' = .slice a' (pre.length + 1) c' := by
    rcases ho.2 with ⟨_, h⟩ | ⟨g, c, _, h, _⟩
    · omega
    · exact ⟨_, c, h⟩
  have hcb3 : w3.heap[cb]? = some (.cells #[.slice a pre.length c] 25 (0, 0)) := by
    rw [hg.block cb (by simp only [World.size_alloc]; omega) (fun e => HNE.out cb e.symm rfl), Below.heap_alloc _ _ _ (by simp only [World.size_alloc]; omega), Below.heap_alloc _ _ _ hlt]; exact HB.out
  have hc3 := cell_of_one hcb3
  have hf3 := free_of_one hcb3
  have HO3 := Lib.hid ho
  have HG3 := Lib.hid hg
  have HL3 := Lib.hid hl
  have HB3 := Lib.hid hcb3
  clear ho hg hl hcb3 hc hf
  go_wp2
  go_ret
  have hne' : ∀ g, (Value.slice a' (pre.length + 1) c').ownBlock = some g → g ≠ cb := by
    intro g hgg e
    subst e
    rcases HL3.out with h | h
    · exact HNE.out g (h ▸ hgg) rfl
    · have := h g hgg; omega
  refine ⟨cb :: (Value.slice a' (pre.length + 1) c').ownBlock.toList, rfl, ⟨a', c', by simp, hBc, ?_, ?_, by simpa using hne'⟩, ?_, ?_⟩
  · simpa using one_setCell HB3.out (u := .slice a' (pre.length + 1) c')
  · have h := ownsRow_setCell_other HO3.out (a := ⟨cb, 0, none⟩) (fun e => hne' cb e rfl) (.slice a' (pre.length + 1) c')
    simpa using h
  · refine ((ChgOnly.below (((Below.refl _ W).alloc (Nat.le_refl _) _).alloc (by simp) _) _).step (.grown HG3.out) (fun y hy => .inl (List.mem_cons_of_mem _ hy))).step (.setCell _ _ _ _) (fun y hy => .inl (by simp at hy; subst hy; simp))
  · intro b hb
    rcases List.mem_cons.1 hb with rfl | h
    · exact .inl (by simp)
    · simp only [Option.mem_toList] at h
      rcases HL3.out with e | e
      · rw [e] at h; exact .inl (List.mem_cons_of_mem _ (by simpa using h))
      · exact .inr (by have := e b h; omega)

theorem all1_spec (B cb : Nat) (ns : List Nd) (hlen : ns.length ≤ 2513169434907) : OnSpec Try.prog 43 #[.pointer (some ⟨cb, 0, none⟩)] (fun _ => true) ns (AllJ B cb) := by
  refine ⟨?_, ?_, ?_⟩
  · rintro fp pre W ⟨a, c, rfl, hBc, hcb, hown, hne⟩ b hb
    rcases List.mem_cons.1 hb with rfl | h
    · exact lt_of_block hcb
    · exact (hown.lt b (by simpa using h)).2
  · rintro fp pre W W' ⟨a, c, rfl, hBc, hcb, hown, hne⟩ _ hs
    exact ⟨a, c, rfl, hBc, (hs cb (by simp)).trans hcb, ownsRow_block hown (fun g hg => hs g (List.mem_cons_of_mem _ (by simp [hg]))), hne⟩
  · intro fp pre W x hj _ _ hp
    exact all1_call B cb ns hlen fp pre W x hj hp (nd ns x)

theorem walk_any (ns : List Nd) (ao : Option Addr) (cap : Nat) (root : Int) (gf : Nat) (caps : Array Value) (d : Int → Bool) (J : List Nat → List Int → World → Prop) (on : OnSpec Try.prog gf caps d ns J) (fp0 : List Nat)
    (heg : ∀ args w, (callFunc gf args).run Try.prog w = .ok (.enter gf args) w)
    (w : World) (hrow : NdRow w ao ns) (hlen : ns.length ≤ 2513169434907) (hj : J fp0 [] w) (hap : ∀ a, ao = some a → ns ≠ [] → a.block ∉ fp0) :
    Calls Try.prog 42 #[.slice ao ns.length cap, .int .i64 root, .func (.func gf) #[] caps] w (WalkPost J fp0 (walkErr ns root) (walkOut ns d root) w) := by
  by_cases hb : rightL [] ns = true ∧ 0 ≤ root ∧ root < ns.length
  · exact walk_good ns ao cap root gf caps d J on fp0 heg w hrow hlen hj (fun a ha => hap a ha (fun e => by rw [e] at hb; simp at hb; omega)) hb.1 hb.2.1 hb.2.2
  · exact walk_bad ns ao cap root gf caps d J on fp0 w hrow hlen hj hb

/-- What is told of places: a slice of the call's own, and an error. -/
def IntsPost (err : Int) (out : List Int) (w : World) (e : Ending) (w' : World) : Prop :=
  ∃ a c, e = .returned (.tuple #[.slice a out.length c, .int .i64 err]) ∧ w'.ownsRow w.heap.size 3 1 (.slice a out.length c) out.length (out.map (.int .i64)) ∧ Below w.heap.size w w'

set_option maxRecDepth 100000 in
set_option maxHeartbeats 1000000 in
theorem all_any (ns : List Nd) (ao : Option Addr) (cap : Nat) (root : Int) (w : World) (hrow : NdRow w ao ns) (hlen : ns.length ≤ 2513169434907) :
    Calls Try.prog 16 #[.slice ao ns.length cap, .int .i64 root] w (IntsPost (walkErr ns root) (walkOut ns (fun _ => true) root) w) := by
  have hN : NdRow (w.alloc (.cells #[.slice none 0 0] 25)) ao ns := hrow.later ((Below.refl _ _).alloc (Nat.le_refl _) _)
  have hJ : AllJ w.heap.size w.heap.size [w.heap.size] [] (w.alloc (.cells #[.slice none 0 0] 25)) := ⟨none, 0, rfl, Nat.le_refl _, World.alloc_heap_new w _, World.ownsRow_nil _ _ _ _, fun g h => by simp [Value.ownBlock] at h⟩
  have hA : ∀ a, ao = some a → ns ≠ [] → a.block ∉ [w.heap.size] := by
    intro a ha hns hm
    rcases hrow with h | ⟨b, off, e, h⟩
    · exact hns h
    · rw [e] at ha
      cases ha
      have h1 := h 0 (List.length_pos_iff.2 hns) 0 (by omega)
      have h2 : (ns.getD 0 Nd.zero).cells[0]? = some ((ns.getD 0 Nd.zero).cells[0]'(by simp [Nd.cells])) := Array.getElem?_eq_getElem _
      rw [h2] at h1
      have hlt : b < w.heap.size := World.block_lt_of_cell? _ _ h1
      simp only [List.mem_singleton] at hm
      exact absurd hm (Nat.ne_of_lt hlt)
  go_enter Try.func16, Try.ntmps16
  go_wp2_with fail
  refine (walk_any ns ao cap root 43 #[.pointer (some ⟨w.heap.size, 0, none⟩)] (fun _ => true) _ (all1_spec w.heap.size w.heap.size ns hlen) [w.heap.size] (enters_of Try.func43 (by kernel_rfl) rfl) _ hN hlen hJ hA).mono ?_
  rintro e w2 ⟨fp, rfl, ⟨a, c, _, _, hcb, hown, _⟩, hchg, _⟩
  have hc := cell_of_one hcb
  have HO := Lib.hid hown
  have HC := Lib.hid hchg
  clear hcb hown hchg hN hJ hA
  go_wp2
  go_ret2
  exact ⟨a, c, rfl, HO.out, ((Below.refl _ w).alloc (Nat.le_refl _) _).trans (HC.out.toBelow (by simp) (by simp))⟩
end Go.Proofs.Ytjpemijonjmcdaa
