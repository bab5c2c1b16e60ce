/- The contracts of pool.kids and of its iterator: of a node its kids come, L ahead of R, -1 left out. -/
import Derived.Test.YtmfkpjafeaidkaaBase
import Derived.RangeFuncNested
import Derived.RangeFuncBound
import Derived.RangeFuncCalls
import Derived.RangeFuncLeaves
import Derived.Shelf.Abstract
import Derived.OwnWalkIn
import Derived.TacticsInMore
import Derived.LoopNIn
import Derived.LoopIn
namespace Go.Proofs.Ytmfkpjafeaidkaa
open Go.RowKit Go.Shelf
attribute [local go_sem] Oper.semAt_some
set_option linter.unusedVariables false

/-- A node by value. -/
abbrev nodeV (k l r f t a i : Int) : Value := .agg #[.int .u8 k, .int .i64 l, .int .i64 r, .int .i64 f, .int .i64 t, .int .i64 a, .int .i64 i]
/-- Its kids. -/
def kidsL (l r : Int) : List Int := (if l = -1 then [] else [l]) ++ (if r = -1 then [] else [r])
theorem kidsL_len (l r : Int) : (kidsL l r).length ≤ 2 := by unfold kidsL; split <;> split <;> simp

/-- A block that lies as it lay. -/
def KeepsBlock (b : Nat) (W W' : World) : Prop := ∀ i, W'.cell? ⟨b, i, none⟩ = W.cell? ⟨b, i, none⟩
theorem KeepsBlock.trans {b : Nat} {A B C : World} (h : KeepsBlock b A B) (k : KeepsBlock b B C) : KeepsBlock b A C := fun i => (k i).trans (h i)
theorem keepsBlock_put {b : Nat} {w : World} (hb : b < w.heap.size) (W : World) (l : Nat) (o o' : Obj) (hl : w.heap.size ≤ l) (h : W.heap[l]? = some o) (_ : o.isCells = false) (_ : o.isWalk = false) : KeepsBlock b W (W.putObj l o') :=
  fun i => ((Below.refl (l) W).grown (grownBy_putObj' W l o') (Nat.le_of_lt (Array.getElem?_eq_some_iff.1 h).1) (fun k e => by cases e; exact Nat.le_refl _)).cell (p := ⟨b, i, none⟩) (by show b < l; omega)

set_option maxHeartbeats 400000 in
theorem kids_any (k l r f t a i : Int) (w : World) :
    Calls Try.prog 38 #[nodeV k l r f t a i] w fun e w' => e = .returned (.func (.func 47) #[] #[.pointer (some ⟨w.heap.size, 0, none⟩)]) ∧ w.alloc (.cells #[.int .u8 k, .int .i64 l, .int .i64 r, .int .i64 f, .int .i64 t, .int .i64 a, .int .i64 i] 49) = w' := by
  go_enter Try.func38, Try.ntmps38
  go_wp2
  go_ret
  exact ⟨rfl, rfl⟩

set_option maxRecDepth 100000 in
set_option maxHeartbeats 1000000 in
theorem kids1_in (F : Fence) (n : Nat) (h56 : F.fn 47) (hro : F.round = none) (hn : 1 ≤ n) (l b : Nat) (L R : Int) (J Jx : List Int → World → Prop)
    (hY : ∀ pre x W, J pre W → pre ++ [x] <+: kidsL L R → YieldAt F (n - 1) Try.prog l #[.int .i64 x] W fun e W' =>
      (e = .returned (.bool true) ∧ J (pre ++ [x]) W' ∧ KeepsBlock b W W') ∨ (e = .returned (.bool false) ∧ Jx (pre ++ [x]) W'))
    (W : World) (hL : W.cell? ⟨b, 1, none⟩ = some (.int .i64 L)) (hR : W.cell? ⟨b, 2, none⟩ = some (.int .i64 R)) (h0 : J [] W) :
    CallsIn F n Try.prog 47 #[.func (.yield l) #[] #[], .pointer (some ⟨b, 0, none⟩)] W fun e W' => (∃ v, e = .returned v) ∧
      ((∃ ys, ys = kidsL L R ∧ J ys W') ∨ (∃ pre, pre <+: kidsL L R ∧ Jx pre W')) := by
  refine callsIn_of_wp Try.func47 rfl h56 ?_ hro
  simp only [Try.ntmps47, List.size_toArray, List.length_cons, List.length_nil, Nat.reduceAdd, Nat.reduceSub, Array.replicate_succ, Array.replicate_zero, List.push_toArray, List.append_toArray, List.nil_append, List.cons_append]
  by_cases eL : L = -1
  · have bL : (L != -1) = false := by simpa using eL
    by_cases eR : R = -1
    · have bR : (R != -1) = false := by simpa using eR
      have EK := Lib.hid (show kidsL L R = [] by unfold kidsL; rw [if_pos eL, if_pos eR]; rfl)
      clear eL eR
      gi_wp2
      refine ⟨fun _ h => (by cases h), ?_⟩
      gi_wp2
      go_end0
      exact ⟨⟨_, rfl⟩, .inl ⟨[], EK.out.symm, h0⟩⟩
    · have bR : (R != -1) = true := by simpa using eR
      have EK := Lib.hid (show kidsL L R = [R] by unfold kidsL; rw [if_pos eL, if_neg eR]; rfl)
      obtain ⟨fn, tmps, assign, body, hy, hR1⟩ := hY [] R W h0 (by rw [EK.out]; exact List.prefix_refl _)
      clear eL eR
      gi_wp2
      refine ⟨fun _ h => (by cases h), ?_⟩
      gi_wp2
      refine hR1.mono ?_
      rintro e W3 (⟨rfl, hJ3, hk3⟩ | ⟨rfl, hJx3⟩)
      · gi_wp2
        go_end0
        exact ⟨⟨_, rfl⟩, .inl ⟨[R], EK.out.symm, hJ3⟩⟩
      · gi_wp2
        go_end0
        exact ⟨⟨_, rfl⟩, .inr ⟨[R], by rw [EK.out]; exact List.prefix_refl _, hJx3⟩⟩
  · have bL : (L != -1) = true := by simpa using eL
    obtain ⟨fn, tmps, assign, body, hy, hR1⟩ := hY [] L W h0 (by unfold kidsL; rw [if_neg eL]; exact List.prefix_append _ _)
    gi_wp2
    refine hR1.mono ?_
    rintro e W3 (⟨rfl, hJ3, hk3⟩ | ⟨rfl, hJx3⟩)
    · have hR3 : W3.cell? ⟨b, 2, none⟩ = some (.int .i64 R) := (hk3 2).trans hR
      by_cases eR : R = -1
      · have bR : (R != -1) = false := by simpa using eR
        have EK := Lib.hid (show kidsL L R = [L] by unfold kidsL; rw [if_neg eL, if_pos eR]; rfl)
        clear eR hy
        gi_wp2
        go_end0
        exact ⟨⟨_, rfl⟩, .inl ⟨[L], EK.out.symm, hJ3⟩⟩
      · have bR : (R != -1) = true := by simpa using eR
        obtain ⟨fn', tmps', assign', body', hy', hR1'⟩ := hY [L] R W3 hJ3 (by unfold kidsL; rw [if_neg eL, if_neg eR]; exact List.prefix_refl _)
        have EK := Lib.hid (show kidsL L R = [L, R] by unfold kidsL; rw [if_neg eL, if_neg eR]; rfl)
        clear eR hy
        gi_wp2
        refine hR1'.mono ?_
        rintro e W4 (⟨rfl, hJ4, hk4⟩ | ⟨rfl, hJx4⟩)
        · gi_wp2
          go_end0
          exact ⟨⟨_, rfl⟩, .inl ⟨[L, R], EK.out.symm, hJ4⟩⟩
        · gi_wp2
          go_end0
          exact ⟨⟨_, rfl⟩, .inr ⟨[L, R], by rw [EK.out]; exact List.prefix_refl _, hJx4⟩⟩
    · gi_wp2
      refine bodyPost_ret (results_none rfl _ _ _) rfl ?_
      exact ⟨⟨_, rfl⟩, .inr ⟨[L], by unfold kidsL; rw [if_neg eL]; exact List.prefix_append _ _, hJx3⟩⟩

/-- The iterator's contract, over all numbers. -/
theorem kids_stops (F : Fence) (n : Nat) (h56 : F.fn 47) (hro : F.round = none) (hn : 1 ≤ n) (b : Nat) (L R : Int) (w : World) (hb : b < w.heap.size)
    (hL : w.cell? ⟨b, 1, none⟩ = some (.int .i64 L)) (hR : w.cell? ⟨b, 2, none⟩ = some (.int .i64 R)) :
    SeqStopsK F n Try.prog 47 #[.pointer (some ⟨b, 0, none⟩)] (fun x : Int => #[.int .i64 x]) (KeepsBlock b) (fun ys => ys = kidsL L R) (fun pre => pre <+: kidsL L R) 2 w := by
  intro l J Jx W hW _ _ hY h0
  refine (kids1_in F n h56 hro hn l b L R J Jx (fun pre x W hJ hp => hY pre x W hJ (by have := hp.length_le; have := kidsL_len L R; simp at *; omega)) W ((hW.cell (p := ⟨b, 1, none⟩) hb).trans hL) ((hW.cell (p := ⟨b, 2, none⟩) hb).trans hR) h0).mono ?_
  rintro e W' ⟨h1, ⟨ys, hys, hJ⟩ | ⟨pre, hp, hJ⟩⟩
  · exact ⟨h1, .inl ⟨ys, hys, hJ⟩⟩
  · exact ⟨h1, .inr ⟨pre, hp, hJ⟩⟩

/-- The iterator's contract, over the node's own kids: the round knows that it is handed one of them. -/
theorem kids_stops_mem (F : Fence) (n : Nat) (h56 : F.fn 47) (hro : F.round = none) (hn : 1 ≤ n) (b : Nat) (L R : Int) (w : World) (hb : b < w.heap.size)
    (hL : w.cell? ⟨b, 1, none⟩ = some (.int .i64 L)) (hR : w.cell? ⟨b, 2, none⟩ = some (.int .i64 R)) :
    SeqStopsK F n Try.prog 47 #[.pointer (some ⟨b, 0, none⟩)] (fun x : { x : Int // x ∈ kidsL L R } => #[.int .i64 x.1]) (KeepsBlock b) (fun ys => ys.map (·.1) = kidsL L R) (fun pre => pre.map (·.1) <+: kidsL L R) 2 w := by
  intro l J Jx W hW _ _ hY h0
  refine (kids1_in F n h56 hro hn l b L R (fun pre W => ∃ q : List { x : Int // x ∈ kidsL L R }, q.map (·.1) = pre ∧ J q W) (fun pre W => ∃ q : List { x : Int // x ∈ kidsL L R }, q.map (·.1) = pre ∧ Jx q W) ?_ W ((hW.cell (p := ⟨b, 1, none⟩) hb).trans hL) ((hW.cell (p := ⟨b, 2, none⟩) hb).trans hR) ⟨[], rfl, h0⟩).mono ?_
  · rintro pre x W1 ⟨q, rfl, hq⟩ hp
    have hx : x ∈ kidsL L R := hp.subset (by simp)
    obtain ⟨fn, tmps, assign, body, hy, hR⟩ := hY q ⟨x, hx⟩ W1 hq (by have := hp.length_le; have := kidsL_len L R; simp at *; omega)
    refine ⟨fn, tmps, assign, body, hy, hR.mono ?_⟩
    rintro e W' (⟨h1, h2, h3⟩ | ⟨h1, h2⟩)
    · exact .inl ⟨h1, ⟨q ++ [⟨x, hx⟩], by simp, h2⟩, h3⟩
    · exact .inr ⟨h1, ⟨q ++ [⟨x, hx⟩], by simp, h2⟩⟩
  · rintro e W' ⟨h1, ⟨ys, hys, q, hq, hJ⟩ | ⟨pre, hp, q, hq, hJ⟩⟩
    · exact ⟨h1, .inl ⟨q, hq.trans hys, hJ⟩⟩
    · exact ⟨h1, .inr ⟨q, (by rw [← hq] at hp; exact hp), hJ⟩⟩
end Go.Proofs.Ytmfkpjafeaidkaa
