/- slices.Backward over a row of numbers of 64 bits: the iterator and its contract. -/
import Derived.Test.YtokpgopdkimmmaaGreatDoorTextLaw
import Derived.RangeFuncNested
import Derived.RangeFuncBound
import Derived.RangeFuncCalls
import Derived.RangeFuncLeaves
import Derived.Shelf.Abstract
import Derived.OwnWalkIn
import Derived.TacticsInMore
import Derived.LoopNIn
import Derived.LoopIn
namespace Go.Proofs.YtokpgopdkimmmaaGreatDoor
open Go.RowKit Go.Shelf
attribute [local go_sem] Oper.semAt_some
set_option linter.unusedVariables false

/-- What a round is handed: a place, a piece. -/
abbrev Pce := { p : Int × Nat // p.2 < Pc }
abbrev pceV (p : Pce) : Array Value := #[.int .i64 p.1.1, .int .u64 ((p.1.2 : Nat) : Int)]
/-- Two blocks that lie as they lay. -/
def KeepsTwo (b g : Nat) (W W' : World) : Prop := (∀ i, W'.cell? ⟨b, i, none⟩ = W.cell? ⟨b, i, none⟩) ∧ (∀ i, W'.cell? ⟨g, i, none⟩ = W.cell? ⟨g, i, none⟩)
theorem KeepsTwo.refl (b g : Nat) (A : World) : KeepsTwo b g A A := ⟨fun _ => rfl, fun _ => rfl⟩
theorem KeepsTwo.trans {b g : Nat} {A B C : World} (h : KeepsTwo b g A B) (k : KeepsTwo b g B C) : KeepsTwo b g A C := ⟨fun i => (k.1 i).trans (h.1 i), fun i => (k.2 i).trans (h.2 i)⟩
theorem keepsTwo_put {b g : Nat} {w : World} (hb : b < w.heap.size) (hg : g < w.heap.size) (W : World) (l : Nat) (o o' : Obj) (hl : w.heap.size ≤ l) (h : W.heap[l]? = some o) (_ : o.isCells = false) (_ : o.isWalk = false) : KeepsTwo b g W (W.putObj l o') :=
  have k := (Below.refl (l) W).grown (grownBy_putObj' W l o') (Nat.le_of_lt (Array.getElem?_eq_some_iff.1 h).1) (fun k e => by cases e; exact Nat.le_refl _)
  ⟨fun i => k.cell (p := ⟨b, i, none⟩) (by show b < l; omega), fun i => k.cell (p := ⟨g, i, none⟩) (by show g < l; omega)⟩

set_option maxHeartbeats 400000 in
theorem back_any (a : Option Addr) (n c : Nat) (w : World) :
    Calls Tryz.prog 81 #[.slice a n c] w fun e w' => e = .returned (.func (.func 131) #[] #[.pointer (some ⟨w.heap.size, 0, none⟩)]) ∧ w.alloc (.cells #[.slice a n c] 135) = w' := by
  go_enter Tryz.func81, Tryz.ntmps81
  go_wp2
  go_ret
  exact ⟨rfl, rfl⟩

theorem rev_get (ls : List Nat) (k : Nat) (h : k < ls.length) : ls[ls.length - 1 - k]? = some (ls.reverse[k]'(by simpa using h)) := by
  rw [List.getElem_reverse, List.getElem?_eq_getElem (by omega)]
theorem rev_take (ls : List Nat) (k : Nat) (h : k < ls.length) : ls.reverse.take (k + 1) = ls.reverse.take k ++ [ls.reverse[k]'(by simpa using h)] := by
  rw [List.take_add_one, List.getElem?_eq_getElem (by simpa using h)]; rfl

set_option maxRecDepth 100000 in
set_option maxHeartbeats 2000000 in
theorem back1_in (F : Fence) (n : Nat) (h76 : F.fn 131) (hro : F.round = none) (hn : 1 ≤ n) (l b g : Nat) (ao : Option Addr) (cap : Nat) (ls : List Nat) (hls : ∀ x ∈ ls, x < Pc) (hlen : ls.length ≤ 3) (hao : ls ≠ [] → ao = some ⟨g, 0, none⟩)
    (J Jx : List Pce → World → Prop)
    (hY : ∀ pre x W, J pre W → pre.length < ls.length → YieldAt F (n - 1) Tryz.prog l (pceV x) W fun e W' =>
      (e = .returned (.bool true) ∧ J (pre ++ [x]) W' ∧ KeepsTwo b g W W') ∨ (e = .returned (.bool false) ∧ Jx (pre ++ [x]) W'))
    (W : World) (hb : W.cell? ⟨b, 0, none⟩ = some (.slice ao ls.length cap)) (hc : ∀ j x, ls[j]? = some x → W.cell? ⟨g, j, none⟩ = some (.int .u64 ((x : Nat) : Int))) (h0 : J [] W) :
    CallsIn F n Tryz.prog 131 #[.func (.yield l) #[] #[], .pointer (some ⟨b, 0, none⟩)] W fun e W' => (∃ v, e = .returned v) ∧
      ((∃ ys : List Pce, ys.map (fun p => p.1.2) = ls.reverse ∧ J ys W') ∨ (∃ pre, Jx pre W')) := by
  refine callsIn_of_wp Tryz.func131 rfl h76 ?_ hro
  simp only [Tryz.ntmps131, List.size_toArray, List.length_cons, List.length_nil, Nat.reduceAdd, Nat.reduceSub, Array.replicate_succ, Array.replicate_zero, List.push_toArray, List.append_toArray, List.nil_append, List.cons_append]
  have HC := Lib.hid hc
  clear hc
  gi_wp2
  gi_loopw [3] (fun i wr => ∃ (k : Nat) (pre : List Pce), k ≤ ls.length ∧ i = .int .i64 ((ls.length : Int) - k - 1) ∧ Hid (pre.map (fun p => p.1.2) = ls.reverse.take k) ∧ J pre wr ∧ KeepsTwo b g W wr)
    (fun i _ => (intOf i + 1).toNat)
  case atStart => exact ⟨0, [], Nat.zero_le _, by simp, Lib.hid rfl, h0, KeepsTwo.refl _ _ _⟩
  case round =>
    obtain ⟨k, pre, hk, rfl, HP, hJs, hkp⟩ := hrel
    have hb' := (hkp.1 0).trans hb
    by_cases hlt : k < ls.length
    · have hpl : pre.length = k := by
        have := congrArg List.length HP.out
        simp at this; omega
      have hne : ls ≠ [] := by intro e; rw [e] at hlt; simp at hlt
      obtain rfl := hao hne
      obtain ⟨x, hx⟩ : ∃ x, ls.reverse[k]'(by simpa using hlt) = x := ⟨_, rfl⟩
      have hg := rev_get ls k hlt
      have ht := rev_take ls k hlt
      rw [hx] at hg ht
      have hxl : x < Pc := hls x (List.mem_of_getElem? hg)
      obtain ⟨j, hj⟩ : ∃ j : Nat, ls.length - 1 - k = j := ⟨_, rfl⟩
      have hji : ((ls.length : Int) - k - 1) = (j : Int) := by omega
      have hjl : j < ls.length := by omega
      rw [hj] at hg
      have hcx := (hkp.2 j).trans (HC.out j x hg)
      obtain ⟨fn, tmps, assign, body, hy, hR⟩ := hY pre ⟨((j : Int), x), hxl⟩ wr hJs (by omega)
      dsimp only [pceV] at hy
      rw [hji]
      have HT := Lib.hid (show (pre ++ [⟨((j : Int), x), hxl⟩] : List Pce).map (fun p => p.1.2) = ls.reverse.take (k + 1) by
        rw [ht, ← HP.out]; simp)
      clear hg ht hx hne
      gi_wp2
      refine hR.mono ?_
      rintro e W3 (⟨rfl, hJ3, hk3⟩ | ⟨rfl, hJx3⟩)
      · gi_wp2
        go_roundw
        case rel => exact ⟨k + 1, _, by omega, by simp; omega, HT, hJ3, hkp.trans hk3⟩
        case measure => simp [intOf]
      · gi_wp2
        refine bodyPost_ret (results_none rfl _ _ _) rfl ?_
        exact ⟨⟨_, rfl⟩, .inr ⟨_, hJx3⟩⟩
    · obtain rfl : k = ls.length := by omega
      have HT := HP.out
      rw [List.take_of_length_le (by simp)] at HT
      have e : (ls.length : Int) - ls.length - 1 = -1 := by omega
      rw [e]
      gi_wp2
      go_end0
      exact ⟨⟨_, rfl⟩, .inl ⟨_, HT, hJs⟩⟩

/-- The iterator's contract. -/
theorem back_stops (F : Fence) (n : Nat) (h76 : F.fn 131) (hro : F.round = none) (hn : 1 ≤ n) (b g : Nat) (ao : Option Addr) (cap : Nat) (ls : List Nat) (hls : ∀ x ∈ ls, x < Pc) (hlen : ls.length ≤ 3) (hao : ls ≠ [] → ao = some ⟨g, 0, none⟩) (w : World)
    (hbl : b < w.heap.size) (hgl : g < w.heap.size) (hb : w.cell? ⟨b, 0, none⟩ = some (.slice ao ls.length cap)) (hc : ∀ j x, ls[j]? = some x → w.cell? ⟨g, j, none⟩ = some (.int .u64 ((x : Nat) : Int))) :
    SeqStopsK F n Tryz.prog 131 #[.pointer (some ⟨b, 0, none⟩)] pceV (KeepsTwo b g) (fun ys => ys.map (fun p => p.1.2) = ls.reverse) (fun _ => True) ls.length w := by
  intro l J Jx W hW _ _ hY h0
  refine (back1_in F n h76 hro hn l b g ao cap ls hls hlen hao J Jx (fun pre x W hJ hp => hY pre x W hJ hp) W ((hW.cell (p := ⟨b, 0, none⟩) hbl).trans hb) (fun j x hj => (hW.cell (p := ⟨g, j, none⟩) hgl).trans (hc j x hj)) h0).mono ?_
  rintro e W' ⟨h1, ⟨ys, hys, hJ⟩ | ⟨pre, hJ⟩⟩
  · exact ⟨h1, .inl ⟨ys, hys, hJ⟩⟩
  · exact ⟨h1, .inr ⟨pre, trivial, hJ⟩⟩
end Go.Proofs.YtokpgopdkimmmaaGreatDoor
