/- A watch to which points are told: move. -/
import Derived.Test.YtplbglcdmimdoaaDoorBound
import Derived.Test.YtplbglcdmimdoaaDoorOpsLine
namespace Go.Proofs.YtplbglcdmimdoaaDoor
open Go.RowKit
set_option linter.unusedVariables false
set_option linter.unusedSimpArgs false

/-- A watch to which points alone were told: how many, how often, how many were placed, how often that was bad. -/
def watchC (n m p bad : Int) : Array Value := #[.bool true, .int .i64 0, .int .i64 0, .int .i64 0, .int .i64 n, .int .i64 m, .int .i64 p, .int .i64 0, .int .i64 0, .int .i64 0, .int .i64 0, .int .i64 0, .int .i64 0, .int .i64 bad]
def WatchIs (b : Nat) (n m p bad : Int) (w : World) : Prop := w.heap[b]? = some (.cells (watchC n m p bad) 43 (0, 0))
theorem WatchIs.lt {b : Nat} {n m p bad : Int} {w : World} (h : WatchIs b n m p bad w) : b < w.heap.size := (Array.getElem?_eq_some_iff.1 h).1
theorem WatchIs.later {b : Nat} {n m p bad : Int} {w w' : World} (h : WatchIs b n m p bad w) (hb : Below w.heap.size w w') : WatchIs b n m p bad w' := (hb.block b h.lt).trans h
theorem WatchIs.cell {b : Nat} {n m p bad : Int} {w : World} (h : WatchIs b n m p bad w) (i : Nat) : w.cell? ⟨b, i, none⟩ = (watchC n m p bad)[i]? := by
  simp [World.cell?, show w.heap[b]? = _ from h]
theorem WatchIs.frozen {b : Nat} {n m p bad : Int} {w : World} (h : WatchIs b n m p bad w) (i : Nat) : w.frozen? ⟨b, i, none⟩ = false := by
  simp [World.frozen?, show w.heap[b]? = _ from h]

/-- One block alone has turned, and new ones have come. -/
structure Only (b : Nat) (w w' : World) : Prop where
  os : w'.os = w.os
  tape : w'.tape = w.tape
  output : w'.output = w.output
  size : w.heap.size ≤ w'.heap.size
  block : ∀ k, k < w.heap.size → k ≠ b → w'.heap[k]? = w.heap[k]?
theorem Only.of {b : Nat} {w w' : World} (h : Below w.heap.size w w') : Only b w w' := ⟨h.os, h.tape, h.output, h.size, fun k hk _ => h.block k hk⟩
theorem Only.set (b i : Nat) (v : Value) (w : World) : Only b w (w.setCell ⟨b, i, none⟩ v) := ⟨rfl, rfl, rfl, by simp, fun k _ hn => Below.heap_setCell _ _ _ _ hn⟩
theorem Only.trans {b : Nat} {w w' w'' : World} (h : Only b w w') (k : Only b w' w'') : Only b w w'' :=
  ⟨k.os.trans h.os, k.tape.trans h.tape, k.output.trans h.output, Nat.le_trans h.size k.size, fun j hj hn => (k.block j (Nat.lt_of_lt_of_le hj h.size) hn).trans (h.block j hj hn)⟩
theorem Only.below {b B : Nat} {w0 w w' : World} (hb : Below B w0 w) (h : Only b w w') (h1 : B ≤ b) (h2 : B ≤ w.heap.size) : Below B w0 w' :=
  ⟨h.os.trans hb.os, h.tape.trans hb.tape, h.output.trans hb.output, Nat.le_trans hb.size h.size, fun k hk => (h.block k (by omega) (by omega)).trans (hb.block k hk)⟩
theorem Only.cell {b : Nat} {w w' : World} (h : Only b w w') (k i : Nat) (hk : k < w.heap.size) (hn : k ≠ b) : w'.cell? ⟨k, i, none⟩ = w.cell? ⟨k, i, none⟩ := by
  simp [World.cell?, h.block k hk hn]
theorem same_quiet {P : Program} {f : FuncId} {args : Array Value} {v : Value} {W : World} {s : Since W} (h : Calls P f args s.w fun e w' => e = .returned v ∧ s.w = w') :
    Calls P f args s.w fun e w' => e = .returned v ∧ ∃ s' : Since W, w' = s'.w :=
  h.mono fun _ w' ⟨he, hb⟩ => ⟨he, ⟨s, hb.symm⟩⟩
theorem watch_set {b : Nat} {n m p bad : Int} {w : World} (h : WatchIs b n m p bad w) (i : Nat) (v : Value) {n' m' p' bad' : Int} (hv : (watchC n m p bad).setIfInBounds i v = watchC n' m' p' bad') : WatchIs b n' m' p' bad' (w.setCell ⟨b, i, none⟩ v) := by
  unfold WatchIs at *
  rw [← hv]
  simp [World.setCell, Array.getElem?_modify, h]

theorem two_new {w V : World} (h : V.heap.size = w.heap.size) (A B : Array Value) (ta tb : TypeId) (j : Nat) :
    ((V.alloc (.cells A ta)).alloc (.cells B tb)).drew.cell? ⟨w.heap.size + 1, j, none⟩ = B[j]? ∧ ((V.alloc (.cells A ta)).alloc (.cells B tb)).drew.cell? ⟨w.heap.size, j, none⟩ = A[j]? := by
  have e : (V.alloc (.cells A ta)).heap.size = w.heap.size + 1 := by simp [h]
  refine ⟨?_, ?_⟩
  · rw [World.cell?_drew, ← e, cells_at]
  · rw [World.cell?_drew, cells_past _ _ _ _ (by omega), ← h, cells_at]

set_option maxRecDepth 100000 in
set_option maxHeartbeats 2000000 in
theorem move_any (b : Nat) (k : Nat) (hk : k = 0 ∨ k = 1) (w : World) (h : WatchIs b k k k 0 w) : Calls Tryd.prog 46 #[.pointer (some ⟨b, 0, none⟩), .int .i64 1, .int .i64 1, .agg #[.int .i64 0, .slice none 0 0, .int .i64 1, .bool false, .int .u64 0, .int .u64 0], .agg #[.int .i64 0, .int .i64 1]] w fun e w' =>
    e = .returned (.bool (decide (k = 0))) ∧ WatchIs b (k + 1) (k + 1) (k + 1) 0 w' ∧ Only b w w' := by
  have H := Lib.hid h
  have hlt := h.lt
  have c4 := h.cell 4
  have c5 := h.cell 5
  have c6 := h.cell 6
  have f4 := h.frozen 4
  have f5 := h.frozen 5
  have f6 := h.frozen 6
  simp only [watchC] at c4 c5 c6
  clear h
  have s0 : ((sumN 0 1 : Nat) : Int) = 1 ∧ ((sumN 1 1 : Nat) : Int) = 2 := by decide
  have S := Lib.hid s0
  have P := Lib.hid (show ((placedN 1 : Nat) : Int) = 160 ∧ ((placedN 2 : Nat) : Int) = 288 by decide)
  have HPL := Lib.hid (fun w => by have h := placed_nat 1 w (by omega); rw [P.out.1] at h; exact h)
  clear s0
  rcases hk with rfl | rfl
  · go_enter Tryd.func46, Tryd.ntmps46
    go_wp2_with fail
    go_cut [32] (fun _ wc => Hid (WatchIs b 1 1 1 0 wc) ∧ wc.cell? ⟨w.heap.size + 1, 0, none⟩ = some (.int .i64 0) ∧ wc.cell? ⟨w.heap.size, 2, none⟩ = some (.int .i64 1) ∧ w.heap.size + 1 < wc.heap.size ∧ Hid (Only b w wc))
    case first =>
      go_region_with (go_at_call 39; refine (sum_any 0 1 _ (by omega) (by omega)).mono ?_; rw [S.out.1]; rintro e w' ⟨rfl, rfl⟩)
      all_goals
        go_wp2_with fail
        go_meet
        case rel =>
          refine ⟨Lib.hid ?_, (two_new (by simp) _ _ _ _ 0).1, (two_new (by simp) _ _ _ _ 2).2, by simp, Lib.hid ?_⟩
          · have h1 := watch_set (watch_set (watch_set H.out 4 (.int .i64 1) (n' := 1) (m' := 0) (p' := 0) (bad' := 0) rfl) 5 (.int .i64 1) (n' := 1) (m' := 1) (p' := 0) (bad' := 0) rfl) 6 (.int .i64 1) (n' := 1) (m' := 1) (p' := 1) (bad' := 0) rfl
            exact (h1.later ((Below.refl _ _).alloc (Nat.le_refl _) _)).later (((Below.refl _ _).alloc (Nat.le_refl _) _).drew)
          · exact ((((Only.set b 4 _ w).trans (Only.set b 5 _ _)).trans (Only.set b 6 _ _)).trans (Only.of ((Below.refl _ _).alloc (Nat.le_refl _) _))).trans (Only.of (((Below.refl _ _).alloc (Nat.le_refl _) _).drew))
    case rest =>
      obtain ⟨H2, g0, g2, gs, HB⟩ := hcut
      have d4 := H2.out.cell 4
      have d5 := H2.out.cell 5
      have d6 := H2.out.cell 6
      have hlt2 := H2.out.lt
      have gs0 : w.heap.size < wc.heap.size := by omega
      simp only [watchC] at d4 d5 d6
      clear c4 c5 c6 f4 f5 f6 hlt
      go_wp2_with fail
      refine since_wp (fun s => ?_)
      refine wp_region_since (by kernel_rfl) (by kernel_rfl) ?_
      repeat (go_big_quiet_step (fail))
      go_big_quiet_step ((exact same_quiet (HPL.out _)))
      repeat (go_big_quiet_step (fail))
      refine wpQuiet_nil ?_
      rintro _ ⟨s2, rfl⟩
      go_wp2
      go_ret
      exact ⟨rfl, H2.out.later s2.h, HB.out.trans (Only.of s2.h)⟩
  · go_enter Tryd.func46, Tryd.ntmps46
    go_wp2_with fail
    go_cut [32] (fun _ wc => Hid (WatchIs b 2 2 2 0 wc) ∧ wc.cell? ⟨w.heap.size + 1, 0, none⟩ = some (.int .i64 0) ∧ wc.cell? ⟨w.heap.size, 2, none⟩ = some (.int .i64 1) ∧ w.heap.size + 1 < wc.heap.size ∧ Hid (Only b w wc))
    case first =>
      go_region_with (go_at_call 39; refine (sum_any 1 1 _ (by omega) (by omega)).mono ?_; rw [S.out.2]; rintro e w' ⟨rfl, rfl⟩)
      all_goals
        go_wp2_with fail
        go_meet
        case rel =>
          refine ⟨Lib.hid ?_, (two_new (by simp) _ _ _ _ 0).1, (two_new (by simp) _ _ _ _ 2).2, by simp, Lib.hid ?_⟩
          · have h1 := watch_set (watch_set (watch_set H.out 4 (.int .i64 2) (n' := 2) (m' := 1) (p' := 1) (bad' := 0) rfl) 5 (.int .i64 2) (n' := 2) (m' := 2) (p' := 1) (bad' := 0) rfl) 6 (.int .i64 2) (n' := 2) (m' := 2) (p' := 2) (bad' := 0) rfl
            exact (h1.later ((Below.refl _ _).alloc (Nat.le_refl _) _)).later (((Below.refl _ _).alloc (Nat.le_refl _) _).drew)
          · exact ((((Only.set b 4 _ w).trans (Only.set b 5 _ _)).trans (Only.set b 6 _ _)).trans (Only.of ((Below.refl _ _).alloc (Nat.le_refl _) _))).trans (Only.of (((Below.refl _ _).alloc (Nat.le_refl _) _).drew))
    case rest =>
      obtain ⟨H2, g0, g2, gs, HB⟩ := hcut
      have d4 := H2.out.cell 4
      have d5 := H2.out.cell 5
      have d6 := H2.out.cell 6
      have hlt2 := H2.out.lt
      have gs0 : w.heap.size < wc.heap.size := by omega
      simp only [watchC] at d4 d5 d6
      clear c4 c5 c6 f4 f5 f6 hlt
      go_wp2_with fail
      refine since_wp (fun s => ?_)
      refine wp_region_since (by kernel_rfl) (by kernel_rfl) ?_
      repeat (go_big_quiet_step (fail))
      refine wpQuiet_nil ?_
      rintro _ ⟨s2, rfl⟩
      go_wp2
      go_ret
      exact ⟨rfl, H2.out.later s2.h, HB.out.trans (Only.of s2.h)⟩
end Go.Proofs.YtplbglcdmimdoaaDoor
