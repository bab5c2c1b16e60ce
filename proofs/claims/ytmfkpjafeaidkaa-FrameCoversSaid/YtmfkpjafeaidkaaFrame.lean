/- The contracts of frame.New, none, Leaves, Root, Nodes: of a frame that New made, of one that it did not make, of nil. -/
import Derived.Test.YtmfkpjafeaidkaaFrameObj
import Derived.Test.YtmfkpjafeaidkaaTreeAt
namespace Go.Proofs.Ytmfkpjafeaidkaa
open Go.RowKit
set_option linter.unusedVariables false

/-- What New makes. -/
def newFrame (n : Nat) : Obj := .cells #[.int .u32 0, .int .i32 0, .int .u32 0, .slice none 0 0, .int .i64 n, .bool true] 67
theorem newFrame_in (n : Nat) (w : World) (h : n ≤ 17179869184) : FrameIn w.heap.size n (w.alloc (newFrame n)) := ⟨h, .inl (World.alloc_heap_new w _)⟩

set_option maxRecDepth 100000 in
set_option maxHeartbeats 1000000 in
theorem frameNew_any (n : Nat) (w : World) (h : n ≤ 17179869184) :
    Calls Try.prog 10 #[.int .i64 n] w fun e w' => e = .returned (.tuple #[.pointer (some ⟨w.heap.size, 0, none⟩), .int .i64 0]) ∧ w.alloc (newFrame n) = w' := by
  have h0 : (0 : Int) ≤ n := by omega
  have h1 : (n : Int) ≤ 17179869184 := by omega
  clear h
  go_enter Try.func10, Try.ntmps10
  go_wp2
  go_ret2
  exact ⟨rfl, rfl⟩
set_option maxRecDepth 100000 in
set_option maxHeartbeats 1000000 in
theorem frameNew_bad (n : Int) (w : World) (h : n < 0 ∨ 17179869184 < n) :
    Calls Try.prog 10 #[.int .i64 n] w fun e w' => e = .returned (.tuple #[.pointer none, .int .i64 2]) ∧ w = w' := by
  rcases h with h | h
  · go_enter Try.func10, Try.ntmps10
    go_wp2
    go_ret2
    exact ⟨rfl, rfl⟩
  · have h' : 0 ≤ n := by omega
    go_enter Try.func10, Try.ntmps10
    go_wp2
    go_ret2
    exact ⟨rfl, rfl⟩

/-- Nobody's frame: nil, or one that New did not make. -/
def NoFrame (p : Option Addr) (w : World) : Prop := p = none ∨ ∃ b, p = some ⟨b, 0, none⟩ ∧ w.cell? ⟨b, 5, none⟩ = some (.bool false)
theorem NoFrame.later {p : Option Addr} {w w' : World} (h : NoFrame p w) (hb : Below w.heap.size w w') : NoFrame p w' := by
  rcases h with h | ⟨b, h, hc⟩
  · exact .inl h
  · exact .inr ⟨b, h, (hb.cell (p := ⟨b, 5, none⟩) (World.block_lt_of_cell? _ _ hc)).trans hc⟩

set_option maxRecDepth 100000 in
set_option maxHeartbeats 1000000 in
theorem none_no (p : Option Addr) (w : World) (h : NoFrame p w) :
    Calls Try.prog 30 #[.pointer p] w fun e w' => e = .returned (.bool true) ∧ w = w' := by
  rcases h with rfl | ⟨b, rfl, hc⟩
  · go_enter Try.func30, Try.ntmps30
    go_wp2
    go_ret
    exact ⟨rfl, rfl⟩
  · go_enter Try.func30, Try.ntmps30
    go_wp2
    go_ret
    exact ⟨rfl, rfl⟩
set_option maxRecDepth 100000 in
set_option maxHeartbeats 1000000 in
theorem none_yes (fb n : Nat) (w : World) (h : FrameIn fb n w) :
    Calls Try.prog 30 #[.pointer (some ⟨fb, 0, none⟩)] w fun e w' => e = .returned (.bool false) ∧ w = w' := by
  obtain ⟨d, v, hb⟩ := h.blk
  obtain ⟨c1, _, _⟩ := blk_cells hb
  have c5 := c1 5 _ rfl
  clear c1 hb h
  go_enter Try.func30, Try.ntmps30
  go_wp2
  go_ret
  exact ⟨rfl, rfl⟩
set_option maxRecDepth 100000 in
set_option maxHeartbeats 1000000 in
theorem leaves_no (p : Option Addr) (w : World) (h : NoFrame p w) :
    Calls Try.prog 17 #[.pointer p] w fun e w' => e = .returned (.int .i64 0) ∧ w = w' := by
  go_enter Try.func17, Try.ntmps17
  go_wp2_with fail
  refine (none_no p w h).mono ?_
  rintro e w1 ⟨rfl, rfl⟩
  go_wp2
  go_ret
  exact ⟨rfl, rfl⟩
set_option maxRecDepth 100000 in
set_option maxHeartbeats 1000000 in
theorem leaves_yes (fb n : Nat) (w : World) (h : FrameIn fb n w) :
    Calls Try.prog 17 #[.pointer (some ⟨fb, 0, none⟩)] w fun e w' => e = .returned (.int .i64 n) ∧ w = w' := by
  obtain ⟨d, v, hb⟩ := h.blk
  obtain ⟨c1, _, _⟩ := blk_cells hb
  have c4 := c1 4 _ rfl
  have H := Lib.hid h
  clear c1 hb h
  go_enter Try.func17, Try.ntmps17
  go_wp2_with fail
  refine (none_yes fb n _ H.out).mono ?_
  rintro e w1 ⟨rfl, rfl⟩
  go_wp2
  go_ret
  exact ⟨rfl, rfl⟩
set_option maxRecDepth 100000 in
set_option maxHeartbeats 1000000 in
theorem root_no (p : Option Addr) (w : World) (h : NoFrame p w) :
    Calls Try.prog 18 #[.pointer p] w fun e w' => e = .returned (.int .i64 (-1)) ∧ w = w' := by
  go_enter Try.func18, Try.ntmps18
  go_wp2_with fail
  refine (leaves_no p w h).mono ?_
  rintro e w1 ⟨rfl, rfl⟩
  go_wp2
  go_ret
  exact ⟨rfl, rfl⟩
/-- The root's place. -/
def rootOf (n : Nat) : Int := if n = 0 then -1 else 2 * n - 2
set_option maxRecDepth 100000 in
set_option maxHeartbeats 1000000 in
theorem root_yes (fb n : Nat) (w : World) (h : FrameIn fb n w) :
    Calls Try.prog 18 #[.pointer (some ⟨fb, 0, none⟩)] w fun e w' => e = .returned (.int .i64 (rootOf n)) ∧ w = w' := by
  obtain ⟨d, v, hb⟩ := h.blk
  obtain ⟨c1, _, _⟩ := blk_cells hb
  have c4 := c1 4 _ rfl
  have hn := h.1
  have H := Lib.hid h
  clear c1 hb h
  by_cases e : n = 0
  · have HR := Lib.hid (show rootOf n = -1 by unfold rootOf; rw [if_pos e])
    have hq : ((n : Int) == 0) = true := by simpa using e
    clear e
    go_enter Try.func18, Try.ntmps18
    go_wp2_with fail
    refine (leaves_yes fb n _ H.out).mono ?_
    rintro e w1 ⟨rfl, rfl⟩
    go_wp2
    go_ret
    exact ⟨by rw [HR.out]; rfl, rfl⟩
  · have HR := Lib.hid (show rootOf n = 2 * n - 2 by unfold rootOf; rw [if_neg e])
    have hq : ((n : Int) == 0) = false := by simpa using e
    have hn1 : (1 : Int) ≤ n := by omega
    clear e
    go_enter Try.func18, Try.ntmps18
    go_wp2_with fail
    refine (leaves_yes fb n _ H.out).mono ?_
    rintro e w1 ⟨rfl, rfl⟩
    go_wp2
    go_ret
    exact ⟨by rw [HR.out]; rfl, rfl⟩
set_option maxRecDepth 100000 in
set_option maxHeartbeats 1000000 in
theorem frameNodes_no (p : Option Addr) (w : World) (h : NoFrame p w) :
    Calls Try.prog 20 #[.pointer p] w fun e w' => e = .returned (.slice none 0 0) ∧ w = w' := by
  go_enter Try.func20, Try.ntmps20
  go_wp2_with fail
  refine (none_no p w h).mono ?_
  rintro e w1 ⟨rfl, rfl⟩
  go_wp2
  go_ret
  exact ⟨rfl, rfl⟩
set_option maxRecDepth 100000 in
set_option maxHeartbeats 2000000 in
/-- Nodes: all, in memory of their own. -/
theorem frameNodes_yes (fb n : Nat) (w : World) (h : FrameIn fb n w) :
    Calls Try.prog 20 #[.pointer (some ⟨fb, 0, none⟩)] w fun e w' => ∃ a c, e = .returned (.slice a (frameN n).length c) ∧ w'.ownsRow w.heap.size 49 7 (.slice a (frameN n).length c) (frameN n).length (flatN (frameN n)) ∧ FrameIn fb n w' ∧ ChgOnly [fb] w w' := by
  have hn := h.1
  have hlen : (frameN n).length ≤ 34359738368 := by rw [frameN_len]; omega
  have hlt := h.lt
  have H := Lib.hid h
  obtain ⟨i0, hi, hzz, hz1, hz2⟩ := info_parts infoNode
  clear h
  go_enter Try.func20, Try.ntmps20
  go_wp2_with fail
  refine (none_yes fb n _ H.out).mono ?_
  rintro e w1 ⟨rfl, rfl⟩
  go_wp2_with fail
  have hA := (Below.refl w.heap.size w).alloc (Nat.le_refl _) (.cells #[] 49)
  refine (all_any fb n _ (H.out.later hA)).mono ?_
  rintro e w2 ⟨a, c, rfl, g1, gn, g2⟩
  have hne : ∀ g, a.map (·.block) = some g → g ≠ w.heap.size := fun g hg => by
    rcases gn with gn | gn
    · rcases H.out.2 with h2 | ⟨a', c', h2⟩
      · have h3 := ((hA.block fb hlt).trans h2).symm.trans gn.1
        simp at h3
      · have h3 := ((hA.block fb hlt).trans h2.1).symm.trans gn.1
        simp at h3
        obtain ⟨rfl, _⟩ := h3
        have := h2.2.lt g hg
        omega
    · have := gn g hg
      simp at this; omega
  have HNE := Lib.hid hne
  have G1 := Lib.hid g1
  have G2 := Lib.hid ((ChgOnly.below hA [fb]).step g2 (fun x hx => .inl hx))
  have hrow := g1.2.row.reads
  have own0 : w2.ownsRow w.heap.size 49 7 (.slice (some ⟨w.heap.size, 0, none⟩) 0 0) 0 [] := ownsRow_block (own_zero w _ 7 (Nat.le_refl _)) (fun g hg => by
    simp [Value.ownBlock] at hg
    subst hg
    exact g2.block _ (by simp) (by simp; omega))
  have HO := Lib.hid own0
  have HR := Lib.hid hrow
  have hsz : w.heap.size ≤ w2.heap.size := by have := g2.size; simp at this; omega
  have hsz2 : w.heap.size < w2.heap.size := by have := g2.size; simp at this; omega
  clear g1 g2 gn hne hA hrow own0
  go_wp2_with (at_builtin; refine wpList_append_any _ rfl (.tmp 5) (.tmp 7) 27 rfl w.heap.size 49 i0 (nodeV 0 0 0 0 0 0 0) 7 56 Try.underlying27 hi hzz hz1 hz2 rfl (by decide) _ _ _ rfl HO.out _ _ _ _ _ rfl HR.out (flatN_one _) (by unfold maxLen; omega) (by omega) hsz ?_)
  intro v2 w3 ho2 hg2 _
  obtain ⟨a2, k2, rfl⟩ := own_shape ho2
  have hb : Below w.heap.size w2 w3 := (Below.refl w.heap.size w2).grown hg2 hsz (fun r hr => by simp [Value.ownBlock] at hr; omega)
  have HB := Lib.hid hb
  have HO2 := Lib.hid ho2
  have hnot : some w.heap.size = (Value.slice (some ⟨w.heap.size, 0, none⟩) 0 0).ownBlock := rfl
  have HG := Lib.hid hg2
  clear hb ho2 hg2
  go_wp2
  go_ret
  refine ⟨a2, k2, rfl, by simpa using HO2.out, ?_, ?_⟩
  · have hk : w3.heap[fb]? = w2.heap[fb]? := HB.out.block fb hlt
    refine ⟨hn, .inr ⟨a, c, hk.trans G1.out.1, G1.out.2.keep fun g hg => ?_⟩⟩
    exact HG.out.block g (G1.out.2.lt g hg) (fun e => HNE.out g hg (by simpa [Value.ownBlock] using e))
  · exact G2.out.step (fp := [w.heap.size]) ⟨HB.out.os, HB.out.tape, HB.out.output, HB.out.size, fun i hi hn => HG.out.block i hi (fun e => hn (by simp [Value.ownBlock] at e; simp [e]))⟩ (fun x hx => .inr (by simp at hx; omega))
end Go.Proofs.Ytmfkpjafeaidkaa
