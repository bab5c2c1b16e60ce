/- A frame in memory: made or not yet made; the contract of the closure that makes its nodes. -/
import Derived.Test.YtmfkpjafeaidkaaLay
import Derived.Test.YtmfkpjafeaidkaaOnce
namespace Go.Proofs.Ytmfkpjafeaidkaa
open Go.RowKit
set_option linter.unusedVariables false
set_option linter.unusedSimpArgs false

/-- A frame's own block: the word of the Once, the lock, the nodes. -/
def FrameBlk (fb n : Nat) (d l : Int) (v : Value) (w : World) : Prop := Blk w fb 67 #[.int .u32 d, .int .i32 l, .int .u32 0, v, .int .i64 n, .bool true]
/-- Nodes that nobody writes any more. -/
def NodesAt (n : Nat) (a : Option Addr) (c : Nat) (w : World) : Prop := w.ownsRow 0 49 7 (.slice a (frameN n).length c) (frameN n).length (flatN (frameN n))
def FrameDone (fb n : Nat) (a : Option Addr) (c : Nat) (w : World) : Prop := FrameBlk fb n 1 0 (.slice a (frameN n).length c) w ∧ NodesAt n a c w
def FrameIn (fb n : Nat) (w : World) : Prop := n ≤ 17179869184 ∧ (FrameBlk fb n 0 0 (.slice none 0 0) w ∨ ∃ a c, FrameDone fb n a c w)
theorem NodesAt.keep {n : Nat} {a : Option Addr} {c : Nat} {w w' : World} (h : NodesAt n a c w) (hb : ∀ g, a.map (·.block) = some g → w'.heap[g]? = w.heap[g]?) : NodesAt n a c w' :=
  ownsRow_block h fun g hg => hb g (by rw [ownBlock_map] at hg; exact hg)
theorem NodesAt.lt {n : Nat} {a : Option Addr} {c : Nat} {w : World} (h : NodesAt n a c w) : ∀ g, a.map (·.block) = some g → g < w.heap.size := fun g hg => (ownsRow_lt h g (by rw [ownBlock_map]; exact hg)).2
  where ownsRow_lt {w : World} {base : Nat} {e : TypeId} {size : Nat} {v : Value} {n : Nat} {xs : List Value} (h : w.ownsRow base e size v n xs) : ∀ g, v.ownBlock = some g → base ≤ g ∧ g < w.heap.size := h.lt
theorem NodesAt.later {n : Nat} {a : Option Addr} {c : Nat} {w w' : World} (h : NodesAt n a c w) (hb : Below w.heap.size w w') : NodesAt n a c w' := h.keep fun g hg => hb.block g (h.lt g hg)
theorem NodesAt.row {n : Nat} {a : Option Addr} {c : Nat} {w : World} (h : NodesAt n a c w) : NdRow w a (frameN n) := row_of_nodes h rfl
/-- No store into a block of another type touches the nodes. -/
theorem NodesAt.chg {n : Nat} {a : Option Addr} {c : Nat} {w w' : World} {g : Nat} {cs : Array Value} {t : TypeId} {fr : Nat × Nat} (h : NodesAt n a c w) (hg : w.heap[g]? = some (.cells cs t fr)) (hne : 49 ≠ t) (hc : ChgOnly [g] w w') : NodesAt n a c w' :=
  h.keep fun b hb => hc.block b (h.lt b hb) (fun hm => by
    have : b = g := by simpa using hm
    subst this
    exact own_of_other h hg hne (by rw [ownBlock_map]; exact hb))
/-- A block that is made now. -/
def NewAt (a : Option Addr) (w : World) : Prop := ∀ g, a.map (·.block) = some g → w.heap.size ≤ g
theorem NewAt.mono {a : Option Addr} {w w' : World} (h : NewAt a w') (hs : w.heap.size ≤ w'.heap.size) : NewAt a w := fun g hg => Nat.le_trans hs (h g hg)
theorem FrameBlk.lt {fb n : Nat} {d l : Int} {v : Value} {w : World} (h : FrameBlk fb n d l v w) : fb < w.heap.size := lt_of_block h
theorem FrameIn.lt {fb n : Nat} {w : World} (h : FrameIn fb n w) : fb < w.heap.size := by
  rcases h.2 with h | ⟨a, c, h, _⟩
  · exact h.lt
  · exact h.lt
theorem FrameIn.later {fb n : Nat} {w w' : World} (h : FrameIn fb n w) (hb : Below w.heap.size w w') : FrameIn fb n w' := by
  have hl := h.lt
  refine ⟨h.1, ?_⟩
  rcases h.2 with h | ⟨a, c, h, h2⟩
  · exact .inl ((hb.block fb hl).trans h)
  · exact .inr ⟨a, c, (hb.block fb hl).trans h, h2.later hb⟩
theorem FrameDone.later {fb n : Nat} {a : Option Addr} {c : Nat} {w w' : World} (h : FrameDone fb n a c w) (hb : Below w.heap.size w w') : FrameDone fb n a c w' := ⟨(hb.block fb h.1.lt).trans h.1, h.2.later hb⟩
theorem FrameIn.blk {fb n : Nat} {w : World} (h : FrameIn fb n w) : ∃ d v, FrameBlk fb n d 0 v w := by
  rcases h.2 with h | ⟨a, c, h, _⟩
  · exact ⟨_, _, h⟩
  · exact ⟨_, _, h⟩
/-- Another frame may turn. -/
theorem FrameIn.chg {fb n gb : Nat} {w w' : World} {cs : Array Value} {t : TypeId} {fr : Nat × Nat} (h : FrameIn fb n w) (hg : w.heap[gb]? = some (.cells cs t fr)) (ht : 49 ≠ t) (hne : fb ≠ gb) (hc : ChgOnly [gb] w w') : FrameIn fb n w' := by
  have hl := h.lt
  have hk : w'.heap[fb]? = w.heap[fb]? := hc.block fb hl (by simpa using hne)
  refine ⟨h.1, ?_⟩
  rcases h.2 with h | ⟨a, c, h, h2⟩
  · exact .inl (hk.trans h)
  · exact .inr ⟨a, c, hk.trans h, h2.chg hg ht hc⟩
theorem FrameDone.into {fb n : Nat} {a : Option Addr} {c : Nat} {w : World} (h : FrameDone fb n a c w) (hn : n ≤ 17179869184) : FrameIn fb n w := ⟨hn, .inr ⟨a, c, h⟩⟩

theorem cell?_heap {w w' : World} {b : Nat} (h : w'.heap[b]? = w.heap[b]?) (i : Nat) : w'.cell? ⟨b, i, none⟩ = w.cell? ⟨b, i, none⟩ := by simp [World.cell?, h]
theorem own_low {w : World} {base : Nat} {e : TypeId} {size : Nat} {v : Value} {n : Nat} {xs : List Value} (h : w.ownsRow base e size v n xs) : w.ownsRow 0 e size v n xs := by
  refine ⟨h.1, ?_⟩
  rcases h.2 with h2 | ⟨g, cap, cur, rfl, hg, r⟩
  · exact .inl h2
  · exact .inr ⟨g, cap, cur, rfl, Nat.zero_le _, r⟩

set_option maxRecDepth 100000 in
set_option maxHeartbeats 4000000 in
/-- The closure: the nodes are made and kept. -/
theorem all1_any (fb n : Nat) (pb : Nat) (w : World) (hn : n ≤ 17179869184) (hf : FrameBlk fb n 0 1 (.slice none 0 0) w) (hp : w.cell? ⟨pb, 0, none⟩ = some (.pointer (some ⟨fb, 0, none⟩))) (hne : fb ≠ pb) :
    Calls Try.prog 40 #[.pointer (some ⟨pb, 0, none⟩)] w fun e w' => ∃ a c, e = .returned (.tuple #[]) ∧ FrameBlk fb n 0 1 (.slice a (frameN n).length c) w' ∧ NodesAt n a c w' ∧ NewAt a w ∧ ChgOnly [fb] w w' := by
  have hf0 := hf
  obtain ⟨c1, z1, x1⟩ := blk_cells hf
  have f4 := c1 4 _ rfl
  have hpl := World.block_lt_of_cell? _ _ hp
  have hpl' : pb < w.heap.size := hpl
  have HF := Lib.hid hf0
  clear hf hf0 c1 hpl
  go_enter Try.func40, Try.ntmps40
  go_wp2_with fail
  refine (new_any (2 * n) _ (by omega) (by omega)).mono ?_
  rintro e w1 ⟨rfl, rfl⟩
  have HW1 := Lib.hid (Below.alloc (Below.refl w.heap.size w) (Nat.le_refl _) (newPool (2 * n)))
  have HP1 := Lib.hid (PoolOwn.new w (2 * n) (by omega) (by omega) (Nat.le_refl _))
  have hs1 : (w.alloc (newPool (2 * n))).heap.size = w.heap.size + 1 := by simp
  have q0 := (HW1.out.cell (p := ⟨pb, 0, none⟩) hpl').trans hp
  have q4 := (HW1.out.cell (p := ⟨fb, 4, none⟩) x1).trans f4
  generalize w.alloc (newPool (2 * n)) = W1 at HW1 HP1 hs1 q0 q4 ⊢
  by_cases hn0 : n = 0
  · have hn1 : ¬ (0 : Int) < n := by omega
    have HPO := Lib.hid (show PoolOwn w.heap.size w.heap.size (2 * n) (frameN n) W1 by rw [hn0]; unfold frameN; rw [treeL_zero]; have h := HP1.out; rw [hn0] at h; exact h)
    clear hn0 HP1
    go_wp2_with fail
    have HWX := Lib.hid HW1.out
    have qx := q0
    refine wp_region_until (fun w' => w'.cell? ⟨pb, 0, none⟩ = some (.pointer (some ⟨fb, 0, none⟩))) [0, 1, 2] (by kernel_rfl) ?_
    refine wpAnyU_take (i := 0) rfl (by kernel_rfl) (by kernel_rfl) (by kernel_rfl) (by kernel_rfl) (by kernel_rfl) (by kernel_rfl) (fun _ _ _ h => h) rfl (by intro w g; go_simp; rfl) (by rw [World.cell?_drew]; exact qx) ?_
    (try simp only [Act.put, List.setIfInBounds_toArray, List.set_cons_zero, List.set_cons_succ])
    refine wpAnyU_take (i := 1) rfl (by kernel_rfl) (by kernel_rfl) (by kernel_rfl) (by kernel_rfl) (by kernel_rfl) (by kernel_rfl) (fun _ _ _ h => h) rfl (by intro w g; go_simp; rfl) (by rw [World.cell?_drew]; exact qx) ?_
    (try simp only [Act.put, List.setIfInBounds_toArray, List.set_cons_zero, List.set_cons_succ])
    refine wpAnyU_step (i := 2) rfl (by kernel_rfl) rfl (fun K hK => ?_)
    go_simp
    refine (nodes_own _ (HPO.out.later (Below.refl _ _).drew)).mono ?_
    rintro e w3 ⟨a, c, rfl, ho, hb⟩
    have hbb : Below w.heap.size w w3 := HWX.out.trans ((Below.refl _ _).drew.trans (hb.mono (by have := HWX.out.size; simpa using this)))
    have qy : w3.cell? ⟨pb, 0, none⟩ = some (.pointer (some ⟨fb, 0, none⟩)) := (hbb.cell (p := ⟨pb, 0, none⟩) hpl').trans hp
    refine hK.out _ _ qy (fun _ => ?_)
    clear hK K
    (try simp only [Act.put, List.setIfInBounds_toArray, List.set_cons_zero, List.set_cons_succ])
    refine wpAnyU_rest _ 3 4 rfl rfl (by kernel_rfl) (by kernel_rfl) ?_
    simp only [List.drop_succ_cons, List.drop_zero]
    have hblk : FrameBlk fb n 0 1 (.slice none 0 0) w3 := (hbb.block fb x1).trans HF.out
    obtain ⟨c1, z3, x3⟩ := blk_cells hblk
    have d3 := c1 3 _ rfl
    have zz3 := z3 3
    have HN3 := Lib.hid (show NewAt a w from fun g hg => by
      have := (ho.lt g (by rw [ownBlock_map]; exact hg)).1
      have h2 := HWX.out.size
      simp at this
      omega)
    have HO3 := Lib.hid ho
    have HB3 := Lib.hid hbb
    have HK3 := Lib.hid hblk
    clear ho hb hbb hblk c1 z3 qy
    go_wp2
    go_end0
    refine ⟨a, c, rfl, HK3.out.set_ 3 _, ?_, HN3.out, ?_⟩
    · exact ownsRow_block (own_low HO3.out) (fun g hg => Below.heap_setCell _ _ _ _ (fun e => own_of_other HO3.out HK3.out (by decide) (hg.trans (congrArg some e))))
    · exact (ChgOnly.below (HB3.out.mono (Nat.le_refl _)) [fb]).step (fp := [fb]) ⟨rfl, rfl, rfl, by simp, fun i _ hn => Below.heap_setCell _ _ _ _ (fun e => hn (by rw [e]; simp))⟩ (fun x hx => .inl hx)
  · have hn1 : (0 : Int) < n := by omega
    have hn2 : 1 ≤ n := by omega
    clear hn0
    go_wp2_with fail
    refine (lay_any w.heap.size w.heap.size (2 * n) hn2 [] 0 n [] W1 (by omega) HP1.out.farNil (by omega) (by omega) (by omega) (by simp; omega)).mono ?_
    rintro e w2 ⟨rfl, g1, g2, _⟩
    have HPO := Lib.hid (show PoolOwn w.heap.size w.heap.size (2 * n) (frameN n) w2 from g1.own)
    have HW2 := Lib.hid (HW1.out.trans g2)
    clear g1 g2
    go_wp2_with fail
    have HWX := Lib.hid HW2.out
    have qx := (HW2.out.cell (p := ⟨pb, 0, none⟩) hpl').trans hp
    refine wp_region_until (fun w' => w'.cell? ⟨pb, 0, none⟩ = some (.pointer (some ⟨fb, 0, none⟩))) [0, 1, 2] (by kernel_rfl) ?_
    refine wpAnyU_take (i := 0) rfl (by kernel_rfl) (by kernel_rfl) (by kernel_rfl) (by kernel_rfl) (by kernel_rfl) (by kernel_rfl) (fun _ _ _ h => h) rfl (by intro w g; go_simp; rfl) (by rw [World.cell?_drew]; exact qx) ?_
    (try simp only [Act.put, List.setIfInBounds_toArray, List.set_cons_zero, List.set_cons_succ])
    refine wpAnyU_take (i := 1) rfl (by kernel_rfl) (by kernel_rfl) (by kernel_rfl) (by kernel_rfl) (by kernel_rfl) (by kernel_rfl) (fun _ _ _ h => h) rfl (by intro w g; go_simp; rfl) (by rw [World.cell?_drew]; exact qx) ?_
    (try simp only [Act.put, List.setIfInBounds_toArray, List.set_cons_zero, List.set_cons_succ])
    refine wpAnyU_step (i := 2) rfl (by kernel_rfl) rfl (fun K hK => ?_)
    go_simp
    refine (nodes_own _ (HPO.out.later (Below.refl _ _).drew)).mono ?_
    rintro e w3 ⟨a, c, rfl, ho, hb⟩
    have hbb : Below w.heap.size w w3 := HWX.out.trans ((Below.refl _ _).drew.trans (hb.mono (by have := HWX.out.size; simpa using this)))
    have qy : w3.cell? ⟨pb, 0, none⟩ = some (.pointer (some ⟨fb, 0, none⟩)) := (hbb.cell (p := ⟨pb, 0, none⟩) hpl').trans hp
    refine hK.out _ _ qy (fun _ => ?_)
    clear hK K
    (try simp only [Act.put, List.setIfInBounds_toArray, List.set_cons_zero, List.set_cons_succ])
    refine wpAnyU_rest _ 3 4 rfl rfl (by kernel_rfl) (by kernel_rfl) ?_
    simp only [List.drop_succ_cons, List.drop_zero]
    have hblk : FrameBlk fb n 0 1 (.slice none 0 0) w3 := (hbb.block fb x1).trans HF.out
    obtain ⟨c1, z3, x3⟩ := blk_cells hblk
    have d3 := c1 3 _ rfl
    have zz3 := z3 3
    have HN3 := Lib.hid (show NewAt a w from fun g hg => by
      have := (ho.lt g (by rw [ownBlock_map]; exact hg)).1
      have h2 := HWX.out.size
      simp at this
      omega)
    have HO3 := Lib.hid ho
    have HB3 := Lib.hid hbb
    have HK3 := Lib.hid hblk
    clear ho hb hbb hblk c1 z3 qy
    go_wp2
    go_end0
    refine ⟨a, c, rfl, HK3.out.set_ 3 _, ?_, HN3.out, ?_⟩
    · exact ownsRow_block (own_low HO3.out) (fun g hg => Below.heap_setCell _ _ _ _ (fun e => own_of_other HO3.out HK3.out (by decide) (hg.trans (congrArg some e))))
    · exact (ChgOnly.below (HB3.out.mono (Nat.le_refl _)) [fb]).step (fp := [fb]) ⟨rfl, rfl, rfl, by simp, fun i _ hn => Below.heap_setCell _ _ _ _ (fun e => hn (by rw [e]; simp))⟩ (fun x hx => .inl hx)

set_option maxRecDepth 100000 in
set_option maxHeartbeats 4000000 in
/-- doSlow: the lock is taken, the closure called, done is stored, the lock let go. -/
theorem slow_any (fb n : Nat) (pb : Nat) (w : World) (hn : n ≤ 17179869184) (hf : FrameBlk fb n 0 0 (.slice none 0 0) w) (hp : w.cell? ⟨pb, 0, none⟩ = some (.pointer (some ⟨fb, 0, none⟩))) (hne : fb ≠ pb) :
    Calls Try.prog 49 #[.pointer (some ⟨fb, 0, none⟩), .func (.func 40) #[] #[.pointer (some ⟨pb, 0, none⟩)]] w fun e w' => e = .returned (.tuple #[]) ∧ ∃ a c, FrameDone fb n a c w' ∧ NewAt a w ∧ ChgOnly [fb] w w' := by
  obtain ⟨c0, z0, x0⟩ := blk_cells hf
  have b1 : FrameBlk fb n 0 1 (.slice none 0 0) (w.setCell ⟨fb, 1, none⟩ (.int .i32 1)) := hf.set_ 1 _
  have hp1 : (w.setCell ⟨fb, 1, none⟩ (.int .i32 1)).cell? ⟨pb, 0, none⟩ = some (.pointer (some ⟨fb, 0, none⟩)) := (World.cell?_setCell_other _ _ _ _ (fun e => (by cases e))).trans hp
  obtain ⟨c1, z1, x1⟩ := blk_cells b1
  have l0 := c0 1 _ rfl
  have lz := z0 1
  have hl := run_call_load (P := Try.prog) Try.func52 (by kernel_rfl) (by kernel_rfl) (by kernel_rfl) .u32 (by kernel_rfl) (w := w.setCell ⟨fb, 1, none⟩ (.int .i32 1)) (a := ⟨fb, 0, none⟩) (x := 0) (c1 0 _ rfl)
  have hnot : ∀ (x : Bool) (w : World), (Op.unary .not (.bool x)).run Try.prog w = .ok (.bool (!x)) w := fun _ _ => rfl
  have HC := Lib.hid (show ChgOnly [fb] w (w.setCell ⟨fb, 1, none⟩ (.int .i32 1)) from ⟨rfl, rfl, rfl, by simp, fun i _ hn => Below.heap_setCell _ _ _ _ (fun e => hn (by rw [e]; simp))⟩)
  have HB1 := Lib.hid b1
  have HP1 := Lib.hid hp1
  clear hf c0 z0 b1 c1 z1 hp1
  go_enter_defers Try.func49, Try.ntmps49
  go_wp2_with (first | (go_at_call 53; refine (lock_free ⟨fb, 1, none⟩ _ l0 lz).mono ?_; rintro e w' ⟨rfl, rfl⟩) | (go_at_call 48; go_in))
  refine (all1_any fb n pb _ hn HB1.out HP1.out hne).mono ?_
  rintro e w2 ⟨a, c, rfl, g1, g2, gn, g3⟩
  have GN := Lib.hid (show NewAt a w from gn.mono (by simp))
  have G1 := Lib.hid g1
  have G2 := Lib.hid g2
  have G3 := Lib.hid (HC.out.step g3 (fun x hx => .inl hx))
  clear g1 g2 g3 gn
  go_wp2
  obtain ⟨c2, z2, x2⟩ := blk_cells G1.out
  refine leaves_cons (f := 55) (args := #[.pointer (some ⟨fb, 0, none⟩), .bool true]) (by simp) (by simp [go_sem]) ?_
  refine (store_deferred ⟨fb, 0, none⟩ (.int .u32 0) .returning _ (c2 0 _ rfl) (z2 0)).mono ?_
  rintro e u' w'' ⟨rfl, rfl, rfl⟩
  have b3 : FrameBlk fb n 1 1 (.slice a (frameN n).length c) (w2.drew.setCell ⟨fb, 0, none⟩ (.int .u32 1)) := Blk.set_ (show Blk w2.drew fb _ _ from (Below.refl _ _).drew.block fb x2 |>.trans G1.out) 0 _
  obtain ⟨c3, z3, x3⟩ := blk_cells b3
  refine leaves_cons (f := 54) (args := #[.pointer (some ⟨fb, 1, none⟩)]) (by simp [settle]) (by simp [go_sem]) ?_
  refine (unlock_deferred ⟨fb, 1, none⟩ _ _ (c3 1 _ rfl) (z3 1)).mono ?_
  rintro e u' w'' ⟨rfl, rfl, rfl⟩
  have b4 : FrameBlk fb n 1 0 (.slice a (frameN n).length c) ((w2.drew.setCell ⟨fb, 0, none⟩ (.int .u32 1)).setCell ⟨fb, 1, none⟩ (.int .i32 0)) := b3.set_ 1 _
  have n4 : NodesAt n a c ((w2.drew.setCell ⟨fb, 0, none⟩ (.int .u32 1)).setCell ⟨fb, 1, none⟩ (.int .i32 0)) := by
    have hne : ∀ g, a.map (·.block) = some g → g ≠ fb := fun g hg e => own_of_other G2.out G1.out (by decide) ((ownBlock_map a _ c).trans (e ▸ hg))
    exact G2.out.keep fun g hg => by
      rw [Below.heap_setCell _ _ _ _ (hne g hg), Below.heap_setCell _ _ _ _ (hne g hg)]
      rfl
  have c4 : ChgOnly [fb] w ((w2.drew.setCell ⟨fb, 0, none⟩ (.int .u32 1)).setCell ⟨fb, 1, none⟩ (.int .i32 0)) := by
    refine G3.out.step (fp := [fb]) ⟨rfl, rfl, rfl, by simp, fun i _ hn => ?_⟩ (fun x hx => .inl hx)
    have hne : i ≠ fb := fun e => hn (by rw [e]; simp)
    rw [Below.heap_setCell _ _ _ _ hne, Below.heap_setCell _ _ _ _ hne]
    rfl
  simp only [Leaves, settle, results, Try.results49]
  exact ⟨.tuple #[], by simp, rfl, a, c, ⟨b4, n4⟩, GN.out, c4⟩

set_option maxRecDepth 100000 in
set_option maxHeartbeats 4000000 in
/-- Do, not yet done. -/
theorem do_first (fb n : Nat) (pb : Nat) (w : World) (hn : n ≤ 17179869184) (hf : FrameBlk fb n 0 0 (.slice none 0 0) w) (hp : w.cell? ⟨pb, 0, none⟩ = some (.pointer (some ⟨fb, 0, none⟩))) (hne : fb ≠ pb) :
    Calls Try.prog 39 #[.pointer (some ⟨fb, 0, none⟩), .func (.func 40) #[] #[.pointer (some ⟨pb, 0, none⟩)]] w fun e w' => e = .returned (.tuple #[]) ∧ ∃ a c, FrameDone fb n a c w' ∧ NewAt a w ∧ ChgOnly [fb] w w' := by
  obtain ⟨c0, z0, x0⟩ := blk_cells hf
  have h0 := c0 0 _ rfl
  have HS := Lib.hid (slow_any fb n pb w hn hf hp hne)
  have hl := run_call_load (P := Try.prog) Try.func52 (by kernel_rfl) (by kernel_rfl) (by kernel_rfl) .u32 (by kernel_rfl) h0
  have hnot : ∀ (x : Bool) (w : World), (Op.unary .not (.bool x)).run Try.prog w = .ok (.bool (!x)) w := fun _ _ => rfl
  clear c0 z0 hf hp h0
  go_enter Try.func39, Try.ntmps39
  go_wp2_with (first | (go_at_call 49; refine HS.out.mono ?_; rintro e w' ⟨rfl, HQ⟩) | (go_at_call 48; go_in))
  go_end0
  exact ⟨rfl, HQ⟩

set_option maxRecDepth 100000 in
set_option maxHeartbeats 4000000 in
/-- all: the nodes, made if they are not yet. -/
theorem all_any (fb n : Nat) (w : World) (h : FrameIn fb n w) :
    Calls Try.prog 31 #[.pointer (some ⟨fb, 0, none⟩)] w fun e w' => ∃ a c, e = .returned (.slice a (frameN n).length c) ∧ FrameDone fb n a c w' ∧ (FrameDone fb n a c w ∨ NewAt a w) ∧ ChgOnly [fb] w w' := by
  have hlt := h.lt
  have hmf : ∀ (fn : Fn) (first cap : Array Value) (w : World), (Instr.makeFunc fn first cap).run Try.prog w = .ok (.func fn first cap) w := fun _ _ _ _ => rfl
  have HW := Lib.hid (ChgOnly.alloc (fp := [fb]) w (.cells #[.pointer (some ⟨fb, 0, none⟩)] 23))
  have p0 : (w.alloc (.cells #[.pointer (some ⟨fb, 0, none⟩)] 23)).cell? ⟨w.heap.size, 0, none⟩ = some (.pointer (some ⟨fb, 0, none⟩)) := by simp
  have hA := (Below.refl w.heap.size w).alloc (Nat.le_refl _) (.cells #[.pointer (some ⟨fb, 0, none⟩)] 23)
  have hn := h.1
  have key : Calls Try.prog 39 #[.pointer (some ⟨fb, 0, none⟩), .func (.func 40) #[] #[.pointer (some ⟨w.heap.size, 0, none⟩)]] (w.alloc (.cells #[.pointer (some ⟨fb, 0, none⟩)] 23)) fun e w' => e = .returned (.tuple #[]) ∧ ∃ a c, FrameDone fb n a c w' ∧ (FrameDone fb n a c w ∨ NewAt a w) ∧ ChgOnly [fb] (w.alloc (.cells #[.pointer (some ⟨fb, 0, none⟩)] 23)) w' := by
    rcases h.2 with h2 | ⟨a, c, h2⟩
    · refine (do_first fb n w.heap.size _ hn ((hA.block fb hlt).trans h2) p0 (by omega)).mono ?_
      rintro e w' ⟨he, a, c, g1, g2, g3⟩
      exact ⟨he, a, c, g1, .inr (g2.mono (by simp)), g3⟩
    · have h3 := h2.later hA
      obtain ⟨c0, z0, x0⟩ := blk_cells h3.1
      refine (do_done ⟨fb, 0, none⟩ _ _ (c0 0 _ rfl)).mono ?_
      rintro e w' ⟨rfl, rfl⟩
      exact ⟨rfl, a, c, h3, .inl h2, ChgOnly.refl _ _⟩
  have KEY := Lib.hid key
  have hq : ∀ w' : World, ChgOnly [fb] (w.alloc (.cells #[.pointer (some ⟨fb, 0, none⟩)] 23)) w' → w'.cell? ⟨w.heap.size, 0, none⟩ = some (.pointer (some ⟨fb, 0, none⟩)) := fun w' hc => by
    have := hc.block w.heap.size (by simp) (by simp; omega)
    exact (cell?_heap this 0).trans p0
  have HQ := Lib.hid hq
  clear key hq hA h
  go_enter Try.func31, Try.ntmps31
  go_wp2_with fail
  refine KEY.out.mono ?_
  rintro e w1 ⟨rfl, a, c, g1, gn, g2⟩
  have GN := Lib.hid gn
  have q0 := HQ.out w1 g2
  obtain ⟨c1, z1, x1⟩ := blk_cells g1.1
  have q3 := c1 3 _ rfl
  have G1 := Lib.hid g1
  have G2 := Lib.hid (HW.out.step g2 (fun x hx => .inl hx))
  clear g1 g2 gn c1 z1 p0
  go_wp2
  go_ret
  exact ⟨a, c, rfl, G1.out, GN.out, G2.out⟩
end Go.Proofs.Ytmfkpjafeaidkaa
