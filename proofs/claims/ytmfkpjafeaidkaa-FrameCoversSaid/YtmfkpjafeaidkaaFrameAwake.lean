/- The chapter's examples (awake of layer 6). -/
import Derived.Test.YtmfkpjafeaidkaaPath
import Derived.Test.YtmfkpjafeaidkaaLowInts
import Derived.Test.YtmfkpjafeaidkaaStackAwake
namespace Go.Proofs.Ytmfkpjafeaidkaa
open Go.RowKit
set_option linter.unusedVariables false
set_option linter.unusedSimpArgs false

theorem FrameIn.other {fb n gb m : Nat} {w w' : World} (h : FrameIn fb n w) (k : FrameIn gb m w) (hne : fb ≠ gb) (hc : ChgOnly [gb] w w') : FrameIn fb n w' := by
  obtain ⟨d, v, hb⟩ := k.blk
  exact h.chg hb (by decide) hne hc
theorem own_frame {gb m base size n : Nat} {e : TypeId} {v : Value} {xs : List Value} {w w' : World} (h : w.ownsRow base e size v n xs) (k : FrameIn gb m w) (hne : e ≠ 67) (hc : ChgOnly [gb] w w') : w'.ownsRow base e size v n xs := by
  obtain ⟨d, v', hb⟩ := k.blk
  exact ownsRow_block h fun g hg => hc.block g (h.lt g hg).2 (fun hm => by
    have : g = gb := by simpa using hm
    subst this
    exact own_of_other h hb hne hg)
theorem ChgOnly.below_of {fb B : Nat} {w0 w w' : World} (hb : Below B w0 w) (hB : B ≤ w.heap.size) (h : ChgOnly [fb] w w') (hf : B ≤ fb) : Below B w0 w' := hb.trans (h.toBelow (fun b hm => by
  have : b = fb := by simpa using hm
  omega) hB)
theorem row_lit_chg {fb : Nat} (w : World) (xs : List Int) (e : TypeId) (hf : fb ≠ w.heap.size) : ∀ w', ChgOnly [fb] (w.alloc (.cells (xs.map (Value.int .i64)).toArray e)) w' → Row w' (some ⟨w.heap.size, 0, none⟩) (xs.map (.int .i64)) := by
  intro w' hc
  refine .inr ⟨w.heap.size, 0, rfl, fun i _ => ?_⟩
  rw [cell?_heap (hc.block w.heap.size (by simp) (by simp; omega)), Nat.zero_add, cells_at]; simp
theorem row_nil (ao : Option Addr) (w : World) : Row w ao (([] : List Int).map (.int .i64)) := .inl rfl

set_option maxRecDepth 100000 in
set_option maxHeartbeats 1000000 in
theorem canon6_any (fb n : Nat) (lo hi : Int) (k : Nat) (want : List Int) (ao : Option Addr) (cap : Nat) (w : World) (h : FrameIn fb n w) (hw : ∀ w', ChgOnly [fb] w w' → Row w' ao (want.map (.int .i64))) (hl : want.length ≤ 10)
    (h1 : canonErr n lo hi = 0) (h2 : canonE n lo hi = k) (h3 : canonL n lo hi = want) :
    Calls Try.prog 29 #[.pointer (some ⟨fb, 0, none⟩), .int .i64 lo, .int .i64 hi, .int .i64 k, .slice ao want.length cap] w fun e w' => e = .returned (.bool true) ∧ FrameIn fb n w' ∧ ChgOnly [fb] w w' := by
  have H1 := Lib.hid h1
  have H2 := Lib.hid h2
  have H3 := Lib.hid h3
  have H := Lib.hid h
  have HW := Lib.hid hw
  clear h1 h2 h3 h hw
  go_enter Try.func29, Try.ntmps29
  go_wp2_with fail
  refine (canon_any fb n lo hi w H.out).mono ?_
  unfold CanonP
  rw [H1.out, H2.out, H3.out]
  rintro e w1 ⟨a, c, rfl, ho, hf, hc⟩
  have HO := Lib.hid (row_of_owned ho)
  have HF := Lib.hid hf
  have HC := Lib.hid hc
  clear ho hf hc
  go_wp2_with fail
  refine (ints_any want want a ao c cap w1 HO.out (HW.out _ HC.out) (by unfold maxLen; omega) (by unfold maxLen; omega)).mono ?_
  rw [show sameB want want = true from decide_eq_true rfl]
  rintro e w2 ⟨rfl, hb⟩
  have HB := Lib.hid hb
  clear hb
  go_wp2
  go_ret
  exact ⟨rfl, HF.out.later HB.out, below_chg HC.out HB.out⟩

theorem frame3 : frameN 3 = [⟨1, -1, -1, 0, 1, 0, 0⟩, ⟨1, -1, -1, 1, 2, 0, 1⟩, ⟨2, 0, 1, 0, 2, 0, 0⟩, ⟨1, -1, -1, 2, 3, 0, 2⟩, ⟨2, 2, 3, 0, 3, 0, 0⟩] := by
  unfold frameN
  rw [treeL_two (by omega), show lhalf 3 = 2 from rfl, show 3 / 2 = 1 from rfl, treeL_two (by omega), show lhalf 2 = 1 from rfl, show 2 / 2 = 1 from rfl, treeL_one, treeL_one, treeL_one]
  rfl
theorem canon3a : canonL 3 0 2 = [2] ∧ canonE 3 0 2 = 3 ∧ canonErr 3 0 2 = 0 := by
  refine ⟨?_, ?_, by decide⟩
  · unfold canonL; rw [if_pos (by decide), canonT_two (by omega) (by decide) (by decide), canonT_in (by decide) (by decide), canonT_out (by decide)]; rfl
  · unfold canonE; rw [if_pos (by decide), entT_two (by omega) (by decide) (by decide), entT_in (by decide) (by decide), entT_out (by decide)]
theorem canon3b : canonL 3 1 3 = [1, 3] ∧ canonE 3 1 3 = 5 ∧ canonErr 3 1 3 = 0 := by
  refine ⟨?_, ?_, by decide⟩
  · unfold canonL; rw [if_pos (by decide), canonT_two (by omega) (by decide) (by decide), canonT_two (n := lhalf 3) (by decide) (by decide) (by decide), canonT_out (n := lhalf (lhalf 3)) (by decide), canonT_in (n := lhalf 3 / 2) (by decide) (by decide), canonT_in (by decide) (by decide)]; rfl
  · unfold canonE; rw [if_pos (by decide), entT_two (by omega) (by decide) (by decide), entT_two (n := lhalf 3) (by decide) (by decide) (by decide), entT_out (n := lhalf (lhalf 3)) (by decide), entT_in (n := lhalf 3 / 2) (by decide) (by decide), entT_in (by decide) (by decide)]
theorem canon3c : canonL 3 0 3 = [4] ∧ canonE 3 0 3 = 1 ∧ canonErr 3 0 3 = 0 := by
  refine ⟨?_, ?_, by decide⟩
  · unfold canonL; rw [if_pos (by decide), canonT_in (by decide) (by decide)]; rfl
  · unfold canonE; rw [if_pos (by decide), entT_in (by decide) (by decide)]
theorem canon3d : canonL 3 2 2 = [] ∧ canonE 3 2 2 = 0 ∧ canonErr 3 2 2 = 0 := by
  refine ⟨?_, ?_, by decide⟩
  · unfold canonL; rw [if_neg (by decide)]
  · unfold canonE; rw [if_neg (by decide)]
theorem canon0 : canonL 0 0 0 = [] ∧ canonE 0 0 0 = 0 ∧ canonErr 0 0 0 = 0 := by
  refine ⟨?_, ?_, by decide⟩
  · unfold canonL; rw [if_neg (by decide)]
  · unfold canonE; rw [if_neg (by decide)]
theorem canon01 : canonL 0 0 1 = [] ∧ canonE 0 0 1 = 0 ∧ canonErr 0 0 1 = 2 := by
  refine ⟨?_, ?_, by decide⟩
  · unfold canonL; rw [if_neg (by decide)]
  · unfold canonE; rw [if_neg (by decide)]
theorem path3 : pathL 3 1 = [4, 2, 1] ∧ pathErr 3 1 = 0 := by
  refine ⟨?_, by decide⟩
  unfold pathL
  rw [if_pos (by decide), pathT_left (by omega) (by decide), pathT_right (n := lhalf 3) (by decide) (by decide), pathT_leaf (by decide)]
  rfl

/-- Two frames, three leaves and none. -/
structure TwoF (B fb gb : Nat) (w0 w : World) : Prop where
  f : FrameIn fb 3 w
  g : FrameIn gb 0 w
  b : Below B w0 w
  low : B ≤ fb ∧ B ≤ gb ∧ fb ≠ gb ∧ B ≤ w.heap.size
theorem TwoF.onF {B fb gb : Nat} {w0 w w' : World} (h : TwoF B fb gb w0 w) (hf : FrameIn fb 3 w') (hc : ChgOnly [fb] w w') : TwoF B fb gb w0 w' :=
  ⟨hf, h.g.other h.f (Ne.symm h.low.2.2.1) hc, ChgOnly.below_of h.b h.low.2.2.2 hc h.low.1, h.low.1, h.low.2.1, h.low.2.2.1, Nat.le_trans h.low.2.2.2 hc.size⟩
theorem TwoF.onG {B fb gb : Nat} {w0 w w' : World} (h : TwoF B fb gb w0 w) (hg : FrameIn gb 0 w') (hc : ChgOnly [gb] w w') : TwoF B fb gb w0 w' :=
  ⟨h.f.other h.g h.low.2.2.1 hc, hg, ChgOnly.below_of h.b h.low.2.2.2 hc h.low.2.1, h.low.1, h.low.2.1, h.low.2.2.1, Nat.le_trans h.low.2.2.2 hc.size⟩
theorem TwoF.later {B fb gb : Nat} {w0 w w' : World} (h : TwoF B fb gb w0 w) (hb : Below w.heap.size w w') : TwoF B fb gb w0 w' :=
  ⟨h.f.later hb, h.g.later hb, bl h.b h.low.2.2.2 hb, h.low.1, h.low.2.1, h.low.2.2.1, Nat.le_trans h.low.2.2.2 hb.size⟩

set_option maxRecDepth 100000 in
set_option maxHeartbeats 4000000 in
theorem awake6_any (w : World) : Calls Try.prog 9 #[] w fun e w' => e = .returned (.bool true) ∧ Below w.heap.size w w' := by
  have e4 : ∀ w : World, (binOp .eql 49 (nodeV 2 2 3 0 3 0 0) (nodeV 2 2 3 0 3 0 0)).run Try.prog w = .ok (.bool true) w := fun w => eql_node ⟨2, 2, 3, 0, 3, 0, 0⟩ ⟨2, 2, 3, 0, 3, 0, 0⟩ w
  have e3 : ∀ w : World, (binOp .eql 49 (nodeV 1 (-1) (-1) 2 3 0 2) (nodeV 1 (-1) (-1) 2 3 0 2)).run Try.prog w = .ok (.bool true) w := fun w => eql_node ⟨1, -1, -1, 2, 3, 0, 2⟩ ⟨1, -1, -1, 2, 3, 0, 2⟩ w
  have HF0 := Lib.hid (newFrame_in 3 w (by omega))
  go_enter Try.func9, Try.ntmps9
  go_wp2_with fail
  refine (frameNew_any 3 w (by omega)).mono ?_
  rintro e w1 ⟨rfl, rfl⟩
  have hb1 := (Below.refl w.heap.size w).alloc (Nat.le_refl _) (newFrame 3)
  have hs1 : (w.alloc (newFrame 3)).heap.size = w.heap.size + 1 := by simp
  have HB1 := Lib.hid hb1
  generalize w.alloc (newFrame 3) = W1 at HF0 HB1 hs1 ⊢
  clear hb1
  go_wp2_with fail
  refine (frameNew_any 0 W1 (by omega)).mono ?_
  rintro e w1 ⟨rfl, rfl⟩
  have hb2 := (Below.refl W1.heap.size W1).alloc (Nat.le_refl _) (newFrame 0)
  have S2 := Lib.hid (show TwoF w.heap.size w.heap.size W1.heap.size w (W1.alloc (newFrame 0)) from ⟨HF0.out.later hb2, newFrame_in 0 W1 (by omega), bl HB1.out HB1.out.size hb2, Nat.le_refl _, by omega, by omega, by simp; omega⟩)
  generalize W1.alloc (newFrame 0) = W2 at S2 ⊢
  have hgb : W1.heap.size ≠ w.heap.size := by omega
  obtain ⟨gb, hgb2⟩ : ∃ gb, W1.heap.size = gb := ⟨_, rfl⟩
  obtain ⟨fb, hfb2⟩ : ∃ fb, w.heap.size = fb := ⟨_, rfl⟩
  rw [hgb2] at S2 hgb ⊢
  rw [hfb2] at S2 hgb ⊢
  clear hb2 hs1 HB1 HF0 hgb2
  go_wp2_with fail
  refine (path_any fb 3 1 W2 S2.out.f).mono ?_
  unfold PathP
  rw [path3.1, path3.2]
  rintro e w3 ⟨pa, pc, rfl, ho3, hf3, hc3⟩
  have S3 := Lib.hid (S2.out.onF hf3 hc3)
  have P3 := Lib.hid ho3
  clear ho3 hf3 hc3 S2
  go_wp2_with fail
  refine (canon_any gb 0 0 1 w3 S3.out.g).mono ?_
  unfold CanonP
  rw [canon01.1, canon01.2.1, canon01.2.2]
  rintro e w4 ⟨qa, qc, rfl, _, hg4, hc4⟩
  have S4 := Lib.hid (S3.out.onG hg4 hc4)
  have P4 := Lib.hid (own_frame P3.out S3.out.g (by decide) hc4)
  clear hg4 hc4 S3 P3
  go_wp2_with fail
  refine (frameNodes_yes fb 3 w4 S4.out.f).mono ?_
  rw [frame3]
  rintro e w5 ⟨la, lc, rfl, ho5, hf5, hc5⟩
  have S5 := Lib.hid (S4.out.onF hf5 hc5)
  have P5 := Lib.hid (own_frame P4.out S4.out.f (by decide) hc5)
  obtain ⟨b1, o1, rfl, a0, a1, a2, a3, a4, a5, a6⟩ := (row_of_nodes ho5 rfl).node 4 (by decide)
  obtain ⟨b2, o2, hh, d0, d1, d2, d3, d4, d5, d6⟩ := (row_of_nodes ho5 rfl).node 3 (by decide)
  cases hh
  simp only [List.getD_cons_succ, List.getD_cons_zero] at a0 a1 a2 a3 a4 a5 a6 d0 d1 d2 d3 d4 d5 d6
  have R5 := Lib.hid (row_of_owned P5.out)
  clear hf5 hc5 S4 P4 ho5
  go_wp2_with fail
  refine (root_yes fb 3 w5 S5.out.f).mono ?_
  rw [show rootOf 3 = 4 from rfl]
  rintro e v1 ⟨rfl, rfl⟩
  go_wp2_with fail
  refine (root_yes gb 0 w5 S5.out.g).mono ?_
  rw [show rootOf 0 = -1 from rfl]
  rintro e v1 ⟨rfl, rfl⟩
  clear a0 a1 a2 a3 a4 a5 a6 d0 d1 d2 d3 d4 d5 d6
  go_wp2_with fail
  have f6 : Below w5.heap.size w5 (w5.alloc (.cells ([4, 2, 1].map (Value.int .i64)).toArray 3)) := (Below.refl _ _).alloc (Nat.le_refl _) _
  refine (ints_any [4, 2, 1] [4, 2, 1] pa (some ⟨w5.heap.size, 0, none⟩) pc 3 _ (R5.out.later f6) (row_lit w5 [4, 2, 1] 3) (by decide) (by decide)).mono ?_
  rw [show sameB [4, 2, 1] [4, 2, 1] = true by decide]
  rintro e w6 ⟨rfl, hv6⟩
  have S6 := Lib.hid (S5.out.later (bl f6 f6.size hv6))
  clear f6 hv6 S5 R5 P5
  go_wp2_with fail
  have f7 : Below w6.heap.size w6 (w6.alloc (.cells ([2].map (Value.int .i64)).toArray 3)) := (Below.refl _ _).alloc (Nat.le_refl _) _
  have T7 := Lib.hid (S6.out.later f7)
  have hn7 : fb ≠ w6.heap.size := by have := S6.out.f.lt; omega
  refine (canon6_any fb 3 0 2 3 [2] (some ⟨w6.heap.size, 0, none⟩) 1 _ T7.out.f (row_lit_chg w6 [2] 3 hn7) (by decide) canon3a.2.2 canon3a.2.1 canon3a.1).mono ?_
  rintro e w7 ⟨rfl, hf7, hc7⟩
  have S7 := Lib.hid (T7.out.onF hf7 hc7)
  clear f7 hf7 hc7 hn7 T7 S6
  go_wp2_with fail
  have f8 : Below w7.heap.size w7 (w7.alloc (.cells ([1, 3].map (Value.int .i64)).toArray 3)) := (Below.refl _ _).alloc (Nat.le_refl _) _
  have T8 := Lib.hid (S7.out.later f8)
  have hn8 : fb ≠ w7.heap.size := by have := S7.out.f.lt; omega
  refine (canon6_any fb 3 1 3 5 [1, 3] (some ⟨w7.heap.size, 0, none⟩) 2 _ T8.out.f (row_lit_chg w7 [1, 3] 3 hn8) (by decide) canon3b.2.2 canon3b.2.1 canon3b.1).mono ?_
  rintro e w8 ⟨rfl, hf8, hc8⟩
  have S8 := Lib.hid (T8.out.onF hf8 hc8)
  clear f8 hf8 hc8 hn8 T8 S7
  go_wp2_with fail
  have f9 : Below w8.heap.size w8 (w8.alloc (.cells ([4].map (Value.int .i64)).toArray 3)) := (Below.refl _ _).alloc (Nat.le_refl _) _
  have T9 := Lib.hid (S8.out.later f9)
  have hn9 : fb ≠ w8.heap.size := by have := S8.out.f.lt; omega
  refine (canon6_any fb 3 0 3 1 [4] (some ⟨w8.heap.size, 0, none⟩) 1 _ T9.out.f (row_lit_chg w8 [4] 3 hn9) (by decide) canon3c.2.2 canon3c.2.1 canon3c.1).mono ?_
  rintro e w9 ⟨rfl, hf9, hc9⟩
  have S9 := Lib.hid (T9.out.onF hf9 hc9)
  clear f9 hf9 hc9 hn9 T9 S8
  go_wp2_with fail
  refine (canon6_any fb 3 2 2 0 [] none 0 _ S9.out.f (fun w' _ => row_nil none w') (by decide) canon3d.2.2 canon3d.2.1 canon3d.1).mono ?_
  rintro e w10 ⟨rfl, hf10, hc10⟩
  have S10 := Lib.hid (S9.out.onF hf10 hc10)
  clear hf10 hc10 S9
  go_wp2_with fail
  refine (canon6_any gb 0 0 0 0 [] none 0 _ S10.out.g (fun w' _ => row_nil none w') (by decide) canon0.2.2 canon0.2.1 canon0.1).mono ?_
  rintro e w11 ⟨rfl, hf11, hc11⟩
  have S11 := Lib.hid (S10.out.onG hf11 hc11)
  clear hf11 hc11 S10
  go_wp2
  go_ret
  have h := S11.out.b
  rw [← hfb2] at h
  exact ⟨rfl, h⟩
end Go.Proofs.Ytmfkpjafeaidkaa
