/- The contract of gridironref06.Nodes: the document's nodes are those of the tree. -/
import Derived.Test.YtmfkpjafeaidkaaCanon
namespace Go.Proofs.Ytmfkpjafeaidkaa
open Go.RowKit
set_option linter.unusedVariables false
set_option linter.unusedSimpArgs false

def RefNodesOk (n : Nat) : Prop := ∀ (f t b : Int) (w : World), t = f + n → 0 ≤ f → t ≤ 1000000 → 0 ≤ b → b + 2 * n ≤ 2000000 →
  Calls Try.prog 11 #[.int .i64 f, .int .i64 t, .int .i64 b] w (NodesP (treeL n f b) w)

set_option maxRecDepth 100000 in
set_option maxHeartbeats 1000000 in
theorem refNodes_zero : RefNodesOk 0 := by
  intro f t b w ht h0 h1 h2 h3
  have hq : t - f < 1 := by omega
  have HE := Lib.hid (treeL_zero f b)
  have h4 : f ≤ t := by omega
  clear ht h2 h3
  go_enter Try.func11, Try.ntmps11
  go_wp2
  go_ret
  rw [HE.out]
  exact ⟨none, 0, rfl, World.ownsRow_nil _ _ _ _, Below.refl _ _⟩
set_option maxRecDepth 100000 in
set_option maxHeartbeats 1000000 in
theorem refNodes_one : RefNodesOk 1 := by
  intro f t b w ht h0 h1 h2 h3
  have hq : ¬ t - f < 1 := by omega
  have hq2 : (t - f == 1) = true := by simp; omega
  have HE := Lib.hid (treeL_one f b)
  have HT := Lib.hid (show t = f + 1 by omega)
  have h4 : f ≤ t := by omega
  clear ht
  go_enter Try.func11, Try.ntmps11
  go_wp2
  go_ret
  rw [HE.out]
  refine ⟨some ⟨w.heap.size, 0, none⟩, 1, rfl, ?_, (Below.refl _ _).alloc (Nat.le_refl _) _⟩
  have h := World.ownsRow_lit (base := w.heap.size) (e := 49) (size := 7) w (flatN [leafNd f]).toArray 1 (Nat.le_refl _) (by unfold maxLen; omega) rfl
  rw [HT.out]
  exact h
set_option maxRecDepth 100000 in
set_option maxHeartbeats 4000000 in
theorem refNodes_two {n : Nat} (hn : 2 ≤ n) (i1 : RefNodesOk (lhalf n)) (i2 : RefNodesOk (n / 2)) : RefNodesOk n := by
  intro f t b w ht h0 h1 h2 h3
  obtain ⟨la, lb, lc, ld⟩ := lhalf_lt hn
  have hs := lhalf_add n
  have hq : ¬ t - f < 1 := by omega
  have hq2 : (t - f == 1) = false := by simp; omega
  have HMID := Lib.hid (show f + (t - f + 1) / 2 = f + lhalf n by rw [ht]; unfold lhalf; omega)
  have HTR := Lib.hid (treeL_two hn f b)
  have HI := Lib.hid (show innerNd n f b = ⟨2, b + (2 * lhalf n - 2), b + (2 * n - 3), f, t, 0, 0⟩ by rw [ht]; rfl)
  obtain ⟨nl, hnl⟩ : ∃ nl, (treeL (lhalf n) f b).length = nl := ⟨_, rfl⟩
  obtain ⟨nr, hnr⟩ : ∃ nr, (treeL (n / 2) (f + lhalf n) (b + (2 * lhalf n - 1))).length = nr := ⟨_, rfl⟩
  have hnl' := treeL_len lc f b
  have hnr' := treeL_len ld (f + lhalf n) (b + (2 * lhalf n - 1))
  have HNL := Lib.hid (show nl = 2 * lhalf n - 1 by omega)
  have HNR := Lib.hid (show nr = 2 * (n / 2) - 1 by omega)
  have hl1 : 1 ≤ nl ∧ nl ≤ 2000000 := by omega
  have hr1 : 1 ≤ nr ∧ nr ≤ 2000000 := by omega
  obtain ⟨hl1, hl2⟩ := hl1
  obtain ⟨hr1, hr2⟩ := hr1
  have h4 : b ≤ 2000000 := by omega
  have HS := Lib.hid (show lhalf n + n / 2 = n ∧ 1 ≤ lhalf n ∧ 1 ≤ n / 2 ∧ t = f + n from ⟨hs, lc, ld, ht⟩)
  have I1 := Lib.hid i1
  have I2 := Lib.hid i2
  have H3 := Lib.hid h3
  have h5 : f ≤ t := by omega
  have HL := Lib.hid hnl
  have HR := Lib.hid hnr
  clear i1 i2 la lb lc ld hs hnl' hnr' hn ht h3 hnl hnr
  go_enter Try.func11, Try.ntmps11
  go_wp2_with fail
  generalize f + (t - f + 1) / 2 = mid at HMID ⊢
  refine (I1.out f mid b w HMID.out h0 (by have := HMID.out; have := HS.out; omega) h2 (by have := H3.out; have := HS.out; omega)).mono ?_
  rintro e w1 ⟨a1, c1, rfl, ho1, hb1⟩
  rw [HL.out] at ho1 ⊢
  have HO1 := Lib.hid ho1
  have HB1 := Lib.hid hb1
  clear ho1 hb1
  go_wp2_with fail
  refine (I2.out mid t (b + nl) w1 (by have := HMID.out; have := HS.out; omega) (by have := HMID.out; have := HS.out; omega) h1 (by omega) (by have := H3.out; have := HS.out; have := HNL.out; omega)).mono ?_
  have hmid2 : treeL (n / 2) mid (b + nl) = treeL (n / 2) (f + lhalf n) (b + (2 * lhalf n - 1)) := by
    have := HNL.out; have := HS.out
    rw [HMID.out, show b + (nl : Int) = b + (2 * lhalf n - 1) by omega]
  rw [hmid2]
  rintro e w2 ⟨a2, c2, rfl, ho2, hb2⟩
  rw [HR.out] at ho2 ⊢
  have HR2 := Lib.hid (row_of_nodes ho2 HR.out.symm).reads
  have HO2 := Lib.hid (own_below HO1.out hb2)
  have HB2 := Lib.hid (bl HB1.out HB1.out.size hb2)
  obtain ⟨i0, hi, hzz, hz1, hz2⟩ := info_parts infoNode
  clear ho2 hb2 hmid2
  have HRL := Lib.hid (show Reads w2 w2.heap.size 7 a2 nr (flatN (treeL (n / 2) (f + lhalf n) (b + (2 * lhalf n - 1)))) by have h := HR2.out; rw [HR.out] at h; exact h)
  go_wp2_with (at_builtin; refine wpList_append_any _ rfl (.tmp 42) (.tmp 43) 27 rfl w.heap.size 49 i0 (nodeV 0 0 0 0 0 0 0) 7 56 Try.underlying27 hi hzz hz1 hz2 rfl (by decide) _ _ _ rfl HO2.out _ _ _ _ _ rfl HRL.out (flatN_one _) (by unfold maxLen; omega) (by omega) HB2.out.size ?_)
  intro v3 w3 ho3 hg3 _
  obtain ⟨a3, c3, rfl⟩ := own_shape ho3
  have HB3 := Lib.hid (HB2.out.grown hg3 HB2.out.size (fun r hr => (HO2.out.lt r hr).1))
  have HO3 := Lib.hid ho3
  clear ho3 hg3
  go_wp2_with (at_builtin; refine wpList_append_any _ rfl (.tmp 45) (.tmp 59) 27 rfl w.heap.size 49 i0 (nodeV 0 0 0 0 0 0 0) 7 56 Try.underlying27 hi hzz hz1 hz2 rfl (by decide) _ _ _ rfl (HO3.out.alloc _) (w3.heap.size + 1) (some ⟨w3.heap.size, 0, none⟩) 1 1 [.int .u8 2, .int .i64 (b + nl - 1), .int .i64 (b + (nl + nr) - 1), .int .i64 f, .int .i64 t, .int .i64 0, .int .i64 0] rfl (reads_cells w3 #[.int .u8 2, .int .i64 (b + nl - 1), .int .i64 (b + (nl + nr) - 1), .int .i64 f, .int .i64 t, .int .i64 0, .int .i64 0] _ 1 7 rfl) (by intro u hu; simp at hu; rcases hu with rfl | rfl | rfl | rfl | rfl | rfl | rfl <;> rfl) (by unfold maxLen; omega) (by omega) (Nat.le_trans HB3.out.size (by simp)) ?_)
  intro v4 w4 ho4 hg4 _
  obtain ⟨a4, c4, rfl⟩ := own_shape ho4
  have HB4 := Lib.hid ((HB3.out.alloc HB3.out.size (.cells #[.int .u8 2, .int .i64 (b + nl - 1), .int .i64 (b + (nl + nr) - 1), .int .i64 f, .int .i64 t, .int .i64 0, .int .i64 0] 49)).grown hg4 (Nat.le_trans HB3.out.size (by simp)) (fun r hr => (HO3.out.lt r hr).1))
  have HO4 := Lib.hid ho4
  clear ho4 hg4
  go_wp2
  go_ret
  have hlen : (treeL n f b).length = nl + nr + 1 := by rw [HTR.out, List.length_append, List.length_append, HL.out, HR.out]; simp; omega
  have hflat : flatN (treeL n f b) = flatN (treeL (lhalf n) f b) ++ flatN (treeL (n / 2) (f + lhalf n) (b + (2 * lhalf n - 1))) ++ [.int .u8 2, .int .i64 (b + nl - 1), .int .i64 (b + (nl + nr) - 1), .int .i64 f, .int .i64 t, .int .i64 0, .int .i64 0] := by
    have h1 := HNL.out; have h2 := HNR.out; have h3 := HS.out
    rw [HTR.out, HI.out, show b + (2 * (lhalf n : Int) - 2) = b + nl - 1 by omega, show b + (2 * (n : Int) - 3) = b + (nl + nr) - 1 by omega]
    simp [flatN, Nd.cells]
  refine ⟨a4, c4, by rw [hlen]; rfl, ?_, HB4.out⟩
  rw [hlen, hflat, List.append_assoc]
  exact HO4.out
theorem refNodes_any (n : Nat) : RefNodesOk n := by
  cases n with
  | zero => exact refNodes_zero
  | succ n => exact half_ind (M := RefNodesOk) refNodes_one (fun n h i1 i2 => refNodes_two h i1 i2) (n + 1) (by omega)
end Go.Proofs.Ytmfkpjafeaidkaa
