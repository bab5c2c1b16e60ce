/- The chapter's examples of layer 7: they are as they are told. -/
import Derived.Test.YtjpemijonjmcdaaLowNodes
namespace Go.Proofs.Ytjpemijonjmcdaa
open Go.RowKit
set_option linter.unusedVariables false

def leafN (i : Int) : Nd := ⟨1, -1, -1, i, i + 1, 0, i⟩
def threeN : List Nd := [leafN 0, leafN 1, ⟨2, 0, 1, 0, 2, 0, 0⟩, leafN 2, ⟨2, 2, 3, 0, 3, 0, 0⟩]

set_option maxRecDepth 100000 in
set_option maxHeartbeats 1000000 in
theorem three1_any (i : Int) (w : World) (h0 : 0 ≤ i) (h1 : i ≤ 10) :
    Calls Try.prog 55 #[.int .i64 i] w fun e w' => e = .returned (leafN i).val ∧ Below w.heap.size w w' := by
  go_enter Try.func55, Try.ntmps55
  go_wp2
  exact bodyPost_ret (v := (leafN i).val) (by simp [results, Try.results55, go_sem, leafN]) rfl ⟨rfl, (Below.refl _ _).alloc (Nat.le_refl _) _⟩

set_option maxRecDepth 100000 in
set_option maxHeartbeats 1000000 in
theorem three_any (w : World) : Calls Try.prog 40 #[] w (NodesP threeN w) := by
  go_enter Try.func40, Try.ntmps40
  go_wp2_with fail
  refine (three1_any 0 _ (by omega) (by omega)).mono ?_
  rintro e w1 ⟨rfl, hb1⟩
  go_wp2_with fail
  refine (three1_any 1 _ (by omega) (by omega)).mono ?_
  rintro e w2 ⟨rfl, hb2⟩
  have hb2' := bl hb1 hb1.size hb2
  clear hb1 hb2
  go_wp2_with fail
  refine (three1_any 2 _ (by omega) (by omega)).mono ?_
  rintro e w3 ⟨rfl, hb3⟩
  have HB := Lib.hid (bl hb2' hb2'.size hb3)
  clear hb2' hb3
  go_wp2
  go_ret
  refine ⟨some ⟨w3.heap.size, 0, none⟩, 5, rfl, ?_, HB.out.alloc HB.out.size _⟩
  have h := World.ownsRow_lit (base := w.heap.size) (e := 36) (size := 7) w3 (flatN threeN).toArray 5 HB.out.size (by unfold maxLen; omega) rfl
  exact h

set_option maxRecDepth 100000 in
set_option maxHeartbeats 1000000 in
theorem leavesx_any (from0 to0 cnt : Int) (want : List Int) (ao : Option Addr) (cap : Nat) (w : World) (hw : Row w ao (want.map (.int .i64))) (hl : want.length ≤ 10)
    (h1 : toldL threeN from0 to0 (walkOut threeN (overB threeN from0 to0) 4) = want) (h2 : ((walkOut threeN (overB threeN from0 to0) 4).length : Int) = cnt) :
    Calls Try.prog 41 #[.int .i64 from0, .int .i64 to0, .int .i64 cnt, .slice ao want.length cap] w fun e w' => e = .returned (.bool true) ∧ Below w.heap.size w w' := by
  have HE := Lib.hid (show walkErr threeN 4 = 0 by decide)
  have H1 := Lib.hid h1
  have H2 := Lib.hid h2
  have HW := Lib.hid hw
  clear h1 h2 hw
  go_enter Try.func41, Try.ntmps41
  go_wp2_with fail
  refine (three_any _).mono ?_
  rintro e w1 ⟨a1, c1, rfl, ho1, hb1⟩
  go_wp2_with fail
  refine (leaves_any threeN a1 c1 4 from0 to0 w1 (row_of_nodes ho1 rfl) (by decide)).mono ?_
  rw [HE.out, H1.out, H2.out]
  rintro e w2 ⟨a2, c2, rfl, ho2, hb2⟩
  have HB := Lib.hid (bl hb1 hb1.size hb2)
  have HO := Lib.hid (row_of_owned ho2)
  clear ho1 hb1 ho2 hb2
  go_wp2_with fail
  refine (ints_any want want a2 ao c2 cap w2 HO.out (HW.out.later HB.out) (by unfold maxLen; omega) (by unfold maxLen; omega)).mono ?_
  rw [show sameB want want = true from decide_eq_true rfl]
  rintro e w3 ⟨rfl, hb3⟩
  have HB3 := Lib.hid (bl HB.out HB.out.size hb3)
  clear hb3
  go_wp2
  go_ret
  exact ⟨rfl, HB3.out⟩

theorem row_lit (w : World) (xs : List Int) (e : TypeId) : Row (w.alloc (.cells (xs.map (Value.int .i64)).toArray e)) (some ⟨w.heap.size, 0, none⟩) (xs.map (.int .i64)) :=
  .inr ⟨w.heap.size, 0, rfl, fun i _ => by rw [Nat.zero_add, cells_at]; simp⟩

set_option maxRecDepth 100000 in
set_option maxHeartbeats 2000000 in
theorem awake7_any (w : World) : Calls Try.prog 14 #[] w fun e w' => e = .returned (.bool true) ∧ Below w.heap.size w w' := by
  have O1 := Lib.hid (show walkOut threeN (fun _ => true) 4 = [4, 2, 0, 1, 3] by decide)
  have E1 := Lib.hid (show walkErr threeN 4 = 0 by decide)
  have O2 := Lib.hid (show walkOut threeN (fun _ => true) 2 = [2, 0, 1] by decide)
  have E2 := Lib.hid (show walkErr threeN 2 = 0 by decide)
  have O3 := Lib.hid (show walkOut threeN (fun _ => true) 5 = [] by decide)
  have E3 := Lib.hid (show walkErr threeN 5 = 2 by decide)
  go_enter Try.func14, Try.ntmps14
  go_wp2_with fail
  refine (three_any _).mono ?_
  rintro e t1 ⟨p1, q1, rfl, hot1, hbt1⟩
  go_wp2_with fail
  refine (all_any threeN p1 q1 4 t1 (row_of_nodes hot1 rfl) (by decide)).mono ?_
  rw [E1.out, O1.out]
  rintro e u1 ⟨a1, c1, rfl, hou1, hbu1⟩
  have R1 := Lib.hid (row_of_owned hou1)
  have B1 := Lib.hid (bl hbt1 hbt1.size hbu1)
  clear hot1 hbt1 hou1 hbu1
  go_wp2_with fail
  refine (three_any _).mono ?_
  rintro e t2 ⟨p2, q2, rfl, hot2, hbt2⟩
  go_wp2_with fail
  refine (all_any threeN p2 q2 2 t2 (row_of_nodes hot2 rfl) (by decide)).mono ?_
  rw [E2.out, O2.out]
  rintro e u2 ⟨a2, c2, rfl, hou2, hbu2⟩
  have R2 := Lib.hid (row_of_owned hou2)
  have B2 := Lib.hid (bl B1.out B1.out.size (bl hbt2 hbt2.size hbu2))
  have D2 := Lib.hid (bl hbt2 hbt2.size hbu2)
  clear hot2 hbt2 hou2 hbu2
  go_wp2_with fail
  refine (three_any _).mono ?_
  rintro e t3 ⟨p3, q3, rfl, hot3, hbt3⟩
  go_wp2_with fail
  refine (all_any threeN p3 q3 5 t3 (row_of_nodes hot3 rfl) (by decide)).mono ?_
  rw [E3.out, O3.out]
  rintro e u3 ⟨a3, c3, rfl, hou3, hbu3⟩
  have R3 := Lib.hid (row_of_owned hou3)
  have B3 := Lib.hid (bl B2.out B2.out.size (bl hbt3 hbt3.size hbu3))
  have D3 := Lib.hid (bl hbt3 hbt3.size hbu3)
  clear hot3 hbt3 hou3 hbu3
  have R1' := Lib.hid (((R1.out.later D2.out).later D3.out))
  have R2' := Lib.hid (R2.out.later D3.out)
  clear R1 R2 R3 D2 D3 B1 B2
  go_wp2_with fail
  have f1 : Below u3.heap.size u3 (u3.alloc (.cells ([4, 2, 0, 1, 3].map (Value.int .i64)).toArray 3)) := (Below.refl _ _).alloc (Nat.le_refl _) _
  refine (ints_any [4, 2, 0, 1, 3] [4, 2, 0, 1, 3] a1 (some ⟨u3.heap.size, 0, none⟩) c1 5 _ (R1'.out.later f1) (row_lit u3 [4, 2, 0, 1, 3] 3) (by decide) (by decide)).mono ?_
  rw [show sameB [4, 2, 0, 1, 3] [4, 2, 0, 1, 3] = true by decide]
  rintro e v1 ⟨rfl, hv1⟩
  have g1 := bl f1 f1.size hv1
  have R2'' := Lib.hid (R2'.out.later g1)
  have B4 := Lib.hid (bl B3.out B3.out.size g1)
  clear f1 hv1 g1
  go_wp2_with fail
  have f2 : Below v1.heap.size v1 (v1.alloc (.cells ([2, 0, 1].map (Value.int .i64)).toArray 3)) := (Below.refl _ _).alloc (Nat.le_refl _) _
  refine (ints_any [2, 0, 1] [2, 0, 1] a2 (some ⟨v1.heap.size, 0, none⟩) c2 3 _ (R2''.out.later f2) (row_lit v1 [2, 0, 1] 3) (by decide) (by decide)).mono ?_
  rw [show sameB [2, 0, 1] [2, 0, 1] = true by decide]
  rintro e v2 ⟨rfl, hv2⟩
  have B5 := Lib.hid (bl B4.out B4.out.size (bl f2 f2.size hv2))
  clear f2 hv2
  go_wp2_with fail
  have f3 : Below v2.heap.size v2 (v2.alloc (.cells ([1, 2].map (Value.int .i64)).toArray 3)) := (Below.refl _ _).alloc (Nat.le_refl _) _
  refine (leavesx_any 1 3 5 [1, 2] (some ⟨v2.heap.size, 0, none⟩) 2 _ (row_lit v2 [1, 2] 3) (by decide) (by decide) (by decide)).mono ?_
  rintro e v3 ⟨rfl, hv3⟩
  have B6 := Lib.hid (bl B5.out B5.out.size (bl f3 f3.size hv3))
  clear f3 hv3
  go_wp2_with fail
  refine (leavesx_any 0 0 1 [] none 0 _ (.inl rfl) (by decide) (by decide) (by decide)).mono ?_
  rintro e v4 ⟨rfl, hv4⟩
  have B7 := Lib.hid (bl B6.out B6.out.size hv4)
  clear hv4
  go_wp2_with fail
  have f5 : Below v4.heap.size v4 (v4.alloc (.cells ([2].map (Value.int .i64)).toArray 3)) := (Below.refl _ _).alloc (Nat.le_refl _) _
  refine (leavesx_any 2 9 3 [2] (some ⟨v4.heap.size, 0, none⟩) 1 _ (row_lit v4 [2] 3) (by decide) (by decide) (by decide)).mono ?_
  rintro e v5 ⟨rfl, hv5⟩
  have B8 := Lib.hid (bl B7.out B7.out.size (bl f5 f5.size hv5))
  clear f5 hv5
  go_wp2
  go_ret
  exact ⟨rfl, B8.out⟩
end Go.Proofs.Ytjpemijonjmcdaa
