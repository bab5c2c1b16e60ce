/- The contract of the chapter's own kids: a node's kids as a list. -/
import Derived.Test.YtjpemijonjmcdaaPoolAwake
namespace Go.Proofs.Ytjpemijonjmcdaa
open Go.RowKit
set_option linter.unusedVariables false
set_option linter.unusedSimpArgs false

def kidsTo (l r : Int) : Nat → List Int
  | 0 => []
  | 1 => if l = -1 then [] else [l]
  | _ => kidsL l r

set_option maxRecDepth 100000 in
set_option maxHeartbeats 1000000 in
theorem lawKids_any (n : Nd) (w : World) : Calls Try.prog 28 #[n.val] w (IntsP n.kids w) := by
  obtain ⟨i0, hi, hzz, hz1, hz2⟩ := info_parts infoInt
  go_enter Try.func28, Try.ntmps28
  go_upto_region 1 with (fail)
  refine from_box1 (fun V hV => ?_)
  obtain ⟨hB, zlt, zge, cn, fn⟩ := hV
  have c1 : V.cell? ⟨w.heap.size, 1, none⟩ = some (.int .i64 n.l) := cn 1
  have c2 : V.cell? ⟨w.heap.size, 2, none⟩ = some (.int .i64 n.r) := cn 2
  have HB0 := Lib.hid hB
  clear hB cn fn
  have hix0 : ∀ w, (Instr.index 37 (.agg #[.int .i64 n.l, .int .i64 n.r]) (.int .i64 0)).run Try.prog w = .ok (.int .i64 n.l) w := fun _ => by kernel_rfl
  have hix1 : ∀ w, (Instr.index 37 (.agg #[.int .i64 n.l, .int .i64 n.r]) (.int .i64 1)).run Try.prog w = .ok (.int .i64 n.r) w := fun _ => by kernel_rfl
  have hix0' : ∀ w, (Instr.index 37 (.agg #[.int .i64 n.l, .int .i64 n.r]) (.int .i64 ((0 : Nat) : Int))).run Try.prog w = .ok (.int .i64 n.l) w := fun _ => by kernel_rfl
  have hix1' : ∀ w, (Instr.index 37 (.agg #[.int .i64 n.l, .int .i64 n.r]) (.int .i64 ((1 : Nat) : Int))).run Try.prog w = .ok (.int .i64 n.r) w := fun _ => by kernel_rfl
  go_wp2_with fail
  go_loopw [3, 11] (fun v i wr => ∃ (k : Nat) (a : Option Addr) (c m : Nat), k ≤ 2 ∧ i = .int .i64 k ∧ v = .slice a m c ∧ m ≤ k ∧ Hid (m = (kidsTo n.l n.r k).length) ∧ Hid (wr.ownsRow w.heap.size 3 1 (.slice a m c) m ((kidsTo n.l n.r k).map (.int .i64))) ∧ Hid (Below w.heap.size w wr)) (fun _ i _ => 2 - (intOf i).toNat)
  case atStart => exact ⟨0, none, 0, 0, by omega, rfl, rfl, Nat.le_refl _, Lib.hid rfl, Lib.hid (World.ownsRow_nil _ _ _ _), HB0⟩
  case round =>
    clear HB0 c1 c2
    obtain ⟨k, a, c, m, hk, rfl, rfl, hm2, HM, HO, HB⟩ := hrel
    have hk3 : k = 0 ∨ k = 1 ∨ k = 2 := by omega
    have hm3 : m ≤ 2 := by omega
    clear hk
    rcases hk3 with rfl | rfl | rfl
    · by_cases hx : n.l = -1
      · have HT := Lib.hid (show kidsTo n.l n.r 1 = kidsTo n.l n.r 0 by unfold kidsTo; simp [kidsL, hx])
        have hb : (n.l == -1) = true := by rw [hx]; rfl
        have HM2 := Lib.hid hm2
        clear hm2 hx
        go_wp2_with fail
        go_roundw
        case rel =>
          refine ⟨1, a, c, m, by omega, rfl, rfl, (by have := HM2.out; omega), Lib.hid ?_, Lib.hid ?_, HB⟩
          · rw [HT.out, HM.out]
          · rw [HT.out]; exact HO.out
        case measure => simp [intOf]
      · have HT := Lib.hid (show kidsTo n.l n.r 1 = kidsTo n.l n.r 0 ++ [n.l] by unfold kidsTo; simp [kidsL, hx])
        have HM2 := Lib.hid hm2
        clear hm2
        go_wp2_with (at_builtin; refine wpList_append_any _ rfl (.tmp 16) (.tmp 18) 25 rfl w.heap.size 3 i0 (.int .i64 0) 1 8 Try.underlying25 hi hzz hz1 hz2 rfl (by decide) _ _ _ rfl (HO.out.alloc _) (wr.heap.size + 1) (some ⟨wr.heap.size, 0, none⟩) 1 1 [.int .i64 n.l] rfl (reads_cells wr #[.int .i64 n.l] _ 1 1 rfl) (by intro u hu; simp at hu; subst hu; rfl) (by unfold maxLen; omega) (by omega) (Nat.le_trans HB.out.size (by simp)) ?_)
        intro v2 w2 ho2 hg2 _
        obtain ⟨a2, k2, rfl⟩ := own_shape ho2
        have HB2 := Lib.hid ((HB.out.alloc HB.out.size (.cells #[.int .i64 n.l] 3)).grown hg2 (Nat.le_trans HB.out.size (by simp)) (fun r hr => (HO.out.lt r hr).1))
        have HO2 := Lib.hid ho2
        clear ho2 hg2
        go_wp2_with fail
        go_roundw
        case rel =>
          refine ⟨1, a2, k2, m + 1, by omega, rfl, rfl, (by have := HM2.out; omega), Lib.hid ?_, Lib.hid ?_, HB2⟩
          · rw [HT.out, HM.out]; simp
          · rw [HT.out]; simpa using HO2.out
        case measure => simp [intOf]
    · by_cases hx : n.r = -1
      · have HT := Lib.hid (show kidsTo n.l n.r 2 = kidsTo n.l n.r 1 by unfold kidsTo; simp [kidsL, hx])
        have hb : (n.r == -1) = true := by rw [hx]; rfl
        have HM2 := Lib.hid hm2
        clear hm2 hx
        go_wp2_with fail
        go_roundw
        case rel =>
          refine ⟨2, a, c, m, by omega, rfl, rfl, (by have := HM2.out; omega), Lib.hid ?_, Lib.hid ?_, HB⟩
          · rw [HT.out, HM.out]
          · rw [HT.out]; exact HO.out
        case measure => simp [intOf]
      · have HT := Lib.hid (show kidsTo n.l n.r 2 = kidsTo n.l n.r 1 ++ [n.r] by unfold kidsTo; simp [kidsL, hx])
        have HM2 := Lib.hid hm2
        clear hm2
        go_wp2_with (at_builtin; refine wpList_append_any _ rfl (.tmp 16) (.tmp 18) 25 rfl w.heap.size 3 i0 (.int .i64 0) 1 8 Try.underlying25 hi hzz hz1 hz2 rfl (by decide) _ _ _ rfl (HO.out.alloc _) (wr.heap.size + 1) (some ⟨wr.heap.size, 0, none⟩) 1 1 [.int .i64 n.r] rfl (reads_cells wr #[.int .i64 n.r] _ 1 1 rfl) (by intro u hu; simp at hu; subst hu; rfl) (by unfold maxLen; omega) (by omega) (Nat.le_trans HB.out.size (by simp)) ?_)
        intro v2 w2 ho2 hg2 _
        obtain ⟨a2, k2, rfl⟩ := own_shape ho2
        have HB2 := Lib.hid ((HB.out.alloc HB.out.size (.cells #[.int .i64 n.r] 3)).grown hg2 (Nat.le_trans HB.out.size (by simp)) (fun r hr => (HO.out.lt r hr).1))
        have HO2 := Lib.hid ho2
        clear ho2 hg2
        go_wp2_with fail
        go_roundw
        case rel =>
          refine ⟨2, a2, k2, m + 1, by omega, rfl, rfl, (by have := HM2.out; omega), Lib.hid ?_, Lib.hid ?_, HB2⟩
          · rw [HT.out, HM.out]; simp
          · rw [HT.out]; simpa using HO2.out
        case measure => simp [intOf]
    · go_wp2
      go_ret
      have hm := HM.out
      subst hm
      exact ⟨a, c, rfl, HO.out, HB.out⟩
end Go.Proofs.Ytjpemijonjmcdaa
