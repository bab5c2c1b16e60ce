/- The walk of PoolRoom. -/
import Derived.Test.YtjpemijonjmcdaaPoolNil
namespace Go.Proofs.Ytjpemijonjmcdaa
open Go.RowKit
set_option linter.unusedVariables false
set_option linter.unusedSimpArgs false

set_option maxRecDepth 100000 in
set_option maxHeartbeats 4000000 in
theorem PoolRoom_walk (r : Int) (h0 : 0 ≤ r) (h1 : r ≤ 255) (W : World) :
    Calls Try.prog 12 #[.int .u8 r] W fun e w' => e = .returned (.bool true) ∧ Below W.heap.size W w' := by
  have hem : r.tmod 201 = r % 201 := Int.tmod_eq_emod_of_nonneg h0
  obtain ⟨m, hm⟩ : ∃ m : Nat, r.tmod 201 = (m : Int) := ⟨(r.tmod 201).toNat, by omega⟩
  have hm2 : m ≤ 200 := by omega
  clear hem
  go_enter Try.func12, Try.ntmps12
  go_wp2_with fail
  refine (new_any m _ (by omega) (by omega)).mono ?_
  rintro e w1 ⟨rfl, rfl⟩
  have HP1 := Lib.hid (PoolOwn.new W m (by omega) (by omega) (Nat.le_refl W.heap.size))
  have HB1 := Lib.hid ((Below.refl W.heap.size W).alloc (Nat.le_refl _) (newPool m))
  generalize W.alloc (newPool m) = V1 at HP1 HB1 ⊢
  clear hm
  go_wp2_with fail
  go_loopw [29] (fun i wr => ∃ j : Nat, j ≤ m ∧ i = .int .i64 j ∧ Hid (PoolOwn W.heap.size W.heap.size m (List.replicate j lfN) wr) ∧ Hid (Below W.heap.size W wr)) (fun i _ => m - (intOf i).toNat)
  case atStart => exact ⟨0, Nat.zero_le _, rfl, HP1, HB1⟩
  case round =>
    clear HP1 HB1
    obtain ⟨j, hj, rfl, HP, HB⟩ := hrel
    by_cases hlt : j < m
    · have HT := Lib.hid (put_leaf j m (by omega))
      go_wp2_with fail
      refine (leaf5_any _).mono ?_
      rintro e w2 ⟨rfl, hb2⟩
      have HP2 := Lib.hid (HP.out.later hb2)
      have HB2 := Lib.hid (bl HB.out HB.out.size hb2)
      clear hb2 HP HB
      go_wp2_with fail
      refine (put_own lfN _ HP2.out HB2.out.size).mono ?_
      rw [HT.out.1, HT.out.2.1, HT.out.2.2]
      rintro e w3 ⟨rfl, hp3, hb3⟩
      have HP3 := Lib.hid hp3
      have HB3 := Lib.hid (HB2.out.trans hb3)
      clear hp3 hb3 HP2 HB2 HT
      go_wp2_with fail
      go_roundw
      case rel => exact ⟨j + 1, by omega, by go_num, HP3, HB3⟩
      case measure => simp [intOf]; omega
    · have hje : j = m := by omega
      subst hje
      clear hlt hj
      have HF := Lib.hid (put_full j)
      have HQ := Lib.hid (put_past j)
      go_wp2_with fail
      refine (leaf5_any _).mono ?_
      rintro e w2 ⟨rfl, hb2⟩
      have HP2 := Lib.hid (HP.out.later hb2)
      have HB2 := Lib.hid (bl HB.out HB.out.size hb2)
      clear hb2 HP HB
      go_wp2_with fail
      refine (put_own lfN _ HP2.out HB2.out.size).mono ?_
      rw [HF.out.1, HF.out.2]
      rintro e w3 ⟨rfl, hp3, hb3⟩
      have HP3 := Lib.hid hp3
      have HB3 := Lib.hid (HB2.out.trans hb3)
      clear hp3 hb3 HP2 HB2 HF
      go_wp2_with fail
      refine (inner5_any j (-1) _).mono ?_
      rintro e w4 ⟨rfl, hb4⟩
      have HP4 := Lib.hid (HP3.out.later hb4)
      have HB4 := Lib.hid (bl HB3.out HB3.out.size hb4)
      clear hb4 HP3 HB3
      go_wp2_with fail
      refine (put_own (inN j (-1)) _ HP4.out HB4.out.size).mono ?_
      rw [HQ.out.1, HQ.out.2]
      rintro e w5 ⟨rfl, hp5, hb5⟩
      have HP5 := Lib.hid hp5
      have HB5 := Lib.hid (HB4.out.trans hb5)
      clear hp5 hb5 HP4 HB4 HQ
      go_wp2_with fail
      refine (leaf5_any _).mono ?_
      rintro e w6 ⟨rfl, hb6⟩
      have HP6 := Lib.hid (HP5.out.later hb6)
      have HB6 := Lib.hid (bl HB5.out HB5.out.size hb6)
      clear hb6 HP5 HB5
      go_wp2_with fail
      refine (put_nil lfN _).mono ?_
      rintro e w7 ⟨rfl, hb7⟩
      have HP7 := Lib.hid (HP6.out.later hb7)
      have HB7 := Lib.hid (bl HB6.out HB6.out.size hb7)
      clear hb7 HP6 HB6
      go_wp2_with fail
      have hbx : Below w7.heap.size w7 (w7.alloc (.cells #[.int .i64 0, .slice none 0 0, .slice none 0 0, .bool false] 60)) := (Below.refl _ _).alloc (Nat.le_refl _) _
      refine (inner5_any (-1) (-1) _).mono ?_
      rintro e w8 ⟨rfl, hb8⟩
      have hc3 : w8.cell? ⟨w7.heap.size, 3, none⟩ = some (.bool false) := (hb8.cell (p := ⟨w7.heap.size, 3, none⟩) (by simp)).trans (cells_at _ _ _ 3)
      have HP8 := Lib.hid ((HP7.out.later hbx).later hb8)
      have HB8 := Lib.hid (bl (bl HB7.out HB7.out.size hbx) (bl HB7.out HB7.out.size hbx).size hb8)
      have HC8 := Lib.hid hc3
      clear hb8 hbx hc3 HP7 HB7
      go_wp2_with fail
      refine (put_unmade (inN (-1) (-1)) _ _ HC8.out).mono ?_
      rintro e w9 ⟨rfl, hb9⟩
      have HP9 := Lib.hid (HP8.out.later hb9)
      have HB9 := Lib.hid (bl HB8.out HB8.out.size hb9)
      clear hb9 HP8 HB8 HC8
      go_wp2_with fail
      refine (get_nil 0 _).mono ?_
      rintro e w10 ⟨rfl, hb10⟩
      have HP10 := Lib.hid (HP9.out.later hb10)
      have HB10 := Lib.hid (bl HB9.out HB9.out.size hb10)
      clear hb10 HP9 HB9
      go_wp2_with fail
      refine (len_nil _).mono ?_
      rintro e w11 ⟨rfl, rfl⟩
      go_wp2_with fail
      refine (roots_nil _).mono ?_
      rintro e w12 ⟨rfl, rfl⟩
      go_wp2_with fail
      refine (poolNodes_nil _).mono ?_
      rintro e w13 ⟨rfl, rfl⟩
      have hbz : Below w10.heap.size w10 (w10.alloc (.cells #[.int .u8 0, .int .i64 0, .int .i64 0, .int .i64 0, .int .i64 0, .int .i64 0, .int .i64 0] 36)) := (Below.refl _ _).alloc (Nat.le_refl _) _
      have HP13 := Lib.hid (HP10.out.later hbz)
      have HB13 := Lib.hid (bl HB10.out HB10.out.size hbz)
      clear hbz HP10 HB10
      go_wp2_with fail
      refine (len_own _ HP13.out).mono ?_
      rw [List.length_replicate]
      rintro e w14 ⟨rfl, rfl⟩
      go_wp2_with fail
      refine (roots_own _ HP13.out).mono ?_
      rw [ks_leaves]
      rintro e w15 ⟨ra, rc, rfl, hor, hb15⟩
      rw [roots_leaves]
      have HB15 := Lib.hid (bl HB13.out HB13.out.size hb15)
      clear hor hb15 HP13 HB13
      go_wp2_with fail
      refine (awake5_any _).mono ?_
      rintro e w16 ⟨rfl, hb16⟩
      have HB16 := Lib.hid (bl HB15.out HB15.out.size hb16)
      clear hb16
      go_wp2
      go_ret
      exact ⟨rfl, HB16.out⟩
end Go.Proofs.Ytjpemijonjmcdaa
