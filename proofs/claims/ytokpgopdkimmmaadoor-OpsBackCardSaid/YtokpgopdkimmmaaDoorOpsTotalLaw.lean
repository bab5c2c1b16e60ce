/- OpsTotal: the walk. -/
import Derived.Test.YtokpgopdkimmmaaDoorOpsJoinLaw
import Derived.Test.YtokpgopdkimmmaaDoorRegionG
namespace Go.Proofs.YtokpgopdkimmmaaDoor
open Go.RowKit
set_option linter.unusedVariables false
set_option linter.unusedSimpArgs false

/-- What Read leaves. -/
def ReadP (l : List Nat) (w w' : World) (a : Option Addr) (n c : Nat) (er : Int) : Prop :=
  (er = 0 ∧ l.length = 37 * n ∧ w'.ownsRow w.heap.size 29 6 (.slice a n c) n (flatR OpV.cells (readN n l))) ∨ (er = 270 ∧ n = 0 ∧ a = none ∧ c = 0 ∧ l.length % 37 ≠ 0)
theorem read_all (l : List Nat) (A : Option Addr) (cap : Nat) (w : World) (hn : l.length ≤ 100000) (hcap : l.length ≤ cap) (hmax : cap ≤ maxLen) (hl : ∀ x ∈ l, x < 256) (hr : RecRow w bcell 1 A l) :
    Calls Tryd.prog 8 #[.slice A l.length cap] w fun e w' => ∃ a n c er, e = .returned (.tuple #[.slice a n c, .int .i64 er]) ∧ Below w.heap.size w w' ∧ ReadP l w w' a n c er := by
  by_cases hm : l.length % 37 = 0
  · refine (read_any l (l.length / 37) A cap w (by omega) (by omega) hcap hmax hl hr).mono ?_
    rintro e w' ⟨v, rfl, ho, hb⟩
    obtain ⟨a, c, rfl⟩ := own_shape ho
    exact ⟨a, _, c, 0, rfl, hb, .inl ⟨rfl, by omega, ho⟩⟩
  · refine (read_bad l A cap w (by omega) hm).mono ?_
    rintro e w' ⟨rfl, hb⟩
    exact ⟨none, 0, 0, 270, rfl, hb, .inr ⟨rfl, rfl, rfl, rfl, hm⟩⟩
theorem conv_rec {w : World} {A : Option Addr} {l : List Nat} {cap : Nat} (h : RecRow w bcell 1 A l) : (convert 24 9 (.slice A l.length cap)).run Tryd.prog w = .ok (.string (strB l)) w := by
  rcases h with rfl | ⟨g, lo, rfl, hg, h⟩
  · cases A with
    | none => exact run_convert_bytes_nil w _ _ Tryd.underlying24 Tryd.underlying5 0 cap _ Tryd.underlying9
    | some a =>
      obtain ⟨b, o, s⟩ := a
      rw [run_convert_bytes_string w _ _ _ _ _ _ Tryd.underlying24 Tryd.underlying5 Tryd.underlying9, run_bytesToString w _ _ _ [] (by simpa using run_loadCells_list (P := Tryd.prog) w ⟨b, o, s⟩ [] (fun j v hj => by simp at hj))]
      rfl
  · rw [run_convert_bytes_arg w _ _ Tryd.underlying24 Tryd.underlying5 g lo l.length cap (l.map Int.ofNat) (by simp) (fun i hi => by
      have := h i l[i] (List.getElem?_eq_getElem hi) 0 (by decide)
      rw [Nat.mul_one, Nat.add_zero] at this
      rw [this]
      simp [bcell, bval, List.getD, List.getElem?_map, List.getElem?_eq_getElem hi]) _ Tryd.underlying9]
    congr 2
    unfold strOfNums strB
    simp
theorem str_eta (s : ByteArray) : (⟨s.data.toList.toArray⟩ : ByteArray) = s := by apply ByteArray.ext; simp
set_option maxRecDepth 100000 in
set_option maxHeartbeats 4000000 in
theorem OpsTotal_walk (l : List Nat) (hl : ∀ x ∈ l, x < 256) (A : Option Addr) (cap : Nat) (hcap : l.length ≤ cap) (hmax : cap ≤ maxLen) (s : ByteArray) (hs : s.size ≤ maxLen) (w : World) (hA : RecRow w bcell 1 A l) (hE : Env27 w) :
    Calls Tryd.prog 5 #[.slice A l.length cap, .string s] w fun e w' => e = .returned (.bool true) ∧ Below w.heap.size w w' := by
  have HE := Lib.hid hE
  have HA := Lib.hid hA
  have HCM := Lib.hid hmax
  unfold maxLen at hs hmax
  clear hE hA
  by_cases h1 : 2000 < l.length
  · have hd : decide ((2000 : Int) < (l.length : Int)) = true := decide_eq_true (by omega)
    go_enter Tryd.func5, Tryd.ntmps5
    go_wp2_with fail
    refine (awake27_any w HE.out).mono ?_
    rintro e w1 ⟨rfl, hb1⟩
    go_wp2
    go_ret
    exact ⟨rfl, hb1⟩
  · have hd : decide ((2000 : Int) < (l.length : Int)) = false := decide_eq_false (by omega)
    by_cases h2 : 2000 < s.size
    · have hd2 : decide ((2000 : Int) < (s.size : Int)) = true := decide_eq_true (by omega)
      go_enter Tryd.func5, Tryd.ntmps5
      go_wp2_with fail
      refine (awake27_any w HE.out).mono ?_
      rintro e w1 ⟨rfl, hb1⟩
      go_wp2
      go_ret
      exact ⟨rfl, hb1⟩
    · have hd2 : decide ((2000 : Int) < (s.size : Int)) = false := decide_eq_false (by omega)
      have h3 : l.length ≤ 2000 := by omega
      have h4 : s.size ≤ 2000 := by omega
      have HL := Lib.hid hl
      have HP := Lib.hid (fun (W : World) (h : Env27 W) => by
        have g := opparse_any s.data.toList (by have : s.data.toList.length = s.size := by simp
                                                omega) W h.t h.k h.e h.m
        rw [str_eta] at g
        exact g)
      clear hl h1 h2
      go_enter Tryd.func5, Tryd.ntmps5
      go_wp2_with fail
      refine (read_all l A cap w (by omega) hcap HCM.out HL.out HA.out).mono ?_
      rintro e w1 ⟨a, n, c, er, rfl, hb1, hr1⟩
      have HB1 := Lib.hid hb1
      have HR1 := Lib.hid hr1
      clear hb1 hr1
      go_upto_region 4 with (fail)
      go_cut [50] (fun v wd => v = .bool false ∧ Hid (Below w.heap.size w wd))
      case first =>
        rcases HR1.out with ⟨rfl, hn, ho⟩ | ⟨rfl, rfl, rfl, rfl, hm⟩
        · have HBY := Lib.hid (fun (W : World) (h : OpRow W a (readN n l)) => by
            have g := bytes_all (readN n l) (readN_ok n l HL.out) (by rw [readN_len]; omega) a c W h
            rw [readN_len, bytes_readN n l HL.out hn] at g
            exact g)
          have hrow : OpRow w1 a (readN n l) := RecRow.of_own opk ho (by rw [readN_len])
          have HRW := Lib.hid (show OpRow w1.drew a (readN n l) from hrow)
          have hA1 := RecRow.later HA.out HB1.out
          have HA1 := Lib.hid (show RecRow w1.drew bcell 1 A l from hA1)
          have hcv0 := conv_rec (cap := cap) HA1.out
          clear hrow hA1 ho hn
          refine wp_region_until (fun w' => (convert 24 9 (.slice A l.length cap)).run Tryd.prog w' = .ok (.string (strB l)) w') [4, 5, 7] (by kernel_rfl) ?_
          have hS : ((fun w' => (convert 24 9 (.slice A l.length cap)).run Tryd.prog w' = .ok (.string (strB l)) w')) w1.drew := hcv0
          refine wpAnyG_free (i := 0) rfl (by kernel_rfl) (by kernel_rfl) (by kernel_rfl) (by kernel_rfl) (by kernel_rfl) (fun _ _ _ h => h) rfl (fun w => by go_simp; rfl) (.inr hS) ?_
          (try simp only [Act.put, List.setIfInBounds_toArray, List.set_cons_zero, List.set_cons_succ])
          refine wpAnyG_free (i := 1) rfl (by kernel_rfl) (by kernel_rfl) (by kernel_rfl) (by kernel_rfl) (by kernel_rfl) (fun _ _ _ h => h) rfl (fun w => by go_simp; rfl) (.inr hS) ?_
          (try simp only [Act.put, List.setIfInBounds_toArray, List.set_cons_zero, List.set_cons_succ])
          refine wpAnyG_free (i := 2) rfl (by kernel_rfl) (by kernel_rfl) (by kernel_rfl) (by kernel_rfl) (by kernel_rfl) (fun _ _ _ h => h) rfl (fun w => by go_simp; rfl) (.inr hS) ?_
          (try simp only [Act.put, List.setIfInBounds_toArray, List.set_cons_zero, List.set_cons_succ])
          refine wpAnyG_free (i := 3) rfl (by kernel_rfl) (by kernel_rfl) (by kernel_rfl) (by kernel_rfl) (by kernel_rfl) (fun _ _ _ h => h) rfl (fun w => by go_simp; rfl) (.inr hS) ?_
          (try simp only [Act.put, List.setIfInBounds_toArray, List.set_cons_zero, List.set_cons_succ])
          refine wpAnyG_free (i := 6) rfl (by kernel_rfl) (by kernel_rfl) (by kernel_rfl) (by kernel_rfl) (by kernel_rfl) (fun _ _ _ h => h) rfl (fun w => by go_simp; rfl) (.inr hS) ?_
          (try simp only [Act.put, List.setIfInBounds_toArray, List.set_cons_zero, List.set_cons_succ])
          refine wpAnyG_take (i := 7) rfl (by kernel_rfl) (by kernel_rfl) (by kernel_rfl) (by kernel_rfl) (by kernel_rfl) (by kernel_rfl) (fun _ _ _ h => h) rfl (by intro w hw; go_simp; rfl) hS ?_
          (try simp only [Act.put, List.setIfInBounds_toArray, List.set_cons_zero, List.set_cons_succ])
          refine wpAnyG_step (i := 4) rfl (by kernel_rfl) rfl (fun K hK => ?_)
          go_simp
          refine (HBY.out _ HRW.out).mono ?_
          rintro e w3 ⟨v3, rfl, ho3, hb3⟩
          have hcv3 := conv_bytes ho3
          refine hK.out _ _ (conv_rec (cap := cap) (RecRow.later HA1.out hb3)) (fun hS3 => ?_)
          clear hK K
          (try simp only [Act.put, List.setIfInBounds_toArray, List.set_cons_zero, List.set_cons_succ])
          refine wpAnyG_step (i := 5) rfl (by kernel_rfl) rfl (fun K hK => ?_)
          go_simp
          refine hK.out _ _ hS3 (fun _ => ?_)
          clear hK K
          (try simp only [Act.put, List.setIfInBounds_toArray, List.set_cons_zero, List.set_cons_succ])
          refine wpAnyU_rest _ 8 21 rfl rfl (by kernel_rfl) (by kernel_rfl) ?_
          simp only [List.drop_succ_cons, List.drop_zero]
          have HBZ := Lib.hid (show Below w.heap.size w w3 from bl HB1.out.drew HB1.out.size hb3)
          clear ho3 hb3 hcv3 hcv0 hS hS3
          go_wp2_with fail
          go_meet
          case rel => exact ⟨rfl, HBZ⟩
        · have ht : ((l.length : Int).tmod 37 == 0) = false := by
            rw [Int.tmod_eq_emod_of_nonneg (by omega)]
            simp; omega
          have ht2 : ((l.length : Int) % 37 == 0) = false := by simp; omega
          go_quiet (fail)
          go_wp2_with fail
          go_meet
          case rel => exact ⟨rfl, Lib.hid (below_drewN' HB1.out _)⟩
      case rest =>
        obtain ⟨rfl, HBZ⟩ := hcut
        clear HB1 HR1
        go_wp2_with fail
        refine (HP.out _ (HE.out.later HBZ.out)).mono ?_
        cases hp : parseOp s.data.toList with
        | none =>
          rintro e w5 ⟨he, hb5⟩
          obtain rfl : e = .returned (.tuple #[.agg #[.int .u8 0, .int .i64 0, .int .i64 0, .int .i64 0, .int .i64 0, .int .u32 0], .int .i64 270]) := he
          have HB5 := Lib.hid (bl HBZ.out HBZ.out.size hb5)
          clear hb5 hp HBZ
          have HB6 := Lib.hid (HB5.out.alloc HB5.out.size (.cells #[.int .u8 0, .int .i64 0, .int .i64 0, .int .i64 0, .int .i64 0, .int .u32 0] 29))
          go_wp2_with fail
          refine (awake27_any _ (HE.out.later HB6.out)).mono ?_
          rintro e w9 ⟨rfl, hb9⟩
          have HB9 := Lib.hid (bl HB6.out HB6.out.size hb9)
          clear hb9
          go_wp2
          go_ret
          exact ⟨rfl, HB9.out⟩
        | some p =>
          have HTX := Lib.hid (fun (W : World) (h : Env27 W) => by
            have g := optext_any p (parse_ok hp) W h.t h.k h.e
            rw [parse_text_of hp, str_eta] at g
            exact g)
          rintro e w5 ⟨he, hb5⟩
          obtain rfl : e = .returned (.tuple #[.agg #[.int .u8 (p.k : Int), .int .i64 p.a, .int .i64 p.b, .int .i64 p.c, .int .i64 p.d, .int .u32 (p.id : Int)], .int .i64 0]) := he
          have HB5 := Lib.hid (bl HBZ.out HBZ.out.size hb5)
          clear hb5 hp HBZ
          have HB6 := Lib.hid (HB5.out.alloc HB5.out.size (.cells #[.int .u8 (p.k : Int), .int .i64 p.a, .int .i64 p.b, .int .i64 p.c, .int .i64 p.d, .int .u32 (p.id : Int)] 29))
          go_wp2_with fail
          refine (HTX.out _ (HE.out.later HB6.out)).mono ?_
          rintro e w7 ⟨rfl, hb7⟩
          have HB7 := Lib.hid (bl HB6.out HB6.out.size hb7)
          clear hb7
          go_wp2_with fail
          refine (awake27_any _ (HE.out.later HB7.out)).mono ?_
          rintro e w9 ⟨rfl, hb9⟩
          have HB9 := Lib.hid (bl HB7.out HB7.out.size hb9)
          clear hb9
          go_wp2
          go_ret
          exact ⟨rfl, HB9.out⟩
end Go.Proofs.YtokpgopdkimmmaaDoor
