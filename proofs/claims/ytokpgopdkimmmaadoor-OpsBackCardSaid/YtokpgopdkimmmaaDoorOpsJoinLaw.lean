/- OpsJoin: the walk. -/
import Derived.Test.YtokpgopdkimmmaaDoorOpAwake
import Derived.Deep.RegionWith
namespace Go.Proofs.YtokpgopdkimmmaaDoor
open Go.RowKit
set_option linter.unusedVariables false
set_option linter.unusedSimpArgs false

theorem own_later {w w' : World} {base : Nat} {e : TypeId} {size n : Nat} {v : Value} {xs : List Value} (h : w.ownsRow base e size v n xs) (hb : Below w.heap.size w w') : w'.ownsRow base e size v n xs :=
  ownsRow_block h (fun g hg => hb.block g (h.lt g hg).2)
set_option maxRecDepth 100000 in
set_option maxHeartbeats 4000000 in
theorem OpsJoin_walk (ls ms : List OpV) (hl : ∀ o ∈ ls, o.ok) (hm : ∀ o ∈ ms, o.ok) (A B : Option Addr) (ca cb : Nat) (hln : ls.length ≤ 1000000000000000) (hmn : ms.length ≤ 1000000000000000) (w : World) (hA : OpRow w A ls) (hB : OpRow w B ms) (hE : Env27 w) :
    Calls Tryd.prog 3 #[.slice A ls.length ca, .slice B ms.length cb] w fun e w' => e = .returned (.bool true) ∧ Below w.heap.size w w' := by
  have HE := Lib.hid hE
  have HA := Lib.hid hA
  have HB := Lib.hid hB
  clear hE hA hB
  by_cases h1 : 30 < ls.length
  · have h1' : (30 : Int) < (ls.length : Int) := by omega
    have hd : decide ((30 : Int) < (ls.length : Int)) = true := decide_eq_true h1'
    go_enter Tryd.func3, Tryd.ntmps3
    go_wp2_with fail
    refine (awake27_any w HE.out).mono ?_
    rintro e w1 ⟨rfl, hb1⟩
    go_wp2
    go_ret
    exact ⟨rfl, hb1⟩
  · have hd : decide ((30 : Int) < (ls.length : Int)) = false := decide_eq_false (by omega)
    by_cases h2 : 30 < ms.length
    · have hd2 : decide ((30 : Int) < (ms.length : Int)) = true := decide_eq_true (by omega)
      go_enter Tryd.func3, Tryd.ntmps3
      go_wp2_with fail
      refine (awake27_any w HE.out).mono ?_
      rintro e w1 ⟨rfl, hb1⟩
      go_wp2
      go_ret
      exact ⟨rfl, hb1⟩
    · have hd2 : decide ((30 : Int) < (ms.length : Int)) = false := decide_eq_false (by omega)
      have h3 : ls.length ≤ 30 := by omega
      have h4 : ms.length ≤ 30 := by omega
      have HL := Lib.hid hl
      have HM := Lib.hid hm
      obtain ⟨i0, hi, hzz, hz1, hz2⟩ := info_parts infoOp
      have HRA := Lib.hid (RecRow.reads opk (RecRow.later HA.out ((Below.refl _ w).alloc (Nat.le_refl _) (.cells #[] 29))))
      clear hl hm h1 h2
      go_enter Tryd.func3, Tryd.ntmps3
      go_wp2_with (at_builtin; refine wpList_append_any _ rfl (.tmp 16) (.tmp 17) 22 rfl w.heap.size 29 i0 (codeOnly 0).val 6 48 Tryd.underlying22 hi hzz hz1 hz2 rfl (by decide) _ _ _ rfl (own_empty w _ 6 (Nat.le_refl _)) _ _ _ _ _ rfl HRA.out (flatR_ones op_ones _) (by unfold maxLen; omega) (by omega) (by simp) ?_)
      intro v1 w1 ho1 hg1 ha1
      have ho1 : w1.ownsRow w.heap.size 29 6 v1 ls.length (flatR OpV.cells ls) := by simpa using ho1
      obtain ⟨a1, c1, rfl⟩ := own_shape ho1
      have HB1 := Lib.hid (((Below.refl _ w).alloc (Nat.le_refl _) (.cells #[] 29)).grown hg1 (by simp) (fun r hr => (own_empty w 29 6 (Nat.le_refl _)).lt r hr |>.1))
      have HO1 := Lib.hid ho1
      have HRB := Lib.hid (RecRow.reads opk (RecRow.later HB.out HB1.out))
      clear ho1 hg1 ha1
      go_wp2_with (at_builtin; refine wpList_append_any _ rfl (.tmp 18) (.tmp 19) 22 rfl w.heap.size 29 i0 (codeOnly 0).val 6 48 Tryd.underlying22 hi hzz hz1 hz2 rfl (by decide) _ _ _ rfl HO1.out _ _ _ _ _ rfl HRB.out (flatR_ones op_ones _) (by unfold maxLen; omega) (by omega) HB1.out.size ?_)
      intro v2 w2 ho2 hg2 ha2
      rw [← flatR_app] at ho2
      obtain ⟨a2, c2, rfl⟩ := own_shape ho2
      have HB2 := Lib.hid (HB1.out.grown hg2 HB1.out.size (fun r hr => (HO1.out.lt r hr).1))
      have HR2 := Lib.hid (RecRow.of_own opk ho2 (by rw [List.length_append]))
      clear ho2 hg2 ha2 HO1 HB1 HRA HRB
      go_upto_region 4 with (fail)
      have HBY := Lib.hid (fun (W : World) (h : OpRow W a2 (ls ++ ms)) => by
        have g := bytes_all (ls ++ ms) (fun o ho => (List.mem_append.1 ho).elim (HL.out o) (HM.out o)) (by rw [List.length_append]; omega) a2 c2 W h
        rw [List.length_append] at g
        exact g)
      go_cut [6] (fun v wd => v = .string (strB (bytesL (ls ++ ms))) ∧ Hid (OpRow wd a2 (ls ++ ms)) ∧ Hid (Below w.heap.size w wd))
      case first =>
        have hA2 := RecRow.later HA.out HB2.out
        have HA2 := Lib.hid (show OpRow w2.drew A ls from hA2)
        have hB2 := RecRow.later HB.out HB2.out
        have HBB2 := Lib.hid (show OpRow w2.drew B ms from hB2)
        have hs1 : (strB (bytesL ls)).size ≤ 1110 := by rw [strB_size, bytesL_len]; omega
        have hs2 : (strB (bytesL ms)).size ≤ 1110 := by rw [strB_size, bytesL_len]; omega
        clear hA2 hB2
        have hcat : strB (bytesL ls) ++ strB (bytesL ms) = strB (bytesL (ls ++ ms)) := by rw [strB_app, bytesL_app]
        go_region_with ((first
          | (go_at_call 7; (with_reducible refine (bytes_all ls HL.out (by omega) A ca _ HA2.out).mono ?_); rintro e w3 ⟨v3, rfl, ho3, hb3⟩; have hcv3 := conv_bytes ho3)
          | (go_at_call 7; (with_reducible refine (bytes_all ms HM.out (by omega) B cb _ (RecRow.later HBB2.out hb3)).mono ?_); rintro e w4 ⟨v4, rfl, ho4, hb4⟩; have hcv4 := conv_bytes ho4; have hcv5 := conv_bytes (own_later ho3 hb4))))
        all_goals
          have HBZ := Lib.hid (show Below w.heap.size w w4 from bl (bl HB2.out.drew HB2.out.size hb3) (Nat.le_trans HB2.out.size hb3.size) hb4)
          have HRZ := Lib.hid (show OpRow w4 a2 (ls ++ ms) from (RecRow.later (show OpRow w2.drew a2 (ls ++ ms) from HR2.out) hb3).later hb4)
          clear ho3 hb3 ho4 hb4 hcv3 hcv4 hcv5
          go_wp2_with fail
          go_meet
          case rel => exact ⟨rfl, HRZ, HBZ⟩
      case rest =>
        obtain ⟨rfl, HRZ, HBZ⟩ := hcut
        go_wp2_with fail
        refine (HBY.out _ HRZ.out).mono ?_
        rintro e w5 ⟨v5, rfl, ho5, hb5⟩
        have hcv := conv_bytes ho5
        have HB5 := Lib.hid (bl HBZ.out HBZ.out.size hb5)
        have hsz : (strB (bytesL (ls ++ ms))).size = 37 * (ls.length + ms.length) := by rw [strB_size, bytesL_len, List.length_append]
        clear ho5 hb5 HBZ HRZ
        go_wp2_with fail
        refine (awake27_any w5 (HE.out.later HB5.out)).mono ?_
        rintro e w6 ⟨rfl, hb6⟩
        have HB6 := Lib.hid (bl HB5.out HB5.out.size hb6)
        clear hb6
        go_wp2_with fail
        go_ret
        exact ⟨rfl, HB6.out⟩
end Go.Proofs.YtokpgopdkimmmaaDoor
