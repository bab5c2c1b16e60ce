/- The walk of StackOrder. -/
import Derived.Test.YtjpemijonjmcdaaStackAwake
import Derived.Test.YtjpemijonjmcdaaCuts
namespace Go.Proofs.Ytjpemijonjmcdaa
open Go.RowKit
set_option linter.unusedVariables false

/-- The kid of a round, and what is left to be met. -/
def kidAt (n : Nd) (j : Nat) : Int := if j = 0 then n.l else n.r
def restAt (L R : List Int) (j : Nat) : List Int := if j = 0 then L ++ R else if j = 1 then R else []
def partAt (L R : List Int) (j : Nat) : List Int := if j = 0 then L else R
theorem rest_step (L R : List Int) (j : Nat) (h : j < 2) : restAt L R j = partAt L R j ++ restAt L R (j + 1) := by
  rcases (by omega : j = 0 ∨ j = 1) with rfl | rfl <;> simp [restAt, partAt]
theorem rest_drop (L R : List Int) (j : Nat) (h : j < 2) : (restAt L R j).drop (partAt L R j).length = restAt L R (j + 1) := by rw [rest_step L R j h]; simp
theorem rest_take (L R : List Int) (j : Nat) (h : j < 2) : (restAt L R j).take (partAt L R j).length = partAt L R j := by rw [rest_step L R j h]; simp

set_option maxRecDepth 100000 in
set_option maxHeartbeats 2000000 in
theorem StackOrder_walk (ns : List Nd) (ao : Option Addr) (cap : Nat) (W : World) (hrow : NdRow W ao ns) (hlen : ns.length ≤ 2513169434907) (hcap : ns.length ≤ cap) :
    Calls Try.prog 4 #[.slice ao ns.length cap] W fun e w' => e = .returned (.bool true) ∧ Below W.heap.size W w' := by
  by_cases hn : 200 < ns.length
  · clear hrow
    go_enter Try.func4, Try.ntmps4
    go_wp2_with (go_at_call 14; refine (awake7_any _).mono ?_; rintro e w1 ⟨rfl, hb1⟩; have HB1 := Lib.hid hb1; clear hb1)
    go_ret
    exact ⟨rfl, HB1.out⟩
  cases hr : rightL [] ns
  · have HN := Lib.hid hrow
    clear hrow
    go_enter Try.func4, Try.ntmps4
    go_wp2_with fail
    refine (right_any ns ao cap _ HN.out hlen).mono ?_
    rw [hr]
    rintro e w1 ⟨rfl, hb1⟩
    have HB1 := Lib.hid hb1
    clear hb1
    go_wp2_with fail
    refine (awake7_any _).mono ?_
    rintro e w2 ⟨rfl, hb2⟩
    have HB2 := Lib.hid (bl HB1.out HB1.out.size hb2)
    clear hb2
    go_wp2
    go_ret
    exact ⟨rfl, HB2.out⟩
  · have HN := Lib.hid hrow
    have HR := Lib.hid hr
    clear hrow
    go_enter Try.func4, Try.ntmps4
    go_wp2_with fail
    refine (right_any ns ao cap _ HN.out hlen).mono ?_
    rw [hr]
    rintro e w1 ⟨rfl, hb1⟩
    have HB1 := Lib.hid hb1
    clear hb1 hr
    go_wp2_with fail
    go_loopw [23] (fun i wr => ∃ k : Nat, k ≤ ns.length ∧ i = .int .i64 k ∧ Hid (Below W.heap.size W wr)) (fun i _ => ns.length - (intOf i).toNat)
    case atStart => exact ⟨0, Nat.zero_le _, rfl, HB1⟩
    case round =>
      obtain ⟨k, hk, rfl, HB⟩ := hrel
      by_cases hlt : k < ns.length
      · obtain ⟨b, off, rfl, c0, c1, c2, c3, c4, c5, c6⟩ := (HN.out.later HB.out).node k hlt
        obtain ⟨hkl, hkr⟩ := right_kidsOk HR.out (k : Int) (by omega) (by omega)
        have HE := Lib.hid (show walkErr ns (k : Int) = 0 by unfold walkErr; rw [if_pos HR.out, if_pos (by omega)])
        have HO := Lib.hid (show walkOut ns (fun _ => true) (k : Int) = (k : Int) :: (below ns (nd ns k).l ++ below ns (nd ns k).r) by
          unfold walkOut; rw [if_pos ⟨HR.out, by omega, by omega⟩, ent_eq (right_kidsOk HR.out) _ _ (by omega) (by omega)]; rfl)
        have hout := ent_len_le HR.out (fun _ => true) (k : Int) (by omega) (by omega)
        rw [show ent ns (fun _ => true) (k : Int) = (k : Int) :: (below ns (nd ns k).l ++ below ns (nd ns k).r) by rw [ent_eq (right_kidsOk HR.out) _ _ (by omega) (by omega)]; rfl] at hout
        rw [show nd ns (k : Int) = ns.getD k Nd.zero by unfold nd; simp] at HO hkl hkr hout
        obtain ⟨n, hnn⟩ : ∃ n, ns.getD k Nd.zero = n := ⟨_, rfl⟩
        rw [hnn] at c0 c1 c2 c3 c4 c5 c6 HO hkl hkr hout
        clear hnn
        simp only [List.length_cons, List.length_append] at hout
        -- a kid's own walk
        have hkid : ∀ j, j < 2 → 0 ≤ kidAt n j → walkErr ns (kidAt n j) = 0 ∧ walkOut ns (fun _ => true) (kidAt n j) = partAt (below ns n.l) (below ns n.r) j := by
          intro j hj h0
          have hb : kidAt n j < ns.length := by unfold kidAt at *; split <;> omega
          refine ⟨by unfold walkErr; rw [if_pos HR.out, if_pos ⟨h0, hb⟩], ?_⟩
          unfold walkOut
          rw [if_pos ⟨HR.out, h0, hb⟩]
          unfold kidAt partAt below; split <;> rfl
        have hneg : ∀ j, j < 2 → kidAt n j < 0 → partAt (below ns n.l) (below ns n.r) j = [] := by
          intro j hj h0
          unfold kidAt partAt below at *
          split <;> simp_all [ent_neg]
        have hlL : (below ns n.l).length ≤ 2513169434907 := by omega
        have hlR : (below ns n.r).length ≤ 2513169434907 := by omega
        obtain ⟨L, hL⟩ : ∃ L, below ns n.l = L := ⟨_, rfl⟩
        obtain ⟨R, hR⟩ : ∃ R, below ns n.r = R := ⟨_, rfl⟩
        rw [hL] at HO hkid hneg hlL
        rw [hR] at HO hkid hneg hlR
        have HKID := Lib.hid hkid
        have HNEG := Lib.hid hneg
        clear hL hR hkid hneg hkl hkr hout
        go_wp2_with fail
        have hba : Below wr.heap.size wr (wr.alloc (.cells #[.int .u8 n.k, .int .i64 n.l, .int .i64 n.r, .int .i64 n.f, .int .i64 n.t, .int .i64 n.a, .int .i64 n.i] 36)) := (Below.refl _ _).alloc (Nat.le_refl _) _
        refine (all_any ns _ cap (k : Int) _ ((HN.out.later HB.out).later hba) hlen).mono ?_
        rw [HE.out, HO.out]
        rintro e w2 ⟨a2, cc2, rfl, ho2, hb2⟩
        obtain ⟨out, hout⟩ : ∃ out, (k : Int) :: (L ++ R) = out := ⟨_, rfl⟩
        rw [hout] at ho2 ⊢
        have hpos : 0 < out.length := by rw [← hout]; simp
        have hol : out.length ≤ 5026338869815 := by rw [← hout]; simp only [List.length_cons, List.length_append]; omega
        obtain ⟨g, rfl⟩ : ∃ g, a2 = some ⟨g, 0, none⟩ := by
          rcases ho2.2 with ⟨_, h⟩ | ⟨g, _, _, h, _⟩
          · omega
          · simp only [Value.slice.injEq] at h; exact ⟨g, h.1⟩
        have hcap2 := own_cap ho2
        have hcell : w2.cell? ⟨g, 0, none⟩ = some (.int .i64 (k : Int)) := by rw [ho2.cellAt 0 (by omega), ← hout]; rfl
        have hz : ((out.length : Int) == 0) = false := by rw [beq_eq_false_iff_ne]; omega
        have hz' : (out.length == 0) = false := by rw [beq_eq_false_iff_ne]; omega
        obtain ⟨A1, hcut, hA1⟩ := cut_from (P := Try.prog) Try.underlying25 sizeInt (some ⟨g, 0, none⟩) out.length cc2 1 (by omega) hcap2
        rw [show ((1 : Nat) : Int) = 1 from rfl] at hcut
        have HA1 := Lib.hid (show Row w2 A1 ((L ++ R).map (.int .i64)) by
          have h := hA1 w2 _ (by simp) (row_of_owned ho2)
          rw [← hout] at h; exact h)
        have HL1 := Lib.hid (show out.length - 1 = (restAt L R 0).length by rw [← hout]; simp [restAt])
        have hd1 : w2.cell? ⟨wr.heap.size, 1, none⟩ = some (.int .i64 n.l) := (hb2.cell (p := ⟨wr.heap.size, 1, none⟩) (by simp)).trans (cells_at wr _ _ 1)
        have hd2 : w2.cell? ⟨wr.heap.size, 2, none⟩ = some (.int .i64 n.r) := (hb2.cell (p := ⟨wr.heap.size, 2, none⟩) (by simp)).trans (cells_at wr _ _ 2)
        have HB2 := Lib.hid (bl HB.out HB.out.size (bl hba hba.size hb2))
        clear hb2 hba ho2 hout hA1 c0 c1 c2 c3 c4 c5 c6
        go_wp2_with fail
        obtain ⟨wo, rfl⟩ : ∃ wo : World, wo = wr := ⟨_, rfl⟩
        go_loopw [7, 55] (fun v i wi => ∃ (j : Nat) (A : Option Addr) (c m : Nat), j ≤ 2 ∧ i = .int .i64 j ∧ v = .slice A m c ∧ m ≤ c ∧ Hid (m = (restAt L R j).length) ∧ Hid (Row wi A ((restAt L R j).map (.int .i64))) ∧ Hid (Below W.heap.size W wi)) (fun _ i _ => 2 - (intOf i).toNat)
        case atStart => exact ⟨0, A1, cc2 - 1, out.length - 1, by omega, rfl, rfl, by omega, HL1, HA1, HB2⟩
        case round =>
          obtain ⟨j, A, c, m, hj, rfl, rfl, hmc, HM, HRow, HBi⟩ := hrel
          clear hcut hd1 hd2 hcell hz hz'
          by_cases hj2 : j < 2
          · have hix : ∀ w, (Instr.index 37 (.agg #[.int .i64 n.l, .int .i64 n.r]) (.int .i64 (j : Int))).run Try.prog w = .ok (.int .i64 (kidAt n j)) w := by
              rcases (by omega : j = 0 ∨ j = 1) with rfl | rfl
              · exact fun _ => by kernel_rfl
              · exact fun _ => by kernel_rfl
            have hK := HKID.out j hj2
            have hG := HNEG.out j hj2
            have hlm : (partAt L R j).length ≤ m := by rw [HM.out, rest_step L R j hj2]; simp
            have hmm : m ≤ 5026338869815 := by rw [HM.out]; unfold restAt; split <;> (try split) <;> (try simp only [List.length_append, List.length_nil]) <;> omega
            obtain ⟨x, hx⟩ : ∃ x, kidAt n j = x := ⟨_, rfl⟩
            rw [hx] at hK hG hix
            clear hx
            by_cases hx0 : x < 0
            · have HG := Lib.hid (hG hx0)
              clear hK hG
              go_wp2_with fail
              go_roundw
              case rel =>
                refine ⟨j + 1, A, c, m, by omega, by go_num, rfl, hmc, ?_, ?_, HBi⟩
                · have := HM.out; rw [rest_step L R j hj2, HG.out] at this; exact Lib.hid this
                · have := HRow.out; rw [rest_step L R j hj2, HG.out] at this; exact Lib.hid this
              case measure => simp [intOf]; omega
            · have hx0' : 0 ≤ x := by omega
              have HK := Lib.hid (hK hx0')
              clear hK hG hx0
              obtain ⟨pt, hpt⟩ : ∃ pt, partAt L R j = pt := ⟨_, rfl⟩
              rw [hpt] at HK hlm
              have HT := Lib.hid (show (restAt L R j).take pt.length = pt by rw [← hpt]; exact rest_take L R j hj2)
              have HD := Lib.hid (show (restAt L R j).drop pt.length = restAt L R (j + 1) by rw [← hpt]; exact rest_drop L R j hj2)
              clear hpt
              obtain ⟨A2, hcut2, hA2⟩ := cut_to (P := Try.prog) Try.underlying25 sizeInt A m c pt.length hlm hmc
              obtain ⟨A3, hcut3, hA3⟩ := cut_from (P := Try.prog) Try.underlying25 sizeInt A m c pt.length hlm hmc
              have HA2 := Lib.hid (hA2 wr _ (by rw [List.length_map]; exact HM.out.symm) HRow.out)
              have HA3 := Lib.hid (hA3 wr _ (by rw [List.length_map]; exact HM.out.symm) HRow.out)
              clear hA2 hA3
              go_wp2_with fail
              refine (all_any ns _ cap x _ (HN.out.later HBi.out) hlen).mono ?_
              rw [HK.out.1, HK.out.2]
              rintro e w3 ⟨a3, cc3, rfl, ho3, hb3⟩
              have R3 := Lib.hid (row_of_owned ho3)
              have R2 := Lib.hid (HA2.out.later hb3)
              have R4 := Lib.hid (HA3.out.later hb3)
              have HB3 := Lib.hid (bl HBi.out HBi.out.size hb3)
              clear ho3 hb3
              go_wp2_with fail
              have hm2 : (List.map (Value.int .i64) (restAt L R j)).take pt.length = pt.map (.int .i64) := by rw [← List.map_take, HT.out]
              have hr2 := R2.out
              rw [hm2] at hr2
              have HR2 := Lib.hid hr2
              clear hm2 hr2
              refine (ints_any pt pt a3 A2 cc3 c _ R3.out HR2.out (by unfold maxLen; omega) (by unfold maxLen; omega)).mono ?_
              rw [show sameB pt pt = true from decide_eq_true rfl]
              rintro e w4 ⟨rfl, hb4⟩
              have R4' := Lib.hid (R4.out.later hb4)
              have HB4 := Lib.hid (bl HB3.out HB3.out.size hb4)
              clear hb4
              go_wp2_with fail
              go_roundw
              case rel =>
                refine ⟨j + 1, A3, c - pt.length, m - pt.length, by omega, by go_num, rfl, by omega, Lib.hid ?_, Lib.hid ?_, HB4⟩
                · rw [← HD.out, List.length_drop, HM.out]
                · have := R4'.out
                  rw [← List.map_drop, HD.out] at this; exact this
              case measure => simp [intOf]; omega
          · have h2 : j = 2 := by omega
            subst h2
            have hm0 : m = 0 := by rw [HM.out]; rfl
            subst hm0
            clear HM HRow
            go_wp2_with fail
            go_roundw
            case rel => exact ⟨k + 1, by omega, by go_num, HBi⟩
            case measure => simp [intOf]; omega
      · clear hk
        go_wp2_with fail
        refine (awake7_any _).mono ?_
        rintro e w2 ⟨rfl, hb2⟩
        have HB2 := Lib.hid (bl HB.out HB.out.size hb2)
        clear hb2
        go_wp2
        go_ret
        exact ⟨rfl, HB2.out⟩
end Go.Proofs.Ytjpemijonjmcdaa
