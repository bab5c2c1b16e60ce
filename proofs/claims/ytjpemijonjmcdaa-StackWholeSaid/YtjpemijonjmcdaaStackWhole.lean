/- The walk of StackWhole. -/
import Derived.Test.YtjpemijonjmcdaaStackAwake
import Derived.Test.YtjpemijonjmcdaaCuts
namespace Go.Proofs.Ytjpemijonjmcdaa
open Go.RowKit
set_option linter.unusedVariables false

theorem ent_all {ns : List Nd} (hk : KidsOk ns) (d : Int → Bool) (hd : ∀ x : Int, 0 ≤ x → x < ns.length → d x = true) : ∀ (m : Nat) (x : Int), (x + 1).toNat < m → x < ns.length → ent ns d x = below ns x := by
  intro m
  induction m with
  | zero => intro x h; omega
  | succ m ih =>
    intro x hm hx
    by_cases h0 : x < 0
    · rw [ent_neg _ _ _ h0, below, ent_neg _ _ _ h0]
    · obtain ⟨h1, h2⟩ := hk x (by omega) hx
      unfold below at *
      rw [ent_eq hk d x (by omega) hx, ent_eq hk _ x (by omega) hx, hd x (by omega) hx, ih _ (by omega) (by omega), ih _ (by omega) (by omega)]
theorem below_mem {ns : List Nd} (hk : KidsOk ns) : ∀ (m : Nat) (x : Int), (x + 1).toNat < m → x < ns.length → ∀ y ∈ below ns x, 0 ≤ y ∧ y < ns.length := by
  intro m
  induction m with
  | zero => intro x h; omega
  | succ m ih =>
    intro x hm hx y hy
    by_cases h0 : x < 0
    · rw [below, ent_neg _ _ _ h0] at hy; cases hy
    · obtain ⟨h1, h2⟩ := hk x (by omega) hx
      unfold below at *
      rw [ent_eq hk _ x (by omega) hx] at hy
      simp only [if_true, List.mem_cons, List.mem_append] at hy
      rcases hy with rfl | hy | hy
      · omega
      · exact ih _ (by omega) (by omega) y hy
      · exact ih _ (by omega) (by omega) y hy
/-- A node of StackWhole's. -/
def okN (n : Nd) : Bool := decide (-1000 ≤ n.f) && (decide (n.t ≤ 1000) && decide (n.f < n.t))
def AllOk (ns : List Nd) (k : Nat) : Prop := ∀ i, i < k → okN (ns.getD i Nd.zero) = true
theorem over_all {ns : List Nd} (h : AllOk ns ns.length) (x : Int) (h0 : 0 ≤ x) (hx : x < ns.length) : overB ns (-1001) 1001 x = true := by
  have := h x.toNat (by omega)
  rw [show ns.getD x.toNat Nd.zero = nd ns x from rfl] at this
  unfold okN at this
  simp only [Bool.and_eq_true, decide_eq_true_eq] at this
  unfold overB
  rw [decide_eq_false (by omega), decide_eq_false (by omega)]; rfl
/-- What is told of places all of which are over the range. -/
def frs (ns : List Nd) (l : List Int) : List Int := l.flatMap fun x => if (nd ns x).k = 1 then [(nd ns x).f] else []
theorem frs_cons (ns : List Nd) (x : Int) (l : List Int) : frs ns (x :: l) = (if (nd ns x).k = 1 then [(nd ns x).f] else []) ++ frs ns l := by unfold frs; rw [List.flatMap_cons]
theorem told_frs {ns : List Nd} (h : AllOk ns ns.length) (l : List Int) (hl : ∀ y ∈ l, 0 ≤ y ∧ y < ns.length) : toldL ns (-1001) 1001 l = frs ns l := by
  induction l with
  | nil => rfl
  | cons x l ih =>
    rw [frs_cons, ← ih (fun y hy => hl y (List.mem_cons_of_mem _ hy))]
    unfold toldL
    rw [List.flatMap_cons]
    congr 1
    obtain ⟨h0, h1⟩ := hl x List.mem_cons_self
    unfold toldOne
    rw [over_all h x h0 h1]
    simp

set_option maxRecDepth 100000 in
set_option maxHeartbeats 4000000 in
theorem StackWhole_walk (ns : List Nd) (ao : Option Addr) (cap : Nat) (W : World) (hrow : NdRow W ao ns) (hlen : ns.length ≤ 2513169434907) (hcap : ns.length ≤ cap) :
    Calls Try.prog 5 #[.slice ao ns.length cap] W fun e w' => e = .returned (.bool true) ∧ Below W.heap.size W w' := by
  by_cases hn : 200 < ns.length
  · clear hrow
    go_enter Try.func5, Try.ntmps5
    go_wp2_with (go_at_call 14; refine (awake7_any _).mono ?_; rintro e w1 ⟨rfl, hb1⟩; have HB1 := Lib.hid hb1; clear hb1)
    go_ret
    exact ⟨rfl, HB1.out⟩
  cases hr : rightL [] ns
  · have HN := Lib.hid hrow
    clear hrow
    go_enter Try.func5, Try.ntmps5
    go_wp2_with fail
    refine (right_any ns ao cap _ HN.out hlen).mono ?_
    rw [hr]
    rintro e w1 ⟨rfl, hb1⟩
    have HB1 := Lib.hid hb1
    clear hb1
    go_wp2_with fail
    refine (awake7_any _).mono ?_
    rintro e w2 ⟨rfl, hb2⟩
    have HB2 := Lib.hid (bl HB1.out HB1.out.size hb2)
    clear hb2
    go_wp2
    go_ret
    exact ⟨rfl, HB2.out⟩
  · have HN := Lib.hid hrow
    have HR := Lib.hid hr
    clear hrow
    go_enter Try.func5, Try.ntmps5
    go_wp2_with fail
    refine (right_any ns ao cap _ HN.out hlen).mono ?_
    rw [hr]
    rintro e w1 ⟨rfl, hb1⟩
    have HB1 := Lib.hid hb1
    clear hb1 hr
    go_wp2_with fail
    go_loopw [24] (fun i wr => ∃ k : Nat, k ≤ ns.length ∧ i = .int .i64 k ∧ Hid (AllOk ns k) ∧ Hid (Below W.heap.size W wr)) (fun i _ => ns.length - (intOf i).toNat)
    case atStart => exact ⟨0, Nat.zero_le _, rfl, Lib.hid (fun i h => by omega), HB1⟩
    case round =>
      obtain ⟨k, hk, rfl, HA, HB⟩ := hrel
      by_cases hlt : k < ns.length
      · obtain ⟨b, off, rfl, c0, c1, c2, c3, c4, c5, c6⟩ := (HN.out.later HB.out).node k hlt
        have HY := Lib.hid (show okN (ns.getD k Nd.zero) = true → AllOk ns (k + 1) from fun h i hi => by
          by_cases e : i = k
          · rw [e]; exact h
          · exact HA.out i (by omega))
        obtain ⟨n, hnn⟩ : ∃ n, ns.getD k Nd.zero = n := ⟨_, rfl⟩
        rw [hnn] at c0 c1 c2 c3 c4 c5 c6 HY
        clear hnn HA
        have fail : ∀ w2 : World, Below W.heap.size W w2 → Calls Try.prog 14 #[] w2 fun e w' => e = .returned (.bool true) ∧ Below W.heap.size W w' :=
          fun w2 h2 => (awake7_any w2).mono fun e w' ⟨he, hb⟩ => ⟨he, bl h2 h2.size hb⟩
        have HF := Lib.hid fail
        have HBa := Lib.hid (HB.out.alloc HB.out.size (.cells #[.int .u8 n.k, .int .i64 n.l, .int .i64 n.r, .int .i64 n.f, .int .i64 n.t, .int .i64 n.a, .int .i64 n.i] 36))
        clear fail
        by_cases f1 : n.f < -1000
        · go_wp2_with fail
          refine (HF.out _ HBa.out).mono ?_
          rintro e w2 ⟨rfl, hb2⟩
          have HB2 := Lib.hid hb2
          clear hb2
          go_wp2
          go_ret
          exact ⟨rfl, HB2.out⟩
        · have f1' : -1000 ≤ n.f := by omega
          by_cases f2 : 1000 < n.t
          · go_wp2_with fail
            refine (HF.out _ HBa.out).mono ?_
            rintro e w2 ⟨rfl, hb2⟩
            have HB2 := Lib.hid hb2
            clear hb2
            go_wp2
            go_ret
            exact ⟨rfl, HB2.out⟩
          · have f2' : n.t ≤ 1000 := by omega
            by_cases f3 : n.t ≤ n.f
            · go_wp2_with fail
              refine (HF.out _ HBa.out).mono ?_
              rintro e w2 ⟨rfl, hb2⟩
              have HB2 := Lib.hid hb2
              clear hb2
              go_wp2
              go_ret
              exact ⟨rfl, HB2.out⟩
            · have f3' : n.f < n.t := by omega
              have HY1 := Lib.hid (HY.out (by unfold okN; rw [decide_eq_true f1', decide_eq_true f2', decide_eq_true f3']; rfl))
              clear f1 f2 f3 HY
              go_wp2_with fail
              go_roundw
              case rel => exact ⟨k + 1, by omega, by go_num, HY1, HBa⟩
              case measure => simp [intOf]; omega
      · have hkk : k = ns.length := by omega
        have HA2 := Lib.hid (show AllOk ns ns.length by rw [← hkk]; exact HA.out)
        have hge : ns.length ≤ k := by omega
        clear hkk HA
        go_wp2_with fail
        obtain ⟨wo, rfl⟩ : ∃ wo : World, wo = wr := ⟨_, rfl⟩
        clear hge hk
        go_loopw [47] (fun i wr => ∃ k : Nat, k ≤ ns.length ∧ i = .int .i64 k ∧ Hid (Below W.heap.size W wr)) (fun i _ => ns.length - (intOf i).toNat)
        case atStart => exact ⟨0, Nat.zero_le _, rfl, HB⟩
        case round =>
          clear HB
          obtain ⟨k, hk, rfl, HB⟩ := hrel
          by_cases hlt : k < ns.length
          · have hko := right_kidsOk HR.out
            have HE := Lib.hid (show walkErr ns (k : Int) = 0 by unfold walkErr; rw [if_pos HR.out, if_pos (by omega)])
            have HO := Lib.hid (show walkOut ns (fun _ => true) (k : Int) = below ns k by unfold walkOut; rw [if_pos ⟨HR.out, by omega, by omega⟩]; rfl)
            have HO2 := Lib.hid (show walkOut ns (overB ns (-1001) 1001) (k : Int) = below ns k by
              unfold walkOut; rw [if_pos ⟨HR.out, by omega, by omega⟩]; exact ent_all hko _ (over_all HA2.out) _ _ (Nat.lt_succ_self _) (by omega))
            have hmem := below_mem hko _ (k : Int) (Nat.lt_succ_self _) (by omega)
            have HF := Lib.hid (told_frs HA2.out _ hmem)
            have HM := Lib.hid hmem
            have hol := below_len HR.out (k : Int) (by omega) (by omega)
            have htl := toldL_len ns (-1001) 1001 (below ns k)
            rw [HF.out] at htl
            obtain ⟨out, hout⟩ : ∃ out, below ns (k : Int) = out := ⟨_, rfl⟩
            rw [hout] at HO HO2 HF HM hol htl
            clear hko hmem hout
            go_wp2_with fail
            refine (all_any ns ao cap (k : Int) _ (HN.out.later HB.out) hlen).mono ?_
            rw [HE.out, HO.out]
            rintro e w2 ⟨a2, cc2, rfl, ho2, hb2⟩
            have R2 := Lib.hid (row_of_owned ho2)
            have HB2 := Lib.hid (bl HB.out HB.out.size hb2)
            clear ho2 hb2
            go_wp2_with fail
            refine (leaves_any ns ao cap (k : Int) (-1001) 1001 _ (HN.out.later HB2.out) hlen).mono ?_
            rw [HE.out, HO2.out, HF.out]
            rintro e w3 ⟨a3, cc3, rfl, ho3, hb3⟩
            have R3 := Lib.hid (row_of_owned ho3)
            have R2' := Lib.hid (R2.out.later hb3)
            have HB3 := Lib.hid (bl HB2.out HB2.out.size hb3)
            have hcap3 := own_cap ho3
            clear ho3 hb3
            obtain ⟨fl, hfl⟩ : ∃ fl, (frs ns out).length = fl := ⟨_, rfl⟩
            rw [hfl] at hcap3 htl ⊢
            have HFL := Lib.hid hfl
            clear hfl
            go_wp2_with fail
            obtain ⟨wo, rfl⟩ : ∃ wo : World, wo = wr := ⟨_, rfl⟩
            go_loopw [8, 77] (fun v i wr => ∃ (j : Nat) (A : Option Addr) (c m : Nat), j ≤ out.length ∧ i = .int .i64 j ∧ v = .slice A m c ∧ m ≤ c ∧ m ≤ out.length ∧ Hid (m = (frs ns (out.drop j)).length) ∧ Hid (Row wr A ((frs ns (out.drop j)).map (.int .i64))) ∧ Hid (Row wr a2 (out.map (.int .i64))) ∧ Hid (Below W.heap.size W wr)) (fun _ i _ => out.length - (intOf i).toNat)
            case atStart => exact ⟨0, a3, cc3, fl, Nat.zero_le _, rfl, rfl, hcap3, htl, Lib.hid (by rw [List.drop_zero]; exact HFL.out.symm), R3, R2', HB3⟩
            case round =>
              clear hcap3 htl
              obtain ⟨j, A, c, m, hj, rfl, rfl, hmc, hmo, HMM, HRA, HRO, HB⟩ := hrel
              by_cases hjl : j < out.length
              · have HD := Lib.hid (List.drop_eq_getElem_cons hjl)
                have hmem := HM.out out[j] (List.getElem_mem hjl)
                obtain ⟨b2, o2, rfl, cx, _⟩ := HRO.out.at j (by simpa using hjl)
                rw [List.getElem_map] at cx
                obtain ⟨x, hx⟩ : ∃ x, out[j] = x := ⟨_, rfl⟩
                rw [hx] at HD hmem cx
                obtain ⟨hx0, hx1⟩ := hmem
                have HC := Lib.hid (frs_cons ns x (out.drop (j + 1)))
                rw [← HD.out] at HC
                clear hx
                obtain ⟨b, off, rfl, c0, c1, c2, c3, c4, c5, c6⟩ := (HN.out.later HB.out).node x.toNat (by omega)
                rw [show ns.getD x.toNat Nd.zero = nd ns x from rfl] at c0 c1 c2 c3 c4 c5 c6
                obtain ⟨n, hnn⟩ : ∃ n, nd ns x = n := ⟨_, rfl⟩
                rw [hnn] at c0 c1 c2 c3 c4 c5 c6 HC
                clear hnn
                by_cases k1 : n.k = 1
                · have hk1 : (n.k != 1) = false := by simpa using k1
                  have hc2 : frs ns (out.drop j) = n.f :: frs ns (out.drop (j + 1)) := by rw [HC.out, if_pos k1]; rfl
                  have hm0 : 0 < m := by rw [HMM.out, hc2]; simp
                  have hml := HMM.out
                  rw [hc2, List.length_cons] at hml
                  have hrow := HRA.out
                  rw [hc2, List.map_cons] at hrow
                  obtain ⟨A1, hcut, hA1⟩ := cut_from (P := Try.prog) Try.underlying25 sizeInt A m c 1 (by omega) hmc
                  rw [show ((1 : Nat) : Int) = 1 from rfl] at hcut
                  have HA1 := Lib.hid (hA1 wr _ (by rw [hml]; simp) hrow)
                  obtain ⟨b4, o4, rfl, cf, _⟩ := hrow.at 0 (by simp)
                  have cf' : wr.cell? ⟨b4, o4, none⟩ = some (.int .i64 n.f) := cf
                  have hz : ((m : Int) == 0) = false := by rw [beq_eq_false_iff_ne]; omega
                  have hz' : (m == 0) = false := by rw [beq_eq_false_iff_ne]; omega
                  have HML := Lib.hid hml
                  clear k1 hc2 hA1 hrow cf hml
                  go_wp2_with fail
                  go_quiet (fail)
                  go_wp2
                  go_roundw
                  case rel =>
                    exact ⟨j + 1, A1, c - 1, m - 1, by omega, by go_num, rfl, by omega, by omega, Lib.hid (by have := HML.out; omega), Lib.hid HA1.out, Lib.hid HRO.out, Lib.hid ⟨HB.out.os, HB.out.tape, HB.out.output, HB.out.size, HB.out.block⟩⟩
                  case measure => simp [intOf]; omega
                · have hk1 : (n.k != 1) = true := by simpa using k1
                  have hc2 : frs ns (out.drop j) = frs ns (out.drop (j + 1)) := by rw [HC.out, if_neg k1]; rfl
                  have HM2 := HMM.out
                  have HR2 := HRA.out
                  rw [hc2] at HM2 HR2
                  have HM2' := Lib.hid HM2
                  have HR2' := Lib.hid HR2
                  clear k1 hc2 HM2 HR2
                  go_wp2_with fail
                  go_roundw
                  case rel => exact ⟨j + 1, A, c, m, by omega, by go_num, rfl, hmc, hmo, HM2', HR2', HRO, HB⟩
                  case measure => simp [intOf]; omega
              · have hje : j = out.length := by omega
                have hm0 : m = 0 := by rw [HMM.out, hje, List.drop_length]; rfl
                have hge : out.length ≤ j := by omega
                clear hje HMM HRA
                subst hm0
                go_wp2_with fail
                go_roundw
                case rel => exact ⟨k + 1, by omega, by go_num, HB⟩
                case measure => simp [intOf]; omega
          · clear hk
            go_wp2_with fail
            refine (awake7_any _).mono ?_
            rintro e w2 ⟨rfl, hb2⟩
            have HB2 := Lib.hid (bl HB.out HB.out.size hb2)
            clear hb2
            go_wp2
            go_ret
            exact ⟨rfl, HB2.out⟩
end Go.Proofs.Ytjpemijonjmcdaa
