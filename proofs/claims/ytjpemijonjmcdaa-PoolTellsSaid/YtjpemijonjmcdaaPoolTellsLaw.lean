/- The walk of PoolTells. -/
import Derived.Test.YtjpemijonjmcdaaRefPut
import Derived.Test.YtjpemijonjmcdaaPoolOwnLaw
namespace Go.Proofs.Ytjpemijonjmcdaa
open Go.RowKit
set_option linter.unusedVariables false
set_option linter.unusedSimpArgs false

theorem NdRow.keep {w w' : World} {ao : Option Addr} {ns : List Nd} (h : NdRow w ao ns) (hb : ∀ b ∈ addrB ao, w'.heap[b]? = w.heap[b]?) : NdRow w' ao ns := by
  rcases h with h | ⟨b, off, rfl, hc⟩
  · exact .inl h
  · exact .inr ⟨b, off, rfl, fun i hi j hj => (World.cell?_of_block (hb b (by simp [addrB]))).trans (hc i hi j hj)⟩
/-- The pool, and beside it the nodes that the document would have. -/
structure BothSt (base pb : Nat) (most : Int) (ps : List Nd) (ha : Option Addr) (hc : Nat) (w : World) : Prop where
  pool : PoolFar base pb most ps (addrB ha) w
  row : NdRow w ha ps
  cap : ps.length ≤ hc
theorem BothSt.later {base pb hc : Nat} {most : Int} {ps : List Nd} {ha : Option Addr} {w w' : World} (h : BothSt base pb most ps ha hc w) (hb : Below w.heap.size w w') : BothSt base pb most ps ha hc w' := ⟨h.pool.later hb, h.row.later hb, h.cap⟩
theorem addrB_made {base pb : Nat} {most : Int} {ps : List Nd} {a : Option Addr} {w w' : World} (h : PoolOwn base pb most ps w) (hb : Below w.heap.size w w') (hg : ∀ g ∈ addrB a, w.heap.size ≤ g ∧ g < w'.heap.size) : PoolFar base pb most ps (addrB a) w' := by
  cases a with
  | none => exact (h.later hb).farNil
  | some ad =>
    have h1 := hg ad.block (by simp [addrB])
    have h2 := (h.farNil).made hb h1.1 h1.2
    exact h2.sub (by intro b hb; simpa [addrB] using hb)

set_option maxRecDepth 100000 in
set_option maxHeartbeats 8000000 in
theorem PoolTells_walk (most : Int) (ns : List Nd) (ao : Option Addr) (cap : Nat) (at_ : Int) (W : World) (hrow : NdRow W ao ns) (hlen : ns.length ≤ 2513169434907) (hcap : ns.length ≤ cap) :
    Calls Try.prog 11 #[.int .i64 most, .slice ao ns.length cap, .int .i64 at_] W fun e w' => e = .returned (.bool true) ∧ Below W.heap.size W w' := by
  have HN := Lib.hid hrow
  clear hrow
  by_cases h60 : 60 < ns.length
  · go_enter Try.func11, Try.ntmps11
    go_wp2_with fail
    refine (awake5_any _).mono ?_
    rintro e w5 ⟨rfl, hb5⟩
    go_wp2
    go_ret
    exact ⟨rfl, hb5⟩
  have h60' : ns.length ≤ 60 := by omega
  clear h60
  obtain ⟨hh, HH⟩ : ∃ h, hRes ns at_ = h := ⟨_, rfl⟩
  obtain ⟨er, HER⟩ : ∃ e, walkErr ns at_ = e := ⟨_, rfl⟩
  obtain ⟨rb, HRB⟩ : ∃ b, rightL [] ns = b := ⟨_, rfl⟩
  replace HH := Lib.hid HH
  replace HER := Lib.hid HER
  replace HRB := Lib.hid HRB
  go_enter Try.func11, Try.ntmps11
  go_wp2_with fail
  refine (copyNodes_any ns ao cap _ HN.out hlen).mono ?_
  rintro e w1 ⟨ia, ic, rfl, hoi, hb1⟩
  have hic := own_cap hoi
  have HI1 := Lib.hid (row_of_nodes hoi rfl)
  have HB1 := Lib.hid hb1
  clear hoi hb1
  go_wp2_with fail
  refine (height_any ns ia ic at_ _ HI1.out hlen hic).mono ?_
  rw [HH.out, HER.out]
  rintro e w2 ⟨rfl, hb2⟩
  have HI2 := Lib.hid (HI1.out.later hb2)
  have HB2 := Lib.hid (bl HB1.out HB1.out.size hb2)
  clear hb2 HI1 HB1
  go_wp2_with fail
  refine (rheight_any ns ao cap at_ _ (HN.out.later HB2.out) hlen hcap).mono ?_
  rw [HH.out, HER.out]
  rintro e w3 ⟨rfl, hb3⟩
  have HI3 := Lib.hid (HI2.out.later hb3)
  have HB3 := Lib.hid (bl HB2.out HB2.out.size hb3)
  clear hb3 HI2 HB2 HH HER
  go_wp2_with fail
  refine (right_any ns ia ic _ HI3.out hlen).mono ?_
  rw [HRB.out]
  rintro e w4 ⟨rfl, hb4⟩
  have HI4 := Lib.hid (HI3.out.later hb4)
  have HB4 := Lib.hid (bl HB3.out HB3.out.size hb4)
  clear hb4 HI3 HB3
  go_wp2_with fail
  refine (rright_any ns ao cap _ (HN.out.later HB4.out) hlen hcap).mono ?_
  rw [HRB.out]
  rintro e w5 ⟨rfl, hb5⟩
  have HI5 := Lib.hid (HI4.out.later hb5)
  have HB5 := Lib.hid (bl HB4.out HB4.out.size hb5)
  clear hb5 HI4 HB4 HRB
  go_wp2_with fail
  refine (nodes_any ns ns ia ao ic cap _ HI5.out (HN.out.later HB5.out) hlen hlen).mono ?_
  rw [(sameN_iff ns ns).2 rfl]
  rintro e w6 ⟨rfl, hb6⟩
  have HB6 := Lib.hid (bl HB5.out HB5.out.size hb6)
  clear hb6 HI5 HB5
  by_cases hbad : most < 0 ∨ 68719476736 < most
  · rcases hbad with hbad | hbad
    · go_wp2_with fail
      refine (new_bad most _ (.inl hbad)).mono ?_
      rintro e w7 ⟨rfl, rfl⟩
      go_wp2_with fail
      refine (awake5_any _).mono ?_
      rintro e w8 ⟨rfl, hb8⟩
      have HB8 := Lib.hid (bl HB6.out HB6.out.size hb8)
      clear hb8
      go_wp2
      go_ret
      exact ⟨rfl, HB8.out⟩
    · have hm0 : 0 ≤ most := by omega
      go_wp2_with fail
      refine (new_bad most _ (.inr hbad)).mono ?_
      rintro e w7 ⟨rfl, rfl⟩
      go_wp2_with fail
      refine (awake5_any _).mono ?_
      rintro e w8 ⟨rfl, hb8⟩
      have HB8 := Lib.hid (bl HB6.out HB6.out.size hb8)
      clear hb8
      go_wp2
      go_ret
      exact ⟨rfl, HB8.out⟩
  · have hm0 : 0 ≤ most := by omega
    have hm1 : most ≤ 68719476736 := by omega
    clear hbad
    go_wp2_with fail
    refine (new_any most _ hm0 hm1).mono ?_
    rintro e w7 ⟨rfl, rfl⟩
    have HP7 := Lib.hid (show BothSt W.heap.size w6.heap.size most [] none 0 (w6.alloc (newPool most)) from ⟨(PoolOwn.new w6 most hm0 hm1 HB6.out.size).farNil, .inl rfl, Nat.zero_le _⟩)
    have HB7 := Lib.hid (HB6.out.alloc HB6.out.size (newPool most))
    obtain ⟨pb, hpb⟩ : ∃ pb, w6.heap.size = pb := ⟨_, rfl⟩
    rw [hpb] at HP7 ⊢
    clear hpb
    generalize w6.alloc (newPool most) = V1 at HP7 HB7 ⊢
    go_wp2_with fail
    go_loopw [13, 91] (fun hv i wr => ∃ (k : Nat) (ha : Option Addr) (hc : Nat), k ≤ ns.length ∧ i = .int .i64 k ∧ hv = .slice ha (puts most (ns.take k)).length hc ∧ Hid (BothSt W.heap.size pb most (puts most (ns.take k)) ha hc wr) ∧ Hid (Below W.heap.size W wr)) (fun _ i _ => ns.length - (intOf i).toNat)
    case atStart => exact ⟨0, none, 0, Nat.zero_le _, rfl, rfl, HP7, HB7⟩
    case round =>
      clear HP7 HB7 HB6
      obtain ⟨k, ha, hc, hk, rfl, rfl, HS, HB⟩ := hrel
      by_cases hlt : k < ns.length
      · obtain ⟨b, off, rfl, c0, c1, c2, c3, c4, c5, c6⟩ := (HN.out.later HB.out).node k hlt
        have HT := Lib.hid (puts_take most ns k hlt)
        have hpl := puts_len most (ns.take k)
        rw [List.length_take] at hpl
        obtain ⟨n, hn⟩ : ∃ n, ns.getD k Nd.zero = n := ⟨_, rfl⟩
        rw [hn] at c0 c1 c2 c3 c4 c5 c6 HT
        obtain ⟨ps, hps⟩ : ∃ ps, puts most (ns.take k) = ps := ⟨_, rfl⟩
        rw [hps] at HS HT hpl ⊢
        have hp60 : ps.length ≤ 60 := by omega
        clear hn hps hpl
        obtain ⟨pa, hpa⟩ : ∃ x, putAt ps most n = x := ⟨_, rfl⟩
        obtain ⟨pe, hpe⟩ : ∃ x, putErr ps most n = x := ⟨_, rfl⟩
        have HPA := Lib.hid hpa
        have HPE := Lib.hid hpe
        clear hpa hpe
        go_wp2_with fail
        have hbx : Below wr.heap.size wr (wr.alloc (.cells #[.int .u8 n.k, .int .i64 n.l, .int .i64 n.r, .int .i64 n.f, .int .i64 n.t, .int .i64 n.a, .int .i64 n.i] 36)) := (Below.refl _ _).alloc (Nat.le_refl _) _
        refine (put_far n _ (HS.out.pool.made hbx (Nat.le_refl _) (by simp)) (Nat.le_trans HB.out.size hbx.size)).mono ?_
        rw [HPA.out, HPE.out]
        rintro e w2 ⟨rfl, hp2, hb2, hk2⟩
        have cc := fun i => (World.cell?_of_block (hk2 wr.heap.size (by simp))).trans (cells_at wr #[.int .u8 n.k, .int .i64 n.l, .int .i64 n.r, .int .i64 n.f, .int .i64 n.t, .int .i64 n.a, .int .i64 n.i] 36 i)
        have d0 : w2.cell? ⟨wr.heap.size, 0, none⟩ = some (.int .u8 n.k) := cc 0
        have d1 : w2.cell? ⟨wr.heap.size, 1, none⟩ = some (.int .i64 n.l) := cc 1
        have d2 : w2.cell? ⟨wr.heap.size, 2, none⟩ = some (.int .i64 n.r) := cc 2
        have d3 : w2.cell? ⟨wr.heap.size, 3, none⟩ = some (.int .i64 n.f) := cc 3
        have d4 : w2.cell? ⟨wr.heap.size, 4, none⟩ = some (.int .i64 n.t) := cc 4
        have d5 : w2.cell? ⟨wr.heap.size, 5, none⟩ = some (.int .i64 n.a) := cc 5
        have d6 : w2.cell? ⟨wr.heap.size, 6, none⟩ = some (.int .i64 n.i) := cc 6
        have HR2 := Lib.hid ((HS.out.row.later hbx).keep (fun b hb => hk2 b (List.mem_cons_of_mem _ hb)))
        have HP2 := Lib.hid (hp2.sub (B' := addrB ha) (fun b hb => List.mem_cons_of_mem _ hb))
        have HB2 := Lib.hid ((bl HB.out HB.out.size hbx).trans hb2)
        have HRT := Lib.hid HS.out.pool.own.right
        have HCP := Lib.hid HS.out.cap
        clear hbx hp2 hb2 hk2 cc HS HB c0 c1 c2 c3 c4 c5 c6
        go_wp2_with fail
        refine (rput_any ps ha hc most n _ HRT.out HR2.out hp60 HCP.out).mono ?_
        rintro e w3 ⟨a3, k3, rfl, hr3, hc3, hb3, hfr⟩
        rw [HPA.out, HPE.out]
        have HS3 := Lib.hid (show BothSt W.heap.size pb most (putNs ps most n) a3 k3 w3 from ⟨by
          rcases hfr with rfl | hfr
          · exact HP2.out.later hb3
          · exact addrB_made HP2.out.own hb3 hfr, hr3, hc3⟩)
        have HB3 := Lib.hid (bl HB2.out HB2.out.size hb3)
        clear hr3 hc3 hb3 hfr HP2 HR2 HB2 d0 d1 d2 d3 d4 d5 d6
        go_wp2_with fail
        go_roundw
        case rel => exact ⟨k + 1, a3, k3, by omega, by go_num, (by rw [HT.out]), Lib.hid (by rw [HT.out]; exact HS3.out), HB3⟩
        case measure => simp [intOf]; omega
      · have hke : k = ns.length := by omega
        subst hke
        clear hlt hk
        rw [List.take_length] at HS ⊢
        have hpl := puts_len most ns
        obtain ⟨ps, hps⟩ : ∃ ps, puts most ns = ps := ⟨_, rfl⟩
        rw [hps] at HS hpl ⊢
        have hp60 : ps.length ≤ 60 := by omega
        clear hpl hps
        by_cases hin : 0 ≤ at_ ∧ at_ < ps.length
        · obtain ⟨hi0, hi1⟩ := hin
          have HG := Lib.hid (show getNd ps at_ = ps.getD at_.toNat Nd.zero ∧ decide (0 ≤ at_ ∧ at_ < ps.length) = true by unfold getNd nd; rw [if_pos ⟨hi0, hi1⟩]; exact ⟨rfl, decide_eq_true ⟨hi0, hi1⟩⟩)
          go_wp2_with fail
          refine (get_own at_ _ HS.out.pool.own).mono ?_
          rw [HG.out.1, HG.out.2]
          rintro e w8 ⟨rfl, hb8⟩
          obtain ⟨b8, o8, rfl, a0, a1, a2, a3, a4, a5, a6⟩ := (HS.out.row.later hb8).node at_.toNat (by omega)
          have HS8 := Lib.hid (HS.out.later hb8)
          have HB8 := Lib.hid (bl HB.out HB.out.size hb8)
          obtain ⟨x, hx⟩ : ∃ x, ps.getD at_.toNat Nd.zero = x := ⟨_, rfl⟩
          rw [hx] at a0 a1 a2 a3 a4 a5 a6 ⊢
          clear hb8 HS HB hx HG
          have hne := neq_node x x
          rw [(nodeB_iff x x).2 rfl] at hne
          go_wp2_with fail
          refine from_box1 (fun V hV => ?_)
          obtain ⟨hBV, zlt, zge, cn, fn⟩ := hV
          have m0 : V.cell? ⟨w8.heap.size, 0, none⟩ = some (.int .u8 x.k) := cn 0
          have m1 : V.cell? ⟨w8.heap.size, 1, none⟩ = some (.int .i64 x.l) := cn 1
          have m2 : V.cell? ⟨w8.heap.size, 2, none⟩ = some (.int .i64 x.r) := cn 2
          have m3 : V.cell? ⟨w8.heap.size, 3, none⟩ = some (.int .i64 x.f) := cn 3
          have m4 : V.cell? ⟨w8.heap.size, 4, none⟩ = some (.int .i64 x.t) := cn 4
          have m5 : V.cell? ⟨w8.heap.size, 5, none⟩ = some (.int .i64 x.a) := cn 5
          have m6 : V.cell? ⟨w8.heap.size, 6, none⟩ = some (.int .i64 x.i) := cn 6
          have hbl : b8 < w8.heap.size := World.block_lt_of_cell? _ _ a0
          replace a0 := (hBV.cell (p := ⟨b8, _, none⟩) hbl).trans a0
          replace a1 := (hBV.cell (p := ⟨b8, _, none⟩) hbl).trans a1
          replace a2 := (hBV.cell (p := ⟨b8, _, none⟩) hbl).trans a2
          replace a3 := (hBV.cell (p := ⟨b8, _, none⟩) hbl).trans a3
          replace a4 := (hBV.cell (p := ⟨b8, _, none⟩) hbl).trans a4
          replace a5 := (hBV.cell (p := ⟨b8, _, none⟩) hbl).trans a5
          replace a6 := (hBV.cell (p := ⟨b8, _, none⟩) hbl).trans a6
          have HSV := Lib.hid (HS8.out.later hBV)
          have HBV := Lib.hid (bl HB8.out HB8.out.size hBV)
          clear hBV zlt zge cn fn HS8 HB8
          have hdN : ∀ n, Below V.heap.size V (V.drewN n) := fun n => ⟨rfl, rfl, rfl, Nat.le_refl _, fun _ _ => rfl⟩
          go_quiet ((go_at_call 27; exact Calls.quiet_of_same ((len_own _ (HSV.out.pool.own.later (hdN _))).mono fun e w' ⟨h1, h2⟩ => ⟨h1, h2.symm⟩)))
          clear m0 m1 m2 m3 m4 m5 m6 a0 a1 a2 a3 a4 a5 a6 hne
          go_wp2_with fail
          refine (nodes_own _ (HSV.out.pool.own.later (hdN _))).mono ?_
          rintro e w9 ⟨xa, xc, rfl, hox, hb9⟩
          have hb9' := bl (hdN _) (hdN _).size hb9
          have HS9 := Lib.hid (HSV.out.later hb9')
          have HX9 := Lib.hid (row_of_nodes hox rfl)
          have HB9 := Lib.hid (bl HBV.out HBV.out.size hb9')
          clear hox hb9 hb9' HSV HBV hdN
          go_wp2_with fail
          refine (nodes_any ps ps xa _ xc _ _ HX9.out HS9.out.row (by omega) (by omega)).mono ?_
          rw [(sameN_iff ps ps).2 rfl]
          rintro e w10 ⟨rfl, hb10⟩
          have HS10 := Lib.hid (HS9.out.later hb10)
          have HB10 := Lib.hid (bl HB9.out HB9.out.size hb10)
          clear hb10 HS9 HX9 HB9
          go_wp2_with fail
          refine (roots_own _ HS10.out.pool.own).mono ?_
          rintro e w11 ⟨ra, rc, rfl, hor, hb11⟩
          have HRW := Lib.hid (row_of_owned hor)
          have HS11 := Lib.hid (HS10.out.later hb11)
          have HB11 := Lib.hid (bl HB10.out HB10.out.size hb11)
          have hrl : (rootsL (ksFrom [] ps)).length ≤ ps.length := by
            have h1 := rootsL_len (ksFrom [] ps)
            rw [ksFrom_len] at h1
            simpa using h1
          have HRE := Lib.hid (kidRoots_eq HS11.out.pool.own.right)
          obtain ⟨rs, hrs⟩ : ∃ rs, rootsL (ksFrom [] ps) = rs := ⟨_, rfl⟩
          rw [hrs] at HRW HRE hrl ⊢
          clear hor hb11 HS10 HB10 hrs
          go_wp2_with fail
          refine (rroots_any ps _ _ _ HS11.out.row (by omega)).mono ?_
          rw [HRE.out]
          rintro e w12 ⟨ta, tc, rfl, hot, hb12⟩
          have HTW := Lib.hid (row_of_owned hot)
          have HR12 := Lib.hid (HRW.out.later hb12)
          have HB12 := Lib.hid (bl HB11.out HB11.out.size hb12)
          clear hot hb12 HS11 HB11 HRW HRE
          go_wp2_with fail
          refine (ints_any rs rs ra ta rc tc _ HR12.out HTW.out (by unfold maxLen; omega) (by unfold maxLen; omega)).mono ?_
          rw [show sameB rs rs = true from decide_eq_true rfl]
          rintro e w13 ⟨rfl, hb13⟩
          have HB13 := Lib.hid (bl HB12.out HB12.out.size hb13)
          clear hb13 HR12 HTW HB12
          go_wp2_with fail
          refine (awake5_any _).mono ?_
          rintro e w14 ⟨rfl, hb14⟩
          have HB14 := Lib.hid (bl HB13.out HB13.out.size hb14)
          clear hb14
          go_wp2
          go_ret
          exact ⟨rfl, HB14.out⟩
        · have HG := Lib.hid (show getNd ps at_ = Nd.zero ∧ decide (0 ≤ at_ ∧ at_ < ps.length) = false by unfold getNd; rw [if_neg hin]; exact ⟨rfl, decide_eq_false hin⟩)
          have hne : ∀ w, (binOp .neq 36 (.agg #[.int .u8 0, .int .i64 0, .int .i64 0, .int .i64 0, .int .i64 0, .int .i64 0, .int .i64 0]) (.agg #[.int .u8 0, .int .i64 0, .int .i64 0, .int .i64 0, .int .i64 0, .int .i64 0, .int .i64 0])).run Try.prog w = .ok (.bool false) w := fun w => by
            have h := neq_node Nd.zero Nd.zero w
            rw [(nodeB_iff Nd.zero Nd.zero).2 rfl] at h
            exact h
          have hsp : (at_ < 0 ∧ decide (0 ≤ at_) = false) ∨ (0 ≤ at_ ∧ (ps.length : Int) ≤ at_ ∧ decide (at_ < (ps.length : Int)) = false) := by
            by_cases h0 : at_ < 0
            · exact .inl ⟨h0, decide_eq_false (by omega)⟩
            · exact .inr ⟨by omega, by omega, decide_eq_false (by omega)⟩
          clear hin
          rcases hsp with ⟨hs1, hd⟩ | ⟨hs1, hs2, hd⟩
          all_goals
            go_wp2_with fail
            refine (get_own at_ _ HS.out.pool.own).mono ?_
            rw [HG.out.1, HG.out.2]
            rintro e w8 ⟨rfl, hb8⟩
            have HS8 := Lib.hid (HS.out.later hb8)
            have HB8 := Lib.hid (bl HB.out HB.out.size hb8)
            clear hb8 HS HB HG
            simp only [Nd.val, Nd.zero]
            go_wp2_with fail
            refine from_box1 (fun V hV => ?_)
            obtain ⟨hBV, zlt, zge, cn, fn⟩ := hV
            have m0 : V.cell? ⟨w8.heap.size, 0, none⟩ = some (.int .u8 0) := cn 0
            have m1 : V.cell? ⟨w8.heap.size, 1, none⟩ = some (.int .i64 0) := cn 1
            have m2 : V.cell? ⟨w8.heap.size, 2, none⟩ = some (.int .i64 0) := cn 2
            have m3 : V.cell? ⟨w8.heap.size, 3, none⟩ = some (.int .i64 0) := cn 3
            have m4 : V.cell? ⟨w8.heap.size, 4, none⟩ = some (.int .i64 0) := cn 4
            have m5 : V.cell? ⟨w8.heap.size, 5, none⟩ = some (.int .i64 0) := cn 5
            have m6 : V.cell? ⟨w8.heap.size, 6, none⟩ = some (.int .i64 0) := cn 6
            have HSV := Lib.hid (HS8.out.later hBV)
            have HBV := Lib.hid (bl HB8.out HB8.out.size hBV)
            clear hBV zlt zge cn fn HS8 HB8
            have hdN : ∀ n, Below V.heap.size V (V.drewN n) := fun n => ⟨rfl, rfl, rfl, Nat.le_refl _, fun _ _ => rfl⟩
            go_quiet ((go_at_call 27; exact Calls.quiet_of_same ((len_own _ (HSV.out.pool.own.later (hdN _))).mono fun e w' ⟨h1, h2⟩ => ⟨h1, h2.symm⟩)))
            clear m0 m1 m2 m3 m4 m5 m6 hne
            go_wp2_with fail
            refine (nodes_own _ (HSV.out.pool.own.later (hdN _))).mono ?_
            rintro e w9 ⟨xa, xc, rfl, hox, hb9⟩
            have hb9' := bl (hdN _) (hdN _).size hb9
            have HS9 := Lib.hid (HSV.out.later hb9')
            have HX9 := Lib.hid (row_of_nodes hox rfl)
            have HB9 := Lib.hid (bl HBV.out HBV.out.size hb9')
            clear hox hb9 hb9' HSV HBV hdN
            go_wp2_with fail
            refine (nodes_any ps ps xa _ xc _ _ HX9.out HS9.out.row (by omega) (by omega)).mono ?_
            rw [(sameN_iff ps ps).2 rfl]
            rintro e w10 ⟨rfl, hb10⟩
            have HS10 := Lib.hid (HS9.out.later hb10)
            have HB10 := Lib.hid (bl HB9.out HB9.out.size hb10)
            clear hb10 HS9 HX9 HB9
            go_wp2_with fail
            refine (roots_own _ HS10.out.pool.own).mono ?_
            rintro e w11 ⟨ra, rc, rfl, hor, hb11⟩
            have HRW := Lib.hid (row_of_owned hor)
            have HS11 := Lib.hid (HS10.out.later hb11)
            have HB11 := Lib.hid (bl HB10.out HB10.out.size hb11)
            have hrl : (rootsL (ksFrom [] ps)).length ≤ ps.length := by
              have h1 := rootsL_len (ksFrom [] ps)
              rw [ksFrom_len] at h1
              simpa using h1
            have HRE := Lib.hid (kidRoots_eq HS11.out.pool.own.right)
            obtain ⟨rs, hrs⟩ : ∃ rs, rootsL (ksFrom [] ps) = rs := ⟨_, rfl⟩
            rw [hrs] at HRW HRE hrl ⊢
            clear hor hb11 HS10 HB10 hrs
            go_wp2_with fail
            refine (rroots_any ps _ _ _ HS11.out.row (by omega)).mono ?_
            rw [HRE.out]
            rintro e w12 ⟨ta, tc, rfl, hot, hb12⟩
            have HTW := Lib.hid (row_of_owned hot)
            have HR12 := Lib.hid (HRW.out.later hb12)
            have HB12 := Lib.hid (bl HB11.out HB11.out.size hb12)
            clear hot hb12 HS11 HB11 HRW HRE
            go_wp2_with fail
            refine (ints_any rs rs ra ta rc tc _ HR12.out HTW.out (by unfold maxLen; omega) (by unfold maxLen; omega)).mono ?_
            rw [show sameB rs rs = true from decide_eq_true rfl]
            rintro e w13 ⟨rfl, hb13⟩
            have HB13 := Lib.hid (bl HB12.out HB12.out.size hb13)
            clear hb13 HR12 HTW HB12
            go_wp2_with fail
            refine (awake5_any _).mono ?_
            rintro e w14 ⟨rfl, hb14⟩
            have HB14 := Lib.hid (bl HB13.out HB13.out.size hb14)
            clear hb14
            go_wp2
            go_ret
            exact ⟨rfl, HB14.out⟩
end Go.Proofs.Ytjpemijonjmcdaa
