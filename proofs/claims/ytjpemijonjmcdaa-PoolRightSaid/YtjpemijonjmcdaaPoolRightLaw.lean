/- The walk of PoolRight. -/
import Derived.Test.YtjpemijonjmcdaaPoolAwake
namespace Go.Proofs.Ytjpemijonjmcdaa
open Go.RowKit
set_option linter.unusedVariables false
set_option linter.unusedSimpArgs false

theorem rightL_takes (ns : List Nd) (k : Nat) (h : k < ns.length) : rightL [] (ns.take (k + 1)) = (rightL [] (ns.take k) && mayB (ns.getD k Nd.zero).k (ns.getD k Nd.zero).l (ns.getD k Nd.zero).r (ksFrom [] (ns.take k))) := by
  rw [take_snoc' ns k h, rightL_snoc]
/-- What is right can be put, one by one. -/
theorem puts_right (most : Int) (ns : List Nd) (hm : (ns.length : Int) ≤ most) (h : rightL [] ns = true) : puts most ns = ns := by
  revert hm h
  refine snoc_ind (motive := fun ns => (ns.length : Int) ≤ most → rightL [] ns = true → puts most ns = ns) (fun _ _ => rfl) (fun l a ih hm h => ?_) ns
  rw [rightL_snoc, Bool.and_eq_true] at h
  simp only [List.length_append, List.length_cons, List.length_nil] at hm
  rw [puts_snoc, ih (by omega) h.1]
  unfold putNs putErr
  rw [if_pos h.2, if_pos (by omega)]
theorem putErr_room (ps : List Nd) (most : Int) (n : Nd) (h : (ps.length : Int) < most) : putErr ps most n = (if mayB n.k n.l n.r (ksFrom [] ps) = true then 0 else 50) := by
  unfold putErr; rw [if_pos h]

set_option maxRecDepth 100000 in
set_option maxHeartbeats 4000000 in
theorem PoolRight_walk (ns : List Nd) (ao : Option Addr) (cap : Nat) (W : World) (hrow : NdRow W ao ns) (hlen : ns.length ≤ 2513169434907) (hcap : ns.length ≤ cap) :
    Calls Try.prog 8 #[.slice ao ns.length cap] W fun e w' => e = .returned (.bool true) ∧ Below W.heap.size W w' := by
  have HN := Lib.hid hrow
  clear hrow
  go_enter Try.func8, Try.ntmps8
  by_cases h300 : 300 < ns.length
  · go_wp2_with fail
    refine (awake5_any _).mono ?_
    rintro e w5 ⟨rfl, hb5⟩
    go_wp2
    go_ret
    exact ⟨rfl, hb5⟩
  · have h300' : ns.length ≤ 300 := by omega
    clear h300
    go_wp2_with fail
    refine (new_any ns.length _ (by omega) (by omega)).mono ?_
    rintro e w1 ⟨rfl, rfl⟩
    have HP1 := Lib.hid (PoolOwn.new W ns.length (by omega) (by omega) (Nat.le_refl W.heap.size))
    have HB1 := Lib.hid ((Below.refl W.heap.size W).alloc (Nat.le_refl _) (newPool ns.length))
    generalize W.alloc (newPool ns.length) = V1 at HP1 HB1 ⊢
    go_wp2_with fail
    go_loopw [5, 24] (fun fi i wr => ∃ k : Nat, k ≤ ns.length ∧ i = .int .i64 k ∧ fi = .bool (rightL [] (ns.take k)) ∧ Hid (PoolOwn W.heap.size W.heap.size ns.length (puts ns.length (ns.take k)) wr) ∧ Hid (Below W.heap.size W wr)) (fun _ i _ => ns.length - (intOf i).toNat)
    case atStart => exact ⟨0, Nat.zero_le _, rfl, rfl, HP1, HB1⟩
    case round =>
      clear HP1 HB1
      obtain ⟨k, hk, rfl, rfl, HP, HB⟩ := hrel
      by_cases hlt : k < ns.length
      · obtain ⟨b, off, rfl, c0, c1, c2, c3, c4, c5, c6⟩ := (HN.out.later HB.out).node k hlt
        have HT := Lib.hid (puts_take ns.length ns k hlt)
        have hr := rightL_takes ns k hlt
        have hpr := puts_right ns.length (ns.take k) (by rw [List.length_take]; omega)
        have hpl := puts_len ns.length (ns.take k)
        rw [List.length_take] at hpl
        have hpe := putErr_room (puts ns.length (ns.take k)) ns.length (ns.getD k Nd.zero) (by omega)
        have htl : (ns.take k).length = k := by rw [List.length_take]; omega
        obtain ⟨n, hn⟩ : ∃ n, ns.getD k Nd.zero = n := ⟨_, rfl⟩
        rw [hn] at c0 c1 c2 c3 c4 c5 c6 HT hpe hr
        obtain ⟨ps, hps⟩ : ∃ ps, puts ns.length (ns.take k) = ps := ⟨_, rfl⟩
        rw [hps] at HP HT hpe hpr
        have hat : putAt ps ns.length n = if putErr ps ns.length n = 0 then (ps.length : Int) else 0 := rfl
        obtain ⟨f, hf⟩ : ∃ f, rightL [] (ns.take k) = f := ⟨_, rfl⟩
        rw [hf] at hr hpr ⊢
        have hres : (f = true ∧ putErr ps ns.length n = 0 ∧ putAt ps ns.length n = k ∧ rightL [] (ns.take (k + 1)) = true) ∨ (f = false ∧ putErr ps ns.length n = 0 ∧ rightL [] (ns.take (k + 1)) = false) ∨ (putErr ps ns.length n = 50 ∧ putAt ps ns.length n = 0 ∧ rightL [] (ns.take (k + 1)) = false) := by
          cases f with
          | true =>
            have e := hpr rfl
            rw [← e] at hr
            rw [hr]
            cases hm : mayB n.k n.l n.r (ksFrom [] ps) with
            | true =>
              rw [hm, if_pos rfl] at hpe
              rw [hpe, if_pos rfl] at hat
              refine .inl ⟨rfl, hpe, ?_, rfl⟩
              rw [hat, e, htl]
            | false =>
              rw [hm, if_neg (by simp)] at hpe
              rw [hpe, if_neg (by omega)] at hat
              exact .inr (.inr ⟨hpe, hat, rfl⟩)
          | false =>
            rw [hr]
            cases hm : mayB n.k n.l n.r (ksFrom [] ps) with
            | true =>
              rw [hm, if_pos rfl] at hpe
              exact .inr (.inl ⟨rfl, hpe, rfl⟩)
            | false =>
              rw [hm, if_neg (by simp)] at hpe
              rw [hpe, if_neg (by omega)] at hat
              exact .inr (.inr ⟨hpe, hat, rfl⟩)
        clear hn hps hpr hpl hpe htl hat hr hf
        rcases hres with ⟨rfl, h1, h2, h3⟩ | ⟨rfl, h1, h3⟩ | ⟨h1, h2, h3⟩
        · have HR := Lib.hid h3
          have HE := Lib.hid (And.intro h1 h2)
          clear h1 h2 h3
          go_wp2_with fail
          have hbx : Below wr.heap.size wr (wr.alloc (.cells #[.int .u8 n.k, .int .i64 n.l, .int .i64 n.r, .int .i64 n.f, .int .i64 n.t, .int .i64 n.a, .int .i64 n.i] 36)) := (Below.refl _ _).alloc (Nat.le_refl _) _
          refine (put_own n _ (HP.out.later hbx) (Nat.le_trans HB.out.size hbx.size)).mono ?_
          rw [HE.out.1, HE.out.2]
          rintro e w2 ⟨rfl, hp2, hb2⟩
          have HP2 := Lib.hid hp2
          have HB2 := Lib.hid ((bl HB.out HB.out.size hbx).trans hb2)
          clear hbx hp2 hb2 c0 c1 c2 c3 c4 c5 c6 HE
          go_wp2_with fail
          go_roundw
          case rel => exact ⟨k + 1, by omega, by go_num, (by rw [HR.out]), Lib.hid (by rw [HT.out]; exact HP2.out), HB2⟩
          case measure => simp [intOf]; omega
        · have HR := Lib.hid h3
          have HE := Lib.hid h1
          clear h1 h3
          obtain ⟨pa, hpa⟩ : ∃ pa, putAt ps ns.length n = pa := ⟨_, rfl⟩
          go_wp2_with fail
          have hbx : Below wr.heap.size wr (wr.alloc (.cells #[.int .u8 n.k, .int .i64 n.l, .int .i64 n.r, .int .i64 n.f, .int .i64 n.t, .int .i64 n.a, .int .i64 n.i] 36)) := (Below.refl _ _).alloc (Nat.le_refl _) _
          refine (put_own n _ (HP.out.later hbx) (Nat.le_trans HB.out.size hbx.size)).mono ?_
          rw [HE.out, hpa]
          rintro e w2 ⟨rfl, hp2, hb2⟩
          have HP2 := Lib.hid hp2
          have HB2 := Lib.hid ((bl HB.out HB.out.size hbx).trans hb2)
          clear hbx hp2 hb2 c0 c1 c2 c3 c4 c5 c6 HE hpa
          go_wp2_with fail
          go_roundw
          case rel => exact ⟨k + 1, by omega, by go_num, (by rw [HR.out]), Lib.hid (by rw [HT.out]; exact HP2.out), HB2⟩
          case measure => simp [intOf]; omega
        · have HR := Lib.hid h3
          have HE := Lib.hid (And.intro h1 h2)
          clear h1 h2 h3
          go_wp2_with fail
          have hbx : Below wr.heap.size wr (wr.alloc (.cells #[.int .u8 n.k, .int .i64 n.l, .int .i64 n.r, .int .i64 n.f, .int .i64 n.t, .int .i64 n.a, .int .i64 n.i] 36)) := (Below.refl _ _).alloc (Nat.le_refl _) _
          refine (put_own n _ (HP.out.later hbx) (Nat.le_trans HB.out.size hbx.size)).mono ?_
          rw [HE.out.1, HE.out.2]
          rintro e w2 ⟨rfl, hp2, hb2⟩
          have HP2 := Lib.hid hp2
          have HB2 := Lib.hid ((bl HB.out HB.out.size hbx).trans hb2)
          clear hbx hp2 hb2 c0 c1 c2 c3 c4 c5 c6 HE
          cases f with
          | false =>
            go_wp2_with fail
            go_roundw
            case rel => exact ⟨k + 1, by omega, by go_num, (by rw [HR.out]), Lib.hid (by rw [HT.out]; exact HP2.out), HB2⟩
            case measure => simp [intOf]; omega
          | true =>
            go_wp2_with fail
            go_roundw
            case rel => exact ⟨k + 1, by omega, by go_num, (by rw [HR.out]), Lib.hid (by rw [HT.out]; exact HP2.out), HB2⟩
            case measure => simp [intOf]; omega
      · have hke : k = ns.length := by omega
        subst hke
        clear hlt hk
        rw [List.take_length] at HP ⊢
        cases hr : rightL [] ns with
        | true =>
          have HPR := puts_right ns.length ns (Int.le_refl _) hr
          rw [HPR] at HP
          clear HPR
          have HR := Lib.hid hr
          clear hr
          go_wp2_with fail
          refine (right_any ns ao cap _ (HN.out.later HB.out) hlen).mono ?_
          rw [HR.out]
          rintro e w2 ⟨rfl, hb2⟩
          have HP2 := Lib.hid (HP.out.later hb2)
          have HB2 := Lib.hid (bl HB.out HB.out.size hb2)
          clear hb2 HP HB
          go_wp2_with fail
          refine (nodes_own _ HP2.out).mono ?_
          rintro e w3 ⟨xa, xc, rfl, hox, hb3⟩
          have HX := Lib.hid (row_of_nodes hox rfl)
          have HB3 := Lib.hid (bl HB2.out HB2.out.size hb3)
          clear hox hb3 HP2 HB2
          go_wp2_with fail
          refine (nodes_any ns ns xa ao xc cap _ HX.out (HN.out.later HB3.out) hlen hlen).mono ?_
          rw [(sameN_iff ns ns).2 rfl]
          rintro e w4 ⟨rfl, hb4⟩
          have HB4 := Lib.hid (bl HB3.out HB3.out.size hb4)
          clear hb4 HX HB3
          go_wp2_with fail
          refine (awake5_any _).mono ?_
          rintro e w5 ⟨rfl, hb5⟩
          have HB5 := Lib.hid (bl HB4.out HB4.out.size hb5)
          clear hb5
          go_wp2
          go_ret
          exact ⟨rfl, HB5.out⟩
        | false =>
          have HR := Lib.hid hr
          clear hr
          go_wp2_with fail
          refine (right_any ns ao cap _ (HN.out.later HB.out) hlen).mono ?_
          rw [HR.out]
          rintro e w2 ⟨rfl, hb2⟩
          have HB2 := Lib.hid (bl HB.out HB.out.size hb2)
          clear hb2 HP HB
          go_wp2_with fail
          refine (awake5_any _).mono ?_
          rintro e w5 ⟨rfl, hb5⟩
          have HB5 := Lib.hid (bl HB2.out HB2.out.size hb5)
          clear hb5
          go_wp2
          go_ret
          exact ⟨rfl, HB5.out⟩
end Go.Proofs.Ytjpemijonjmcdaa
