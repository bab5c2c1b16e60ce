/- The walk of StackRoots. -/
import Derived.Test.YtjpemijonjmcdaaStackAwake
import Derived.Test.YtjpemijonjmcdaaPuts
namespace Go.Proofs.Ytjpemijonjmcdaa
open Go.RowKit
set_option linter.unusedVariables false
set_option linter.unusedSimpArgs false

/-- The slices of StackRoots' second half. -/
structure SeenSt (B sg n : Nat) (ra xa : Option Addr) (rc xc : Nat) (rs : List Int) (ps : List Nd) (V : List Int) (w : World) : Prop where
  seen : w.ownsRow B 4 1 (.slice (some ⟨sg, 0, none⟩) n n) n ((markL (List.replicate n false) V).map .bool)
  roots : w.ownsRow B 3 1 (.slice ra rs.length rc) rs.length (rs.map (.int .i64))
  all : w.ownsRow B 36 7 (.slice xa n xc) n (flatN ps)
theorem SeenSt.later {B sg n : Nat} {ra xa : Option Addr} {rc xc : Nat} {rs : List Int} {ps : List Nd} {V : List Int} {w w' : World} (h : SeenSt B sg n ra xa rc xc rs ps V w) (hb : Below w.heap.size w w') : SeenSt B sg n ra xa rc xc rs ps V w' :=
  ⟨own_below h.seen hb, own_below h.roots hb, own_below h.all hb⟩
theorem seen_get (n : Nat) (V : List Int) (x : Int) (h0 : 0 ≤ x) (h1 : x < n) (hV : ∀ y ∈ V, 0 ≤ y) : (markL (List.replicate n false) V).getD x.toNat true = V.contains x := by
  rw [markL_get _ _ _ h0 (by simpa using h1) hV]
  have : (List.replicate n false).getD x.toNat true = false := by
    rw [List.getD_eq_getElem?_getD, List.getElem?_replicate, if_pos (by omega)]; rfl
  rw [this, Bool.false_or]
theorem madeBool (n : Nat) : (madeCells #[Value.bool false] n).toList = (List.replicate n false).map .bool := by
  rw [List.map_replicate]; exact toList_madeCells_one _ _
theorem nodup_next {whole V : List Int} {x : Int} {n : Nat} (hp : whole.Perm (rangeI n)) (hpre : V ++ [x] <+: whole) : 0 ≤ x ∧ x < n ∧ V.contains x = false ∧ ∀ y ∈ V, 0 ≤ y := by
  have hnd : whole.Nodup := hp.nodup_iff.2 (nodup_rangeI n)
  have hsub : ∀ y ∈ V ++ [x], y ∈ whole := fun y hy => hpre.subset hy
  have hx := mem_rangeI.1 (hp.mem_iff.1 (hsub x (by simp)))
  have hnd2 : (V ++ [x]).Nodup := hpre.sublist.nodup hnd
  rw [List.nodup_append] at hnd2
  refine ⟨hx.1, hx.2, ?_, fun y hy => (mem_rangeI.1 (hp.mem_iff.1 (hsub y (List.mem_append_left _ hy)))).1⟩
  cases e : V.contains x with
  | false => rfl
  | true => exact absurd rfl (hnd2.2.2 x (by simpa using e) x (by simp))

set_option maxRecDepth 100000 in
set_option maxHeartbeats 4000000 in
theorem StackRoots_walk (ns : List Nd) (ao : Option Addr) (cap : Nat) (W : World) (hrow : NdRow W ao ns) (hlen : ns.length ≤ 2513169434907) (hcap : ns.length ≤ cap) :
    Calls Try.prog 13 #[.slice ao ns.length cap] W fun e w' => e = .returned (.bool true) ∧ Below W.heap.size W w' := by
  have HN := Lib.hid hrow
  clear hrow
  go_enter Try.func13, Try.ntmps13
  go_wp2_with fail
  refine (new_any 300 _ (by omega) (by omega)).mono ?_
  rintro e w1 ⟨rfl, rfl⟩
  have HP1 := Lib.hid (PoolOwn.new W 300 (by omega) (by omega) (Nat.le_refl W.heap.size))
  have HB1 := Lib.hid ((Below.refl W.heap.size W).alloc (Nat.le_refl _) (newPool 300))
  generalize W.alloc (newPool 300) = V1 at HP1 HB1 ⊢
  go_wp2_with fail
  go_loopw [5] (fun i wr => ∃ k : Nat, k ≤ ns.length ∧ k ≤ 300 ∧ i = .int .i64 k ∧ Hid (PoolOwn W.heap.size W.heap.size 300 (puts 300 (ns.take k)) wr) ∧ Hid (Below W.heap.size W wr)) (fun i _ => ns.length - (intOf i).toNat)
  case atStart => exact ⟨0, Nat.zero_le _, by omega, rfl, HP1, HB1⟩
  case round =>
    clear HP1 HB1
    obtain ⟨k, hk, hk3, rfl, HP, HB⟩ := hrel
    by_cases hlt : k < ns.length ∧ k < 300
    · obtain ⟨hlt, hlt3⟩ := hlt
      obtain ⟨b, off, rfl, c0, c1, c2, c3, c4, c5, c6⟩ := (HN.out.later HB.out).node k hlt
      have HT := Lib.hid (puts_take 300 ns k hlt)
      obtain ⟨n, hn⟩ : ∃ n, ns.getD k Nd.zero = n := ⟨_, rfl⟩
      rw [hn] at c0 c1 c2 c3 c4 c5 c6 HT
      clear hn
      go_wp2_with fail
      refine (put_own n _ HP.out HB.out.size).mono ?_
      rintro e w2 ⟨rfl, hp2, hb2⟩
      have HP2 := Lib.hid hp2
      have HB2 := Lib.hid (HB.out.trans hb2)
      clear hp2 hb2 c0 c1 c2 c3 c4 c5 c6
      go_wp2_with fail
      go_roundw
      case rel => exact ⟨k + 1, by omega, by omega, by go_num, Lib.hid (by rw [HT.out]; exact HP2.out), HB2⟩
      case measure => simp [intOf]; omega
    · have hpl := puts_len 300 (ns.take k)
      rw [List.length_take] at hpl
      obtain ⟨ps, hps⟩ : ∃ ps, puts 300 (ns.take k) = ps := ⟨_, rfl⟩
      rw [hps] at HP hpl
      have hp3 : ps.length ≤ 300 := by omega
      clear hps hpl
      have hge : ns.length ≤ k ∨ (k < ns.length ∧ 300 ≤ k) := by omega
      clear hlt
      have hR := HP.out.right
      have HR := Lib.hid hR
      have hf := forest hR ps.length (Nat.le_refl _)
      rw [List.take_length] at hf
      have HF := Lib.hid hf
      obtain ⟨rs, hrs⟩ : ∃ rs, rootsL (ksFrom [] ps) = rs := ⟨_, rfl⟩
      rw [hrs] at HF
      have HRS := Lib.hid hrs
      have hrl : rs.length ≤ ps.length := by
        have h1 := rootsL_len (ksFrom [] ps)
        rw [hrs, ksFrom_len] at h1
        simpa using h1
      clear hR hf hrs
      obtain ⟨ib, hib, hbz, hb1, hb2⟩ := info_parts infoBool
      have hmk := fun W => run_make_rowN (P := Try.prog) 58 4 ib (.bool false) Try.underlying58 hib hbz .i64 .i64 ps.length ps.length (Nat.le_refl _) (by rw [hb2]; omega) (by omega) W
      rw [hb1] at hmk
      have key : ∀ Q : World → Prop, True := fun _ => trivial
      clear key
      rcases hge with hge | ⟨hge1, hge2⟩
      all_goals
        go_wp2_with fail
        refine (nodes_own wr HP.out).mono ?_
        rintro e w2 ⟨xa, xc, rfl, hox, hb2⟩
        have HOX := Lib.hid hox
        have HP2 := Lib.hid (HP.out.later hb2)
        have HB2 := Lib.hid (bl HB.out HB.out.size hb2)
        clear hox hb2
        go_wp2_with fail
        have hba : Below w2.heap.size w2 (w2.alloc (.cells (madeCells #[.bool false] ps.length) 4)) := (Below.refl _ _).alloc (Nat.le_refl _) _
        refine (roots_own _ (HP2.out.later hba)).mono ?_
        rw [HRS.out]
        rintro e w3 ⟨ra, rc, rfl, hor, hb3⟩
        have hseen := World.ownsRow_lit (base := W.heap.size) (e := 4) (size := 1) w2 (madeCells #[.bool false] ps.length) ps.length HB2.out.size (by unfold maxLen; omega) (by simp [size_madeCells])
        rw [madeBool] at hseen
        have HS := Lib.hid (show SeenSt W.heap.size w2.heap.size ps.length ra xa rc xc rs ps [] w3 from
          ⟨own_below hseen hb3, ownsRow_mono hor (Nat.le_trans HB2.out.size hba.size), own_below (own_below (ownsRow_mono HOX.out HB.out.size) hba) hb3⟩)
        have HB3 := Lib.hid (bl HB2.out HB2.out.size (bl hba hba.size hb3))
        obtain ⟨sg, hsg⟩ : ∃ sg, w2.heap.size = sg := ⟨_, rfl⟩
        rw [hsg] at HS ⊢
        clear hba hor hb3 hseen hsg hmk hb1 hb2
        go_wp2_with fail
        obtain ⟨wo, rfl⟩ : ∃ wo : World, wo = wr := ⟨_, rfl⟩
        go_loopw [8, 49] (fun m i wr => ∃ q : Nat, q ≤ rs.length ∧ i = .int .i64 q ∧ Hid (m = .int .i64 ((rs.take q).flatMap (below ps)).length) ∧ Hid (SeenSt W.heap.size sg ps.length ra xa rc xc rs ps ((rs.take q).flatMap (below ps)) wr) ∧ Hid (Below W.heap.size W wr)) (fun _ i _ => rs.length - (intOf i).toNat)
        case atStart => exact ⟨0, Nat.zero_le _, rfl, Lib.hid rfl, HS, HB3⟩
        case round =>
          clear HS HB3
          obtain ⟨q, hq, rfl, HM, HS, HB⟩ := hrel
          by_cases hql : q < rs.length
          · have hrm : rs[q] ∈ rs := List.getElem_mem hql
            have hok : okKid (ksFrom [] ps) rs[q] = true := mem_rootsL.1 (by rw [HRS.out]; exact hrm)
            obtain ⟨b1, o1, rfl, cr, _⟩ := (row_of_owned HS.out.roots).at q (by simpa using hql)
            rw [List.getElem_map] at cr
            have htake : rs.take (q + 1) = rs.take q ++ [rs[q]] := List.take_succ_eq_append_getElem hql
            have hdrop : rs.drop q = rs[q] :: rs.drop (q + 1) := List.drop_eq_getElem_cons hql
            obtain ⟨r, hr⟩ : ∃ r, rs[q] = r := ⟨_, rfl⟩
            rw [hr] at cr hok htake hdrop
            have hr0 : 0 ≤ r ∧ r < ps.length := by
              unfold okKid at hok
              simp only [Bool.and_eq_true, decide_eq_true_eq] at hok
              have h := hok.1
              rw [ksFrom_len] at h
              simpa using h
            have HE := Lib.hid (show walkErr ps r = 0 by unfold walkErr; rw [if_pos HR.out, if_pos hr0])
            have HO := Lib.hid (show walkOut ps (fun _ => true) r = below ps r by unfold walkOut; rw [if_pos ⟨HR.out, hr0⟩]; rfl)
            have hbl := below_len HR.out r hr0.1 hr0.2
            have hfl : (rs.take (q + 1)).flatMap (below ps) = (rs.take q).flatMap (below ps) ++ below ps r := by rw [htake, List.flatMap_append]; simp
            have hall : rs.flatMap (below ps) = ((rs.take q).flatMap (below ps) ++ below ps r) ++ (rs.drop (q + 1)).flatMap (below ps) := by
              rw [← hfl, ← List.flatMap_append, List.take_append_drop]
            have htl : ((rs.take q).flatMap (below ps) ++ below ps r).length ≤ ps.length := by
              have h1 := HF.out.length_eq
              rw [hall] at h1
              unfold rangeI at h1
              simp only [List.length_append, List.length_map, List.length_range] at h1 ⊢
              omega
            obtain ⟨V, hV⟩ : ∃ V, (rs.take q).flatMap (below ps) = V := ⟨_, rfl⟩
            obtain ⟨out, hout⟩ : ∃ out, below ps r = out := ⟨_, rfl⟩
            rw [hV] at HM HS hfl hall htl
            rw [hout] at HO hfl hall htl hbl
            have HFL := Lib.hid hfl
            have HALL := Lib.hid hall
            rw [List.length_append] at htl
            clear hV hout htake hdrop hr hrm hok hfl hall
            have hm := HM.out
            subst hm
            go_wp2_with fail
            refine (all_any ps xa xc r _ (row_of_nodes HS.out.all rfl) (by omega)).mono ?_
            rw [HE.out, HO.out]
            rintro e w4 ⟨ya, yc, rfl, hoy, hb4⟩
            have HY := Lib.hid (ownsRow_mono hoy HB.out.size)
            have HS4 := Lib.hid (HS.out.later hb4)
            have HB4 := Lib.hid (bl HB.out HB.out.size hb4)
            clear hoy hb4 cr
            go_wp2_with fail
            obtain ⟨wo, rfl⟩ : ∃ wo : World, wo = wr := ⟨_, rfl⟩
            go_loopw [8, 63] (fun m i wr => ∃ j : Nat, j ≤ out.length ∧ i = .int .i64 j ∧ m = .int .i64 ((V.length + j : Nat) : Int) ∧ Hid (SeenSt W.heap.size sg ps.length (some ⟨b1, o1, none⟩) xa rc xc rs ps (V ++ out.take j) wr) ∧ Hid (wr.ownsRow W.heap.size 3 1 (.slice ya out.length yc) out.length (out.map (.int .i64))) ∧ Hid (Below W.heap.size W wr)) (fun _ i _ => out.length - (intOf i).toNat)
            case atStart => exact ⟨0, Nat.zero_le _, rfl, rfl, Lib.hid (by rw [List.take_zero, List.append_nil]; exact HS4.out), HY, HB4⟩
            case round =>
              clear HS4 HB4 HY
              obtain ⟨j, hj, rfl, rfl, HS, HY, HB⟩ := hrel
              by_cases hjl : j < out.length
              · obtain ⟨b2, o2, rfl, cy, _⟩ := (row_of_owned HY.out).at j (by simpa using hjl)
                rw [List.getElem_map] at cy
                have htj : out.take (j + 1) = out.take j ++ [out[j]] := List.take_succ_eq_append_getElem hjl
                have hnx := nodup_next (x := out[j]) (V := V ++ out.take j) HF.out (by
                  rw [HALL.out, List.append_assoc, ← htj]
                  exact List.IsPrefix.trans ((List.prefix_append_right_inj V).2 (List.take_prefix _ _)) (List.prefix_append _ _))
                obtain ⟨x, hx⟩ : ∃ x, out[j] = x := ⟨_, rfl⟩
                rw [hx] at cy htj hnx
                obtain ⟨hx0, hx1, hxc, hVp⟩ := hnx
                have hcs : wr.cell? ⟨sg, x.toNat, none⟩ = some (.bool false) := by
                  have h1 := HS.out.seen.cellAt x.toNat (by omega)
                  have h2 := seen_get ps.length (V ++ out.take j) x hx0 hx1 hVp
                  rw [h1, List.getElem?_map]
                  rw [hxc, List.getD_eq_getElem?_getD] at h2
                  have hlm : (markL (List.replicate ps.length false) (V ++ out.take j)).length = ps.length := by rw [markL_len]; simp
                  rw [List.getElem?_eq_getElem (by omega)] at h2 ⊢
                  simp only [Option.getD_some] at h2
                  rw [h2]; rfl
                have hfs := HS.out.seen.frozenAt x.toNat
                have HS2 := Lib.hid (show SeenSt W.heap.size sg ps.length (some ⟨b1, o1, none⟩) xa rc xc rs ps (V ++ out.take (j + 1)) (wr.setCell ⟨sg, x.toNat, none⟩ (.bool true)) from
                  ⟨by
                    have h := (HS.out.seen.stored x.toNat (.bool true)).1
                    rw [← List.map_set] at h
                    rw [htj, ← List.append_assoc, markL_snoc]
                    exact h,
                   ownsRow_setCell_other HS.out.roots (a := ⟨sg, x.toNat, none⟩) (fun e => own_apart HS.out.roots HS.out.seen (by decide) sg e rfl) _,
                   ownsRow_setCell_other HS.out.all (a := ⟨sg, x.toNat, none⟩) (fun e => own_apart HS.out.all HS.out.seen (by decide) sg e rfl) _⟩)
                have HY2 := Lib.hid (ownsRow_setCell_other HY.out (a := ⟨sg, x.toNat, none⟩) (fun e => own_apart HY.out HS.out.seen (by decide) sg e rfl) (.bool true))
                have HB2' := Lib.hid (HB.out.setCell (p := ⟨sg, x.toNat, none⟩) (HS.out.seen.lt sg rfl).1 (.bool true))
                clear hxc hVp htj hx
                go_wp2_with fail
                go_roundw
                case rel => exact ⟨j + 1, by omega, by go_num, by go_num, HS2, HY2, HB2'⟩
                case measure => simp [intOf]; omega
              · have hje : out.take j = out := List.take_of_length_le (by omega)
                have hjl' : out.length ≤ j := by omega
                have HS3 := HS.out
                rw [hje, ← HFL.out] at HS3
                have HS3' := Lib.hid HS3
                have HLL := Lib.hid (show ((rs.take (q + 1)).flatMap (below ps)).length = V.length + j by rw [HFL.out, List.length_append]; omega)
                clear HS3 hje hj
                go_wp2_with fail
                go_roundw
                case rel => exact ⟨q + 1, by omega, by go_num, Lib.hid (by rw [HLL.out]), HS3', HB⟩
                case measure => simp [intOf]; omega
          · have hqe : rs.take q = rs := List.take_of_length_le (by omega)
            have hlen := HF.out.length_eq
            unfold rangeI at hlen
            simp only [List.length_map, List.length_range] at hlen
            have hm := HM.out
            rw [hqe, hlen] at hm
            subst hm
            have hge : rs.length ≤ q := by omega
            have hqq : ((ps.length : Int) == ps.length) = true := by simp
            clear hqe hlen hq
            go_wp2_with fail
            refine (awake7_any _).mono ?_
            rintro e w5 ⟨rfl, hb5⟩
            have HB5 := Lib.hid (bl HB.out HB.out.size hb5)
            clear hb5
            go_wp2
            go_ret
            exact ⟨rfl, HB5.out⟩
end Go.Proofs.Ytjpemijonjmcdaa
