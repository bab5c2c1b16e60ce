/- The walk of PoolForest. -/
import Derived.Test.YtjpemijonjmcdaaForestLaw
import Derived.Test.YtjpemijonjmcdaaPoolOwnLaw
namespace Go.Proofs.Ytjpemijonjmcdaa
open Go.RowKit
set_option linter.unusedVariables false
set_option linter.unusedSimpArgs false

theorem below_less {B B2 : Nat} {w w' : World} (h : Below B2 w w') (hB : B ≤ B2) : Below B w w' := ⟨h.os, h.tape, h.output, h.size, fun k hk => h.block k (by omega)⟩
/-- The walk's rows. -/
structure DSt (B B2 bg n : Nat) (ra xa : Option Addr) (rc xc : Nat) (rs : List Int) (ps : List Nd) (V : List Int) (w : World) : Prop where
  bel : w.ownsRow B 3 1 (.slice (some ⟨bg, 0, none⟩) n n) n ((marksI n V).map (.int .i64))
  blow : bg < B2
  roots : w.ownsRow B 3 1 (.slice ra rs.length rc) rs.length (rs.map (.int .i64))
  rne : ∀ g, (Value.slice ra rs.length rc).ownBlock = some g → g ≠ bg ∧ g < B2
  all : w.ownsRow B 36 7 (.slice xa n xc) n (flatN ps)
  alow : ∀ g, (Value.slice xa n xc).ownBlock = some g → g < B2
theorem DSt.keep {B B2 bg n rc xc : Nat} {ra xa : Option Addr} {rs V : List Int} {ps : List Nd} {w w' : World} (h : DSt B B2 bg n ra xa rc xc rs ps V w) (hb : Below B2 w w') : DSt B B2 bg n ra xa rc xc rs ps V w' :=
  ⟨ownsRow_block h.bel (fun g hg => hb.block g (by cases hg; exact h.blow)), h.blow, ownsRow_block h.roots (fun g hg => hb.block g (h.rne g hg).2), h.rne, ownsRow_block h.all (fun g hg => hb.block g (h.alow g hg)), h.alow⟩
theorem DSt.set {B B2 bg n rc xc : Nat} {ra xa : Option Addr} {rs V : List Int} {ps : List Nd} {w : World} (h : DSt B B2 bg n ra xa rc xc rs ps V w) (k : Nat) : DSt B B2 bg n ra xa rc xc rs ps (V ++ [(k : Int)]) (w.setCell ⟨bg, k, none⟩ (.int .i64 1)) :=
  ⟨by
    have h1 := (h.bel.stored k (.int .i64 1)).1
    have h2 := marksI_snoc n V (k : Int)
    rw [Int.toNat_natCast] at h2
    rw [← List.map_set, h2] at h1
    exact h1, h.blow, ownsRow_setCell_other h.roots (fun e => (h.rne bg e).1 rfl) _, h.rne, ownsRow_setCell_other h.all (fun e => own_apart h.all h.bel (by decide) bg e rfl) _, h.alow⟩

set_option maxRecDepth 100000 in
set_option maxHeartbeats 8000000 in
theorem PoolForest_walk (ns : List Nd) (ao : Option Addr) (cap : Nat) (W : World) (hrow : NdRow W ao ns) (hlen : ns.length ≤ 2513169434907) (hcap : ns.length ≤ cap) :
    Calls Try.prog 7 #[.slice ao ns.length cap] W fun e w' => e = .returned (.bool true) ∧ Below W.heap.size W w' := by
  have HN := Lib.hid hrow
  clear hrow
  go_enter Try.func7, Try.ntmps7
  go_wp2_with fail
  refine (new_any 500 _ (by omega) (by omega)).mono ?_
  rintro e w1 ⟨rfl, rfl⟩
  have HP1 := Lib.hid (PoolOwn.new W 500 (by omega) (by omega) (Nat.le_refl W.heap.size))
  have HB1 := Lib.hid ((Below.refl W.heap.size W).alloc (Nat.le_refl _) (newPool 500))
  generalize W.alloc (newPool 500) = V1 at HP1 HB1 ⊢
  go_wp2_with fail
  go_loopw [5] (fun i wr => ∃ k : Nat, k ≤ ns.length ∧ k ≤ 500 ∧ i = .int .i64 k ∧ Hid (PoolOwn W.heap.size W.heap.size 500 (puts 500 (ns.take k)) wr) ∧ Hid (Below W.heap.size W wr)) (fun i _ => ns.length - (intOf i).toNat)
  case atStart => exact ⟨0, Nat.zero_le _, by omega, rfl, HP1, HB1⟩
  case round =>
    clear HP1 HB1
    obtain ⟨k, hk, hk3, rfl, HP, HB⟩ := hrel
    by_cases hlt : k < ns.length ∧ k < 500
    · obtain ⟨hlt, hlt3⟩ := hlt
      obtain ⟨b, off, rfl, c0, c1, c2, c3, c4, c5, c6⟩ := (HN.out.later HB.out).node k hlt
      have HT := Lib.hid (puts_take 500 ns k hlt)
      obtain ⟨n, hn⟩ : ∃ n, ns.getD k Nd.zero = n := ⟨_, rfl⟩
      rw [hn] at c0 c1 c2 c3 c4 c5 c6 HT
      clear hn
      go_wp2_with fail
      refine (put_own n _ HP.out HB.out.size).mono ?_
      rintro e w2 ⟨rfl, hp2, hb2⟩
      have HP2 := Lib.hid hp2
      have HB2 := Lib.hid (HB.out.trans hb2)
      clear hp2 hb2 c0 c1 c2 c3 c4 c5 c6
      go_wp2_with fail
      go_roundw
      case rel => exact ⟨k + 1, by omega, by omega, by go_num, Lib.hid (by rw [HT.out]; exact HP2.out), HB2⟩
      case measure => simp [intOf]; omega
    · have hpl := puts_len 500 (ns.take k)
      rw [List.length_take] at hpl
      obtain ⟨ps, hps⟩ : ∃ ps, puts 500 (ns.take k) = ps := ⟨_, rfl⟩
      rw [hps] at HP hpl
      have hp3 : ps.length ≤ 500 := by omega
      clear hps hpl
      have hge : ns.length ≤ k ∨ (k < ns.length ∧ 500 ≤ k) := by omega
      clear hlt
      obtain ⟨rs, hrs⟩ : ∃ rs, rootsL (ksFrom [] ps) = rs := ⟨_, rfl⟩
      have HRS := Lib.hid hrs
      have hrl : rs.length ≤ ps.length := by
        have h1 := rootsL_len (ksFrom [] ps)
        rw [hrs, ksFrom_len] at h1
        simpa using h1
      clear hrs
      obtain ⟨ib, hib, hbz, hb1, hb2⟩ := info_parts infoInt
      have hmk := fun W => run_make_rowN (P := Try.prog) 25 3 ib (.int .i64 0) Try.underlying25 hib hbz .i64 .i64 ps.length ps.length (Nat.le_refl _) (by rw [hb2]; omega) (by omega) W
      rw [hb1] at hmk
      have HR := Lib.hid HP.out.right
      have HRC := Lib.hid (show rs.length + (ps.flatMap Nd.kids).length = ps.length by
        have h := roots_count HP.out.right ps.length (Nat.le_refl _)
        rw [List.take_length, HRS.out] at h
        exact h)
      have HF := Lib.hid (show (rs.flatMap (below ps)).Perm (rangeI ps.length) by
        have h := forest HP.out.right ps.length (Nat.le_refl _)
        rw [List.take_length, HRS.out] at h
        exact h)
      rcases hge with hge | ⟨hge1, hge2⟩
      all_goals
        go_wp2_with fail
        refine (nodes_own wr HP.out).mono ?_
        rintro e w2 ⟨xa, xc, rfl, hox, hb2⟩
        have HX2 := Lib.hid (ownsRow_mono hox HB.out.size)
        have HP2 := Lib.hid (HP.out.later hb2)
        have HB2 := Lib.hid (bl HB.out HB.out.size hb2)
        clear hox hb2 HP HB
        go_wp2_with fail
        refine (right_any ps xa xc _ (row_of_nodes HX2.out rfl) (by omega)).mono ?_
        rw [HR.out]
        rintro e w3 ⟨rfl, hb3⟩
        have HX3 := Lib.hid (own_below HX2.out hb3)
        have HP3 := Lib.hid (HP2.out.later hb3)
        have HB3 := Lib.hid (bl HB2.out HB2.out.size hb3)
        clear hb3 HX2 HP2 HB2
        go_wp2_with fail
        refine (len_own _ HP3.out).mono ?_
        rintro e w4 ⟨rfl, rfl⟩
        have hba : Below w3.heap.size w3 (w3.alloc (.cells (madeCells #[.int .i64 0] ps.length) 3)) := (Below.refl _ _).alloc (Nat.le_refl _) _
        have hbel := World.ownsRow_lit (base := W.heap.size) (e := 3) (size := 1) w3 (madeCells #[.int .i64 0] ps.length) ps.length HB3.out.size (by unfold maxLen; omega) (by simp [size_madeCells])
        rw [show (madeCells #[Value.int .i64 0] ps.length).toList = (marksI ps.length []).map (.int .i64) by rw [marksI_nil, toList_madeCells_one]; simp] at hbel
        have HBL := Lib.hid hbel
        have HX4 := Lib.hid (own_below HX3.out hba)
        have HP4 := Lib.hid (HP3.out.later hba)
        have HB4 := Lib.hid (bl HB3.out HB3.out.size hba)
        obtain ⟨bg, hbg⟩ : ∃ bg, w3.heap.size = bg := ⟨_, rfl⟩
        rw [hbg] at HBL
        clear hba hbel HX3 HP3 HB3
        go_wp2_with fail
        clear hbg hmk
        obtain ⟨wo, rfl⟩ : ∃ wo : World, wo = wr := ⟨_, rfl⟩
        go_loopw [8, 63] (fun ch i wr => ∃ (i' c : Nat), i' ≤ ps.length ∧ i = .int .i64 i' ∧ ch = .int .i64 c ∧ c ≤ 2 * i' ∧ Hid (c = ((ps.take i').flatMap Nd.kids).length) ∧ Hid (wr.ownsRow W.heap.size 3 1 (.slice (some ⟨bg, 0, none⟩) ps.length ps.length) ps.length ((marksI ps.length []).map (.int .i64))) ∧ Hid (wr.ownsRow W.heap.size 36 7 (.slice xa ps.length xc) ps.length (flatN ps)) ∧ Hid (PoolOwn W.heap.size W.heap.size 500 ps wr) ∧ Hid (Below W.heap.size W wr)) (fun _ i _ => ps.length - (intOf i).toNat)
        case atStart => exact ⟨0, 0, Nat.zero_le _, rfl, rfl, by omega, Lib.hid rfl, HBL, HX4, HP4, HB4⟩
        case round =>
          clear HBL HX4 HP4 HB4
          obtain ⟨i, c, hi, rfl, rfl, hc2, HC, HBL, HX, HP, HB⟩ := hrel
          by_cases hil : i < ps.length
          · obtain ⟨b5, o5, rfl, c0, c1, c2, c3, c4, c5, c6⟩ := (row_of_nodes HX.out rfl).node i hil
            have HKT := Lib.hid (show (ps.take (i + 1)).flatMap Nd.kids = (ps.take i).flatMap Nd.kids ++ (ps.getD i Nd.zero).kids by rw [take_snoc' ps i hil, List.flatMap_append]; simp)
            obtain ⟨n, hn⟩ : ∃ n, ps.getD i Nd.zero = n := ⟨_, rfl⟩
            rw [hn] at c0 c1 c2 c3 c4 c5 c6 HKT
            have hk2 : n.kids.length ≤ 2 := kidsL_len _ _
            clear hn
            go_wp2_with fail
            have hbx : Below wr.heap.size wr (wr.alloc (.cells #[.int .u8 n.k, .int .i64 n.l, .int .i64 n.r, .int .i64 n.f, .int .i64 n.t, .int .i64 n.a, .int .i64 n.i] 36)) := (Below.refl _ _).alloc (Nat.le_refl _) _
            refine (lawKids_any n _).mono ?_
            rintro e w5 ⟨ka, kc, rfl, hok, hb5⟩
            have hb5' := bl hbx hbx.size hb5
            have HBL5 := Lib.hid (own_below HBL.out hb5')
            have HX5 := Lib.hid (own_below HX.out hb5')
            have HP5 := Lib.hid (HP.out.later hb5')
            have HB5 := Lib.hid (bl HB.out HB.out.size hb5')
            clear hok hb5 hb5' hbx HBL HX HP HB c0 c1 c2 c3 c4 c5 c6
            go_wp2_with fail
            go_roundw
            case rel => exact ⟨i + 1, c + n.kids.length, by omega, by go_num, by go_num, by omega, Lib.hid (by rw [HKT.out, List.length_append, HC.out]), HBL5, HX5, HP5, HB5⟩
            case measure => simp [intOf]; omega
          · have hie : i = ps.length := by omega
            subst hie
            have hcr : rs.length + c = ps.length := by have h1 := HC.out; rw [List.take_length] at h1; rw [h1]; exact HRC.out
            clear hil hi HC HRC
            go_wp2_with fail
            refine (roots_own _ HP.out).mono ?_
            rw [HRS.out]
            rintro e w5 ⟨ra, rc, rfl, hor, hb5⟩
            obtain ⟨B2, hB2⟩ : ∃ B2, w5.heap.size = B2 := ⟨_, rfl⟩
            have HS := Lib.hid (show DSt W.heap.size B2 bg ps.length ra xa rc xc rs ps [] w5 from
              ⟨own_below HBL.out hb5, (by have h1 := (HBL.out.lt bg rfl).2; have h2 := hb5.size; omega), ownsRow_mono hor HB.out.size, (fun g hg => by have h1 := hor.lt g hg; have h2 := (HBL.out.lt bg rfl).2; omega), own_below HX.out hb5, (fun g hg => by have h1 := HX.out.lt g hg; have h2 := hb5.size; omega)⟩)
            have HB5 := Lib.hid (bl HB.out HB.out.size hb5)
            have HWB := Lib.hid (show W.heap.size ≤ B2 by rw [← hB2]; exact HB5.out.size)
            have HBS := Lib.hid (show B2 ≤ w5.heap.size by omega)
            clear hor hb5 hB2 HBL HX HP HB
            go_wp2_with fail
            obtain ⟨wo, rfl⟩ : ∃ wo : World, wo = wr := ⟨_, rfl⟩
            go_loopw [77] (fun i wr => ∃ (q : Nat) (V : List Int), q ≤ rs.length ∧ i = .int .i64 q ∧ Hid (DSt W.heap.size B2 bg ps.length ra xa rc xc rs ps V wr) ∧ Hid ((V ++ (rs.drop q).flatMap (below ps)).Perm (rangeI ps.length)) ∧ Hid (B2 ≤ wr.heap.size) ∧ Hid (Below W.heap.size W wr)) (fun i _ => rs.length - (intOf i).toNat)
            case atStart => exact ⟨0, [], Nat.zero_le _, rfl, HS, Lib.hid (by simpa using HF.out), HBS, HB5⟩
            case round =>
              clear HS HB5 HBS HF
              obtain ⟨q, V, hq, rfl, HS, HPM, HBS, HB⟩ := hrel
              by_cases hql : q < rs.length
              · have hrm : rs[q] ∈ rs := List.getElem_mem hql
                have hok : okKid (ksFrom [] ps) rs[q] = true := mem_rootsL.1 (by rw [HRS.out]; exact hrm)
                have hdrop : rs.drop q = rs[q] :: rs.drop (q + 1) := List.drop_eq_getElem_cons hql
                obtain ⟨b1, o1, rfl, cr, _⟩ := (row_of_owned HS.out.roots).at q (by simpa using hql)
                rw [List.getElem_map] at cr
                have hprev : 0 < q → ∃ v : Int, wr.cell? ⟨b1, o1 + (q - 1), none⟩ = some (.int .i64 v) ∧ v < rs[q] := by
                  intro h0
                  obtain ⟨b2, o2, h2, cr2, _⟩ := (row_of_owned HS.out.roots).at (q - 1) (by simp; omega)
                  simp only [Option.some.injEq, Addr.mk.injEq, and_true] at h2
                  obtain ⟨rfl, rfl⟩ := h2
                  rw [List.getElem_map] at cr2
                  refine ⟨_, cr2, ?_⟩
                  have hs := roots_sorted (ksFrom [] ps) q h0 (by rw [HRS.out]; exact hql)
                  simp only [HRS.out] at hs
                  exact hs
                obtain ⟨r, hr⟩ : ∃ r, rs[q] = r := ⟨_, rfl⟩
                rw [hr] at cr hok hdrop hprev
                obtain ⟨T, hT⟩ : ∃ T, (rs.drop (q + 1)).flatMap (below ps) = T := ⟨_, rfl⟩
                have HPM2 := Lib.hid (show (V ++ ([r].flatMap (below ps) ++ T)).Perm (rangeI ps.length) by
                  have h := HPM.out
                  rw [hdrop, List.flatMap_cons, hT] at h
                  simpa using h)
                have HT := Lib.hid hT
                have hr0 : 0 ≤ r ∧ r < ps.length := by
                  unfold okKid at hok
                  simp only [Bool.and_eq_true, decide_eq_true_eq] at hok
                  have h := hok.1
                  rw [ksFrom_len] at h
                  simpa using h
                have HR0 := Lib.hid hr0
                have hqz : (¬ 0 < q ∧ ¬ 0 < (q : Int)) ∨ ∃ v : Int, 0 < q ∧ 0 < (q : Int) ∧ wr.cell? ⟨b1, o1 + (q - 1), none⟩ = some (.int .i64 v) ∧ wr.cell? ⟨b1, o1 + ((q : Int) - 1).toNat, none⟩ = some (.int .i64 v) ∧ v < r := by
                  by_cases h0 : 0 < q
                  · obtain ⟨v, h1, h2⟩ := hprev h0
                    exact .inr ⟨v, h0, by omega, h1, by rw [show ((q : Int) - 1).toNat = q - 1 by omega]; exact h1, h2⟩
                  · exact .inl ⟨h0, by omega⟩
                clear hrm hok hdrop hprev hr hT hr0 HPM
                rcases hqz with ⟨hq1, hq2⟩ | ⟨v, hq1, hq2, hv1, hv2, hvr⟩
                all_goals
                  go_wp2_with fail
                  have HSA := Lib.hid (HS.out.keep ((Below.refl B2 wr).alloc HBS.out (.cells #[.int .i64 r] 3)))
                  have HBA := Lib.hid (HB.out.alloc HB.out.size (.cells #[.int .i64 r] 3))
                  have HOA := Lib.hid (own_one wr (.int .i64 r) 3 HBS.out)
                  have HZA := Lib.hid (show B2 ≤ (wr.alloc (.cells #[.int .i64 r] 3)).heap.size by rw [World.size_alloc]; have := HBS.out; omega)
                  obtain ⟨wo, rfl⟩ : ∃ wo : World, wo = wr := ⟨_, rfl⟩
                  go_loopg [14] ([r].flatMap (below ps)).length (fun g od wr => ∃ (st V : List Int) (oa : Option Addr) (oc : Nat), od = .slice oa st.length oc ∧ Hid (g = (st.flatMap (below ps)).length) ∧ Hid (wr.ownsRow B2 3 1 (.slice oa st.length oc) st.length (st.map (.int .i64))) ∧ Hid (DSt W.heap.size B2 bg ps.length (some ⟨b1, o1, none⟩) xa rc xc rs ps V wr) ∧ Hid ((V ++ (st.flatMap (below ps) ++ T)).Perm (rangeI ps.length)) ∧ Hid (∀ x ∈ st, 0 ≤ x ∧ x < ps.length) ∧ Hid (B2 ≤ wr.heap.size) ∧ Hid (Below W.heap.size W wr))
                  case atStart => exact ⟨[r], V, some ⟨wo.heap.size, 0, none⟩, 1, rfl, Lib.hid rfl, HOA, HSA, HPM2, Lib.hid (fun x hx => by rw [List.mem_singleton] at hx; subst hx; exact HR0.out), HZA, HBA⟩
                  case round =>
                    clear HSA HBA HOA HZA HS HB HBS HPM2 cr
                    obtain ⟨st, V, oa, oc, rfl, HG, HO, HS, HPM, HIN, HBS, HB⟩ := hrel
                    rcases (show st = [] ∨ ∃ a b, st = a ++ [b] from (List.eq_nil_or_concat st).imp id (fun ⟨a, b, h⟩ => ⟨a, b, by rw [h, List.concat_eq_append]⟩)) with rfl | ⟨st', k, rfl⟩
                    · have HPE := Lib.hid (show (V ++ (rs.drop (q + 1)).flatMap (below ps)).Perm (rangeI ps.length) by rw [HT.out]; have h := HPM.out; simpa using h)
                      clear HG HO HPM HIN
                      go_wp2_with fail
                      go_roundw
                      case rel => exact ⟨q + 1, V, by omega, by go_num, HS, HPE, HBS, HB⟩
                      case measure => simp [intOf]; omega
                    · have hkr := HIN.out k (by simp)
                      have hbc := below_cons HR.out k.toNat (by omega)
                      rw [show ((k.toNat : Nat) : Int) = k by omega] at hbc
                      have hkm : k ∈ (st' ++ [k]).flatMap (below ps) := List.mem_flatMap.2 ⟨k, by simp, by rw [hbc]; simp⟩
                      obtain ⟨hk0, hkn, hkV, hVp⟩ := perm_in HPM.out hkm
                      have hpop := perm_pop HR.out hk0 hkn HPM.out
                      have hstl : st'.length ≤ 499 := by
                        have h1 := len_flat HR.out (st' ++ [k]) HIN.out
                        have h2 := perm_len HPM.out
                        simp only [List.length_append, List.length_cons, List.length_nil] at h1
                        omega
                      obtain ⟨kn, rfl⟩ : ∃ kn : Nat, k = (kn : Int) := ⟨k.toNat, by omega⟩
                      rw [Int.toNat_natCast] at hpop hbc
                      have hknn : kn < ps.length := by omega
                      have hgl : ((st' ++ (ps.getD kn Nd.zero).kids).flatMap (below ps)).length < ((st' ++ [(kn : Int)]).flatMap (below ps)).length := by
                        rw [List.flatMap_append, List.flatMap_append, List.flatMap_cons, List.flatMap_nil, List.append_nil, hbc]
                        simp only [List.length_append, List.length_cons]
                        omega
                      have hbel : wr.cell? ⟨bg, kn, none⟩ = some (.int .i64 0) := by
                        rw [HS.out.bel.cellAt kn (by omega), List.getElem?_map]
                        have h := marksI_at ps.length V (kn : Int) (by omega) (by omega) hVp
                        rw [Int.toNat_natCast, hkV] at h
                        rw [h]; rfl
                      have hbf := HS.out.bel.frozenAt kn
                      have hl1 : (st' ++ [(kn : Int)]).length = st'.length + 1 := by simp
                      have ho := HO.out
                      rw [hl1] at ho ⊢
                      obtain ⟨og, rfl⟩ := own_some ho (by omega)
                      have hcell : wr.cell? ⟨og, st'.length, none⟩ = some (.int .i64 (kn : Int)) := by rw [ho.cellAt st'.length (by omega)]; simp
                      have hsc := own_cap ho
                      have hpo := ownsRow_pop (n := st'.length) (size := 1) (xs := st'.map (Value.int .i64)) (last := [Value.int .i64 (kn : Int)]) (by simp) (by rw [List.map_append] at ho; exact ho)
                      have HS1 := Lib.hid (HS.out.set kn)
                      obtain ⟨bx, ox, rfl, c0, c1, c2, c3, c4, c5, c6⟩ := (row_of_nodes HS1.out.all rfl).node kn hknn
                      have hkl := kids_lt HR.out kn hknn
                      obtain ⟨n, hn⟩ : ∃ n, ps.getD kn Nd.zero = n := ⟨_, rfl⟩
                      rw [hn] at c0 c1 c2 c3 c4 c5 c6 hkl hpop hgl
                      have HKL := Lib.hid hkl
                      have HPOP := Lib.hid hpop
                      have HGL := Lib.hid hgl
                      have HPO := Lib.hid (ownsRow_setCell_below hpo (a := ⟨bg, kn, none⟩) HS.out.blow (.int .i64 1))
                      have HBZ := Lib.hid (HB.out.setCell (p := ⟨bg, kn, none⟩) (HS.out.bel.lt bg rfl).1 (.int .i64 1))
                      have HZZ := Lib.hid (show B2 ≤ (wr.setCell ⟨bg, kn, none⟩ (.int .i64 1)).heap.size by rw [World.size_setCell]; exact HBS.out)
                      have hk2 : n.kids.length ≤ 2 := kidsL_len _ _
                      clear hkr hbc hkm hkV hVp hpop hgl hl1 ho hpo hkl hn HO HS HB HBS HPM
                      go_wp2_with fail
                      refine (lawKids_any n _).mono ?_
                      rintro e w4 ⟨ka, kc, rfl, hok, hb4⟩
                      have HS4 := Lib.hid (HS1.out.keep (below_less hb4 HZZ.out))
                      have HO4 := Lib.hid (own_below HPO.out hb4)
                      have HK4 := Lib.hid (ownsRow_mono hok HZZ.out)
                      have HAP := Lib.hid (show ∀ g, (Value.slice (some ⟨og, 0, none⟩) st'.length oc).ownBlock = some g → (Value.slice ka n.kids.length kc).ownBlock ≠ some g from fun g h1 h2 => by
                        have := (HPO.out.lt g h1).2
                        have := (hok.lt g h2).1
                        omega)
                      have HB4 := Lib.hid (bl HBZ.out HBZ.out.size hb4)
                      have HZ4 := Lib.hid (Nat.le_trans HZZ.out hb4.size)
                      clear hok hb4 HS1 HPO HBZ HZZ c0 c1 c2 c3 c4 c5 c6 hbel hbf hcell
                      obtain ⟨i0, hi, hzz, hz1, hz2⟩ := info_parts infoInt
                      go_wp2_with fail
                      obtain ⟨wo, rfl⟩ : ∃ wo : World, wo = wr := ⟨_, rfl⟩
                      go_loopw [14, 136] (fun od i wr => ∃ (j : Nat) (oa : Option Addr) (oc m : Nat), j ≤ n.kids.length ∧ i = .int .i64 j ∧ od = .slice oa m oc ∧ m ≤ st'.length + j ∧ Hid (m = (st' ++ n.kids.take j).length) ∧ Hid (wr.ownsRow B2 3 1 (.slice oa m oc) m ((st' ++ n.kids.take j).map (.int .i64))) ∧ Hid (wr.ownsRow B2 3 1 (.slice ka n.kids.length kc) n.kids.length (n.kids.map (.int .i64))) ∧ Hid (∀ g, (Value.slice oa m oc).ownBlock = some g → (Value.slice ka n.kids.length kc).ownBlock ≠ some g) ∧ Hid (DSt W.heap.size B2 bg ps.length (some ⟨b1, o1, none⟩) (some ⟨bx, ox, none⟩) rc xc rs ps (V ++ [(kn : Int)]) wr) ∧ Hid (B2 ≤ wr.heap.size) ∧ Hid (Below W.heap.size W wr)) (fun _ i _ => n.kids.length - (intOf i).toNat)
                      case atStart => exact ⟨0, _, _, st'.length, Nat.zero_le _, rfl, rfl, by omega, Lib.hid (by simp), Lib.hid (by simpa using HO4.out), HK4, HAP, HS4, HZ4, HB4⟩
                      case round =>
                        clear HO4 HK4 HAP HS4 HZ4 HB4 hsc
                        obtain ⟨j, oa, oc, m, hj, rfl, rfl, hm2, HM, HO, HK, HAP, HS, HBS, HB⟩ := hrel
                        by_cases hjl : j < n.kids.length
                        · obtain ⟨b8, o8, rfl, cx, _⟩ := (row_of_owned HK.out).at j (by simpa using hjl)
                          rw [List.getElem_map] at cx
                          have hxk := HKL.out n.kids[j] (List.getElem_mem hjl)
                          have HTK := Lib.hid (show st' ++ n.kids.take (j + 1) = (st' ++ n.kids.take j) ++ [n.kids[j]] by rw [List.take_succ_eq_append_getElem hjl, List.append_assoc])
                          obtain ⟨x, hx⟩ : ∃ x, n.kids[j] = x := ⟨_, rfl⟩
                          rw [hx] at cx hxk HTK
                          obtain ⟨hx0, hxkn⟩ := hxk
                          clear hx
                          have hm3 : m ≤ 502 := by omega
                          go_wp2_with (at_builtin; refine wpList_append_any _ rfl (.tmp 143) (.tmp 145) 25 rfl B2 3 i0 (.int .i64 0) 1 8 Try.underlying25 hi hzz hz1 hz2 rfl (by decide) _ _ _ rfl (HO.out.alloc _) (wr.heap.size + 1) (some ⟨wr.heap.size, 0, none⟩) 1 1 [.int .i64 x] rfl (reads_cells wr #[.int .i64 x] _ 1 1 rfl) (by intro u hu; simp at hu; subst hu; rfl) (by unfold maxLen; omega) (by omega) (Nat.le_trans HBS.out (by simp)) ?_)
                          intro v2 w5 ho5 hg5 hv5
                          obtain ⟨oa2, oc2, rfl⟩ := own_shape ho5
                          have hb5 : Below B2 wr w5 := ((Below.refl B2 wr).alloc HBS.out (.cells #[.int .i64 x] 3)).grown hg5 (Nat.le_trans HBS.out (by simp)) (fun r hr => (HO.out.lt r hr).1)
                          have HS5 := Lib.hid (HS.out.keep hb5)
                          have HB5 := Lib.hid (HB.out.trans (below_less hb5 HWB.out))
                          have HZ5 := Lib.hid (Nat.le_trans HBS.out hb5.size)
                          have HK5 := Lib.hid (ownsRow_block HK.out (fun g hg => by
                            have h1 := (HK.out.lt g hg).2
                            rw [hg5.block g (by rw [World.size_alloc]; omega) (fun e => HAP.out g e.symm hg)]
                            exact Below.heap_alloc _ _ _ h1))
                          have HAP5 := Lib.hid (show ∀ g, (Value.slice oa2 (m + 1) oc2).ownBlock = some g → (Value.slice (some ⟨b8, o8, none⟩) n.kids.length kc).ownBlock ≠ some g from fun g h1 h2 => by
                            rcases hv5 with e | e
                            · exact HAP.out g (e ▸ h1) h2
                            · rw [e] at h1
                              have h3 := (HK.out.lt g h2).2
                              simp only [World.size_alloc, Option.some.injEq] at h1
                              omega)
                          have HO5 := Lib.hid ho5
                          clear ho5 hg5 hv5 hb5 HS HB HK HAP HBS cx
                          go_wp2_with fail
                          go_roundw
                          case rel =>
                            refine ⟨j + 1, oa2, oc2, m + 1, by omega, by go_num, rfl, by omega, Lib.hid ?_, Lib.hid ?_, HK5, HAP5, HS5, HZ5, HB5⟩
                            · rw [HTK.out, List.length_append, HM.out]; simp
                            · rw [HTK.out]; simpa using HO5.out
                          case measure => simp [intOf]; omega
                        · have hte : n.kids.take j = n.kids := List.take_of_length_le (by omega)
                          have hge : n.kids.length ≤ j := by omega
                          have hm := HM.out
                          have ho := HO.out
                          rw [hte] at hm ho
                          subst hm
                          have HO6 := Lib.hid ho
                          have HIN6 := Lib.hid (show ∀ x ∈ st' ++ n.kids, 0 ≤ x ∧ x < ps.length from fun x hx => by
                            rcases List.mem_append.1 hx with h | h
                            · exact HIN.out x (List.mem_append_left _ h)
                            · have := HKL.out x h; omega)
                          clear hte ho hjl hj HM HO HK HAP
                          go_wp2_with fail
                          go_roundg ((st' ++ n.kids).flatMap (below ps)).length
                          case measure => rw [HG.out]; exact HGL.out
                          case rel => exact ⟨st' ++ n.kids, V ++ [(kn : Int)], oa, oc, rfl, Lib.hid rfl, HO6, HS, HPOP, HIN6, HBS, HB⟩

              · have hqe : q = rs.length := by omega
                subst hqe
                have HPV := Lib.hid (show V.Perm (rangeI ps.length) by have h := HPM.out; rw [List.drop_length, List.flatMap_nil, List.append_nil] at h; exact h)
                clear hql hq HPM
                go_wp2_with fail
                obtain ⟨wo, rfl⟩ : ∃ wo : World, wo = wr := ⟨_, rfl⟩
                go_loopw [151] (fun i wr => ∃ j : Nat, j ≤ ps.length ∧ i = .int .i64 j ∧ Hid (DSt W.heap.size B2 bg ps.length ra xa rc xc rs ps V wr) ∧ Hid (Below W.heap.size W wr)) (fun i _ => ps.length - (intOf i).toNat)
                case atStart => exact ⟨0, Nat.zero_le _, rfl, HS, HB⟩
                case round =>
                  clear HS HB
                  obtain ⟨j, hj, rfl, HS, HB⟩ := hrel
                  by_cases hjl : j < ps.length
                  · have hcj : wr.cell? ⟨bg, j, none⟩ = some (.int .i64 1) := by
                      rw [HS.out.bel.cellAt j (by omega), List.getElem?_map]
                      have h := marksI_at ps.length V (j : Int) (by omega) (by omega) (fun y hy => (mem_rangeI.1 (HPV.out.mem_iff.1 hy)).1)
                      have hc : V.contains (j : Int) = true := by
                        rw [List.contains_iff_mem]
                        exact HPV.out.mem_iff.2 (mem_rangeI.2 ⟨by omega, by omega⟩)
                      rw [Int.toNat_natCast, hc] at h
                      rw [h]; rfl
                    go_wp2_with fail
                    go_roundw
                    case rel => exact ⟨j + 1, by omega, by go_num, HS, HB⟩
                    case measure => simp [intOf]; omega
                  · have hge : ps.length ≤ j := by omega
                    have hcr' : ((rs.length : Int) == (ps.length : Int) - (c : Int)) = true := by rw [beq_iff_eq]; omega
                    clear hjl hj hcr
                    go_wp2_with fail
                    refine (awake5_any _).mono ?_
                    rintro e w9 ⟨rfl, hb9⟩
                    have HB9 := Lib.hid (bl HB.out HB.out.size hb9)
                    clear hb9
                    go_wp2
                    go_ret
                    exact ⟨rfl, HB9.out⟩
end Go.Proofs.Ytjpemijonjmcdaa
