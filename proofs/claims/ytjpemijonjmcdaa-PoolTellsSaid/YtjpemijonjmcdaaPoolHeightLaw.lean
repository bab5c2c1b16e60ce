/- The walk of PoolHeight. -/
import Derived.Test.YtjpemijonjmcdaaLawKids
namespace Go.Proofs.Ytjpemijonjmcdaa
open Go.RowKit
set_option linter.unusedVariables false
set_option linter.unusedSimpArgs false

def hNow (ns : List Nd) (k : Nat) : List Int := hsL (ns.take k) ++ List.replicate (ns.length - k) 0
theorem hNow_set (ns : List Nd) (k : Nat) (h : k < ns.length) : (hNow ns k).set k (hOf (hsL (ns.take k)) (ns.getD k Nd.zero)) = hNow ns (k + 1) := by
  unfold hNow
  have hl : (hsL (ns.take k)).length = k := by rw [hsL_len, List.length_take]; omega
  rw [hsL_take ns k h, List.set_append_right _ _ (by omega), hl, Nat.sub_self, show ns.length - k = (ns.length - (k + 1)) + 1 by omega, List.replicate_succ, List.set_cons_zero, List.append_assoc]
  rfl
theorem hNow_at (ns : List Nd) (k x : Nat) (h : k ≤ ns.length) (hx : x < k) : (hNow ns k)[x]? = some ((hsL (ns.take k)).getD x 0) := by
  unfold hNow
  have hl : (hsL (ns.take k)).length = k := by rw [hsL_len, List.length_take]; omega
  rw [List.getElem?_append_left (by omega), List.getD_eq_getElem?_getD, List.getElem?_eq_getElem (by omega)]; rfl
theorem hNow_before (ns : List Nd) (k x : Nat) (h : k < ns.length) (hx : x < k) : (hNow ns (k + 1))[x]? = some ((hsL (ns.take k)).getD x 0) := by
  have hl : (hsL (ns.take k)).length = k := by rw [hsL_len, List.length_take]; omega
  rw [hNow_at ns (k + 1) x (by omega) (by omega), hsL_take ns k h, List.getD_eq_getElem?_getD, List.getElem?_append_left (by omega), ← List.getD_eq_getElem?_getD]
theorem hsL_at (ns : List Nd) (k : Nat) (h : k < ns.length) : (hsL ns).getD k 0 = hOf (hsL (ns.take k)) (ns.getD k Nd.zero) := by
  have hl : (hsL (ns.take k)).length = k := by rw [hsL_len, List.length_take]; omega
  obtain ⟨t, ht⟩ := hsL_prefix ns (k + 1)
  rw [← ht, hsL_take ns k h, List.append_assoc, List.getD_eq_getElem?_getD, List.getElem?_append_right (by omega), hl, Nat.sub_self]
  rfl
theorem kids_lt {ns : List Nd} (hr : rightL [] ns = true) (k : Nat) (h : k < ns.length) : ∀ y ∈ (ns.getD k Nd.zero).kids, 0 ≤ y ∧ y < k := by
  intro y hy
  obtain ⟨h1, h2⟩ := right_kidsOk hr (k : Int) (by omega) (by omega)
  rw [show nd ns (k : Int) = ns.getD k Nd.zero by unfold nd; simp] at h1 h2
  unfold Nd.kids kidsL at hy
  rw [List.mem_append] at hy
  rcases hy with hy | hy
  · split at hy
    · cases hy
    · rw [List.mem_singleton] at hy; subst hy; omega
  · split at hy
    · cases hy
    · rw [List.mem_singleton] at hy; subst hy; omega

set_option maxRecDepth 100000 in
set_option maxHeartbeats 4000000 in
theorem PoolHeight_walk (ns : List Nd) (ao : Option Addr) (cap : Nat) (W : World) (hrow : NdRow W ao ns) (hlen : ns.length ≤ 2513169434907) (hcap : ns.length ≤ cap) :
    Calls Try.prog 9 #[.slice ao ns.length cap] W fun e w' => e = .returned (.bool true) ∧ Below W.heap.size W w' := by
  have HN := Lib.hid hrow
  clear hrow
  by_cases h300 : 300 < ns.length
  · go_enter Try.func9, Try.ntmps9
    go_wp2_with fail
    refine (awake5_any _).mono ?_
    rintro e w5 ⟨rfl, hb5⟩
    go_wp2
    go_ret
    exact ⟨rfl, hb5⟩
  have h300' : ns.length ≤ 300 := by omega
  clear h300
  cases hr : rightL [] ns with
  | false =>
    have HR := Lib.hid hr
    clear hr
    go_enter Try.func9, Try.ntmps9
    go_wp2_with fail
    refine (right_any ns ao cap _ HN.out hlen).mono ?_
    rw [HR.out]
    rintro e w1 ⟨rfl, hb1⟩
    have HB1 := Lib.hid hb1
    clear hb1
    go_wp2_with fail
    refine (awake5_any _).mono ?_
    rintro e w5 ⟨rfl, hb5⟩
    have HB5 := Lib.hid (bl HB1.out HB1.out.size hb5)
    clear hb5
    go_wp2
    go_ret
    exact ⟨rfl, HB5.out⟩
  | true =>
    have HR := Lib.hid hr
    clear hr
    obtain ⟨ib, hib, hbz, hb1, hb2⟩ := info_parts infoInt
    have hmk := fun W => run_make_rowN (P := Try.prog) 25 3 ib (.int .i64 0) Try.underlying25 hib hbz .i64 .i64 ns.length ns.length (Nat.le_refl _) (by rw [hb2]; omega) (by omega) W
    rw [hb1] at hmk
    go_enter Try.func9, Try.ntmps9
    go_wp2_with fail
    refine (right_any ns ao cap _ HN.out hlen).mono ?_
    rw [HR.out]
    rintro e w1 ⟨rfl, hbw1⟩
    have hba : Below w1.heap.size w1 (w1.alloc (.cells (madeCells #[.int .i64 0] ns.length) 3)) := (Below.refl _ _).alloc (Nat.le_refl _) _
    have hh := World.ownsRow_lit (base := W.heap.size) (e := 3) (size := 1) w1 (madeCells #[.int .i64 0] ns.length) ns.length hbw1.size (by unfold maxLen; omega) (by simp [size_madeCells])
    rw [show (madeCells #[Value.int .i64 0] ns.length).toList = (hNow ns 0).map (.int .i64) by unfold hNow; rw [toList_madeCells_one]; simp [hsL]] at hh
    have HH := Lib.hid hh
    have HB1 := Lib.hid (bl hbw1 hbw1.size hba)
    have hgw : W.heap.size ≤ w1.heap.size := hbw1.size
    obtain ⟨hg, hgs⟩ : ∃ hg, w1.heap.size = hg := ⟨_, rfl⟩
    rw [hgs] at HH hgw
    clear hba hbw1 hh
    go_wp2_with fail
    clear hgs hmk hb1 hb2 hbz hib
    go_loopw [29] (fun i wr => ∃ k : Nat, k ≤ ns.length ∧ i = .int .i64 k ∧ Hid (wr.ownsRow W.heap.size 3 1 (.slice (some ⟨hg, 0, none⟩) ns.length ns.length) ns.length ((hNow ns k).map (.int .i64))) ∧ Hid (Below W.heap.size W wr)) (fun i _ => ns.length - (intOf i).toNat)
    case atStart => exact ⟨0, Nat.zero_le _, rfl, HH, HB1⟩
    case round =>
      clear HH HB1
      obtain ⟨k, hk, rfl, HH, HB⟩ := hrel
      by_cases hlt : k < ns.length
      · obtain ⟨b, off, rfl, c0, c1, c2, c3, c4, c5, c6⟩ := (HN.out.later HB.out).node k hlt
        have HE := Lib.hid (show walkErr ns k = 0 by unfold walkErr; rw [if_pos HR.out, if_pos (by omega)])
        have hat := hsL_at ns k hlt
        have hset := hNow_set ns k hlt
        have hbef := hNow_before ns k
        have hkl := kids_lt HR.out k hlt
        have hbd := hsL_bd (right_kidsOk HR.out)
        have hbdk := hbd ns.length (Nat.le_refl _) k hlt
        rw [List.take_length] at hbdk
        have hbdx := hbd k hk
        have hres : hRes ns k = (hsL ns).getD k 0 := by unfold hRes; rw [if_pos HE.out]; simp
        obtain ⟨n, hn⟩ : ∃ n, ns.getD k Nd.zero = n := ⟨_, rfl⟩
        rw [hn] at c0 c1 c2 c3 c4 c5 c6 hat hset hkl
        obtain ⟨hs, hhs⟩ : ∃ hs, hsL (ns.take k) = hs := ⟨_, rfl⟩
        rw [hhs] at hat hset hbef hbdx
        rw [hat] at hres hbdk
        obtain ⟨h, hhd⟩ : ∃ h, hOf hs n = h := ⟨_, rfl⟩
        rw [hhd] at hres hset hbdk
        obtain ⟨hh0, hhk⟩ := hbdk
        have HRES := Lib.hid hres
        have HSET := Lib.hid hset
        have HBEF := Lib.hid (hbef · hlt)
        have HKL := Lib.hid hkl
        have HBD := Lib.hid hbdx
        have HHD := Lib.hid hhd
        clear hres hset hbef hkl hbdx hhd hat hn hhs hbd
        go_wp2_with fail
        have hbx : Below wr.heap.size wr (wr.alloc (.cells #[.int .u8 n.k, .int .i64 n.l, .int .i64 n.r, .int .i64 n.f, .int .i64 n.t, .int .i64 n.a, .int .i64 n.i] 36)) := (Below.refl _ _).alloc (Nat.le_refl _) _
        refine (height_any ns _ cap k _ ((HN.out.later HB.out).later hbx) hlen hcap).mono ?_
        rw [HE.out, HRES.out]
        rintro e w2 ⟨rfl, hb2⟩
        have cc := fun i => (hb2.cell (p := ⟨wr.heap.size, i, none⟩) (by simp)).trans (cells_at wr #[.int .u8 n.k, .int .i64 n.l, .int .i64 n.r, .int .i64 n.f, .int .i64 n.t, .int .i64 n.a, .int .i64 n.i] 36 i)
        have hgl := (HH.out.lt hg rfl).2
        have hgne : wr.heap.size ≠ hg := by omega
        have hh2 := own_below (own_below HH.out hbx) hb2
        obtain ⟨uk, hcK⟩ : ∃ u, w2.cell? ⟨hg, k, none⟩ = some u := ⟨_, (hh2.cellAt k (by omega)).trans (List.getElem?_eq_getElem (by have := hh2.1; omega))⟩
        have hfK := hh2.frozenAt k
        have hst := (hh2.stored k (.int .i64 h)).1
        rw [← List.map_set, HSET.out] at hst
        have HH2 := Lib.hid hst
        have HB2 := Lib.hid ((bl HB.out HB.out.size (bl hbx hbx.size hb2)).setCell (p := ⟨hg, k, none⟩) hgw (.int .i64 h))
        have dd := fun i => (World.cell?_setCell_other w2 ⟨hg, k, none⟩ ⟨wr.heap.size, i, none⟩ (.int .i64 h) (fun e => hgne (congrArg Addr.block e).symm)).trans (cc i)
        have d0 : (w2.setCell ⟨hg, k, none⟩ (.int .i64 h)).cell? ⟨wr.heap.size, 0, none⟩ = some (.int .u8 n.k) := dd 0
        have d1 : (w2.setCell ⟨hg, k, none⟩ (.int .i64 h)).cell? ⟨wr.heap.size, 1, none⟩ = some (.int .i64 n.l) := dd 1
        have d2 : (w2.setCell ⟨hg, k, none⟩ (.int .i64 h)).cell? ⟨wr.heap.size, 2, none⟩ = some (.int .i64 n.r) := dd 2
        have d3 : (w2.setCell ⟨hg, k, none⟩ (.int .i64 h)).cell? ⟨wr.heap.size, 3, none⟩ = some (.int .i64 n.f) := dd 3
        have d4 : (w2.setCell ⟨hg, k, none⟩ (.int .i64 h)).cell? ⟨wr.heap.size, 4, none⟩ = some (.int .i64 n.t) := dd 4
        have d5 : (w2.setCell ⟨hg, k, none⟩ (.int .i64 h)).cell? ⟨wr.heap.size, 5, none⟩ = some (.int .i64 n.a) := dd 5
        have d6 : (w2.setCell ⟨hg, k, none⟩ (.int .i64 h)).cell? ⟨wr.heap.size, 6, none⟩ = some (.int .i64 n.i) := dd 6
        clear c0 c1 c2 c3 c4 c5 c6 hb2 hbx cc hh2 hst dd HH HB
        go_wp2_with fail
        refine (lawKids_any n _).mono ?_
        have hk2 : n.kids.length ≤ 2 := kidsL_len _ _
        rintro e w3 ⟨xa, xc, rfl, hox, hb3⟩
        have HX := Lib.hid (row_of_owned hox)
        have HH3 := Lib.hid (own_below HH2.out hb3)
        have HB3 := Lib.hid (bl HB2.out HB2.out.size hb3)
        clear hox hb3 HH2 HB2 d0 d1 d2 d3 d4 d5 d6 hcK hfK
        go_wp2_with fail
        obtain ⟨wo, rfl⟩ : ∃ wo : World, wo = wr := ⟨_, rfl⟩
        go_loopw [8, 58] (fun m i wr => ∃ j : Nat, j ≤ n.kids.length ∧ i = .int .i64 j ∧ Hid (m = .int .i64 (hFold hs (n.kids.take j))) ∧ Hid (wr.ownsRow W.heap.size 3 1 (.slice (some ⟨hg, 0, none⟩) ns.length ns.length) ns.length ((hNow ns (k + 1)).map (.int .i64))) ∧ Hid (Row wr xa (n.kids.map (.int .i64))) ∧ Hid (Below W.heap.size W wr)) (fun _ i _ => n.kids.length - (intOf i).toNat)
        case atStart => exact ⟨0, Nat.zero_le _, rfl, Lib.hid rfl, HH3, HX, HB3⟩
        case round =>
          clear HH3 HX HB3
          obtain ⟨j, hj, rfl, HM, HH, HX, HB⟩ := hrel
          by_cases hjl : j < n.kids.length
          · obtain ⟨b1, o1, rfl, cx, _⟩ := HX.out.at j (by simpa using hjl)
            rw [List.getElem_map] at cx
            have hfs : hFold hs (n.kids.take (j + 1)) = max (hFold hs (n.kids.take j)) (hs.getD (n.kids[j]).toNat 0 + 1) := by rw [List.take_succ_eq_append_getElem hjl, hFold_snoc]
            have hxk := HKL.out n.kids[j] (List.getElem_mem hjl)
            have hfb := hFold_bd hs (n.kids.take j) k (by omega) (fun y hy => by
              have hy1 := HKL.out y (List.mem_of_mem_take hy)
              have hy2 := HBD.out y.toNat (by omega)
              omega)
            obtain ⟨x, hx⟩ : ∃ x, n.kids[j] = x := ⟨_, rfl⟩
            rw [hx] at cx hfs hxk
            have hbx := HBD.out x.toNat (by omega)
            have hcX := HH.out.cellAt x.toNat (by omega)
            rw [List.getElem?_map, HBEF.out x.toNat (by omega), Option.map_some] at hcX
            obtain ⟨v, hv⟩ : ∃ v, hs.getD x.toNat 0 = v := ⟨_, rfl⟩
            obtain ⟨p, hp⟩ : ∃ p, hFold hs (n.kids.take j) = p := ⟨_, rfl⟩
            rw [hv] at hbx hcX hfs
            rw [hp] at hfb hfs HM
            have hm := HM.out
            subst hm
            obtain ⟨hx0, hxk⟩ := hxk
            obtain ⟨hp0, hpk⟩ := hfb
            have hv0 := hbx.1
            have hvk : v + 1 ≤ 301 := by omega
            have hxn : x < ns.length := by omega
            clear hx hbx hv hp
            by_cases hle : v + 1 ≤ p
            · have HF := Lib.hid (hfs.trans (show max p (v + 1) = p by omega))
              clear hfs
              go_wp2_with fail
              go_roundw
              case rel => exact ⟨j + 1, by omega, by go_num, Lib.hid (by rw [HF.out]), HH, HX, HB⟩
              case measure => simp [intOf]; omega
            · have hle' : p < v + 1 := by omega
              have HF := Lib.hid (hfs.trans (show max p (v + 1) = v + 1 by omega))
              clear hfs hle
              go_wp2_with fail
              go_roundw
              case rel => exact ⟨j + 1, by omega, by go_num, Lib.hid (by rw [HF.out]), HH, HX, HB⟩
              case measure => simp [intOf]; omega
          · have hge : n.kids.length ≤ j := by omega
            have hm := HM.out
            rw [List.take_of_length_le hge, show hFold hs n.kids = h from HHD.out] at hm
            subst hm
            clear hjl
            go_wp2_with fail
            go_roundw
            case rel => exact ⟨k + 1, by omega, by go_num, HH, HB⟩
            case measure => simp [intOf]; omega
      · have hke : k = ns.length := by omega
        subst hke
        clear hlt hk
        have HE1 := Lib.hid (show walkErr ns (-1) = 2 ∧ hRes ns (-1) = 0 by
          have h : walkErr ns (-1) = 2 := by unfold walkErr; rw [if_pos HR.out, if_neg (by omega)]
          exact ⟨h, by unfold hRes; rw [h]; rfl⟩)
        have HE2 := Lib.hid (show walkErr ns ns.length = 2 ∧ hRes ns ns.length = 0 by
          have h : walkErr ns ns.length = 2 := by unfold walkErr; rw [if_pos HR.out, if_neg (by omega)]
          exact ⟨h, by unfold hRes; rw [h]; rfl⟩)
        go_wp2_with fail
        have HX := Lib.hid (row_lit wr [-1, (ns.length : Int)] 3)
        have HB2 := Lib.hid (bl HB.out HB.out.size ((Below.refl _ _).alloc (Nat.le_refl wr.heap.size) (.cells ([-1, (ns.length : Int)].map (Value.int .i64)).toArray 3)))
        clear HH HB
        obtain ⟨wo, rfl⟩ : ∃ wo : World, wo = wr := ⟨_, rfl⟩
        go_loopw [85] (fun i wr => ∃ j : Nat, j ≤ 2 ∧ i = .int .i64 j ∧ Hid (Row wr (some ⟨wo.heap.size, 0, none⟩) ([-1, (ns.length : Int)].map (.int .i64))) ∧ Hid (Below W.heap.size W wr)) (fun i _ => 2 - (intOf i).toNat)
        case atStart => exact ⟨0, Nat.zero_le _, rfl, HX, HB2⟩
        case round =>
          clear HX HB2
          obtain ⟨j, hj, rfl, HX, HB⟩ := hrel
          by_cases hjl : j < 2
          · obtain ⟨b1, o1, hbo, cx, _⟩ := HX.out.at j (by simpa using hjl)
            obtain ⟨x, hx⟩ : ∃ x : Int, ([-1, (ns.length : Int)].map (Value.int .i64))[j]? = some (.int .i64 x) ∧ walkErr ns x = 2 ∧ hRes ns x = 0 := by
              rcases (by omega : j = 0 ∨ j = 1) with rfl | rfl
              · exact ⟨-1, rfl, HE1.out.1, HE1.out.2⟩
              · exact ⟨ns.length, rfl, HE2.out.1, HE2.out.2⟩
            obtain ⟨hx1, hx2, hx3⟩ := hx
            rw [List.getElem?_eq_getElem (by simpa using hjl)] at hx1
            rw [Option.some.inj hx1] at cx
            simp only [Option.some.injEq, Addr.mk.injEq, and_true] at hbo
            obtain ⟨rfl, rfl⟩ := hbo
            rw [Nat.zero_add] at cx
            have HXE := Lib.hid (And.intro hx2 hx3)
            clear hx1 hx2 hx3
            go_wp2_with fail
            refine (height_any ns _ cap x _ (HN.out.later HB.out) hlen hcap).mono ?_
            rw [HXE.out.1, HXE.out.2]
            rintro e w2 ⟨rfl, hb2⟩
            have HX2 := Lib.hid (HX.out.later hb2)
            have HB2 := Lib.hid (bl HB.out HB.out.size hb2)
            clear hb2 HX HB cx
            go_wp2_with fail
            go_roundw
            case rel => exact ⟨j + 1, by omega, by go_num, HX2, HB2⟩
            case measure => simp [intOf]; omega
          · have hge : 2 ≤ j := by omega
            clear hjl hj
            go_wp2_with fail
            refine (awake5_any _).mono ?_
            rintro e w5 ⟨rfl, hb5⟩
            have HB5 := Lib.hid (bl HB.out HB.out.size hb5)
            clear hb5
            go_wp2
            go_ret
            exact ⟨rfl, HB5.out⟩
end Go.Proofs.Ytjpemijonjmcdaa
