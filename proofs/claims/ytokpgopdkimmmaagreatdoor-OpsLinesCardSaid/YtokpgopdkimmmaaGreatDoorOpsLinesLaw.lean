/- OpsLines: the walk. -/
import Derived.Test.YtokpgopdkimmmaaGreatDoorOpLines
import Derived.Test.YtokpgopdkimmmaaGreatDoorOpAwake
import Derived.Test.YtokpgopdkimmmaaGreatDoorTrim
import Derived.Test.YtokpgopdkimmmaaGreatDoorRegionG
import Derived.Test.YtokpgopdkimmmaaGreatDoorRef27k
namespace Go.Proofs.YtokpgopdkimmmaaGreatDoor
open Go.RowKit
set_option linter.unusedVariables false
set_option linter.unusedSimpArgs false

theorem word_ascii : ∀ j : Fin 20, ∀ c ∈ wordOf (j.val + 1), c.toNat < 128 := by decide +kernel
theorem say_ascii (o : OpV) (c : UInt8) : ∀ x ∈ sayL o c, x.toNat < 128 := by
  have hd : ∀ n, ∀ x ∈ Lib.decDigits n, x.toNat < 128 := fun n x hx => by have := dec_digits n x hx; omega
  unfold sayL
  split
  · exact hd _
  · unfold numL Lib.itoa
    split
    · intro x hx
      rcases List.mem_cons.1 hx with rfl | hx
      · decide
      · exact hd _ x hx
    · exact hd _
theorem rest_ascii (o : OpV) : ∀ ls : List UInt8, ∀ x ∈ restL o ls, x.toNat < 128
  | [], x, hx => by cases hx
  | c :: ls, x, hx => by
    rw [restL] at hx
    rcases List.mem_cons.1 hx with rfl | hx
    · decide
    · rcases List.mem_append.1 hx with hx | hx
      · exact say_ascii o c x hx
      · exact rest_ascii o ls x hx
theorem text_ascii (o : OpV) : ∀ x ∈ textL' o, x.toNat < 128 := by
  unfold textL' toldL
  split
  · rename_i hf
    obtain ⟨j, hj⟩ := code_at hf.1
    intro x hx
    rcases List.mem_append.1 hx with hx | hx
    · rw [hj] at hx; exact word_ascii j x hx
    · exact rest_ascii o _ x hx
  · intro x hx
    rcases List.mem_append.1 hx with hx | hx
    · rcases List.mem_append.1 hx with hx | hx
      · exact (show ∀ x ∈ opWord, x.toNat < 128 by decide) x hx
      · have := dec_digits o.k x hx; omega
    · exact rest_ascii o _ x hx
theorem fieldsR (w : World) (ht : Blanks w) (T : ByteArray) (ws : List (List UInt8)) (hT : Lib.fields T.data.toList = ws) (h1 : T.size < 4294967281) (h2 : ∀ x ∈ T.data.toList, x.toNat < 128) : Calls Tryz.prog 21 #[.string T] w fun e w' =>
    e = .returned (.slice (some ⟨w.heap.size, 0, none⟩) ws.length ws.length) ∧ RowS w' w.heap.size ws ∧ Below w.heap.size w w' := by
  have h := Tryz.strings_Fields T w h1 (fun j b hb => h2 b (List.mem_of_getElem? hb)) ht
  rw [hT] at h
  refine h.mono fun _ _ ⟨h1, h2⟩ => ⟨h1, ?_, ?_⟩
  · rw [h2]; exact RowS.new w ws _
  · rw [h2]; exact (Below.refl _ _).alloc (Nat.le_refl _) _
theorem joinR (g : Nat) (ws : List (List UInt8)) (T : ByteArray) (hT : Lib.join ws [32] = T.data.toList) (hl : ws.length ≤ 2000) (hs : T.size ≤ 100000) (w : World) (hR : RowS w g ws) : Calls Tryz.prog 22 #[.slice (some ⟨g, 0, none⟩) ws.length ws.length, .string ⟨#[32]⟩] w fun e w' => e = .returned (.string T) ∧ Below w.heap.size w w' := by
  have hm : (ws.map fun x => (⟨x.toArray⟩ : ByteArray)).map (·.data.toList) = ws := by
    rw [List.map_map]
    conv => rhs; rw [← List.map_id ws]
    exact List.map_congr_left fun x _ => by simp
  have hsz : T.data.toList.length = T.size := by simp
  have h := Tryz.strings_Join g 0 ws.length (ws.map fun x => (⟨x.toArray⟩ : ByteArray)) ⟨#[32]⟩ w (fun j x hx => by
    rw [List.getElem?_map] at hx
    cases hy : ws[j]? with
    | none => rw [hy] at hx; cases hx
    | some y =>
      rw [hy] at hx
      cases hx
      rw [Nat.zero_add]
      exact hR.2 j y hy) hR.1 (by rw [List.length_map]; omega) (by rw [List.length_map]; exact Nat.le_refl _) (by rw [hm]; show (Lib.join ws [32]).length ≤ _; rw [hT, hsz]; omega)
  rw [List.length_map, hm] at h
  refine h.mono fun e w' ⟨he, hb⟩ => ⟨?_, hb⟩
  rw [he]
  show Ending.returned (.string ⟨(Lib.join ws [32]).toArray⟩) = _
  rw [hT]
theorem trimP (v : List UInt8) (w : World) : Calls Tryz.prog 24 #[.string ⟨v.toArray⟩, .string ⟨#[45]⟩] w fun e w' => e = .returned (.string ⟨(Lib.trimPrefix v [45]).toArray⟩) ∧ w = w' := by
  have h := Tryz.strings_TrimPrefix ⟨v.toArray⟩ ⟨#[45]⟩ w
  exact h.mono fun _ _ ⟨h1, h2⟩ => ⟨h1, h2.symm⟩
theorem trimp_len (v : List UInt8) : (Lib.trimPrefix v [45]).length ≤ v.length := by
  unfold Lib.trimPrefix
  split
  · rw [List.length_drop]; omega
  · exact Nat.le_refl _
theorem op_store {w : World} {b : Nat} {o : OpV} (h : OpB w b o) (p : OpV) : OpB ((((((w.setCell ⟨b, 0, none⟩ (.int .u8 (p.k : Int))).setCell ⟨b, 1, none⟩ (.int .i64 p.a)).setCell ⟨b, 2, none⟩ (.int .i64 p.b)).setCell ⟨b, 3, none⟩ (.int .i64 p.c)).setCell ⟨b, 4, none⟩ (.int .i64 p.d)).setCell ⟨b, 5, none⟩ (.int .u32 (p.id : Int))) b p := by
  obtain ⟨k, x, y, z, u, i⟩ := o
  obtain ⟨k', x', y', z', u', i'⟩ := p
  exact (((((Blk.set_ h 0 _).set_ 1 _).set_ 2 _).set_ 3 _).set_ 4 _).set_ 5 _
def azL : List UInt8 := [97, 98, 99, 100, 101, 102, 103, 104, 105, 106, 107, 108, 109, 110, 111, 112, 113, 114, 115, 116, 117, 118, 119, 120, 121, 122]
def dgL : List UInt8 := [48, 49, 50, 51, 52, 53, 54, 55, 56, 57]
theorem mem_az {c : UInt8} (h : 97 ≤ c.toNat ∧ c.toNat ≤ 122) : c ∈ azL := by
  obtain ⟨n, hn⟩ : ∃ n, c.toNat = n := ⟨_, rfl⟩
  have hc : c = UInt8.ofNat n := by rw [← hn]; exact (UInt8.ofNat_toNat).symm
  rw [hn] at h
  have : ∀ k : Fin 26, UInt8.ofNat (97 + k.val) ∈ azL := by decide
  have h2 := this ⟨n - 97, by omega⟩
  rw [hc]
  simp only at h2
  rwa [show 97 + (n - 97) = n by omega] at h2
theorem mem_dg {c : UInt8} (h : 48 ≤ c.toNat ∧ c.toNat ≤ 57) : c ∈ dgL := by
  obtain ⟨n, hn⟩ : ∃ n, c.toNat = n := ⟨_, rfl⟩
  have hc : c = UInt8.ofNat n := by rw [← hn]; exact (UInt8.ofNat_toNat).symm
  rw [hn] at h
  have : ∀ k : Fin 10, UInt8.ofNat (48 + k.val) ∈ dgL := by decide
  have h2 := this ⟨n - 48, by omega⟩
  rw [hc]
  simp only at h2
  rwa [show 48 + (n - 48) = n by omega] at h2
theorem text_len (o : OpV) (ho : o.ok) : (textL' o).length ≤ 1000 := by
  unfold textL' toldL
  split
  · rename_i hf
    obtain ⟨j, hj⟩ := code_at hf.1
    have h1 := (opRows_at j).2.2
    have h2 := rest_len ho (letOf o.k)
    rw [List.length_append, hj] at *
    omega
  · have h2 := rest_len ho [105, 97, 98, 99, 100]
    have h3 : (Lib.decDigits o.k).length ≤ 3 := by
      rw [Lib.decDigits_length]
      exact nDig_le (n := o.k) (k := 3) (Nat.lt_trans ho.k (by decide)) (by decide)
    have h4 : opWord.length = 3 := rfl
    simp only [List.length_append, List.length_cons, List.length_nil] at *
    omega
theorem opWords_len (o : OpV) (ho : o.ok) : (∀ v ∈ opWordsL o, v.length ≤ 1000) ∧ (opWordsL o).length ≤ 1001 := by
  have h := splitW_len (textL' o)
  rw [opWords_split] at h
  have h2 := text_len o ho
  exact ⟨fun v hv => Nat.le_trans (h.1 v hv) h2, by omega⟩
theorem repR (n : Nat) (hn : n ≤ 1000) (w : World) : Calls Tryz.prog 25 #[.string ⟨#[32, 49]⟩, .int .i64 (n : Int)] w fun e w' => e = .returned (.string ⟨(Lib.repeatL [32, 49] n).toArray⟩) ∧ Below w.heap.size w w' :=
  Tryz.strings_Repeat ⟨#[32, 49]⟩ n w (by omega) (by show 2 * n ≤ _; omega)
theorem rep_len : ∀ n, (Lib.repeatL [32, 49] n).length = 2 * n
  | 0 => rfl
  | n + 1 => by rw [Lib.repeatL, List.length_append, rep_len n]; simp; omega
set_option maxRecDepth 100000 in
set_option maxHeartbeats 3000000 in
theorem OpsLines_walk (o : OpV) (ho : o.ok) (w : World) (hE : Env27 w) : Calls Tryz.prog 4 #[o.val] w fun e w' => e = .returned (.bool true) ∧ Below w.heap.size w w' := by
  have HE := Lib.hid hE
  have HTX := Lib.hid (fun W (h : Env27 W) => optext_any o ho W h.t h.k h.e)
  obtain ⟨hvl, hwl⟩ := opWords_len o ho
  obtain ⟨T, hT⟩ : ∃ T : ByteArray, ⟨(textL' o).toArray⟩ = T := ⟨_, rfl⟩
  have hTL : T.data.toList = textL' o := by rw [← hT]
  have hts : T.size ≤ 1000 := by rw [← hT, mk_size]; exact text_len o ho
  have HF := Lib.hid (fun W (h : Env27 W) => fieldsR W h.k T (opWordsL o) (by rw [hTL]; exact opWords_fields o) (by omega) (by rw [hTL]; exact text_ascii o))
  have HJ := Lib.hid (fun g W hR => joinR g (opWordsL o) T (by rw [hTL]; exact opWords_join o) (by omega) (by omega) W hR)
  obtain ⟨w0, rest, hws, hw0, hrest, hcase⟩ := opWords_shape o
  rw [hT] at HTX
  rw [hws] at hvl hwl HF HJ
  rw [List.length_cons] at HF HJ hwl
  obtain ⟨n, hn⟩ : ∃ n, rest.length = n := ⟨_, rfl⟩
  rw [hn] at HF HJ hwl hcase
  have HW0 := Lib.hid hw0
  have HRE := Lib.hid hrest
  have HCA := Lib.hid hcase
  have HVL := Lib.hid hvl
  have HNN := Lib.hid hn
  have HB0 := Lib.hid ((Below.refl w.heap.size w).alloc (Nat.le_refl _) (.cells o.cells 24))
  have K1 := Lib.hid (show OpB (w.alloc (.cells o.cells 24)) w.heap.size o from Blk.new w _ _)
  clear hE ho hT hTL hws hw0 hrest hcase hvl hn
  go_enter Tryz.func4, Tryz.ntmps4
  go_wp2_with fail
  refine (HTX.out _ (HE.out.later HB0.out)).mono ?_
  rintro e w1 ⟨rfl, hb1⟩
  replace HB0 := Lib.hid (bl HB0.out HB0.out.size hb1)
  replace K1 := Lib.hid (K1.out.later hb1)
  obtain ⟨b1, hb1'⟩ : ∃ b, w.heap.size = b := ⟨_, rfl⟩
  rw [hb1'] at K1 ⊢
  clear hb1 hb1'
  go_wp2_with fail
  refine (HF.out _ (HE.out.later HB0.out)).mono ?_
  rintro e w2 ⟨rfl, hR, hb2⟩
  replace HB0 := Lib.hid (bl HB0.out HB0.out.size hb2)
  replace K1 := Lib.hid (K1.out.later hb2)
  obtain ⟨g, hg⟩ : ∃ b, w1.heap.size = b := ⟨_, rfl⟩
  rw [hg] at hR ⊢
  have HR := Lib.hid hR
  clear hb2 hR hg HF HTX
  have hq0 : ((n : Int) + 1 == 0) = false := by simp; omega
  go_wp2_with fail
  refine (HJ.out g _ HR.out).mono ?_
  rintro e w3 ⟨rfl, hb3⟩
  replace HB0 := Lib.hid (bl HB0.out HB0.out.size hb3)
  replace K1 := Lib.hid (K1.out.later hb3)
  replace HR := Lib.hid (HR.out.later hb3)
  clear hb3 HJ
  have c0 : w3.cell? ⟨g, 0, none⟩ = some (.string ⟨w0.toArray⟩) := HR.out.2 0 w0 rfl
  have HTR := Lib.hid (fun W => trim_all w0 azL (by have := HVL.out w0 List.mem_cons_self; omega) (by decide) (by decide) (fun c hc => mem_az (HW0.out c hc)) W)
  obtain ⟨wb, hwb⟩ : ∃ b : ByteArray, ⟨w0.toArray⟩ = b := ⟨_, rfl⟩
  have HWB := Lib.hid hwb
  rw [hwb] at c0 HTR
  clear hwb
  go_wp2_with fail
  refine (HTR.out _).mono ?_
  rintro e w4 ⟨rfl, hb4⟩
  replace HB0 := Lib.hid (bl HB0.out HB0.out.size hb4)
  replace K1 := Lib.hid (K1.out.later hb4)
  replace HR := Lib.hid (HR.out.later hb4)
  clear hb4 HTR c0 hq0
  obtain ⟨A0, hA0⟩ : ∃ A : Option Addr, some (⟨g, 0, none⟩ : Addr) = A := ⟨_, rfl⟩
  have HA0 := Lib.hid hA0
  obtain ⟨A1, run1, row1, _⟩ := rec_from (P := Tryz.prog) (enc := scell) (k := 1) Tryz.underlying47 sizeStr A0 (n + 1) (n + 1) 1 (by omega) (by omega)
  have HRW := Lib.hid (show ∀ W, RowS W g (w0 :: rest) → RecRow W scell 1 A1 rest from fun W h => row1 W (w0 :: rest) (by simp [HNN.out]) (by
    rw [← hA0]
    exact .inr ⟨g, 0, rfl, h.1, fun i x hx j hj => by
      obtain rfl : j = 0 := by omega
      rw [Nat.zero_add, Nat.mul_one, Nat.add_zero]
      exact h.2 i x hx⟩))
  rw [hA0]
  rw [show n + 1 - 1 = n by omega] at run1
  have run2 : ∀ W, (Instr.sliceAt 47 (.slice A0 (n + 1) (n + 1)) (some (.int .i64 1)) none none).run Tryz.prog W = .ok (.slice A1 n n) W := run1
  clear run1 row1 hA0
  go_wp2_with fail
  clear run2
  go_loopw [32] (fun v wr => ∃ k : Nat, k ≤ n ∧ v = .int .i64 (k : Int) ∧ Hid (RowS wr g (w0 :: rest)) ∧ Hid (OpB wr b1 o) ∧ Hid (Below w.heap.size w wr)) (fun v _ => n - (intOf v).toNat)
  case atStart => exact ⟨0, Nat.zero_le _, rfl, HR, K1, HB0⟩
  case round =>
    clear HR K1 HB0
    obtain ⟨k, hk, rfl, HR, K1, HB0⟩ := hrel
    by_cases hlt : k < n
    · obtain ⟨v, hv⟩ : ∃ v, rest[k]? = some v := ⟨_, List.getElem?_eq_getElem (by rw [HNN.out]; exact hlt)⟩
      obtain ⟨h1, h2, h3⟩ := HRE.out v (List.mem_of_getElem? hv)
      have hvl := HVL.out v (List.mem_cons_of_mem _ (List.mem_of_getElem? hv))
      obtain ⟨gw, low, hA, hgw, hcw⟩ := RecRow.at_ (HRW.out _ HR.out) hv
      subst hA
      have cw : wr.cell? ⟨gw, low + k, none⟩ = some (.string ⟨v.toArray⟩) := by
        have h := hcw 0 (by decide)
        rw [Nat.mul_one, Nat.add_zero] at h
        exact h
      have HP1 := Lib.hid (fun W => trimP v W)
      have HP2 := Lib.hid (fun W => trim_all (Lib.trimPrefix v [45]) dgL (by have := trimp_len v; omega) (by decide) (by decide) (fun c hc => mem_dg (h3 c hc)) W)
      obtain ⟨vb, hvb⟩ : ∃ b : ByteArray, ⟨v.toArray⟩ = b := ⟨_, rfl⟩
      have e1 : vb.toList.isEmpty = false := by rw [← hvb, ByteArray.toList_eq]; simpa using h1
      have e2 : (vb.toList == []) = false := by rw [← hvb, ByteArray.toList_eq]; simpa using h1
      have e3 : (vb.toList == [45]) = false := by rw [← hvb, ByteArray.toList_eq]; simpa using h2
      obtain ⟨tb, htb⟩ : ∃ b : ByteArray, ⟨(Lib.trimPrefix v [45]).toArray⟩ = b := ⟨_, rfl⟩
      rw [hvb] at cw HP1
      rw [htb] at HP1 HP2
      clear hvb htb h1 h2 h3 hv hgw hcw hvl
      go_wp2_with fail
      refine (HP1.out _).mono ?_
      rintro e w5 ⟨rfl, rfl⟩
      go_wp2_with fail
      refine (HP2.out _).mono ?_
      rintro e w5 ⟨rfl, hb5⟩
      replace HB0 := Lib.hid (bl HB0.out HB0.out.size hb5)
      replace K1 := Lib.hid (K1.out.later hb5)
      replace HR := Lib.hid (HR.out.later hb5)
      clear hb5 HP1 HP2 cw
      go_wp2_with fail
      go_roundw
      case rel => exact ⟨k + 1, by omega, by go_num, HR, K1, HB0⟩
      case measure => simp [intOf] <;> omega
    · obtain rfl : k = n := by omega
      obtain rfl := HA0.out
      have c0 : wr.cell? ⟨g, 0, none⟩ = some (.string ⟨w0.toArray⟩) := HR.out.2 0 w0 rfl
      rcases HCA.out with ⟨rfl, rfl⟩ | ⟨hne, j, hj, hw0j, hnj⟩
      · go_wp2_with fail
        refine (awake27_any _ (HE.out.later HB0.out)).mono ?_
        rintro e w9 ⟨rfl, hb9⟩
        have HB9 := Lib.hid (bl HB0.out HB0.out.size hb9)
        clear hb9
        go_wp2
        go_ret
        exact ⟨rfl, HB9.out⟩
      · have hneq : (wb.toList == [111, 112]) = false := by rw [← HWB.out, ByteArray.toList_eq]; simpa using hne
        obtain ⟨p, hp1, hp2⟩ : ∃ p : OpV, parseOp (w0 ++ Lib.repeatL [32, 49] k) = some p ∧ p.k = o.k := by
          have h := ones_parse j
          rw [← hw0j, ← hnj] at h
          cases hq : parseOp (w0 ++ Lib.repeatL [32, 49] k) with
          | none => rw [hq] at h; cases h
          | some p => rw [hq] at h; exact ⟨p, rfl, by rw [hj]; exact Option.some.inj h⟩
        have hlw : w0.length ≤ 1000 := HVL.out w0 List.mem_cons_self
        have HPA := Lib.hid (fun W (h : Env27 W) => by
          have g := opparse_any (w0 ++ Lib.repeatL [32, 49] k) (by rw [List.length_append, rep_len]; omega) W h.t h.k h.e h.m
          rw [hp1] at g
          exact g)
        have hsum : ∀ W, (Op.stringOp .add wb ⟨(Lib.repeatL [32, 49] k).toArray⟩).run Tryz.prog W = .ok (.string ⟨(w0 ++ Lib.repeatL [32, 49] k).toArray⟩) W := fun W => by
          rw [← HWB.out]
          exact run_string_add_lists W _ _ (by omega) (by rw [rep_len]; omega)
        have HADD := Lib.hid hsum
        have HPK := Lib.hid hp2
        rw [HWB.out] at c0
        clear hne hj hw0j hnj hp1 hp2 hsum HCA HNN
        have hwk : IntKind.i64.wrap (k : Int) = (k : Int) := by rw [wrap_i64]; omega
        have HWK := Lib.hid hwk
        have HCW := Lib.hid (fun (W : World) (h : Below wr.heap.size wr W) => (RowS.later HR.out h).2 0 w0 rfl)
        clear hwk
        go_upto_region 13 with (fail)
        obtain ⟨rs, hrs⟩ : ∃ l, w0 ++ Lib.repeatL [32, 49] k = l := ⟨_, rfl⟩
        rw [hrs] at HPA HADD
        obtain ⟨rp, hrp⟩ : ∃ l, Lib.repeatL [32, 49] k = l := ⟨_, rfl⟩
        have HRP := Lib.hid (fun W => by have h := repR k (by omega) W; rw [hrp] at h; exact h)
        rw [hrp] at HADD
        rw [HWB.out] at HCW
        clear hrs hrp c0
        go_cut [7, 8] (fun v7 v8 wd => ∃ b7, v7 = .pointer (some ⟨b7, 0, none⟩) ∧ v8 = .int .i64 0 ∧ Hid (OpB wd b7 p) ∧ Hid (Below wr.heap.size wr wd))
        case rest =>
          obtain ⟨b7, rfl, rfl, K8, HS⟩ := hcut
          have HBZ := Lib.hid (bl HB0.out HB0.out.size HS.out)
          have f0 : wc.cell? ⟨b7, 0, none⟩ = some (.int .u8 (p.k : Int)) := Blk.cell K8.out 0
          rw [HPK.out] at f0
          have g0 : wc.cell? ⟨b1, 0, none⟩ = some (.int .u8 (o.k : Int)) := Blk.cell (K1.out.later HS.out) 0
          have hkk : ((o.k : Int) == (o.k : Int)) = true := by simp
          clear HS K8
          go_wp2_with fail
          refine (awake27_any _ (HE.out.later HBZ.out)).mono ?_
          rintro e z9 ⟨rfl, hb9⟩
          have HB9 := Lib.hid (bl HBZ.out HBZ.out.size hb9)
          clear hb9
          go_wp2
          go_ret
          exact ⟨rfl, HB9.out⟩
        case first =>
        refine wp_region_until (fun w' => Below wr.heap.size wr w') [0, 1, 2, 3, 4, 5, 6, 7, 8, 9, 10, 11, 12, 13, 14] (by kernel_rfl) ?_
        have hS : (fun w' => Below wr.heap.size wr w') wr.drew := (Below.refl _ _).drew
        refine wpAnyG_take (i := 0) rfl (by kernel_rfl) (by kernel_rfl) (by kernel_rfl) (by kernel_rfl) (by kernel_rfl) (by kernel_rfl) (fun _ _ _ h => h) rfl (by intro w' _; go_simp; try rfl) hS ?_
        (try simp only [Act.put, List.getElem_toArray, List.getElem_cons_succ, List.getElem_cons_zero, List.setIfInBounds_toArray, List.set_cons_zero, List.set_cons_succ])
        refine wpAnyG_take (i := 1) rfl (by kernel_rfl) (by kernel_rfl) (by kernel_rfl) (by kernel_rfl) (by kernel_rfl) (by kernel_rfl) (fun _ _ _ h => h) rfl (by intro w' _; go_simp; try rfl) hS ?_
        (try simp only [Act.put, List.getElem_toArray, List.getElem_cons_succ, List.getElem_cons_zero, List.setIfInBounds_toArray, List.set_cons_zero, List.set_cons_succ])
        refine wpAnyG_take (i := 2) rfl (by kernel_rfl) (by kernel_rfl) (by kernel_rfl) (by kernel_rfl) (by kernel_rfl) (by kernel_rfl) (fun _ _ _ h => h) rfl (by intro w' hb; have c0 := HCW.out w' hb; go_simp; try rfl) hS ?_
        (try simp only [Act.put, List.getElem_toArray, List.getElem_cons_succ, List.getElem_cons_zero, List.setIfInBounds_toArray, List.set_cons_zero, List.set_cons_succ])
        refine wpAnyG_take (i := 3) rfl (by kernel_rfl) (by kernel_rfl) (by kernel_rfl) (by kernel_rfl) (by kernel_rfl) (by kernel_rfl) (fun _ _ _ h => h) rfl (by intro w' _; go_simp; try rfl) hS ?_
        (try simp only [Act.put, List.getElem_toArray, List.getElem_cons_succ, List.getElem_cons_zero, List.setIfInBounds_toArray, List.set_cons_zero, List.set_cons_succ])
        refine wpAnyG_take (i := 4) rfl (by kernel_rfl) (by kernel_rfl) (by kernel_rfl) (by kernel_rfl) (by kernel_rfl) (by kernel_rfl) (fun _ _ _ h => h) rfl (by intro w' _; go_simp; try rfl) hS ?_
        (try simp only [Act.put, List.getElem_toArray, List.getElem_cons_succ, List.getElem_cons_zero, List.setIfInBounds_toArray, List.set_cons_zero, List.set_cons_succ])
        refine wpAnyG_take (i := 5) (v := .int .i64 (k : Int)) rfl (by kernel_rfl) (by kernel_rfl) (by kernel_rfl) (by kernel_rfl) (by kernel_rfl) (by kernel_rfl) (fun _ _ _ h => h) rfl (by intro w' _; have h := HWK.out; go_simp; try rfl) hS ?_
        (try simp only [Act.put, List.getElem_toArray, List.getElem_cons_succ, List.getElem_cons_zero, List.setIfInBounds_toArray, List.set_cons_zero, List.set_cons_succ])
        refine wpAnyG_two (i := 6) (j := 12) rfl rfl (by kernel_rfl) rfl rfl (fun K hK => ?_) (fun K hK => ?_)
        · go_simp
          refine (HRP.out _).mono ?_
          rintro e y1 ⟨rfl, hb⟩
          refine hK.out _ _ (bl hS hS.size hb) (fun hS => ?_)
          clear hK K hb
          (try simp only [Act.put, List.getElem_toArray, List.getElem_cons_succ, List.getElem_cons_zero, List.setIfInBounds_toArray, List.set_cons_zero, List.set_cons_succ])
          refine wpAnyG_take (i := 7) (v := (.string ⟨rs.toArray⟩)) rfl (by kernel_rfl) (by kernel_rfl) (by kernel_rfl) (by kernel_rfl) (by kernel_rfl) (by kernel_rfl) (fun _ _ _ h => h) rfl (by intro w' _; have h := HADD.out w'; go_simp; try rfl) hS ?_
          (try simp only [Act.put, List.getElem_toArray, List.getElem_cons_succ, List.getElem_cons_zero, List.setIfInBounds_toArray, List.set_cons_zero, List.set_cons_succ])
          refine wpAnyG_two (i := 8) (j := 12) rfl rfl (by kernel_rfl) rfl rfl (fun K hK => ?_) (fun K hK => ?_)
          · go_simp
            refine (HPA.out _ (HE.out.later (bl HB0.out HB0.out.size hS))).mono ?_
            rintro e y2 ⟨he, hb⟩
            obtain rfl : e = .returned (.tuple #[.agg #[.int .u8 (p.k : Int), .int .i64 p.a, .int .i64 p.b, .int .i64 p.c, .int .i64 p.d, .int .u32 (p.id : Int)], .int .i64 0]) := he
            refine hK.out _ _ (bl hS hS.size hb) (fun hS => ?_)
            clear hK K hb
            (try simp only [Act.put, List.getElem_toArray, List.getElem_cons_succ, List.getElem_cons_zero, List.setIfInBounds_toArray, List.set_cons_zero, List.set_cons_succ])
            refine wpAnyG_take (i := 9) rfl (by kernel_rfl) (by kernel_rfl) (by kernel_rfl) (by kernel_rfl) (by kernel_rfl) (by kernel_rfl) (fun _ _ _ h => h) rfl (by intro w' _; go_simp; try rfl) hS ?_
            (try simp only [Act.put, List.getElem_toArray, List.getElem_cons_succ, List.getElem_cons_zero, List.setIfInBounds_toArray, List.set_cons_zero, List.set_cons_succ])
            refine wpAnyG_take (i := 10) rfl (by kernel_rfl) (by kernel_rfl) (by kernel_rfl) (by kernel_rfl) (by kernel_rfl) (by kernel_rfl) (fun _ _ _ h => h) rfl (by intro w' _; go_simp; try rfl) hS ?_
            (try simp only [Act.put, List.getElem_toArray, List.getElem_cons_succ, List.getElem_cons_zero, List.setIfInBounds_toArray, List.set_cons_zero, List.set_cons_succ])
            refine wpAnyG_take (i := 11) rfl (by kernel_rfl) (by kernel_rfl) (by kernel_rfl) (by kernel_rfl) (by kernel_rfl) (by kernel_rfl) (fun _ _ _ h => h) rfl (by intro w' _; go_simp; try rfl) hS ?_
            (try simp only [Act.put, List.getElem_toArray, List.getElem_cons_succ, List.getElem_cons_zero, List.setIfInBounds_toArray, List.set_cons_zero, List.set_cons_succ])
            have HGE := Lib.hid (show wr.heap.size ≤ y2.heap.size from hS.size)
            refine wpAnyG_step (i := 12) rfl (by kernel_rfl) rfl (fun K hK => ?_)
            go_simp
            refine hK.out _ _ (hS.alloc hS.size (.cells (codeOnly 0).cells 24)) (fun hS => ?_)
            clear hK K
            (try simp only [Act.put, List.getElem_toArray, List.getElem_cons_succ, List.getElem_cons_zero, List.setIfInBounds_toArray, List.set_cons_zero, List.set_cons_succ])
            have K7 := Lib.hid (show OpB (y2.alloc (.cells (codeOnly 0).cells 24)) y2.heap.size (codeOnly 0) from Blk.new y2 _ _)
            replace hS : Below wr.heap.size wr (y2.alloc (.cells (codeOnly 0).cells 24)) := hS
            show wpAnyU _ _ _ _ _ _ _ _ _ (y2.alloc (.cells (codeOnly 0).cells 24))
            generalize (y2.alloc (.cells (codeOnly 0).cells 24)) = y3 at hS K7 ⊢
            generalize y2.heap.size = b7 at K7 HGE ⊢
            refine wpAnyG_step (i := 13) rfl (by kernel_rfl) rfl (fun K hK => ?_)
            have e0 := K7.out.cell 0
            have e1 := K7.out.cell 1
            have e2 := K7.out.cell 2
            have e3 := K7.out.cell 3
            have e4 := K7.out.cell 4
            have e5 := K7.out.cell 5
            have ef := Blk.frozen K7.out
            simp only [List.getElem?_toArray, List.getElem?_cons_zero, List.getElem?_cons_succ] at e0 e1 e2 e3 e4 e5
            go_simp
            have K8 := Lib.hid (op_store K7.out p)
            refine hK.out _ _ (below_six hS HGE.out _ _ _ _ _ _) (fun hS => ?_)
            clear hK K e0 e1 e2 e3 e4 e5 ef K7
            generalize ((((((y3.setCell ⟨b7, 0, none⟩ (.int .u8 (p.k : Int))).setCell ⟨b7, 1, none⟩ (.int .i64 p.a)).setCell ⟨b7, 2, none⟩ (.int .i64 p.b)).setCell ⟨b7, 3, none⟩ (.int .i64 p.c)).setCell ⟨b7, 4, none⟩ (.int .i64 p.d)).setCell ⟨b7, 5, none⟩ (.int .u32 (p.id : Int))) = z1 at hS K8 ⊢
            (try simp only [Act.put, List.getElem_toArray, List.getElem_cons_succ, List.getElem_cons_zero, List.setIfInBounds_toArray, List.set_cons_zero, List.set_cons_succ])
            refine wpAnyG_take (i := 14) rfl (by kernel_rfl) (by kernel_rfl) (by kernel_rfl) (by kernel_rfl) (by kernel_rfl) (by kernel_rfl) (fun _ _ _ h => h) rfl (by intro w' _; go_simp; try rfl) hS ?_
            (try simp only [Act.put, List.getElem_toArray, List.getElem_cons_succ, List.getElem_cons_zero, List.setIfInBounds_toArray, List.set_cons_zero, List.set_cons_succ])
            refine wpAnyU_done (by kernel_rfl) ?_ _
            have HSS := Lib.hid hS
            clear hS HGE
            go_wp2_with fail
            go_meet
            case rel => exact ⟨b7, rfl, rfl, K8, HSS⟩
          · have HGE := Lib.hid (show wr.heap.size ≤ y1.heap.size from hS.size)
            go_simp
            refine hK.out _ _ (hS.alloc hS.size (.cells (codeOnly 0).cells 24)) (fun hS => ?_)
            clear hK K
            (try simp only [Act.put, List.getElem_toArray, List.getElem_cons_succ, List.getElem_cons_zero, List.setIfInBounds_toArray, List.set_cons_zero, List.set_cons_succ])
            have K7 := Lib.hid (show OpB (y1.alloc (.cells (codeOnly 0).cells 24)) y1.heap.size (codeOnly 0) from Blk.new y1 _ _)
            replace hS : Below wr.heap.size wr (y1.alloc (.cells (codeOnly 0).cells 24)) := hS
            show wpAnyU _ _ _ _ _ _ _ _ _ (y1.alloc (.cells (codeOnly 0).cells 24))
            generalize (y1.alloc (.cells (codeOnly 0).cells 24)) = y4 at hS K7 ⊢
            generalize y1.heap.size = b7 at K7 HGE ⊢
            refine wpAnyG_step (i := 8) rfl (by kernel_rfl) rfl (fun K hK => ?_)
            go_simp
            refine (HPA.out _ (HE.out.later (bl HB0.out HB0.out.size hS))).mono ?_
            rintro e y5 ⟨he, hb⟩
            obtain rfl : e = .returned (.tuple #[.agg #[.int .u8 (p.k : Int), .int .i64 p.a, .int .i64 p.b, .int .i64 p.c, .int .i64 p.d, .int .u32 (p.id : Int)], .int .i64 0]) := he
            replace K7 := Lib.hid (OpB.later K7.out hb)
            refine hK.out _ _ (bl hS hS.size hb) (fun hS => ?_)
            clear hK K hb
            (try simp only [Act.put, List.getElem_toArray, List.getElem_cons_succ, List.getElem_cons_zero, List.setIfInBounds_toArray, List.set_cons_zero, List.set_cons_succ])
            refine wpAnyG_take (i := 9) rfl (by kernel_rfl) (by kernel_rfl) (by kernel_rfl) (by kernel_rfl) (by kernel_rfl) (by kernel_rfl) (fun _ _ _ h => h) rfl (by intro w' _; go_simp; try rfl) hS ?_
            (try simp only [Act.put, List.getElem_toArray, List.getElem_cons_succ, List.getElem_cons_zero, List.setIfInBounds_toArray, List.set_cons_zero, List.set_cons_succ])
            refine wpAnyG_take (i := 10) rfl (by kernel_rfl) (by kernel_rfl) (by kernel_rfl) (by kernel_rfl) (by kernel_rfl) (by kernel_rfl) (fun _ _ _ h => h) rfl (by intro w' _; go_simp; try rfl) hS ?_
            (try simp only [Act.put, List.getElem_toArray, List.getElem_cons_succ, List.getElem_cons_zero, List.setIfInBounds_toArray, List.set_cons_zero, List.set_cons_succ])
            refine wpAnyG_take (i := 11) rfl (by kernel_rfl) (by kernel_rfl) (by kernel_rfl) (by kernel_rfl) (by kernel_rfl) (by kernel_rfl) (fun _ _ _ h => h) rfl (by intro w' _; go_simp; try rfl) hS ?_
            (try simp only [Act.put, List.getElem_toArray, List.getElem_cons_succ, List.getElem_cons_zero, List.setIfInBounds_toArray, List.set_cons_zero, List.set_cons_succ])
            refine wpAnyG_step (i := 13) rfl (by kernel_rfl) rfl (fun K hK => ?_)
            have e0 := K7.out.cell 0
            have e1 := K7.out.cell 1
            have e2 := K7.out.cell 2
            have e3 := K7.out.cell 3
            have e4 := K7.out.cell 4
            have e5 := K7.out.cell 5
            have ef := Blk.frozen K7.out
            simp only [List.getElem?_toArray, List.getElem?_cons_zero, List.getElem?_cons_succ] at e0 e1 e2 e3 e4 e5
            go_simp
            have K8 := Lib.hid (op_store K7.out p)
            refine hK.out _ _ (below_six hS HGE.out _ _ _ _ _ _) (fun hS => ?_)
            clear hK K e0 e1 e2 e3 e4 e5 ef K7
            generalize ((((((y5.setCell ⟨b7, 0, none⟩ (.int .u8 (p.k : Int))).setCell ⟨b7, 1, none⟩ (.int .i64 p.a)).setCell ⟨b7, 2, none⟩ (.int .i64 p.b)).setCell ⟨b7, 3, none⟩ (.int .i64 p.c)).setCell ⟨b7, 4, none⟩ (.int .i64 p.d)).setCell ⟨b7, 5, none⟩ (.int .u32 (p.id : Int))) = z1 at hS K8 ⊢
            (try simp only [Act.put, List.getElem_toArray, List.getElem_cons_succ, List.getElem_cons_zero, List.setIfInBounds_toArray, List.set_cons_zero, List.set_cons_succ])
            refine wpAnyG_take (i := 14) rfl (by kernel_rfl) (by kernel_rfl) (by kernel_rfl) (by kernel_rfl) (by kernel_rfl) (by kernel_rfl) (fun _ _ _ h => h) rfl (by intro w' _; go_simp; try rfl) hS ?_
            (try simp only [Act.put, List.getElem_toArray, List.getElem_cons_succ, List.getElem_cons_zero, List.setIfInBounds_toArray, List.set_cons_zero, List.set_cons_succ])
            refine wpAnyU_done (by kernel_rfl) ?_ _
            have HSS := Lib.hid hS
            clear hS HGE
            go_wp2_with fail
            go_meet
            case rel => exact ⟨b7, rfl, rfl, K8, HSS⟩
        · have HGE := Lib.hid (show wr.heap.size ≤ wr.drew.heap.size from hS.size)
          go_simp
          refine hK.out _ _ (hS.alloc hS.size (.cells (codeOnly 0).cells 24)) (fun hS => ?_)
          clear hK K
          (try simp only [Act.put, List.getElem_toArray, List.getElem_cons_succ, List.getElem_cons_zero, List.setIfInBounds_toArray, List.set_cons_zero, List.set_cons_succ])
          have K7 := Lib.hid (show OpB (wr.drew.alloc (.cells (codeOnly 0).cells 24)) wr.heap.size (codeOnly 0) from Blk.new wr.drew _ _)
          replace hS : Below wr.heap.size wr (wr.drew.alloc (.cells (codeOnly 0).cells 24)) := hS
          show wpAnyU _ _ _ _ _ _ _ _ _ (wr.drew.alloc (.cells (codeOnly 0).cells 24))
          generalize (wr.drew.alloc (.cells (codeOnly 0).cells 24)) = y6 at hS K7 ⊢
          refine wpAnyG_step (i := 6) rfl (by kernel_rfl) rfl (fun K hK => ?_)
          go_simp
          refine (HRP.out _).mono ?_
          rintro e y7 ⟨rfl, hb⟩
          replace K7 := Lib.hid (OpB.later K7.out hb)
          refine hK.out _ _ (bl hS hS.size hb) (fun hS => ?_)
          clear hK K hb
          (try simp only [Act.put, List.getElem_toArray, List.getElem_cons_succ, List.getElem_cons_zero, List.setIfInBounds_toArray, List.set_cons_zero, List.set_cons_succ])
          refine wpAnyG_take (i := 7) (v := (.string ⟨rs.toArray⟩)) rfl (by kernel_rfl) (by kernel_rfl) (by kernel_rfl) (by kernel_rfl) (by kernel_rfl) (by kernel_rfl) (fun _ _ _ h => h) rfl (by intro w' _; have h := HADD.out w'; go_simp; try rfl) hS ?_
          (try simp only [Act.put, List.getElem_toArray, List.getElem_cons_succ, List.getElem_cons_zero, List.setIfInBounds_toArray, List.set_cons_zero, List.set_cons_succ])
          refine wpAnyG_step (i := 8) rfl (by kernel_rfl) rfl (fun K hK => ?_)
          go_simp
          refine (HPA.out _ (HE.out.later (bl HB0.out HB0.out.size hS))).mono ?_
          rintro e y8 ⟨he, hb⟩
          obtain rfl : e = .returned (.tuple #[.agg #[.int .u8 (p.k : Int), .int .i64 p.a, .int .i64 p.b, .int .i64 p.c, .int .i64 p.d, .int .u32 (p.id : Int)], .int .i64 0]) := he
          replace K7 := Lib.hid (OpB.later K7.out hb)
          refine hK.out _ _ (bl hS hS.size hb) (fun hS => ?_)
          clear hK K hb
          (try simp only [Act.put, List.getElem_toArray, List.getElem_cons_succ, List.getElem_cons_zero, List.setIfInBounds_toArray, List.set_cons_zero, List.set_cons_succ])
          refine wpAnyG_take (i := 9) rfl (by kernel_rfl) (by kernel_rfl) (by kernel_rfl) (by kernel_rfl) (by kernel_rfl) (by kernel_rfl) (fun _ _ _ h => h) rfl (by intro w' _; go_simp; try rfl) hS ?_
          (try simp only [Act.put, List.getElem_toArray, List.getElem_cons_succ, List.getElem_cons_zero, List.setIfInBounds_toArray, List.set_cons_zero, List.set_cons_succ])
          refine wpAnyG_take (i := 10) rfl (by kernel_rfl) (by kernel_rfl) (by kernel_rfl) (by kernel_rfl) (by kernel_rfl) (by kernel_rfl) (fun _ _ _ h => h) rfl (by intro w' _; go_simp; try rfl) hS ?_
          (try simp only [Act.put, List.getElem_toArray, List.getElem_cons_succ, List.getElem_cons_zero, List.setIfInBounds_toArray, List.set_cons_zero, List.set_cons_succ])
          refine wpAnyG_take (i := 11) rfl (by kernel_rfl) (by kernel_rfl) (by kernel_rfl) (by kernel_rfl) (by kernel_rfl) (by kernel_rfl) (fun _ _ _ h => h) rfl (by intro w' _; go_simp; try rfl) hS ?_
          (try simp only [Act.put, List.getElem_toArray, List.getElem_cons_succ, List.getElem_cons_zero, List.setIfInBounds_toArray, List.set_cons_zero, List.set_cons_succ])
          refine wpAnyG_step (i := 13) rfl (by kernel_rfl) rfl (fun K hK => ?_)
          have e0 := K7.out.cell 0
          have e1 := K7.out.cell 1
          have e2 := K7.out.cell 2
          have e3 := K7.out.cell 3
          have e4 := K7.out.cell 4
          have e5 := K7.out.cell 5
          have ef := Blk.frozen K7.out
          simp only [List.getElem?_toArray, List.getElem?_cons_zero, List.getElem?_cons_succ] at e0 e1 e2 e3 e4 e5
          go_simp
          have K8 := Lib.hid (op_store K7.out p)
          refine hK.out _ _ (below_six hS HGE.out _ _ _ _ _ _) (fun hS => ?_)
          clear hK K e0 e1 e2 e3 e4 e5 ef K7
          generalize ((((((y8.setCell ⟨wr.heap.size, 0, none⟩ (.int .u8 (p.k : Int))).setCell ⟨wr.heap.size, 1, none⟩ (.int .i64 p.a)).setCell ⟨wr.heap.size, 2, none⟩ (.int .i64 p.b)).setCell ⟨wr.heap.size, 3, none⟩ (.int .i64 p.c)).setCell ⟨wr.heap.size, 4, none⟩ (.int .i64 p.d)).setCell ⟨wr.heap.size, 5, none⟩ (.int .u32 (p.id : Int))) = z1 at hS K8 ⊢
          (try simp only [Act.put, List.getElem_toArray, List.getElem_cons_succ, List.getElem_cons_zero, List.setIfInBounds_toArray, List.set_cons_zero, List.set_cons_succ])
          refine wpAnyG_take (i := 14) rfl (by kernel_rfl) (by kernel_rfl) (by kernel_rfl) (by kernel_rfl) (by kernel_rfl) (by kernel_rfl) (fun _ _ _ h => h) rfl (by intro w' _; go_simp; try rfl) hS ?_
          (try simp only [Act.put, List.getElem_toArray, List.getElem_cons_succ, List.getElem_cons_zero, List.setIfInBounds_toArray, List.set_cons_zero, List.set_cons_succ])
          refine wpAnyU_done (by kernel_rfl) ?_ _
          have HSS := Lib.hid hS
          clear hS HGE
          go_wp2_with fail
          go_meet
          case rel => exact ⟨wr.heap.size, rfl, rfl, K8, HSS⟩
end Go.Proofs.YtokpgopdkimmmaaGreatDoor
