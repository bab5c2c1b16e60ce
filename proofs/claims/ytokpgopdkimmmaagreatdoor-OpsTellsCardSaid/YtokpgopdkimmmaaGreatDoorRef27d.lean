/- The document's answer of layer 27: Told. -/
import Derived.Test.YtokpgopdkimmmaaGreatDoorTellsM3
import Derived.Test.YtokpgopdkimmmaaGreatDoorOpReplyWalk
namespace Go.Proofs.YtokpgopdkimmmaaGreatDoor
open Go.RowKit
set_option linter.unusedVariables false
set_option linter.unusedSimpArgs false

theorem join_snoc (sep x : List UInt8) : ∀ l : List (List UInt8), Lib.join (l ++ [x]) sep = if l = [] then x else Lib.join l sep ++ (sep ++ x)
  | [] => by simp [Lib.join_one]
  | y :: l => by
    rw [if_neg (List.cons_ne_nil _ _), List.cons_append, Lib.join_cons, Lib.join_cons]
    unfold Lib.joinTail
    simp [List.append_assoc]
theorem itoa_nat (n : Nat) : Lib.itoa (n : Int) = Lib.decDigits n := by unfold Lib.itoa; rw [if_neg (by omega)]; rfl
set_option maxRecDepth 100000 in
set_option maxHeartbeats 2000000 in
theorem rrep_err (o : OpV) (r : RepV) (hr : r.ok) (A : Option Addr) (cap : Nat) (w : World) (he : r.err ≠ 0) : Calls Tryz.prog 15 #[o.val, repV r A cap] w fun e w' => e = .returned (.string ⟨(toldR o.k r).toArray⟩) ∧ Below w.heap.size w w' := by
  have hb : (r.err == 0) = false := by simpa using he
  have HR := Lib.hid (show toldR o.k r = errW ++ Lib.itoa r.err by unfold toldR; rw [if_pos he])
  have HI := Lib.hid hr.err
  have hlen := itoa_len hr.err
  obtain ⟨tl, htl⟩ : ∃ l, toldR o.k r = l := ⟨_, rfl⟩
  rw [htl] at HR ⊢
  obtain ⟨il, hil⟩ : ∃ l, Lib.itoa r.err = l := ⟨_, rfl⟩
  rw [hil] at hlen HR
  have HIL := Lib.hid hil
  have hcat : (⟨#[101, 114, 114, 111, 114, 32]⟩ : ByteArray) ++ ⟨il.toArray⟩ = ⟨(errW ++ il).toArray⟩ := cat_mk errW il
  clear he htl hil hr
  go_enter Tryz.func15, Tryz.ntmps15
  go_wp2_with fail
  have HB := Lib.hid (((Below.refl w.heap.size w).alloc (Nat.le_refl _) (.cells o.cells 24)).alloc (by simp) (.cells (repCells r A cap) 33))
  refine (rnumber_any r.err HI.out _).mono ?_
  rw [HIL.out]
  rintro e w1 ⟨rfl, hb1⟩
  have HB1 := Lib.hid (bl HB.out (by simp; omega) hb1)
  clear hb1
  go_wp2_with fail
  go_ret
  exact ⟨by rw [HR.out]; rfl, HB1.out⟩
set_option maxRecDepth 100000 in
set_option maxHeartbeats 4000000 in
theorem rrep_count (o : OpV) (r : RepV) (hr : r.ok) (A : Option Addr) (cap : Nat) (w : World) (he : r.err = 0) (hk : isCount o.k = true) : Calls Tryz.prog 15 #[o.val, repV r A cap] w fun e w' => e = .returned (.string ⟨(toldR o.k r).toArray⟩) ∧ Below w.heap.size w w' := by
  have HR := Lib.hid (show toldR o.k r = Lib.itoa r.cnt by unfold toldR; rw [if_neg (fun h => h he), if_pos hk])
  have HI := Lib.hid hr.cnt
  obtain ⟨tl, htl⟩ : ∃ l, toldR o.k r = l := ⟨_, rfl⟩
  rw [htl] at HR ⊢
  obtain ⟨re, ri, rc, ry, rw_⟩ := r
  obtain ⟨k, a, b, c, d, i⟩ := o
  obtain rfl : re = 0 := he
  have hk2 : k = 1 ∨ k = 2 ∨ k = 3 ∨ k = 4 ∨ k = 5 ∨ k = 6 ∨ k = 8 ∨ k = 12 ∨ k = 16 := by
    simp only [isCount, Bool.or_eq_true, Bool.and_eq_true, decide_eq_true_eq] at hk
    omega
  clear htl hk hr
  rcases hk2 with rfl | rfl | rfl | rfl | rfl | rfl | rfl | rfl | rfl
  all_goals
    go_enter Tryz.func15, Tryz.ntmps15
    go_wp2_with fail
    refine (rnumber_any rc HI.out _).mono ?_
    rintro e w1 ⟨rfl, hb1⟩
    have HB1 := Lib.hid (bl (((Below.refl w.heap.size w).alloc (Nat.le_refl _) _).alloc (by simp) _) (by simp; omega) hb1)
    clear hb1
    go_wp2_with fail
    go_ret
    exact ⟨by rw [HR.out]; rfl, HB1.out⟩
set_option maxRecDepth 100000 in
set_option maxHeartbeats 4000000 in
theorem rrep_yes (o : OpV) (r : RepV) (hr : r.ok) (A : Option Addr) (cap : Nat) (w : World) (he : r.err = 0) (hk : o.k = 10) : Calls Tryz.prog 15 #[o.val, repV r A cap] w fun e w' => e = .returned (.string ⟨(toldR o.k r).toArray⟩) ∧ Below w.heap.size w w' := by
  have HR := Lib.hid (show toldR o.k r = if r.yes = true then yesW else noW by unfold toldR; rw [if_neg (fun h => h he), if_neg (by rw [hk]; decide), if_pos hk])
  obtain ⟨tl, htl⟩ : ∃ l, toldR o.k r = l := ⟨_, rfl⟩
  rw [htl] at HR ⊢
  obtain ⟨re, ri, rc, ry, rw_⟩ := r
  obtain ⟨k, a, b, c, d, i⟩ := o
  obtain rfl : re = 0 := he
  obtain rfl : k = 10 := hk
  clear htl hr
  cases ry
  all_goals
    go_enter Tryz.func15, Tryz.ntmps15
    go_wp2_with fail
    go_ret
    exact ⟨by rw [HR.out]; rfl, ((Below.refl w.heap.size w).alloc (Nat.le_refl _) _).alloc (by simp) _⟩
set_option maxRecDepth 100000 in
set_option maxHeartbeats 4000000 in
theorem rrep_wide (o : OpV) (r : RepV) (hr : r.ok) (A : Option Addr) (cap : Nat) (w : World) (he : r.err = 0) (hk : o.k = 18 ∨ o.k = 19) : Calls Tryz.prog 15 #[o.val, repV r A cap] w fun e w' => e = .returned (.string ⟨(toldR o.k r).toArray⟩) ∧ Below w.heap.size w w' := by
  have HR := Lib.hid (show toldR o.k r = textL r.wide by
    unfold toldR
    rw [if_neg (fun h => h he), if_neg (by rcases hk with h | h <;> (rw [h]; decide)), if_neg (by rcases hk with h | h <;> omega), if_pos hk])
  have HW := Lib.hid hr.wide
  obtain ⟨tl, htl⟩ : ∃ l, toldR o.k r = l := ⟨_, rfl⟩
  rw [htl] at HR ⊢
  obtain ⟨re, ri, rc, ry, rw_⟩ := r
  obtain ⟨k, a, b, c, d, i⟩ := o
  obtain rfl : re = 0 := he
  obtain ⟨hi, hhi⟩ : ∃ n : Int, ((rw_ / 18446744073709551616 : Nat) : Int) = n := ⟨_, rfl⟩
  obtain ⟨lo, hlo⟩ : ∃ n : Int, ((rw_ % 18446744073709551616 : Nat) : Int) = n := ⟨_, rfl⟩
  have HV := Lib.hid (show Value.agg #[.int .u64 hi, .int .u64 lo] = wideV rw_ by rw [← hhi, ← hlo]; rfl)
  dsimp only [repV, repCells] at *
  rw [hhi, hlo]
  clear htl hhi hlo hr
  rcases hk with rfl | rfl
  all_goals
    go_enter Tryz.func15, Tryz.ntmps15
    go_wp2_with fail
    rw [HV.out]
    refine (rtext_any rw_ HW.out _).mono ?_
    rintro e w1 ⟨rfl, hb1⟩
    have HB1 := Lib.hid (bl (((Below.refl w.heap.size w).alloc (Nat.le_refl _) _).alloc (by simp) _) (by simp; omega) hb1)
    clear hb1
    go_wp2_with fail
    go_ret
    exact ⟨by rw [HR.out]; rfl, HB1.out⟩
theorem dec_ne (n : Nat) : Lib.decDigits n ≠ [] := by
  intro h
  have := Lib.decDigits_length n
  rw [h] at this
  have h2 := Lib.nDigits_pos n
  simp at this
  omega
theorem join_ne (ids : List Nat) (h : ids ≠ []) : Lib.join (ids.map Lib.decDigits) [32] ≠ [] := by
  cases ids with
  | nil => exact absurd rfl h
  | cons x l =>
    rw [List.map_cons, Lib.join_cons]
    intro h2
    exact dec_ne x (List.append_eq_nil_iff.1 h2).1
set_option maxRecDepth 100000 in
set_option maxHeartbeats 4000000 in
theorem rrep_ids (o : OpV) (ho : o.k < 256) (r : RepV) (hr : r.ok) (A : Option Addr) (cap : Nat) (w : World) (hlen : r.ids.length ≤ 100000) (hA : RecRow w ucell 1 A r.ids) (he : r.err = 0) (hk : isCount o.k = false) (hk1 : o.k ≠ 10) (hk2 : o.k ≠ 18) (hk3 : o.k ≠ 19) :
    Calls Tryz.prog 15 #[o.val, repV r A cap] w fun e w' => e = .returned (.string ⟨(toldR o.k r).toArray⟩) ∧ Below w.heap.size w w' := by
  have HA := Lib.hid hA
  have HR := Lib.hid (show toldR o.k r = if isCode o.k = true then idsL r.ids else [] by
    unfold toldR
    rw [if_neg (fun h => h he), if_neg (by rw [hk]; simp), if_neg hk1, if_neg (by rintro (h | h) <;> contradiction)])
  have HU := Lib.hid hr.ids
  obtain ⟨tl, htl⟩ : ∃ l, toldR o.k r = l := ⟨_, rfl⟩
  rw [htl] at HR ⊢
  obtain ⟨re, ids, rc, ry, rw_⟩ := r
  obtain ⟨k, a, b, c, d, i⟩ := o
  obtain rfl : re = 0 := he
  have hcs : ¬ (1 ≤ k ∧ k ≤ 6) ∧ k ≠ 8 ∧ k ≠ 12 ∧ k ≠ 16 := by
    refine ⟨fun h => ?_, fun h => ?_, fun h => ?_, fun h => ?_⟩
    all_goals
      have : isCount k = true := by simp only [isCount, Bool.or_eq_true, Bool.and_eq_true, decide_eq_true_eq]; omega
      rw [show isCount k = false from hk] at this
      cases this
  have hn10 : k ≠ 10 := hk1
  have hn18 : k ≠ 18 := hk2
  have hn19 : k ≠ 19 := hk3
  have q1 : ((k : Int) == 1) = false := by simp; omega
  have q2 : ((k : Int) == 2) = false := by simp; omega
  have q3 : ((k : Int) == 3) = false := by simp; omega
  have q4 : ((k : Int) == 4) = false := by simp; omega
  have q5 : ((k : Int) == 5) = false := by simp; omega
  have q6 : ((k : Int) == 6) = false := by simp; omega
  have q8 : ((k : Int) == 8) = false := by simp; omega
  have q12 : ((k : Int) == 12) = false := by simp; omega
  have q16 : ((k : Int) == 16) = false := by simp; omega
  have q10 : ((k : Int) == 10) = false := by simp; omega
  have q18 : ((k : Int) == 18) = false := by simp; omega
  have q19 : ((k : Int) == 19) = false := by simp; omega
  have HK := Lib.hid ho
  clear htl hk hk1 hk2 hk3 hr hA hcs hn10 hn18 hn19
  have hbox : ∀ W : World, Blk W (w.heap.size + 1) 33 (repCells ⟨0, ids, rc, ry, rw_⟩ A cap) → W.cell? ⟨w.heap.size + 1, 1, none⟩ = some (.slice A ids.length cap) := fun W h => Blk.cell h 1
  have HBOX := Lib.hid hbox
  clear hbox
  have HB := Lib.hid (((Below.refl w.heap.size w).alloc (Nat.le_refl _) (.cells (OpV.cells ⟨k, a, b, c, d, i⟩) 24)).alloc (by simp) (.cells (repCells ⟨0, ids, rc, ry, rw_⟩ A cap) 33))
  have K3 := Lib.hid (show Blk ((w.alloc (.cells (OpV.cells ⟨k, a, b, c, d, i⟩) 24)).alloc (.cells (repCells ⟨0, ids, rc, ry, rw_⟩ A cap) 33)) (w.heap.size + 1) 33 (repCells ⟨0, ids, rc, ry, rw_⟩ A cap) by
    have h := Blk.new (w.alloc (.cells (OpV.cells ⟨k, a, b, c, d, i⟩) 24)) 33 (repCells ⟨0, ids, rc, ry, rw_⟩ A cap)
    rw [World.size_alloc] at h
    exact h)
  have HWD := Lib.hid (fun w => rword_any k w)
  cases hic : isCode k with
  | false =>
    have hw : wordOf k = [] := by
      rcases code_cases (k := k) with h1 | h1 | ⟨j, h1⟩
      · exact (no_code (.inl h1)).1
      · exact (no_code (.inr h1)).1
      · have : isCode k = true := by rw [h1]; simp [isCode]; omega
        rw [this] at hic; cases hic
    rw [hic] at HR
    rw [hw] at HWD
    clear hic hw
    go_enter Tryz.func15, Tryz.ntmps15
    go_wp2_with fail
    refine (HWD.out _).mono ?_
    rintro e w1 ⟨rfl, rfl⟩
    go_wp2_with fail
    go_ret
    exact ⟨by rw [HR.out]; rfl, HB.out⟩
  | true =>
    have hw : wordOf k ≠ [] := by
      obtain ⟨j, hj⟩ := code_at hic
      rw [hj]
      exact word_ne j
    have hemp := isEmpty_mk _ hw
    rw [hic] at HR
    obtain ⟨ws, hws⟩ : ∃ s : ByteArray, ⟨(wordOf k).toArray⟩ = s := ⟨_, rfl⟩
    rw [hws] at HWD hemp
    have hne : ws.toList ≠ [] := by intro h; rw [h] at hemp; cases hemp
    have hbe : (ws.toList == []) = false := by simpa using hne
    clear hic hws hw hne
    go_enter Tryz.func15, Tryz.ntmps15
    go_wp2_with fail
    refine (HWD.out _).mono ?_
    rintro e w1 ⟨rfl, rfl⟩
    go_wp2_with fail
    generalize (w.alloc (.cells (OpV.cells ⟨k, a, b, c, d, i⟩) 24)).alloc (.cells (repCells ⟨0, ids, rc, ry, rw_⟩ A cap) 33) = V at HB K3 ⊢
    clear hemp hbe HWD
    go_loopw [5, 6] (fun sv iv wr => ∃ (j : Nat), j ≤ ids.length ∧ iv = .int .i64 (j : Int) ∧ sv = .string ⟨(Lib.join ((ids.take j).map Lib.decDigits) [32]).toArray⟩ ∧ Hid (Blk wr (w.heap.size + 1) 33 (repCells ⟨0, ids, rc, ry, rw_⟩ A cap)) ∧ Hid (Below w.heap.size w wr)) (fun _ iv _ => ids.length - (intOf iv).toNat)
    case atStart => exact ⟨0, Nat.zero_le _, rfl, rfl, K3, HB⟩
    case round =>
      clear HB K3
      obtain ⟨j, hj, rfl, rfl, K3, HL⟩ := hrel
      have hcb := HBOX.out wr K3.out
      by_cases hlt : j < ids.length
      · obtain ⟨x, hx⟩ : ∃ x, ids[j]? = some x := ⟨_, List.getElem?_eq_getElem hlt⟩
        obtain ⟨g, lo, rfl, hg, hcell⟩ := HA.out.at_ hx
        have hcx : wr.cell? ⟨g, lo + j, none⟩ = some (.int .u32 (x : Int)) := by
          have h := (HL.out.cell (p := ⟨g, lo + j * 1 + 0, none⟩) hg).trans (hcell 0 (by decide))
          rw [Nat.mul_one, Nat.add_zero] at h
          exact h
        have hx32 : x < 4294967296 := HU.out x (List.mem_of_getElem? hx)
        have hpl := join_dec_len (ids.take j) (fun y hy => HU.out y (List.mem_of_mem_take hy)) (by rw [List.length_take]; omega)
        have HS := Lib.hid (show Lib.join ((ids.take (j + 1)).map Lib.decDigits) [32] = if (ids.take j).map Lib.decDigits = [] then Lib.decDigits x else Lib.join ((ids.take j).map Lib.decDigits) [32] ++ ([32] ++ Lib.decDigits x) by
          rw [List.take_add_one, hx, Option.toList_some, List.map_append, List.map_cons, List.map_nil, join_snoc])
        have HN := Lib.hid (show ∀ W, Calls Tryz.prog 41 #[.int .i64 (x : Int)] W fun e w' => e = .returned (.string ⟨(Lib.decDigits x).toArray⟩) ∧ Below W.heap.size W w' from fun W => by
          have h := rnumber_any (x : Int) ⟨by omega, by omega⟩ W
          rw [itoa_nat] at h
          exact h)
        have hdl : (Lib.decDigits x).length ≤ 10 := by
          rw [Lib.decDigits_length]
          exact nDig_le (n := x) (k := 10) (Nat.lt_trans hx32 (by decide)) (by decide)
        obtain ⟨dl, hdl2⟩ : ∃ l, Lib.decDigits x = l := ⟨_, rfl⟩
        rw [hdl2] at HS HN hdl
        rcases Nat.eq_zero_or_pos j with h0 | h0
        · subst h0
          have HS0 := Lib.hid (show Lib.join ((ids.take 1).map Lib.decDigits) [32] = dl by have h := HS.out; rw [List.take_zero, List.map_nil, if_pos rfl] at h; exact h)
          have hcat : (⟨#[]⟩ : ByteArray) ++ ⟨dl.toArray⟩ = ⟨dl.toArray⟩ := cat_mk [] dl
          have hcx0 : wr.cell? ⟨g, lo, none⟩ = some (.int .u32 (x : Int)) := hcx
          have hlt0 : (0 : Int) < (ids.length : Int) := by omega
          clear hcell hx hdl2 HS hpl hcx
          rw [show ((0 : Nat) : Int) = 0 from rfl, show Lib.join ((ids.take 0).map Lib.decDigits) [32] = ([] : List UInt8) from rfl]
          go_wp2_with fail
          refine (HN.out _).mono ?_
          rintro e w2 ⟨rfl, hb2⟩
          have K4 := Lib.hid (Blk.below K3.out hb2 (Blk.lt K3.out))
          have HL2 := Lib.hid (bl HL.out HL.out.size hb2)
          clear hb2 hcx0 hcb K3 HL
          go_wp2_with fail
          go_roundw
          case rel => exact ⟨1, by omega, by go_num, by rw [HS0.out], K4, HL2⟩
          case measure => simp [intOf] <;> omega
        · have hne : (ids.take j).map Lib.decDigits ≠ [] := by
            intro h
            have h2 := congrArg List.length h
            rw [List.length_map, List.length_take, List.length_nil] at h2
            omega
          obtain ⟨pl, hpl2⟩ : ∃ l, Lib.join ((ids.take j).map Lib.decDigits) [32] = l := ⟨_, rfl⟩
          rw [hpl2] at hpl HS ⊢
          have HS1 := Lib.hid (show Lib.join ((ids.take (j + 1)).map Lib.decDigits) [32] = pl ++ [32] ++ dl by rw [HS.out, if_neg hne, List.append_assoc])
          have hcat1 : (⟨pl.toArray⟩ : ByteArray) ++ ⟨#[32]⟩ = ⟨(pl ++ [32]).toArray⟩ := cat_mk pl [32]
          have hcat2 : (⟨(pl ++ [32]).toArray⟩ : ByteArray) ++ ⟨dl.toArray⟩ = ⟨(pl ++ [32] ++ dl).toArray⟩ := cat_mk (pl ++ [32]) dl
          clear hcell hx hdl2 HS hpl2 hne
          have hjd : decide ((0 : Int) < (j : Int)) = true := decide_eq_true (by omega)
          go_wp2_with fail
          refine (HN.out _).mono ?_
          rintro e w2 ⟨rfl, hb2⟩
          have K4 := Lib.hid (Blk.below K3.out hb2 (Blk.lt K3.out))
          have HL2 := Lib.hid (bl HL.out HL.out.size hb2)
          clear hb2 hcx hcb K3 HL
          go_wp2_with fail
          go_roundw
          case rel => exact ⟨j + 1, by omega, by go_num, by rw [HS1.out]; first | rfl | simp, K4, HL2⟩
          case measure => simp [intOf] <;> omega
      · have HTK := Lib.hid (show ids.take j = ids from List.take_of_length_le (by omega))
        have hjd : decide ((j : Int) < (ids.length : Int)) = false := decide_eq_false (by omega)
        by_cases hn : ids = []
        · subst hn
          obtain rfl : j = 0 := by simpa using hj
          go_wp2_with fail
          go_ret
          exact ⟨by rw [HR.out]; rfl, HL.out⟩
        · have hne := join_ne ids hn
          have hemp := isEmpty_mk _ hne
          have HRT := Lib.hid (show tl = Lib.join (ids.map Lib.decDigits) [32] by rw [HR.out, if_pos trivial, idsL, if_neg hn])
          rw [HTK.out, ← HRT.out]
          rw [← HRT.out] at hemp
          obtain ⟨ts, hts⟩ : ∃ s : ByteArray, ⟨tl.toArray⟩ = s := ⟨_, rfl⟩
          rw [hts] at hemp ⊢
          have hne2 : ts.toList ≠ [] := by intro h; rw [h] at hemp; cases hemp
          have hbe : (ts.toList == []) = false := by simpa using hne2
          have HTS := Lib.hid hts
          clear hne hn hts hne2 HTK
          go_wp2_with fail
          go_ret
          exact ⟨by rw [HTS.out]; rfl, HL.out⟩
/-- A reply's line by the document, whichever. -/
theorem rrep_any (o : OpV) (ho : o.ok) (r : RepV) (hr : r.ok) (A : Option Addr) (cap : Nat) (w : World) (hlen : r.ids.length ≤ 100000) (hA : RecRow w ucell 1 A r.ids) :
    Calls Tryz.prog 15 #[o.val, repV r A cap] w fun e w' => e = .returned (.string ⟨(toldR o.k r).toArray⟩) ∧ Below w.heap.size w w' := by
  by_cases he : r.err = 0
  · cases hk : isCount o.k with
    | true => exact rrep_count o r hr A cap w he hk
    | false =>
      by_cases h1 : o.k = 10
      · exact rrep_yes o r hr A cap w he h1
      · by_cases h2 : o.k = 18 ∨ o.k = 19
        · exact rrep_wide o r hr A cap w he h2
        · exact rrep_ids o ho.k r hr A cap w hlen hA he hk h1 (fun h => h2 (.inl h)) (fun h => h2 (.inr h))
  · exact rrep_err o r hr A cap w he
end Go.Proofs.YtokpgopdkimmmaaGreatDoor
