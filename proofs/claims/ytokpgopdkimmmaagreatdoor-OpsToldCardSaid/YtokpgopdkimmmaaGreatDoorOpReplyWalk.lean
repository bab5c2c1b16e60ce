/- ops.Told: the walk. -/
import Derived.Test.YtokpgopdkimmmaaGreatDoorOpReply
import Derived.Test.YtokpgopdkimmmaaGreatDoorTellsM5
import Derived.Test.YtokpgopdkimmmaaGreatDoorPieces
import Derived.Lib.Join
namespace Go.Proofs.YtokpgopdkimmmaaGreatDoor
open Go.RowKit
set_option linter.unusedVariables false
set_option linter.unusedSimpArgs false

def ucell (n : Nat) : Array Value := #[.int .u32 (n : Int)]
theorem ucellk : ∀ n, (ucell n).size = 1 := fun _ => rfl
abbrev repCells (r : RepV) (A : Option Addr) (cap : Nat) : Array Value := #[.int .i64 r.err, .slice A r.ids.length cap, .int .i64 r.cnt, .bool r.yes, .int .u64 ((r.wide / 18446744073709551616 : Nat) : Int), .int .u64 ((r.wide % 18446744073709551616 : Nat) : Int)]
abbrev repV (r : RepV) (A : Option Addr) (cap : Nat) : Value := .agg (repCells r A cap)
theorem itoaI_any (n : Int) (hn : In64 n) (w : World) (ht : Tab64 w) : Calls Tryz.prog 39 #[.int .i64 n] w fun e w' => e = .returned (.string ⟨(Lib.itoa n).toArray⟩) ∧ Below w.heap.size w w' :=
  (Tryz.strconv_Itoa n hn.1 (by have := hn.2; omega) w ht).mono fun _ _ ⟨h, k, os, e⟩ => ⟨h, e ▸ Lib.below_grow _ w (Nat.le_refl _) k os⟩
set_option maxRecDepth 100000 in
set_option maxHeartbeats 2000000 in
theorem rep_err (o : OpV) (r : RepV) (hr : r.ok) (A : Option Addr) (cap : Nat) (w : World) (he : r.err ≠ 0) (ht : Tab64 w) : Calls Tryz.prog 14 #[o.val, repV r A cap] w fun e w' => e = .returned (.string ⟨(toldR o.k r).toArray⟩) ∧ Below w.heap.size w w' := by
  have HT := Lib.hid ht
  have hb : (r.err == 0) = false := by simpa using he
  have HR := Lib.hid (show toldR o.k r = errW ++ Lib.itoa r.err by unfold toldR; rw [if_pos he])
  have HI := Lib.hid hr.err
  have hlen := itoa_len hr.err
  obtain ⟨tl, htl⟩ : ∃ l, toldR o.k r = l := ⟨_, rfl⟩
  rw [htl] at HR ⊢
  obtain ⟨il, hil⟩ : ∃ l, Lib.itoa r.err = l := ⟨_, rfl⟩
  rw [hil] at hlen HR
  have HIL := Lib.hid hil
  have hcat : (⟨#[101, 114, 114, 111, 114, 32]⟩ : ByteArray) ++ ⟨il.toArray⟩ = ⟨(errW ++ il).toArray⟩ := cat_mk errW il
  clear ht he htl hil hr
  go_enter Tryz.func14, Tryz.ntmps14
  go_wp2_with fail
  have HB := Lib.hid (((Below.refl w.heap.size w).alloc (Nat.le_refl _) (.cells o.cells 24)).alloc (by simp) (.cells (repCells r A cap) 33))
  refine (itoaI_any r.err HI.out _ (Tab64.later HT.out HB.out)).mono ?_
  rw [HIL.out]
  rintro e w1 ⟨rfl, hb1⟩
  have HB1 := Lib.hid (bl HB.out (by simp; omega) hb1)
  clear hb1
  go_wp2_with fail
  go_ret
  exact ⟨by rw [HR.out]; rfl, HB1.out⟩
set_option maxRecDepth 100000 in
set_option maxHeartbeats 4000000 in
theorem rep_count (o : OpV) (r : RepV) (hr : r.ok) (A : Option Addr) (cap : Nat) (w : World) (he : r.err = 0) (hk : isCount o.k = true) (ht : Tab64 w) : Calls Tryz.prog 14 #[o.val, repV r A cap] w fun e w' => e = .returned (.string ⟨(toldR o.k r).toArray⟩) ∧ Below w.heap.size w w' := by
  have HT := Lib.hid ht
  have HR := Lib.hid (show toldR o.k r = Lib.itoa r.cnt by unfold toldR; rw [if_neg (fun h => h he), if_pos hk])
  have HI := Lib.hid hr.cnt
  obtain ⟨tl, htl⟩ : ∃ l, toldR o.k r = l := ⟨_, rfl⟩
  rw [htl] at HR ⊢
  obtain ⟨re, ri, rc, ry, rw_⟩ := r
  obtain ⟨k, a, b, c, d, i⟩ := o
  obtain rfl : re = 0 := he
  have hk2 : k = 1 ∨ k = 2 ∨ k = 3 ∨ k = 4 ∨ k = 5 ∨ k = 6 ∨ k = 8 ∨ k = 12 ∨ k = 16 := by
    simp only [isCount, Bool.or_eq_true, Bool.and_eq_true, decide_eq_true_eq] at hk
    omega
  clear ht htl hk hr
  rcases hk2 with rfl | rfl | rfl | rfl | rfl | rfl | rfl | rfl | rfl
  all_goals
    go_enter Tryz.func14, Tryz.ntmps14
    go_wp2_with fail
    refine (itoaI_any rc HI.out _ (Tab64.later HT.out (((Below.refl w.heap.size w).alloc (Nat.le_refl _) _).alloc (by simp) _))).mono ?_
    rintro e w1 ⟨rfl, hb1⟩
    have HB1 := Lib.hid (bl (((Below.refl w.heap.size w).alloc (Nat.le_refl _) _).alloc (by simp) _) (by simp; omega) hb1)
    clear hb1
    go_wp2_with fail
    go_ret
    exact ⟨by rw [HR.out]; rfl, HB1.out⟩
set_option maxRecDepth 100000 in
set_option maxHeartbeats 4000000 in
theorem rep_yes (o : OpV) (r : RepV) (hr : r.ok) (A : Option Addr) (cap : Nat) (w : World) (he : r.err = 0) (hk : o.k = 10) : Calls Tryz.prog 14 #[o.val, repV r A cap] w fun e w' => e = .returned (.string ⟨(toldR o.k r).toArray⟩) ∧ Below w.heap.size w w' := by
  have HR := Lib.hid (show toldR o.k r = if r.yes = true then yesW else noW by unfold toldR; rw [if_neg (fun h => h he), if_neg (by rw [hk]; decide), if_pos hk])
  obtain ⟨tl, htl⟩ : ∃ l, toldR o.k r = l := ⟨_, rfl⟩
  rw [htl] at HR ⊢
  obtain ⟨re, ri, rc, ry, rw_⟩ := r
  obtain ⟨k, a, b, c, d, i⟩ := o
  obtain rfl : re = 0 := he
  obtain rfl : k = 10 := hk
  clear htl hr
  cases ry
  all_goals
    go_enter Tryz.func14, Tryz.ntmps14
    go_wp2_with fail
    go_ret
    exact ⟨by rw [HR.out]; rfl, ((Below.refl w.heap.size w).alloc (Nat.le_refl _) _).alloc (by simp) _⟩
set_option maxRecDepth 100000 in
set_option maxHeartbeats 4000000 in
theorem rep_wide (o : OpV) (r : RepV) (hr : r.ok) (A : Option Addr) (cap : Nat) (w : World) (he : r.err = 0) (hk : o.k = 18 ∨ o.k = 19) (ht : Tab64 w) : Calls Tryz.prog 14 #[o.val, repV r A cap] w fun e w' => e = .returned (.string ⟨(toldR o.k r).toArray⟩) ∧ Below w.heap.size w w' := by
  have HT := Lib.hid ht
  have HR := Lib.hid (show toldR o.k r = textL r.wide by
    unfold toldR
    rw [if_neg (fun h => h he), if_neg (by rcases hk with h | h <;> (rw [h]; decide)), if_neg (by rcases hk with h | h <;> omega), if_pos hk])
  have HW := Lib.hid hr.wide
  obtain ⟨tl, htl⟩ : ∃ l, toldR o.k r = l := ⟨_, rfl⟩
  rw [htl] at HR ⊢
  obtain ⟨re, ri, rc, ry, rw_⟩ := r
  obtain ⟨k, a, b, c, d, i⟩ := o
  obtain rfl : re = 0 := he
  obtain ⟨hi, hhi⟩ : ∃ n : Int, ((rw_ / 18446744073709551616 : Nat) : Int) = n := ⟨_, rfl⟩
  obtain ⟨lo, hlo⟩ : ∃ n : Int, ((rw_ % 18446744073709551616 : Nat) : Int) = n := ⟨_, rfl⟩
  have HV := Lib.hid (show Value.agg #[.int .u64 hi, .int .u64 lo] = wideV rw_ by rw [← hhi, ← hlo]; rfl)
  dsimp only [repV, repCells] at *
  rw [hhi, hlo]
  clear ht htl hhi hlo hr
  rcases hk with rfl | rfl
  all_goals
    go_enter Tryz.func14, Tryz.ntmps14
    go_wp2_with fail
    rw [HV.out]
    refine (text_any rw_ HW.out _ (Tab64.later HT.out (((Below.refl w.heap.size w).alloc (Nat.le_refl _) _).alloc (by simp) _))).mono ?_
    rintro e w1 ⟨rfl, hb1⟩
    have HB1 := Lib.hid (bl (((Below.refl w.heap.size w).alloc (Nat.le_refl _) _).alloc (by simp) _) (by simp; omega) hb1)
    clear hb1
    go_wp2_with fail
    go_ret
    exact ⟨by rw [HR.out]; rfl, HB1.out⟩
theorem infoStr : (Tryz.prog.info? 9).map (fun i => (i.zero, i.size, i.bytes)) = some (some (.string ⟨#[]⟩), 1, 16) := by kernel_rfl
abbrev decV (n : Nat) : Value := .string ⟨(Lib.decDigits n).toArray⟩
theorem join_dec_len : ∀ ids : List Nat, (∀ x ∈ ids, x < 4294967296) → ids.length ≤ 1000000 → (Lib.join (ids.map Lib.decDigits) [32]).length ≤ 140737488355328
  | [], _, _ => by simp [Lib.join_nil]
  | x :: ids, h, hl => by
    have hd : ∀ y, y < 4294967296 → (Lib.decDigits y).length ≤ 10 := fun y hy => by
      rw [Lib.decDigits_length]
      exact nDig_le (n := y) (k := 10) (Nat.lt_trans hy (by decide)) (by decide)
    have hs : ∀ l : List Nat, (∀ y ∈ l, y < 4294967296) → Lib.lens (l.map Lib.decDigits) ≤ 10 * l.length := by
      intro l
      induction l with
      | nil => intro _; simp [Lib.lens]
      | cons y l ih =>
        intro hy
        have h1 := ih fun z hz => hy z (List.mem_cons_of_mem _ hz)
        have h2 := hd y (hy y List.mem_cons_self)
        simp only [Lib.lens, List.map_cons, List.sum_cons, List.length_cons] at h1 ⊢
        omega
    rw [List.map_cons, Lib.join_cons, List.length_append, Lib.joinTail_length]
    have h1 := hd x (h x List.mem_cons_self)
    have h2 := hs ids fun z hz => h z (List.mem_cons_of_mem _ hz)
    simp only [List.length_map, List.length_cons, List.length_nil] at hl h2 ⊢
    omega
set_option maxRecDepth 100000 in
set_option maxHeartbeats 4000000 in
theorem rep_ids (o : OpV) (ho : o.k < 256) (r : RepV) (hr : r.ok) (A : Option Addr) (cap : Nat) (w : World) (hlen : r.ids.length ≤ 100000) (hA : RecRow w ucell 1 A r.ids) (he : r.err = 0) (hk : isCount o.k = false) (hk1 : o.k ≠ 10) (hk2 : o.k ≠ 18) (hk3 : o.k ≠ 19) (ht : Tab64 w) (hbk : Blanks w) :
    Calls Tryz.prog 14 #[o.val, repV r A cap] w fun e w' => e = .returned (.string ⟨(toldR o.k r).toArray⟩) ∧ Below w.heap.size w w' := by
  obtain ⟨i0, hi, hzz, hz1, hz2⟩ := info_parts infoStr
  have HT := Lib.hid ht
  have HBK := Lib.hid hbk
  have HA := Lib.hid hA
  have HR := Lib.hid (show toldR o.k r = if isCode o.k = true then idsL r.ids else [] by
    unfold toldR
    rw [if_neg (fun h => h he), if_neg (by rw [hk]; simp), if_neg hk1, if_neg (by rintro (h | h) <;> contradiction)])
  have HU := Lib.hid hr.ids
  obtain ⟨tl, htl⟩ : ∃ l, toldR o.k r = l := ⟨_, rfl⟩
  rw [htl] at HR ⊢
  obtain ⟨re, ids, rc, ry, rw_⟩ := r
  obtain ⟨k, a, b, c, d, i⟩ := o
  obtain rfl : re = 0 := he
  have hcs : ¬ (1 ≤ k ∧ k ≤ 6) ∧ k ≠ 8 ∧ k ≠ 12 ∧ k ≠ 16 := by
    refine ⟨fun h => ?_, fun h => ?_, fun h => ?_, fun h => ?_⟩
    all_goals
      have : isCount k = true := by simp only [isCount, Bool.or_eq_true, Bool.and_eq_true, decide_eq_true_eq]; omega
      rw [show isCount k = false from hk] at this
      cases this
  have hn10 : k ≠ 10 := hk1
  have hn18 : k ≠ 18 := hk2
  have hn19 : k ≠ 19 := hk3
  have q1 : ((k : Int) == 1) = false := by simp; omega
  have q2 : ((k : Int) == 2) = false := by simp; omega
  have q3 : ((k : Int) == 3) = false := by simp; omega
  have q4 : ((k : Int) == 4) = false := by simp; omega
  have q5 : ((k : Int) == 5) = false := by simp; omega
  have q6 : ((k : Int) == 6) = false := by simp; omega
  have q8 : ((k : Int) == 8) = false := by simp; omega
  have q12 : ((k : Int) == 12) = false := by simp; omega
  have q16 : ((k : Int) == 16) = false := by simp; omega
  have q10 : ((k : Int) == 10) = false := by simp; omega
  have q18 : ((k : Int) == 18) = false := by simp; omega
  have q19 : ((k : Int) == 19) = false := by simp; omega
  have HK := Lib.hid ho
  clear ht htl hk hk1 hk2 hk3 hr hbk hA hcs hn10 hn18 hn19
  go_enter Tryz.func14, Tryz.ntmps14
  go_wp2_with fail
  have HB := Lib.hid (((Below.refl w.heap.size w).alloc (Nat.le_refl _) (.cells (OpV.cells ⟨k, a, b, c, d, i⟩) 24)).alloc (by simp) (.cells (repCells ⟨0, ids, rc, ry, rw_⟩ A cap) 33))
  have K3 := Lib.hid (show Blk ((w.alloc (.cells (OpV.cells ⟨k, a, b, c, d, i⟩) 24)).alloc (.cells (repCells ⟨0, ids, rc, ry, rw_⟩ A cap) 33)) (w.heap.size + 1) 33 (repCells ⟨0, ids, rc, ry, rw_⟩ A cap) by
    have h := Blk.new (w.alloc (.cells (OpV.cells ⟨k, a, b, c, d, i⟩) 24)) 33 (repCells ⟨0, ids, rc, ry, rw_⟩ A cap)
    rw [World.size_alloc] at h
    exact h)
  refine (line_any k HK.out _ (HBK.out.later HB.out)).mono ?_
  rintro e w1 ⟨rfl, hb1⟩
  have hid1 : w1.cell? ⟨w.heap.size + 1, 1, none⟩ = some (.slice A ids.length cap) := Blk.cell (Blk.below K3.out hb1 (Blk.lt K3.out)) 1
  have HB1 := Lib.hid (bl HB.out (by simp; omega) hb1)
  obtain ⟨ic, hic⟩ : ∃ ic, isCode k = ic := ⟨_, rfl⟩
  have hlt1 : w.heap.size + 1 < w1.heap.size := by have := hb1.size; simp at this; omega
  rw [hic] at HR ⊢
  clear hb1 hic K3 HB HK HBK
  cases ic
  case false =>
    go_wp2_with fail
    go_ret
    exact ⟨by rw [HR.out]; rfl, HB1.out⟩
  case true =>
    go_wp2_with fail
    clear hid1
    go_loopw [8, 55] (fun sv iv wr => ∃ (j : Nat) (sa : Option Addr) (sc : Nat), j ≤ ids.length ∧ iv = .int .i64 (j : Int) ∧ sv = .slice sa j sc ∧ Hid (wr.ownsRow w.heap.size 9 1 (.slice sa j sc) j ((ids.take j).map decV)) ∧ Hid (Below w.heap.size w wr)) (fun _ iv _ => ids.length - (intOf iv).toNat)
    case atStart => exact ⟨0, none, 0, Nat.zero_le _, rfl, rfl, Lib.hid (World.ownsRow_nil _ _ _ _), HB1⟩
    case round =>
      clear HB1
      obtain ⟨j, sa, sc, hj, rfl, rfl, HO, HL⟩ := hrel
      by_cases hlt : j < ids.length
      · obtain ⟨x, hx⟩ : ∃ x, ids[j]? = some x := ⟨_, List.getElem?_eq_getElem hlt⟩
        obtain ⟨g, lo, rfl, hg, hcell⟩ := HA.out.at_ hx
        have hcx : wr.cell? ⟨g, lo + j, none⟩ = some (.int .u32 (x : Int)) := by
          have h := (HL.out.cell (p := ⟨g, lo + j * 1 + 0, none⟩) hg).trans (hcell 0 (by decide))
          rw [Nat.mul_one, Nat.add_zero] at h
          exact h
        have hx32 : x < 4294967296 := HU.out x (List.mem_of_getElem? hx)
        have HS := Lib.hid (show (ids.take (j + 1)).map decV = (ids.take j).map decV ++ [decV x] by rw [List.take_add_one, hx]; simp)
        clear hcell hx
        go_wp2_with fail
        refine (fmtUint_any x (by omega) wr (Tab64.later HT.out HL.out)).mono ?_
        rintro e w2 ⟨rfl, hb2⟩
        have HO2 := Lib.hid (ownsRow_block HO.out (fun g hg => hb2.block g (HO.out.lt g hg).2))
        have HL2 := Lib.hid (bl HL.out HL.out.size hb2)
        clear hb2 hcx HO HL
        go_wp2_with (at_builtin; refine wpList_append_any _ rfl (.tmp 59) (.tmp 63) 47 rfl w.heap.size 9 i0 (.string ⟨#[]⟩) 1 16 Tryz.underlying47 hi hzz hz1 hz2 rfl (by decide) _ _ _ rfl (HO2.out.alloc _) (w2.heap.size + 1) (some ⟨w2.heap.size, 0, none⟩) 1 1 [decV x] rfl (reads_cells w2 #[decV x] _ 1 1 rfl) (by intro u hu; simp at hu; subst hu; rfl) (by unfold maxLen; omega) (by omega) (by have := HL2.out.size; simp; omega) ?_)
        intro v5 w5 ho5 hg5 ha5
        obtain ⟨a5, k5, rfl⟩ := own_shape ho5
        have HL5 := Lib.hid ((HL2.out.alloc HL2.out.size (.cells #[decV x] 9)).grown hg5 (Nat.le_trans HL2.out.size (by simp)) (fun r hr => (HO2.out.lt r hr).1))
        have HO5 := Lib.hid ho5
        clear ho5 hg5 ha5
        go_wp2_with fail
        go_roundw
        case rel => exact ⟨j + 1, a5, k5, by omega, by go_num, rfl, Lib.hid (by rw [HS.out, List.map_take]; exact HO5.out), HL5⟩
        case measure => simp [intOf] <;> omega
      · obtain rfl : j = ids.length := by omega
        have HTK := Lib.hid (show (ids.take ids.length).map decV = ids.map decV by rw [List.take_length])
        rcases Nat.eq_zero_or_pos ids.length with h0 | h0
        · have hnil := List.eq_nil_of_length_eq_zero h0
          subst hnil
          go_wp2_with fail
          go_ret
          exact ⟨by rw [HR.out]; rfl, HL.out⟩
        · have hq : ((ids.length : Int) == 0) = false := by simp; intro h; subst h; simp at h0
          obtain ⟨g, sc2, hv, _, hglt⟩ := HO.out.form h0
          have hsa : sa = some ⟨g, 0, none⟩ := by injection hv
          subst hsa
          have HN := Lib.hid (show ids ≠ [] from fun h => by subst h; simp at h0)
          have HJ := Lib.hid (Tryz.strings_Join g 0 sc (ids.map fun n => (⟨(Lib.decDigits n).toArray⟩ : ByteArray)) ⟨#[32]⟩ wr (fun j x hx => by
            rw [List.getElem?_map] at hx
            obtain ⟨n, hn, rfl⟩ := Option.map_eq_some_iff.1 hx
            have h := HO.out.cells (g := g) rfl j (decV n) (by rw [HTK.out, List.getElem?_map, hn]; rfl)
            rw [show (⟨g, 0, none⟩ : Addr).add j = ⟨g, 0 + j, none⟩ by unfold Addr.add; split <;> simp_all] at h
            exact h) hglt (by simp; omega) (by
              simp
              rcases HO.out.2 with ⟨h, _⟩ | ⟨g', cap', cur, h, _, _, hc, _⟩
              · cases h
              · simp only [Value.slice.injEq] at h
                obtain ⟨_, _, rfl⟩ := h
                exact hc) (by
              have e : (ids.map fun n => (⟨(Lib.decDigits n).toArray⟩ : ByteArray)).map (·.data.toList) = ids.map Lib.decDigits := by rw [List.map_map]; rfl
              rw [e]
              exact join_dec_len ids HU.out (by omega)))
          have HE := Lib.hid (show (ids.map fun n => (⟨(Lib.decDigits n).toArray⟩ : ByteArray)).map (·.data.toList) = ids.map Lib.decDigits by rw [List.map_map]; rfl)
          have HT2 := Lib.hid (show Lib.join ((ids.map fun n => (⟨(Lib.decDigits n).toArray⟩ : ByteArray)).map (·.data.toList)) (⟨#[32]⟩ : ByteArray).data.toList = tl by
            rw [HE.out, HR.out, if_pos trivial, idsL, if_neg HN.out])
          clear hv
          go_wp2_with fail
          have hj := HJ.out
          rw [List.length_map, HT2.out] at hj
          refine hj.mono ?_
          rintro e w9 ⟨rfl, hb9⟩
          have HB9 := Lib.hid (bl HL.out HL.out.size hb9)
          clear hb9 hj
          go_wp2_with fail
          go_ret
          exact ⟨rfl, HB9.out⟩
/-- A reply's line, whichever. -/
theorem rep_any (o : OpV) (ho : o.ok) (r : RepV) (hr : r.ok) (A : Option Addr) (cap : Nat) (w : World) (hlen : r.ids.length ≤ 100000) (hA : RecRow w ucell 1 A r.ids) (ht : Tab64 w) (hbk : Blanks w) :
    Calls Tryz.prog 14 #[o.val, repV r A cap] w fun e w' => e = .returned (.string ⟨(toldR o.k r).toArray⟩) ∧ Below w.heap.size w w' := by
  by_cases he : r.err = 0
  · cases hk : isCount o.k with
    | true => exact rep_count o r hr A cap w he hk ht
    | false =>
      by_cases h1 : o.k = 10
      · exact rep_yes o r hr A cap w he h1
      · by_cases h2 : o.k = 18 ∨ o.k = 19
        · exact rep_wide o r hr A cap w he h2 ht
        · exact rep_ids o ho.k r hr A cap w hlen hA he hk h1 (fun h => h2 (.inl h)) (fun h => h2 (.inr h)) ht hbk
  · exact rep_err o r hr A cap w he ht
end Go.Proofs.YtokpgopdkimmmaaGreatDoor
