/- OpsBack: the walk. -/
import Derived.Test.YtokpgopdkimmmaaDoorOpsTotalLaw
import Derived.Test.YtokpgopdkimmmaaDoorOpSame
import Derived.Deep.RegionHeld3
namespace Go.Proofs.YtokpgopdkimmmaaDoor
open Go.RowKit
set_option linter.unusedVariables false
set_option linter.unusedSimpArgs false

theorem flat_bcell (l : List Nat) : flatR bcell l = bvals l := by
  induction l with
  | nil => rfl
  | cons x l ih => rw [flatR_cons, ih]; rfl
/-- Bytes that a call owns, as a row. -/
theorem row_of_bytes {w : World} {B : Nat} {a : Option Addr} {n c : Nat} {l : List Nat} (h : w.ownsRow B 5 1 (.slice a n c) n (bvals l)) (hn : n = l.length) : RecRow w bcell 1 a l ∧ n ≤ c ∧ c ≤ maxLen := by
  refine ⟨RecRow.of_own bcellk (by rw [flat_bcell]; exact h) hn, ?_⟩
  rcases h.2 with ⟨h1, _⟩ | ⟨g, cap, cur, h1, _, _, h2, h3, _⟩
  · simp only [Value.slice.injEq] at h1
    obtain ⟨_, rfl, rfl⟩ := h1
    exact ⟨Nat.le_refl _, Nat.zero_le _⟩
  · simp only [Value.slice.injEq] at h1
    obtain ⟨_, _, rfl⟩ := h1
    exact ⟨h2, h3⟩
/-- An operation's line, and its bytes, as strings. -/
def tS (o : OpV) : ByteArray := ⟨(textL' o).toArray⟩
def bS (o : OpV) : ByteArray := strB (opBytes o)
theorem sameB_self (o : OpV) : sameB o o = true := by simp [sameB]
theorem tS_eq {p q : OpV} (hp : p.ok) (hq : q.ok) : ((tS p).toList == (tS q).toList) = sameB p q := by
  rw [Bool.eq_iff_iff, beq_iff_eq, ByteArray.toList_eq, ByteArray.toList_eq]
  constructor
  · intro h
    have e : p = q := textL'_inj hp hq h
    subst e
    exact sameB_self p
  · intro h
    rw [sameB_eq h]
theorem bS_eq {p q : OpV} (hp : p.ok) (hq : q.ok) : ((bS p).toList == (bS q).toList) = sameB p q := by
  rw [Bool.eq_iff_iff, beq_iff_eq, ByteArray.toList_eq, ByteArray.toList_eq]
  constructor
  · intro h
    have e : p = q := opBytes_inj hp hq (map_ofNat_inj (opBytes_lt p hp) (opBytes_lt q hq) (by simpa [bS, strB] using h))
    subst e
    exact sameB_self p
  · intro h
    rw [sameB_eq h]
theorem text_call (o : OpV) (ho : o.ok) (W : World) (h : Env27 W) : Calls Tryd.prog 11 #[o.val] W fun e w' => e = .returned (.string (tS o)) ∧ Below W.heap.size W w' := optext_any o ho W h.t h.k h.e
theorem bytes_one (o : OpV) (ho : o.ok) (N : Nat) (W : World) (h : OpB W N o) : Calls Tryd.prog 7 #[.slice (some ⟨N, 0, none⟩) 1 1] W fun e w' => ∃ v, e = .returned v ∧ w'.ownsRow W.heap.size 5 1 v (opBytes o).length (bvals (opBytes o)) ∧ Below W.heap.size W w' := by
  have hr : OpRow W (some ⟨N, 0, none⟩) [o] := RecRow.of_block opk h fun j _ => by rw [flatR_one]; simp
  have e1 : bytesL [o] = opBytes o := by simp [bytesL]
  have g := bytes_all [o] (fun x hx => by rw [List.mem_singleton.1 hx]; exact ho) (by show 1 ≤ 1000; omega) _ 1 W hr
  rw [e1] at g
  exact g
theorem conv_one {w : World} {B : Nat} {v : Value} {o : OpV} (h : w.ownsRow B 5 1 v (opBytes o).length (bvals (opBytes o))) : (convert 24 9 v).run Tryd.prog w = .ok (.string (bS o)) w := conv_bytes h
theorem op_cells {w : World} {b : Nat} {o : OpV} (h : OpB w b o) : w.cell? ⟨b, 0, none⟩ = some (.int .u8 (o.k : Int)) ∧ w.cell? ⟨b, 1, none⟩ = some (.int .i64 o.a) ∧ w.cell? ⟨b, 2, none⟩ = some (.int .i64 o.b) ∧ w.cell? ⟨b, 3, none⟩ = some (.int .i64 o.c) ∧ w.cell? ⟨b, 4, none⟩ = some (.int .i64 o.d) ∧ w.cell? ⟨b, 5, none⟩ = some (.int .u32 (o.id : Int)) :=
  ⟨Blk.cell h 0, Blk.cell h 1, Blk.cell h 2, Blk.cell h 3, Blk.cell h 4, Blk.cell h 5⟩
/-- Two operations are the same if their fields are, one by one. -/
theorem ite6 {α : Type} (p q : OpV) (f : Bool → α) : (if (p.k : Int) = (q.k : Int) then if p.a = q.a then if p.b = q.b then if p.c = q.c then if p.d = q.d then if (p.id : Int) = (q.id : Int) then f true else f false else f false else f false else f false else f false else f false) = f (sameB p q) := by
  have e : sameB p q = (decide ((p.k : Int) = (q.k : Int)) && decide (p.a = q.a) && decide (p.b = q.b) && decide (p.c = q.c) && decide (p.d = q.d) && decide ((p.id : Int) = (q.id : Int))) := by
    unfold sameB
    rw [show decide ((p.k : Int) = (q.k : Int)) = decide (p.k = q.k) from by simp [Int.natCast_inj], show decide ((p.id : Int) = (q.id : Int)) = decide (p.id = q.id) from by simp [Int.natCast_inj]]
  rw [e]
  by_cases h1 : (p.k : Int) = (q.k : Int) <;> by_cases h2 : p.a = q.a <;> by_cases h3 : p.b = q.b <;> by_cases h4 : p.c = q.c <;> by_cases h5 : p.d = q.d <;> by_cases h6 : (p.id : Int) = (q.id : Int) <;> simp only [h1, h2, h3, h4, h5, h6, if_true, if_false, decide_true, decide_false, Bool.and_true, Bool.and_false, Bool.false_and, Bool.true_and]
theorem word_let_len (k : Nat) : (wordOf k).length ≤ 9 ∧ (letOf k).length ≤ 5 := by
  rcases Nat.eq_zero_or_pos k with h | h
  · rw [h]; exact ⟨by simp [wordOf], by simp [letOf]⟩
  · rcases Nat.lt_or_ge 20 k with h2 | h2
    · unfold letOf wordOf
      rw [if_neg (by omega), if_neg (by omega), List.getD_eq_getElem?_getD, List.getElem?_eq_none (by simp [opTab]; omega)]
      simp
    · obtain ⟨_, _, r3, r4⟩ := opRows_at ⟨k - 1, by omega⟩
      simp only [Nat.sub_add_cancel h] at r3 r4
      omega
theorem text_len {o : OpV} (h : o.ok) : (textL' o).length ≤ 200 := by
  unfold textL'
  split
  · unfold toldL
    have h1 := word_let_len o.k
    have h2 := rest_len h (letOf o.k)
    rw [List.length_append]
    omega
  · unfold toldL
    have h2 := rest_len h [105, 97, 98, 99, 100]
    have h3 := nDig_le (n := o.k) (k := 3) (Nat.lt_trans h.k (by decide)) (by decide)
    have h4 : opWord.length = 3 := rfl
    rw [List.length_append, List.length_append, Lib.decDigits_length]
    simp only [List.length_cons, List.length_nil] at h2
    omega
set_option maxRecDepth 100000 in
set_option maxHeartbeats 4000000 in
theorem OpsBack_walk (ls : List OpV) (hl : ∀ o ∈ ls, o.ok) (A : Option Addr) (ca : Nat) (hln : ls.length ≤ 1000000000000000) (p q : OpV) (hp : p.ok) (hq : q.ok) (w : World) (hA : OpRow w A ls) (hE : Env27 w) :
    Calls Tryd.prog 4 #[.slice A ls.length ca, p.val, q.val] w fun e w' => e = .returned (.bool true) ∧ Below w.heap.size w w' := by
  have HE := Lib.hid hE
  have HA := Lib.hid hA
  have HPO := Lib.hid hp
  have HQO := Lib.hid hq
  have HL := Lib.hid hl
  clear hE hA hp hq hl
  have HB0 := Lib.hid (((Below.refl w.heap.size w).alloc (Nat.le_refl _) (.cells p.cells 29)).alloc (by simp) (.cells q.cells 29))
  have HK4 := Lib.hid (show OpB ((w.alloc (.cells p.cells 29)).alloc (.cells q.cells 29)) w.heap.size p from Blk.alloc (Blk.new w _ _) _)
  have hk5 : OpB ((w.alloc (.cells p.cells 29)).alloc (.cells q.cells 29)) (w.heap.size + 1) q := by
    have h := Blk.new (w.alloc (.cells p.cells 29)) 29 q.cells
    rw [World.size_alloc] at h
    exact h
  have HK5 := Lib.hid hk5
  clear hk5
  by_cases h1 : 50 < ls.length
  · have hd : decide ((50 : Int) < (ls.length : Int)) = true := decide_eq_true (by omega)
    go_enter Tryd.func4, Tryd.ntmps4
    go_wp2_with fail
    refine (awake27_any _ (HE.out.later HB0.out)).mono ?_
    rintro e w1 ⟨rfl, hb1⟩
    have HB1 := Lib.hid (bl HB0.out (by simp; omega) hb1)
    clear hb1
    go_wp2
    go_ret
    exact ⟨rfl, HB1.out⟩
  · have hd : decide ((50 : Int) < (ls.length : Int)) = false := decide_eq_false (by omega)
    have h50 : ls.length ≤ 50 := by omega
    clear h1
    go_enter Tryd.func4, Tryd.ntmps4
    go_upto_region 3 with (fail)
    generalize (w.alloc (.cells p.cells 29)).alloc (.cells q.cells 29) = V at HB0 HK4 HK5 ⊢
    obtain ⟨b4, hb4⟩ : ∃ b, w.heap.size = b := ⟨_, rfl⟩
    rw [hb4] at HK4 HK5 ⊢
    have HG4 := Lib.hid (show w.heap.size ≤ b4 by omega)
    clear hb4
    go_wp2_with fail
    refine (bytes_all ls HL.out (by omega) A ca V (RecRow.later HA.out HB0.out)).mono ?_
    rintro e w1 ⟨v1, rfl, ho1, hb1⟩
    obtain ⟨a1, c1, rfl⟩ := own_shape ho1
    have HB1 := Lib.hid (bl HB0.out HB0.out.size hb1)
    have HK41 := Lib.hid (HK4.out.later hb1)
    have HK51 := Lib.hid (HK5.out.later hb1)
    have HRB := Lib.hid (row_of_bytes ho1 rfl)
    clear ho1 hb1 HB0 HK4 HK5
    go_wp2_with fail
    refine (read_any (bytesL ls) ls.length a1 c1 w1 (by omega) (bytesL_len ls) HRB.out.2.1 HRB.out.2.2 (bytesL_lt ls HL.out) HRB.out.1).mono ?_
    have hrr := readN_bytes ls [] HL.out
    rw [List.append_nil] at hrr
    rw [hrr]
    rintro e w2 ⟨v2, rfl, ho2, hb2⟩
    obtain ⟨a2, c2, rfl⟩ := own_shape ho2
    have HB2 := Lib.hid (bl HB1.out HB1.out.size hb2)
    have HK42 := Lib.hid (HK41.out.later hb2)
    have HK52 := Lib.hid (HK51.out.later hb2)
    have HR2 := Lib.hid (RecRow.of_own opk ho2 rfl)
    clear ho2 hb2 hrr HB1 HK41 HK51 HRB
    go_wp2_with fail
    refine (sameOps_same ls (by omega) A a2 ca c2 w2 (RecRow.later HA.out HB2.out) HR2.out).mono ?_
    rintro e w3 ⟨rfl, hb3⟩
    have HB3 := Lib.hid (bl HB2.out HB2.out.size hb3)
    have HK43 := Lib.hid (HK42.out.later hb3)
    have HK53 := Lib.hid (HK52.out.later hb3)
    clear hb3 HB2 HK42 HK52 HR2
    go_wp2_with fail
    go_loopw [33] (fun iv wr => ∃ k : Nat, k ≤ ls.length ∧ iv = .int .i64 (k : Int) ∧ Hid (OpB wr b4 p) ∧ Hid (OpB wr (b4 + 1) q) ∧ Hid (Below w.heap.size w wr)) (fun iv _ => ls.length - (intOf iv).toNat)
    case atStart => exact ⟨0, Nat.zero_le _, rfl, HK43, HK53, HB3⟩
    case round =>
      clear HK43 HK53 HB3
      obtain ⟨k, hk, rfl, HK4, HK5, HB⟩ := hrel
      by_cases hlt : k < ls.length
      · obtain ⟨o, hoo⟩ : ∃ o, ls[k]? = some o := ⟨ls[k], List.getElem?_eq_getElem hlt⟩
        obtain ⟨g, lo, hAe, hg, hcs⟩ := (RecRow.later HA.out HB.out).at_ hoo
        subst hAe
        have HOK := Lib.hid (HL.out o (List.mem_of_getElem? hoo))
        have c0 : wr.cell? ⟨g, lo + k * 6, none⟩ = some (.int .u8 (o.k : Int)) := hcs 0 (by decide)
        have c1 : wr.cell? ⟨g, lo + k * 6 + 1, none⟩ = some (.int .i64 o.a) := hcs 1 (by decide)
        have c2 : wr.cell? ⟨g, lo + k * 6 + 2, none⟩ = some (.int .i64 o.b) := hcs 2 (by decide)
        have c3 : wr.cell? ⟨g, lo + k * 6 + 3, none⟩ = some (.int .i64 o.c) := hcs 3 (by decide)
        have c4 : wr.cell? ⟨g, lo + k * 6 + 4, none⟩ = some (.int .i64 o.d) := hcs 4 (by decide)
        have c5 : wr.cell? ⟨g, lo + k * 6 + 5, none⟩ = some (.int .u32 (o.id : Int)) := hcs 5 (by decide)
        have HTX := Lib.hid (fun (W : World) (h : Env27 W) => optext_any o HOK.out W h.t h.k h.e)
        have HPX := Lib.hid (fun (W : World) (h : Env27 W) => by
          have hlen : (textL' o).length ≤ 1000000 := Nat.le_trans (text_len HOK.out) (by decide)
          have g := opparse_any (textL' o) hlen W h.t h.k h.e h.m
          rw [parse_told o HOK.out] at g
          exact g)
        obtain ⟨tx, htx⟩ : ∃ t, textL' o = t := ⟨_, rfl⟩
        rw [htx] at HTX HPX
        clear hcs hoo htx
        go_wp2_with fail
        have HB5 := Lib.hid (HB.out.alloc HB.out.size (.cells o.cells 29))
        have HK45 := Lib.hid (show OpB (wr.alloc (.cells o.cells 29)) b4 p from Blk.alloc HK4.out _)
        have HK55 := Lib.hid (show OpB (wr.alloc (.cells o.cells 29)) (b4 + 1) q from Blk.alloc HK5.out _)
        have HK65 := Lib.hid (show OpB (wr.alloc (.cells o.cells 29)) wr.heap.size o from Blk.new wr _ _)
        refine (HTX.out _ (HE.out.later HB5.out)).mono ?_
        rintro e w6 ⟨rfl, hb6⟩
        have HB6 := Lib.hid (bl HB5.out HB5.out.size hb6)
        have HK46 := Lib.hid (HK45.out.later hb6)
        have HK56 := Lib.hid (HK55.out.later hb6)
        have HK66 := Lib.hid (HK65.out.later hb6)
        obtain ⟨bo, hbo⟩ : ∃ b, wr.heap.size = b := ⟨_, rfl⟩
        rw [hbo] at HK66 ⊢
        clear hb6 hbo HK45 HK55 HK65 HB5 HK4 HK5 HB c0 c1 c2 c3 c4 c5
        go_wp2_with fail
        refine (HPX.out _ (HE.out.later HB6.out)).mono ?_
        rintro e w7 ⟨he, hb7⟩
        obtain rfl : e = .returned (.tuple #[.agg #[.int .u8 (o.k : Int), .int .i64 o.a, .int .i64 o.b, .int .i64 o.c, .int .i64 o.d, .int .u32 (o.id : Int)], .int .i64 0]) := he
        have HB7 := Lib.hid (bl HB6.out HB6.out.size hb7)
        have HK47 := Lib.hid (HK46.out.later hb7)
        have HK57 := Lib.hid (HK56.out.later hb7)
        have hk6 := HK66.out.later hb7
        have d0 : w7.cell? ⟨bo, 0, none⟩ = some (.int .u8 (o.k : Int)) := Blk.cell hk6 0
        have d1 : w7.cell? ⟨bo, 1, none⟩ = some (.int .i64 o.a) := Blk.cell hk6 1
        have d2 : w7.cell? ⟨bo, 2, none⟩ = some (.int .i64 o.b) := Blk.cell hk6 2
        have d3 : w7.cell? ⟨bo, 3, none⟩ = some (.int .i64 o.c) := Blk.cell hk6 3
        have d4 : w7.cell? ⟨bo, 4, none⟩ = some (.int .i64 o.d) := Blk.cell hk6 4
        have d5 : w7.cell? ⟨bo, 5, none⟩ = some (.int .u32 (o.id : Int)) := Blk.cell hk6 5
        have hblt := Blk.lt hk6
        clear hb7 hk6 HK66 HK46 HK56 HB6
        go_wp2_with fail
        go_roundw
        case rel => exact ⟨k + 1, by omega, by go_num, Lib.hid (Blk.alloc HK47.out _), Lib.hid (Blk.alloc HK57.out _), Lib.hid (HB7.out.alloc HB7.out.size _)⟩
        case measure => simp [intOf] <;> omega
      · have hke : k = ls.length := by omega
        have hdk : decide ((k : Int) < (ls.length : Int)) = false := decide_eq_false (by omega)
        clear hke
        go_upto_region 13 with (fail)
        -- REGION13
        refine wp_region_until (fun w' => OpB w' b4 p ∧ OpB w' (b4 + 1) q) [0, 1, 2, 3, 4, 5, 6, 7, 8, 9] (by kernel_rfl) ?_
        have hS : ((fun w' => OpB w' b4 p ∧ OpB w' (b4 + 1) q)) wr.drew := ⟨HK4.out, HK5.out⟩
        replace HB := Lib.hid (show Below w.heap.size w wr.drew from HB.out.drew)
        clear HK4 HK5
        refine wpAnyG_take (i := 0) rfl (by kernel_rfl) (by kernel_rfl) (by kernel_rfl) (by kernel_rfl) (by kernel_rfl) (by kernel_rfl) (fun _ _ _ h => h) rfl (by rintro w ⟨g4, g5⟩; obtain ⟨c0, c1, c2, c3, c4, c5⟩ := op_cells g4; go_simp; rfl) hS ?_
        (try simp only [Act.put, List.getElem_toArray, List.getElem_cons_succ, List.getElem_cons_zero, List.setIfInBounds_toArray, List.set_cons_zero, List.set_cons_succ])
        refine wpAnyG_take (i := 2) rfl (by kernel_rfl) (by kernel_rfl) (by kernel_rfl) (by kernel_rfl) (by kernel_rfl) (by kernel_rfl) (fun _ _ _ h => h) rfl (by rintro w ⟨g4, g5⟩; obtain ⟨c0, c1, c2, c3, c4, c5⟩ := op_cells g5; go_simp; rfl) hS ?_
        (try simp only [Act.put, List.getElem_toArray, List.getElem_cons_succ, List.getElem_cons_zero, List.setIfInBounds_toArray, List.set_cons_zero, List.set_cons_succ])
        refine wpAnyG_take (i := 5) rfl (by kernel_rfl) (by kernel_rfl) (by kernel_rfl) (by kernel_rfl) (by kernel_rfl) (by kernel_rfl) (fun _ _ _ h => h) rfl (by rintro w ⟨g4, g5⟩; obtain ⟨c0, c1, c2, c3, c4, c5⟩ := op_cells g4; go_simp; rfl) hS ?_
        (try simp only [Act.put, List.getElem_toArray, List.getElem_cons_succ, List.getElem_cons_zero, List.setIfInBounds_toArray, List.set_cons_zero, List.set_cons_succ])
        refine wpAnyG_take (i := 6) rfl (by kernel_rfl) (by kernel_rfl) (by kernel_rfl) (by kernel_rfl) (by kernel_rfl) (by kernel_rfl) (fun _ _ _ h => h) rfl (by rintro w ⟨g4, g5⟩; obtain ⟨c0, c1, c2, c3, c4, c5⟩ := op_cells g5; go_simp; rfl) hS ?_
        (try simp only [Act.put, List.getElem_toArray, List.getElem_cons_succ, List.getElem_cons_zero, List.setIfInBounds_toArray, List.set_cons_zero, List.set_cons_succ])
        refine wpAnyG_take (i := 7) (v := .bool (sameB p q)) rfl (by kernel_rfl) (by kernel_rfl) (by kernel_rfl) (by kernel_rfl) (by kernel_rfl) (by kernel_rfl) (fun _ _ _ h => h) rfl (by intro w _; go_simp; exact ite6 p q (fun b => Result.ok (Next.value (.bool b)) w)) hS ?_
        (try simp only [Act.put, List.getElem_toArray, List.getElem_cons_succ, List.getElem_cons_zero, List.setIfInBounds_toArray, List.set_cons_zero, List.set_cons_succ])
        refine wpAnyG_step (i := 1) rfl (by kernel_rfl) rfl (fun K hK => ?_)
        go_simp
        refine (text_call p HPO.out _ (HE.out.later HB.out)).mono ?_
        rintro e x1 ⟨rfl, hb⟩
        replace HB := Lib.hid (bl HB.out HB.out.size hb)
        refine hK.out _ _ ⟨hS.1.later hb, hS.2.later hb⟩ (fun hS => ?_)
        clear hK K hb
        (try simp only [Act.put, List.getElem_toArray, List.getElem_cons_succ, List.getElem_cons_zero, List.setIfInBounds_toArray, List.set_cons_zero, List.set_cons_succ])
        refine wpAnyG_step (i := 3) rfl (by kernel_rfl) rfl (fun K hK => ?_)
        go_simp
        refine (text_call q HQO.out _ (HE.out.later HB.out)).mono ?_
        rintro e x3 ⟨rfl, hb⟩
        replace HB := Lib.hid (bl HB.out HB.out.size hb)
        refine hK.out _ _ ⟨hS.1.later hb, hS.2.later hb⟩ (fun hS => ?_)
        clear hK K hb
        (try simp only [Act.put, List.getElem_toArray, List.getElem_cons_succ, List.getElem_cons_zero, List.setIfInBounds_toArray, List.set_cons_zero, List.set_cons_succ])
        refine wpAnyG_take (i := 4) (v := .bool (sameB p q)) rfl (by kernel_rfl) (by kernel_rfl) (by kernel_rfl) (by kernel_rfl) (by kernel_rfl) (by kernel_rfl) (fun _ _ _ h => h) rfl (by intro w _; go_simp; rw [tS_eq HPO.out HQO.out]) hS ?_
        (try simp only [Act.put, List.getElem_toArray, List.getElem_cons_succ, List.getElem_cons_zero, List.setIfInBounds_toArray, List.set_cons_zero, List.set_cons_succ])
        refine wpAnyG_take (i := 8) (v := .bool true) rfl (by kernel_rfl) (by kernel_rfl) (by kernel_rfl) (by kernel_rfl) (by kernel_rfl) (by kernel_rfl) (fun _ _ _ h => h) rfl (by intro w _; go_simp) hS ?_
        (try simp only [Act.put, List.getElem_toArray, List.getElem_cons_succ, List.getElem_cons_zero, List.setIfInBounds_toArray, List.set_cons_zero, List.set_cons_succ])
        refine wpAnyG_take (i := 9) rfl (by kernel_rfl) (by kernel_rfl) (by kernel_rfl) (by kernel_rfl) (by kernel_rfl) (by kernel_rfl) (fun _ _ _ h => h) rfl (by intro w _; go_simp; rfl) hS ?_
        (try simp only [Act.put, List.getElem_toArray, List.getElem_cons_succ, List.getElem_cons_zero, List.setIfInBounds_toArray, List.set_cons_zero, List.set_cons_succ])
        refine wpAnyU_switch (S' := fun w' => OpB w' b4 p ∧ OpB w' (b4 + 1) q) (D' := [10, 11, 12, 13, 14, 15, 16, 17, 18, 19, 20, 21]) (by kernel_rfl) ?_
        refine wpAnyG_take (i := 10) rfl (by kernel_rfl) (by kernel_rfl) (by kernel_rfl) (by kernel_rfl) (by kernel_rfl) (by kernel_rfl) (fun _ _ _ h => h) rfl (by rintro w ⟨g4, g5⟩; obtain ⟨c0, c1, c2, c3, c4, c5⟩ := op_cells g4; go_simp; rfl) hS ?_
        (try simp only [Act.put, List.getElem_toArray, List.getElem_cons_succ, List.getElem_cons_zero, List.setIfInBounds_toArray, List.set_cons_zero, List.set_cons_succ])
        refine wpAnyG_take (i := 14) rfl (by kernel_rfl) (by kernel_rfl) (by kernel_rfl) (by kernel_rfl) (by kernel_rfl) (by kernel_rfl) (fun _ _ _ h => h) rfl (by rintro w ⟨g4, g5⟩; obtain ⟨c0, c1, c2, c3, c4, c5⟩ := op_cells g5; go_simp; rfl) hS ?_
        (try simp only [Act.put, List.getElem_toArray, List.getElem_cons_succ, List.getElem_cons_zero, List.setIfInBounds_toArray, List.set_cons_zero, List.set_cons_succ])
        refine wpAnyG_take (i := 19) rfl (by kernel_rfl) (by kernel_rfl) (by kernel_rfl) (by kernel_rfl) (by kernel_rfl) (by kernel_rfl) (fun _ _ _ h => h) rfl (by rintro w ⟨g4, g5⟩; obtain ⟨c0, c1, c2, c3, c4, c5⟩ := op_cells g4; go_simp; rfl) hS ?_
        (try simp only [Act.put, List.getElem_toArray, List.getElem_cons_succ, List.getElem_cons_zero, List.setIfInBounds_toArray, List.set_cons_zero, List.set_cons_succ])
        refine wpAnyG_take (i := 20) rfl (by kernel_rfl) (by kernel_rfl) (by kernel_rfl) (by kernel_rfl) (by kernel_rfl) (by kernel_rfl) (fun _ _ _ h => h) rfl (by rintro w ⟨g4, g5⟩; obtain ⟨c0, c1, c2, c3, c4, c5⟩ := op_cells g5; go_simp; rfl) hS ?_
        (try simp only [Act.put, List.getElem_toArray, List.getElem_cons_succ, List.getElem_cons_zero, List.setIfInBounds_toArray, List.set_cons_zero, List.set_cons_succ])
        refine wpAnyG_take (i := 21) (v := .bool (sameB p q)) rfl (by kernel_rfl) (by kernel_rfl) (by kernel_rfl) (by kernel_rfl) (by kernel_rfl) (by kernel_rfl) (fun _ _ _ h => h) rfl (by intro w _; go_simp; exact ite6 p q (fun b => Result.ok (Next.value (.bool b)) w)) hS ?_
        (try simp only [Act.put, List.getElem_toArray, List.getElem_cons_succ, List.getElem_cons_zero, List.setIfInBounds_toArray, List.set_cons_zero, List.set_cons_succ])
        refine wpAnyG_two (i := 11) (j := 15) rfl rfl (by kernel_rfl) rfl rfl (fun K hK => ?_) (fun K hK => ?_)
        · go_simp
          refine hK.out _ _ ⟨Blk.alloc hS.1 _, Blk.alloc hS.2 _⟩ (fun hS => ?_)
          clear hK K
          (try simp only [Act.put, List.getElem_toArray, List.getElem_cons_succ, List.getElem_cons_zero, List.setIfInBounds_toArray, List.set_cons_zero, List.set_cons_succ])
          have HPp := Lib.hid (show OpB (x3.alloc (.cells p.cells 29)) x3.heap.size p from Blk.new x3 _ _)
          replace HB := Lib.hid (HB.out.alloc HB.out.size (.cells p.cells 29))
          show wpAnyU _ _ _ _ _ _ _ _ _ (x3.alloc (.cells p.cells 29))
          generalize (x3.alloc (.cells p.cells 29)) = y21 at hS HB HPp  ⊢
          generalize x3.heap.size = np at HPp ⊢
          refine wpAnyG_two (i := 12) (j := 15) rfl rfl (by kernel_rfl) rfl rfl (fun K hK => ?_) (fun K hK => ?_)
          · go_simp
            refine (bytes_one p HPO.out _ _ HPp.out).mono ?_
            rintro e y32 ⟨v1, rfl, ho, hb⟩
            have HO1 := Lib.hid ho
            replace HB := Lib.hid (bl HB.out HB.out.size hb)
            refine hK.out _ _ ⟨hS.1.later hb, hS.2.later hb⟩ (fun hS => ?_)
            clear hK K ho hb
            (try simp only [Act.put, List.getElem_toArray, List.getElem_cons_succ, List.getElem_cons_zero, List.setIfInBounds_toArray, List.set_cons_zero, List.set_cons_succ])
            refine wpAnyG_two (i := 13) (j := 15) rfl rfl (by kernel_rfl) rfl rfl (fun K hK => ?_) (fun K hK => ?_)
            · have hcv := conv_one HO1.out
              go_simp
              refine hK.out _ _ hS (fun hS => ?_)
              clear hK K hcv
              (try simp only [Act.put, List.getElem_toArray, List.getElem_cons_succ, List.getElem_cons_zero, List.setIfInBounds_toArray, List.set_cons_zero, List.set_cons_succ])
              refine wpAnyG_step (i := 15) rfl (by kernel_rfl) rfl (fun K hK => ?_)
              go_simp
              refine hK.out _ _ ⟨Blk.alloc hS.1 _, Blk.alloc hS.2 _⟩ (fun hS => ?_)
              clear hK K
              (try simp only [Act.put, List.getElem_toArray, List.getElem_cons_succ, List.getElem_cons_zero, List.setIfInBounds_toArray, List.set_cons_zero, List.set_cons_succ])
              have HQq := Lib.hid (show OpB (y32.alloc (.cells q.cells 29)) y32.heap.size q from Blk.new y32 _ _)
              replace HB := Lib.hid (HB.out.alloc HB.out.size (.cells q.cells 29))
              show wpAnyU _ _ _ _ _ _ _ _ _ (y32.alloc (.cells q.cells 29))
              generalize (y32.alloc (.cells q.cells 29)) = y4 at hS HB HQq  ⊢
              generalize y32.heap.size = nq at HQq ⊢
              refine wpAnyG_step (i := 16) rfl (by kernel_rfl) rfl (fun K hK => ?_)
              go_simp
              refine (bytes_one q HQO.out _ _ HQq.out).mono ?_
              rintro e y5 ⟨v2, rfl, ho, hb⟩
              have HO2 := Lib.hid ho
              replace HB := Lib.hid (bl HB.out HB.out.size hb)
              refine hK.out _ _ ⟨hS.1.later hb, hS.2.later hb⟩ (fun hS => ?_)
              clear hK K ho hb
              (try simp only [Act.put, List.getElem_toArray, List.getElem_cons_succ, List.getElem_cons_zero, List.setIfInBounds_toArray, List.set_cons_zero, List.set_cons_succ])
              refine wpAnyG_step (i := 17) rfl (by kernel_rfl) rfl (fun K hK => ?_)
              have hcv := conv_one HO2.out
              go_simp
              refine hK.out _ _ hS (fun hS => ?_)
              clear hK K hcv
              (try simp only [Act.put, List.getElem_toArray, List.getElem_cons_succ, List.getElem_cons_zero, List.setIfInBounds_toArray, List.set_cons_zero, List.set_cons_succ])
              refine wpAnyG_step (i := 18) rfl (by kernel_rfl) rfl (fun K hK => ?_)
              go_simp
              rw [bS_eq HPO.out HQO.out]
              refine hK.out _ _ hS (fun hS => ?_)
              clear hK K
              (try simp only [Act.put, List.getElem_toArray, List.getElem_cons_succ, List.getElem_cons_zero, List.setIfInBounds_toArray, List.set_cons_zero, List.set_cons_succ])
              refine wpAnyU_rest _ 22 6 rfl rfl (by kernel_rfl) (by kernel_rfl) ?_
              simp only [List.drop_succ_cons, List.drop_zero]
              have hqq : (sameB p q == sameB p q) = true := by simp
              go_wp2_with fail
              refine (awake27_any _ (HE.out.later HB.out)).mono ?_
              rintro e w9 ⟨rfl, hb9⟩
              have HB9 := Lib.hid (bl HB.out HB.out.size hb9)
              clear hb9
              go_wp2
              go_ret
              exact ⟨rfl, HB9.out⟩
            · go_simp
              refine hK.out _ _ ⟨Blk.alloc hS.1 _, Blk.alloc hS.2 _⟩ (fun hS => ?_)
              clear hK K
              (try simp only [Act.put, List.getElem_toArray, List.getElem_cons_succ, List.getElem_cons_zero, List.setIfInBounds_toArray, List.set_cons_zero, List.set_cons_succ])
              have HQq := Lib.hid (show OpB (y32.alloc (.cells q.cells 29)) y32.heap.size q from Blk.new y32 _ _)
              replace HO1 := Lib.hid (HO1.out.alloc (.cells q.cells 29))
              replace HB := Lib.hid (HB.out.alloc HB.out.size (.cells q.cells 29))
              show wpAnyU _ _ _ _ _ _ _ _ _ (y32.alloc (.cells q.cells 29))
              generalize (y32.alloc (.cells q.cells 29)) = y85 at hS HB HQq HO1 ⊢
              generalize y32.heap.size = nq at HQq ⊢
              refine wpAnyG_two (i := 13) (j := 16) rfl rfl (by kernel_rfl) rfl rfl (fun K hK => ?_) (fun K hK => ?_)
              · have hcv := conv_one HO1.out
                go_simp
                refine hK.out _ _ hS (fun hS => ?_)
                clear hK K hcv
                (try simp only [Act.put, List.getElem_toArray, List.getElem_cons_succ, List.getElem_cons_zero, List.setIfInBounds_toArray, List.set_cons_zero, List.set_cons_succ])
                refine wpAnyG_step (i := 16) rfl (by kernel_rfl) rfl (fun K hK => ?_)
                go_simp
                refine (bytes_one q HQO.out _ _ HQq.out).mono ?_
                rintro e y9 ⟨v2, rfl, ho, hb⟩
                have HO2 := Lib.hid ho
                replace HB := Lib.hid (bl HB.out HB.out.size hb)
                refine hK.out _ _ ⟨hS.1.later hb, hS.2.later hb⟩ (fun hS => ?_)
                clear hK K ho hb
                (try simp only [Act.put, List.getElem_toArray, List.getElem_cons_succ, List.getElem_cons_zero, List.setIfInBounds_toArray, List.set_cons_zero, List.set_cons_succ])
                refine wpAnyG_step (i := 17) rfl (by kernel_rfl) rfl (fun K hK => ?_)
                have hcv := conv_one HO2.out
                go_simp
                refine hK.out _ _ hS (fun hS => ?_)
                clear hK K hcv
                (try simp only [Act.put, List.getElem_toArray, List.getElem_cons_succ, List.getElem_cons_zero, List.setIfInBounds_toArray, List.set_cons_zero, List.set_cons_succ])
                refine wpAnyG_step (i := 18) rfl (by kernel_rfl) rfl (fun K hK => ?_)
                go_simp
                rw [bS_eq HPO.out HQO.out]
                refine hK.out _ _ hS (fun hS => ?_)
                clear hK K
                (try simp only [Act.put, List.getElem_toArray, List.getElem_cons_succ, List.getElem_cons_zero, List.setIfInBounds_toArray, List.set_cons_zero, List.set_cons_succ])
                refine wpAnyU_rest _ 22 6 rfl rfl (by kernel_rfl) (by kernel_rfl) ?_
                simp only [List.drop_succ_cons, List.drop_zero]
                have hqq : (sameB p q == sameB p q) = true := by simp
                go_wp2_with fail
                refine (awake27_any _ (HE.out.later HB.out)).mono ?_
                rintro e w9 ⟨rfl, hb9⟩
                have HB9 := Lib.hid (bl HB.out HB.out.size hb9)
                clear hb9
                go_wp2
                go_ret
                exact ⟨rfl, HB9.out⟩
              · go_simp
                refine (bytes_one q HQO.out _ _ HQq.out).mono ?_
                rintro e y126 ⟨v2, rfl, ho, hb⟩
                have HO2 := Lib.hid ho
                replace HO1 := Lib.hid (own_later HO1.out hb)
                replace HB := Lib.hid (bl HB.out HB.out.size hb)
                refine hK.out _ _ ⟨hS.1.later hb, hS.2.later hb⟩ (fun hS => ?_)
                clear hK K ho hb
                (try simp only [Act.put, List.getElem_toArray, List.getElem_cons_succ, List.getElem_cons_zero, List.setIfInBounds_toArray, List.set_cons_zero, List.set_cons_succ])
                refine wpAnyG_two (i := 13) (j := 17) rfl rfl (by kernel_rfl) rfl rfl (fun K hK => ?_) (fun K hK => ?_)
                · have hcv := conv_one HO1.out
                  go_simp
                  refine hK.out _ _ hS (fun hS => ?_)
                  clear hK K hcv
                  (try simp only [Act.put, List.getElem_toArray, List.getElem_cons_succ, List.getElem_cons_zero, List.setIfInBounds_toArray, List.set_cons_zero, List.set_cons_succ])
                  refine wpAnyG_step (i := 17) rfl (by kernel_rfl) rfl (fun K hK => ?_)
                  have hcv := conv_one HO2.out
                  go_simp
                  refine hK.out _ _ hS (fun hS => ?_)
                  clear hK K hcv
                  (try simp only [Act.put, List.getElem_toArray, List.getElem_cons_succ, List.getElem_cons_zero, List.setIfInBounds_toArray, List.set_cons_zero, List.set_cons_succ])
                  refine wpAnyG_step (i := 18) rfl (by kernel_rfl) rfl (fun K hK => ?_)
                  go_simp
                  rw [bS_eq HPO.out HQO.out]
                  refine hK.out _ _ hS (fun hS => ?_)
                  clear hK K
                  (try simp only [Act.put, List.getElem_toArray, List.getElem_cons_succ, List.getElem_cons_zero, List.setIfInBounds_toArray, List.set_cons_zero, List.set_cons_succ])
                  refine wpAnyU_rest _ 22 6 rfl rfl (by kernel_rfl) (by kernel_rfl) ?_
                  simp only [List.drop_succ_cons, List.drop_zero]
                  have hqq : (sameB p q == sameB p q) = true := by simp
                  go_wp2_with fail
                  refine (awake27_any _ (HE.out.later HB.out)).mono ?_
                  rintro e w9 ⟨rfl, hb9⟩
                  have HB9 := Lib.hid (bl HB.out HB.out.size hb9)
                  clear hb9
                  go_wp2
                  go_ret
                  exact ⟨rfl, HB9.out⟩
                · have hcv := conv_one HO2.out
                  go_simp
                  refine hK.out _ _ hS (fun hS => ?_)
                  clear hK K hcv
                  (try simp only [Act.put, List.getElem_toArray, List.getElem_cons_succ, List.getElem_cons_zero, List.setIfInBounds_toArray, List.set_cons_zero, List.set_cons_succ])
                  refine wpAnyG_step (i := 13) rfl (by kernel_rfl) rfl (fun K hK => ?_)
                  have hcv := conv_one HO1.out
                  go_simp
                  refine hK.out _ _ hS (fun hS => ?_)
                  clear hK K hcv
                  (try simp only [Act.put, List.getElem_toArray, List.getElem_cons_succ, List.getElem_cons_zero, List.setIfInBounds_toArray, List.set_cons_zero, List.set_cons_succ])
                  refine wpAnyG_step (i := 18) rfl (by kernel_rfl) rfl (fun K hK => ?_)
                  go_simp
                  rw [bS_eq HPO.out HQO.out]
                  refine hK.out _ _ hS (fun hS => ?_)
                  clear hK K
                  (try simp only [Act.put, List.getElem_toArray, List.getElem_cons_succ, List.getElem_cons_zero, List.setIfInBounds_toArray, List.set_cons_zero, List.set_cons_succ])
                  refine wpAnyU_rest _ 22 6 rfl rfl (by kernel_rfl) (by kernel_rfl) ?_
                  simp only [List.drop_succ_cons, List.drop_zero]
                  have hqq : (sameB p q == sameB p q) = true := by simp
                  go_wp2_with fail
                  refine (awake27_any _ (HE.out.later HB.out)).mono ?_
                  rintro e w9 ⟨rfl, hb9⟩
                  have HB9 := Lib.hid (bl HB.out HB.out.size hb9)
                  clear hb9
                  go_wp2
                  go_ret
                  exact ⟨rfl, HB9.out⟩
          · go_simp
            refine hK.out _ _ ⟨Blk.alloc hS.1 _, Blk.alloc hS.2 _⟩ (fun hS => ?_)
            clear hK K
            (try simp only [Act.put, List.getElem_toArray, List.getElem_cons_succ, List.getElem_cons_zero, List.setIfInBounds_toArray, List.set_cons_zero, List.set_cons_succ])
            have HQq := Lib.hid (show OpB (y21.alloc (.cells q.cells 29)) y21.heap.size q from Blk.new y21 _ _)
            replace HPp := Lib.hid (show OpB _ _ _ from Blk.alloc HPp.out (.cells q.cells 29))
            replace HB := Lib.hid (HB.out.alloc HB.out.size (.cells q.cells 29))
            show wpAnyU _ _ _ _ _ _ _ _ _ (y21.alloc (.cells q.cells 29))
            generalize (y21.alloc (.cells q.cells 29)) = y175 at hS HB HQq HPp ⊢
            generalize y21.heap.size = nq at HQq ⊢
            refine wpAnyG_step (i := 12) rfl (by kernel_rfl) rfl (fun K hK => ?_)
            go_simp
            refine (bytes_one p HPO.out _ _ HPp.out).mono ?_
            rintro e y17 ⟨v1, rfl, ho, hb⟩
            have HO1 := Lib.hid ho
            replace HQq := Lib.hid (OpB.later HQq.out hb)
            replace HB := Lib.hid (bl HB.out HB.out.size hb)
            refine hK.out _ _ ⟨hS.1.later hb, hS.2.later hb⟩ (fun hS => ?_)
            clear hK K ho hb
            (try simp only [Act.put, List.getElem_toArray, List.getElem_cons_succ, List.getElem_cons_zero, List.setIfInBounds_toArray, List.set_cons_zero, List.set_cons_succ])
            refine wpAnyG_two (i := 13) (j := 16) rfl rfl (by kernel_rfl) rfl rfl (fun K hK => ?_) (fun K hK => ?_)
            · have hcv := conv_one HO1.out
              go_simp
              refine hK.out _ _ hS (fun hS => ?_)
              clear hK K hcv
              (try simp only [Act.put, List.getElem_toArray, List.getElem_cons_succ, List.getElem_cons_zero, List.setIfInBounds_toArray, List.set_cons_zero, List.set_cons_succ])
              refine wpAnyG_step (i := 16) rfl (by kernel_rfl) rfl (fun K hK => ?_)
              go_simp
              refine (bytes_one q HQO.out _ _ HQq.out).mono ?_
              rintro e y19 ⟨v2, rfl, ho, hb⟩
              have HO2 := Lib.hid ho
              replace HB := Lib.hid (bl HB.out HB.out.size hb)
              refine hK.out _ _ ⟨hS.1.later hb, hS.2.later hb⟩ (fun hS => ?_)
              clear hK K ho hb
              (try simp only [Act.put, List.getElem_toArray, List.getElem_cons_succ, List.getElem_cons_zero, List.setIfInBounds_toArray, List.set_cons_zero, List.set_cons_succ])
              refine wpAnyG_step (i := 17) rfl (by kernel_rfl) rfl (fun K hK => ?_)
              have hcv := conv_one HO2.out
              go_simp
              refine hK.out _ _ hS (fun hS => ?_)
              clear hK K hcv
              (try simp only [Act.put, List.getElem_toArray, List.getElem_cons_succ, List.getElem_cons_zero, List.setIfInBounds_toArray, List.set_cons_zero, List.set_cons_succ])
              refine wpAnyG_step (i := 18) rfl (by kernel_rfl) rfl (fun K hK => ?_)
              go_simp
              rw [bS_eq HPO.out HQO.out]
              refine hK.out _ _ hS (fun hS => ?_)
              clear hK K
              (try simp only [Act.put, List.getElem_toArray, List.getElem_cons_succ, List.getElem_cons_zero, List.setIfInBounds_toArray, List.set_cons_zero, List.set_cons_succ])
              refine wpAnyU_rest _ 22 6 rfl rfl (by kernel_rfl) (by kernel_rfl) ?_
              simp only [List.drop_succ_cons, List.drop_zero]
              have hqq : (sameB p q == sameB p q) = true := by simp
              go_wp2_with fail
              refine (awake27_any _ (HE.out.later HB.out)).mono ?_
              rintro e w9 ⟨rfl, hb9⟩
              have HB9 := Lib.hid (bl HB.out HB.out.size hb9)
              clear hb9
              go_wp2
              go_ret
              exact ⟨rfl, HB9.out⟩
            · go_simp
              refine (bytes_one q HQO.out _ _ HQq.out).mono ?_
              rintro e y226 ⟨v2, rfl, ho, hb⟩
              have HO2 := Lib.hid ho
              replace HO1 := Lib.hid (own_later HO1.out hb)
              replace HB := Lib.hid (bl HB.out HB.out.size hb)
              refine hK.out _ _ ⟨hS.1.later hb, hS.2.later hb⟩ (fun hS => ?_)
              clear hK K ho hb
              (try simp only [Act.put, List.getElem_toArray, List.getElem_cons_succ, List.getElem_cons_zero, List.setIfInBounds_toArray, List.set_cons_zero, List.set_cons_succ])
              refine wpAnyG_two (i := 13) (j := 17) rfl rfl (by kernel_rfl) rfl rfl (fun K hK => ?_) (fun K hK => ?_)
              · have hcv := conv_one HO1.out
                go_simp
                refine hK.out _ _ hS (fun hS => ?_)
                clear hK K hcv
                (try simp only [Act.put, List.getElem_toArray, List.getElem_cons_succ, List.getElem_cons_zero, List.setIfInBounds_toArray, List.set_cons_zero, List.set_cons_succ])
                refine wpAnyG_step (i := 17) rfl (by kernel_rfl) rfl (fun K hK => ?_)
                have hcv := conv_one HO2.out
                go_simp
                refine hK.out _ _ hS (fun hS => ?_)
                clear hK K hcv
                (try simp only [Act.put, List.getElem_toArray, List.getElem_cons_succ, List.getElem_cons_zero, List.setIfInBounds_toArray, List.set_cons_zero, List.set_cons_succ])
                refine wpAnyG_step (i := 18) rfl (by kernel_rfl) rfl (fun K hK => ?_)
                go_simp
                rw [bS_eq HPO.out HQO.out]
                refine hK.out _ _ hS (fun hS => ?_)
                clear hK K
                (try simp only [Act.put, List.getElem_toArray, List.getElem_cons_succ, List.getElem_cons_zero, List.setIfInBounds_toArray, List.set_cons_zero, List.set_cons_succ])
                refine wpAnyU_rest _ 22 6 rfl rfl (by kernel_rfl) (by kernel_rfl) ?_
                simp only [List.drop_succ_cons, List.drop_zero]
                have hqq : (sameB p q == sameB p q) = true := by simp
                go_wp2_with fail
                refine (awake27_any _ (HE.out.later HB.out)).mono ?_
                rintro e w9 ⟨rfl, hb9⟩
                have HB9 := Lib.hid (bl HB.out HB.out.size hb9)
                clear hb9
                go_wp2
                go_ret
                exact ⟨rfl, HB9.out⟩
              · have hcv := conv_one HO2.out
                go_simp
                refine hK.out _ _ hS (fun hS => ?_)
                clear hK K hcv
                (try simp only [Act.put, List.getElem_toArray, List.getElem_cons_succ, List.getElem_cons_zero, List.setIfInBounds_toArray, List.set_cons_zero, List.set_cons_succ])
                refine wpAnyG_step (i := 13) rfl (by kernel_rfl) rfl (fun K hK => ?_)
                have hcv := conv_one HO1.out
                go_simp
                refine hK.out _ _ hS (fun hS => ?_)
                clear hK K hcv
                (try simp only [Act.put, List.getElem_toArray, List.getElem_cons_succ, List.getElem_cons_zero, List.setIfInBounds_toArray, List.set_cons_zero, List.set_cons_succ])
                refine wpAnyG_step (i := 18) rfl (by kernel_rfl) rfl (fun K hK => ?_)
                go_simp
                rw [bS_eq HPO.out HQO.out]
                refine hK.out _ _ hS (fun hS => ?_)
                clear hK K
                (try simp only [Act.put, List.getElem_toArray, List.getElem_cons_succ, List.getElem_cons_zero, List.setIfInBounds_toArray, List.set_cons_zero, List.set_cons_succ])
                refine wpAnyU_rest _ 22 6 rfl rfl (by kernel_rfl) (by kernel_rfl) ?_
                simp only [List.drop_succ_cons, List.drop_zero]
                have hqq : (sameB p q == sameB p q) = true := by simp
                go_wp2_with fail
                refine (awake27_any _ (HE.out.later HB.out)).mono ?_
                rintro e w9 ⟨rfl, hb9⟩
                have HB9 := Lib.hid (bl HB.out HB.out.size hb9)
                clear hb9
                go_wp2
                go_ret
                exact ⟨rfl, HB9.out⟩
        · go_simp
          refine hK.out _ _ ⟨Blk.alloc hS.1 _, Blk.alloc hS.2 _⟩ (fun hS => ?_)
          clear hK K
          (try simp only [Act.put, List.getElem_toArray, List.getElem_cons_succ, List.getElem_cons_zero, List.setIfInBounds_toArray, List.set_cons_zero, List.set_cons_succ])
          have HQq := Lib.hid (show OpB (x3.alloc (.cells q.cells 29)) x3.heap.size q from Blk.new x3 _ _)
          replace HB := Lib.hid (HB.out.alloc HB.out.size (.cells q.cells 29))
          show wpAnyU _ _ _ _ _ _ _ _ _ (x3.alloc (.cells q.cells 29))
          generalize (x3.alloc (.cells q.cells 29)) = y275 at hS HB HQq  ⊢
          generalize x3.heap.size = nq at HQq ⊢
          refine wpAnyG_step (i := 11) rfl (by kernel_rfl) rfl (fun K hK => ?_)
          go_simp
          refine hK.out _ _ ⟨Blk.alloc hS.1 _, Blk.alloc hS.2 _⟩ (fun hS => ?_)
          clear hK K
          (try simp only [Act.put, List.getElem_toArray, List.getElem_cons_succ, List.getElem_cons_zero, List.setIfInBounds_toArray, List.set_cons_zero, List.set_cons_succ])
          have HPp := Lib.hid (show OpB (y275.alloc (.cells p.cells 29)) y275.heap.size p from Blk.new y275 _ _)
          replace HQq := Lib.hid (show OpB _ _ _ from Blk.alloc HQq.out (.cells p.cells 29))
          replace HB := Lib.hid (HB.out.alloc HB.out.size (.cells p.cells 29))
          show wpAnyU _ _ _ _ _ _ _ _ _ (y275.alloc (.cells p.cells 29))
          generalize (y275.alloc (.cells p.cells 29)) = y27 at hS HB HPp HQq ⊢
          generalize y275.heap.size = np at HPp ⊢
          refine wpAnyG_step (i := 12) rfl (by kernel_rfl) rfl (fun K hK => ?_)
          go_simp
          refine (bytes_one p HPO.out _ _ HPp.out).mono ?_
          rintro e y28 ⟨v1, rfl, ho, hb⟩
          have HO1 := Lib.hid ho
          replace HQq := Lib.hid (OpB.later HQq.out hb)
          replace HB := Lib.hid (bl HB.out HB.out.size hb)
          refine hK.out _ _ ⟨hS.1.later hb, hS.2.later hb⟩ (fun hS => ?_)
          clear hK K ho hb
          (try simp only [Act.put, List.getElem_toArray, List.getElem_cons_succ, List.getElem_cons_zero, List.setIfInBounds_toArray, List.set_cons_zero, List.set_cons_succ])
          refine wpAnyG_two (i := 13) (j := 16) rfl rfl (by kernel_rfl) rfl rfl (fun K hK => ?_) (fun K hK => ?_)
          · have hcv := conv_one HO1.out
            go_simp
            refine hK.out _ _ hS (fun hS => ?_)
            clear hK K hcv
            (try simp only [Act.put, List.getElem_toArray, List.getElem_cons_succ, List.getElem_cons_zero, List.setIfInBounds_toArray, List.set_cons_zero, List.set_cons_succ])
            refine wpAnyG_step (i := 16) rfl (by kernel_rfl) rfl (fun K hK => ?_)
            go_simp
            refine (bytes_one q HQO.out _ _ HQq.out).mono ?_
            rintro e y30 ⟨v2, rfl, ho, hb⟩
            have HO2 := Lib.hid ho
            replace HB := Lib.hid (bl HB.out HB.out.size hb)
            refine hK.out _ _ ⟨hS.1.later hb, hS.2.later hb⟩ (fun hS => ?_)
            clear hK K ho hb
            (try simp only [Act.put, List.getElem_toArray, List.getElem_cons_succ, List.getElem_cons_zero, List.setIfInBounds_toArray, List.set_cons_zero, List.set_cons_succ])
            refine wpAnyG_step (i := 17) rfl (by kernel_rfl) rfl (fun K hK => ?_)
            have hcv := conv_one HO2.out
            go_simp
            refine hK.out _ _ hS (fun hS => ?_)
            clear hK K hcv
            (try simp only [Act.put, List.getElem_toArray, List.getElem_cons_succ, List.getElem_cons_zero, List.setIfInBounds_toArray, List.set_cons_zero, List.set_cons_succ])
            refine wpAnyG_step (i := 18) rfl (by kernel_rfl) rfl (fun K hK => ?_)
            go_simp
            rw [bS_eq HPO.out HQO.out]
            refine hK.out _ _ hS (fun hS => ?_)
            clear hK K
            (try simp only [Act.put, List.getElem_toArray, List.getElem_cons_succ, List.getElem_cons_zero, List.setIfInBounds_toArray, List.set_cons_zero, List.set_cons_succ])
            refine wpAnyU_rest _ 22 6 rfl rfl (by kernel_rfl) (by kernel_rfl) ?_
            simp only [List.drop_succ_cons, List.drop_zero]
            have hqq : (sameB p q == sameB p q) = true := by simp
            go_wp2_with fail
            refine (awake27_any _ (HE.out.later HB.out)).mono ?_
            rintro e w9 ⟨rfl, hb9⟩
            have HB9 := Lib.hid (bl HB.out HB.out.size hb9)
            clear hb9
            go_wp2
            go_ret
            exact ⟨rfl, HB9.out⟩
          · go_simp
            refine (bytes_one q HQO.out _ _ HQq.out).mono ?_
            rintro e y336 ⟨v2, rfl, ho, hb⟩
            have HO2 := Lib.hid ho
            replace HO1 := Lib.hid (own_later HO1.out hb)
            replace HB := Lib.hid (bl HB.out HB.out.size hb)
            refine hK.out _ _ ⟨hS.1.later hb, hS.2.later hb⟩ (fun hS => ?_)
            clear hK K ho hb
            (try simp only [Act.put, List.getElem_toArray, List.getElem_cons_succ, List.getElem_cons_zero, List.setIfInBounds_toArray, List.set_cons_zero, List.set_cons_succ])
            refine wpAnyG_two (i := 13) (j := 17) rfl rfl (by kernel_rfl) rfl rfl (fun K hK => ?_) (fun K hK => ?_)
            · have hcv := conv_one HO1.out
              go_simp
              refine hK.out _ _ hS (fun hS => ?_)
              clear hK K hcv
              (try simp only [Act.put, List.getElem_toArray, List.getElem_cons_succ, List.getElem_cons_zero, List.setIfInBounds_toArray, List.set_cons_zero, List.set_cons_succ])
              refine wpAnyG_step (i := 17) rfl (by kernel_rfl) rfl (fun K hK => ?_)
              have hcv := conv_one HO2.out
              go_simp
              refine hK.out _ _ hS (fun hS => ?_)
              clear hK K hcv
              (try simp only [Act.put, List.getElem_toArray, List.getElem_cons_succ, List.getElem_cons_zero, List.setIfInBounds_toArray, List.set_cons_zero, List.set_cons_succ])
              refine wpAnyG_step (i := 18) rfl (by kernel_rfl) rfl (fun K hK => ?_)
              go_simp
              rw [bS_eq HPO.out HQO.out]
              refine hK.out _ _ hS (fun hS => ?_)
              clear hK K
              (try simp only [Act.put, List.getElem_toArray, List.getElem_cons_succ, List.getElem_cons_zero, List.setIfInBounds_toArray, List.set_cons_zero, List.set_cons_succ])
              refine wpAnyU_rest _ 22 6 rfl rfl (by kernel_rfl) (by kernel_rfl) ?_
              simp only [List.drop_succ_cons, List.drop_zero]
              have hqq : (sameB p q == sameB p q) = true := by simp
              go_wp2_with fail
              refine (awake27_any _ (HE.out.later HB.out)).mono ?_
              rintro e w9 ⟨rfl, hb9⟩
              have HB9 := Lib.hid (bl HB.out HB.out.size hb9)
              clear hb9
              go_wp2
              go_ret
              exact ⟨rfl, HB9.out⟩
            · have hcv := conv_one HO2.out
              go_simp
              refine hK.out _ _ hS (fun hS => ?_)
              clear hK K hcv
              (try simp only [Act.put, List.getElem_toArray, List.getElem_cons_succ, List.getElem_cons_zero, List.setIfInBounds_toArray, List.set_cons_zero, List.set_cons_succ])
              refine wpAnyG_step (i := 13) rfl (by kernel_rfl) rfl (fun K hK => ?_)
              have hcv := conv_one HO1.out
              go_simp
              refine hK.out _ _ hS (fun hS => ?_)
              clear hK K hcv
              (try simp only [Act.put, List.getElem_toArray, List.getElem_cons_succ, List.getElem_cons_zero, List.setIfInBounds_toArray, List.set_cons_zero, List.set_cons_succ])
              refine wpAnyG_step (i := 18) rfl (by kernel_rfl) rfl (fun K hK => ?_)
              go_simp
              rw [bS_eq HPO.out HQO.out]
              refine hK.out _ _ hS (fun hS => ?_)
              clear hK K
              (try simp only [Act.put, List.getElem_toArray, List.getElem_cons_succ, List.getElem_cons_zero, List.setIfInBounds_toArray, List.set_cons_zero, List.set_cons_succ])
              refine wpAnyU_rest _ 22 6 rfl rfl (by kernel_rfl) (by kernel_rfl) ?_
              simp only [List.drop_succ_cons, List.drop_zero]
              have hqq : (sameB p q == sameB p q) = true := by simp
              go_wp2_with fail
              refine (awake27_any _ (HE.out.later HB.out)).mono ?_
              rintro e w9 ⟨rfl, hb9⟩
              have HB9 := Lib.hid (bl HB.out HB.out.size hb9)
              clear hb9
              go_wp2
              go_ret
              exact ⟨rfl, HB9.out⟩
end Go.Proofs.YtokpgopdkimmmaaDoor
