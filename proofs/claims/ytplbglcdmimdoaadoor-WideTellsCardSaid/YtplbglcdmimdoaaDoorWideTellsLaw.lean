/- WideTells: the walk. -/
import Derived.Test.YtplbglcdmimdoaaDoorRefParse
import Derived.Test.YtplbglcdmimdoaaDoorRefText
namespace Go.Proofs.YtplbglcdmimdoaaDoor
open Go.RowKit
set_option linter.unusedVariables false
set_option linter.unusedSimpArgs false

/-- What is asked besides, in a box. -/
def XB (W : World) (b : Nat) (n m i j : Int) (s : ByteArray) : Prop := b < W.heap.size ∧ W.cell? ⟨b, 0, none⟩ = some (.int .u64 n) ∧ W.cell? ⟨b, 1, none⟩ = some (.int .u64 m) ∧ W.cell? ⟨b, 2, none⟩ = some (.int .i64 i) ∧ W.cell? ⟨b, 3, none⟩ = some (.int .i64 j) ∧ W.cell? ⟨b, 4, none⟩ = some (.string s)
theorem XB.later {W W' : World} {b : Nat} {n m i j : Int} {s : ByteArray} (k : XB W b n m i j s) (hb : Below W.heap.size W W') : XB W' b n m i j s :=
  ⟨Nat.lt_of_lt_of_le k.1 hb.size, (hb.cell (p := ⟨b, 0, none⟩) k.1).trans k.2.1, (hb.cell (p := ⟨b, 1, none⟩) k.1).trans k.2.2.1, (hb.cell (p := ⟨b, 2, none⟩) k.1).trans k.2.2.2.1, (hb.cell (p := ⟨b, 3, none⟩) k.1).trans k.2.2.2.2.1, (hb.cell (p := ⟨b, 4, none⟩) k.1).trans k.2.2.2.2.2⟩
theorem XB.alloc {W : World} {b : Nat} {n m i j : Int} {s : ByteArray} (k : XB W b n m i j s) (o : Obj) : XB (W.alloc o) b n m i j s := k.later ((Below.refl _ _).alloc (Nat.le_refl _) o)
theorem box3x {w : World} {P : Program} {c : Code} {Q : Exit → Act → World → Prop} {a : Act} {ah al bh bl n m i j : Int} {s : ByteArray} {tx ty tz : TypeId} (h : ∀ W, Below w.heap.size w W → WB W w.heap.size ah al → WB W (w.heap.size + 1) bh bl → XB W (w.heap.size + 1 + 1) n m i j s → c.wp P Q a W) :
    c.wp P Q a (((w.alloc (.cells #[.int .u64 ah, .int .u64 al] tx)).alloc (.cells #[.int .u64 bh, .int .u64 bl] ty)).alloc (.cells #[.int .u64 n, .int .u64 m, .int .i64 i, .int .i64 j, .string s] tz)) :=
  from_box3 fun W h1 h2 h3 => h W h1.below ⟨h1.lt, h1.cell 0, h1.cell 1⟩ ⟨h2.lt, h2.cell 0, h2.cell 1⟩ ⟨h3.lt, h3.cell 0, h3.cell 1, h3.cell 2, h3.cell 3, h3.cell 4⟩
abbrev askV (n m i j : Int) (s : ByteArray) : Value := .agg #[.int .u64 n, .int .u64 m, .int .i64 i, .int .i64 j, .string s]
set_option maxRecDepth 100000 in
set_option maxHeartbeats 4000000 in
theorem WideTells_way (pa qa pb qb pc qc pd qd pv qv pm qm n m i j cr er dd : Int) (ok fine : Bool) (s xs : ByteArray) (hs : s.size ≤ 60)
    (A1 : Hid (∀ w, Calls Tryd.prog 11 #[W2 pa qa, W2 pb qb] w fun e w' => e = .returned (.tuple #[W2 pc qc, .bool ok]) ∧ Below w.heap.size w w')) (A2 : Hid (∀ w, Calls Tryd.prog 25 #[W2 pa qa, W2 pb qb] w fun e w' => e = .returned (.tuple #[W2 pc qc, .bool ok]) ∧ Below w.heap.size w w'))
    (S1 : Hid (∀ w, Calls Tryd.prog 24 #[W2 pa qa, W2 pb qb] w fun e w' => e = .returned (.tuple #[W2 pd qd, .bool fine]) ∧ Below w.heap.size w w')) (S2 : Hid (∀ w, Calls Tryd.prog 26 #[W2 pa qa, W2 pb qb] w fun e w' => e = .returned (.tuple #[W2 pd qd, .bool fine]) ∧ Below w.heap.size w w'))
    (CM : Hid (∀ w, Calls Tryd.prog 27 #[W2 pa qa, W2 pb qb] w fun e w' => e = .returned (.int .i64 cr) ∧ Below w.heap.size w w')) (RC : Hid (∀ w, Calls Tryd.prog 28 #[W2 pa qa, W2 pb qb] w fun e w' => e = .returned (.int .i64 cr) ∧ Below w.heap.size w w')) (OF : Hid (∀ w, Calls Tryd.prog 13 #[.int .u64 n] w fun e w' => e = .returned (W2 0 n) ∧ Below w.heap.size w w'))
    (P1 : Hid (∀ w, Calls Tryd.prog 29 #[.string s] w fun e w' => e = .returned (.tuple #[W2 pv qv, .int .i64 er]) ∧ Below w.heap.size w w')) (P2 : Hid (∀ w, Calls Tryd.prog 30 #[.string s] w fun e w' => e = .returned (.tuple #[W2 pv qv, .int .i64 er]) ∧ Below w.heap.size w w'))
    (M1 : Hid (∀ w, Calls Tryd.prog 23 #[.int .u64 n, .int .u64 m] w fun e w' => e = .returned (W2 pm qm) ∧ Below w.heap.size w w')) (M2 : Hid (∀ w, Calls Tryd.prog 31 #[.int .u64 n, .int .u64 m] w fun e w' => e = .returned (W2 pm qm) ∧ Below w.heap.size w w'))
    (D1 : Hid (∀ w, Calls Tryd.prog 14 #[.int .i64 i, .int .i64 j] w fun e w' => e = .returned (.int .u64 dd) ∧ w = w')) (D2 : Hid (∀ w, Calls Tryd.prog 32 #[.int .i64 i, .int .i64 j] w fun e w' => e = .returned (.int .u64 dd) ∧ Below w.heap.size w w'))
    (T1 : Hid (∀ w, Lib.TabIs Tryd.prog w "internal/strconv.uint64pow10" .u64 Lib.pow10Tab → Calls Tryd.prog 33 #[W2 pa qa] w fun e w' => e = .returned (.string xs) ∧ Below w.heap.size w w')) (T2 : Hid (∀ w, Calls Tryd.prog 34 #[W2 pa qa] w fun e w' => e = .returned (.string xs) ∧ Below w.heap.size w w'))
    (w : World) (HT : Hid (Lib.TabIs Tryd.prog w "internal/strconv.uint64pow10" .u64 Lib.pow10Tab)) : Calls Tryd.prog 8 #[W2 pa qa, W2 pb qb, askV n m i j s] w fun e w' => e = .returned (.bool true) ∧ Below w.heap.size w w' := by
  go_enter Tryd.func8, Tryd.ntmps8
  go_upto_region 1 with (fail)
  refine box3x (fun V hB k3 k4 k5 => ?_)
  have HB := Lib.hid hB
  have K3 := Lib.hid k3
  have K4 := Lib.hid k4
  have K5 := Lib.hid k5
  clear k3 k4 k5 hB
  obtain ⟨b3, hb3⟩ : ∃ b, w.heap.size = b := ⟨_, rfl⟩
  rw [hb3] at K3 K4 K5 ⊢
  clear hb3
  obtain ⟨l3, c3, d3⟩ := K3.out
  obtain ⟨l4, c4, d4⟩ := K4.out
  obtain ⟨l5, c5, d5⟩ := K5.out
  go_wp2_with fail
  clear l3 c3 d3 l4 c4 d4 l5 c5 d5
  refine (A1.out _).mono ?_
  rintro e wl1 ⟨rfl, hb⟩
  go_upto_region 4 with (fail)
  replace K3 := Lib.hid ((K3.out.later hb).alloc (.cells #[.int .u64 pc, .int .u64 qc] 24))
  replace K4 := Lib.hid ((K4.out.later hb).alloc (.cells #[.int .u64 pc, .int .u64 qc] 24))
  replace K5 := Lib.hid ((K5.out.later hb).alloc (.cells #[.int .u64 pc, .int .u64 qc] 24))
  replace HB := Lib.hid (bla HB.out hb (.cells #[.int .u64 pc, .int .u64 qc] 24))
  have K7 := Lib.hid (WB.new wl1 pc qc 24)
  obtain ⟨b7, hbe⟩ : ∃ b, wl1.heap.size = b := ⟨_, rfl⟩
  rw [hbe] at K7 ⊢
  clear hb hbe
  generalize wl1.alloc (.cells #[.int .u64 pc, .int .u64 qc] 24) = vl1 at K3 K4 K5 K7 HB ⊢
  obtain ⟨l3, c3, d3⟩ := K3.out
  obtain ⟨l4, c4, d4⟩ := K4.out
  go_wp2_with fail
  clear l3 c3 d3 l4 c4 d4
  refine (A2.out _).mono ?_
  rintro e wl2 ⟨rfl, hb⟩
  go_upto_region 5 with (fail)
  replace K3 := Lib.hid ((K3.out.later hb).alloc (.cells #[.int .u64 pc, .int .u64 qc] 24))
  replace K4 := Lib.hid ((K4.out.later hb).alloc (.cells #[.int .u64 pc, .int .u64 qc] 24))
  replace K5 := Lib.hid ((K5.out.later hb).alloc (.cells #[.int .u64 pc, .int .u64 qc] 24))
  replace K7 := Lib.hid ((K7.out.later hb).alloc (.cells #[.int .u64 pc, .int .u64 qc] 24))
  replace HB := Lib.hid (bla HB.out hb (.cells #[.int .u64 pc, .int .u64 qc] 24))
  have K9 := Lib.hid (WB.new wl2 pc qc 24)
  obtain ⟨b9, hbe⟩ : ∃ b, wl2.heap.size = b := ⟨_, rfl⟩
  rw [hbe] at K9 ⊢
  clear hb hbe
  generalize wl2.alloc (.cells #[.int .u64 pc, .int .u64 qc] 24) = vl2 at K3 K4 K5 K7 K9 HB ⊢
  obtain ⟨l3, c3, d3⟩ := K3.out
  obtain ⟨l4, c4, d4⟩ := K4.out
  go_wp2_with fail
  clear l3 c3 d3 l4 c4 d4
  refine (S1.out _).mono ?_
  rintro e wl3 ⟨rfl, hb⟩
  go_upto_region 6 with (fail)
  replace K3 := Lib.hid ((K3.out.later hb).alloc (.cells #[.int .u64 pd, .int .u64 qd] 24))
  replace K4 := Lib.hid ((K4.out.later hb).alloc (.cells #[.int .u64 pd, .int .u64 qd] 24))
  replace K5 := Lib.hid ((K5.out.later hb).alloc (.cells #[.int .u64 pd, .int .u64 qd] 24))
  replace K7 := Lib.hid ((K7.out.later hb).alloc (.cells #[.int .u64 pd, .int .u64 qd] 24))
  replace K9 := Lib.hid ((K9.out.later hb).alloc (.cells #[.int .u64 pd, .int .u64 qd] 24))
  replace HB := Lib.hid (bla HB.out hb (.cells #[.int .u64 pd, .int .u64 qd] 24))
  have K11 := Lib.hid (WB.new wl3 pd qd 24)
  obtain ⟨b11, hbe⟩ : ∃ b, wl3.heap.size = b := ⟨_, rfl⟩
  rw [hbe] at K11 ⊢
  clear hb hbe
  generalize wl3.alloc (.cells #[.int .u64 pd, .int .u64 qd] 24) = vl3 at K3 K4 K5 K7 K9 K11 HB ⊢
  obtain ⟨l3, c3, d3⟩ := K3.out
  obtain ⟨l4, c4, d4⟩ := K4.out
  go_wp2_with fail
  clear l3 c3 d3 l4 c4 d4
  refine (S2.out _).mono ?_
  rintro e wl4 ⟨rfl, hb⟩
  go_upto_region 7 with (fail)
  replace K3 := Lib.hid ((K3.out.later hb).alloc (.cells #[.int .u64 pd, .int .u64 qd] 24))
  replace K4 := Lib.hid ((K4.out.later hb).alloc (.cells #[.int .u64 pd, .int .u64 qd] 24))
  replace K5 := Lib.hid ((K5.out.later hb).alloc (.cells #[.int .u64 pd, .int .u64 qd] 24))
  replace K7 := Lib.hid ((K7.out.later hb).alloc (.cells #[.int .u64 pd, .int .u64 qd] 24))
  replace K9 := Lib.hid ((K9.out.later hb).alloc (.cells #[.int .u64 pd, .int .u64 qd] 24))
  replace K11 := Lib.hid ((K11.out.later hb).alloc (.cells #[.int .u64 pd, .int .u64 qd] 24))
  replace HB := Lib.hid (bla HB.out hb (.cells #[.int .u64 pd, .int .u64 qd] 24))
  have K13 := Lib.hid (WB.new wl4 pd qd 24)
  obtain ⟨b13, hbe⟩ : ∃ b, wl4.heap.size = b := ⟨_, rfl⟩
  rw [hbe] at K13 ⊢
  clear hb hbe
  generalize wl4.alloc (.cells #[.int .u64 pd, .int .u64 qd] 24) = vl4 at K3 K4 K5 K7 K9 K11 K13 HB ⊢
  obtain ⟨l3, c3, d3⟩ := K3.out
  obtain ⟨l4, c4, d4⟩ := K4.out
  obtain ⟨l5, c5, d5⟩ := K5.out
  obtain ⟨l7, c7, d7⟩ := K7.out
  obtain ⟨l9, c9, d9⟩ := K9.out
  obtain ⟨l11, c11, d11⟩ := K11.out
  obtain ⟨l13, c13, d13⟩ := K13.out
  refine since_wp (fun s0 => ?_)
  refine wp_region_since (by kernel_rfl) (by kernel_rfl) ?_
  repeat (go_big_quiet_step ((first
      | (go_at_call 27; with_reducible exact since_quiet CM.out)
      | (go_at_call 28; with_reducible exact since_quiet RC.out)
      | (go_at_call 13; with_reducible exact since_quiet OF.out))))
  refine wpQuiet_nil ?_
  rintro _ ⟨s1, rfl⟩
  clear l3 c3 d3 l4 c4 d4 l5 c5 d5 l7 c7 d7 l9 c9 d9 l11 c11 d11 l13 c13 d13
  replace HB := Lib.hid (since_below HB.out s1 HB.out.size)
  replace K3 := Lib.hid (K3.out.later s1.h)
  replace K4 := Lib.hid (K4.out.later s1.h)
  replace K5 := Lib.hid (K5.out.later s1.h)
  clear K7 K9 K11 K13 s0 A1 A2 S1 S2 CM RC OF
  obtain ⟨U, hU⟩ : ∃ U, s1.w = U := ⟨_, rfl⟩
  rw [hU] at HB K3 K4 K5 ⊢
  clear hU s1
  clear vl4
  obtain ⟨l5, c5, d5⟩ := K5.out
  go_wp2_with fail
  clear l5 c5 d5
  refine (P1.out _).mono ?_
  rintro e wl5 ⟨rfl, hb⟩
  go_upto_region 10 with (fail)
  replace K3 := Lib.hid ((K3.out.later hb).alloc (.cells #[.int .u64 pv, .int .u64 qv] 24))
  replace K4 := Lib.hid ((K4.out.later hb).alloc (.cells #[.int .u64 pv, .int .u64 qv] 24))
  replace K5 := Lib.hid ((K5.out.later hb).alloc (.cells #[.int .u64 pv, .int .u64 qv] 24))
  replace HB := Lib.hid (bla HB.out hb (.cells #[.int .u64 pv, .int .u64 qv] 24))
  have K15 := Lib.hid (WB.new wl5 pv qv 24)
  obtain ⟨b15, hbe⟩ : ∃ b, wl5.heap.size = b := ⟨_, rfl⟩
  rw [hbe] at K15 ⊢
  clear hb hbe
  generalize wl5.alloc (.cells #[.int .u64 pv, .int .u64 qv] 24) = vl5 at K3 K4 K5 K15 HB ⊢
  obtain ⟨l5, c5, d5⟩ := K5.out
  go_wp2_with fail
  clear l5 c5 d5
  refine (P2.out _).mono ?_
  rintro e wl6 ⟨rfl, hb⟩
  go_upto_region 11 with (fail)
  replace K3 := Lib.hid ((K3.out.later hb).alloc (.cells #[.int .u64 pv, .int .u64 qv] 24))
  replace K4 := Lib.hid ((K4.out.later hb).alloc (.cells #[.int .u64 pv, .int .u64 qv] 24))
  replace K5 := Lib.hid ((K5.out.later hb).alloc (.cells #[.int .u64 pv, .int .u64 qv] 24))
  replace K15 := Lib.hid ((K15.out.later hb).alloc (.cells #[.int .u64 pv, .int .u64 qv] 24))
  replace HB := Lib.hid (bla HB.out hb (.cells #[.int .u64 pv, .int .u64 qv] 24))
  have K17 := Lib.hid (WB.new wl6 pv qv 24)
  obtain ⟨b17, hbe⟩ : ∃ b, wl6.heap.size = b := ⟨_, rfl⟩
  rw [hbe] at K17 ⊢
  clear hb hbe
  generalize wl6.alloc (.cells #[.int .u64 pv, .int .u64 qv] 24) = vl6 at K3 K4 K5 K15 K17 HB ⊢
  obtain ⟨l3, c3, d3⟩ := K3.out
  obtain ⟨l4, c4, d4⟩ := K4.out
  obtain ⟨l5, c5, d5⟩ := K5.out
  obtain ⟨l15, c15, d15⟩ := K15.out
  obtain ⟨l17, c17, d17⟩ := K17.out
  have HTV := Lib.hid (Tab64.later HT.out HB.out)
  have AW := fun s : Since vl6 => tab_quiet (P := Tryd.prog) (f := 12) (s := s) (T := fun w => Lib.TabIs Tryd.prog w "internal/strconv.uint64pow10" .u64 Lib.pow10Tab) HTV.out (fun w' h => Tab64.later HTV.out h) awake01_any
  have TX := fun s : Since vl6 => tab_quiet (P := Tryd.prog) (f := 33) (s := s) (T := fun w => Lib.TabIs Tryd.prog w "internal/strconv.uint64pow10" .u64 Lib.pow10Tab) HTV.out (fun w' h => Tab64.later HTV.out h) T1.out
  refine since_wp (fun s0 => ?_)
  refine wp_region_since (by kernel_rfl) (by kernel_rfl) ?_
  repeat (go_big_quiet_step ((first
      | (go_at_call 12; with_reducible exact AW _)
      | (go_at_call 33; with_reducible exact TX _)
      | (go_at_call 34; with_reducible exact since_quiet T2.out)
      | (go_at_call 23; with_reducible exact since_quiet M1.out)
      | (go_at_call 31; with_reducible exact since_quiet M2.out)
      | (go_at_call 14; with_reducible exact same_quiet D1.out)
      | (go_at_call 32; with_reducible exact since_quiet D2.out))))
  refine wpQuiet_nil ?_
  rintro _ ⟨s2, rfl⟩
  go_wp2
  go_ret
  exact ⟨rfl, since_below HB.out s2 HB.out.size⟩
set_option maxRecDepth 100000 in
theorem WideTells_long (pa qa pb qb n m i j : Int) (s : ByteArray) (hs : 60 < s.size) (w : World) (HT : Hid (Lib.TabIs Tryd.prog w "internal/strconv.uint64pow10" .u64 Lib.pow10Tab)) :
    Calls Tryd.prog 8 #[W2 pa qa, W2 pb qb, askV n m i j s] w fun e w' => e = .returned (.bool true) ∧ Below w.heap.size w w' := by
  go_enter Tryd.func8, Tryd.ntmps8
  go_upto_region 1 with (fail)
  refine box3x (fun V hB k3 k4 k5 => ?_)
  have HB := Lib.hid hB
  obtain ⟨l5, c5, d5⟩ := k5
  clear k3 k4 hB
  go_wp2_with fail
  refine (awake01_any _ (Tab64.later HT.out HB.out)).mono ?_
  rintro e w9 ⟨rfl, hb⟩
  go_wp2
  go_ret
  exact ⟨rfl, bl HB.out HB.out.size hb⟩
theorem WideTells_words (ah al : Int) (a1 : 0 ≤ ah) (a2 : ah < 18446744073709551616) (a3 : 0 ≤ al) (a4 : al < 18446744073709551616) (bh bl : Int) (b1 : 0 ≤ bh) (b2 : bh < 18446744073709551616) (b3 : 0 ≤ bl) (b4 : bl < 18446744073709551616)
    (n m i j : Int) (s : ByteArray) (n1 : 0 ≤ n) (n2 : n < 18446744073709551616) (m1 : 0 ≤ m) (m2 : m < 18446744073709551616) (i1 : -9223372036854775808 ≤ i) (i2 : i < 9223372036854775808) (j1 : -9223372036854775808 ≤ j) (j2 : j < 9223372036854775808)
    (w : World) (ht : Lib.TabIs Tryd.prog w "internal/strconv.uint64pow10" .u64 Lib.pow10Tab) : Calls Tryd.prog 8 #[W2 ah al, W2 bh bl, askV n m i j s] w fun e w' => e = .returned (.bool true) ∧ Below w.heap.size w w' := by
  by_cases hs : 60 < s.size
  · exact WideTells_long ah al bh bl n m i j s hs w (Lib.hid ht)
  obtain ⟨a, alt, ae⟩ := of_words ah al a1 a2 a3 a4
  obtain ⟨b, blt, be⟩ := of_words bh bl b1 b2 b3 b4
  obtain ⟨n, rfl⟩ := Int.eq_ofNat_of_zero_le n1
  obtain ⟨m, rfl⟩ := Int.eq_ofNat_of_zero_le m1
  have hn : n < 18446744073709551616 := by omega
  have hm : m < 18446744073709551616 := by omega
  have A1 := wadd_any a b alt blt
  have A2 := radd_any a b alt blt
  have S1 := wsub_any a b alt blt
  have S2 := rsub_any a b alt blt
  have CM := wcmp_any a b
  have RC := rcmp_any a b alt blt
  have OF := wof_any n hn
  have P1 := fun w => parse_any s w (by omega)
  have P2 := fun w => rparse_any s w (by omega)
  have M1 := wmul_any n m hn hm
  have M2 := rmul_any n m hn hm
  have D1 := wdiff_any i j i1 i2 j1 j2
  have D2 := rdiff_any i j i1 i2 j1 j2
  have T1 := text_any a alt
  have T2 := rtext_any a alt
  obtain ⟨pc, qc, ec⟩ := words_of (if a + b < wTop then a + b else 0)
  obtain ⟨pd, qd, ed⟩ := words_of (a - b)
  obtain ⟨pv, qv, ev⟩ := words_of ((parseW s.data.toList).getD 0)
  obtain ⟨pm, qm, em⟩ := words_of (n * m)
  have en : wideV n = W2 0 n := by unfold wideV; rw [Nat.div_eq_of_lt hn, Nat.mod_eq_of_lt hn]; rfl
  rw [← ae, ← be, ec] at A1 A2
  rw [← ae, ← be, ed] at S1 S2
  rw [← ae, ← be] at CM RC
  rw [ev] at P1 P2
  rw [em] at M1 M2
  rw [en] at OF
  rw [← ae] at T1 T2
  exact WideTells_way ah al bh bl pc qc pd qd pv qv pm qm n m i j _ _ _ _ _ s _ (by omega) (Lib.hid A1) (Lib.hid A2) (Lib.hid S1) (Lib.hid S2) (Lib.hid CM) (Lib.hid RC) (Lib.hid OF) (Lib.hid P1) (Lib.hid P2) (Lib.hid M1) (Lib.hid M2) (Lib.hid D1) (Lib.hid D2) (Lib.hid T1) (Lib.hid T2) w (Lib.hid ht)
end Go.Proofs.YtplbglcdmimdoaaDoor
