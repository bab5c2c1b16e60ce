/- OpsTells: the walk. -/
import Derived.Test.YtokpgopdkimmmaaGreatDoorOpsTotalLaw
import Derived.Test.YtokpgopdkimmmaaGreatDoorTellsM4
import Derived.Test.YtokpgopdkimmmaaGreatDoorRef27k
import Derived.Test.YtokpgopdkimmmaaGreatDoorRef27d
import Derived.Test.YtokpgopdkimmmaaGreatDoorOpSame
namespace Go.Proofs.YtokpgopdkimmmaaGreatDoor
open Go.RowKit
set_option linter.unusedVariables false
set_option linter.unusedSimpArgs false

theorem op_cells {w : World} {b : Nat} {o : OpV} (h : OpB w b o) : w.cell? ⟨b, 0, none⟩ = some (.int .u8 (o.k : Int)) ∧ w.cell? ⟨b, 1, none⟩ = some (.int .i64 o.a) ∧ w.cell? ⟨b, 2, none⟩ = some (.int .i64 o.b) ∧ w.cell? ⟨b, 3, none⟩ = some (.int .i64 o.c) ∧ w.cell? ⟨b, 4, none⟩ = some (.int .i64 o.d) ∧ w.cell? ⟨b, 5, none⟩ = some (.int .u32 (o.id : Int)) :=
  ⟨Blk.cell h 0, Blk.cell h 1, Blk.cell h 2, Blk.cell h 3, Blk.cell h 4, Blk.cell h 5⟩
/-- What is asked, in cells. -/
abbrev askC (L : Value) (B : Value) (s : ByteArray) (e : Int) (I : Value) (c : Int) (y : Bool) (hi lo : Int) : Array Value := #[L, B, .string s, .int .i64 e, I, .int .i64 c, .bool y, .int .u64 hi, .int .u64 lo]
def AskB (w : World) (b : Nat) (L : Value) (B : Value) (s : ByteArray) (e : Int) (I : Value) (c : Int) (y : Bool) (hi lo : Int) : Prop := Blk w b 35 (askC L B s e I c y hi lo)
section
variable {w w' : World} {b : Nat} {L B I : Value} {s : ByteArray} {e c hi lo : Int} {y : Bool}
theorem ask_cells (h : AskB w b L B s e I c y hi lo) : w.cell? ⟨b, 0, none⟩ = some L ∧ w.cell? ⟨b, 1, none⟩ = some B ∧ w.cell? ⟨b, 2, none⟩ = some (.string s) ∧ w.cell? ⟨b, 3, none⟩ = some (.int .i64 e) ∧ w.cell? ⟨b, 4, none⟩ = some I ∧ w.cell? ⟨b, 5, none⟩ = some (.int .i64 c) ∧ w.cell? ⟨b, 6, none⟩ = some (.bool y) ∧ w.cell? ⟨b, 7, none⟩ = some (.int .u64 hi) ∧ w.cell? ⟨b, 8, none⟩ = some (.int .u64 lo) :=
  ⟨Blk.cell h 0, Blk.cell h 1, Blk.cell h 2, Blk.cell h 3, Blk.cell h 4, Blk.cell h 5, Blk.cell h 6, Blk.cell h 7, Blk.cell h 8⟩
theorem AskB.later (h : AskB w b L B s e I c y hi lo) (hb : Below w.heap.size w w') : AskB w' b L B s e I c y hi lo := Blk.below h hb (Blk.lt h)
end
theorem rread_all (l : List Nat) (A : Option Addr) (cap : Nat) (w : World) (hn : l.length ≤ 100000) (hl : ∀ x ∈ l, x < 256) (hr : RecRow w bcell 1 A l) :
    Calls Tryz.prog 17 #[.slice A l.length cap] w fun e w' => ∃ a n c er, e = .returned (.tuple #[.slice a n c, .int .i64 er]) ∧ Below w.heap.size w w' ∧ ReadP l w w' a n c er := by
  by_cases hm : l.length % 37 = 0
  · refine (rread_any l (l.length / 37) A cap w (by omega) (by omega) hl hr).mono ?_
    rintro e w' ⟨v, rfl, ho, hb⟩
    obtain ⟨a, c, rfl⟩ := own_shape ho
    exact ⟨a, _, c, 0, rfl, hb, .inl ⟨rfl, by omega, ho⟩⟩
  · refine (rread_bad l A cap w (by omega) hm).mono ?_
    rintro e w' ⟨rfl, hb⟩
    exact ⟨none, 0, 0, 270, rfl, hb, .inr ⟨rfl, rfl, rfl, rfl, hm⟩⟩
theorem own_cap {w : World} {B : Nat} {e : TypeId} {k n c : Nat} {a : Option Addr} {xs : List Value} (h : w.ownsRow B e k (.slice a n c) n xs) : n ≤ c ∧ c ≤ maxLen := by
  rcases h.2 with ⟨h1, h2⟩ | ⟨g', c', cur, h1, _, _, h2, h3, _⟩
  · injection h1 with _ _ h3
    subst h3
    exact ⟨by omega, Nat.zero_le _⟩
  · injection h1 with _ _ h4
    subst h4
    exact ⟨h2, h3⟩

set_option maxRecDepth 100000 in
set_option maxHeartbeats 4000000 in
theorem OpsTells_guard (o : OpV) (ho : o.ok) (L : List OpV) (hL : ∀ x ∈ L, x.ok) (LA : Option Addr) (lc : Nat) (hlL : L.length ≤ 9223372036854775807) (B : List Nat) (hB : ∀ x ∈ B, x < 256) (BA : Option Addr) (bc : Nat) (hbc : B.length ≤ bc) (hbm : bc ≤ maxLen) (s : ByteArray) (hs : s.size ≤ maxLen) (r : RepV) (hr : r.ok) (IA : Option Addr) (ic : Nat) (hlI : r.ids.length ≤ 9223372036854775807) (w : World) (rL : OpRow w LA L) (rB : RecRow w bcell 1 BA B) (rI : RecRow w ucell 1 IA r.ids) (hE : Env27 w) (hG : 20 < L.length ∨ 300 < B.length ∨ 200 < s.size ∨ 50 < r.ids.length ∨ r.cnt < 0) :
    Calls Tryz.prog 3 #[o.val, .agg (askC (.slice LA L.length lc) (.slice BA B.length bc) s r.err (.slice IA r.ids.length ic) r.cnt r.yes ((r.wide / 18446744073709551616 : Nat) : Int) ((r.wide % 18446744073709551616 : Nat) : Int))] w fun e w' => e = .returned (.bool true) ∧ Below w.heap.size w w' := by
  have HE := Lib.hid hE
  unfold maxLen at hs hbm
  clear hE rL rB rI hB hL
  obtain ⟨re, ri, rc, ry, rw_⟩ := r
  simp only at hG hlI ⊢
  obtain ⟨il, hil⟩ : ∃ n, ri.length = n := ⟨_, rfl⟩
  obtain ⟨hi, hhi⟩ : ∃ n : Int, ((rw_ / 18446744073709551616 : Nat) : Int) = n := ⟨_, rfl⟩
  obtain ⟨lo, hlo⟩ : ∃ n : Int, ((rw_ % 18446744073709551616 : Nat) : Int) = n := ⟨_, rfl⟩
  rw [hil] at hG hlI ⊢
  rw [hhi, hlo]
  clear hil hhi hlo hr ho
  by_cases h1 : 20 < L.length
  · clear hG
    have d1 : decide ((20 : Int) < (L.length : Int)) = true := decide_eq_true (by omega)
    go_enter Tryz.func3, Tryz.ntmps3
    go_wp2_with fail
    refine (awake27_any _ (HE.out.later (((Below.refl w.heap.size w).alloc (Nat.le_refl _) _).alloc (by simp) _))).mono ?_
    rintro e w1 ⟨rfl, hb1⟩
    have HB1 := Lib.hid (bl (((Below.refl w.heap.size w).alloc (Nat.le_refl _) _).alloc (by simp) _) (by simp; omega) hb1)
    clear hb1
    go_wp2
    go_ret
    exact ⟨rfl, HB1.out⟩
  · have d1 : decide ((20 : Int) < (L.length : Int)) = false := decide_eq_false (by omega)
    by_cases h2 : 300 < B.length
    · clear hG
      have d2 : decide ((300 : Int) < (B.length : Int)) = true := decide_eq_true (by omega)
      go_enter Tryz.func3, Tryz.ntmps3
      go_wp2_with fail
      refine (awake27_any _ (HE.out.later (((Below.refl w.heap.size w).alloc (Nat.le_refl _) _).alloc (by simp) _))).mono ?_
      rintro e w1 ⟨rfl, hb1⟩
      have HB1 := Lib.hid (bl (((Below.refl w.heap.size w).alloc (Nat.le_refl _) _).alloc (by simp) _) (by simp; omega) hb1)
      clear hb1
      go_wp2
      go_ret
      exact ⟨rfl, HB1.out⟩
    · have d2 : decide ((300 : Int) < (B.length : Int)) = false := decide_eq_false (by omega)
      by_cases h3 : 200 < s.size
      · clear hG
        have d3 : decide ((200 : Int) < (s.size : Int)) = true := decide_eq_true (by omega)
        go_enter Tryz.func3, Tryz.ntmps3
        go_wp2_with fail
        refine (awake27_any _ (HE.out.later (((Below.refl w.heap.size w).alloc (Nat.le_refl _) _).alloc (by simp) _))).mono ?_
        rintro e w1 ⟨rfl, hb1⟩
        have HB1 := Lib.hid (bl (((Below.refl w.heap.size w).alloc (Nat.le_refl _) _).alloc (by simp) _) (by simp; omega) hb1)
        clear hb1
        go_wp2
        go_ret
        exact ⟨rfl, HB1.out⟩
      · have d3 : decide ((200 : Int) < (s.size : Int)) = false := decide_eq_false (by omega)
        by_cases h4 : 50 < il
        · clear hG
          have d4 : decide ((50 : Int) < (il : Int)) = true := decide_eq_true (by omega)
          go_enter Tryz.func3, Tryz.ntmps3
          go_wp2_with fail
          refine (awake27_any _ (HE.out.later (((Below.refl w.heap.size w).alloc (Nat.le_refl _) _).alloc (by simp) _))).mono ?_
          rintro e w1 ⟨rfl, hb1⟩
          have HB1 := Lib.hid (bl (((Below.refl w.heap.size w).alloc (Nat.le_refl _) _).alloc (by simp) _) (by simp; omega) hb1)
          clear hb1
          go_wp2
          go_ret
          exact ⟨rfl, HB1.out⟩
        · have d4 : decide ((50 : Int) < (il : Int)) = false := decide_eq_false (by omega)
          have h5 : rc < 0 := by omega
          clear hG
          have d5 : decide (rc < 0) = true := decide_eq_true h5
          go_enter Tryz.func3, Tryz.ntmps3
          go_wp2_with fail
          refine (awake27_any _ (HE.out.later (((Below.refl w.heap.size w).alloc (Nat.le_refl _) _).alloc (by simp) _))).mono ?_
          rintro e w1 ⟨rfl, hb1⟩
          have HB1 := Lib.hid (bl (((Below.refl w.heap.size w).alloc (Nat.le_refl _) _).alloc (by simp) _) (by simp; omega) hb1)
          clear hb1
          go_wp2
          go_ret
          exact ⟨rfl, HB1.out⟩
set_option maxRecDepth 100000 in
set_option maxHeartbeats 16000000 in
theorem OpsTells_main (o : OpV) (ho : o.ok) (L : List OpV) (hL : ∀ x ∈ L, x.ok) (LA : Option Addr) (lc : Nat) (hlL : L.length ≤ 9223372036854775807) (B : List Nat) (hB : ∀ x ∈ B, x < 256) (BA : Option Addr) (bc : Nat) (hbc : B.length ≤ bc) (hbm : bc ≤ maxLen) (s : ByteArray) (hs : s.size ≤ maxLen) (r : RepV) (hr : r.ok) (IA : Option Addr) (ic : Nat) (hlI : r.ids.length ≤ 9223372036854775807) (w : World) (rL : OpRow w LA L) (rB : RecRow w bcell 1 BA B) (rI : RecRow w ucell 1 IA r.ids) (hE : Env27 w) (hG : ¬ (20 < L.length ∨ 300 < B.length ∨ 200 < s.size ∨ 50 < r.ids.length ∨ r.cnt < 0)) :
    Calls Tryz.prog 3 #[o.val, .agg (askC (.slice LA L.length lc) (.slice BA B.length bc) s r.err (.slice IA r.ids.length ic) r.cnt r.yes ((r.wide / 18446744073709551616 : Nat) : Int) ((r.wide % 18446744073709551616 : Nat) : Int))] w fun e w' => e = .returned (.bool true) ∧ Below w.heap.size w w' := by
  have HE := Lib.hid hE
  have HO := Lib.hid ho
  have HL := Lib.hid hL
  have HBB := Lib.hid hB
  have HBM := Lib.hid hbm
  have RL := Lib.hid rL
  have RB := Lib.hid rB
  have RI := Lib.hid rI
  have l1 : L.length ≤ 20 := by omega
  have l2 : B.length ≤ 300 := by omega
  have l3 : s.size ≤ 200 := by omega
  have l4 : r.ids.length ≤ 50 := by omega
  have l5 : 0 ≤ r.cnt := by omega
  have HT := Lib.hid (fun (W : World) (h : Env27 W) (hA : RecRow W ucell 1 IA r.ids) => rep_any o ho r hr IA ic W (by omega) hA h.t h.k)
  have HTR := Lib.hid (fun (W : World) (hA : RecRow W ucell 1 IA r.ids) => rrep_any o ho r hr IA ic W (by omega) hA)
  have HPA := Lib.hid (fun (W : World) (h : Env27 W) => by
    have g := opparse_any s.data.toList (by have : s.data.toList.length = s.size := by simp
                                            omega) W h.t h.k h.e h.m
    rw [str_eta] at g
    exact g)
  have HPR := Lib.hid (fun (W : World) => by
    have g := rparse27_any s.data.toList (by have : s.data.toList.length = s.size := by simp
                                             omega) W
    rw [str_eta] at g
    exact g)
  obtain ⟨pv, hpv⟩ : ∃ p, (parseOp s.data.toList).getD (codeOnly 0) = p := ⟨_, rfl⟩
  obtain ⟨pe, hpe⟩ : ∃ p : Int, (if (parseOp s.data.toList).isSome then 0 else 270) = p := ⟨_, rfl⟩
  rw [hpv, hpe] at HPA HPR
  obtain ⟨re, ri, rc, ry, rw_⟩ := r
  simp only [repV, repCells] at l4 l5 RI HT HTR ⊢
  obtain ⟨tr, htr⟩ : ∃ t, toldR o.k ⟨re, ri, rc, ry, rw_⟩ = t := ⟨_, rfl⟩
  rw [htr] at HT HTR
  obtain ⟨il, hil⟩ : ∃ n, ri.length = n := ⟨_, rfl⟩
  obtain ⟨hi, hhi⟩ : ∃ n : Int, ((rw_ / 18446744073709551616 : Nat) : Int) = n := ⟨_, rfl⟩
  obtain ⟨lo, hlo⟩ : ∃ n : Int, ((rw_ % 18446744073709551616 : Nat) : Int) = n := ⟨_, rfl⟩
  rw [hil] at l4 HT HTR ⊢
  rw [hhi, hlo] at HT HTR ⊢
  have d1 : decide ((20 : Int) < (L.length : Int)) = false := decide_eq_false (by omega)
  have d2 : decide ((300 : Int) < (B.length : Int)) = false := decide_eq_false (by omega)
  have d3 : decide ((200 : Int) < (s.size : Int)) = false := decide_eq_false (by omega)
  have d4 : decide ((50 : Int) < (il : Int)) = false := decide_eq_false (by omega)
  have d5 : decide (rc < 0) = false := decide_eq_false (by omega)
  obtain ⟨i0, hi0, hzz0, hz01, hz02⟩ := info_parts infoOp
  obtain ⟨i1, hi1, hzz1, hz11, hz12⟩ := info_parts infoU8
  clear hG hE ho hL hB hbm rL rB rI hr hs hlL hlI hil hhi hlo htr hpv hpe hbc
  have HB0 := Lib.hid (((Below.refl w.heap.size w).alloc (Nat.le_refl _) (.cells o.cells 24)).alloc (by simp) (.cells (askC (.slice LA L.length lc) (.slice BA B.length bc) s re (.slice IA il ic) rc ry hi lo) 35))
  have K2 := Lib.hid (show OpB ((w.alloc (.cells o.cells 24)).alloc (.cells (askC (.slice LA L.length lc) (.slice BA B.length bc) s re (.slice IA il ic) rc ry hi lo) 35)) w.heap.size o from Blk.alloc (Blk.new w _ _) _)
  have K3 := Lib.hid (show AskB ((w.alloc (.cells o.cells 24)).alloc (.cells (askC (.slice LA L.length lc) (.slice BA B.length bc) s re (.slice IA il ic) rc ry hi lo) 35)) (w.heap.size + 1) (.slice LA L.length lc) (.slice BA B.length bc) s re (.slice IA il ic) rc ry hi lo by
    have h := Blk.new (w.alloc (.cells o.cells 24)) 35 (askC (.slice LA L.length lc) (.slice BA B.length bc) s re (.slice IA il ic) rc ry hi lo)
    rw [World.size_alloc] at h
    exact h)
  go_enter Tryz.func3, Tryz.ntmps3
  go_upto_region 3 with (fail)
  generalize (w.alloc (.cells o.cells 24)).alloc (.cells (askC (.slice LA L.length lc) (.slice BA B.length bc) s re (.slice IA il ic) rc ry hi lo) 35) = V at K2 K3 HB0 ⊢
  obtain ⟨b2, hb2⟩ : ∃ b, w.heap.size = b := ⟨_, rfl⟩
  rw [hb2] at K2 K3 ⊢
  clear hb2 d1 d2 d3 d4 d5
  have RL0 := Lib.hid (RecRow.reads opk (RL.out.later HB0.out))
  have RB0 := Lib.hid (RecRow.reads bcellk (RB.out.later HB0.out))
  obtain ⟨a0, a1, a2, a3, a4, a5, a6, a7, a8⟩ := ask_cells K3.out
  have hbV := HB0.out.size
  have hb3 : b2 + 1 < V.heap.size := Blk.lt K3.out
  go_wp2_with (at_builtin; refine wpList_append_any _ rfl (.tmp 45) (.tmp 47) 25 rfl w.heap.size 24 i0 (codeOnly 0).val 6 48 Tryz.underlying25 hi0 hzz0 hz01 hz02 rfl (by decide) _ _ _ rfl (own_empty V _ _ hbV) V.heap.size LA L.length lc (flatR OpV.cells L) rfl (RL0.out.alloc (Nat.le_refl _) _) (flatR_ones op_ones L) (by unfold maxLen; omega) (by omega) (by simp; omega) ?_)
  intro v1 w1 hown1 hgrow hat
  try rw [Nat.zero_add] at hown1
  try rw [List.nil_append] at hown1
  obtain ⟨a1', k1, rfl⟩ := own_shape hown1
  have G1 : V.grownBy w1 (some V.heap.size) := grown_tr (only_alloc (World.grownBy.refl V _) _) hgrow
  have HB1 := Lib.hid ((HB0.out.alloc hbV _).grown hgrow (by simp; omega) (fun r hr => by cases hr; exact hbV))
  have HOI := Lib.hid hown1
  have K2' := Lib.hid (show OpB w1 b2 o from Blk.grown K2.out G1 (fun e => by cases e; have := Blk.lt K2.out; omega))
  have K3' := Lib.hid (show AskB w1 (b2 + 1) (.slice LA L.length lc) (.slice BA B.length bc) s re (.slice IA il ic) rc ry hi lo from Blk.grown K3.out G1 (fun e => by have := Blk.lt K3.out; have h2 := Option.some.inj e; omega))
  have RB1 := Lib.hid (show Reads w1 w.heap.size 1 BA B.length (flatR bcell B) from (RecRow.reads bcellk RB.out).below HB1.out)
  clear a0 a1 a2 a3 a4 a5 a6 a7 a8 hown1 hgrow hat G1 K2 K3 HB0 RL0 RB0 hbV hb3
  have hb3 : b2 + 1 < w1.heap.size := Blk.lt K3'.out
  obtain ⟨a0, a1, a2, a3, a4, a5, a6, a7, a8⟩ := ask_cells K3'.out
  have hbV := HB1.out.size
  go_wp2_with (at_builtin; refine wpList_append_any _ rfl (.tmp 49) (.tmp 51) 26 rfl w.heap.size 5 i1 (.int .u8 0) 1 1 Tryz.underlying26 hi1 hzz1 hz11 hz12 rfl (by decide) _ _ _ rfl (own_empty w1 _ _ hbV) w.heap.size BA B.length bc (flatR bcell B) rfl (RB1.out.alloc hbV _) (flatR_ones (fun x u hu => by simp [bcell] at hu; subst hu; rfl) B) (by unfold maxLen; omega) (by omega) (by simp; omega) ?_)
  intro v2 w2 hown2 hgrow hat
  try rw [Nat.zero_add] at hown2
  try rw [List.nil_append] at hown2
  obtain ⟨a2', k2, rfl⟩ := own_shape hown2
  have G2 : w1.grownBy w2 (some w1.heap.size) := grown_tr (only_alloc (World.grownBy.refl w1 _) _) hgrow
  have HB2 := Lib.hid ((HB1.out.alloc hbV _).grown hgrow (by simp; omega) (fun r hr => by cases hr; exact hbV))
  have ROI := Lib.hid (show OpRow w2 a1' L from RecRow.of_own opk (HOI.out.kept G2 (.inr fun e => by have := (HOI.out.lt _ e).2; omega)) rfl)
  have ROB := Lib.hid (show RecRow w2 bcell 1 a2' B from RecRow.of_own bcellk hown2 rfl)
  have hk2 : B.length ≤ k2 ∧ k2 ≤ maxLen := own_cap hown2
  have K2 := Lib.hid (show OpB w2 b2 o from Blk.grown K2'.out G2 (fun e => by cases e; have := Blk.lt K2'.out; omega))
  have K3 := Lib.hid (show AskB w2 (b2 + 1) (.slice LA L.length lc) (.slice BA B.length bc) s re (.slice IA il ic) rc ry hi lo from Blk.grown K3'.out G2 (fun e => by have := Blk.lt K3'.out; have h2 := Option.some.inj e; omega))
  have HK2 := Lib.hid hk2
  clear a0 a1 a2 a3 a4 a5 a6 a7 a8 hown2 hgrow hat G2 K2' K3' HB1 RB1 hbV HOI hk2 hb3
  go_upto_region 5 with (fail)
  go_cut [85] (fun v wd => v = .bool false ∧ Hid (Below w2.heap.size w2 wd))
  case first =>
    have HE2 := Lib.hid (fun (W : World) (h : Below w2.heap.size w2 W) => (HE.out.later HB2.out).later h)
    have RI2 := Lib.hid (fun (W : World) (h : Below w2.heap.size w2 W) => RecRow.later (RI.out.later HB2.out) h)
    have RL2 := Lib.hid (fun (W : World) (h : Below w2.heap.size w2 W) => RecRow.later (RL.out.later HB2.out) h)
    refine wp_region_until (fun w' => Below w2.heap.size w2 w') [0, 1, 2, 3, 4, 5, 6, 7, 8, 9, 10, 11, 12, 13, 14, 15, 16, 17, 18, 19, 20, 21, 22, 23, 24, 25, 26, 27, 28, 29, 30, 31, 32] (by kernel_rfl) ?_
    have hS : (fun w' => Below w2.heap.size w2 w') w2.drew := (Below.refl _ _).drew
    refine wpAnyG_take (i := 0) rfl (by kernel_rfl) (by kernel_rfl) (by kernel_rfl) (by kernel_rfl) (by kernel_rfl) (by kernel_rfl) (fun _ _ _ h => h) rfl (by intro w' _; go_simp; try rfl) hS ?_
    (try simp only [Act.put, List.getElem_toArray, List.getElem_cons_succ, List.getElem_cons_zero, List.setIfInBounds_toArray, List.set_cons_zero, List.set_cons_succ])
    refine wpAnyG_take (i := 3) rfl (by kernel_rfl) (by kernel_rfl) (by kernel_rfl) (by kernel_rfl) (by kernel_rfl) (by kernel_rfl) (fun _ _ _ h => h) rfl (by intro w' _; go_simp; try rfl) hS ?_
    (try simp only [Act.put, List.getElem_toArray, List.getElem_cons_succ, List.getElem_cons_zero, List.setIfInBounds_toArray, List.set_cons_zero, List.set_cons_succ])
    refine wpAnyG_take (i := 4) rfl (by kernel_rfl) (by kernel_rfl) (by kernel_rfl) (by kernel_rfl) (by kernel_rfl) (by kernel_rfl) (fun _ _ _ h => h) rfl (by intro w' hb; obtain ⟨a0, a1, a2, a3, a4, a5, a6, a7, a8⟩ := ask_cells (AskB.later K3.out hb); go_simp; try rfl) hS ?_
    (try simp only [Act.put, List.getElem_toArray, List.getElem_cons_succ, List.getElem_cons_zero, List.setIfInBounds_toArray, List.set_cons_zero, List.set_cons_succ])
    refine wpAnyG_step (i := 1) rfl (by kernel_rfl) rfl (fun K hK => ?_)
    go_simp
    refine (bytes_all L HL.out (by omega) a1' k1 _ (RecRow.later ROI.out hS)).mono ?_
    rintro e y1 ⟨v1, rfl, ho, hb⟩
    have HX1 := Lib.hid ho
    clear ho
    refine hK.out _ _ (bl hS hS.size hb) (fun hS => ?_)
    clear hK K hb
    (try simp only [Act.put, List.getElem_toArray, List.getElem_cons_succ, List.getElem_cons_zero, List.setIfInBounds_toArray, List.set_cons_zero, List.set_cons_succ])
    refine wpAnyG_two (i := 2) (j := 5) rfl rfl (by kernel_rfl) rfl rfl (fun K hK => ?_) (fun K hK => ?_)
    · have hcv := conv_bytes HX1.out
      go_simp
      refine hK.out _ _ hS (fun hS => ?_)
      clear hK K hcv
      (try simp only [Act.put, List.getElem_toArray, List.getElem_cons_succ, List.getElem_cons_zero, List.setIfInBounds_toArray, List.set_cons_zero, List.set_cons_succ])
      refine wpAnyG_step (i := 5) rfl (by kernel_rfl) rfl (fun K hK => ?_)
      go_simp
      refine (rbytes_any L HL.out (by omega) LA lc _ (RL2.out _ hS)).mono ?_
      rintro e y22 ⟨v5, rfl, ho, hb⟩
      have HX2 := Lib.hid ho
      clear ho
      refine hK.out _ _ (bl hS hS.size hb) (fun hS => ?_)
      clear hK K hb
      (try simp only [Act.put, List.getElem_toArray, List.getElem_cons_succ, List.getElem_cons_zero, List.setIfInBounds_toArray, List.set_cons_zero, List.set_cons_succ])
      refine wpAnyG_step (i := 6) rfl (by kernel_rfl) rfl (fun K hK => ?_)
      have hcv := conv_bytes HX2.out
      go_simp
      refine hK.out _ _ hS (fun hS => ?_)
      clear hK K hcv
      (try simp only [Act.put, List.getElem_toArray, List.getElem_cons_succ, List.getElem_cons_zero, List.setIfInBounds_toArray, List.set_cons_zero, List.set_cons_succ])
      refine wpAnyG_take (i := 7) (v := .bool false) rfl (by kernel_rfl) (by kernel_rfl) (by kernel_rfl) (by kernel_rfl) (by kernel_rfl) (by kernel_rfl) (fun _ _ _ h => h) rfl (by intro w' _; go_simp; try (first | rfl | simp)) hS ?_
      (try simp only [Act.put, List.getElem_toArray, List.getElem_cons_succ, List.getElem_cons_zero, List.setIfInBounds_toArray, List.set_cons_zero, List.set_cons_succ])
      refine wpAnyG_take (i := 8) rfl (by kernel_rfl) (by kernel_rfl) (by kernel_rfl) (by kernel_rfl) (by kernel_rfl) (by kernel_rfl) (fun _ _ _ h => h) rfl (by intro w' _; go_simp; try rfl) hS ?_
      (try simp only [Act.put, List.getElem_toArray, List.getElem_cons_succ, List.getElem_cons_zero, List.setIfInBounds_toArray, List.set_cons_zero, List.set_cons_succ])
      refine wpAnyG_take (i := 9) rfl (by kernel_rfl) (by kernel_rfl) (by kernel_rfl) (by kernel_rfl) (by kernel_rfl) (by kernel_rfl) (fun _ _ _ h => h) rfl (by intro w' hb; obtain ⟨c0, c1, c2, c3, c4, c5⟩ := op_cells (OpB.later K2.out hb); go_simp; try rfl) hS ?_
      (try simp only [Act.put, List.getElem_toArray, List.getElem_cons_succ, List.getElem_cons_zero, List.setIfInBounds_toArray, List.set_cons_zero, List.set_cons_succ])
      refine wpAnyG_take (i := 11) rfl (by kernel_rfl) (by kernel_rfl) (by kernel_rfl) (by kernel_rfl) (by kernel_rfl) (by kernel_rfl) (fun _ _ _ h => h) rfl (by intro w' hb; obtain ⟨c0, c1, c2, c3, c4, c5⟩ := op_cells (OpB.later K2.out hb); go_simp; try rfl) hS ?_
      (try simp only [Act.put, List.getElem_toArray, List.getElem_cons_succ, List.getElem_cons_zero, List.setIfInBounds_toArray, List.set_cons_zero, List.set_cons_succ])
      refine wpAnyG_step (i := 10) rfl (by kernel_rfl) rfl (fun K hK => ?_)
      go_simp
      refine (wrong_any o HO.out _ (HE2.out _ hS).k).mono ?_
      rintro e z1 ⟨rfl, hb⟩
      refine hK.out _ _ (bl hS hS.size hb) (fun hS => ?_)
      clear hK K hb
      (try simp only [Act.put, List.getElem_toArray, List.getElem_cons_succ, List.getElem_cons_zero, List.setIfInBounds_toArray, List.set_cons_zero, List.set_cons_succ])
      refine wpAnyG_step (i := 12) rfl (by kernel_rfl) rfl (fun K hK => ?_)
      go_simp
      refine (rwrong_any o _).mono ?_
      rintro e z2 ⟨rfl, hb⟩
      refine hK.out _ _ (bl hS hS.size hb) (fun hS => ?_)
      clear hK K hb
      (try simp only [Act.put, List.getElem_toArray, List.getElem_cons_succ, List.getElem_cons_zero, List.setIfInBounds_toArray, List.set_cons_zero, List.set_cons_succ])
      refine wpAnyG_take (i := 13) (v := .bool false) rfl (by kernel_rfl) (by kernel_rfl) (by kernel_rfl) (by kernel_rfl) (by kernel_rfl) (by kernel_rfl) (fun _ _ _ h => h) rfl (by intro w' _; go_simp; try (first | rfl | simp)) hS ?_
      (try simp only [Act.put, List.getElem_toArray, List.getElem_cons_succ, List.getElem_cons_zero, List.setIfInBounds_toArray, List.set_cons_zero, List.set_cons_succ])
      refine wpAnyG_take (i := 14) (v := .bool false) rfl (by kernel_rfl) (by kernel_rfl) (by kernel_rfl) (by kernel_rfl) (by kernel_rfl) (by kernel_rfl) (fun _ _ _ h => h) rfl (by intro w' _; go_simp; try rfl) hS ?_
      (try simp only [Act.put, List.getElem_toArray, List.getElem_cons_succ, List.getElem_cons_zero, List.setIfInBounds_toArray, List.set_cons_zero, List.set_cons_succ])
      refine wpAnyG_take (i := 15) rfl (by kernel_rfl) (by kernel_rfl) (by kernel_rfl) (by kernel_rfl) (by kernel_rfl) (by kernel_rfl) (fun _ _ _ h => h) rfl (by intro w' _; go_simp; try rfl) hS ?_
      (try simp only [Act.put, List.getElem_toArray, List.getElem_cons_succ, List.getElem_cons_zero, List.setIfInBounds_toArray, List.set_cons_zero, List.set_cons_succ])
      refine wpAnyG_take (i := 16) rfl (by kernel_rfl) (by kernel_rfl) (by kernel_rfl) (by kernel_rfl) (by kernel_rfl) (by kernel_rfl) (fun _ _ _ h => h) rfl (by intro w' hb; obtain ⟨c0, c1, c2, c3, c4, c5⟩ := op_cells (OpB.later K2.out hb); go_simp; try rfl) hS ?_
      (try simp only [Act.put, List.getElem_toArray, List.getElem_cons_succ, List.getElem_cons_zero, List.setIfInBounds_toArray, List.set_cons_zero, List.set_cons_succ])
      refine wpAnyG_take (i := 18) rfl (by kernel_rfl) (by kernel_rfl) (by kernel_rfl) (by kernel_rfl) (by kernel_rfl) (by kernel_rfl) (fun _ _ _ h => h) rfl (by intro w' hb; obtain ⟨c0, c1, c2, c3, c4, c5⟩ := op_cells (OpB.later K2.out hb); go_simp; try rfl) hS ?_
      (try simp only [Act.put, List.getElem_toArray, List.getElem_cons_succ, List.getElem_cons_zero, List.setIfInBounds_toArray, List.set_cons_zero, List.set_cons_succ])
      refine wpAnyG_step (i := 17) rfl (by kernel_rfl) rfl (fun K hK => ?_)
      go_simp
      refine (optext_any o HO.out _ (HE2.out _ hS).t (HE2.out _ hS).k (HE2.out _ hS).e).mono ?_
      rintro e z3 ⟨rfl, hb⟩
      refine hK.out _ _ (bl hS hS.size hb) (fun hS => ?_)
      clear hK K hb
      (try simp only [Act.put, List.getElem_toArray, List.getElem_cons_succ, List.getElem_cons_zero, List.setIfInBounds_toArray, List.set_cons_zero, List.set_cons_succ])
      refine wpAnyG_step (i := 19) rfl (by kernel_rfl) rfl (fun K hK => ?_)
      go_simp
      refine (rtext27_any o HO.out _).mono ?_
      rintro e z4 ⟨rfl, hb⟩
      refine hK.out _ _ (bl hS hS.size hb) (fun hS => ?_)
      clear hK K hb
      (try simp only [Act.put, List.getElem_toArray, List.getElem_cons_succ, List.getElem_cons_zero, List.setIfInBounds_toArray, List.set_cons_zero, List.set_cons_succ])
      refine wpAnyG_take (i := 20) (v := .bool false) rfl (by kernel_rfl) (by kernel_rfl) (by kernel_rfl) (by kernel_rfl) (by kernel_rfl) (by kernel_rfl) (fun _ _ _ h => h) rfl (by intro w' _; go_simp; try (first | rfl | simp)) hS ?_
      (try simp only [Act.put, List.getElem_toArray, List.getElem_cons_succ, List.getElem_cons_zero, List.setIfInBounds_toArray, List.set_cons_zero, List.set_cons_succ])
      refine wpAnyG_take (i := 21) (v := .bool false) rfl (by kernel_rfl) (by kernel_rfl) (by kernel_rfl) (by kernel_rfl) (by kernel_rfl) (by kernel_rfl) (fun _ _ _ h => h) rfl (by intro w' _; go_simp; try rfl) hS ?_
      (try simp only [Act.put, List.getElem_toArray, List.getElem_cons_succ, List.getElem_cons_zero, List.setIfInBounds_toArray, List.set_cons_zero, List.set_cons_succ])
      refine wpAnyG_take (i := 22) rfl (by kernel_rfl) (by kernel_rfl) (by kernel_rfl) (by kernel_rfl) (by kernel_rfl) (by kernel_rfl) (fun _ _ _ h => h) rfl (by intro w' _; go_simp; try rfl) hS ?_
      (try simp only [Act.put, List.getElem_toArray, List.getElem_cons_succ, List.getElem_cons_zero, List.setIfInBounds_toArray, List.set_cons_zero, List.set_cons_succ])
      refine wpAnyG_take (i := 23) rfl (by kernel_rfl) (by kernel_rfl) (by kernel_rfl) (by kernel_rfl) (by kernel_rfl) (by kernel_rfl) (fun _ _ _ h => h) rfl (by intro w' hb; obtain ⟨c0, c1, c2, c3, c4, c5⟩ := op_cells (OpB.later K2.out hb); go_simp; try rfl) hS ?_
      (try simp only [Act.put, List.getElem_toArray, List.getElem_cons_succ, List.getElem_cons_zero, List.setIfInBounds_toArray, List.set_cons_zero, List.set_cons_succ])
      refine wpAnyG_take (i := 24) rfl (by kernel_rfl) (by kernel_rfl) (by kernel_rfl) (by kernel_rfl) (by kernel_rfl) (by kernel_rfl) (fun _ _ _ h => h) rfl (by intro w' _; go_simp; try rfl) hS ?_
      (try simp only [Act.put, List.getElem_toArray, List.getElem_cons_succ, List.getElem_cons_zero, List.setIfInBounds_toArray, List.set_cons_zero, List.set_cons_succ])
      refine wpAnyG_take (i := 25) rfl (by kernel_rfl) (by kernel_rfl) (by kernel_rfl) (by kernel_rfl) (by kernel_rfl) (by kernel_rfl) (fun _ _ _ h => h) rfl (by intro w' hb; obtain ⟨a0, a1, a2, a3, a4, a5, a6, a7, a8⟩ := ask_cells (AskB.later K3.out hb); go_simp; try rfl) hS ?_
      (try simp only [Act.put, List.getElem_toArray, List.getElem_cons_succ, List.getElem_cons_zero, List.setIfInBounds_toArray, List.set_cons_zero, List.set_cons_succ])
      refine wpAnyG_take (i := 27) rfl (by kernel_rfl) (by kernel_rfl) (by kernel_rfl) (by kernel_rfl) (by kernel_rfl) (by kernel_rfl) (fun _ _ _ h => h) rfl (by intro w' hb; obtain ⟨c0, c1, c2, c3, c4, c5⟩ := op_cells (OpB.later K2.out hb); go_simp; try rfl) hS ?_
      (try simp only [Act.put, List.getElem_toArray, List.getElem_cons_succ, List.getElem_cons_zero, List.setIfInBounds_toArray, List.set_cons_zero, List.set_cons_succ])
      refine wpAnyG_take (i := 28) rfl (by kernel_rfl) (by kernel_rfl) (by kernel_rfl) (by kernel_rfl) (by kernel_rfl) (by kernel_rfl) (fun _ _ _ h => h) rfl (by intro w' _; go_simp; try rfl) hS ?_
      (try simp only [Act.put, List.getElem_toArray, List.getElem_cons_succ, List.getElem_cons_zero, List.setIfInBounds_toArray, List.set_cons_zero, List.set_cons_succ])
      refine wpAnyG_take (i := 29) rfl (by kernel_rfl) (by kernel_rfl) (by kernel_rfl) (by kernel_rfl) (by kernel_rfl) (by kernel_rfl) (fun _ _ _ h => h) rfl (by intro w' hb; obtain ⟨a0, a1, a2, a3, a4, a5, a6, a7, a8⟩ := ask_cells (AskB.later K3.out hb); go_simp; try rfl) hS ?_
      (try simp only [Act.put, List.getElem_toArray, List.getElem_cons_succ, List.getElem_cons_zero, List.setIfInBounds_toArray, List.set_cons_zero, List.set_cons_succ])
      refine wpAnyG_step (i := 26) rfl (by kernel_rfl) rfl (fun K hK => ?_)
      go_simp
      refine (HT.out _ (HE2.out _ hS) (RI2.out _ hS)).mono ?_
      rintro e z5 ⟨rfl, hb⟩
      refine hK.out _ _ (bl hS hS.size hb) (fun hS => ?_)
      clear hK K hb
      (try simp only [Act.put, List.getElem_toArray, List.getElem_cons_succ, List.getElem_cons_zero, List.setIfInBounds_toArray, List.set_cons_zero, List.set_cons_succ])
      refine wpAnyG_step (i := 30) rfl (by kernel_rfl) rfl (fun K hK => ?_)
      go_simp
      refine (HTR.out _ (RI2.out _ hS)).mono ?_
      rintro e z6 ⟨rfl, hb⟩
      refine hK.out _ _ (bl hS hS.size hb) (fun hS => ?_)
      clear hK K hb
      (try simp only [Act.put, List.getElem_toArray, List.getElem_cons_succ, List.getElem_cons_zero, List.setIfInBounds_toArray, List.set_cons_zero, List.set_cons_succ])
      refine wpAnyG_take (i := 31) (v := .bool false) rfl (by kernel_rfl) (by kernel_rfl) (by kernel_rfl) (by kernel_rfl) (by kernel_rfl) (by kernel_rfl) (fun _ _ _ h => h) rfl (by intro w' _; go_simp; try (first | rfl | simp)) hS ?_
      (try simp only [Act.put, List.getElem_toArray, List.getElem_cons_succ, List.getElem_cons_zero, List.setIfInBounds_toArray, List.set_cons_zero, List.set_cons_succ])
      refine wpAnyG_take (i := 32) (v := .bool false) rfl (by kernel_rfl) (by kernel_rfl) (by kernel_rfl) (by kernel_rfl) (by kernel_rfl) (by kernel_rfl) (fun _ _ _ h => h) rfl (by intro w' _; go_simp; try rfl) hS ?_
      (try simp only [Act.put, List.getElem_toArray, List.getElem_cons_succ, List.getElem_cons_zero, List.setIfInBounds_toArray, List.set_cons_zero, List.set_cons_succ])
      refine wpAnyU_done (by kernel_rfl) ?_ _
      have HSS := Lib.hid hS
      clear hS HX1 HX2
      go_wp2_with fail
      go_meet
      case rel => exact ⟨rfl, HSS⟩
    · go_simp
      refine (rbytes_any L HL.out (by omega) LA lc _ (RL2.out _ hS)).mono ?_
      rintro e y25 ⟨v5, rfl, ho, hb⟩
      have HX2 := Lib.hid ho
      replace HX1 := Lib.hid (own_below HX1.out hb)
      clear ho
      refine hK.out _ _ (bl hS hS.size hb) (fun hS => ?_)
      clear hK K hb
      (try simp only [Act.put, List.getElem_toArray, List.getElem_cons_succ, List.getElem_cons_zero, List.setIfInBounds_toArray, List.set_cons_zero, List.set_cons_succ])
      refine wpAnyG_two (i := 2) (j := 6) rfl rfl (by kernel_rfl) rfl rfl (fun K hK => ?_) (fun K hK => ?_)
      · have hcv := conv_bytes HX1.out
        go_simp
        refine hK.out _ _ hS (fun hS => ?_)
        clear hK K hcv
        (try simp only [Act.put, List.getElem_toArray, List.getElem_cons_succ, List.getElem_cons_zero, List.setIfInBounds_toArray, List.set_cons_zero, List.set_cons_succ])
        refine wpAnyG_step (i := 6) rfl (by kernel_rfl) rfl (fun K hK => ?_)
        have hcv := conv_bytes HX2.out
        go_simp
        refine hK.out _ _ hS (fun hS => ?_)
        clear hK K hcv
        (try simp only [Act.put, List.getElem_toArray, List.getElem_cons_succ, List.getElem_cons_zero, List.setIfInBounds_toArray, List.set_cons_zero, List.set_cons_succ])
        refine wpAnyG_take (i := 7) (v := .bool false) rfl (by kernel_rfl) (by kernel_rfl) (by kernel_rfl) (by kernel_rfl) (by kernel_rfl) (by kernel_rfl) (fun _ _ _ h => h) rfl (by intro w' _; go_simp; try (first | rfl | simp)) hS ?_
        (try simp only [Act.put, List.getElem_toArray, List.getElem_cons_succ, List.getElem_cons_zero, List.setIfInBounds_toArray, List.set_cons_zero, List.set_cons_succ])
        refine wpAnyG_take (i := 8) rfl (by kernel_rfl) (by kernel_rfl) (by kernel_rfl) (by kernel_rfl) (by kernel_rfl) (by kernel_rfl) (fun _ _ _ h => h) rfl (by intro w' _; go_simp; try rfl) hS ?_
        (try simp only [Act.put, List.getElem_toArray, List.getElem_cons_succ, List.getElem_cons_zero, List.setIfInBounds_toArray, List.set_cons_zero, List.set_cons_succ])
        refine wpAnyG_take (i := 9) rfl (by kernel_rfl) (by kernel_rfl) (by kernel_rfl) (by kernel_rfl) (by kernel_rfl) (by kernel_rfl) (fun _ _ _ h => h) rfl (by intro w' hb; obtain ⟨c0, c1, c2, c3, c4, c5⟩ := op_cells (OpB.later K2.out hb); go_simp; try rfl) hS ?_
        (try simp only [Act.put, List.getElem_toArray, List.getElem_cons_succ, List.getElem_cons_zero, List.setIfInBounds_toArray, List.set_cons_zero, List.set_cons_succ])
        refine wpAnyG_take (i := 11) rfl (by kernel_rfl) (by kernel_rfl) (by kernel_rfl) (by kernel_rfl) (by kernel_rfl) (by kernel_rfl) (fun _ _ _ h => h) rfl (by intro w' hb; obtain ⟨c0, c1, c2, c3, c4, c5⟩ := op_cells (OpB.later K2.out hb); go_simp; try rfl) hS ?_
        (try simp only [Act.put, List.getElem_toArray, List.getElem_cons_succ, List.getElem_cons_zero, List.setIfInBounds_toArray, List.set_cons_zero, List.set_cons_succ])
        refine wpAnyG_step (i := 10) rfl (by kernel_rfl) rfl (fun K hK => ?_)
        go_simp
        refine (wrong_any o HO.out _ (HE2.out _ hS).k).mono ?_
        rintro e z1 ⟨rfl, hb⟩
        refine hK.out _ _ (bl hS hS.size hb) (fun hS => ?_)
        clear hK K hb
        (try simp only [Act.put, List.getElem_toArray, List.getElem_cons_succ, List.getElem_cons_zero, List.setIfInBounds_toArray, List.set_cons_zero, List.set_cons_succ])
        refine wpAnyG_step (i := 12) rfl (by kernel_rfl) rfl (fun K hK => ?_)
        go_simp
        refine (rwrong_any o _).mono ?_
        rintro e z2 ⟨rfl, hb⟩
        refine hK.out _ _ (bl hS hS.size hb) (fun hS => ?_)
        clear hK K hb
        (try simp only [Act.put, List.getElem_toArray, List.getElem_cons_succ, List.getElem_cons_zero, List.setIfInBounds_toArray, List.set_cons_zero, List.set_cons_succ])
        refine wpAnyG_take (i := 13) (v := .bool false) rfl (by kernel_rfl) (by kernel_rfl) (by kernel_rfl) (by kernel_rfl) (by kernel_rfl) (by kernel_rfl) (fun _ _ _ h => h) rfl (by intro w' _; go_simp; try (first | rfl | simp)) hS ?_
        (try simp only [Act.put, List.getElem_toArray, List.getElem_cons_succ, List.getElem_cons_zero, List.setIfInBounds_toArray, List.set_cons_zero, List.set_cons_succ])
        refine wpAnyG_take (i := 14) (v := .bool false) rfl (by kernel_rfl) (by kernel_rfl) (by kernel_rfl) (by kernel_rfl) (by kernel_rfl) (by kernel_rfl) (fun _ _ _ h => h) rfl (by intro w' _; go_simp; try rfl) hS ?_
        (try simp only [Act.put, List.getElem_toArray, List.getElem_cons_succ, List.getElem_cons_zero, List.setIfInBounds_toArray, List.set_cons_zero, List.set_cons_succ])
        refine wpAnyG_take (i := 15) rfl (by kernel_rfl) (by kernel_rfl) (by kernel_rfl) (by kernel_rfl) (by kernel_rfl) (by kernel_rfl) (fun _ _ _ h => h) rfl (by intro w' _; go_simp; try rfl) hS ?_
        (try simp only [Act.put, List.getElem_toArray, List.getElem_cons_succ, List.getElem_cons_zero, List.setIfInBounds_toArray, List.set_cons_zero, List.set_cons_succ])
        refine wpAnyG_take (i := 16) rfl (by kernel_rfl) (by kernel_rfl) (by kernel_rfl) (by kernel_rfl) (by kernel_rfl) (by kernel_rfl) (fun _ _ _ h => h) rfl (by intro w' hb; obtain ⟨c0, c1, c2, c3, c4, c5⟩ := op_cells (OpB.later K2.out hb); go_simp; try rfl) hS ?_
        (try simp only [Act.put, List.getElem_toArray, List.getElem_cons_succ, List.getElem_cons_zero, List.setIfInBounds_toArray, List.set_cons_zero, List.set_cons_succ])
        refine wpAnyG_take (i := 18) rfl (by kernel_rfl) (by kernel_rfl) (by kernel_rfl) (by kernel_rfl) (by kernel_rfl) (by kernel_rfl) (fun _ _ _ h => h) rfl (by intro w' hb; obtain ⟨c0, c1, c2, c3, c4, c5⟩ := op_cells (OpB.later K2.out hb); go_simp; try rfl) hS ?_
        (try simp only [Act.put, List.getElem_toArray, List.getElem_cons_succ, List.getElem_cons_zero, List.setIfInBounds_toArray, List.set_cons_zero, List.set_cons_succ])
        refine wpAnyG_step (i := 17) rfl (by kernel_rfl) rfl (fun K hK => ?_)
        go_simp
        refine (optext_any o HO.out _ (HE2.out _ hS).t (HE2.out _ hS).k (HE2.out _ hS).e).mono ?_
        rintro e z3 ⟨rfl, hb⟩
        refine hK.out _ _ (bl hS hS.size hb) (fun hS => ?_)
        clear hK K hb
        (try simp only [Act.put, List.getElem_toArray, List.getElem_cons_succ, List.getElem_cons_zero, List.setIfInBounds_toArray, List.set_cons_zero, List.set_cons_succ])
        refine wpAnyG_step (i := 19) rfl (by kernel_rfl) rfl (fun K hK => ?_)
        go_simp
        refine (rtext27_any o HO.out _).mono ?_
        rintro e z4 ⟨rfl, hb⟩
        refine hK.out _ _ (bl hS hS.size hb) (fun hS => ?_)
        clear hK K hb
        (try simp only [Act.put, List.getElem_toArray, List.getElem_cons_succ, List.getElem_cons_zero, List.setIfInBounds_toArray, List.set_cons_zero, List.set_cons_succ])
        refine wpAnyG_take (i := 20) (v := .bool false) rfl (by kernel_rfl) (by kernel_rfl) (by kernel_rfl) (by kernel_rfl) (by kernel_rfl) (by kernel_rfl) (fun _ _ _ h => h) rfl (by intro w' _; go_simp; try (first | rfl | simp)) hS ?_
        (try simp only [Act.put, List.getElem_toArray, List.getElem_cons_succ, List.getElem_cons_zero, List.setIfInBounds_toArray, List.set_cons_zero, List.set_cons_succ])
        refine wpAnyG_take (i := 21) (v := .bool false) rfl (by kernel_rfl) (by kernel_rfl) (by kernel_rfl) (by kernel_rfl) (by kernel_rfl) (by kernel_rfl) (fun _ _ _ h => h) rfl (by intro w' _; go_simp; try rfl) hS ?_
        (try simp only [Act.put, List.getElem_toArray, List.getElem_cons_succ, List.getElem_cons_zero, List.setIfInBounds_toArray, List.set_cons_zero, List.set_cons_succ])
        refine wpAnyG_take (i := 22) rfl (by kernel_rfl) (by kernel_rfl) (by kernel_rfl) (by kernel_rfl) (by kernel_rfl) (by kernel_rfl) (fun _ _ _ h => h) rfl (by intro w' _; go_simp; try rfl) hS ?_
        (try simp only [Act.put, List.getElem_toArray, List.getElem_cons_succ, List.getElem_cons_zero, List.setIfInBounds_toArray, List.set_cons_zero, List.set_cons_succ])
        refine wpAnyG_take (i := 23) rfl (by kernel_rfl) (by kernel_rfl) (by kernel_rfl) (by kernel_rfl) (by kernel_rfl) (by kernel_rfl) (fun _ _ _ h => h) rfl (by intro w' hb; obtain ⟨c0, c1, c2, c3, c4, c5⟩ := op_cells (OpB.later K2.out hb); go_simp; try rfl) hS ?_
        (try simp only [Act.put, List.getElem_toArray, List.getElem_cons_succ, List.getElem_cons_zero, List.setIfInBounds_toArray, List.set_cons_zero, List.set_cons_succ])
        refine wpAnyG_take (i := 24) rfl (by kernel_rfl) (by kernel_rfl) (by kernel_rfl) (by kernel_rfl) (by kernel_rfl) (by kernel_rfl) (fun _ _ _ h => h) rfl (by intro w' _; go_simp; try rfl) hS ?_
        (try simp only [Act.put, List.getElem_toArray, List.getElem_cons_succ, List.getElem_cons_zero, List.setIfInBounds_toArray, List.set_cons_zero, List.set_cons_succ])
        refine wpAnyG_take (i := 25) rfl (by kernel_rfl) (by kernel_rfl) (by kernel_rfl) (by kernel_rfl) (by kernel_rfl) (by kernel_rfl) (fun _ _ _ h => h) rfl (by intro w' hb; obtain ⟨a0, a1, a2, a3, a4, a5, a6, a7, a8⟩ := ask_cells (AskB.later K3.out hb); go_simp; try rfl) hS ?_
        (try simp only [Act.put, List.getElem_toArray, List.getElem_cons_succ, List.getElem_cons_zero, List.setIfInBounds_toArray, List.set_cons_zero, List.set_cons_succ])
        refine wpAnyG_take (i := 27) rfl (by kernel_rfl) (by kernel_rfl) (by kernel_rfl) (by kernel_rfl) (by kernel_rfl) (by kernel_rfl) (fun _ _ _ h => h) rfl (by intro w' hb; obtain ⟨c0, c1, c2, c3, c4, c5⟩ := op_cells (OpB.later K2.out hb); go_simp; try rfl) hS ?_
        (try simp only [Act.put, List.getElem_toArray, List.getElem_cons_succ, List.getElem_cons_zero, List.setIfInBounds_toArray, List.set_cons_zero, List.set_cons_succ])
        refine wpAnyG_take (i := 28) rfl (by kernel_rfl) (by kernel_rfl) (by kernel_rfl) (by kernel_rfl) (by kernel_rfl) (by kernel_rfl) (fun _ _ _ h => h) rfl (by intro w' _; go_simp; try rfl) hS ?_
        (try simp only [Act.put, List.getElem_toArray, List.getElem_cons_succ, List.getElem_cons_zero, List.setIfInBounds_toArray, List.set_cons_zero, List.set_cons_succ])
        refine wpAnyG_take (i := 29) rfl (by kernel_rfl) (by kernel_rfl) (by kernel_rfl) (by kernel_rfl) (by kernel_rfl) (by kernel_rfl) (fun _ _ _ h => h) rfl (by intro w' hb; obtain ⟨a0, a1, a2, a3, a4, a5, a6, a7, a8⟩ := ask_cells (AskB.later K3.out hb); go_simp; try rfl) hS ?_
        (try simp only [Act.put, List.getElem_toArray, List.getElem_cons_succ, List.getElem_cons_zero, List.setIfInBounds_toArray, List.set_cons_zero, List.set_cons_succ])
        refine wpAnyG_step (i := 26) rfl (by kernel_rfl) rfl (fun K hK => ?_)
        go_simp
        refine (HT.out _ (HE2.out _ hS) (RI2.out _ hS)).mono ?_
        rintro e z5 ⟨rfl, hb⟩
        refine hK.out _ _ (bl hS hS.size hb) (fun hS => ?_)
        clear hK K hb
        (try simp only [Act.put, List.getElem_toArray, List.getElem_cons_succ, List.getElem_cons_zero, List.setIfInBounds_toArray, List.set_cons_zero, List.set_cons_succ])
        refine wpAnyG_step (i := 30) rfl (by kernel_rfl) rfl (fun K hK => ?_)
        go_simp
        refine (HTR.out _ (RI2.out _ hS)).mono ?_
        rintro e z6 ⟨rfl, hb⟩
        refine hK.out _ _ (bl hS hS.size hb) (fun hS => ?_)
        clear hK K hb
        (try simp only [Act.put, List.getElem_toArray, List.getElem_cons_succ, List.getElem_cons_zero, List.setIfInBounds_toArray, List.set_cons_zero, List.set_cons_succ])
        refine wpAnyG_take (i := 31) (v := .bool false) rfl (by kernel_rfl) (by kernel_rfl) (by kernel_rfl) (by kernel_rfl) (by kernel_rfl) (by kernel_rfl) (fun _ _ _ h => h) rfl (by intro w' _; go_simp; try (first | rfl | simp)) hS ?_
        (try simp only [Act.put, List.getElem_toArray, List.getElem_cons_succ, List.getElem_cons_zero, List.setIfInBounds_toArray, List.set_cons_zero, List.set_cons_succ])
        refine wpAnyG_take (i := 32) (v := .bool false) rfl (by kernel_rfl) (by kernel_rfl) (by kernel_rfl) (by kernel_rfl) (by kernel_rfl) (by kernel_rfl) (fun _ _ _ h => h) rfl (by intro w' _; go_simp; try rfl) hS ?_
        (try simp only [Act.put, List.getElem_toArray, List.getElem_cons_succ, List.getElem_cons_zero, List.setIfInBounds_toArray, List.set_cons_zero, List.set_cons_succ])
        refine wpAnyU_done (by kernel_rfl) ?_ _
        have HSS := Lib.hid hS
        clear hS HX1 HX2
        go_wp2_with fail
        go_meet
        case rel => exact ⟨rfl, HSS⟩
      · have hcv := conv_bytes HX2.out
        go_simp
        refine hK.out _ _ hS (fun hS => ?_)
        clear hK K hcv
        (try simp only [Act.put, List.getElem_toArray, List.getElem_cons_succ, List.getElem_cons_zero, List.setIfInBounds_toArray, List.set_cons_zero, List.set_cons_succ])
        refine wpAnyG_step (i := 2) rfl (by kernel_rfl) rfl (fun K hK => ?_)
        have hcv := conv_bytes HX1.out
        go_simp
        refine hK.out _ _ hS (fun hS => ?_)
        clear hK K hcv
        (try simp only [Act.put, List.getElem_toArray, List.getElem_cons_succ, List.getElem_cons_zero, List.setIfInBounds_toArray, List.set_cons_zero, List.set_cons_succ])
        refine wpAnyG_take (i := 7) (v := .bool false) rfl (by kernel_rfl) (by kernel_rfl) (by kernel_rfl) (by kernel_rfl) (by kernel_rfl) (by kernel_rfl) (fun _ _ _ h => h) rfl (by intro w' _; go_simp; try (first | rfl | simp)) hS ?_
        (try simp only [Act.put, List.getElem_toArray, List.getElem_cons_succ, List.getElem_cons_zero, List.setIfInBounds_toArray, List.set_cons_zero, List.set_cons_succ])
        refine wpAnyG_take (i := 8) rfl (by kernel_rfl) (by kernel_rfl) (by kernel_rfl) (by kernel_rfl) (by kernel_rfl) (by kernel_rfl) (fun _ _ _ h => h) rfl (by intro w' _; go_simp; try rfl) hS ?_
        (try simp only [Act.put, List.getElem_toArray, List.getElem_cons_succ, List.getElem_cons_zero, List.setIfInBounds_toArray, List.set_cons_zero, List.set_cons_succ])
        refine wpAnyG_take (i := 9) rfl (by kernel_rfl) (by kernel_rfl) (by kernel_rfl) (by kernel_rfl) (by kernel_rfl) (by kernel_rfl) (fun _ _ _ h => h) rfl (by intro w' hb; obtain ⟨c0, c1, c2, c3, c4, c5⟩ := op_cells (OpB.later K2.out hb); go_simp; try rfl) hS ?_
        (try simp only [Act.put, List.getElem_toArray, List.getElem_cons_succ, List.getElem_cons_zero, List.setIfInBounds_toArray, List.set_cons_zero, List.set_cons_succ])
        refine wpAnyG_take (i := 11) rfl (by kernel_rfl) (by kernel_rfl) (by kernel_rfl) (by kernel_rfl) (by kernel_rfl) (by kernel_rfl) (fun _ _ _ h => h) rfl (by intro w' hb; obtain ⟨c0, c1, c2, c3, c4, c5⟩ := op_cells (OpB.later K2.out hb); go_simp; try rfl) hS ?_
        (try simp only [Act.put, List.getElem_toArray, List.getElem_cons_succ, List.getElem_cons_zero, List.setIfInBounds_toArray, List.set_cons_zero, List.set_cons_succ])
        refine wpAnyG_step (i := 10) rfl (by kernel_rfl) rfl (fun K hK => ?_)
        go_simp
        refine (wrong_any o HO.out _ (HE2.out _ hS).k).mono ?_
        rintro e z1 ⟨rfl, hb⟩
        refine hK.out _ _ (bl hS hS.size hb) (fun hS => ?_)
        clear hK K hb
        (try simp only [Act.put, List.getElem_toArray, List.getElem_cons_succ, List.getElem_cons_zero, List.setIfInBounds_toArray, List.set_cons_zero, List.set_cons_succ])
        refine wpAnyG_step (i := 12) rfl (by kernel_rfl) rfl (fun K hK => ?_)
        go_simp
        refine (rwrong_any o _).mono ?_
        rintro e z2 ⟨rfl, hb⟩
        refine hK.out _ _ (bl hS hS.size hb) (fun hS => ?_)
        clear hK K hb
        (try simp only [Act.put, List.getElem_toArray, List.getElem_cons_succ, List.getElem_cons_zero, List.setIfInBounds_toArray, List.set_cons_zero, List.set_cons_succ])
        refine wpAnyG_take (i := 13) (v := .bool false) rfl (by kernel_rfl) (by kernel_rfl) (by kernel_rfl) (by kernel_rfl) (by kernel_rfl) (by kernel_rfl) (fun _ _ _ h => h) rfl (by intro w' _; go_simp; try (first | rfl | simp)) hS ?_
        (try simp only [Act.put, List.getElem_toArray, List.getElem_cons_succ, List.getElem_cons_zero, List.setIfInBounds_toArray, List.set_cons_zero, List.set_cons_succ])
        refine wpAnyG_take (i := 14) (v := .bool false) rfl (by kernel_rfl) (by kernel_rfl) (by kernel_rfl) (by kernel_rfl) (by kernel_rfl) (by kernel_rfl) (fun _ _ _ h => h) rfl (by intro w' _; go_simp; try rfl) hS ?_
        (try simp only [Act.put, List.getElem_toArray, List.getElem_cons_succ, List.getElem_cons_zero, List.setIfInBounds_toArray, List.set_cons_zero, List.set_cons_succ])
        refine wpAnyG_take (i := 15) rfl (by kernel_rfl) (by kernel_rfl) (by kernel_rfl) (by kernel_rfl) (by kernel_rfl) (by kernel_rfl) (fun _ _ _ h => h) rfl (by intro w' _; go_simp; try rfl) hS ?_
        (try simp only [Act.put, List.getElem_toArray, List.getElem_cons_succ, List.getElem_cons_zero, List.setIfInBounds_toArray, List.set_cons_zero, List.set_cons_succ])
        refine wpAnyG_take (i := 16) rfl (by kernel_rfl) (by kernel_rfl) (by kernel_rfl) (by kernel_rfl) (by kernel_rfl) (by kernel_rfl) (fun _ _ _ h => h) rfl (by intro w' hb; obtain ⟨c0, c1, c2, c3, c4, c5⟩ := op_cells (OpB.later K2.out hb); go_simp; try rfl) hS ?_
        (try simp only [Act.put, List.getElem_toArray, List.getElem_cons_succ, List.getElem_cons_zero, List.setIfInBounds_toArray, List.set_cons_zero, List.set_cons_succ])
        refine wpAnyG_take (i := 18) rfl (by kernel_rfl) (by kernel_rfl) (by kernel_rfl) (by kernel_rfl) (by kernel_rfl) (by kernel_rfl) (fun _ _ _ h => h) rfl (by intro w' hb; obtain ⟨c0, c1, c2, c3, c4, c5⟩ := op_cells (OpB.later K2.out hb); go_simp; try rfl) hS ?_
        (try simp only [Act.put, List.getElem_toArray, List.getElem_cons_succ, List.getElem_cons_zero, List.setIfInBounds_toArray, List.set_cons_zero, List.set_cons_succ])
        refine wpAnyG_step (i := 17) rfl (by kernel_rfl) rfl (fun K hK => ?_)
        go_simp
        refine (optext_any o HO.out _ (HE2.out _ hS).t (HE2.out _ hS).k (HE2.out _ hS).e).mono ?_
        rintro e z3 ⟨rfl, hb⟩
        refine hK.out _ _ (bl hS hS.size hb) (fun hS => ?_)
        clear hK K hb
        (try simp only [Act.put, List.getElem_toArray, List.getElem_cons_succ, List.getElem_cons_zero, List.setIfInBounds_toArray, List.set_cons_zero, List.set_cons_succ])
        refine wpAnyG_step (i := 19) rfl (by kernel_rfl) rfl (fun K hK => ?_)
        go_simp
        refine (rtext27_any o HO.out _).mono ?_
        rintro e z4 ⟨rfl, hb⟩
        refine hK.out _ _ (bl hS hS.size hb) (fun hS => ?_)
        clear hK K hb
        (try simp only [Act.put, List.getElem_toArray, List.getElem_cons_succ, List.getElem_cons_zero, List.setIfInBounds_toArray, List.set_cons_zero, List.set_cons_succ])
        refine wpAnyG_take (i := 20) (v := .bool false) rfl (by kernel_rfl) (by kernel_rfl) (by kernel_rfl) (by kernel_rfl) (by kernel_rfl) (by kernel_rfl) (fun _ _ _ h => h) rfl (by intro w' _; go_simp; try (first | rfl | simp)) hS ?_
        (try simp only [Act.put, List.getElem_toArray, List.getElem_cons_succ, List.getElem_cons_zero, List.setIfInBounds_toArray, List.set_cons_zero, List.set_cons_succ])
        refine wpAnyG_take (i := 21) (v := .bool false) rfl (by kernel_rfl) (by kernel_rfl) (by kernel_rfl) (by kernel_rfl) (by kernel_rfl) (by kernel_rfl) (fun _ _ _ h => h) rfl (by intro w' _; go_simp; try rfl) hS ?_
        (try simp only [Act.put, List.getElem_toArray, List.getElem_cons_succ, List.getElem_cons_zero, List.setIfInBounds_toArray, List.set_cons_zero, List.set_cons_succ])
        refine wpAnyG_take (i := 22) rfl (by kernel_rfl) (by kernel_rfl) (by kernel_rfl) (by kernel_rfl) (by kernel_rfl) (by kernel_rfl) (fun _ _ _ h => h) rfl (by intro w' _; go_simp; try rfl) hS ?_
        (try simp only [Act.put, List.getElem_toArray, List.getElem_cons_succ, List.getElem_cons_zero, List.setIfInBounds_toArray, List.set_cons_zero, List.set_cons_succ])
        refine wpAnyG_take (i := 23) rfl (by kernel_rfl) (by kernel_rfl) (by kernel_rfl) (by kernel_rfl) (by kernel_rfl) (by kernel_rfl) (fun _ _ _ h => h) rfl (by intro w' hb; obtain ⟨c0, c1, c2, c3, c4, c5⟩ := op_cells (OpB.later K2.out hb); go_simp; try rfl) hS ?_
        (try simp only [Act.put, List.getElem_toArray, List.getElem_cons_succ, List.getElem_cons_zero, List.setIfInBounds_toArray, List.set_cons_zero, List.set_cons_succ])
        refine wpAnyG_take (i := 24) rfl (by kernel_rfl) (by kernel_rfl) (by kernel_rfl) (by kernel_rfl) (by kernel_rfl) (by kernel_rfl) (fun _ _ _ h => h) rfl (by intro w' _; go_simp; try rfl) hS ?_
        (try simp only [Act.put, List.getElem_toArray, List.getElem_cons_succ, List.getElem_cons_zero, List.setIfInBounds_toArray, List.set_cons_zero, List.set_cons_succ])
        refine wpAnyG_take (i := 25) rfl (by kernel_rfl) (by kernel_rfl) (by kernel_rfl) (by kernel_rfl) (by kernel_rfl) (by kernel_rfl) (fun _ _ _ h => h) rfl (by intro w' hb; obtain ⟨a0, a1, a2, a3, a4, a5, a6, a7, a8⟩ := ask_cells (AskB.later K3.out hb); go_simp; try rfl) hS ?_
        (try simp only [Act.put, List.getElem_toArray, List.getElem_cons_succ, List.getElem_cons_zero, List.setIfInBounds_toArray, List.set_cons_zero, List.set_cons_succ])
        refine wpAnyG_take (i := 27) rfl (by kernel_rfl) (by kernel_rfl) (by kernel_rfl) (by kernel_rfl) (by kernel_rfl) (by kernel_rfl) (fun _ _ _ h => h) rfl (by intro w' hb; obtain ⟨c0, c1, c2, c3, c4, c5⟩ := op_cells (OpB.later K2.out hb); go_simp; try rfl) hS ?_
        (try simp only [Act.put, List.getElem_toArray, List.getElem_cons_succ, List.getElem_cons_zero, List.setIfInBounds_toArray, List.set_cons_zero, List.set_cons_succ])
        refine wpAnyG_take (i := 28) rfl (by kernel_rfl) (by kernel_rfl) (by kernel_rfl) (by kernel_rfl) (by kernel_rfl) (by kernel_rfl) (fun _ _ _ h => h) rfl (by intro w' _; go_simp; try rfl) hS ?_
        (try simp only [Act.put, List.getElem_toArray, List.getElem_cons_succ, List.getElem_cons_zero, List.setIfInBounds_toArray, List.set_cons_zero, List.set_cons_succ])
        refine wpAnyG_take (i := 29) rfl (by kernel_rfl) (by kernel_rfl) (by kernel_rfl) (by kernel_rfl) (by kernel_rfl) (by kernel_rfl) (fun _ _ _ h => h) rfl (by intro w' hb; obtain ⟨a0, a1, a2, a3, a4, a5, a6, a7, a8⟩ := ask_cells (AskB.later K3.out hb); go_simp; try rfl) hS ?_
        (try simp only [Act.put, List.getElem_toArray, List.getElem_cons_succ, List.getElem_cons_zero, List.setIfInBounds_toArray, List.set_cons_zero, List.set_cons_succ])
        refine wpAnyG_step (i := 26) rfl (by kernel_rfl) rfl (fun K hK => ?_)
        go_simp
        refine (HT.out _ (HE2.out _ hS) (RI2.out _ hS)).mono ?_
        rintro e z5 ⟨rfl, hb⟩
        refine hK.out _ _ (bl hS hS.size hb) (fun hS => ?_)
        clear hK K hb
        (try simp only [Act.put, List.getElem_toArray, List.getElem_cons_succ, List.getElem_cons_zero, List.setIfInBounds_toArray, List.set_cons_zero, List.set_cons_succ])
        refine wpAnyG_step (i := 30) rfl (by kernel_rfl) rfl (fun K hK => ?_)
        go_simp
        refine (HTR.out _ (RI2.out _ hS)).mono ?_
        rintro e z6 ⟨rfl, hb⟩
        refine hK.out _ _ (bl hS hS.size hb) (fun hS => ?_)
        clear hK K hb
        (try simp only [Act.put, List.getElem_toArray, List.getElem_cons_succ, List.getElem_cons_zero, List.setIfInBounds_toArray, List.set_cons_zero, List.set_cons_succ])
        refine wpAnyG_take (i := 31) (v := .bool false) rfl (by kernel_rfl) (by kernel_rfl) (by kernel_rfl) (by kernel_rfl) (by kernel_rfl) (by kernel_rfl) (fun _ _ _ h => h) rfl (by intro w' _; go_simp; try (first | rfl | simp)) hS ?_
        (try simp only [Act.put, List.getElem_toArray, List.getElem_cons_succ, List.getElem_cons_zero, List.setIfInBounds_toArray, List.set_cons_zero, List.set_cons_succ])
        refine wpAnyG_take (i := 32) (v := .bool false) rfl (by kernel_rfl) (by kernel_rfl) (by kernel_rfl) (by kernel_rfl) (by kernel_rfl) (by kernel_rfl) (fun _ _ _ h => h) rfl (by intro w' _; go_simp; try rfl) hS ?_
        (try simp only [Act.put, List.getElem_toArray, List.getElem_cons_succ, List.getElem_cons_zero, List.setIfInBounds_toArray, List.set_cons_zero, List.set_cons_succ])
        refine wpAnyU_done (by kernel_rfl) ?_ _
        have HSS := Lib.hid hS
        clear hS HX1 HX2
        go_wp2_with fail
        go_meet
        case rel => exact ⟨rfl, HSS⟩
  case rest =>
    obtain ⟨rfl, HS⟩ := hcut
    have HE2 := Lib.hid (fun (W : World) (h : Below w2.heap.size w2 W) => (HE.out.later HB2.out).later h)
    have RL2 := Lib.hid (fun (W : World) (h : Below w2.heap.size w2 W) => RecRow.later (RL.out.later HB2.out) h)
    have RB2 := Lib.hid (fun (W : World) (h : Below w2.heap.size w2 W) => RecRow.later (RB.out.later HB2.out) h)
    have ROI2 := Lib.hid (fun (W : World) (h : Below w2.heap.size w2 W) => RecRow.later ROI.out h)
    have ROB2 := Lib.hid (fun (W : World) (h : Below w2.heap.size w2 W) => RecRow.later ROB.out h)
    have K32 := Lib.hid (fun (W : World) (h : Below w2.heap.size w2 W) => AskB.later K3.out h)
    have HHS := Lib.hid (fun (W W' : World) (h : Below w2.heap.size w2 W) (hb : Below W.heap.size W W') => bl h h.size hb)
    clear RL RB ROI ROB K3 HT HTR K2
    go_wp2_with fail
    refine (read_all B a2' k2 _ (by omega) HK2.out.1 HK2.out.2 HBB.out (ROB2.out _ HS.out)).mono ?_
    rintro e x1 ⟨ra, rn, rc1, rer, rfl, hb1, hr1⟩
    replace HS := Lib.hid (HHS.out _ _ HS.out hb1)
    have HR1 := Lib.hid hr1
    clear hb1 hr1
    obtain ⟨a0, a1, a2, a3, a4, a5, a6, a7, a8⟩ := ask_cells (K32.out _ HS.out)
    go_wp2_with fail
    refine (rread_all B BA bc _ (by omega) HBB.out (RB2.out _ HS.out)).mono ?_
    rintro e x2 ⟨rb, rm, rc2, rer2, rfl, hb2, hr2⟩
    replace HS := Lib.hid (HHS.out _ _ HS.out hb2)
    have hq : rer2 = rer ∧ rm = rn ∧ ∃ ls : List OpV, ls.length = rn ∧ rn ≤ 1000 ∧ OpRow x2 ra ls ∧ OpRow x2 rb ls := by
      rcases HR1.out with ⟨e1, n1, o1⟩ | ⟨e1, n1, z1, c1, m1⟩ <;> rcases hr2 with ⟨e2, n2, o2⟩ | ⟨e2, n2, z2, c2, m2⟩
      · obtain rfl : rm = rn := by omega
        exact ⟨by rw [e1, e2], rfl, readN rm B, readN_len _ _, by omega, RecRow.later (RecRow.of_own opk o1 (by rw [readN_len])) hb2, RecRow.of_own opk o2 (by rw [readN_len])⟩
      · omega
      · omega
      · exact ⟨by rw [e1, e2], by omega, [], by simp; omega, by omega, .inl rfl, .inl rfl⟩
    obtain ⟨rfl, rfl, ls, hls, hlb, hR1, hR2⟩ := hq
    subst hls
    have HA1 := Lib.hid hR1
    have HA2 := Lib.hid hR2
    clear hb2 hr2 HR1 hR1 hR2 a0 a1 a2 a3 a4 a5 a6 a7 a8
    obtain ⟨a0, a1, a2, a3, a4, a5, a6, a7, a8⟩ := ask_cells (K32.out _ HS.out)
    go_wp2_with fail
    refine (HPA.out _ (HE2.out _ HS.out)).mono ?_
    rintro e x3 ⟨rfl, hb3⟩
    replace HA1 := Lib.hid (RecRow.later HA1.out hb3)
    replace HA2 := Lib.hid (RecRow.later HA2.out hb3)
    replace HS := Lib.hid (HHS.out _ _ HS.out hb3)
    clear hb3 a0 a1 a2 a3 a4 a5 a6 a7 a8
    obtain ⟨a0, a1, a2, a3, a4, a5, a6, a7, a8⟩ := ask_cells (K32.out _ HS.out)
    have hl3 : b2 + 1 < x3.heap.size := Blk.lt (K32.out _ HS.out)
    have K11 := Lib.hid (show OpB (x3.alloc (.cells pv.cells 24)) x3.heap.size pv from Blk.new x3 _ _)
    have HAL := Lib.hid ((Below.refl x3.heap.size x3).alloc (Nat.le_refl _) (.cells pv.cells 24))
    replace HA1 := Lib.hid (RecRow.later HA1.out HAL.out)
    replace HA2 := Lib.hid (RecRow.later HA2.out HAL.out)
    replace HS := Lib.hid (HHS.out _ _ HS.out HAL.out)
    go_wp2_with fail
    refine (HPR.out _).mono ?_
    rintro e x4 ⟨rfl, hb4⟩
    replace HA1 := Lib.hid (RecRow.later HA1.out hb4)
    replace HA2 := Lib.hid (RecRow.later HA2.out hb4)
    replace HS := Lib.hid (HHS.out _ _ HS.out hb4)
    replace K11 := Lib.hid (OpB.later K11.out hb4)
    obtain ⟨b11, hb11⟩ : ∃ b, x3.heap.size = b := ⟨_, rfl⟩
    rw [hb11] at K11 ⊢
    clear hb4 HAL hl3 hb11 a0 a1 a2 a3 a4 a5 a6 a7 a8
    have K13 := Lib.hid (show OpB (x4.alloc (.cells pv.cells 24)) x4.heap.size pv from Blk.new x4 _ _)
    have HAL := Lib.hid ((Below.refl x4.heap.size x4).alloc (Nat.le_refl _) (.cells pv.cells 24))
    replace HA1 := Lib.hid (RecRow.later HA1.out HAL.out)
    replace HA2 := Lib.hid (RecRow.later HA2.out HAL.out)
    replace HS := Lib.hid (HHS.out _ _ HS.out HAL.out)
    replace K11 := Lib.hid (OpB.later K11.out HAL.out)
    go_upto_region 11 with (fail)
    generalize x4.alloc (.cells pv.cells 24) = V5 at HA1 HA2 HS K11 K13 ⊢
    obtain ⟨b13, hb13⟩ : ∃ b, x4.heap.size = b := ⟨_, rfl⟩
    rw [hb13] at K13 ⊢
    clear HAL hb13
    obtain ⟨c0, c1, c2, c3, c4, c5⟩ := op_cells K11.out
    obtain ⟨f0, f1, f2, f3, f4, f5⟩ := op_cells K13.out
    have heq : (rer2 == rer2) = true := by simp
    have heq2 : (pe == pe) = true := by simp
    obtain ⟨a0, a1, a2, a3, a4, a5, a6, a7, a8⟩ := ask_cells (K32.out _ HS.out)
    go_wp2_with fail
    refine (sameOps_same ls (by omega) ra rb rc1 rc2 _ HA1.out HA2.out).mono ?_
    rintro e x6 ⟨rfl, hb6⟩
    replace HS := Lib.hid (HHS.out _ _ HS.out hb6)
    clear hb6 a0 a1 a2 a3 a4 a5 a6 a7 a8 c0 c1 c2 c3 c4 c5 f0 f1 f2 f3 f4 f5 HA1 HA2 K11 K13
    obtain ⟨a0, a1, a2, a3, a4, a5, a6, a7, a8⟩ := ask_cells (K32.out _ HS.out)
    go_wp2_with fail
    refine (sameOps_same L (by omega) a1' LA k1 lc _ (ROI2.out _ HS.out) (RL2.out _ HS.out)).mono ?_
    rintro e x7 ⟨rfl, hb7⟩
    replace HS := Lib.hid (HHS.out _ _ HS.out hb7)
    clear hb7 a0 a1 a2 a3 a4 a5 a6 a7 a8
    obtain ⟨a0, a1, a2, a3, a4, a5, a6, a7, a8⟩ := ask_cells (K32.out _ HS.out)
    have cv1 := conv_rec (cap := k2) (ROB2.out _ HS.out)
    have cv2 := conv_rec (cap := bc) (RB2.out _ HS.out)
    go_wp2_with fail
    refine (awake27_any _ (HE2.out _ HS.out)).mono ?_
    rintro e x9 ⟨rfl, hb9⟩
    replace HS := Lib.hid (HHS.out _ _ HS.out hb9)
    have HF := Lib.hid (bl HB2.out HB2.out.size HS.out)
    clear hb9 a0 a1 a2 a3 a4 a5 a6 a7 a8 cv1 cv2
    go_wp2
    go_ret
    exact ⟨rfl, HF.out⟩
theorem OpsTells_walk (o : OpV) (ho : o.ok) (L : List OpV) (hL : ∀ x ∈ L, x.ok) (LA : Option Addr) (lc : Nat) (hlL : L.length ≤ 9223372036854775807) (B : List Nat) (hB : ∀ x ∈ B, x < 256) (BA : Option Addr) (bc : Nat) (hbc : B.length ≤ bc) (hbm : bc ≤ maxLen) (s : ByteArray) (hs : s.size ≤ maxLen) (r : RepV) (hr : r.ok) (IA : Option Addr) (ic : Nat) (hlI : r.ids.length ≤ 9223372036854775807) (w : World) (rL : OpRow w LA L) (rB : RecRow w bcell 1 BA B) (rI : RecRow w ucell 1 IA r.ids) (hE : Env27 w) :
    Calls Tryz.prog 3 #[o.val, .agg (askC (.slice LA L.length lc) (.slice BA B.length bc) s r.err (.slice IA r.ids.length ic) r.cnt r.yes ((r.wide / 18446744073709551616 : Nat) : Int) ((r.wide % 18446744073709551616 : Nat) : Int))] w fun e w' => e = .returned (.bool true) ∧ Below w.heap.size w w' := by
  by_cases hG : 20 < L.length ∨ 300 < B.length ∨ 200 < s.size ∨ 50 < r.ids.length ∨ r.cnt < 0
  · exact OpsTells_guard o ho L hL LA lc hlL B hB BA bc hbc hbm s hs r hr IA ic hlI w rL rB rI hE hG
  · exact OpsTells_main o ho L hL LA lc hlL B hB BA bc hbc hbm s hs r hr IA ic hlI w rL rB rI hE hG
end Go.Proofs.YtokpgopdkimmmaaGreatDoor
