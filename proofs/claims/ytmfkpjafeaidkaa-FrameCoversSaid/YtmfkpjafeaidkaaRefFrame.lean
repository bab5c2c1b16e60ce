/- The contracts of gridironref06: within, apart, Entered, parent. -/
import Derived.Test.YtmfkpjafeaidkaaCanon
namespace Go.Proofs.Ytmfkpjafeaidkaa
open Go.RowKit
set_option linter.unusedVariables false
set_option linter.unusedSimpArgs false

def withinB (n : Nd) (lo hi : Int) : Bool := decide (lo ≤ n.f) && decide (n.t ≤ hi)
def apartB (n : Nd) (lo hi : Int) : Bool := decide (n.t ≤ lo) || decide (hi ≤ n.f)

set_option maxRecDepth 100000 in
set_option maxHeartbeats 1000000 in
theorem within_any (n : Nd) (lo hi : Int) (w : World) :
    Calls Try.prog 33 #[n.val, .int .i64 lo, .int .i64 hi] w fun e w' => e = .returned (.bool (withinB n lo hi)) ∧ Below w.heap.size w w' := by
  obtain ⟨k, l, r, f, t, a, i⟩ := n
  obtain ⟨R, hR⟩ : ∃ R, withinB ⟨k, l, r, f, t, a, i⟩ lo hi = R := ⟨_, rfl⟩
  rw [hR]
  unfold withinB at hR
  simp only at hR
  by_cases h1 : lo ≤ f
  all_goals by_cases h2 : t ≤ hi
  · have HV : R = true := by rw [← hR]; simp [h1, h2]
    subst HV
    clear hR
    go_enter Try.func33, Try.ntmps33
    go_wp2
    go_ret
    exact ⟨rfl, (Below.refl _ _).alloc (Nat.le_refl _) _⟩
  · have HV : R = false := by rw [← hR]; simp [h1, h2]
    subst HV
    clear hR
    go_enter Try.func33, Try.ntmps33
    go_wp2
    go_ret
    exact ⟨rfl, (Below.refl _ _).alloc (Nat.le_refl _) _⟩
  · have HV : R = false := by rw [← hR]; simp [h1, h2]
    subst HV
    clear hR
    go_enter Try.func33, Try.ntmps33
    go_wp2
    go_ret
    exact ⟨rfl, (Below.refl _ _).alloc (Nat.le_refl _) _⟩
  · have HV : R = false := by rw [← hR]; simp [h1, h2]
    subst HV
    clear hR
    go_enter Try.func33, Try.ntmps33
    go_wp2
    go_ret
    exact ⟨rfl, (Below.refl _ _).alloc (Nat.le_refl _) _⟩
set_option maxRecDepth 100000 in
set_option maxHeartbeats 1000000 in
theorem apart06_any (n : Nd) (lo hi : Int) (w : World) :
    Calls Try.prog 44 #[n.val, .int .i64 lo, .int .i64 hi] w fun e w' => e = .returned (.bool (apartB n lo hi)) ∧ Below w.heap.size w w' := by
  obtain ⟨k, l, r, f, t, a, i⟩ := n
  obtain ⟨R, hR⟩ : ∃ R, apartB ⟨k, l, r, f, t, a, i⟩ lo hi = R := ⟨_, rfl⟩
  rw [hR]
  unfold apartB at hR
  simp only at hR
  by_cases h1 : t ≤ lo
  all_goals by_cases h2 : hi ≤ f
  · have HV : R = true := by rw [← hR]; simp [h1, h2]
    subst HV
    clear hR
    go_enter Try.func44, Try.ntmps44
    go_wp2
    go_ret
    exact ⟨rfl, (Below.refl _ _).alloc (Nat.le_refl _) _⟩
  · have HV : R = true := by rw [← hR]; simp [h1, h2]
    subst HV
    clear hR
    go_enter Try.func44, Try.ntmps44
    go_wp2
    go_ret
    exact ⟨rfl, (Below.refl _ _).alloc (Nat.le_refl _) _⟩
  · have HV : R = true := by rw [← hR]; simp [h1, h2]
    subst HV
    clear hR
    go_enter Try.func44, Try.ntmps44
    go_wp2
    go_ret
    exact ⟨rfl, (Below.refl _ _).alloc (Nat.le_refl _) _⟩
  · have HV : R = false := by rw [← hR]; simp [h1, h2]
    subst HV
    clear hR
    go_enter Try.func44, Try.ntmps44
    go_wp2
    go_ret
    exact ⟨rfl, (Below.refl _ _).alloc (Nat.le_refl _) _⟩

theorem entT_le (lo hi : Int) {n : Nat} (h : 1 ≤ n) : ∀ f, 1 ≤ entT lo hi n f ∧ entT lo hi n f ≤ 2 * n - 1 := by
  refine half_ind (M := fun n => ∀ f, 1 ≤ entT lo hi n f ∧ entT lo hi n f ≤ 2 * n - 1) (fun f => ?_) (fun n h i1 i2 f => ?_) n h
  · rw [entT]; split
    · omega
    · split
      · omega
      · rw [dif_pos (by omega)]; omega
  · obtain ⟨a1, a2, a3, a4⟩ := lhalf_lt h
    have hs := lhalf_add n
    have h1 := i1 f
    have h2 := i2 (f + lhalf n)
    rw [entT]; split
    · omega
    · split
      · omega
      · rw [dif_neg (by omega)]; omega
theorem since_quiet1 {P : Program} {f : FuncId} {args : Array Value} {v : Value} {W : World} {s : Since W} (h : Calls P f args s.w fun e w' => e = .returned v ∧ Below s.w.heap.size s.w w') :
    Calls P f args s.w fun e w' => e = .returned v ∧ ∃ s' : Since W, w' = s'.w :=
  h.mono fun _ w' ⟨he, hb⟩ => ⟨he, ⟨w', bl s.h s.h.size hb⟩, rfl⟩
/-- What the document's Entered says of a tree that lies in the nodes. -/
def EnteredOk (ns : List Nd) (ao : Option Addr) (cap N : Nat) (lo hi : Int) (n : Nat) : Prop := ∀ (f b q : Int) (w : World), SubAt ns n f b → q = b + (2 * n - 2) → NdRow w ao ns →
  Calls Try.prog 34 #[.slice ao N cap, .int .i64 q, .int .i64 lo, .int .i64 hi] w fun e w' => e = .returned (.int .i64 (entT lo hi n f)) ∧ Below w.heap.size w w'
theorem within_apart (ns : List Nd) {n : Nat} {f b lo hi : Int} (h : 1 ≤ n) (h1 : withinB (rootNd n f b) lo hi = false) (h2 : apartB (rootNd n f b) lo hi = false) : 2 ≤ n ∧ ¬(f + n ≤ lo ∨ hi ≤ f) ∧ ¬(lo ≤ f ∧ f + n ≤ hi) := by
  unfold withinB at h1
  unfold apartB at h2
  rw [rootNd_f, rootNd_t h] at h1 h2
  simp at h1 h2
  refine ⟨?_, by omega, by omega⟩
  have := h2.1
  have := h2.2
  by_cases e : lo ≤ f
  · have := h1 e; omega
  · omega

set_option maxRecDepth 100000 in
set_option maxHeartbeats 4000000 in
theorem entered_step (ns : List Nd) (ao : Option Addr) (cap N : Nat) (lo hi : Int) (hN : ns.length = N) (hNl : N ≤ 2000000) (n : Nat) (hn : 1 ≤ n) (ih : 2 ≤ n → EnteredOk ns ao cap N lo hi (lhalf n) ∧ EnteredOk ns ao cap N lo hi (n / 2)) : EnteredOk ns ao cap N lo hi n := by
  intro f b q0 w hsub hq0 hrow
  have hroot := hsub.root
  have hlow := hsub.low
  have hfit := hsub.fits
  obtain ⟨q, hq⟩ : ∃ q : Nat, q0 = q := ⟨q0.toNat, by omega⟩
  subst hq
  have hqN : q < N := by omega
  rw [← hq0] at hroot
  obtain ⟨bx, ox, rfl, e0, e1, e2, e3, e4, e5, e6⟩ := hrow.node q (by omega)
  have hu : ns.getD q Nd.zero = rootNd n f b := by unfold nd at hroot; simpa using hroot
  rw [hu] at e0 e1 e2 e3 e4 e5 e6
  obtain ⟨u, hu2⟩ : ∃ u, rootNd n f b = u := ⟨_, rfl⟩
  have hkids : 2 ≤ n → u.l = b + (2 * lhalf n - 2) ∧ u.r = b + (2 * lhalf n - 1) + (2 * (n / 2 : Nat) - 2) := fun h => by
    obtain ⟨k1, k2, _⟩ := SubAt.kids (f := f) (b := b) h
    rw [← hu2]; exact ⟨k1, k2⟩
  have hwa := within_apart ns (lo := lo) (hi := hi) (f := f) (b := b) hn
  have hent := entT_le lo hi hn f
  rw [hu2] at e0 e1 e2 e3 e4 e5 e6 hwa
  have hbx : bx < w.heap.size := World.block_lt_of_cell? _ _ e0
  have HROW := Lib.hid hrow
  have HSUB := Lib.hid hsub
  have HIH := Lib.hid ih
  have HWA := Lib.hid hwa
  have HK := Lib.hid hkids
  have HU := Lib.hid hu2
  have HNN := Lib.hid hN
  have hw := within_any u lo hi
  have ha := apart06_any u lo hi
  obtain ⟨wi, hwi⟩ : ∃ x, withinB u lo hi = x := ⟨_, rfl⟩
  obtain ⟨ap, hap⟩ : ∃ x, apartB u lo hi = x := ⟨_, rfl⟩
  rw [hwi] at hw HWA
  rw [hap] at ha HWA
  have HW := Lib.hid hw
  have HA := Lib.hid ha
  have HE1 := Lib.hid (show wi = true ∨ ap = true → entT lo hi n f = 1 from fun h => by
    unfold withinB at hwi
    unfold apartB at hap
    rw [← HU.out, rootNd_f, rootNd_t hn] at hwi hap
    by_cases hx : f + n ≤ lo ∨ hi ≤ f
    · exact entT_out hx
    · rcases h with h | h
      · rw [h] at hwi
        simp at hwi
        exact entT_in hx hwi
      · rw [h] at hap
        simp at hap
        omega)
  clear hu hu2 hroot hlow hfit hrow hsub ih hwa hkids hN hw ha hwi hap hq0
  cases wi with
  | true =>
    go_enter Try.func34, Try.ntmps34
    go_wp2_with fail
    refine (HW.out _).mono ?_
    rintro e w1 ⟨rfl, hb1⟩
    go_wp2
    go_ret
    exact ⟨by rw [HE1.out (by simp)]; rfl, hb1⟩
  | false =>
    cases ap with
    | true =>
      go_enter Try.func34, Try.ntmps34
      go_wp2_with fail
      refine (HW.out _).mono ?_
      rintro e w1 ⟨rfl, hb1⟩
      have hc := (bfacts hb1).1
      go_wp2_with fail
      refine (HA.out _).mono ?_
      rintro e w2 ⟨rfl, hb2⟩
      go_wp2
      go_ret
      exact ⟨by rw [HE1.out (by simp)]; rfl, bl hb1 hb1.size hb2⟩
    | false =>
      obtain ⟨n2, x1, x2⟩ := HWA.out rfl rfl
      obtain ⟨i1, i2⟩ := HIH.out n2
      obtain ⟨k1, k2⟩ := HK.out n2
      obtain ⟨la, lb, lc, ld⟩ := lhalf_lt n2
      have hel := entT_le lo hi lc f
      have her := entT_le lo hi ld (f + lhalf n)
      have hfit := HSUB.out.fits
      have hlow := HSUB.out.low
      have hs := lhalf_add n
      have HEE := Lib.hid (entT_two n2 x1 x2)
      have C1 := Lib.hid (fun w' (h : NdRow w' (some ⟨bx, ox, none⟩) ns) => i1 f b u.l w' (HSUB.out.left n2) k1 h)
      have C2 := Lib.hid (fun w' (h : NdRow w' (some ⟨bx, ox, none⟩) ns) => i2 (f + lhalf n) (b + (2 * lhalf n - 1)) u.r w' (HSUB.out.right n2) k2 h)
      rw [HNN.out] at hfit
      have hb1 : entT lo hi (lhalf n) f ≤ 2000000 := by omega
      have hb2 : entT lo hi (n / 2) (f + lhalf n) ≤ 2000000 := by omega
      obtain ⟨E1, hE1⟩ : ∃ x, entT lo hi (lhalf n) f = x := ⟨_, rfl⟩
      obtain ⟨E2, hE2⟩ : ∃ x, entT lo hi (n / 2) (f + lhalf n) = x := ⟨_, rfl⟩
      rw [hE1] at hb1 C1 HEE
      rw [hE2] at hb2 C2 HEE
      clear x1 x2 i1 i2 k1 k2 la lb lc ld hel her hfit hlow hs hE1 hE2 n2 HK HIH HWA
      go_enter Try.func34, Try.ntmps34
      go_wp2_with fail
      refine (HW.out _).mono ?_
      rintro e w1 ⟨rfl, hB1⟩
      have hc := (bfacts hB1).1
      have g1 := (hc bx (ox + q * 7 + 1) hbx).trans e1
      have g2 := (hc bx (ox + q * 7 + 2) hbx).trans e2
      have g0 := (hc bx (ox + q * 7) hbx).trans e0
      have g3 := (hc bx (ox + q * 7 + 3) hbx).trans e3
      have g4 := (hc bx (ox + q * 7 + 4) hbx).trans e4
      have g5 := (hc bx (ox + q * 7 + 5) hbx).trans e5
      have g6 := (hc bx (ox + q * 7 + 6) hbx).trans e6
      have HB1 := Lib.hid hB1
      clear hc e0 e1 e2 e3 e4 e5 e6 hB1
      go_wp2_with fail
      refine (HA.out _).mono ?_
      rintro e w2 ⟨rfl, hB2⟩
      have hc := (bfacts hB2).1
      have hx1 : bx < w1.heap.size := World.block_lt_of_cell? _ _ g0
      have m1 := (hc bx (ox + q * 7 + 1) hx1).trans g1
      have m2 := (hc bx (ox + q * 7 + 2) hx1).trans g2
      have hx2 : bx < w2.heap.size := Nat.lt_of_lt_of_le hx1 hB2.size
      have HB2 := Lib.hid (bl HB1.out HB1.out.size hB2)
      have HR2 := Lib.hid (HROW.out.later HB2.out)
      clear hc g0 g1 g2 g3 g4 g5 g6 hB2
      go_wp2_with fail
      refine since_wp (fun s0 => ?_)
      refine wp_region_since (by kernel_rfl) (by kernel_rfl) ?_
      repeat (go_big_quiet_step (fail))
      go_big_quiet_step ((exact since_quiet1 (C1.out _ (HR2.out.later (Since.h _)))))
      repeat (go_big_quiet_step (fail))
      go_big_quiet_step ((exact since_quiet1 (C2.out _ (HR2.out.later (Since.h _)))))
      repeat (go_big_quiet_step (fail))
      refine wpQuiet_nil ?_
      rintro _ ⟨s3, rfl⟩
      go_wp2
      go_ret
      refine ⟨?_, bl HB2.out HB2.out.size s3.h⟩
      rw [HEE.out]
      simp
      omega
theorem entered_any (ns : List Nd) (ao : Option Addr) (cap N : Nat) (lo hi : Int) (hN : ns.length = N) (hNl : N ≤ 2000000) {n : Nat} (hn : 1 ≤ n) : EnteredOk ns ao cap N lo hi n :=
  half_ind (M := fun n => EnteredOk ns ao cap N lo hi n) (entered_step ns ao cap N lo hi hN hNl 1 (Nat.le_refl _) (fun h => by omega)) (fun n h i1 i2 => entered_step ns ao cap N lo hi hN hNl n (by omega) (fun _ => ⟨i1, i2⟩)) n hn
end Go.Proofs.Ytmfkpjafeaidkaa
