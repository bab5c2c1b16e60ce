/- The contract of Path: from the root down to a leaf. -/
import Derived.Test.YtmfkpjafeaidkaaCanon
namespace Go.Proofs.Ytmfkpjafeaidkaa
open Go.RowKit
set_option linter.unusedVariables false
set_option linter.unusedSimpArgs false

def pathOk (n : Nat) (leaf : Int) : Prop := 0 ≤ leaf ∧ leaf < n
instance (n : Nat) (leaf : Int) : Decidable (pathOk n leaf) := by unfold pathOk; infer_instance
def pathErr (n : Nat) (leaf : Int) : Int := if pathOk n leaf then 0 else 2
def pathL (n : Nat) (leaf : Int) : List Int := if pathOk n leaf then pathT leaf n 0 0 else []
/-- What Path tells. -/
def PathP (fb n : Nat) (leaf : Int) (w : World) (e : Ending) (w' : World) : Prop :=
  ∃ a c, e = .returned (.tuple #[.slice a (pathL n leaf).length c, .int .i64 (pathErr n leaf)]) ∧ w'.ownsRow w.heap.size 3 1 (.slice a (pathL n leaf).length c) (pathL n leaf).length ((pathL n leaf).map (.int .i64)) ∧ FrameIn fb n w' ∧ ChgOnly [fb] w w'
theorem pathT_cons (leaf : Int) (n : Nat) (f b : Int) : pathT leaf n f b = (b + (2 * n - 2)) :: (pathT leaf n f b).tail := by rw [pathT]; rfl
theorem pathT_len (leaf : Int) {n : Nat} (h : 1 ≤ n) : ∀ f b, (pathT leaf n f b).length ≤ n := by
  refine half_ind (M := fun n => ∀ f b, (pathT leaf n f b).length ≤ n) (fun f b => by rw [pathT_leaf (by omega)]; simp) (fun n h i1 i2 f b => ?_) n h
  obtain ⟨a1, a2, a3, a4⟩ := lhalf_lt h
  have hs := lhalf_add n
  by_cases hx : leaf < f + lhalf n
  · rw [pathT_left h hx, List.length_cons]; have := i1 f b; omega
  · rw [pathT_right h hx, List.length_cons]; have := i2 (f + lhalf n) (b + (2 * lhalf n - 1)); omega

set_option maxRecDepth 100000 in
set_option maxHeartbeats 1000000 in
theorem path_no (p : Option Addr) (leaf : Int) (w : World) (h : NoFrame p w) :
    Calls Try.prog 15 #[.pointer p, .int .i64 leaf] w fun e w' => e = .returned (.tuple #[.slice none 0 0, .int .i64 1]) ∧ w = w' := by
  go_enter Try.func15, Try.ntmps15
  go_wp2_with fail
  refine (none_no p w h).mono ?_
  rintro e w1 ⟨rfl, rfl⟩
  go_wp2
  go_ret2
  exact ⟨rfl, rfl⟩
set_option maxRecDepth 100000 in
set_option maxHeartbeats 1000000 in
theorem path_bad (fb n : Nat) (leaf : Int) (w : World) (h : FrameIn fb n w) (hb : ¬ pathOk n leaf) :
    Calls Try.prog 15 #[.pointer (some ⟨fb, 0, none⟩), .int .i64 leaf] w (PathP fb n leaf w) := by
  have HL := Lib.hid (show pathL n leaf = [] ∧ pathErr n leaf = 2 by unfold pathL pathErr; rw [if_neg hb, if_neg hb]; exact ⟨rfl, rfl⟩)
  obtain ⟨d, v, hbk⟩ := h.blk
  obtain ⟨c1, _, _⟩ := blk_cells hbk
  have c4 := c1 4 _ rfl
  have H := Lib.hid h
  have fin : PathP fb n leaf w (.returned (.tuple #[.slice none 0 0, .int .i64 2])) w := by
    refine ⟨none, 0, ?_, ?_, H.out, ChgOnly.refl _ _⟩
    · rw [HL.out.1, HL.out.2]; rfl
    · rw [HL.out.1]; exact nil_own _ _ _
  have FIN := Lib.hid fin
  rcases (show leaf < 0 ∨ (0 ≤ leaf ∧ n ≤ leaf) by unfold pathOk at hb; omega) with h1 | ⟨h1, h2⟩
  all_goals
    clear c1 hbk h fin hb
    go_enter Try.func15, Try.ntmps15
    go_wp2_with fail
    refine (none_yes fb n w H.out).mono ?_
    rintro e w1 ⟨rfl, rfl⟩
    go_wp2
    go_ret2
    exact FIN.out

set_option maxRecDepth 100000 in
set_option maxHeartbeats 4000000 in
theorem path_yes (fb n : Nat) (leaf : Int) (w : World) (h : FrameIn fb n w) (hb : pathOk n leaf) :
    Calls Try.prog 15 #[.pointer (some ⟨fb, 0, none⟩), .int .i64 leaf] w (PathP fb n leaf w) := by
  have HL := Lib.hid (show pathL n leaf = pathT leaf n 0 0 ∧ pathErr n leaf = 0 by unfold pathL pathErr; rw [if_pos hb, if_pos hb]; exact ⟨rfl, rfl⟩)
  obtain ⟨d, v, hbk⟩ := h.blk
  obtain ⟨c1, _, _⟩ := blk_cells hbk
  have c4 := c1 4 _ rfl
  have H := Lib.hid h
  have hn := h.1
  obtain ⟨h1, h2⟩ := hb
  have hn1 : 1 ≤ n := by omega
  have HPL := Lib.hid (pathT_len leaf hn1 0 0)
  have hlt := h.lt
  clear c1 hbk h
  go_enter Try.func15, Try.ntmps15
  go_wp2_with fail
  refine (none_yes fb n w H.out).mono ?_
  rintro e w1 ⟨rfl, rfl⟩
  go_wp2_with fail
  refine (all_any fb n _ H.out).mono ?_
  rintro e w2 ⟨a, c, rfl, g1, _, g2⟩
  have G1 := Lib.hid g1
  have G2 := Lib.hid g2
  have hsz : w.heap.size ≤ w2.heap.size := g2.size
  clear g1 g2 c4
  go_wp2_with fail
  refine (root_yes fb n _ (G1.out.into hn)).mono ?_
  rintro e w1 ⟨rfl, rfl⟩
  have hro : rootOf n = 2 * n - 2 := by unfold rootOf; rw [if_neg (by omega)]
  rw [hro]
  clear hro
  have HDON := Lib.hid (G1.out.into hn)
  have HROW := Lib.hid G1.out.2.row
  have HOK0 := Lib.hid (SubAt.all hn1)
  have hlen : (frameN n).length ≤ 34359738367 := by rw [frameN_len]; omega
  obtain ⟨N, hN⟩ : ∃ N, (frameN n).length = N := ⟨_, rfl⟩
  have HNN := Lib.hid hN
  rw [hN] at hlen ⊢
  have HN2 := Lib.hid (show N = 2 * n - 1 by rw [← hN, frameN_len])
  clear hN
  go_wp2_with fail
  have HD0 := Lib.hid (own_one w2 (.int .i64 (2 * n - 2)) 3 (Nat.le_refl _))
  have HB0 := Lib.hid ((Below.refl w2.heap.size w2).alloc (Nat.le_refl _) (.cells #[.int .i64 (2 * n - 2)] 3))
  obtain ⟨i0, hi0, hzz, hz1, hz2⟩ := info_parts infoInt
  go_loopg [7, 8] n (fun g av ov wr => ∃ (m q : Nat) (f b : Int) (out : List Int) (oa : Option Addr) (oc : Nat), av = .int .i64 (q : Int) ∧ ov = .slice oa out.length oc ∧ q < N ∧ 1 ≤ m ∧ out.length + m ≤ n + 1 ∧ Hid (g = m) ∧ Hid (b + (2 * m - 2) = (q : Int)) ∧ Hid (SubAt (frameN n) m f b) ∧ Hid (wr.ownsRow w2.heap.size 3 1 (.slice oa out.length oc) out.length (out.map (.int .i64))) ∧ Hid (out ++ (pathT leaf m f b).tail = pathT leaf n 0 0) ∧ Hid (Below w2.heap.size w2 wr))
  case atStart =>
    refine ⟨n, 2 * n - 2, 0, 0, [(2 * (n : Int) - 2)], some ⟨w2.heap.size, 0, none⟩, 1, by congr 1; omega, rfl, by have := HN2.out; omega, hn1, by simp; omega, Lib.hid rfl, Lib.hid (by omega), HOK0, Lib.hid (by simpa using HD0.out), Lib.hid ?_, HB0⟩
    have h := pathT_cons leaf n 0 0
    rw [Int.zero_add] at h
    exact h.symm
  case round =>
    clear HD0 HB0
    obtain ⟨m, q, f, b, out, oa, oc, rfl, rfl, hqN, hm1, hom, HG, HQ, HSUB, HO, HPA, HB⟩ := hrel
    have hroot := HSUB.out.root
    rw [HQ.out] at hroot
    obtain ⟨bx, ox, rfl, e0, e1, e2, e3, e4, e5, e6⟩ := (HROW.out.later HB.out).node q (by rw [HNN.out]; exact hqN)
    have hu : (frameN n).getD q Nd.zero = rootNd m f b := by unfold nd at hroot; simpa using hroot
    rw [hu] at e0 e1 e2
    clear e3 e4 e5 e6
    by_cases hm : m < 2
    · have hk : (rootNd m f b).k = 1 := rootNd_leaf hm
      rw [hk] at e0
      have HE := Lib.hid (show out = pathT leaf n 0 0 by have h := HPA.out; rw [pathT_leaf hm] at h; simpa using h)
      clear hk e1 e2 hroot hu
      go_wp2
      go_ret2
      exact ⟨oa, oc, by rw [HL.out.1, HL.out.2, HE.out]; rfl, by rw [HL.out.1, ← HE.out]; exact ownsRow_mono HO.out hsz, HDON.out.later HB.out, below_chg G2.out HB.out⟩
    · have hm2 : 2 ≤ m := by omega
      obtain ⟨k1, k2, k3⟩ := SubAt.kids (f := f) (b := b) hm2
      have hl := lhalf_lt hm2
      have hs := lhalf_add m
      have hsl := HSUB.out.left hm2
      have hsr := HSUB.out.right hm2
      have hfl := hsl.fits
      have hfr := hsr.fits
      have hll := hsl.low
      have hlr := hsr.low
      obtain ⟨q1, hq1⟩ : ∃ q1 : Nat, b + (2 * (lhalf m : Int) - 2) = q1 := ⟨(b + (2 * (lhalf m : Int) - 2)).toNat, by omega⟩
      obtain ⟨q2, hq2⟩ : ∃ q2 : Nat, b + (2 * (lhalf m : Int) - 1) + (2 * ((m / 2 : Nat) : Int) - 2) = q2 := ⟨(b + (2 * (lhalf m : Int) - 1) + (2 * ((m / 2 : Nat) : Int) - 2)).toNat, by omega⟩
      have hq1N : q1 < N := by rw [HNN.out] at hfl; omega
      have hq2N : q2 < N := by rw [HNN.out] at hfr; omega
      rw [k3] at e0
      rw [k1, hq1] at e1
      rw [k2, hq2] at e2
      have hroot1 := hsl.root
      rw [hq1] at hroot1
      have hu1 : (frameN n).getD q1 Nd.zero = rootNd (lhalf m) f b := by unfold nd at hroot1; simpa using hroot1
      obtain ⟨bx', ox', hh, _, _, _, _, e4, _, _⟩ := (HROW.out.later HB.out).node q1 (by rw [HNN.out]; exact hq1N)
      cases hh
      rw [hu1, rootNd_t hl.2.2.1] at e4
      obtain ⟨M, hM⟩ : ∃ M : Int, f + (lhalf m : Int) = M := ⟨_, rfl⟩
      rw [hM] at e4
      have HM := Lib.hid hM
      have HEQ := Lib.hid (show Hid (b + (2 * (lhalf m : Int) - 2) = (q1 : Int)) ∧ Hid (b + (2 * (lhalf m : Int) - 1) + (2 * ((m / 2 : Nat) : Int) - 2) = (q2 : Int)) from ⟨Lib.hid hq1, Lib.hid hq2⟩)
      have HLT := Lib.hid (show lhalf m < m ∧ m / 2 < m ∧ 1 ≤ lhalf m ∧ 1 ≤ m / 2 from hl)
      have hp1 := hl.2.2.1
      have hp2 := hl.2.2.2
      have hb1 := hl.1
      have hb2 := hl.2.1
      have HM2 := Lib.hid hm2
      have hbx := World.block_lt_of_cell? _ _ e0
      have hol : out.length + 1 ≤ n + 1 := by omega
      by_cases hlf : leaf < M
      · have HTL := Lib.hid (show (pathT leaf m f b).tail = (q1 : Int) :: (pathT leaf (lhalf m) f b).tail by rw [pathT_left hm2 (by rw [hM]; exact hlf), List.tail_cons, pathT_cons leaf (lhalf m), hq1]; rfl)
        have hx : leaf < M := hlf
        clear hl hs hsl hsr hfl hfr hll hlr hq1 hq2 hM hu1 hroot1 k1 k2 k3 hroot hu hm hm2 hp2 hb2
        clear hlf
        go_wp2_with (at_builtin; refine wpList_append_any _ rfl (.tmp 56) (.tmp 58) 29 rfl w2.heap.size 3 i0 (.int .i64 0) 1 8 Try.underlying29 hi0 hzz hz1 hz2 rfl (by decide) _ _ _ rfl (HO.out.alloc _) (wr.heap.size + 1) (some ⟨wr.heap.size, 0, none⟩) 1 1 [.int .i64 (q1 : Int)] rfl (reads_cells wr #[.int .i64 (q1 : Int)] _ 1 1 rfl) (by intro u hu; simp at hu; subst hu; rfl) (by unfold maxLen; omega) (by omega) (Nat.le_trans HB.out.size (by simp)) ?_)
        intro v2 w5 ho5 hg5 _
        obtain ⟨oa2, oc2, rfl⟩ := own_shape ho5
        have HB5 := Lib.hid ((HB.out.alloc HB.out.size (.cells #[.int .i64 (q1 : Int)] 3)).grown hg5 (Nat.le_trans HB.out.size (by simp)) (fun r hr => (HO.out.lt r hr).1))
        have HO5 := Lib.hid ho5
        clear ho5 hg5
        go_wp2_with fail
        go_roundg (lhalf m)
        case measure => rw [HG.out]; exact HLT.out.1
        case rel => exact ⟨lhalf m, q1, f, b, out ++ [(q1 : Int)], oa2, oc2, rfl, by rw [List.length_append]; rfl, hq1N, by omega, by rw [List.length_append, List.length_singleton]; omega, Lib.hid rfl, HEQ.out.1, Lib.hid (HSUB.out.left HM2.out), Lib.hid (by have h := HO5.out; rw [List.length_append, List.map_append]; exact h), Lib.hid (by rw [← HPA.out, HTL.out, List.append_assoc]; rfl), HB5⟩
      · have HTL := Lib.hid (show (pathT leaf m f b).tail = (q2 : Int) :: (pathT leaf (m / 2) (f + lhalf m) (b + (2 * lhalf m - 1))).tail by rw [pathT_right hm2 (by rw [hM]; exact hlf), List.tail_cons, pathT_cons leaf (m / 2), hq2]; rfl)
        have hx : M ≤ leaf := by omega
        clear hl hs hsl hsr hfl hfr hll hlr hq1 hq2 hM hu1 hroot1 k1 k2 k3 hroot hu hm hm2 hp1 hb1
        clear hlf
        go_wp2_with (at_builtin; refine wpList_append_any _ rfl (.tmp 56) (.tmp 58) 29 rfl w2.heap.size 3 i0 (.int .i64 0) 1 8 Try.underlying29 hi0 hzz hz1 hz2 rfl (by decide) _ _ _ rfl (HO.out.alloc _) (wr.heap.size + 1) (some ⟨wr.heap.size, 0, none⟩) 1 1 [.int .i64 (q2 : Int)] rfl (reads_cells wr #[.int .i64 (q2 : Int)] _ 1 1 rfl) (by intro u hu; simp at hu; subst hu; rfl) (by unfold maxLen; omega) (by omega) (Nat.le_trans HB.out.size (by simp)) ?_)
        intro v2 w5 ho5 hg5 _
        obtain ⟨oa2, oc2, rfl⟩ := own_shape ho5
        have HB5 := Lib.hid ((HB.out.alloc HB.out.size (.cells #[.int .i64 (q2 : Int)] 3)).grown hg5 (Nat.le_trans HB.out.size (by simp)) (fun r hr => (HO.out.lt r hr).1))
        have HO5 := Lib.hid ho5
        clear ho5 hg5
        go_wp2_with fail
        go_roundg (m / 2)
        case measure => rw [HG.out]; exact HLT.out.2.1
        case rel => exact ⟨m / 2, q2, f + lhalf m, b + (2 * lhalf m - 1), out ++ [(q2 : Int)], oa2, oc2, rfl, by rw [List.length_append]; rfl, hq2N, by omega, by rw [List.length_append, List.length_singleton]; omega, Lib.hid rfl, HEQ.out.2, Lib.hid (HSUB.out.right HM2.out), Lib.hid (by have h := HO5.out; rw [List.length_append, List.map_append]; exact h), Lib.hid (by rw [← HPA.out, HTL.out, List.append_assoc]; rfl), HB5⟩
/-- Path, whatever leaf is asked. -/
theorem path_any (fb n : Nat) (leaf : Int) (w : World) (h : FrameIn fb n w) :
    Calls Try.prog 15 #[.pointer (some ⟨fb, 0, none⟩), .int .i64 leaf] w (PathP fb n leaf w) := by
  by_cases hb : pathOk n leaf
  · exact path_yes fb n leaf w h hb
  · exact path_bad fb n leaf w h hb
end Go.Proofs.Ytmfkpjafeaidkaa
