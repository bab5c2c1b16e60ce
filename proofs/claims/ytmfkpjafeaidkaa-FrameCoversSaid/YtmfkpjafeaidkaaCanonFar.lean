/- Canon and Nodes, with where a frame's nodes lie: not in a block that was there ahead of them. (Written by gen/canonfar.py from XCanon.) -/
import Derived.Test.YtmfkpjafeaidkaaCanon
namespace Go.Proofs.Ytmfkpjafeaidkaa
open Go.RowKit
set_option linter.unusedVariables false
set_option linter.unusedSimpArgs false

/-- The nodes are not made, or do not lie in this block. -/
def FrameAway (fb n p : Nat) (w : World) : Prop := FrameBlk fb n 0 0 (.slice none 0 0) w ∨ ∃ a c, FrameDone fb n a c w ∧ ∀ g, a.map (·.block) = some g → g ≠ p
/-- They do not come to lie in a block that was there. -/
def FrameFrom (fb n : Nat) (w w' : World) : Prop := ∀ p, p < w.heap.size → FrameAway fb n p w → FrameAway fb n p w'
theorem FrameFrom.refl (fb n : Nat) (w : World) : FrameFrom fb n w w := fun _ _ h => h
theorem FrameBlk.same {fb n : Nat} {d d' l l' : Int} {v v' : Value} {w : World} (h : FrameBlk fb n d l v w) (h' : FrameBlk fb n d' l' v' w) : d = d' ∧ v = v' := by
  have h3 := h.symm.trans h'
  simp at h3
  exact ⟨h3.1, h3.2.2⟩
theorem FrameFrom.done {fb n : Nat} {a : Option Addr} {c : Nat} {w w' : World} (hg : FrameDone fb n a c w ∨ NewAt a w) (hd : FrameDone fb n a c w') : FrameFrom fb n w w' := fun p hp h => by
  refine .inr ⟨a, c, hd, fun g hgg => ?_⟩
  rcases hg with hg | hg
  · rcases h with h | ⟨a', c', h, ha⟩
    · exact absurd (FrameBlk.same h hg.1).1 (by decide)
    · have h3 := (FrameBlk.same h.1 hg.1).2
      simp at h3
      obtain ⟨rfl, _⟩ := h3
      exact ha g hgg
  · have := hg g hgg
    omega
theorem FrameAway.later {fb n p : Nat} {w w' : World} (h : FrameAway fb n p w) (hb : Below w.heap.size w w') : FrameAway fb n p w' := by
  rcases h with h | ⟨a, c, h, ha⟩
  · exact .inl ((hb.block fb h.lt).trans h)
  · exact .inr ⟨a, c, h.later hb, ha⟩
/-- Other blocks may turn. -/
theorem FrameAway.chg {fb n p q : Nat} {w w' : World} (h : FrameAway fb n p w) (hq : FrameAway fb n q w) (hne : fb ≠ q) (hc : ChgOnly [q] w w') : FrameAway fb n p w' := by
  rcases h with h | ⟨a, c, h, ha⟩
  · exact .inl ((hc.block fb h.lt (by simpa using hne)).trans h)
  · refine .inr ⟨a, c, ⟨(hc.block fb h.1.lt (by simpa using hne)).trans h.1, h.2.keep fun g hg => hc.block g (h.2.lt g hg) ?_⟩, ha⟩
    rcases hq with hq | ⟨a', c', hq, ha'⟩
    · exact absurd (FrameBlk.same hq h.1).1 (by decide)
    · have h3 := (FrameBlk.same hq.1 h.1).2
      simp at h3
      obtain ⟨rfl, _⟩ := h3
      simpa using ha' g hg
theorem FrameAway.other {fb n gb m p : Nat} {w w' : World} (h : FrameAway fb n p w) (k : FrameIn gb m w) (hne : fb ≠ gb) (hc : ChgOnly [gb] w w') : FrameAway fb n p w' := by
  obtain ⟨d, v, hb⟩ := k.blk
  rcases h with h | ⟨a, c, h, ha⟩
  · exact .inl ((hc.block fb h.lt (by simpa using hne)).trans h)
  · exact .inr ⟨a, c, ⟨(hc.block fb h.1.lt (by simpa using hne)).trans h.1, h.2.chg hb (by decide) hc⟩, ha⟩
/-- A store into a block that holds none of a frame. -/
theorem FrameIn.away {fb n q : Nat} {w w' : World} (h : FrameIn fb n w) (hq : FrameAway fb n q w) (hne : fb ≠ q) (hc : ChgOnly [q] w w') : FrameIn fb n w' := by
  rcases hq with hq | ⟨a, c, hq, ha⟩
  · exact ⟨h.1, .inl ((hc.block fb hq.lt (by simpa using hne)).trans hq)⟩
  · exact ⟨h.1, .inr ⟨a, c, (hc.block fb hq.1.lt (by simpa using hne)).trans hq.1, hq.2.keep fun g hg => hc.block g (hq.2.lt g hg) (by simpa using ha g hg)⟩⟩
theorem newFrame_away (n p : Nat) (w : World) : FrameAway w.heap.size n p (w.alloc (newFrame n)) := .inl (World.alloc_heap_new w _)

/-- What Canon tells, and where the nodes are not. -/
def CanonF (fb n : Nat) (lo hi : Int) (w : World) (e : Ending) (w' : World) : Prop :=
  ∃ a c, e = .returned (.tuple #[.slice a (canonL n lo hi).length c, .int .i64 (canonE n lo hi), .int .i64 (canonErr n lo hi)]) ∧ w'.ownsRow w.heap.size 3 1 (.slice a (canonL n lo hi).length c) (canonL n lo hi).length ((canonL n lo hi).map (.int .i64)) ∧ FrameIn fb n w' ∧ ChgOnly [fb] w w' ∧ FrameFrom fb n w w'

set_option maxRecDepth 100000 in
set_option maxHeartbeats 1000000 in
theorem canon_bad_far (fb n : Nat) (lo hi : Int) (w : World) (h : FrameIn fb n w) (hb : ¬ canonOk n lo hi) :
    Calls Try.prog 12 #[.pointer (some ⟨fb, 0, none⟩), .int .i64 lo, .int .i64 hi] w (CanonF fb n lo hi w) := by
  have HL := Lib.hid (show canonL n lo hi = [] ∧ canonE n lo hi = 0 ∧ canonErr n lo hi = 2 by
    unfold canonL canonE canonErr; rw [if_neg hb, if_neg (fun h => hb h.1), if_neg (fun h => hb h.1)]; exact ⟨rfl, rfl, rfl⟩)
  obtain ⟨d, v, hbk⟩ := h.blk
  obtain ⟨c1, _, _⟩ := blk_cells hbk
  have c4 := c1 4 _ rfl
  have H := Lib.hid h
  clear c1 hbk h
  have fin : ∀ a' : Array Value, a'[6]?.getD undef = .slice none 0 0 → a'[7]?.getD undef = .int .i64 0 → a'[8]?.getD undef = .int .i64 2 → bodyPost Try.prog Try.f12 (CanonF fb n lo hi w) .ret { tmps := a', defers := [] } w := by
    intro a' h1 h2 h3
    refine bodyPost_ret (v := .tuple #[.slice none 0 0, .int .i64 0, .int .i64 2]) ?_ rfl ?_
    · simp [results, Try.results12, go_sem, h1, h2, h3]
    · refine ⟨none, 0, ?_, ?_, H.out, ChgOnly.refl _ _, FrameFrom.refl _ _ _⟩
      · rw [HL.out.1, HL.out.2.1, HL.out.2.2]; rfl
      · rw [HL.out.1]; exact nil_own _ _ _
  have FIN := Lib.hid fin
  clear fin
  by_cases h1 : lo < 0
  · clear hb
    go_enter Try.func12, Try.ntmps12
    go_wp2_with fail
    refine (none_yes fb n w H.out).mono ?_
    rintro e w1 ⟨rfl, rfl⟩
    go_wp2
    exact FIN.out _ rfl rfl rfl
  · have h1' : 0 ≤ lo := by omega
    by_cases h2 : hi < lo
    · clear hb h1
      go_enter Try.func12, Try.ntmps12
      go_wp2_with fail
      refine (none_yes fb n w H.out).mono ?_
      rintro e w1 ⟨rfl, rfl⟩
      go_wp2
      exact FIN.out _ rfl rfl rfl
    · have h2' : lo ≤ hi := by omega
      have h3 : (n : Int) < hi := by
        unfold canonOk at hb
        omega
      clear hb h1 h2
      go_enter Try.func12, Try.ntmps12
      go_wp2_with fail
      refine (none_yes fb n w H.out).mono ?_
      rintro e w1 ⟨rfl, rfl⟩
      go_wp2
      exact FIN.out _ rfl rfl rfl
set_option maxRecDepth 100000 in
set_option maxHeartbeats 1000000 in
theorem canon_same_far (fb n : Nat) (lo hi : Int) (w : World) (h : FrameIn fb n w) (hb : canonOk n lo hi) (he : lo = hi) :
    Calls Try.prog 12 #[.pointer (some ⟨fb, 0, none⟩), .int .i64 lo, .int .i64 hi] w (CanonF fb n lo hi w) := by
  have HL := Lib.hid (show canonL n lo hi = [] ∧ canonE n lo hi = 0 ∧ canonErr n lo hi = 0 by
    unfold canonL canonE canonErr; rw [if_pos hb, if_neg (fun h => by omega), if_neg (fun h => by omega)]; exact ⟨rfl, rfl, rfl⟩)
  obtain ⟨d, v, hbk⟩ := h.blk
  obtain ⟨c1, _, _⟩ := blk_cells hbk
  have c4 := c1 4 _ rfl
  have H := Lib.hid h
  obtain ⟨h1, h2, h3⟩ := hb
  have hq : (lo == hi) = true := by simpa using he
  clear c1 hbk h he
  go_enter Try.func12, Try.ntmps12
  go_wp2_with fail
  refine (none_yes fb n w H.out).mono ?_
  rintro e w1 ⟨rfl, rfl⟩
  go_wp2
  refine bodyPost_ret (v := .tuple #[.slice none 0 0, .int .i64 0, .int .i64 0]) ?_ rfl ?_
  · simp [results, Try.results12, go_sem]
  · refine ⟨none, 0, ?_, ?_, H.out, ChgOnly.refl _ _, FrameFrom.refl _ _ _⟩
    · rw [HL.out.1, HL.out.2.1, HL.out.2.2]; rfl
    · rw [HL.out.1]; exact nil_own _ _ _

set_option maxRecDepth 100000 in
set_option maxHeartbeats 8000000 in
theorem canon_yes_far (fb n : Nat) (lo hi : Int) (w : World) (h : FrameIn fb n w) (hb : canonOk n lo hi) (he : lo < hi) :
    Calls Try.prog 12 #[.pointer (some ⟨fb, 0, none⟩), .int .i64 lo, .int .i64 hi] w (CanonF fb n lo hi w) := by
  have HL := Lib.hid (show canonL n lo hi = canonT lo hi n 0 0 ∧ canonE n lo hi = entT lo hi n 0 ∧ canonErr n lo hi = 0 by
    unfold canonL canonE canonErr; rw [if_pos hb, if_pos ⟨hb, he⟩, if_pos ⟨hb, he⟩]; exact ⟨rfl, rfl, rfl⟩)
  obtain ⟨d, v, hbk⟩ := h.blk
  obtain ⟨c1, _, _⟩ := blk_cells hbk
  have c4 := c1 4 _ rfl
  have H := Lib.hid h
  have hn := h.1
  obtain ⟨h1, h2, h3⟩ := hb
  have hn1 : 1 ≤ n := by omega
  have hq : (lo == hi) = false := by simp; omega
  have hlt := h.lt
  clear c1 hbk h he
  go_enter Try.func12, Try.ntmps12
  go_wp2_with fail
  refine (none_yes fb n w H.out).mono ?_
  rintro e w1 ⟨rfl, rfl⟩
  go_wp2_with fail
  refine (all_any fb n _ H.out).mono ?_
  rintro e w2 ⟨a, c, rfl, g1, gn, g2⟩
  have GN := Lib.hid gn
  clear gn
  have G1 := Lib.hid g1
  have G2 := Lib.hid g2
  have hsz : w.heap.size ≤ w2.heap.size := g2.size
  clear g1 g2 c4
  go_wp2_with fail
  refine (root_yes fb n _ (G1.out.into hn)).mono ?_
  rintro e w1 ⟨rfl, rfl⟩
  have hro : rootOf n = 2 * n - 2 := by unfold rootOf; rw [if_neg (by omega)]
  rw [hro]
  have HLN := Lib.hid (frameN_len n)
  clear hro
  have HDON := Lib.hid (G1.out.into hn)
  have HROW := Lib.hid G1.out.2.row
  have HOK0 := Lib.hid (SubAt.all hn1)
  have hlen : (frameN n).length ≤ 34359738367 := by rw [frameN_len]; omega
  obtain ⟨N, hN⟩ : ∃ N, (frameN n).length = N := ⟨_, rfl⟩
  have HNN := Lib.hid hN
  rw [hN] at hlen ⊢
  have HN2 := Lib.hid (show N = 2 * n - 1 by rw [← hN, frameN_len])
  clear hN
  go_wp2_with fail
  have HD0 := Lib.hid (own_one w2 (.int .i64 (2 * n - 2)) 3 (Nat.le_refl _))
  have HB0 := Lib.hid ((Below.refl w2.heap.size w2).alloc (Nat.le_refl _) (.cells #[.int .i64 (2 * n - 2)] 3))
  obtain ⟨i0, hi0, hzz, hz1, hz2⟩ := info_parts infoInt
  go_loopg [10, 11, 12] (triSz [(n, (0 : Int), (0 : Int))]) (fun g ov ev dv wr => ∃ (st : List Tri) (out : List Int) (k : Nat) (oa : Option Addr) (oc : Nat) (da : Option Addr) (dc : Nat), ov = .slice oa out.length oc ∧ ev = .int .i64 (k : Int) ∧ dv = .slice da st.length dc ∧ k + g ≤ N ∧ out.length + g ≤ N ∧ st.length ≤ g ∧ Hid (g = triSz st) ∧ Hid (wr.ownsRow w2.heap.size 3 1 (.slice da st.length dc) st.length ((st.reverse.map Tri.place).map (.int .i64))) ∧ Hid (wr.ownsRow w2.heap.size 3 1 (.slice oa out.length oc) out.length (out.map (.int .i64))) ∧ Hid (∀ g, (Value.slice da st.length dc).ownBlock = some g → (Value.slice oa out.length oc).ownBlock ≠ some g) ∧ Hid (out ++ triCan lo hi st = canonT lo hi n 0 0) ∧ Hid (k + triEnt lo hi st = entT lo hi n 0) ∧ Hid (TriOk (frameN n) st) ∧ Hid (Below w2.heap.size w2 wr))
  case atStart =>
    refine ⟨[(n, 0, 0)], [], 0, none, 0, some ⟨w2.heap.size, 0, none⟩, 1, rfl, rfl, rfl, ?_, ?_, ?_, Lib.hid rfl, Lib.hid ?_, Lib.hid (nil_own _ _ _), Lib.hid (fun g _ h => (by simp [Value.ownBlock] at h)), Lib.hid ?_, Lib.hid ?_, Lib.hid ?_, HB0⟩
    all_goals try (have := HN2.out; simp [triSz]; omega)
    · have h := HD0.out
      simpa [Tri.place] using h
    · simp [triCan]
    · simp [triEnt]
    · intro t ht
      have : t = (n, 0, 0) := by simpa using ht
      subst this
      exact HOK0.out
  case round =>
    clear HD0 HB0
    obtain ⟨st, out, k, oa, oc, da, dc, rfl, rfl, rfl, hkg, hog, hsg, HG, HD, HO, HAP, HCA, HEN, HOK, HB⟩ := hrel
    cases st with
    | nil =>
      have HE := Lib.hid (show out = canonT lo hi n 0 0 ∧ k = entT lo hi n 0 from ⟨by have h := HCA.out; simpa [triCan] using h, by have h := HEN.out; simpa [triEnt] using h⟩)
      go_wp2
      refine bodyPost_ret (v := .tuple #[.slice oa out.length oc, .int .i64 k, .int .i64 0]) ?_ rfl ?_
      · simp [results, Try.results12, go_sem]
      · refine ⟨oa, oc, ?_, ?_, HDON.out.later HB.out, below_chg G2.out HB.out, FrameFrom.done GN.out (G1.out.later HB.out)⟩
        · rw [HL.out.1, HL.out.2.1, HL.out.2.2, HE.out.1, HE.out.2]
        · rw [HL.out.1, ← HE.out.1]; exact ownsRow_mono HO.out hsz
    | cons t st =>
      obtain ⟨m, f, b⟩ := t
      have hsub := HOK.out (m, f, b) (List.mem_cons_self ..)
      have hpos := hsub.pos
      have hroot := hsub.root
      have hlow := hsub.low
      have hfit := hsub.fits
      simp only at hsub hpos hroot hlow hfit
      obtain ⟨q, hq⟩ : ∃ q : Nat, b + (2 * (m : Int) - 2) = q := ⟨(b + (2 * (m : Int) - 2)).toNat, by omega⟩
      have hqN : q < N := by rw [HNN.out] at hfit; omega
      have HD1 := HD.out
      rw [List.reverse_cons, List.map_append, List.map_append, List.length_cons] at HD1
      have hpl : Tri.place (m, f, b) = (q : Int) := hq
      rw [List.map_singleton, List.map_singleton, hpl] at HD1
      obtain ⟨dg, rfl⟩ := own_addr HD1 (by omega)
      have hcell : wr.cell? ⟨dg, st.length, none⟩ = some (.int .i64 (q : Int)) := by rw [HD1.cellAt st.length (by omega), List.getElem?_append_right (by simp)]; simp
      have hdc := own_cap HD1
      have hpop := ownsRow_pop (n := st.length) (size := 1) (by simp) HD1
      obtain ⟨bx, ox, rfl, e0, e1, e2, e3, e4, e5, e6⟩ := (HROW.out.later HB.out).node q (by rw [HNN.out]; exact hqN)
      have hu : (frameN n).getD q Nd.zero = rootNd m f b := by
        rw [hq] at hroot; unfold nd at hroot; simpa using hroot
      rw [hu] at e0 e1 e2 e3 e4 e5 e6
      rw [rootNd_f] at e3
      rw [rootNd_t hpos] at e4
      obtain ⟨u, hu2⟩ : ∃ u, rootNd m f b = u := ⟨_, rfl⟩
      rw [hu2] at e0 e1 e2 e5 e6
      obtain ⟨T, hT⟩ : ∃ T : Int, f + m = T := ⟨_, rfl⟩
      rw [hT] at e4
      have HU := Lib.hid hu2
      have HT := Lib.hid hT
      have HP := Lib.hid hpop
      have HQ := Lib.hid hq
      have HSUB := Lib.hid hsub
      have HPOS := Lib.hid hpos
      have hl1 : ((m, f, b) :: st).length = st.length + 1 := rfl
      rw [hl1] at hsg HAP ⊢
      have hbx := World.block_lt_of_cell? _ _ e0
      have hbx' : bx < wr.heap.size := hbx
      have hdg := (HD1.lt dg rfl).2
      clear hsub hpos hroot hlow hfit hu hu2 hT hpop hq HD1 HD hbx hl1 hpl
      have HGZ := Lib.hid (show triSz ((m, f, b) :: st) = (2 * m - 1) + triSz st by simp [triSz])
      have HCO := Lib.hid (show triCan lo hi ((m, f, b) :: st) = canonT lo hi m f b ++ triCan lo hi st by simp [triCan])
      have HEO := Lib.hid (show triEnt lo hi ((m, f, b) :: st) = entT lo hi m f + triEnt lo hi st by simp [triEnt])
      have HST := Lib.hid (triSz_len (HOK.out.tail))
      by_cases hout : T ≤ lo ∨ hi ≤ f
      · have HXC := Lib.hid (show canonT lo hi m f b = [] from canonT_out (by rw [HT.out]; exact hout))
        have HXE := Lib.hid (show entT lo hi m f = 1 from entT_out (by rw [HT.out]; exact hout))
        rcases (show T ≤ lo ∨ (lo < T ∧ hi ≤ f) by omega) with hx | ⟨hx, hy⟩
        · clear hout
          go_wp2_with fail
          go_roundg (triSz st)
          case measure => rw [HG.out, HGZ.out]; have := HPOS.out; omega
          case rel => exact ⟨st, out, k + 1, oa, oc, some ⟨dg, 0, none⟩, dc, rfl, by go_num, rfl, by have := HG.out; have := HGZ.out; have := HPOS.out; omega, by have := HG.out; have := HGZ.out; have := HPOS.out; omega, HST.out, Lib.hid rfl, Lib.hid (HP.out.alloc _), Lib.hid (HO.out.alloc _), Lib.hid (fun g h => HAP.out g h), Lib.hid (by rw [← HCA.out, HCO.out, HXC.out]; simp), Lib.hid (by rw [← HEN.out, HEO.out, HXE.out]; omega), Lib.hid HOK.out.tail, Lib.hid (HB.out.alloc HB.out.size _)⟩
        · clear hout
          go_wp2_with fail
          go_roundg (triSz st)
          case measure => rw [HG.out, HGZ.out]; have := HPOS.out; omega
          case rel => exact ⟨st, out, k + 1, oa, oc, some ⟨dg, 0, none⟩, dc, rfl, by go_num, rfl, by have := HG.out; have := HGZ.out; have := HPOS.out; omega, by have := HG.out; have := HGZ.out; have := HPOS.out; omega, HST.out, Lib.hid rfl, Lib.hid (HP.out.alloc _), Lib.hid (HO.out.alloc _), Lib.hid (fun g h => HAP.out g h), Lib.hid (by rw [← HCA.out, HCO.out, HXC.out]; simp), Lib.hid (by rw [← HEN.out, HEO.out, HXE.out]; omega), Lib.hid HOK.out.tail, Lib.hid (HB.out.alloc HB.out.size _)⟩
      · obtain ⟨ho1, ho2⟩ : lo < T ∧ f < hi := by omega
        by_cases hin : lo ≤ f ∧ T ≤ hi
        · have HXC := Lib.hid (show canonT lo hi m f b = [(q : Int)] by rw [canonT_in (by rw [HT.out]; exact hout) (by rw [HT.out]; exact hin), HQ.out])
          have HXE := Lib.hid (show entT lo hi m f = 1 from entT_in (by rw [HT.out]; exact hout) (by rw [HT.out]; exact hin))
          obtain ⟨hi1, hi2⟩ := hin
          have hol : out.length + 1 ≤ N := by have := HG.out; have := HGZ.out; have := HPOS.out; omega
          clear hout
          go_wp2_with (at_builtin; refine wpList_append_any _ rfl (.tmp 92) (.tmp 94) 29 rfl w2.heap.size 3 i0 (.int .i64 0) 1 8 Try.underlying29 hi0 hzz hz1 hz2 rfl (by decide) _ _ _ rfl ((HO.out.alloc _).alloc _) (wr.heap.size + 1 + 1) (some ⟨wr.heap.size + 1, 0, none⟩) 1 1 [.int .i64 (q : Int)] rfl (canon_reads (by simp) #[.int .i64 (q : Int)] _ 1 1 rfl) (by intro u hu; simp at hu; subst hu; rfl) (by unfold maxLen; omega) (by omega) (Nat.le_trans HB.out.size (by simp; omega)) ?_)
          intro v2 w5 ho5 hg5 hv5
          obtain ⟨oa2, oc2, rfl⟩ := own_shape ho5
          have hba := ((HB.out.alloc HB.out.size (.cells #[.int .u8 u.k, .int .i64 u.l, .int .i64 u.r, .int .i64 f, .int .i64 T, .int .i64 u.a, .int .i64 u.i] 49)).alloc (Nat.le_trans HB.out.size (by simp)) (.cells #[.int .i64 (q : Int)] 3))
          have HB5 := Lib.hid (hba.grown hg5 (Nat.le_trans HB.out.size (by simp; omega)) (fun r hr => (HO.out.lt r hr).1))
          have HD5 := Lib.hid (ownsRow_block ((HP.out.alloc _).alloc _) (fun g hg => hg5.block g ((((HP.out.alloc _).alloc _).lt g hg).2) (fun e => HAP.out g hg e.symm)))
          have HAP5 := Lib.hid (show ∀ g, (Value.slice (some ⟨dg, 0, none⟩) st.length dc).ownBlock = some g → (Value.slice oa2 (out.length + 1) oc2).ownBlock ≠ some g from fun g h1 h2 => by
            rcases hv5 with e | e
            · exact HAP.out g h1 (e ▸ h2)
            · rw [e] at h2
              have h3 := (HP.out.lt g h1).2
              simp only [Option.some.injEq] at h2
              omega)
          have HO5 := Lib.hid ho5
          clear ho5 hg5 hv5 hba
          go_wp2_with fail
          go_roundg (triSz st)
          case measure => rw [HG.out, HGZ.out]; have := HPOS.out; omega
          case rel => exact ⟨st, out ++ [(q : Int)], k + 1, oa2, oc2, some ⟨dg, 0, none⟩, dc, (by rw [List.length_append]; rfl), by go_num, rfl, by have := HG.out; have := HGZ.out; have := HPOS.out; omega, by have := HG.out; have := HGZ.out; have := HPOS.out; rw [List.length_append, List.length_singleton]; omega, HST.out, Lib.hid rfl, HD5, Lib.hid (by have h := HO5.out; rw [List.length_append, List.map_append]; exact h), Lib.hid (by rw [List.length_append]; exact HAP5.out), Lib.hid (by rw [← HCA.out, HCO.out, HXC.out]; simp), Lib.hid (by rw [← HEN.out, HEO.out, HXE.out]; omega), Lib.hid HOK.out.tail, HB5⟩
        · have hm2 : 2 ≤ m := by
            have := HPOS.out
            have := HT.out
            omega
          obtain ⟨la, lb, lc, ld⟩ := lhalf_lt hm2
          have hs := lhalf_add m
          have HXC := Lib.hid (canonT_two (b := b) hm2 (by rw [HT.out]; exact hout) (by rw [HT.out]; exact hin))
          have HXE := Lib.hid (entT_two hm2 (by rw [HT.out]; exact hout) (by rw [HT.out]; exact hin))
          have HKID := Lib.hid (show u.l = Tri.place (lhalf m, f, b) ∧ u.r = Tri.place (m / 2, f + lhalf m, b + (2 * lhalf m - 1)) by
            obtain ⟨k1, k2, _⟩ := SubAt.kids (f := f) (b := b) hm2
            rw [← HU.out]
            exact ⟨k1, k2⟩)
          have HZ2 := Lib.hid (show triSz ((lhalf m, f, b) :: (m / 2, f + (lhalf m : Int), b + (2 * (lhalf m : Int) - 1)) :: st) = (2 * m - 2) + triSz st by simp only [triSz, List.map_cons, List.sum_cons]; omega)
          have HOK2 := Lib.hid (show TriOk (frameN n) ((lhalf m, f, b) :: (m / 2, f + (lhalf m : Int), b + (2 * (lhalf m : Int) - 1)) :: st) by
            intro t ht
            rcases List.mem_cons.1 ht with rfl | ht
            · exact HSUB.out.left hm2
            · rcases List.mem_cons.1 ht with rfl | ht
              · exact HSUB.out.right hm2
              · exact HOK.out.tail t ht)
          have HST2 := Lib.hid (triSz_len HOK2.out)
          have hstl : st.length + 2 ≤ N := by have := HST2.out; have := HZ2.out; have := HG.out; have := HGZ.out; have := HPOS.out; simp only [List.length_cons] at *; omega
          have HM2 := Lib.hid hm2
          have HC2 := Lib.hid (show triCan lo hi ((lhalf m, f, b) :: (m / 2, f + (lhalf m : Int), b + (2 * (lhalf m : Int) - 1)) :: st) = canonT lo hi m f b ++ triCan lo hi st by rw [HXC.out]; simp [triCan])
          have HE2 := Lib.hid (show 1 + triEnt lo hi ((lhalf m, f, b) :: (m / 2, f + (lhalf m : Int), b + (2 * (lhalf m : Int) - 1)) :: st) = entT lo hi m f + triEnt lo hi st by rw [HXE.out]; simp [triEnt]; omega)
          rcases (show f < lo ∨ (lo ≤ f ∧ hi < T) by omega) with hx | ⟨hx, hy⟩
          all_goals
            clear hout hin la lb lc ld hs hm2
            go_wp2_with (at_builtin; refine wpList_append_any _ rfl (.tmp 63) (.tmp 68) 29 rfl w2.heap.size 3 i0 (.int .i64 0) 1 8 Try.underlying29 hi0 hzz hz1 hz2 rfl (by decide) _ _ _ rfl ((HP.out.alloc _).alloc _) (wr.heap.size + 1 + 1) (some ⟨wr.heap.size + 1, 0, none⟩) 2 2 [.int .i64 u.r, .int .i64 u.l] rfl (canon_reads (by simp) #[.int .i64 u.r, .int .i64 u.l] _ 2 1 rfl) (by intro x hx; simp at hx; rcases hx with rfl | rfl <;> rfl) (by unfold maxLen; omega) (by omega) (Nat.le_trans HB.out.size (by simp; omega)) ?_)
            intro v2 w5 ho5 hg5 hv5
            obtain ⟨da2, dc2, rfl⟩ := own_shape ho5
            have hba := ((HB.out.alloc HB.out.size (.cells #[.int .u8 u.k, .int .i64 u.l, .int .i64 u.r, .int .i64 f, .int .i64 T, .int .i64 u.a, .int .i64 u.i] 49)).alloc (Nat.le_trans HB.out.size (by simp)) (.cells #[.int .i64 u.r, .int .i64 u.l] 3))
            have HB5 := Lib.hid (hba.grown hg5 (Nat.le_trans HB.out.size (by simp; omega)) (fun r hr => (HP.out.lt r hr).1))
            have HO5 := Lib.hid (ownsRow_block ((HO.out.alloc _).alloc _) (fun g hg => hg5.block g ((((HO.out.alloc _).alloc _).lt g hg).2) (fun e => HAP.out g e.symm hg)))
            have HAP5 := Lib.hid (show ∀ g, (Value.slice da2 (st.length + 2) dc2).ownBlock = some g → (Value.slice oa out.length oc).ownBlock ≠ some g from fun g h1 h2 => by
              rcases hv5 with e | e
              · exact HAP.out g (e ▸ h1) h2
              · rw [e] at h1
                have h3 := (HO.out.lt g h2).2
                simp only [Option.some.injEq] at h1
                omega)
            have HD5 := Lib.hid ho5
            clear ho5 hg5 hv5 hba
            go_wp2_with fail
            go_roundg (triSz ((lhalf m, f, b) :: (m / 2, f + (lhalf m : Int), b + (2 * (lhalf m : Int) - 1)) :: st))
            case measure => rw [HG.out, HGZ.out, HZ2.out]; have := HPOS.out; omega
            case rel => exact ⟨_, out, k + 1, oa, oc, da2, dc2, rfl, by go_num, rfl, by have := HG.out; have := HGZ.out; have := HPOS.out; have := HZ2.out; omega, by have := HG.out; have := HGZ.out; have := HPOS.out; have := HZ2.out; omega, HST2.out, Lib.hid rfl, Lib.hid (by have h := HD5.out; rw [HKID.out.1, HKID.out.2] at h; simpa using h), HO5, HAP5, Lib.hid (by rw [← HCA.out, HCO.out, HC2.out]), Lib.hid (by rw [← HEN.out, HEO.out, ← HE2.out]; omega), HOK2, HB5⟩
/-- Canon, whatever range is asked. -/
theorem canon_far (fb n : Nat) (lo hi : Int) (w : World) (h : FrameIn fb n w) :
    Calls Try.prog 12 #[.pointer (some ⟨fb, 0, none⟩), .int .i64 lo, .int .i64 hi] w (CanonF fb n lo hi w) := by
  by_cases hb : canonOk n lo hi
  · by_cases he : lo = hi
    · exact canon_same_far fb n lo hi w h hb he
    · exact canon_yes_far fb n lo hi w h hb (by have := hb.2.1; omega)
  · exact canon_bad_far fb n lo hi w h hb
set_option maxRecDepth 100000 in
set_option maxHeartbeats 2000000 in
/-- Nodes: all, in memory of their own. -/
theorem frameNodes_far (fb n : Nat) (w : World) (h : FrameIn fb n w) :
    Calls Try.prog 20 #[.pointer (some ⟨fb, 0, none⟩)] w fun e w' => ∃ a c, e = .returned (.slice a (frameN n).length c) ∧ w'.ownsRow w.heap.size 49 7 (.slice a (frameN n).length c) (frameN n).length (flatN (frameN n)) ∧ FrameIn fb n w' ∧ ChgOnly [fb] w w' ∧ FrameFrom fb n w w' ∧ ∀ g, (Value.slice a (frameN n).length c).ownBlock = some g → FrameAway fb n g w' := by
  have hn := h.1
  have hlen : (frameN n).length ≤ 34359738368 := by rw [frameN_len]; omega
  have hlt := h.lt
  have H := Lib.hid h
  obtain ⟨i0, hi, hzz, hz1, hz2⟩ := info_parts infoNode
  clear h
  go_enter Try.func20, Try.ntmps20
  go_wp2_with fail
  refine (none_yes fb n _ H.out).mono ?_
  rintro e w1 ⟨rfl, rfl⟩
  go_wp2_with fail
  have hA := (Below.refl w.heap.size w).alloc (Nat.le_refl _) (.cells #[] 49)
  refine (all_any fb n _ (H.out.later hA)).mono ?_
  rintro e w2 ⟨a, c, rfl, g1, gn, g2⟩
  have hne : ∀ g, a.map (·.block) = some g → g ≠ w.heap.size := fun g hg => by
    rcases gn with gn | gn
    · rcases H.out.2 with h2 | ⟨a', c', h2⟩
      · have h3 := ((hA.block fb hlt).trans h2).symm.trans gn.1
        simp at h3
      · have h3 := ((hA.block fb hlt).trans h2.1).symm.trans gn.1
        simp at h3
        obtain ⟨rfl, _⟩ := h3
        have := h2.2.lt g hg
        omega
    · have := gn g hg
      simp at this; omega
  have HNE := Lib.hid hne
  have GN := Lib.hid (show FrameDone fb n a c w ∨ NewAt a w from by
    rcases gn with gn | gn
    · rcases H.out.2 with h2 | ⟨a', c', h2⟩
      · exact absurd (FrameBlk.same ((hA.block fb hlt).trans h2) gn.1).1 (by decide)
      · have h3 := (FrameBlk.same ((hA.block fb hlt).trans h2.1) gn.1).2
        simp at h3
        obtain ⟨rfl, rfl⟩ := h3
        exact .inl h2
    · exact .inr (gn.mono (by simp)))
  have G1 := Lib.hid g1
  have G2 := Lib.hid ((ChgOnly.below hA [fb]).step g2 (fun x hx => .inl hx))
  have hrow := g1.2.row.reads
  have own0 : w2.ownsRow w.heap.size 49 7 (.slice (some ⟨w.heap.size, 0, none⟩) 0 0) 0 [] := ownsRow_block (own_zero w _ 7 (Nat.le_refl _)) (fun g hg => by
    simp [Value.ownBlock] at hg
    subst hg
    exact g2.block _ (by simp) (by simp; omega))
  have HO := Lib.hid own0
  have HR := Lib.hid hrow
  have hsz : w.heap.size ≤ w2.heap.size := by have := g2.size; simp at this; omega
  have hsz2 : w.heap.size < w2.heap.size := by have := g2.size; simp at this; omega
  clear g1 g2 gn hne hA hrow own0
  go_wp2_with (at_builtin; refine wpList_append_any _ rfl (.tmp 5) (.tmp 7) 27 rfl w.heap.size 49 i0 (nodeV 0 0 0 0 0 0 0) 7 56 Try.underlying27 hi hzz hz1 hz2 rfl (by decide) _ _ _ rfl HO.out _ _ _ _ _ rfl HR.out (flatN_one _) (by unfold maxLen; omega) (by omega) hsz ?_)
  intro v2 w3 ho2 hg2 hv2
  obtain ⟨a2, k2, rfl⟩ := own_shape ho2
  have hb : Below w.heap.size w2 w3 := (Below.refl w.heap.size w2).grown hg2 hsz (fun r hr => by simp [Value.ownBlock] at hr; omega)
  have HB := Lib.hid hb
  have HO2 := Lib.hid ho2
  have hnot : some w.heap.size = (Value.slice (some ⟨w.heap.size, 0, none⟩) 0 0).ownBlock := rfl
  have HG := Lib.hid hg2
  have HV := Lib.hid hv2
  clear hb ho2 hg2 hv2
  go_wp2
  go_ret
  have hk : w3.heap[fb]? = w2.heap[fb]? := HB.out.block fb hlt
  have hd3 : FrameDone fb n a c w3 := by
    refine ⟨hk.trans G1.out.1, G1.out.2.keep fun g hg => ?_⟩
    exact HG.out.block g (G1.out.2.lt g hg) (fun e => HNE.out g hg (by simpa [Value.ownBlock] using e))
  refine ⟨a2, k2, rfl, by simpa using HO2.out, ⟨hn, .inr ⟨a, c, hd3⟩⟩, ?_, FrameFrom.done GN.out hd3, fun g hg => .inr ⟨a, c, hd3, fun b hb' e => ?_⟩⟩
  · exact G2.out.step (fp := [w.heap.size]) ⟨HB.out.os, HB.out.tape, HB.out.output, HB.out.size, fun i hi hn => HG.out.block i hi (fun e => hn (by simp [Value.ownBlock] at e; simp [e]))⟩ (fun x hx => .inr (by simp at hx; omega))
  · subst e
    rcases HV.out with h | h
    · rw [Value.ownBlock] at h
      simp only [Value.ownBlock] at h hg
      have := hg.symm.trans h
      simp at this
      exact HNE.out b hb' this
    · rw [hg] at h
      have := G1.out.2.lt b hb'
      simp at h
      omega
end Go.Proofs.Ytmfkpjafeaidkaa
