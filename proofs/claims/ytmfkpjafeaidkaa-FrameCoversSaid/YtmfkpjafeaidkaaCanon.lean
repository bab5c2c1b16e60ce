/- The contract of Canon: what a walk over a range tells, and how many nodes it enters. -/
import Derived.Test.YtmfkpjafeaidkaaFrame
namespace Go.Proofs.Ytmfkpjafeaidkaa
open Go.RowKit
set_option linter.unusedVariables false
set_option linter.unusedSimpArgs false

/-- A tree that is still to be entered: how many leaves, the first one, the first place. -/
abbrev Tri := Nat × Int × Int
def Tri.place (t : Tri) : Int := t.2.2 + (2 * t.1 - 2)
def triSz (st : List Tri) : Nat := (st.map fun t => 2 * t.1 - 1).sum
def triCan (lo hi : Int) (st : List Tri) : List Int := st.flatMap fun t => canonT lo hi t.1 t.2.1 t.2.2
def triEnt (lo hi : Int) (st : List Tri) : Nat := (st.map fun t => entT lo hi t.1 t.2.1).sum
def TriOk (ns : List Nd) (st : List Tri) : Prop := ∀ t ∈ st, SubAt ns t.1 t.2.1 t.2.2
theorem triSz_len {ns : List Nd} {st : List Tri} (h : TriOk ns st) : st.length ≤ triSz st := by
  induction st with
  | nil => simp [triSz]
  | cons t st ih =>
    have h1 := (h t (List.mem_cons_self ..)).pos
    have h2 := ih (fun x hx => h x (List.mem_cons_of_mem _ hx))
    unfold triSz at *
    simp only [List.map_cons, List.sum_cons, List.length_cons]
    omega
def canonOk (n : Nat) (lo hi : Int) : Prop := 0 ≤ lo ∧ lo ≤ hi ∧ hi ≤ n
instance (n : Nat) (lo hi : Int) : Decidable (canonOk n lo hi) := by unfold canonOk; infer_instance
def canonErr (n : Nat) (lo hi : Int) : Int := if canonOk n lo hi then 0 else 2
def canonL (n : Nat) (lo hi : Int) : List Int := if canonOk n lo hi ∧ lo < hi then canonT lo hi n 0 0 else []
def canonE (n : Nat) (lo hi : Int) : Nat := if canonOk n lo hi ∧ lo < hi then entT lo hi n 0 else 0
theorem nil_own (w : World) (B : Nat) (T : TypeId) : w.ownsRow B T 1 (.slice none 0 0) 0 ([].map (Value.int .i64)) := World.ownsRow_nil _ _ _ _

theorem own_addr {w : World} {base : Nat} {e : TypeId} {size n c : Nat} {a : Option Addr} {xs : List Value} (h : w.ownsRow base e size (.slice a n c) n xs) (hn : 0 < n) : ∃ g, a = some ⟨g, 0, none⟩ := by
  rcases h.2 with ⟨_, h⟩ | ⟨g, _, _, h, _⟩
  · omega
  · simp only [Value.slice.injEq] at h; exact ⟨g, h.1⟩
/-- A world that has turned only in new blocks: what was there stands in it. -/
theorem below_chg {fb : Nat} {w w2 w3 : World} (h : ChgOnly [fb] w w2) (hb : Below w2.heap.size w2 w3) : ChgOnly [fb] w w3 := h.step (fp := []) ((ChgOnly.below hb [])) (by simp)

theorem canon_reads {w : World} {g : Nat} (hg : g = w.heap.size) (cs : Array Value) (e : TypeId) (m size : Nat) (h : cs.size = m * size) : Reads (w.alloc (.cells cs e)) (g + 1) size (some ⟨g, 0, none⟩) m cs.toList := by subst hg; exact reads_cells w cs e m size h
theorem TriOk.tail {ns : List Nd} {t : Tri} {st : List Tri} (h : TriOk ns (t :: st)) : TriOk ns st := fun x hx => h x (List.mem_cons_of_mem _ hx)

/-- What Canon tells. -/
def CanonP (fb n : Nat) (lo hi : Int) (w : World) (e : Ending) (w' : World) : Prop :=
  ∃ a c, e = .returned (.tuple #[.slice a (canonL n lo hi).length c, .int .i64 (canonE n lo hi), .int .i64 (canonErr n lo hi)]) ∧ w'.ownsRow w.heap.size 3 1 (.slice a (canonL n lo hi).length c) (canonL n lo hi).length ((canonL n lo hi).map (.int .i64)) ∧ FrameIn fb n w' ∧ ChgOnly [fb] w w'

set_option maxRecDepth 100000 in
set_option maxHeartbeats 1000000 in
theorem canon_no (p : Option Addr) (lo hi : Int) (w : World) (h : NoFrame p w) :
    Calls Try.prog 12 #[.pointer p, .int .i64 lo, .int .i64 hi] w fun e w' => e = .returned (.tuple #[.slice none 0 0, .int .i64 0, .int .i64 1]) ∧ w = w' := by
  go_enter Try.func12, Try.ntmps12
  go_wp2_with fail
  refine (none_no p w h).mono ?_
  rintro e w1 ⟨rfl, rfl⟩
  go_wp2
  exact bodyPost_ret (v := .tuple #[.slice none 0 0, .int .i64 0, .int .i64 1]) (by simp [results, Try.results12, go_sem]) rfl ⟨rfl, rfl⟩
set_option maxRecDepth 100000 in
set_option maxHeartbeats 1000000 in
theorem canon_bad (fb n : Nat) (lo hi : Int) (w : World) (h : FrameIn fb n w) (hb : ¬ canonOk n lo hi) :
    Calls Try.prog 12 #[.pointer (some ⟨fb, 0, none⟩), .int .i64 lo, .int .i64 hi] w (CanonP fb n lo hi w) := by
  have HL := Lib.hid (show canonL n lo hi = [] ∧ canonE n lo hi = 0 ∧ canonErr n lo hi = 2 by
    unfold canonL canonE canonErr; rw [if_neg hb, if_neg (fun h => hb h.1), if_neg (fun h => hb h.1)]; exact ⟨rfl, rfl, rfl⟩)
  obtain ⟨d, v, hbk⟩ := h.blk
  obtain ⟨c1, _, _⟩ := blk_cells hbk
  have c4 := c1 4 _ rfl
  have H := Lib.hid h
  clear c1 hbk h
  have fin : ∀ a' : Array Value, a'[6]?.getD undef = .slice none 0 0 → a'[7]?.getD undef = .int .i64 0 → a'[8]?.getD undef = .int .i64 2 → bodyPost Try.prog Try.f12 (CanonP fb n lo hi w) .ret { tmps := a', defers := [] } w := by
    intro a' h1 h2 h3
    refine bodyPost_ret (v := .tuple #[.slice none 0 0, .int .i64 0, .int .i64 2]) ?_ rfl ?_
    · simp [results, Try.results12, go_sem, h1, h2, h3]
    · refine ⟨none, 0, ?_, ?_, H.out, ChgOnly.refl _ _⟩
      · rw [HL.out.1, HL.out.2.1, HL.out.2.2]; rfl
      · rw [HL.out.1]; exact nil_own _ _ _
  have FIN := Lib.hid fin
  clear fin
  by_cases h1 : lo < 0
  · clear hb
    go_enter Try.func12, Try.ntmps12
    go_wp2_with fail
    refine (none_yes fb n w H.out).mono ?_
    rintro e w1 ⟨rfl, rfl⟩
    go_wp2
    exact FIN.out _ rfl rfl rfl
  · have h1' : 0 ≤ lo := by omega
    by_cases h2 : hi < lo
    · clear hb h1
      go_enter Try.func12, Try.ntmps12
      go_wp2_with fail
      refine (none_yes fb n w H.out).mono ?_
      rintro e w1 ⟨rfl, rfl⟩
      go_wp2
      exact FIN.out _ rfl rfl rfl
    · have h2' : lo ≤ hi := by omega
      have h3 : (n : Int) < hi := by
        unfold canonOk at hb
        omega
      clear hb h1 h2
      go_enter Try.func12, Try.ntmps12
      go_wp2_with fail
      refine (none_yes fb n w H.out).mono ?_
      rintro e w1 ⟨rfl, rfl⟩
      go_wp2
      exact FIN.out _ rfl rfl rfl
set_option maxRecDepth 100000 in
set_option maxHeartbeats 1000000 in
theorem canon_same (fb n : Nat) (lo hi : Int) (w : World) (h : FrameIn fb n w) (hb : canonOk n lo hi) (he : lo = hi) :
    Calls Try.prog 12 #[.pointer (some ⟨fb, 0, none⟩), .int .i64 lo, .int .i64 hi] w (CanonP fb n lo hi w) := by
  have HL := Lib.hid (show canonL n lo hi = [] ∧ canonE n lo hi = 0 ∧ canonErr n lo hi = 0 by
    unfold canonL canonE canonErr; rw [if_pos hb, if_neg (fun h => by omega), if_neg (fun h => by omega)]; exact ⟨rfl, rfl, rfl⟩)
  obtain ⟨d, v, hbk⟩ := h.blk
  obtain ⟨c1, _, _⟩ := blk_cells hbk
  have c4 := c1 4 _ rfl
  have H := Lib.hid h
  obtain ⟨h1, h2, h3⟩ := hb
  have hq : (lo == hi) = true := by simpa using he
  clear c1 hbk h he
  go_enter Try.func12, Try.ntmps12
  go_wp2_with fail
  refine (none_yes fb n w H.out).mono ?_
  rintro e w1 ⟨rfl, rfl⟩
  go_wp2
  refine bodyPost_ret (v := .tuple #[.slice none 0 0, .int .i64 0, .int .i64 0]) ?_ rfl ?_
  · simp [results, Try.results12, go_sem]
  · refine ⟨none, 0, ?_, ?_, H.out, ChgOnly.refl _ _⟩
    · rw [HL.out.1, HL.out.2.1, HL.out.2.2]; rfl
    · rw [HL.out.1]; exact nil_own _ _ _

set_option maxRecDepth 100000 in
set_option maxHeartbeats 8000000 in
theorem canon_yes (fb n : Nat) (lo hi : Int) (w : World) (h : FrameIn fb n w) (hb : canonOk n lo hi) (he : lo < hi) :
    Calls Try.prog 12 #[.pointer (some ⟨fb, 0, none⟩), .int .i64 lo, .int .i64 hi] w (CanonP fb n lo hi w) := by
  have HL := Lib.hid (show canonL n lo hi = canonT lo hi n 0 0 ∧ canonE n lo hi = entT lo hi n 0 ∧ canonErr n lo hi = 0 by
    unfold canonL canonE canonErr; rw [if_pos hb, if_pos ⟨hb, he⟩, if_pos ⟨hb, he⟩]; exact ⟨rfl, rfl, rfl⟩)
  obtain ⟨d, v, hbk⟩ := h.blk
  obtain ⟨c1, _, _⟩ := blk_cells hbk
  have c4 := c1 4 _ rfl
  have H := Lib.hid h
  have hn := h.1
  obtain ⟨h1, h2, h3⟩ := hb
  have hn1 : 1 ≤ n := by omega
  have hq : (lo == hi) = false := by simp; omega
  have hlt := h.lt
  clear c1 hbk h he
  go_enter Try.func12, Try.ntmps12
  go_wp2_with fail
  refine (none_yes fb n w H.out).mono ?_
  rintro e w1 ⟨rfl, rfl⟩
  go_wp2_with fail
  refine (all_any fb n _ H.out).mono ?_
  rintro e w2 ⟨a, c, rfl, g1, _, g2⟩
  have G1 := Lib.hid g1
  have G2 := Lib.hid g2
  have hsz : w.heap.size ≤ w2.heap.size := g2.size
  clear g1 g2 c4
  go_wp2_with fail
  refine (root_yes fb n _ (G1.out.into hn)).mono ?_
  rintro e w1 ⟨rfl, rfl⟩
  have hro : rootOf n = 2 * n - 2 := by unfold rootOf; rw [if_neg (by omega)]
  rw [hro]
  have HLN := Lib.hid (frameN_len n)
  clear hro
  have HDON := Lib.hid (G1.out.into hn)
  have HROW := Lib.hid G1.out.2.row
  have HOK0 := Lib.hid (SubAt.all hn1)
  have hlen : (frameN n).length ≤ 34359738367 := by rw [frameN_len]; omega
  obtain ⟨N, hN⟩ : ∃ N, (frameN n).length = N := ⟨_, rfl⟩
  have HNN := Lib.hid hN
  rw [hN] at hlen ⊢
  have HN2 := Lib.hid (show N = 2 * n - 1 by rw [← hN, frameN_len])
  clear hN
  go_wp2_with fail
  have HD0 := Lib.hid (own_one w2 (.int .i64 (2 * n - 2)) 3 (Nat.le_refl _))
  have HB0 := Lib.hid ((Below.refl w2.heap.size w2).alloc (Nat.le_refl _) (.cells #[.int .i64 (2 * n - 2)] 3))
  obtain ⟨i0, hi0, hzz, hz1, hz2⟩ := info_parts infoInt
  go_loopg [10, 11, 12] (triSz [(n, (0 : Int), (0 : Int))]) (fun g ov ev dv wr => ∃ (st : List Tri) (out : List Int) (k : Nat) (oa : Option Addr) (oc : Nat) (da : Option Addr) (dc : Nat), ov = .slice oa out.length oc ∧ ev = .int .i64 (k : Int) ∧ dv = .slice da st.length dc ∧ k + g ≤ N ∧ out.length + g ≤ N ∧ st.length ≤ g ∧ Hid (g = triSz st) ∧ Hid (wr.ownsRow w2.heap.size 3 1 (.slice da st.length dc) st.length ((st.reverse.map Tri.place).map (.int .i64))) ∧ Hid (wr.ownsRow w2.heap.size 3 1 (.slice oa out.length oc) out.length (out.map (.int .i64))) ∧ Hid (∀ g, (Value.slice da st.length dc).ownBlock = some g → (Value.slice oa out.length oc).ownBlock ≠ some g) ∧ Hid (out ++ triCan lo hi st = canonT lo hi n 0 0) ∧ Hid (k + triEnt lo hi st = entT lo hi n 0) ∧ Hid (TriOk (frameN n) st) ∧ Hid (Below w2.heap.size w2 wr))
  case atStart =>
    refine ⟨[(n, 0, 0)], [], 0, none, 0, some ⟨w2.heap.size, 0, none⟩, 1, rfl, rfl, rfl, ?_, ?_, ?_, Lib.hid rfl, Lib.hid ?_, Lib.hid (nil_own _ _ _), Lib.hid (fun g _ h => (by simp [Value.ownBlock] at h)), Lib.hid ?_, Lib.hid ?_, Lib.hid ?_, HB0⟩
    all_goals try (have := HN2.out; simp [triSz]; omega)
    · have h := HD0.out
      simpa [Tri.place] using h
    · simp [triCan]
    · simp [triEnt]
    · intro t ht
      have : t = (n, 0, 0) := by simpa using ht
      subst this
      exact HOK0.out
  case round =>
    clear HD0 HB0
    obtain ⟨st, out, k, oa, oc, da, dc, rfl, rfl, rfl, hkg, hog, hsg, HG, HD, HO, HAP, HCA, HEN, HOK, HB⟩ := hrel
    cases st with
    | nil =>
      have HE := Lib.hid (show out = canonT lo hi n 0 0 ∧ k = entT lo hi n 0 from ⟨by have h := HCA.out; simpa [triCan] using h, by have h := HEN.out; simpa [triEnt] using h⟩)
      go_wp2
      refine bodyPost_ret (v := .tuple #[.slice oa out.length oc, .int .i64 k, .int .i64 0]) ?_ rfl ?_
      · simp [results, Try.results12, go_sem]
      · refine ⟨oa, oc, ?_, ?_, HDON.out.later HB.out, below_chg G2.out HB.out⟩
        · rw [HL.out.1, HL.out.2.1, HL.out.2.2, HE.out.1, HE.out.2]
        · rw [HL.out.1, ← HE.out.1]; exact ownsRow_mono HO.out hsz
    | cons t st =>
      obtain ⟨m, f, b⟩ := t
      have hsub := HOK.out (m, f, b) (List.mem_cons_self ..)
      have hpos := hsub.pos
      have hroot := hsub.root
      have hlow := hsub.low
      have hfit := hsub.fits
      simp only at hsub hpos hroot hlow hfit
      obtain ⟨q, hq⟩ : ∃ q : Nat, b + (2 * (m : Int) - 2) = q := ⟨(b + (2 * (m : Int) - 2)).toNat, by omega⟩
      have hqN : q < N := by rw [HNN.out] at hfit; omega
      have HD1 := HD.out
      rw [List.reverse_cons, List.map_append, List.map_append, List.length_cons] at HD1
      have hpl : Tri.place (m, f, b) = (q : Int) := hq
      rw [List.map_singleton, List.map_singleton, hpl] at HD1
      obtain ⟨dg, rfl⟩ := own_addr HD1 (by omega)
      have hcell : wr.cell? ⟨dg, st.length, none⟩ = some (.int .i64 (q : Int)) := by rw [HD1.cellAt st.length (by omega), List.getElem?_append_right (by simp)]; simp
      have hdc := own_cap HD1
      have hpop := ownsRow_pop (n := st.length) (size := 1) (by simp) HD1
      obtain ⟨bx, ox, rfl, e0, e1, e2, e3, e4, e5, e6⟩ := (HROW.out.later HB.out).node q (by rw [HNN.out]; exact hqN)
      have hu : (frameN n).getD q Nd.zero = rootNd m f b := by
        rw [hq] at hroot; unfold nd at hroot; simpa using hroot
      rw [hu] at e0 e1 e2 e3 e4 e5 e6
      rw [rootNd_f] at e3
      rw [rootNd_t hpos] at e4
      obtain ⟨u, hu2⟩ : ∃ u, rootNd m f b = u := ⟨_, rfl⟩
      rw [hu2] at e0 e1 e2 e5 e6
      obtain ⟨T, hT⟩ : ∃ T : Int, f + m = T := ⟨_, rfl⟩
      rw [hT] at e4
      have HU := Lib.hid hu2
      have HT := Lib.hid hT
      have HP := Lib.hid hpop
      have HQ := Lib.hid hq
      have HSUB := Lib.hid hsub
      have HPOS := Lib.hid hpos
      have hl1 : ((m, f, b) :: st).length = st.length + 1 := rfl
      rw [hl1] at hsg HAP ⊢
      have hbx := World.block_lt_of_cell? _ _ e0
      have hbx' : bx < wr.heap.size := hbx
      have hdg := (HD1.lt dg rfl).2
      clear hsub hpos hroot hlow hfit hu hu2 hT hpop hq HD1 HD hbx hl1 hpl
      have HGZ := Lib.hid (show triSz ((m, f, b) :: st) = (2 * m - 1) + triSz st by simp [triSz])
      have HCO := Lib.hid (show triCan lo hi ((m, f, b) :: st) = canonT lo hi m f b ++ triCan lo hi st by simp [triCan])
      have HEO := Lib.hid (show triEnt lo hi ((m, f, b) :: st) = entT lo hi m f + triEnt lo hi st by simp [triEnt])
      have HST := Lib.hid (triSz_len (HOK.out.tail))
      by_cases hout : T ≤ lo ∨ hi ≤ f
      · have HXC := Lib.hid (show canonT lo hi m f b = [] from canonT_out (by rw [HT.out]; exact hout))
        have HXE := Lib.hid (show entT lo hi m f = 1 from entT_out (by rw [HT.out]; exact hout))
        rcases (show T ≤ lo ∨ (lo < T ∧ hi ≤ f) by omega) with hx | ⟨hx, hy⟩
        · clear hout
          go_wp2_with fail
          go_roundg (triSz st)
          case measure => rw [HG.out, HGZ.out]; have := HPOS.out; omega
          case rel => exact ⟨st, out, k + 1, oa, oc, some ⟨dg, 0, none⟩, dc, rfl, by go_num, rfl, by have := HG.out; have := HGZ.out; have := HPOS.out; omega, by have := HG.out; have := HGZ.out; have := HPOS.out; omega, HST.out, Lib.hid rfl, Lib.hid (HP.out.alloc _), Lib.hid (HO.out.alloc _), Lib.hid (fun g h => HAP.out g h), Lib.hid (by rw [← HCA.out, HCO.out, HXC.out]; simp), Lib.hid (by rw [← HEN.out, HEO.out, HXE.out]; omega), Lib.hid HOK.out.tail, Lib.hid (HB.out.alloc HB.out.size _)⟩
        · clear hout
          go_wp2_with fail
          go_roundg (triSz st)
          case measure => rw [HG.out, HGZ.out]; have := HPOS.out; omega
          case rel => exact ⟨st, out, k + 1, oa, oc, some ⟨dg, 0, none⟩, dc, rfl, by go_num, rfl, by have := HG.out; have := HGZ.out; have := HPOS.out; omega, by have := HG.out; have := HGZ.out; have := HPOS.out; omega, HST.out, Lib.hid rfl, Lib.hid (HP.out.alloc _), Lib.hid (HO.out.alloc _), Lib.hid (fun g h => HAP.out g h), Lib.hid (by rw [← HCA.out, HCO.out, HXC.out]; simp), Lib.hid (by rw [← HEN.out, HEO.out, HXE.out]; omega), Lib.hid HOK.out.tail, Lib.hid (HB.out.alloc HB.out.size _)⟩
      · obtain ⟨ho1, ho2⟩ : lo < T ∧ f < hi := by omega
        by_cases hin : lo ≤ f ∧ T ≤ hi
        · have HXC := Lib.hid (show canonT lo hi m f b = [(q : Int)] by rw [canonT_in (by rw [HT.out]; exact hout) (by rw [HT.out]; exact hin), HQ.out])
          have HXE := Lib.hid (show entT lo hi m f = 1 from entT_in (by rw [HT.out]; exact hout) (by rw [HT.out]; exact hin))
          obtain ⟨hi1, hi2⟩ := hin
          have hol : out.length + 1 ≤ N := by have := HG.out; have := HGZ.out; have := HPOS.out; omega
          clear hout
          go_wp2_with (at_builtin; refine wpList_append_any _ rfl (.tmp 92) (.tmp 94) 29 rfl w2.heap.size 3 i0 (.int .i64 0) 1 8 Try.underlying29 hi0 hzz hz1 hz2 rfl (by decide) _ _ _ rfl ((HO.out.alloc _).alloc _) (wr.heap.size + 1 + 1) (some ⟨wr.heap.size + 1, 0, none⟩) 1 1 [.int .i64 (q : Int)] rfl (canon_reads (by simp) #[.int .i64 (q : Int)] _ 1 1 rfl) (by intro u hu; simp at hu; subst hu; rfl) (by unfold maxLen; omega) (by omega) (Nat.le_trans HB.out.size (by simp; omega)) ?_)
          intro v2 w5 ho5 hg5 hv5
          obtain ⟨oa2, oc2, rfl⟩ := own_shape ho5
          have hba := ((HB.out.alloc HB.out.size (.cells #[.int .u8 u.k, .int .i64 u.l, .int .i64 u.r, .int .i64 f, .int .i64 T, .int .i64 u.a, .int .i64 u.i] 49)).alloc (Nat.le_trans HB.out.size (by simp)) (.cells #[.int .i64 (q : Int)] 3))
          have HB5 := Lib.hid (hba.grown hg5 (Nat.le_trans HB.out.size (by simp; omega)) (fun r hr => (HO.out.lt r hr).1))
          have HD5 := Lib.hid (ownsRow_block ((HP.out.alloc _).alloc _) (fun g hg => hg5.block g ((((HP.out.alloc _).alloc _).lt g hg).2) (fun e => HAP.out g hg e.symm)))
          have HAP5 := Lib.hid (show ∀ g, (Value.slice (some ⟨dg, 0, none⟩) st.length dc).ownBlock = some g → (Value.slice oa2 (out.length + 1) oc2).ownBlock ≠ some g from fun g h1 h2 => by
            rcases hv5 with e | e
            · exact HAP.out g h1 (e ▸ h2)
            · rw [e] at h2
              have h3 := (HP.out.lt g h1).2
              simp only [Option.some.injEq] at h2
              omega)
          have HO5 := Lib.hid ho5
          clear ho5 hg5 hv5 hba
          go_wp2_with fail
          go_roundg (triSz st)
          case measure => rw [HG.out, HGZ.out]; have := HPOS.out; omega
          case rel => exact ⟨st, out ++ [(q : Int)], k + 1, oa2, oc2, some ⟨dg, 0, none⟩, dc, (by rw [List.length_append]; rfl), by go_num, rfl, by have := HG.out; have := HGZ.out; have := HPOS.out; omega, by have := HG.out; have := HGZ.out; have := HPOS.out; rw [List.length_append, List.length_singleton]; omega, HST.out, Lib.hid rfl, HD5, Lib.hid (by have h := HO5.out; rw [List.length_append, List.map_append]; exact h), Lib.hid (by rw [List.length_append]; exact HAP5.out), Lib.hid (by rw [← HCA.out, HCO.out, HXC.out]; simp), Lib.hid (by rw [← HEN.out, HEO.out, HXE.out]; omega), Lib.hid HOK.out.tail, HB5⟩
        · have hm2 : 2 ≤ m := by
            have := HPOS.out
            have := HT.out
            omega
          obtain ⟨la, lb, lc, ld⟩ := lhalf_lt hm2
          have hs := lhalf_add m
          have HXC := Lib.hid (canonT_two (b := b) hm2 (by rw [HT.out]; exact hout) (by rw [HT.out]; exact hin))
          have HXE := Lib.hid (entT_two hm2 (by rw [HT.out]; exact hout) (by rw [HT.out]; exact hin))
          have HKID := Lib.hid (show u.l = Tri.place (lhalf m, f, b) ∧ u.r = Tri.place (m / 2, f + lhalf m, b + (2 * lhalf m - 1)) by
            obtain ⟨k1, k2, _⟩ := SubAt.kids (f := f) (b := b) hm2
            rw [← HU.out]
            exact ⟨k1, k2⟩)
          have HZ2 := Lib.hid (show triSz ((lhalf m, f, b) :: (m / 2, f + (lhalf m : Int), b + (2 * (lhalf m : Int) - 1)) :: st) = (2 * m - 2) + triSz st by simp only [triSz, List.map_cons, List.sum_cons]; omega)
          have HOK2 := Lib.hid (show TriOk (frameN n) ((lhalf m, f, b) :: (m / 2, f + (lhalf m : Int), b + (2 * (lhalf m : Int) - 1)) :: st) by
            intro t ht
            rcases List.mem_cons.1 ht with rfl | ht
            · exact HSUB.out.left hm2
            · rcases List.mem_cons.1 ht with rfl | ht
              · exact HSUB.out.right hm2
              · exact HOK.out.tail t ht)
          have HST2 := Lib.hid (triSz_len HOK2.out)
          have hstl : st.length + 2 ≤ N := by have := HST2.out; have := HZ2.out; have := HG.out; have := HGZ.out; have := HPOS.out; simp only [List.length_cons] at *; omega
          have HM2 := Lib.hid hm2
          have HC2 := Lib.hid (show triCan lo hi ((lhalf m, f, b) :: (m / 2, f + (lhalf m : Int), b + (2 * (lhalf m : Int) - 1)) :: st) = canonT lo hi m f b ++ triCan lo hi st by rw [HXC.out]; simp [triCan])
          have HE2 := Lib.hid (show 1 + triEnt lo hi ((lhalf m, f, b) :: (m / 2, f + (lhalf m : Int), b + (2 * (lhalf m : Int) - 1)) :: st) = entT lo hi m f + triEnt lo hi st by rw [HXE.out]; simp [triEnt]; omega)
          rcases (show f < lo ∨ (lo ≤ f ∧ hi < T) by omega) with hx | ⟨hx, hy⟩
          all_goals
            clear hout hin la lb lc ld hs hm2
            go_wp2_with (at_builtin; refine wpList_append_any _ rfl (.tmp 63) (.tmp 68) 29 rfl w2.heap.size 3 i0 (.int .i64 0) 1 8 Try.underlying29 hi0 hzz hz1 hz2 rfl (by decide) _ _ _ rfl ((HP.out.alloc _).alloc _) (wr.heap.size + 1 + 1) (some ⟨wr.heap.size + 1, 0, none⟩) 2 2 [.int .i64 u.r, .int .i64 u.l] rfl (canon_reads (by simp) #[.int .i64 u.r, .int .i64 u.l] _ 2 1 rfl) (by intro x hx; simp at hx; rcases hx with rfl | rfl <;> rfl) (by unfold maxLen; omega) (by omega) (Nat.le_trans HB.out.size (by simp; omega)) ?_)
            intro v2 w5 ho5 hg5 hv5
            obtain ⟨da2, dc2, rfl⟩ := own_shape ho5
            have hba := ((HB.out.alloc HB.out.size (.cells #[.int .u8 u.k, .int .i64 u.l, .int .i64 u.r, .int .i64 f, .int .i64 T, .int .i64 u.a, .int .i64 u.i] 49)).alloc (Nat.le_trans HB.out.size (by simp)) (.cells #[.int .i64 u.r, .int .i64 u.l] 3))
            have HB5 := Lib.hid (hba.grown hg5 (Nat.le_trans HB.out.size (by simp; omega)) (fun r hr => (HP.out.lt r hr).1))
            have HO5 := Lib.hid (ownsRow_block ((HO.out.alloc _).alloc _) (fun g hg => hg5.block g ((((HO.out.alloc _).alloc _).lt g hg).2) (fun e => HAP.out g e.symm hg)))
            have HAP5 := Lib.hid (show ∀ g, (Value.slice da2 (st.length + 2) dc2).ownBlock = some g → (Value.slice oa out.length oc).ownBlock ≠ some g from fun g h1 h2 => by
              rcases hv5 with e | e
              · exact HAP.out g (e ▸ h1) h2
              · rw [e] at h1
                have h3 := (HO.out.lt g h2).2
                simp only [Option.some.injEq] at h1
                omega)
            have HD5 := Lib.hid ho5
            clear ho5 hg5 hv5 hba
            go_wp2_with fail
            go_roundg (triSz ((lhalf m, f, b) :: (m / 2, f + (lhalf m : Int), b + (2 * (lhalf m : Int) - 1)) :: st))
            case measure => rw [HG.out, HGZ.out, HZ2.out]; have := HPOS.out; omega
            case rel => exact ⟨_, out, k + 1, oa, oc, da2, dc2, rfl, by go_num, rfl, by have := HG.out; have := HGZ.out; have := HPOS.out; have := HZ2.out; omega, by have := HG.out; have := HGZ.out; have := HPOS.out; have := HZ2.out; omega, HST2.out, Lib.hid rfl, Lib.hid (by have h := HD5.out; rw [HKID.out.1, HKID.out.2] at h; simpa using h), HO5, HAP5, Lib.hid (by rw [← HCA.out, HCO.out, HC2.out]), Lib.hid (by rw [← HEN.out, HEO.out, ← HE2.out]; omega), HOK2, HB5⟩
/-- Canon, whatever range is asked. -/
theorem canon_any (fb n : Nat) (lo hi : Int) (w : World) (h : FrameIn fb n w) :
    Calls Try.prog 12 #[.pointer (some ⟨fb, 0, none⟩), .int .i64 lo, .int .i64 hi] w (CanonP fb n lo hi w) := by
  by_cases hb : canonOk n lo hi
  · by_cases he : lo = hi
    · exact canon_same fb n lo hi w h hb he
    · exact canon_yes fb n lo hi w h hb (by have := hb.2.1; omega)
  · exact canon_bad fb n lo hi w h hb
end Go.Proofs.Ytmfkpjafeaidkaa
