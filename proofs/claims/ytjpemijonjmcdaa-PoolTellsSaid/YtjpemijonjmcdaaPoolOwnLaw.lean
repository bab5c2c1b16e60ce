/- The walk of PoolOwn. -/
import Derived.Test.YtjpemijonjmcdaaPoolAwake
import Derived.Test.YtjpemijonjmcdaaStackErrors
namespace Go.Proofs.Ytjpemijonjmcdaa
open Go.RowKit
set_option linter.unusedVariables false
set_option linter.unusedSimpArgs false

set_option maxRecDepth 100000 in
set_option maxHeartbeats 1000000 in
theorem copyInts_any (xs : List Int) (ao : Option Addr) (cap B : Nat) (w : World) (hrow : w.ownsRow B 3 1 (.slice ao xs.length cap) xs.length (xs.map (.int .i64))) (hlen : xs.length ≤ 17592186044416) :
    Calls Try.prog 32 #[.slice ao xs.length cap] w (IntsP xs w) := by
  have hR := (Reads.of_own hrow).alloc (Nat.le_refl _) (.cells #[] 3)
  have HR := Lib.hid hR
  clear hR hrow
  obtain ⟨i0, hi, hzz, hz1, hz2⟩ := info_parts infoInt
  go_enter Try.func32, Try.ntmps32
  go_wp2_with (at_builtin; refine wpList_append_any _ rfl (.tmp 3) (.tmp 4) 25 rfl w.heap.size 3 i0 (.int .i64 0) 1 8 Try.underlying25 hi hzz hz1 hz2 rfl (by decide) _ _ _ rfl (own_zero w _ 1 (Nat.le_refl _)) _ _ _ _ _ rfl HR.out (ints_one _) (by unfold maxLen; omega) (by omega) (by simp) ?_)
  intro v2 w2 ho2 hg2 _
  obtain ⟨a2, k2, rfl⟩ := own_shape ho2
  have hb : Below w.heap.size w w2 := ((Below.refl _ w).alloc (Nat.le_refl _) _).grown hg2 (by simp) (fun r hr => by simp [Value.ownBlock] at hr; omega)
  have HB := Lib.hid hb
  have HO := Lib.hid ho2
  clear hb ho2 hg2
  go_wp2
  go_ret
  refine ⟨a2, k2, by simp, ?_, HB.out⟩
  have h := HO.out
  simpa using h

/-- Two lists of the call's own lie apart, and nothing but they is touched. -/
theorem apart2_chg (w : World) (a b : Option Addr) (n m c d B : Nat) (xs ys : List Value) (T : TypeId) (ha : w.ownsRow B 3 1 (.slice a n c) n xs) (hb : w.ownsRow B 3 1 (.slice b m d) m ys) (hab : ∀ g, (Value.slice a n c).ownBlock = some g → (Value.slice b m d).ownBlock ≠ some g) (hB : B ≤ w.heap.size) :
    Calls Try.prog 23 #[.slice (some ⟨w.heap.size, 0, none⟩) 2 2] (w.alloc (.cells #[.slice a n c, .slice b m d] T)) fun e w' => e = .returned (.bool true) ∧ Below B w w' ∧ ∀ k, k < w.heap.size → (Value.slice a n c).ownBlock ≠ some k → (Value.slice b m d).ownBlock ≠ some k → w'.heap[k]? = w.heap[k]? := by
  obtain ⟨ea, va, oa, ba, ga⟩ := ent_of_owned (ha.alloc (.cells #[.slice a n c, .slice b m d] T))
  obtain ⟨eb, vb, ob, bb, gb⟩ := ent_of_owned (hb.alloc (.cells #[.slice a n c, .slice b m d] T))
  have la : ∀ x, ea.g = some x → B ≤ x ∧ x < w.heap.size := fun x hx => ha.lt x (ga ▸ hx)
  have lb : ∀ x, eb.g = some x → B ≤ x ∧ x < w.heap.size := fun x hx => hb.lt x (gb ▸ hx)
  have hin : ∀ x ∈ blocks [ea, eb], ea.g = some x ∨ eb.g = some x := by
    intro x hx
    unfold blocks at hx
    simp only [List.mem_filterMap, List.mem_cons, List.not_mem_nil, or_false] at hx
    obtain ⟨e, rfl | rfl, h⟩ := hx
    · exact .inl h
    · exact .inr h
  have hbl : ∀ x ∈ blocks [ea, eb], B ≤ x ∧ x < w.heap.size := fun x hx => (hin x hx).elim (la x) (lb x)
  refine (apart_any [ea, eb] w.heap.size 0 2 _ ?_ ?_ ?_ ?_ (by simp) (by simp)).mono fun e w' ⟨he, hc⟩ => ⟨he, ((Below.refl B w).alloc hB _).trans (hc.toBelow (fun x hx => (hbl x hx).1) (by simp; omega)), fun k hk h1 h2 => ?_⟩
  · intro i hi
    rw [cells_at]
    rcases (by simp at hi; omega : i = 0 ∨ i = 1) with rfl | rfl
    · simp [va]
    · simp [vb]
  · intro i hi
    rcases (by simp at hi; omega : i = 0 ∨ i = 1) with rfl | rfl
    · exact oa
    · exact ob
  · intro i j x hi hj h1 h2
    rcases (by simp at hi; omega : i = 0 ∨ i = 1) with rfl | rfl <;> rcases (by simp at hj; omega : j = 0 ∨ j = 1) with rfl | rfl
    · rfl
    · exact absurd (gb ▸ h2) (hab x (ga ▸ h1))
    · exact absurd (gb ▸ h1) (hab x (ga ▸ h2))
    · rfl
  · intro h; have := (hbl _ h).2; omega
  · have hnot : k ∉ blocks [ea, eb] := fun hm => (hin k hm).elim (fun h => h1 (ga ▸ h)) (fun h => h2 (gb ▸ h))
    exact (hc.block k (by simp; omega) hnot).trans (((Below.refl w.heap.size w).alloc (Nat.le_refl _) _).block k hk)

theorem own_some {w : World} {base : Nat} {e : TypeId} {size n c : Nat} {a : Option Addr} {xs : List Value} (h : w.ownsRow base e size (.slice a n c) n xs) (hn : 0 < n) : ∃ g, a = some ⟨g, 0, none⟩ := by
  rcases h.2 with ⟨_, h⟩ | ⟨g, _, _, h, _⟩
  · omega
  · simp only [Value.slice.injEq] at h; exact ⟨g, h.1⟩

/-- What PoolOwn has told and kept. -/
structure KeptSt (B1 B3 B4 n : Nat) (xa ra ka kb : Option Addr) (xc rc kc kd : Nat) (rs : List Int) (ps : List Nd) (w : World) : Prop where
  a : ∃ xs, w.ownsRow B1 36 7 (.slice xa n xc) n xs
  alow : ∀ g, (Value.slice xa n xc).ownBlock = some g → g < B3
  r : w.ownsRow B1 3 1 (.slice ra rs.length rc) rs.length (rs.map (.int .i64))
  rlow : ∀ g, (Value.slice ra rs.length rc).ownBlock = some g → g < B3
  kn : w.ownsRow B3 36 7 (.slice ka n kc) n (flatN ps)
  kr : w.ownsRow B4 3 1 (.slice kb rs.length kd) rs.length (rs.map (.int .i64))

theorem KeptSt.later {B1 B3 B4 n xc rc kc kd : Nat} {xa ra ka kb : Option Addr} {rs : List Int} {ps : List Nd} {w w' : World} (h : KeptSt B1 B3 B4 n xa ra ka kb xc rc kc kd rs ps w) (hb : Below w.heap.size w w') : KeptSt B1 B3 B4 n xa ra ka kb xc rc kc kd rs ps w' :=
  ⟨h.a.imp fun _ h => own_below h hb, h.alow, own_below h.r hb, h.rlow, own_below h.kn hb, own_below h.kr hb⟩

theorem KeptSt.set {B1 B3 B4 n g xc rc kc kd : Nat} {ra ka kb : Option Addr} {rs : List Int} {ps : List Nd} {w : World} (h : KeptSt B1 B3 B4 n (some ⟨g, 0, none⟩) ra ka kb xc rc kc kd rs ps w) (hB : B3 ≤ B4) (j : Nat) (u : Value) :
    KeptSt B1 B3 B4 n (some ⟨g, 0, none⟩) ra ka kb xc rc kc kd rs ps (w.setCell ⟨g, j, none⟩ u) := by
  obtain ⟨xs, hx⟩ := h.a
  have hg := h.alow g rfl
  exact ⟨⟨_, (hx.stored j u).1⟩, h.alow, ownsRow_setCell_other h.r (fun e => own_apart h.r hx (by decide) g e rfl) u, h.rlow,
    ownsRow_setCell_other h.kn (fun e => by have := (h.kn.lt g e).1; omega) u, ownsRow_setCell_other h.kr (fun e => by have := (h.kr.lt g e).1; omega) u⟩

set_option maxRecDepth 100000 in
set_option maxHeartbeats 4000000 in
theorem PoolOwn_walk (ns : List Nd) (ao : Option Addr) (cap : Nat) (W : World) (hrow : NdRow W ao ns) (hlen : ns.length ≤ 2513169434907) (hcap : ns.length ≤ cap) :
    Calls Try.prog 10 #[.slice ao ns.length cap] W fun e w' => e = .returned (.bool true) ∧ Below W.heap.size W w' := by
  have HN := Lib.hid hrow
  clear hrow
  go_enter Try.func10, Try.ntmps10
  go_wp2_with fail
  refine (new_any 100 _ (by omega) (by omega)).mono ?_
  rintro e w1 ⟨rfl, rfl⟩
  have HP1 := Lib.hid (PoolOwn.new W 100 (by omega) (by omega) (Nat.le_refl W.heap.size))
  have HB1 := Lib.hid ((Below.refl W.heap.size W).alloc (Nat.le_refl _) (newPool 100))
  generalize W.alloc (newPool 100) = V1 at HP1 HB1 ⊢
  go_wp2_with fail
  go_loopw [5] (fun i wr => ∃ k : Nat, k ≤ ns.length ∧ k ≤ 100 ∧ i = .int .i64 k ∧ Hid (PoolOwn W.heap.size W.heap.size 100 (puts 100 (ns.take k)) wr) ∧ Hid (Below W.heap.size W wr)) (fun i _ => ns.length - (intOf i).toNat)
  case atStart => exact ⟨0, Nat.zero_le _, by omega, rfl, HP1, HB1⟩
  case round =>
    clear HP1 HB1
    obtain ⟨k, hk, hk3, rfl, HP, HB⟩ := hrel
    by_cases hlt : k < ns.length ∧ k < 100
    · obtain ⟨hlt, hlt3⟩ := hlt
      obtain ⟨b, off, rfl, c0, c1, c2, c3, c4, c5, c6⟩ := (HN.out.later HB.out).node k hlt
      have HT := Lib.hid (puts_take 100 ns k hlt)
      obtain ⟨n, hn⟩ : ∃ n, ns.getD k Nd.zero = n := ⟨_, rfl⟩
      rw [hn] at c0 c1 c2 c3 c4 c5 c6 HT
      clear hn
      go_wp2_with fail
      refine (put_own n _ HP.out HB.out.size).mono ?_
      rintro e w2 ⟨rfl, hp2, hb2⟩
      have HP2 := Lib.hid hp2
      have HB2 := Lib.hid (HB.out.trans hb2)
      clear hp2 hb2 c0 c1 c2 c3 c4 c5 c6
      go_wp2_with fail
      go_roundw
      case rel => exact ⟨k + 1, by omega, by omega, by go_num, Lib.hid (by rw [HT.out]; exact HP2.out), HB2⟩
      case measure => simp [intOf]; omega
    · have hpl := puts_len 100 (ns.take k)
      rw [List.length_take] at hpl
      obtain ⟨ps, hps⟩ : ∃ ps, puts 100 (ns.take k) = ps := ⟨_, rfl⟩
      rw [hps] at HP hpl
      have hp3 : ps.length ≤ 100 := by omega
      clear hps hpl
      have hge : ns.length ≤ k ∨ (k < ns.length ∧ 100 ≤ k) := by omega
      clear hlt
      obtain ⟨rs, hrs⟩ : ∃ rs, rootsL (ksFrom [] ps) = rs := ⟨_, rfl⟩
      have HRS := Lib.hid hrs
      have hrl : rs.length ≤ ps.length := by
        have h1 := rootsL_len (ksFrom [] ps)
        rw [hrs, ksFrom_len] at h1
        simpa using h1
      clear hrs
      rcases hge with hge | ⟨hge1, hge2⟩
      all_goals
        go_wp2_with fail
        refine (nodes_own wr HP.out).mono ?_
        rintro e w2 ⟨xa, xc, rfl, hox, hb2⟩
        have hcap2 := own_cap hox
        have HOX := Lib.hid hox
        have HP2 := Lib.hid (HP.out.later hb2)
        have HB2 := Lib.hid hb2
        clear hox hb2
        go_wp2_with fail
        refine (roots_own _ HP2.out).mono ?_
        rw [HRS.out]
        rintro e w3 ⟨ra, rc, rfl, hor, hb3⟩
        have HOX3 := Lib.hid (own_below HOX.out hb3)
        have HOR := Lib.hid hor
        have HB3 := Lib.hid (bl HB2.out HB2.out.size hb3)
        clear hor hb3 HP2 HOX
        go_wp2_with fail
        refine (copyNodes_any ps xa xc _ (row_of_nodes HOX3.out rfl) (by omega)).mono ?_
        rintro e w4 ⟨ka, kc, rfl, hok, hb4⟩
        have HK4 := Lib.hid hok
        have HR4 := Lib.hid (own_below HOR.out hb4)
        have HX4 := Lib.hid (own_below HOX3.out hb4)
        have HB4 := Lib.hid (bl HB3.out HB3.out.size hb4)
        have hw34 := And.intro hb4.size HB3.out.size
        have HLX := Lib.hid (fun g hg => (HOX3.out.lt g hg).2)
        have HLR := Lib.hid (fun g hg => (HOR.out.lt g hg).2)
        clear hok hb4
        go_wp2_with fail
        refine (copyInts_any rs ra rc _ _ HR4.out (by omega)).mono ?_
        rintro e w5 ⟨kb, kd, rfl, hod, hb5⟩
        have HS := Lib.hid (show KeptSt wr.heap.size w3.heap.size w4.heap.size ps.length xa ra ka kb xc rc kc kd rs ps w5 from
          ⟨⟨_, own_below HX4.out hb5⟩, HLX.out, ownsRow_mono (own_below HR4.out hb5) HB2.out.size, HLR.out, own_below HK4.out hb5, hod⟩)
        have HB5 := Lib.hid (bl HB4.out HB4.out.size hb5)
        clear hod hb5 HK4 HR4 HX4 HB4 HLX HLR HOX3 HOR HB3 HB2
        go_wp2_with fail
        obtain ⟨wo, rfl⟩ : ∃ wo : World, wo = wr := ⟨_, rfl⟩
        go_loopw [43] (fun i wr => ∃ q : Nat, q ≤ ps.length ∧ i = .int .i64 q ∧ Hid (KeptSt wo.heap.size w3.heap.size w4.heap.size ps.length xa ra ka kb xc rc kc kd rs ps wr) ∧ Hid (Below wo.heap.size wo wr)) (fun i _ => ps.length - (intOf i).toNat)
        case atStart => exact ⟨0, Nat.zero_le _, rfl, HS, HB5⟩
        case round =>
          clear HS HB5
          obtain ⟨q, hq, rfl, HS, HBq⟩ := hrel
          by_cases hql : q < ps.length
          · go_wp2_with fail
            refine (inner5_any 7 8 _).mono ?_
            rintro e w6 ⟨rfl, hb6⟩
            have HS6 := Lib.hid (HS.out.later hb6)
            have HB6 := Lib.hid (bl HBq.out HBq.out.size hb6)
            clear hb6 HS HBq
            obtain ⟨xs, hxs⟩ := HS6.out.a
            obtain ⟨g, rfl⟩ := own_some hxs (by omega)
            have hxl := hxs.1
            have hxcc := own_cap hxs
            have e0 := hxs.frozenAt (q * 7)
            have d0 := (hxs.cellAt (q * 7) (by omega)).trans (List.getElem?_eq_getElem (by omega))
            have e1 := hxs.frozenAt (q * 7 + 1)
            have d1 := (hxs.cellAt (q * 7 + 1) (by omega)).trans (List.getElem?_eq_getElem (by omega))
            have e2 := hxs.frozenAt (q * 7 + 2)
            have d2 := (hxs.cellAt (q * 7 + 2) (by omega)).trans (List.getElem?_eq_getElem (by omega))
            have e3 := hxs.frozenAt (q * 7 + 3)
            have d3 := (hxs.cellAt (q * 7 + 3) (by omega)).trans (List.getElem?_eq_getElem (by omega))
            have e4 := hxs.frozenAt (q * 7 + 4)
            have d4 := (hxs.cellAt (q * 7 + 4) (by omega)).trans (List.getElem?_eq_getElem (by omega))
            have e5 := hxs.frozenAt (q * 7 + 5)
            have d5 := (hxs.cellAt (q * 7 + 5) (by omega)).trans (List.getElem?_eq_getElem (by omega))
            have e6 := hxs.frozenAt (q * 7 + 6)
            have d6 := (hxs.cellAt (q * 7 + 6) (by omega)).trans (List.getElem?_eq_getElem (by omega))
            clear hxs
            go_wp2_with fail
            go_roundw
            case rel =>
              have hg0 := (HS6.out.a.choose_spec.lt g rfl).1
              exact ⟨q + 1, by omega, by go_num, Lib.hid (((((((HS6.out.set hw34.1 _ _).set hw34.1 _ _).set hw34.1 _ _).set hw34.1 _ _).set hw34.1 _ _).set hw34.1 _ _).set hw34.1 _ _),
                Lib.hid (((((((HB6.out.setCell (p := ⟨g, _, none⟩) hg0 _).setCell (p := ⟨g, _, none⟩) hg0 _).setCell (p := ⟨g, _, none⟩) hg0 _).setCell (p := ⟨g, _, none⟩) hg0 _).setCell (p := ⟨g, _, none⟩) hg0 _).setCell (p := ⟨g, _, none⟩) hg0 _).setCell (p := ⟨g, _, none⟩) hg0 _)⟩
            case measure => simp [intOf]; omega
          · have hge : ps.length ≤ q := by omega
            go_wp2_with fail
            refine (roots_own _ (HP.out.later HBq.out)).mono ?_
            rw [HRS.out]
            rintro e w7 ⟨ya, yc, rfl, hoy, hb7⟩
            have hly := fun g hg => (hoy.lt g hg).1
            have hlk := fun g hg => (HS.out.kn.lt g hg)
            have hld := fun g hg => (HS.out.kr.lt g hg)
            have hlr := HS.out.rlow
            have hlr2 := fun g hg => (HS.out.r.lt g hg).2
            have hS7 := HS.out.later hb7
            have hB7 := bl HBq.out HBq.out.size hb7
            have hs7 := hb7.size
            have HS7 := Lib.hid hS7
            have HY := Lib.hid (ownsRow_mono hoy HBq.out.size)
            have HAB := Lib.hid (show ∀ g, (Value.slice ra rs.length rc).ownBlock = some g → (Value.slice ya rs.length yc).ownBlock ≠ some g from fun g h1 h2 => by
              have := hly g h2
              have := hlr2 g h1
              omega)
            have HKN := Lib.hid (show ∀ g, (Value.slice ka ps.length kc).ownBlock = some g → g < w7.heap.size ∧ (Value.slice ra rs.length rc).ownBlock ≠ some g ∧ (Value.slice ya rs.length yc).ownBlock ≠ some g from fun g h1 => by
              have h3 := hlk g h1
              refine ⟨by omega, fun h2 => ?_, fun h2 => ?_⟩
              · have := hlr g h2; omega
              · have := hly g h2; omega)
            have HKR := Lib.hid (show ∀ g, (Value.slice kb rs.length kd).ownBlock = some g → g < w7.heap.size ∧ (Value.slice ra rs.length rc).ownBlock ≠ some g ∧ (Value.slice ya rs.length yc).ownBlock ≠ some g from fun g h1 => by
              have h3 := hld g h1
              refine ⟨by omega, fun h2 => ?_, fun h2 => ?_⟩
              · have := hlr g h2; omega
              · have := hly g h2; omega)
            have HB7 := Lib.hid hB7
            clear hoy hb7 hly hlk hld hlr hlr2 hS7 hB7 hs7 HS HBq
            go_wp2_with fail
            refine (apart2_chg w7 ra ya rs.length rs.length rc yc wo.heap.size _ _ 25 HS7.out.r HY.out HAB.out HB7.out.size).mono ?_
            rintro e w8 ⟨rfl, hb8, hk8⟩
            have HKN8 := Lib.hid (row_of_nodes (ownsRow_block HS7.out.kn fun g hg => hk8 g (HKN.out g hg).1 (HKN.out g hg).2.1 (HKN.out g hg).2.2) rfl)
            have HKR8 := Lib.hid (row_of_owned (ownsRow_block HS7.out.kr fun g hg => hk8 g (HKR.out g hg).1 (HKR.out g hg).2.1 (HKR.out g hg).2.2))
            have HB8 := Lib.hid (HB7.out.trans hb8)
            have HP8 := Lib.hid (HP.out.later HB8.out)
            clear hb8 hk8 HKN HKR HAB HS7 HY HB7
            have HB8' := Lib.hid (bl HB.out HB.out.size HB8.out)
            clear HB8 HB HP
            go_wp2_with fail
            refine (nodes_own _ HP8.out).mono ?_
            rintro e w9 ⟨za, zc, rfl, hoz, hb9⟩
            have HZ9 := Lib.hid (row_of_nodes hoz rfl)
            have HP9 := Lib.hid (HP8.out.later hb9)
            have HKN9 := Lib.hid (HKN8.out.later hb9)
            have HKR9 := Lib.hid (HKR8.out.later hb9)
            have HB9 := Lib.hid (bl HB8'.out HB8'.out.size hb9)
            clear hoz hb9 HP8 HKN8 HKR8 HB8'
            go_wp2_with fail
            refine (nodes_any ps ps za ka zc kc _ HZ9.out HKN9.out (by omega) (by omega)).mono ?_
            rw [(sameN_iff ps ps).2 rfl]
            rintro e w10 ⟨rfl, hb10⟩
            have HP10 := Lib.hid (HP9.out.later hb10)
            have HKR10 := Lib.hid (HKR9.out.later hb10)
            have HB10 := Lib.hid (bl HB9.out HB9.out.size hb10)
            clear hb10 HZ9 HP9 HKN9 HKR9 HB9
            go_wp2_with fail
            refine (roots_own _ HP10.out).mono ?_
            rw [HRS.out]
            rintro e w11 ⟨ta, tc, rfl, hot, hb11⟩
            have HT11 := Lib.hid (row_of_owned hot)
            have HKR11 := Lib.hid (HKR10.out.later hb11)
            have HB11 := Lib.hid (bl HB10.out HB10.out.size hb11)
            clear hot hb11 HP10 HKR10 HB10
            go_wp2_with fail
            refine (ints_any rs rs ta kb tc kd _ HT11.out HKR11.out (by unfold maxLen; omega) (by unfold maxLen; omega)).mono ?_
            rw [show sameB rs rs = true from decide_eq_true rfl]
            rintro e w12 ⟨rfl, hb12⟩
            have HB12 := Lib.hid (bl HB11.out HB11.out.size hb12)
            clear hb12 HT11 HKR11 HB11
            go_wp2_with fail
            refine (awake5_any _).mono ?_
            rintro e w13 ⟨rfl, hb13⟩
            have HB13 := Lib.hid (bl HB12.out HB12.out.size hb13)
            clear hb13
            go_wp2
            go_ret
            exact ⟨rfl, HB13.out⟩
end Go.Proofs.Ytjpemijonjmcdaa
