/- The contract of pool.Height. -/
import Derived.Test.YtmfkpjafeaidkaaPoolRoots
import Derived.Test.YtmfkpjafeaidkaaRegionUIn
namespace Go.Proofs.Ytmfkpjafeaidkaa
open Go.RowKit Go.Shelf
attribute [local go_sem] Oper.semAt_some
set_option linter.unusedVariables false
set_option linter.unusedSimpArgs false

/-- How high a node is, of those of its kids. -/
def hFold (hs : List Int) (l : List Int) : Int := l.foldl (fun m k => max m (hs.getD k.toNat 0 + 1)) 0
def hOf (hs : List Int) (n : Nd) : Int := hFold hs (kidsL n.l n.r)
def hsL (ns : List Nd) : List Int := ns.foldl (fun hs n => hs ++ [hOf hs n]) []
theorem hsL_snoc (ns : List Nd) (n : Nd) : hsL (ns ++ [n]) = hsL ns ++ [hOf (hsL ns) n] := by unfold hsL; rw [List.foldl_append]; rfl
theorem hsL_len (ns : List Nd) : (hsL ns).length = ns.length := by
  refine snoc_ind (motive := fun ns => (hsL ns).length = ns.length) rfl (fun l a ih => ?_) ns
  rw [hsL_snoc]; simp [ih]
theorem hFold_snoc (hs l : List Int) (x : Int) : hFold hs (l ++ [x]) = max (hFold hs l) (hs.getD x.toNat 0 + 1) := by unfold hFold; rw [List.foldl_append]; rfl
theorem hFold_bd (hs l : List Int) (m : Int) (h0 : 0 ≤ m) (h : ∀ x ∈ l, 0 ≤ hs.getD x.toNat 0 ∧ hs.getD x.toNat 0 + 1 ≤ m) : 0 ≤ hFold hs l ∧ hFold hs l ≤ m := by
  refine snoc_ind (motive := fun l => (∀ x ∈ l, 0 ≤ hs.getD x.toNat 0 ∧ hs.getD x.toNat 0 + 1 ≤ m) → 0 ≤ hFold hs l ∧ hFold hs l ≤ m) (fun _ => by simp [hFold, h0]) (fun l a ih h => ?_) l h
  have h1 := ih (fun x hx => h x (List.mem_append_left _ hx))
  have h2 := h a (by simp)
  rw [hFold_snoc]
  omega
theorem hsL_take (ns : List Nd) (k : Nat) (h : k < ns.length) : hsL (ns.take (k + 1)) = hsL (ns.take k) ++ [hOf (hsL (ns.take k)) (ns.getD k Nd.zero)] := by rw [take_snoc' ns k h, hsL_snoc]
theorem hsL_bd {ns : List Nd} (hk : KidsOk ns) : ∀ k, k ≤ ns.length → ∀ x : Nat, x < k → 0 ≤ (hsL (ns.take k)).getD x 0 ∧ (hsL (ns.take k)).getD x 0 ≤ x := by
  intro k
  induction k with
  | zero => intro _ x hx; omega
  | succ k ih =>
    intro hkl x hx
    have ih' := ih (by omega)
    have hlen : (hsL (ns.take k)).length = k := by rw [hsL_len]; simp; omega
    rw [hsL_take ns k (by omega)]
    by_cases e : x < k
    · rw [List.getD_eq_getElem?_getD, List.getElem?_append_left (by omega), ← List.getD_eq_getElem?_getD]
      exact ih' x e
    · have hxk : x = k := by omega
      subst hxk
      rw [List.getD_eq_getElem?_getD, List.getElem?_append_right (by omega), hlen, Nat.sub_self]
      simp only [List.getElem?_cons_zero, Option.getD_some]
      obtain ⟨h1, h2⟩ := hk (x : Int) (by omega) (by omega)
      rw [show nd ns (x : Int) = ns.getD x Nd.zero by unfold nd; simp] at h1 h2
      unfold hOf
      refine hFold_bd _ _ _ (by omega) (fun y hy => ?_)
      have hy2 : 0 ≤ y ∧ y < x := by
        unfold kidsL at hy
        rw [List.mem_append] at hy
        rcases hy with hy | hy
        · split at hy
          · cases hy
          · rw [List.mem_singleton] at hy; subst hy; omega
        · split at hy
          · cases hy
          · rw [List.mem_singleton] at hy; subst hy; omega
      have := ih' y.toNat (by omega)
      omega

theorem hsL_prefix (ns : List Nd) (j : Nat) : hsL (ns.take j) <+: hsL ns := by
  have h : ∀ (l : List Nd) (hs : List Int), hs <+: l.foldl (fun hs n => hs ++ [hOf hs n]) hs := by
    intro l
    induction l with
    | nil => intro hs; exact List.prefix_refl _
    | cons n l ih => intro hs; exact (List.prefix_append _ _).trans (ih _)
  have e := List.take_append_drop j ns
  unfold hsL
  conv => rhs; rw [← e, List.foldl_append]
  exact h _ _
/-- Marks among the deferred calls, with nothing deferred, are shut one by one. -/
theorem leaves_marks {F : Fence} {n : Nat} {P : Program} {fn : Func} {tmps : Array Value} {R : Ending → World → Prop} {B : Nat} {w0 : World}
    (hfin : ∀ w', Below B w0 w' → ∃ v, (results fn tmps).run P w' = .ok v w' ∧ R (.returned v) w') : ∀ (ms : List Nat) (w : World), B ≤ w.heap.size → Below B w0 w → (∀ D ∈ ms, B ≤ D ∧ w.heap[D]? = some (.deferred (some []))) → ms.Nodup →
      LeavesInM F n P fn tmps R (ms.map fun D => { target := .collected D, args := #[] }) .returning w
  | [], w, _, hb, _, _ => hfin w hb
  | D :: ms, w, hB, hb, hm, hnd => by
    obtain ⟨h1, h2⟩ := hm D (List.mem_cons_self)
    have hg := grownBy_putObj' w D (.deferred none)
    refine ⟨by simp, .inl ⟨D, _, rfl, run_takeDeferred h2, ?_⟩⟩
    refine leaves_marks hfin ms _ (Nat.le_trans hB hg.size) (hb.grown hg hB (fun k e => by cases e; exact h1)) (fun D' hD' => ?_) (List.nodup_cons.1 hnd).2
    obtain ⟨h3, h4⟩ := hm D' (List.mem_cons_of_mem _ hD')
    refine ⟨h3, (hg.block D' (Array.getElem?_eq_some_iff.1 h4).1 (fun e => ?_)).trans h4⟩
    cases e
    exact (List.nodup_cons.1 hnd).1 hD'

def hRes (ns : List Nd) (i : Int) : Int := if walkErr ns i = 0 then (hsL ns).getD i.toNat 0 else 0

def hVals (ns : List Nd) (m k : Nat) : List Int := hsL (ns.take k) ++ List.replicate (m + 1 - k) 0
/-- The state of Height's loop. -/
structure HSt (w : World) (g m : Nat) (ns : List Nd) (k : Nat) (ms : List Nat) (W : World) : Prop where
  row : W.ownsRow w.heap.size 3 1 (.slice (some ⟨g, 0, none⟩) (m + 1) (m + 1)) (m + 1) ((hVals ns m k).map (.int .i64))
  ptr : W.heap[g + 1]? = some (.cells #[.slice (some ⟨g, 0, none⟩) (m + 1) (m + 1)] 29 (0, 0))
  bel : Below w.heap.size w W
  ge : w.heap.size ≤ g
  marks : ∀ D ∈ ms, w.heap.size ≤ D ∧ W.heap[D]? = some (.deferred (some []))
  nodup : ms.Nodup
/-- The state of the kids' loop. -/
def HInv (V w : World) (g m k : Nat) (vals hs : List Int) (l r : Int) (pre : List { x : Int // x ∈ kidsL l r }) (W' : World) : Prop :=
  V.grownBy W' (some g) ∧ W'.ownsRow w.heap.size 3 1 (.slice (some ⟨g, 0, none⟩) (m + 1) (m + 1)) (m + 1) ((vals.set k (hFold hs (pre.map Subtype.val))).map (.int .i64))
theorem hst_start {w w1 : World} {m : Nat} {ns : List Nd} (hB : Below w.heap.size w w1) (hm : m + 1 ≤ maxLen) : HSt w w1.heap.size m ns 0 [] ((w1.alloc (.cells (madeCells #[.int .i64 0] (m + 1)) 3)).alloc (.cells #[.slice (some ⟨w1.heap.size, 0, none⟩) (m + 1) (m + 1)] 29)) := by
  refine ⟨?_, ?_, (hB.alloc hB.size _).alloc (Nat.le_trans hB.size (by simp)) _, hB.size, (by intro D hD; cases hD), List.nodup_nil⟩
  · have h := World.ownsRow_lit (base := w.heap.size) (e := 3) (size := 1) w1 (madeCells #[.int .i64 0] (m + 1)) (m + 1) hB.size hm (by simp [size_madeCells])
    rw [toList_madeCells_one] at h
    have e : (hVals ns m 0).map (Value.int .i64) = List.replicate (m + 1) (.int .i64 0) := by unfold hVals; simp [hsL]
    rw [e]
    exact h.alloc _
  · have h := World.alloc_heap_new (w1.alloc (.cells (madeCells #[.int .i64 0] (m + 1)) 3)) (.cells #[.slice (some ⟨w1.heap.size, 0, none⟩) (m + 1) (m + 1)] 29)
    rw [World.size_alloc] at h
    exact h

set_option maxRecDepth 100000 in
set_option maxHeartbeats 4000000 in
theorem height_any (ns : List Nd) (ao : Option Addr) (cap : Nat) (i : Int) (w : World) (hrow : NdRow w ao ns) (hlen : ns.length ≤ 2513169434907) (hcap : ns.length ≤ cap) :
    Calls Try.prog 28 #[.slice ao ns.length cap, .int .i64 i] w fun e w' => e = .returned (.tuple #[.int .i64 (hRes ns i), .int .i64 (walkErr ns i)]) ∧ Below w.heap.size w w' := by
  refine (callsIn_wide (n := 6)).1 ?_
  refine callsIn_of_wp_marks Try.func28 rfl trivial ?_ rfl
  simp only [Try.ntmps28, List.size_toArray, List.length_cons, List.length_nil, Nat.reduceAdd, Nat.reduceSub, Array.replicate_succ, Array.replicate_zero, List.push_toArray, List.append_toArray, List.nil_append, List.cons_append]
  have HN := Lib.hid hrow
  clear hrow
  cases hr : rightL [] ns
  · have HE := Lib.hid (show walkErr ns i = 50 ∧ hRes ns i = 0 by
      have h : walkErr ns i = 50 := by unfold walkErr; rw [hr]; rfl
      exact ⟨h, by unfold hRes; rw [h]; rfl⟩)
    gi_wp2_with (refine ⟨trivial, ?_⟩; gi_at_call 27; refine (callsIn_wide.2 (right_any ns ao cap _ HN.out hlen)).mono ?_; rw [hr]; rintro e w1 ⟨rfl, hb1⟩; have HB1 := Lib.hid hb1; clear hb1)
    refine ⟨.tuple #[.int .i64 0, .int .i64 50], by simp [results, Try.f28, go_sem], by rw [HE.out.1, HE.out.2], HB1.out⟩
  · by_cases h0 : i < 0
    · have HE := Lib.hid (show walkErr ns i = 2 ∧ hRes ns i = 0 by
        have h : walkErr ns i = 2 := by unfold walkErr; rw [if_pos hr, if_neg (by omega)]
        exact ⟨h, by unfold hRes; rw [h]; rfl⟩)
      gi_wp2_with (refine ⟨trivial, ?_⟩; gi_at_call 27; refine (callsIn_wide.2 (right_any ns ao cap _ HN.out hlen)).mono ?_; rw [hr]; rintro e w1 ⟨rfl, hb1⟩; have HB1 := Lib.hid hb1; clear hb1)
      refine ⟨.tuple #[.int .i64 0, .int .i64 2], by simp [results, Try.f28, go_sem], by rw [HE.out.1, HE.out.2], HB1.out⟩
    · have h0' : 0 ≤ i := by omega
      clear h0
      by_cases h1 : (ns.length : Int) ≤ i
      · have HE := Lib.hid (show walkErr ns i = 2 ∧ hRes ns i = 0 by
          have h : walkErr ns i = 2 := by unfold walkErr; rw [if_pos hr, if_neg (by omega)]
          exact ⟨h, by unfold hRes; rw [h]; rfl⟩)
        gi_wp2_with (refine ⟨trivial, ?_⟩; gi_at_call 27; refine (callsIn_wide.2 (right_any ns ao cap _ HN.out hlen)).mono ?_; rw [hr]; rintro e w1 ⟨rfl, hb1⟩; have HB1 := Lib.hid hb1; clear hb1)
        refine ⟨.tuple #[.int .i64 0, .int .i64 2], by simp [results, Try.f28, go_sem], by rw [HE.out.1, HE.out.2], HB1.out⟩
      · have h1' : i < ns.length := by omega
        obtain ⟨m, rfl⟩ : ∃ m : Nat, i = (m : Int) := ⟨i.toNat, by omega⟩
        have HE := Lib.hid (show walkErr ns m = 0 ∧ hRes ns m = (hsL ns).getD m 0 by
          have h : walkErr ns m = 0 := by unfold walkErr; rw [if_pos hr, if_pos (by omega)]
          exact ⟨h, by unfold hRes; rw [if_pos h]; simp⟩)
        have hm : m < ns.length := by omega
        have HR := Lib.hid hr
        clear h1 h0'
        obtain ⟨ib, hib, hbz, hib1, hib2⟩ := info_parts infoInt
        have hmk := fun W => run_make_rowN (P := Try.prog) 29 3 ib (.int .i64 0) Try.underlying29 hib hbz .i64 .i64 (m + 1) (m + 1) (Nat.le_refl _) (by rw [hib2]; omega) (by omega) W
        rw [hib1, show ((m + 1 : Nat) : Int) = (m : Int) + 1 by omega] at hmk
        gi_wp2_with (refine ⟨trivial, ?_⟩; gi_at_call 27; refine (callsIn_wide.2 (right_any ns ao cap _ HN.out hlen)).mono ?_; rw [hr]; rintro e w1 ⟨rfl, hb1⟩; have HB1 := Lib.hid hb1; clear hb1)
        -- LOOP
        refine wpIn_loop (fun a W => ∃ (k : Nat) (u7 u8 u9 u10 u11 u12 u13 u14 u15 u16 u17 u18 u19 u20 u21 u22 u23 u24 u25 u26 u27 u28 u32 u33 u34 u35 u36 u37 u38 u39 u40 u41 u42 u43 u44 u45 u46 u47 u48 u49 u50 u51 u52 u53 u54 u55 u56 : Value) (ms : List Nat), k ≤ m + 1 ∧ a = ⟨#[.slice ao ns.length cap, .int .i64 m, undef, undef, .int .i64 0, .int .i64 0, .pointer (some ⟨w1.heap.size + 1, 0, none⟩), u7, u8, u9, u10, u11, u12, u13, u14, u15, u16, u17, u18, u19, u20, u21, u22, u23, u24, u25, u26, u27, u28, .slice ao (m + 1) cap, .int .i64 ((m : Int) + 1), .int .i64 k, u32, u33, u34, u35, u36, u37, u38, u39, u40, u41, u42, u43, u44, u45, u46, u47, u48, u49, u50, u51, u52, u53, u54, u55, u56], ms.map fun D => { target := .collected D, args := #[] }⟩ ∧ HSt w w1.heap.size m ns k ms W) (fun a _ => m + 1 - (intOf (a.tmps.getD 31 undef)).toNat) ?_ ?_
        · refine ⟨0, _, _, _, _, _, _, _, _, _, _, _, _, _, _, _, _, _, _, _, _, _, _, _, _, _, _, _, _, _, _, _, _, _, _, _, _, _, _, _, _, _, _, _, _, _, _, _, [], by omega, rfl, ?_⟩
          exact hst_start HB1.out (by unfold maxLen; omega)
        · rintro _ W ⟨k, u7, u8, u9, u10, u11, u12, u13, u14, u15, u16, u17, u18, u19, u20, u21, u22, u23, u24, u25, u26, u27, u28, u32, u33, u34, u35, u36, u37, u38, u39, u40, u41, u42, u43, u44, u45, u46, u47, u48, u49, u50, u51, u52, u53, u54, u55, u56, ms, hk, rfl, HST⟩
          have HS := Lib.hid HST
          clear HST
          by_cases hlt : k < m + 1
          · have hkn : k < ns.length := by omega
            obtain ⟨b, off, rfl, c0, c1, c2, c3, c4, c5, c6⟩ := (HN.out.later HS.out.bel).node k hkn
            have hkd := right_kidsOk HR.out (k : Int) (by omega) (by omega)
            rw [show nd ns (k : Int) = ns.getD k Nd.zero by unfold nd; simp] at hkd
            obtain ⟨n, hn⟩ : ∃ n, ns.getD k Nd.zero = n := ⟨_, rfl⟩
            rw [hn] at c0 c1 c2 c3 c4 c5 c6 hkd
            have HNN := Lib.hid hn
            clear hn
            gi_wp2_with (refine ⟨trivial, ?_⟩; gi_at_call 38; refine (callsIn_wide.2 (kids_any _ _ _ _ _ _ _ _)).mono ?_; rintro e w' ⟨rfl, rfl⟩)
            refine wpIn_from_box3 (fun V hat hnb hcb => ?_)
            obtain ⟨hBV, za, _, ca, _⟩ := hat
            obtain ⟨_, zn, _, cn, _⟩ := hnb
            obtain ⟨_, zc, _, cc, _⟩ := hcb
            have hz := hBV.size
            have hgl : w1.heap.size < W.heap.size := (HS.out.row.lt _ rfl).2
            have hg1 : w1.heap.size + 1 < W.heap.size := lt_of_block HS.out.ptr
            have HPV := Lib.hid ((hBV.block _ hg1).trans HS.out.ptr)
            have HRV := Lib.hid (own_below HS.out.row hBV)
            have HMV := Lib.hid (show ∀ D ∈ ms, w.heap.size ≤ D ∧ D < W.heap.size ∧ V.heap[D]? = some (.deferred (some [])) from fun D hD => by
              obtain ⟨h1, h2⟩ := HS.out.marks D hD
              have hl := (Array.getElem?_eq_some_iff.1 h2).1
              exact ⟨h1, hl, (hBV.block D hl).trans h2⟩)
            have hlen : (hsL (ns.take k)).length = k := by rw [hsL_len]; simp; omega
            have HV0 := Lib.hid (show hVals ns m k = (hVals ns m k).set k (hFold (hsL (ns.take k)) []) by
              unfold hVals hFold
              rw [List.set_append_right _ _ (by omega), hlen, Nat.sub_self, show m + 1 - k = (m - k) + 1 by omega, List.replicate_succ]
              rfl)
            have HVS := Lib.hid (show ∀ v, (hVals ns m k).set k v = hsL (ns.take k) ++ v :: List.replicate (m - k) 0 from fun v => by
              unfold hVals
              rw [List.set_append_right _ _ (by omega), hlen, Nat.sub_self, show m + 1 - k = (m - k) + 1 by omega, List.replicate_succ]
              rfl)
            have HBD := Lib.hid (hsL_bd (right_kidsOk HR.out) k (by omega))
            have HTK := Lib.hid (hsL_take ns k hkn)
            obtain ⟨hs, hhs⟩ : ∃ hs, hsL (ns.take k) = hs := ⟨_, rfl⟩
            rw [hhs] at HBD HV0 HVS HTK hlen
            have HKD := Lib.hid (show ∀ x ∈ kidsL n.l n.r, 0 ≤ x ∧ x < (k : Int) from fun x hx => by
              unfold kidsL at hx
              rw [List.mem_append] at hx
              rcases hx with hx | hx
              · split at hx
                · cases hx
                · rw [List.mem_singleton] at hx; subst hx; omega
              · split at hx
                · cases hx
                · rw [List.mem_singleton] at hx; subst hx; omega)
            have HSL := Lib.hid hlen
            have HBV := Lib.hid hBV
            clear hlen hhs hkd c0 c1 c2 c3 c4 c5 c6 hBV
            refine wpIn_rangeFunc_ownG rfl (by omega) (gf := 47) (lb := #[.pointer (some ⟨W.heap.size + 1 + 1, 0, none⟩)]) rfl trivial (enters_of Try.func47 (by kernel_rfl) rfl)
              (kids_stops_mem Fence.wide _ trivial rfl (by omega) (W.heap.size + 1 + 1) n.l n.r V zc (cc 1) (cc 2)) KeepsBlock.trans (keepsBlock_put zc) (Below.refl _ _) (fun _ => rfl)
              (HInv V w w1.heap.size m k (hVals ns m k) hs n.l n.r)
              (fun _ (_ : List { x : Int // x ∈ kidsL n.l n.r }) _ => False)
              (fun s A B row hs hg hr => ⟨by
                  cases row with
                  | none => exact grownBy_trans hs.1 (grownBy_any hg _)
                  | some r => exact grownBy_own (B := 0) hs.1 hg (hr r rfl).1,
                hs.2.kept hg (by
                  refine .inr (fun e => ?_)
                  have h1 := (hr w1.heap.size e.symm).1
                  omega)⟩)
              (fun _ _ _ _ _ hs _ _ => hs)
              ⟨World.grownBy.refl _ _, by rw [List.map_nil, ← HV0.out]; exact HRV.out⟩
              (fun (x : { x : Int // x ∈ kidsL n.l n.r }) => { tmps := #[.slice (some ⟨b, off, none⟩) ns.length cap, .int .i64 m, undef, undef, .int .i64 0, .int .i64 0, .pointer (some ⟨w1.heap.size + 1, 0, none⟩), .pointer (some ⟨W.heap.size, 0, none⟩), .pointer (some ⟨W.heap.size + 1, 0, none⟩), .int .i64 x.1, u10, u11, u12, u13, u14, u15, u16, u17, u18, u19, u20, u21, u22, u23, u24, u25, u26, u27, u28, .slice (some ⟨b, off, none⟩) (m + 1) cap, .int .i64 ((m : Int) + 1), .int .i64 k, .bool true, .int .i64 k, .pointer (some ⟨b, off + k * 7, none⟩), n.val, n.val, .func (.func 47) #[] #[.pointer (some ⟨W.heap.size + 1 + 1, 0, none⟩)], .int .i64 x.1, u39, u40, u41, u42, u43, u44, u45, u46, u47, u48, u49, u50, u51, u52, u53, u54, u55, u56], defers := [] }) ?assign ?body ?done ?stop
            case assign =>
              intro l x W' K hK
              gi_wp2
              exact hK
            case body =>
              rintro l pre ⟨x, hx⟩ W' ⟨hg', ho'⟩ _
              obtain ⟨hx0, hx1⟩ := HKD.out x hx
              have hcA : W'.cell? ⟨W.heap.size, 0, none⟩ = some (.int .i64 (k : Int)) := (World.cell?_of_block (hg'.block W.heap.size za (fun e => by simp only [Option.some.injEq] at e; omega))).trans (ca 0)
              have hcP : W'.cell? ⟨w1.heap.size + 1, 0, none⟩ = some (.slice (some ⟨w1.heap.size, 0, none⟩) (m + 1) (m + 1)) := cell_of_one ((hg'.block (w1.heap.size + 1) (by omega) (fun e => by simp at e)).trans HPV.out)
              have hbd := hFold_bd hs (pre.map Subtype.val) (m : Int) (by omega) (fun y hy => by
                obtain ⟨z, hz, rfl⟩ := List.mem_map.1 hy
                obtain ⟨h1, h2⟩ := HKD.out z.1 z.2
                have := HBD.out z.1.toNat (by omega)
                omega)
              have hbx := HBD.out x.toNat (by omega)
              have hcK := ho'.cellAt k (by omega)
              have hcX := ho'.cellAt x.toNat (by omega)
              have hfK := ho'.frozenAt k
              rw [HVS.out, List.map_append, List.getElem?_append_right (by rw [List.length_map, HSL.out]; exact Nat.le_refl _), List.length_map, HSL.out, Nat.sub_self, List.map_cons, List.getElem?_cons_zero] at hcK
              rw [HVS.out, List.map_append, List.getElem?_append_left (by rw [List.length_map, HSL.out]; omega), List.getElem?_map, List.getElem?_eq_getElem (by rw [HSL.out]; omega)] at hcX
              have hgx : hs.getD x.toNat 0 = hs[x.toNat]'(by rw [HSL.out]; omega) := by rw [List.getD_eq_getElem?_getD, List.getElem?_eq_getElem (by rw [HSL.out]; omega)]; rfl
              rw [Option.map_some, ← hgx] at hcX
              have hfs := hFold_snoc hs (pre.map Subtype.val) x
              obtain ⟨hx1v, hx1e⟩ : ∃ v, hs.getD x.toNat 0 = v := ⟨_, rfl⟩
              obtain ⟨hp, hpe⟩ : ∃ v, hFold hs (pre.map Subtype.val) = v := ⟨_, rfl⟩
              rw [hx1e] at hcX hbx hfs
              rw [hpe] at hcK hbd hfs
              have hst := ho'.stored k (.int .i64 (max hp (hx1v + 1)))
              rw [← List.map_set] at hst
              have HST := Lib.hid hst
              have HFS := Lib.hid hfs
              have HG := Lib.hid hg'
              have HO := Lib.hid ho'
              have HHX := Lib.hid hx1e
              have HHP := Lib.hid hpe
              have fin : ∀ v, max hp (hx1v + 1) = v → KeepsFrom V.heap.size W' (W'.setCell ⟨w1.heap.size, k, none⟩ (.int .i64 v)).drew ∧ KeepsBlock (W.heap.size + 1 + 1) W' (W'.setCell ⟨w1.heap.size, k, none⟩ (.int .i64 v)).drew ∧ HInv V w w1.heap.size m k (hVals ns m k) hs n.l n.r (pre ++ [⟨x, hx⟩]) (W'.setCell ⟨w1.heap.size, k, none⟩ (.int .i64 v)).drew := by
                rintro v rfl
                refine ⟨((KeepsOthers.setCell W' ⟨w1.heap.size, k, none⟩ _).trans (KeepsOthers.drew _)).from _, fun i => World.cell?_setCell_other _ _ _ _ (fun e => by have e' := congrArg Addr.block e; dsimp only at e'; omega), ⟨only_drew (only_setCell hg' (.inl rfl) _), ?_⟩⟩
                rw [List.map_append, List.map_singleton, hFold_snoc, hpe, hx1e]
                have h := hst.1.drew
                rw [hpe, List.set_set] at h
                exact h
              have FIN := Lib.hid fin
              clear hst hfs hg' ho' hx1e hpe hgx fin
              gi_wp2
              have hbv : hx1v + 1 ≤ 2513169434908 := by omega
              have hxm : x < (m : Int) + 1 := by omega
              by_cases hle : hx1v + 1 ≤ hp
              · have EM := Lib.hid (show max hp (hx1v + 1) = hp by omega)
                refine wpIn_region_until (fun w' => w' = W'.drew) [0, 1, 2, 3, 4, 5, 6, 7, 8, 9, 10, 11] (by kernel_rfl) ?_
                refine wpAnyUI_take (fun _ => trivial) (by kernel_rfl) (i := 0) rfl (by kernel_rfl) (by kernel_rfl) (by kernel_rfl) (by kernel_rfl) (by kernel_rfl) (by kernel_rfl) (fun _ _ _ h => h) rfl (by rintro _ rfl; go_simp; rfl) rfl ?_
                (try simp only [Act.put, List.setIfInBounds_toArray, List.set_cons_zero, List.set_cons_succ])
                refine wpAnyUI_take (fun _ => trivial) (by kernel_rfl) (i := 1) rfl (by kernel_rfl) (by kernel_rfl) (by kernel_rfl) (by kernel_rfl) (by kernel_rfl) (by kernel_rfl) (fun _ _ _ h => h) rfl (by rintro _ rfl; go_simp; rfl) rfl ?_
                (try simp only [Act.put, List.setIfInBounds_toArray, List.set_cons_zero, List.set_cons_succ])
                refine wpAnyUI_take (fun _ => trivial) (by kernel_rfl) (i := 2) rfl (by kernel_rfl) (by kernel_rfl) (by kernel_rfl) (by kernel_rfl) (by kernel_rfl) (by kernel_rfl) (fun _ _ _ h => h) rfl (by rintro _ rfl; go_simp; rfl) rfl ?_
                (try simp only [Act.put, List.setIfInBounds_toArray, List.set_cons_zero, List.set_cons_succ])
                refine wpAnyUI_take (fun _ => trivial) (by kernel_rfl) (i := 3) rfl (by kernel_rfl) (by kernel_rfl) (by kernel_rfl) (by kernel_rfl) (by kernel_rfl) (by kernel_rfl) (fun _ _ _ h => h) rfl (by rintro _ rfl; go_simp; rfl) rfl ?_
                (try simp only [Act.put, List.setIfInBounds_toArray, List.set_cons_zero, List.set_cons_succ])
                refine wpAnyUI_take (fun _ => trivial) (by kernel_rfl) (i := 4) rfl (by kernel_rfl) (by kernel_rfl) (by kernel_rfl) (by kernel_rfl) (by kernel_rfl) (by kernel_rfl) (fun _ _ _ h => h) rfl (by rintro _ rfl; go_simp; rfl) rfl ?_
                (try simp only [Act.put, List.setIfInBounds_toArray, List.set_cons_zero, List.set_cons_succ])
                refine wpAnyUI_take (fun _ => trivial) (by kernel_rfl) (i := 5) rfl (by kernel_rfl) (by kernel_rfl) (by kernel_rfl) (by kernel_rfl) (by kernel_rfl) (by kernel_rfl) (fun _ _ _ h => h) rfl (by rintro _ rfl; go_simp; rfl) rfl ?_
                (try simp only [Act.put, List.setIfInBounds_toArray, List.set_cons_zero, List.set_cons_succ])
                refine wpAnyUI_take (fun _ => trivial) (by kernel_rfl) (i := 6) rfl (by kernel_rfl) (by kernel_rfl) (by kernel_rfl) (by kernel_rfl) (by kernel_rfl) (by kernel_rfl) (fun _ _ _ h => h) rfl (by rintro _ rfl; go_simp; rfl) rfl ?_
                (try simp only [Act.put, List.setIfInBounds_toArray, List.set_cons_zero, List.set_cons_succ])
                refine wpAnyUI_take (fun _ => trivial) (by kernel_rfl) (i := 7) rfl (by kernel_rfl) (by kernel_rfl) (by kernel_rfl) (by kernel_rfl) (by kernel_rfl) (by kernel_rfl) (fun _ _ _ h => h) rfl (by rintro _ rfl; go_simp; rfl) rfl ?_
                (try simp only [Act.put, List.setIfInBounds_toArray, List.set_cons_zero, List.set_cons_succ])
                refine wpAnyUI_take (fun _ => trivial) (by kernel_rfl) (i := 8) rfl (by kernel_rfl) (by kernel_rfl) (by kernel_rfl) (by kernel_rfl) (by kernel_rfl) (by kernel_rfl) (fun _ _ _ h => h) rfl (by rintro _ rfl; go_simp; rfl) rfl ?_
                (try simp only [Act.put, List.setIfInBounds_toArray, List.set_cons_zero, List.set_cons_succ])
                refine wpAnyUI_take (fun _ => trivial) (by kernel_rfl) (i := 9) rfl (by kernel_rfl) (by kernel_rfl) (by kernel_rfl) (by kernel_rfl) (by kernel_rfl) (by kernel_rfl) (fun _ _ _ h => h) rfl (by rintro _ rfl; go_simp; rfl) rfl ?_
                (try simp only [Act.put, List.setIfInBounds_toArray, List.set_cons_zero, List.set_cons_succ])
                refine wpAnyUI_take (fun _ => trivial) (by kernel_rfl) (i := 10) rfl (by kernel_rfl) (by kernel_rfl) (by kernel_rfl) (by kernel_rfl) (by kernel_rfl) (by kernel_rfl) (fun _ _ _ h => h) rfl (by rintro _ rfl; go_simp; rfl) rfl ?_
                (try simp only [Act.put, List.setIfInBounds_toArray, List.set_cons_zero, List.set_cons_succ])
                refine wpAnyUI_take (fun _ => trivial) (by kernel_rfl) (i := 11) rfl (by kernel_rfl) (by kernel_rfl) (by kernel_rfl) (by kernel_rfl) (by kernel_rfl) (by kernel_rfl) (fun _ _ _ h => h) rfl (by rintro _ rfl; go_simp; rfl) rfl ?_
                (try simp only [Act.put, List.setIfInBounds_toArray, List.set_cons_zero, List.set_cons_succ])
                refine wpAnyUI_rest _ 12 2 rfl rfl (by kernel_rfl) (by kernel_rfl) ?_
                simp only [List.drop_succ_cons, List.drop_zero]
                gi_wp2
                exact FIN.out _ EM.out
              · have EM := Lib.hid (show max hp (hx1v + 1) = hx1v + 1 by omega)
                have hle' : hp < hx1v + 1 := by omega
                clear hle
                refine wpIn_region_until (fun w' => w' = W'.drew) [0, 1, 2, 3, 4, 5, 6, 7, 8, 9, 10, 11] (by kernel_rfl) ?_
                refine wpAnyUI_take (fun _ => trivial) (by kernel_rfl) (i := 0) rfl (by kernel_rfl) (by kernel_rfl) (by kernel_rfl) (by kernel_rfl) (by kernel_rfl) (by kernel_rfl) (fun _ _ _ h => h) rfl (by rintro _ rfl; go_simp; rfl) rfl ?_
                (try simp only [Act.put, List.setIfInBounds_toArray, List.set_cons_zero, List.set_cons_succ])
                refine wpAnyUI_take (fun _ => trivial) (by kernel_rfl) (i := 1) rfl (by kernel_rfl) (by kernel_rfl) (by kernel_rfl) (by kernel_rfl) (by kernel_rfl) (by kernel_rfl) (fun _ _ _ h => h) rfl (by rintro _ rfl; go_simp; rfl) rfl ?_
                (try simp only [Act.put, List.setIfInBounds_toArray, List.set_cons_zero, List.set_cons_succ])
                refine wpAnyUI_take (fun _ => trivial) (by kernel_rfl) (i := 2) rfl (by kernel_rfl) (by kernel_rfl) (by kernel_rfl) (by kernel_rfl) (by kernel_rfl) (by kernel_rfl) (fun _ _ _ h => h) rfl (by rintro _ rfl; go_simp; rfl) rfl ?_
                (try simp only [Act.put, List.setIfInBounds_toArray, List.set_cons_zero, List.set_cons_succ])
                refine wpAnyUI_take (fun _ => trivial) (by kernel_rfl) (i := 3) rfl (by kernel_rfl) (by kernel_rfl) (by kernel_rfl) (by kernel_rfl) (by kernel_rfl) (by kernel_rfl) (fun _ _ _ h => h) rfl (by rintro _ rfl; go_simp; rfl) rfl ?_
                (try simp only [Act.put, List.setIfInBounds_toArray, List.set_cons_zero, List.set_cons_succ])
                refine wpAnyUI_take (fun _ => trivial) (by kernel_rfl) (i := 4) rfl (by kernel_rfl) (by kernel_rfl) (by kernel_rfl) (by kernel_rfl) (by kernel_rfl) (by kernel_rfl) (fun _ _ _ h => h) rfl (by rintro _ rfl; go_simp; rfl) rfl ?_
                (try simp only [Act.put, List.setIfInBounds_toArray, List.set_cons_zero, List.set_cons_succ])
                refine wpAnyUI_take (fun _ => trivial) (by kernel_rfl) (i := 5) rfl (by kernel_rfl) (by kernel_rfl) (by kernel_rfl) (by kernel_rfl) (by kernel_rfl) (by kernel_rfl) (fun _ _ _ h => h) rfl (by rintro _ rfl; go_simp; rfl) rfl ?_
                (try simp only [Act.put, List.setIfInBounds_toArray, List.set_cons_zero, List.set_cons_succ])
                refine wpAnyUI_take (fun _ => trivial) (by kernel_rfl) (i := 6) rfl (by kernel_rfl) (by kernel_rfl) (by kernel_rfl) (by kernel_rfl) (by kernel_rfl) (by kernel_rfl) (fun _ _ _ h => h) rfl (by rintro _ rfl; go_simp; rfl) rfl ?_
                (try simp only [Act.put, List.setIfInBounds_toArray, List.set_cons_zero, List.set_cons_succ])
                refine wpAnyUI_take (fun _ => trivial) (by kernel_rfl) (i := 7) rfl (by kernel_rfl) (by kernel_rfl) (by kernel_rfl) (by kernel_rfl) (by kernel_rfl) (by kernel_rfl) (fun _ _ _ h => h) rfl (by rintro _ rfl; go_simp; rfl) rfl ?_
                (try simp only [Act.put, List.setIfInBounds_toArray, List.set_cons_zero, List.set_cons_succ])
                refine wpAnyUI_take (fun _ => trivial) (by kernel_rfl) (i := 8) rfl (by kernel_rfl) (by kernel_rfl) (by kernel_rfl) (by kernel_rfl) (by kernel_rfl) (by kernel_rfl) (fun _ _ _ h => h) rfl (by rintro _ rfl; go_simp; rfl) rfl ?_
                (try simp only [Act.put, List.setIfInBounds_toArray, List.set_cons_zero, List.set_cons_succ])
                refine wpAnyUI_take (fun _ => trivial) (by kernel_rfl) (i := 9) rfl (by kernel_rfl) (by kernel_rfl) (by kernel_rfl) (by kernel_rfl) (by kernel_rfl) (by kernel_rfl) (fun _ _ _ h => h) rfl (by rintro _ rfl; go_simp; rfl) rfl ?_
                (try simp only [Act.put, List.setIfInBounds_toArray, List.set_cons_zero, List.set_cons_succ])
                refine wpAnyUI_take (fun _ => trivial) (by kernel_rfl) (i := 10) rfl (by kernel_rfl) (by kernel_rfl) (by kernel_rfl) (by kernel_rfl) (by kernel_rfl) (by kernel_rfl) (fun _ _ _ h => h) rfl (by rintro _ rfl; go_simp; rfl) rfl ?_
                (try simp only [Act.put, List.setIfInBounds_toArray, List.set_cons_zero, List.set_cons_succ])
                refine wpAnyUI_take (fun _ => trivial) (by kernel_rfl) (i := 11) rfl (by kernel_rfl) (by kernel_rfl) (by kernel_rfl) (by kernel_rfl) (by kernel_rfl) (by kernel_rfl) (fun _ _ _ h => h) rfl (by rintro _ rfl; go_simp; rfl) rfl ?_
                (try simp only [Act.put, List.setIfInBounds_toArray, List.set_cons_zero, List.set_cons_succ])
                refine wpAnyUI_rest _ 12 2 rfl rfl (by kernel_rfl) (by kernel_rfl) ?_
                simp only [List.drop_succ_cons, List.drop_zero]
                gi_wp2
                exact FIN.out _ EM.out
            case done =>
              rintro D ys W' hD hys ⟨hg', ho'⟩ hK
              have hnext : HSt w w1.heap.size m ns (k + 1) (D :: ms) W' := by
                refine ⟨?_, (hg'.block _ (by omega) (fun e => by simp at e)).trans HPV.out, (HS.out.bel.trans (HBV.out.mono HS.out.bel.size)).grown hg' (Nat.le_trans HS.out.bel.size hz) (fun r e => by cases e; exact HS.out.ge), HS.out.ge, ?_, ?_⟩
                · rw [show ys.map Subtype.val = kidsL n.l n.r from hys, HVS.out] at ho'
                  have e : hVals ns m (k + 1) = hs ++ hFold hs (kidsL n.l n.r) :: List.replicate (m - k) 0 := by
                    unfold hVals
                    rw [HTK.out, HNN.out, List.append_assoc, show m + 1 - (k + 1) = m - k by omega]; rfl
                  rw [e]; exact ho'
                · intro D' hD'
                  rcases List.mem_cons.1 hD' with rfl | hD'
                  · exact ⟨Nat.le_trans HS.out.bel.size (Nat.le_trans hz hD), hK⟩
                  · obtain ⟨h1, h2, h3⟩ := HMV.out D' hD'
                    exact ⟨h1, (hg'.block D' (by omega) (fun e => by
                      simp only [Option.some.injEq] at e
                      subst e
                      obtain ⟨_, cur, hcv, hcur⟩ : ∃ (_ : True) (cur : Array Value), True ∧ V.heap[w1.heap.size]? = some (.cells cur 3 (0, 0)) := by
                        rcases HRV.out.2 with ⟨_, h⟩ | ⟨g, c, cur, hv, _, hh, _⟩
                        · omega
                        · simp only [Value.slice.injEq, Option.some.injEq, Addr.mk.injEq] at hv
                          obtain ⟨⟨rfl, _⟩, _⟩ := hv
                          exact ⟨trivial, cur, trivial, hh⟩
                      rw [hcur] at h3
                      cases h3)).trans h3⟩
                · refine List.nodup_cons.2 ⟨fun hm => ?_, HS.out.nodup⟩
                  have := (HMV.out D hm).2.1
                  omega
              have HNX := Lib.hid hnext
              clear hnext hg' ho' hK hys
              gi_wp2
              refine ⟨⟨k + 1, _, _, _, _, _, _, _, _, _, _, _, _, _, _, _, _, _, _, _, _, _, _, _, _, _, _, _, _, _, _, _, _, _, _, _, _, _, _, _, _, _, _, _, _, _, _, _, D :: ms, by omega, rfl, HNX.out⟩, ?_⟩
              simp [intOf]
              omega
            case stop =>
              rintro D c pre W' hD hpre h _
              exact h.elim
          · have hke : k = m + 1 := by omega
            subst hke
            have hrow := HS.out.row.cellAt m (by omega)
            have hptr := cell_of_one HS.out.ptr
            have hval : (hVals ns m (m + 1))[m]? = some ((hsL ns).getD m 0) := by
              unfold hVals
              have hl : (hsL (ns.take (m + 1))).length = m + 1 := by rw [hsL_len]; simp; omega
              rw [List.getElem?_append_left (by omega)]
              obtain ⟨t, ht⟩ := hsL_prefix ns (m + 1)
              have hl2 : m < (hsL ns).length := by rw [hsL_len]; exact hm
              rw [List.getD_eq_getElem?_getD, ← ht, List.getElem?_append_left (by omega), List.getElem?_eq_getElem (by omega)]; rfl
            rw [List.getElem?_map, hval, Option.map_some] at hrow
            obtain ⟨hv, hve⟩ : ∃ v, (hsL ns).getD m 0 = v := ⟨_, rfl⟩
            rw [hve] at hrow HE
            clear hve hval
            gi_wp2
            have hB := HS.out.bel.size
            refine leaves_marks (B := w.heap.size) (w0 := w) (fun w' hb => ⟨.tuple #[.int .i64 hv, .int .i64 0], by simp [results, Try.f28, go_sem], by rw [HE.out.1, HE.out.2], hb⟩) ms W hB HS.out.bel HS.out.marks HS.out.nodup
end Go.Proofs.Ytmfkpjafeaidkaa
