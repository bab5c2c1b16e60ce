/- The contract of pool.may: may a node be put behind others, some of which are kids? -/
import Derived.Test.YtmfkpjafeaidkaaPoolKids
namespace Go.Proofs.Ytmfkpjafeaidkaa
open Go.RowKit Go.Shelf
attribute [local go_sem] Oper.semAt_some
set_option linter.unusedVariables false

/-- A slice's cells: from its address on they hold xs. -/
def Row (W : World) (ao : Option Addr) (xs : List Value) : Prop := xs = [] ∨ ∃ b off, ao = some ⟨b, off, none⟩ ∧ ∀ i, i < xs.length → W.cell? ⟨b, off + i, none⟩ = xs[i]?
theorem Row.later {W W' : World} {ao : Option Addr} {xs : List Value} (h : Row W ao xs) (hb : Below W.heap.size W W') : Row W' ao xs := by
  rcases h with h | ⟨b, off, e, h⟩
  · exact .inl h
  · refine .inr ⟨b, off, e, fun i hi => ?_⟩
    have h1 := h i hi
    rw [List.getElem?_eq_getElem hi] at h1
    rw [List.getElem?_eq_getElem hi]
    exact (hb.cell (p := ⟨b, off + i, none⟩) (World.block_lt_of_cell? _ _ h1)).trans h1
theorem Row.at {W : World} {ao : Option Addr} {xs : List Value} (h : Row W ao xs) (i : Nat) (hi : i < xs.length) : ∃ b off, ao = some ⟨b, off, none⟩ ∧ W.cell? ⟨b, off + i, none⟩ = some xs[i] ∧ b < W.heap.size := by
  rcases h with h | ⟨b, off, e, h⟩
  · subst h; simp at hi
  · have h1 := h i hi
    rw [List.getElem?_eq_getElem hi] at h1
    exact ⟨b, off, e, h1, World.block_lt_of_cell? _ _ h1⟩

section
variable {P : Program} {F : Fence} {n : Nat} {c : Code} {Q : Exit → Act → World → Prop} {a : Act} {w : World} {x y z u v : Array Value} {tx ty tz tu tv : TypeId}
theorem wpIn_from_box5 (h : ∀ W, Boxed1 w W w.heap.size x → Boxed1 w W (w.heap.size + 1) y → Boxed1 w W (w.heap.size + 1 + 1) z → Boxed1 w W (w.heap.size + 1 + 1 + 1) u → Boxed1 w W (w.heap.size + 1 + 1 + 1 + 1) v → c.wpIn F n P Q a W) :
    c.wpIn F n P Q a (((((w.alloc (.cells x tx)).alloc (.cells y ty)).alloc (.cells z tz)).alloc (.cells u tu)).alloc (.cells v tv)) := by
  refine h _ ?_ ?_ ?_ ?_ ?_
  · exact ((((boxed_new w x tx).alloc _).alloc _).alloc _).alloc _
  · have e : (w.alloc (.cells x tx)).heap.size = w.heap.size + 1 := by simp only [World.size_alloc]
    have g := Boxed1.first (.cells x tx) ((((boxed_new (w.alloc (.cells x tx)) y ty).alloc (.cells z tz)).alloc (.cells u tu)).alloc (.cells v tv))
    rw [e] at g; exact g
  · have e : ((w.alloc (.cells x tx)).alloc (.cells y ty)).heap.size = w.heap.size + 1 + 1 := by simp only [World.size_alloc]
    have g := Boxed1.first (.cells x tx) (Boxed1.first (.cells y ty) (((boxed_new ((w.alloc (.cells x tx)).alloc (.cells y ty)) z tz).alloc (.cells u tu)).alloc (.cells v tv)))
    rw [e] at g; exact g
  · have e : (((w.alloc (.cells x tx)).alloc (.cells y ty)).alloc (.cells z tz)).heap.size = w.heap.size + 1 + 1 + 1 := by simp only [World.size_alloc]
    have g := Boxed1.first (.cells x tx) (Boxed1.first (.cells y ty) (Boxed1.first (.cells z tz) ((boxed_new (((w.alloc (.cells x tx)).alloc (.cells y ty)).alloc (.cells z tz)) u tu).alloc (.cells v tv))))
    rw [e] at g; exact g
  · have e : ((((w.alloc (.cells x tx)).alloc (.cells y ty)).alloc (.cells z tz)).alloc (.cells u tu)).heap.size = w.heap.size + 1 + 1 + 1 + 1 := by simp only [World.size_alloc]
    have g := Boxed1.first (.cells x tx) (Boxed1.first (.cells y ty) (Boxed1.first (.cells z tz) (Boxed1.first (.cells u tu) (boxed_new ((((w.alloc (.cells x tx)).alloc (.cells y ty)).alloc (.cells z tz)).alloc (.cells u tu)) v tv))))
    rw [e] at g; exact g
end

/-- May a place be a kid? -/
def okKid (ks : List Bool) (x : Int) : Bool := decide (0 ≤ x ∧ x < ks.length) && !(ks.getD x.toNat true)
def AllK (ks : List Bool) (l : List Int) : Bool := l.all (okKid ks)
theorem AllK.yes {ks : List Bool} {l : List Int} {x : Int} (h : AllK ks l = true) (g : okKid ks x = true) : AllK ks (l ++ [x]) = true := by unfold AllK at *; rw [List.all_append, h]; simp [g]
theorem AllK.no {ks : List Bool} {l : List Int} {x : Int} (g : okKid ks x = false) : AllK ks (l ++ [x]) = false := by unfold AllK at *; rw [List.all_append]; simp [g]
def mayB (k L R : Int) (ks : List Bool) : Bool := AllK ks (kidsL L R) && (if k = 1 then (kidsL L R).isEmpty else if k = 2 then !(kidsL L R).isEmpty && L != R else false)

set_option maxRecDepth 100000 in
set_option maxHeartbeats 1000000 in
theorem may_any (k L R f t a it : Int) (ks : List Bool) (ao : Option Addr) (cap : Nat) (w : World) (hrow : Row w ao (ks.map .bool)) (hlen : ks.length ≤ maxLen) :
    Calls Try.prog 36 #[nodeV k L R f t a it, .slice ao ks.length cap] w fun e w' => e = .returned (.bool (mayB k L R ks)) ∧ Below w.heap.size w w' := by
  unfold maxLen at hlen
  refine (callsIn_wide (n := 6)).1 ?_
  refine callsIn_of_wp_marks Try.func36 rfl trivial ?_ rfl
  simp only [Try.ntmps36, List.size_toArray, List.length_cons, List.length_nil, Nat.reduceAdd, Nat.reduceSub, Array.replicate_succ, Array.replicate_zero, List.push_toArray, List.append_toArray, List.nil_append, List.cons_append]
  gi_wp2_with (refine ⟨trivial, ?_⟩; gi_at_call 38; refine (callsIn_wide.2 (kids_any _ _ _ _ _ _ _ _)).mono ?_; rintro e w' ⟨rfl, rfl⟩)
  refine wpIn_from_box5 (fun W hn hk hr hm hc => ?_)
  obtain ⟨hB, zn, _, cn, _⟩ := hn
  obtain ⟨_, zk, _, ck, _⟩ := hk
  obtain ⟨_, zr, _, cr, fr⟩ := hr
  obtain ⟨_, zm, _, cm, fm⟩ := hm
  obtain ⟨_, zc, _, cc, _⟩ := hc
  refine wpIn_rangeFunc_ownG rfl (by omega) (gf := 47) (lb := #[.pointer (some ⟨w.heap.size + 1 + 1 + 1 + 1, 0, none⟩)]) rfl trivial (enters_of Try.func47 (by kernel_rfl) rfl)
    (kids_stops Fence.wide _ trivial rfl (by omega) (w.heap.size + 1 + 1 + 1 + 1) L R W zc (cc 1) (cc 2)) KeepsBlock.trans (keepsBlock_put zc) (Below.refl _ _) (fun _ => rfl)
    (fun pre W' => (AllK ks pre = true ∧ W'.cell? ⟨w.heap.size, 0, none⟩ = some (.int .u8 k) ∧ W'.cell? ⟨w.heap.size, 1, none⟩ = some (.int .i64 L) ∧ W'.cell? ⟨w.heap.size, 2, none⟩ = some (.int .i64 R) ∧ W'.cell? ⟨w.heap.size + 1, 0, none⟩ = some (.slice ao ks.length cap) ∧ W'.cell? ⟨w.heap.size + 1 + 1, 0, none⟩ = some (.bool false) ∧ W'.frozen? ⟨w.heap.size + 1 + 1, 0, none⟩ = false ∧ W'.cell? ⟨w.heap.size + 1 + 1 + 1, 0, none⟩ = some (.int .i64 pre.length) ∧ W'.frozen? ⟨w.heap.size + 1 + 1 + 1, 0, none⟩ = false) ∧ Below w.heap.size w W')
    (fun c pre W' => (c = .ret ∧ AllK ks pre = false ∧ W'.cell? ⟨w.heap.size + 1 + 1, 0, none⟩ = some (.bool false)) ∧ Below w.heap.size w W')
    (OwnFrom.and (Own.from (fun s A B row hs hg hr => ⟨hs.1, cell_kept hs.2.1 hg hr, cell_kept hs.2.2.1 hg hr, cell_kept hs.2.2.2.1 hg hr, cell_kept hs.2.2.2.2.1 hg hr, cell_kept hs.2.2.2.2.2.1 hg hr, (frozen_kept hs.2.2.2.2.2.1 hg hr).trans hs.2.2.2.2.2.2.1, cell_kept hs.2.2.2.2.2.2.2.1 hg hr, (frozen_kept hs.2.2.2.2.2.2.2.1 hg hr).trans hs.2.2.2.2.2.2.2.2⟩) _) (ownFrom_below (Nat.le_refl _) hB.size))
    (fun c => OwnFrom.and (Own.from (fun s A B row hs hg hr => ⟨hs.1, hs.2.1, cell_kept hs.2.2 hg hr⟩) _) (ownFrom_below (Nat.le_refl _) hB.size))
    ⟨⟨rfl, cn 0, cn 1, cn 2, ck 0, cr 0, fr 0, cm 0, fm 0⟩, hB⟩
    (fun x => { tmps := #[nodeV k L R f t a it, .slice ao ks.length cap, .pointer (some ⟨w.heap.size, 0, none⟩), .pointer (some ⟨w.heap.size + 1, 0, none⟩), .pointer (some ⟨w.heap.size + 1 + 1, 0, none⟩), .pointer (some ⟨w.heap.size + 1 + 1 + 1, 0, none⟩), .int .i64 x, nodeV k L R f t a it, .func (.func 47) #[] #[.pointer (some ⟨w.heap.size + 1 + 1 + 1 + 1, 0, none⟩)], .int .i64 x, undef, undef, undef, undef, undef, undef, undef, undef, undef, undef, undef, undef, undef, undef, undef, undef, undef, undef, undef, undef, undef, undef, undef, undef, undef, undef, undef, undef, undef, undef, undef, undef, undef], defers := [] }) ?assign ?body ?done ?stop
  case assign =>
    intro l x W' K hK
    gi_wp2
    exact hK
  case body =>
    rintro l pre x W' ⟨⟨hp, c0, c1, c2, ck', cr', fr', cm', fm'⟩, hB'⟩ hl2
    have hrow' := hrow.later hB'
    have oth : ∀ (c o : Nat) (v : Value), c ≠ w.heap.size + 1 + 1 + 1 + 1 → KeepsBlock (w.heap.size + 1 + 1 + 1 + 1) W' (W'.setCell ⟨c, o, none⟩ v) := fun c o v hc i => World.cell?_setCell_other _ _ _ _ (fun e => hc (by cases e; rfl))
    have HO := Lib.hid oth
    clear oth hrow
    by_cases h1 : x < 0
    · have hf := Lib.hid (show okKid ks x = false by unfold okKid; rw [decide_eq_false (by omega)]; rfl)
      have HP := Lib.hid hp
      clear hp hrow'
      gi_wp2
      exact ⟨(KeepsOthers.setCell _ _ _).from _, ⟨rfl, AllK.no hf.out, World.cell?_setCell_same' _ _ _ (by rw [cr']; rfl)⟩, hB'.setCell (p := ⟨w.heap.size + 1 + 1, 0, none⟩) (by show w.heap.size ≤ w.heap.size + 1 + 1; omega) _⟩
    · by_cases h2 : (ks.length : Int) ≤ x
      · have hf := Lib.hid (show okKid ks x = false by unfold okKid; rw [decide_eq_false (by omega)]; rfl)
        have HP := Lib.hid hp
        clear hp hrow'
        gi_wp2
        exact ⟨(KeepsOthers.setCell _ _ _).from _, ⟨rfl, AllK.no hf.out, World.cell?_setCell_same' _ _ _ (by rw [cr']; rfl)⟩, hB'.setCell (p := ⟨w.heap.size + 1 + 1, 0, none⟩) (by show w.heap.size ≤ w.heap.size + 1 + 1; omega) _⟩
      · obtain ⟨kb, ko, rfl, hcx, _⟩ := hrow'.at x.toNat (by simp; omega)
        have hx0 : 0 ≤ x := by omega
        have hx1 : x < ks.length := by omega
        have hcx' : W'.cell? ⟨kb, ko + x.toNat, none⟩ = some (.bool (ks.getD x.toNat true)) := by
          rw [hcx]; simp [List.getD, List.getElem?_eq_getElem (show x.toNat < ks.length by omega)]
        clear hcx hrow' h1 h2
        cases hb : ks.getD x.toNat true
        · rw [hb] at hcx'
          have hf := Lib.hid (show okKid ks x = true by unfold okKid; rw [decide_eq_true ⟨hx0, hx1⟩, hb]; rfl)
          have HP := Lib.hid hp
          clear hp hb
          gi_wp2
          exact ⟨(KeepsOthers.setCell _ _ _).from _, HO.out _ _ _ (by omega), ⟨AllK.yes HP.out hf.out, (World.cell?_setCell_other _ _ _ _ (fun e => by have e' := congrArg Addr.block e; dsimp only at e'; omega)).trans c0, (World.cell?_setCell_other _ _ _ _ (fun e => by have e' := congrArg Addr.block e; dsimp only at e'; omega)).trans c1, (World.cell?_setCell_other _ _ _ _ (fun e => by have e' := congrArg Addr.block e; dsimp only at e'; omega)).trans c2, (World.cell?_setCell_other _ _ _ _ (fun e => by have e' := congrArg Addr.block e; dsimp only at e'; omega)).trans ck', (World.cell?_setCell_other _ _ _ _ (fun e => by have e' := congrArg Addr.block e; dsimp only at e'; omega)).trans cr', by rw [World.frozen?_setCell]; exact fr', by rw [World.cell?_setCell_same' _ _ _ (by rw [cm']; rfl)]; simp, by rw [World.frozen?_setCell]; exact fm'⟩, hB'.setCell (p := ⟨w.heap.size + 1 + 1 + 1, 0, none⟩) (by show w.heap.size ≤ w.heap.size + 1 + 1 + 1; omega) _⟩
        · rw [hb] at hcx'
          have hf := Lib.hid (show okKid ks x = false by unfold okKid; rw [hb]; simp)
          have HP := Lib.hid hp
          clear hp hb
          gi_wp2
          exact ⟨(KeepsOthers.setCell _ _ _).from _, ⟨rfl, AllK.no hf.out, World.cell?_setCell_same' _ _ _ (by rw [cr']; rfl)⟩, hB'.setCell (p := ⟨w.heap.size + 1 + 1, 0, none⟩) (by show w.heap.size ≤ w.heap.size + 1 + 1; omega) _⟩
  case done =>
    rintro D ys W' hD rfl ⟨⟨hp, c0, c1, c2, ck', cr', fr', cm', fm'⟩, hB'⟩ hK
    have HP := Lib.hid hp
    clear hp hrow ck'
    have hlen2 := kidsL_len L R
    have fin : ∀ (b : Bool), mayB k L R ks = b → ∀ a' : Array Value, a'[4]?.getD undef = .pointer (some ⟨w.heap.size + 1 + 1, 0, none⟩) → bodyPostM Fence.wide 6 Try.prog Try.f36 (fun e w' => e = .returned (.bool (mayB k L R ks)) ∧ Below w.heap.size w w') .ret { tmps := a', defers := [{ target := .collected D, args := #[] }] } (W'.setCell ⟨w.heap.size + 1 + 1, 0, none⟩ (.bool b)) := by
      intro b hb a' ha'
      have hK' := (KeepsOthers.setCell W' ⟨w.heap.size + 1 + 1, 0, none⟩ (.bool b)).same D _ hK rfl
      refine ⟨by simp, .inl ⟨_, _, rfl, run_takeDeferred hK', ?_⟩⟩
      have hc5 := cell_kept (World.cell?_setCell_same' W' ⟨w.heap.size + 1 + 1, 0, none⟩ (.bool b) (by rw [cr']; rfl)) (grownBy_putObj' _ D (.deferred none)) (fun r e => by cases e; exact ⟨_, hK', rfl⟩)
      refine ⟨.bool b, ?_, by rw [hb], (hB'.setCell (p := ⟨w.heap.size + 1 + 1, 0, none⟩) (by show w.heap.size ≤ w.heap.size + 1 + 1; omega) _).trans (belowK_b (w := w) (Nat.le_refl _) _ D _ _ (Nat.le_trans hB.size hD) hK' rfl rfl)⟩
      simp [results, Try.f36, go_sem, ha', hc5]
    have FIN := Lib.hid fin
    clear fin
    by_cases k1 : k = 1
    · have b1 : (k == 1) = true := by simpa using k1
      have H := Lib.hid (show mayB k L R ks = (((kidsL L R).length : Int) == 0) by
        unfold mayB; rw [HP.out, if_pos k1, Bool.true_and, Bool.eq_iff_iff]; simp [List.isEmpty_iff])
      clear k1
      gi_wp2
      exact FIN.out _ H.out _ rfl
    · have b1 : (k == 1) = false := by simpa using k1
      by_cases k2 : k = 2
      · have b2 : (k == 2) = true := by simpa using k2
        by_cases hm : 0 < (kidsL L R).length
        · have H := Lib.hid (show mayB k L R ks = (L != R) by
            unfold mayB; rw [HP.out, if_neg k1, if_pos k2, Bool.true_and, show (kidsL L R).isEmpty = false by cases h : kidsL L R <;> simp_all]; rfl)
          clear k1 k2
          gi_wp2
          exact FIN.out _ H.out _ rfl
        · have H := Lib.hid (show mayB k L R ks = false by
            unfold mayB; rw [HP.out, if_neg k1, if_pos k2, Bool.true_and, show (kidsL L R).isEmpty = true by cases h : kidsL L R <;> simp_all]; rfl)
          clear k1 k2
          gi_wp2
          exact FIN.out _ H.out _ rfl
      · have b2 : (k == 2) = false := by simpa using k2
        have H := Lib.hid (show mayB k L R ks = false by
          unfold mayB; rw [if_neg k1, if_neg k2, Bool.and_false])
        clear k1 k2
        gi_wp2
        exact FIN.out _ H.out _ rfl
  case stop =>
    rintro D c pre W' hD hpre ⟨⟨rfl, hin, hcr⟩, hB'⟩ hK
    gi_wp2
    refine ⟨by simp, .inl ⟨_, _, rfl, run_takeDeferred hK, ?_⟩⟩
    have hc5 := cell_kept hcr (grownBy_putObj' _ D (.deferred none)) (fun r e => by cases e; exact ⟨_, hK, rfl⟩)
    have hm : mayB k L R ks = false := by
      unfold mayB AllK
      obtain ⟨r, hr⟩ := hpre
      unfold AllK at hin
      rw [← hr, List.all_append, hin]; rfl
    refine ⟨.bool false, ?_, by rw [hm], hB'.trans (belowK_b (w := w) (Nat.le_refl _) W' D _ _ (Nat.le_trans hB.size hD) hK rfl rfl)⟩
    simp [results, Try.f36, go_sem, hc5]
end Go.Proofs.Ytmfkpjafeaidkaa
