/- The state of FrameSame: two frames, what they have told. -/
import Derived.Test.YtmfkpjafeaidkaaFrameAsk
import Derived.Test.YtmfkpjafeaidkaaLowApart
namespace Go.Proofs.Ytmfkpjafeaidkaa
open Go.RowKit
set_option linter.unusedVariables false
set_option linter.unusedSimpArgs false

theorem chg_cell (w : World) (g j : Nat) (u : Value) : ChgOnly [g] w (w.setCell ⟨g, j, none⟩ u) := ⟨rfl, rfl, rfl, by simp, fun i _ hn => Below.heap_setCell _ _ _ _ (fun e => hn (by rw [e]; simp))⟩
theorem ints_at_own_some {w : World} {base : Nat} {e : TypeId} {size n c : Nat} {a : Option Addr} {xs : List Value} (h : w.ownsRow base e size (.slice a n c) n xs) (hn : 0 < n) : ∃ g, a = some ⟨g, 0, none⟩ := by
  rcases h.2 with ⟨_, h⟩ | ⟨g, _, _, h, _⟩
  · omega
  · simp only [Value.slice.injEq] at h; exact ⟨g, h.1⟩

/-- Two frames of as many leaves; the list la of nodes, that is written over; the lists xs and ys of places; the copy ka. -/
structure SameS (B fb gb m N : Nat) (la : Option Addr) (lc : Nat) (ls : List Value) (xa : Option Addr) (xc : Nat) (xs : List Int) (ya : Option Addr) (yc : Nat) (ys : List Int) (ka : Option Addr) (kc : Nat) (ks : List Nd) (w0 w : World) : Prop where
  f : FrameIn fb m w
  g : FrameIn gb m w
  fa : ∀ p, (Value.slice la N lc).ownBlock = some p → FrameAway fb m p w
  ga : ∀ p, (Value.slice la N lc).ownBlock = some p → FrameAway gb m p w
  l : w.ownsRow B 49 7 (.slice la N lc) N ls
  x : w.ownsRow B 3 1 (.slice xa xs.length xc) xs.length (xs.map (.int .i64))
  y : w.ownsRow B 3 1 (.slice ya ys.length yc) ys.length (ys.map (.int .i64))
  xy : ∀ p, (Value.slice xa xs.length xc).ownBlock = some p → (Value.slice ya ys.length yc).ownBlock ≠ some p
  k : w.ownsRow B 49 7 (.slice ka ks.length kc) ks.length (flatN ks)
  lk : ∀ p, (Value.slice la N lc).ownBlock = some p → (Value.slice ka ks.length kc).ownBlock ≠ some p
  b : Below B w0 w
  low : B ≤ fb ∧ B ≤ gb ∧ fb ≠ gb ∧ B ≤ w.heap.size
section
variable {B fb gb m N : Nat} {la : Option Addr} {lc : Nat} {ls : List Value} {xa : Option Addr} {xc : Nat} {xs : List Int} {ya : Option Addr} {yc : Nat} {ys : List Int} {ka : Option Addr} {kc : Nat} {ks : List Nd} {w0 w w' : World}
theorem SameS.onF (h : SameS B fb gb m N la lc ls xa xc xs ya yc ys ka kc ks w0 w) (hf : FrameIn fb m w') (hc : ChgOnly [fb] w w') (hfr : FrameFrom fb m w w') : SameS B fb gb m N la lc ls xa xc xs ya yc ys ka kc ks w0 w' :=
  ⟨hf, h.g.other h.f (Ne.symm h.low.2.2.1) hc, fun p hp => hfr p (h.l.lt p hp).2 (h.fa p hp), fun p hp => (h.ga p hp).other h.f (Ne.symm h.low.2.2.1) hc, own_frame h.l h.f (by decide) hc, own_frame h.x h.f (by decide) hc, own_frame h.y h.f (by decide) hc, h.xy,
    own_frame h.k h.f (by decide) hc, h.lk, ChgOnly.below_of h.b h.low.2.2.2 hc h.low.1, h.low.1, h.low.2.1, h.low.2.2.1, Nat.le_trans h.low.2.2.2 hc.size⟩
theorem SameS.onG (h : SameS B fb gb m N la lc ls xa xc xs ya yc ys ka kc ks w0 w) (hg : FrameIn gb m w') (hc : ChgOnly [gb] w w') (hfr : FrameFrom gb m w w') : SameS B fb gb m N la lc ls xa xc xs ya yc ys ka kc ks w0 w' :=
  ⟨h.f.other h.g h.low.2.2.1 hc, hg, fun p hp => (h.fa p hp).other h.g h.low.2.2.1 hc, fun p hp => hfr p (h.l.lt p hp).2 (h.ga p hp), own_frame h.l h.g (by decide) hc, own_frame h.x h.g (by decide) hc, own_frame h.y h.g (by decide) hc, h.xy,
    own_frame h.k h.g (by decide) hc, h.lk, ChgOnly.below_of h.b h.low.2.2.2 hc h.low.2.1, h.low.1, h.low.2.1, h.low.2.2.1, Nat.le_trans h.low.2.2.2 hc.size⟩
theorem SameS.later (h : SameS B fb gb m N la lc ls xa xc xs ya yc ys ka kc ks w0 w) (hb : Below w.heap.size w w') : SameS B fb gb m N la lc ls xa xc xs ya yc ys ka kc ks w0 w' :=
  ⟨h.f.later hb, h.g.later hb, fun p hp => (h.fa p hp).later hb, fun p hp => (h.ga p hp).later hb, own_below h.l hb, own_below h.x hb, own_below h.y hb, h.xy, own_below h.k hb, h.lk, bl h.b h.low.2.2.2 hb, h.low.1, h.low.2.1, h.low.2.2.1, Nat.le_trans h.low.2.2.2 hb.size⟩
theorem SameS.withX {xa' : Option Addr} {xc' : Nat} {xs' : List Int} (h : SameS B fb gb m N la lc ls xa xc xs none 0 [] ka kc ks w0 w) (hx : w.ownsRow B 3 1 (.slice xa' xs'.length xc') xs'.length (xs'.map (.int .i64))) : SameS B fb gb m N la lc ls xa' xc' xs' none 0 [] ka kc ks w0 w :=
  ⟨h.f, h.g, h.fa, h.ga, h.l, hx, h.y, fun p _ h => (by simp [Value.ownBlock] at h), h.k, h.lk, h.b, h.low⟩
theorem SameS.withY {ya' : Option Addr} {yc' : Nat} {ys' : List Int} (h : SameS B fb gb m N la lc ls xa xc xs ya yc ys ka kc ks w0 w) (hy : w.ownsRow B 3 1 (.slice ya' ys'.length yc') ys'.length (ys'.map (.int .i64))) (hxy : ∀ p, (Value.slice xa xs.length xc).ownBlock = some p → (Value.slice ya' ys'.length yc').ownBlock ≠ some p) : SameS B fb gb m N la lc ls xa xc xs ya' yc' ys' ka kc ks w0 w :=
  ⟨h.f, h.g, h.fa, h.ga, h.l, h.x, hy, hxy, h.k, h.lk, h.b, h.low⟩
theorem SameS.withK {ka' : Option Addr} {kc' : Nat} {ks' : List Nd} (h : SameS B fb gb m N la lc ls xa xc xs ya yc ys ka kc ks w0 w) (hk : w.ownsRow B 49 7 (.slice ka' ks'.length kc') ks'.length (flatN ks')) (hlk : ∀ p, (Value.slice la N lc).ownBlock = some p → (Value.slice ka' ks'.length kc').ownBlock ≠ some p) : SameS B fb gb m N la lc ls xa xc xs ya yc ys ka' kc' ks' w0 w :=
  ⟨h.f, h.g, h.fa, h.ga, h.l, h.x, h.y, h.xy, hk, hlk, h.b, h.low⟩
theorem SameS.set {p : Nat} (h : SameS B fb gb m N (some ⟨p, 0, none⟩) lc ls xa xc xs ya yc ys ka kc ks w0 w) (j : Nat) (u : Value) : ∃ ls', SameS B fb gb m N (some ⟨p, 0, none⟩) lc ls' xa xc xs ya yc ys ka kc ks w0 (w.setCell ⟨p, j, none⟩ u) := by
  have hp : (Value.slice (some ⟨p, 0, none⟩) N lc).ownBlock = some p := rfl
  have hfp := h.fa p hp
  have hgp := h.ga p hp
  have hfn : fb ≠ p := fun e => by
    obtain ⟨d, v, hb⟩ := h.f.blk
    exact own_of_other h.l hb (by decide) (by rw [hp, e])
  have hgn : gb ≠ p := fun e => by
    obtain ⟨d, v, hb⟩ := h.g.blk
    exact own_of_other h.l hb (by decide) (by rw [hp, e])
  have hc := chg_cell w p j u
  refine ⟨_, h.f.away hfp hfn hc, h.g.away hgp hgn hc, fun q hq => ?_, fun q hq => ?_, (h.l.stored j u).1, ownsRow_setCell_other h.x (fun e => own_apart h.x h.l (by decide) p e rfl) u, ownsRow_setCell_other h.y (fun e => own_apart h.y h.l (by decide) p e rfl) u, h.xy, ownsRow_setCell_other h.k (fun e => h.lk p hp e) u, h.lk,
    h.b.setCell (p := ⟨p, j, none⟩) (h.l.lt p hp).1 _, h.low.1, h.low.2.1, h.low.2.2.1, by rw [World.size_setCell]; exact h.low.2.2.2⟩
  · have : p = q := by rw [hp] at hq; simpa using hq
    subst this
    exact hfp.chg hfp hfn hc
  · have : p = q := by rw [hp] at hq; simpa using hq
    subst this
    exact hgp.chg hgp hgn hc
theorem SameS.set7 {p : Nat} (h : SameS B fb gb m N (some ⟨p, 0, none⟩) lc ls xa xc xs ya yc ys ka kc ks w0 w) (j0 j1 j2 j3 j4 j5 j6 : Nat) (u0 u1 u2 u3 u4 u5 u6 : Value) : ∃ ls', SameS B fb gb m N (some ⟨p, 0, none⟩) lc ls' xa xc xs ya yc ys ka kc ks w0 (((((((w.setCell ⟨p, j0, none⟩ u0).setCell ⟨p, j1, none⟩ u1).setCell ⟨p, j2, none⟩ u2).setCell ⟨p, j3, none⟩ u3).setCell ⟨p, j4, none⟩ u4).setCell ⟨p, j5, none⟩ u5).setCell ⟨p, j6, none⟩ u6) := by
  obtain ⟨_, h⟩ := h.set j0 u0
  obtain ⟨_, h⟩ := h.set j1 u1
  obtain ⟨_, h⟩ := h.set j2 u2
  obtain ⟨_, h⟩ := h.set j3 u3
  obtain ⟨_, h⟩ := h.set j4 u4
  obtain ⟨_, h⟩ := h.set j5 u5
  exact h.set j6 u6
end
/-- Three lists of the call's own lie apart. -/
theorem apart3_any (w : World) (a b c : Option Addr) (n m k na mb kc B : Nat) (xs ys zs : List Value) (T : TypeId) (ha : w.ownsRow B 3 1 (.slice a n na) n xs) (hb : w.ownsRow B 3 1 (.slice b m mb) m ys) (hc : w.ownsRow B 3 1 (.slice c k kc) k zs)
    (hab : ∀ g, (Value.slice a n na).ownBlock = some g → (Value.slice b m mb).ownBlock ≠ some g) (hac : ∀ g, (Value.slice a n na).ownBlock = some g → (Value.slice c k kc).ownBlock ≠ some g) (hbc : ∀ g, (Value.slice b m mb).ownBlock = some g → (Value.slice c k kc).ownBlock ≠ some g) (hB : B ≤ w.heap.size) :
    Calls Try.prog 24 #[.slice (some ⟨w.heap.size, 0, none⟩) 3 3] (w.alloc (.cells #[.slice a n na, .slice b m mb, .slice c k kc] T)) fun e w' => e = .returned (.bool true) ∧ Below B w w' := by
  obtain ⟨ea, va, oa, ba, ga⟩ := ent_of_owned (ha.alloc (.cells #[.slice a n na, .slice b m mb, .slice c k kc] T))
  obtain ⟨eb, vb, ob, bb, gb⟩ := ent_of_owned (hb.alloc (.cells #[.slice a n na, .slice b m mb, .slice c k kc] T))
  obtain ⟨ec, vc, oc, bc, gc⟩ := ent_of_owned (hc.alloc (.cells #[.slice a n na, .slice b m mb, .slice c k kc] T))
  have la : ∀ x, ea.g = some x → B ≤ x ∧ x < w.heap.size := fun x hx => ha.lt x (ga ▸ hx)
  have lb : ∀ x, eb.g = some x → B ≤ x ∧ x < w.heap.size := fun x hx => hb.lt x (gb ▸ hx)
  have lc : ∀ x, ec.g = some x → B ≤ x ∧ x < w.heap.size := fun x hx => hc.lt x (gc ▸ hx)
  have hin : ∀ x ∈ blocks [ea, eb, ec], ea.g = some x ∨ eb.g = some x ∨ ec.g = some x := by
    intro x hx
    unfold blocks at hx
    simp only [List.mem_filterMap, List.mem_cons, List.not_mem_nil, or_false] at hx
    obtain ⟨e, rfl | rfl | rfl, h⟩ := hx
    · exact .inl h
    · exact .inr (.inl h)
    · exact .inr (.inr h)
  have hbl : ∀ x ∈ blocks [ea, eb, ec], B ≤ x ∧ x < w.heap.size := fun x hx => (hin x hx).elim (la x) (fun h => h.elim (lb x) (lc x))
  refine (apart_any [ea, eb, ec] w.heap.size 0 3 _ ?_ ?_ ?_ ?_ (by simp) (by simp)).mono fun e w' ⟨he, hc⟩ => ⟨he, ((Below.refl B w).alloc hB _).trans (hc.toBelow (fun x hx => (hbl x hx).1) (by simp; omega))⟩
  · intro i hi
    rw [cells_at]
    rcases (by simp at hi; omega : i = 0 ∨ i = 1 ∨ i = 2) with rfl | rfl | rfl
    · simp [va]
    · simp [vb]
    · simp [vc]
  · intro i hi
    rcases (by simp at hi; omega : i = 0 ∨ i = 1 ∨ i = 2) with rfl | rfl | rfl
    · exact oa
    · exact ob
    · exact oc
  · intro i j x hi hj h1 h2
    rcases (by simp at hi; omega : i = 0 ∨ i = 1 ∨ i = 2) with rfl | rfl | rfl <;> rcases (by simp at hj; omega : j = 0 ∨ j = 1 ∨ j = 2) with rfl | rfl | rfl
    · rfl
    · exact absurd (gb ▸ h2) (hab x (ga ▸ h1))
    · exact absurd (gc ▸ h2) (hac x (ga ▸ h1))
    · exact absurd (gb ▸ h1) (hab x (ga ▸ h2))
    · rfl
    · exact absurd (gc ▸ h2) (hbc x (gb ▸ h1))
    · exact absurd (gc ▸ h1) (hac x (ga ▸ h2))
    · exact absurd (gc ▸ h1) (hbc x (gb ▸ h2))
    · rfl
  · intro h; have := (hbl _ h).2; omega
end Go.Proofs.Ytmfkpjafeaidkaa
