import Derived.Test.YtokpgopdkimmmaaGreatDoorBase
import Derived.Maps.OwnSet
import Derived.Maps.RangeWalk
import Derived.Test.YtokpgopdkimmmaaGreatDoorWords
/- Maps from names to records, in memory: plain words over the library's own. -/
namespace Go.Proofs.YtokpgopdkimmmaaGreatDoor
open Go.RowKit Go.Maps
set_option linter.unusedVariables false

/-- How a record lies in a value, and reads. -/
structure RecK (α : Type) where
  enc : α → Array Value
  dat : α → DataW Unit
  dec : Value → Option α
  name : α → Nat
structure RecK.ok {α : Type} (k : RecK α) : Prop where
  de : ∀ x, k.dec (.agg (k.enc x)) = some x
  ed : ∀ v x, k.dec v = some x → v = .agg (k.enc x)
  inj : ∀ x y, k.dat x = k.dat y → x = y
section
variable {α : Type} {k : RecK α}
def RecK.R (k : RecK α) (v : Value) : Option (DataW Unit × List MemPlace) := (k.dec v).map fun x => (k.dat x, [])
theorem RecK.R_enc (hk : k.ok) (x : α) : k.R (.agg (k.enc x)) = some (k.dat x, []) := by unfold RecK.R; rw [hk.de]; rfl
theorem RecK.R_inv (hk : k.ok) {v : Value} {y : DataW Unit × List MemPlace} (h : k.R v = some y) : ∃ x, v = .agg (k.enc x) ∧ y = (k.dat x, []) := by
  unfold RecK.R at h
  cases hd : k.dec v with
  | none => rw [hd] at h; cases h
  | some x => rw [hd] at h; cases h; exact ⟨x, hk.ed v x hd, rfl⟩
abbrev nameL (n : Nat) : Lit := .int .u32 (n : Int)
theorem nameL_ne {i j : Nat} (h : i ≠ j) : nameL i ≠ nameL j := fun e => h (by injection e with _ e; omega)
/-- What a map's datum says: these records, each by its name. -/
structure HoldsR (k : RecK α) (D : DataW Unit) (L : List α) : Prop where
  has : ∀ i : Nat, Maps.has D (nameL i) = L.any fun x => k.name x == i
  at_ : ∀ x ∈ L, ∀ zd, D.atKey (nameL (k.name x)) zd = k.dat x
  size : Maps.size D = L.length
  nodup : (L.map k.name).Nodup
  lt : ∀ x ∈ L, k.name x < 4294967296
theorem HoldsR.nil : HoldsR k (.map []) [] := ⟨fun i => rfl, (fun x hx => (by cases hx)), rfl, List.nodup_nil, (fun x hx => (by cases hx))⟩
theorem any_name {L : List α} {i : Nat} : (L.any fun x => k.name x == i) = true ↔ ∃ x ∈ L, k.name x = i := by simp [List.any_eq_true]
theorem HoldsR.put {D : DataW Unit} {L : List α} (h : HoldsR k D L) (ht : Tidy D) (x : α) (hx : k.name x < 4294967296) (hn : (L.any fun y => k.name y == k.name x) = false) : HoldsR k (D.put (nameL (k.name x)) (k.dat x)) (L ++ [x]) := by
  have hne : ∀ y ∈ L, k.name y ≠ k.name x := fun y hy e => by
    rw [List.any_eq_false] at hn
    exact hn y hy (by simp [e])
  refine ⟨fun i => ?_, fun y hy zd => ?_, ?_, ?_, fun y hy => ?_⟩
  · by_cases e : i = k.name x
    · subst e
      rw [has_put_same ht.isMap (by constructor)]
      simp
    · rw [has_put_other (nameL_ne e), h.has, List.any_append]
      simp [Ne.symm e]
  · rcases List.mem_append.1 hy with hy | hy
    · rw [atKey_put_other (nameL_ne (hne y hy)), h.at_ y hy]
    · obtain rfl : y = x := by simpa using hy
      rw [atKey_put_same ht.isMap (by constructor)]
  · rw [size_put ht, h.has, hn, h.size]
    simp
  · rw [List.map_append, List.nodup_append]
    refine ⟨h.nodup, by simp, fun a ha b hb e => ?_⟩
    obtain ⟨y, hy, rfl⟩ := List.mem_map.1 ha
    obtain rfl : b = k.name x := by simpa using hb
    exact hne y hy e
  · rcases List.mem_append.1 hy with hy | hy
    · exact h.lt y hy
    · obtain rfl : y = x := by simpa using hy
      exact hx
theorem HoldsR.del {D : DataW Unit} {L : List α} (h : HoldsR k D L) (ht : Tidy D) (i : Nat) : HoldsR k (D.del (nameL i)) (L.filter fun x => k.name x != i) := by
  refine ⟨fun j => ?_, fun y hy zd => ?_, ?_, ?_, fun y hy => h.lt y (List.mem_filter.1 hy).1⟩
  · by_cases e : j = i
    · subst e
      rw [has_del_same, eq_comm, List.any_eq_false]
      intro y hy
      have := (List.mem_filter.1 hy).2
      simpa using this
    · rw [has_del_other (nameL_ne e), h.has, Bool.eq_iff_iff, any_name, any_name]
      constructor
      · rintro ⟨y, hy, hj⟩
        exact ⟨y, List.mem_filter.2 ⟨hy, by simp [hj, e]⟩, hj⟩
      · rintro ⟨y, hy, hj⟩
        exact ⟨y, (List.mem_filter.1 hy).1, hj⟩
  · obtain ⟨hy, hj⟩ := List.mem_filter.1 hy
    rw [atKey_del_other (nameL_ne (by simpa using hj)), h.at_ y hy]
  · have h1 := size_del (k := nameL i) ht
    rw [h.has, h.size] at h1
    have h2 : ∀ L : List α, (L.map k.name).Nodup → (L.filter fun x => k.name x != i).length + (if (L.any fun x => k.name x == i) = true then 1 else 0) = L.length := by
      intro L
      induction L with
      | nil => intro _; rfl
      | cons x L ih =>
        intro hn
        rw [List.map_cons, List.nodup_cons] at hn
        have ih := ih hn.2
        by_cases e : k.name x = i
        · subst e
          have hf : (L.any fun y => k.name y == k.name x) = false := by
            rw [List.any_eq_false]
            intro y hy e
            exact hn.1 (List.mem_map.2 ⟨y, hy, by simpa using e⟩)
          rw [hf] at ih
          simp at ih ⊢
          exact ih
        · simp [e] at ih ⊢
          omega
    have h3 := h2 L h.nodup
    omega
  · exact h.nodup.sublist (List.Sublist.map _ List.filter_sublist)
/-- A map in memory that holds these records. -/
def MapR (P : Program) (kt : TypeId) (k : RecK α) (b q : Nat) (L : List α) (w : World) : Prop := ∃ D, w.ownsMap P kt k.R b q D ∧ HoldsR k D L
variable {P : Program} {kt : TypeId} {b q : Nat} {L : List α} {w w' : World}
theorem MapR.made (w : World) : MapR P kt k w.heap.size 0 [] (w.alloc (.map #[] 0)) := ⟨_, World.ownsMap_made _ _ _ _, HoldsR.nil⟩
theorem MapR.lt (h : MapR P kt k b q L w) : b < w.heap.size := by obtain ⟨D, h1, _⟩ := h; exact h1.lt
theorem MapR.same (h : MapR P kt k b q L w) (hb : w'.heap[b]? = w.heap[b]?) : MapR P kt k b q L w' := by
  obtain ⟨D, ⟨es, clock, hh, F, hs, hD⟩, h2⟩ := h
  exact ⟨D, ⟨es, clock, hb.trans hh, F, hs, hD⟩, h2⟩
theorem MapR.later (h : MapR P kt k b q L w) (hb : Below w.heap.size w w') : MapR P kt k b q L w' := h.same (hb.block b h.lt)
theorem MapR.below {B : Nat} (h : MapR P kt k b q L w) (hb : Below B w w') (hlt : b < B) : MapR P kt k b q L w' := h.same (hb.block b hlt)
end
end Go.Proofs.YtokpgopdkimmmaaGreatDoor
/- Going through a map of records: what has come so far. Plain words. -/
namespace Go.Proofs.YtokpgopdkimmmaaGreatDoor
open Go.RowKit Go.Maps
set_option linter.unusedVariables false

section
variable {α : Type} {k : RecK α}
/-- What has come of a map's records, and what is left. -/
structure GoneR (k : RecK α) (D : DataW Unit) (L : List α) (left : Lit → Bool) (done : List α) : Prop where
  has : ∀ kl, left kl = true → Maps.has D kl = true
  iff : ∀ x ∈ L, left (nameL (k.name x)) = true ↔ x ∉ done
  sub : ∀ x ∈ done, x ∈ L
  nodup : (done.map k.name).Nodup
theorem GoneR.start {D : DataW Unit} {L : List α} (h : HoldsR k D L) : GoneR k D L (Maps.has D) [] :=
  ⟨fun _ h => h, fun x hx => by
    rw [h.has]
    simp only [List.not_mem_nil, not_false_eq_true, iff_true]
    exact any_name.2 ⟨x, hx, rfl⟩, fun x hx => (by cases hx), List.nodup_nil⟩
theorem name_inj {L : List α} (hn : (L.map k.name).Nodup) {x y : α} (hx : x ∈ L) (hy : y ∈ L) (h : k.name x = k.name y) : x = y := by
  induction L with
  | nil => cases hx
  | cons z L ih =>
    rw [List.map_cons, List.nodup_cons] at hn
    rcases List.mem_cons.1 hx with e1 | h1 <;> rcases List.mem_cons.1 hy with e2 | h2
    · exact e1.trans e2.symm
    · exact absurd (List.mem_map.2 ⟨y, h2, by rw [← h, e1]⟩) hn.1
    · exact absurd (List.mem_map.2 ⟨x, h1, by rw [h, e2]⟩) hn.1
    · exact ih hn.2 h1 h2
theorem same_self (i : Nat) : (nameL i).sameKey (nameL i) = true := by simp [Lit.sameKey]
/-- Another one comes. -/
theorem GoneR.step (hk : k.ok) {D : DataW Unit} {L : List α} {left : Lit → Bool} {done : List α} (hH : HoldsR k D L) (h : GoneR k D L left done) {i : Nat} {z : α} {y : DataW Unit × List MemPlace}
    (hl : left (nameL i) = true) (hR : k.R (.agg (k.enc z)) = some y) (hat : ∀ zd, D.atKey (nameL i) zd = y.1) :
    k.name z = i ∧ z ∈ L ∧ z ∉ done ∧ GoneR k D L (fun u => left u && !u.sameKey (nameL i)) (done ++ [z]) := by
  have h1 := h.has _ hl
  rw [hH.has] at h1
  obtain ⟨x, hx, hxi⟩ := any_name.1 h1
  obtain ⟨_, e, rfl⟩ := RecK.R_inv hk hR
  rw [RecK.R_enc hk] at hR
  have h2 := hH.at_ x hx (.agg [])
  rw [hxi, hat] at h2
  have h3 : k.dat z = k.dat x := by
    have := congrArg Prod.fst (Option.some.inj hR)
    exact this.trans h2
  obtain rfl := hk.inj _ _ h3
  have hnd : z ∉ done := (h.iff z hx).1 (by rw [hxi]; exact hl)
  refine ⟨hxi, hx, hnd, ⟨fun kl hkl => h.has kl (by simp only [Bool.and_eq_true] at hkl; exact hkl.1), fun u hu => ?_, fun u hu => ?_, ?_⟩⟩
  · by_cases e : u = z
    · subst e
      rw [hxi, same_self]
      simp
    · have hne : k.name u ≠ i := fun g => e (name_inj hH.nodup hu hx (g.trans hxi.symm))
      rw [sameKey_ne (nameL_ne hne)]
      simp only [Bool.not_false, Bool.and_true, List.mem_append, List.mem_singleton, not_or]
      rw [h.iff u hu]
      exact ⟨fun g => ⟨g, e⟩, fun g => g.1⟩
  · rcases List.mem_append.1 hu with hu | hu
    · exact h.sub u hu
    · obtain rfl : u = z := by simpa using hu
      exact hx
  · rw [List.map_append, List.nodup_append]
    refine ⟨h.nodup, by simp, fun a ha b hb e => ?_⟩
    obtain ⟨u, hu, rfl⟩ := List.mem_map.1 ha
    obtain rfl : b = k.name z := by simpa using hb
    exact hnd (name_inj hH.nodup (h.sub u hu) hx e ▸ hu)
theorem nodup_of_map {f : α → Nat} : ∀ {l : List α}, (l.map f).Nodup → l.Nodup
  | [], _ => List.nodup_nil
  | x :: l, h => by
    rw [List.map_cons, List.nodup_cons] at h
    rw [List.nodup_cons]
    exact ⟨fun g => h.1 (List.mem_map.2 ⟨x, g, rfl⟩), nodup_of_map h.2⟩
/-- All have come. -/
theorem GoneR.perm {D : DataW Unit} {L : List α} {left : Lit → Bool} {done : List α} (hH : HoldsR k D L) (h : GoneR k D L left done) (hl : ∀ kl, left kl = false) : done.Perm L := by
  have hd : done.Nodup := (nodup_of_map (f := k.name) h.nodup)
  have hL : L.Nodup := (nodup_of_map (f := k.name) hH.nodup)
  refine (List.perm_ext_iff_of_nodup hd hL).2 fun x => ⟨h.sub x, fun hx => ?_⟩
  by_cases e : x ∈ done
  · exact e
  · have := (h.iff x hx).2 e
    rw [hl] at this
    cases this
end
end Go.Proofs.YtokpgopdkimmmaaGreatDoor
/- Points, spans, boxes: records of integers in memory and in maps. -/
namespace Go.Proofs.YtokpgopdkimmmaaGreatDoor
open Go.RowKit Go.Maps
set_option linter.unusedVariables false

structure PtV where
  x : Int
  y : Int
  id : Nat
structure SpV where
  lo : Int
  hi : Int
  id : Nat
structure BxV where
  x1 : Int
  x2 : Int
  y1 : Int
  y2 : Int
  id : Nat
abbrev PtV.cells (p : PtV) : Array Value := #[.int .i64 p.x, .int .i64 p.y, .int .u32 (p.id : Int)]
abbrev SpV.cells (s : SpV) : Array Value := #[.int .i64 s.lo, .int .i64 s.hi, .int .u32 (s.id : Int)]
abbrev BxV.cells (b : BxV) : Array Value := #[.int .i64 b.x1, .int .i64 b.x2, .int .i64 b.y1, .int .i64 b.y2, .int .u32 (b.id : Int)]
def ptDecL : List Value → Option PtV
  | [.int .i64 x, .int .i64 y, .int .u32 i] => if 0 ≤ i then some ⟨x, y, i.toNat⟩ else none
  | _ => none
def ptDec : Value → Option PtV
  | .agg a => ptDecL a.toList
  | _ => none
def spDecL : List Value → Option SpV
  | [.int .i64 x, .int .i64 y, .int .u32 i] => if 0 ≤ i then some ⟨x, y, i.toNat⟩ else none
  | _ => none
def spDec : Value → Option SpV
  | .agg a => spDecL a.toList
  | _ => none
def bxDecL : List Value → Option BxV
  | [.int .i64 x, .int .i64 y, .int .i64 z, .int .i64 u, .int .u32 i] => if 0 ≤ i then some ⟨x, y, z, u, i.toNat⟩ else none
  | _ => none
def bxDec : Value → Option BxV
  | .agg a => bxDecL a.toList
  | _ => none
def ptK : RecK PtV := ⟨PtV.cells, fun p => .agg [.lit (.int .i64 p.x), .lit (.int .i64 p.y), .lit (.int .u32 (p.id : Int))], ptDec, PtV.id⟩
def spK : RecK SpV := ⟨SpV.cells, fun p => .agg [.lit (.int .i64 p.lo), .lit (.int .i64 p.hi), .lit (.int .u32 (p.id : Int))], spDec, SpV.id⟩
def bxK : RecK BxV := ⟨BxV.cells, fun p => .agg [.lit (.int .i64 p.x1), .lit (.int .i64 p.x2), .lit (.int .i64 p.y1), .lit (.int .i64 p.y2), .lit (.int .u32 (p.id : Int))], bxDec, BxV.id⟩
theorem ptK_ok : ptK.ok where
  de := fun ⟨x, y, i⟩ => by show ptDec (.agg #[.int .i64 x, .int .i64 y, .int .u32 (i : Int)]) = _; simp [ptDec, ptDecL]
  ed := fun v p h => by
    replace h : ptDec v = some p := h
    unfold ptDec at h
    split at h
    · rename_i a
      unfold ptDecL at h
      split at h
      · rename_i ha
        split at h
        · rename_i h0
          cases h
          show Value.agg a = .agg #[_, _, .int .u32 _]
          rw [Int.toNat_of_nonneg h0]
          congr 1
          apply Array.ext'
          rw [ha]
        · cases h
      · cases h
    · cases h
  inj := fun ⟨x, y, i⟩ ⟨x', y', i'⟩ h => by
    simp [ptK] at h
    obtain ⟨rfl, rfl, h⟩ := h
    congr 1 <;> omega
theorem spK_ok : spK.ok where
  de := fun ⟨x, y, i⟩ => by show spDec (.agg #[.int .i64 x, .int .i64 y, .int .u32 (i : Int)]) = _; simp [spDec, spDecL]
  ed := fun v p h => by
    replace h : spDec v = some p := h
    unfold spDec at h
    split at h
    · rename_i a
      unfold spDecL at h
      split at h
      · rename_i ha
        split at h
        · rename_i h0
          cases h
          show Value.agg a = .agg #[_, _, .int .u32 _]
          rw [Int.toNat_of_nonneg h0]
          congr 1
          apply Array.ext'
          rw [ha]
        · cases h
      · cases h
    · cases h
  inj := fun ⟨x, y, i⟩ ⟨x', y', i'⟩ h => by
    simp [spK] at h
    obtain ⟨rfl, rfl, h⟩ := h
    congr 1 <;> omega
theorem bxK_ok : bxK.ok where
  de := fun ⟨x, y, z, u, i⟩ => by show bxDec (.agg #[.int .i64 x, .int .i64 y, .int .i64 z, .int .i64 u, .int .u32 (i : Int)]) = _; simp [bxDec, bxDecL]
  ed := fun v p h => by
    replace h : bxDec v = some p := h
    unfold bxDec at h
    split at h
    · rename_i a
      unfold bxDecL at h
      split at h
      · rename_i ha
        split at h
        · rename_i h0
          cases h
          show Value.agg a = .agg #[_, _, _, _, .int .u32 _]
          rw [Int.toNat_of_nonneg h0]
          congr 1
          apply Array.ext'
          rw [ha]
        · cases h
      · cases h
    · cases h
  inj := fun ⟨x, y, z, u, i⟩ ⟨x', y', z', u', i'⟩ h => by
    simp [bxK] at h
    obtain ⟨rfl, rfl, rfl, rfl, h⟩ := h
    congr 1 <;> omega
theorem lawU32 : Keyed Tryz.prog 22 := int_keyed Tryz.underlying22
end Go.Proofs.YtokpgopdkimmmaaGreatDoor
/- What a call may turn: some blocks that were there, and new ones. Plain words for memory. -/
namespace Go.Proofs.YtokpgopdkimmmaaGreatDoor
open Go.RowKit
set_option linter.unusedVariables false

/-- Of what was there only these blocks have turned. -/
structure Turned (may : Nat → Prop) (w w' : World) : Prop where
  os : w'.os = w.os
  tape : w'.tape = w.tape
  output : w'.output = w.output
  size : w.heap.size ≤ w'.heap.size
  block : ∀ i, i < w.heap.size → ¬ may i → w'.heap[i]? = w.heap[i]?
section
variable {may may' : Nat → Prop} {w w1 w2 : World}
theorem Turned.refl (may : Nat → Prop) (w : World) : Turned may w w := ⟨rfl, rfl, rfl, Nat.le_refl _, fun _ _ _ => rfl⟩
theorem Turned.of_below (h : Below w.heap.size w w1) : Turned may w w1 := ⟨h.os, h.tape, h.output, h.size, fun i hi _ => h.block i hi⟩
theorem Turned.of_grown {row : Option Nat} (h : w.grownBy w1 row) (hr : ∀ g, row = some g → may g) : Turned may w w1 :=
  ⟨h.os, h.tape, h.output, h.size, fun i hi hm => h.block i hi fun e => hm (hr i e.symm)⟩
theorem Turned.mono (h : Turned may w w1) (hm : ∀ i, may i → may' i) : Turned may' w w1 := ⟨h.os, h.tape, h.output, h.size, fun i hi hn => h.block i hi fun g => hn (hm i g)⟩
theorem Turned.trans (h : Turned may w w1) (h2 : Turned may w1 w2) : Turned may w w2 :=
  ⟨h2.os.trans h.os, h2.tape.trans h.tape, h2.output.trans h.output, Nat.le_trans h.size h2.size, fun i hi hn => (h2.block i (Nat.lt_of_lt_of_le hi h.size) hn).trans (h.block i hi hn)⟩
/-- What follows may turn blocks that are new since w, too. -/
theorem Turned.then_ (h : Turned may w w1) (h2 : Turned may' w1 w2) (hm : ∀ i, may' i → i < w.heap.size → may i) : Turned may w w2 :=
  ⟨h2.os.trans h.os, h2.tape.trans h.tape, h2.output.trans h.output, Nat.le_trans h.size h2.size, fun i hi hn => (h2.block i (Nat.lt_of_lt_of_le hi h.size) fun g => hn (hm i g hi)).trans (h.block i hi hn)⟩
theorem Turned.below (h : Turned may w w1) {B : Nat} (hB : B ≤ w.heap.size) (hm : ∀ i, may i → B ≤ i) : Below B w w1 :=
  ⟨h.os, h.tape, h.output, h.size, fun i hi => h.block i (Nat.lt_of_lt_of_le hi hB) fun g => by have := hm i g; omega⟩
theorem Turned.drew (h : Turned may w w1) : Turned may w w1.drew := ⟨h.os, h.tape, h.output, h.size, h.block⟩
theorem Turned.drewN (h : Turned may w w1) (n : Nat) : Turned may w (w1.drewN n) := ⟨h.os, h.tape, h.output, h.size, h.block⟩
theorem Turned.alloc (h : Turned may w w1) (o : Obj) : Turned may w (w1.alloc o) :=
  h.then_ (may' := fun _ => False) (Turned.of_below ((Below.refl _ _).alloc (Nat.le_refl _) o)) (fun _ g => g.elim)
theorem Turned.setCell (h : Turned may w w1) {p : Addr} (hp : may p.block ∨ w.heap.size ≤ p.block) (u : Value) : Turned may w (w1.setCell p u) :=
  ⟨h.os, h.tape, h.output, by simpa [World.setCell] using h.size, fun i hi hn => (Below.heap_setCell w1 p u i (by
    rintro rfl
    rcases hp with hp | hp
    · exact hn hp
    · omega)).trans (h.block i hi hn)⟩
theorem Blk.turned {g : Nat} {t : TypeId} {cs : Array Value} (h : Blk w g t cs) (ht : Turned may w w1) (hg : ¬ may g) : Blk w1 g t cs := (ht.block g h.lt hg).trans h
theorem MapR.turned {α : Type} {k : RecK α} {P : Program} {kt : TypeId} {b q : Nat} {L : List α} (h : MapR P kt k b q L w) (ht : Turned may w w1) (hb : ¬ may b) : MapR P kt k b q L w1 := h.same (ht.block b h.lt hb)
theorem MapR.more {α : Type} {k : RecK α} {P : Program} {kt : TypeId} {b q q' : Nat} {L : List α} (h : MapR P kt k b q L w) (hq : q ≤ q') : MapR P kt k b q' L w := by
  obtain ⟨D, ⟨es, clock, hh, F, hs, hD⟩, h2⟩ := h
  exact ⟨D, ⟨es, clock, hh, F, Nat.le_trans hs hq, hD⟩, h2⟩
end
end Go.Proofs.YtokpgopdkimmmaaGreatDoor
