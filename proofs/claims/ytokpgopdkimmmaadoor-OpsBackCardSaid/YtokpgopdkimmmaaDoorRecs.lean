/- Rows of records of some cells each: plain words for memory, no program. -/
import Derived.Test.YtokpgopdkimmmaaDoorWords
namespace Go.Proofs.YtokpgopdkimmmaaDoor
open Go.RowKit
set_option linter.unusedVariables false

section
variable {α : Type} {enc : α → Array Value} {k : Nat}
/-- All cells of a list of records. -/
def flatR (enc : α → Array Value) (xs : List α) : List Value := xs.flatMap fun x => (enc x).toList
theorem flatR_nil : flatR enc [] = [] := rfl
theorem flatR_cons (x : α) (xs : List α) : flatR enc (x :: xs) = (enc x).toList ++ flatR enc xs := by unfold flatR; rw [List.flatMap_cons]
theorem flatR_app (xs ys : List α) : flatR enc (xs ++ ys) = flatR enc xs ++ flatR enc ys := by unfold flatR; rw [List.flatMap_append]
theorem flatR_one (x : α) : flatR enc [x] = (enc x).toList := by simp [flatR]
theorem flatR_len (hk : ∀ x, (enc x).size = k) : ∀ xs : List α, (flatR enc xs).length = xs.length * k
  | [] => by simp [flatR]
  | x :: xs => by
    rw [flatR_cons, List.length_append, flatR_len hk xs, Array.length_toList, hk, List.length_cons, Nat.add_mul]
    omega
theorem flatR_at (hk : ∀ x, (enc x).size = k) : ∀ (xs : List α) (i j : Nat) (x : α), xs[i]? = some x → j < k → (flatR enc xs)[i * k + j]? = (enc x)[j]?
  | [], i, _, _, h, _ => by simp at h
  | y :: xs, i, j, x, h, hj => by
    have hl : (enc y).toList.length = k := by rw [Array.length_toList, hk]
    rw [flatR_cons]
    cases i with
    | zero =>
      have : y = x := by simpa using h
      subst this
      rw [Nat.zero_mul, Nat.zero_add, List.getElem?_append_left (by omega)]
      simp
    | succ i =>
      have e : (i + 1) * k + j - k = i * k + j := by rw [Nat.add_mul]; omega
      rw [List.getElem?_append_right (by rw [hl, Nat.add_mul]; omega), hl, e]
      exact flatR_at hk xs i j x (by simpa using h) hj
theorem flatR_ones (h1 : ∀ x, ∀ u ∈ (enc x).toList, u.oneCell' = true) (xs : List α) : ∀ u ∈ flatR enc xs, u.oneCell' = true := by
  intro u hu
  obtain ⟨x, _, h⟩ := List.mem_flatMap.1 hu
  exact h1 x u h

/-- Records in memory, from an address on. -/
def RecRow (w : World) (enc : α → Array Value) (k : Nat) (A : Option Addr) (xs : List α) : Prop :=
  xs = [] ∨ ∃ g lo, A = some ⟨g, lo, none⟩ ∧ g < w.heap.size ∧ ∀ (i : Nat) (x : α), xs[i]? = some x → ∀ j, j < k → w.cell? ⟨g, lo + i * k + j, none⟩ = (enc x)[j]?
theorem RecRow.nil (w : World) (A : Option Addr) : RecRow w enc k A [] := .inl rfl
theorem RecRow.keep {w w' : World} {A : Option Addr} {xs : List α} (h : RecRow w enc k A xs) (hs : w.heap.size ≤ w'.heap.size) (hk : ∀ p : Addr, (∀ a, A = some a → p.block = a.block) → p.block < w.heap.size → w'.cell? p = w.cell? p) : RecRow w' enc k A xs := by
  rcases h with h | ⟨g, lo, rfl, hg, h⟩
  · exact .inl h
  · exact .inr ⟨g, lo, rfl, Nat.lt_of_lt_of_le hg hs, fun i x hx j hj => (hk _ (fun a e => by injection e with e; rw [← e]) hg).trans (h i x hx j hj)⟩
theorem RecRow.later {w w' : World} {A : Option Addr} {xs : List α} (h : RecRow w enc k A xs) (hb : Below w.heap.size w w') : RecRow w' enc k A xs :=
  h.keep hb.size fun _ _ hp => hb.cell hp
/-- The blocks that a row lies in stay. -/
theorem RecRow.same {w w' : World} {A : Option Addr} {xs : List α} (h : RecRow w enc k A xs) (hs : w.heap.size ≤ w'.heap.size) (hb : ∀ a, A = some a → w'.heap[a.block]? = w.heap[a.block]?) : RecRow w' enc k A xs := by
  rcases h with h | ⟨g, lo, rfl, hg, h⟩
  · exact .inl h
  · exact .inr ⟨g, lo, rfl, Nat.lt_of_lt_of_le hg hs, fun i x hx j hj => (World.cell?_of_block (show w'.heap[(⟨g, lo + i * k + j, none⟩ : Addr).block]? = _ from hb ⟨g, lo, none⟩ rfl)).trans (h i x hx j hj)⟩
theorem RecRow.reads (hk : ∀ x, (enc x).size = k) {w : World} {A : Option Addr} {xs : List α} (h : RecRow w enc k A xs) : Reads w w.heap.size k A xs.length (flatR enc xs) := by
  refine ⟨flatR_len hk xs, fun hn => ?_⟩
  rcases h with h | ⟨g, lo, rfl, hg, h⟩
  · subst h; simp at hn
  · refine ⟨_, rfl, hg, fun j u hu => ?_⟩
    have hj : j < xs.length * k := by have := (List.getElem?_eq_some_iff.1 hu).1; rwa [flatR_len hk] at this
    have hk0 : 0 < k := by
      rcases Nat.eq_zero_or_pos k with h0 | h0
      · subst h0; simp at hj
      · exact h0
    have hi : j / k < xs.length := Nat.div_lt_of_lt_mul (by rw [Nat.mul_comm]; exact hj)
    have hm : j % k < k := Nat.mod_lt _ hk0
    have hd : j / k * k + j % k = j := by rw [Nat.mul_comm]; exact Nat.div_add_mod j k
    have hx : xs[j / k]? = some xs[j / k] := List.getElem?_eq_getElem hi
    have h1 := h (j / k) _ hx (j % k) hm
    rw [← flatR_at hk xs (j / k) (j % k) _ hx hm, hd, hu] at h1
    rw [show (⟨g, lo, none⟩ : Addr).add j = ⟨g, lo + (j / k * k) + j % k, none⟩ by rw [Nat.add_assoc, hd]; unfold Addr.add; split <;> simp_all]
    exact h1
theorem RecRow.of_reads (hk : ∀ x, (enc x).size = k) {w : World} {g lo B n : Nat} {xs : List α} (h : Reads w B k (some ⟨g, lo, none⟩) n (flatR enc xs)) (hB : B ≤ w.heap.size) (hn : n = xs.length) : RecRow w enc k (some ⟨g, lo, none⟩) xs := by
  subst hn
  rcases Nat.eq_zero_or_pos xs.length with h0 | h0
  · exact .inl (List.eq_nil_of_length_eq_zero h0)
  · obtain ⟨ad, e, hb, hc⟩ := h.2 h0
    injection e with e
    subst e
    refine .inr ⟨g, lo, rfl, Nat.lt_of_lt_of_le hb hB, fun i x hx j hj => ?_⟩
    have h1 := flatR_at hk xs i j x hx hj
    have h2 : (enc x)[j]? = some ((enc x)[j]'(by rw [hk]; exact hj)) := Array.getElem?_eq_getElem _
    rw [h2] at h1 ⊢
    have h3 := hc _ _ h1
    rw [← h3]
    congr 1
    unfold Addr.add
    split
    · rename_i hz; rw [show lo + i * k + j = lo by omega]
    · rw [Nat.add_assoc]
theorem RecRow.of_own (hk : ∀ x, (enc x).size = k) {w : World} {base : Nat} {e : TypeId} {A : Option Addr} {c n : Nat} {xs : List α} (h : w.ownsRow base e k (.slice A n c) n (flatR enc xs)) (hn : n = xs.length) : RecRow w enc k A xs := by
  rcases Nat.eq_zero_or_pos n with h0 | h0
  · exact .inl (List.eq_nil_of_length_eq_zero (by omega))
  · obtain ⟨g, cap, hv, _, _⟩ := h.form h0
    have hA : A = some ⟨g, 0, none⟩ := by injection hv
    subst hA
    exact RecRow.of_reads hk (Reads.of_own h) (Nat.le_refl _) hn
theorem RecRow.at_ {w : World} {A : Option Addr} {xs : List α} (h : RecRow w enc k A xs) {i : Nat} {x : α} (hx : xs[i]? = some x) : ∃ g lo, A = some ⟨g, lo, none⟩ ∧ g < w.heap.size ∧ ∀ j, j < k → w.cell? ⟨g, lo + i * k + j, none⟩ = (enc x)[j]? := by
  rcases h with h | ⟨g, lo, rfl, hg, h⟩
  · subst h; simp at hx
  · exact ⟨g, lo, rfl, hg, h i x hx⟩
/-- A whole block of records. -/
theorem RecRow.of_block (hk : ∀ x, (enc x).size = k) {w : World} {g : Nat} {e : TypeId} {fr : Nat × Nat} {cs : Array Value} {xs : List α} (h : w.heap[g]? = some (.cells cs e fr)) (hc : ∀ j, j < (flatR enc xs).length → cs[j]? = (flatR enc xs)[j]?) : RecRow w enc k (some ⟨g, 0, none⟩) xs := by
  refine .inr ⟨g, 0, rfl, (Array.getElem?_eq_some_iff.1 h).1, fun i x hx j hj => ?_⟩
  rw [cell_of_row w g _ cs e fr h, Nat.zero_add]
  have h1 := flatR_at hk xs i j x hx hj
  rw [← h1]
  have hi : i < xs.length := (List.getElem?_eq_some_iff.1 hx).1
  refine hc _ ?_
  rw [flatR_len hk]
  calc i * k + j < i * k + k := by omega
    _ = (i + 1) * k := by rw [Nat.add_mul, Nat.one_mul]
    _ ≤ xs.length * k := Nat.mul_le_mul_right _ hi
end
section
variable {α : Type} {enc : α → Array Value} {k : Nat}
theorem rec_add {W : World} {A : Option Addr} {xs : List α} (h : RecRow W enc k A xs) (m c : Nat) (hm : m ≤ xs.length) (hc : xs.length ≤ c) : RecRow W enc k (if c = m then A else A.map (·.add (m * k))) (xs.drop m) := by
  by_cases e : xs.drop m = []
  · exact .inl e
  · have hlt : m < xs.length := by
      rcases Nat.lt_or_ge m xs.length with h1 | h1
      · exact h1
      · exact absurd (List.drop_eq_nil_iff.2 h1) e
    rcases h with h | ⟨b, off, rfl, hb, h⟩
    · subst h; simp at hlt
    · rw [if_neg (by omega)]
      refine .inr ⟨b, off + m * k, ?_, hb, fun i x hx j hj => ?_⟩
      · simp only [Option.map_some]
        unfold Addr.add
        split
        · rename_i h0; rw [h0]; rfl
        · rfl
      · rw [List.getElem?_drop] at hx
        have h1 := h (m + i) x hx j hj
        rw [show off + m * k + i * k + j = off + (m + i) * k + j by rw [Nat.add_mul]; omega]
        exact h1
theorem cut_block {A : Option Addr} {m c k : Nat} {a' : Addr} (h : (if c = m then A else A.map (·.add (m * k))) = some a') : ∃ a, A = some a ∧ a'.block = a.block := by
  split at h
  · exact ⟨a', h, rfl⟩
  · cases A with
    | none => cases h
    | some a =>
      simp only [Option.map_some, Option.some.injEq] at h
      exact ⟨a, rfl, by rw [← h, block_of_add]⟩
/-- The first m are left out. -/
theorem rec_from {P : Program} {t e : TypeId} (ht : P.underlying t = some (.slice e)) (hs : ∀ w, (sizeOf e).run P w = .ok k w) (A : Option Addr) (n c m : Nat) (hm : m ≤ n) (hc : n ≤ c) :
    ∃ A', (∀ w, (Instr.sliceAt t (.slice A n c) (some (.int .i64 (m : Int))) none none).run P w = .ok (.slice A' (n - m) (c - m)) w) ∧ (∀ W (xs : List α), xs.length = n → RecRow W enc k A xs → RecRow W enc k A' (xs.drop m)) ∧ ∀ a', A' = some a' → ∃ a, A = some a ∧ a'.block = a.block := by
  have he : P.elem t = e := by unfold Program.elem; rw [ht]
  have ht' : P.underlying t = some (.slice (P.elem t)) := by rw [he]; exact ht
  refine ⟨if c = m then A else A.map (·.add (m * k)), fun w => ?_, fun W xs hl h => rec_add h m c (by omega) (by omega), fun a' h => cut_block h⟩
  rw [run_sliceAt_slice w t _ _ _ _ ht', run_slice_any w t A n c ht']
  simp [Instr.sliceBounds, run_sliceBound, he, hs, Result.andThen, sliced, hm]
theorem rec_take {W : World} {A : Option Addr} {xs : List α} (h : RecRow W enc k A xs) (m : Nat) : RecRow W enc k A (xs.take m) := by
  rcases h with h | ⟨b, off, rfl, hb, h⟩
  · subst h; exact .inl (by simp)
  · refine .inr ⟨b, off, rfl, hb, fun i x hx j hj => ?_⟩
    have hi : i < m := by have := (List.getElem?_eq_some_iff.1 hx).1; rw [List.length_take] at this; omega
    rw [List.getElem?_take_of_lt hi] at hx
    exact h i x hx j hj
/-- The first m alone. -/
theorem rec_to {P : Program} {t e : TypeId} (ht : P.underlying t = some (.slice e)) (hs : ∀ w, (sizeOf e).run P w = .ok k w) (A : Option Addr) (n c m : Nat) (hm : m ≤ n) (hc : n ≤ c) :
    ∃ A', (∀ w, (Instr.sliceAt t (.slice A n c) none (some (.int .i64 (m : Int))) none).run P w = .ok (.slice A' m c) w) ∧ (∀ W (xs : List α), xs.length = n → RecRow W enc k A xs → RecRow W enc k A' (xs.take m)) ∧ ∀ a', A' = some a' → ∃ a, A = some a ∧ a'.block = a.block := by
  have he : P.elem t = e := by unfold Program.elem; rw [ht]
  have ht' : P.underlying t = some (.slice (P.elem t)) := by rw [he]; exact ht
  refine ⟨if c = 0 then A else A.map (·.add (0 * k)), fun w => ?_, fun W xs hl h => ?_, fun a' h => cut_block h⟩
  · rw [run_sliceAt_slice w t _ _ _ _ ht', run_slice_any w t A n c ht']
    have hmc : (m : Int) ≤ c := by omega
    simp [Instr.sliceBounds, run_sliceBound, he, hs, Result.andThen, sliced, Nat.le_trans hm hc]
  · have h0 := rec_add h 0 c (Nat.zero_le _) (by omega)
    rw [List.drop_zero] at h0
    exact rec_take h0 m
end
/-- An empty slice that is made now. -/
theorem own_empty (w : World) (e : TypeId) (size : Nat) {B : Nat} (hB : B ≤ w.heap.size) : (w.alloc (.cells #[] e)).ownsRow B e size (.slice (some ⟨w.heap.size, 0, none⟩) 0 0) 0 [] :=
  ⟨by simp, .inr ⟨w.heap.size, 0, #[], rfl, hB, heap_alloc_new w _, Nat.le_refl _, by unfold maxLen; omega, by simp, by simp⟩⟩
end Go.Proofs.YtokpgopdkimmmaaDoor
