/- Which line of the table begins with a word: the closure of Parse, and slices.IndexFunc over it. -/
import Derived.Test.YtokpgopdkimmmaaGreatDoorOpSplit
namespace Go.Proofs.YtokpgopdkimmmaaGreatDoor
open Go.RowKit
set_option linter.unusedVariables false
set_option linter.unusedSimpArgs false

/-- A row of strings from a block's first cell on. -/
def RowS (w : World) (g : Nat) (l : List (List UInt8)) : Prop := g < w.heap.size ∧ ∀ (k : Nat) (x : List UInt8), l[k]? = some x → w.cell? ⟨g, k, none⟩ = some (.string ⟨x.toArray⟩)
theorem RowS.later {w w' : World} {g : Nat} {l : List (List UInt8)} (h : RowS w g l) (hb : Below w.heap.size w w') : RowS w' g l :=
  ⟨Nat.lt_of_lt_of_le h.1 hb.size, fun k x hx => (hb.cell (p := ⟨g, k, none⟩) h.1).trans (h.2 k x hx)⟩
theorem RowS.new (w : World) (l : List (List UInt8)) (t : TypeId) : RowS (w.alloc (.cells (l.map fun x => Value.string ⟨x.toArray⟩).toArray t)) w.heap.size l :=
  ⟨by simp, fun k x hx => by rw [cells_at]; simp [hx]⟩
set_option maxRecDepth 100000 in
set_option maxHeartbeats 1000000 in
theorem hasPre (a b : List UInt8) (w : World) : Calls Tryz.prog 29 #[.string ⟨a.toArray⟩, .string ⟨b.toArray⟩] w fun e w' => e = .returned (.bool (Lib.hasPrefix a b)) ∧ w = w' := by
  have h := Tryz.strings_HasPrefix ⟨a.toArray⟩ ⟨b.toArray⟩ w
  exact h.mono fun _ _ ⟨h1, h2⟩ => ⟨h1, h2.symm⟩
set_option maxRecDepth 100000 in
set_option maxHeartbeats 1000000 in
theorem pre_any (row w0 : List UInt8) (bw g cap n : Nat) (w : World) (hc : w.cell? ⟨bw, 0, none⟩ = some (.slice (some ⟨g, 0, none⟩) (n + 1) cap)) (h0 : w.cell? ⟨g, 0, none⟩ = some (.string ⟨w0.toArray⟩)) (hl : w0.length ≤ 1000000) :
    Calls Tryz.prog 50 #[.string ⟨row.toArray⟩, .pointer (some ⟨bw, 0, none⟩)] w fun e w' => e = .returned (.bool (Lib.hasPrefix row (w0 ++ [45]))) ∧ w = w' := by
  have hcat : (⟨w0.toArray⟩ : ByteArray) ++ ⟨#[45]⟩ = ⟨(w0 ++ [45]).toArray⟩ := cat_mk w0 [45]
  obtain ⟨q, hq⟩ : ∃ q, Lib.hasPrefix row (w0 ++ [45]) = q := ⟨_, rfl⟩
  have HP := Lib.hid (fun w => by have h := hasPre row (w0 ++ [45]) w; rw [hq] at h; exact h)
  rw [hq]
  clear hq
  go_enter Tryz.func50, Tryz.ntmps50
  go_wp2_with fail
  refine (HP.out w).mono ?_
  rintro e w1 ⟨rfl, rfl⟩
  go_wp2
  go_ret
  exact ⟨rfl, rfl⟩
/-- The first row that begins so; -1: none does. -/
def idxP (p : List UInt8) : List (List UInt8) → Int
  | [] => -1
  | r :: rs => if Lib.hasPrefix r p then 0 else if idxP p rs = -1 then -1 else idxP p rs + 1
theorem idxP_ge (p : List UInt8) : ∀ rs, -1 ≤ idxP p rs
  | [] => Int.le_refl _
  | r :: rs => by
    have := idxP_ge p rs
    rw [idxP]
    split
    · decide
    · split
      · decide
      · omega
theorem idxP_lt (p : List UInt8) : ∀ rs : List (List UInt8), idxP p rs < (rs.length : Int)
  | [] => by simp [idxP]
  | r :: rs => by
    have := idxP_lt p rs
    rw [idxP]
    simp only [List.length_cons]
    split
    · omega
    · split <;> omega
theorem idxP_drop (p : List UInt8) : ∀ (rs : List (List UInt8)) (k : Nat), (∀ j r, j < k → rs[j]? = some r → Lib.hasPrefix r p = false) → (k ≤ rs.length) → idxP p rs = if idxP p (rs.drop k) = -1 then -1 else idxP p (rs.drop k) + k
  | rs, 0, _, _ => by
    rw [List.drop_zero]
    split
    · assumption
    · simp
  | [], k + 1, _, h => by simp at h
  | r :: rs, k + 1, h, hl => by
    have h0 := h 0 r (by omega) rfl
    have ih := idxP_drop p rs k (fun j x hj hx => h (j + 1) x (by omega) hx) (by simpa using hl)
    rw [idxP, h0, List.drop_succ_cons]
    simp only [Bool.false_eq_true, if_false]
    have hge := idxP_ge p (rs.drop k)
    rw [ih]
    generalize idxP p (rs.drop k) = t at hge ⊢
    by_cases ht : t = -1
    · rw [if_pos ht, if_pos rfl, if_pos ht]
    · rw [if_neg ht, if_neg (by omega), if_neg ht]
      omega
set_option maxRecDepth 100000 in
set_option maxHeartbeats 2000000 in
theorem index_any (rows : List (List UInt8)) (w0 : List UInt8) (bw g gF cap n : Nat) (hr : rows.length ≤ 1000) (w : World) (hR : RowS w gF rows) (hc : w.cell? ⟨bw, 0, none⟩ = some (.slice (some ⟨g, 0, none⟩) (n + 1) cap)) (h0 : w.cell? ⟨g, 0, none⟩ = some (.string ⟨w0.toArray⟩)) (hl : w0.length ≤ 1000000) :
    Calls Tryz.prog 49 #[.slice (some ⟨gF, 0, none⟩) rows.length rows.length, .func (.func 50) #[] #[.pointer (some ⟨bw, 0, none⟩)]] w fun e w' => e = .returned (.int .i64 (idxP (w0 ++ [45]) rows)) ∧ w = w' := by
  have HR := Lib.hid hR
  have PR := Lib.hid (fun row => pre_any row w0 bw g cap n w hc h0 hl)
  clear hR hc h0 hl
  obtain ⟨N, hN⟩ : ∃ N, rows.length = N := ⟨_, rfl⟩
  have HN := Lib.hid hN
  rw [hN] at hr ⊢
  clear hN
  go_enter Tryz.func49, Tryz.ntmps49
  go_wp2_with fail
  go_loopw [8] (fun iv wr => ∃ k : Nat, k ≤ N ∧ iv = .int .i64 (k : Int) ∧ Hid (∀ j r, j < k → rows[j]? = some r → Lib.hasPrefix r (w0 ++ [45]) = false) ∧ wr = w) (fun i _ => N - (intOf i).toNat)
  case atStart => exact ⟨0, Nat.zero_le _, rfl, Lib.hid (fun j r hj => absurd hj (by omega)), rfl⟩
  case round =>
    obtain ⟨k, hk, rfl, HK, rfl⟩ := hrel
    by_cases hkn : k < N
    · obtain ⟨r, hrr⟩ : ∃ r, rows[k]? = some r := ⟨_, List.getElem?_eq_getElem (by rw [HN.out]; exact hkn)⟩
      have c1 := HR.out.2 k r hrr
      have HRR := Lib.hid hrr
      clear hrr
      go_wp2_with fail
      refine (PR.out r).mono ?_
      obtain ⟨q, hq⟩ : ∃ q, Lib.hasPrefix r (w0 ++ [45]) = q := ⟨_, rfl⟩
      rw [hq]
      have HQ := Lib.hid hq
      clear hq
      rintro e w1 ⟨rfl, rfl⟩
      cases q
      · go_wp2_with fail
        go_roundw
        case rel =>
          refine ⟨k + 1, by omega, rfl, Lib.hid (fun j x hj hx => ?_), trivial⟩
          by_cases e : j = k
          · subst e
            rw [HRR.out] at hx
            injection hx with hx
            rw [← hx]
            exact HQ.out
          · exact HK.out j x (by omega) hx
        case measure => simp [intOf]; omega
      · have HE := Lib.hid (show idxP (w0 ++ [45]) rows = (k : Int) by
          rw [idxP_drop _ rows k HK.out (by rw [HN.out]; omega), List.drop_eq_getElem_cons (by rw [HN.out]; exact hkn)]
          have e := HRR.out
          rw [List.getElem?_eq_getElem (by rw [HN.out]; exact hkn)] at e
          injection e with e
          rw [e, idxP, HQ.out]
          simp)
        go_wp2
        go_ret
        exact ⟨by rw [HE.out]; rfl, rfl⟩
    · have hk' : k = N := by omega
      subst hk'
      have HE := Lib.hid (show idxP (w0 ++ [45]) rows = -1 by
        rw [idxP_drop _ rows k HK.out (by rw [HN.out]; omega), List.drop_of_length_le (by rw [HN.out]; omega)]
        rfl)
      go_wp2
      go_ret
      exact ⟨by rw [HE.out]; rfl, rfl⟩
end Go.Proofs.YtokpgopdkimmmaaGreatDoor
