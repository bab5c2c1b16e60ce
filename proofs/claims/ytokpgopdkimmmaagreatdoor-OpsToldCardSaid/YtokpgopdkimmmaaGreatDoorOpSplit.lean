/- Words between blanks: plain law. -/
import Derived.Lib.SplitLaws
import Derived.Test.YtokpgopdkimmmaaGreatDoorOpText
namespace Go.Proofs.YtokpgopdkimmmaaGreatDoor
open Go.RowKit
set_option linter.unusedVariables false

/-- The words of a line, one blank between each two. -/
def splitW : List UInt8 → List (List UInt8)
  | [] => [[]]
  | c :: l => if c = 32 then [] :: splitW l else match splitW l with
    | w :: ws => (c :: w) :: ws
    | [] => [[c]]
theorem splitW_ne (l : List UInt8) : splitW l ≠ [] := by
  cases l with
  | nil => simp [splitW]
  | cons c l =>
    unfold splitW
    split
    · simp
    · split <;> simp
theorem index_cons_one (c : UInt8) (l : List UInt8) : Lib.index (c :: l) [32] = if c = 32 then 0 else if Lib.index l [32] = -1 then -1 else Lib.index l [32] + 1 := by
  rw [Lib.index]
  by_cases h : c = 32
  · subst h
    simp
  · have e : ([32] : List UInt8).isPrefixOf (c :: l) = false := by
      simp only [List.isPrefixOf, Bool.and_true, beq_eq_false_iff_ne]
      exact fun e => h e.symm
    rw [e, if_neg h]
    simp only [Bool.false_eq_true, if_false, beq_iff_eq]
theorem split_eq : ∀ s : List UInt8, Lib.split s [32] = splitW s
  | [] => by
    unfold Lib.split
    rw [Lib.count_one]
    rfl
  | c :: l => by
    have ih := split_eq l
    unfold Lib.split at ih ⊢
    by_cases h : c = 32
    · subst h
      rw [Lib.count_cons_eq, Nat.add_comm 1, Lib.splitK, index_cons_one, if_pos rfl, splitW, if_pos rfl]
      simp only [show ((0 : Int) == -1) = false from rfl, Bool.false_eq_true, if_false]
      simp only [Int.toNat_zero, Nat.add_zero, List.take_zero, List.length_cons, List.length_nil, Nat.zero_add, List.drop_succ_cons, List.drop_zero]
      rw [ih]
    · rw [Lib.count_cons_ne c 32 l h, splitW, if_neg h]
      cases hk : Lib.count l [32] with
      | zero =>
        rw [hk] at ih
        rw [← ih]
        rfl
      | succ k =>
        rw [hk] at ih
        have hi : Lib.index l [32] ≠ -1 := fun e => by rw [Lib.count_miss e] at hk; cases hk
        obtain ⟨i, hii⟩ : ∃ i : Nat, Lib.index l [32] = i := by
          have := Lib.index_ge l [32]
          exact ⟨(Lib.index l [32]).toNat, by omega⟩
        rw [Lib.splitK, hii] at ih
        rw [Lib.splitK, index_cons_one, if_neg h, if_neg hi, hii]
        have g1 : ((i : Int) == -1) = false := by simp
        have g2 : ((i : Int) + 1 == -1) = false := by simp; omega
        rw [g1] at ih
        rw [g2, ← ih]
        simp only [Bool.false_eq_true, if_false, Int.toNat_natCast, Nat.add_zero, List.length_cons, List.length_nil, Nat.zero_add]
        rw [show ((i : Int) + 1).toNat = i + 1 by omega]
        simp only [List.take_succ_cons, List.drop_succ_cons]
theorem splitW_word : ∀ (w : List UInt8), (32 : UInt8) ∉ w → splitW w = [w]
  | [], _ => rfl
  | c :: w, h => by
    rw [splitW, if_neg (fun e => h (by rw [e]; exact List.mem_cons_self)), splitW_word w (fun g => h (List.mem_cons_of_mem _ g))]
theorem splitW_cons : ∀ (w rest : List UInt8), (32 : UInt8) ∉ w → splitW (w ++ 32 :: rest) = w :: splitW rest
  | [], rest, _ => by rw [List.nil_append, splitW, if_pos rfl]
  | c :: w, rest, h => by
    rw [List.cons_append, splitW, if_neg (fun e => h (by rw [e]; exact List.mem_cons_self)), splitW_cons w rest (fun g => h (List.mem_cons_of_mem _ g))]
/-- What Split answers. -/
theorem splitB_words (s : ByteArray) : (Lib.splitB ⟨#[32]⟩ 0 (Lib.countB s ⟨#[32]⟩) s).map (·.data.toList) = splitW s.data.toList := by
  rw [Lib.splitB_data]
  exact split_eq s.data.toList
theorem splitB_list (s : ByteArray) : Lib.splitB ⟨#[32]⟩ 0 (Lib.countB s ⟨#[32]⟩) s = (splitW s.data.toList).map fun l => ⟨l.toArray⟩ := by
  rw [← splitB_words, List.map_map]
  conv => lhs; rw [← List.map_id (Lib.splitB _ _ _ _)]
  apply List.map_congr_left
  intro x _
  rfl
theorem countB_words (s : ByteArray) : Lib.countB s ⟨#[32]⟩ + 1 = (splitW s.data.toList).length := by
  rw [← splitB_words, List.length_map]
  exact (Lib.splitB_all ⟨#[32]⟩ (by decide) 0 _ s rfl).symm
end Go.Proofs.YtokpgopdkimmmaaGreatDoor
