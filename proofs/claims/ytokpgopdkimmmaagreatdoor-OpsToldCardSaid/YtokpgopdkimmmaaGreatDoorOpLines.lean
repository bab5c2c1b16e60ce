/- The words of a line that Text tells: plain law. -/
import Derived.Test.YtokpgopdkimmmaaGreatDoorOpLaw
import Derived.Lib.Join
import Derived.Lib.Fields
import Derived.Lib.Repeat
namespace Go.Proofs.YtokpgopdkimmmaaGreatDoor
open Go.RowKit
open Go.Lib (decDigits itoa fieldsGo isSp)
set_option linter.unusedVariables false

/-- The words of an operation's line. -/
def opWordsL (o : OpV) : List (List UInt8) :=
  if isCode o.k = true ∧ sameB (onlyL o (letOf o.k)) o = true then wordOf o.k :: (letOf o.k).map (sayL o) else [111, 112] :: decDigits o.k :: allLet.map (sayL o)
/-- A word has no blanks, and is not empty. -/
def Inky (l : List UInt8) : Prop := l ≠ [] ∧ ∀ c ∈ l, isSp c = false
theorem fieldsGo_ink : ∀ (l cur rest : List UInt8), (∀ c ∈ l, isSp c = false) → fieldsGo cur (l ++ rest) = fieldsGo (cur ++ l) rest
  | [], cur, rest, _ => by simp
  | c :: l, cur, rest, h => by
    rw [List.cons_append, Lib.fieldsGo_more cur c _ (h c List.mem_cons_self), fieldsGo_ink l _ rest fun x hx => h x (List.mem_cons_of_mem _ hx), List.append_assoc]
    rfl
theorem fields_told (o : OpV) (hs : ∀ c, Inky (sayL o c)) : ∀ (ls word : List UInt8), Inky word → Lib.fields (word ++ restL o ls) = word :: ls.map (sayL o)
  | [], word, ⟨h1, h2⟩ => by
    unfold Lib.fields
    rw [restL, fieldsGo_ink word [] [] h2, List.nil_append, fieldsGo, if_neg (by simpa using h1)]
    rfl
  | c :: ls, word, ⟨h1, h2⟩ => by
    have ih := fields_told o hs ls (sayL o c) (hs c)
    unfold Lib.fields at ih ⊢
    rw [restL, fieldsGo_ink word [] _ h2, List.nil_append, List.cons_append, Lib.fieldsGo_end word 32 _ (by decide) h1, ih]
    rfl
theorem ink_digit {c : UInt8} (h : 48 ≤ c.toNat ∧ c.toNat ≤ 57) : isSp c = false := by
  have hn : ∀ n : UInt8, n.toNat < 48 → (c == n) = false := fun n hn => by
    rw [beq_eq_false_iff_ne]
    rintro rfl
    omega
  unfold isSp
  rw [hn 9 (by decide), hn 10 (by decide), hn 11 (by decide), hn 12 (by decide), hn 13 (by decide), hn 32 (by decide)]
  rfl
theorem dec_digits (n : Nat) : ∀ c ∈ decDigits n, 48 ≤ c.toNat ∧ c.toNat ≤ 57 := fun c hc => by
  have h := dec_all n c hc
  unfold digitB at h
  simpa using h
theorem dec_ink (n : Nat) : Inky (decDigits n) := by
  refine ⟨?_, fun c hc => ink_digit (dec_digits n c hc)⟩
  obtain ⟨c, r, e, _⟩ := dec_first n
  rw [e]
  simp
theorem itoa_ink (n : Int) : Inky (itoa n) := by
  unfold itoa
  split
  · refine ⟨by simp, fun c hc => ?_⟩
    rcases List.mem_cons.1 hc with rfl | hc
    · decide
    · exact (dec_ink _).2 c hc
  · exact dec_ink _
theorem say_ink (o : OpV) (c : UInt8) : Inky (sayL o c) := by
  unfold sayL
  split
  · exact dec_ink _
  · exact itoa_ink _
theorem words_ink : ∀ j : Fin 20, wordOf (j.val + 1) ≠ [] ∧ (∀ c ∈ wordOf (j.val + 1), isSp c = false) ∧ (∀ c ∈ wordOf (j.val + 1), 97 ≤ c.toNat ∧ c.toNat ≤ 122) := by decide +kernel
theorem opWords_split (o : OpV) : splitW (textL' o) = opWordsL o := by
  unfold opWordsL textL'
  by_cases hf : isCode o.k = true ∧ sameB (onlyL o (letOf o.k)) o = true
  · obtain ⟨j, hj⟩ := code_at hf.1
    rw [if_pos hf, if_pos hf, toldL, splitW_told o _ _ (by rw [hj]; exact (words_at j).1)]
  · rw [if_neg hf, if_neg hf, toldL, show opWord ++ decDigits o.k ++ restL o [105, 97, 98, 99, 100] = [111, 112] ++ 32 :: (decDigits o.k ++ restL o allLet) by rw [List.append_assoc]; rfl, splitW_cons _ _ (by decide), splitW_told o _ _ (dec_no32 _)]
theorem opWords_fields (o : OpV) : Lib.fields (textL' o) = opWordsL o := by
  unfold opWordsL textL'
  by_cases hf : isCode o.k = true ∧ sameB (onlyL o (letOf o.k)) o = true
  · obtain ⟨j, hj⟩ := code_at hf.1
    obtain ⟨h1, h2, _⟩ := words_ink j
    rw [if_pos hf, if_pos hf, toldL, fields_told o (say_ink o) _ _ (by rw [hj]; exact ⟨h1, h2⟩)]
  · have h := fields_told o (say_ink o) allLet (decDigits o.k) (dec_ink _)
    unfold Lib.fields at h ⊢
    rw [if_neg hf, if_neg hf, toldL, show opWord ++ decDigits o.k ++ restL o [105, 97, 98, 99, 100] = [111, 112] ++ 32 :: (decDigits o.k ++ restL o allLet) by rw [List.append_assoc]; rfl, fieldsGo_ink [111, 112] [] _ (by decide), List.nil_append, Lib.fieldsGo_end _ 32 _ (by decide) (by decide), h]
theorem joinTail_told (o : OpV) : ∀ ls : List UInt8, Lib.joinTail [32] (ls.map (sayL o)) = restL o ls
  | [] => rfl
  | c :: ls => by
    have ih := joinTail_told o ls
    unfold Lib.joinTail at ih ⊢
    rw [List.map_cons, List.map_cons, List.flatten_cons, ih, restL]
    rfl
theorem opWords_join (o : OpV) : Lib.join (opWordsL o) [32] = textL' o := by
  unfold opWordsL textL'
  by_cases hf : isCode o.k = true ∧ sameB (onlyL o (letOf o.k)) o = true
  · rw [if_pos hf, if_pos hf, toldL, Lib.join_cons, joinTail_told]
  · have h : Lib.joinTail [32] (decDigits o.k :: allLet.map (sayL o)) = 32 :: (decDigits o.k ++ restL o allLet) := by
      have h2 := joinTail_told o allLet
      unfold Lib.joinTail at h2 ⊢
      rw [List.map_cons, List.flatten_cons, h2]
      rfl
    rw [if_neg hf, if_neg hf, toldL, Lib.join_cons, h, List.append_assoc]
    rfl
/-- A word behind the first one: a sign or none, and digits. -/
def NumW (v : List UInt8) : Prop := v ≠ [] ∧ v ≠ [45] ∧ ∀ c ∈ Lib.trimPrefix v [45], 48 ≤ c.toNat ∧ c.toNat ≤ 57
theorem dec_numW (n : Nat) : NumW (decDigits n) := by
  obtain ⟨c, r, e, h1, h2⟩ := dec_first n
  have hc : (45 : UInt8) ≠ c := fun g => by subst g; exact absurd h1 (by decide)
  have ht : Lib.trimPrefix (decDigits n) [45] = decDigits n := by
    unfold Lib.trimPrefix Lib.hasPrefix
    rw [e]
    simp [List.isPrefixOf, hc]
  refine ⟨by rw [e]; simp, by rw [e]; intro g; cases g; exact hc rfl, ?_⟩
  rw [ht]
  exact dec_digits n
theorem itoa_numW (n : Int) : NumW (itoa n) := by
  unfold itoa
  split
  · have ht : Lib.trimPrefix (45 :: decDigits n.natAbs) [45] = decDigits n.natAbs := by
      unfold Lib.trimPrefix Lib.hasPrefix
      simp [List.isPrefixOf]
    refine ⟨by simp, fun g => ?_, by rw [ht]; exact dec_digits _⟩
    obtain ⟨c, r, e, _⟩ := dec_first n.natAbs
    rw [e] at g
    cases g
  · exact dec_numW _
theorem say_numW (o : OpV) (c : UInt8) : NumW (sayL o c) := by
  unfold sayL
  split
  · exact dec_numW _
  · exact itoa_numW _
/-- The first word, and what the others are. -/
theorem opWords_shape (o : OpV) : ∃ w0 rest, opWordsL o = w0 :: rest ∧ (∀ c ∈ w0, 97 ≤ c.toNat ∧ c.toNat ≤ 122) ∧ (∀ v ∈ rest, NumW v) ∧ ((w0 = [111, 112] ∧ rest.length = 6) ∨ (w0 ≠ [111, 112] ∧ ∃ j : Fin 20, o.k = j.val + 1 ∧ w0 = wordOf (j.val + 1) ∧ rest.length = (letOf (j.val + 1)).length)) := by
  unfold opWordsL
  by_cases hf : isCode o.k = true ∧ sameB (onlyL o (letOf o.k)) o = true
  · obtain ⟨j, hj⟩ := code_at hf.1
    rw [if_pos hf, hj]
    refine ⟨_, _, rfl, (words_ink j).2.2, ?_, .inr ⟨(words_at j).2.1, j, rfl, rfl, by simp⟩⟩
    intro v hv
    obtain ⟨c, _, rfl⟩ := List.mem_map.1 hv
    exact say_numW o c
  · rw [if_neg hf]
    refine ⟨_, _, rfl, by decide, ?_, .inl ⟨rfl, by simp [allLet]⟩⟩
    intro v hv
    rcases List.mem_cons.1 hv with rfl | hv
    · exact dec_numW _
    · obtain ⟨c, _, rfl⟩ := List.mem_map.1 hv
      exact say_numW o c
/-- The same word with other numbers has the same code. -/
theorem ones_parse : ∀ j : Fin 20, (parseOp (wordOf (j.val + 1) ++ Lib.repeatL [32, 49] (letOf (j.val + 1)).length)).map OpV.k = some (j.val + 1) := by decide +kernel
end Go.Proofs.YtokpgopdkimmmaaGreatDoor
