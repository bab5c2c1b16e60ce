/- What Parse reads is what Text told: plain law. -/
import Derived.Test.YtokpgopdkimmmaaGreatDoorOpParse
namespace Go.Proofs.YtokpgopdkimmmaaGreatDoor
open Go.RowKit
open Go.Lib (decDigits itoa)
set_option linter.unusedVariables false

theorem dec_no32 (n : Nat) : (32 : UInt8) ∉ decDigits n := by
  intro h
  have h2 := dec_all n 32 h
  exact absurd h2 (by decide)
theorem itoa_no32 (n : Int) : (32 : UInt8) ∉ itoa n := by
  unfold itoa
  split
  · intro h
    rcases List.mem_cons.1 h with h | h
    · exact absurd h (by decide)
    · exact dec_no32 _ h
  · exact dec_no32 _
theorem say_no32 (o : OpV) (c : UInt8) : (32 : UInt8) ∉ sayL o c := by
  unfold sayL
  split
  · exact dec_no32 _
  · exact itoa_no32 _
theorem splitW_told (o : OpV) : ∀ (ls word : List UInt8), (32 : UInt8) ∉ word → splitW (word ++ restL o ls) = word :: ls.map (sayL o)
  | [], word, h => by rw [restL, List.append_nil, splitW_word word h]; rfl
  | c :: ls, word, h => by
    rw [restL, List.cons_append, splitW_cons word _ h, splitW_told o ls (sayL o c) (say_no32 o c)]
    rfl
theorem setL_say (o : OpV) (ho : o.ok) (p : OpV) (c : UInt8) (hc : LetB c) : setL p c (sayL o c) = some (p.put c (o.at c)) := by
  rcases hc with rfl | ⟨h1, h2⟩
  · have hs : Lib.parseUintB 32 (sayL o 105) = .ok o.id := by
      unfold sayL idL
      rw [if_pos rfl]
      exact parseU_dec 32 (by decide) _ (by have := ho.id; omega)
    unfold setL
    rw [if_pos rfl, hs]
    rfl
  · have hne : c ≠ 105 := fun h => by subst h; have e : (105 : UInt8).toNat = 105 := rfl; omega
    have hs : Lib.parseIntB 64 (sayL o c) = .ok (o.num (c.toNat - 97)) := by
      unfold sayL numL
      rw [if_neg hne]
      exact parseI_itoa _ (ho.num _).1 (ho.num _).2
    unfold setL OpV.at
    rw [if_neg hne, hs, if_neg hne]
theorem setAll_say (o : OpV) (ho : o.ok) : ∀ (ls : List UInt8) (p : OpV), (∀ c ∈ ls, LetB c) → setAll p ls (ls.map (sayL o)) = some (ls.foldl (fun p c => p.put c (o.at c)) p)
  | [], p, _ => rfl
  | c :: ls, p, h => by
    rw [List.map_cons, setAll, setL_say o ho p c (h c List.mem_cons_self), Option.bind_some, setAll_say o ho ls _ (fun x hx => h x (List.mem_cons_of_mem _ hx))]
    rfl
theorem only_all (o : OpV) : onlyL o allLet = o := by
  obtain ⟨k, a, b, c, d, i⟩ := o
  simp [onlyL, allLet, OpV.put, OpV.at, OpV.num, codeOnly]
theorem allLet_let : ∀ c ∈ allLet, LetB c := by
  intro c hc
  have : ∀ c ∈ allLet, c = 105 ∨ (97 ≤ c.toNat ∧ c.toNat ≤ 100) := by decide
  exact this c hc
theorem sameB_eq {p o : OpV} (h : sameB p o = true) : p = o := by
  obtain ⟨k, a, b, c, d, i⟩ := p
  obtain ⟨k', a', b', c', d', i'⟩ := o
  simp only [sameB, Bool.and_eq_true, decide_eq_true_eq] at h
  obtain ⟨⟨⟨⟨⟨rfl, rfl⟩, rfl⟩, rfl⟩, rfl⟩, rfl⟩ := h
  rfl
theorem words_at : ∀ j : Fin 20, (32 : UInt8) ∉ wordOf (j.val + 1) ∧ wordOf (j.val + 1) ≠ [111, 112] ∧ idxP (wordOf (j.val + 1) ++ [45]) opRows = (j.val : Int) := by decide +kernel
theorem code_at {k : Nat} (h : isCode k = true) : ∃ j : Fin 20, k = j.val + 1 := by
  simp only [isCode, Bool.and_eq_true, decide_eq_true_eq] at h
  exact ⟨⟨k - 1, by omega⟩, by simp only; omega⟩
/-- What Text tells of an operation, Parse reads back. -/
theorem parse_told (o : OpV) (ho : o.ok) : parseOp (textL' o) = some o := by
  have key : candOp (splitW (textL' o)) = some o := by
    by_cases hf : isCode o.k = true ∧ sameB (onlyL o (letOf o.k)) o = true
    · obtain ⟨j, hj⟩ := code_at hf.1
      obtain ⟨g1, g2, g3⟩ := words_at j
      rw [textL', if_pos hf, toldL, hj, splitW_told o _ _ g1, candOp, headOp_cons, if_neg (fun h => g2 h.1), g3, if_neg (by omega), Option.bind_some]
      simp only [Int.toNat_natCast]
      rw [if_pos (by simp), setAll_say o ho _ _ (letOf_let _), ← hj]
      exact congrArg some (sameB_eq hf.2)
    · rw [textL', if_neg hf, toldL, show opWord ++ decDigits o.k ++ restL o [105, 97, 98, 99, 100] = [111, 112] ++ 32 :: (decDigits o.k ++ restL o allLet) by rw [List.append_assoc]; rfl, splitW_cons _ _ (by decide), splitW_told o _ _ (dec_no32 _), candOp, headOp_op, parseU_dec 8 (by decide) _ ho.k, Option.bind_some]
      simp only
      rw [if_pos (by simp), setAll_say o ho _ _ allLet_let]
      exact congrArg some (only_all o)
  rw [parseOp, key, Option.bind_some, if_pos rfl]
theorem textL'_inj {o p : OpV} (ho : o.ok) (hp : p.ok) (h : textL' o = textL' p) : o = p := by
  have h1 := parse_told o ho
  rw [h, parse_told p hp] at h1
  exact (Option.some.inj h1).symm
theorem parse_text_of {s : List UInt8} {o : OpV} (h : parseOp s = some o) : textL' o = s := by
  unfold parseOp at h
  cases hc : candOp (splitW s) with
  | none => rw [hc] at h; cases h
  | some q =>
    rw [hc, Option.bind_some] at h
    split at h
    · cases h; assumption
    · cases h
theorem setL_ok {p q : OpV} (hp : p.ok) {c : UInt8} {v : List UInt8} (h : setL p c v = some q) (hu : ∀ x, Lib.parseUintB 32 v = .ok x → x < 4294967296) (hi : ∀ x, Lib.parseIntB 64 v = .ok x → In64 x) : q.ok := by
  unfold setL at h
  split at h
  · rename_i hc
    subst hc
    split at h
    · rename_i x hx
      cases h
      exact put_id_ok hp (hu x hx)
    · cases h
  · rename_i hc
    split at h
    · rename_i x hx
      cases h
      exact put_num_ok hp hc (hi x hx)
    · cases h
theorem setAll_ok : ∀ (ls : List UInt8) (vs : List (List UInt8)) (p q : OpV), p.ok → setAll p ls vs = some q → q.ok
  | [], [], p, q, hp, h => by cases h; exact hp
  | c :: cs, v :: vs, p, q, hp, h => by
    rw [setAll] at h
    cases hs : setL p c v with
    | none => rw [hs] at h; cases h
    | some r =>
      rw [hs, Option.bind_some] at h
      have hr := setL_ok hp hs (fun x hx => by have := Lib.parseUintB_le hx; omega) (fun x hx => by have := Lib.parseIntB_bounds hx; exact ⟨by have := this.1; omega, by have := this.2; omega⟩)
      exact setAll_ok cs vs r q hr h
  | [], _ :: _, _, _, _, h => by cases h
  | _ :: _, [], _, _, _, h => by cases h
theorem opRows_len : opRows.length = 20 := by decide
theorem headOp_ok {ws : List (List UInt8)} {h : Nat × List UInt8 × List (List UInt8)} (e : headOp ws = some h) : h.1 < 256 := by
  cases ws with
  | nil => cases e
  | cons w0 rest =>
    rw [headOp_cons] at e
    split at e
    · cases rest with
      | nil => cases e
      | cons v args =>
        simp only at e
        split at e
        · rename_i n hn
          cases e
          have := Lib.parseUintB_le hn
          simp only
          omega
        · cases e
    · split at e
      · cases e
      · cases e
        have h1 := idxP_lt (w0 ++ [45]) opRows
        rw [opRows_len] at h1
        simp only
        omega
/-- What Parse reads is an operation. -/
theorem parse_ok {s : List UInt8} {o : OpV} (h : parseOp s = some o) : o.ok := by
  unfold parseOp at h
  cases hc : candOp (splitW s) with
  | none => rw [hc] at h; cases h
  | some q =>
    rw [hc, Option.bind_some] at h
    split at h
    · cases h
      unfold candOp at hc
      cases hh : headOp (splitW s) with
      | none => rw [hh] at hc; cases hc
      | some hd =>
        rw [hh, Option.bind_some] at hc
        split at hc
        · exact setAll_ok _ _ _ _ (codeOnly_ok (headOp_ok hh)) hc
        · cases hc
    · cases h
end Go.Proofs.YtokpgopdkimmmaaGreatDoor
