/- Digits: what is read of them, what they look like, and their order: plain law. -/
import Derived.Test.YtokpgopdkimmmaaGreatDoorTextLaw
import Derived.Test.YtokpgopdkimmmaaGreatDoorWideParse
import Derived.Test.YtokpgopdkimmmaaGreatDoorWideCmp
namespace Go.Proofs.YtokpgopdkimmmaaGreatDoor
open Go.RowKit Go.Lib
set_option linter.unusedVariables false

theorem dgt_nat {d : Nat} (h : d < 10) : (UInt8.ofNat (48 + d)).toNat = 48 + d := by
  rw [UInt8.toNat_ofNat']
  omega
theorem dgt_is {d : Nat} (h : d < 10) : digitB (UInt8.ofNat (48 + d)) = true := by
  unfold digitB
  rw [dgt_nat h]
  simp
  omega
theorem dgt_back {c : UInt8} (h : digitB c = true) : c.toNat - 48 < 10 ∧ UInt8.ofNat (48 + (c.toNat - 48)) = c := by
  unfold digitB at h
  simp at h
  refine ⟨by omega, ?_⟩
  apply UInt8.toNat_inj.1
  rw [dgt_nat (by omega)]
  omega
theorem dec_big {n : Nat} (h : ¬ n < 10) : decDigits n = decDigits (n / 10) ++ [UInt8.ofNat (48 + n % 10)] := by conv => lhs; rw [decDigits, dif_neg h]
theorem dec_ind {P : Nat → Prop} (h0 : ∀ n, n < 10 → P n) (h1 : ∀ n, ¬ n < 10 → P (n / 10) → P n) (n : Nat) : P n := by
  induction n using Nat.strongRecOn with
  | ind n ih =>
    by_cases h : n < 10
    · exact h0 n h
    · exact h1 n h (ih (n / 10) (by omega))
theorem dec_all (n : Nat) : ∀ c ∈ decDigits n, digitB c = true := by
  refine dec_ind (P := fun n => ∀ c ∈ decDigits n, digitB c = true) (fun n h c hc => ?_) (fun n h ih c hc => ?_) n
  · rw [decDigits_one h] at hc
    obtain rfl := List.mem_singleton.1 hc
    exact dgt_is h
  · rw [dec_big h] at hc
    rcases List.mem_append.1 hc with hc | hc
    · exact ih c hc
    · obtain rfl := List.mem_singleton.1 hc
      exact dgt_is (by omega)
theorem dec_head (n : Nat) : n ≠ 0 → (decDigits n).head? ≠ some 48 := by
  refine dec_ind (P := fun n => n ≠ 0 → (decDigits n).head? ≠ some 48) (fun n h h0 e => ?_) (fun n h ih h0 e => ?_) n
  · rw [decDigits_one h, List.head?_cons] at e
    have := congrArg UInt8.toNat (Option.some.inj e)
    rw [dgt_nat h] at this
    have h48 : (48 : UInt8).toNat = 48 := rfl
    omega
  · rw [dec_big h, List.head?_append] at e
    have hne : (decDigits (n / 10)).head? ≠ none := by
      rw [ne_eq, List.head?_eq_none_iff]; exact decDigits_ne _
    cases hh : (decDigits (n / 10)).head? with
    | none => exact hne hh
    | some x =>
      rw [hh] at e
      exact ih (by omega) (by rw [hh]; simpa using e)
theorem dec_zero : decDigits 0 = [48] := by rw [decDigits_one (by omega)]; rfl
theorem parseGo_snoc (c : UInt8) : ∀ (l : List UInt8) (v : Nat), parseGo (l ++ [c]) v = (parseGo l v).bind fun u => if digitB c = true ∧ 10 * u + (c.toNat - 48) < wTop then some (10 * u + (c.toNat - 48)) else none := by
  intro l
  induction l with
  | nil => intro v; simp only [List.nil_append, parseGo, Option.bind_some]
  | cons x l ih =>
    intro v
    simp only [List.cons_append, parseGo]
    split
    · exact ih _
    · rfl
theorem parse_dec (n : Nat) : n < wTop → parseGo (decDigits n) 0 = some n := by
  refine dec_ind (P := fun n => n < wTop → parseGo (decDigits n) 0 = some n) (fun n h hn => ?_) (fun n h ih hn => ?_) n
  · rw [decDigits_one h, parseGo, parseGo, dgt_nat h, if_pos ⟨dgt_is h, by omega⟩]
    congr 1
    omega
  · rw [dec_big h, parseGo_snoc, ih (by omega), Option.bind_some, dgt_nat (by omega), if_pos ⟨dgt_is (by omega), by omega⟩]
    congr 1
    omega
/-- What is told is read. -/
theorem parse_text (n : Nat) (hn : n < wTop) : parseW (decDigits n) = some n := by
  unfold parseW
  rw [if_neg, parse_dec n hn]
  rintro (h | ⟨h, h2⟩)
  · exact decDigits_ne n h
  · by_cases h0 : n = 0
    · subst h0; exact h2 dec_zero
    · exact dec_head n h0 h
/-- What is read is told. -/
theorem text_parse (s : List UInt8) (v : Nat) (h : parseW s = some v) : decDigits v = s ∧ v < wTop := by
  unfold parseW at h
  split at h
  · cases h
  rename_i hb
  have hb1 : s ≠ [] := fun e => hb (.inl e)
  have hb2 : s.head? = some 48 → s = [48] := fun e => Decidable.byContradiction fun e2 => hb (.inr ⟨e, e2⟩)
  clear hb
  have key : ∀ (k : Nat) (s : List UInt8), s.length = k → ∀ v, s ≠ [] → (s.head? = some 48 → s = [48]) → parseGo s 0 = some v → decDigits v = s ∧ v < wTop := by
    intro k
    induction k with
    | zero => intro s hs v h1; exact absurd (List.length_eq_zero_iff.1 hs) h1
    | succ k ih =>
      intro s hs v h1 h2 h
      obtain ⟨l, c, rfl⟩ : ∃ l c, s = l ++ [c] := ⟨s.dropLast, s.getLast h1, (List.dropLast_concat_getLast h1).symm⟩
      rw [parseGo_snoc] at h
      by_cases hl : l = []
      · subst hl
        simp only [parseGo, Option.bind_some, List.nil_append] at h ⊢
        split at h
        · rename_i hd
          obtain ⟨e1, e2⟩ := dgt_back hd.1
          have : v = c.toNat - 48 := by rw [← Option.some.inj h]; omega
          rw [this, decDigits_one e1, e2]
          refine ⟨rfl, ?_⟩
          unfold wTop
          omega
        · cases h
      · have hh : l.head? ≠ some 48 := by
          intro e
          have := h2 (by rw [List.head?_append, e]; rfl)
          have := congrArg List.length this
          rw [List.length_append] at this
          simp at this
          exact hl this
        cases hu : parseGo l 0 with
        | none => rw [hu] at h; cases h
        | some u =>
          rw [hu, Option.bind_some] at h
          have hlen : l.length = k := by rw [List.length_append] at hs; simpa using hs
          obtain ⟨i1, i2⟩ := ih l hlen u hl (fun e => absurd e hh) hu
          split at h
          · rename_i hd
            obtain ⟨e1, e2⟩ := dgt_back hd.1
            have hu0 : u ≠ 0 := by
              rintro rfl
              rw [dec_zero] at i1
              rw [← i1] at hh
              exact hh rfl
            have hv := Option.some.inj h
            rw [← hv]
            refine ⟨?_, hd.2⟩
            rw [dec_big (by omega), show (10 * u + (c.toNat - 48)) / 10 = u by omega, show (10 * u + (c.toNat - 48)) % 10 = c.toNat - 48 by omega, i1, e2]
          · cases h
  exact key s.length s rfl v hb1 hb2 h
theorem nDigits_mono {a b : Nat} (h : a ≤ b) : nDigits a ≤ nDigits b := by
  revert a
  refine dec_ind (P := fun b => ∀ {a : Nat}, a ≤ b → nDigits a ≤ nDigits b) (fun b hb a h => ?_) (fun b hb ih a h => ?_) b
  · rw [nDigits_small hb, nDigits_small (by omega)]; exact Nat.le_refl _
  · by_cases ha : a < 10
    · rw [nDigits_small ha]; exact nDigits_pos _
    · rw [nDigits_big ha, nDigits_big hb]
      have := ih (a := a / 10) (by omega)
      omega
theorem compareBytes_snoc (x y : UInt8) : ∀ (l m : List UInt8), l.length = m.length → compareBytes (l ++ [x]) (m ++ [y]) = if compareBytes l m = 0 then compareBytes [x] [y] else compareBytes l m := by
  intro l
  induction l with
  | nil => intro m h; cases m with
    | nil => simp [compareBytes]
    | cons b m => simp at h
  | cons a l ih => intro m h; cases m with
    | nil => simp at h
    | cons b m =>
      have := ih m (by simpa using h)
      simp only [List.cons_append, compareBytes]
      split
      · rfl
      · split
        · rfl
        · exact this
theorem dec_order (a : Nat) : ∀ b, nDigits a = nDigits b → compareBytes (decDigits a) (decDigits b) = cmpNI a b := by
  have one : ∀ x y : Nat, x < 10 → y < 10 → compareBytes [UInt8.ofNat (48 + x)] [UInt8.ofNat (48 + y)] = cmpNI x y := by
    intro x y hx hy
    simp only [compareBytes, UInt8.lt_iff_toNat_lt, dgt_nat hx, dgt_nat hy]
    unfold cmpNI
    split <;> split <;> (try split) <;> first | rfl | omega | (split <;> first | rfl | omega)
  refine dec_ind (P := fun a => ∀ b, nDigits a = nDigits b → compareBytes (decDigits a) (decDigits b) = cmpNI a b) (fun a ha b h => ?_) (fun a ha ih b h => ?_) a
  · have hb : b < 10 := by
      rw [nDigits_small ha] at h
      rcases Nat.lt_or_ge b 10 with g | g
      · exact g
      · rw [nDigits_big (by omega)] at h; have := nDigits_pos (b / 10); omega
    rw [decDigits_one ha, decDigits_one hb]
    exact one a b ha hb
  · have hb : ¬ b < 10 := by
      intro g
      rw [nDigits_small g, nDigits_big ha] at h; have := nDigits_pos (a / 10); omega
    rw [nDigits_big ha, nDigits_big hb] at h
    have hq := ih (b / 10) (by omega)
    rw [dec_big ha, dec_big hb, compareBytes_snoc _ _ _ _ (by rw [decDigits_length, decDigits_length]; omega), hq, one _ _ (by omega) (by omega)]
    unfold cmpNI
    split <;> split <;> (try split) <;> (try split) <;> first | rfl | omega
end Go.Proofs.YtokpgopdkimmmaaGreatDoor
