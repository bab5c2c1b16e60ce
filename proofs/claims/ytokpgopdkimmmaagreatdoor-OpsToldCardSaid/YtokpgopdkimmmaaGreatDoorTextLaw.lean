/- Numerals in pieces of nineteen digits: plain law. -/
import Derived.Test.YtokpgopdkimmmaaGreatDoorPieces
import Derived.Lib.ItoaNum
namespace Go.Proofs.YtokpgopdkimmmaaGreatDoor
open Go.RowKit Go.Lib
set_option linter.unusedVariables false

/-- k digits of n, with zeros ahead. -/
def padL : Nat → Nat → List UInt8
  | 0, _ => []
  | k + 1, n => padL k (n / 10) ++ [UInt8.ofNat (48 + n % 10)]
theorem padL_zero (k : Nat) : padL k 0 = List.replicate k 48 := by
  induction k with
  | zero => rfl
  | succ k ih =>
    rw [padL, Nat.zero_div, ih, List.replicate_succ']
    rfl
theorem padL_digits : ∀ (k n : Nat), n < 10 ^ (k + 1) → padL (k + 1) n = List.replicate (k + 1 - nDigits n) 48 ++ decDigits n := by
  intro k
  induction k with
  | zero =>
    intro n hn
    have h : n < 10 := by simpa using hn
    rw [padL, padL, nDigits_small h, decDigits_one h, Nat.mod_eq_of_lt h]
    rfl
  | succ k ih =>
    intro n hn
    by_cases h : n < 10
    · rw [padL, show n / 10 = 0 by omega, padL_zero, nDigits_small h, decDigits_one h, Nat.mod_eq_of_lt h]
      rfl
    · have e : decDigits n = decDigits (n / 10) ++ [UInt8.ofNat (48 + n % 10)] := by conv => lhs; rw [decDigits, dif_neg h]
      rw [padL, ih (n / 10) (by rw [Nat.pow_succ] at hn; omega), nDigits_big h, e, List.append_assoc]
      rw [show k + 1 + 1 - (nDigits (n / 10) + 1) = k + 1 - nDigits (n / 10) by omega]
theorem dec_pad (V : Nat) (hV : 0 < V) : ∀ (k n : Nat), n < 10 ^ k → decDigits (V * 10 ^ k + n) = decDigits V ++ padL k n := by
  intro k
  induction k with
  | zero => intro n hn; have : n = 0 := by simpa using hn
            subst this; simp [padL]
  | succ k ih =>
    intro n hn
    have hp : 1 ≤ 10 ^ k := Nat.one_le_pow _ _ (by decide)
    have hm : 1 ≤ V * 10 ^ k := Nat.mul_pos hV hp
    have e : V * 10 ^ (k + 1) + n = (V * 10 ^ k) * 10 + n := by rw [Nat.pow_succ, ← Nat.mul_assoc]
    rw [Nat.pow_succ] at hn
    rw [e, decDigits, dif_neg (by omega), show (V * 10 ^ k * 10 + n) / 10 = V * 10 ^ k + n / 10 by omega, show (V * 10 ^ k * 10 + n) % 10 = n % 10 by omega, ih (n / 10) (by omega), padL, List.append_assoc]

/-- What Text writes of one piece behind what stands there. -/
def textStep (bs : List UInt8) (n : Nat) : List UInt8 :=
  if bs = [] then decDigits n else bs ++ (List.replicate (19 - nDigits n) 48 ++ decDigits n)
theorem decDigits_ne (n : Nat) : decDigits n ≠ [] := by
  intro h
  have := decDigits_length n
  rw [h] at this
  have := nDigits_pos n
  simp at *
  omega
theorem pieces_lt (f : Nat) : ∀ m, ∀ n ∈ piecesF f m, n < Pc := by
  induction f with
  | zero => intro m n h; simp [piecesF] at h
  | succ f ih =>
    intro m n h
    rw [piecesF] at h
    by_cases h0 : m = 0
    · rw [if_pos h0] at h; cases h
    · rw [if_neg h0] at h
      rcases List.mem_cons.1 h with rfl | h
      · exact Nat.mod_lt _ (by unfold Pc; omega)
      · exact ih _ _ h
theorem pieces_len (f : Nat) : ∀ m, (piecesF f m).length ≤ f := by
  induction f with
  | zero => intro m; simp [piecesF]
  | succ f ih =>
    intro m
    rw [piecesF]
    by_cases h0 : m = 0
    · rw [if_pos h0]; simp
    · rw [if_neg h0, List.length_cons]; have := ih (m / Pc); omega
theorem pc_pow : Pc = 10 ^ 19 := by decide
theorem text_fold (f : Nat) : ∀ m, m < Pc ^ f → (piecesF f m).foldr (fun n bs => textStep bs n) [] = if m = 0 then [] else decDigits m := by
  induction f with
  | zero => intro m h; have : m = 0 := by simpa using h
            subst this; rfl
  | succ f ih =>
    intro m h
    rw [piecesF]
    by_cases h0 : m = 0
    · rw [if_pos h0, if_pos h0]; rfl
    · rw [if_neg h0, if_neg h0, List.foldr_cons, ih (m / Pc) (pieces_fuel h)]
      have hm : m % Pc < Pc := Nat.mod_lt _ (by unfold Pc; omega)
      by_cases hq : m / Pc = 0
      · rw [if_pos hq, textStep, if_pos rfl]
        congr 1
        have := Nat.div_add_mod m Pc
        rw [hq, Nat.mul_zero, Nat.zero_add] at this
        exact this
      · rw [if_neg hq, textStep, if_neg (decDigits_ne _)]
        have e := dec_pad (m / Pc) (Nat.pos_of_ne_zero hq) 19 (m % Pc) (by rw [← pc_pow]; exact hm)
        rw [← pc_pow, padL_digits 18 _ (by rw [← pc_pow]; exact hm), show m / Pc * Pc + m % Pc = m by rw [Nat.mul_comm]; exact Nat.div_add_mod m Pc] at e
        exact e.symm
theorem nDigits_le19 {n : Nat} (h : n < Pc) : nDigits n ≤ 19 := by
  rcases Nat.lt_or_ge n 10 with h1 | h1
  · rw [nDigits_small h1]; omega
  · rcases Nat.lt_or_ge 19 (nDigits n) with h2 | h2
    · exfalso
      have h3 : 10 ^ 19 ≤ n := by
        have key : ∀ k u, k + 1 < nDigits u → 10 ^ (k + 1) ≤ u := by
          intro k
          induction k with
          | zero =>
            intro u hu
            rcases Nat.lt_or_ge u 10 with h | h
            · rw [nDigits_small h] at hu; omega
            · simpa using h
          | succ k ih =>
            intro u hu
            rcases Nat.lt_or_ge u 10 with h | h
            · rw [nDigits_small h] at hu; omega
            · rw [nDigits_big (by omega)] at hu
              have := ih (u / 10) (by omega)
              rw [Nat.pow_succ]
              omega
        exact key 18 n h2
      rw [← pc_pow] at h3
      omega
    · exact h2
theorem textStep_len (bs : List UInt8) (n : Nat) (h : n < Pc) : (textStep bs n).length ≤ bs.length + 19 := by
  have h1 := nDigits_le19 h
  unfold textStep
  split
  · rw [decDigits_length]; omega
  · rw [List.length_append, List.length_append, List.length_replicate, decDigits_length]; omega
theorem text_foldl_len (l : List Nat) : (∀ n ∈ l, n < Pc) → ∀ bs, (l.foldl textStep bs).length ≤ bs.length + 19 * l.length := by
  induction l with
  | nil => intro _ bs; simp
  | cons n l ih =>
    intro h bs
    rw [List.foldl_cons]
    have h1 := ih (fun x hx => h x (List.mem_cons_of_mem _ hx)) (textStep bs n)
    have h2 := textStep_len bs n (h n List.mem_cons_self)
    simp only [List.length_cons]
    omega
/-- What Text answers. -/
def textL (a : Nat) : List UInt8 := decDigits a
theorem text_pieces (a : Nat) (h : a < Pc ^ 3) : (if (piecesF 3 a).reverse.foldl textStep [] = [] then [48] else (piecesF 3 a).reverse.foldl textStep []) = textL a := by
  rw [List.foldl_reverse, text_fold 3 a h]
  by_cases h0 : a = 0
  · subst h0; rw [if_pos rfl, if_pos rfl]; unfold textL; rw [decDigits_one (by omega)]; rfl
  · rw [if_neg h0, if_neg (decDigits_ne _)]; rfl
end Go.Proofs.YtokpgopdkimmmaaGreatDoor
