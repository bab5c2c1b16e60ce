/- The document's sums, order, differences and digits over lists of bits: plain law. -/
import Derived.Test.YtplbglcdmimdoaaDoorBitsLaw
import Derived.Test.YtplbglcdmimdoaaDoorWideCmp
namespace Go.Proofs.YtplbglcdmimdoaaDoor
set_option linter.unusedVariables false

def carryN (a b k : Nat) : Nat := (a % 2 ^ k + b % 2 ^ k) / 2 ^ k
theorem carry_step (a b k : Nat) : (a / 2 ^ k % 2 + b / 2 ^ k % 2 + carryN a b k) % 2 = (a + b) / 2 ^ k % 2 ∧ (a / 2 ^ k % 2 + b / 2 ^ k % 2 + carryN a b k) / 2 = carryN a b (k + 1) := by
  unfold carryN
  rw [Nat.mod_pow_succ (b := 2) (x := a), Nat.mod_pow_succ (b := 2) (x := b), Nat.pow_succ, ← Nat.div_div_eq_div_mul]
  have hp : 0 < 2 ^ k := Nat.pow_pos (by decide)
  generalize 2 ^ k = P at hp ⊢
  have ea := Nat.div_add_mod a P
  have eb := Nat.div_add_mod b P
  generalize a / P = A at ea ⊢
  generalize a % P = x at ea ⊢
  generalize b / P = B at eb ⊢
  generalize b % P = y at eb ⊢
  have e1 : a + b = (x + y) + P * (A + B) := by rw [← ea, ← eb, Nat.mul_add]; omega
  have e2 : x + P * (A % 2) + (y + P * (B % 2)) = (x + y) + P * (A % 2 + B % 2) := by rw [Nat.mul_add]; omega
  rw [e1, e2, Nat.add_mul_div_left _ _ hp, Nat.add_mul_div_left _ _ hp]
  omega
theorem carry_le (a b k : Nat) : carryN a b k ≤ 1 := by
  unfold carryN
  have hp : 0 < 2 ^ k := Nat.pow_pos (by decide)
  have h1 := Nat.mod_lt a hp
  have h2 := Nat.mod_lt b hp
  have : (a % 2 ^ k + b % 2 ^ k) / 2 ^ k < 2 := by
    rw [Nat.div_lt_iff_lt_mul hp]; omega
  omega
theorem sum_end (a b : Nat) (ha : a < 2 ^ 128) (hb : b < 2 ^ 128) : bitsN 128 (a + b) ++ [carryN a b 128] = bitsN 129 (a + b) := by
  rw [bitsN_split 128 1]
  unfold carryN
  rw [Nat.mod_eq_of_lt ha, Nat.mod_eq_of_lt hb]
  have : (a + b) / 2 ^ 128 % 2 = (a + b) / 2 ^ 128 := by omega
  simp only [bitsN, this]
theorem bitsN_snoc (k v : Nat) : bitsN (k + 1) v = bitsN k v ++ [v / 2 ^ k % 2] := by rw [bitsN_split k 1]; rfl
/-- The number of the first bits, word by word. -/
theorem num_low (v k : Nat) (hk : k < 64) (h1 : v / 2 ^ k % 2 = 1) : v % 2 ^ k + 2 ^ k = v % 2 ^ (k + 1) ∧ v % 2 ^ k + 2 ^ k < 18446744073709551616 := by
  have e := Nat.mod_pow_succ (b := 2) (k := k) (x := v)
  rw [h1, Nat.mul_one] at e
  refine ⟨e.symm, ?_⟩
  rw [← e]
  have h2 : v % 2 ^ (k + 1) < 2 ^ (k + 1) := Nat.mod_lt _ (Nat.pow_pos (by decide))
  have h3 : 2 ^ (k + 1) ≤ 2 ^ 64 := Nat.pow_le_pow_right (by decide) (by omega)
  omega
theorem num_none (v k : Nat) (h1 : v / 2 ^ k % 2 = 0) : v % 2 ^ k = v % 2 ^ (k + 1) := by
  rw [Nat.mod_pow_succ (b := 2) (k := k) (x := v), h1]; omega
theorem num_high (v k : Nat) (h64 : 64 ≤ k) (hk : k < 128) (h1 : v / 2 ^ k % 2 = 1) : v % 2 ^ k / 18446744073709551616 + 2 ^ (k - 64) = v % 2 ^ (k + 1) / 18446744073709551616 ∧ v % 2 ^ (k + 1) % 18446744073709551616 = v % 2 ^ k % 18446744073709551616 ∧ v % 2 ^ k / 18446744073709551616 + 2 ^ (k - 64) < 18446744073709551616 := by
  have e := Nat.mod_pow_succ (b := 2) (k := k) (x := v)
  rw [h1, Nat.mul_one] at e
  have ek : 2 ^ k = 18446744073709551616 * 2 ^ (k - 64) := by
    rw [show (18446744073709551616 : Nat) = 2 ^ 64 from rfl, ← Nat.pow_add]; congr 1; omega
  have h2 : v % 2 ^ k < 2 ^ k := Nat.mod_lt _ (Nat.pow_pos (by decide))
  have h3 : 2 ^ (k - 64) ≤ 2 ^ 63 := Nat.pow_le_pow_right (by decide) (by omega)
  rw [e]
  generalize v % 2 ^ k = u at *
  rw [ek] at h2 ⊢
  generalize 2 ^ (k - 64) = q at *
  omega
theorem num_top (v n : Nat) (hn : n ≤ 129) (hv : v < 2 ^ n) (h128 : 128 < n) : v / 2 ^ 128 % 2 = if v < 340282366920938463463374607431768211456 then 0 else 1 := by
  have : n = 129 := by omega
  subst this
  split <;> omega
theorem cmp_bit (a b i : Nat) (h : a / 2 ^ (i + 1) = b / 2 ^ (i + 1)) : (a / 2 ^ i % 2 = b / 2 ^ i % 2 → a / 2 ^ i = b / 2 ^ i) ∧ (a / 2 ^ i % 2 ≠ b / 2 ^ i % 2 → cmpI a b = ((a / 2 ^ i % 2 : Nat) : Int) - ((b / 2 ^ i % 2 : Nat) : Int)) := by
  rw [half_pow, half_pow] at h
  refine ⟨fun g => by omega, fun g => ?_⟩
  have hp : 0 < 2 ^ i := Nat.pow_pos (by decide)
  have ea := Nat.div_add_mod a (2 ^ i)
  have eb := Nat.div_add_mod b (2 ^ i)
  have la := Nat.mod_lt a hp
  have lb := Nat.mod_lt b hp
  generalize 2 ^ i = P at *
  generalize a / P = A at *
  generalize b / P = B at *
  generalize a % P = x at *
  generalize b % P = y at *
  have hh : A = B + 1 ∨ B = A + 1 := by omega
  unfold cmpI
  rcases hh with rfl | rfl
  · have : P * (B + 1) = P * B + P := by rw [Nat.mul_add, Nat.mul_one]
    rw [if_neg (by omega), if_pos (by omega)]
    omega
  · have : P * (A + 1) = P * A + P := by rw [Nat.mul_add, Nat.mul_one]
    rw [if_pos (by omega)]
    omega
/-- The bits from which b is taken, ahead of place i. -/
def SubOut (i a b : Nat) (l : List Nat) : Prop := ∃ pre u, pre.length = i ∧ l = pre ++ bitsN (128 - i) u ∧ u < 2 ^ (128 - i) ∧ b / 2 ^ i ≤ u ∧ u - b / 2 ^ i = (a - b) / 2 ^ i
/-- One is being taken from the next place that has one. -/
def SubIn (i k U : Nat) (l : List Nat) : Prop := ∃ pre mid t, pre.length = i + 1 ∧ mid.length = k - (i + 1) ∧ i + 1 ≤ k ∧ l = (pre ++ mid) ++ bitsN (128 - k) t ∧ 1 ≤ t ∧ t < 2 ^ (128 - k) ∧ mid ++ bitsN (128 - k) (t - 1) = bitsN (127 - i) (U - 1)
def SubFin (i U : Nat) (l : List Nat) : Prop := ∃ pre, pre.length = i + 1 ∧ l = pre ++ bitsN (127 - i) (U - 1)
theorem SubOut.start {a b : Nat} (ha : a < 2 ^ 128) (h : b ≤ a) : SubOut 0 a b (bitsN 128 a) := ⟨[], a, rfl, rfl, ha, by simpa using h, by simp⟩
theorem SubOut.at {i a b : Nat} {l : List Nat} (h : SubOut i a b l) (hi : i < 128) : ∃ x : Nat, l[i]? = some x ∧ x ≤ 1 ∧ l.length = 128 ∧
    (b / 2 ^ i % 2 ≤ x → SubOut (i + 1) a b l ∧ x - b / 2 ^ i % 2 = (a - b) / 2 ^ i % 2) ∧
    (x < b / 2 ^ i % 2 → x = 0 ∧ b / 2 ^ i % 2 = 1 ∧ (a - b) / 2 ^ i % 2 = 1 ∧ ∃ U, SubIn i (i + 1) U l ∧ ∀ l', SubFin i U l' → SubOut (i + 1) a b l') := by
  obtain ⟨pre, u, hp, rfl, hu, hb, hd⟩ := h
  have e : 128 - i = (127 - i) + 1 := by omega
  have e' : 128 - (i + 1) = 127 - i := by omega
  refine ⟨u % 2, getElem?_rest pre _ u i hp (by omega), by omega, by rw [List.length_append, bitsN_len, hp]; omega, fun h => ⟨⟨pre ++ [u % 2], u / 2, by simp [hp], ?_, ?_, ?_, ?_⟩, by omega⟩, fun h => ⟨by omega, by omega, by omega, u / 2, ?_, ?_⟩⟩
  · rw [e, bitsN, e']; simp
  · rw [e, Nat.pow_succ] at hu; rw [e']; omega
  · rw [half_pow]; omega
  · rw [half_pow, half_pow]; omega
  · refine ⟨pre ++ [u % 2], [], u / 2, by simp [hp], by simp, Nat.le_refl _, ?_, by generalize b / 2 ^ i = B at *; omega, ?_, ?_⟩
    · rw [e, bitsN, e']; simp
    · rw [e, Nat.pow_succ] at hu; rw [e']; omega
    · rw [e']; rfl
  · rintro l' ⟨pre', hp', rfl⟩
    refine ⟨pre', u / 2 - 1, hp', by rw [e'], ?_, ?_, ?_⟩
    · rw [e, Nat.pow_succ] at hu; rw [e']; omega
    · rw [half_pow]; omega
    · rw [half_pow, half_pow]; omega
theorem SubIn.at {i k U : Nat} {l : List Nat} (h : SubIn i k U l) : k < 128 ∧ ∃ x : Nat, l[k]? = some x ∧ x ≤ 1 ∧ (x = 0 → SubIn i (k + 1) U (l.set k 1)) ∧ (x = 1 → SubFin i U (l.set k 0)) := by
  obtain ⟨pre, mid, t, hp, hm, hk, rfl, ht, hu, hs⟩ := h
  have hk2 : k < 128 := by
    rcases Nat.lt_or_ge k 128 with h | h
    · exact h
    · rw [show 128 - k = 0 by omega] at hu; simp at hu; omega
  have hl : (pre ++ mid).length = k := by rw [List.length_append, hp, hm]; omega
  have e : 128 - k = (127 - k) + 1 := by omega
  have e' : 128 - (k + 1) = 127 - k := by omega
  refine ⟨hk2, t % 2, getElem?_rest _ _ t k hl (by omega), by omega, fun h => ?_, fun h => ?_⟩
  · refine ⟨pre, mid ++ [1], t / 2, hp, by rw [List.length_append, hm]; simp; omega, by omega, ?_, by omega, ?_, ?_⟩
    · rw [e, bitsN, set_rest _ _ _ _ _ hl, e']; simp
    · rw [e, Nat.pow_succ] at hu; rw [e']; omega
    · rw [← hs, e, bitsN_pred ht, if_pos h, if_pos h, e']; simp
  · refine ⟨pre, hp, ?_⟩
    rw [← hs, e, bitsN_pred ht, if_neg (by omega), if_neg (by omega), bitsN, set_rest _ _ _ _ _ hl]; simp
/-- Dividing by ten from the highest bit on: j bits are left. -/
def tenL (v j : Nat) : List Nat := bitsN j v ++ bitsN (128 - j) (v / 2 ^ j / 10)
theorem tenL_start (v : Nat) (hv : v < 2 ^ 128) : tenL v 128 = bitsN 128 v ∧ v / 2 ^ 128 % 10 = 0 ∧ v / 2 ^ 128 / 10 = 0 := by
  unfold tenL
  simp [Nat.div_eq_of_lt hv, bitsN]
theorem tenL_end (v : Nat) : tenL v 0 = bitsN 128 (v / 10) := by unfold tenL; simp [bitsN]
theorem tenL_len (v j : Nat) (hj : j ≤ 128) : (tenL v j).length = 128 := by unfold tenL; rw [List.length_append, bitsN_len, bitsN_len]; omega
theorem tenL_step (v i : Nat) (hi : i < 128) : (tenL v (i + 1))[i]? = some (v / 2 ^ i % 2) ∧
    (tenL v (i + 1)).set i ((v / 2 ^ (i + 1) % 10 * 2 + v / 2 ^ i % 2) / 10) = tenL v i ∧
    (v / 2 ^ (i + 1) % 10 * 2 + v / 2 ^ i % 2) % 10 = v / 2 ^ i % 10 ∧
    (0 < v / 2 ^ i / 10 ↔ 0 < v / 2 ^ (i + 1) / 10 ∨ 0 < (v / 2 ^ (i + 1) % 10 * 2 + v / 2 ^ i % 2) / 10) := by
  have hh := half_pow v i
  have ei : bitsN (i + 1) v = bitsN i v ++ [v / 2 ^ i % 2] := by rw [bitsN_split i 1]; rfl
  refine ⟨?_, ?_, by omega, by rw [hh]; generalize v / 2 ^ i = B; omega⟩
  · unfold tenL
    rw [List.getElem?_append_left (by rw [bitsN_len]; omega), bitsN_get _ _ _ (by omega)]
  · unfold tenL
    rw [List.set_append_left _ _ (by rw [bitsN_len]; omega), ei, List.set_append_right _ _ (by rw [bitsN_len]; omega), bitsN_len, Nat.sub_self, List.set_cons_zero,
      show 128 - i = (128 - (i + 1)) + 1 by omega, bitsN]
    rw [show v / 2 ^ i / 10 % 2 = (v / 2 ^ (i + 1) % 10 * 2 + v / 2 ^ i % 2) / 10 by omega, show v / 2 ^ i / 10 / 2 = v / 2 ^ (i + 1) / 10 by omega]
    simp
end Go.Proofs.YtplbglcdmimdoaaDoor
