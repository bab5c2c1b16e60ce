/- Numbers as lists of bits: plain law. -/
import Derived.Test.YtplbglcdmimdoaaDoorWords
namespace Go.Proofs.YtplbglcdmimdoaaDoor
open Go.RowKit
set_option linter.unusedVariables false

/-- The lowest n bits of v, the lowest one first. -/
def bitsN : Nat → Nat → List Nat
  | 0, _ => []
  | n + 1, v => v % 2 :: bitsN n (v / 2)
theorem bitsN_len : ∀ (n v : Nat), (bitsN n v).length = n
  | 0, _ => rfl
  | n + 1, v => by rw [bitsN, List.length_cons, bitsN_len n]
theorem bitsN_one : ∀ (n v x : Nat), x ∈ bitsN n v → x ≤ 1
  | 0, _, x, h => by simp [bitsN] at h
  | n + 1, v, x, h => by
    rw [bitsN] at h
    rcases List.mem_cons.1 h with rfl | h
    · omega
    · exact bitsN_one n _ x h
theorem bitsN_get : ∀ (n v i : Nat) (h : i < n), (bitsN n v)[i]? = some (v / 2 ^ i % 2)
  | 0, _, i, h => by omega
  | n + 1, v, 0, h => by rw [bitsN]; simp
  | n + 1, v, i + 1, h => by
    rw [bitsN, List.getElem?_cons_succ, bitsN_get n (v / 2) i (by omega), Nat.div_div_eq_div_mul, Nat.pow_succ, Nat.mul_comm 2]
theorem bitsN_split : ∀ (m n v : Nat), bitsN (m + n) v = bitsN m v ++ bitsN n (v / 2 ^ m)
  | 0, n, v => by simp [bitsN]
  | m + 1, n, v => by
    rw [show m + 1 + n = (m + n) + 1 by omega, bitsN, bitsN_split m n (v / 2), bitsN, Nat.div_div_eq_div_mul, Nat.pow_succ, Nat.mul_comm 2]
    rfl
theorem bitsN_zero : ∀ n, bitsN n 0 = List.replicate n 0
  | 0 => rfl
  | n + 1 => by rw [bitsN, Nat.zero_div, bitsN_zero n]; rfl
theorem bitsN_take (m n v : Nat) (h : m ≤ n) : (bitsN n v).take m = bitsN m v := by
  obtain ⟨k, rfl⟩ : ∃ k, n = m + k := ⟨n - m, by omega⟩
  rw [bitsN_split, List.take_left' (bitsN_len m v)]
theorem bitsN_double (n v : Nat) : bitsN (n + 1) (2 * v) = 0 :: bitsN n v := by
  rw [bitsN, show 2 * v % 2 = 0 by omega, show 2 * v / 2 = v by omega]
/-- An element of a list that is a part and a rest of bits. -/
theorem getElem?_rest (pre : List Nat) (n v k : Nat) (hk : pre.length = k) (h : 0 < n) : (pre ++ bitsN n v)[k]? = some (v % 2) := by
  obtain ⟨m, rfl⟩ : ∃ m, n = m + 1 := ⟨n - 1, by omega⟩
  rw [List.getElem?_append_right (by omega), hk, Nat.sub_self, bitsN]
  rfl
theorem set_rest (pre : List Nat) (x : Nat) (l : List Nat) (k y : Nat) (hk : pre.length = k) : (pre ++ x :: l).set k y = (pre ++ [y]) ++ l := by
  rw [List.set_append_right _ _ (by omega), hk, Nat.sub_self]
  simp
theorem bitsN_pred {n v : Nat} (hv : 1 ≤ v) : bitsN (n + 1) (v - 1) = (if v % 2 = 0 then 1 else 0) :: bitsN n (if v % 2 = 0 then v / 2 - 1 else v / 2) := by
  rw [bitsN]
  by_cases h : v % 2 = 0
  · rw [if_pos h, if_pos h, show (v - 1) % 2 = 1 by omega, show (v - 1) / 2 = v / 2 - 1 by omega]
  · rw [if_neg h, if_neg h, show (v - 1) % 2 = 0 by omega, show (v - 1) / 2 = v / 2 by omega]
/-- The lowest bits, and one more. -/
theorem mod_bit (v k : Nat) : v % 2 ^ (k + 1) = v % 2 ^ k + 2 ^ k * (v / 2 ^ k % 2) := Nat.mod_pow_succ
theorem half_pow (v k : Nat) : v / 2 ^ (k + 1) = v / 2 ^ k / 2 := by rw [Nat.pow_succ, Nat.div_div_eq_div_mul]
end Go.Proofs.YtplbglcdmimdoaaDoor
