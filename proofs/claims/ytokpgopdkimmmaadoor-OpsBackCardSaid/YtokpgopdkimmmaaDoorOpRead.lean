/- What Read reads of bytes: plain law. -/
import Derived.Test.YtokpgopdkimmmaaDoorOpBytes
namespace Go.Proofs.YtokpgopdkimmmaaDoor
open Go.RowKit
set_option linter.unusedVariables false

/-- An int64 as an unsigned number. -/
def u64N (x : Int) : Nat := (x % 18446744073709551616).toNat
theorem u64N_lt (x : Int) : u64N x < 18446744073709551616 := by unfold u64N; omega
/-- An unsigned number as an int64. -/
def s64 (n : Nat) : Int := if n < 9223372036854775808 then (n : Int) else (n : Int) - 18446744073709551616
theorem s64_in (n : Nat) (h : n < 18446744073709551616) : In64 (s64 n) := by
  unfold s64 In64
  split <;> omega
theorem s64_u64N (x : Int) (h : In64 x) : s64 (u64N x) = x := by
  obtain ⟨h1, h2⟩ := h
  unfold s64 u64N
  split <;> omega
theorem u64N_s64 (n : Nat) (h : n < 18446744073709551616) : u64N (s64 n) = n := by
  unfold s64 u64N
  split <;> omega
def opBytes (o : OpV) : List Nat := o.k :: (beN 8 (u64N o.a) ++ (beN 8 (u64N o.b) ++ (beN 8 (u64N o.c) ++ (beN 8 (u64N o.d) ++ beN 4 o.id))))
def bytesL (ls : List OpV) : List Nat := ls.flatMap opBytes
theorem opBytes_len (o : OpV) : (opBytes o).length = 37 := by simp [opBytes, beN_len]
theorem bytesL_cons (o : OpV) (ls : List OpV) : bytesL (o :: ls) = opBytes o ++ bytesL ls := by unfold bytesL; rw [List.flatMap_cons]
theorem bytesL_snoc (ls : List OpV) (o : OpV) : bytesL (ls ++ [o]) = bytesL ls ++ opBytes o := by unfold bytesL; rw [List.flatMap_append]; simp
theorem bytesL_app (ls ms : List OpV) : bytesL (ls ++ ms) = bytesL ls ++ bytesL ms := by unfold bytesL; rw [List.flatMap_append]
theorem bytesL_len : ∀ ls : List OpV, (bytesL ls).length = 37 * ls.length
  | [] => rfl
  | o :: ls => by
    rw [bytesL_cons, List.length_append, opBytes_len, bytesL_len ls, List.length_cons]
    omega
def deF (a : Nat) (l : List Nat) : Nat := l.foldl (fun n x => n * 256 + x) a
def deN (l : List Nat) : Nat := deF 0 l
theorem deF_cons (a x : Nat) (l : List Nat) : deF a (x :: l) = deF (a * 256 + x) l := rfl
theorem deF_snoc (a x : Nat) (l : List Nat) : deF a (l ++ [x]) = deF a l * 256 + x := by unfold deF; rw [List.foldl_append]; rfl
theorem deF_beN (n : Nat) : ∀ m a, deF a (beN m n) = a * 256 ^ m + n % 256 ^ m
  | 0, a => by simp [beN, deF, Nat.mod_one]
  | m + 1, a => by
    rw [beN, deF_cons, deF_beN n m, Nat.mod_pow_succ, Nat.add_mul, Nat.pow_succ, Nat.mul_assoc, Nat.mul_comm 256 (256 ^ m), Nat.mul_comm (n / 256 ^ m % 256)]
    omega
theorem deN_beN (m n : Nat) (h : n < 256 ^ m) : deN (beN m n) = n := by
  unfold deN
  rw [deF_beN, Nat.zero_mul, Nat.zero_add, Nat.mod_eq_of_lt h]
theorem deF_add : ∀ (l : List Nat) (a : Nat), deF a l = a * 256 ^ l.length + deN l
  | [], a => by simp [deF, deN]
  | x :: l, a => by
    unfold deN
    rw [deF_cons, deF_cons, deF_add l, deF_add l (0 * 256 + x), List.length_cons, Nat.pow_succ, Nat.add_mul, Nat.zero_mul, Nat.zero_add, Nat.mul_comm (256 ^ l.length) 256, Nat.mul_assoc]
    omega
theorem deN_cons (x : Nat) (l : List Nat) : deN (x :: l) = x * 256 ^ l.length + deN l := by
  show deF (0 * 256 + x) l = _
  rw [deF_add, Nat.zero_mul, Nat.zero_add]
theorem deN_lt : ∀ l : List Nat, (∀ x ∈ l, x < 256) → deN l < 256 ^ l.length
  | [], _ => by simp [deN, deF]
  | x :: l, h => by
    have h1 := deN_lt l fun y hy => h y (List.mem_cons_of_mem _ hy)
    have h2 : x + 1 ≤ 256 := h x List.mem_cons_self
    rw [deN_cons, List.length_cons, Nat.pow_succ]
    have h3 : (x + 1) * 256 ^ l.length ≤ 256 * 256 ^ l.length := Nat.mul_le_mul_right _ h2
    rw [Nat.add_mul, Nat.one_mul] at h3
    rw [Nat.mul_comm (256 ^ l.length)]
    omega
theorem beN_mod : ∀ m a b, beN m (a * 256 ^ m + b) = beN m b
  | 0, _, _ => rfl
  | m + 1, a, b => by
    have e : a * 256 ^ (m + 1) + b = (a * 256) * 256 ^ m + b := by rw [Nat.pow_succ, Nat.mul_comm (256 ^ m), Nat.mul_assoc]
    rw [e, beN, beN, beN_mod m, Nat.mul_comm (a * 256), Nat.mul_add_div (Nat.pow_pos (by decide))]
    congr 1
    omega
theorem beN_deN : ∀ l : List Nat, (∀ x ∈ l, x < 256) → beN l.length (deN l) = l
  | [], _ => rfl
  | x :: l, h => by
    have hl : ∀ y ∈ l, y < 256 := fun y hy => h y (List.mem_cons_of_mem _ hy)
    have h1 := deN_lt l hl
    have hx := h x List.mem_cons_self
    rw [List.length_cons, beN, deN_cons, beN_mod, beN_deN l hl, Nat.mul_comm, Nat.mul_add_div (Nat.pow_pos (by decide)), Nat.div_eq_of_lt h1, Nat.add_zero, Nat.mod_eq_of_lt hx]
theorem deN_take_lt (l : List Nat) (m : Nat) (h : ∀ x ∈ l, x < 256) : deN (l.take m) < 256 ^ m :=
  Nat.lt_of_lt_of_le (deN_lt _ fun x hx => h x (List.mem_of_mem_take hx)) (Nat.pow_le_pow_right (by decide) (List.length_take_le _ _))
/-- The operation of 37 bytes. -/
def opOf (b : List Nat) : OpV where
  k := deN (b.take 1)
  a := s64 (deN ((b.drop 1).take 8))
  b := s64 (deN ((b.drop 9).take 8))
  c := s64 (deN ((b.drop 17).take 8))
  d := s64 (deN ((b.drop 25).take 8))
  id := deN ((b.drop 33).take 4)
def readN : Nat → List Nat → List OpV
  | 0, _ => []
  | k + 1, b => opOf b :: readN k (b.drop 37)
theorem readN_len : ∀ k b, (readN k b).length = k
  | 0, _ => rfl
  | k + 1, b => by rw [readN, List.length_cons, readN_len k]
theorem readN_snoc : ∀ k b, readN (k + 1) b = readN k b ++ [opOf (b.drop (37 * k))]
  | 0, b => by simp [readN]
  | k + 1, b => by
    rw [readN, readN_snoc k, readN, List.cons_append, List.drop_drop, show 37 + 37 * k = 37 * (k + 1) by omega]
theorem take_len_app {a b : List Nat} {n : Nat} (h : a.length = n) : (a ++ b).take n = a := by subst h; simp
theorem drop_len_app {a b : List Nat} {n : Nat} (h : a.length = n) : (a ++ b).drop n = b := by subst h; simp
theorem opOf_bytes (o : OpV) (ho : o.ok) (t : List Nat) : opOf (opBytes o ++ t) = o := by
  have e0 : opBytes o ++ t = [o.k] ++ (beN 8 (u64N o.a) ++ (beN 8 (u64N o.b) ++ (beN 8 (u64N o.c) ++ (beN 8 (u64N o.d) ++ (beN 4 o.id ++ t))))) := by
    unfold opBytes
    simp [List.append_assoc]
  have hb := beN_len
  have d1 : (opBytes o ++ t).drop 1 = beN 8 (u64N o.a) ++ (beN 8 (u64N o.b) ++ (beN 8 (u64N o.c) ++ (beN 8 (u64N o.d) ++ (beN 4 o.id ++ t)))) := by rw [e0]; rfl
  have d2 : (opBytes o ++ t).drop 9 = beN 8 (u64N o.b) ++ (beN 8 (u64N o.c) ++ (beN 8 (u64N o.d) ++ (beN 4 o.id ++ t))) := by
    rw [show 9 = 1 + 8 from rfl, ← List.drop_drop, d1, drop_len_app (hb _ _)]
  have d3 : (opBytes o ++ t).drop 17 = beN 8 (u64N o.c) ++ (beN 8 (u64N o.d) ++ (beN 4 o.id ++ t)) := by
    rw [show 17 = 9 + 8 from rfl, ← List.drop_drop, d2, drop_len_app (hb _ _)]
  have d4 : (opBytes o ++ t).drop 25 = beN 8 (u64N o.d) ++ (beN 4 o.id ++ t) := by
    rw [show 25 = 17 + 8 from rfl, ← List.drop_drop, d3, drop_len_app (hb _ _)]
  have d5 : (opBytes o ++ t).drop 33 = beN 4 o.id ++ t := by
    rw [show 33 = 25 + 8 from rfl, ← List.drop_drop, d4, drop_len_app (hb _ _)]
  have p8 : (18446744073709551616 : Nat) = 256 ^ 8 := by decide
  unfold opOf
  rw [d1, d2, d3, d4, d5, take_len_app (hb _ _), take_len_app (hb _ _), take_len_app (hb _ _), take_len_app (hb _ _), take_len_app (hb _ _), deN_beN _ _ (by rw [← p8]; exact u64N_lt _), deN_beN _ _ (by rw [← p8]; exact u64N_lt _), deN_beN _ _ (by rw [← p8]; exact u64N_lt _), deN_beN _ _ (by rw [← p8]; exact u64N_lt _), deN_beN 4 _ (by have := ho.id; simpa using this), s64_u64N _ ho.a, s64_u64N _ ho.b, s64_u64N _ ho.c, s64_u64N _ ho.d, e0]
  obtain ⟨k, a, b, c, d, i⟩ := o
  simp [deN, deF]
theorem readN_bytes : ∀ (ls : List OpV) (t : List Nat), (∀ o ∈ ls, o.ok) → readN ls.length (bytesL ls ++ t) = ls
  | [], _, _ => rfl
  | o :: ls, t, h => by
    rw [List.length_cons, readN, bytesL_cons, List.append_assoc, opOf_bytes o (h o List.mem_cons_self), drop_len_app (opBytes_len o), readN_bytes ls t fun x hx => h x (List.mem_cons_of_mem _ hx)]
theorem opOf_ok (b : List Nat) (h : ∀ x ∈ b, x < 256) : (opOf b).ok := by
  have p8 : (256 : Nat) ^ 8 = 18446744073709551616 := by decide
  have hd : ∀ n m, deN ((b.drop n).take m) < 256 ^ m := fun n m => deN_take_lt _ m fun x hx => h x (List.mem_of_mem_drop hx)
  refine ⟨?_, s64_in _ ?_, s64_in _ ?_, s64_in _ ?_, s64_in _ ?_, ?_⟩
  · have := deN_take_lt b 1 h
    simpa [opOf] using this
  · rw [← p8]; exact hd _ _
  · rw [← p8]; exact hd _ _
  · rw [← p8]; exact hd _ _
  · rw [← p8]; exact hd _ _
  · have := hd 33 4
    simpa [opOf] using this
theorem readN_ok : ∀ (k : Nat) (b : List Nat), (∀ x ∈ b, x < 256) → ∀ o ∈ readN k b, o.ok
  | 0, _, _ => by intro o ho; simp [readN] at ho
  | k + 1, b, h => by
    intro o ho
    rw [readN] at ho
    rcases List.mem_cons.1 ho with rfl | ho
    · exact opOf_ok b h
    · exact readN_ok k _ (fun x hx => h x (List.mem_of_mem_drop hx)) o ho
theorem beN_part (b : List Nat) (h : ∀ x ∈ b, x < 256) (n m : Nat) (hl : n + m ≤ b.length) : beN m (deN ((b.drop n).take m)) = (b.drop n).take m := by
  have e : ((b.drop n).take m).length = m := by rw [List.length_take, List.length_drop]; omega
  have := beN_deN ((b.drop n).take m) fun x hx => h x (List.mem_of_mem_drop (List.mem_of_mem_take hx))
  rw [e] at this
  exact this
theorem opBytes_of (b : List Nat) (h : ∀ x ∈ b, x < 256) (hl : 37 ≤ b.length) : opBytes (opOf b) = b.take 37 := by
  have p8 : (256 : Nat) ^ 8 = 18446744073709551616 := by decide
  have hd : ∀ n, deN ((b.drop n).take 8) < 18446744073709551616 := fun n => by rw [← p8]; exact deN_take_lt _ 8 fun x hx => h x (List.mem_of_mem_drop hx)
  have hk : deN (b.take 1) :: (b.drop 1).take 36 = b.take 37 := by
    cases b with
    | nil => simp at hl
    | cons x t => simp [deN, deF]
  have ht : ∀ n m, (b.drop n).take m ++ (b.drop (n + m)).take (36 + 1 - n - m) = (b.drop n).take (m + (36 + 1 - n - m)) := fun n m => by
    rw [List.take_add, List.drop_drop]
  unfold opBytes opOf
  simp only
  rw [u64N_s64 _ (hd _), u64N_s64 _ (hd _), u64N_s64 _ (hd _), u64N_s64 _ (hd _), beN_part b h 1 8 (by omega), beN_part b h 9 8 (by omega), beN_part b h 17 8 (by omega), beN_part b h 25 8 (by omega), beN_part b h 33 4 (by omega), ← hk]
  congr 1
  have h4 := ht 25 8
  have h3 := ht 17 8
  have h2 := ht 9 8
  have h1 := ht 1 8
  simp only [Nat.reduceAdd, Nat.reduceSub] at h1 h2 h3 h4
  rw [h4, h3, h2, h1]
theorem bytes_readN : ∀ (k : Nat) (b : List Nat), (∀ x ∈ b, x < 256) → b.length = 37 * k → bytesL (readN k b) = b
  | 0, b, _, hl => by rw [List.eq_nil_of_length_eq_zero (by omega : b.length = 0)]; rfl
  | k + 1, b, h, hl => by
    rw [readN, bytesL_cons, opBytes_of b h (by omega), bytes_readN k _ (fun x hx => h x (List.mem_of_mem_drop hx)) (by rw [List.length_drop]; omega), List.take_append_drop]
theorem opBytes_inj {o p : OpV} (ho : o.ok) (hp : p.ok) (h : opBytes o = opBytes p) : o = p := by
  have h1 := opOf_bytes o ho []
  rw [h, opOf_bytes p hp] at h1
  exact h1.symm
end Go.Proofs.YtokpgopdkimmmaaDoor
