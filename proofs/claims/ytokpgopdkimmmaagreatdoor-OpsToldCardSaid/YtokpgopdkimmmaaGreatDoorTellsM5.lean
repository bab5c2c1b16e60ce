import Derived.Test.YtokpgopdkimmmaaGreatDoorOpParseWalk
import Derived.Test.YtokpgopdkimmmaaGreatDoorBWrite
import Derived.Deep.RegionLaw
import Derived.Deep.RegionHeld3
import Derived.Test.YtokpgopdkimmmaaGreatDoorWords
import Derived.Laws.BytesArg
import Derived.Laws.Bits64b
/- ops.Bytes: its closure, that puts a number's bytes. -/
namespace Go.Proofs.YtokpgopdkimmmaaGreatDoor
open Go.RowKit
set_option linter.unusedVariables false
set_option linter.unusedSimpArgs false

/-- A number's last bytes, the greatest first. -/
def beN : Nat → Nat → List Nat
  | 0, _ => []
  | m + 1, n => n / 256 ^ m % 256 :: beN m n
theorem beN_len (n : Nat) : ∀ m, (beN m n).length = m
  | 0 => rfl
  | m + 1 => by rw [beN, List.length_cons, beN_len n m]
abbrev bval (n : Nat) : Value := .int .u8 (n : Int)
def bvals (l : List Nat) : List Value := l.map bval
theorem bvals_len (l : List Nat) : (bvals l).length = l.length := by simp [bvals]
theorem bvals_app (a b : List Nat) : bvals (a ++ b) = bvals a ++ bvals b := by simp [bvals]
theorem bvals_one : ∀ (l : List Nat), ∀ u ∈ bvals l, u.oneCell' = true := by
  intro l u hu
  obtain ⟨n, _, rfl⟩ := List.mem_map.1 hu
  rfl
/-- A slice of bytes that the call owns, in a box. -/
structure Bag (w : World) (B b : Nat) (l : List Nat) : Prop where
  low : B ≤ b
  box : ∃ v, Blk w b 26 #[v] ∧ w.ownsRow B 5 1 v l.length (bvals l)
theorem Bag.lt {w : World} {B b : Nat} {l : List Nat} (h : Bag w B b l) : b < w.heap.size := by obtain ⟨_, v, h, _⟩ := h; exact Blk.lt h
theorem bag_alloc {w : World} {B b : Nat} {l : List Nat} (h : Bag w B b l) (o : Obj) : Bag (w.alloc o) B b l := by
  obtain ⟨h0, v, h1, h2⟩ := h
  exact ⟨h0, v, h1.alloc o, h2.alloc o⟩
theorem bag_drew {w : World} {B b : Nat} {l : List Nat} (h : Bag w B b l) : Bag w.drew B b l := by
  obtain ⟨h0, v, h1, h2⟩ := h
  exact ⟨h0, v, h1.drew, h2.drew⟩
/-- What an append and the store of what it gave do to the box. -/
theorem bag_put {w w1 : World} {B b : Nat} {l : List Nat} {v v1 : Value} {x : List Nat} (hB : B ≤ b) (hb : Blk w b 26 #[v]) (ho : w.ownsRow B 5 1 v l.length (bvals l)) (ho1 : w1.ownsRow B 5 1 v1 (l.length + x.length) (bvals l ++ bvals x)) (hg : w.grownBy w1 v.ownBlock) :
    Bag (w1.setCell ⟨b, 0, none⟩ v1) B b (l ++ x) ∧ Below B w (w1.setCell ⟨b, 0, none⟩ v1) ∧ BSame 5 b w (w1.setCell ⟨b, 0, none⟩ v1) := by
  have hne := own_blk_ne ho hb (by decide)
  have hb1 : Blk w1 b 26 #[v] := hb.grown hg (fun e => hne e.symm)
  have hne1 := own_blk_ne ho1 hb1 (by decide)
  have hBw : B ≤ w.heap.size := Nat.le_of_lt (Nat.lt_of_le_of_lt hB hb.lt)
  refine ⟨⟨hB, v1, ?_, ?_⟩, ?_, ?_⟩
  · have := hb1.set_ 0 v1
    exact this
  · rw [List.length_append, bvals_app]
    exact ownsRow_setCell_other ho1 (a := ⟨b, 0, none⟩) hne1 v1
  · exact ((Below.refl B w).grown hg hBw (fun k hk => (ho.lt k hk).1)).setCell (p := ⟨b, 0, none⟩) hB _
  · exact ((BSame.refl _ _ w).grown hg (fun r hr => .inr (own_cells ho r hr))).grown (grown_setCell _ _ _ _) (fun r e => .inl (Option.some.inj e).symm)
end Go.Proofs.YtokpgopdkimmmaaGreatDoor
/- ops.Bytes: its closure, that puts a number's bytes: the walk. -/
namespace Go.Proofs.YtokpgopdkimmmaaGreatDoor
open Go.RowKit
set_option linter.unusedVariables false
set_option linter.unusedSimpArgs false

theorem infoU8 : (Tryz.prog.info? 5).map (fun i => (i.zero, i.size, i.bytes)) = some (some (.int .u8 0), 1, 1) := by kernel_rfl
theorem grown_tr {a b c : World} {row : Option Nat} (h : a.grownBy b row) (k : b.grownBy c row) : a.grownBy c row :=
  ⟨k.os.trans h.os, k.tape.trans h.tape, k.output.trans h.output, Nat.le_trans h.size k.size, fun i hi hr => (k.block i (Nat.lt_of_lt_of_le hi h.size) hr).trans (h.block i hi hr)⟩
theorem byte_of (n k : Nat) (hn : n < 18446744073709551616) (hk : k ≤ 8) : IntKind.u8.wrap ((n : Int) / 2 ^ (8 * (k : Int)).toNat) = ((n / 256 ^ k % 256 : Nat) : Int) := by
  have e1 : (8 * (k : Int)).toNat = 8 * k := by omega
  have e2 : (2 : Int) ^ (8 * k) = ((256 ^ k : Nat) : Int) := by rw [Int.pow_mul]; rw [Int.natCast_pow]; rfl
  rw [e1, e2, IntKind.wrap_u8]
  omega
theorem reads_new (w : World) (v : Value) (e : TypeId) : Reads (w.alloc (.cells #[v] e)).drew (w.heap.size + 1) 1 (some ⟨w.heap.size, 0, none⟩) 1 [v] :=
  ⟨rfl, fun _ => ⟨_, rfl, by simp, fun j u hu => by
    have hj : j = 0 := by have := (List.getElem?_eq_some_iff.1 hu).1; simp at this; omega
    subst hj
    simp at hu
    subst hu
    exact cells_at w #[v] e 0⟩⟩
set_option maxRecDepth 100000 in
set_option maxHeartbeats 4000000 in
theorem put_any (n m : Nat) (hn : n < 18446744073709551616) (hm : m ≤ 8) (B b : Nat) (l : List Nat) (hl : l.length ≤ 1000000) (w : World) (hb : Bag w B b l) :
    Calls Tryz.prog 30 #[.int .u64 (n : Int), .int .i64 (m : Int), .pointer (some ⟨b, 0, none⟩)] w fun e w' => e = .returned (.tuple #[]) ∧ Bag w' B b (l ++ beN m n) ∧ Below B w w' ∧ BSame 5 b w w' := by
  obtain ⟨i0, hi, hzz, hz1, hz2⟩ := info_parts infoU8
  have HB := Lib.hid hb
  clear hb
  go_enter Tryz.func30, Tryz.ntmps30
  go_wp2_with fail
  go_loopw [1] (fun i wr => ∃ (j : Nat) (d : List Nat), j ≤ m ∧ i = .int .i64 ((j : Int) - 1) ∧ Hid (d ++ beN j n = beN m n) ∧ d.length + j = m ∧ Hid (Bag wr B b (l ++ d)) ∧ Hid (Below B w wr) ∧ Hid (BSame 5 b w wr)) (fun i _ => (intOf i + 1).toNat)
  case atStart => exact ⟨m, [], Nat.le_refl _, rfl, Lib.hid rfl, by simp, Lib.hid (by rw [List.append_nil]; exact HB.out), Lib.hid (Below.refl _ _), Lib.hid (BSame.refl _ _ _)⟩
  case round =>
    obtain ⟨j, d, hj, rfl, HD, hdl, HG, HL, HS⟩ := hrel
    rcases Nat.eq_zero_or_pos j with h0 | h0
    · subst h0
      go_wp2_with fail
      refine bodyPost_end (v := .tuple #[]) (by simp [results, Tryz.results30, go_sem]) rfl ?_
      have h := HD.out
      rw [beN, List.append_nil] at h
      rw [← h]
      exact ⟨rfl, HG.out, HL.out, HS.out⟩
    · obtain ⟨k, rfl⟩ : ∃ k, j = k + 1 := ⟨j - 1, by omega⟩
      obtain ⟨hB, v, hb1, ho1⟩ := HG.out
      have hcell : wr.cell? ⟨b, 0, none⟩ = some v := hb1.cell 0
      have hfr : wr.frozen? ⟨b, 0, none⟩ = false := hb1.frozen 0
      have HB1 := Lib.hid hb1
      have HO1 := Lib.hid ho1
      clear hb1 ho1
      have hsub : ((k + 1 : Nat) : Int) - 1 = (k : Int) := by omega
      rw [hsub]
      go_wp2_with fail
      have HLV := Lib.hid HL.out.size
      have hBw : B ≤ wr.heap.size := Nat.le_of_lt (Nat.lt_of_le_of_lt hB HB1.out.lt)
      have h8 : IntKind.i64.wrap (8 * (k : Int)) = 8 * (k : Int) := by rw [IntKind.wrap_i64]; omega
      have hp : (0 : Int) ≤ 8 * (k : Int) := by omega
      have hp2 : (8 * (k : Int)) ≤ 64 := by omega
      have hcv := byte_of n k hn (by omega)
      have HNE := Lib.hid (show some b ≠ v.ownBlock from fun e => own_blk_ne HO1.out HB1.out (by decide) e.symm)
      have hlen : (l ++ d).length ≤ 1000008 := by rw [List.length_append]; omega
      have HFR := Lib.hid (show ∀ x t, ((wr.alloc (.cells #[x] t)).drew).frozen? ⟨b, 0, none⟩ = false from fun x t => Blk.frozen (Blk.drew (Blk.alloc HB1.out _)) 0)
      have HNW := Lib.hid (reads_new wr)
      have hc0 : ((wr.alloc (.cells #[.int .u8 ((n : Int) / 256 ^ k % 256)] 5)).drew).cell? ⟨b, 0, none⟩ = some v := Blk.cell (Blk.drew (Blk.alloc HB1.out _)) 0
      go_region_law
        ((refine step_append_any _ (by rfl) _ _ _ (by rfl) B 5 i0 (.int .u8 0) 1 1 Tryz.underlying26 hi hzz hz1 hz2 rfl (by omega) v (l ++ d).length (bvals (l ++ d)) (by rfl) ((HO1.out.alloc _).drew)
            (wr.heap.size + 1) (some ⟨wr.heap.size, 0, none⟩) 1 1 [.int .u8 ((n : Int) / 256 ^ k % 256)] (by rfl) (HNW.out _ _) (by simp [Value.oneCell']) (by unfold maxLen; omega) (by omega) (Nat.le_trans hBw (by simp)) ?_; intro v1 w1 hown1 hgrow hat; obtain ⟨a1, c1, rfl⟩ := own_shape hown1; have hc1 := Blk.cell (Blk.grown (Blk.drew (Blk.alloc HB1.out (.cells #[.int .u8 ((n : Int) / 256 ^ k % 256)] 5))) hgrow HNE.out) 0; have hf1 := Blk.frozen (Blk.grown (Blk.drew (Blk.alloc HB1.out (.cells #[.int .u8 ((n : Int) / 256 ^ k % 256)] 5))) hgrow HNE.out) 0))
      all_goals
        have hgr : wr.grownBy w1 v.ownBlock := grown_tr (only_drew (only_alloc (World.grownBy.refl wr _) _)) hgrow
        have hx : (Value.int .u8 ((n : Int) / 256 ^ k % 256)) = bval (n / 256 ^ k % 256) := by simp
        have hown2 : w1.ownsRow B 5 1 (.slice a1 ((l ++ d).length + 1) c1) ((l ++ d).length + [n / 256 ^ k % 256].length) (bvals (l ++ d) ++ bvals [n / 256 ^ k % 256]) := by rw [hx] at hown1; exact hown1
        have hP := bag_put hB HB1.out HO1.out hown2 hgr
        rw [List.length_append] at hP
        have HP := Lib.hid hP
        have HD2 := Lib.hid (show (d ++ [n / 256 ^ k % 256]) ++ beN k n = beN m n by rw [← HD.out, beN, List.append_assoc]; rfl)
        clear hP hown2 hx hown1 hgrow hat hgr hc1 hf1
        go_wp2_with fail
        go_roundw
        case rel => exact ⟨k, d ++ [n / 256 ^ k % 256], by omega, by go_num, HD2, by rw [List.length_append, List.length_singleton]; omega, Lib.hid (by rw [← List.append_assoc]; exact HP.out.1), Lib.hid (HL.out.trans HP.out.2.1), Lib.hid (HS.out.trans HP.out.2.2)⟩
        case measure => simp [intOf] <;> omega
end Go.Proofs.YtokpgopdkimmmaaGreatDoor
/- What Read reads of bytes: plain law. -/
namespace Go.Proofs.YtokpgopdkimmmaaGreatDoor
open Go.RowKit
set_option linter.unusedVariables false

/-- An int64 as an unsigned number. -/
def u64N (x : Int) : Nat := (x % 18446744073709551616).toNat
theorem u64N_lt (x : Int) : u64N x < 18446744073709551616 := by unfold u64N; omega
/-- An unsigned number as an int64. -/
def s64 (n : Nat) : Int := if n < 9223372036854775808 then (n : Int) else (n : Int) - 18446744073709551616
theorem s64_in (n : Nat) (h : n < 18446744073709551616) : In64 (s64 n) := by
  unfold s64 In64
  split <;> omega
theorem s64_u64N (x : Int) (h : In64 x) : s64 (u64N x) = x := by
  obtain ⟨h1, h2⟩ := h
  unfold s64 u64N
  split <;> omega
theorem u64N_s64 (n : Nat) (h : n < 18446744073709551616) : u64N (s64 n) = n := by
  unfold s64 u64N
  split <;> omega
def opBytes (o : OpV) : List Nat := o.k :: (beN 8 (u64N o.a) ++ (beN 8 (u64N o.b) ++ (beN 8 (u64N o.c) ++ (beN 8 (u64N o.d) ++ beN 4 o.id))))
def bytesL (ls : List OpV) : List Nat := ls.flatMap opBytes
theorem opBytes_len (o : OpV) : (opBytes o).length = 37 := by simp [opBytes, beN_len]
theorem bytesL_cons (o : OpV) (ls : List OpV) : bytesL (o :: ls) = opBytes o ++ bytesL ls := by unfold bytesL; rw [List.flatMap_cons]
theorem bytesL_snoc (ls : List OpV) (o : OpV) : bytesL (ls ++ [o]) = bytesL ls ++ opBytes o := by unfold bytesL; rw [List.flatMap_append]; simp
theorem bytesL_app (ls ms : List OpV) : bytesL (ls ++ ms) = bytesL ls ++ bytesL ms := by unfold bytesL; rw [List.flatMap_append]
theorem bytesL_len : ∀ ls : List OpV, (bytesL ls).length = 37 * ls.length
  | [] => rfl
  | o :: ls => by
    rw [bytesL_cons, List.length_append, opBytes_len, bytesL_len ls, List.length_cons]
    omega
def deF (a : Nat) (l : List Nat) : Nat := l.foldl (fun n x => n * 256 + x) a
def deN (l : List Nat) : Nat := deF 0 l
theorem deF_cons (a x : Nat) (l : List Nat) : deF a (x :: l) = deF (a * 256 + x) l := rfl
theorem deF_snoc (a x : Nat) (l : List Nat) : deF a (l ++ [x]) = deF a l * 256 + x := by unfold deF; rw [List.foldl_append]; rfl
theorem deF_beN (n : Nat) : ∀ m a, deF a (beN m n) = a * 256 ^ m + n % 256 ^ m
  | 0, a => by simp [beN, deF, Nat.mod_one]
  | m + 1, a => by
    rw [beN, deF_cons, deF_beN n m, Nat.mod_pow_succ, Nat.add_mul, Nat.pow_succ, Nat.mul_assoc, Nat.mul_comm 256 (256 ^ m), Nat.mul_comm (n / 256 ^ m % 256)]
    omega
theorem deN_beN (m n : Nat) (h : n < 256 ^ m) : deN (beN m n) = n := by
  unfold deN
  rw [deF_beN, Nat.zero_mul, Nat.zero_add, Nat.mod_eq_of_lt h]
theorem deF_add : ∀ (l : List Nat) (a : Nat), deF a l = a * 256 ^ l.length + deN l
  | [], a => by simp [deF, deN]
  | x :: l, a => by
    unfold deN
    rw [deF_cons, deF_cons, deF_add l, deF_add l (0 * 256 + x), List.length_cons, Nat.pow_succ, Nat.add_mul, Nat.zero_mul, Nat.zero_add, Nat.mul_comm (256 ^ l.length) 256, Nat.mul_assoc]
    omega
theorem deN_cons (x : Nat) (l : List Nat) : deN (x :: l) = x * 256 ^ l.length + deN l := by
  show deF (0 * 256 + x) l = _
  rw [deF_add, Nat.zero_mul, Nat.zero_add]
theorem deN_lt : ∀ l : List Nat, (∀ x ∈ l, x < 256) → deN l < 256 ^ l.length
  | [], _ => by simp [deN, deF]
  | x :: l, h => by
    have h1 := deN_lt l fun y hy => h y (List.mem_cons_of_mem _ hy)
    have h2 : x + 1 ≤ 256 := h x List.mem_cons_self
    rw [deN_cons, List.length_cons, Nat.pow_succ]
    have h3 : (x + 1) * 256 ^ l.length ≤ 256 * 256 ^ l.length := Nat.mul_le_mul_right _ h2
    rw [Nat.add_mul, Nat.one_mul] at h3
    rw [Nat.mul_comm (256 ^ l.length)]
    omega
theorem beN_mod : ∀ m a b, beN m (a * 256 ^ m + b) = beN m b
  | 0, _, _ => rfl
  | m + 1, a, b => by
    have e : a * 256 ^ (m + 1) + b = (a * 256) * 256 ^ m + b := by rw [Nat.pow_succ, Nat.mul_comm (256 ^ m), Nat.mul_assoc]
    rw [e, beN, beN, beN_mod m, Nat.mul_comm (a * 256), Nat.mul_add_div (Nat.pow_pos (by decide))]
    congr 1
    omega
theorem beN_deN : ∀ l : List Nat, (∀ x ∈ l, x < 256) → beN l.length (deN l) = l
  | [], _ => rfl
  | x :: l, h => by
    have hl : ∀ y ∈ l, y < 256 := fun y hy => h y (List.mem_cons_of_mem _ hy)
    have h1 := deN_lt l hl
    have hx := h x List.mem_cons_self
    rw [List.length_cons, beN, deN_cons, beN_mod, beN_deN l hl, Nat.mul_comm, Nat.mul_add_div (Nat.pow_pos (by decide)), Nat.div_eq_of_lt h1, Nat.add_zero, Nat.mod_eq_of_lt hx]
theorem deN_take_lt (l : List Nat) (m : Nat) (h : ∀ x ∈ l, x < 256) : deN (l.take m) < 256 ^ m :=
  Nat.lt_of_lt_of_le (deN_lt _ fun x hx => h x (List.mem_of_mem_take hx)) (Nat.pow_le_pow_right (by decide) (List.length_take_le _ _))
/-- The operation of 37 bytes. -/
def opOf (b : List Nat) : OpV where
  k := deN (b.take 1)
  a := s64 (deN ((b.drop 1).take 8))
  b := s64 (deN ((b.drop 9).take 8))
  c := s64 (deN ((b.drop 17).take 8))
  d := s64 (deN ((b.drop 25).take 8))
  id := deN ((b.drop 33).take 4)
def readN : Nat → List Nat → List OpV
  | 0, _ => []
  | k + 1, b => opOf b :: readN k (b.drop 37)
theorem readN_len : ∀ k b, (readN k b).length = k
  | 0, _ => rfl
  | k + 1, b => by rw [readN, List.length_cons, readN_len k]
theorem readN_snoc : ∀ k b, readN (k + 1) b = readN k b ++ [opOf (b.drop (37 * k))]
  | 0, b => by simp [readN]
  | k + 1, b => by
    rw [readN, readN_snoc k, readN, List.cons_append, List.drop_drop, show 37 + 37 * k = 37 * (k + 1) by omega]
theorem take_len_app {a b : List Nat} {n : Nat} (h : a.length = n) : (a ++ b).take n = a := by subst h; simp
theorem drop_len_app {a b : List Nat} {n : Nat} (h : a.length = n) : (a ++ b).drop n = b := by subst h; simp
theorem opOf_bytes (o : OpV) (ho : o.ok) (t : List Nat) : opOf (opBytes o ++ t) = o := by
  have e0 : opBytes o ++ t = [o.k] ++ (beN 8 (u64N o.a) ++ (beN 8 (u64N o.b) ++ (beN 8 (u64N o.c) ++ (beN 8 (u64N o.d) ++ (beN 4 o.id ++ t))))) := by
    unfold opBytes
    simp [List.append_assoc]
  have hb := beN_len
  have d1 : (opBytes o ++ t).drop 1 = beN 8 (u64N o.a) ++ (beN 8 (u64N o.b) ++ (beN 8 (u64N o.c) ++ (beN 8 (u64N o.d) ++ (beN 4 o.id ++ t)))) := by rw [e0]; rfl
  have d2 : (opBytes o ++ t).drop 9 = beN 8 (u64N o.b) ++ (beN 8 (u64N o.c) ++ (beN 8 (u64N o.d) ++ (beN 4 o.id ++ t))) := by
    rw [show 9 = 1 + 8 from rfl, ← List.drop_drop, d1, drop_len_app (hb _ _)]
  have d3 : (opBytes o ++ t).drop 17 = beN 8 (u64N o.c) ++ (beN 8 (u64N o.d) ++ (beN 4 o.id ++ t)) := by
    rw [show 17 = 9 + 8 from rfl, ← List.drop_drop, d2, drop_len_app (hb _ _)]
  have d4 : (opBytes o ++ t).drop 25 = beN 8 (u64N o.d) ++ (beN 4 o.id ++ t) := by
    rw [show 25 = 17 + 8 from rfl, ← List.drop_drop, d3, drop_len_app (hb _ _)]
  have d5 : (opBytes o ++ t).drop 33 = beN 4 o.id ++ t := by
    rw [show 33 = 25 + 8 from rfl, ← List.drop_drop, d4, drop_len_app (hb _ _)]
  have p8 : (18446744073709551616 : Nat) = 256 ^ 8 := by decide
  unfold opOf
  rw [d1, d2, d3, d4, d5, take_len_app (hb _ _), take_len_app (hb _ _), take_len_app (hb _ _), take_len_app (hb _ _), take_len_app (hb _ _), deN_beN _ _ (by rw [← p8]; exact u64N_lt _), deN_beN _ _ (by rw [← p8]; exact u64N_lt _), deN_beN _ _ (by rw [← p8]; exact u64N_lt _), deN_beN _ _ (by rw [← p8]; exact u64N_lt _), deN_beN 4 _ (by have := ho.id; simpa using this), s64_u64N _ ho.a, s64_u64N _ ho.b, s64_u64N _ ho.c, s64_u64N _ ho.d, e0]
  obtain ⟨k, a, b, c, d, i⟩ := o
  simp [deN, deF]
theorem readN_bytes : ∀ (ls : List OpV) (t : List Nat), (∀ o ∈ ls, o.ok) → readN ls.length (bytesL ls ++ t) = ls
  | [], _, _ => rfl
  | o :: ls, t, h => by
    rw [List.length_cons, readN, bytesL_cons, List.append_assoc, opOf_bytes o (h o List.mem_cons_self), drop_len_app (opBytes_len o), readN_bytes ls t fun x hx => h x (List.mem_cons_of_mem _ hx)]
theorem opOf_ok (b : List Nat) (h : ∀ x ∈ b, x < 256) : (opOf b).ok := by
  have p8 : (256 : Nat) ^ 8 = 18446744073709551616 := by decide
  have hd : ∀ n m, deN ((b.drop n).take m) < 256 ^ m := fun n m => deN_take_lt _ m fun x hx => h x (List.mem_of_mem_drop hx)
  refine ⟨?_, s64_in _ ?_, s64_in _ ?_, s64_in _ ?_, s64_in _ ?_, ?_⟩
  · have := deN_take_lt b 1 h
    simpa [opOf] using this
  · rw [← p8]; exact hd _ _
  · rw [← p8]; exact hd _ _
  · rw [← p8]; exact hd _ _
  · rw [← p8]; exact hd _ _
  · have := hd 33 4
    simpa [opOf] using this
theorem readN_ok : ∀ (k : Nat) (b : List Nat), (∀ x ∈ b, x < 256) → ∀ o ∈ readN k b, o.ok
  | 0, _, _ => by intro o ho; simp [readN] at ho
  | k + 1, b, h => by
    intro o ho
    rw [readN] at ho
    rcases List.mem_cons.1 ho with rfl | ho
    · exact opOf_ok b h
    · exact readN_ok k _ (fun x hx => h x (List.mem_of_mem_drop hx)) o ho
theorem beN_part (b : List Nat) (h : ∀ x ∈ b, x < 256) (n m : Nat) (hl : n + m ≤ b.length) : beN m (deN ((b.drop n).take m)) = (b.drop n).take m := by
  have e : ((b.drop n).take m).length = m := by rw [List.length_take, List.length_drop]; omega
  have := beN_deN ((b.drop n).take m) fun x hx => h x (List.mem_of_mem_drop (List.mem_of_mem_take hx))
  rw [e] at this
  exact this
theorem opBytes_of (b : List Nat) (h : ∀ x ∈ b, x < 256) (hl : 37 ≤ b.length) : opBytes (opOf b) = b.take 37 := by
  have p8 : (256 : Nat) ^ 8 = 18446744073709551616 := by decide
  have hd : ∀ n, deN ((b.drop n).take 8) < 18446744073709551616 := fun n => by rw [← p8]; exact deN_take_lt _ 8 fun x hx => h x (List.mem_of_mem_drop hx)
  have hk : deN (b.take 1) :: (b.drop 1).take 36 = b.take 37 := by
    cases b with
    | nil => simp at hl
    | cons x t => simp [deN, deF]
  have ht : ∀ n m, (b.drop n).take m ++ (b.drop (n + m)).take (36 + 1 - n - m) = (b.drop n).take (m + (36 + 1 - n - m)) := fun n m => by
    rw [List.take_add, List.drop_drop]
  unfold opBytes opOf
  simp only
  rw [u64N_s64 _ (hd _), u64N_s64 _ (hd _), u64N_s64 _ (hd _), u64N_s64 _ (hd _), beN_part b h 1 8 (by omega), beN_part b h 9 8 (by omega), beN_part b h 17 8 (by omega), beN_part b h 25 8 (by omega), beN_part b h 33 4 (by omega), ← hk]
  congr 1
  have h4 := ht 25 8
  have h3 := ht 17 8
  have h2 := ht 9 8
  have h1 := ht 1 8
  simp only [Nat.reduceAdd, Nat.reduceSub] at h1 h2 h3 h4
  rw [h4, h3, h2, h1]
theorem bytes_readN : ∀ (k : Nat) (b : List Nat), (∀ x ∈ b, x < 256) → b.length = 37 * k → bytesL (readN k b) = b
  | 0, b, _, hl => by rw [List.eq_nil_of_length_eq_zero (by omega : b.length = 0)]; rfl
  | k + 1, b, h, hl => by
    rw [readN, bytesL_cons, opBytes_of b h (by omega), bytes_readN k _ (fun x hx => h x (List.mem_of_mem_drop hx)) (by rw [List.length_drop]; omega), List.take_append_drop]
theorem opBytes_inj {o p : OpV} (ho : o.ok) (hp : p.ok) (h : opBytes o = opBytes p) : o = p := by
  have h1 := opOf_bytes o ho []
  rw [h, opOf_bytes p hp] at h1
  exact h1.symm
end Go.Proofs.YtokpgopdkimmmaaGreatDoor
/- ops.Bytes: the walk. -/
namespace Go.Proofs.YtokpgopdkimmmaaGreatDoor
open Go.RowKit
set_option linter.unusedVariables false
set_option linter.unusedSimpArgs false

theorem reads_new0 (w : World) (v : Value) (e : TypeId) : Reads (w.alloc (.cells #[v] e)) (w.heap.size + 1) 1 (some ⟨w.heap.size, 0, none⟩) 1 [v] := reads_new w v e
/-- A row of operations in memory. -/
def OpsAt (w : World) (g lo : Nat) (ls : List OpV) : Prop := ∀ (i : Nat) (o : OpV), ls[i]? = some o → ∀ j, j < 6 → w.cell? ⟨g, lo + i * 6 + j, none⟩ = o.cells[j]?
theorem OpsAt.keep {w w' : World} {g lo : Nat} {ls : List OpV} (h : OpsAt w g lo ls) (hk : ∀ p : Addr, p.block = g → w'.cell? p = w.cell? p) : OpsAt w' g lo ls := fun i o ho j hj => (hk _ rfl).trans (h i o ho j hj)
theorem rd_at {w : World} {g : Nat} (hg : g = w.heap.size) (v : Value) (e : TypeId) : Reads (w.alloc (.cells #[v] e)) (g + 1) 1 (some ⟨g, 0, none⟩) 1 [v] := by subst hg; exact reads_new w v e
/-- The bytes of the first numbers. -/
def numsB (o : OpV) (j : Nat) : List Nat := (List.range j).flatMap fun i => beN 8 (u64N (o.num i))
theorem numsB_succ (o : OpV) (j : Nat) : numsB o (j + 1) = numsB o j ++ beN 8 (u64N (o.num j)) := by unfold numsB; rw [List.range_succ, List.flatMap_append]; simp
theorem numsB_len (o : OpV) : ∀ j, (numsB o j).length = 8 * j
  | 0 => rfl
  | j + 1 => by rw [numsB_succ, List.length_append, numsB_len o j, beN_len]; omega
theorem opBytes_nums (o : OpV) : opBytes o = o.k :: (numsB o 4 ++ beN 4 o.id) := by simp [numsB, List.range_succ, opBytes, OpV.num, List.append_assoc]
theorem u64_wrap (x : Int) : IntKind.u64.wrap x = ((u64N x : Nat) : Int) := by rw [IntKind.wrap_u64]; unfold u64N; omega
theorem OpB.bsame {w w' : World} {b c : Nat} {o : OpV} (h : OpB w b o) (hs : BSame 5 c w w') (hne : b ≠ c) : OpB w' b o :=
  hs.2 b _ h hne (fun cs fr e => by
    injection e with _ e2
    exact absurd e2 (by decide))
set_option maxRecDepth 100000 in
set_option maxHeartbeats 4000000 in
theorem bytes_any (ls : List OpV) (hok : ∀ o ∈ ls, o.ok) (hl : ls.length ≤ 1000) (g lo cap : Nat) (w : World) (hg : g < w.heap.size) (ho : OpsAt w g lo ls) :
    Calls Tryz.prog 8 #[.slice (some ⟨g, lo, none⟩) ls.length cap] w fun e w' => ∃ v, e = .returned v ∧ w'.ownsRow w.heap.size 5 1 v (bytesL ls).length (bvals (bytesL ls)) ∧ Below w.heap.size w w' := by
  have HO := Lib.hid ho
  have HK := Lib.hid hok
  clear ho hok
  obtain ⟨i0, hi, hzz, hz1, hz2⟩ := info_parts infoU8
  go_enter Tryz.func8, Tryz.ntmps8
  go_wp2_with fail
  go_loopw [12] (fun i wr => ∃ k : Nat, k ≤ ls.length ∧ i = .int .i64 (k : Int) ∧ Hid (Bag wr w.heap.size w.heap.size (bytesL (ls.take k))) ∧ Hid (Below w.heap.size w wr)) (fun i _ => ls.length - (intOf i).toNat)
  case atStart =>
    refine ⟨0, Nat.zero_le _, rfl, Lib.hid ⟨Nat.le_refl _, .slice none 0 0, Blk.new w _ _, ?_⟩, Lib.hid ((Below.refl _ w).alloc (Nat.le_refl _) _)⟩
    exact World.ownsRow_nil _ _ _ _
  case round =>
    obtain ⟨k, hk, rfl, HG, HL⟩ := hrel
    obtain ⟨wo, rfl⟩ : ∃ wo : World, wo = wr := ⟨_, rfl⟩
    by_cases hlt : k < ls.length
    · obtain ⟨o, hoo⟩ : ∃ o, ls[k]? = some o := ⟨ls[k], List.getElem?_eq_getElem hlt⟩
      have hcs : ∀ j, j < 6 → wo.cell? ⟨g, lo + k * 6 + j, none⟩ = o.cells[j]? := fun j hj => (HL.out.cell (p := ⟨g, lo + k * 6 + j, none⟩) hg).trans (HO.out k o hoo j hj)
      have c0 : wo.cell? ⟨g, lo + k * 6, none⟩ = some (.int .u8 (o.k : Int)) := hcs 0 (by decide)
      have c1 : wo.cell? ⟨g, lo + k * 6 + 1, none⟩ = some (.int .i64 o.a) := hcs 1 (by decide)
      have c2 : wo.cell? ⟨g, lo + k * 6 + 2, none⟩ = some (.int .i64 o.b) := hcs 2 (by decide)
      have c3 : wo.cell? ⟨g, lo + k * 6 + 3, none⟩ = some (.int .i64 o.c) := hcs 3 (by decide)
      have c4 : wo.cell? ⟨g, lo + k * 6 + 4, none⟩ = some (.int .i64 o.d) := hcs 4 (by decide)
      have c5 : wo.cell? ⟨g, lo + k * 6 + 5, none⟩ = some (.int .u32 (o.id : Int)) := hcs 5 (by decide)
      have HOK := Lib.hid (HK.out o (List.mem_of_getElem? hoo))
      have HTK := Lib.hid (show ls.take (k + 1) = ls.take k ++ [o] by rw [List.take_add_one, hoo]; rfl)
      obtain ⟨_, v, hv, hown⟩ := HG.out
      obtain ⟨va, vc, rfl⟩ := own_shape hown
      have hbl : w.heap.size < wo.heap.size := hv.lt
      have HV := Lib.hid hv
      have HW := Lib.hid hown
      have HNE := Lib.hid (show some w.heap.size ≠ (Value.slice va (bytesL (ls.take k)).length vc).ownBlock from fun e => own_blk_ne hown hv (by decide) e.symm)
      have HNO := Lib.hid (show some wo.heap.size ≠ (Value.slice va (bytesL (ls.take k)).length vc).ownBlock from fun e => by have := (hown.lt _ e.symm).2; omega)
      have hbn : (bytesL (ls.take k)).length ≤ 37000 := by rw [bytesL_len, List.length_take]; omega
      have hcb : (wo.alloc (.cells o.cells 24)).cell? ⟨w.heap.size, 0, none⟩ = some (Value.slice va (bytesL (ls.take k)).length vc) := Blk.cell (Blk.alloc hv _) 0
      have hx2 : wo.heap.size < (wo.alloc (.cells o.cells 24)).heap.size := by simp
      clear hcs hoo hv hown
      go_wp2_with (at_builtin; refine wpList_append_any _ rfl (.tmp 16) (.tmp 19) 26 rfl w.heap.size 5 i0 (.int .u8 0) 1 1 Tryz.underlying26 hi hzz hz1 hz2 rfl (by decide) _ _ _ rfl ((HW.out.alloc _).alloc _) (wo.heap.size + 1 + 1) (some ⟨wo.heap.size + 1, 0, none⟩) 1 1 [.int .u8 (o.k : Int)] rfl (rd_at (by simp) _ _) (by intro u hu; simp at hu; subst hu; rfl) (by unfold maxLen; omega) (by omega) (by simp; omega) ?_)
      intro v1 w1 hown1 hgrow hat
      obtain ⟨a1, k1, rfl⟩ := own_shape hown1
      have hgr : wo.grownBy w1 (Value.slice va (bytesL (ls.take k)).length vc).ownBlock := grown_tr (only_alloc (only_alloc (World.grownBy.refl wo _) _) _) hgrow
      have hcb1 : w1.cell? ⟨w.heap.size, 0, none⟩ = some (Value.slice va (bytesL (ls.take k)).length vc) := Blk.cell (Blk.grown HV.out hgr HNE.out) 0
      have hfb1 : w1.frozen? ⟨w.heap.size, 0, none⟩ = false := Blk.frozen (Blk.grown HV.out hgr HNE.out) 0
      have HP := Lib.hid (bag_put (x := [o.k]) (Nat.le_refl _) HV.out HW.out hown1 hgr)
      have hbo1 : OpB w1 wo.heap.size o := Blk.grown (Blk.alloc (Blk.new wo _ _) _) hgrow HNO.out
      have hb6 : OpB (w1.setCell ⟨w.heap.size, 0, none⟩ (.slice a1 ((bytesL (ls.take k)).length + 1) k1)) wo.heap.size o := Blk.far hbo1 (fun e => by have : wo.heap.size = w.heap.size := e; omega) _
      have e1 : (w1.setCell ⟨w.heap.size, 0, none⟩ (.slice a1 ((bytesL (ls.take k)).length + 1) k1)).cell? ⟨wo.heap.size, 1, none⟩ = some (.int .i64 o.a) := Blk.cell hb6 1
      have e2 : (w1.setCell ⟨w.heap.size, 0, none⟩ (.slice a1 ((bytesL (ls.take k)).length + 1) k1)).cell? ⟨wo.heap.size, 2, none⟩ = some (.int .i64 o.b) := Blk.cell hb6 2
      have e3 : (w1.setCell ⟨w.heap.size, 0, none⟩ (.slice a1 ((bytesL (ls.take k)).length + 1) k1)).cell? ⟨wo.heap.size, 3, none⟩ = some (.int .i64 o.c) := Blk.cell hb6 3
      have e4 : (w1.setCell ⟨w.heap.size, 0, none⟩ (.slice a1 ((bytesL (ls.take k)).length + 1) k1)).cell? ⟨wo.heap.size, 4, none⟩ = some (.int .i64 o.d) := Blk.cell hb6 4
      have HO6 := Lib.hid hb6
      clear hown1 hgrow hat hgr hbo1 hb6 c0 c1 c2 c3 c4 c5 hcb HG HW HV HNE HNO
      go_wp2_with fail
      generalize w1.setCell ⟨w.heap.size, 0, none⟩ (.slice a1 ((bytesL (ls.take k)).length + 1) k1) = w2 at HP HO6 ⊢
      have HB2 := Lib.hid (HL.out.trans HP.out.2.1)
      have HG2 := Lib.hid (show Bag w2 w.heap.size w.heap.size (bytesL (ls.take k) ++ (o.k :: numsB o 0)) from HP.out.1)
      obtain ⟨bo, hbo⟩ : ∃ b, wo.heap.size = b := ⟨_, rfl⟩
      rw [hbo] at HO6 ⊢
      have hblo : w.heap.size < bo := by omega
      clear hcb1 hfb1 HP HL e1 e2 e3 e4 hbo hx2 hbl wo
      have HK30 := Lib.hid hk
      go_loopw [30] (fun jv wi => ∃ j : Nat, j ≤ 4 ∧ jv = .int .i64 (j : Int) ∧ Hid (Bag wi w.heap.size w.heap.size (bytesL (ls.take k) ++ (o.k :: numsB o j))) ∧ Hid (OpB wi bo o) ∧ Hid (Below w.heap.size w wi)) (fun jv _ => 4 - (intOf jv).toNat)
      case atStart => exact ⟨0, by decide, rfl, HG2, HO6, HB2⟩
      case round =>
        clear HG2 HO6 HB2
        obtain ⟨j, hj, rfl, HG, HOB, HB⟩ := hrel
        have hlj : (bytesL (ls.take k) ++ (o.k :: numsB o j)).length ≤ 37100 := by rw [List.length_append, List.length_cons, numsB_len]; omega
        by_cases hj4 : j < 4
        · have hix : ∀ w, (Instr.index 60 (.agg #[.int .i64 o.a, .int .i64 o.b, .int .i64 o.c, .int .i64 o.d]) (.int .i64 (j : Int))).run Tryz.prog w = .ok (.int .i64 (o.num j)) w := by
            rcases (show j = 0 ∨ j = 1 ∨ j = 2 ∨ j = 3 by omega) with rfl | rfl | rfl | rfl
            all_goals exact fun _ => by kernel_rfl
          have hcv := u64_wrap (o.num j)
          have hu := u64N_lt (o.num j)
          have HNS := Lib.hid (numsB_succ o j)
          go_wp2_with fail
          refine (put_any (u64N (o.num j)) 8 hu (by decide) w.heap.size w.heap.size _ (by omega) _ HG.out).mono ?_
          rintro e w3 ⟨rfl, hg3, hb3, hs3⟩
          have HG3 := Lib.hid hg3
          have HO3 := Lib.hid (HOB.out.bsame hs3 (by omega))
          have HB3 := Lib.hid (HB.out.trans hb3)
          clear hg3 hb3 hs3 HG HOB HB hix hcv
          go_wp2_with fail
          go_roundw
          case rel => exact ⟨j + 1, by omega, by go_num, Lib.hid (by rw [HNS.out]; have h := HG3.out; rw [List.append_assoc, List.cons_append] at h; exact h), HO3, HB3⟩
          case measure => simp [intOf] <;> omega
        · obtain rfl : j = 4 := by omega
          have c5 : wr.cell? ⟨bo, 5, none⟩ = some (.int .u32 (o.id : Int)) := Blk.cell HOB.out 5
          have hid := HOK.out.id
          go_wp2_with fail
          refine (put_any o.id 4 (by omega) (by decide) w.heap.size w.heap.size _ (by omega) _ HG.out).mono ?_
          rintro e w3 ⟨rfl, hg3, hb3, hs3⟩
          have HG3 := Lib.hid hg3
          have HB3 := Lib.hid (HB.out.trans hb3)
          clear hg3 hb3 hs3 HG HOB HB c5
          go_wp2_with fail
          go_roundw
          case rel => exact ⟨k + 1, by omega, by go_num, Lib.hid (by rw [HTK.out, bytesL_snoc, opBytes_nums]; have h := HG3.out; rw [List.append_assoc, List.cons_append] at h; exact h), HB3⟩
          case measure => simp [intOf] <;> omega
    · have hke : k = ls.length := by omega
      subst hke
      have HG2 := HG
      rw [List.take_length] at HG2
      obtain ⟨_, v, hv, hown⟩ := HG2.out
      have hc := hv.cell 0
      have HW := Lib.hid hown
      clear hown hv
      go_wp2_with fail
      go_ret
      exact ⟨v, rfl, HW.out, HL.out⟩
end Go.Proofs.YtokpgopdkimmmaaGreatDoor
/- Rows of records of some cells each: plain words for memory, no program. -/
namespace Go.Proofs.YtokpgopdkimmmaaGreatDoor
open Go.RowKit
set_option linter.unusedVariables false

section
variable {α : Type} {enc : α → Array Value} {k : Nat}
/-- All cells of a list of records. -/
def flatR (enc : α → Array Value) (xs : List α) : List Value := xs.flatMap fun x => (enc x).toList
theorem flatR_nil : flatR enc [] = [] := rfl
theorem flatR_cons (x : α) (xs : List α) : flatR enc (x :: xs) = (enc x).toList ++ flatR enc xs := by unfold flatR; rw [List.flatMap_cons]
theorem flatR_app (xs ys : List α) : flatR enc (xs ++ ys) = flatR enc xs ++ flatR enc ys := by unfold flatR; rw [List.flatMap_append]
theorem flatR_one (x : α) : flatR enc [x] = (enc x).toList := by simp [flatR]
theorem flatR_len (hk : ∀ x, (enc x).size = k) : ∀ xs : List α, (flatR enc xs).length = xs.length * k
  | [] => by simp [flatR]
  | x :: xs => by
    rw [flatR_cons, List.length_append, flatR_len hk xs, Array.length_toList, hk, List.length_cons, Nat.add_mul]
    omega
theorem flatR_at (hk : ∀ x, (enc x).size = k) : ∀ (xs : List α) (i j : Nat) (x : α), xs[i]? = some x → j < k → (flatR enc xs)[i * k + j]? = (enc x)[j]?
  | [], i, _, _, h, _ => by simp at h
  | y :: xs, i, j, x, h, hj => by
    have hl : (enc y).toList.length = k := by rw [Array.length_toList, hk]
    rw [flatR_cons]
    cases i with
    | zero =>
      have : y = x := by simpa using h
      subst this
      rw [Nat.zero_mul, Nat.zero_add, List.getElem?_append_left (by omega)]
      simp
    | succ i =>
      have e : (i + 1) * k + j - k = i * k + j := by rw [Nat.add_mul]; omega
      rw [List.getElem?_append_right (by rw [hl, Nat.add_mul]; omega), hl, e]
      exact flatR_at hk xs i j x (by simpa using h) hj
theorem flatR_ones (h1 : ∀ x, ∀ u ∈ (enc x).toList, u.oneCell' = true) (xs : List α) : ∀ u ∈ flatR enc xs, u.oneCell' = true := by
  intro u hu
  obtain ⟨x, _, h⟩ := List.mem_flatMap.1 hu
  exact h1 x u h

/-- Records in memory, from an address on. -/
def RecRow (w : World) (enc : α → Array Value) (k : Nat) (A : Option Addr) (xs : List α) : Prop :=
  xs = [] ∨ ∃ g lo, A = some ⟨g, lo, none⟩ ∧ g < w.heap.size ∧ ∀ (i : Nat) (x : α), xs[i]? = some x → ∀ j, j < k → w.cell? ⟨g, lo + i * k + j, none⟩ = (enc x)[j]?
theorem RecRow.nil (w : World) (A : Option Addr) : RecRow w enc k A [] := .inl rfl
theorem RecRow.keep {w w' : World} {A : Option Addr} {xs : List α} (h : RecRow w enc k A xs) (hs : w.heap.size ≤ w'.heap.size) (hk : ∀ p : Addr, (∀ a, A = some a → p.block = a.block) → p.block < w.heap.size → w'.cell? p = w.cell? p) : RecRow w' enc k A xs := by
  rcases h with h | ⟨g, lo, rfl, hg, h⟩
  · exact .inl h
  · exact .inr ⟨g, lo, rfl, Nat.lt_of_lt_of_le hg hs, fun i x hx j hj => (hk _ (fun a e => by injection e with e; rw [← e]) hg).trans (h i x hx j hj)⟩
theorem RecRow.later {w w' : World} {A : Option Addr} {xs : List α} (h : RecRow w enc k A xs) (hb : Below w.heap.size w w') : RecRow w' enc k A xs :=
  h.keep hb.size fun _ _ hp => hb.cell hp
/-- The blocks that a row lies in stay. -/
theorem RecRow.same {w w' : World} {A : Option Addr} {xs : List α} (h : RecRow w enc k A xs) (hs : w.heap.size ≤ w'.heap.size) (hb : ∀ a, A = some a → w'.heap[a.block]? = w.heap[a.block]?) : RecRow w' enc k A xs := by
  rcases h with h | ⟨g, lo, rfl, hg, h⟩
  · exact .inl h
  · exact .inr ⟨g, lo, rfl, Nat.lt_of_lt_of_le hg hs, fun i x hx j hj => (World.cell?_of_block (show w'.heap[(⟨g, lo + i * k + j, none⟩ : Addr).block]? = _ from hb ⟨g, lo, none⟩ rfl)).trans (h i x hx j hj)⟩
theorem RecRow.reads (hk : ∀ x, (enc x).size = k) {w : World} {A : Option Addr} {xs : List α} (h : RecRow w enc k A xs) : Reads w w.heap.size k A xs.length (flatR enc xs) := by
  refine ⟨flatR_len hk xs, fun hn => ?_⟩
  rcases h with h | ⟨g, lo, rfl, hg, h⟩
  · subst h; simp at hn
  · refine ⟨_, rfl, hg, fun j u hu => ?_⟩
    have hj : j < xs.length * k := by have := (List.getElem?_eq_some_iff.1 hu).1; rwa [flatR_len hk] at this
    have hk0 : 0 < k := by
      rcases Nat.eq_zero_or_pos k with h0 | h0
      · subst h0; simp at hj
      · exact h0
    have hi : j / k < xs.length := Nat.div_lt_of_lt_mul (by rw [Nat.mul_comm]; exact hj)
    have hm : j % k < k := Nat.mod_lt _ hk0
    have hd : j / k * k + j % k = j := by rw [Nat.mul_comm]; exact Nat.div_add_mod j k
    have hx : xs[j / k]? = some xs[j / k] := List.getElem?_eq_getElem hi
    have h1 := h (j / k) _ hx (j % k) hm
    rw [← flatR_at hk xs (j / k) (j % k) _ hx hm, hd, hu] at h1
    rw [show (⟨g, lo, none⟩ : Addr).add j = ⟨g, lo + (j / k * k) + j % k, none⟩ by rw [Nat.add_assoc, hd]; unfold Addr.add; split <;> simp_all]
    exact h1
theorem RecRow.of_reads (hk : ∀ x, (enc x).size = k) {w : World} {g lo B n : Nat} {xs : List α} (h : Reads w B k (some ⟨g, lo, none⟩) n (flatR enc xs)) (hB : B ≤ w.heap.size) (hn : n = xs.length) : RecRow w enc k (some ⟨g, lo, none⟩) xs := by
  subst hn
  rcases Nat.eq_zero_or_pos xs.length with h0 | h0
  · exact .inl (List.eq_nil_of_length_eq_zero h0)
  · obtain ⟨ad, e, hb, hc⟩ := h.2 h0
    injection e with e
    subst e
    refine .inr ⟨g, lo, rfl, Nat.lt_of_lt_of_le hb hB, fun i x hx j hj => ?_⟩
    have h1 := flatR_at hk xs i j x hx hj
    have h2 : (enc x)[j]? = some ((enc x)[j]'(by rw [hk]; exact hj)) := Array.getElem?_eq_getElem _
    rw [h2] at h1 ⊢
    have h3 := hc _ _ h1
    rw [← h3]
    congr 1
    unfold Addr.add
    split
    · rename_i hz; rw [show lo + i * k + j = lo by omega]
    · rw [Nat.add_assoc]
theorem RecRow.of_own (hk : ∀ x, (enc x).size = k) {w : World} {base : Nat} {e : TypeId} {A : Option Addr} {c n : Nat} {xs : List α} (h : w.ownsRow base e k (.slice A n c) n (flatR enc xs)) (hn : n = xs.length) : RecRow w enc k A xs := by
  rcases Nat.eq_zero_or_pos n with h0 | h0
  · exact .inl (List.eq_nil_of_length_eq_zero (by omega))
  · obtain ⟨g, cap, hv, _, _⟩ := h.form h0
    have hA : A = some ⟨g, 0, none⟩ := by injection hv
    subst hA
    exact RecRow.of_reads hk (Reads.of_own h) (Nat.le_refl _) hn
theorem RecRow.at_ {w : World} {A : Option Addr} {xs : List α} (h : RecRow w enc k A xs) {i : Nat} {x : α} (hx : xs[i]? = some x) : ∃ g lo, A = some ⟨g, lo, none⟩ ∧ g < w.heap.size ∧ ∀ j, j < k → w.cell? ⟨g, lo + i * k + j, none⟩ = (enc x)[j]? := by
  rcases h with h | ⟨g, lo, rfl, hg, h⟩
  · subst h; simp at hx
  · exact ⟨g, lo, rfl, hg, h i x hx⟩
/-- A whole block of records. -/
theorem RecRow.of_block (hk : ∀ x, (enc x).size = k) {w : World} {g : Nat} {e : TypeId} {fr : Nat × Nat} {cs : Array Value} {xs : List α} (h : w.heap[g]? = some (.cells cs e fr)) (hc : ∀ j, j < (flatR enc xs).length → cs[j]? = (flatR enc xs)[j]?) : RecRow w enc k (some ⟨g, 0, none⟩) xs := by
  refine .inr ⟨g, 0, rfl, (Array.getElem?_eq_some_iff.1 h).1, fun i x hx j hj => ?_⟩
  rw [cell_of_row w g _ cs e fr h, Nat.zero_add]
  have h1 := flatR_at hk xs i j x hx hj
  rw [← h1]
  have hi : i < xs.length := (List.getElem?_eq_some_iff.1 hx).1
  refine hc _ ?_
  rw [flatR_len hk]
  calc i * k + j < i * k + k := by omega
    _ = (i + 1) * k := by rw [Nat.add_mul, Nat.one_mul]
    _ ≤ xs.length * k := Nat.mul_le_mul_right _ hi
end
section
variable {α : Type} {enc : α → Array Value} {k : Nat}
theorem rec_add {W : World} {A : Option Addr} {xs : List α} (h : RecRow W enc k A xs) (m c : Nat) (hm : m ≤ xs.length) (hc : xs.length ≤ c) : RecRow W enc k (if c = m then A else A.map (·.add (m * k))) (xs.drop m) := by
  by_cases e : xs.drop m = []
  · exact .inl e
  · have hlt : m < xs.length := by
      rcases Nat.lt_or_ge m xs.length with h1 | h1
      · exact h1
      · exact absurd (List.drop_eq_nil_iff.2 h1) e
    rcases h with h | ⟨b, off, rfl, hb, h⟩
    · subst h; simp at hlt
    · rw [if_neg (by omega)]
      refine .inr ⟨b, off + m * k, ?_, hb, fun i x hx j hj => ?_⟩
      · simp only [Option.map_some]
        unfold Addr.add
        split
        · rename_i h0; rw [h0]; rfl
        · rfl
      · rw [List.getElem?_drop] at hx
        have h1 := h (m + i) x hx j hj
        rw [show off + m * k + i * k + j = off + (m + i) * k + j by rw [Nat.add_mul]; omega]
        exact h1
theorem cut_block {A : Option Addr} {m c k : Nat} {a' : Addr} (h : (if c = m then A else A.map (·.add (m * k))) = some a') : ∃ a, A = some a ∧ a'.block = a.block := by
  split at h
  · exact ⟨a', h, rfl⟩
  · cases A with
    | none => cases h
    | some a =>
      simp only [Option.map_some, Option.some.injEq] at h
      exact ⟨a, rfl, by rw [← h, block_of_add]⟩
/-- The first m are left out. -/
theorem rec_from {P : Program} {t e : TypeId} (ht : P.underlying t = some (.slice e)) (hs : ∀ w, (sizeOf e).run P w = .ok k w) (A : Option Addr) (n c m : Nat) (hm : m ≤ n) (hc : n ≤ c) :
    ∃ A', (∀ w, (Instr.sliceAt t (.slice A n c) (some (.int .i64 (m : Int))) none none).run P w = .ok (.slice A' (n - m) (c - m)) w) ∧ (∀ W (xs : List α), xs.length = n → RecRow W enc k A xs → RecRow W enc k A' (xs.drop m)) ∧ ∀ a', A' = some a' → ∃ a, A = some a ∧ a'.block = a.block := by
  have he : P.elem t = e := by unfold Program.elem; rw [ht]
  have ht' : P.underlying t = some (.slice (P.elem t)) := by rw [he]; exact ht
  refine ⟨if c = m then A else A.map (·.add (m * k)), fun w => ?_, fun W xs hl h => rec_add h m c (by omega) (by omega), fun a' h => cut_block h⟩
  rw [run_sliceAt_slice w t _ _ _ _ ht', run_slice_any w t A n c ht']
  simp [Instr.sliceBounds, run_sliceBound, he, hs, Result.andThen, sliced, hm]
theorem rec_take {W : World} {A : Option Addr} {xs : List α} (h : RecRow W enc k A xs) (m : Nat) : RecRow W enc k A (xs.take m) := by
  rcases h with h | ⟨b, off, rfl, hb, h⟩
  · subst h; exact .inl (by simp)
  · refine .inr ⟨b, off, rfl, hb, fun i x hx j hj => ?_⟩
    have hi : i < m := by have := (List.getElem?_eq_some_iff.1 hx).1; rw [List.length_take] at this; omega
    rw [List.getElem?_take_of_lt hi] at hx
    exact h i x hx j hj
/-- The first m alone. -/
theorem rec_to {P : Program} {t e : TypeId} (ht : P.underlying t = some (.slice e)) (hs : ∀ w, (sizeOf e).run P w = .ok k w) (A : Option Addr) (n c m : Nat) (hm : m ≤ n) (hc : n ≤ c) :
    ∃ A', (∀ w, (Instr.sliceAt t (.slice A n c) none (some (.int .i64 (m : Int))) none).run P w = .ok (.slice A' m c) w) ∧ (∀ W (xs : List α), xs.length = n → RecRow W enc k A xs → RecRow W enc k A' (xs.take m)) ∧ ∀ a', A' = some a' → ∃ a, A = some a ∧ a'.block = a.block := by
  have he : P.elem t = e := by unfold Program.elem; rw [ht]
  have ht' : P.underlying t = some (.slice (P.elem t)) := by rw [he]; exact ht
  refine ⟨if c = 0 then A else A.map (·.add (0 * k)), fun w => ?_, fun W xs hl h => ?_, fun a' h => cut_block h⟩
  · rw [run_sliceAt_slice w t _ _ _ _ ht', run_slice_any w t A n c ht']
    have hmc : (m : Int) ≤ c := by omega
    simp [Instr.sliceBounds, run_sliceBound, he, hs, Result.andThen, sliced, Nat.le_trans hm hc]
  · have h0 := rec_add h 0 c (Nat.zero_le _) (by omega)
    rw [List.drop_zero] at h0
    exact rec_take h0 m
end
/-- An empty slice that is made now. -/
theorem own_empty (w : World) (e : TypeId) (size : Nat) {B : Nat} (hB : B ≤ w.heap.size) : (w.alloc (.cells #[] e)).ownsRow B e size (.slice (some ⟨w.heap.size, 0, none⟩) 0 0) 0 [] :=
  ⟨by simp, .inr ⟨w.heap.size, 0, #[], rfl, hB, heap_alloc_new w _, Nat.le_refl _, by unfold maxLen; omega, by simp, by simp⟩⟩
end Go.Proofs.YtokpgopdkimmmaaGreatDoor
/- Rows of operations; ops.Bytes of whatever slice; bytes as a string. -/
namespace Go.Proofs.YtokpgopdkimmmaaGreatDoor
open Go.RowKit
set_option linter.unusedVariables false
set_option linter.unusedSimpArgs false

abbrev OpRow (w : World) (A : Option Addr) (ls : List OpV) : Prop := RecRow w OpV.cells 6 A ls
theorem opk : ∀ o : OpV, o.cells.size = 6 := fun _ => rfl
theorem op_ones : ∀ x : OpV, ∀ u ∈ x.cells.toList, u.oneCell' = true := by
  intro o u hu
  simp at hu
  rcases hu with rfl | rfl | rfl | rfl | rfl | rfl <;> rfl
set_option maxRecDepth 100000 in
set_option maxHeartbeats 1000000 in
theorem bytes_nil (A : Option Addr) (cap : Nat) (w : World) :
    Calls Tryz.prog 8 #[.slice A 0 cap] w fun e w' => ∃ v, e = .returned v ∧ w'.ownsRow w.heap.size 5 1 v 0 [] ∧ Below w.heap.size w w' := by
  go_enter Tryz.func8, Tryz.ntmps8
  go_wp2_with fail
  go_loopw [12] (fun i wr => i = .int .i64 0 ∧ wr = w.alloc (.cells #[.slice none 0 0] 26)) (fun _ _ => 0)
  case atStart => exact ⟨rfl, rfl⟩
  case round =>
    obtain ⟨rfl, rfl⟩ := hrel
    go_wp2_with fail
    go_ret
    exact ⟨_, rfl, World.ownsRow_nil _ _ _ _, (Below.refl _ w).alloc (Nat.le_refl _) _⟩
/-- The bytes of whatever operations. -/
theorem bytes_all (ls : List OpV) (hok : ∀ o ∈ ls, o.ok) (hl : ls.length ≤ 1000) (A : Option Addr) (cap : Nat) (w : World) (ho : OpRow w A ls) :
    Calls Tryz.prog 8 #[.slice A ls.length cap] w fun e w' => ∃ v, e = .returned v ∧ w'.ownsRow w.heap.size 5 1 v (bytesL ls).length (bvals (bytesL ls)) ∧ Below w.heap.size w w' := by
  rcases ho with rfl | ⟨g, lo, rfl, hg, h⟩
  · exact bytes_nil A cap w
  · exact bytes_any ls hok hl g lo cap w hg h
/-- Bytes as a string. -/
def strB (l : List Nat) : ByteArray := ⟨(l.map UInt8.ofNat).toArray⟩
theorem strB_size (l : List Nat) : (strB l).size = l.length := by simp [strB, ByteArray.size]
theorem strB_app (a b : List Nat) : strB a ++ strB b = strB (a ++ b) := by
  apply ByteArray.ext
  simp [strB]
theorem ofNat_inj {x y : Nat} (hx : x < 256) (hy : y < 256) (h : UInt8.ofNat x = UInt8.ofNat y) : x = y := by
  have := congrArg UInt8.toNat h
  simp only [UInt8.toNat_ofNat'] at this
  omega
theorem map_ofNat_inj : ∀ {a b : List Nat}, (∀ x ∈ a, x < 256) → (∀ x ∈ b, x < 256) → a.map UInt8.ofNat = b.map UInt8.ofNat → a = b
  | [], [], _, _, _ => rfl
  | [], _ :: _, _, _, h => by simp at h
  | _ :: _, [], _, _, h => by simp at h
  | x :: a, y :: b, ha, hb, h => by
    simp only [List.map_cons, List.cons.injEq] at h
    rw [ofNat_inj (ha x List.mem_cons_self) (hb y List.mem_cons_self) h.1, map_ofNat_inj (fun z hz => ha z (List.mem_cons_of_mem _ hz)) (fun z hz => hb z (List.mem_cons_of_mem _ hz)) h.2]
theorem strB_inj {a b : List Nat} (ha : ∀ x ∈ a, x < 256) (hb : ∀ x ∈ b, x < 256) (h : strB a = strB b) : a = b := by
  refine map_ofNat_inj ha hb ?_
  have := congrArg (fun s : ByteArray => s.data.toList) h
  simpa [strB] using this
theorem beN_lt (n : Nat) : ∀ m, ∀ x ∈ beN m n, x < 256
  | 0, _, h => by simp [beN] at h
  | m + 1, x, h => by
    rw [beN] at h
    rcases List.mem_cons.1 h with rfl | h
    · exact Nat.mod_lt _ (by decide)
    · exact beN_lt n m x h
theorem opBytes_lt (o : OpV) (h : o.ok) : ∀ x ∈ opBytes o, x < 256 := by
  intro x hx
  simp only [opBytes, List.mem_cons, List.mem_append] at hx
  rcases hx with rfl | hx | hx | hx | hx | hx
  · exact h.k
  all_goals exact beN_lt _ _ x hx
theorem bytesL_lt (ls : List OpV) (h : ∀ o ∈ ls, o.ok) : ∀ x ∈ bytesL ls, x < 256 := by
  intro x hx
  obtain ⟨o, ho, hx⟩ := List.mem_flatMap.1 hx
  exact opBytes_lt o (h o ho) x hx
/-- A row of bytes turned into a string. -/
theorem conv_own {P : Program} {w : World} {B : Nat} {v : Value} {l : List Nat} {src dst e : TypeId} (hs : P.underlying src = some (.slice e)) (he : P.underlying e = some (.int .u8)) (hd : P.underlying dst = some .string)
    (h : w.ownsRow B e 1 v l.length (bvals l)) : (convert src dst v).run P w = .ok (.string (strB l)) w := by
  rcases Nat.eq_zero_or_pos l.length with h0 | h0
  · have hl := List.eq_nil_of_length_eq_zero h0
    subst hl
    rcases h.2 with ⟨rfl, _⟩ | ⟨g, cap, cur, rfl, _⟩
    · exact run_convert_bytes_nil w src e hs he 0 0 dst hd
    · exact run_convert_bytes_arg w src e hs he g 0 0 cap [] rfl (fun i hi => absurd hi (Nat.not_lt_zero i)) dst hd
  · obtain ⟨g, cap, rfl, _, _⟩ := h.form h0
    rw [run_convert_bytes_arg w src e hs he g 0 l.length cap (l.map Int.ofNat) (by simp) (fun i hi => by
      have := h.cells (g := g) rfl i (.int .u8 ((l.map Int.ofNat).getD i 0)) (by simp [bvals, List.getElem?_map, List.getElem?_eq_getElem hi, List.getD, bval])
      unfold Addr.add at this
      split at this
      · rename_i hz; subst hz; exact this
      · exact this) dst hd]
    congr 2
    unfold strOfNums strB
    simp
theorem conv_bytes {w : World} {B : Nat} {v : Value} {l : List Nat} (h : w.ownsRow B 5 1 v l.length (bvals l)) : (convert 26 9 v).run Tryz.prog w = .ok (.string (strB l)) w :=
  conv_own Tryz.underlying26 Tryz.underlying5 Tryz.underlying9 h
end Go.Proofs.YtokpgopdkimmmaaGreatDoor
/- ops.take, ops.Read: the walks. -/
namespace Go.Proofs.YtokpgopdkimmmaaGreatDoor
open Go.RowKit
set_option linter.unusedVariables false
set_option linter.unusedSimpArgs false

def bcell (n : Nat) : Array Value := #[bval n]
theorem bcellk : ∀ n, (bcell n).size = 1 := fun _ => rfl
theorem sizeU8 : ∀ w, (sizeOf 5).run Tryz.prog w = .ok 1 w := fun w => by simp [go_sem]
theorem or_byte (n x : Nat) (hn : n < 72057594037927936) (hx : x < 256) : bits .or .u64 ((n : Int) * 256) (x : Int) = ((n * 256 + x : Nat) : Int) := by
  have h1 : (n : Int) * 256 = ((n * 256 : Nat) : Int) := by omega
  rw [h1, bits_or_u64_nat _ _ (by omega) (by omega)]
  have := Nat.shiftLeft_add_eq_or_of_lt (i := 8) (b := x) (by omega) n
  rw [Nat.shiftLeft_eq] at this
  rw [← this]
set_option maxRecDepth 100000 in
set_option maxHeartbeats 2000000 in
theorem take_any (b : Nat) (l : List Nat) (m : Nat) (hm : m ≤ 8) (hml : m ≤ l.length) (A : Option Addr) (cap : Nat) (hcap : l.length ≤ cap) (hmax : cap ≤ maxLen) (hl : ∀ x ∈ l, x < 256) (w : World) (hb : Blk w b 26 #[.slice A l.length cap]) (hr : RecRow w bcell 1 A l) :
    Calls Tryz.prog 45 #[.pointer (some ⟨b, 0, none⟩), .int .i64 (m : Int)] w fun e w' => e = .returned (.int .u64 (deN (l.take m) : Int)) ∧ ∃ A', w' = w.setCell ⟨b, 0, none⟩ (.slice A' (l.length - m) (cap - m)) ∧ ∀ W, RecRow W bcell 1 A l → RecRow W bcell 1 A' (l.drop m) := by
  obtain ⟨A1, c1, r1, _⟩ := rec_to (P := Tryz.prog) (enc := bcell) (k := 1) Tryz.underlying26 sizeU8 A l.length cap m hml hcap
  obtain ⟨A2, c2, r2, _⟩ := rec_from (P := Tryz.prog) (enc := bcell) (k := 1) Tryz.underlying26 sizeU8 A l.length cap m hml hcap
  have HR1 := Lib.hid (r1 w l rfl hr)
  have HR2 := Lib.hid r2
  have hc := hb.cell 0
  have hf := hb.frozen 0
  unfold maxLen at hmax
  clear r1 r2 hb hr
  go_enter Tryz.func45, Tryz.ntmps45
  go_wp2_with fail
  go_loopw [5, 14] (fun n i wr => wr = w ∧ ∃ k : Nat, k ≤ m ∧ i = .int .i64 (k : Int) ∧ n = .int .u64 (deN ((l.take m).take k) : Int)) (fun _ i _ => m - (intOf i).toNat)
  case atStart => exact ⟨rfl, 0, Nat.zero_le _, rfl, rfl⟩
  case round =>
    obtain ⟨rfl, k, hk, rfl, rfl⟩ := hrel
    by_cases hlt : k < m
    · have hlm : (l.take m).length = m := by rw [List.length_take]; omega
      obtain ⟨x, hx⟩ : ∃ x, (l.take m)[k]? = some x := ⟨_, List.getElem?_eq_getElem (by omega)⟩
      obtain ⟨g, lo, rfl, hg, hcell⟩ := HR1.out.at_ hx
      have hxc := hcell 0 (by decide)
      have hcx : wr.cell? ⟨g, lo + k, none⟩ = some (.int .u8 (x : Int)) := by
        rw [Nat.mul_one, Nat.add_zero] at hxc
        exact hxc
      have hx256 : x < 256 := hl x (List.mem_of_mem_take (List.mem_of_getElem? hx))
      have hn : deN ((l.take m).take k) < 72057594037927936 := by
        have h1 := deN_lt ((l.take m).take k) fun y hy => hl y (List.mem_of_mem_take (List.mem_of_mem_take hy))
        have h2 : ((l.take m).take k).length ≤ 7 := by rw [List.length_take]; omega
        have h3 : (256 : Nat) ^ ((l.take m).take k).length ≤ 256 ^ 7 := Nat.pow_le_pow_right (by decide) h2
        have h4 : (256 : Nat) ^ 7 = 72057594037927936 := by decide
        omega
      have HS := Lib.hid (show deN ((l.take m).take (k + 1)) = deN ((l.take m).take k) * 256 + x by
        rw [List.take_add_one, hx]
        exact deF_snoc 0 x _)
      have hor := or_byte (deN ((l.take m).take k)) x hn hx256
      obtain ⟨n, hnn⟩ : ∃ n, deN ((l.take m).take k) = n := ⟨_, rfl⟩
      rw [hnn] at HS hor hn ⊢
      clear hcell hx hxc hlm hnn HR2
      go_wp2_with fail
      refine ⟨⟨trivial, k + 1, by omega, by go_num, by rw [HS.out]; go_num⟩, by simp [intOf]; omega⟩
    · obtain rfl : k = m := by omega
      have HS := Lib.hid (show (l.take k).take k = l.take k by rw [List.take_of_length_le (by rw [List.length_take]; omega)])
      go_wp2_with fail
      go_ret
      exact ⟨by rw [HS.out]; rfl, A2, rfl, fun W h => HR2.out W l rfl h⟩
/-- What lies in memory while Read goes on. -/
structure RSt (w wr : World) (B0 : Nat) (done : List OpV) (ov : Value) (rest : List Nat) : Prop where
  box : ∃ A cap, Blk wr B0 26 #[.slice A rest.length cap] ∧ rest.length ≤ cap ∧ cap ≤ maxLen ∧ RecRow w bcell 1 A rest
  own : wr.ownsRow w.heap.size 24 6 ov done.length (flatR OpV.cells done)
  below : Below w.heap.size w wr
  lt : ∀ x ∈ rest, x < 256
  ge : w.heap.size ≤ B0
theorem RSt.lt0 {w wr : World} {B0 : Nat} {done : List OpV} {ov : Value} {rest : List Nat} (h : RSt w wr B0 done ov rest) : B0 < wr.heap.size := by obtain ⟨A, cap, hb, _⟩ := h.box; exact hb.lt
theorem RSt.alloc {w wr : World} {B0 : Nat} {done : List OpV} {ov : Value} {rest : List Nat} (h : RSt w wr B0 done ov rest) (o : Obj) : RSt w (wr.alloc o) B0 done ov rest := by
  obtain ⟨A, cap, hb, h1, h2, h3⟩ := h.box
  exact ⟨⟨A, cap, hb.alloc o, h1, h2, h3⟩, h.own.alloc o, h.below.alloc h.below.size o, h.lt, h.ge⟩
/-- A store into a block that is neither the box nor the operations'. -/
theorem RSt.set_ {w wr : World} {B0 : Nat} {done : List OpV} {ov : Value} {rest : List Nat} (h : RSt w wr B0 done ov rest) {b i : Nat} (hb : b ≠ B0) (hB : w.heap.size ≤ b) (ho : ov.ownBlock ≠ some b) (v : Value) : RSt w (wr.setCell ⟨b, i, none⟩ v) B0 done ov rest := by
  obtain ⟨A, cap, hbk, h1, h2, h3⟩ := h.box
  exact ⟨⟨A, cap, hbk.far (fun e => hb e.symm) v, h1, h2, h3⟩, ownsRow_setCell_other h.own (a := ⟨b, i, none⟩) ho v, h.below.setCell (p := ⟨b, i, none⟩) hB v, h.lt, h.ge⟩
theorem take_st (w wr : World) (B0 : Nat) (done : List OpV) (ov : Value) (rest : List Nat) (h : RSt w wr B0 done ov rest) (m : Nat) (hm : m ≤ 8) (hml : m ≤ rest.length) :
    Calls Tryz.prog 45 #[.pointer (some ⟨B0, 0, none⟩), .int .i64 (m : Int)] wr fun e w' => e = .returned (.int .u64 (deN (rest.take m) : Int)) ∧ RSt w w' B0 done ov (rest.drop m) ∧ w'.heap.size = wr.heap.size ∧ ∀ g, g ≠ B0 → w'.heap[g]? = wr.heap[g]? := by
  obtain ⟨A, cap, hb, h1, h2, h3⟩ := h.box
  refine (take_any B0 rest m hm hml A cap h1 h2 h.lt wr hb (h3.later h.below)).mono ?_
  rintro e w' ⟨rfl, A', rfl, hr⟩
  have hbs := hb.set_ 0 (.slice A' (rest.length - m) (cap - m))
  have hne := own_blk_ne h.own hb (by decide)
  refine ⟨rfl, ⟨⟨A', cap - m, ?_, ?_, ?_, hr w h3⟩, ownsRow_setCell_other h.own (a := ⟨B0, 0, none⟩) hne _, h.below.setCell (p := ⟨B0, 0, none⟩) h.ge _, fun x hx => h.lt x (List.mem_of_mem_drop hx), h.ge⟩, by simp [World.setCell], fun g hg => Below.heap_setCell _ _ _ g hg⟩
  · rw [List.length_drop]; exact hbs
  · rw [List.length_drop]; omega
  · omega
/-- One operation more. -/
theorem RSt.push {w wr w5 : World} {B0 : Nat} {done : List OpV} {ov v5 : Value} {rest : List Nat} {q : OpV} (h : RSt w wr B0 done ov rest) (hg : wr.grownBy w5 ov.ownBlock) (ho : w5.ownsRow w.heap.size 24 6 v5 (done.length + 1) (flatR OpV.cells done ++ q.cells.toList)) : RSt w w5 B0 (done ++ [q]) v5 rest := by
  obtain ⟨A, cap, hb, h1, h2, h3⟩ := h.box
  have hne := own_blk_ne h.own hb (by decide)
  exact ⟨⟨A, cap, hb.grown hg (fun e => hne e.symm), h1, h2, h3⟩, by rw [flatR_app, flatR_one, List.length_append]; exact ho, h.below.grown hg h.below.size (fun r hr => (h.own.lt r hr).1), h.lt, h.ge⟩
/-- One of the four numbers, laid anew. -/
def OpV.setN (o : OpV) (j : Nat) (x : Int) : OpV := if j = 0 then { o with a := x } else if j = 1 then { o with b := x } else if j = 2 then { o with c := x } else { o with d := x }
theorem setN_cells (o : OpV) (j : Nat) (hj : j < 4) (x : Int) : o.cells.setIfInBounds (1 + j) (.int .i64 x) = (o.setN j x).cells := by
  rcases (show j = 0 ∨ j = 1 ∨ j = 2 ∨ j = 3 by omega) with rfl | rfl | rfl | rfl <;> rfl
def pnums (b : List Nat) : Nat → OpV
  | 0 => codeOnly (deN (b.take 1))
  | j + 1 => (pnums b j).setN j (s64 (deN ((b.drop (1 + 8 * j)).take 8)))
theorem pnums_all (b : List Nat) : { pnums b 4 with id := deN ((b.drop 33).take 4) } = opOf b := rfl
theorem wrap64_s64 (n : Nat) (h : n < 18446744073709551616) : IntKind.i64.wrap (n : Int) = s64 n := by
  rw [IntKind.wrap_i64]; unfold s64; split <;> omega
set_option maxRecDepth 100000 in
set_option maxHeartbeats 1000000 in
theorem read_bad (l : List Nat) (A : Option Addr) (cap : Nat) (w : World) (hl : l.length ≤ 1000000) (hm : l.length % 37 ≠ 0) :
    Calls Tryz.prog 16 #[.slice A l.length cap] w fun e w' => e = .returned (.tuple #[.slice none 0 0, .int .i64 270]) ∧ Below w.heap.size w w' := by
  have ht : ((l.length : Int).tmod 37 == 0) = false := by
    rw [Int.tmod_eq_emod_of_nonneg (by omega)]
    simp; omega
  have ht2 : ((l.length : Int) % 37 == 0) = false := by simp; omega
  have hd : ¬ (l.length : Int) % 37 = 0 := by omega
  go_enter Tryz.func16, Tryz.ntmps16
  go_wp2_with fail
  go_ret2
  exact ⟨rfl, (Below.refl _ w).alloc (Nat.le_refl _) _⟩
theorem infoOp : (Tryz.prog.info? 24).map (fun i => (i.zero, i.size, i.bytes)) = some (some (codeOnly 0).val, 6, 48) := by kernel_rfl
set_option maxRecDepth 100000 in
set_option maxHeartbeats 4000000 in
theorem read_any (l : List Nat) (n : Nat) (A : Option Addr) (cap : Nat) (w : World) (hn : n ≤ 10000) (hln : l.length = 37 * n) (hcap : l.length ≤ cap) (hmax : cap ≤ maxLen) (hl : ∀ x ∈ l, x < 256) (hr : RecRow w bcell 1 A l) :
    Calls Tryz.prog 16 #[.slice A l.length cap] w fun e w' => ∃ v, e = .returned (.tuple #[v, .int .i64 0]) ∧ w'.ownsRow w.heap.size 24 6 v n (flatR OpV.cells (readN n l)) ∧ Below w.heap.size w w' := by
  obtain ⟨i0, hi, hzz, hz1, hz2⟩ := info_parts infoOp
  have hd : (l.length : Int) % 37 = 0 := by omega
  have hle : l.length ≤ 370000 := by omega
  have HS0 := Lib.hid (show RSt w (w.alloc (.cells #[.slice A l.length cap] 26)) w.heap.size [] (.slice none 0 0) l from
    ⟨⟨A, cap, Blk.new w _ _, hcap, hmax, hr⟩, World.ownsRow_nil _ _ _ _, (Below.refl _ w).alloc (Nat.le_refl _) _, hl, Nat.le_refl _⟩)
  have HLN := Lib.hid hln
  clear hln hr hl
  go_enter Tryz.func16, Tryz.ntmps16
  go_wp2_with fail
  clear hd
  go_loopg [4] n (fun gh ov wr => ∃ (g : Nat) (done : List OpV) (rest : List Nat) (oa : Option Addr) (oc : Nat), ov = .slice oa done.length oc ∧ Hid (gh = g) ∧ g ≤ n ∧ done.length + g = n ∧ rest.length = 37 * g ∧ Hid (RSt w wr w.heap.size done (.slice oa done.length oc) rest) ∧ Hid (done ++ readN g rest = readN n l))
  case atStart => exact ⟨n, [], l, none, 0, rfl, Lib.hid rfl, Nat.le_refl _, by simp, HLN.out, HS0, Lib.hid rfl⟩
  case round =>
    clear HS0 HLN
    obtain ⟨g, done, rest, oa, oc, rfl, HGH, hg, hdg, hrl, HS, HD⟩ := hrel
    obtain ⟨wo, rfl⟩ : ∃ wo : World, wo = wr := ⟨_, rfl⟩
    obtain ⟨A1, cap1, hbx, hc1, hm1, _⟩ := HS.out.box
    have hcb : wo.cell? ⟨w.heap.size, 0, none⟩ = some (.slice A1 rest.length cap1) := hbx.cell 0
    clear hbx
    rcases Nat.eq_zero_or_pos g with h0 | h0
    · subst h0
      have hz : rest.length = 0 := by omega
      have hzd : decide (0 < rest.length) = false := decide_eq_false (by omega)
      have hzd2 : decide ((0 : Int) < (rest.length : Int)) = false := decide_eq_false (by omega)
      have HDN := Lib.hid (show done = readN n l by have h := HD.out; rw [readN, List.append_nil] at h; exact h)
      have HN := Lib.hid (show done.length = n by omega)
      have HO := Lib.hid HS.out.own
      have HB := Lib.hid HS.out.below
      clear hz hrl
      go_wp2_with fail
      go_ret2
      exact ⟨_, rfl, by rw [← HDN.out, ← HN.out]; exact HO.out, HB.out⟩
    · have hpos : 0 < rest.length := by omega
      have h37 : 37 ≤ rest.length := by omega
      obtain ⟨k, rfl⟩ : ∃ k, g = k + 1 := ⟨g - 1, by omega⟩
      have HRL := Lib.hid hrl
      have HDG := Lib.hid hdg
      clear hrl hdg hm1 hc1
      go_wp2_with fail
      refine (take_st w wo w.heap.size done _ rest HS.out 1 (by decide) (by omega)).mono ?_
      rintro e w1 ⟨rfl, S1, hs1, hk1⟩
      have HK := Lib.hid (show deN (rest.take 1) < 256 from by have := deN_take_lt rest 1 HS.out.lt; simpa using this)
      have hk256 := HK.out
      have S1' := Lib.hid S1
      have hlt1 := S1.lt0
      clear hs1 hk1 S1 HS hcb
      go_wp2_with fail
      have HO5 := Lib.hid (show OpB ((w1.alloc (.cells (pnums rest 0).cells 24)).alloc (.cells #[.pointer (some ⟨w1.heap.size, 1, none⟩), .pointer (some ⟨w1.heap.size, 2, none⟩), .pointer (some ⟨w1.heap.size, 3, none⟩), .pointer (some ⟨w1.heap.size, 4, none⟩)] 87)) w1.heap.size (pnums rest 0) from Blk.alloc (Blk.new w1 _ _) _)
      have HP5 := Lib.hid (show Blk ((w1.alloc (.cells (pnums rest 0).cells 24)).alloc (.cells #[.pointer (some ⟨w1.heap.size, 1, none⟩), .pointer (some ⟨w1.heap.size, 2, none⟩), .pointer (some ⟨w1.heap.size, 3, none⟩), .pointer (some ⟨w1.heap.size, 4, none⟩)] 87)) (w1.heap.size + 1) 87 #[.pointer (some ⟨w1.heap.size, 1, none⟩), .pointer (some ⟨w1.heap.size, 2, none⟩), .pointer (some ⟨w1.heap.size, 3, none⟩), .pointer (some ⟨w1.heap.size, 4, none⟩)] by
        have h := Blk.new (w1.alloc (.cells (pnums rest 0).cells 24)) 87 #[.pointer (some ⟨w1.heap.size, 1, none⟩), .pointer (some ⟨w1.heap.size, 2, none⟩), .pointer (some ⟨w1.heap.size, 3, none⟩), .pointer (some ⟨w1.heap.size, 4, none⟩)]
        rw [World.size_alloc] at h
        exact h)
      have HS2 := Lib.hid ((S1'.out.alloc (.cells (pnums rest 0).cells 24)).alloc (.cells #[.pointer (some ⟨w1.heap.size, 1, none⟩), .pointer (some ⟨w1.heap.size, 2, none⟩), .pointer (some ⟨w1.heap.size, 3, none⟩), .pointer (some ⟨w1.heap.size, 4, none⟩)] 87))
      have HOV := Lib.hid (show (Value.slice oa done.length oc).ownBlock ≠ some w1.heap.size from fun h => by have := (S1'.out.own.lt _ h).2; omega)
      show Code.wp _ _ _ _ ((w1.alloc (.cells (pnums rest 0).cells 24)).alloc (.cells #[.pointer (some ⟨w1.heap.size, 1, none⟩), .pointer (some ⟨w1.heap.size, 2, none⟩), .pointer (some ⟨w1.heap.size, 3, none⟩), .pointer (some ⟨w1.heap.size, 4, none⟩)] 87))
      generalize (w1.alloc (.cells (pnums rest 0).cells 24)).alloc (.cells #[.pointer (some ⟨w1.heap.size, 1, none⟩), .pointer (some ⟨w1.heap.size, 2, none⟩), .pointer (some ⟨w1.heap.size, 3, none⟩), .pointer (some ⟨w1.heap.size, 4, none⟩)] 87) = W2 at HO5 HP5 HS2 ⊢
      obtain ⟨bo, hbo⟩ : ∃ b, w1.heap.size = b := ⟨_, rfl⟩
      rw [hbo] at HO5 HP5 HOV hlt1 ⊢
      have HGE := Lib.hid (show w.heap.size < bo from hlt1)
      clear hbo S1' hlt1 w1
      go_loopw [24] (fun jv wi => ∃ j : Nat, j ≤ 4 ∧ jv = .int .i64 (j : Int) ∧ Hid (RSt w wi w.heap.size done (.slice oa done.length oc) (rest.drop (1 + 8 * j))) ∧ Hid (OpB wi bo (pnums rest j)) ∧ Hid (Blk wi (bo + 1) 87 #[.pointer (some ⟨bo, 1, none⟩), .pointer (some ⟨bo, 2, none⟩), .pointer (some ⟨bo, 3, none⟩), .pointer (some ⟨bo, 4, none⟩)])) (fun jv _ => 4 - (intOf jv).toNat)
      case atStart => exact ⟨0, by decide, rfl, HS2, HO5, HP5⟩
      case round =>
        clear HS2 HO5 HP5
        obtain ⟨j, hj, rfl, HS, HO, HP⟩ := hrel
        by_cases hj4 : j < 4
        · have hlp := HP.out.cell j
          have hcp : wr.cell? ⟨bo + 1, j, none⟩ = some (.pointer (some ⟨bo, 1 + j, none⟩)) := by
            rw [hlp]
            rcases (show j = 0 ∨ j = 1 ∨ j = 2 ∨ j = 3 by omega) with rfl | rfl | rfl | rfl <;> rfl
          have hdl : 8 ≤ (rest.drop (1 + 8 * j)).length := by rw [List.length_drop]; omega
          clear hlp
          go_wp2_with fail
          refine (take_st w wr w.heap.size done _ (rest.drop (1 + 8 * j)) HS.out 8 (by decide) hdl).mono ?_
          rintro e w3 ⟨rfl, S3, hs3, hk3⟩
          have HO3 := Lib.hid (show OpB w3 bo (pnums rest j) from (hk3 bo (by have := HGE.out; omega)).trans HO.out)
          have HP3 := Lib.hid ((hk3 (bo + 1) (by have := HGE.out; omega)).trans HP.out)
          have hxx : deN ((rest.drop (1 + 8 * j)).take 8) < 18446744073709551616 := by
            have := deN_take_lt (rest.drop (1 + 8 * j)) 8 HS.out.lt
            have p8 : (256 : Nat) ^ 8 = 18446744073709551616 := by decide
            omega
          have hcv := wrap64_s64 _ hxx
          have h5l := Blk.lt HO3.out
          have h5f : w3.frozen? ⟨bo, 1 + j, none⟩ = false := Blk.frozen HO3.out _
          obtain ⟨c5, h5c⟩ : ∃ u, w3.cell? ⟨bo, 1 + j, none⟩ = some u := by
            rw [Blk.cell HO3.out]
            rcases (show j = 0 ∨ j = 1 ∨ j = 2 ∨ j = 3 by omega) with rfl | rfl | rfl | rfl <;> exact ⟨_, rfl⟩
          have HSB := Lib.hid (show RSt w (w3.setCell ⟨bo, 1 + j, none⟩ (.int .i64 (s64 (deN ((rest.drop (1 + 8 * j)).take 8))))) w.heap.size done (.slice oa done.length oc) (rest.drop (1 + 8 * (j + 1))) by
            have h := S3.set_ (b := bo) (i := 1 + j) (by have := HGE.out; omega) (by have := HGE.out; omega) HOV.out (.int .i64 (s64 (deN ((rest.drop (1 + 8 * j)).take 8))))
            rw [List.drop_drop] at h
            exact h)
          have HOB := Lib.hid (show OpB (w3.setCell ⟨bo, 1 + j, none⟩ (.int .i64 (s64 (deN ((rest.drop (1 + 8 * j)).take 8))))) bo (pnums rest (j + 1)) by
            have h := Blk.set_ HO3.out (1 + j) (.int .i64 (s64 (deN ((rest.drop (1 + 8 * j)).take 8))))
            rw [setN_cells _ j hj4] at h
            exact h)
          have HPB := Lib.hid (Blk.far HP3.out (p := ⟨bo, 1 + j, none⟩) (show bo + 1 ≠ bo by omega) (.int .i64 (s64 (deN ((rest.drop (1 + 8 * j)).take 8)))))
          generalize deN ((rest.drop (1 + 8 * j)).take 8) = N at hcv hxx HSB HOB HPB ⊢
          clear hs3 hk3 S3 HO3 HP3 HS HO HP hcp
          go_wp2_with fail
          go_roundw
          case rel => exact ⟨j + 1, by omega, by go_num, HSB, HOB, HPB⟩
          case measure => simp [intOf] <;> omega
        · obtain rfl : j = 4 := by omega
          have hdl : 4 ≤ (rest.drop (1 + 8 * 4)).length := by rw [List.length_drop]; omega
          go_wp2_with fail
          refine (take_st w wr w.heap.size done _ (rest.drop (1 + 8 * 4)) HS.out 4 (by decide) hdl).mono ?_
          rintro e w3 ⟨rfl, S3, hs3, hk3⟩
          have HO3 := Lib.hid (show OpB w3 bo (pnums rest 4) from (hk3 bo (by have := HGE.out; omega)).trans HO.out)
          have hxx : deN ((rest.drop (1 + 8 * 4)).take 4) < 4294967296 := by
            have := deN_take_lt (rest.drop (1 + 8 * 4)) 4 HS.out.lt
            simpa using this
          have h5l := Blk.lt HO3.out
          have h5f : w3.frozen? ⟨bo, 5, none⟩ = false := Blk.frozen HO3.out _
          have h5c : w3.cell? ⟨bo, 5, none⟩ = some (.int .u32 0) := Blk.cell HO3.out 5
          have HSB := Lib.hid (show RSt w (w3.setCell ⟨bo, 5, none⟩ (.int .u32 (deN ((rest.drop (1 + 8 * 4)).take 4) : Int))) w.heap.size done (.slice oa done.length oc) (rest.drop 37) by
            have h := S3.set_ (b := bo) (i := 5) (by have := HGE.out; omega) (by have := HGE.out; omega) HOV.out (.int .u32 (deN ((rest.drop (1 + 8 * 4)).take 4) : Int))
            rw [List.drop_drop] at h
            exact h)
          have hob : OpB (w3.setCell ⟨bo, 5, none⟩ (.int .u32 (deN ((rest.drop (1 + 8 * 4)).take 4) : Int))) bo (opOf rest) := Blk.set_ HO3.out 5 (.int .u32 (deN ((rest.drop (1 + 8 * 4)).take 4) : Int))
          obtain ⟨q, hq⟩ : ∃ q, opOf rest = q := ⟨_, rfl⟩
          rw [hq] at hob
          have HQ := Lib.hid hq
          have d0 : (w3.setCell ⟨bo, 5, none⟩ (.int .u32 (deN ((rest.drop (1 + 8 * 4)).take 4) : Int))).cell? ⟨bo, 0, none⟩ = some (.int .u8 (q.k : Int)) := Blk.cell hob 0
          have d1 : (w3.setCell ⟨bo, 5, none⟩ (.int .u32 (deN ((rest.drop (1 + 8 * 4)).take 4) : Int))).cell? ⟨bo, 1, none⟩ = some (.int .i64 q.a) := Blk.cell hob 1
          have d2 : (w3.setCell ⟨bo, 5, none⟩ (.int .u32 (deN ((rest.drop (1 + 8 * 4)).take 4) : Int))).cell? ⟨bo, 2, none⟩ = some (.int .i64 q.b) := Blk.cell hob 2
          have d3 : (w3.setCell ⟨bo, 5, none⟩ (.int .u32 (deN ((rest.drop (1 + 8 * 4)).take 4) : Int))).cell? ⟨bo, 3, none⟩ = some (.int .i64 q.c) := Blk.cell hob 3
          have d4 : (w3.setCell ⟨bo, 5, none⟩ (.int .u32 (deN ((rest.drop (1 + 8 * 4)).take 4) : Int))).cell? ⟨bo, 4, none⟩ = some (.int .i64 q.d) := Blk.cell hob 4
          have d5 : (w3.setCell ⟨bo, 5, none⟩ (.int .u32 (deN ((rest.drop (1 + 8 * 4)).take 4) : Int))).cell? ⟨bo, 5, none⟩ = some (.int .u32 (q.id : Int)) := Blk.cell hob 5
          clear hq hob
          generalize deN ((rest.drop (1 + 8 * 4)).take 4) = N at *
          clear hs3 hk3 S3 HO3 HS HO HP
          go_upto_region 12 with (fail)
          have HRN := Lib.hid (show readN (k + 1) rest = q :: readN k (rest.drop 37) by rw [readN, HQ.out])
          generalize w3.setCell ⟨bo, 5, none⟩ (.int .u32 (N : Int)) = w4 at HSB d0 d1 d2 d3 d4 d5 ⊢
          have hdone : done.length ≤ 10000 := by have := HDG.out; omega
          clear h5l h5f h5c hxx HQ
          go_wp2_with (at_builtin; refine wpList_append_any _ rfl (.tmp 36) (.tmp 38) 25 rfl w.heap.size 24 i0 (codeOnly 0).val 6 48 Tryz.underlying25 hi hzz hz1 hz2 rfl (by decide) _ _ _ rfl (HSB.out.own.alloc _) (w4.heap.size + 1) (some ⟨w4.heap.size, 0, none⟩) 1 1 q.cells.toList rfl (reads_cells w4 q.cells _ 1 6 rfl) (op_ones q) (by unfold maxLen; omega) (by omega) (by have := HSB.out.below.size; simp; omega) ?_)
          intro v5 w5 ho5 hg5 ha5
          obtain ⟨a5, k5, rfl⟩ := own_shape ho5
          have HS5 := Lib.hid (HSB.out.push (grown_tr (only_alloc (World.grownBy.refl w4 _) _) hg5) ho5)
          clear ho5 hg5 ha5 HSB d0 d1 d2 d3 d4 d5
          go_wp2_with fail
          go_roundg k
          case measure => rw [HGH.out]; omega
          case rel => exact ⟨k, done ++ [q], rest.drop 37, a5, k5, by rw [List.length_append, List.length_singleton], Lib.hid rfl, by omega, by have := HDG.out; rw [List.length_append, List.length_singleton]; omega, by have := HRL.out; rw [List.length_drop]; omega, Lib.hid (by rw [List.length_append, List.length_singleton]; exact HS5.out), Lib.hid (by rw [← HD.out, HRN.out, List.append_assoc]; rfl)⟩
end Go.Proofs.YtokpgopdkimmmaaGreatDoor
