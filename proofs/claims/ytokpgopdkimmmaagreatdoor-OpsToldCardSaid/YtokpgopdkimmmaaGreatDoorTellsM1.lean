import Derived.Test.YtokpgopdkimmmaaGreatDoorWords
import Derived.Test.YtokpgopdkimmmaaGreatDoorText
import Derived.Test.YtokpgopdkimmmaaGreatDoorWideCmp
import Derived.Test.YtokpgopdkimmmaaGreatDoorWideParse
import Derived.Test.YtokpgopdkimmmaaGreatDoorWide
import Derived.Test.YtokpgopdkimmmaaGreatDoorPieces
import Derived.IntWalk
/- Numbers as lists of bits: plain law. -/
namespace Go.Proofs.YtokpgopdkimmmaaGreatDoor
open Go.RowKit
set_option linter.unusedVariables false

/-- The lowest n bits of v, the lowest one first. -/
def bitsN : Nat → Nat → List Nat
  | 0, _ => []
  | n + 1, v => v % 2 :: bitsN n (v / 2)
theorem bitsN_len : ∀ (n v : Nat), (bitsN n v).length = n
  | 0, _ => rfl
  | n + 1, v => by rw [bitsN, List.length_cons, bitsN_len n]
theorem bitsN_one : ∀ (n v x : Nat), x ∈ bitsN n v → x ≤ 1
  | 0, _, x, h => by simp [bitsN] at h
  | n + 1, v, x, h => by
    rw [bitsN] at h
    rcases List.mem_cons.1 h with rfl | h
    · omega
    · exact bitsN_one n _ x h
theorem bitsN_get : ∀ (n v i : Nat) (h : i < n), (bitsN n v)[i]? = some (v / 2 ^ i % 2)
  | 0, _, i, h => by omega
  | n + 1, v, 0, h => by rw [bitsN]; simp
  | n + 1, v, i + 1, h => by
    rw [bitsN, List.getElem?_cons_succ, bitsN_get n (v / 2) i (by omega), Nat.div_div_eq_div_mul, Nat.pow_succ, Nat.mul_comm 2]
theorem bitsN_split : ∀ (m n v : Nat), bitsN (m + n) v = bitsN m v ++ bitsN n (v / 2 ^ m)
  | 0, n, v => by simp [bitsN]
  | m + 1, n, v => by
    rw [show m + 1 + n = (m + n) + 1 by omega, bitsN, bitsN_split m n (v / 2), bitsN, Nat.div_div_eq_div_mul, Nat.pow_succ, Nat.mul_comm 2]
    rfl
theorem bitsN_zero : ∀ n, bitsN n 0 = List.replicate n 0
  | 0 => rfl
  | n + 1 => by rw [bitsN, Nat.zero_div, bitsN_zero n]; rfl
theorem bitsN_take (m n v : Nat) (h : m ≤ n) : (bitsN n v).take m = bitsN m v := by
  obtain ⟨k, rfl⟩ : ∃ k, n = m + k := ⟨n - m, by omega⟩
  rw [bitsN_split, List.take_left' (bitsN_len m v)]
theorem bitsN_double (n v : Nat) : bitsN (n + 1) (2 * v) = 0 :: bitsN n v := by
  rw [bitsN, show 2 * v % 2 = 0 by omega, show 2 * v / 2 = v by omega]
/-- An element of a list that is a part and a rest of bits. -/
theorem getElem?_rest (pre : List Nat) (n v k : Nat) (hk : pre.length = k) (h : 0 < n) : (pre ++ bitsN n v)[k]? = some (v % 2) := by
  obtain ⟨m, rfl⟩ : ∃ m, n = m + 1 := ⟨n - 1, by omega⟩
  rw [List.getElem?_append_right (by omega), hk, Nat.sub_self, bitsN]
  rfl
theorem set_rest (pre : List Nat) (x : Nat) (l : List Nat) (k y : Nat) (hk : pre.length = k) : (pre ++ x :: l).set k y = (pre ++ [y]) ++ l := by
  rw [List.set_append_right _ _ (by omega), hk, Nat.sub_self]
  simp
theorem bitsN_pred {n v : Nat} (hv : 1 ≤ v) : bitsN (n + 1) (v - 1) = (if v % 2 = 0 then 1 else 0) :: bitsN n (if v % 2 = 0 then v / 2 - 1 else v / 2) := by
  rw [bitsN]
  by_cases h : v % 2 = 0
  · rw [if_pos h, if_pos h, show (v - 1) % 2 = 1 by omega, show (v - 1) / 2 = v / 2 - 1 by omega]
  · rw [if_neg h, if_neg h, show (v - 1) % 2 = 0 by omega, show (v - 1) / 2 = v / 2 by omega]
/-- The lowest bits, and one more. -/
theorem mod_bit (v k : Nat) : v % 2 ^ (k + 1) = v % 2 ^ k + 2 ^ k * (v / 2 ^ k % 2) := Nat.mod_pow_succ
theorem half_pow (v k : Nat) : v / 2 ^ (k + 1) = v / 2 ^ k / 2 := by rw [Nat.pow_succ, Nat.div_div_eq_div_mul]
end Go.Proofs.YtokpgopdkimmmaaGreatDoor
/- The chapter's examples (awake of layer 1). -/
namespace Go.Proofs.YtokpgopdkimmmaaGreatDoor
open Go.RowKit
set_option linter.unusedVariables false
set_option linter.unusedSimpArgs false

abbrev W2 (h l : Int) : Value := .agg #[.int .u64 h, .int .u64 l]
theorem wideV_of (h l : Nat) (hl : l < 18446744073709551616) : wideV (h * 18446744073709551616 + l) = .agg #[.int .u64 (h : Int), .int .u64 (l : Int)] := by
  unfold wideV
  rw [(wide_split (a := h * 18446744073709551616 + l) hl rfl).1, (wide_split (a := h * 18446744073709551616 + l) hl rfl).2]
theorem Tab64.later {w w' : World} (h : Lib.TabIs Tryz.prog w "internal/strconv.uint64pow10" .u64 Lib.pow10Tab) (hb : Below w.heap.size w w') : Lib.TabIs Tryz.prog w' "internal/strconv.uint64pow10" .u64 Lib.pow10Tab :=
  Go.Joins.tab_stays tab64 h hb (Nat.le_refl _)
theorem mul01 (w : World) : Calls Tryz.prog 158 #[.int .u64 18446744073709551615, .int .u64 18446744073709551615] w fun e w' => e = .returned (W2 18446744073709551614 1) ∧ Below w.heap.size w w' :=
  wmul_any 18446744073709551615 18446744073709551615 (by decide) (by decide) w
theorem of01 (w : World) : Calls Tryz.prog 164 #[.int .u64 1] w fun e w' => e = .returned (W2 0 1) ∧ Below w.heap.size w w' := wof_any 1 (by decide) w
theorem add01 (w : World) : Calls Tryz.prog 157 #[W2 18446744073709551615 18446744073709551615, W2 0 1] w fun e w' => e = .returned (.tuple #[W2 0 0, .bool false]) ∧ Below w.heap.size w w' :=
  wadd_any 340282366920938463463374607431768211455 1 (by decide) (by decide) w
theorem text01_val : textL 340282366920938463426481119284349108225 = [51, 52, 48, 50, 56, 50, 51, 54, 54, 57, 50, 48, 57, 51, 56, 52, 54, 51, 52, 50, 54, 52, 56, 49, 49, 49, 57, 50, 56, 52, 51, 52, 57, 49, 48, 56, 50, 50, 53] := by
  unfold textL
  decide +kernel
theorem text01 (w : World) (htab : Lib.TabIs Tryz.prog w "internal/strconv.uint64pow10" .u64 Lib.pow10Tab) : Calls Tryz.prog 42 #[W2 18446744073709551614 1] w fun e w' =>
    e = .returned (.string ⟨#[51, 52, 48, 50, 56, 50, 51, 54, 54, 57, 50, 48, 57, 51, 56, 52, 54, 51, 52, 50, 54, 52, 56, 49, 49, 49, 57, 50, 56, 52, 51, 52, 57, 49, 48, 56, 50, 50, 53]⟩) ∧ Below w.heap.size w w' := by
  have h := text_any 340282366920938463426481119284349108225 (by decide) w htab
  rw [text01_val] at h
  exact h
theorem same_quiet {P : Program} {f : FuncId} {args : Array Value} {v : Value} {W : World} {s : Since W} (h : ∀ w, Calls P f args w fun e w' => e = .returned v ∧ w = w') :
    Calls P f args s.w fun e w' => e = .returned v ∧ ∃ s' : Since W, w' = s'.w := (h s.w).mono fun _ w' ⟨he, hb⟩ => ⟨he, s, hb.symm⟩
theorem tab_quiet {P : Program} {f : FuncId} {args : Array Value} {v : Value} {W : World} {s : Since W} {T : World → Prop} (ht : T W) (hl : ∀ w', Below W.heap.size W w' → T w') (h : ∀ w, T w → Calls P f args w fun e w' => e = .returned v ∧ Below w.heap.size w w') :
    Calls P f args s.w fun e w' => e = .returned v ∧ ∃ s' : Since W, w' = s'.w :=
  (h s.w (hl _ s.h)).mono fun _ w' ⟨he, hb⟩ => ⟨he, ⟨w', bl s.h s.h.size hb⟩, rfl⟩
/-- A wide number in a box. -/
def WB (W : World) (b : Nat) (h l : Int) : Prop := b < W.heap.size ∧ W.cell? ⟨b, 0, none⟩ = some (.int .u64 h) ∧ W.cell? ⟨b, 1, none⟩ = some (.int .u64 l)
theorem WB.new (w : World) (h l : Int) (t : TypeId) : WB (w.alloc (.cells #[.int .u64 h, .int .u64 l] t)) w.heap.size h l := ⟨by simp, cells_at w _ t 0, cells_at w _ t 1⟩
theorem WB.later {W W' : World} {b : Nat} {h l : Int} (k : WB W b h l) (hb : Below W.heap.size W W') : WB W' b h l :=
  ⟨Nat.lt_of_lt_of_le k.1 hb.size, (hb.cell (p := ⟨b, 0, none⟩) k.1).trans k.2.1, (hb.cell (p := ⟨b, 1, none⟩) k.1).trans k.2.2⟩
theorem WB.alloc {W : World} {b : Nat} {h l : Int} (k : WB W b h l) (o : Obj) : WB (W.alloc o) b h l := k.later ((Below.refl _ _).alloc (Nat.le_refl _) o)
theorem bla {w0 w w1 : World} (h : Below w0.heap.size w0 w) (hb : Below w.heap.size w w1) (o : Obj) : Below w0.heap.size w0 (w1.alloc o) := (bl h h.size hb).alloc (Nat.le_trans h.size hb.size) o
def Strs (W : World) (g : Nat) : Prop := g < W.heap.size ∧ W.cell? ⟨g, 0, none⟩ = some (.string { data := #[51, 52, 48, 50, 56, 50, 51, 54, 54, 57, 50, 48, 57, 51, 56, 52, 54, 51, 52, 54, 51, 51, 55, 52, 54, 48, 55, 52, 51, 49, 55, 54, 56, 50, 49, 49, 52, 53, 54] }) ∧ W.cell? ⟨g, 1, none⟩ = some (.string { data := #[48, 48, 55] }) ∧ W.cell? ⟨g, 2, none⟩ = some (.string { data := #[] }) ∧ W.cell? ⟨g, 3, none⟩ = some (.string { data := #[45, 49] }) ∧ W.cell? ⟨g, 4, none⟩ = some (.string { data := #[49, 32] })
theorem Strs.new (w : World) (t : TypeId) : Strs (w.alloc (.cells #[.string { data := #[51, 52, 48, 50, 56, 50, 51, 54, 54, 57, 50, 48, 57, 51, 56, 52, 54, 51, 52, 54, 51, 51, 55, 52, 54, 48, 55, 52, 51, 49, 55, 54, 56, 50, 49, 49, 52, 53, 54] }, .string { data := #[48, 48, 55] }, .string { data := #[] }, .string { data := #[45, 49] }, .string { data := #[49, 32] }] t)) w.heap.size := ⟨by simp, cells_at w _ t 0, cells_at w _ t 1, cells_at w _ t 2, cells_at w _ t 3, cells_at w _ t 4⟩
theorem Strs.later {W W' : World} {g : Nat} (k : Strs W g) (hb : Below W.heap.size W W') : Strs W' g :=
  ⟨Nat.lt_of_lt_of_le k.1 hb.size, (hb.cell (p := ⟨g, 0, none⟩) k.1).trans k.2.1, (hb.cell (p := ⟨g, 1, none⟩) k.1).trans k.2.2.1, (hb.cell (p := ⟨g, 2, none⟩) k.1).trans k.2.2.2.1, (hb.cell (p := ⟨g, 3, none⟩) k.1).trans k.2.2.2.2.1, (hb.cell (p := ⟨g, 4, none⟩) k.1).trans k.2.2.2.2.2⟩
end Go.Proofs.YtokpgopdkimmmaaGreatDoor
/- The document's bits: Bits. -/
namespace Go.Proofs.YtokpgopdkimmmaaGreatDoor
open Go.RowKit
set_option linter.unusedVariables false
set_option linter.unusedSimpArgs false

def ints (l : List Nat) : List Value := l.map fun (n : Nat) => Value.int .i64 (n : Int)
theorem ints_len (l : List Nat) : (ints l).length = l.length := by unfold ints; rw [List.length_map]
theorem ints_get (l : List Nat) (i : Nat) : (ints l)[i]? = (l[i]?).map fun (n : Nat) => Value.int .i64 (n : Int) := by unfold ints; rw [List.getElem?_map]
theorem ints_set (l : List Nat) (i x : Nat) : (ints l).set i (.int .i64 (x : Int)) = ints (l.set i x) := by unfold ints; rw [List.map_set]
theorem made_ints (n : Nat) : madeCells #[.int .i64 0] n = (ints (List.replicate n 0)).toArray := by
  apply Array.toList_inj.1
  rw [toList_madeCells_one]
  unfold ints
  rw [List.map_replicate]
  rfl
/-- A block that holds a list of numbers. -/
def BlkI (w : World) (g : Nat) (l : List Nat) : Prop := Blk w g 3 (ints l).toArray
theorem BlkI.cell {w : World} {g : Nat} {l : List Nat} (h : BlkI w g l) (i x : Nat) (hx : l[i]? = some x) : w.cell? ⟨g, i, none⟩ = some (.int .i64 (x : Int)) := by
  rw [Blk.cell h, List.getElem?_toArray, ints_get, hx]; rfl
theorem BlkI.set {w : World} {g : Nat} {l : List Nat} (h : BlkI w g l) (i x : Nat) : BlkI (w.setCell ⟨g, i, none⟩ (.int .i64 (x : Int))) g (l.set i x) := by
  have k := Blk.set_ h i (.int .i64 (x : Int))
  unfold BlkI
  rw [← ints_set]
  simpa using k
theorem set_out (k : Nat) (n v x : Nat) (hk : k < n) (hx : v / 2 ^ k % 2 = x) : (bitsN k v ++ List.replicate (n - k) 0).set k x = bitsN (k + 1) v ++ List.replicate (n - (k + 1)) 0 := by
  rw [List.set_append_right _ _ (by rw [bitsN_len]; omega), bitsN_len, Nat.sub_self, show n - k = (n - (k + 1)) + 1 by omega, List.replicate_succ, List.set_cons_zero, bitsN_split k 1 v]
  simp [bitsN, hx]

/-- Half of the bits: the first k of both words. -/
def halves (k lo hi : Nat) : List Nat := (bitsN k lo ++ List.replicate (64 - k) 0) ++ (bitsN k hi ++ List.replicate (64 - k) 0)
theorem halves_zero (lo hi : Nat) : halves 0 lo hi = List.replicate 128 0 := by
  unfold halves
  simp [bitsN]
theorem halves_len1 (k lo : Nat) (hk : k ≤ 64) : (bitsN k lo ++ List.replicate (64 - k) 0).length = 64 := by
  rw [List.length_append, bitsN_len, List.length_replicate]; omega
theorem halves_set (k lo hi : Nat) (hk : k < 64) : ((halves k lo hi).set k (lo / 2 ^ k % 2)).set (64 + k) (hi / 2 ^ k % 2) = halves (k + 1) lo hi := by
  unfold halves
  rw [List.set_append_left _ _ (by rw [halves_len1 _ _ (by omega)]; omega), set_out k 64 lo _ hk rfl,
    List.set_append_right _ _ (by rw [halves_len1 _ _ (by omega)]; omega), halves_len1 _ _ (by omega), show 64 + k - 64 = k by omega, set_out k 64 hi _ hk rfl]
theorem halves_end (v : Nat) : halves 64 (v % 18446744073709551616) (v / 18446744073709551616) = bitsN 128 v := by
  unfold halves
  rw [show 64 - 64 = 0 from rfl, List.replicate_zero, List.append_nil, List.append_nil, bitsN_split 64 64 v]
  have : bitsN 64 (v % 18446744073709551616) = bitsN 64 v := by
    apply List.ext_getElem?
    intro i
    rcases Nat.lt_or_ge i 64 with h | h
    · rw [bitsN_get _ _ _ h, bitsN_get _ _ _ h]
      congr 1
      rw [show (18446744073709551616 : Nat) = 2 ^ i * (2 * 2 ^ (63 - i)) by
        rw [← Nat.pow_succ', ← Nat.pow_add, show i + (63 - i + 1) = 64 by omega], Nat.mod_mul_right_div_self]
      rw [Nat.mod_mul_right_mod]
    · rw [List.getElem?_eq_none (by rw [bitsN_len]; exact h), List.getElem?_eq_none (by rw [bitsN_len]; exact h)]
  rw [this]
theorem infoInt01 : (Tryz.prog.info? 3).map (fun i => (i.zero, i.size, i.bytes)) = some (some (.int .i64 0), 1, 8) := by kernel_rfl
theorem bit_int (n k : Nat) (hn : n < 18446744073709551616) : wrap64 (bits BinOp.and IntKind.u64 ((n : Int) / 2 ^ k) 1) = ((n / 2 ^ k % 2 : Nat) : Int) := by
  have h0 : (0 : Int) ≤ (n : Int) / 2 ^ k := Int.ediv_nonneg (by omega) (Int.le_of_lt (Int.pow_pos (by decide)))
  have e : (n : Int) / 2 ^ k = ((n / 2 ^ k : Nat) : Int) := by rw [Int.natCast_ediv, Int.natCast_pow]; rfl
  have h1 : n / 2 ^ k < 18446744073709551616 := Nat.lt_of_le_of_lt (Nat.div_le_self _ _) hn
  rw [e]
  generalize n / 2 ^ k = m at h1 ⊢
  rw [and_one_u64 _ (by omega) (by omega)]
  unfold wrap64
  omega
set_option maxRecDepth 100000 in
set_option maxHeartbeats 2000000 in
theorem bits_any (v : Nat) (hv : v < wTop) (w : World) : Calls Tryz.prog 84 #[wideV v] w fun e w' =>
    ∃ g, e = .returned (.slice (some ⟨g, 0, none⟩) 128 128) ∧ BlkI w' g (bitsN 128 v) ∧ w.heap.size ≤ g ∧ Below w.heap.size w w' := by
  have HE := Lib.hid (halves_end v)
  have hlo : v % 18446744073709551616 < 18446744073709551616 := Nat.mod_lt _ (by decide)
  have hhi : v / 18446744073709551616 < 18446744073709551616 := by unfold wTop at hv; omega
  unfold wideV
  generalize v % 18446744073709551616 = lo at HE hlo ⊢
  generalize v / 18446744073709551616 = hi at HE hhi ⊢
  obtain ⟨ib, hib, hbz, hb1, hb2⟩ := info_parts infoInt01
  have hmk := fun W => run_make_rowN (P := Tryz.prog) 137 3 ib (.int .i64 0) Tryz.underlying137 hib hbz .i64 .i64 128 128 (Nat.le_refl _) (by rw [hb2]; omega) (by omega) W
  rw [hb1] at hmk
  obtain ⟨Z, hZ⟩ : ∃ Z, (ints (List.replicate 128 0)).toArray = Z := ⟨_, rfl⟩
  have HZ := Lib.hid hZ
  have hmk' : ∀ W, (Instr.makeSlice 137 (.int .i64 128) (.int .i64 128)).run Tryz.prog W = .ok (.slice (some ⟨W.heap.size, 0, none⟩) 128 128) (W.alloc (.cells Z 3)) := fun W => by
    have h := hmk W
    rw [show 128 * 1 = 128 from rfl, show (Value.int .i64 0).cells = #[.int .i64 0] from rfl, made_ints, hZ] at h
    exact h
  clear hmk hb1 hb2 hbz hib hZ
  go_enter Tryz.func84, Tryz.ntmps84
  go_wp2_with fail
  obtain ⟨b1, hb1⟩ : ∃ b, w.heap.size = b := ⟨_, rfl⟩
  have HB := Lib.hid (((Below.refl w.heap.size w).alloc (Nat.le_refl _) (.cells #[.int .u64 (hi : Int), .int .u64 (lo : Int)] 31)).alloc (by simp) (.cells Z 3))
  have KB := Lib.hid (show WB ((w.alloc (.cells #[.int .u64 (hi : Int), .int .u64 (lo : Int)] 31)).alloc (.cells Z 3)) b1 hi lo by rw [← hb1]; exact (WB.new w hi lo _).alloc _)
  have KI := Lib.hid (show BlkI ((w.alloc (.cells #[.int .u64 (hi : Int), .int .u64 (lo : Int)] 31)).alloc (.cells Z 3)) (b1 + 1) (List.replicate 128 0) by rw [← hb1]; unfold BlkI; rw [HZ.out]; have h := Blk.new (w.alloc (.cells #[.int .u64 (hi : Int), .int .u64 (lo : Int)] 31)) 3 Z; rw [World.size_alloc] at h; exact h)
  rw [hb1]
  generalize (w.alloc (.cells #[.int .u64 (hi : Int), .int .u64 (lo : Int)] 31)).alloc (.cells Z 3) = V at HB KB KI ⊢
  clear hmk'
  have HG := Lib.hid (show w.heap.size ≤ b1 + 1 by omega)
  clear hb1
  go_loopw [4] (fun i wr => ∃ k : Nat, k ≤ 64 ∧ i = .int .i64 (k : Int) ∧ Hid (BlkI wr (b1 + 1) (halves k lo hi)) ∧ Hid (WB wr b1 hi lo) ∧ Hid (Below w.heap.size w wr)) (fun i _ => 64 - (intOf i).toNat)
  case atStart => exact ⟨0, by omega, rfl, Lib.hid (by rw [halves_zero]; exact KI.out), KB, HB⟩
  case round =>
    obtain ⟨k, hk, rfl, KI, KB, HB⟩ := hrel
    rcases Nat.lt_or_ge k 64 with h | h
    · obtain ⟨l1, c1, d1⟩ := KB.out
      have hlen : (halves k lo hi).length = 128 := by unfold halves; simp only [List.length_append, bitsN_len, List.length_replicate]; omega
      obtain ⟨y1, hy1⟩ : ∃ y, (halves k lo hi)[k]? = some y := ⟨_, List.getElem?_eq_getElem (by omega)⟩
      obtain ⟨y2, hy2⟩ : ∃ y, (halves k lo hi)[64 + k]? = some y := ⟨_, List.getElem?_eq_getElem (by omega)⟩
      have c2 := KI.out.cell k y1 hy1
      have c3 := KI.out.cell (64 + k) y2 hy2
      have f2 := Blk.frozen KI.out k
      have f3 := Blk.frozen KI.out (64 + k)
      clear hy1 hy2 hlen
      obtain ⟨x1, hx1⟩ : ∃ x, lo / 2 ^ k % 2 = x := ⟨_, rfl⟩
      obtain ⟨x2, hx2⟩ : ∃ x, hi / 2 ^ k % 2 = x := ⟨_, rfl⟩
      have e1 := bit_int lo k hlo
      have e2 := bit_int hi k hhi
      rw [hx1] at e1
      rw [hx2] at e2
      have HX1 := Lib.hid hx1
      have HX2 := Lib.hid hx2
      clear hx1 hx2
      go_wp2_with fail
      go_roundw
      case rel =>
        refine ⟨k + 1, by omega, rfl, Lib.hid ?_, Lib.hid ?_, Lib.hid ?_⟩
        · rw [← halves_set k lo hi h, HX1.out, HX2.out]
          exact (KI.out.set k x1).set (64 + k) x2
        · exact ⟨by have := KB.out.1; simpa using this, by
            rw [World.cell?_setCell_other _ _ _ _ (fun e => by cases e), World.cell?_setCell_other _ _ _ _ (fun e => by cases e)]; exact c1, by
            rw [World.cell?_setCell_other _ _ _ _ (fun e => by cases e), World.cell?_setCell_other _ _ _ _ (fun e => by cases e)]; exact d1⟩
        · exact (HB.out.setCell (p := ⟨b1 + 1, k, none⟩) HG.out _).setCell (p := ⟨b1 + 1, 64 + k, none⟩) HG.out _
      case measure => simp [intOf]; omega
    · go_wp2
      go_ret
      have : k = 64 := by omega
      subst this
      exact ⟨b1 + 1, rfl, by rw [← HE.out]; exact KI.out, HG.out, HB.out⟩
end Go.Proofs.YtokpgopdkimmmaaGreatDoor
/- The document's sums, order, differences and digits over lists of bits: plain law. -/
namespace Go.Proofs.YtokpgopdkimmmaaGreatDoor
set_option linter.unusedVariables false

def carryN (a b k : Nat) : Nat := (a % 2 ^ k + b % 2 ^ k) / 2 ^ k
theorem carry_step (a b k : Nat) : (a / 2 ^ k % 2 + b / 2 ^ k % 2 + carryN a b k) % 2 = (a + b) / 2 ^ k % 2 ∧ (a / 2 ^ k % 2 + b / 2 ^ k % 2 + carryN a b k) / 2 = carryN a b (k + 1) := by
  unfold carryN
  rw [Nat.mod_pow_succ (b := 2) (x := a), Nat.mod_pow_succ (b := 2) (x := b), Nat.pow_succ, ← Nat.div_div_eq_div_mul]
  have hp : 0 < 2 ^ k := Nat.pow_pos (by decide)
  generalize 2 ^ k = P at hp ⊢
  have ea := Nat.div_add_mod a P
  have eb := Nat.div_add_mod b P
  generalize a / P = A at ea ⊢
  generalize a % P = x at ea ⊢
  generalize b / P = B at eb ⊢
  generalize b % P = y at eb ⊢
  have e1 : a + b = (x + y) + P * (A + B) := by rw [← ea, ← eb, Nat.mul_add]; omega
  have e2 : x + P * (A % 2) + (y + P * (B % 2)) = (x + y) + P * (A % 2 + B % 2) := by rw [Nat.mul_add]; omega
  rw [e1, e2, Nat.add_mul_div_left _ _ hp, Nat.add_mul_div_left _ _ hp]
  omega
theorem carry_le (a b k : Nat) : carryN a b k ≤ 1 := by
  unfold carryN
  have hp : 0 < 2 ^ k := Nat.pow_pos (by decide)
  have h1 := Nat.mod_lt a hp
  have h2 := Nat.mod_lt b hp
  have : (a % 2 ^ k + b % 2 ^ k) / 2 ^ k < 2 := by
    rw [Nat.div_lt_iff_lt_mul hp]; omega
  omega
theorem sum_end (a b : Nat) (ha : a < 2 ^ 128) (hb : b < 2 ^ 128) : bitsN 128 (a + b) ++ [carryN a b 128] = bitsN 129 (a + b) := by
  rw [bitsN_split 128 1]
  unfold carryN
  rw [Nat.mod_eq_of_lt ha, Nat.mod_eq_of_lt hb]
  have : (a + b) / 2 ^ 128 % 2 = (a + b) / 2 ^ 128 := by omega
  simp only [bitsN, this]
theorem bitsN_snoc (k v : Nat) : bitsN (k + 1) v = bitsN k v ++ [v / 2 ^ k % 2] := by rw [bitsN_split k 1]; rfl
/-- The number of the first bits, word by word. -/
theorem num_low (v k : Nat) (hk : k < 64) (h1 : v / 2 ^ k % 2 = 1) : v % 2 ^ k + 2 ^ k = v % 2 ^ (k + 1) ∧ v % 2 ^ k + 2 ^ k < 18446744073709551616 := by
  have e := Nat.mod_pow_succ (b := 2) (k := k) (x := v)
  rw [h1, Nat.mul_one] at e
  refine ⟨e.symm, ?_⟩
  rw [← e]
  have h2 : v % 2 ^ (k + 1) < 2 ^ (k + 1) := Nat.mod_lt _ (Nat.pow_pos (by decide))
  have h3 : 2 ^ (k + 1) ≤ 2 ^ 64 := Nat.pow_le_pow_right (by decide) (by omega)
  omega
theorem num_none (v k : Nat) (h1 : v / 2 ^ k % 2 = 0) : v % 2 ^ k = v % 2 ^ (k + 1) := by
  rw [Nat.mod_pow_succ (b := 2) (k := k) (x := v), h1]; omega
theorem num_high (v k : Nat) (h64 : 64 ≤ k) (hk : k < 128) (h1 : v / 2 ^ k % 2 = 1) : v % 2 ^ k / 18446744073709551616 + 2 ^ (k - 64) = v % 2 ^ (k + 1) / 18446744073709551616 ∧ v % 2 ^ (k + 1) % 18446744073709551616 = v % 2 ^ k % 18446744073709551616 ∧ v % 2 ^ k / 18446744073709551616 + 2 ^ (k - 64) < 18446744073709551616 := by
  have e := Nat.mod_pow_succ (b := 2) (k := k) (x := v)
  rw [h1, Nat.mul_one] at e
  have ek : 2 ^ k = 18446744073709551616 * 2 ^ (k - 64) := by
    rw [show (18446744073709551616 : Nat) = 2 ^ 64 from rfl, ← Nat.pow_add]; congr 1; omega
  have h2 : v % 2 ^ k < 2 ^ k := Nat.mod_lt _ (Nat.pow_pos (by decide))
  have h3 : 2 ^ (k - 64) ≤ 2 ^ 63 := Nat.pow_le_pow_right (by decide) (by omega)
  rw [e]
  generalize v % 2 ^ k = u at *
  rw [ek] at h2 ⊢
  generalize 2 ^ (k - 64) = q at *
  omega
theorem num_top (v n : Nat) (hn : n ≤ 129) (hv : v < 2 ^ n) (h128 : 128 < n) : v / 2 ^ 128 % 2 = if v < 340282366920938463463374607431768211456 then 0 else 1 := by
  have : n = 129 := by omega
  subst this
  split <;> omega
theorem cmp_bit (a b i : Nat) (h : a / 2 ^ (i + 1) = b / 2 ^ (i + 1)) : (a / 2 ^ i % 2 = b / 2 ^ i % 2 → a / 2 ^ i = b / 2 ^ i) ∧ (a / 2 ^ i % 2 ≠ b / 2 ^ i % 2 → cmpNI a b = ((a / 2 ^ i % 2 : Nat) : Int) - ((b / 2 ^ i % 2 : Nat) : Int)) := by
  rw [half_pow, half_pow] at h
  refine ⟨fun g => by omega, fun g => ?_⟩
  have hp : 0 < 2 ^ i := Nat.pow_pos (by decide)
  have ea := Nat.div_add_mod a (2 ^ i)
  have eb := Nat.div_add_mod b (2 ^ i)
  have la := Nat.mod_lt a hp
  have lb := Nat.mod_lt b hp
  generalize 2 ^ i = P at *
  generalize a / P = A at *
  generalize b / P = B at *
  generalize a % P = x at *
  generalize b % P = y at *
  have hh : A = B + 1 ∨ B = A + 1 := by omega
  unfold cmpNI
  rcases hh with rfl | rfl
  · have : P * (B + 1) = P * B + P := by rw [Nat.mul_add, Nat.mul_one]
    rw [if_neg (by omega), if_pos (by omega)]
    omega
  · have : P * (A + 1) = P * A + P := by rw [Nat.mul_add, Nat.mul_one]
    rw [if_pos (by omega)]
    omega
/-- The bits from which b is taken, ahead of place i. -/
def SubOut (i a b : Nat) (l : List Nat) : Prop := ∃ pre u, pre.length = i ∧ l = pre ++ bitsN (128 - i) u ∧ u < 2 ^ (128 - i) ∧ b / 2 ^ i ≤ u ∧ u - b / 2 ^ i = (a - b) / 2 ^ i
/-- One is being taken from the next place that has one. -/
def SubIn (i k U : Nat) (l : List Nat) : Prop := ∃ pre mid t, pre.length = i + 1 ∧ mid.length = k - (i + 1) ∧ i + 1 ≤ k ∧ l = (pre ++ mid) ++ bitsN (128 - k) t ∧ 1 ≤ t ∧ t < 2 ^ (128 - k) ∧ mid ++ bitsN (128 - k) (t - 1) = bitsN (127 - i) (U - 1)
def SubFin (i U : Nat) (l : List Nat) : Prop := ∃ pre, pre.length = i + 1 ∧ l = pre ++ bitsN (127 - i) (U - 1)
theorem SubOut.start {a b : Nat} (ha : a < 2 ^ 128) (h : b ≤ a) : SubOut 0 a b (bitsN 128 a) := ⟨[], a, rfl, rfl, ha, by simpa using h, by simp⟩
theorem SubOut.at {i a b : Nat} {l : List Nat} (h : SubOut i a b l) (hi : i < 128) : ∃ x : Nat, l[i]? = some x ∧ x ≤ 1 ∧ l.length = 128 ∧
    (b / 2 ^ i % 2 ≤ x → SubOut (i + 1) a b l ∧ x - b / 2 ^ i % 2 = (a - b) / 2 ^ i % 2) ∧
    (x < b / 2 ^ i % 2 → x = 0 ∧ b / 2 ^ i % 2 = 1 ∧ (a - b) / 2 ^ i % 2 = 1 ∧ ∃ U, SubIn i (i + 1) U l ∧ ∀ l', SubFin i U l' → SubOut (i + 1) a b l') := by
  obtain ⟨pre, u, hp, rfl, hu, hb, hd⟩ := h
  have e : 128 - i = (127 - i) + 1 := by omega
  have e' : 128 - (i + 1) = 127 - i := by omega
  refine ⟨u % 2, getElem?_rest pre _ u i hp (by omega), by omega, by rw [List.length_append, bitsN_len, hp]; omega, fun h => ⟨⟨pre ++ [u % 2], u / 2, by simp [hp], ?_, ?_, ?_, ?_⟩, by omega⟩, fun h => ⟨by omega, by omega, by omega, u / 2, ?_, ?_⟩⟩
  · rw [e, bitsN, e']; simp
  · rw [e, Nat.pow_succ] at hu; rw [e']; omega
  · rw [half_pow]; omega
  · rw [half_pow, half_pow]; omega
  · refine ⟨pre ++ [u % 2], [], u / 2, by simp [hp], by simp, Nat.le_refl _, ?_, by generalize b / 2 ^ i = B at *; omega, ?_, ?_⟩
    · rw [e, bitsN, e']; simp
    · rw [e, Nat.pow_succ] at hu; rw [e']; omega
    · rw [e']; rfl
  · rintro l' ⟨pre', hp', rfl⟩
    refine ⟨pre', u / 2 - 1, hp', by rw [e'], ?_, ?_, ?_⟩
    · rw [e, Nat.pow_succ] at hu; rw [e']; omega
    · rw [half_pow]; omega
    · rw [half_pow, half_pow]; omega
theorem SubIn.at {i k U : Nat} {l : List Nat} (h : SubIn i k U l) : k < 128 ∧ ∃ x : Nat, l[k]? = some x ∧ x ≤ 1 ∧ (x = 0 → SubIn i (k + 1) U (l.set k 1)) ∧ (x = 1 → SubFin i U (l.set k 0)) := by
  obtain ⟨pre, mid, t, hp, hm, hk, rfl, ht, hu, hs⟩ := h
  have hk2 : k < 128 := by
    rcases Nat.lt_or_ge k 128 with h | h
    · exact h
    · rw [show 128 - k = 0 by omega] at hu; simp at hu; omega
  have hl : (pre ++ mid).length = k := by rw [List.length_append, hp, hm]; omega
  have e : 128 - k = (127 - k) + 1 := by omega
  have e' : 128 - (k + 1) = 127 - k := by omega
  refine ⟨hk2, t % 2, getElem?_rest _ _ t k hl (by omega), by omega, fun h => ?_, fun h => ?_⟩
  · refine ⟨pre, mid ++ [1], t / 2, hp, by rw [List.length_append, hm]; simp; omega, by omega, ?_, by omega, ?_, ?_⟩
    · rw [e, bitsN, set_rest _ _ _ _ _ hl, e']; simp
    · rw [e, Nat.pow_succ] at hu; rw [e']; omega
    · rw [← hs, e, bitsN_pred ht, if_pos h, if_pos h, e']; simp
  · refine ⟨pre, hp, ?_⟩
    rw [← hs, e, bitsN_pred ht, if_neg (by omega), if_neg (by omega), bitsN, set_rest _ _ _ _ _ hl]; simp
/-- Dividing by ten from the highest bit on: j bits are left. -/
def tenL (v j : Nat) : List Nat := bitsN j v ++ bitsN (128 - j) (v / 2 ^ j / 10)
theorem tenL_start (v : Nat) (hv : v < 2 ^ 128) : tenL v 128 = bitsN 128 v ∧ v / 2 ^ 128 % 10 = 0 ∧ v / 2 ^ 128 / 10 = 0 := by
  unfold tenL
  simp [Nat.div_eq_of_lt hv, bitsN]
theorem tenL_end (v : Nat) : tenL v 0 = bitsN 128 (v / 10) := by unfold tenL; simp [bitsN]
theorem tenL_len (v j : Nat) (hj : j ≤ 128) : (tenL v j).length = 128 := by unfold tenL; rw [List.length_append, bitsN_len, bitsN_len]; omega
theorem tenL_step (v i : Nat) (hi : i < 128) : (tenL v (i + 1))[i]? = some (v / 2 ^ i % 2) ∧
    (tenL v (i + 1)).set i ((v / 2 ^ (i + 1) % 10 * 2 + v / 2 ^ i % 2) / 10) = tenL v i ∧
    (v / 2 ^ (i + 1) % 10 * 2 + v / 2 ^ i % 2) % 10 = v / 2 ^ i % 10 ∧
    (0 < v / 2 ^ i / 10 ↔ 0 < v / 2 ^ (i + 1) / 10 ∨ 0 < (v / 2 ^ (i + 1) % 10 * 2 + v / 2 ^ i % 2) / 10) := by
  have hh := half_pow v i
  have ei : bitsN (i + 1) v = bitsN i v ++ [v / 2 ^ i % 2] := by rw [bitsN_split i 1]; rfl
  refine ⟨?_, ?_, by omega, by rw [hh]; generalize v / 2 ^ i = B; omega⟩
  · unfold tenL
    rw [List.getElem?_append_left (by rw [bitsN_len]; omega), bitsN_get _ _ _ (by omega)]
  · unfold tenL
    rw [List.set_append_left _ _ (by rw [bitsN_len]; omega), ei, List.set_append_right _ _ (by rw [bitsN_len]; omega), bitsN_len, Nat.sub_self, List.set_cons_zero,
      show 128 - i = (128 - (i + 1)) + 1 by omega, bitsN]
    rw [show v / 2 ^ i / 10 % 2 = (v / 2 ^ (i + 1) % 10 * 2 + v / 2 ^ i % 2) / 10 by omega, show v / 2 ^ i / 10 / 2 = v / 2 ^ (i + 1) / 10 by omega]
    simp
end Go.Proofs.YtokpgopdkimmmaaGreatDoor
/- The document's bits: Number. -/
namespace Go.Proofs.YtokpgopdkimmmaaGreatDoor
open Go.RowKit
set_option linter.unusedVariables false
set_option linter.unusedSimpArgs false

/-- A list of numbers from a block's first cell on. -/
def RowN (w : World) (g : Nat) (l : List Nat) : Prop := g < w.heap.size ∧ ∀ (k x : Nat), l[k]? = some x → w.cell? ⟨g, k, none⟩ = some (.int .i64 (x : Int))
theorem RowN.later {w w' : World} {g : Nat} {l : List Nat} (h : RowN w g l) (hb : Below w.heap.size w w') : RowN w' g l :=
  ⟨Nat.lt_of_lt_of_le h.1 hb.size, fun k x hx => (hb.cell (p := ⟨g, k, none⟩) h.1).trans (h.2 k x hx)⟩
theorem RowN.alloc {w : World} {g : Nat} {l : List Nat} (h : RowN w g l) (o : Obj) : RowN (w.alloc o) g l := h.later ((Below.refl _ _).alloc (Nat.le_refl _) o)
theorem RowN.of_blk {w : World} {g : Nat} {l : List Nat} (h : BlkI w g l) : RowN w g l := ⟨Blk.lt h, fun k x hx => h.cell k x hx⟩
theorem WB.frozenV {w : World} {b : Nat} {h l : Int} {t : TypeId} : World.frozen? (w.alloc (.cells #[.int .u64 h, .int .u64 l] t)) ⟨w.heap.size, 0, none⟩ = false := World.frozen?_alloc_new w _ t 0
/-- A wide number in a box of the call's own. -/
def WO (W : World) (b : Nat) (h l : Int) (t : TypeId) : Prop := Blk W b t #[.int .u64 h, .int .u64 l]
theorem WO.wb {W : World} {b : Nat} {h l : Int} {t : TypeId} (k : WO W b h l t) : WB W b h l := ⟨Blk.lt k, Blk.cell k 0, Blk.cell k 1⟩
theorem WO.hi {W : World} {b : Nat} {h l : Int} {t : TypeId} (k : WO W b h l t) (x : Int) : WO (W.setCell ⟨b, 0, none⟩ (.int .u64 x)) b x l t := by
  have := Blk.set_ k 0 (.int .u64 x)
  simpa [WO] using this
theorem WO.lo {W : World} {b : Nat} {h l : Int} {t : TypeId} (k : WO W b h l t) (x : Int) : WO (W.setCell ⟨b, 1, none⟩ (.int .u64 x)) b h x t := by
  have := Blk.set_ k 1 (.int .u64 x)
  simpa [WO] using this
theorem wrap_u64 (z : Int) : IntKind.u64.wrap z = z % 18446744073709551616 := rfl
theorem pow_int (k : Nat) : (2 : Int) ^ k = ((2 ^ k : Nat) : Int) := by rw [Int.natCast_pow]; rfl
theorem low_step (v k : Nat) (hk : k < 64) (h1 : v / 2 ^ k % 2 = 1) : IntKind.u64.wrap (((v % 2 ^ k % 18446744073709551616 : Nat) : Int) + IntKind.u64.wrap (2 ^ k)) = ((v % 2 ^ (k + 1) % 18446744073709551616 : Nat) : Int) ∧
    v % 2 ^ (k + 1) / 18446744073709551616 = v % 2 ^ k / 18446744073709551616 ∧ v % 2 ^ (k + 1) < wTop := by
  obtain ⟨e1, e2⟩ := num_low v k hk h1
  rw [wrap_u64, wrap_u64, pow_int, ← e1]
  unfold wTop
  generalize v % 2 ^ k = u at *
  generalize 2 ^ k = q at *
  omega
theorem high_step (v k : Nat) (h64 : 64 ≤ k) (hk : k < 128) (h1 : v / 2 ^ k % 2 = 1) : IntKind.u64.wrap (((v % 2 ^ k / 18446744073709551616 : Nat) : Int) + IntKind.u64.wrap (2 ^ (k - 64))) = ((v % 2 ^ (k + 1) / 18446744073709551616 : Nat) : Int) ∧
    v % 2 ^ (k + 1) % 18446744073709551616 = v % 2 ^ k % 18446744073709551616 ∧ v % 2 ^ (k + 1) < wTop := by
  obtain ⟨e1, e2, e3⟩ := num_high v k h64 hk h1
  rw [wrap_u64, wrap_u64, pow_int, e2, ← e1]
  unfold wTop
  generalize v % 2 ^ k = u at *
  generalize v % 2 ^ (k + 1) = t at *
  generalize 2 ^ (k - 64) = q at *
  omega
set_option maxRecDepth 100000 in
set_option maxHeartbeats 1000000 in
theorem number_any (n v cap g : Nat) (hn : n ≤ 129) (hv : v < 2 ^ n) (hc : n ≤ cap) (w : World) (hR : RowN w g (bitsN n v)) : Calls Tryz.prog 179 #[.slice (some ⟨g, 0, none⟩) n cap] w fun e w' =>
    e = .returned (.tuple #[wideV (if v < wTop then v else 0), .bool (decide (v < wTop))]) ∧ Below w.heap.size w w' := by
  have HR := Lib.hid hR
  have HV := Lib.hid hv
  clear hR hv
  go_enter Tryz.func179, Tryz.ntmps179
  go_wp2_with fail
  obtain ⟨b2, hb2⟩ : ∃ b, w.heap.size = b := ⟨_, rfl⟩
  have HB := Lib.hid (((Below.refl w.heap.size w).alloc (Nat.le_refl _) (.cells #[.int .u64 0, .int .u64 0] 31)).alloc (by simp) (.cells #[.int .u64 0, .int .u64 0] 31))
  have K2 := Lib.hid (show WO ((w.alloc (.cells #[.int .u64 0, .int .u64 0] 31)).alloc (.cells #[.int .u64 0, .int .u64 0] 31)) b2 0 0 31 by rw [← hb2]; exact (Blk.new w _ _).alloc _)
  have K4 := Lib.hid (show WO ((w.alloc (.cells #[.int .u64 0, .int .u64 0] 31)).alloc (.cells #[.int .u64 0, .int .u64 0] 31)) (b2 + 1) 0 0 31 by rw [← hb2]; have h := Blk.new (w.alloc (.cells #[.int .u64 0, .int .u64 0] 31)) 31 #[.int .u64 0, .int .u64 0]; rw [World.size_alloc] at h; exact h)
  have HG := Lib.hid (show w.heap.size ≤ b2 by omega)
  rw [hb2]
  generalize (w.alloc (.cells #[.int .u64 0, .int .u64 0] 31)).alloc (.cells #[.int .u64 0, .int .u64 0] 31) = V at HB K2 K4 ⊢
  clear hb2
  go_loopw [5] (fun i wr => ∃ k : Nat, k ≤ n ∧ i = .int .i64 (k : Int) ∧ Hid (v % 2 ^ k < wTop) ∧ Hid (WO wr (b2 + 1) ((v % 2 ^ k / 18446744073709551616 : Nat) : Int) ((v % 2 ^ k % 18446744073709551616 : Nat) : Int) 31) ∧ Hid (WO wr b2 0 0 31) ∧ Hid (Below w.heap.size w wr)) (fun i _ => n - (intOf i).toNat)
  case atStart => exact ⟨0, Nat.zero_le _, rfl, Lib.hid (by simp [Nat.mod_one]), Lib.hid (by simp [Nat.mod_one]; exact K4.out), K2, HB⟩
  case round =>
    obtain ⟨k, hk, rfl, HU, K4, K2, HB⟩ := hrel
    rcases Nat.lt_or_ge k n with h | h
    · have hcell := ((HR.out.later HB.out).2 k (v / 2 ^ k % 2) (bitsN_get n v k h))
      obtain ⟨x, hx⟩ : ∃ x, v / 2 ^ k % 2 = x := ⟨_, rfl⟩
      rw [hx] at hcell
      have hx2 : x = 0 ∨ x = 1 := by omega
      have HX := Lib.hid hx
      clear hx
      rcases hx2 with rfl | rfl
      · go_wp2_with fail
        go_roundw
        case rel =>
          have e := num_none v k HX.out
          exact ⟨k + 1, by omega, rfl, by rw [← e]; exact HU, by rw [← e]; exact K4, K2, HB⟩
        case measure => simp [intOf]; omega
      · obtain ⟨u1, hu1⟩ : ∃ u, v % 2 ^ k / 18446744073709551616 = u := ⟨_, rfl⟩
        obtain ⟨u2, hu2⟩ : ∃ u, v % 2 ^ k % 18446744073709551616 = u := ⟨_, rfl⟩
        rw [hu1, hu2] at K4
        have HU1 := Lib.hid hu1
        have HU2 := Lib.hid hu2
        obtain ⟨l4, c4, d4⟩ := K4.out.wb
        have f0 := Blk.frozen K4.out 0
        have f1 := Blk.frozen K4.out 1
        clear hu1 hu2
        rcases Nat.lt_or_ge k 64 with h64 | h64
        · go_wp2_with fail
          obtain ⟨s1, s2, s3⟩ := low_step v k h64 HX.out
          rw [HU2.out] at s1
          rw [HU1.out] at s2
          go_roundw
          case rel =>
            refine ⟨k + 1, by omega, rfl, Lib.hid s3, Lib.hid ?_, Lib.hid (Blk.far K2.out (p := ⟨b2 + 1, 1, none⟩) (by show b2 ≠ b2 + 1; omega) _), Lib.hid (HB.out.setCell (p := ⟨b2 + 1, 1, none⟩) (by have := HG.out; show w.heap.size ≤ b2 + 1; omega) _)⟩
            rw [s1, s2]
            exact K4.out.lo _
          case measure => simp [intOf]; omega
        · rcases Nat.lt_or_ge k 128 with h128 | h128
          · go_wp2_with fail
            obtain ⟨s1, s2, s3⟩ := high_step v k h64 h128 HX.out
            rw [HU1.out] at s1
            rw [HU2.out] at s2
            go_roundw
            case rel =>
              refine ⟨k + 1, by omega, rfl, Lib.hid s3, Lib.hid ?_, Lib.hid (Blk.far K2.out (p := ⟨b2 + 1, 0, none⟩) (by show b2 ≠ b2 + 1; omega) _), Lib.hid (HB.out.setCell (p := ⟨b2 + 1, 0, none⟩) (by have := HG.out; show w.heap.size ≤ b2 + 1; omega) _)⟩
              rw [s1, s2]
              exact K4.out.hi _
            case measure => simp [intOf]; omega
          · obtain ⟨l2, c2, d2⟩ := K2.out.wb
            have g0 := Blk.frozen K2.out 0
            have g1 := Blk.frozen K2.out 1
            have hx128 : Hid (¬ v < wTop) := Lib.hid (by
              have h1 := HX.out
              intro h2
              have : v / 2 ^ k = 0 := Nat.div_eq_of_lt (Nat.lt_of_lt_of_le h2 (show wTop ≤ 2 ^ k from Nat.le_trans (by decide : wTop ≤ 2 ^ 128) (Nat.pow_le_pow_right (by decide) h128)))
              rw [this] at h1
              omega)
            go_wp2_with fail
            simp [bodyPost, results, Tryz.results179, go_sem, c2, d2]
            exact ⟨rfl, (HB.out.setCell (p := ⟨b2, 0, none⟩) HG.out _).setCell (p := ⟨b2, 1, none⟩) HG.out _⟩
    · have hkn : k = n := by omega
      subst hkn
      obtain ⟨l2, c2, d2⟩ := K2.out.wb
      obtain ⟨l4, c4, d4⟩ := K4.out.wb
      have g0 := Blk.frozen K2.out 0
      have g1 := Blk.frozen K2.out 1
      have e := Nat.mod_eq_of_lt HV.out
      have HU' := Lib.hid (show v < wTop by rw [← e]; exact HU.out)
      rw [e] at c4 d4
      clear e
      go_wp2_with fail
      simp [bodyPost, results, Tryz.results179, go_sem, c2, d2]
      exact ⟨by simp [wideV], (HB.out.setCell (p := ⟨b2, 0, none⟩) HG.out _).setCell (p := ⟨b2, 1, none⟩) HG.out _⟩
end Go.Proofs.YtokpgopdkimmmaaGreatDoor
/- The document's bits: sum. -/
namespace Go.Proofs.YtokpgopdkimmmaaGreatDoor
open Go.RowKit
set_option linter.unusedVariables false
set_option linter.unusedSimpArgs false

/-- An own row of numbers lies in a block from its first cell on. -/
theorem row_of_own {w : World} {base n c : Nat} {A : Option Addr} {l : List Nat} (h : w.ownsRow base 3 1 (.slice A n c) n (ints l)) (hn : 0 < n) : ∃ g, A = some ⟨g, 0, none⟩ ∧ base ≤ g ∧ n ≤ c ∧ RowN w g l := by
  rcases h.2 with ⟨_, h2⟩ | ⟨g, cap, cur, h1, hg, hb, hc1, hc2, hsz, htk⟩
  · omega
  · simp only [Value.slice.injEq, true_and] at h1
    obtain ⟨rfl, rfl⟩ := h1
    refine ⟨g, rfl, hg, hc1, lt_of_heap hb, fun k x hx => ?_⟩
    have hk : (ints l)[k]? = some (.int .i64 (x : Int)) := by rw [ints_get, hx]; rfl
    have hkl : k < n * 1 := by
      have := (List.getElem?_eq_some_iff.1 hk).1
      have := h.1
      omega
    rw [← htk, List.getElem?_take, if_pos hkl, Array.getElem?_toList] at hk
    rw [cell_of_row w g k cur _ (0, 0) hb]
    exact hk
set_option maxRecDepth 100000 in
set_option maxHeartbeats 1000000 in
theorem sum_any (a b ga gb ca cb : Nat) (ha : a < 2 ^ 128) (hb : b < 2 ^ 128) (w : World) (hA : RowN w ga (bitsN 128 a)) (hB : RowN w gb (bitsN 128 b)) (hca : 128 ≤ ca) (hcb : 128 ≤ cb) :
    Calls Tryz.prog 180 #[.slice (some ⟨ga, 0, none⟩) 128 ca, .slice (some ⟨gb, 0, none⟩) 128 cb] w fun e w' =>
      ∃ g c, e = .returned (.slice (some ⟨g, 0, none⟩) 129 c) ∧ 129 ≤ c ∧ w.heap.size ≤ g ∧ RowN w' g (bitsN 129 (a + b)) ∧ Below w.heap.size w w' := by
  have RA := Lib.hid hA
  have RB := Lib.hid hB
  have HE := Lib.hid (sum_end a b ha hb)
  clear hA hB ha hb
  obtain ⟨i0, hi, hzz, hz1, hz2⟩ := info_parts infoInt01
  go_enter Tryz.func180, Tryz.ntmps180
  go_wp2_with fail
  go_loopw [5, 6, 7] (fun v cv iv wr => ∃ (k c cc : Nat) (A : Option Addr), k ≤ 128 ∧ cc ≤ 1 ∧ iv = .int .i64 (k : Int) ∧ cv = .int .i64 (cc : Int) ∧ v = .slice A k c ∧ Hid (cc = carryN a b k) ∧ Hid (wr.ownsRow w.heap.size 3 1 (.slice A k c) k (ints (bitsN k (a + b)))) ∧ Hid (Below w.heap.size w wr)) (fun _ _ i _ => 128 - (intOf i).toNat)
  case atStart => exact ⟨0, 0, 0, none, by omega, by omega, rfl, rfl, rfl, Lib.hid (by unfold carryN; simp [Nat.mod_one]), Lib.hid (World.ownsRow_nil _ _ _ _), Lib.hid (Below.refl _ _)⟩
  case round =>
    obtain ⟨k, c, cc, A, hk, hcc, rfl, rfl, rfl, HC, HO, HB⟩ := hrel
    rcases Nat.lt_or_ge k 128 with h | h
    · have c1 := ((RA.out.later HB.out).2 k (a / 2 ^ k % 2) (bitsN_get 128 a k h))
      have c2 := ((RB.out.later HB.out).2 k (b / 2 ^ k % 2) (bitsN_get 128 b k h))
      obtain ⟨st1, st2⟩ := carry_step a b k
      rw [← HC.out] at st1 st2
      obtain ⟨x, hx⟩ : ∃ x, a / 2 ^ k % 2 = x := ⟨_, rfl⟩
      obtain ⟨y, hy⟩ : ∃ y, b / 2 ^ k % 2 = y := ⟨_, rfl⟩
      rw [hx] at c1
      rw [hy] at c2
      rw [hx, hy] at st1 st2
      have hx2 : x ≤ 1 := by omega
      have hy2 : y ≤ 1 := by omega
      obtain ⟨t, ht⟩ : ∃ t, x + y + cc = t := ⟨_, rfl⟩
      obtain ⟨u, hu⟩ : ∃ u, x + y = u := ⟨_, rfl⟩
      rw [ht] at st1 st2
      have ht3 : t ≤ 3 := by omega
      have s1 : IntKind.i64.wrap ((x : Int) + y) = (u : Int) := by rw [IntWalk.i64_in _ (by omega)]; omega
      have s2 : IntKind.i64.wrap ((u : Int) + cc) = (t : Int) := by rw [IntWalk.i64_in _ (by omega)]; omega
      have S1 := Lib.hid st1
      have S2 := Lib.hid st2
      clear hx hy ht hu st1 st2
      obtain ⟨r, hr⟩ : ∃ r, t % 2 = r := ⟨_, rfl⟩
      obtain ⟨q, hq⟩ : ∃ q, t / 2 = q := ⟨_, rfl⟩
      have HRR := Lib.hid (show r = (a + b) / 2 ^ k % 2 by rw [← hr]; exact S1.out)
      have HQ := Lib.hid (show q = carryN a b (k + 1) by rw [← hq]; exact S2.out)
      have hq1 : q ≤ 1 := by omega
      have er : (t : Int).tmod 2 = (r : Int) := by rw [Int.tmod_eq_emod_of_nonneg (by omega)]; omega
      have eq : (t : Int).tdiv 2 = (q : Int) := by rw [Int.tdiv_eq_ediv_of_nonneg (by omega)]; omega
      have er' : (t : Int) % 2 = (r : Int) := by omega
      have eq' : (t : Int) / 2 = (q : Int) := by omega
      have HCC := Lib.hid hq1
      clear hr hq hx2 hy2 S1 S2
      go_wp2_with fail
      go_quiet (fail)
      have HO1 := Lib.hid (show (wr.drewN nq).ownsRow w.heap.size 3 1 (.slice A k c) k (ints (bitsN k (a + b))) from HO.out)
      have HB1 := Lib.hid (below_drewN' HB.out nq)
      generalize wr.drewN nq = W1 at HO1 HB1 ⊢
      clear HO HB
      go_wp2_with (at_builtin; refine wpList_append_any _ rfl (.tmp 26) (.tmp 29) 137 rfl w.heap.size 3 i0 (.int .i64 0) 1 8 Tryz.underlying137 hi hzz hz1 hz2 rfl (by decide) _ _ _ rfl (HO1.out.alloc _) (W1.heap.size + 1) (some ⟨W1.heap.size, 0, none⟩) 1 1 [.int .i64 (r : Int)] rfl (reads_cells W1 #[.int .i64 (r : Int)] _ 1 1 rfl) (by intro u hu; simp at hu; subst hu; rfl) (by unfold maxLen; omega) (by omega) (Nat.le_trans HB1.out.size (by simp)) ?_)
      intro v2 w2 ho2 hg2 _
      obtain ⟨a2, k2, rfl⟩ := own_shape ho2
      have HB2 := Lib.hid ((HB1.out.alloc HB1.out.size (.cells #[.int .i64 (r : Int)] 3)).grown hg2 (Nat.le_trans HB1.out.size (by simp)) (fun r hr => (HO1.out.lt r hr).1))
      have HO2 := Lib.hid ho2
      clear ho2 hg2
      go_wp2_with fail
      go_roundw
      case rel =>
        refine ⟨k + 1, k2, q, a2, by omega, HCC.out, rfl, rfl, rfl, HQ, Lib.hid ?_, HB2⟩
        rw [bitsN_snoc, ← HRR.out]
        have e : ints (bitsN k (a + b) ++ [r]) = ints (bitsN k (a + b)) ++ [.int .i64 (r : Int)] := by unfold ints; rw [List.map_append]; rfl
        rw [e]
        exact HO2.out
      case measure => simp [intOf]; omega
    · have hk' : k = 128 := by omega
      subst hk'
      go_wp2_with (at_builtin; refine wpList_append_any _ rfl (.tmp 33) (.tmp 35) 137 rfl w.heap.size 3 i0 (.int .i64 0) 1 8 Tryz.underlying137 hi hzz hz1 hz2 rfl (by decide) _ _ _ rfl (HO.out.alloc _) (wr.heap.size + 1) (some ⟨wr.heap.size, 0, none⟩) 1 1 [.int .i64 (cc : Int)] rfl (reads_cells wr #[.int .i64 (cc : Int)] _ 1 1 rfl) (by intro u hu; simp at hu; subst hu; rfl) (by unfold maxLen; omega) (by omega) (Nat.le_trans HB.out.size (by simp)) ?_)
      intro v2 w2 ho2 hg2 _
      obtain ⟨a2, k2, rfl⟩ := own_shape ho2
      have HB2 := Lib.hid ((HB.out.alloc HB.out.size (.cells #[.int .i64 (cc : Int)] 3)).grown hg2 (Nat.le_trans HB.out.size (by simp)) (fun r hr => (HO.out.lt r hr).1))
      have ho3 : w2.ownsRow w.heap.size 3 1 (.slice a2 129 k2) 129 (ints (bitsN 129 (a + b))) := by
        rw [← HE.out, ← HC.out]
        have e : ints (bitsN 128 (a + b) ++ [cc]) = ints (bitsN 128 (a + b)) ++ [.int .i64 (cc : Int)] := by unfold ints; rw [List.map_append]; rfl
        rw [e]
        exact ho2
      obtain ⟨g, rfl, h1, h2, h3⟩ := row_of_own ho3 (by omega)
      have HR3 := Lib.hid h3
      clear ho2 hg2 ho3 h3
      go_wp2_with fail
      go_ret
      exact ⟨g, k2, rfl, h2, h1, HR3.out, HB2.out⟩
end Go.Proofs.YtokpgopdkimmmaaGreatDoor
