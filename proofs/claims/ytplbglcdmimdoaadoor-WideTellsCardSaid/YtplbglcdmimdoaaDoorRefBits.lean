/- The document's bits: Bits. -/
import Derived.Test.YtplbglcdmimdoaaDoorWide
import Derived.Test.YtplbglcdmimdoaaDoorBitsLaw
import Derived.Test.YtplbglcdmimdoaaDoorWideAwake
namespace Go.Proofs.YtplbglcdmimdoaaDoor
open Go.RowKit
set_option linter.unusedVariables false
set_option linter.unusedSimpArgs false

def ints (l : List Nat) : List Value := l.map fun (n : Nat) => Value.int .i64 (n : Int)
theorem ints_len (l : List Nat) : (ints l).length = l.length := by unfold ints; rw [List.length_map]
theorem ints_get (l : List Nat) (i : Nat) : (ints l)[i]? = (l[i]?).map fun (n : Nat) => Value.int .i64 (n : Int) := by unfold ints; rw [List.getElem?_map]
theorem ints_set (l : List Nat) (i x : Nat) : (ints l).set i (.int .i64 (x : Int)) = ints (l.set i x) := by unfold ints; rw [List.map_set]
theorem made_ints (n : Nat) : madeCells #[.int .i64 0] n = (ints (List.replicate n 0)).toArray := by
  apply Array.toList_inj.1
  rw [toList_madeCells_one]
  unfold ints
  rw [List.map_replicate]
  rfl
/-- A block that holds a list of numbers. -/
def BlkI (w : World) (g : Nat) (l : List Nat) : Prop := Blk w g 3 (ints l).toArray
theorem BlkI.cell {w : World} {g : Nat} {l : List Nat} (h : BlkI w g l) (i x : Nat) (hx : l[i]? = some x) : w.cell? ⟨g, i, none⟩ = some (.int .i64 (x : Int)) := by
  rw [Blk.cell h, List.getElem?_toArray, ints_get, hx]; rfl
theorem BlkI.set {w : World} {g : Nat} {l : List Nat} (h : BlkI w g l) (i x : Nat) : BlkI (w.setCell ⟨g, i, none⟩ (.int .i64 (x : Int))) g (l.set i x) := by
  have k := Blk.set_ h i (.int .i64 (x : Int))
  unfold BlkI
  rw [← ints_set]
  simpa using k
theorem set_out (k : Nat) (n v x : Nat) (hk : k < n) (hx : v / 2 ^ k % 2 = x) : (bitsN k v ++ List.replicate (n - k) 0).set k x = bitsN (k + 1) v ++ List.replicate (n - (k + 1)) 0 := by
  rw [List.set_append_right _ _ (by rw [bitsN_len]; omega), bitsN_len, Nat.sub_self, show n - k = (n - (k + 1)) + 1 by omega, List.replicate_succ, List.set_cons_zero, bitsN_split k 1 v]
  simp [bitsN, hx]

/-- Half of the bits: the first k of both words. -/
def halves (k lo hi : Nat) : List Nat := (bitsN k lo ++ List.replicate (64 - k) 0) ++ (bitsN k hi ++ List.replicate (64 - k) 0)
theorem halves_zero (lo hi : Nat) : halves 0 lo hi = List.replicate 128 0 := by
  unfold halves
  simp [bitsN]
theorem halves_len1 (k lo : Nat) (hk : k ≤ 64) : (bitsN k lo ++ List.replicate (64 - k) 0).length = 64 := by
  rw [List.length_append, bitsN_len, List.length_replicate]; omega
theorem halves_set (k lo hi : Nat) (hk : k < 64) : ((halves k lo hi).set k (lo / 2 ^ k % 2)).set (64 + k) (hi / 2 ^ k % 2) = halves (k + 1) lo hi := by
  unfold halves
  rw [List.set_append_left _ _ (by rw [halves_len1 _ _ (by omega)]; omega), set_out k 64 lo _ hk rfl,
    List.set_append_right _ _ (by rw [halves_len1 _ _ (by omega)]; omega), halves_len1 _ _ (by omega), show 64 + k - 64 = k by omega, set_out k 64 hi _ hk rfl]
theorem halves_end (v : Nat) : halves 64 (v % 18446744073709551616) (v / 18446744073709551616) = bitsN 128 v := by
  unfold halves
  rw [show 64 - 64 = 0 from rfl, List.replicate_zero, List.append_nil, List.append_nil, bitsN_split 64 64 v]
  have : bitsN 64 (v % 18446744073709551616) = bitsN 64 v := by
    apply List.ext_getElem?
    intro i
    rcases Nat.lt_or_ge i 64 with h | h
    · rw [bitsN_get _ _ _ h, bitsN_get _ _ _ h]
      congr 1
      rw [show (18446744073709551616 : Nat) = 2 ^ i * (2 * 2 ^ (63 - i)) by
        rw [← Nat.pow_succ', ← Nat.pow_add, show i + (63 - i + 1) = 64 by omega], Nat.mod_mul_right_div_self]
      rw [Nat.mod_mul_right_mod]
    · rw [List.getElem?_eq_none (by rw [bitsN_len]; exact h), List.getElem?_eq_none (by rw [bitsN_len]; exact h)]
  rw [this]
theorem infoInt01 : (Tryd.prog.info? 3).map (fun i => (i.zero, i.size, i.bytes)) = some (some (.int .i64 0), 1, 8) := by kernel_rfl
theorem bit_int (n k : Nat) (hn : n < 18446744073709551616) : wrap64 (bits BinOp.and IntKind.u64 ((n : Int) / 2 ^ k) 1) = ((n / 2 ^ k % 2 : Nat) : Int) := by
  have h0 : (0 : Int) ≤ (n : Int) / 2 ^ k := Int.ediv_nonneg (by omega) (Int.le_of_lt (Int.pow_pos (by decide)))
  have e : (n : Int) / 2 ^ k = ((n / 2 ^ k : Nat) : Int) := by rw [Int.natCast_ediv, Int.natCast_pow]; rfl
  have h1 : n / 2 ^ k < 18446744073709551616 := Nat.lt_of_le_of_lt (Nat.div_le_self _ _) hn
  rw [e]
  generalize n / 2 ^ k = m at h1 ⊢
  rw [and_one_u64 _ (by omega) (by omega)]
  unfold wrap64
  omega
set_option maxRecDepth 100000 in
set_option maxHeartbeats 2000000 in
theorem bits_any (v : Nat) (hv : v < wTop) (w : World) : Calls Tryd.prog 52 #[wideV v] w fun e w' =>
    ∃ g, e = .returned (.slice (some ⟨g, 0, none⟩) 128 128) ∧ BlkI w' g (bitsN 128 v) ∧ w.heap.size ≤ g ∧ Below w.heap.size w w' := by
  have HE := Lib.hid (halves_end v)
  have hlo : v % 18446744073709551616 < 18446744073709551616 := Nat.mod_lt _ (by decide)
  have hhi : v / 18446744073709551616 < 18446744073709551616 := by unfold wTop at hv; omega
  unfold wideV
  generalize v % 18446744073709551616 = lo at HE hlo ⊢
  generalize v / 18446744073709551616 = hi at HE hhi ⊢
  obtain ⟨ib, hib, hbz, hb1, hb2⟩ := info_parts infoInt01
  have hmk := fun W => run_make_rowN (P := Tryd.prog) 80 3 ib (.int .i64 0) Tryd.underlying80 hib hbz .i64 .i64 128 128 (Nat.le_refl _) (by rw [hb2]; omega) (by omega) W
  rw [hb1] at hmk
  obtain ⟨Z, hZ⟩ : ∃ Z, (ints (List.replicate 128 0)).toArray = Z := ⟨_, rfl⟩
  have HZ := Lib.hid hZ
  have hmk' : ∀ W, (Instr.makeSlice 80 (.int .i64 128) (.int .i64 128)).run Tryd.prog W = .ok (.slice (some ⟨W.heap.size, 0, none⟩) 128 128) (W.alloc (.cells Z 3)) := fun W => by
    have h := hmk W
    rw [show 128 * 1 = 128 from rfl, show (Value.int .i64 0).cells = #[.int .i64 0] from rfl, made_ints, hZ] at h
    exact h
  clear hmk hb1 hb2 hbz hib hZ
  go_enter Tryd.func52, Tryd.ntmps52
  go_wp2_with fail
  obtain ⟨b1, hb1⟩ : ∃ b, w.heap.size = b := ⟨_, rfl⟩
  have HB := Lib.hid (((Below.refl w.heap.size w).alloc (Nat.le_refl _) (.cells #[.int .u64 (hi : Int), .int .u64 (lo : Int)] 24)).alloc (by simp) (.cells Z 3))
  have KB := Lib.hid (show WB ((w.alloc (.cells #[.int .u64 (hi : Int), .int .u64 (lo : Int)] 24)).alloc (.cells Z 3)) b1 hi lo by rw [← hb1]; exact (WB.new w hi lo _).alloc _)
  have KI := Lib.hid (show BlkI ((w.alloc (.cells #[.int .u64 (hi : Int), .int .u64 (lo : Int)] 24)).alloc (.cells Z 3)) (b1 + 1) (List.replicate 128 0) by rw [← hb1]; unfold BlkI; rw [HZ.out]; have h := Blk.new (w.alloc (.cells #[.int .u64 (hi : Int), .int .u64 (lo : Int)] 24)) 3 Z; rw [World.size_alloc] at h; exact h)
  rw [hb1]
  generalize (w.alloc (.cells #[.int .u64 (hi : Int), .int .u64 (lo : Int)] 24)).alloc (.cells Z 3) = V at HB KB KI ⊢
  clear hmk'
  have HG := Lib.hid (show w.heap.size ≤ b1 + 1 by omega)
  clear hb1
  go_loopw [4] (fun i wr => ∃ k : Nat, k ≤ 64 ∧ i = .int .i64 (k : Int) ∧ Hid (BlkI wr (b1 + 1) (halves k lo hi)) ∧ Hid (WB wr b1 hi lo) ∧ Hid (Below w.heap.size w wr)) (fun i _ => 64 - (intOf i).toNat)
  case atStart => exact ⟨0, by omega, rfl, Lib.hid (by rw [halves_zero]; exact KI.out), KB, HB⟩
  case round =>
    obtain ⟨k, hk, rfl, KI, KB, HB⟩ := hrel
    rcases Nat.lt_or_ge k 64 with h | h
    · obtain ⟨l1, c1, d1⟩ := KB.out
      have hlen : (halves k lo hi).length = 128 := by unfold halves; simp only [List.length_append, bitsN_len, List.length_replicate]; omega
      obtain ⟨y1, hy1⟩ : ∃ y, (halves k lo hi)[k]? = some y := ⟨_, List.getElem?_eq_getElem (by omega)⟩
      obtain ⟨y2, hy2⟩ : ∃ y, (halves k lo hi)[64 + k]? = some y := ⟨_, List.getElem?_eq_getElem (by omega)⟩
      have c2 := KI.out.cell k y1 hy1
      have c3 := KI.out.cell (64 + k) y2 hy2
      have f2 := Blk.frozen KI.out k
      have f3 := Blk.frozen KI.out (64 + k)
      clear hy1 hy2 hlen
      obtain ⟨x1, hx1⟩ : ∃ x, lo / 2 ^ k % 2 = x := ⟨_, rfl⟩
      obtain ⟨x2, hx2⟩ : ∃ x, hi / 2 ^ k % 2 = x := ⟨_, rfl⟩
      have e1 := bit_int lo k hlo
      have e2 := bit_int hi k hhi
      rw [hx1] at e1
      rw [hx2] at e2
      have HX1 := Lib.hid hx1
      have HX2 := Lib.hid hx2
      clear hx1 hx2
      go_wp2_with fail
      go_roundw
      case rel =>
        refine ⟨k + 1, by omega, rfl, Lib.hid ?_, Lib.hid ?_, Lib.hid ?_⟩
        · rw [← halves_set k lo hi h, HX1.out, HX2.out]
          exact (KI.out.set k x1).set (64 + k) x2
        · exact ⟨by have := KB.out.1; simpa using this, by
            rw [World.cell?_setCell_other _ _ _ _ (fun e => by cases e), World.cell?_setCell_other _ _ _ _ (fun e => by cases e)]; exact c1, by
            rw [World.cell?_setCell_other _ _ _ _ (fun e => by cases e), World.cell?_setCell_other _ _ _ _ (fun e => by cases e)]; exact d1⟩
        · exact (HB.out.setCell (p := ⟨b1 + 1, k, none⟩) HG.out _).setCell (p := ⟨b1 + 1, 64 + k, none⟩) HG.out _
      case measure => simp [intOf]; omega
    · go_wp2
      go_ret
      have : k = 64 := by omega
      subst this
      exact ⟨b1 + 1, rfl, by rw [← HE.out]; exact KI.out, HG.out, HB.out⟩
end Go.Proofs.YtplbglcdmimdoaaDoor
