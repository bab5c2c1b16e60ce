/- ops.Bytes: its closure, that puts a number's bytes: the walk. -/
import Derived.Test.YtokpgopdkimmmaaDoorOpBytes
import Derived.Deep.RegionHeld3
namespace Go.Proofs.YtokpgopdkimmmaaDoor
open Go.RowKit
set_option linter.unusedVariables false
set_option linter.unusedSimpArgs false

theorem infoU8 : (Tryd.prog.info? 5).map (fun i => (i.zero, i.size, i.bytes)) = some (some (.int .u8 0), 1, 1) := by kernel_rfl
theorem grown_tr {a b c : World} {row : Option Nat} (h : a.grownBy b row) (k : b.grownBy c row) : a.grownBy c row :=
  ⟨k.os.trans h.os, k.tape.trans h.tape, k.output.trans h.output, Nat.le_trans h.size k.size, fun i hi hr => (k.block i (Nat.lt_of_lt_of_le hi h.size) hr).trans (h.block i hi hr)⟩
theorem byte_of (n k : Nat) (hn : n < 18446744073709551616) (hk : k ≤ 8) : IntKind.u8.wrap ((n : Int) / 2 ^ (8 * (k : Int)).toNat) = ((n / 256 ^ k % 256 : Nat) : Int) := by
  have e1 : (8 * (k : Int)).toNat = 8 * k := by omega
  have e2 : (2 : Int) ^ (8 * k) = ((256 ^ k : Nat) : Int) := by rw [Int.pow_mul]; rw [Int.natCast_pow]; rfl
  rw [e1, e2, IntKind.wrap_u8]
  omega
theorem reads_new (w : World) (v : Value) (e : TypeId) : Reads (w.alloc (.cells #[v] e)).drew (w.heap.size + 1) 1 (some ⟨w.heap.size, 0, none⟩) 1 [v] :=
  ⟨rfl, fun _ => ⟨_, rfl, by simp, fun j u hu => by
    have hj : j = 0 := by have := (List.getElem?_eq_some_iff.1 hu).1; simp at this; omega
    subst hj
    simp at hu
    subst hu
    exact cells_at w #[v] e 0⟩⟩
set_option maxRecDepth 100000 in
set_option maxHeartbeats 4000000 in
theorem put_any (n m : Nat) (hn : n < 18446744073709551616) (hm : m ≤ 8) (B b : Nat) (l : List Nat) (hl : l.length ≤ 1000000) (w : World) (hb : Bag w B b l) :
    Calls Tryd.prog 13 #[.int .u64 (n : Int), .int .i64 (m : Int), .pointer (some ⟨b, 0, none⟩)] w fun e w' => e = .returned (.tuple #[]) ∧ Bag w' B b (l ++ beN m n) ∧ Below B w w' ∧ BSame 5 b w w' := by
  obtain ⟨i0, hi, hzz, hz1, hz2⟩ := info_parts infoU8
  have HB := Lib.hid hb
  clear hb
  go_enter Tryd.func13, Tryd.ntmps13
  go_wp2_with fail
  go_loopw [1] (fun i wr => ∃ (j : Nat) (d : List Nat), j ≤ m ∧ i = .int .i64 ((j : Int) - 1) ∧ Hid (d ++ beN j n = beN m n) ∧ d.length + j = m ∧ Hid (Bag wr B b (l ++ d)) ∧ Hid (Below B w wr) ∧ Hid (BSame 5 b w wr)) (fun i _ => (intOf i + 1).toNat)
  case atStart => exact ⟨m, [], Nat.le_refl _, rfl, Lib.hid rfl, by simp, Lib.hid (by rw [List.append_nil]; exact HB.out), Lib.hid (Below.refl _ _), Lib.hid (BSame.refl _ _ _)⟩
  case round =>
    obtain ⟨j, d, hj, rfl, HD, hdl, HG, HL, HS⟩ := hrel
    rcases Nat.eq_zero_or_pos j with h0 | h0
    · subst h0
      go_wp2_with fail
      refine bodyPost_end (v := .tuple #[]) (by simp [results, Tryd.results13, go_sem]) rfl ?_
      have h := HD.out
      rw [beN, List.append_nil] at h
      rw [← h]
      exact ⟨rfl, HG.out, HL.out, HS.out⟩
    · obtain ⟨k, rfl⟩ : ∃ k, j = k + 1 := ⟨j - 1, by omega⟩
      obtain ⟨hB, v, hb1, ho1⟩ := HG.out
      have hcell : wr.cell? ⟨b, 0, none⟩ = some v := hb1.cell 0
      have hfr : wr.frozen? ⟨b, 0, none⟩ = false := hb1.frozen 0
      have HB1 := Lib.hid hb1
      have HO1 := Lib.hid ho1
      clear hb1 ho1
      have hsub : ((k + 1 : Nat) : Int) - 1 = (k : Int) := by omega
      rw [hsub]
      go_wp2_with fail
      have HLV := Lib.hid HL.out.size
      have hBw : B ≤ wr.heap.size := Nat.le_of_lt (Nat.lt_of_le_of_lt hB HB1.out.lt)
      have h8 : IntKind.i64.wrap (8 * (k : Int)) = 8 * (k : Int) := by rw [IntKind.wrap_i64]; omega
      have hp : (0 : Int) ≤ 8 * (k : Int) := by omega
      have hp2 : (8 * (k : Int)) ≤ 64 := by omega
      have hcv := byte_of n k hn (by omega)
      have HNE := Lib.hid (show some b ≠ v.ownBlock from fun e => own_blk_ne HO1.out HB1.out (by decide) e.symm)
      have hlen : (l ++ d).length ≤ 1000008 := by rw [List.length_append]; omega
      have HFR := Lib.hid (show ∀ x t, ((wr.alloc (.cells #[x] t)).drew).frozen? ⟨b, 0, none⟩ = false from fun x t => Blk.frozen (Blk.drew (Blk.alloc HB1.out _)) 0)
      have HNW := Lib.hid (reads_new wr)
      have hc0 : ((wr.alloc (.cells #[.int .u8 ((n : Int) / 256 ^ k % 256)] 5)).drew).cell? ⟨b, 0, none⟩ = some v := Blk.cell (Blk.drew (Blk.alloc HB1.out _)) 0
      go_region_law
        ((refine step_append_any _ (by rfl) _ _ _ (by rfl) B 5 i0 (.int .u8 0) 1 1 Tryd.underlying24 hi hzz hz1 hz2 rfl (by omega) v (l ++ d).length (bvals (l ++ d)) (by rfl) ((HO1.out.alloc _).drew)
            (wr.heap.size + 1) (some ⟨wr.heap.size, 0, none⟩) 1 1 [.int .u8 ((n : Int) / 256 ^ k % 256)] (by rfl) (HNW.out _ _) (by simp [Value.oneCell']) (by unfold maxLen; omega) (by omega) (Nat.le_trans hBw (by simp)) ?_; intro v1 w1 hown1 hgrow hat; obtain ⟨a1, c1, rfl⟩ := own_shape hown1; have hc1 := Blk.cell (Blk.grown (Blk.drew (Blk.alloc HB1.out (.cells #[.int .u8 ((n : Int) / 256 ^ k % 256)] 5))) hgrow HNE.out) 0; have hf1 := Blk.frozen (Blk.grown (Blk.drew (Blk.alloc HB1.out (.cells #[.int .u8 ((n : Int) / 256 ^ k % 256)] 5))) hgrow HNE.out) 0))
      all_goals
        have hgr : wr.grownBy w1 v.ownBlock := grown_tr (only_drew (only_alloc (World.grownBy.refl wr _) _)) hgrow
        have hx : (Value.int .u8 ((n : Int) / 256 ^ k % 256)) = bval (n / 256 ^ k % 256) := by simp
        have hown2 : w1.ownsRow B 5 1 (.slice a1 ((l ++ d).length + 1) c1) ((l ++ d).length + [n / 256 ^ k % 256].length) (bvals (l ++ d) ++ bvals [n / 256 ^ k % 256]) := by rw [hx] at hown1; exact hown1
        have hP := bag_put hB HB1.out HO1.out hown2 hgr
        rw [List.length_append] at hP
        have HP := Lib.hid hP
        have HD2 := Lib.hid (show (d ++ [n / 256 ^ k % 256]) ++ beN k n = beN m n by rw [← HD.out, beN, List.append_assoc]; rfl)
        clear hP hown2 hx hown1 hgrow hat hgr hc1 hf1
        go_wp2_with fail
        go_roundw
        case rel => exact ⟨k, d ++ [n / 256 ^ k % 256], by omega, by go_num, HD2, by rw [List.length_append, List.length_singleton]; omega, Lib.hid (by rw [← List.append_assoc]; exact HP.out.1), Lib.hid (HL.out.trans HP.out.2.1), Lib.hid (HS.out.trans HP.out.2.2)⟩
        case measure => simp [intOf] <;> omega
end Go.Proofs.YtokpgopdkimmmaaDoor
