/- sameOps of two rows of the same operations. -/
import Derived.Test.YtokpgopdkimmmaaGreatDoorTellsM5
namespace Go.Proofs.YtokpgopdkimmmaaGreatDoor
open Go.RowKit
set_option linter.unusedVariables false
set_option linter.unusedSimpArgs false

set_option maxRecDepth 100000 in
set_option maxHeartbeats 2000000 in
theorem sameOps_same (ls : List OpV) (hl : ls.length ≤ 1000000) (A B : Option Addr) (ca cb : Nat) (w : World) (ha : OpRow w A ls) (hb : OpRow w B ls) :
    Calls Tryz.prog 20 #[.slice A ls.length ca, .slice B ls.length cb] w fun e w' => e = .returned (.bool true) ∧ Below w.heap.size w w' := by
  have HA := Lib.hid ha
  have HB := Lib.hid hb
  clear ha hb
  go_enter Tryz.func20, Tryz.ntmps20
  go_wp2_with fail
  go_loopw [5] (fun i wr => ∃ k : Nat, k ≤ ls.length ∧ i = .int .i64 (k : Int) ∧ Hid (Below w.heap.size w wr)) (fun i _ => ls.length - (intOf i).toNat)
  case atStart => exact ⟨0, Nat.zero_le _, rfl, Lib.hid (Below.refl _ _)⟩
  case round =>
    obtain ⟨k, hk, rfl, HL⟩ := hrel
    by_cases hlt : k < ls.length
    · obtain ⟨o, hoo⟩ : ∃ o, ls[k]? = some o := ⟨ls[k], List.getElem?_eq_getElem hlt⟩
      obtain ⟨g, lo, hA, hg, hcs⟩ := (HA.out.later HL.out).at_ hoo
      obtain ⟨g2, lo2, hB, hg2, hds⟩ := (HB.out.later HL.out).at_ hoo
      subst hA hB
      have c0 : wr.cell? ⟨g, lo + k * 6, none⟩ = some (.int .u8 (o.k : Int)) := hcs 0 (by decide)
      have c1 : wr.cell? ⟨g, lo + k * 6 + 1, none⟩ = some (.int .i64 o.a) := hcs 1 (by decide)
      have c2 : wr.cell? ⟨g, lo + k * 6 + 2, none⟩ = some (.int .i64 o.b) := hcs 2 (by decide)
      have c3 : wr.cell? ⟨g, lo + k * 6 + 3, none⟩ = some (.int .i64 o.c) := hcs 3 (by decide)
      have c4 : wr.cell? ⟨g, lo + k * 6 + 4, none⟩ = some (.int .i64 o.d) := hcs 4 (by decide)
      have c5 : wr.cell? ⟨g, lo + k * 6 + 5, none⟩ = some (.int .u32 (o.id : Int)) := hcs 5 (by decide)
      have d0 : wr.cell? ⟨g2, lo2 + k * 6, none⟩ = some (.int .u8 (o.k : Int)) := hds 0 (by decide)
      have d1 : wr.cell? ⟨g2, lo2 + k * 6 + 1, none⟩ = some (.int .i64 o.a) := hds 1 (by decide)
      have d2 : wr.cell? ⟨g2, lo2 + k * 6 + 2, none⟩ = some (.int .i64 o.b) := hds 2 (by decide)
      have d3 : wr.cell? ⟨g2, lo2 + k * 6 + 3, none⟩ = some (.int .i64 o.c) := hds 3 (by decide)
      have d4 : wr.cell? ⟨g2, lo2 + k * 6 + 4, none⟩ = some (.int .i64 o.d) := hds 4 (by decide)
      have d5 : wr.cell? ⟨g2, lo2 + k * 6 + 5, none⟩ = some (.int .u32 (o.id : Int)) := hds 5 (by decide)
      clear hcs hds hoo
      go_wp2_with fail
      go_quiet (fail)
      go_wp2_with fail
      go_roundw
      case rel => exact ⟨k + 1, by omega, by go_num, Lib.hid (below_drewN' HL.out _)⟩
      case measure => simp [intOf] <;> omega
    · have hke : k = ls.length := by omega
      have hd : decide ((k : Int) < (ls.length : Int)) = false := decide_eq_false (by omega)
      clear hke
      go_wp2_with fail
      go_ret
      exact ⟨rfl, HL.out⟩
end Go.Proofs.YtokpgopdkimmmaaGreatDoor
