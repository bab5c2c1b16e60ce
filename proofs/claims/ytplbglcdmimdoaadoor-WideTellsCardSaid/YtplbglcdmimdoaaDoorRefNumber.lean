/- The document's bits: Number. -/
import Derived.Test.YtplbglcdmimdoaaDoorRefBits
import Derived.Test.YtplbglcdmimdoaaDoorRefPlain
namespace Go.Proofs.YtplbglcdmimdoaaDoor
open Go.RowKit
set_option linter.unusedVariables false
set_option linter.unusedSimpArgs false

/-- A list of numbers from a block's first cell on. -/
def RowN (w : World) (g : Nat) (l : List Nat) : Prop := g < w.heap.size ∧ ∀ (k x : Nat), l[k]? = some x → w.cell? ⟨g, k, none⟩ = some (.int .i64 (x : Int))
theorem RowN.later {w w' : World} {g : Nat} {l : List Nat} (h : RowN w g l) (hb : Below w.heap.size w w') : RowN w' g l :=
  ⟨Nat.lt_of_lt_of_le h.1 hb.size, fun k x hx => (hb.cell (p := ⟨g, k, none⟩) h.1).trans (h.2 k x hx)⟩
theorem RowN.alloc {w : World} {g : Nat} {l : List Nat} (h : RowN w g l) (o : Obj) : RowN (w.alloc o) g l := h.later ((Below.refl _ _).alloc (Nat.le_refl _) o)
theorem RowN.of_blk {w : World} {g : Nat} {l : List Nat} (h : BlkI w g l) : RowN w g l := ⟨Blk.lt h, fun k x hx => h.cell k x hx⟩
theorem WB.frozenV {w : World} {b : Nat} {h l : Int} {t : TypeId} : World.frozen? (w.alloc (.cells #[.int .u64 h, .int .u64 l] t)) ⟨w.heap.size, 0, none⟩ = false := World.frozen?_alloc_new w _ t 0
/-- A wide number in a box of the call's own. -/
def WO (W : World) (b : Nat) (h l : Int) (t : TypeId) : Prop := Blk W b t #[.int .u64 h, .int .u64 l]
theorem WO.wb {W : World} {b : Nat} {h l : Int} {t : TypeId} (k : WO W b h l t) : WB W b h l := ⟨Blk.lt k, Blk.cell k 0, Blk.cell k 1⟩
theorem WO.hi {W : World} {b : Nat} {h l : Int} {t : TypeId} (k : WO W b h l t) (x : Int) : WO (W.setCell ⟨b, 0, none⟩ (.int .u64 x)) b x l t := by
  have := Blk.set_ k 0 (.int .u64 x)
  simpa [WO] using this
theorem WO.lo {W : World} {b : Nat} {h l : Int} {t : TypeId} (k : WO W b h l t) (x : Int) : WO (W.setCell ⟨b, 1, none⟩ (.int .u64 x)) b h x t := by
  have := Blk.set_ k 1 (.int .u64 x)
  simpa [WO] using this
theorem wrap_u64 (z : Int) : IntKind.u64.wrap z = z % 18446744073709551616 := rfl
theorem pow_int (k : Nat) : (2 : Int) ^ k = ((2 ^ k : Nat) : Int) := by rw [Int.natCast_pow]; rfl
theorem low_step (v k : Nat) (hk : k < 64) (h1 : v / 2 ^ k % 2 = 1) : IntKind.u64.wrap (((v % 2 ^ k % 18446744073709551616 : Nat) : Int) + IntKind.u64.wrap (2 ^ k)) = ((v % 2 ^ (k + 1) % 18446744073709551616 : Nat) : Int) ∧
    v % 2 ^ (k + 1) / 18446744073709551616 = v % 2 ^ k / 18446744073709551616 ∧ v % 2 ^ (k + 1) < wTop := by
  obtain ⟨e1, e2⟩ := num_low v k hk h1
  rw [wrap_u64, wrap_u64, pow_int, ← e1]
  unfold wTop
  generalize v % 2 ^ k = u at *
  generalize 2 ^ k = q at *
  omega
theorem high_step (v k : Nat) (h64 : 64 ≤ k) (hk : k < 128) (h1 : v / 2 ^ k % 2 = 1) : IntKind.u64.wrap (((v % 2 ^ k / 18446744073709551616 : Nat) : Int) + IntKind.u64.wrap (2 ^ (k - 64))) = ((v % 2 ^ (k + 1) / 18446744073709551616 : Nat) : Int) ∧
    v % 2 ^ (k + 1) % 18446744073709551616 = v % 2 ^ k % 18446744073709551616 ∧ v % 2 ^ (k + 1) < wTop := by
  obtain ⟨e1, e2, e3⟩ := num_high v k h64 hk h1
  rw [wrap_u64, wrap_u64, pow_int, e2, ← e1]
  unfold wTop
  generalize v % 2 ^ k = u at *
  generalize v % 2 ^ (k + 1) = t at *
  generalize 2 ^ (k - 64) = q at *
  omega
set_option maxRecDepth 100000 in
set_option maxHeartbeats 1000000 in
theorem number_any (n v cap g : Nat) (hn : n ≤ 129) (hv : v < 2 ^ n) (hc : n ≤ cap) (w : World) (hR : RowN w g (bitsN n v)) : Calls Tryd.prog 50 #[.slice (some ⟨g, 0, none⟩) n cap] w fun e w' =>
    e = .returned (.tuple #[wideV (if v < wTop then v else 0), .bool (decide (v < wTop))]) ∧ Below w.heap.size w w' := by
  have HR := Lib.hid hR
  have HV := Lib.hid hv
  clear hR hv
  go_enter Tryd.func50, Tryd.ntmps50
  go_wp2_with fail
  obtain ⟨b2, hb2⟩ : ∃ b, w.heap.size = b := ⟨_, rfl⟩
  have HB := Lib.hid (((Below.refl w.heap.size w).alloc (Nat.le_refl _) (.cells #[.int .u64 0, .int .u64 0] 24)).alloc (by simp) (.cells #[.int .u64 0, .int .u64 0] 24))
  have K2 := Lib.hid (show WO ((w.alloc (.cells #[.int .u64 0, .int .u64 0] 24)).alloc (.cells #[.int .u64 0, .int .u64 0] 24)) b2 0 0 24 by rw [← hb2]; exact (Blk.new w _ _).alloc _)
  have K4 := Lib.hid (show WO ((w.alloc (.cells #[.int .u64 0, .int .u64 0] 24)).alloc (.cells #[.int .u64 0, .int .u64 0] 24)) (b2 + 1) 0 0 24 by rw [← hb2]; have h := Blk.new (w.alloc (.cells #[.int .u64 0, .int .u64 0] 24)) 24 #[.int .u64 0, .int .u64 0]; rw [World.size_alloc] at h; exact h)
  have HG := Lib.hid (show w.heap.size ≤ b2 by omega)
  rw [hb2]
  generalize (w.alloc (.cells #[.int .u64 0, .int .u64 0] 24)).alloc (.cells #[.int .u64 0, .int .u64 0] 24) = V at HB K2 K4 ⊢
  clear hb2
  go_loopw [5] (fun i wr => ∃ k : Nat, k ≤ n ∧ i = .int .i64 (k : Int) ∧ Hid (v % 2 ^ k < wTop) ∧ Hid (WO wr (b2 + 1) ((v % 2 ^ k / 18446744073709551616 : Nat) : Int) ((v % 2 ^ k % 18446744073709551616 : Nat) : Int) 24) ∧ Hid (WO wr b2 0 0 24) ∧ Hid (Below w.heap.size w wr)) (fun i _ => n - (intOf i).toNat)
  case atStart => exact ⟨0, Nat.zero_le _, rfl, Lib.hid (by simp [Nat.mod_one]), Lib.hid (by simp [Nat.mod_one]; exact K4.out), K2, HB⟩
  case round =>
    obtain ⟨k, hk, rfl, HU, K4, K2, HB⟩ := hrel
    rcases Nat.lt_or_ge k n with h | h
    · have hcell := ((HR.out.later HB.out).2 k (v / 2 ^ k % 2) (bitsN_get n v k h))
      obtain ⟨x, hx⟩ : ∃ x, v / 2 ^ k % 2 = x := ⟨_, rfl⟩
      rw [hx] at hcell
      have hx2 : x = 0 ∨ x = 1 := by omega
      have HX := Lib.hid hx
      clear hx
      rcases hx2 with rfl | rfl
      · go_wp2_with fail
        go_roundw
        case rel =>
          have e := num_none v k HX.out
          exact ⟨k + 1, by omega, rfl, by rw [← e]; exact HU, by rw [← e]; exact K4, K2, HB⟩
        case measure => simp [intOf]; omega
      · obtain ⟨u1, hu1⟩ : ∃ u, v % 2 ^ k / 18446744073709551616 = u := ⟨_, rfl⟩
        obtain ⟨u2, hu2⟩ : ∃ u, v % 2 ^ k % 18446744073709551616 = u := ⟨_, rfl⟩
        rw [hu1, hu2] at K4
        have HU1 := Lib.hid hu1
        have HU2 := Lib.hid hu2
        obtain ⟨l4, c4, d4⟩ := K4.out.wb
        have f0 := Blk.frozen K4.out 0
        have f1 := Blk.frozen K4.out 1
        clear hu1 hu2
        rcases Nat.lt_or_ge k 64 with h64 | h64
        · go_wp2_with fail
          obtain ⟨s1, s2, s3⟩ := low_step v k h64 HX.out
          rw [HU2.out] at s1
          rw [HU1.out] at s2
          go_roundw
          case rel =>
            refine ⟨k + 1, by omega, rfl, Lib.hid s3, Lib.hid ?_, Lib.hid (Blk.far K2.out (p := ⟨b2 + 1, 1, none⟩) (by show b2 ≠ b2 + 1; omega) _), Lib.hid (HB.out.setCell (p := ⟨b2 + 1, 1, none⟩) (by have := HG.out; show w.heap.size ≤ b2 + 1; omega) _)⟩
            rw [s1, s2]
            exact K4.out.lo _
          case measure => simp [intOf]; omega
        · rcases Nat.lt_or_ge k 128 with h128 | h128
          · go_wp2_with fail
            obtain ⟨s1, s2, s3⟩ := high_step v k h64 h128 HX.out
            rw [HU1.out] at s1
            rw [HU2.out] at s2
            go_roundw
            case rel =>
              refine ⟨k + 1, by omega, rfl, Lib.hid s3, Lib.hid ?_, Lib.hid (Blk.far K2.out (p := ⟨b2 + 1, 0, none⟩) (by show b2 ≠ b2 + 1; omega) _), Lib.hid (HB.out.setCell (p := ⟨b2 + 1, 0, none⟩) (by have := HG.out; show w.heap.size ≤ b2 + 1; omega) _)⟩
              rw [s1, s2]
              exact K4.out.hi _
            case measure => simp [intOf]; omega
          · obtain ⟨l2, c2, d2⟩ := K2.out.wb
            have g0 := Blk.frozen K2.out 0
            have g1 := Blk.frozen K2.out 1
            have hx128 : Hid (¬ v < wTop) := Lib.hid (by
              have h1 := HX.out
              intro h2
              have : v / 2 ^ k = 0 := Nat.div_eq_of_lt (Nat.lt_of_lt_of_le h2 (show wTop ≤ 2 ^ k from Nat.le_trans (by decide : wTop ≤ 2 ^ 128) (Nat.pow_le_pow_right (by decide) h128)))
              rw [this] at h1
              omega)
            go_wp2_with fail
            simp [bodyPost, results, Tryd.results50, go_sem, c2, d2]
            exact ⟨rfl, (HB.out.setCell (p := ⟨b2, 0, none⟩) HG.out _).setCell (p := ⟨b2, 1, none⟩) HG.out _⟩
    · have hkn : k = n := by omega
      subst hkn
      obtain ⟨l2, c2, d2⟩ := K2.out.wb
      obtain ⟨l4, c4, d4⟩ := K4.out.wb
      have g0 := Blk.frozen K2.out 0
      have g1 := Blk.frozen K2.out 1
      have e := Nat.mod_eq_of_lt HV.out
      have HU' := Lib.hid (show v < wTop by rw [← e]; exact HU.out)
      rw [e] at c4 d4
      clear e
      go_wp2_with fail
      simp [bodyPost, results, Tryd.results50, go_sem, c2, d2]
      exact ⟨by simp [wideV], (HB.out.setCell (p := ⟨b2, 0, none⟩) HG.out _).setCell (p := ⟨b2, 1, none⟩) HG.out _⟩
end Go.Proofs.YtplbglcdmimdoaaDoor
