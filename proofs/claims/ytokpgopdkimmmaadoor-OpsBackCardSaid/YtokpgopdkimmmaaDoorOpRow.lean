/- Rows of operations; ops.Bytes of whatever slice; bytes as a string. -/
import Derived.Test.YtokpgopdkimmmaaDoorOpBytesWalk
import Derived.Test.YtokpgopdkimmmaaDoorRecs
import Derived.Laws.BytesArg
namespace Go.Proofs.YtokpgopdkimmmaaDoor
open Go.RowKit
set_option linter.unusedVariables false
set_option linter.unusedSimpArgs false

abbrev OpRow (w : World) (A : Option Addr) (ls : List OpV) : Prop := RecRow w OpV.cells 6 A ls
theorem opk : ∀ o : OpV, o.cells.size = 6 := fun _ => rfl
theorem op_ones : ∀ x : OpV, ∀ u ∈ x.cells.toList, u.oneCell' = true := by
  intro o u hu
  simp at hu
  rcases hu with rfl | rfl | rfl | rfl | rfl | rfl <;> rfl
set_option maxRecDepth 100000 in
set_option maxHeartbeats 1000000 in
theorem bytes_nil (A : Option Addr) (cap : Nat) (w : World) :
    Calls Tryd.prog 7 #[.slice A 0 cap] w fun e w' => ∃ v, e = .returned v ∧ w'.ownsRow w.heap.size 5 1 v 0 [] ∧ Below w.heap.size w w' := by
  go_enter Tryd.func7, Tryd.ntmps7
  go_wp2_with fail
  go_loopw [12] (fun i wr => i = .int .i64 0 ∧ wr = w.alloc (.cells #[.slice none 0 0] 24)) (fun _ _ => 0)
  case atStart => exact ⟨rfl, rfl⟩
  case round =>
    obtain ⟨rfl, rfl⟩ := hrel
    go_wp2_with fail
    go_ret
    exact ⟨_, rfl, World.ownsRow_nil _ _ _ _, (Below.refl _ w).alloc (Nat.le_refl _) _⟩
/-- The bytes of whatever operations. -/
theorem bytes_all (ls : List OpV) (hok : ∀ o ∈ ls, o.ok) (hl : ls.length ≤ 1000) (A : Option Addr) (cap : Nat) (w : World) (ho : OpRow w A ls) :
    Calls Tryd.prog 7 #[.slice A ls.length cap] w fun e w' => ∃ v, e = .returned v ∧ w'.ownsRow w.heap.size 5 1 v (bytesL ls).length (bvals (bytesL ls)) ∧ Below w.heap.size w w' := by
  rcases ho with rfl | ⟨g, lo, rfl, hg, h⟩
  · exact bytes_nil A cap w
  · exact bytes_any ls hok hl g lo cap w hg h
/-- Bytes as a string. -/
def strB (l : List Nat) : ByteArray := ⟨(l.map UInt8.ofNat).toArray⟩
theorem strB_size (l : List Nat) : (strB l).size = l.length := by simp [strB, ByteArray.size]
theorem strB_app (a b : List Nat) : strB a ++ strB b = strB (a ++ b) := by
  apply ByteArray.ext
  simp [strB]
theorem ofNat_inj {x y : Nat} (hx : x < 256) (hy : y < 256) (h : UInt8.ofNat x = UInt8.ofNat y) : x = y := by
  have := congrArg UInt8.toNat h
  simp only [UInt8.toNat_ofNat'] at this
  omega
theorem map_ofNat_inj : ∀ {a b : List Nat}, (∀ x ∈ a, x < 256) → (∀ x ∈ b, x < 256) → a.map UInt8.ofNat = b.map UInt8.ofNat → a = b
  | [], [], _, _, _ => rfl
  | [], _ :: _, _, _, h => by simp at h
  | _ :: _, [], _, _, h => by simp at h
  | x :: a, y :: b, ha, hb, h => by
    simp only [List.map_cons, List.cons.injEq] at h
    rw [ofNat_inj (ha x List.mem_cons_self) (hb y List.mem_cons_self) h.1, map_ofNat_inj (fun z hz => ha z (List.mem_cons_of_mem _ hz)) (fun z hz => hb z (List.mem_cons_of_mem _ hz)) h.2]
theorem strB_inj {a b : List Nat} (ha : ∀ x ∈ a, x < 256) (hb : ∀ x ∈ b, x < 256) (h : strB a = strB b) : a = b := by
  refine map_ofNat_inj ha hb ?_
  have := congrArg (fun s : ByteArray => s.data.toList) h
  simpa [strB] using this
theorem beN_lt (n : Nat) : ∀ m, ∀ x ∈ beN m n, x < 256
  | 0, _, h => by simp [beN] at h
  | m + 1, x, h => by
    rw [beN] at h
    rcases List.mem_cons.1 h with rfl | h
    · exact Nat.mod_lt _ (by decide)
    · exact beN_lt n m x h
theorem opBytes_lt (o : OpV) (h : o.ok) : ∀ x ∈ opBytes o, x < 256 := by
  intro x hx
  simp only [opBytes, List.mem_cons, List.mem_append] at hx
  rcases hx with rfl | hx | hx | hx | hx | hx
  · exact h.k
  all_goals exact beN_lt _ _ x hx
theorem bytesL_lt (ls : List OpV) (h : ∀ o ∈ ls, o.ok) : ∀ x ∈ bytesL ls, x < 256 := by
  intro x hx
  obtain ⟨o, ho, hx⟩ := List.mem_flatMap.1 hx
  exact opBytes_lt o (h o ho) x hx
/-- A row of bytes turned into a string. -/
theorem conv_own {P : Program} {w : World} {B : Nat} {v : Value} {l : List Nat} {src dst e : TypeId} (hs : P.underlying src = some (.slice e)) (he : P.underlying e = some (.int .u8)) (hd : P.underlying dst = some .string)
    (h : w.ownsRow B e 1 v l.length (bvals l)) : (convert src dst v).run P w = .ok (.string (strB l)) w := by
  rcases Nat.eq_zero_or_pos l.length with h0 | h0
  · have hl := List.eq_nil_of_length_eq_zero h0
    subst hl
    rcases h.2 with ⟨rfl, _⟩ | ⟨g, cap, cur, rfl, _⟩
    · exact run_convert_bytes_nil w src e hs he 0 0 dst hd
    · exact run_convert_bytes_arg w src e hs he g 0 0 cap [] rfl (fun i hi => absurd hi (Nat.not_lt_zero i)) dst hd
  · obtain ⟨g, cap, rfl, _, _⟩ := h.form h0
    rw [run_convert_bytes_arg w src e hs he g 0 l.length cap (l.map Int.ofNat) (by simp) (fun i hi => by
      have := h.cells (g := g) rfl i (.int .u8 ((l.map Int.ofNat).getD i 0)) (by simp [bvals, List.getElem?_map, List.getElem?_eq_getElem hi, List.getD, bval])
      unfold Addr.add at this
      split at this
      · rename_i hz; subst hz; exact this
      · exact this) dst hd]
    congr 2
    unfold strOfNums strB
    simp
theorem conv_bytes {w : World} {B : Nat} {v : Value} {l : List Nat} (h : w.ownsRow B 5 1 v l.length (bvals l)) : (convert 24 9 v).run Tryd.prog w = .ok (.string (strB l)) w :=
  conv_own Tryd.underlying24 Tryd.underlying5 Tryd.underlying9 h
end Go.Proofs.YtokpgopdkimmmaaDoor
