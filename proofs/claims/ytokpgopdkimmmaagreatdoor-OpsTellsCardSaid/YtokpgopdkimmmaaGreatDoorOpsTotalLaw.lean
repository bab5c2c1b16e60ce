/- OpsTotal: the walk. -/
import Derived.Test.YtokpgopdkimmmaaGreatDoorOpsJoinLaw
import Derived.Test.YtokpgopdkimmmaaGreatDoorRegionG
namespace Go.Proofs.YtokpgopdkimmmaaGreatDoor
open Go.RowKit
set_option linter.unusedVariables false
set_option linter.unusedSimpArgs false

/-- What Read leaves. -/
def ReadP (l : List Nat) (w w' : World) (a : Option Addr) (n c : Nat) (er : Int) : Prop :=
  (er = 0 ∧ l.length = 37 * n ∧ w'.ownsRow w.heap.size 24 6 (.slice a n c) n (flatR OpV.cells (readN n l))) ∨ (er = 270 ∧ n = 0 ∧ a = none ∧ c = 0 ∧ l.length % 37 ≠ 0)
theorem read_all (l : List Nat) (A : Option Addr) (cap : Nat) (w : World) (hn : l.length ≤ 100000) (hcap : l.length ≤ cap) (hmax : cap ≤ maxLen) (hl : ∀ x ∈ l, x < 256) (hr : RecRow w bcell 1 A l) :
    Calls Tryz.prog 16 #[.slice A l.length cap] w fun e w' => ∃ a n c er, e = .returned (.tuple #[.slice a n c, .int .i64 er]) ∧ Below w.heap.size w w' ∧ ReadP l w w' a n c er := by
  by_cases hm : l.length % 37 = 0
  · refine (read_any l (l.length / 37) A cap w (by omega) (by omega) hcap hmax hl hr).mono ?_
    rintro e w' ⟨v, rfl, ho, hb⟩
    obtain ⟨a, c, rfl⟩ := own_shape ho
    exact ⟨a, _, c, 0, rfl, hb, .inl ⟨rfl, by omega, ho⟩⟩
  · refine (read_bad l A cap w (by omega) hm).mono ?_
    rintro e w' ⟨rfl, hb⟩
    exact ⟨none, 0, 0, 270, rfl, hb, .inr ⟨rfl, rfl, rfl, rfl, hm⟩⟩
theorem conv_rec {w : World} {A : Option Addr} {l : List Nat} {cap : Nat} (h : RecRow w bcell 1 A l) : (convert 26 9 (.slice A l.length cap)).run Tryz.prog w = .ok (.string (strB l)) w := by
  rcases h with rfl | ⟨g, lo, rfl, hg, h⟩
  · cases A with
    | none => exact run_convert_bytes_nil w _ _ Tryz.underlying26 Tryz.underlying5 0 cap _ Tryz.underlying9
    | some a =>
      obtain ⟨b, o, s⟩ := a
      rw [run_convert_bytes_string w _ _ _ _ _ _ Tryz.underlying26 Tryz.underlying5 Tryz.underlying9, run_bytesToString w _ _ _ [] (by simpa using run_loadCells_list (P := Tryz.prog) w ⟨b, o, s⟩ [] (fun j v hj => by simp at hj))]
      rfl
  · rw [run_convert_bytes_arg w _ _ Tryz.underlying26 Tryz.underlying5 g lo l.length cap (l.map Int.ofNat) (by simp) (fun i hi => by
      have := h i l[i] (List.getElem?_eq_getElem hi) 0 (by decide)
      rw [Nat.mul_one, Nat.add_zero] at this
      rw [this]
      simp [bcell, bval, List.getD, List.getElem?_map, List.getElem?_eq_getElem hi]) _ Tryz.underlying9]
    congr 2
    unfold strOfNums strB
    simp
theorem str_eta (s : ByteArray) : (⟨s.data.toList.toArray⟩ : ByteArray) = s := by apply ByteArray.ext; simp
end Go.Proofs.YtokpgopdkimmmaaGreatDoor
