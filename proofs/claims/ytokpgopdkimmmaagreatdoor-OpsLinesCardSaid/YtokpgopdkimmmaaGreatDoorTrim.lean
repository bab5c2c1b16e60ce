/- strings.Trim by a set of ASCII bytes, of a string that has nothing else: nothing is left. -/
import Derived.Test.YtokpgopdkimmmaaGreatDoorBase
import Derived.Test.YtokpgopdkimmmaaGreatDoorShelfTrim
namespace Go.Proofs.YtokpgopdkimmmaaGreatDoor
open Go.RowKit
set_option linter.unusedVariables false

theorem dropWhile_all (p : UInt8 → Bool) : ∀ (l : List UInt8), (∀ c ∈ l, p c = true) → l.dropWhile p = []
  | [], _ => rfl
  | c :: l, h => by rw [List.dropWhile_cons_of_pos (h c List.mem_cons_self)]; exact dropWhile_all p l fun x hx => h x (List.mem_cons_of_mem _ hx)
theorem trim_all (l cut : List UInt8) (hl : l.length ≤ 1000000) (hcs : cut.length < 4294967281) (hascii : ∀ c ∈ cut, c.toNat < 128) (hin : ∀ c ∈ l, c ∈ cut) (w : World) :
    Calls Tryz.prog 23 #[.string ⟨l.toArray⟩, .string ⟨cut.toArray⟩] w fun e w' => e = .returned (.string ⟨#[]⟩) ∧ Below w.heap.size w w' := by
  have hz : ∀ x : List UInt8, (⟨x.toArray⟩ : ByteArray).size = x.length := fun x => by simp [ByteArray.size]
  have h := Any.strings_Trim_laid Tryz.lays160 (by kernel_rfl) ⟨l.toArray⟩ ⟨cut.toArray⟩ w (by rw [hz]; omega) (by rw [hz]; omega) (fun j b hb => hascii b (List.mem_of_getElem? hb))
  have e : Lib.trimS l cut = [] := by
    unfold Lib.trimS Lib.trimLeftS Lib.trimRightS
    rw [dropWhile_all _ l.reverse (fun c hc => by simpa using hin c (by simpa using hc))]
    rfl
  have e2 : Lib.trimS (⟨l.toArray⟩ : ByteArray).data.toList (⟨cut.toArray⟩ : ByteArray).data.toList = [] := e
  rw [e2] at h
  exact h
end Go.Proofs.YtokpgopdkimmmaaGreatDoor
