/- ops.Text: an operation's line. -/
import Derived.Test.YtokpgopdkimmmaaGreatDoorOpSet
import Derived.Test.YtokpgopdkimmmaaGreatDoorOpNums
import Derived.Deep.Cut
namespace Go.Proofs.YtokpgopdkimmmaaGreatDoor
open Go.RowKit
set_option linter.unusedVariables false
set_option linter.unusedSimpArgs false

/-- What a letter stands for. -/
def OpV.at (o : OpV) (c : UInt8) : Int := if c = 105 then (o.id : Int) else o.num (c.toNat - 97)
/-- Nothing but a code. -/
def codeOnly (k : Nat) : OpV := ⟨k, 0, 0, 0, 0, 0⟩
/-- What is laid of some letters. -/
def onlyL (o : OpV) (ls : List UInt8) : OpV := ls.foldl (fun p c => p.put c (o.at c)) (codeOnly o.k)
theorem onlyL_snoc (o : OpV) (ls : List UInt8) (c : UInt8) : onlyL o (ls ++ [c]) = (onlyL o ls).put c (o.at c) := by unfold onlyL; rw [List.foldl_append]; rfl
/-- A letter set to what it says. -/
theorem set_say (b : Nat) (p o : OpV) (ho : o.ok) (c : UInt8) (hc : LetB c) (w : World) (hb : OpB w b p) (he : ErrVars w) : Calls Tryz.prog 36 #[fldV b, .int .i32 (c.toNat : Int), .string ⟨(sayL o c).toArray⟩] w fun e w' =>
    e = .returned (.bool true) ∧ OpB w' b (p.put c (o.at c)) ∧ w.grownBy w' (some b) := by
  have hsz : (⟨(sayL o c).toArray⟩ : ByteArray).size ≤ 1000000 := by rw [mk_size]; have := say_len ho c; omega
  have hd : (⟨(sayL o c).toArray⟩ : ByteArray).data.toList = sayL o c := rfl
  rcases hc with rfl | ⟨h1, h2⟩
  · have hs : Lib.parseUintB 32 (sayL o 105) = .ok o.id := by
      unfold sayL idL
      rw [if_pos rfl]
      exact parseU_dec 32 (by decide) _ (by have := ho.id; omega)
    refine (set_id b p _ hsz w hb he).mono ?_
    rintro e w' ⟨x, ok, rfl, hx, g1, g2, g3, g4⟩
    rw [hd, hs] at g1 g2
    cases ok with
    | false => exact absurd rfl (g2 rfl o.id)
    | true =>
      have : o.id = x := by have := g1.1 rfl; injection this
      subst this
      exact ⟨rfl, g3, g4⟩
  · obtain ⟨j, hj⟩ : ∃ j, c.toNat = 97 + j := ⟨c.toNat - 97, by omega⟩
    have hcj : c = UInt8.ofNat (97 + j) := by
      apply UInt8.toNat_inj.1
      rw [hj, UInt8.toNat_ofNat']
      omega
    have hne : c ≠ 105 := fun h => by subst h; have e : (105 : UInt8).toNat = 105 := rfl; omega
    have hs : Lib.parseIntB 64 (sayL o c) = .ok (o.num j) := by
      unfold sayL numL
      rw [if_neg hne, hj, Nat.add_sub_cancel_left]
      exact parseI_itoa _ (ho.num j).1 (ho.num j).2
    have ha : o.at c = o.num j := by
      unfold OpV.at
      rw [if_neg hne, hj, Nat.add_sub_cancel_left]
    have h := set_num b j (by omega) p ⟨(sayL o c).toArray⟩ hsz w hb he
    rw [← hcj] at h
    rw [hj, ha]
    refine h.mono ?_
    rintro e w' ⟨x, ok, rfl, hx, g1, g2, g3, g4⟩
    rw [hd, hs] at g1 g2
    cases ok with
    | false => exact absurd rfl (g2 rfl _)
    | true =>
      have : o.num j = x := by have := g1.1 rfl; injection this
      rw [this]
      exact ⟨rfl, g3, g4⟩
theorem letOf_ok : ∀ j : Fin 20, ∀ c ∈ letOf (j.val + 1), c = 105 ∨ (97 ≤ c.toNat ∧ c.toNat ≤ 100) := by decide
theorem letOf_let (k : Nat) : ∀ c ∈ letOf k, LetB c := by
  intro c hc
  rcases Nat.eq_zero_or_pos k with h | h
  · subst h; simp [letOf] at hc
  · rcases Nat.lt_or_ge 20 k with h2 | h2
    · unfold letOf at hc
      rw [if_neg (by omega), List.getD_eq_getElem?_getD, List.getElem?_eq_none (by simp [opTab]; omega)] at hc
      simp at hc
    · obtain ⟨j, rfl⟩ : ∃ j, k = j + 1 := ⟨k - 1, by omega⟩
      exact letOf_ok ⟨j, by omega⟩ c hc
/-- Are the fields the same? -/
def sameB (p o : OpV) : Bool := decide (p.k = o.k) && decide (p.a = o.a) && decide (p.b = o.b) && decide (p.c = o.c) && decide (p.d = o.d) && decide (p.id = o.id)
def opWord : List UInt8 := [111, 112, 32]
/-- An operation's line. -/
def textL' (o : OpV) : List UInt8 :=
  if isCode o.k = true ∧ sameB (onlyL o (letOf o.k)) o = true then toldL o (wordOf o.k) (letOf o.k) else toldL o (opWord ++ Lib.decDigits o.k) [105, 97, 98, 99, 100]
end Go.Proofs.YtokpgopdkimmmaaGreatDoor
