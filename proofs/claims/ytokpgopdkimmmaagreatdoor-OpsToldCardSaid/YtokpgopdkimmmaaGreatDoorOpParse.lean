/- What Parse reads of a line: plain law. -/
import Derived.Test.YtokpgopdkimmmaaGreatDoorOpPre
import Derived.Test.YtokpgopdkimmmaaGreatDoorOpTextWalk
namespace Go.Proofs.YtokpgopdkimmmaaGreatDoor
open Go.RowKit
set_option linter.unusedVariables false

def setL (o : OpV) (c : UInt8) (v : List UInt8) : Option OpV :=
  if c = 105 then (match Lib.parseUintB 32 v with | .ok x => some (o.put c (x : Int)) | _ => none)
  else (match Lib.parseIntB 64 v with | .ok x => some (o.put c x) | _ => none)
def setAll (o : OpV) : List UInt8 → List (List UInt8) → Option OpV
  | [], [] => some o
  | c :: cs, v :: vs => (setL o c v).bind fun o' => setAll o' cs vs
  | _, _ => none
def allLet : List UInt8 := [105, 97, 98, 99, 100]
/-- The code, the letters and what is read for them. -/
def headOp : List (List UInt8) → Option (Nat × List UInt8 × List (List UInt8))
  | [] => none
  | w0 :: rest => if w0 = [111, 112] ∧ rest ≠ [] then
      (match rest with
        | [] => none
        | v :: args => (match Lib.parseUintB 8 v with | .ok n => some (n, allLet, args) | _ => none))
    else if idxP (w0 ++ [45]) opRows < 0 then none else some ((idxP (w0 ++ [45]) opRows).toNat + 1, letOf ((idxP (w0 ++ [45]) opRows).toNat + 1), rest)
theorem headOp_cons (w0 : List UInt8) (rest : List (List UInt8)) : headOp (w0 :: rest) = if w0 = [111, 112] ∧ rest ≠ [] then
      (match rest with
        | [] => none
        | v :: args => (match Lib.parseUintB 8 v with | .ok n => some (n, allLet, args) | _ => none))
    else if idxP (w0 ++ [45]) opRows < 0 then none else some ((idxP (w0 ++ [45]) opRows).toNat + 1, letOf ((idxP (w0 ++ [45]) opRows).toNat + 1), rest) := rfl
theorem headOp_op (v : List UInt8) (args : List (List UInt8)) : headOp ([111, 112] :: v :: args) = (match Lib.parseUintB 8 v with | .ok n => some (n, allLet, args) | _ => none) := by
  rw [headOp_cons, if_pos ⟨rfl, List.cons_ne_nil _ _⟩]
def candOp (ws : List (List UInt8)) : Option OpV := (headOp ws).bind fun h => if h.2.2.length = h.2.1.length then setAll (codeOnly h.1) h.2.1 h.2.2 else none
/-- What Parse reads. -/
def parseOp (s : List UInt8) : Option OpV := (candOp (splitW s)).bind fun o => if textL' o = s then some o else none
theorem in64_zero : In64 0 := ⟨by decide, by decide⟩
theorem codeOnly_ok {k : Nat} (h : k < 256) : (codeOnly k).ok := ⟨h, in64_zero, in64_zero, in64_zero, in64_zero, Nat.zero_lt_succ _⟩
theorem put_id_ok {o : OpV} (ho : o.ok) {x : Nat} (hx : x < 4294967296) : (o.put 105 (x : Int)).ok := by
  unfold OpV.put
  rw [if_pos rfl]
  exact ⟨ho.k, ho.a, ho.b, ho.c, ho.d, by show (x : Int).toNat < _; omega⟩
theorem put_num_ok {o : OpV} (ho : o.ok) {c : UInt8} (hc : c ≠ 105) {x : Int} (hx : In64 x) : (o.put c x).ok := by
  unfold OpV.put
  rw [if_neg hc]
  split
  · exact ⟨ho.k, hx, ho.b, ho.c, ho.d, ho.id⟩
  · split
    · exact ⟨ho.k, ho.a, hx, ho.c, ho.d, ho.id⟩
    · split
      · exact ⟨ho.k, ho.a, ho.b, hx, ho.d, ho.id⟩
      · exact ⟨ho.k, ho.a, ho.b, ho.c, hx, ho.id⟩
/-- A letter set to whatever bytes. -/
theorem set_any (b : Nat) (p : OpV) (hp : p.ok) (c : UInt8) (hc : LetB c) (v : List UInt8) (hv : v.length ≤ 1000000) (w : World) (hb : OpB w b p) (he : ErrVars w) : Calls Tryz.prog 36 #[fldV b, .int .i32 (c.toNat : Int), .string ⟨v.toArray⟩] w fun e w' =>
    ∃ p' : OpV, e = .returned (.bool (setL p c v).isSome) ∧ (∀ q, setL p c v = some q → q = p') ∧ p'.ok ∧ OpB w' b p' ∧ w.grownBy w' (some b) := by
  have hsz : (⟨v.toArray⟩ : ByteArray).size ≤ 1000000 := by rw [mk_size]; exact hv
  have hd : (⟨v.toArray⟩ : ByteArray).data.toList = v := rfl
  rcases hc with rfl | ⟨h1, h2⟩
  · refine (set_id b p _ hsz w hb he).mono ?_
    rintro e w' ⟨x, ok, rfl, hx, g1, g2, g3, g4⟩
    rw [hd] at g1 g2
    refine ⟨_, ?_, ?_, put_id_ok hp hx, g3, g4⟩
    · unfold setL
      rw [if_pos rfl]
      cases ok with
      | true => rw [g1.1 rfl]; rfl
      | false =>
        cases h : Lib.parseUintB 32 v with
        | ok u => exact absurd h (g2 rfl u)
        | _ => rfl
    · intro q hq
      unfold setL at hq
      rw [if_pos rfl] at hq
      cases ok with
      | true =>
        rw [g1.1 rfl] at hq
        exact (Option.some.inj hq).symm
      | false =>
        cases h : Lib.parseUintB 32 v with
        | ok u => exact absurd h (g2 rfl u)
        | _ => rw [h] at hq; cases hq
  · obtain ⟨j, hj⟩ : ∃ j, c.toNat = 97 + j := ⟨c.toNat - 97, by omega⟩
    have hcj : c = UInt8.ofNat (97 + j) := by
      apply UInt8.toNat_inj.1
      rw [hj, UInt8.toNat_ofNat']
      omega
    have hne : c ≠ 105 := fun h => by subst h; have e : (105 : UInt8).toNat = 105 := rfl; omega
    have h := set_num b j (by omega) p ⟨v.toArray⟩ hsz w hb he
    rw [← hcj] at h
    rw [hj]
    refine h.mono ?_
    rintro e w' ⟨x, ok, rfl, hx, g1, g2, g3, g4⟩
    rw [hd] at g1 g2
    refine ⟨_, ?_, ?_, put_num_ok hp hne hx, g3, g4⟩
    · unfold setL
      rw [if_neg hne]
      cases ok with
      | true => rw [g1.1 rfl]; rfl
      | false =>
        cases h : Lib.parseIntB 64 v with
        | ok u => exact absurd h (g2 rfl u)
        | _ => rfl
    · intro q hq
      unfold setL at hq
      rw [if_neg hne] at hq
      cases ok with
      | true =>
        rw [g1.1 rfl] at hq
        exact (Option.some.inj hq).symm
      | false =>
        cases h : Lib.parseIntB 64 v with
        | ok u => exact absurd h (g2 rfl u)
        | _ => rw [h] at hq; cases hq
end Go.Proofs.YtokpgopdkimmmaaGreatDoor
