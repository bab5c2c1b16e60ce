/- A reply's line: what Told tells. -/
import Derived.Test.YtokpgopdkimmmaaGreatDoorOpTextWalk
namespace Go.Proofs.YtokpgopdkimmmaaGreatDoor
open Go.RowKit
set_option linter.unusedVariables false

/-- A reply. -/
structure RepV where
  err : Int
  ids : List Nat
  cnt : Int
  yes : Bool
  wide : Nat
structure RepV.ok (r : RepV) : Prop where
  err : In64 r.err
  cnt : In64 r.cnt
  ids : ∀ x ∈ r.ids, x < 4294967296
  wide : r.wide < wTop
def errW : List UInt8 := [101, 114, 114, 111, 114, 32]
def yesW : List UInt8 := [121, 101, 115]
def noW : List UInt8 := [110, 111]
def noneW : List UInt8 := [110, 111, 110, 101]
def idsL (ids : List Nat) : List UInt8 := if ids = [] then noneW else Lib.join (ids.map Lib.decDigits) [32]
def isCount (k : Nat) : Bool := (decide (1 ≤ k) && decide (k ≤ 6)) || decide (k = 8) || decide (k = 12) || decide (k = 16)
/-- A reply's line. -/
def toldR (k : Nat) (r : RepV) : List UInt8 :=
  if r.err ≠ 0 then errW ++ Lib.itoa r.err
  else if isCount k = true then Lib.itoa r.cnt
  else if k = 10 then (if r.yes = true then yesW else noW)
  else if k = 18 ∨ k = 19 then textL r.wide
  else if isCode k = true then idsL r.ids
  else []
end Go.Proofs.YtokpgopdkimmmaaGreatDoor
