/-
  No cell of these rows narrows 'for every input' (looked for: loops, veiled, ifaces, maps, wideKeys, modest, calm, conditions, laid).
  DERIVED. THE GIVEN ROWS OF THIS SEAT. 11 by the template 'for every input the law returns true; each argument reads behind the call as it read before'; 0 by the template 'total and deterministic' (their statements: YtjpemijonjmcdaaTotals.lean).
  GIVEN WITH THE SEED: the statements are not yours to turn. If you find one false, say at which input.
  Laid BY PROGRAM, IN A SANDBOX (cutbox-rows.mjs): the forced cells as the released guide's own fill.sh prints them over the translation 0ac866de56003c30… (all of the seat's roots in one cut). By AI agents, Wed Nov 11 2026. No macro, syntax, notation, axiom, sorry.
-/
import Derived.Test.YtjpemijonjmcdaaChecked
import GoSem.Claim
import GoSem.ClaimJoined
import GoSem.ClaimMapViews
import Derived.JoinedTies
import Derived.KernelRfl
namespace Go.Proofs.Ytjpemijonjmcdaa
/- THE CELL 'sum', in the pinned program and in every row, IS THE sha256 OF THE DUMP (.gsa) THAT YtjpemijonjmcdaaProg.lean LOADS. Nothing in Lean hashes anything: it is a label: what it is worth is what the hold of that sum in a sandbox is worth. -/
noncomputable def Try.pinned : Pinned := { name := "ytjpemijonjmcdaa", sum := "0ac866de56003c30890caed1b7ae26d81e40df381cae54bc630c28ddd59d4271", checked := Try.checked }
namespace Rows
def none {H : Type} : Left H := { results := [], args := [] }

/-- 'gridironlaw07.StackTells': WHATEVER THE INPUT: true; the input reads as it did. -/
def stackTellsSpec : ChangeSpec := { name := "stackTells", fn := fun _ => fun
  | [d1, d2, d3, d4] => { results := [.lit (.bool true)], args := [d1, d2, d3, d4] }
  | _ => none }
def stackTellsRow : OpenClaim := { program := "ytjpemijonjmcdaa", sum := "0ac866de56003c30890caed1b7ae26d81e40df381cae54bc630c28ddd59d4271", func := "gridiron/gridironlaw07.StackTells", spec := "stackTells", unfollowed := true, recurses := true, apart := false }
def StackTellsSaid : Prop := stackTellsRow.holds Try.pinned (OpenSpec.ofChange stackTellsSpec)

/-- ITS FALSE NEIGHBOUR: 'it returns false'. Refute it at one input. -/
def stackTellsWrong : ChangeSpec := { name := "stackTells", fn := fun _ => fun
  | [d1, d2, d3, d4] => { results := [.lit (.bool false)], args := [d1, d2, d3, d4] }
  | _ => none }
def StackTellsWrongFalsely : Prop := stackTellsRow.holds Try.pinned (OpenSpec.ofChange stackTellsWrong)

/-- 'gridironlaw07.StackOrder': WHATEVER THE INPUT: true; the input reads as it did. -/
def stackOrderSpec : ChangeSpec := { name := "stackOrder", fn := fun _ => fun
  | [d] => { results := [.lit (.bool true)], args := [d] }
  | _ => none }
def stackOrderRow : OpenClaim := { program := "ytjpemijonjmcdaa", sum := "0ac866de56003c30890caed1b7ae26d81e40df381cae54bc630c28ddd59d4271", func := "gridiron/gridironlaw07.StackOrder", spec := "stackOrder", unfollowed := true, recurses := true, apart := false }
def StackOrderSaid : Prop := stackOrderRow.holds Try.pinned (OpenSpec.ofChange stackOrderSpec)

/-- ITS FALSE NEIGHBOUR: 'it returns false'. Refute it at one input. -/
def stackOrderWrong : ChangeSpec := { name := "stackOrder", fn := fun _ => fun
  | [d] => { results := [.lit (.bool false)], args := [d] }
  | _ => none }
def StackOrderWrongFalsely : Prop := stackOrderRow.holds Try.pinned (OpenSpec.ofChange stackOrderWrong)

/-- 'gridironlaw07.StackWhole': WHATEVER THE INPUT: true; the input reads as it did. -/
def stackWholeSpec : ChangeSpec := { name := "stackWhole", fn := fun _ => fun
  | [d] => { results := [.lit (.bool true)], args := [d] }
  | _ => none }
def stackWholeRow : OpenClaim := { program := "ytjpemijonjmcdaa", sum := "0ac866de56003c30890caed1b7ae26d81e40df381cae54bc630c28ddd59d4271", func := "gridiron/gridironlaw07.StackWhole", spec := "stackWhole", unfollowed := true, recurses := true, apart := false }
def StackWholeSaid : Prop := stackWholeRow.holds Try.pinned (OpenSpec.ofChange stackWholeSpec)

/-- ITS FALSE NEIGHBOUR: 'it returns false'. Refute it at one input. -/
def stackWholeWrong : ChangeSpec := { name := "stackWhole", fn := fun _ => fun
  | [d] => { results := [.lit (.bool false)], args := [d] }
  | _ => none }
def StackWholeWrongFalsely : Prop := stackWholeRow.holds Try.pinned (OpenSpec.ofChange stackWholeWrong)

/-- 'gridironlaw07.StackErrors': WHATEVER THE INPUT: true; the input reads as it did. -/
def stackErrorsSpec : ChangeSpec := { name := "stackErrors", fn := fun _ => fun
  | [d1, d2, d3, d4] => { results := [.lit (.bool true)], args := [d1, d2, d3, d4] }
  | _ => none }
def stackErrorsRow : OpenClaim := { program := "ytjpemijonjmcdaa", sum := "0ac866de56003c30890caed1b7ae26d81e40df381cae54bc630c28ddd59d4271", func := "gridiron/gridironlaw07.StackErrors", spec := "stackErrors", unfollowed := true, recurses := true, apart := false }
def StackErrorsSaid : Prop := stackErrorsRow.holds Try.pinned (OpenSpec.ofChange stackErrorsSpec)

/-- ITS FALSE NEIGHBOUR: 'it returns false'. Refute it at one input. -/
def stackErrorsWrong : ChangeSpec := { name := "stackErrors", fn := fun _ => fun
  | [d1, d2, d3, d4] => { results := [.lit (.bool false)], args := [d1, d2, d3, d4] }
  | _ => none }
def StackErrorsWrongFalsely : Prop := stackErrorsRow.holds Try.pinned (OpenSpec.ofChange stackErrorsWrong)

/-- 'gridironlaw05.PoolForest': WHATEVER THE INPUT: true; the input reads as it did. -/
def poolForestSpec : ChangeSpec := { name := "poolForest", fn := fun _ => fun
  | [d] => { results := [.lit (.bool true)], args := [d] }
  | _ => none }
def poolForestRow : OpenClaim := { program := "ytjpemijonjmcdaa", sum := "0ac866de56003c30890caed1b7ae26d81e40df381cae54bc630c28ddd59d4271", func := "gridiron/gridironlaw05.PoolForest", spec := "poolForest", unfollowed := true, recurses := true, apart := false }
def PoolForestSaid : Prop := poolForestRow.holds Try.pinned (OpenSpec.ofChange poolForestSpec)

/-- ITS FALSE NEIGHBOUR: 'it returns false'. Refute it at one input. -/
def poolForestWrong : ChangeSpec := { name := "poolForest", fn := fun _ => fun
  | [d] => { results := [.lit (.bool false)], args := [d] }
  | _ => none }
def PoolForestWrongFalsely : Prop := poolForestRow.holds Try.pinned (OpenSpec.ofChange poolForestWrong)

/-- 'gridironlaw05.PoolRight': WHATEVER THE INPUT: true; the input reads as it did. -/
def poolRightSpec : ChangeSpec := { name := "poolRight", fn := fun _ => fun
  | [d] => { results := [.lit (.bool true)], args := [d] }
  | _ => none }
def poolRightRow : OpenClaim := { program := "ytjpemijonjmcdaa", sum := "0ac866de56003c30890caed1b7ae26d81e40df381cae54bc630c28ddd59d4271", func := "gridiron/gridironlaw05.PoolRight", spec := "poolRight", unfollowed := true, recurses := true, apart := false }
def PoolRightSaid : Prop := poolRightRow.holds Try.pinned (OpenSpec.ofChange poolRightSpec)

/-- ITS FALSE NEIGHBOUR: 'it returns false'. Refute it at one input. -/
def poolRightWrong : ChangeSpec := { name := "poolRight", fn := fun _ => fun
  | [d] => { results := [.lit (.bool false)], args := [d] }
  | _ => none }
def PoolRightWrongFalsely : Prop := poolRightRow.holds Try.pinned (OpenSpec.ofChange poolRightWrong)

/-- 'gridironlaw05.PoolHeight': WHATEVER THE INPUT: true; the input reads as it did. -/
def poolHeightSpec : ChangeSpec := { name := "poolHeight", fn := fun _ => fun
  | [d] => { results := [.lit (.bool true)], args := [d] }
  | _ => none }
def poolHeightRow : OpenClaim := { program := "ytjpemijonjmcdaa", sum := "0ac866de56003c30890caed1b7ae26d81e40df381cae54bc630c28ddd59d4271", func := "gridiron/gridironlaw05.PoolHeight", spec := "poolHeight", unfollowed := true, recurses := true, apart := false }
def PoolHeightSaid : Prop := poolHeightRow.holds Try.pinned (OpenSpec.ofChange poolHeightSpec)

/-- ITS FALSE NEIGHBOUR: 'it returns false'. Refute it at one input. -/
def poolHeightWrong : ChangeSpec := { name := "poolHeight", fn := fun _ => fun
  | [d] => { results := [.lit (.bool false)], args := [d] }
  | _ => none }
def PoolHeightWrongFalsely : Prop := poolHeightRow.holds Try.pinned (OpenSpec.ofChange poolHeightWrong)

/-- 'gridironlaw05.PoolOwn': WHATEVER THE INPUT: true; the input reads as it did. -/
def poolOwnSpec : ChangeSpec := { name := "poolOwn", fn := fun _ => fun
  | [d] => { results := [.lit (.bool true)], args := [d] }
  | _ => none }
def poolOwnRow : OpenClaim := { program := "ytjpemijonjmcdaa", sum := "0ac866de56003c30890caed1b7ae26d81e40df381cae54bc630c28ddd59d4271", func := "gridiron/gridironlaw05.PoolOwn", spec := "poolOwn", unfollowed := true, recurses := true, apart := false }
def PoolOwnSaid : Prop := poolOwnRow.holds Try.pinned (OpenSpec.ofChange poolOwnSpec)

/-- ITS FALSE NEIGHBOUR: 'it returns false'. Refute it at one input. -/
def poolOwnWrong : ChangeSpec := { name := "poolOwn", fn := fun _ => fun
  | [d] => { results := [.lit (.bool false)], args := [d] }
  | _ => none }
def PoolOwnWrongFalsely : Prop := poolOwnRow.holds Try.pinned (OpenSpec.ofChange poolOwnWrong)

/-- 'gridironlaw05.PoolTells': WHATEVER THE INPUT: true; the input reads as it did. -/
def poolTellsSpec : ChangeSpec := { name := "poolTells", fn := fun _ => fun
  | [d1, d2, d3] => { results := [.lit (.bool true)], args := [d1, d2, d3] }
  | _ => none }
def poolTellsRow : OpenClaim := { program := "ytjpemijonjmcdaa", sum := "0ac866de56003c30890caed1b7ae26d81e40df381cae54bc630c28ddd59d4271", func := "gridiron/gridironlaw05.PoolTells", spec := "poolTells", unfollowed := true, recurses := true, apart := false }
def PoolTellsSaid : Prop := poolTellsRow.holds Try.pinned (OpenSpec.ofChange poolTellsSpec)

/-- ITS FALSE NEIGHBOUR: 'it returns false'. Refute it at one input. -/
def poolTellsWrong : ChangeSpec := { name := "poolTells", fn := fun _ => fun
  | [d1, d2, d3] => { results := [.lit (.bool false)], args := [d1, d2, d3] }
  | _ => none }
def PoolTellsWrongFalsely : Prop := poolTellsRow.holds Try.pinned (OpenSpec.ofChange poolTellsWrong)

/-- 'gridironlaw05.PoolRoom': WHATEVER THE INPUT: true; the input reads as it did. -/
def poolRoomSpec : ChangeSpec := { name := "poolRoom", fn := fun _ => fun
  | [d] => { results := [.lit (.bool true)], args := [d] }
  | _ => none }
def poolRoomRow : OpenClaim := { program := "ytjpemijonjmcdaa", sum := "0ac866de56003c30890caed1b7ae26d81e40df381cae54bc630c28ddd59d4271", func := "gridiron/gridironlaw05.PoolRoom", spec := "poolRoom", unfollowed := true, recurses := true, apart := false }
def PoolRoomSaid : Prop := poolRoomRow.holds Try.pinned (OpenSpec.ofChange poolRoomSpec)

/-- ITS FALSE NEIGHBOUR: 'it returns false'. Refute it at one input. -/
def poolRoomWrong : ChangeSpec := { name := "poolRoom", fn := fun _ => fun
  | [d] => { results := [.lit (.bool false)], args := [d] }
  | _ => none }
def PoolRoomWrongFalsely : Prop := poolRoomRow.holds Try.pinned (OpenSpec.ofChange poolRoomWrong)

/-- 'gridironlaw07.StackRoots': WHATEVER THE INPUT: true; the input reads as it did. -/
def stackRootsSpec : ChangeSpec := { name := "stackRoots", fn := fun _ => fun
  | [d] => { results := [.lit (.bool true)], args := [d] }
  | _ => none }
def stackRootsRow : OpenClaim := { program := "ytjpemijonjmcdaa", sum := "0ac866de56003c30890caed1b7ae26d81e40df381cae54bc630c28ddd59d4271", func := "gridiron/gridironlaw07.StackRoots", spec := "stackRoots", unfollowed := true, recurses := true, apart := false }
def StackRootsSaid : Prop := stackRootsRow.holds Try.pinned (OpenSpec.ofChange stackRootsSpec)

/-- ITS FALSE NEIGHBOUR: 'it returns false'. Refute it at one input. -/
def stackRootsWrong : ChangeSpec := { name := "stackRoots", fn := fun _ => fun
  | [d] => { results := [.lit (.bool false)], args := [d] }
  | _ => none }
def StackRootsWrongFalsely : Prop := stackRootsRow.holds Try.pinned (OpenSpec.ofChange stackRootsWrong)

/- THE SECOND FORM. 'bulk': how many values and letters a reading holds, each counted each time it is reached (what is shared counts as often as it is met; a slice's spare places count too). A statement '..UptoSaid' is the law's where the arguments, and the package variables that the reading takes, are together of bulk at most 1048576: NARROWER than '..Said'. Prove '..Said' where nothing that the law and all that it calls make is longer than what came in: it says more and counts as full. Else prove '..UptoSaid'. A law counts once. -/
mutual
def uptoBulk {H : Type} : DataW H → Nat
  | .lit (.string bytes) => bytes.length + 1
  | .lit _ => 1
  | .nil => 1
  | .ptr d => uptoBulk d + 1
  | .slice elems spare => uptoBulkAll elems + uptoBulkAll spare + 1
  | .agg parts => uptoBulkAll parts + 1
  | .iface _ d => uptoBulk d + 1
  | .map entries => uptoBulkEntries entries + 1
  | .held _ => 1
def uptoBulkAll {H : Type} : List (DataW H) → Nat
  | [] => 0
  | d :: r => uptoBulk d + uptoBulkAll r
def uptoBulkEntries {H : Type} : List (Lit × DataW H) → Nat
  | [] => 0
  | x :: r => uptoBulkEntry x + uptoBulkEntries r
def uptoBulkEntry {H : Type} : Lit × DataW H → Nat
  | (.string bytes, d) => bytes.length + uptoBulk d + 1
  | (_, d) => uptoBulk d + 1
 end
def uptoSmall : (H : Type) → List (DataW H) → Bool := fun _ ds => decide (uptoBulkAll ds ≤ 1048576)
def OpenSpec.upto (s : _root_.Go.ChangeSpec) : _root_.Go.OpenSpec := { _root_.Go.OpenSpec.ofChange s with cond := some uptoSmall }

/-- 'gridironlaw07.StackTells', WHERE WHAT IT READS IS OF BULK AT MOST 1048576: true; the input reads as it did. -/
def stackTellsUptoRow : OpenClaim := { program := "ytjpemijonjmcdaa", sum := "0ac866de56003c30890caed1b7ae26d81e40df381cae54bc630c28ddd59d4271", func := "gridiron/gridironlaw07.StackTells", spec := "stackTells", unfollowed := true, recurses := true, apart := false, narrowed := true }
def StackTellsUptoSaid : Prop := stackTellsUptoRow.holds Try.pinned (OpenSpec.upto stackTellsSpec)

/-- 'gridironlaw07.StackOrder', WHERE WHAT IT READS IS OF BULK AT MOST 1048576: true; the input reads as it did. -/
def stackOrderUptoRow : OpenClaim := { program := "ytjpemijonjmcdaa", sum := "0ac866de56003c30890caed1b7ae26d81e40df381cae54bc630c28ddd59d4271", func := "gridiron/gridironlaw07.StackOrder", spec := "stackOrder", unfollowed := true, recurses := true, apart := false, narrowed := true }
def StackOrderUptoSaid : Prop := stackOrderUptoRow.holds Try.pinned (OpenSpec.upto stackOrderSpec)

/-- 'gridironlaw07.StackWhole', WHERE WHAT IT READS IS OF BULK AT MOST 1048576: true; the input reads as it did. -/
def stackWholeUptoRow : OpenClaim := { program := "ytjpemijonjmcdaa", sum := "0ac866de56003c30890caed1b7ae26d81e40df381cae54bc630c28ddd59d4271", func := "gridiron/gridironlaw07.StackWhole", spec := "stackWhole", unfollowed := true, recurses := true, apart := false, narrowed := true }
def StackWholeUptoSaid : Prop := stackWholeUptoRow.holds Try.pinned (OpenSpec.upto stackWholeSpec)

/-- 'gridironlaw07.StackErrors', WHERE WHAT IT READS IS OF BULK AT MOST 1048576: true; the input reads as it did. -/
def stackErrorsUptoRow : OpenClaim := { program := "ytjpemijonjmcdaa", sum := "0ac866de56003c30890caed1b7ae26d81e40df381cae54bc630c28ddd59d4271", func := "gridiron/gridironlaw07.StackErrors", spec := "stackErrors", unfollowed := true, recurses := true, apart := false, narrowed := true }
def StackErrorsUptoSaid : Prop := stackErrorsUptoRow.holds Try.pinned (OpenSpec.upto stackErrorsSpec)

/-- 'gridironlaw05.PoolForest', WHERE WHAT IT READS IS OF BULK AT MOST 1048576: true; the input reads as it did. -/
def poolForestUptoRow : OpenClaim := { program := "ytjpemijonjmcdaa", sum := "0ac866de56003c30890caed1b7ae26d81e40df381cae54bc630c28ddd59d4271", func := "gridiron/gridironlaw05.PoolForest", spec := "poolForest", unfollowed := true, recurses := true, apart := false, narrowed := true }
def PoolForestUptoSaid : Prop := poolForestUptoRow.holds Try.pinned (OpenSpec.upto poolForestSpec)

/-- 'gridironlaw05.PoolRight', WHERE WHAT IT READS IS OF BULK AT MOST 1048576: true; the input reads as it did. -/
def poolRightUptoRow : OpenClaim := { program := "ytjpemijonjmcdaa", sum := "0ac866de56003c30890caed1b7ae26d81e40df381cae54bc630c28ddd59d4271", func := "gridiron/gridironlaw05.PoolRight", spec := "poolRight", unfollowed := true, recurses := true, apart := false, narrowed := true }
def PoolRightUptoSaid : Prop := poolRightUptoRow.holds Try.pinned (OpenSpec.upto poolRightSpec)

/-- 'gridironlaw05.PoolHeight', WHERE WHAT IT READS IS OF BULK AT MOST 1048576: true; the input reads as it did. -/
def poolHeightUptoRow : OpenClaim := { program := "ytjpemijonjmcdaa", sum := "0ac866de56003c30890caed1b7ae26d81e40df381cae54bc630c28ddd59d4271", func := "gridiron/gridironlaw05.PoolHeight", spec := "poolHeight", unfollowed := true, recurses := true, apart := false, narrowed := true }
def PoolHeightUptoSaid : Prop := poolHeightUptoRow.holds Try.pinned (OpenSpec.upto poolHeightSpec)

/-- 'gridironlaw05.PoolOwn', WHERE WHAT IT READS IS OF BULK AT MOST 1048576: true; the input reads as it did. -/
def poolOwnUptoRow : OpenClaim := { program := "ytjpemijonjmcdaa", sum := "0ac866de56003c30890caed1b7ae26d81e40df381cae54bc630c28ddd59d4271", func := "gridiron/gridironlaw05.PoolOwn", spec := "poolOwn", unfollowed := true, recurses := true, apart := false, narrowed := true }
def PoolOwnUptoSaid : Prop := poolOwnUptoRow.holds Try.pinned (OpenSpec.upto poolOwnSpec)

/-- 'gridironlaw05.PoolTells', WHERE WHAT IT READS IS OF BULK AT MOST 1048576: true; the input reads as it did. -/
def poolTellsUptoRow : OpenClaim := { program := "ytjpemijonjmcdaa", sum := "0ac866de56003c30890caed1b7ae26d81e40df381cae54bc630c28ddd59d4271", func := "gridiron/gridironlaw05.PoolTells", spec := "poolTells", unfollowed := true, recurses := true, apart := false, narrowed := true }
def PoolTellsUptoSaid : Prop := poolTellsUptoRow.holds Try.pinned (OpenSpec.upto poolTellsSpec)

/-- 'gridironlaw05.PoolRoom', WHERE WHAT IT READS IS OF BULK AT MOST 1048576: true; the input reads as it did. -/
def poolRoomUptoRow : OpenClaim := { program := "ytjpemijonjmcdaa", sum := "0ac866de56003c30890caed1b7ae26d81e40df381cae54bc630c28ddd59d4271", func := "gridiron/gridironlaw05.PoolRoom", spec := "poolRoom", unfollowed := true, recurses := true, apart := false, narrowed := true }
def PoolRoomUptoSaid : Prop := poolRoomUptoRow.holds Try.pinned (OpenSpec.upto poolRoomSpec)

/-- 'gridironlaw07.StackRoots', WHERE WHAT IT READS IS OF BULK AT MOST 1048576: true; the input reads as it did. -/
def stackRootsUptoRow : OpenClaim := { program := "ytjpemijonjmcdaa", sum := "0ac866de56003c30890caed1b7ae26d81e40df381cae54bc630c28ddd59d4271", func := "gridiron/gridironlaw07.StackRoots", spec := "stackRoots", unfollowed := true, recurses := true, apart := false, narrowed := true }
def StackRootsUptoSaid : Prop := stackRootsUptoRow.holds Try.pinned (OpenSpec.upto stackRootsSpec)

end Rows
end Go.Proofs.Ytjpemijonjmcdaa
