/- OpsJoin: the walk. -/
import Derived.Test.YtokpgopdkimmmaaGreatDoorOpAwake
import Derived.Deep.RegionWith
namespace Go.Proofs.YtokpgopdkimmmaaGreatDoor
open Go.RowKit
set_option linter.unusedVariables false
set_option linter.unusedSimpArgs false

theorem own_later {w w' : World} {base : Nat} {e : TypeId} {size n : Nat} {v : Value} {xs : List Value} (h : w.ownsRow base e size v n xs) (hb : Below w.heap.size w w') : w'.ownsRow base e size v n xs :=
  ownsRow_block h (fun g hg => hb.block g (h.lt g hg).2)
end Go.Proofs.YtokpgopdkimmmaaGreatDoor
