/- wide.Cmp: which number is more. -/
import Derived.Test.YtokpgopdkimmmaaGreatDoorWide
import Derived.Deep.RegionHeld3
namespace Go.Proofs.YtokpgopdkimmmaaGreatDoor
open Go.RowKit Go.Shelf
set_option linter.unusedVariables false
set_option linter.unusedSimpArgs false

def orI (u v : Int) : Int := if u = 0 then v else u
def cmpNI (x y : Int) : Int := if x < y then -1 else if y < x then 1 else 0
end Go.Proofs.YtokpgopdkimmmaaGreatDoor
