/-
  DERIVED. GIVEN WITH THE SEED: THE CARDS: each row of YtokpgopdkimmmaaGreatDoorRows.lean that lists a variable, with what it lists TIED to the program's text (the seventh form; the later family's looks); each row that meets fmt, with fmt's text TOLD by the authors' own Lean function (tested against real Go, not proved from fmt's source: count such statements apart). THE CARD IS WHAT COUNTS. Prove the row's statement (the work); the ties are given (YtokpgopdkimmmaaGreatDoorTie.lean); close each card by the builder's one call (the guide's Derived/Test/ToyasCard.lean, 'card_holds'). Laid BY PROGRAM, IN A SANDBOX (cutbox-door.mjs). By AI agents, Wed Nov 11 2026. No macro, syntax, notation, axiom, sorry.
-/
import Derived.Test.YtokpgopdkimmmaaGreatDoorRows
import GoSem.ClaimSeven
namespace Go.Proofs.YtokpgopdkimmmaaGreatDoor
namespace Rows

/-- THE TIED CARD OF 'gridironlaw27.OpsTells'. -/
def opsTellsCard : Claim7 := { stood := { row := opsTellsRow, standIns := [], harness := (true, "f5264821ecca0198e842052a3f41ed856c5491a89b2cdd38ec33a7bf691e7d41"), looks := true }, kinds := [], alts := [], laidByText := true, laidKinds := [.data, .data, .data, .data, .sentinel, .sentinel, .listed, .data, .pinned], laidTests := true, laidLooks := .later }
def OpsTellsCardSaid : Prop := Claim7.holds Tryz.pinned (.plain (OpenSpec.ofChange opsTellsSpec)) opsTellsCard

/-- THE TIED CARD OF 'gridironlaw27.OpsLines'. -/
def opsLinesCard : Claim7 := { stood := { row := opsLinesRow, standIns := [], harness := (true, "f5264821ecca0198e842052a3f41ed856c5491a89b2cdd38ec33a7bf691e7d41"), looks := true }, kinds := [], alts := [], laidByText := true, laidKinds := [.data, .data, .data, .data, .sentinel, .sentinel, .listed, .data, .pinned], laidTests := true, laidLooks := .later }
def OpsLinesCardSaid : Prop := Claim7.holds Tryz.pinned (.plain (OpenSpec.ofChange opsLinesSpec)) opsLinesCard

/-- THE TIED CARD OF 'gridironlaw27.OpsTold'. -/
def opsToldCard : Claim7 := { stood := { row := opsToldRow, standIns := [], harness := (true, "f5264821ecca0198e842052a3f41ed856c5491a89b2cdd38ec33a7bf691e7d41"), looks := true }, kinds := [], alts := [], laidByText := true, laidKinds := [.data, .data, .data, .data, .sentinel, .sentinel, .listed, .data, .pinned], laidTests := true, laidLooks := .later }
def OpsToldCardSaid : Prop := Claim7.holds Tryz.pinned (.plain (OpenSpec.ofChange opsToldSpec)) opsToldCard

/-- THE TIED CARD OF 'gridironlaw27.OpsWrong'. -/
def opsWrongCard : Claim7 := { stood := { row := opsWrongRow, standIns := [], harness := (true, "f5264821ecca0198e842052a3f41ed856c5491a89b2cdd38ec33a7bf691e7d41"), looks := true }, kinds := [], alts := [], laidByText := true, laidKinds := [.data, .data, .data, .data, .sentinel, .sentinel, .listed, .data, .pinned], laidTests := true, laidLooks := .later }
def OpsWrongCardSaid : Prop := Claim7.holds Tryz.pinned (.plain (OpenSpec.ofChange opsWrongSpec)) opsWrongCard

/-- THE SECOND FORM's CARD OF 'gridironlaw27.OpsTells'. -/
def opsTellsUptoCard : Claim7 := { stood := { row := opsTellsUptoRow, standIns := [], harness := (true, "f5264821ecca0198e842052a3f41ed856c5491a89b2cdd38ec33a7bf691e7d41"), looks := true }, kinds := [], alts := [], laidByText := true, laidKinds := [.data, .data, .data, .data, .sentinel, .sentinel, .listed, .data, .pinned], laidTests := true, laidLooks := .later }
def OpsTellsUptoCardSaid : Prop := Claim7.holds Tryz.pinned (.plain (OpenSpec.upto opsTellsSpec)) opsTellsUptoCard

/-- THE SECOND FORM's CARD OF 'gridironlaw27.OpsLines'. -/
def opsLinesUptoCard : Claim7 := { stood := { row := opsLinesUptoRow, standIns := [], harness := (true, "f5264821ecca0198e842052a3f41ed856c5491a89b2cdd38ec33a7bf691e7d41"), looks := true }, kinds := [], alts := [], laidByText := true, laidKinds := [.data, .data, .data, .data, .sentinel, .sentinel, .listed, .data, .pinned], laidTests := true, laidLooks := .later }
def OpsLinesUptoCardSaid : Prop := Claim7.holds Tryz.pinned (.plain (OpenSpec.upto opsLinesSpec)) opsLinesUptoCard

/-- THE SECOND FORM's CARD OF 'gridironlaw27.OpsTold'. -/
def opsToldUptoCard : Claim7 := { stood := { row := opsToldUptoRow, standIns := [], harness := (true, "f5264821ecca0198e842052a3f41ed856c5491a89b2cdd38ec33a7bf691e7d41"), looks := true }, kinds := [], alts := [], laidByText := true, laidKinds := [.data, .data, .data, .data, .sentinel, .sentinel, .listed, .data, .pinned], laidTests := true, laidLooks := .later }
def OpsToldUptoCardSaid : Prop := Claim7.holds Tryz.pinned (.plain (OpenSpec.upto opsToldSpec)) opsToldUptoCard

/-- THE SECOND FORM's CARD OF 'gridironlaw27.OpsWrong'. -/
def opsWrongUptoCard : Claim7 := { stood := { row := opsWrongUptoRow, standIns := [], harness := (true, "f5264821ecca0198e842052a3f41ed856c5491a89b2cdd38ec33a7bf691e7d41"), looks := true }, kinds := [], alts := [], laidByText := true, laidKinds := [.data, .data, .data, .data, .sentinel, .sentinel, .listed, .data, .pinned], laidTests := true, laidLooks := .later }
def OpsWrongUptoCardSaid : Prop := Claim7.holds Tryz.pinned (.plain (OpenSpec.upto opsWrongSpec)) opsWrongUptoCard
end Rows
end Go.Proofs.YtokpgopdkimmmaaGreatDoor
