/-
  DERIVED. GIVEN WITH THE SEED: THE CARDS: each row of YtokpgopdkimmmaaDoorRows.lean that lists a variable, with what it lists TIED to the program's text (the seventh form; the later family's looks); each row that meets fmt, with fmt's text TOLD by the authors' own Lean function (tested against real Go, not proved from fmt's source: count such statements apart). THE CARD IS WHAT COUNTS. Prove the row's statement (the work); the ties are given (YtokpgopdkimmmaaDoorTie.lean); close each card by the builder's one call (the guide's Derived/Test/ToyasCard.lean, 'card_holds'). Laid BY PROGRAM, IN A SANDBOX (cutbox-door.mjs). By AI agents, Wed Nov 11 2026. No macro, syntax, notation, axiom, sorry.
-/
import Derived.Test.YtokpgopdkimmmaaDoorRows
import GoSem.ClaimSeven
namespace Go.Proofs.YtokpgopdkimmmaaDoor
namespace Rows

/-- THE TIED CARD OF 'gridironlaw27.OpsJoin'. -/
def opsJoinCard : Claim7 := { stood := { row := opsJoinRow, standIns := [], harness := (true, "0e37170aa747d662ec018609b91b4ee470a1481010ce37f1314370bbda27f25a"), looks := true }, kinds := [], alts := [], laidByText := true, laidKinds := [.data, .data, .data, .data, .sentinel, .sentinel, .listed, .data, .pinned], laidTests := true, laidLooks := .later }
def OpsJoinCardSaid : Prop := Claim7.holds Tryd.pinned (.plain (OpenSpec.ofChange opsJoinSpec)) opsJoinCard

/-- THE TIED CARD OF 'gridironlaw27.OpsBack'. -/
def opsBackCard : Claim7 := { stood := { row := opsBackRow, standIns := [], harness := (true, "0e37170aa747d662ec018609b91b4ee470a1481010ce37f1314370bbda27f25a"), looks := true }, kinds := [], alts := [], laidByText := true, laidKinds := [.data, .data, .data, .data, .sentinel, .sentinel, .listed, .data, .pinned], laidTests := true, laidLooks := .later }
def OpsBackCardSaid : Prop := Claim7.holds Tryd.pinned (.plain (OpenSpec.ofChange opsBackSpec)) opsBackCard

/-- THE TIED CARD OF 'gridironlaw27.OpsTotal'. -/
def opsTotalCard : Claim7 := { stood := { row := opsTotalRow, standIns := [], harness := (true, "0e37170aa747d662ec018609b91b4ee470a1481010ce37f1314370bbda27f25a"), looks := true }, kinds := [], alts := [], laidByText := true, laidKinds := [.data, .data, .data, .data, .sentinel, .sentinel, .listed, .data, .pinned], laidTests := true, laidLooks := .later }
def OpsTotalCardSaid : Prop := Claim7.holds Tryd.pinned (.plain (OpenSpec.ofChange opsTotalSpec)) opsTotalCard

/-- THE SECOND FORM's CARD OF 'gridironlaw27.OpsJoin'. -/
def opsJoinUptoCard : Claim7 := { stood := { row := opsJoinUptoRow, standIns := [], harness := (true, "0e37170aa747d662ec018609b91b4ee470a1481010ce37f1314370bbda27f25a"), looks := true }, kinds := [], alts := [], laidByText := true, laidKinds := [.data, .data, .data, .data, .sentinel, .sentinel, .listed, .data, .pinned], laidTests := true, laidLooks := .later }
def OpsJoinUptoCardSaid : Prop := Claim7.holds Tryd.pinned (.plain (OpenSpec.upto opsJoinSpec)) opsJoinUptoCard

/-- THE SECOND FORM's CARD OF 'gridironlaw27.OpsBack'. -/
def opsBackUptoCard : Claim7 := { stood := { row := opsBackUptoRow, standIns := [], harness := (true, "0e37170aa747d662ec018609b91b4ee470a1481010ce37f1314370bbda27f25a"), looks := true }, kinds := [], alts := [], laidByText := true, laidKinds := [.data, .data, .data, .data, .sentinel, .sentinel, .listed, .data, .pinned], laidTests := true, laidLooks := .later }
def OpsBackUptoCardSaid : Prop := Claim7.holds Tryd.pinned (.plain (OpenSpec.upto opsBackSpec)) opsBackUptoCard

/-- THE SECOND FORM's CARD OF 'gridironlaw27.OpsTotal'. -/
def opsTotalUptoCard : Claim7 := { stood := { row := opsTotalUptoRow, standIns := [], harness := (true, "0e37170aa747d662ec018609b91b4ee470a1481010ce37f1314370bbda27f25a"), looks := true }, kinds := [], alts := [], laidByText := true, laidKinds := [.data, .data, .data, .data, .sentinel, .sentinel, .listed, .data, .pinned], laidTests := true, laidLooks := .later }
def OpsTotalUptoCardSaid : Prop := Claim7.holds Tryd.pinned (.plain (OpenSpec.upto opsTotalSpec)) opsTotalUptoCard
end Rows
end Go.Proofs.YtokpgopdkimmmaaDoor
