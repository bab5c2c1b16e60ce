/-
  DERIVED. GIVEN WITH THE SEED: THE CARDS: each row of YtplbglcdmimdoaaDoorRows.lean that lists a variable, with what it lists TIED to the program's text (the seventh form; the later family's looks); each row that meets fmt, with fmt's text TOLD by the authors' own Lean function (tested against real Go, not proved from fmt's source: count such statements apart). THE CARD IS WHAT COUNTS. Prove the row's statement (the work); the ties are given (YtplbglcdmimdoaaDoorTie.lean); close each card by the builder's one call (the guide's Derived/Test/ToyasCard.lean, 'card_holds'). Laid BY PROGRAM, IN A SANDBOX (cutbox-door.mjs). By AI agents, Wed Nov 11 2026. No macro, syntax, notation, axiom, sorry.
-/
import Derived.Test.YtplbglcdmimdoaaDoorRows
import GoSem.ClaimSeven
namespace Go.Proofs.YtplbglcdmimdoaaDoor
namespace Rows

/-- THE TIED CARD OF 'gridironlaw01.WideSums'. -/
def wideSumsCard : Claim7 := { stood := { row := wideSumsRow, standIns := [], harness := (true, "1d2722854f4a2c522822e8af33364f4d84537adcbe8faaaca132b3f140c47316"), looks := false }, kinds := [], alts := [], laidByText := true, laidKinds := [.data, .data, .data], laidTests := true, laidLooks := .later }
def WideSumsCardSaid : Prop := Claim7.holds Tryd.pinned (.plain (OpenSpec.ofChange wideSumsSpec)) wideSumsCard

/-- THE TIED CARD OF 'gridironlaw01.WideSpans'. -/
def wideSpansCard : Claim7 := { stood := { row := wideSpansRow, standIns := [], harness := (true, "1d2722854f4a2c522822e8af33364f4d84537adcbe8faaaca132b3f140c47316"), looks := false }, kinds := [], alts := [], laidByText := true, laidKinds := [.data, .data, .data], laidTests := true, laidLooks := .later }
def WideSpansCardSaid : Prop := Claim7.holds Tryd.pinned (.plain (OpenSpec.ofChange wideSpansSpec)) wideSpansCard

/-- THE TIED CARD OF 'gridironlaw29.BoundGrows'. -/
def boundGrowsCard : Claim7 := { stood := { row := boundGrowsRow, standIns := [], harness := (true, "1d2722854f4a2c522822e8af33364f4d84537adcbe8faaaca132b3f140c47316"), looks := false }, kinds := [], alts := [], laidByText := true, laidKinds := [.listed, .data], laidTests := true, laidLooks := .later }
def BoundGrowsCardSaid : Prop := Claim7.holds Tryd.pinned (.plain (OpenSpec.ofChange boundGrowsSpec)) boundGrowsCard

/-- THE TIED CARD OF 'gridironlaw29.BoundNone'. -/
def boundNoneCard : Claim7 := { stood := { row := boundNoneRow, standIns := [], harness := (true, "1d2722854f4a2c522822e8af33364f4d84537adcbe8faaaca132b3f140c47316"), looks := false }, kinds := [], alts := [], laidByText := true, laidKinds := [.listed, .data], laidTests := true, laidLooks := .later }
def BoundNoneCardSaid : Prop := Claim7.holds Tryd.pinned (.plain (OpenSpec.ofChange boundNoneSpec)) boundNoneCard

/-- THE TIED CARD OF 'gridironlaw01.WideProducts'. -/
def wideProductsCard : Claim7 := { stood := { row := wideProductsRow, standIns := [], harness := (true, "1d2722854f4a2c522822e8af33364f4d84537adcbe8faaaca132b3f140c47316"), looks := false }, kinds := [], alts := [], laidByText := true, laidKinds := [.data, .data, .data], laidTests := true, laidLooks := .later }
def WideProductsCardSaid : Prop := Claim7.holds Tryd.pinned (.plain (OpenSpec.ofChange wideProductsSpec)) wideProductsCard

/-- THE TIED CARD OF 'gridironlaw01.WideTells'. -/
def wideTellsCard : Claim7 := { stood := { row := wideTellsRow, standIns := [], harness := (true, "1d2722854f4a2c522822e8af33364f4d84537adcbe8faaaca132b3f140c47316"), looks := false }, kinds := [], alts := [], laidByText := true, laidKinds := [.data, .data, .data], laidTests := true, laidLooks := .later }
def WideTellsCardSaid : Prop := Claim7.holds Tryd.pinned (.plain (OpenSpec.ofChange wideTellsSpec)) wideTellsCard

/-- THE TIED CARD OF 'gridironlaw01.WideBack'. -/
def wideBackCard : Claim7 := { stood := { row := wideBackRow, standIns := [], harness := (true, "1d2722854f4a2c522822e8af33364f4d84537adcbe8faaaca132b3f140c47316"), looks := false }, kinds := [], alts := [], laidByText := true, laidKinds := [.data, .data, .data], laidTests := true, laidLooks := .later }
def WideBackCardSaid : Prop := Claim7.holds Tryd.pinned (.plain (OpenSpec.ofChange wideBackSpec)) wideBackCard

/-- THE TIED CARD OF 'gridironlaw01.WideDigits'. -/
def wideDigitsCard : Claim7 := { stood := { row := wideDigitsRow, standIns := [], harness := (true, "1d2722854f4a2c522822e8af33364f4d84537adcbe8faaaca132b3f140c47316"), looks := false }, kinds := [], alts := [], laidByText := true, laidKinds := [.data, .data, .data, .data, .pinned], laidTests := true, laidLooks := .later }
def WideDigitsCardSaid : Prop := Claim7.holds Tryd.pinned (.plain (OpenSpec.ofChange wideDigitsSpec)) wideDigitsCard

/-- THE SECOND FORM's CARD OF 'gridironlaw01.WideSums'. -/
def wideSumsUptoCard : Claim7 := { stood := { row := wideSumsUptoRow, standIns := [], harness := (true, "1d2722854f4a2c522822e8af33364f4d84537adcbe8faaaca132b3f140c47316"), looks := false }, kinds := [], alts := [], laidByText := true, laidKinds := [.data, .data, .data], laidTests := true, laidLooks := .later }
def WideSumsUptoCardSaid : Prop := Claim7.holds Tryd.pinned (.plain (OpenSpec.upto wideSumsSpec)) wideSumsUptoCard

/-- THE SECOND FORM's CARD OF 'gridironlaw01.WideSpans'. -/
def wideSpansUptoCard : Claim7 := { stood := { row := wideSpansUptoRow, standIns := [], harness := (true, "1d2722854f4a2c522822e8af33364f4d84537adcbe8faaaca132b3f140c47316"), looks := false }, kinds := [], alts := [], laidByText := true, laidKinds := [.data, .data, .data], laidTests := true, laidLooks := .later }
def WideSpansUptoCardSaid : Prop := Claim7.holds Tryd.pinned (.plain (OpenSpec.upto wideSpansSpec)) wideSpansUptoCard

/-- THE SECOND FORM's CARD OF 'gridironlaw29.BoundGrows'. -/
def boundGrowsUptoCard : Claim7 := { stood := { row := boundGrowsUptoRow, standIns := [], harness := (true, "1d2722854f4a2c522822e8af33364f4d84537adcbe8faaaca132b3f140c47316"), looks := false }, kinds := [], alts := [], laidByText := true, laidKinds := [.listed, .data], laidTests := true, laidLooks := .later }
def BoundGrowsUptoCardSaid : Prop := Claim7.holds Tryd.pinned (.plain (OpenSpec.upto boundGrowsSpec)) boundGrowsUptoCard

/-- THE SECOND FORM's CARD OF 'gridironlaw29.BoundNone'. -/
def boundNoneUptoCard : Claim7 := { stood := { row := boundNoneUptoRow, standIns := [], harness := (true, "1d2722854f4a2c522822e8af33364f4d84537adcbe8faaaca132b3f140c47316"), looks := false }, kinds := [], alts := [], laidByText := true, laidKinds := [.listed, .data], laidTests := true, laidLooks := .later }
def BoundNoneUptoCardSaid : Prop := Claim7.holds Tryd.pinned (.plain (OpenSpec.upto boundNoneSpec)) boundNoneUptoCard

/-- THE SECOND FORM's CARD OF 'gridironlaw01.WideProducts'. -/
def wideProductsUptoCard : Claim7 := { stood := { row := wideProductsUptoRow, standIns := [], harness := (true, "1d2722854f4a2c522822e8af33364f4d84537adcbe8faaaca132b3f140c47316"), looks := false }, kinds := [], alts := [], laidByText := true, laidKinds := [.data, .data, .data], laidTests := true, laidLooks := .later }
def WideProductsUptoCardSaid : Prop := Claim7.holds Tryd.pinned (.plain (OpenSpec.upto wideProductsSpec)) wideProductsUptoCard

/-- THE SECOND FORM's CARD OF 'gridironlaw01.WideTells'. -/
def wideTellsUptoCard : Claim7 := { stood := { row := wideTellsUptoRow, standIns := [], harness := (true, "1d2722854f4a2c522822e8af33364f4d84537adcbe8faaaca132b3f140c47316"), looks := false }, kinds := [], alts := [], laidByText := true, laidKinds := [.data, .data, .data], laidTests := true, laidLooks := .later }
def WideTellsUptoCardSaid : Prop := Claim7.holds Tryd.pinned (.plain (OpenSpec.upto wideTellsSpec)) wideTellsUptoCard

/-- THE SECOND FORM's CARD OF 'gridironlaw01.WideBack'. -/
def wideBackUptoCard : Claim7 := { stood := { row := wideBackUptoRow, standIns := [], harness := (true, "1d2722854f4a2c522822e8af33364f4d84537adcbe8faaaca132b3f140c47316"), looks := false }, kinds := [], alts := [], laidByText := true, laidKinds := [.data, .data, .data], laidTests := true, laidLooks := .later }
def WideBackUptoCardSaid : Prop := Claim7.holds Tryd.pinned (.plain (OpenSpec.upto wideBackSpec)) wideBackUptoCard

/-- THE SECOND FORM's CARD OF 'gridironlaw01.WideDigits'. -/
def wideDigitsUptoCard : Claim7 := { stood := { row := wideDigitsUptoRow, standIns := [], harness := (true, "1d2722854f4a2c522822e8af33364f4d84537adcbe8faaaca132b3f140c47316"), looks := false }, kinds := [], alts := [], laidByText := true, laidKinds := [.data, .data, .data, .data, .pinned], laidTests := true, laidLooks := .later }
def WideDigitsUptoCardSaid : Prop := Claim7.holds Tryd.pinned (.plain (OpenSpec.upto wideDigitsSpec)) wideDigitsUptoCard
end Rows
end Go.Proofs.YtplbglcdmimdoaaDoor
