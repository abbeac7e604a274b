/-
  DERIVED. GIVEN WITH THE SEED: THE CARDS: each row of YtmggpfngbkbkmaaGreatDoorRows.lean that lists a variable, with what it lists TIED to the program's text (the seventh form; the later family's looks); each row that meets fmt, with fmt's text TOLD by the authors' own Lean function (tested against real Go, not proved from fmt's source: count such statements apart). THE CARD IS WHAT COUNTS. Prove the row's statement (the work); the ties are given (YtmggpfngbkbkmaaGreatDoorTie.lean); close each card by the builder's one call (the guide's Derived/Test/ToyasCard.lean, 'card_holds'). Laid BY PROGRAM, IN A SANDBOX (cutbox-door.mjs). By AI agents, Wed Nov 11 2026. No macro, syntax, notation, axiom, sorry.
-/
import Derived.Test.YtmggpfngbkbkmaaGreatDoorRows
import GoSem.ClaimSeven
namespace Go.Proofs.YtmggpfngbkbkmaaGreatDoor
namespace Rows

/-- THE TIED CARD OF 'rillbedlaw09.MessageDoes'. -/
def messageDoesCard : Claim7 := { stood := { row := messageDoesRow, standIns := [], harness := (true, "a38cd00f0482a7c6ab9c712334cbac9375d60f3077853d4c75b5f88babdb02dd"), looks := false }, kinds := [], alts := [], laidByText := true, laidKinds := [.data, .pinned], laidTests := true, laidLooks := .later }
def MessageDoesCardSaid : Prop := Claim7.holds Tryz.pinned (.plain (OpenSpec.ofChange messageDoesSpec)) messageDoesCard

/-- THE TIED CARD OF 'rillbedlaw09.MessageRange'. -/
def messageRangeCard : Claim7 := { stood := { row := messageRangeRow, standIns := [], harness := (true, "a38cd00f0482a7c6ab9c712334cbac9375d60f3077853d4c75b5f88babdb02dd"), looks := false }, kinds := [], alts := [], laidByText := true, laidKinds := [.data, .pinned], laidTests := true, laidLooks := .later }
def MessageRangeCardSaid : Prop := Claim7.holds Tryz.pinned (.plain (OpenSpec.ofChange messageRangeSpec)) messageRangeCard

/-- THE TIED CARD OF 'rillbedlaw17.BufferParts'. -/
def bufferPartsCard : Claim7 := { stood := { row := bufferPartsRow, standIns := [], harness := (true, "a38cd00f0482a7c6ab9c712334cbac9375d60f3077853d4c75b5f88babdb02dd"), looks := false }, kinds := [], alts := [], laidByText := true, laidKinds := [.data, .pinned], laidTests := true, laidLooks := .later }
def BufferPartsCardSaid : Prop := Claim7.holds Tryz.pinned (.plain (OpenSpec.ofChange bufferPartsSpec)) bufferPartsCard

/-- THE TIED CARD OF 'rillbedlaw17.BufferTakes'. -/
def bufferTakesCard : Claim7 := { stood := { row := bufferTakesRow, standIns := [], harness := (true, "a38cd00f0482a7c6ab9c712334cbac9375d60f3077853d4c75b5f88babdb02dd"), looks := false }, kinds := [], alts := [], laidByText := true, laidKinds := [.data, .pinned], laidTests := true, laidLooks := .later }
def BufferTakesCardSaid : Prop := Claim7.holds Tryz.pinned (.plain (OpenSpec.ofChange bufferTakesSpec)) bufferTakesCard

/-- THE TIED CARD OF 'rillbedlaw17.BufferDoes'. -/
def bufferDoesCard : Claim7 := { stood := { row := bufferDoesRow, standIns := [], harness := (true, "a38cd00f0482a7c6ab9c712334cbac9375d60f3077853d4c75b5f88babdb02dd"), looks := false }, kinds := [], alts := [], laidByText := true, laidKinds := [.data, .pinned], laidTests := true, laidLooks := .later }
def BufferDoesCardSaid : Prop := Claim7.holds Tryz.pinned (.plain (OpenSpec.ofChange bufferDoesSpec)) bufferDoesCard

/-- THE TIED CARD OF 'rillbedlaw17.BufferMakes'. -/
def bufferMakesCard : Claim7 := { stood := { row := bufferMakesRow, standIns := [], harness := (true, "a38cd00f0482a7c6ab9c712334cbac9375d60f3077853d4c75b5f88babdb02dd"), looks := false }, kinds := [], alts := [], laidByText := true, laidKinds := [.data, .pinned], laidTests := true, laidLooks := .later }
def BufferMakesCardSaid : Prop := Claim7.holds Tryz.pinned (.plain (OpenSpec.ofChange bufferMakesSpec)) bufferMakesCard

/-- THE TIED CARD OF 'rillbedlaw16.RunApplies'. -/
def runAppliesCard : Claim7 := { stood := { row := runAppliesRow, standIns := [], harness := (true, "a38cd00f0482a7c6ab9c712334cbac9375d60f3077853d4c75b5f88babdb02dd"), looks := false }, kinds := [], alts := [], laidByText := true, laidKinds := [.data, .listed, .data, .pinned], laidTests := true, laidLooks := .later }
def RunAppliesCardSaid : Prop := Claim7.holds Tryz.pinned (.plain (OpenSpec.ofChange runAppliesSpec)) runAppliesCard

/-- THE TIED CARD OF 'rillbedlaw16.RunEach'. -/
def runEachCard : Claim7 := { stood := { row := runEachRow, standIns := [], harness := (true, "a38cd00f0482a7c6ab9c712334cbac9375d60f3077853d4c75b5f88babdb02dd"), looks := false }, kinds := [], alts := [], laidByText := true, laidKinds := [.data, .listed, .data, .pinned], laidTests := true, laidLooks := .later }
def RunEachCardSaid : Prop := Claim7.holds Tryz.pinned (.plain (OpenSpec.ofChange runEachSpec)) runEachCard

/-- THE SECOND FORM's CARD OF 'rillbedlaw09.MessageDoes'. -/
def messageDoesUptoCard : Claim7 := { stood := { row := messageDoesUptoRow, standIns := [], harness := (true, "a38cd00f0482a7c6ab9c712334cbac9375d60f3077853d4c75b5f88babdb02dd"), looks := false }, kinds := [], alts := [], laidByText := true, laidKinds := [.data, .pinned], laidTests := true, laidLooks := .later }
def MessageDoesUptoCardSaid : Prop := Claim7.holds Tryz.pinned (.plain (OpenSpec.upto messageDoesSpec)) messageDoesUptoCard

/-- THE SECOND FORM's CARD OF 'rillbedlaw09.MessageRange'. -/
def messageRangeUptoCard : Claim7 := { stood := { row := messageRangeUptoRow, standIns := [], harness := (true, "a38cd00f0482a7c6ab9c712334cbac9375d60f3077853d4c75b5f88babdb02dd"), looks := false }, kinds := [], alts := [], laidByText := true, laidKinds := [.data, .pinned], laidTests := true, laidLooks := .later }
def MessageRangeUptoCardSaid : Prop := Claim7.holds Tryz.pinned (.plain (OpenSpec.upto messageRangeSpec)) messageRangeUptoCard

/-- THE SECOND FORM's CARD OF 'rillbedlaw17.BufferParts'. -/
def bufferPartsUptoCard : Claim7 := { stood := { row := bufferPartsUptoRow, standIns := [], harness := (true, "a38cd00f0482a7c6ab9c712334cbac9375d60f3077853d4c75b5f88babdb02dd"), looks := false }, kinds := [], alts := [], laidByText := true, laidKinds := [.data, .pinned], laidTests := true, laidLooks := .later }
def BufferPartsUptoCardSaid : Prop := Claim7.holds Tryz.pinned (.plain (OpenSpec.upto bufferPartsSpec)) bufferPartsUptoCard

/-- THE SECOND FORM's CARD OF 'rillbedlaw17.BufferTakes'. -/
def bufferTakesUptoCard : Claim7 := { stood := { row := bufferTakesUptoRow, standIns := [], harness := (true, "a38cd00f0482a7c6ab9c712334cbac9375d60f3077853d4c75b5f88babdb02dd"), looks := false }, kinds := [], alts := [], laidByText := true, laidKinds := [.data, .pinned], laidTests := true, laidLooks := .later }
def BufferTakesUptoCardSaid : Prop := Claim7.holds Tryz.pinned (.plain (OpenSpec.upto bufferTakesSpec)) bufferTakesUptoCard

/-- THE SECOND FORM's CARD OF 'rillbedlaw17.BufferDoes'. -/
def bufferDoesUptoCard : Claim7 := { stood := { row := bufferDoesUptoRow, standIns := [], harness := (true, "a38cd00f0482a7c6ab9c712334cbac9375d60f3077853d4c75b5f88babdb02dd"), looks := false }, kinds := [], alts := [], laidByText := true, laidKinds := [.data, .pinned], laidTests := true, laidLooks := .later }
def BufferDoesUptoCardSaid : Prop := Claim7.holds Tryz.pinned (.plain (OpenSpec.upto bufferDoesSpec)) bufferDoesUptoCard

/-- THE SECOND FORM's CARD OF 'rillbedlaw17.BufferMakes'. -/
def bufferMakesUptoCard : Claim7 := { stood := { row := bufferMakesUptoRow, standIns := [], harness := (true, "a38cd00f0482a7c6ab9c712334cbac9375d60f3077853d4c75b5f88babdb02dd"), looks := false }, kinds := [], alts := [], laidByText := true, laidKinds := [.data, .pinned], laidTests := true, laidLooks := .later }
def BufferMakesUptoCardSaid : Prop := Claim7.holds Tryz.pinned (.plain (OpenSpec.upto bufferMakesSpec)) bufferMakesUptoCard

/-- THE SECOND FORM's CARD OF 'rillbedlaw16.RunApplies'. -/
def runAppliesUptoCard : Claim7 := { stood := { row := runAppliesUptoRow, standIns := [], harness := (true, "a38cd00f0482a7c6ab9c712334cbac9375d60f3077853d4c75b5f88babdb02dd"), looks := false }, kinds := [], alts := [], laidByText := true, laidKinds := [.data, .listed, .data, .pinned], laidTests := true, laidLooks := .later }
def RunAppliesUptoCardSaid : Prop := Claim7.holds Tryz.pinned (.plain (OpenSpec.upto runAppliesSpec)) runAppliesUptoCard

/-- THE SECOND FORM's CARD OF 'rillbedlaw16.RunEach'. -/
def runEachUptoCard : Claim7 := { stood := { row := runEachUptoRow, standIns := [], harness := (true, "a38cd00f0482a7c6ab9c712334cbac9375d60f3077853d4c75b5f88babdb02dd"), looks := false }, kinds := [], alts := [], laidByText := true, laidKinds := [.data, .listed, .data, .pinned], laidTests := true, laidLooks := .later }
def RunEachUptoCardSaid : Prop := Claim7.holds Tryz.pinned (.plain (OpenSpec.upto runEachSpec)) runEachUptoCard
end Rows
end Go.Proofs.YtmggpfngbkbkmaaGreatDoor
