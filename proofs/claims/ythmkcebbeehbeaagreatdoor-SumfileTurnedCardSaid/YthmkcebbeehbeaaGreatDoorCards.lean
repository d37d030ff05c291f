/-
  DERIVED. GIVEN WITH THE SEED: THE CARDS: each row of YthmkcebbeehbeaaGreatDoorRows.lean that lists a variable, with what it lists TIED to the program's text (the seventh form; the later family's looks); each row that meets fmt, with fmt's text TOLD by the authors' own Lean function (tested against real Go, not proved from fmt's source: count such statements apart). THE CARD IS WHAT COUNTS. Prove the row's statement (the work); the ties are given (YthmkcebbeehbeaaGreatDoorTie.lean); close each card by the builder's one call (the guide's Derived/Test/ToyasCard.lean, 'card_holds'). Laid BY PROGRAM, IN A SANDBOX (cutbox-door.mjs). By AI agents, Wed Nov 11 2026. No macro, syntax, notation, axiom, sorry.
-/
import Derived.Test.YthmkcebbeehbeaaGreatDoorRows
import GoSem.ClaimSeven
namespace Go.Proofs.YthmkcebbeehbeaaGreatDoor
namespace Rows

/-- THE TIED CARD OF 'weftlaw27.SumfileEncodes'. -/
def sumfileEncodesCard : Claim7 := { stood := { row := sumfileEncodesRow, standIns := [], harness := (true, "97882c384b1d051c434007aade847ac18ba88ab4d1fb004ab6165a765a654d9f"), looks := true }, kinds := [], alts := [], laidByText := true, laidKinds := [.data, .data, .data, .data, .sentinel, .sentinel, .pinned], laidTests := true, laidLooks := .later }
def SumfileEncodesCardSaid : Prop := Claim7.holds Tryz.pinned (.plain (OpenSpec.ofChange sumfileEncodesSpec)) sumfileEncodesCard

/-- THE TIED CARD OF 'weftlaw27.SumfileBack'. -/
def sumfileBackCard : Claim7 := { stood := { row := sumfileBackRow, standIns := [], harness := (true, "97882c384b1d051c434007aade847ac18ba88ab4d1fb004ab6165a765a654d9f"), looks := true }, kinds := [], alts := [], laidByText := true, laidKinds := [.data, .data, .data, .data, .sentinel, .sentinel, .pinned], laidTests := true, laidLooks := .later }
def SumfileBackCardSaid : Prop := Claim7.holds Tryz.pinned (.plain (OpenSpec.ofChange sumfileBackSpec)) sumfileBackCard

/-- THE TIED CARD OF 'weftlaw27.SumfileTurned'. -/
def sumfileTurnedCard : Claim7 := { stood := { row := sumfileTurnedRow, standIns := [], harness := (true, "97882c384b1d051c434007aade847ac18ba88ab4d1fb004ab6165a765a654d9f"), looks := true }, kinds := [], alts := [], laidByText := true, laidKinds := [.data, .data, .data, .data, .sentinel, .sentinel, .pinned], laidTests := true, laidLooks := .later }
def SumfileTurnedCardSaid : Prop := Claim7.holds Tryz.pinned (.plain (OpenSpec.ofChange sumfileTurnedSpec)) sumfileTurnedCard

/-- THE TIED CARD OF 'weftlaw27.SumfileDecodes'. -/
def sumfileDecodesCard : Claim7 := { stood := { row := sumfileDecodesRow, standIns := [], harness := (true, "97882c384b1d051c434007aade847ac18ba88ab4d1fb004ab6165a765a654d9f"), looks := true }, kinds := [], alts := [], laidByText := true, laidKinds := [.data, .data, .data, .data, .sentinel, .sentinel, .pinned], laidTests := true, laidLooks := .later }
def SumfileDecodesCardSaid : Prop := Claim7.holds Tryz.pinned (.plain (OpenSpec.ofChange sumfileDecodesSpec)) sumfileDecodesCard

/-- THE SECOND FORM's CARD OF 'weftlaw27.SumfileEncodes'. -/
def sumfileEncodesUptoCard : Claim7 := { stood := { row := sumfileEncodesUptoRow, standIns := [], harness := (true, "97882c384b1d051c434007aade847ac18ba88ab4d1fb004ab6165a765a654d9f"), looks := true }, kinds := [], alts := [], laidByText := true, laidKinds := [.data, .data, .data, .data, .sentinel, .sentinel, .pinned], laidTests := true, laidLooks := .later }
def SumfileEncodesUptoCardSaid : Prop := Claim7.holds Tryz.pinned (.plain (OpenSpec.upto sumfileEncodesSpec)) sumfileEncodesUptoCard

/-- THE SECOND FORM's CARD OF 'weftlaw27.SumfileBack'. -/
def sumfileBackUptoCard : Claim7 := { stood := { row := sumfileBackUptoRow, standIns := [], harness := (true, "97882c384b1d051c434007aade847ac18ba88ab4d1fb004ab6165a765a654d9f"), looks := true }, kinds := [], alts := [], laidByText := true, laidKinds := [.data, .data, .data, .data, .sentinel, .sentinel, .pinned], laidTests := true, laidLooks := .later }
def SumfileBackUptoCardSaid : Prop := Claim7.holds Tryz.pinned (.plain (OpenSpec.upto sumfileBackSpec)) sumfileBackUptoCard

/-- THE SECOND FORM's CARD OF 'weftlaw27.SumfileTurned'. -/
def sumfileTurnedUptoCard : Claim7 := { stood := { row := sumfileTurnedUptoRow, standIns := [], harness := (true, "97882c384b1d051c434007aade847ac18ba88ab4d1fb004ab6165a765a654d9f"), looks := true }, kinds := [], alts := [], laidByText := true, laidKinds := [.data, .data, .data, .data, .sentinel, .sentinel, .pinned], laidTests := true, laidLooks := .later }
def SumfileTurnedUptoCardSaid : Prop := Claim7.holds Tryz.pinned (.plain (OpenSpec.upto sumfileTurnedSpec)) sumfileTurnedUptoCard

/-- THE SECOND FORM's CARD OF 'weftlaw27.SumfileDecodes'. -/
def sumfileDecodesUptoCard : Claim7 := { stood := { row := sumfileDecodesUptoRow, standIns := [], harness := (true, "97882c384b1d051c434007aade847ac18ba88ab4d1fb004ab6165a765a654d9f"), looks := true }, kinds := [], alts := [], laidByText := true, laidKinds := [.data, .data, .data, .data, .sentinel, .sentinel, .pinned], laidTests := true, laidLooks := .later }
def SumfileDecodesUptoCardSaid : Prop := Claim7.holds Tryz.pinned (.plain (OpenSpec.upto sumfileDecodesSpec)) sumfileDecodesUptoCard
end Rows
end Go.Proofs.YthmkcebbeehbeaaGreatDoor
