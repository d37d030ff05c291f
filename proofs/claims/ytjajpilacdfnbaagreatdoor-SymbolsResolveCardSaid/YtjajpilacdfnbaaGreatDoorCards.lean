/-
  DERIVED. GIVEN WITH THE SEED: THE CARDS: each row of YtjajpilacdfnbaaGreatDoorRows.lean that lists a variable, with what it lists TIED to the program's text (the seventh form; the later family's looks); each row that meets fmt, with fmt's text TOLD by the authors' own Lean function (tested against real Go, not proved from fmt's source: count such statements apart). THE CARD IS WHAT COUNTS. Prove the row's statement (the work); the ties are given (YtjajpilacdfnbaaGreatDoorTie.lean); close each card by the builder's one call (the guide's Derived/Test/ToyasCard.lean, 'card_holds'). Laid BY PROGRAM, IN A SANDBOX (cutbox-door.mjs). By AI agents, Wed Nov 11 2026. No macro, syntax, notation, axiom, sorry.
-/
import Derived.Test.YtjajpilacdfnbaaGreatDoorRows
import GoSem.ClaimSeven
namespace Go.Proofs.YtjajpilacdfnbaaGreatDoor
namespace Rows

/-- THE TIED CARD OF 'weftlaw28.SymbolsResolve'. -/
def symbolsResolveCard : Claim7 := { stood := { row := symbolsResolveRow, standIns := [], harness := (true, "471eea929f0b986b412c4f62b53376aff8f69b0d819d8932f4400cadf70463b7"), looks := true }, kinds := [], alts := [], laidByText := true, laidKinds := [.data, .data, .data, .data, .sentinel, .sentinel, .pinned], laidTests := true, laidLooks := .later }
def SymbolsResolveCardSaid : Prop := Claim7.holds Tryz.pinned (.plain (OpenSpec.ofChange symbolsResolveSpec)) symbolsResolveCard

/-- THE TIED CARD OF 'weftlaw28.SymbolsTurned'. -/
def symbolsTurnedCard : Claim7 := { stood := { row := symbolsTurnedRow, standIns := [], harness := (true, "471eea929f0b986b412c4f62b53376aff8f69b0d819d8932f4400cadf70463b7"), looks := true }, kinds := [], alts := [], laidByText := true, laidKinds := [.data, .data, .data, .data, .sentinel, .sentinel, .pinned], laidTests := true, laidLooks := .later }
def SymbolsTurnedCardSaid : Prop := Claim7.holds Tryz.pinned (.plain (OpenSpec.ofChange symbolsTurnedSpec)) symbolsTurnedCard

/-- THE SECOND FORM's CARD OF 'weftlaw28.SymbolsResolve'. -/
def symbolsResolveUptoCard : Claim7 := { stood := { row := symbolsResolveUptoRow, standIns := [], harness := (true, "471eea929f0b986b412c4f62b53376aff8f69b0d819d8932f4400cadf70463b7"), looks := true }, kinds := [], alts := [], laidByText := true, laidKinds := [.data, .data, .data, .data, .sentinel, .sentinel, .pinned], laidTests := true, laidLooks := .later }
def SymbolsResolveUptoCardSaid : Prop := Claim7.holds Tryz.pinned (.plain (OpenSpec.upto symbolsResolveSpec)) symbolsResolveUptoCard

/-- THE SECOND FORM's CARD OF 'weftlaw28.SymbolsTurned'. -/
def symbolsTurnedUptoCard : Claim7 := { stood := { row := symbolsTurnedUptoRow, standIns := [], harness := (true, "471eea929f0b986b412c4f62b53376aff8f69b0d819d8932f4400cadf70463b7"), looks := true }, kinds := [], alts := [], laidByText := true, laidKinds := [.data, .data, .data, .data, .sentinel, .sentinel, .pinned], laidTests := true, laidLooks := .later }
def SymbolsTurnedUptoCardSaid : Prop := Claim7.holds Tryz.pinned (.plain (OpenSpec.upto symbolsTurnedSpec)) symbolsTurnedUptoCard
end Rows
end Go.Proofs.YtjajpilacdfnbaaGreatDoor
