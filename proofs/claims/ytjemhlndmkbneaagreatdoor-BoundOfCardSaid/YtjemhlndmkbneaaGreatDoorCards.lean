/-
  DERIVED. GIVEN WITH THE SEED: THE CARDS: each row of YtjemhlndmkbneaaGreatDoorRows.lean that lists a variable, with what it lists TIED to the program's text (the seventh form; the later family's looks); each row that meets fmt, with fmt's text TOLD by the authors' own Lean function (tested against real Go, not proved from fmt's source: count such statements apart). THE CARD IS WHAT COUNTS. Prove the row's statement (the work); the ties are given (YtjemhlndmkbneaaGreatDoorTie.lean); close each card by the builder's one call (the guide's Derived/Test/ToyasCard.lean, 'card_holds'). Laid BY PROGRAM, IN A SANDBOX (cutbox-door.mjs). By AI agents, Wed Nov 11 2026. No macro, syntax, notation, axiom, sorry.
-/
import Derived.Test.YtjemhlndmkbneaaGreatDoorRows
import GoSem.ClaimSeven
namespace Go.Proofs.YtjemhlndmkbneaaGreatDoor
namespace Rows

/-- THE TIED CARD OF 'weftlaw37.BoundOf'. -/
def boundOfCard : Claim7 := { stood := { row := boundOfRow, standIns := [], harness := (true, "ce05fc7789875426b62397a40c818e9d6858b179345d4186187e39b0491adb4c"), looks := true }, kinds := [], alts := [], laidByText := true, laidKinds := [.data, .data, .data, .data, .sentinel, .sentinel, .pinned], laidTests := true, laidLooks := .later }
def BoundOfCardSaid : Prop := Claim7.holds Tryz.pinned (.plain (OpenSpec.ofChange boundOfSpec)) boundOfCard

/-- THE SECOND FORM's CARD OF 'weftlaw37.BoundOf'. -/
def boundOfUptoCard : Claim7 := { stood := { row := boundOfUptoRow, standIns := [], harness := (true, "ce05fc7789875426b62397a40c818e9d6858b179345d4186187e39b0491adb4c"), looks := true }, kinds := [], alts := [], laidByText := true, laidKinds := [.data, .data, .data, .data, .sentinel, .sentinel, .pinned], laidTests := true, laidLooks := .later }
def BoundOfUptoCardSaid : Prop := Claim7.holds Tryz.pinned (.plain (OpenSpec.upto boundOfSpec)) boundOfUptoCard
end Rows
end Go.Proofs.YtjemhlndmkbneaaGreatDoor
