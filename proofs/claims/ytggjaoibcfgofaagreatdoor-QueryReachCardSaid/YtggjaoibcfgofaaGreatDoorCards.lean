/-
  DERIVED. GIVEN WITH THE SEED: THE CARDS: each row of YtggjaoibcfgofaaGreatDoorRows.lean that lists a variable, with what it lists TIED to the program's text (the seventh form; the later family's looks); each row that meets fmt, with fmt's text TOLD by the authors' own Lean function (tested against real Go, not proved from fmt's source: count such statements apart). THE CARD IS WHAT COUNTS. Prove the row's statement (the work); the ties are given (YtggjaoibcfgofaaGreatDoorTie.lean); close each card by the builder's one call (the guide's Derived/Test/ToyasCard.lean, 'card_holds'). Laid BY PROGRAM, IN A SANDBOX (cutbox-door.mjs). By AI agents, Wed Nov 11 2026. No macro, syntax, notation, axiom, sorry.
-/
import Derived.Test.YtggjaoibcfgofaaGreatDoorRows
import GoSem.ClaimSeven
namespace Go.Proofs.YtggjaoibcfgofaaGreatDoor
namespace Rows

/-- THE TIED CARD OF 'weftlaw32.QueryFacts'. -/
def queryFactsCard : Claim7 := { stood := { row := queryFactsRow, standIns := [], harness := (true, "787b532fef4b573bf6161043fd42f8781013130b7bfe253e2d1210556370632e"), looks := true }, kinds := [], alts := [], laidByText := true, laidKinds := [.data, .data, .data, .data, .sentinel, .sentinel, .pinned], laidTests := true, laidLooks := .later }
def QueryFactsCardSaid : Prop := Claim7.holds Tryz.pinned (.plain (OpenSpec.ofChange queryFactsSpec)) queryFactsCard

/-- THE TIED CARD OF 'weftlaw32.QueryReach'. -/
def queryReachCard : Claim7 := { stood := { row := queryReachRow, standIns := [], harness := (true, "787b532fef4b573bf6161043fd42f8781013130b7bfe253e2d1210556370632e"), looks := true }, kinds := [], alts := [], laidByText := true, laidKinds := [.data, .data, .data, .data, .sentinel, .sentinel, .pinned], laidTests := true, laidLooks := .later }
def QueryReachCardSaid : Prop := Claim7.holds Tryz.pinned (.plain (OpenSpec.ofChange queryReachSpec)) queryReachCard

/-- THE TIED CARD OF 'weftlaw32.QueryMore'. -/
def queryMoreCard : Claim7 := { stood := { row := queryMoreRow, standIns := [], harness := (true, "787b532fef4b573bf6161043fd42f8781013130b7bfe253e2d1210556370632e"), looks := true }, kinds := [], alts := [], laidByText := true, laidKinds := [.data, .data, .data, .data, .sentinel, .sentinel, .pinned], laidTests := true, laidLooks := .later }
def QueryMoreCardSaid : Prop := Claim7.holds Tryz.pinned (.plain (OpenSpec.ofChange queryMoreSpec)) queryMoreCard

/-- THE TIED CARD OF 'weftlaw32.QueryOrder'. -/
def queryOrderCard : Claim7 := { stood := { row := queryOrderRow, standIns := [], harness := (true, "787b532fef4b573bf6161043fd42f8781013130b7bfe253e2d1210556370632e"), looks := true }, kinds := [], alts := [], laidByText := true, laidKinds := [.data, .data, .data, .data, .sentinel, .sentinel, .pinned], laidTests := true, laidLooks := .later }
def QueryOrderCardSaid : Prop := Claim7.holds Tryz.pinned (.plain (OpenSpec.ofChange queryOrderSpec)) queryOrderCard

/-- THE SECOND FORM's CARD OF 'weftlaw32.QueryFacts'. -/
def queryFactsUptoCard : Claim7 := { stood := { row := queryFactsUptoRow, standIns := [], harness := (true, "787b532fef4b573bf6161043fd42f8781013130b7bfe253e2d1210556370632e"), looks := true }, kinds := [], alts := [], laidByText := true, laidKinds := [.data, .data, .data, .data, .sentinel, .sentinel, .pinned], laidTests := true, laidLooks := .later }
def QueryFactsUptoCardSaid : Prop := Claim7.holds Tryz.pinned (.plain (OpenSpec.upto queryFactsSpec)) queryFactsUptoCard

/-- THE SECOND FORM's CARD OF 'weftlaw32.QueryReach'. -/
def queryReachUptoCard : Claim7 := { stood := { row := queryReachUptoRow, standIns := [], harness := (true, "787b532fef4b573bf6161043fd42f8781013130b7bfe253e2d1210556370632e"), looks := true }, kinds := [], alts := [], laidByText := true, laidKinds := [.data, .data, .data, .data, .sentinel, .sentinel, .pinned], laidTests := true, laidLooks := .later }
def QueryReachUptoCardSaid : Prop := Claim7.holds Tryz.pinned (.plain (OpenSpec.upto queryReachSpec)) queryReachUptoCard

/-- THE SECOND FORM's CARD OF 'weftlaw32.QueryMore'. -/
def queryMoreUptoCard : Claim7 := { stood := { row := queryMoreUptoRow, standIns := [], harness := (true, "787b532fef4b573bf6161043fd42f8781013130b7bfe253e2d1210556370632e"), looks := true }, kinds := [], alts := [], laidByText := true, laidKinds := [.data, .data, .data, .data, .sentinel, .sentinel, .pinned], laidTests := true, laidLooks := .later }
def QueryMoreUptoCardSaid : Prop := Claim7.holds Tryz.pinned (.plain (OpenSpec.upto queryMoreSpec)) queryMoreUptoCard

/-- THE SECOND FORM's CARD OF 'weftlaw32.QueryOrder'. -/
def queryOrderUptoCard : Claim7 := { stood := { row := queryOrderUptoRow, standIns := [], harness := (true, "787b532fef4b573bf6161043fd42f8781013130b7bfe253e2d1210556370632e"), looks := true }, kinds := [], alts := [], laidByText := true, laidKinds := [.data, .data, .data, .data, .sentinel, .sentinel, .pinned], laidTests := true, laidLooks := .later }
def QueryOrderUptoCardSaid : Prop := Claim7.holds Tryz.pinned (.plain (OpenSpec.upto queryOrderSpec)) queryOrderUptoCard
end Rows
end Go.Proofs.YtggjaoibcfgofaaGreatDoor
