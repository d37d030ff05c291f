/-
  DERIVED. GIVEN WITH THE SEED: THE CARDS: each row of YtikpijbeobeckaaGreatDoorRows.lean that lists a variable, with what it lists TIED to the program's text (the seventh form; the later family's looks); each row that meets fmt, with fmt's text TOLD by the authors' own Lean function (tested against real Go, not proved from fmt's source: count such statements apart). THE CARD IS WHAT COUNTS. Prove the row's statement (the work); the ties are given (YtikpijbeobeckaaGreatDoorTie.lean); close each card by the builder's one call (the guide's Derived/Test/ToyasCard.lean, 'card_holds'). Laid BY PROGRAM, IN A SANDBOX (cutbox-door.mjs). By AI agents, Wed Nov 11 2026. No macro, syntax, notation, axiom, sorry.
-/
import Derived.Test.YtikpijbeobeckaaGreatDoorRows
import GoSem.ClaimSeven
namespace Go.Proofs.YtikpijbeobeckaaGreatDoor
namespace Rows

/-- THE TIED CARD OF 'weftlaw17.LeastFacts'. -/
def leastFactsCard : Claim7 := { stood := { row := leastFactsRow, standIns := [], harness := (true, "86724ede2e262c0ef8495ef7382ef60951e4e8dbb9a24dd29ba9ce5f710c86de"), looks := true }, kinds := [], alts := [], laidByText := true, laidKinds := [.data, .data, .data, .data, .sentinel, .sentinel, .pinned], laidTests := true, laidLooks := .later }
def LeastFactsCardSaid : Prop := Claim7.holds Tryz.pinned (.plain (OpenSpec.ofChange leastFactsSpec)) leastFactsCard

/-- THE TIED CARD OF 'weftlaw17.LeastAgain'. -/
def leastAgainCard : Claim7 := { stood := { row := leastAgainRow, standIns := [], harness := (true, "86724ede2e262c0ef8495ef7382ef60951e4e8dbb9a24dd29ba9ce5f710c86de"), looks := true }, kinds := [], alts := [], laidByText := true, laidKinds := [.data, .data, .data, .data, .sentinel, .sentinel, .pinned], laidTests := true, laidLooks := .later }
def LeastAgainCardSaid : Prop := Claim7.holds Tryz.pinned (.plain (OpenSpec.ofChange leastAgainSpec)) leastAgainCard

/-- THE TIED CARD OF 'weftlaw17.LeastLists'. -/
def leastListsCard : Claim7 := { stood := { row := leastListsRow, standIns := [], harness := (true, "86724ede2e262c0ef8495ef7382ef60951e4e8dbb9a24dd29ba9ce5f710c86de"), looks := true }, kinds := [], alts := [], laidByText := true, laidKinds := [.data, .data, .data, .data, .sentinel, .sentinel, .pinned], laidTests := true, laidLooks := .later }
def LeastListsCardSaid : Prop := Claim7.holds Tryz.pinned (.plain (OpenSpec.ofChange leastListsSpec)) leastListsCard

/-- THE TIED CARD OF 'weftlaw17.LeastHolds'. -/
def leastHoldsCard : Claim7 := { stood := { row := leastHoldsRow, standIns := [], harness := (true, "86724ede2e262c0ef8495ef7382ef60951e4e8dbb9a24dd29ba9ce5f710c86de"), looks := true }, kinds := [], alts := [], laidByText := true, laidKinds := [.data, .data, .data, .data, .sentinel, .sentinel, .pinned], laidTests := true, laidLooks := .later }
def LeastHoldsCardSaid : Prop := Claim7.holds Tryz.pinned (.plain (OpenSpec.ofChange leastHoldsSpec)) leastHoldsCard

/-- THE TIED CARD OF 'weftlaw17.LeastApart'. -/
def leastApartCard : Claim7 := { stood := { row := leastApartRow, standIns := [], harness := (true, "86724ede2e262c0ef8495ef7382ef60951e4e8dbb9a24dd29ba9ce5f710c86de"), looks := true }, kinds := [], alts := [], laidByText := true, laidKinds := [.data, .data, .data, .data, .sentinel, .sentinel, .pinned], laidTests := true, laidLooks := .later }
def LeastApartCardSaid : Prop := Claim7.holds Tryz.pinned (.plain (OpenSpec.ofChange leastApartSpec)) leastApartCard

/-- THE SECOND FORM's CARD OF 'weftlaw17.LeastFacts'. -/
def leastFactsUptoCard : Claim7 := { stood := { row := leastFactsUptoRow, standIns := [], harness := (true, "86724ede2e262c0ef8495ef7382ef60951e4e8dbb9a24dd29ba9ce5f710c86de"), looks := true }, kinds := [], alts := [], laidByText := true, laidKinds := [.data, .data, .data, .data, .sentinel, .sentinel, .pinned], laidTests := true, laidLooks := .later }
def LeastFactsUptoCardSaid : Prop := Claim7.holds Tryz.pinned (.plain (OpenSpec.upto leastFactsSpec)) leastFactsUptoCard

/-- THE SECOND FORM's CARD OF 'weftlaw17.LeastAgain'. -/
def leastAgainUptoCard : Claim7 := { stood := { row := leastAgainUptoRow, standIns := [], harness := (true, "86724ede2e262c0ef8495ef7382ef60951e4e8dbb9a24dd29ba9ce5f710c86de"), looks := true }, kinds := [], alts := [], laidByText := true, laidKinds := [.data, .data, .data, .data, .sentinel, .sentinel, .pinned], laidTests := true, laidLooks := .later }
def LeastAgainUptoCardSaid : Prop := Claim7.holds Tryz.pinned (.plain (OpenSpec.upto leastAgainSpec)) leastAgainUptoCard

/-- THE SECOND FORM's CARD OF 'weftlaw17.LeastLists'. -/
def leastListsUptoCard : Claim7 := { stood := { row := leastListsUptoRow, standIns := [], harness := (true, "86724ede2e262c0ef8495ef7382ef60951e4e8dbb9a24dd29ba9ce5f710c86de"), looks := true }, kinds := [], alts := [], laidByText := true, laidKinds := [.data, .data, .data, .data, .sentinel, .sentinel, .pinned], laidTests := true, laidLooks := .later }
def LeastListsUptoCardSaid : Prop := Claim7.holds Tryz.pinned (.plain (OpenSpec.upto leastListsSpec)) leastListsUptoCard

/-- THE SECOND FORM's CARD OF 'weftlaw17.LeastHolds'. -/
def leastHoldsUptoCard : Claim7 := { stood := { row := leastHoldsUptoRow, standIns := [], harness := (true, "86724ede2e262c0ef8495ef7382ef60951e4e8dbb9a24dd29ba9ce5f710c86de"), looks := true }, kinds := [], alts := [], laidByText := true, laidKinds := [.data, .data, .data, .data, .sentinel, .sentinel, .pinned], laidTests := true, laidLooks := .later }
def LeastHoldsUptoCardSaid : Prop := Claim7.holds Tryz.pinned (.plain (OpenSpec.upto leastHoldsSpec)) leastHoldsUptoCard

/-- THE SECOND FORM's CARD OF 'weftlaw17.LeastApart'. -/
def leastApartUptoCard : Claim7 := { stood := { row := leastApartUptoRow, standIns := [], harness := (true, "86724ede2e262c0ef8495ef7382ef60951e4e8dbb9a24dd29ba9ce5f710c86de"), looks := true }, kinds := [], alts := [], laidByText := true, laidKinds := [.data, .data, .data, .data, .sentinel, .sentinel, .pinned], laidTests := true, laidLooks := .later }
def LeastApartUptoCardSaid : Prop := Claim7.holds Tryz.pinned (.plain (OpenSpec.upto leastApartSpec)) leastApartUptoCard
end Rows
end Go.Proofs.YtikpijbeobeckaaGreatDoor
