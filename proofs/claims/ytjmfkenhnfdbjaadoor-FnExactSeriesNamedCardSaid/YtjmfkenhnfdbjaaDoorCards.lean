/-
  DERIVED. GIVEN WITH THE SEED: THE CARDS: each row of YtjmfkenhnfdbjaaDoorRows.lean that lists a variable, with what it lists TIED to the program's text (the seventh form; the later family's looks); each row that meets fmt, with fmt's text TOLD by the authors' own Lean function (tested against real Go, not proved from fmt's source: count such statements apart). THE CARD IS WHAT COUNTS. Prove the row's statement (the work); the ties are given (YtjmfkenhnfdbjaaDoorTie.lean); close each card by the builder's one call (the guide's Derived/Test/ToyasCard.lean, 'card_holds'). Laid BY PROGRAM, IN A SANDBOX (cutbox-door.mjs). By AI agents, Wed Nov 11 2026. No macro, syntax, notation, axiom, sorry.
-/
import Derived.Test.YtjmfkenhnfdbjaaDoorRows
import GoSem.ClaimSeven
namespace Go.Proofs.YtjmfkenhnfdbjaaDoor
namespace Rows

/-- THE TIED CARD OF 'laws.FnExactBothQueries'. -/
def fnExactBothQueriesCard : Claim7 := { stood := { row := fnExactBothQueriesRow, standIns := [], harness := (true, "63a775931c8dab9908ebf422310212aee24d16e4d078dccc9bddaca2e1a2e8b4"), looks := true }, kinds := [], alts := [], laidByText := true, laidKinds := [.data, .data, .data, .sentinel, .sentinel], laidTests := true, laidLooks := .later }
def FnExactBothQueriesCardSaid : Prop := Claim7.holds Tryd.pinned (.plain (OpenSpec.ofChange fnExactBothQueriesSpec)) fnExactBothQueriesCard

/-- THE TIED CARD OF 'laws.FnExactDoesMatch'. -/
def fnExactDoesMatchCard : Claim7 := { stood := { row := fnExactDoesMatchRow, standIns := [], harness := (true, "63a775931c8dab9908ebf422310212aee24d16e4d078dccc9bddaca2e1a2e8b4"), looks := true }, kinds := [], alts := [], laidByText := true, laidKinds := [.data, .data, .data, .sentinel, .sentinel], laidTests := true, laidLooks := .later }
def FnExactDoesMatchCardSaid : Prop := Claim7.holds Tryd.pinned (.plain (OpenSpec.ofChange fnExactDoesMatchSpec)) fnExactDoesMatchCard

/-- THE TIED CARD OF 'laws.FnExactAgreesOn'. -/
def fnExactAgreesOnCard : Claim7 := { stood := { row := fnExactAgreesOnRow, standIns := [], harness := (true, "63a775931c8dab9908ebf422310212aee24d16e4d078dccc9bddaca2e1a2e8b4"), looks := true }, kinds := [], alts := [], laidByText := true, laidKinds := [.data, .data, .data, .sentinel, .sentinel], laidTests := true, laidLooks := .later }
def FnExactAgreesOnCardSaid : Prop := Claim7.holds Tryd.pinned (.plain (OpenSpec.ofChange fnExactAgreesOnSpec)) fnExactAgreesOnCard

/-- THE TIED CARD OF 'laws.FnExactMatchingRecords'. -/
def fnExactMatchingRecordsCard : Claim7 := { stood := { row := fnExactMatchingRecordsRow, standIns := [], harness := (true, "63a775931c8dab9908ebf422310212aee24d16e4d078dccc9bddaca2e1a2e8b4"), looks := true }, kinds := [], alts := [], laidByText := true, laidKinds := [.data, .data, .data, .sentinel, .sentinel], laidTests := true, laidLooks := .later }
def FnExactMatchingRecordsCardSaid : Prop := Claim7.holds Tryd.pinned (.plain (OpenSpec.ofChange fnExactMatchingRecordsSpec)) fnExactMatchingRecordsCard

/-- THE TIED CARD OF 'laws.FnExactSeriesNamed'. -/
def fnExactSeriesNamedCard : Claim7 := { stood := { row := fnExactSeriesNamedRow, standIns := [], harness := (true, "63a775931c8dab9908ebf422310212aee24d16e4d078dccc9bddaca2e1a2e8b4"), looks := true }, kinds := [], alts := [], laidByText := true, laidKinds := [.data, .data, .data, .sentinel, .sentinel], laidTests := true, laidLooks := .later }
def FnExactSeriesNamedCardSaid : Prop := Claim7.holds Tryd.pinned (.plain (OpenSpec.ofChange fnExactSeriesNamedSpec)) fnExactSeriesNamedCard

/-- THE SECOND FORM's CARD OF 'laws.FnExactBothQueries'. -/
def fnExactBothQueriesUptoCard : Claim7 := { stood := { row := fnExactBothQueriesUptoRow, standIns := [], harness := (true, "63a775931c8dab9908ebf422310212aee24d16e4d078dccc9bddaca2e1a2e8b4"), looks := true }, kinds := [], alts := [], laidByText := true, laidKinds := [.data, .data, .data, .sentinel, .sentinel], laidTests := true, laidLooks := .later }
def FnExactBothQueriesUptoCardSaid : Prop := Claim7.holds Tryd.pinned (.plain (OpenSpec.upto fnExactBothQueriesSpec)) fnExactBothQueriesUptoCard

/-- THE SECOND FORM's CARD OF 'laws.FnExactDoesMatch'. -/
def fnExactDoesMatchUptoCard : Claim7 := { stood := { row := fnExactDoesMatchUptoRow, standIns := [], harness := (true, "63a775931c8dab9908ebf422310212aee24d16e4d078dccc9bddaca2e1a2e8b4"), looks := true }, kinds := [], alts := [], laidByText := true, laidKinds := [.data, .data, .data, .sentinel, .sentinel], laidTests := true, laidLooks := .later }
def FnExactDoesMatchUptoCardSaid : Prop := Claim7.holds Tryd.pinned (.plain (OpenSpec.upto fnExactDoesMatchSpec)) fnExactDoesMatchUptoCard

/-- THE SECOND FORM's CARD OF 'laws.FnExactAgreesOn'. -/
def fnExactAgreesOnUptoCard : Claim7 := { stood := { row := fnExactAgreesOnUptoRow, standIns := [], harness := (true, "63a775931c8dab9908ebf422310212aee24d16e4d078dccc9bddaca2e1a2e8b4"), looks := true }, kinds := [], alts := [], laidByText := true, laidKinds := [.data, .data, .data, .sentinel, .sentinel], laidTests := true, laidLooks := .later }
def FnExactAgreesOnUptoCardSaid : Prop := Claim7.holds Tryd.pinned (.plain (OpenSpec.upto fnExactAgreesOnSpec)) fnExactAgreesOnUptoCard

/-- THE SECOND FORM's CARD OF 'laws.FnExactMatchingRecords'. -/
def fnExactMatchingRecordsUptoCard : Claim7 := { stood := { row := fnExactMatchingRecordsUptoRow, standIns := [], harness := (true, "63a775931c8dab9908ebf422310212aee24d16e4d078dccc9bddaca2e1a2e8b4"), looks := true }, kinds := [], alts := [], laidByText := true, laidKinds := [.data, .data, .data, .sentinel, .sentinel], laidTests := true, laidLooks := .later }
def FnExactMatchingRecordsUptoCardSaid : Prop := Claim7.holds Tryd.pinned (.plain (OpenSpec.upto fnExactMatchingRecordsSpec)) fnExactMatchingRecordsUptoCard

/-- THE SECOND FORM's CARD OF 'laws.FnExactSeriesNamed'. -/
def fnExactSeriesNamedUptoCard : Claim7 := { stood := { row := fnExactSeriesNamedUptoRow, standIns := [], harness := (true, "63a775931c8dab9908ebf422310212aee24d16e4d078dccc9bddaca2e1a2e8b4"), looks := true }, kinds := [], alts := [], laidByText := true, laidKinds := [.data, .data, .data, .sentinel, .sentinel], laidTests := true, laidLooks := .later }
def FnExactSeriesNamedUptoCardSaid : Prop := Claim7.holds Tryd.pinned (.plain (OpenSpec.upto fnExactSeriesNamedSpec)) fnExactSeriesNamedUptoCard
end Rows
end Go.Proofs.YtjmfkenhnfdbjaaDoor
