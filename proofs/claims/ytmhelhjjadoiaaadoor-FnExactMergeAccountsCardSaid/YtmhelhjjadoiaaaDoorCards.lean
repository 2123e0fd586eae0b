/-
  DERIVED. GIVEN WITH THE SEED: THE CARDS: each row of YtmhelhjjadoiaaaDoorRows.lean that lists a variable, with what it lists TIED to the program's text (the seventh form; the later family's looks); each row that meets fmt, with fmt's text TOLD by the authors' own Lean function (tested against real Go, not proved from fmt's source: count such statements apart). THE CARD IS WHAT COUNTS. Prove the row's statement (the work); the ties are given (YtmhelhjjadoiaaaDoorTie.lean); close each card by the builder's one call (the guide's Derived/Test/ToyasCard.lean, 'card_holds'). Laid BY PROGRAM, IN A SANDBOX (cutbox-door.mjs). By AI agents, Wed Nov 11 2026. No macro, syntax, notation, axiom, sorry.
-/
import Derived.Test.YtmhelhjjadoiaaaDoorRows
import GoSem.ClaimSeven
namespace Go.Proofs.YtmhelhjjadoiaaaDoor
namespace Rows

/-- THE TIED CARD OF 'laws.FnExactIsLook'. -/
def fnExactIsLookCard : Claim7 := { stood := { row := fnExactIsLookRow, standIns := [], harness := (true, "13ee43fff453a70622232e5f241565e5834c2ee390e2575e046beb5966ffdb97"), looks := false }, kinds := [], alts := [], laidByText := true, laidKinds := [.data, .pinned], laidTests := true, laidLooks := .later }
def FnExactIsLookCardSaid : Prop := Claim7.holds Tryd.pinned (.plain (OpenSpec.ofChange fnExactIsLookSpec)) fnExactIsLookCard

/-- THE TIED CARD OF 'laws.FnExactIsAccount'. -/
def fnExactIsAccountCard : Claim7 := { stood := { row := fnExactIsAccountRow, standIns := [], harness := (true, "13ee43fff453a70622232e5f241565e5834c2ee390e2575e046beb5966ffdb97"), looks := false }, kinds := [], alts := [], laidByText := true, laidKinds := [.data, .pinned], laidTests := true, laidLooks := .later }
def FnExactIsAccountCardSaid : Prop := Claim7.holds Tryd.pinned (.plain (OpenSpec.ofChange fnExactIsAccountSpec)) fnExactIsAccountCard

/-- THE TIED CARD OF 'laws.FnExactLastChange'. -/
def fnExactLastChangeCard : Claim7 := { stood := { row := fnExactLastChangeRow, standIns := [], harness := (true, "13ee43fff453a70622232e5f241565e5834c2ee390e2575e046beb5966ffdb97"), looks := false }, kinds := [], alts := [], laidByText := true, laidKinds := [.data, .pinned], laidTests := true, laidLooks := .later }
def FnExactLastChangeCardSaid : Prop := Claim7.holds Tryd.pinned (.plain (OpenSpec.ofChange fnExactLastChangeSpec)) fnExactLastChangeCard

/-- THE TIED CARD OF 'laws.FnExactReadsSince'. -/
def fnExactReadsSinceCard : Claim7 := { stood := { row := fnExactReadsSinceRow, standIns := [], harness := (true, "13ee43fff453a70622232e5f241565e5834c2ee390e2575e046beb5966ffdb97"), looks := false }, kinds := [], alts := [], laidByText := true, laidKinds := [.data, .pinned], laidTests := true, laidLooks := .later }
def FnExactReadsSinceCardSaid : Prop := Claim7.holds Tryd.pinned (.plain (OpenSpec.ofChange fnExactReadsSinceSpec)) fnExactReadsSinceCard

/-- THE TIED CARD OF 'laws.FnExactLongestBurst'. -/
def fnExactLongestBurstCard : Claim7 := { stood := { row := fnExactLongestBurstRow, standIns := [], harness := (true, "13ee43fff453a70622232e5f241565e5834c2ee390e2575e046beb5966ffdb97"), looks := false }, kinds := [], alts := [], laidByText := true, laidKinds := [.data, .pinned], laidTests := true, laidLooks := .later }
def FnExactLongestBurstCardSaid : Prop := Claim7.holds Tryd.pinned (.plain (OpenSpec.ofChange fnExactLongestBurstSpec)) fnExactLongestBurstCard

/-- THE TIED CARD OF 'laws.FnExactCrossedLooks'. -/
def fnExactCrossedLooksCard : Claim7 := { stood := { row := fnExactCrossedLooksRow, standIns := [], harness := (true, "13ee43fff453a70622232e5f241565e5834c2ee390e2575e046beb5966ffdb97"), looks := false }, kinds := [], alts := [], laidByText := true, laidKinds := [.data, .pinned], laidTests := true, laidLooks := .later }
def FnExactCrossedLooksCardSaid : Prop := Claim7.holds Tryd.pinned (.plain (OpenSpec.ofChange fnExactCrossedLooksSpec)) fnExactCrossedLooksCard

/-- THE TIED CARD OF 'laws.FnExactUnexplained'. -/
def fnExactUnexplainedCard : Claim7 := { stood := { row := fnExactUnexplainedRow, standIns := [], harness := (true, "13ee43fff453a70622232e5f241565e5834c2ee390e2575e046beb5966ffdb97"), looks := false }, kinds := [], alts := [], laidByText := true, laidKinds := [.data, .pinned], laidTests := true, laidLooks := .later }
def FnExactUnexplainedCardSaid : Prop := Claim7.holds Tryd.pinned (.plain (OpenSpec.ofChange fnExactUnexplainedSpec)) fnExactUnexplainedCard

/-- THE TIED CARD OF 'laws.FnExactLookText'. -/
def fnExactLookTextCard : Claim7 := { stood := { row := fnExactLookTextRow, standIns := [], harness := (true, "13ee43fff453a70622232e5f241565e5834c2ee390e2575e046beb5966ffdb97"), looks := false }, kinds := [], alts := [], laidByText := true, laidKinds := [.data, .data, .data, .data, .pinned], laidTests := true, laidLooks := .later }
def FnExactLookTextCardSaid : Prop := Claim7.holds Tryd.pinned (.plain (OpenSpec.ofChange fnExactLookTextSpec)) fnExactLookTextCard

/-- THE TIED CARD OF 'laws.FnExactMergeAccounts'. -/
def fnExactMergeAccountsCard : Claim7 := { stood := { row := fnExactMergeAccountsRow, standIns := [], harness := (true, "13ee43fff453a70622232e5f241565e5834c2ee390e2575e046beb5966ffdb97"), looks := false }, kinds := [], alts := [], laidByText := true, laidKinds := [.data, .pinned], laidTests := true, laidLooks := .later }
def FnExactMergeAccountsCardSaid : Prop := Claim7.holds Tryd.pinned (.plain (OpenSpec.ofChange fnExactMergeAccountsSpec)) fnExactMergeAccountsCard

/-- THE TIED CARD OF 'laws.FnExactWhoSaw'. -/
def fnExactWhoSawCard : Claim7 := { stood := { row := fnExactWhoSawRow, standIns := [], harness := (true, "13ee43fff453a70622232e5f241565e5834c2ee390e2575e046beb5966ffdb97"), looks := false }, kinds := [], alts := [], laidByText := true, laidKinds := [.data, .pinned], laidTests := true, laidLooks := .later }
def FnExactWhoSawCardSaid : Prop := Claim7.holds Tryd.pinned (.plain (OpenSpec.ofChange fnExactWhoSawSpec)) fnExactWhoSawCard

/-- THE TIED CARD OF 'laws.FnExactSameReason'. -/
def fnExactSameReasonCard : Claim7 := { stood := { row := fnExactSameReasonRow, standIns := [], harness := (true, "13ee43fff453a70622232e5f241565e5834c2ee390e2575e046beb5966ffdb97"), looks := false }, kinds := [], alts := [], laidByText := true, laidKinds := [.data, .pinned], laidTests := true, laidLooks := .later }
def FnExactSameReasonCardSaid : Prop := Claim7.holds Tryd.pinned (.plain (OpenSpec.ofChange fnExactSameReasonSpec)) fnExactSameReasonCard

/-- THE SECOND FORM's CARD OF 'laws.FnExactIsLook'. -/
def fnExactIsLookUptoCard : Claim7 := { stood := { row := fnExactIsLookUptoRow, standIns := [], harness := (true, "13ee43fff453a70622232e5f241565e5834c2ee390e2575e046beb5966ffdb97"), looks := false }, kinds := [], alts := [], laidByText := true, laidKinds := [.data, .pinned], laidTests := true, laidLooks := .later }
def FnExactIsLookUptoCardSaid : Prop := Claim7.holds Tryd.pinned (.plain (OpenSpec.upto fnExactIsLookSpec)) fnExactIsLookUptoCard

/-- THE SECOND FORM's CARD OF 'laws.FnExactIsAccount'. -/
def fnExactIsAccountUptoCard : Claim7 := { stood := { row := fnExactIsAccountUptoRow, standIns := [], harness := (true, "13ee43fff453a70622232e5f241565e5834c2ee390e2575e046beb5966ffdb97"), looks := false }, kinds := [], alts := [], laidByText := true, laidKinds := [.data, .pinned], laidTests := true, laidLooks := .later }
def FnExactIsAccountUptoCardSaid : Prop := Claim7.holds Tryd.pinned (.plain (OpenSpec.upto fnExactIsAccountSpec)) fnExactIsAccountUptoCard

/-- THE SECOND FORM's CARD OF 'laws.FnExactLastChange'. -/
def fnExactLastChangeUptoCard : Claim7 := { stood := { row := fnExactLastChangeUptoRow, standIns := [], harness := (true, "13ee43fff453a70622232e5f241565e5834c2ee390e2575e046beb5966ffdb97"), looks := false }, kinds := [], alts := [], laidByText := true, laidKinds := [.data, .pinned], laidTests := true, laidLooks := .later }
def FnExactLastChangeUptoCardSaid : Prop := Claim7.holds Tryd.pinned (.plain (OpenSpec.upto fnExactLastChangeSpec)) fnExactLastChangeUptoCard

/-- THE SECOND FORM's CARD OF 'laws.FnExactReadsSince'. -/
def fnExactReadsSinceUptoCard : Claim7 := { stood := { row := fnExactReadsSinceUptoRow, standIns := [], harness := (true, "13ee43fff453a70622232e5f241565e5834c2ee390e2575e046beb5966ffdb97"), looks := false }, kinds := [], alts := [], laidByText := true, laidKinds := [.data, .pinned], laidTests := true, laidLooks := .later }
def FnExactReadsSinceUptoCardSaid : Prop := Claim7.holds Tryd.pinned (.plain (OpenSpec.upto fnExactReadsSinceSpec)) fnExactReadsSinceUptoCard

/-- THE SECOND FORM's CARD OF 'laws.FnExactLongestBurst'. -/
def fnExactLongestBurstUptoCard : Claim7 := { stood := { row := fnExactLongestBurstUptoRow, standIns := [], harness := (true, "13ee43fff453a70622232e5f241565e5834c2ee390e2575e046beb5966ffdb97"), looks := false }, kinds := [], alts := [], laidByText := true, laidKinds := [.data, .pinned], laidTests := true, laidLooks := .later }
def FnExactLongestBurstUptoCardSaid : Prop := Claim7.holds Tryd.pinned (.plain (OpenSpec.upto fnExactLongestBurstSpec)) fnExactLongestBurstUptoCard

/-- THE SECOND FORM's CARD OF 'laws.FnExactCrossedLooks'. -/
def fnExactCrossedLooksUptoCard : Claim7 := { stood := { row := fnExactCrossedLooksUptoRow, standIns := [], harness := (true, "13ee43fff453a70622232e5f241565e5834c2ee390e2575e046beb5966ffdb97"), looks := false }, kinds := [], alts := [], laidByText := true, laidKinds := [.data, .pinned], laidTests := true, laidLooks := .later }
def FnExactCrossedLooksUptoCardSaid : Prop := Claim7.holds Tryd.pinned (.plain (OpenSpec.upto fnExactCrossedLooksSpec)) fnExactCrossedLooksUptoCard

/-- THE SECOND FORM's CARD OF 'laws.FnExactUnexplained'. -/
def fnExactUnexplainedUptoCard : Claim7 := { stood := { row := fnExactUnexplainedUptoRow, standIns := [], harness := (true, "13ee43fff453a70622232e5f241565e5834c2ee390e2575e046beb5966ffdb97"), looks := false }, kinds := [], alts := [], laidByText := true, laidKinds := [.data, .pinned], laidTests := true, laidLooks := .later }
def FnExactUnexplainedUptoCardSaid : Prop := Claim7.holds Tryd.pinned (.plain (OpenSpec.upto fnExactUnexplainedSpec)) fnExactUnexplainedUptoCard

/-- THE SECOND FORM's CARD OF 'laws.FnExactLookText'. -/
def fnExactLookTextUptoCard : Claim7 := { stood := { row := fnExactLookTextUptoRow, standIns := [], harness := (true, "13ee43fff453a70622232e5f241565e5834c2ee390e2575e046beb5966ffdb97"), looks := false }, kinds := [], alts := [], laidByText := true, laidKinds := [.data, .data, .data, .data, .pinned], laidTests := true, laidLooks := .later }
def FnExactLookTextUptoCardSaid : Prop := Claim7.holds Tryd.pinned (.plain (OpenSpec.upto fnExactLookTextSpec)) fnExactLookTextUptoCard

/-- THE SECOND FORM's CARD OF 'laws.FnExactMergeAccounts'. -/
def fnExactMergeAccountsUptoCard : Claim7 := { stood := { row := fnExactMergeAccountsUptoRow, standIns := [], harness := (true, "13ee43fff453a70622232e5f241565e5834c2ee390e2575e046beb5966ffdb97"), looks := false }, kinds := [], alts := [], laidByText := true, laidKinds := [.data, .pinned], laidTests := true, laidLooks := .later }
def FnExactMergeAccountsUptoCardSaid : Prop := Claim7.holds Tryd.pinned (.plain (OpenSpec.upto fnExactMergeAccountsSpec)) fnExactMergeAccountsUptoCard

/-- THE SECOND FORM's CARD OF 'laws.FnExactWhoSaw'. -/
def fnExactWhoSawUptoCard : Claim7 := { stood := { row := fnExactWhoSawUptoRow, standIns := [], harness := (true, "13ee43fff453a70622232e5f241565e5834c2ee390e2575e046beb5966ffdb97"), looks := false }, kinds := [], alts := [], laidByText := true, laidKinds := [.data, .pinned], laidTests := true, laidLooks := .later }
def FnExactWhoSawUptoCardSaid : Prop := Claim7.holds Tryd.pinned (.plain (OpenSpec.upto fnExactWhoSawSpec)) fnExactWhoSawUptoCard

/-- THE SECOND FORM's CARD OF 'laws.FnExactSameReason'. -/
def fnExactSameReasonUptoCard : Claim7 := { stood := { row := fnExactSameReasonUptoRow, standIns := [], harness := (true, "13ee43fff453a70622232e5f241565e5834c2ee390e2575e046beb5966ffdb97"), looks := false }, kinds := [], alts := [], laidByText := true, laidKinds := [.data, .pinned], laidTests := true, laidLooks := .later }
def FnExactSameReasonUptoCardSaid : Prop := Claim7.holds Tryd.pinned (.plain (OpenSpec.upto fnExactSameReasonSpec)) fnExactSameReasonUptoCard
end Rows
end Go.Proofs.YtmhelhjjadoiaaaDoor
