/-
  DERIVED. GIVEN WITH THE SEED: THE CARDS: each row of YtnhkejbgcjebmaaDoorRows.lean that lists a variable, with what it lists TIED to the program's text (the seventh form; the later family's looks); each row that meets fmt, with fmt's text TOLD by the authors' own Lean function (tested against real Go, not proved from fmt's source: count such statements apart). THE CARD IS WHAT COUNTS. Prove the row's statement (the work); the ties are given (YtnhkejbgcjebmaaDoorTie.lean); close each card by the builder's one call (the guide's Derived/Test/ToyasCard.lean, 'card_holds'). Laid BY PROGRAM, IN A SANDBOX (cutbox-door.mjs). By AI agents, Wed Nov 11 2026. No macro, syntax, notation, axiom, sorry.
-/
import Derived.Test.YtnhkejbgcjebmaaDoorRows
import GoSem.ClaimSeven
namespace Go.Proofs.YtnhkejbgcjebmaaDoor
namespace Rows

/-- THE TIED CARD OF 'laws.FnExactPaddedLength'. -/
def fnExactPaddedLengthCard : Claim7 := { stood := { row := fnExactPaddedLengthRow, standIns := [], harness := (true, "35d8120bef7e6c7c051df21d64a32bf17e5de3400479f858d1f325a2e903817f"), looks := false }, kinds := [], alts := [], laidByText := true, laidKinds := [.data, .pinned], laidTests := true, laidLooks := .later }
def FnExactPaddedLengthCardSaid : Prop := Claim7.holds Tryd.pinned (.plain (OpenSpec.ofChange fnExactPaddedLengthSpec)) fnExactPaddedLengthCard

/-- THE TIED CARD OF 'laws.FnExactIsClue'. -/
def fnExactIsClueCard : Claim7 := { stood := { row := fnExactIsClueRow, standIns := [], harness := (true, "35d8120bef7e6c7c051df21d64a32bf17e5de3400479f858d1f325a2e903817f"), looks := false }, kinds := [], alts := [], laidByText := true, laidKinds := [.data, .pinned], laidTests := true, laidLooks := .later }
def FnExactIsClueCardSaid : Prop := Claim7.holds Tryd.pinned (.plain (OpenSpec.ofChange fnExactIsClueSpec)) fnExactIsClueCard

/-- THE TIED CARD OF 'laws.FnExactLengthClue'. -/
def fnExactLengthClueCard : Claim7 := { stood := { row := fnExactLengthClueRow, standIns := [], harness := (true, "35d8120bef7e6c7c051df21d64a32bf17e5de3400479f858d1f325a2e903817f"), looks := false }, kinds := [], alts := [], laidByText := true, laidKinds := [.data, .pinned], laidTests := true, laidLooks := .later }
def FnExactLengthClueCardSaid : Prop := Claim7.holds Tryd.pinned (.plain (OpenSpec.ofChange fnExactLengthClueSpec)) fnExactLengthClueCard

/-- THE TIED CARD OF 'laws.FnExactIsDictionary'. -/
def fnExactIsDictionaryCard : Claim7 := { stood := { row := fnExactIsDictionaryRow, standIns := [], harness := (true, "35d8120bef7e6c7c051df21d64a32bf17e5de3400479f858d1f325a2e903817f"), looks := false }, kinds := [], alts := [], laidByText := true, laidKinds := [.data, .pinned], laidTests := true, laidLooks := .later }
def FnExactIsDictionaryCardSaid : Prop := Claim7.holds Tryd.pinned (.plain (OpenSpec.ofChange fnExactIsDictionarySpec)) fnExactIsDictionaryCard

/-- THE TIED CARD OF 'laws.FnExactIndexClue'. -/
def fnExactIndexClueCard : Claim7 := { stood := { row := fnExactIndexClueRow, standIns := [], harness := (true, "35d8120bef7e6c7c051df21d64a32bf17e5de3400479f858d1f325a2e903817f"), looks := false }, kinds := [], alts := [], laidByText := true, laidKinds := [.data, .pinned], laidTests := true, laidLooks := .later }
def FnExactIndexClueCardSaid : Prop := Claim7.holds Tryd.pinned (.plain (OpenSpec.ofChange fnExactIndexClueSpec)) fnExactIndexClueCard

/-- THE TIED CARD OF 'laws.FnExactStepFor'. -/
def fnExactStepForCard : Claim7 := { stood := { row := fnExactStepForRow, standIns := [], harness := (true, "35d8120bef7e6c7c051df21d64a32bf17e5de3400479f858d1f325a2e903817f"), looks := false }, kinds := [], alts := [], laidByText := true, laidKinds := [.data, .pinned], laidTests := true, laidLooks := .later }
def FnExactStepForCardSaid : Prop := Claim7.holds Tryd.pinned (.plain (OpenSpec.ofChange fnExactStepForSpec)) fnExactStepForCard

/-- THE TIED CARD OF 'laws.FnExactIsSafeClue'. -/
def fnExactIsSafeClueCard : Claim7 := { stood := { row := fnExactIsSafeClueRow, standIns := [], harness := (true, "35d8120bef7e6c7c051df21d64a32bf17e5de3400479f858d1f325a2e903817f"), looks := false }, kinds := [], alts := [], laidByText := true, laidKinds := [.data, .pinned], laidTests := true, laidLooks := .later }
def FnExactIsSafeClueCardSaid : Prop := Claim7.holds Tryd.pinned (.plain (OpenSpec.ofChange fnExactIsSafeClueSpec)) fnExactIsSafeClueCard

/-- THE TIED CARD OF 'laws.FnExactLeastSafe'. -/
def fnExactLeastSafeCard : Claim7 := { stood := { row := fnExactLeastSafeRow, standIns := [], harness := (true, "35d8120bef7e6c7c051df21d64a32bf17e5de3400479f858d1f325a2e903817f"), looks := false }, kinds := [], alts := [], laidByText := true, laidKinds := [.data, .pinned], laidTests := true, laidLooks := .later }
def FnExactLeastSafeCardSaid : Prop := Claim7.holds Tryd.pinned (.plain (OpenSpec.ofChange fnExactLeastSafeSpec)) fnExactLeastSafeCard

/-- THE TIED CARD OF 'laws.FnExactCandidates'. -/
def fnExactCandidatesCard : Claim7 := { stood := { row := fnExactCandidatesRow, standIns := [], harness := (true, "35d8120bef7e6c7c051df21d64a32bf17e5de3400479f858d1f325a2e903817f"), looks := false }, kinds := [], alts := [], laidByText := true, laidKinds := [.data, .pinned], laidTests := true, laidLooks := .later }
def FnExactCandidatesCardSaid : Prop := Claim7.holds Tryd.pinned (.plain (OpenSpec.ofChange fnExactCandidatesSpec)) fnExactCandidatesCard

/-- THE TIED CARD OF 'laws.FnExactWhatLeaks'. -/
def fnExactWhatLeaksCard : Claim7 := { stood := { row := fnExactWhatLeaksRow, standIns := [], harness := (true, "35d8120bef7e6c7c051df21d64a32bf17e5de3400479f858d1f325a2e903817f"), looks := false }, kinds := [], alts := [], laidByText := true, laidKinds := [.data, .pinned], laidTests := true, laidLooks := .later }
def FnExactWhatLeaksCardSaid : Prop := Claim7.holds Tryd.pinned (.plain (OpenSpec.ofChange fnExactWhatLeaksSpec)) fnExactWhatLeaksCard

/-- THE TIED CARD OF 'laws.FnClues'. -/
def fnCluesCard : Claim7 := { stood := { row := fnCluesRow, standIns := [], harness := (true, "35d8120bef7e6c7c051df21d64a32bf17e5de3400479f858d1f325a2e903817f"), looks := false }, kinds := [], alts := [], laidByText := true, laidKinds := [.data, .pinned], laidTests := true, laidLooks := .later }
def FnCluesCardSaid : Prop := Claim7.holds Tryd.pinned (.plain (OpenSpec.ofChange fnCluesSpec)) fnCluesCard

/-- THE TIED CARD OF 'laws.FnLeaks'. -/
def fnLeaksCard : Claim7 := { stood := { row := fnLeaksRow, standIns := [], harness := (true, "35d8120bef7e6c7c051df21d64a32bf17e5de3400479f858d1f325a2e903817f"), looks := false }, kinds := [], alts := [], laidByText := true, laidKinds := [.data, .pinned], laidTests := true, laidLooks := .later }
def FnLeaksCardSaid : Prop := Claim7.holds Tryd.pinned (.plain (OpenSpec.ofChange fnLeaksSpec)) fnLeaksCard

/-- THE SECOND FORM's CARD OF 'laws.FnExactPaddedLength'. -/
def fnExactPaddedLengthUptoCard : Claim7 := { stood := { row := fnExactPaddedLengthUptoRow, standIns := [], harness := (true, "35d8120bef7e6c7c051df21d64a32bf17e5de3400479f858d1f325a2e903817f"), looks := false }, kinds := [], alts := [], laidByText := true, laidKinds := [.data, .pinned], laidTests := true, laidLooks := .later }
def FnExactPaddedLengthUptoCardSaid : Prop := Claim7.holds Tryd.pinned (.plain (OpenSpec.upto fnExactPaddedLengthSpec)) fnExactPaddedLengthUptoCard

/-- THE SECOND FORM's CARD OF 'laws.FnExactIsClue'. -/
def fnExactIsClueUptoCard : Claim7 := { stood := { row := fnExactIsClueUptoRow, standIns := [], harness := (true, "35d8120bef7e6c7c051df21d64a32bf17e5de3400479f858d1f325a2e903817f"), looks := false }, kinds := [], alts := [], laidByText := true, laidKinds := [.data, .pinned], laidTests := true, laidLooks := .later }
def FnExactIsClueUptoCardSaid : Prop := Claim7.holds Tryd.pinned (.plain (OpenSpec.upto fnExactIsClueSpec)) fnExactIsClueUptoCard

/-- THE SECOND FORM's CARD OF 'laws.FnExactLengthClue'. -/
def fnExactLengthClueUptoCard : Claim7 := { stood := { row := fnExactLengthClueUptoRow, standIns := [], harness := (true, "35d8120bef7e6c7c051df21d64a32bf17e5de3400479f858d1f325a2e903817f"), looks := false }, kinds := [], alts := [], laidByText := true, laidKinds := [.data, .pinned], laidTests := true, laidLooks := .later }
def FnExactLengthClueUptoCardSaid : Prop := Claim7.holds Tryd.pinned (.plain (OpenSpec.upto fnExactLengthClueSpec)) fnExactLengthClueUptoCard

/-- THE SECOND FORM's CARD OF 'laws.FnExactIsDictionary'. -/
def fnExactIsDictionaryUptoCard : Claim7 := { stood := { row := fnExactIsDictionaryUptoRow, standIns := [], harness := (true, "35d8120bef7e6c7c051df21d64a32bf17e5de3400479f858d1f325a2e903817f"), looks := false }, kinds := [], alts := [], laidByText := true, laidKinds := [.data, .pinned], laidTests := true, laidLooks := .later }
def FnExactIsDictionaryUptoCardSaid : Prop := Claim7.holds Tryd.pinned (.plain (OpenSpec.upto fnExactIsDictionarySpec)) fnExactIsDictionaryUptoCard

/-- THE SECOND FORM's CARD OF 'laws.FnExactIndexClue'. -/
def fnExactIndexClueUptoCard : Claim7 := { stood := { row := fnExactIndexClueUptoRow, standIns := [], harness := (true, "35d8120bef7e6c7c051df21d64a32bf17e5de3400479f858d1f325a2e903817f"), looks := false }, kinds := [], alts := [], laidByText := true, laidKinds := [.data, .pinned], laidTests := true, laidLooks := .later }
def FnExactIndexClueUptoCardSaid : Prop := Claim7.holds Tryd.pinned (.plain (OpenSpec.upto fnExactIndexClueSpec)) fnExactIndexClueUptoCard

/-- THE SECOND FORM's CARD OF 'laws.FnExactStepFor'. -/
def fnExactStepForUptoCard : Claim7 := { stood := { row := fnExactStepForUptoRow, standIns := [], harness := (true, "35d8120bef7e6c7c051df21d64a32bf17e5de3400479f858d1f325a2e903817f"), looks := false }, kinds := [], alts := [], laidByText := true, laidKinds := [.data, .pinned], laidTests := true, laidLooks := .later }
def FnExactStepForUptoCardSaid : Prop := Claim7.holds Tryd.pinned (.plain (OpenSpec.upto fnExactStepForSpec)) fnExactStepForUptoCard

/-- THE SECOND FORM's CARD OF 'laws.FnExactIsSafeClue'. -/
def fnExactIsSafeClueUptoCard : Claim7 := { stood := { row := fnExactIsSafeClueUptoRow, standIns := [], harness := (true, "35d8120bef7e6c7c051df21d64a32bf17e5de3400479f858d1f325a2e903817f"), looks := false }, kinds := [], alts := [], laidByText := true, laidKinds := [.data, .pinned], laidTests := true, laidLooks := .later }
def FnExactIsSafeClueUptoCardSaid : Prop := Claim7.holds Tryd.pinned (.plain (OpenSpec.upto fnExactIsSafeClueSpec)) fnExactIsSafeClueUptoCard

/-- THE SECOND FORM's CARD OF 'laws.FnExactLeastSafe'. -/
def fnExactLeastSafeUptoCard : Claim7 := { stood := { row := fnExactLeastSafeUptoRow, standIns := [], harness := (true, "35d8120bef7e6c7c051df21d64a32bf17e5de3400479f858d1f325a2e903817f"), looks := false }, kinds := [], alts := [], laidByText := true, laidKinds := [.data, .pinned], laidTests := true, laidLooks := .later }
def FnExactLeastSafeUptoCardSaid : Prop := Claim7.holds Tryd.pinned (.plain (OpenSpec.upto fnExactLeastSafeSpec)) fnExactLeastSafeUptoCard

/-- THE SECOND FORM's CARD OF 'laws.FnExactCandidates'. -/
def fnExactCandidatesUptoCard : Claim7 := { stood := { row := fnExactCandidatesUptoRow, standIns := [], harness := (true, "35d8120bef7e6c7c051df21d64a32bf17e5de3400479f858d1f325a2e903817f"), looks := false }, kinds := [], alts := [], laidByText := true, laidKinds := [.data, .pinned], laidTests := true, laidLooks := .later }
def FnExactCandidatesUptoCardSaid : Prop := Claim7.holds Tryd.pinned (.plain (OpenSpec.upto fnExactCandidatesSpec)) fnExactCandidatesUptoCard

/-- THE SECOND FORM's CARD OF 'laws.FnExactWhatLeaks'. -/
def fnExactWhatLeaksUptoCard : Claim7 := { stood := { row := fnExactWhatLeaksUptoRow, standIns := [], harness := (true, "35d8120bef7e6c7c051df21d64a32bf17e5de3400479f858d1f325a2e903817f"), looks := false }, kinds := [], alts := [], laidByText := true, laidKinds := [.data, .pinned], laidTests := true, laidLooks := .later }
def FnExactWhatLeaksUptoCardSaid : Prop := Claim7.holds Tryd.pinned (.plain (OpenSpec.upto fnExactWhatLeaksSpec)) fnExactWhatLeaksUptoCard

/-- THE SECOND FORM's CARD OF 'laws.FnClues'. -/
def fnCluesUptoCard : Claim7 := { stood := { row := fnCluesUptoRow, standIns := [], harness := (true, "35d8120bef7e6c7c051df21d64a32bf17e5de3400479f858d1f325a2e903817f"), looks := false }, kinds := [], alts := [], laidByText := true, laidKinds := [.data, .pinned], laidTests := true, laidLooks := .later }
def FnCluesUptoCardSaid : Prop := Claim7.holds Tryd.pinned (.plain (OpenSpec.upto fnCluesSpec)) fnCluesUptoCard

/-- THE SECOND FORM's CARD OF 'laws.FnLeaks'. -/
def fnLeaksUptoCard : Claim7 := { stood := { row := fnLeaksUptoRow, standIns := [], harness := (true, "35d8120bef7e6c7c051df21d64a32bf17e5de3400479f858d1f325a2e903817f"), looks := false }, kinds := [], alts := [], laidByText := true, laidKinds := [.data, .pinned], laidTests := true, laidLooks := .later }
def FnLeaksUptoCardSaid : Prop := Claim7.holds Tryd.pinned (.plain (OpenSpec.upto fnLeaksSpec)) fnLeaksUptoCard
end Rows
end Go.Proofs.YtnhkejbgcjebmaaDoor
