/-
  DERIVED. GIVEN WITH THE SEED: THE CARDS: each row of YtpkgfpgccfnkpaaDoorRows.lean that lists a variable, with what it lists TIED to the program's text (the seventh form; the later family's looks); each row that meets fmt, with fmt's text TOLD by the authors' own Lean function (tested against real Go, not proved from fmt's source: count such statements apart). THE CARD IS WHAT COUNTS. Prove the row's statement (the work); the ties are given (YtpkgfpgccfnkpaaDoorTie.lean); close each card by the builder's one call (the guide's Derived/Test/ToyasCard.lean, 'card_holds'). Laid BY PROGRAM, IN A SANDBOX (cutbox-door.mjs). By AI agents, Wed Nov 11 2026. No macro, syntax, notation, axiom, sorry.
-/
import Derived.Test.YtpkgfpgccfnkpaaDoorRows
import GoSem.ClaimSeven
namespace Go.Proofs.YtpkgfpgccfnkpaaDoor
namespace Rows

/-- THE TIED CARD OF 'laws.FnExactLifeText'. -/
def fnExactLifeTextCard : Claim7 := { stood := { row := fnExactLifeTextRow, standIns := [], harness := (true, "01446b2fffc30b11c5b9b738262712d47e03bf0645edfd67cc4d5ea8b55df247"), looks := false }, kinds := [], alts := [], laidByText := true, laidKinds := [.data, .data, .data], laidTests := true, laidLooks := .later }
def FnExactLifeTextCardSaid : Prop := Claim7.holds Tryd.pinned (.plain (OpenSpec.ofChange fnExactLifeTextSpec)) fnExactLifeTextCard

/-- THE TIED CARD OF 'laws.FnEndings'. -/
def fnEndingsCard : Claim7 := { stood := { row := fnEndingsRow, standIns := [], harness := (true, "01446b2fffc30b11c5b9b738262712d47e03bf0645edfd67cc4d5ea8b55df247"), looks := false }, kinds := [], alts := [], laidByText := true, laidKinds := [.data, .data, .data], laidTests := true, laidLooks := .later }
def FnEndingsCardSaid : Prop := Claim7.holds Tryd.pinned (.plain (OpenSpec.ofChange fnEndingsSpec)) fnEndingsCard

/-- THE SECOND FORM's CARD OF 'laws.FnExactLifeText'. -/
def fnExactLifeTextUptoCard : Claim7 := { stood := { row := fnExactLifeTextUptoRow, standIns := [], harness := (true, "01446b2fffc30b11c5b9b738262712d47e03bf0645edfd67cc4d5ea8b55df247"), looks := false }, kinds := [], alts := [], laidByText := true, laidKinds := [.data, .data, .data], laidTests := true, laidLooks := .later }
def FnExactLifeTextUptoCardSaid : Prop := Claim7.holds Tryd.pinned (.plain (OpenSpec.upto fnExactLifeTextSpec)) fnExactLifeTextUptoCard

/-- THE SECOND FORM's CARD OF 'laws.FnEndings'. -/
def fnEndingsUptoCard : Claim7 := { stood := { row := fnEndingsUptoRow, standIns := [], harness := (true, "01446b2fffc30b11c5b9b738262712d47e03bf0645edfd67cc4d5ea8b55df247"), looks := false }, kinds := [], alts := [], laidByText := true, laidKinds := [.data, .data, .data], laidTests := true, laidLooks := .later }
def FnEndingsUptoCardSaid : Prop := Claim7.holds Tryd.pinned (.plain (OpenSpec.upto fnEndingsSpec)) fnEndingsUptoCard
end Rows
end Go.Proofs.YtpkgfpgccfnkpaaDoor
