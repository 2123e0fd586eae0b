/-
  DERIVED. GIVEN WITH THE SEED: THE CARDS: each row of YtmhelhjjadoiaaaGreatDoorRows.lean that lists a variable, with what it lists TIED to the program's text (the seventh form; the later family's looks); each row that meets fmt, with fmt's text TOLD by the authors' own Lean function (tested against real Go, not proved from fmt's source: count such statements apart). THE CARD IS WHAT COUNTS. Prove the row's statement (the work); the ties are given (YtmhelhjjadoiaaaGreatDoorTie.lean); close each card by the builder's one call (the guide's Derived/Test/ToyasCard.lean, 'card_holds'). Laid BY PROGRAM, IN A SANDBOX (cutbox-door.mjs). By AI agents, Wed Nov 11 2026. No macro, syntax, notation, axiom, sorry.
-/
import Derived.Test.YtmhelhjjadoiaaaGreatDoorRows
import GoSem.ClaimSeven
namespace Go.Proofs.YtmhelhjjadoiaaaGreatDoor
namespace Rows

/-- THE TIED CARD OF 'laws.FnLooks'. -/
def fnLooksCard : Claim7 := { stood := { row := fnLooksRow, standIns := [], harness := (true, "232b2bcfe6d1e3a8761608b4c891243955daa893f8a5ca92d6748410b4ac44bd"), looks := false }, kinds := [], alts := [], laidByText := true, laidKinds := [.data, .data, .data, .data, .pinned], laidTests := true, laidLooks := .later }
def FnLooksCardSaid : Prop := Claim7.holds Tryz.pinned (.plain (OpenSpec.ofChange fnLooksSpec)) fnLooksCard

/-- THE TIED CARD OF 'laws.FnAccounts'. -/
def fnAccountsCard : Claim7 := { stood := { row := fnAccountsRow, standIns := [], harness := (true, "232b2bcfe6d1e3a8761608b4c891243955daa893f8a5ca92d6748410b4ac44bd"), looks := false }, kinds := [], alts := [], laidByText := true, laidKinds := [.data, .pinned], laidTests := true, laidLooks := .later }
def FnAccountsCardSaid : Prop := Claim7.holds Tryz.pinned (.plain (OpenSpec.ofChange fnAccountsSpec)) fnAccountsCard

/-- THE SECOND FORM's CARD OF 'laws.FnLooks'. -/
def fnLooksUptoCard : Claim7 := { stood := { row := fnLooksUptoRow, standIns := [], harness := (true, "232b2bcfe6d1e3a8761608b4c891243955daa893f8a5ca92d6748410b4ac44bd"), looks := false }, kinds := [], alts := [], laidByText := true, laidKinds := [.data, .data, .data, .data, .pinned], laidTests := true, laidLooks := .later }
def FnLooksUptoCardSaid : Prop := Claim7.holds Tryz.pinned (.plain (OpenSpec.upto fnLooksSpec)) fnLooksUptoCard

/-- THE SECOND FORM's CARD OF 'laws.FnAccounts'. -/
def fnAccountsUptoCard : Claim7 := { stood := { row := fnAccountsUptoRow, standIns := [], harness := (true, "232b2bcfe6d1e3a8761608b4c891243955daa893f8a5ca92d6748410b4ac44bd"), looks := false }, kinds := [], alts := [], laidByText := true, laidKinds := [.data, .pinned], laidTests := true, laidLooks := .later }
def FnAccountsUptoCardSaid : Prop := Claim7.holds Tryz.pinned (.plain (OpenSpec.upto fnAccountsSpec)) fnAccountsUptoCard
end Rows
end Go.Proofs.YtmhelhjjadoiaaaGreatDoor
