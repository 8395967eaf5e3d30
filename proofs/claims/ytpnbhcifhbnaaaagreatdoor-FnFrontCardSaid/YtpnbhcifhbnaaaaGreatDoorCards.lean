/-
  DERIVED. GIVEN WITH THE SEED: THE CARDS: each row of YtpnbhcifhbnaaaaGreatDoorRows.lean that lists a variable, with what it lists TIED to the program's text (the seventh form; the later family's looks); each row that meets fmt, with fmt's text TOLD by the authors' own Lean function (tested against real Go, not proved from fmt's source: count such statements apart). THE CARD IS WHAT COUNTS. Prove the row's statement (the work); the ties are given (YtpnbhcifhbnaaaaGreatDoorTie.lean); close each card by the builder's one call (the guide's Derived/Test/ToyasCard.lean, 'card_holds'). Laid BY PROGRAM, IN A SANDBOX (cutbox-door.mjs). By AI agents, Wed Nov 11 2026. No macro, syntax, notation, axiom, sorry.
-/
import Derived.Test.YtpnbhcifhbnaaaaGreatDoorRows
import GoSem.ClaimSeven
namespace Go.Proofs.YtpnbhcifhbnaaaaGreatDoor
namespace Rows

/-- THE TIED CARD OF 'laws.FnFront'. -/
def fnFrontCard : Claim7 := { stood := { row := fnFrontRow, standIns := [], harness := (true, "101977262f56afa2eeed6497d945fff8d622d8542927a3da9d6dc469b6b4ec51"), looks := true }, kinds := [], alts := [], laidByText := true, laidKinds := [.data, .data, .data, .data, .sentinel, .sentinel, .pinned], laidTests := true, laidLooks := .later }
def FnFrontCardSaid : Prop := Claim7.holds Tryz.pinned (.plain (OpenSpec.ofChange fnFrontSpec)) fnFrontCard

/-- THE SECOND FORM's CARD OF 'laws.FnFront'. -/
def fnFrontUptoCard : Claim7 := { stood := { row := fnFrontUptoRow, standIns := [], harness := (true, "101977262f56afa2eeed6497d945fff8d622d8542927a3da9d6dc469b6b4ec51"), looks := true }, kinds := [], alts := [], laidByText := true, laidKinds := [.data, .data, .data, .data, .sentinel, .sentinel, .pinned], laidTests := true, laidLooks := .later }
def FnFrontUptoCardSaid : Prop := Claim7.holds Tryz.pinned (.plain (OpenSpec.upto fnFrontSpec)) fnFrontUptoCard
end Rows
end Go.Proofs.YtpnbhcifhbnaaaaGreatDoor
