/-
  DERIVED. GIVEN WITH THE SEED: THE CARDS: each row of YtpnbhcifhbnaaaaDoorRows.lean that lists a variable, with what it lists TIED to the program's text (the seventh form; the later family's looks); each row that meets fmt, with fmt's text TOLD by the authors' own Lean function (tested against real Go, not proved from fmt's source: count such statements apart). THE CARD IS WHAT COUNTS. Prove the row's statement (the work); the ties are given (YtpnbhcifhbnaaaaDoorTie.lean); close each card by the builder's one call (the guide's Derived/Test/ToyasCard.lean, 'card_holds'). Laid BY PROGRAM, IN A SANDBOX (cutbox-door.mjs). By AI agents, Wed Nov 11 2026. No macro, syntax, notation, axiom, sorry.
-/
import Derived.Test.YtpnbhcifhbnaaaaDoorRows
import GoSem.ClaimSeven
namespace Go.Proofs.YtpnbhcifhbnaaaaDoor
namespace Rows

/-- THE TIED CARD OF 'laws.FnExactFrontPut'. -/
def fnExactFrontPutCard : Claim7 := { stood := { row := fnExactFrontPutRow, standIns := [], harness := (true, "17f0385c564be32200c361bae86ad2ace28c8f45a1a7275a6f856651e856e257"), looks := true }, kinds := [], alts := [], laidByText := true, laidKinds := [.data, .data, .data], laidTests := true, laidLooks := .later }
def FnExactFrontPutCardSaid : Prop := Claim7.holds Tryd.pinned (.plain (OpenSpec.ofChange fnExactFrontPutSpec)) fnExactFrontPutCard

/-- THE TIED CARD OF 'laws.FnExactFrontGet'. -/
def fnExactFrontGetCard : Claim7 := { stood := { row := fnExactFrontGetRow, standIns := [], harness := (true, "17f0385c564be32200c361bae86ad2ace28c8f45a1a7275a6f856651e856e257"), looks := true }, kinds := [], alts := [], laidByText := true, laidKinds := [.data, .data, .data, .data, .sentinel, .sentinel, .pinned], laidTests := true, laidLooks := .later }
def FnExactFrontGetCardSaid : Prop := Claim7.holds Tryd.pinned (.plain (OpenSpec.ofChange fnExactFrontGetSpec)) fnExactFrontGetCard

/-- THE SECOND FORM's CARD OF 'laws.FnExactFrontPut'. -/
def fnExactFrontPutUptoCard : Claim7 := { stood := { row := fnExactFrontPutUptoRow, standIns := [], harness := (true, "17f0385c564be32200c361bae86ad2ace28c8f45a1a7275a6f856651e856e257"), looks := true }, kinds := [], alts := [], laidByText := true, laidKinds := [.data, .data, .data], laidTests := true, laidLooks := .later }
def FnExactFrontPutUptoCardSaid : Prop := Claim7.holds Tryd.pinned (.plain (OpenSpec.upto fnExactFrontPutSpec)) fnExactFrontPutUptoCard

/-- THE SECOND FORM's CARD OF 'laws.FnExactFrontGet'. -/
def fnExactFrontGetUptoCard : Claim7 := { stood := { row := fnExactFrontGetUptoRow, standIns := [], harness := (true, "17f0385c564be32200c361bae86ad2ace28c8f45a1a7275a6f856651e856e257"), looks := true }, kinds := [], alts := [], laidByText := true, laidKinds := [.data, .data, .data, .data, .sentinel, .sentinel, .pinned], laidTests := true, laidLooks := .later }
def FnExactFrontGetUptoCardSaid : Prop := Claim7.holds Tryd.pinned (.plain (OpenSpec.upto fnExactFrontGetSpec)) fnExactFrontGetUptoCard
end Rows
end Go.Proofs.YtpnbhcifhbnaaaaDoor
