/-
  DERIVED. GIVEN WITH THE SEED: THE CARDS: each row of YtkmcdpdhnccpjaaGreatDoorRows.lean that lists a variable, with what it lists TIED to the program's text (the seventh form; the later family's looks); each row that meets fmt, with fmt's text TOLD by the authors' own Lean function (tested against real Go, not proved from fmt's source: count such statements apart). THE CARD IS WHAT COUNTS. Prove the row's statement (the work); the ties are given (YtkmcdpdhnccpjaaGreatDoorTie.lean); close each card by the builder's one call (the guide's Derived/Test/ToyasCard.lean, 'card_holds'). Laid BY PROGRAM, IN A SANDBOX (cutbox-door.mjs). By AI agents, Wed Nov 11 2026. No macro, syntax, notation, axiom, sorry.
-/
import Derived.Test.YtkmcdpdhnccpjaaGreatDoorRows
import GoSem.ClaimSeven
namespace Go.Proofs.YtkmcdpdhnccpjaaGreatDoor
namespace Rows

/-- THE TIED CARD OF 'laws.FnExactRingGet'. -/
def fnExactRingGetCard : Claim7 := { stood := { row := fnExactRingGetRow, standIns := [], harness := (true, "bc3f1f6b0ae78103f023da1162ac1a6ee047f82584f65462ee0ac8b99ee0b3d7"), looks := true }, kinds := [], alts := [], laidByText := true, laidKinds := [.data, .data, .data, .data, .sentinel, .sentinel, .data, .pinned], laidTests := true, laidLooks := .later }
def FnExactRingGetCardSaid : Prop := Claim7.holds Tryz.pinned (.plain (OpenSpec.ofChange fnExactRingGetSpec)) fnExactRingGetCard

/-- THE TIED CARD OF 'laws.FnRingText'. -/
def fnRingTextCard : Claim7 := { stood := { row := fnRingTextRow, standIns := [], harness := (true, "bc3f1f6b0ae78103f023da1162ac1a6ee047f82584f65462ee0ac8b99ee0b3d7"), looks := true }, kinds := [], alts := [], laidByText := true, laidKinds := [.data, .data, .data, .data, .sentinel, .sentinel, .data, .pinned], laidTests := true, laidLooks := .later }
def FnRingTextCardSaid : Prop := Claim7.holds Tryz.pinned (.plain (OpenSpec.ofChange fnRingTextSpec)) fnRingTextCard

/-- THE SECOND FORM's CARD OF 'laws.FnExactRingGet'. -/
def fnExactRingGetUptoCard : Claim7 := { stood := { row := fnExactRingGetUptoRow, standIns := [], harness := (true, "bc3f1f6b0ae78103f023da1162ac1a6ee047f82584f65462ee0ac8b99ee0b3d7"), looks := true }, kinds := [], alts := [], laidByText := true, laidKinds := [.data, .data, .data, .data, .sentinel, .sentinel, .data, .pinned], laidTests := true, laidLooks := .later }
def FnExactRingGetUptoCardSaid : Prop := Claim7.holds Tryz.pinned (.plain (OpenSpec.upto fnExactRingGetSpec)) fnExactRingGetUptoCard

/-- THE SECOND FORM's CARD OF 'laws.FnRingText'. -/
def fnRingTextUptoCard : Claim7 := { stood := { row := fnRingTextUptoRow, standIns := [], harness := (true, "bc3f1f6b0ae78103f023da1162ac1a6ee047f82584f65462ee0ac8b99ee0b3d7"), looks := true }, kinds := [], alts := [], laidByText := true, laidKinds := [.data, .data, .data, .data, .sentinel, .sentinel, .data, .pinned], laidTests := true, laidLooks := .later }
def FnRingTextUptoCardSaid : Prop := Claim7.holds Tryz.pinned (.plain (OpenSpec.upto fnRingTextSpec)) fnRingTextUptoCard
end Rows
end Go.Proofs.YtkmcdpdhnccpjaaGreatDoor
