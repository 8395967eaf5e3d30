/-
  DERIVED. GIVEN WITH THE SEED: THE CARDS: each row of YtoiigoflkhmjnaaGreatDoorRows.lean that lists a variable, with what it lists TIED to the program's text (the seventh form; the later family's looks); each row that meets fmt, with fmt's text TOLD by the authors' own Lean function (tested against real Go, not proved from fmt's source: count such statements apart). THE CARD IS WHAT COUNTS. Prove the row's statement (the work); the ties are given (YtoiigoflkhmjnaaGreatDoorTie.lean); close each card by the builder's one call (the guide's Derived/Test/ToyasCard.lean, 'card_holds'). Laid BY PROGRAM, IN A SANDBOX (cutbox-door.mjs). By AI agents, Wed Nov 11 2026. No macro, syntax, notation, axiom, sorry.
-/
import Derived.Test.YtoiigoflkhmjnaaGreatDoorRows
import GoSem.ClaimSeven
namespace Go.Proofs.YtoiigoflkhmjnaaGreatDoor
namespace Rows

/-- THE TIED CARD OF 'laws.FnUserCheck'. -/
def fnUserCheckCard : Claim7 := { stood := { row := fnUserCheckRow, standIns := [], harness := (true, "43e0aba808f2e30931c99c207d7901e1785db6b11522d6fcf05f6a6fc4b9320a"), looks := false }, kinds := [], alts := [], laidByText := true, laidKinds := [.data, .pinned, .pinned], laidTests := true, laidLooks := .later }
def FnUserCheckCardSaid : Prop := Claim7.holds Tryz.pinned (.plain (OpenSpec.ofChange fnUserCheckSpec)) fnUserCheckCard

/-- THE TIED CARD OF 'laws.FnExactUserCheck'. -/
def fnExactUserCheckCard : Claim7 := { stood := { row := fnExactUserCheckRow, standIns := [], harness := (true, "43e0aba808f2e30931c99c207d7901e1785db6b11522d6fcf05f6a6fc4b9320a"), looks := false }, kinds := [], alts := [], laidByText := true, laidKinds := [.data, .pinned, .pinned], laidTests := true, laidLooks := .later }
def FnExactUserCheckCardSaid : Prop := Claim7.holds Tryz.pinned (.plain (OpenSpec.ofChange fnExactUserCheckSpec)) fnExactUserCheckCard

/-- THE TIED CARD OF 'laws.FnRanked'. -/
def fnRankedCard : Claim7 := { stood := { row := fnRankedRow, standIns := [], harness := (true, "43e0aba808f2e30931c99c207d7901e1785db6b11522d6fcf05f6a6fc4b9320a"), looks := false }, kinds := [], alts := [], laidByText := true, laidKinds := [.data], laidTests := true, laidLooks := .later }
def FnRankedCardSaid : Prop := Claim7.holds Tryz.pinned (.plain (OpenSpec.ofChange fnRankedSpec)) fnRankedCard

/-- THE TIED CARD OF 'laws.FnFixText'. -/
def fnFixTextCard : Claim7 := { stood := { row := fnFixTextRow, standIns := [], harness := (true, "43e0aba808f2e30931c99c207d7901e1785db6b11522d6fcf05f6a6fc4b9320a"), looks := false }, kinds := [], alts := [], laidByText := true, laidKinds := [.data, .pinned, .pinned], laidTests := true, laidLooks := .later }
def FnFixTextCardSaid : Prop := Claim7.holds Tryz.pinned (.plain (OpenSpec.ofChange fnFixTextSpec)) fnFixTextCard

/-- THE SECOND FORM's CARD OF 'laws.FnUserCheck'. -/
def fnUserCheckUptoCard : Claim7 := { stood := { row := fnUserCheckUptoRow, standIns := [], harness := (true, "43e0aba808f2e30931c99c207d7901e1785db6b11522d6fcf05f6a6fc4b9320a"), looks := false }, kinds := [], alts := [], laidByText := true, laidKinds := [.data, .pinned, .pinned], laidTests := true, laidLooks := .later }
def FnUserCheckUptoCardSaid : Prop := Claim7.holds Tryz.pinned (.plain (OpenSpec.upto fnUserCheckSpec)) fnUserCheckUptoCard

/-- THE SECOND FORM's CARD OF 'laws.FnExactUserCheck'. -/
def fnExactUserCheckUptoCard : Claim7 := { stood := { row := fnExactUserCheckUptoRow, standIns := [], harness := (true, "43e0aba808f2e30931c99c207d7901e1785db6b11522d6fcf05f6a6fc4b9320a"), looks := false }, kinds := [], alts := [], laidByText := true, laidKinds := [.data, .pinned, .pinned], laidTests := true, laidLooks := .later }
def FnExactUserCheckUptoCardSaid : Prop := Claim7.holds Tryz.pinned (.plain (OpenSpec.upto fnExactUserCheckSpec)) fnExactUserCheckUptoCard

/-- THE SECOND FORM's CARD OF 'laws.FnRanked'. -/
def fnRankedUptoCard : Claim7 := { stood := { row := fnRankedUptoRow, standIns := [], harness := (true, "43e0aba808f2e30931c99c207d7901e1785db6b11522d6fcf05f6a6fc4b9320a"), looks := false }, kinds := [], alts := [], laidByText := true, laidKinds := [.data], laidTests := true, laidLooks := .later }
def FnRankedUptoCardSaid : Prop := Claim7.holds Tryz.pinned (.plain (OpenSpec.upto fnRankedSpec)) fnRankedUptoCard

/-- THE SECOND FORM's CARD OF 'laws.FnFixText'. -/
def fnFixTextUptoCard : Claim7 := { stood := { row := fnFixTextUptoRow, standIns := [], harness := (true, "43e0aba808f2e30931c99c207d7901e1785db6b11522d6fcf05f6a6fc4b9320a"), looks := false }, kinds := [], alts := [], laidByText := true, laidKinds := [.data, .pinned, .pinned], laidTests := true, laidLooks := .later }
def FnFixTextUptoCardSaid : Prop := Claim7.holds Tryz.pinned (.plain (OpenSpec.upto fnFixTextSpec)) fnFixTextUptoCard
end Rows
end Go.Proofs.YtoiigoflkhmjnaaGreatDoor
