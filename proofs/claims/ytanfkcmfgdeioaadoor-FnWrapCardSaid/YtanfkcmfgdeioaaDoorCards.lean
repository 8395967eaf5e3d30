/-
  DERIVED. GIVEN WITH THE SEED: THE CARDS: each row of YtanfkcmfgdeioaaDoorRows.lean that lists a variable, with what it lists TIED to the program's text (the seventh form; the later family's looks); each row that meets fmt, with fmt's text TOLD by the authors' own Lean function (tested against real Go, not proved from fmt's source: count such statements apart). THE CARD IS WHAT COUNTS. Prove the row's statement (the work); the ties are given (YtanfkcmfgdeioaaDoorTie.lean); close each card by the builder's one call (the guide's Derived/Test/ToyasCard.lean, 'card_holds'). Laid BY PROGRAM, IN A SANDBOX (cutbox-door.mjs). By AI agents, Wed Nov 11 2026. No macro, syntax, notation, axiom, sorry.
-/
import Derived.Test.YtanfkcmfgdeioaaDoorRows
import GoSem.ClaimSeven
namespace Go.Proofs.YtanfkcmfgdeioaaDoor
namespace Rows

/-- THE TIED CARD OF 'laws.FnSplitBack'. -/
def fnSplitBackCard : Claim7 := { stood := { row := fnSplitBackRow, standIns := [], harness := (true, "0e7f10c1dd4b1ca7ebf71f9c9b9c39b81ebdda1edf834dc3e01ec0f9808b6d5e"), looks := false }, kinds := [], alts := [], laidByText := true, laidKinds := [.data, .pinned], laidTests := true, laidLooks := .later }
def FnSplitBackCardSaid : Prop := Claim7.holds Tryd.pinned (.plain (OpenSpec.ofChange fnSplitBackSpec)) fnSplitBackCard

/-- THE TIED CARD OF 'laws.FnSplitText'. -/
def fnSplitTextCard : Claim7 := { stood := { row := fnSplitTextRow, standIns := [], harness := (true, "0e7f10c1dd4b1ca7ebf71f9c9b9c39b81ebdda1edf834dc3e01ec0f9808b6d5e"), looks := false }, kinds := [], alts := [], laidByText := true, laidKinds := [.data, .pinned], laidTests := true, laidLooks := .later }
def FnSplitTextCardSaid : Prop := Claim7.holds Tryd.pinned (.plain (OpenSpec.ofChange fnSplitTextSpec)) fnSplitTextCard

/-- THE TIED CARD OF 'laws.FnWrap'. -/
def fnWrapCard : Claim7 := { stood := { row := fnWrapRow, standIns := [], harness := (true, "0e7f10c1dd4b1ca7ebf71f9c9b9c39b81ebdda1edf834dc3e01ec0f9808b6d5e"), looks := false }, kinds := [], alts := [], laidByText := true, laidKinds := [.data, .pinned], laidTests := true, laidLooks := .later }
def FnWrapCardSaid : Prop := Claim7.holds Tryd.pinned (.plain (OpenSpec.ofChange fnWrapSpec)) fnWrapCard

/-- THE SECOND FORM's CARD OF 'laws.FnSplitBack'. -/
def fnSplitBackUptoCard : Claim7 := { stood := { row := fnSplitBackUptoRow, standIns := [], harness := (true, "0e7f10c1dd4b1ca7ebf71f9c9b9c39b81ebdda1edf834dc3e01ec0f9808b6d5e"), looks := false }, kinds := [], alts := [], laidByText := true, laidKinds := [.data, .pinned], laidTests := true, laidLooks := .later }
def FnSplitBackUptoCardSaid : Prop := Claim7.holds Tryd.pinned (.plain (OpenSpec.upto fnSplitBackSpec)) fnSplitBackUptoCard

/-- THE SECOND FORM's CARD OF 'laws.FnSplitText'. -/
def fnSplitTextUptoCard : Claim7 := { stood := { row := fnSplitTextUptoRow, standIns := [], harness := (true, "0e7f10c1dd4b1ca7ebf71f9c9b9c39b81ebdda1edf834dc3e01ec0f9808b6d5e"), looks := false }, kinds := [], alts := [], laidByText := true, laidKinds := [.data, .pinned], laidTests := true, laidLooks := .later }
def FnSplitTextUptoCardSaid : Prop := Claim7.holds Tryd.pinned (.plain (OpenSpec.upto fnSplitTextSpec)) fnSplitTextUptoCard

/-- THE SECOND FORM's CARD OF 'laws.FnWrap'. -/
def fnWrapUptoCard : Claim7 := { stood := { row := fnWrapUptoRow, standIns := [], harness := (true, "0e7f10c1dd4b1ca7ebf71f9c9b9c39b81ebdda1edf834dc3e01ec0f9808b6d5e"), looks := false }, kinds := [], alts := [], laidByText := true, laidKinds := [.data, .pinned], laidTests := true, laidLooks := .later }
def FnWrapUptoCardSaid : Prop := Claim7.holds Tryd.pinned (.plain (OpenSpec.upto fnWrapSpec)) fnWrapUptoCard
end Rows
end Go.Proofs.YtanfkcmfgdeioaaDoor
