/-
  DERIVED. GIVEN WITH THE SEED: THE CARDS: each row of YtkmcdpdhnccpjaaDoorRows.lean that lists a variable, with what it lists TIED to the program's text (the seventh form; the later family's looks); each row that meets fmt, with fmt's text TOLD by the authors' own Lean function (tested against real Go, not proved from fmt's source: count such statements apart). THE CARD IS WHAT COUNTS. Prove the row's statement (the work); the ties are given (YtkmcdpdhnccpjaaDoorTie.lean); close each card by the builder's one call (the guide's Derived/Test/ToyasCard.lean, 'card_holds'). Laid BY PROGRAM, IN A SANDBOX (cutbox-door.mjs). By AI agents, Wed Nov 11 2026. No macro, syntax, notation, axiom, sorry.
-/
import Derived.Test.YtkmcdpdhnccpjaaDoorRows
import GoSem.ClaimSeven
namespace Go.Proofs.YtkmcdpdhnccpjaaDoor
namespace Rows

/-- THE TIED CARD OF 'laws.FnExactRingPut'. -/
def fnExactRingPutCard : Claim7 := { stood := { row := fnExactRingPutRow, standIns := [], harness := (true, "437a4aa2753f7cfb4b62adefc7cf8c8f06d5d40dd7cf50eef56cff71e8c33cc4"), looks := false }, kinds := [], alts := [], laidByText := true, laidKinds := [.data, .data, .data, .data], laidTests := true, laidLooks := .later }
def FnExactRingPutCardSaid : Prop := Claim7.holds Tryd.pinned (.plain (OpenSpec.ofChange fnExactRingPutSpec)) fnExactRingPutCard

/-- THE TIED CARD OF 'laws.FnTurnOf'. -/
def fnTurnOfCard : Claim7 := { stood := { row := fnTurnOfRow, standIns := [], harness := (true, "437a4aa2753f7cfb4b62adefc7cf8c8f06d5d40dd7cf50eef56cff71e8c33cc4"), looks := false }, kinds := [], alts := [], laidByText := true, laidKinds := [.data, .data, .data, .data], laidTests := true, laidLooks := .later }
def FnTurnOfCardSaid : Prop := Claim7.holds Tryd.pinned (.plain (OpenSpec.ofChange fnTurnOfSpec)) fnTurnOfCard

/-- THE TIED CARD OF 'laws.FnExactTurnOf'. -/
def fnExactTurnOfCard : Claim7 := { stood := { row := fnExactTurnOfRow, standIns := [], harness := (true, "437a4aa2753f7cfb4b62adefc7cf8c8f06d5d40dd7cf50eef56cff71e8c33cc4"), looks := false }, kinds := [], alts := [], laidByText := true, laidKinds := [.data, .data, .data, .data], laidTests := true, laidLooks := .later }
def FnExactTurnOfCardSaid : Prop := Claim7.holds Tryd.pinned (.plain (OpenSpec.ofChange fnExactTurnOfSpec)) fnExactTurnOfCard

/-- THE TIED CARD OF 'laws.FnRingTake'. -/
def fnRingTakeCard : Claim7 := { stood := { row := fnRingTakeRow, standIns := [], harness := (true, "437a4aa2753f7cfb4b62adefc7cf8c8f06d5d40dd7cf50eef56cff71e8c33cc4"), looks := false }, kinds := [], alts := [], laidByText := true, laidKinds := [.data, .data, .data, .data], laidTests := true, laidLooks := .later }
def FnRingTakeCardSaid : Prop := Claim7.holds Tryd.pinned (.plain (OpenSpec.ofChange fnRingTakeSpec)) fnRingTakeCard

/-- THE TIED CARD OF 'laws.FnExactRingTake'. -/
def fnExactRingTakeCard : Claim7 := { stood := { row := fnExactRingTakeRow, standIns := [], harness := (true, "437a4aa2753f7cfb4b62adefc7cf8c8f06d5d40dd7cf50eef56cff71e8c33cc4"), looks := false }, kinds := [], alts := [], laidByText := true, laidKinds := [.data, .data, .data, .data], laidTests := true, laidLooks := .later }
def FnExactRingTakeCardSaid : Prop := Claim7.holds Tryd.pinned (.plain (OpenSpec.ofChange fnExactRingTakeSpec)) fnExactRingTakeCard

/-- THE SECOND FORM's CARD OF 'laws.FnExactRingPut'. -/
def fnExactRingPutUptoCard : Claim7 := { stood := { row := fnExactRingPutUptoRow, standIns := [], harness := (true, "437a4aa2753f7cfb4b62adefc7cf8c8f06d5d40dd7cf50eef56cff71e8c33cc4"), looks := false }, kinds := [], alts := [], laidByText := true, laidKinds := [.data, .data, .data, .data], laidTests := true, laidLooks := .later }
def FnExactRingPutUptoCardSaid : Prop := Claim7.holds Tryd.pinned (.plain (OpenSpec.upto fnExactRingPutSpec)) fnExactRingPutUptoCard

/-- THE SECOND FORM's CARD OF 'laws.FnTurnOf'. -/
def fnTurnOfUptoCard : Claim7 := { stood := { row := fnTurnOfUptoRow, standIns := [], harness := (true, "437a4aa2753f7cfb4b62adefc7cf8c8f06d5d40dd7cf50eef56cff71e8c33cc4"), looks := false }, kinds := [], alts := [], laidByText := true, laidKinds := [.data, .data, .data, .data], laidTests := true, laidLooks := .later }
def FnTurnOfUptoCardSaid : Prop := Claim7.holds Tryd.pinned (.plain (OpenSpec.upto fnTurnOfSpec)) fnTurnOfUptoCard

/-- THE SECOND FORM's CARD OF 'laws.FnExactTurnOf'. -/
def fnExactTurnOfUptoCard : Claim7 := { stood := { row := fnExactTurnOfUptoRow, standIns := [], harness := (true, "437a4aa2753f7cfb4b62adefc7cf8c8f06d5d40dd7cf50eef56cff71e8c33cc4"), looks := false }, kinds := [], alts := [], laidByText := true, laidKinds := [.data, .data, .data, .data], laidTests := true, laidLooks := .later }
def FnExactTurnOfUptoCardSaid : Prop := Claim7.holds Tryd.pinned (.plain (OpenSpec.upto fnExactTurnOfSpec)) fnExactTurnOfUptoCard

/-- THE SECOND FORM's CARD OF 'laws.FnRingTake'. -/
def fnRingTakeUptoCard : Claim7 := { stood := { row := fnRingTakeUptoRow, standIns := [], harness := (true, "437a4aa2753f7cfb4b62adefc7cf8c8f06d5d40dd7cf50eef56cff71e8c33cc4"), looks := false }, kinds := [], alts := [], laidByText := true, laidKinds := [.data, .data, .data, .data], laidTests := true, laidLooks := .later }
def FnRingTakeUptoCardSaid : Prop := Claim7.holds Tryd.pinned (.plain (OpenSpec.upto fnRingTakeSpec)) fnRingTakeUptoCard

/-- THE SECOND FORM's CARD OF 'laws.FnExactRingTake'. -/
def fnExactRingTakeUptoCard : Claim7 := { stood := { row := fnExactRingTakeUptoRow, standIns := [], harness := (true, "437a4aa2753f7cfb4b62adefc7cf8c8f06d5d40dd7cf50eef56cff71e8c33cc4"), looks := false }, kinds := [], alts := [], laidByText := true, laidKinds := [.data, .data, .data, .data], laidTests := true, laidLooks := .later }
def FnExactRingTakeUptoCardSaid : Prop := Claim7.holds Tryd.pinned (.plain (OpenSpec.upto fnExactRingTakeSpec)) fnExactRingTakeUptoCard
end Rows
end Go.Proofs.YtkmcdpdhnccpjaaDoor
