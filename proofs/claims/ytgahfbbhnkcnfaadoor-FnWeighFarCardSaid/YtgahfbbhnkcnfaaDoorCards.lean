/-
  DERIVED. GIVEN WITH THE SEED: THE CARDS: each row of YtgahfbbhnkcnfaaDoorRows.lean that lists a variable, with what it lists TIED to the program's text (the seventh form; the later family's looks); each row that meets fmt, with fmt's text TOLD by the authors' own Lean function (tested against real Go, not proved from fmt's source: count such statements apart). THE CARD IS WHAT COUNTS. Prove the row's statement (the work); the ties are given (YtgahfbbhnkcnfaaDoorTie.lean); close each card by the builder's one call (the guide's Derived/Test/ToyasCard.lean, 'card_holds'). Laid BY PROGRAM, IN A SANDBOX (cutbox-door.mjs). By AI agents, Wed Nov 11 2026. No macro, syntax, notation, axiom, sorry.
-/
import Derived.Test.YtgahfbbhnkcnfaaDoorRows
import GoSem.ClaimSeven
namespace Go.Proofs.YtgahfbbhnkcnfaaDoor
namespace Rows

/-- THE TIED CARD OF 'laws.FnExactKeyFar'. -/
def fnExactKeyFarCard : Claim7 := { stood := { row := fnExactKeyFarRow, standIns := [], harness := (true, "a590a51e88d43297ebdde64f5396118c8789471ccf56c8d85650f9c6349d5d11"), looks := false }, kinds := [], alts := [], laidByText := true, laidKinds := [.data], laidTests := true, laidLooks := .later }
def FnExactKeyFarCardSaid : Prop := Claim7.holds Tryd.pinned (.plain (OpenSpec.ofChange fnExactKeyFarSpec)) fnExactKeyFarCard

/-- THE TIED CARD OF 'laws.FnKeyFar'. -/
def fnKeyFarCard : Claim7 := { stood := { row := fnKeyFarRow, standIns := [], harness := (true, "a590a51e88d43297ebdde64f5396118c8789471ccf56c8d85650f9c6349d5d11"), looks := false }, kinds := [], alts := [], laidByText := true, laidKinds := [.data], laidTests := true, laidLooks := .later }
def FnKeyFarCardSaid : Prop := Claim7.holds Tryd.pinned (.plain (OpenSpec.ofChange fnKeyFarSpec)) fnKeyFarCard

/-- THE TIED CARD OF 'laws.FnExactWeighFar'. -/
def fnExactWeighFarCard : Claim7 := { stood := { row := fnExactWeighFarRow, standIns := [], harness := (true, "a590a51e88d43297ebdde64f5396118c8789471ccf56c8d85650f9c6349d5d11"), looks := false }, kinds := [], alts := [], laidByText := true, laidKinds := [.data], laidTests := true, laidLooks := .later }
def FnExactWeighFarCardSaid : Prop := Claim7.holds Tryd.pinned (.plain (OpenSpec.ofChange fnExactWeighFarSpec)) fnExactWeighFarCard

/-- THE TIED CARD OF 'laws.FnWeighFar'. -/
def fnWeighFarCard : Claim7 := { stood := { row := fnWeighFarRow, standIns := [], harness := (true, "a590a51e88d43297ebdde64f5396118c8789471ccf56c8d85650f9c6349d5d11"), looks := false }, kinds := [], alts := [], laidByText := true, laidKinds := [.data], laidTests := true, laidLooks := .later }
def FnWeighFarCardSaid : Prop := Claim7.holds Tryd.pinned (.plain (OpenSpec.ofChange fnWeighFarSpec)) fnWeighFarCard

/-- THE SECOND FORM's CARD OF 'laws.FnExactKeyFar'. -/
def fnExactKeyFarUptoCard : Claim7 := { stood := { row := fnExactKeyFarUptoRow, standIns := [], harness := (true, "a590a51e88d43297ebdde64f5396118c8789471ccf56c8d85650f9c6349d5d11"), looks := false }, kinds := [], alts := [], laidByText := true, laidKinds := [.data], laidTests := true, laidLooks := .later }
def FnExactKeyFarUptoCardSaid : Prop := Claim7.holds Tryd.pinned (.plain (OpenSpec.upto fnExactKeyFarSpec)) fnExactKeyFarUptoCard

/-- THE SECOND FORM's CARD OF 'laws.FnKeyFar'. -/
def fnKeyFarUptoCard : Claim7 := { stood := { row := fnKeyFarUptoRow, standIns := [], harness := (true, "a590a51e88d43297ebdde64f5396118c8789471ccf56c8d85650f9c6349d5d11"), looks := false }, kinds := [], alts := [], laidByText := true, laidKinds := [.data], laidTests := true, laidLooks := .later }
def FnKeyFarUptoCardSaid : Prop := Claim7.holds Tryd.pinned (.plain (OpenSpec.upto fnKeyFarSpec)) fnKeyFarUptoCard

/-- THE SECOND FORM's CARD OF 'laws.FnExactWeighFar'. -/
def fnExactWeighFarUptoCard : Claim7 := { stood := { row := fnExactWeighFarUptoRow, standIns := [], harness := (true, "a590a51e88d43297ebdde64f5396118c8789471ccf56c8d85650f9c6349d5d11"), looks := false }, kinds := [], alts := [], laidByText := true, laidKinds := [.data], laidTests := true, laidLooks := .later }
def FnExactWeighFarUptoCardSaid : Prop := Claim7.holds Tryd.pinned (.plain (OpenSpec.upto fnExactWeighFarSpec)) fnExactWeighFarUptoCard

/-- THE SECOND FORM's CARD OF 'laws.FnWeighFar'. -/
def fnWeighFarUptoCard : Claim7 := { stood := { row := fnWeighFarUptoRow, standIns := [], harness := (true, "a590a51e88d43297ebdde64f5396118c8789471ccf56c8d85650f9c6349d5d11"), looks := false }, kinds := [], alts := [], laidByText := true, laidKinds := [.data], laidTests := true, laidLooks := .later }
def FnWeighFarUptoCardSaid : Prop := Claim7.holds Tryd.pinned (.plain (OpenSpec.upto fnWeighFarSpec)) fnWeighFarUptoCard
end Rows
end Go.Proofs.YtgahfbbhnkcnfaaDoor
