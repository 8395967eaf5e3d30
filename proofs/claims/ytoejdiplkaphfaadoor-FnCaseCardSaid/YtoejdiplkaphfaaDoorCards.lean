/-
  DERIVED. GIVEN WITH THE SEED: THE CARDS: each row of YtoejdiplkaphfaaDoorRows.lean that lists a variable, with what it lists TIED to the program's text (the seventh form; the later family's looks); each row that meets fmt, with fmt's text TOLD by the authors' own Lean function (tested against real Go, not proved from fmt's source: count such statements apart). THE CARD IS WHAT COUNTS. Prove the row's statement (the work); the ties are given (YtoejdiplkaphfaaDoorTie.lean); close each card by the builder's one call (the guide's Derived/Test/ToyasCard.lean, 'card_holds'). Laid BY PROGRAM, IN A SANDBOX (cutbox-door.mjs). By AI agents, Wed Nov 11 2026. No macro, syntax, notation, axiom, sorry.
-/
import Derived.Test.YtoejdiplkaphfaaDoorRows
import GoSem.ClaimSeven
namespace Go.Proofs.YtoejdiplkaphfaaDoor
namespace Rows

/-- THE TIED CARD OF 'laws.FnExactCaseLike'. -/
def fnExactCaseLikeCard : Claim7 := { stood := { row := fnExactCaseLikeRow, standIns := [], harness := (true, "0b0b5f86f80b9cf42b03e8cf333012d6177ef1a384fcb436f5332581c379578a"), looks := false }, kinds := [], alts := [], laidByText := true, laidKinds := [.data, .pinned, .pinned], laidTests := true, laidLooks := .later }
def FnExactCaseLikeCardSaid : Prop := Claim7.holds Tryd.pinned (.plain (OpenSpec.ofChange fnExactCaseLikeSpec)) fnExactCaseLikeCard

/-- THE TIED CARD OF 'laws.FnCase'. -/
def fnCaseCard : Claim7 := { stood := { row := fnCaseRow, standIns := [], harness := (true, "0b0b5f86f80b9cf42b03e8cf333012d6177ef1a384fcb436f5332581c379578a"), looks := false }, kinds := [], alts := [], laidByText := true, laidKinds := [.data, .pinned, .pinned], laidTests := true, laidLooks := .later }
def FnCaseCardSaid : Prop := Claim7.holds Tryd.pinned (.plain (OpenSpec.ofChange fnCaseSpec)) fnCaseCard

/-- THE SECOND FORM's CARD OF 'laws.FnExactCaseLike'. -/
def fnExactCaseLikeUptoCard : Claim7 := { stood := { row := fnExactCaseLikeUptoRow, standIns := [], harness := (true, "0b0b5f86f80b9cf42b03e8cf333012d6177ef1a384fcb436f5332581c379578a"), looks := false }, kinds := [], alts := [], laidByText := true, laidKinds := [.data, .pinned, .pinned], laidTests := true, laidLooks := .later }
def FnExactCaseLikeUptoCardSaid : Prop := Claim7.holds Tryd.pinned (.plain (OpenSpec.upto fnExactCaseLikeSpec)) fnExactCaseLikeUptoCard

/-- THE SECOND FORM's CARD OF 'laws.FnCase'. -/
def fnCaseUptoCard : Claim7 := { stood := { row := fnCaseUptoRow, standIns := [], harness := (true, "0b0b5f86f80b9cf42b03e8cf333012d6177ef1a384fcb436f5332581c379578a"), looks := false }, kinds := [], alts := [], laidByText := true, laidKinds := [.data, .pinned, .pinned], laidTests := true, laidLooks := .later }
def FnCaseUptoCardSaid : Prop := Claim7.holds Tryd.pinned (.plain (OpenSpec.upto fnCaseSpec)) fnCaseUptoCard
end Rows
end Go.Proofs.YtoejdiplkaphfaaDoor
