/-
  DERIVED. GIVEN WITH THE SEED: THE CARDS: each row of YtjfigkikhmffpaaGreatDoorRows.lean that lists a variable, with what it lists TIED to the program's text (the seventh form; the later family's looks); each row that meets fmt, with fmt's text TOLD by the authors' own Lean function (tested against real Go, not proved from fmt's source: count such statements apart). THE CARD IS WHAT COUNTS. Prove the row's statement (the work); the ties are given (YtjfigkikhmffpaaGreatDoorTie.lean); close each card by the builder's one call (the guide's Derived/Test/ToyasCard.lean, 'card_holds'). Laid BY PROGRAM, IN A SANDBOX (cutbox-door.mjs). By AI agents, Wed Nov 11 2026. No macro, syntax, notation, axiom, sorry.
-/
import Derived.Test.YtjfigkikhmffpaaGreatDoorRows
import GoSem.ClaimSeven
namespace Go.Proofs.YtjfigkikhmffpaaGreatDoor
namespace Rows

/-- THE TIED CARD OF 'laws.FnExactRingRelease'. -/
def fnExactRingReleaseCard : Claim7 := { stood := { row := fnExactRingReleaseRow, standIns := [], harness := (true, "5a76dae59192b0da4bd4b5579670179833e3d0c21407e7d9a05ed3f63748d1bd"), looks := false }, kinds := [], alts := [], laidByText := true, laidKinds := [.data, .data, .data, .data, .data, .pinned], laidTests := true, laidLooks := .later }
def FnExactRingReleaseCardSaid : Prop := Claim7.holds Tryz.pinned (.plain (OpenSpec.ofChange fnExactRingReleaseSpec)) fnExactRingReleaseCard

/-- THE TIED CARD OF 'laws.FnExactRingDo'. -/
def fnExactRingDoCard : Claim7 := { stood := { row := fnExactRingDoRow, standIns := [], harness := (true, "5a76dae59192b0da4bd4b5579670179833e3d0c21407e7d9a05ed3f63748d1bd"), looks := false }, kinds := [], alts := [], laidByText := true, laidKinds := [.data, .data, .data, .data, .data, .pinned], laidTests := true, laidLooks := .later }
def FnExactRingDoCardSaid : Prop := Claim7.holds Tryz.pinned (.plain (OpenSpec.ofChange fnExactRingDoSpec)) fnExactRingDoCard

/-- THE TIED CARD OF 'laws.FnRingWrong'. -/
def fnRingWrongCard : Claim7 := { stood := { row := fnRingWrongRow, standIns := [], harness := (true, "5a76dae59192b0da4bd4b5579670179833e3d0c21407e7d9a05ed3f63748d1bd"), looks := false }, kinds := [], alts := [], laidByText := true, laidKinds := [.data, .data, .data, .data, .data, .pinned], laidTests := true, laidLooks := .later }
def FnRingWrongCardSaid : Prop := Claim7.holds Tryz.pinned (.plain (OpenSpec.ofChange fnRingWrongSpec)) fnRingWrongCard

/-- THE SECOND FORM's CARD OF 'laws.FnExactRingRelease'. -/
def fnExactRingReleaseUptoCard : Claim7 := { stood := { row := fnExactRingReleaseUptoRow, standIns := [], harness := (true, "5a76dae59192b0da4bd4b5579670179833e3d0c21407e7d9a05ed3f63748d1bd"), looks := false }, kinds := [], alts := [], laidByText := true, laidKinds := [.data, .data, .data, .data, .data, .pinned], laidTests := true, laidLooks := .later }
def FnExactRingReleaseUptoCardSaid : Prop := Claim7.holds Tryz.pinned (.plain (OpenSpec.upto fnExactRingReleaseSpec)) fnExactRingReleaseUptoCard

/-- THE SECOND FORM's CARD OF 'laws.FnExactRingDo'. -/
def fnExactRingDoUptoCard : Claim7 := { stood := { row := fnExactRingDoUptoRow, standIns := [], harness := (true, "5a76dae59192b0da4bd4b5579670179833e3d0c21407e7d9a05ed3f63748d1bd"), looks := false }, kinds := [], alts := [], laidByText := true, laidKinds := [.data, .data, .data, .data, .data, .pinned], laidTests := true, laidLooks := .later }
def FnExactRingDoUptoCardSaid : Prop := Claim7.holds Tryz.pinned (.plain (OpenSpec.upto fnExactRingDoSpec)) fnExactRingDoUptoCard

/-- THE SECOND FORM's CARD OF 'laws.FnRingWrong'. -/
def fnRingWrongUptoCard : Claim7 := { stood := { row := fnRingWrongUptoRow, standIns := [], harness := (true, "5a76dae59192b0da4bd4b5579670179833e3d0c21407e7d9a05ed3f63748d1bd"), looks := false }, kinds := [], alts := [], laidByText := true, laidKinds := [.data, .data, .data, .data, .data, .pinned], laidTests := true, laidLooks := .later }
def FnRingWrongUptoCardSaid : Prop := Claim7.holds Tryz.pinned (.plain (OpenSpec.upto fnRingWrongSpec)) fnRingWrongUptoCard
end Rows
end Go.Proofs.YtjfigkikhmffpaaGreatDoor
