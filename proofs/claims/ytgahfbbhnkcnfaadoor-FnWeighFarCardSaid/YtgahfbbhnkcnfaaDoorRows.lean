/-
  NARROWER THAN 'FOR EVERY INPUT', by the rows' own cells (each row's printed sentence says how): FnExactKeyFar: laid · FnKeyFar: laid · FnExactWeighFar: laid · FnWeighFar: laid.
  DERIVED. THE GIVEN ROWS OF THIS SEAT. 4 by the template 'for every input the law returns true; each argument reads behind the call as it read before'; 0 by the template 'total and deterministic' (their statements: YtgahfbbhnkcnfaaDoorTotals.lean).
  GIVEN WITH THE SEED: the statements are not yours to turn. If you find one false, say at which input.
  Laid BY PROGRAM, IN A SANDBOX (cutbox-rows.mjs): the forced cells as the released guide's own fill.sh prints them over the translation f6af0c63b064e0ca… (all of the seat's roots in one cut). By AI agents, Wed Nov 11 2026. No macro, syntax, notation, axiom, sorry.
-/
import Derived.Test.YtgahfbbhnkcnfaaDoorChecked
import GoSem.Claim
import GoSem.ClaimJoined
import GoSem.ClaimMapViews
import Derived.JoinedTies
import Derived.KernelRfl
namespace Go.Proofs.YtgahfbbhnkcnfaaDoor
/- THE CELL 'sum', in the pinned program and in every row, IS THE sha256 OF THE DUMP (.gsa) THAT YtgahfbbhnkcnfaaDoorProg.lean LOADS. Nothing in Lean hashes anything: it is a label: what it is worth is what the hold of that sum in a sandbox is worth. -/
noncomputable def Tryd.pinned : Pinned := { name := "ytgahfbbhnkcnfaadoor", sum := "f6af0c63b064e0cacb5c539b0f00240a5dddbaebe51e141120a39827ee562860", checked := Tryd.checked }
namespace Rows
def none {H : Type} : Left H := { results := [], args := [] }

/- WHAT THE LISTED PACKAGE-LEVEL VARIABLES READ AS WHEN THE CALL BEGINS. Each datum BY PROGRAM (the guide's laid-datum.mjs) off the statement by which the dump's own 'gosem.cut.vars' lays the variable. In a bare row this is a premise. The card (YtgahfbbhnkcnfaaDoorCards.lean) ties it to the program's text. -/
def laid_loop_example_medlar_impl_keyRows {H : Type} : DataW H := .slice [.lit (.string [113, 119, 101, 114, 116, 121, 117, 105, 111, 112]), .lit (.string [97, 115, 100, 102, 103, 104, 106, 107, 108]), .lit (.string [122, 120, 99, 118, 98, 110, 109])] []

/-- 'laws.FnExactKeyFar': WHATEVER THE INPUT: true; the input reads as it did. -/
def fnExactKeyFarSpec : ChangeSpec := { name := "fnExactKeyFar", vars := ["loop.example/medlar/impl.keyRows"], fn := fun _ => fun
  | [d1, d2, g1] => { results := [.lit (.bool true)], args := [d1, d2], vars := [g1] }
  | _ => none }
def fnExactKeyFarRow : OpenClaim := { program := "ytgahfbbhnkcnfaadoor", sum := "f6af0c63b064e0cacb5c539b0f00240a5dddbaebe51e141120a39827ee562860", func := "loop.example/medlar/laws.FnExactKeyFar", spec := "fnExactKeyFar", inPlace := ["internal/bytealg.IndexByteString", "internal/bytealg.IndexString"], named := ["loop.example/medlar/impl.keyRows", "internal/bytealg.MaxLen"], apart := false, laid := [("loop.example/medlar/impl.keyRows", laid_loop_example_medlar_impl_keyRows)] }
def FnExactKeyFarSaid : Prop := fnExactKeyFarRow.holds Tryd.pinned (OpenSpec.ofChange fnExactKeyFarSpec)

/-- ITS FALSE NEIGHBOUR: 'it returns false'. Refute it at one input. -/
def fnExactKeyFarWrong : ChangeSpec := { name := "fnExactKeyFar", vars := ["loop.example/medlar/impl.keyRows"], fn := fun _ => fun
  | [d1, d2, g1] => { results := [.lit (.bool false)], args := [d1, d2], vars := [g1] }
  | _ => none }
def FnExactKeyFarWrongFalsely : Prop := fnExactKeyFarRow.holds Tryd.pinned (OpenSpec.ofChange fnExactKeyFarWrong)

/-- 'laws.FnKeyFar': WHATEVER THE INPUT: true; the input reads as it did. -/
def fnKeyFarSpec : ChangeSpec := { name := "fnKeyFar", vars := ["loop.example/medlar/impl.keyRows"], fn := fun _ => fun
  | [d, g1] => { results := [.lit (.bool true)], args := [d], vars := [g1] }
  | _ => none }
def fnKeyFarRow : OpenClaim := { program := "ytgahfbbhnkcnfaadoor", sum := "f6af0c63b064e0cacb5c539b0f00240a5dddbaebe51e141120a39827ee562860", func := "loop.example/medlar/laws.FnKeyFar", spec := "fnKeyFar", inPlace := ["internal/bytealg.IndexByteString", "internal/bytealg.IndexString"], named := ["loop.example/medlar/impl.keyRows", "internal/bytealg.MaxLen"], apart := false, laid := [("loop.example/medlar/impl.keyRows", laid_loop_example_medlar_impl_keyRows)] }
def FnKeyFarSaid : Prop := fnKeyFarRow.holds Tryd.pinned (OpenSpec.ofChange fnKeyFarSpec)

/-- ITS FALSE NEIGHBOUR: 'it returns false'. Refute it at one input. -/
def fnKeyFarWrong : ChangeSpec := { name := "fnKeyFar", vars := ["loop.example/medlar/impl.keyRows"], fn := fun _ => fun
  | [d, g1] => { results := [.lit (.bool false)], args := [d], vars := [g1] }
  | _ => none }
def FnKeyFarWrongFalsely : Prop := fnKeyFarRow.holds Tryd.pinned (OpenSpec.ofChange fnKeyFarWrong)

/-- 'laws.FnExactWeighFar': WHATEVER THE INPUT: true; the input reads as it did. -/
def fnExactWeighFarSpec : ChangeSpec := { name := "fnExactWeighFar", vars := ["loop.example/medlar/impl.keyRows"], fn := fun _ => fun
  | [d1, d2, g1] => { results := [.lit (.bool true)], args := [d1, d2], vars := [g1] }
  | _ => none }
def fnExactWeighFarRow : OpenClaim := { program := "ytgahfbbhnkcnfaadoor", sum := "f6af0c63b064e0cacb5c539b0f00240a5dddbaebe51e141120a39827ee562860", func := "loop.example/medlar/laws.FnExactWeighFar", spec := "fnExactWeighFar", inPlace := ["internal/bytealg.IndexByteString", "internal/bytealg.IndexString"], named := ["loop.example/medlar/impl.keyRows", "internal/bytealg.MaxLen"], apart := false, laid := [("loop.example/medlar/impl.keyRows", laid_loop_example_medlar_impl_keyRows)] }
def FnExactWeighFarSaid : Prop := fnExactWeighFarRow.holds Tryd.pinned (OpenSpec.ofChange fnExactWeighFarSpec)

/-- ITS FALSE NEIGHBOUR: 'it returns false'. Refute it at one input. -/
def fnExactWeighFarWrong : ChangeSpec := { name := "fnExactWeighFar", vars := ["loop.example/medlar/impl.keyRows"], fn := fun _ => fun
  | [d1, d2, g1] => { results := [.lit (.bool false)], args := [d1, d2], vars := [g1] }
  | _ => none }
def FnExactWeighFarWrongFalsely : Prop := fnExactWeighFarRow.holds Tryd.pinned (OpenSpec.ofChange fnExactWeighFarWrong)

/-- 'laws.FnWeighFar': WHATEVER THE INPUT: true; the input reads as it did. -/
def fnWeighFarSpec : ChangeSpec := { name := "fnWeighFar", vars := ["loop.example/medlar/impl.keyRows"], fn := fun _ => fun
  | [d, g1] => { results := [.lit (.bool true)], args := [d], vars := [g1] }
  | _ => none }
def fnWeighFarRow : OpenClaim := { program := "ytgahfbbhnkcnfaadoor", sum := "f6af0c63b064e0cacb5c539b0f00240a5dddbaebe51e141120a39827ee562860", func := "loop.example/medlar/laws.FnWeighFar", spec := "fnWeighFar", inPlace := ["internal/bytealg.IndexByteString", "internal/bytealg.IndexString"], named := ["loop.example/medlar/impl.keyRows", "internal/bytealg.MaxLen"], apart := false, laid := [("loop.example/medlar/impl.keyRows", laid_loop_example_medlar_impl_keyRows)] }
def FnWeighFarSaid : Prop := fnWeighFarRow.holds Tryd.pinned (OpenSpec.ofChange fnWeighFarSpec)

/-- ITS FALSE NEIGHBOUR: 'it returns false'. Refute it at one input. -/
def fnWeighFarWrong : ChangeSpec := { name := "fnWeighFar", vars := ["loop.example/medlar/impl.keyRows"], fn := fun _ => fun
  | [d, g1] => { results := [.lit (.bool false)], args := [d], vars := [g1] }
  | _ => none }
def FnWeighFarWrongFalsely : Prop := fnWeighFarRow.holds Tryd.pinned (OpenSpec.ofChange fnWeighFarWrong)

/- THE SECOND FORM. 'bulk': how many values and letters a reading holds, each counted each time it is reached (what is shared counts as often as it is met; a slice's spare places count too). A statement '..UptoSaid' is the law's where the arguments, and the package variables that the reading takes, are together of bulk at most 1048576: NARROWER than '..Said'. Prove '..Said' where nothing that the law and all that it calls make is longer than what came in: it says more and counts as full. Else prove '..UptoSaid'. A law counts once. -/
mutual
def uptoBulk {H : Type} : DataW H → Nat
  | .lit (.string bytes) => bytes.length + 1
  | .lit _ => 1
  | .nil => 1
  | .ptr d => uptoBulk d + 1
  | .slice elems spare => uptoBulkAll elems + uptoBulkAll spare + 1
  | .agg parts => uptoBulkAll parts + 1
  | .iface _ d => uptoBulk d + 1
  | .map entries => uptoBulkEntries entries + 1
  | .held _ => 1
def uptoBulkAll {H : Type} : List (DataW H) → Nat
  | [] => 0
  | d :: r => uptoBulk d + uptoBulkAll r
def uptoBulkEntries {H : Type} : List (Lit × DataW H) → Nat
  | [] => 0
  | x :: r => uptoBulkEntry x + uptoBulkEntries r
def uptoBulkEntry {H : Type} : Lit × DataW H → Nat
  | (.string bytes, d) => bytes.length + uptoBulk d + 1
  | (_, d) => uptoBulk d + 1
 end
def uptoSmall : (H : Type) → List (DataW H) → Bool := fun _ ds => decide (uptoBulkAll ds ≤ 1048576)
def OpenSpec.upto (s : _root_.Go.ChangeSpec) : _root_.Go.OpenSpec := { _root_.Go.OpenSpec.ofChange s with cond := some uptoSmall }

/-- 'laws.FnExactKeyFar', WHERE WHAT IT READS IS OF BULK AT MOST 1048576: true; the input reads as it did. -/
def fnExactKeyFarUptoRow : OpenClaim := { program := "ytgahfbbhnkcnfaadoor", sum := "f6af0c63b064e0cacb5c539b0f00240a5dddbaebe51e141120a39827ee562860", func := "loop.example/medlar/laws.FnExactKeyFar", spec := "fnExactKeyFar", inPlace := ["internal/bytealg.IndexByteString", "internal/bytealg.IndexString"], named := ["loop.example/medlar/impl.keyRows", "internal/bytealg.MaxLen"], apart := false, laid := [("loop.example/medlar/impl.keyRows", laid_loop_example_medlar_impl_keyRows)], narrowed := true }
def FnExactKeyFarUptoSaid : Prop := fnExactKeyFarUptoRow.holds Tryd.pinned (OpenSpec.upto fnExactKeyFarSpec)

/-- 'laws.FnKeyFar', WHERE WHAT IT READS IS OF BULK AT MOST 1048576: true; the input reads as it did. -/
def fnKeyFarUptoRow : OpenClaim := { program := "ytgahfbbhnkcnfaadoor", sum := "f6af0c63b064e0cacb5c539b0f00240a5dddbaebe51e141120a39827ee562860", func := "loop.example/medlar/laws.FnKeyFar", spec := "fnKeyFar", inPlace := ["internal/bytealg.IndexByteString", "internal/bytealg.IndexString"], named := ["loop.example/medlar/impl.keyRows", "internal/bytealg.MaxLen"], apart := false, laid := [("loop.example/medlar/impl.keyRows", laid_loop_example_medlar_impl_keyRows)], narrowed := true }
def FnKeyFarUptoSaid : Prop := fnKeyFarUptoRow.holds Tryd.pinned (OpenSpec.upto fnKeyFarSpec)

/-- 'laws.FnExactWeighFar', WHERE WHAT IT READS IS OF BULK AT MOST 1048576: true; the input reads as it did. -/
def fnExactWeighFarUptoRow : OpenClaim := { program := "ytgahfbbhnkcnfaadoor", sum := "f6af0c63b064e0cacb5c539b0f00240a5dddbaebe51e141120a39827ee562860", func := "loop.example/medlar/laws.FnExactWeighFar", spec := "fnExactWeighFar", inPlace := ["internal/bytealg.IndexByteString", "internal/bytealg.IndexString"], named := ["loop.example/medlar/impl.keyRows", "internal/bytealg.MaxLen"], apart := false, laid := [("loop.example/medlar/impl.keyRows", laid_loop_example_medlar_impl_keyRows)], narrowed := true }
def FnExactWeighFarUptoSaid : Prop := fnExactWeighFarUptoRow.holds Tryd.pinned (OpenSpec.upto fnExactWeighFarSpec)

/-- 'laws.FnWeighFar', WHERE WHAT IT READS IS OF BULK AT MOST 1048576: true; the input reads as it did. -/
def fnWeighFarUptoRow : OpenClaim := { program := "ytgahfbbhnkcnfaadoor", sum := "f6af0c63b064e0cacb5c539b0f00240a5dddbaebe51e141120a39827ee562860", func := "loop.example/medlar/laws.FnWeighFar", spec := "fnWeighFar", inPlace := ["internal/bytealg.IndexByteString", "internal/bytealg.IndexString"], named := ["loop.example/medlar/impl.keyRows", "internal/bytealg.MaxLen"], apart := false, laid := [("loop.example/medlar/impl.keyRows", laid_loop_example_medlar_impl_keyRows)], narrowed := true }
def FnWeighFarUptoSaid : Prop := fnWeighFarUptoRow.holds Tryd.pinned (OpenSpec.upto fnWeighFarSpec)

end Rows
end Go.Proofs.YtgahfbbhnkcnfaaDoor
