/-
  No cell of these rows narrows 'for every input' (looked for: loops, veiled, ifaces, maps, wideKeys, modest, calm, conditions, laid).
  DERIVED. THE GIVEN ROWS OF THIS SEAT. 8 by the template 'for every input the law returns true; each argument reads behind the call as it read before'; 0 by the template 'total and deterministic' (their statements: YtbmpmkklopbejaaTotals.lean).
  GIVEN WITH THE SEED: the statements are not yours to turn. If you find one false, say at which input.
  Laid BY PROGRAM, IN A SANDBOX (cutbox-rows.mjs): the forced cells as the released guide's own fill.sh prints them over the translation 348242ceba892f36… (all of the seat's roots in one cut). By AI agents, Wed Nov 11 2026. No macro, syntax, notation, axiom, sorry.
-/
import Derived.Test.YtbmpmkklopbejaaChecked
import GoSem.Claim
import GoSem.ClaimJoined
import GoSem.ClaimMapViews
import Derived.JoinedTies
import Derived.KernelRfl
namespace Go.Proofs.Ytbmpmkklopbejaa
/- THE CELL 'sum', in the pinned program and in every row, IS THE sha256 OF THE DUMP (.gsa) THAT YtbmpmkklopbejaaProg.lean LOADS. Nothing in Lean hashes anything: it is a label: what it is worth is what the hold of that sum in a sandbox is worth. -/
noncomputable def Try.pinned : Pinned := { name := "ytbmpmkklopbejaa", sum := "348242ceba892f3691105bd50ed23917755fa2589bd3365f3234bf0d20c7ae41", checked := Try.checked }
namespace Rows
def none {H : Type} : Left H := { results := [], args := [] }

/-- 'laws.FnExactCaseOf': WHATEVER THE INPUT: true; the input reads as it did. -/
def fnExactCaseOfSpec : ChangeSpec := { name := "fnExactCaseOf", fn := fun _ => fun
  | [d] => { results := [.lit (.bool true)], args := [d] }
  | _ => none }
def fnExactCaseOfRow : OpenClaim := { program := "ytbmpmkklopbejaa", sum := "348242ceba892f3691105bd50ed23917755fa2589bd3365f3234bf0d20c7ae41", func := "loop.example/medlar/laws.FnExactCaseOf", spec := "fnExactCaseOf", apart := false }
def FnExactCaseOfSaid : Prop := fnExactCaseOfRow.holds Try.pinned (OpenSpec.ofChange fnExactCaseOfSpec)

/-- ITS FALSE NEIGHBOUR: 'it returns false'. Refute it at one input. -/
def fnExactCaseOfWrong : ChangeSpec := { name := "fnExactCaseOf", fn := fun _ => fun
  | [d] => { results := [.lit (.bool false)], args := [d] }
  | _ => none }
def FnExactCaseOfWrongFalsely : Prop := fnExactCaseOfRow.holds Try.pinned (OpenSpec.ofChange fnExactCaseOfWrong)

/-- 'laws.FnExactRingNew': WHATEVER THE INPUT: true; the input reads as it did. -/
def fnExactRingNewSpec : ChangeSpec := { name := "fnExactRingNew", fn := fun _ => fun
  | [d] => { results := [.lit (.bool true)], args := [d] }
  | _ => none }
def fnExactRingNewRow : OpenClaim := { program := "ytbmpmkklopbejaa", sum := "348242ceba892f3691105bd50ed23917755fa2589bd3365f3234bf0d20c7ae41", func := "loop.example/medlar/laws.FnExactRingNew", spec := "fnExactRingNew", apart := false }
def FnExactRingNewSaid : Prop := fnExactRingNewRow.holds Try.pinned (OpenSpec.ofChange fnExactRingNewSpec)

/-- ITS FALSE NEIGHBOUR: 'it returns false'. Refute it at one input. -/
def fnExactRingNewWrong : ChangeSpec := { name := "fnExactRingNew", fn := fun _ => fun
  | [d] => { results := [.lit (.bool false)], args := [d] }
  | _ => none }
def FnExactRingNewWrongFalsely : Prop := fnExactRingNewRow.holds Try.pinned (OpenSpec.ofChange fnExactRingNewWrong)

/-- 'laws.FnRingNew': WHATEVER THE INPUT: true; the input reads as it did. -/
def fnRingNewSpec : ChangeSpec := { name := "fnRingNew", fn := fun _ => fun
  | [d] => { results := [.lit (.bool true)], args := [d] }
  | _ => none }
def fnRingNewRow : OpenClaim := { program := "ytbmpmkklopbejaa", sum := "348242ceba892f3691105bd50ed23917755fa2589bd3365f3234bf0d20c7ae41", func := "loop.example/medlar/laws.FnRingNew", spec := "fnRingNew", apart := false }
def FnRingNewSaid : Prop := fnRingNewRow.holds Try.pinned (OpenSpec.ofChange fnRingNewSpec)

/-- ITS FALSE NEIGHBOUR: 'it returns false'. Refute it at one input. -/
def fnRingNewWrong : ChangeSpec := { name := "fnRingNew", fn := fun _ => fun
  | [d] => { results := [.lit (.bool false)], args := [d] }
  | _ => none }
def FnRingNewWrongFalsely : Prop := fnRingNewRow.holds Try.pinned (OpenSpec.ofChange fnRingNewWrong)

/-- 'laws.FnExactUserDrop': WHATEVER THE INPUT: true; the input reads as it did. -/
def fnExactUserDropSpec : ChangeSpec := { name := "fnExactUserDrop", fn := fun _ => fun
  | [d1, d2] => { results := [.lit (.bool true)], args := [d1, d2] }
  | _ => none }
def fnExactUserDropRow : OpenClaim := { program := "ytbmpmkklopbejaa", sum := "348242ceba892f3691105bd50ed23917755fa2589bd3365f3234bf0d20c7ae41", func := "loop.example/medlar/laws.FnExactUserDrop", spec := "fnExactUserDrop", apart := false }
def FnExactUserDropSaid : Prop := fnExactUserDropRow.holds Try.pinned (OpenSpec.ofChange fnExactUserDropSpec)

/-- ITS FALSE NEIGHBOUR: 'it returns false'. Refute it at one input. -/
def fnExactUserDropWrong : ChangeSpec := { name := "fnExactUserDrop", fn := fun _ => fun
  | [d1, d2] => { results := [.lit (.bool false)], args := [d1, d2] }
  | _ => none }
def FnExactUserDropWrongFalsely : Prop := fnExactUserDropRow.holds Try.pinned (OpenSpec.ofChange fnExactUserDropWrong)

/-- 'laws.FnExactRingOk': WHATEVER THE INPUT: true; the input reads as it did. -/
def fnExactRingOkSpec : ChangeSpec := { name := "fnExactRingOk", fn := fun _ => fun
  | [d] => { results := [.lit (.bool true)], args := [d] }
  | _ => none }
def fnExactRingOkRow : OpenClaim := { program := "ytbmpmkklopbejaa", sum := "348242ceba892f3691105bd50ed23917755fa2589bd3365f3234bf0d20c7ae41", func := "loop.example/medlar/laws.FnExactRingOk", spec := "fnExactRingOk", apart := false }
def FnExactRingOkSaid : Prop := fnExactRingOkRow.holds Try.pinned (OpenSpec.ofChange fnExactRingOkSpec)

/-- ITS FALSE NEIGHBOUR: 'it returns false'. Refute it at one input. -/
def fnExactRingOkWrong : ChangeSpec := { name := "fnExactRingOk", fn := fun _ => fun
  | [d] => { results := [.lit (.bool false)], args := [d] }
  | _ => none }
def FnExactRingOkWrongFalsely : Prop := fnExactRingOkRow.holds Try.pinned (OpenSpec.ofChange fnExactRingOkWrong)

/-- 'laws.FnExactRingKey': WHATEVER THE INPUT: true; the input reads as it did. -/
def fnExactRingKeySpec : ChangeSpec := { name := "fnExactRingKey", fn := fun _ => fun
  | [d1, d2] => { results := [.lit (.bool true)], args := [d1, d2] }
  | _ => none }
def fnExactRingKeyRow : OpenClaim := { program := "ytbmpmkklopbejaa", sum := "348242ceba892f3691105bd50ed23917755fa2589bd3365f3234bf0d20c7ae41", func := "loop.example/medlar/laws.FnExactRingKey", spec := "fnExactRingKey", apart := false }
def FnExactRingKeySaid : Prop := fnExactRingKeyRow.holds Try.pinned (OpenSpec.ofChange fnExactRingKeySpec)

/-- ITS FALSE NEIGHBOUR: 'it returns false'. Refute it at one input. -/
def fnExactRingKeyWrong : ChangeSpec := { name := "fnExactRingKey", fn := fun _ => fun
  | [d1, d2] => { results := [.lit (.bool false)], args := [d1, d2] }
  | _ => none }
def FnExactRingKeyWrongFalsely : Prop := fnExactRingKeyRow.holds Try.pinned (OpenSpec.ofChange fnExactRingKeyWrong)

/-- 'laws.FnRingKey': WHATEVER THE INPUT: true; the input reads as it did. -/
def fnRingKeySpec : ChangeSpec := { name := "fnRingKey", fn := fun _ => fun
  | [d] => { results := [.lit (.bool true)], args := [d] }
  | _ => none }
def fnRingKeyRow : OpenClaim := { program := "ytbmpmkklopbejaa", sum := "348242ceba892f3691105bd50ed23917755fa2589bd3365f3234bf0d20c7ae41", func := "loop.example/medlar/laws.FnRingKey", spec := "fnRingKey", recurses := true, apart := false }
def FnRingKeySaid : Prop := fnRingKeyRow.holds Try.pinned (OpenSpec.ofChange fnRingKeySpec)

/-- ITS FALSE NEIGHBOUR: 'it returns false'. Refute it at one input. -/
def fnRingKeyWrong : ChangeSpec := { name := "fnRingKey", fn := fun _ => fun
  | [d] => { results := [.lit (.bool false)], args := [d] }
  | _ => none }
def FnRingKeyWrongFalsely : Prop := fnRingKeyRow.holds Try.pinned (OpenSpec.ofChange fnRingKeyWrong)

/-- 'laws.FnCaseOf': WHATEVER THE INPUT: true; the input reads as it did. -/
def fnCaseOfSpec : ChangeSpec := { name := "fnCaseOf", fn := fun _ => fun
  | [d] => { results := [.lit (.bool true)], args := [d] }
  | _ => none }
def fnCaseOfRow : OpenClaim := { program := "ytbmpmkklopbejaa", sum := "348242ceba892f3691105bd50ed23917755fa2589bd3365f3234bf0d20c7ae41", func := "loop.example/medlar/laws.FnCaseOf", spec := "fnCaseOf", apart := false }
def FnCaseOfSaid : Prop := fnCaseOfRow.holds Try.pinned (OpenSpec.ofChange fnCaseOfSpec)

/-- ITS FALSE NEIGHBOUR: 'it returns false'. Refute it at one input. -/
def fnCaseOfWrong : ChangeSpec := { name := "fnCaseOf", fn := fun _ => fun
  | [d] => { results := [.lit (.bool false)], args := [d] }
  | _ => none }
def FnCaseOfWrongFalsely : Prop := fnCaseOfRow.holds Try.pinned (OpenSpec.ofChange fnCaseOfWrong)

/- THE SECOND FORM. 'bulk': how many values and letters a reading holds, each counted each time it is reached (what is shared counts as often as it is met; a slice's spare places count too). A statement '..UptoSaid' is the law's where the arguments, and the package variables that the reading takes, are together of bulk at most 1048576: NARROWER than '..Said'. Prove '..Said' where nothing that the law and all that it calls make is longer than what came in: it says more and counts as full. Else prove '..UptoSaid'. A law counts once. -/
mutual
def uptoBulk {H : Type} : DataW H → Nat
  | .lit (.string bytes) => bytes.length + 1
  | .lit _ => 1
  | .nil => 1
  | .ptr d => uptoBulk d + 1
  | .slice elems spare => uptoBulkAll elems + uptoBulkAll spare + 1
  | .agg parts => uptoBulkAll parts + 1
  | .iface _ d => uptoBulk d + 1
  | .map entries => uptoBulkEntries entries + 1
  | .held _ => 1
def uptoBulkAll {H : Type} : List (DataW H) → Nat
  | [] => 0
  | d :: r => uptoBulk d + uptoBulkAll r
def uptoBulkEntries {H : Type} : List (Lit × DataW H) → Nat
  | [] => 0
  | x :: r => uptoBulkEntry x + uptoBulkEntries r
def uptoBulkEntry {H : Type} : Lit × DataW H → Nat
  | (.string bytes, d) => bytes.length + uptoBulk d + 1
  | (_, d) => uptoBulk d + 1
 end
def uptoSmall : (H : Type) → List (DataW H) → Bool := fun _ ds => decide (uptoBulkAll ds ≤ 1048576)
def OpenSpec.upto (s : _root_.Go.ChangeSpec) : _root_.Go.OpenSpec := { _root_.Go.OpenSpec.ofChange s with cond := some uptoSmall }

/-- 'laws.FnExactCaseOf', WHERE WHAT IT READS IS OF BULK AT MOST 1048576: true; the input reads as it did. -/
def fnExactCaseOfUptoRow : OpenClaim := { program := "ytbmpmkklopbejaa", sum := "348242ceba892f3691105bd50ed23917755fa2589bd3365f3234bf0d20c7ae41", func := "loop.example/medlar/laws.FnExactCaseOf", spec := "fnExactCaseOf", apart := false, narrowed := true }
def FnExactCaseOfUptoSaid : Prop := fnExactCaseOfUptoRow.holds Try.pinned (OpenSpec.upto fnExactCaseOfSpec)

/-- 'laws.FnExactRingNew', WHERE WHAT IT READS IS OF BULK AT MOST 1048576: true; the input reads as it did. -/
def fnExactRingNewUptoRow : OpenClaim := { program := "ytbmpmkklopbejaa", sum := "348242ceba892f3691105bd50ed23917755fa2589bd3365f3234bf0d20c7ae41", func := "loop.example/medlar/laws.FnExactRingNew", spec := "fnExactRingNew", apart := false, narrowed := true }
def FnExactRingNewUptoSaid : Prop := fnExactRingNewUptoRow.holds Try.pinned (OpenSpec.upto fnExactRingNewSpec)

/-- 'laws.FnRingNew', WHERE WHAT IT READS IS OF BULK AT MOST 1048576: true; the input reads as it did. -/
def fnRingNewUptoRow : OpenClaim := { program := "ytbmpmkklopbejaa", sum := "348242ceba892f3691105bd50ed23917755fa2589bd3365f3234bf0d20c7ae41", func := "loop.example/medlar/laws.FnRingNew", spec := "fnRingNew", apart := false, narrowed := true }
def FnRingNewUptoSaid : Prop := fnRingNewUptoRow.holds Try.pinned (OpenSpec.upto fnRingNewSpec)

/-- 'laws.FnExactUserDrop', WHERE WHAT IT READS IS OF BULK AT MOST 1048576: true; the input reads as it did. -/
def fnExactUserDropUptoRow : OpenClaim := { program := "ytbmpmkklopbejaa", sum := "348242ceba892f3691105bd50ed23917755fa2589bd3365f3234bf0d20c7ae41", func := "loop.example/medlar/laws.FnExactUserDrop", spec := "fnExactUserDrop", apart := false, narrowed := true }
def FnExactUserDropUptoSaid : Prop := fnExactUserDropUptoRow.holds Try.pinned (OpenSpec.upto fnExactUserDropSpec)

/-- 'laws.FnExactRingOk', WHERE WHAT IT READS IS OF BULK AT MOST 1048576: true; the input reads as it did. -/
def fnExactRingOkUptoRow : OpenClaim := { program := "ytbmpmkklopbejaa", sum := "348242ceba892f3691105bd50ed23917755fa2589bd3365f3234bf0d20c7ae41", func := "loop.example/medlar/laws.FnExactRingOk", spec := "fnExactRingOk", apart := false, narrowed := true }
def FnExactRingOkUptoSaid : Prop := fnExactRingOkUptoRow.holds Try.pinned (OpenSpec.upto fnExactRingOkSpec)

/-- 'laws.FnExactRingKey', WHERE WHAT IT READS IS OF BULK AT MOST 1048576: true; the input reads as it did. -/
def fnExactRingKeyUptoRow : OpenClaim := { program := "ytbmpmkklopbejaa", sum := "348242ceba892f3691105bd50ed23917755fa2589bd3365f3234bf0d20c7ae41", func := "loop.example/medlar/laws.FnExactRingKey", spec := "fnExactRingKey", apart := false, narrowed := true }
def FnExactRingKeyUptoSaid : Prop := fnExactRingKeyUptoRow.holds Try.pinned (OpenSpec.upto fnExactRingKeySpec)

/-- 'laws.FnRingKey', WHERE WHAT IT READS IS OF BULK AT MOST 1048576: true; the input reads as it did. -/
def fnRingKeyUptoRow : OpenClaim := { program := "ytbmpmkklopbejaa", sum := "348242ceba892f3691105bd50ed23917755fa2589bd3365f3234bf0d20c7ae41", func := "loop.example/medlar/laws.FnRingKey", spec := "fnRingKey", recurses := true, apart := false, narrowed := true }
def FnRingKeyUptoSaid : Prop := fnRingKeyUptoRow.holds Try.pinned (OpenSpec.upto fnRingKeySpec)

/-- 'laws.FnCaseOf', WHERE WHAT IT READS IS OF BULK AT MOST 1048576: true; the input reads as it did. -/
def fnCaseOfUptoRow : OpenClaim := { program := "ytbmpmkklopbejaa", sum := "348242ceba892f3691105bd50ed23917755fa2589bd3365f3234bf0d20c7ae41", func := "loop.example/medlar/laws.FnCaseOf", spec := "fnCaseOf", apart := false, narrowed := true }
def FnCaseOfUptoSaid : Prop := fnCaseOfUptoRow.holds Try.pinned (OpenSpec.upto fnCaseOfSpec)

end Rows
end Go.Proofs.Ytbmpmkklopbejaa
