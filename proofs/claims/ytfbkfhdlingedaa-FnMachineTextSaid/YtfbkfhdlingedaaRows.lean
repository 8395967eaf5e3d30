/-
  No cell of these rows narrows 'for every input' (looked for: loops, veiled, ifaces, maps, wideKeys, modest, calm, conditions, laid).
  DERIVED. THE GIVEN ROWS OF THIS SEAT. 6 by the template 'for every input the law returns true; each argument reads behind the call as it read before'; 0 by the template 'total and deterministic' (their statements: YtfbkfhdlingedaaTotals.lean).
  GIVEN WITH THE SEED: the statements are not yours to turn. If you find one false, say at which input.
  Laid BY PROGRAM, IN A SANDBOX (cutbox-rows.mjs): the forced cells as the released guide's own fill.sh prints them over the translation 01429b2399b29ebc… (all of the seat's roots in one cut). By AI agents, Wed Nov 11 2026. No macro, syntax, notation, axiom, sorry.
-/
import Derived.Test.YtfbkfhdlingedaaChecked
import GoSem.Claim
import GoSem.ClaimJoined
import GoSem.ClaimMapViews
import Derived.JoinedTies
import Derived.KernelRfl
namespace Go.Proofs.Ytfbkfhdlingedaa
/- THE CELL 'sum', in the pinned program and in every row, IS THE sha256 OF THE DUMP (.gsa) THAT YtfbkfhdlingedaaProg.lean LOADS. Nothing in Lean hashes anything: it is a label: what it is worth is what the hold of that sum in a sandbox is worth. -/
noncomputable def Try.pinned : Pinned := { name := "ytfbkfhdlingedaa", sum := "01429b2399b29ebc2acb296a1bf9c31c24cfef9e15d0eb558bd8a489209e38ee", checked := Try.checked }
namespace Rows
def none {H : Type} : Left H := { results := [], args := [] }

/-- 'laws.FnExactMachinePut': WHATEVER THE INPUT: true; the input reads as it did. -/
def fnExactMachinePutSpec : ChangeSpec := { name := "fnExactMachinePut", fn := fun _ => fun
  | [d] => { results := [.lit (.bool true)], args := [d] }
  | _ => none }
def fnExactMachinePutRow : OpenClaim := { program := "ytfbkfhdlingedaa", sum := "01429b2399b29ebc2acb296a1bf9c31c24cfef9e15d0eb558bd8a489209e38ee", func := "loop.example/medlar/laws.FnExactMachinePut", spec := "fnExactMachinePut", apart := false }
def FnExactMachinePutSaid : Prop := fnExactMachinePutRow.holds Try.pinned (OpenSpec.ofChange fnExactMachinePutSpec)

/-- ITS FALSE NEIGHBOUR: 'it returns false'. Refute it at one input. -/
def fnExactMachinePutWrong : ChangeSpec := { name := "fnExactMachinePut", fn := fun _ => fun
  | [d] => { results := [.lit (.bool false)], args := [d] }
  | _ => none }
def FnExactMachinePutWrongFalsely : Prop := fnExactMachinePutRow.holds Try.pinned (OpenSpec.ofChange fnExactMachinePutWrong)

/-- 'laws.FnExactMachineAll': WHATEVER THE INPUT: true; the input reads as it did. -/
def fnExactMachineAllSpec : ChangeSpec := { name := "fnExactMachineAll", fn := fun _ => fun
  | [d1, d2] => { results := [.lit (.bool true)], args := [d1, d2] }
  | _ => none }
def fnExactMachineAllRow : OpenClaim := { program := "ytfbkfhdlingedaa", sum := "01429b2399b29ebc2acb296a1bf9c31c24cfef9e15d0eb558bd8a489209e38ee", func := "loop.example/medlar/laws.FnExactMachineAll", spec := "fnExactMachineAll", recurses := true, apart := false }
def FnExactMachineAllSaid : Prop := fnExactMachineAllRow.holds Try.pinned (OpenSpec.ofChange fnExactMachineAllSpec)

/-- ITS FALSE NEIGHBOUR: 'it returns false'. Refute it at one input. -/
def fnExactMachineAllWrong : ChangeSpec := { name := "fnExactMachineAll", fn := fun _ => fun
  | [d1, d2] => { results := [.lit (.bool false)], args := [d1, d2] }
  | _ => none }
def FnExactMachineAllWrongFalsely : Prop := fnExactMachineAllRow.holds Try.pinned (OpenSpec.ofChange fnExactMachineAllWrong)

/-- 'laws.FnExactMachineGet': WHATEVER THE INPUT: true; the input reads as it did. -/
def fnExactMachineGetSpec : ChangeSpec := { name := "fnExactMachineGet", fn := fun _ => fun
  | [d] => { results := [.lit (.bool true)], args := [d] }
  | _ => none }
def fnExactMachineGetRow : OpenClaim := { program := "ytfbkfhdlingedaa", sum := "01429b2399b29ebc2acb296a1bf9c31c24cfef9e15d0eb558bd8a489209e38ee", func := "loop.example/medlar/laws.FnExactMachineGet", spec := "fnExactMachineGet", apart := false }
def FnExactMachineGetSaid : Prop := fnExactMachineGetRow.holds Try.pinned (OpenSpec.ofChange fnExactMachineGetSpec)

/-- ITS FALSE NEIGHBOUR: 'it returns false'. Refute it at one input. -/
def fnExactMachineGetWrong : ChangeSpec := { name := "fnExactMachineGet", fn := fun _ => fun
  | [d] => { results := [.lit (.bool false)], args := [d] }
  | _ => none }
def FnExactMachineGetWrongFalsely : Prop := fnExactMachineGetRow.holds Try.pinned (OpenSpec.ofChange fnExactMachineGetWrong)

/-- 'laws.FnExactMachineBegins': WHATEVER THE INPUT: true; the input reads as it did. -/
def fnExactMachineBeginsSpec : ChangeSpec := { name := "fnExactMachineBegins", fn := fun _ => fun
  | [d1, d2, d3] => { results := [.lit (.bool true)], args := [d1, d2, d3] }
  | _ => none }
def fnExactMachineBeginsRow : OpenClaim := { program := "ytfbkfhdlingedaa", sum := "01429b2399b29ebc2acb296a1bf9c31c24cfef9e15d0eb558bd8a489209e38ee", func := "loop.example/medlar/laws.FnExactMachineBegins", spec := "fnExactMachineBegins", recurses := true, apart := false }
def FnExactMachineBeginsSaid : Prop := fnExactMachineBeginsRow.holds Try.pinned (OpenSpec.ofChange fnExactMachineBeginsSpec)

/-- ITS FALSE NEIGHBOUR: 'it returns false'. Refute it at one input. -/
def fnExactMachineBeginsWrong : ChangeSpec := { name := "fnExactMachineBegins", fn := fun _ => fun
  | [d1, d2, d3] => { results := [.lit (.bool false)], args := [d1, d2, d3] }
  | _ => none }
def FnExactMachineBeginsWrongFalsely : Prop := fnExactMachineBeginsRow.holds Try.pinned (OpenSpec.ofChange fnExactMachineBeginsWrong)

/-- 'laws.FnMachineBegins': WHATEVER THE INPUT: true; the input reads as it did. -/
def fnMachineBeginsSpec : ChangeSpec := { name := "fnMachineBegins", fn := fun _ => fun
  | [d] => { results := [.lit (.bool true)], args := [d] }
  | _ => none }
def fnMachineBeginsRow : OpenClaim := { program := "ytfbkfhdlingedaa", sum := "01429b2399b29ebc2acb296a1bf9c31c24cfef9e15d0eb558bd8a489209e38ee", func := "loop.example/medlar/laws.FnMachineBegins", spec := "fnMachineBegins", recurses := true, apart := false }
def FnMachineBeginsSaid : Prop := fnMachineBeginsRow.holds Try.pinned (OpenSpec.ofChange fnMachineBeginsSpec)

/-- ITS FALSE NEIGHBOUR: 'it returns false'. Refute it at one input. -/
def fnMachineBeginsWrong : ChangeSpec := { name := "fnMachineBegins", fn := fun _ => fun
  | [d] => { results := [.lit (.bool false)], args := [d] }
  | _ => none }
def FnMachineBeginsWrongFalsely : Prop := fnMachineBeginsRow.holds Try.pinned (OpenSpec.ofChange fnMachineBeginsWrong)

/-- 'laws.FnMachineText': WHATEVER THE INPUT: true; the input reads as it did. -/
def fnMachineTextSpec : ChangeSpec := { name := "fnMachineText", fn := fun _ => fun
  | [d1, d2] => { results := [.lit (.bool true)], args := [d1, d2] }
  | _ => none }
def fnMachineTextRow : OpenClaim := { program := "ytfbkfhdlingedaa", sum := "01429b2399b29ebc2acb296a1bf9c31c24cfef9e15d0eb558bd8a489209e38ee", func := "loop.example/medlar/laws.FnMachineText", spec := "fnMachineText", apart := false }
def FnMachineTextSaid : Prop := fnMachineTextRow.holds Try.pinned (OpenSpec.ofChange fnMachineTextSpec)

/-- ITS FALSE NEIGHBOUR: 'it returns false'. Refute it at one input. -/
def fnMachineTextWrong : ChangeSpec := { name := "fnMachineText", fn := fun _ => fun
  | [d1, d2] => { results := [.lit (.bool false)], args := [d1, d2] }
  | _ => none }
def FnMachineTextWrongFalsely : Prop := fnMachineTextRow.holds Try.pinned (OpenSpec.ofChange fnMachineTextWrong)

/- THE SECOND FORM. 'bulk': how many values and letters a reading holds, each counted each time it is reached (what is shared counts as often as it is met; a slice's spare places count too). A statement '..UptoSaid' is the law's where the arguments, and the package variables that the reading takes, are together of bulk at most 1048576: NARROWER than '..Said'. Prove '..Said' where nothing that the law and all that it calls make is longer than what came in: it says more and counts as full. Else prove '..UptoSaid'. A law counts once. -/
mutual
def uptoBulk {H : Type} : DataW H → Nat
  | .lit (.string bytes) => bytes.length + 1
  | .lit _ => 1
  | .nil => 1
  | .ptr d => uptoBulk d + 1
  | .slice elems spare => uptoBulkAll elems + uptoBulkAll spare + 1
  | .agg parts => uptoBulkAll parts + 1
  | .iface _ d => uptoBulk d + 1
  | .map entries => uptoBulkEntries entries + 1
  | .held _ => 1
def uptoBulkAll {H : Type} : List (DataW H) → Nat
  | [] => 0
  | d :: r => uptoBulk d + uptoBulkAll r
def uptoBulkEntries {H : Type} : List (Lit × DataW H) → Nat
  | [] => 0
  | x :: r => uptoBulkEntry x + uptoBulkEntries r
def uptoBulkEntry {H : Type} : Lit × DataW H → Nat
  | (.string bytes, d) => bytes.length + uptoBulk d + 1
  | (_, d) => uptoBulk d + 1
 end
def uptoSmall : (H : Type) → List (DataW H) → Bool := fun _ ds => decide (uptoBulkAll ds ≤ 1048576)
def OpenSpec.upto (s : _root_.Go.ChangeSpec) : _root_.Go.OpenSpec := { _root_.Go.OpenSpec.ofChange s with cond := some uptoSmall }

/-- 'laws.FnExactMachinePut', WHERE WHAT IT READS IS OF BULK AT MOST 1048576: true; the input reads as it did. -/
def fnExactMachinePutUptoRow : OpenClaim := { program := "ytfbkfhdlingedaa", sum := "01429b2399b29ebc2acb296a1bf9c31c24cfef9e15d0eb558bd8a489209e38ee", func := "loop.example/medlar/laws.FnExactMachinePut", spec := "fnExactMachinePut", apart := false, narrowed := true }
def FnExactMachinePutUptoSaid : Prop := fnExactMachinePutUptoRow.holds Try.pinned (OpenSpec.upto fnExactMachinePutSpec)

/-- 'laws.FnExactMachineAll', WHERE WHAT IT READS IS OF BULK AT MOST 1048576: true; the input reads as it did. -/
def fnExactMachineAllUptoRow : OpenClaim := { program := "ytfbkfhdlingedaa", sum := "01429b2399b29ebc2acb296a1bf9c31c24cfef9e15d0eb558bd8a489209e38ee", func := "loop.example/medlar/laws.FnExactMachineAll", spec := "fnExactMachineAll", recurses := true, apart := false, narrowed := true }
def FnExactMachineAllUptoSaid : Prop := fnExactMachineAllUptoRow.holds Try.pinned (OpenSpec.upto fnExactMachineAllSpec)

/-- 'laws.FnExactMachineGet', WHERE WHAT IT READS IS OF BULK AT MOST 1048576: true; the input reads as it did. -/
def fnExactMachineGetUptoRow : OpenClaim := { program := "ytfbkfhdlingedaa", sum := "01429b2399b29ebc2acb296a1bf9c31c24cfef9e15d0eb558bd8a489209e38ee", func := "loop.example/medlar/laws.FnExactMachineGet", spec := "fnExactMachineGet", apart := false, narrowed := true }
def FnExactMachineGetUptoSaid : Prop := fnExactMachineGetUptoRow.holds Try.pinned (OpenSpec.upto fnExactMachineGetSpec)

/-- 'laws.FnExactMachineBegins', WHERE WHAT IT READS IS OF BULK AT MOST 1048576: true; the input reads as it did. -/
def fnExactMachineBeginsUptoRow : OpenClaim := { program := "ytfbkfhdlingedaa", sum := "01429b2399b29ebc2acb296a1bf9c31c24cfef9e15d0eb558bd8a489209e38ee", func := "loop.example/medlar/laws.FnExactMachineBegins", spec := "fnExactMachineBegins", recurses := true, apart := false, narrowed := true }
def FnExactMachineBeginsUptoSaid : Prop := fnExactMachineBeginsUptoRow.holds Try.pinned (OpenSpec.upto fnExactMachineBeginsSpec)

/-- 'laws.FnMachineBegins', WHERE WHAT IT READS IS OF BULK AT MOST 1048576: true; the input reads as it did. -/
def fnMachineBeginsUptoRow : OpenClaim := { program := "ytfbkfhdlingedaa", sum := "01429b2399b29ebc2acb296a1bf9c31c24cfef9e15d0eb558bd8a489209e38ee", func := "loop.example/medlar/laws.FnMachineBegins", spec := "fnMachineBegins", recurses := true, apart := false, narrowed := true }
def FnMachineBeginsUptoSaid : Prop := fnMachineBeginsUptoRow.holds Try.pinned (OpenSpec.upto fnMachineBeginsSpec)

/-- 'laws.FnMachineText', WHERE WHAT IT READS IS OF BULK AT MOST 1048576: true; the input reads as it did. -/
def fnMachineTextUptoRow : OpenClaim := { program := "ytfbkfhdlingedaa", sum := "01429b2399b29ebc2acb296a1bf9c31c24cfef9e15d0eb558bd8a489209e38ee", func := "loop.example/medlar/laws.FnMachineText", spec := "fnMachineText", apart := false, narrowed := true }
def FnMachineTextUptoSaid : Prop := fnMachineTextUptoRow.holds Try.pinned (OpenSpec.upto fnMachineTextSpec)

end Rows
end Go.Proofs.Ytfbkfhdlingedaa
