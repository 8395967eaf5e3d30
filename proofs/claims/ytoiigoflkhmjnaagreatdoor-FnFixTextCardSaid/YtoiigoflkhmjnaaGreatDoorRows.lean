/-
  NARROWER THAN 'FOR EVERY INPUT', by the rows' own cells (each row's printed sentence says how): FnUserCheck: laid · FnExactUserCheck: laid · FnRanked: laid · FnFixText: laid.
  DERIVED. THE GIVEN ROWS OF THIS SEAT. 4 by the template 'for every input the law returns true; each argument reads behind the call as it read before'; 0 by the template 'total and deterministic' (their statements: YtoiigoflkhmjnaaGreatDoorTotals.lean).
  GIVEN WITH THE SEED: the statements are not yours to turn. If you find one false, say at which input.
  Laid BY PROGRAM, IN A SANDBOX (cutbox-rows.mjs): the forced cells as the released guide's own fill.sh prints them over the translation 4721eb80855abe79… (all of the seat's roots in one cut). By AI agents, Wed Nov 11 2026. No macro, syntax, notation, axiom, sorry.
-/
import Derived.Test.YtoiigoflkhmjnaaGreatDoorChecked
import GoSem.PinnedTables
import GoSem.Claim
import GoSem.ClaimJoined
import GoSem.ClaimMapViews
import Derived.JoinedTies
import Derived.KernelRfl
namespace Go.Proofs.YtoiigoflkhmjnaaGreatDoor
/- THE CELL 'sum', in the pinned program and in every row, IS THE sha256 OF THE DUMP (.gsa) THAT YtoiigoflkhmjnaaGreatDoorProg.lean LOADS. Nothing in Lean hashes anything: it is a label: what it is worth is what the hold of that sum in a sandbox is worth. -/
noncomputable def Tryz.pinned : Pinned := { name := "ytoiigoflkhmjnaagreatdoor", sum := "4721eb80855abe79365bc1b5fc570f09757136831d4951ca6c9e4d0ef25844c6", checked := Tryz.checked }
namespace Rows
def none {H : Type} : Left H := { results := [], args := [] }

/- WHAT THE LISTED PACKAGE-LEVEL VARIABLES READ AS WHEN THE CALL BEGINS. Each datum BY PROGRAM (the guide's laid-datum.mjs) off the statement by which the dump's own 'gosem.cut.vars' lays the variable. In a bare row this is a premise. The card (YtoiigoflkhmjnaaGreatDoorCards.lean) ties it to the program's text. -/
def laid_unicode_utf8_acceptRanges {H : Type} : DataW H := .agg [.agg [.lit (.int .u8 128), .lit (.int .u8 191)], .agg [.lit (.int .u8 160), .lit (.int .u8 191)], .agg [.lit (.int .u8 128), .lit (.int .u8 159)], .agg [.lit (.int .u8 144), .lit (.int .u8 191)], .agg [.lit (.int .u8 128), .lit (.int .u8 143)], .agg [.lit (.int .u8 0), .lit (.int .u8 0)], .agg [.lit (.int .u8 0), .lit (.int .u8 0)], .agg [.lit (.int .u8 0), .lit (.int .u8 0)], .agg [.lit (.int .u8 0), .lit (.int .u8 0)], .agg [.lit (.int .u8 0), .lit (.int .u8 0)], .agg [.lit (.int .u8 0), .lit (.int .u8 0)], .agg [.lit (.int .u8 0), .lit (.int .u8 0)], .agg [.lit (.int .u8 0), .lit (.int .u8 0)], .agg [.lit (.int .u8 0), .lit (.int .u8 0)], .agg [.lit (.int .u8 0), .lit (.int .u8 0)], .agg [.lit (.int .u8 0), .lit (.int .u8 0)]]
/-- One of Go's own tables, pinned by name: the form's constant. -/
def laid_unicode_CaseRanges : DataW Unit := Go.Pinned.caseRanges
/-- One of Go's own tables, pinned by name: the form's constant. -/
def laid_unicode_utf8_first : DataW Unit := Go.Pinned.utf8First
def laid_loop_example_medlar_impl_keyRows {H : Type} : DataW H := .slice [.lit (.string [113, 119, 101, 114, 116, 121, 117, 105, 111, 112]), .lit (.string [97, 115, 100, 102, 103, 104, 106, 107, 108]), .lit (.string [122, 120, 99, 118, 98, 110, 109])] []

/-- 'laws.FnUserCheck': WHATEVER THE INPUT: true; the input reads as it did. -/
def fnUserCheckSpec : ChangeSpec := { name := "fnUserCheck", fn := fun _ => fun
  | [d] => { results := [.lit (.bool true)], args := [d] }
  | _ => none }
def fnUserCheckRow : OpenClaim := { program := "ytoiigoflkhmjnaagreatdoor", sum := "4721eb80855abe79365bc1b5fc570f09757136831d4951ca6c9e4d0ef25844c6", func := "loop.example/medlar/laws.FnUserCheck", spec := "fnUserCheck", inPlace := ["internal/bytealg.IndexByteString", "internal/bytealg.IndexString", "internal/abi.NoEscape", "internal/bytealg.MakeNoZero"], unfollowed := true, recurses := true, named := ["internal/bytealg.MaxLen", "unicode/utf8.first", "unicode/utf8.acceptRanges", "unicode.CaseRanges"], apart := false, laid := [("unicode/utf8.acceptRanges", laid_unicode_utf8_acceptRanges), ("unicode.CaseRanges", laid_unicode_CaseRanges), ("unicode/utf8.first", laid_unicode_utf8_first)] }
def FnUserCheckSaid : Prop := fnUserCheckRow.holds Tryz.pinned (OpenSpec.ofChange fnUserCheckSpec)

/-- ITS FALSE NEIGHBOUR: 'it returns false'. Refute it at one input. -/
def fnUserCheckWrong : ChangeSpec := { name := "fnUserCheck", fn := fun _ => fun
  | [d] => { results := [.lit (.bool false)], args := [d] }
  | _ => none }
def FnUserCheckWrongFalsely : Prop := fnUserCheckRow.holds Tryz.pinned (OpenSpec.ofChange fnUserCheckWrong)

/-- 'laws.FnExactUserCheck': WHATEVER THE INPUT: true; the input reads as it did. -/
def fnExactUserCheckSpec : ChangeSpec := { name := "fnExactUserCheck", fn := fun _ => fun
  | [d1, d2, d3] => { results := [.lit (.bool true)], args := [d1, d2, d3] }
  | _ => none }
def fnExactUserCheckRow : OpenClaim := { program := "ytoiigoflkhmjnaagreatdoor", sum := "4721eb80855abe79365bc1b5fc570f09757136831d4951ca6c9e4d0ef25844c6", func := "loop.example/medlar/laws.FnExactUserCheck", spec := "fnExactUserCheck", inPlace := ["internal/bytealg.IndexByteString", "internal/bytealg.IndexString", "internal/abi.NoEscape", "internal/bytealg.MakeNoZero"], unfollowed := true, recurses := true, named := ["internal/bytealg.MaxLen", "unicode/utf8.first", "unicode/utf8.acceptRanges", "unicode.CaseRanges"], apart := false, laid := [("unicode/utf8.acceptRanges", laid_unicode_utf8_acceptRanges), ("unicode.CaseRanges", laid_unicode_CaseRanges), ("unicode/utf8.first", laid_unicode_utf8_first)] }
def FnExactUserCheckSaid : Prop := fnExactUserCheckRow.holds Tryz.pinned (OpenSpec.ofChange fnExactUserCheckSpec)

/-- ITS FALSE NEIGHBOUR: 'it returns false'. Refute it at one input. -/
def fnExactUserCheckWrong : ChangeSpec := { name := "fnExactUserCheck", fn := fun _ => fun
  | [d1, d2, d3] => { results := [.lit (.bool false)], args := [d1, d2, d3] }
  | _ => none }
def FnExactUserCheckWrongFalsely : Prop := fnExactUserCheckRow.holds Tryz.pinned (OpenSpec.ofChange fnExactUserCheckWrong)

/-- 'laws.FnRanked': WHATEVER THE INPUT: true; the input reads as it did. -/
def fnRankedSpec : ChangeSpec := { name := "fnRanked", vars := ["loop.example/medlar/impl.keyRows"], fn := fun _ => fun
  | [d, g1] => { results := [.lit (.bool true)], args := [d], vars := [g1] }
  | _ => none }
def fnRankedRow : OpenClaim := { program := "ytoiigoflkhmjnaagreatdoor", sum := "4721eb80855abe79365bc1b5fc570f09757136831d4951ca6c9e4d0ef25844c6", func := "loop.example/medlar/laws.FnRanked", spec := "fnRanked", inPlace := ["internal/bytealg.IndexByteString", "internal/bytealg.IndexString"], unfollowed := true, recurses := true, named := ["internal/bytealg.MaxLen", "loop.example/medlar/impl.keyRows"], apart := false, laid := [("loop.example/medlar/impl.keyRows", laid_loop_example_medlar_impl_keyRows)] }
def FnRankedSaid : Prop := fnRankedRow.holds Tryz.pinned (OpenSpec.ofChange fnRankedSpec)

/-- ITS FALSE NEIGHBOUR: 'it returns false'. Refute it at one input. -/
def fnRankedWrong : ChangeSpec := { name := "fnRanked", vars := ["loop.example/medlar/impl.keyRows"], fn := fun _ => fun
  | [d, g1] => { results := [.lit (.bool false)], args := [d], vars := [g1] }
  | _ => none }
def FnRankedWrongFalsely : Prop := fnRankedRow.holds Tryz.pinned (OpenSpec.ofChange fnRankedWrong)

/-- 'laws.FnFixText': WHATEVER THE INPUT: true; the input reads as it did. -/
def fnFixTextSpec : ChangeSpec := { name := "fnFixText", fn := fun _ => fun
  | [d] => { results := [.lit (.bool true)], args := [d] }
  | _ => none }
def fnFixTextRow : OpenClaim := { program := "ytoiigoflkhmjnaagreatdoor", sum := "4721eb80855abe79365bc1b5fc570f09757136831d4951ca6c9e4d0ef25844c6", func := "loop.example/medlar/laws.FnFixText", spec := "fnFixText", inPlace := ["internal/bytealg.IndexByteString", "internal/bytealg.IndexString", "internal/abi.NoEscape", "internal/bytealg.MakeNoZero"], unfollowed := true, recurses := true, named := ["internal/bytealg.MaxLen", "unicode/utf8.first", "unicode/utf8.acceptRanges", "unicode.CaseRanges"], apart := false, laid := [("unicode/utf8.acceptRanges", laid_unicode_utf8_acceptRanges), ("unicode.CaseRanges", laid_unicode_CaseRanges), ("unicode/utf8.first", laid_unicode_utf8_first)] }
def FnFixTextSaid : Prop := fnFixTextRow.holds Tryz.pinned (OpenSpec.ofChange fnFixTextSpec)

/-- ITS FALSE NEIGHBOUR: 'it returns false'. Refute it at one input. -/
def fnFixTextWrong : ChangeSpec := { name := "fnFixText", fn := fun _ => fun
  | [d] => { results := [.lit (.bool false)], args := [d] }
  | _ => none }
def FnFixTextWrongFalsely : Prop := fnFixTextRow.holds Tryz.pinned (OpenSpec.ofChange fnFixTextWrong)

/- THE SECOND FORM. 'bulk': how many values and letters a reading holds, each counted each time it is reached (what is shared counts as often as it is met; a slice's spare places count too). A statement '..UptoSaid' is the law's where the arguments, and the package variables that the reading takes, are together of bulk at most 1048576: NARROWER than '..Said'. Prove '..Said' where nothing that the law and all that it calls make is longer than what came in: it says more and counts as full. Else prove '..UptoSaid'. A law counts once. -/
mutual
def uptoBulk {H : Type} : DataW H → Nat
  | .lit (.string bytes) => bytes.length + 1
  | .lit _ => 1
  | .nil => 1
  | .ptr d => uptoBulk d + 1
  | .slice elems spare => uptoBulkAll elems + uptoBulkAll spare + 1
  | .agg parts => uptoBulkAll parts + 1
  | .iface _ d => uptoBulk d + 1
  | .map entries => uptoBulkEntries entries + 1
  | .held _ => 1
def uptoBulkAll {H : Type} : List (DataW H) → Nat
  | [] => 0
  | d :: r => uptoBulk d + uptoBulkAll r
def uptoBulkEntries {H : Type} : List (Lit × DataW H) → Nat
  | [] => 0
  | x :: r => uptoBulkEntry x + uptoBulkEntries r
def uptoBulkEntry {H : Type} : Lit × DataW H → Nat
  | (.string bytes, d) => bytes.length + uptoBulk d + 1
  | (_, d) => uptoBulk d + 1
 end
def uptoSmall : (H : Type) → List (DataW H) → Bool := fun _ ds => decide (uptoBulkAll ds ≤ 1048576)
def OpenSpec.upto (s : _root_.Go.ChangeSpec) : _root_.Go.OpenSpec := { _root_.Go.OpenSpec.ofChange s with cond := some uptoSmall }

/-- 'laws.FnUserCheck', WHERE WHAT IT READS IS OF BULK AT MOST 1048576: true; the input reads as it did. -/
def fnUserCheckUptoRow : OpenClaim := { program := "ytoiigoflkhmjnaagreatdoor", sum := "4721eb80855abe79365bc1b5fc570f09757136831d4951ca6c9e4d0ef25844c6", func := "loop.example/medlar/laws.FnUserCheck", spec := "fnUserCheck", inPlace := ["internal/bytealg.IndexByteString", "internal/bytealg.IndexString", "internal/abi.NoEscape", "internal/bytealg.MakeNoZero"], unfollowed := true, recurses := true, named := ["internal/bytealg.MaxLen", "unicode/utf8.first", "unicode/utf8.acceptRanges", "unicode.CaseRanges"], apart := false, laid := [("unicode/utf8.acceptRanges", laid_unicode_utf8_acceptRanges), ("unicode.CaseRanges", laid_unicode_CaseRanges), ("unicode/utf8.first", laid_unicode_utf8_first)], narrowed := true }
def FnUserCheckUptoSaid : Prop := fnUserCheckUptoRow.holds Tryz.pinned (OpenSpec.upto fnUserCheckSpec)

/-- 'laws.FnExactUserCheck', WHERE WHAT IT READS IS OF BULK AT MOST 1048576: true; the input reads as it did. -/
def fnExactUserCheckUptoRow : OpenClaim := { program := "ytoiigoflkhmjnaagreatdoor", sum := "4721eb80855abe79365bc1b5fc570f09757136831d4951ca6c9e4d0ef25844c6", func := "loop.example/medlar/laws.FnExactUserCheck", spec := "fnExactUserCheck", inPlace := ["internal/bytealg.IndexByteString", "internal/bytealg.IndexString", "internal/abi.NoEscape", "internal/bytealg.MakeNoZero"], unfollowed := true, recurses := true, named := ["internal/bytealg.MaxLen", "unicode/utf8.first", "unicode/utf8.acceptRanges", "unicode.CaseRanges"], apart := false, laid := [("unicode/utf8.acceptRanges", laid_unicode_utf8_acceptRanges), ("unicode.CaseRanges", laid_unicode_CaseRanges), ("unicode/utf8.first", laid_unicode_utf8_first)], narrowed := true }
def FnExactUserCheckUptoSaid : Prop := fnExactUserCheckUptoRow.holds Tryz.pinned (OpenSpec.upto fnExactUserCheckSpec)

/-- 'laws.FnRanked', WHERE WHAT IT READS IS OF BULK AT MOST 1048576: true; the input reads as it did. -/
def fnRankedUptoRow : OpenClaim := { program := "ytoiigoflkhmjnaagreatdoor", sum := "4721eb80855abe79365bc1b5fc570f09757136831d4951ca6c9e4d0ef25844c6", func := "loop.example/medlar/laws.FnRanked", spec := "fnRanked", inPlace := ["internal/bytealg.IndexByteString", "internal/bytealg.IndexString"], unfollowed := true, recurses := true, named := ["internal/bytealg.MaxLen", "loop.example/medlar/impl.keyRows"], apart := false, laid := [("loop.example/medlar/impl.keyRows", laid_loop_example_medlar_impl_keyRows)], narrowed := true }
def FnRankedUptoSaid : Prop := fnRankedUptoRow.holds Tryz.pinned (OpenSpec.upto fnRankedSpec)

/-- 'laws.FnFixText', WHERE WHAT IT READS IS OF BULK AT MOST 1048576: true; the input reads as it did. -/
def fnFixTextUptoRow : OpenClaim := { program := "ytoiigoflkhmjnaagreatdoor", sum := "4721eb80855abe79365bc1b5fc570f09757136831d4951ca6c9e4d0ef25844c6", func := "loop.example/medlar/laws.FnFixText", spec := "fnFixText", inPlace := ["internal/bytealg.IndexByteString", "internal/bytealg.IndexString", "internal/abi.NoEscape", "internal/bytealg.MakeNoZero"], unfollowed := true, recurses := true, named := ["internal/bytealg.MaxLen", "unicode/utf8.first", "unicode/utf8.acceptRanges", "unicode.CaseRanges"], apart := false, laid := [("unicode/utf8.acceptRanges", laid_unicode_utf8_acceptRanges), ("unicode.CaseRanges", laid_unicode_CaseRanges), ("unicode/utf8.first", laid_unicode_utf8_first)], narrowed := true }
def FnFixTextUptoSaid : Prop := fnFixTextUptoRow.holds Tryz.pinned (OpenSpec.upto fnFixTextSpec)

end Rows
end Go.Proofs.YtoiigoflkhmjnaaGreatDoor
