/-
  No cell of these rows narrows 'for every input' (looked for: loops, veiled, ifaces, maps, wideKeys, modest, calm, conditions, laid).
  DERIVED. THE GIVEN ROWS OF THIS SEAT. 3 by the template 'for every input the law returns true; each argument reads behind the call as it read before'; 0 by the template 'total and deterministic' (their statements: YtpnbhcifhbnaaaaTotals.lean).
  GIVEN WITH THE SEED: the statements are not yours to turn. If you find one false, say at which input.
  Laid BY PROGRAM, IN A SANDBOX (cutbox-rows.mjs): the forced cells as the released guide's own fill.sh prints them over the translation 9b0e205e442a5da5… (all of the seat's roots in one cut). By AI agents, Wed Nov 11 2026. No macro, syntax, notation, axiom, sorry.
-/
import Derived.Test.YtpnbhcifhbnaaaaChecked
import GoSem.Claim
import GoSem.ClaimJoined
import GoSem.ClaimMapViews
import Derived.JoinedTies
import Derived.KernelRfl
namespace Go.Proofs.Ytpnbhcifhbnaaaa
/- THE CELL 'sum', in the pinned program and in every row, IS THE sha256 OF THE DUMP (.gsa) THAT YtpnbhcifhbnaaaaProg.lean LOADS. Nothing in Lean hashes anything: it is a label: what it is worth is what the hold of that sum in a sandbox is worth. -/
noncomputable def Try.pinned : Pinned := { name := "ytpnbhcifhbnaaaa", sum := "9b0e205e442a5da5e1a5b88aeaff03cc98ab8fd1f11f51cd0c0473bba48e0236", checked := Try.checked }
namespace Rows
def none {H : Type} : Left H := { results := [], args := [] }

/-- 'laws.FnExactUserAdd': WHATEVER THE INPUT: true; the input reads as it did. -/
def fnExactUserAddSpec : ChangeSpec := { name := "fnExactUserAdd", fn := fun _ => fun
  | [d1, d2] => { results := [.lit (.bool true)], args := [d1, d2] }
  | _ => none }
def fnExactUserAddRow : OpenClaim := { program := "ytpnbhcifhbnaaaa", sum := "9b0e205e442a5da5e1a5b88aeaff03cc98ab8fd1f11f51cd0c0473bba48e0236", func := "loop.example/medlar/laws.FnExactUserAdd", spec := "fnExactUserAdd", recurses := true, apart := false }
def FnExactUserAddSaid : Prop := fnExactUserAddRow.holds Try.pinned (OpenSpec.ofChange fnExactUserAddSpec)

/-- ITS FALSE NEIGHBOUR: 'it returns false'. Refute it at one input. -/
def fnExactUserAddWrong : ChangeSpec := { name := "fnExactUserAdd", fn := fun _ => fun
  | [d1, d2] => { results := [.lit (.bool false)], args := [d1, d2] }
  | _ => none }
def FnExactUserAddWrongFalsely : Prop := fnExactUserAddRow.holds Try.pinned (OpenSpec.ofChange fnExactUserAddWrong)

/-- 'laws.FnUser': WHATEVER THE INPUT: true; the input reads as it did. -/
def fnUserSpec : ChangeSpec := { name := "fnUser", fn := fun _ => fun
  | [d] => { results := [.lit (.bool true)], args := [d] }
  | _ => none }
def fnUserRow : OpenClaim := { program := "ytpnbhcifhbnaaaa", sum := "9b0e205e442a5da5e1a5b88aeaff03cc98ab8fd1f11f51cd0c0473bba48e0236", func := "loop.example/medlar/laws.FnUser", spec := "fnUser", recurses := true, apart := false }
def FnUserSaid : Prop := fnUserRow.holds Try.pinned (OpenSpec.ofChange fnUserSpec)

/-- ITS FALSE NEIGHBOUR: 'it returns false'. Refute it at one input. -/
def fnUserWrong : ChangeSpec := { name := "fnUser", fn := fun _ => fun
  | [d] => { results := [.lit (.bool false)], args := [d] }
  | _ => none }
def FnUserWrongFalsely : Prop := fnUserRow.holds Try.pinned (OpenSpec.ofChange fnUserWrong)

/-- 'laws.FnUserDrop': WHATEVER THE INPUT: true; the input reads as it did. -/
def fnUserDropSpec : ChangeSpec := { name := "fnUserDrop", fn := fun _ => fun
  | [d] => { results := [.lit (.bool true)], args := [d] }
  | _ => none }
def fnUserDropRow : OpenClaim := { program := "ytpnbhcifhbnaaaa", sum := "9b0e205e442a5da5e1a5b88aeaff03cc98ab8fd1f11f51cd0c0473bba48e0236", func := "loop.example/medlar/laws.FnUserDrop", spec := "fnUserDrop", recurses := true, apart := false }
def FnUserDropSaid : Prop := fnUserDropRow.holds Try.pinned (OpenSpec.ofChange fnUserDropSpec)

/-- ITS FALSE NEIGHBOUR: 'it returns false'. Refute it at one input. -/
def fnUserDropWrong : ChangeSpec := { name := "fnUserDrop", fn := fun _ => fun
  | [d] => { results := [.lit (.bool false)], args := [d] }
  | _ => none }
def FnUserDropWrongFalsely : Prop := fnUserDropRow.holds Try.pinned (OpenSpec.ofChange fnUserDropWrong)

/- THE SECOND FORM. 'bulk': how many values and letters a reading holds, each counted each time it is reached (what is shared counts as often as it is met; a slice's spare places count too). A statement '..UptoSaid' is the law's where the arguments, and the package variables that the reading takes, are together of bulk at most 1048576: NARROWER than '..Said'. Prove '..Said' where nothing that the law and all that it calls make is longer than what came in: it says more and counts as full. Else prove '..UptoSaid'. A law counts once. -/
mutual
def uptoBulk {H : Type} : DataW H → Nat
  | .lit (.string bytes) => bytes.length + 1
  | .lit _ => 1
  | .nil => 1
  | .ptr d => uptoBulk d + 1
  | .slice elems spare => uptoBulkAll elems + uptoBulkAll spare + 1
  | .agg parts => uptoBulkAll parts + 1
  | .iface _ d => uptoBulk d + 1
  | .map entries => uptoBulkEntries entries + 1
  | .held _ => 1
def uptoBulkAll {H : Type} : List (DataW H) → Nat
  | [] => 0
  | d :: r => uptoBulk d + uptoBulkAll r
def uptoBulkEntries {H : Type} : List (Lit × DataW H) → Nat
  | [] => 0
  | x :: r => uptoBulkEntry x + uptoBulkEntries r
def uptoBulkEntry {H : Type} : Lit × DataW H → Nat
  | (.string bytes, d) => bytes.length + uptoBulk d + 1
  | (_, d) => uptoBulk d + 1
 end
def uptoSmall : (H : Type) → List (DataW H) → Bool := fun _ ds => decide (uptoBulkAll ds ≤ 1048576)
def OpenSpec.upto (s : _root_.Go.ChangeSpec) : _root_.Go.OpenSpec := { _root_.Go.OpenSpec.ofChange s with cond := some uptoSmall }

/-- 'laws.FnExactUserAdd', WHERE WHAT IT READS IS OF BULK AT MOST 1048576: true; the input reads as it did. -/
def fnExactUserAddUptoRow : OpenClaim := { program := "ytpnbhcifhbnaaaa", sum := "9b0e205e442a5da5e1a5b88aeaff03cc98ab8fd1f11f51cd0c0473bba48e0236", func := "loop.example/medlar/laws.FnExactUserAdd", spec := "fnExactUserAdd", recurses := true, apart := false, narrowed := true }
def FnExactUserAddUptoSaid : Prop := fnExactUserAddUptoRow.holds Try.pinned (OpenSpec.upto fnExactUserAddSpec)

/-- 'laws.FnUser', WHERE WHAT IT READS IS OF BULK AT MOST 1048576: true; the input reads as it did. -/
def fnUserUptoRow : OpenClaim := { program := "ytpnbhcifhbnaaaa", sum := "9b0e205e442a5da5e1a5b88aeaff03cc98ab8fd1f11f51cd0c0473bba48e0236", func := "loop.example/medlar/laws.FnUser", spec := "fnUser", recurses := true, apart := false, narrowed := true }
def FnUserUptoSaid : Prop := fnUserUptoRow.holds Try.pinned (OpenSpec.upto fnUserSpec)

/-- 'laws.FnUserDrop', WHERE WHAT IT READS IS OF BULK AT MOST 1048576: true; the input reads as it did. -/
def fnUserDropUptoRow : OpenClaim := { program := "ytpnbhcifhbnaaaa", sum := "9b0e205e442a5da5e1a5b88aeaff03cc98ab8fd1f11f51cd0c0473bba48e0236", func := "loop.example/medlar/laws.FnUserDrop", spec := "fnUserDrop", recurses := true, apart := false, narrowed := true }
def FnUserDropUptoSaid : Prop := fnUserDropUptoRow.holds Try.pinned (OpenSpec.upto fnUserDropSpec)

end Rows
end Go.Proofs.Ytpnbhcifhbnaaaa
