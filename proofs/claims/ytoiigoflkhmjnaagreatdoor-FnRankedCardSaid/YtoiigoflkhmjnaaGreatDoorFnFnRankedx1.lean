/- What each function that the law FnRanked reaches computes, as trees, part 1: no conditions. -/
import Derived.Test.YtoiigoflkhmjnaaGreatDoorLib124
import Derived.Test.YtoiigoflkhmjnaaGreatDoorProg
import Derived.BigCall
import Derived.Deep.RegionHeld3
import Derived.Lib.Small
import Derived.Lib.Walk
import Derived.Shelf.SlSortCmp.NoneTotal
import Derived.WalkKit
set_option maxRecDepth 100000
set_option linter.unusedVariables false
namespace Go.Proofs.YtoiigoflkhmjnaaGreatDoor.FnRanked
open Go Go.Proofs.YtoiigoflkhmjnaaGreatDoorAm
theorem mix : Tryz.prog.follows .mixedOrders = true := by kernel_rfl
def keyRowsP : PV := strsP [ByteArray.mk #[113, 119, 101, 114, 116, 121, 117, 105, 111, 112], ByteArray.mk #[97, 115, 100, 102, 103, 104, 106, 107, 108], ByteArray.mk #[122, 120, 99, 118, 98, 110, 109]]
noncomputable instance glb : Glb Tryz.prog := glbOf Tryz.prog [(0, 27, keyRowsP)] [(2, someI64)]

/-! ### spec_l1Open: function 35, loop.example/medlar/spec.l1Open -/
noncomputable def spec_l1Open.E (N : Nat) : Env := ⟨lk [], nzk [], N, [], false⟩
noncomputable def spec_l1Open.f (N : Nat) (a : List PV) : Option Res := run Tryz.prog (spec_l1Open.E N) Tryz.f35 [(22, .ro)] [(57, .box)] a
theorem spec_l1Open.f_eq (N : Nat) (a0 : PV) : spec_l1Open.f N [a0] = if decide (2000 < (a0.items.length : Int)) = true then (if 0 ≤ 2000 then (if 2000 ≤ (a0.items.length : Int) then (some [(PV.agg [(PV.list ((a0.items.drop 0).take (2000 - 0))), (PV.sc (.int .i64 0))])]) else none) else none) else (some [(PV.agg [a0, (PV.sc (.int .i64 0))])]) := by kernel_rfl
noncomputable def spec_l1Open.S (N : Nat) : ASpec := ⟨[(22, .ro)], [(57, .box)], spec_l1Open.f N⟩
theorem spec_l1Open.ok (N : Nat) : FnOk Tryz.prog 35 (spec_l1Open.S N) := fnOk_of (E := spec_l1Open.E N) mix Tryz.func35 (by kernel_rfl) (by kernel_rfl) (by kernel_rfl) (lk_ok all_nil) (by kernel_rfl) (fun _ _ h => h)

/-! ### spec_l1Rd_pick: function 70, (*loop.example/medlar/spec.l1Rd).pick -/
noncomputable def spec_l1Rd_pick.E (N : Nat) : Env := ⟨lk [], nzk [], N, [(true, 95)], false⟩
noncomputable def spec_l1Rd_pick.f (N : Nat) (a : List PV) : Option Res := run Tryz.prog (spec_l1Rd_pick.E N) Tryz.f70 [(57, .box), (3, .ro)] [(3, .val)] a
theorem spec_l1Rd_pick.f_eq (N : Nat) (a0 : PV) (a1 : PV) : spec_l1Rd_pick.f N [a0, a1] = if decide (a1.toInt < 1) = false then (if decide ((((a0.fld 0).items).length : Int) = 0) = true then (some [(PV.sc (.int .i64 0)), (PV.agg [a0.fld 0, (PV.sc (.int .i64 (IntKind.i64.wrap (((a0.fld 1).toInt) + 1))))])]) else (if decide ((IntKind.i64.wrap ((IntKind.i64.wrap (((a0.fld 1).toInt) + 1)) - 1)) < (((a0.fld 0).items).length : Int)) = true then (if 0 ≤ (IntKind.i64.wrap ((IntKind.i64.wrap (((a0.fld 1).toInt) + 1)) - 1)) then (if (IntKind.i64.wrap ((IntKind.i64.wrap (((a0.fld 1).toInt) + 1)) - 1)) < (((a0.fld 0).items).length : Int) then (if a1.toInt = 0 then none else (some [(PV.sc (.int .i64 (Int.tmod (IntKind.i64.wrap (((a0.fld 0).elem ((IntKind.i64.wrap ((IntKind.i64.wrap (((a0.fld 1).toInt) + 1)) - 1)).toNat)).toInt)) a1.toInt))), (PV.agg [a0.fld 0, (PV.sc (.int .i64 (IntKind.i64.wrap (((a0.fld 1).toInt) + 1))))])])) else none) else none) else (if (((a0.fld 0).items).length : Int) = 0 then none else (if 0 ≤ (Int.tmod (IntKind.i64.wrap ((IntKind.i64.wrap (((a0.fld 1).toInt) + 1)) - 1)) (((a0.fld 0).items).length : Int)) then (if (Int.tmod (IntKind.i64.wrap ((IntKind.i64.wrap (((a0.fld 1).toInt) + 1)) - 1)) (((a0.fld 0).items).length : Int)) < (((a0.fld 0).items).length : Int) then (if (((a0.fld 0).items).length : Int) = 0 then none else (if 0 ≤ (Int.tmod (IntKind.i64.wrap ((IntKind.i64.wrap ((IntKind.i64.wrap ((IntKind.i64.wrap (((a0.fld 1).toInt) + 1)) - 1)) * 7)) + 3)) (((a0.fld 0).items).length : Int)) then (if (Int.tmod (IntKind.i64.wrap ((IntKind.i64.wrap ((IntKind.i64.wrap ((IntKind.i64.wrap (((a0.fld 1).toInt) + 1)) - 1)) * 7)) + 3)) (((a0.fld 0).items).length : Int)) < (((a0.fld 0).items).length : Int) then (if (((a0.fld 0).items).length : Int) = 0 then none else (if 64 = 0 then none else (if a1.toInt = 0 then none else (some [(PV.sc (.int .i64 (Int.tmod (bXor .i64 (IntKind.i64.wrap ((IntKind.i64.wrap ((IntKind.i64.wrap ((IntKind.i64.wrap ((IntKind.i64.wrap (((a0.fld 0).elem ((Int.tmod (IntKind.i64.wrap ((IntKind.i64.wrap (((a0.fld 1).toInt) + 1)) - 1)) (((a0.fld 0).items).length : Int)).toNat)).toInt)) * 131)) + (IntKind.i64.wrap ((IntKind.i64.wrap (((a0.fld 0).elem ((Int.tmod (IntKind.i64.wrap ((IntKind.i64.wrap ((IntKind.i64.wrap ((IntKind.i64.wrap (((a0.fld 1).toInt) + 1)) - 1)) * 7)) + 3)) (((a0.fld 0).items).length : Int)).toNat)).toInt)) * 1117)))) + (IntKind.i64.wrap ((IntKind.i64.wrap ((IntKind.i64.wrap (((a0.fld 1).toInt) + 1)) - 1)) * 29)))) + (IntKind.i64.wrap ((IntKind.i64.wrap (Int.tdiv (IntKind.i64.wrap ((IntKind.i64.wrap (((a0.fld 1).toInt) + 1)) - 1)) (((a0.fld 0).items).length : Int))) * 53)))) (IntKind.i64.wrap (Int.tdiv (IntKind.i64.wrap ((IntKind.i64.wrap ((IntKind.i64.wrap ((IntKind.i64.wrap ((IntKind.i64.wrap (((a0.fld 0).elem ((Int.tmod (IntKind.i64.wrap ((IntKind.i64.wrap (((a0.fld 1).toInt) + 1)) - 1)) (((a0.fld 0).items).length : Int)).toNat)).toInt)) * 131)) + (IntKind.i64.wrap ((IntKind.i64.wrap (((a0.fld 0).elem ((Int.tmod (IntKind.i64.wrap ((IntKind.i64.wrap ((IntKind.i64.wrap ((IntKind.i64.wrap (((a0.fld 1).toInt) + 1)) - 1)) * 7)) + 3)) (((a0.fld 0).items).length : Int)).toNat)).toInt)) * 1117)))) + (IntKind.i64.wrap ((IntKind.i64.wrap ((IntKind.i64.wrap (((a0.fld 1).toInt) + 1)) - 1)) * 29)))) + (IntKind.i64.wrap ((IntKind.i64.wrap (Int.tdiv (IntKind.i64.wrap ((IntKind.i64.wrap (((a0.fld 1).toInt) + 1)) - 1)) (((a0.fld 0).items).length : Int))) * 53)))) 64))) a1.toInt))), (PV.agg [a0.fld 0, (PV.sc (.int .i64 (IntKind.i64.wrap (((a0.fld 1).toInt) + 1))))])])))) else none) else none)) else none) else none)))) else (some [(PV.sc (.int .i64 0)), (PV.agg [a0.fld 0, (PV.sc (.int .i64 (IntKind.i64.wrap (((a0.fld 1).toInt) + 1))))])]) := by kernel_rfl
noncomputable def spec_l1Rd_pick.S (N : Nat) : ASpec := ⟨[(57, .box), (3, .ro)], [(3, .val)], spec_l1Rd_pick.f N⟩
theorem spec_l1Rd_pick.ok (N : Nat) : FnOk Tryz.prog 70 (spec_l1Rd_pick.S N) := fnOk_of (E := spec_l1Rd_pick.E N) mix Tryz.func70 (by kernel_rfl) (by kernel_rfl) (by kernel_rfl) (lk_ok all_nil) (by kernel_rfl) (fun _ _ h => h)

/-! ### spec_l13Affix: function 160, loop.example/medlar/spec.l13Affix -/
noncomputable def spec_l13Affix.E (N : Nat) : Env := ⟨lk [(70, spec_l1Rd_pick.S N)], nzk [], N, [(true, 95)], false⟩
noncomputable def spec_l13Affix.f (N : Nat) (a : List PV) : Option Res := run Tryz.prog (spec_l13Affix.E N) Tryz.f160 [(57, .box)] [(121, .val)] a
theorem spec_l13Affix.f_eq (N : Nat) (a0 : PV) : spec_l13Affix.f N [a0] = (spec_l1Rd_pick.f N [(PV.agg [a0.fld 0, (PV.sc (.int .i64 ((a0.fld 1).toInt)))]), (PV.sc (.int .i64 (([(PV.agg [(PV.sc (.string (ByteArray.mk #[83]))), (PV.sc (.bool false)), (PV.sc (.string (ByteArray.mk #[]))), (PV.sc (.string (ByteArray.mk #[115]))), (PV.sc (.string (ByteArray.mk #[])))]), (PV.agg [(PV.sc (.string (ByteArray.mk #[83]))), (PV.sc (.bool false)), (PV.sc (.string (ByteArray.mk #[121]))), (PV.sc (.string (ByteArray.mk #[105, 101, 115]))), (PV.sc (.string (ByteArray.mk #[121])))]), (PV.agg [(PV.sc (.string (ByteArray.mk #[71]))), (PV.sc (.bool false)), (PV.sc (.string (ByteArray.mk #[]))), (PV.sc (.string (ByteArray.mk #[105, 110, 103]))), (PV.sc (.string (ByteArray.mk #[])))]), (PV.agg [(PV.sc (.string (ByteArray.mk #[71]))), (PV.sc (.bool false)), (PV.sc (.string (ByteArray.mk #[101]))), (PV.sc (.string (ByteArray.mk #[105, 110, 103]))), (PV.sc (.string (ByteArray.mk #[101])))]), (PV.agg [(PV.sc (.string (ByteArray.mk #[85]))), (PV.sc (.bool true)), (PV.sc (.string (ByteArray.mk #[]))), (PV.sc (.string (ByteArray.mk #[117, 110]))), (PV.sc (.string (ByteArray.mk #[])))]), (PV.agg [(PV.sc (.string (ByteArray.mk #[82]))), (PV.sc (.bool true)), (PV.sc (.string (ByteArray.mk #[97]))), (PV.sc (.string (ByteArray.mk #[98]))), (PV.sc (.string (ByteArray.mk #[97])))]), (PV.agg [(PV.sc (.string (ByteArray.mk #[84]))), (PV.sc (.bool false)), (PV.sc (.string (ByteArray.mk #[]))), (PV.sc (.string (ByteArray.mk #[116]))), (PV.sc (.string (ByteArray.mk #[97, 99])))]), (PV.agg [(PV.sc (.string (ByteArray.mk #[67]))), (PV.sc (.bool false)), (PV.sc (.string (ByteArray.mk #[]))), (PV.sc (.string (ByteArray.mk #[97, 98, 99]))), (PV.sc (.string (ByteArray.mk #[])))])]).length : Int)))]).bind fun t1 => if 0 ≤ ((t1.headD default).toInt) then (if ((t1.headD default).toInt) < (([(PV.agg [(PV.sc (.string (ByteArray.mk #[83]))), (PV.sc (.bool false)), (PV.sc (.string (ByteArray.mk #[]))), (PV.sc (.string (ByteArray.mk #[115]))), (PV.sc (.string (ByteArray.mk #[])))]), (PV.agg [(PV.sc (.string (ByteArray.mk #[83]))), (PV.sc (.bool false)), (PV.sc (.string (ByteArray.mk #[121]))), (PV.sc (.string (ByteArray.mk #[105, 101, 115]))), (PV.sc (.string (ByteArray.mk #[121])))]), (PV.agg [(PV.sc (.string (ByteArray.mk #[71]))), (PV.sc (.bool false)), (PV.sc (.string (ByteArray.mk #[]))), (PV.sc (.string (ByteArray.mk #[105, 110, 103]))), (PV.sc (.string (ByteArray.mk #[])))]), (PV.agg [(PV.sc (.string (ByteArray.mk #[71]))), (PV.sc (.bool false)), (PV.sc (.string (ByteArray.mk #[101]))), (PV.sc (.string (ByteArray.mk #[105, 110, 103]))), (PV.sc (.string (ByteArray.mk #[101])))]), (PV.agg [(PV.sc (.string (ByteArray.mk #[85]))), (PV.sc (.bool true)), (PV.sc (.string (ByteArray.mk #[]))), (PV.sc (.string (ByteArray.mk #[117, 110]))), (PV.sc (.string (ByteArray.mk #[])))]), (PV.agg [(PV.sc (.string (ByteArray.mk #[82]))), (PV.sc (.bool true)), (PV.sc (.string (ByteArray.mk #[97]))), (PV.sc (.string (ByteArray.mk #[98]))), (PV.sc (.string (ByteArray.mk #[97])))]), (PV.agg [(PV.sc (.string (ByteArray.mk #[84]))), (PV.sc (.bool false)), (PV.sc (.string (ByteArray.mk #[]))), (PV.sc (.string (ByteArray.mk #[116]))), (PV.sc (.string (ByteArray.mk #[97, 99])))]), (PV.agg [(PV.sc (.string (ByteArray.mk #[67]))), (PV.sc (.bool false)), (PV.sc (.string (ByteArray.mk #[]))), (PV.sc (.string (ByteArray.mk #[97, 98, 99]))), (PV.sc (.string (ByteArray.mk #[])))])]).length : Int) then (some [(PV.agg [(PV.sc (.string ((((PV.list ([(PV.agg [(PV.sc (.string (ByteArray.mk #[83]))), (PV.sc (.bool false)), (PV.sc (.string (ByteArray.mk #[]))), (PV.sc (.string (ByteArray.mk #[115]))), (PV.sc (.string (ByteArray.mk #[])))]), (PV.agg [(PV.sc (.string (ByteArray.mk #[83]))), (PV.sc (.bool false)), (PV.sc (.string (ByteArray.mk #[121]))), (PV.sc (.string (ByteArray.mk #[105, 101, 115]))), (PV.sc (.string (ByteArray.mk #[121])))]), (PV.agg [(PV.sc (.string (ByteArray.mk #[71]))), (PV.sc (.bool false)), (PV.sc (.string (ByteArray.mk #[]))), (PV.sc (.string (ByteArray.mk #[105, 110, 103]))), (PV.sc (.string (ByteArray.mk #[])))]), (PV.agg [(PV.sc (.string (ByteArray.mk #[71]))), (PV.sc (.bool false)), (PV.sc (.string (ByteArray.mk #[101]))), (PV.sc (.string (ByteArray.mk #[105, 110, 103]))), (PV.sc (.string (ByteArray.mk #[101])))]), (PV.agg [(PV.sc (.string (ByteArray.mk #[85]))), (PV.sc (.bool true)), (PV.sc (.string (ByteArray.mk #[]))), (PV.sc (.string (ByteArray.mk #[117, 110]))), (PV.sc (.string (ByteArray.mk #[])))]), (PV.agg [(PV.sc (.string (ByteArray.mk #[82]))), (PV.sc (.bool true)), (PV.sc (.string (ByteArray.mk #[97]))), (PV.sc (.string (ByteArray.mk #[98]))), (PV.sc (.string (ByteArray.mk #[97])))]), (PV.agg [(PV.sc (.string (ByteArray.mk #[84]))), (PV.sc (.bool false)), (PV.sc (.string (ByteArray.mk #[]))), (PV.sc (.string (ByteArray.mk #[116]))), (PV.sc (.string (ByteArray.mk #[97, 99])))]), (PV.agg [(PV.sc (.string (ByteArray.mk #[67]))), (PV.sc (.bool false)), (PV.sc (.string (ByteArray.mk #[]))), (PV.sc (.string (ByteArray.mk #[97, 98, 99]))), (PV.sc (.string (ByteArray.mk #[])))])])).elem (((t1.headD default).toInt).toNat)).fld 0).toStr))), (PV.sc (.bool ((((PV.list ([(PV.agg [(PV.sc (.string (ByteArray.mk #[83]))), (PV.sc (.bool false)), (PV.sc (.string (ByteArray.mk #[]))), (PV.sc (.string (ByteArray.mk #[115]))), (PV.sc (.string (ByteArray.mk #[])))]), (PV.agg [(PV.sc (.string (ByteArray.mk #[83]))), (PV.sc (.bool false)), (PV.sc (.string (ByteArray.mk #[121]))), (PV.sc (.string (ByteArray.mk #[105, 101, 115]))), (PV.sc (.string (ByteArray.mk #[121])))]), (PV.agg [(PV.sc (.string (ByteArray.mk #[71]))), (PV.sc (.bool false)), (PV.sc (.string (ByteArray.mk #[]))), (PV.sc (.string (ByteArray.mk #[105, 110, 103]))), (PV.sc (.string (ByteArray.mk #[])))]), (PV.agg [(PV.sc (.string (ByteArray.mk #[71]))), (PV.sc (.bool false)), (PV.sc (.string (ByteArray.mk #[101]))), (PV.sc (.string (ByteArray.mk #[105, 110, 103]))), (PV.sc (.string (ByteArray.mk #[101])))]), (PV.agg [(PV.sc (.string (ByteArray.mk #[85]))), (PV.sc (.bool true)), (PV.sc (.string (ByteArray.mk #[]))), (PV.sc (.string (ByteArray.mk #[117, 110]))), (PV.sc (.string (ByteArray.mk #[])))]), (PV.agg [(PV.sc (.string (ByteArray.mk #[82]))), (PV.sc (.bool true)), (PV.sc (.string (ByteArray.mk #[97]))), (PV.sc (.string (ByteArray.mk #[98]))), (PV.sc (.string (ByteArray.mk #[97])))]), (PV.agg [(PV.sc (.string (ByteArray.mk #[84]))), (PV.sc (.bool false)), (PV.sc (.string (ByteArray.mk #[]))), (PV.sc (.string (ByteArray.mk #[116]))), (PV.sc (.string (ByteArray.mk #[97, 99])))]), (PV.agg [(PV.sc (.string (ByteArray.mk #[67]))), (PV.sc (.bool false)), (PV.sc (.string (ByteArray.mk #[]))), (PV.sc (.string (ByteArray.mk #[97, 98, 99]))), (PV.sc (.string (ByteArray.mk #[])))])])).elem (((t1.headD default).toInt).toNat)).fld 1).toBool))), (PV.sc (.string ((((PV.list ([(PV.agg [(PV.sc (.string (ByteArray.mk #[83]))), (PV.sc (.bool false)), (PV.sc (.string (ByteArray.mk #[]))), (PV.sc (.string (ByteArray.mk #[115]))), (PV.sc (.string (ByteArray.mk #[])))]), (PV.agg [(PV.sc (.string (ByteArray.mk #[83]))), (PV.sc (.bool false)), (PV.sc (.string (ByteArray.mk #[121]))), (PV.sc (.string (ByteArray.mk #[105, 101, 115]))), (PV.sc (.string (ByteArray.mk #[121])))]), (PV.agg [(PV.sc (.string (ByteArray.mk #[71]))), (PV.sc (.bool false)), (PV.sc (.string (ByteArray.mk #[]))), (PV.sc (.string (ByteArray.mk #[105, 110, 103]))), (PV.sc (.string (ByteArray.mk #[])))]), (PV.agg [(PV.sc (.string (ByteArray.mk #[71]))), (PV.sc (.bool false)), (PV.sc (.string (ByteArray.mk #[101]))), (PV.sc (.string (ByteArray.mk #[105, 110, 103]))), (PV.sc (.string (ByteArray.mk #[101])))]), (PV.agg [(PV.sc (.string (ByteArray.mk #[85]))), (PV.sc (.bool true)), (PV.sc (.string (ByteArray.mk #[]))), (PV.sc (.string (ByteArray.mk #[117, 110]))), (PV.sc (.string (ByteArray.mk #[])))]), (PV.agg [(PV.sc (.string (ByteArray.mk #[82]))), (PV.sc (.bool true)), (PV.sc (.string (ByteArray.mk #[97]))), (PV.sc (.string (ByteArray.mk #[98]))), (PV.sc (.string (ByteArray.mk #[97])))]), (PV.agg [(PV.sc (.string (ByteArray.mk #[84]))), (PV.sc (.bool false)), (PV.sc (.string (ByteArray.mk #[]))), (PV.sc (.string (ByteArray.mk #[116]))), (PV.sc (.string (ByteArray.mk #[97, 99])))]), (PV.agg [(PV.sc (.string (ByteArray.mk #[67]))), (PV.sc (.bool false)), (PV.sc (.string (ByteArray.mk #[]))), (PV.sc (.string (ByteArray.mk #[97, 98, 99]))), (PV.sc (.string (ByteArray.mk #[])))])])).elem (((t1.headD default).toInt).toNat)).fld 2).toStr))), (PV.sc (.string ((((PV.list ([(PV.agg [(PV.sc (.string (ByteArray.mk #[83]))), (PV.sc (.bool false)), (PV.sc (.string (ByteArray.mk #[]))), (PV.sc (.string (ByteArray.mk #[115]))), (PV.sc (.string (ByteArray.mk #[])))]), (PV.agg [(PV.sc (.string (ByteArray.mk #[83]))), (PV.sc (.bool false)), (PV.sc (.string (ByteArray.mk #[121]))), (PV.sc (.string (ByteArray.mk #[105, 101, 115]))), (PV.sc (.string (ByteArray.mk #[121])))]), (PV.agg [(PV.sc (.string (ByteArray.mk #[71]))), (PV.sc (.bool false)), (PV.sc (.string (ByteArray.mk #[]))), (PV.sc (.string (ByteArray.mk #[105, 110, 103]))), (PV.sc (.string (ByteArray.mk #[])))]), (PV.agg [(PV.sc (.string (ByteArray.mk #[71]))), (PV.sc (.bool false)), (PV.sc (.string (ByteArray.mk #[101]))), (PV.sc (.string (ByteArray.mk #[105, 110, 103]))), (PV.sc (.string (ByteArray.mk #[101])))]), (PV.agg [(PV.sc (.string (ByteArray.mk #[85]))), (PV.sc (.bool true)), (PV.sc (.string (ByteArray.mk #[]))), (PV.sc (.string (ByteArray.mk #[117, 110]))), (PV.sc (.string (ByteArray.mk #[])))]), (PV.agg [(PV.sc (.string (ByteArray.mk #[82]))), (PV.sc (.bool true)), (PV.sc (.string (ByteArray.mk #[97]))), (PV.sc (.string (ByteArray.mk #[98]))), (PV.sc (.string (ByteArray.mk #[97])))]), (PV.agg [(PV.sc (.string (ByteArray.mk #[84]))), (PV.sc (.bool false)), (PV.sc (.string (ByteArray.mk #[]))), (PV.sc (.string (ByteArray.mk #[116]))), (PV.sc (.string (ByteArray.mk #[97, 99])))]), (PV.agg [(PV.sc (.string (ByteArray.mk #[67]))), (PV.sc (.bool false)), (PV.sc (.string (ByteArray.mk #[]))), (PV.sc (.string (ByteArray.mk #[97, 98, 99]))), (PV.sc (.string (ByteArray.mk #[])))])])).elem (((t1.headD default).toInt).toNat)).fld 3).toStr))), (PV.sc (.string ((((PV.list ([(PV.agg [(PV.sc (.string (ByteArray.mk #[83]))), (PV.sc (.bool false)), (PV.sc (.string (ByteArray.mk #[]))), (PV.sc (.string (ByteArray.mk #[115]))), (PV.sc (.string (ByteArray.mk #[])))]), (PV.agg [(PV.sc (.string (ByteArray.mk #[83]))), (PV.sc (.bool false)), (PV.sc (.string (ByteArray.mk #[121]))), (PV.sc (.string (ByteArray.mk #[105, 101, 115]))), (PV.sc (.string (ByteArray.mk #[121])))]), (PV.agg [(PV.sc (.string (ByteArray.mk #[71]))), (PV.sc (.bool false)), (PV.sc (.string (ByteArray.mk #[]))), (PV.sc (.string (ByteArray.mk #[105, 110, 103]))), (PV.sc (.string (ByteArray.mk #[])))]), (PV.agg [(PV.sc (.string (ByteArray.mk #[71]))), (PV.sc (.bool false)), (PV.sc (.string (ByteArray.mk #[101]))), (PV.sc (.string (ByteArray.mk #[105, 110, 103]))), (PV.sc (.string (ByteArray.mk #[101])))]), (PV.agg [(PV.sc (.string (ByteArray.mk #[85]))), (PV.sc (.bool true)), (PV.sc (.string (ByteArray.mk #[]))), (PV.sc (.string (ByteArray.mk #[117, 110]))), (PV.sc (.string (ByteArray.mk #[])))]), (PV.agg [(PV.sc (.string (ByteArray.mk #[82]))), (PV.sc (.bool true)), (PV.sc (.string (ByteArray.mk #[97]))), (PV.sc (.string (ByteArray.mk #[98]))), (PV.sc (.string (ByteArray.mk #[97])))]), (PV.agg [(PV.sc (.string (ByteArray.mk #[84]))), (PV.sc (.bool false)), (PV.sc (.string (ByteArray.mk #[]))), (PV.sc (.string (ByteArray.mk #[116]))), (PV.sc (.string (ByteArray.mk #[97, 99])))]), (PV.agg [(PV.sc (.string (ByteArray.mk #[67]))), (PV.sc (.bool false)), (PV.sc (.string (ByteArray.mk #[]))), (PV.sc (.string (ByteArray.mk #[97, 98, 99]))), (PV.sc (.string (ByteArray.mk #[])))])])).elem (((t1.headD default).toInt).toNat)).fld 4).toStr)))]), (PV.agg [a0.fld 0, (PV.sc (.int .i64 (((t1.tail.headD default).fld 1).toInt)))])]) else none) else none := by kernel_rfl
noncomputable def spec_l13Affix.S (N : Nat) : ASpec := ⟨[(57, .box)], [(121, .val)], spec_l13Affix.f N⟩
theorem spec_l13Affix.ok (N : Nat) : FnOk Tryz.prog 160 (spec_l13Affix.S N) := fnOk_of (E := spec_l13Affix.E N) mix Tryz.func160 (by kernel_rfl) (by kernel_rfl) (by kernel_rfl) (lk_ok (all_cons (spec_l1Rd_pick.ok N) all_nil)) (by kernel_rfl) (fun _ _ h => h)

/-! ### spec_l13Affixes: function 158, loop.example/medlar/spec.l13Affixes -/
noncomputable def spec_l13Affixes.E (N : Nat) : Env := ⟨lk [(70, spec_l1Rd_pick.S N), (160, spec_l13Affix.S N)], nzk [(3, ⟨[1, 2, 5, 6, 7, 8, 9, 10, 11, 12, 13, 14, 15, 16, 17, 18, 19, 20, 21, 22, 23, 24, 25, 26, 27, 28, 29, 30, 31, 32, 33, 34, 35, 36, 37, 38], [(3, 23)], []⟩), (8, ⟨[1, 2, 8, 9, 10, 11, 12, 13, 14, 15, 16, 17, 18, 19, 20, 21, 22, 23, 24, 25, 26, 27, 28, 29, 30, 31, 32, 33, 34, 35, 36, 37, 38], [(3, 23)], []⟩)], N, [(true, 95)], false⟩
noncomputable def spec_l13Affixes.f (N : Nat) (a : List PV) : Option Res := run Tryz.prog (spec_l13Affixes.E N) Tryz.f158 [(57, .box)] [(23, .own)] a
noncomputable def spec_l13Affixes.l0 (N : Nat) (n : Nat) (x4 : Int) (y0_0 : PV) (y0_1 : Int) (y1 : List PV) : Option Res := loopAt Tryz.prog (spec_l13Affixes.E N) Tryz.f158 [(23, .own)] [1, 1, 0, 1, 0] [] n ⟨mkSlots 39 [(0, .ptr 0 []), (3, .ref 1 []), (4, .sc (.int .i64 x4))], ohOf [.box 95 (.agg 95 [.con 0 22 y0_0, .sc (.int .i64 y0_1)]), .row 23 (PV.list y1)]⟩
noncomputable def spec_l13Affixes.l1 (N : Nat) (m0 : Nat) (n : Nat) (x4 : Int) (x6 : Bool) (x7 : Int) (y0_0 : PV) (y0_1 : Int) (y1 : List PV) (y2_0 : ByteArray) (y2_1 : Bool) (y2_2 : ByteArray) (y2_3 : ByteArray) (y2_4 : ByteArray) : Option Res := loopAt Tryz.prog (spec_l13Affixes.E N) Tryz.f158 [(23, .own)] [1, 1, 0, 1, 0, 0, 1, 0, 0, 1, 1, 0, 1, 0] [m0] n ⟨mkSlots 39 [(0, .ptr 0 []), (3, .ref 1 []), (4, .sc (.int .i64 x4)), (5, .ptr 2 []), (6, .sc (.bool x6)), (7, .sc (.int .i64 x7))], ohOf [.box 95 (.agg 95 [.con 0 22 y0_0, .sc (.int .i64 y0_1)]), .row 23 (PV.list y1), .box 121 (.agg 121 [.sc (.string y2_0), .sc (.bool y2_1), .sc (.string y2_2), .sc (.string y2_3), .sc (.string y2_4)])]⟩
theorem spec_l13Affixes.f_eq (N : Nat) (a0 : PV) : spec_l13Affixes.f N [a0] = (spec_l1Rd_pick.f N [(PV.agg [a0.fld 0, (PV.sc (.int .i64 ((a0.fld 1).toInt)))]), (PV.sc (.int .i64 5))]).bind fun t1 => spec_l13Affixes.l0 N N ((t1.headD default).toInt) (a0.fld 0) (((t1.tail.headD default).fld 1).toInt) [] := by kernel_rfl
theorem spec_l13Affixes.l0_eq (N : Nat) (n : Nat) (x4 : Int) (y0_0 : PV) (y0_1 : Int) (y1 : List PV) : spec_l13Affixes.l0 N (n + 1) x4 y0_0 y0_1 y1 = if decide (0 < x4) = true then ((spec_l13Affix.f N [(PV.agg [y0_0, (PV.sc (.int .i64 y0_1))])]).bind fun t2 => spec_l13Affixes.l1 N n N x4 false 0 y0_0 (((t2.tail.headD default).fld 1).toInt) y1 (((t2.headD default).fld 0).toStr) (((t2.headD default).fld 1).toBool) (((t2.headD default).fld 2).toStr) (((t2.headD default).fld 3).toStr) (((t2.headD default).fld 4).toStr)) else (some [(PV.list y1), (PV.agg [y0_0, (PV.sc (.int .i64 y0_1))])]) := by kernel_rfl
theorem spec_l13Affixes.l1_eq (N : Nat) (m0 : Nat) (n : Nat) (x4 : Int) (x6 : Bool) (x7 : Int) (y0_0 : PV) (y0_1 : Int) (y1 : List PV) (y2_0 : ByteArray) (y2_1 : Bool) (y2_2 : ByteArray) (y2_3 : ByteArray) (y2_4 : ByteArray) : spec_l13Affixes.l1 N m0 (n + 1) x4 x6 x7 y0_0 y0_1 y1 y2_0 y2_1 y2_2 y2_3 y2_4 = if decide (x7 < (y1.length : Int)) = true then (if x6 = false then (if 0 ≤ x7 then (if x7 < (y1.length : Int) then (spec_l13Affixes.l1 N m0 n x4 (decide (((((PV.list y1).elem x7.toNat).fld 0).toStr).toList = y2_0.toList) && ((((((PV.list y1).elem x7.toNat).fld 1).toBool) == y2_1) && (decide (((((PV.list y1).elem x7.toNat).fld 2).toStr).toList = y2_2.toList) && (decide (((((PV.list y1).elem x7.toNat).fld 3).toStr).toList = y2_3.toList) && (decide (((((PV.list y1).elem x7.toNat).fld 4).toStr).toList = y2_4.toList) && true))))) (IntKind.i64.wrap (x7 + 1)) y0_0 y0_1 y1 y2_0 y2_1 y2_2 y2_3 y2_4) else none) else none) else (spec_l13Affixes.l1 N m0 n x4 true (IntKind.i64.wrap (x7 + 1)) y0_0 y0_1 y1 y2_0 y2_1 y2_2 y2_3 y2_4)) else (if (!x6) = true then (if y1.length + ([(PV.agg [(PV.sc (.string y2_0)), (PV.sc (.bool y2_1)), (PV.sc (.string y2_2)), (PV.sc (.string y2_3)), (PV.sc (.string y2_4))])]).length ≤ 1954687338268 then (spec_l13Affixes.l0 N m0 (IntKind.i64.wrap (x4 - 1)) y0_0 y0_1 (y1 ++ ([(PV.agg [(PV.sc (.string y2_0)), (PV.sc (.bool y2_1)), (PV.sc (.string y2_2)), (PV.sc (.string y2_3)), (PV.sc (.string y2_4))])]))) else none) else (spec_l13Affixes.l0 N m0 (IntKind.i64.wrap (x4 - 1)) y0_0 y0_1 y1)) := by kernel_rfl
noncomputable def spec_l13Affixes.S (N : Nat) : ASpec := ⟨[(57, .box)], [(23, .own)], spec_l13Affixes.f N⟩
theorem spec_l13Affixes.ok (N : Nat) : FnOk Tryz.prog 158 (spec_l13Affixes.S N) := fnOk_of (E := spec_l13Affixes.E N) mix Tryz.func158 (by kernel_rfl) (by kernel_rfl) (by kernel_rfl) (lk_ok (all_cons (spec_l1Rd_pick.ok N) (all_cons (spec_l13Affix.ok N) all_nil))) (by kernel_rfl) (fun _ _ h => h)

/-! ### spec_l1Rd_of: function 71, (*loop.example/medlar/spec.l1Rd).of -/
noncomputable def spec_l1Rd_of.E (N : Nat) : Env := ⟨lk [(70, spec_l1Rd_pick.S N)], nzk [], N, [(true, 95)], false⟩
noncomputable def spec_l1Rd_of.f (N : Nat) (a : List PV) : Option Res := run Tryz.prog (spec_l1Rd_of.E N) Tryz.f71 [(57, .box), (27, .ro)] [(9, .val)] a
theorem spec_l1Rd_of.f_eq (N : Nat) (a0 : PV) (a1 : PV) : spec_l1Rd_of.f N [a0, a1] = (spec_l1Rd_pick.f N [(PV.agg [a0.fld 0, (PV.sc (.int .i64 ((a0.fld 1).toInt)))]), (PV.sc (.int .i64 (a1.items.length : Int)))]).bind fun t1 => if 0 ≤ ((t1.headD default).toInt) then (if ((t1.headD default).toInt) < (a1.items.length : Int) then (some [(PV.sc (.string ((a1.elem (((t1.headD default).toInt).toNat)).toStr))), (PV.agg [a0.fld 0, (PV.sc (.int .i64 (((t1.tail.headD default).fld 1).toInt)))])]) else none) else none := by kernel_rfl
noncomputable def spec_l1Rd_of.S (N : Nat) : ASpec := ⟨[(57, .box), (27, .ro)], [(9, .val)], spec_l1Rd_of.f N⟩
theorem spec_l1Rd_of.ok (N : Nat) : FnOk Tryz.prog 71 (spec_l1Rd_of.S N) := fnOk_of (E := spec_l1Rd_of.E N) mix Tryz.func71 (by kernel_rfl) (by kernel_rfl) (by kernel_rfl) (lk_ok (all_cons (spec_l1Rd_pick.ok N) all_nil)) (by kernel_rfl) (fun _ _ h => h)

/-! ### spec_l1Least: function 115, loop.example/medlar/spec.l1Least -/
noncomputable def spec_l1Least.E (N : Nat) : Env := ⟨lk [], nzk [], N, [], false⟩
noncomputable def spec_l1Least.f (N : Nat) (a : List PV) : Option Res := run Tryz.prog (spec_l1Least.E N) Tryz.f115 [(3, .ro), (3, .ro)] [(3, .val)] a
theorem spec_l1Least.f_eq (N : Nat) (a0 : PV) (a1 : PV) : spec_l1Least.f N [a0, a1] = if decide (a0.toInt < a1.toInt) = true then (some [(PV.sc (.int .i64 a0.toInt))]) else (some [(PV.sc (.int .i64 a1.toInt))]) := by kernel_rfl
noncomputable def spec_l1Least.S (N : Nat) : ASpec := ⟨[(3, .ro), (3, .ro)], [(3, .val)], spec_l1Least.f N⟩
theorem spec_l1Least.ok (N : Nat) : FnOk Tryz.prog 115 (spec_l1Least.S N) := fnOk_of (E := spec_l1Least.E N) mix Tryz.func115 (by kernel_rfl) (by kernel_rfl) (by kernel_rfl) (lk_ok all_nil) (by kernel_rfl) (fun _ _ h => h)

/-! ### spec_l13Word: function 75, loop.example/medlar/spec.l13Word -/
noncomputable def spec_l13Word.E (N : Nat) : Env := ⟨lk [(70, spec_l1Rd_pick.S N), (71, spec_l1Rd_of.S N), (115, spec_l1Least.S N)], nzk [(4, ⟨[1, 2, 5, 6, 7, 8, 9, 10, 11, 12, 13, 14, 15, 16, 17, 18, 19, 20, 21, 22, 23, 24, 25, 26, 27], [], []⟩)], N, [(true, 95)], false⟩
noncomputable def spec_l13Word.f (N : Nat) (a : List PV) : Option Res := run Tryz.prog (spec_l13Word.E N) Tryz.f75 [(57, .box)] [(9, .val)] a
noncomputable def spec_l13Word.l0 (N : Nat) (n : Nat) (x3 : ByteArray) (x4 : Int) (y0_0 : PV) (y0_1 : Int) : Option Res := loopAt Tryz.prog (spec_l13Word.E N) Tryz.f75 [(9, .val)] [1, 0, 1, 0, 1, 0, 1, 0] [] n ⟨mkSlots 28 [(0, .ptr 0 []), (3, .sc (.string x3)), (4, .sc (.int .i64 x4))], ohOf [.box 95 (.agg 95 [.con 0 22 y0_0, .sc (.int .i64 y0_1)])]⟩
theorem spec_l13Word.f_eq (N : Nat) (a0 : PV) : spec_l13Word.f N [a0] = (spec_l1Rd_pick.f N [(PV.agg [a0.fld 0, (PV.sc (.int .i64 ((a0.fld 1).toInt)))]), (PV.sc (.int .i64 3))]).bind fun t1 => if decide (((t1.headD default).toInt) = 0) = true then ((spec_l1Rd_pick.f N [(PV.agg [a0.fld 0, (PV.sc (.int .i64 (((t1.tail.headD default).fld 1).toInt)))]), (PV.sc (.int .i64 5))]).bind fun t2 => spec_l13Word.l0 N N (ByteArray.mk #[]) (IntKind.i64.wrap (1 + ((t2.headD default).toInt))) (a0.fld 0) (((t2.tail.headD default).fld 1).toInt)) else ((spec_l1Rd_of.f N [(PV.agg [a0.fld 0, (PV.sc (.int .i64 (((t1.tail.headD default).fld 1).toInt)))]), (PV.list ([(PV.sc (.string (ByteArray.mk #[99, 97, 116]))), (PV.sc (.string (ByteArray.mk #[99, 97, 116, 115]))), (PV.sc (.string (ByteArray.mk #[97, 99, 116]))), (PV.sc (.string (ByteArray.mk #[100, 111]))), (PV.sc (.string (ByteArray.mk #[100, 111, 105, 110, 103]))), (PV.sc (.string (ByteArray.mk #[103, 111]))), (PV.sc (.string (ByteArray.mk #[117, 110, 100, 111]))), (PV.sc (.string (ByteArray.mk #[116, 114, 121]))), (PV.sc (.string (ByteArray.mk #[116, 114, 105, 101, 115]))), (PV.sc (.string (ByteArray.mk #[97]))), (PV.sc (.string (ByteArray.mk #[98, 97, 107, 101]))), (PV.sc (.string (ByteArray.mk #[98, 97, 107, 105, 110, 103]))), (PV.sc (.string (ByteArray.mk #[116, 97, 99, 116]))), (PV.sc (.string (ByteArray.mk #[99, 97, 114, 116]))), (PV.sc (.string (ByteArray.mk #[97, 98, 99, 97, 98, 99, 97, 98, 99, 97, 98, 99])))]))]).bind fun t3 => some [(PV.sc (.string ((t3.headD default).toStr))), (PV.agg [a0.fld 0, (PV.sc (.int .i64 (((t3.tail.headD default).fld 1).toInt)))])]) := by kernel_rfl
theorem spec_l13Word.l0_eq (N : Nat) (n : Nat) (x3 : ByteArray) (x4 : Int) (y0_0 : PV) (y0_1 : Int) : spec_l13Word.l0 N (n + 1) x3 x4 y0_0 y0_1 = if decide (0 < x4) = true then ((spec_l1Rd_of.f N [(PV.agg [y0_0, (PV.sc (.int .i64 y0_1))]), (PV.list ([(PV.sc (.string (ByteArray.mk #[97]))), (PV.sc (.string (ByteArray.mk #[98]))), (PV.sc (.string (ByteArray.mk #[99]))), (PV.sc (.string (ByteArray.mk #[97, 98]))), (PV.sc (.string (ByteArray.mk #[116])))]))]).bind fun t4 => if x3.size + ((t4.headD default).toStr).size ≤ 9223372036854775807 then (spec_l13Word.l0 N n (x3 ++ ((t4.headD default).toStr)) (IntKind.i64.wrap (x4 - 1)) y0_0 (((t4.tail.headD default).fld 1).toInt)) else none) else ((spec_l1Least.f N [(PV.sc (.int .i64 (x3.size : Int))), (PV.sc (.int .i64 12))]).bind fun t5 => if 0 ≤ ((t5.headD default).toInt) then (if ((t5.headD default).toInt) ≤ (x3.size : Int) then (some [(PV.sc (.string (x3.extract 0 (((t5.headD default).toInt).toNat)))), (PV.agg [y0_0, (PV.sc (.int .i64 y0_1))])]) else none) else none) := by kernel_rfl
noncomputable def spec_l13Word.S (N : Nat) : ASpec := ⟨[(57, .box)], [(9, .val)], spec_l13Word.f N⟩
theorem spec_l13Word.ok (N : Nat) : FnOk Tryz.prog 75 (spec_l13Word.S N) := fnOk_of (E := spec_l13Word.E N) mix Tryz.func75 (by kernel_rfl) (by kernel_rfl) (by kernel_rfl) (lk_ok (all_cons (spec_l1Rd_pick.ok N) (all_cons (spec_l1Rd_of.ok N) (all_cons (spec_l1Least.ok N) all_nil)))) (by kernel_rfl) (fun _ _ h => h)

-- MODES: 79 loop.example/medlar/spec.l1Put own.ro
/-! ### spec_l1Put: function 79, loop.example/medlar/spec.l1Put -/
noncomputable def spec_l1Put.E (N : Nat) : Env := ⟨lk [], nzk [(2, ⟨[2, 3, 4, 6, 7, 8, 9, 10, 11, 12, 13, 14, 15, 16, 17, 18, 19, 20, 21, 22, 23, 24, 25, 26, 27, 28, 29, 30, 31, 32, 33, 34, 35, 36, 37, 38, 39, 40, 41, 42, 43, 44], [], []⟩)], N, [], false⟩
noncomputable def spec_l1Put.f (N : Nat) (a : List PV) : Option Res := run Tryz.prog (spec_l1Put.E N) Tryz.f79 [(27, .own), (9, .ro)] [(27, .own)] a
noncomputable def spec_l1Put.l0 (N : Nat) (n : Nat) (x1 : ByteArray) (x5 : Int) (y0 : PV) : Option Res := loopAt Tryz.prog (spec_l1Put.E N) Tryz.f79 [(27, .own)] [1, 1, 0, 0] [] n ⟨mkSlots 45 [(0, .ref 0 []), (1, .sc (.string x1)), (5, .sc (.int .i64 x5))], ohOf [.row 27 y0]⟩
theorem spec_l1Put.f_eq (N : Nat) (a0 : PV) (a1 : PV) : spec_l1Put.f N [a0, a1] = spec_l1Put.l0 N N a1.toStr 0 a0 := by kernel_rfl
theorem spec_l1Put.l0_eq (N : Nat) (n : Nat) (x1 : ByteArray) (x5 : Int) (y0 : PV) : spec_l1Put.l0 N (n + 1) x1 x5 y0 = if decide (x5 < (y0.items.length : Int)) = true then (if 0 ≤ x5 then (if x5 < (y0.items.length : Int) then (if Op.bytesLess ((y0.elem x5.toNat).toStr).toList x1.toList = true then (spec_l1Put.l0 N n x1 (IntKind.i64.wrap (x5 + 1)) y0) else (if decide (x5 < (y0.items.length : Int)) = true then (if 0 ≤ x5 then (if x5 < (y0.items.length : Int) then (if decide (((y0.elem x5.toNat).toStr).toList = x1.toList) = true then (some [y0]) else (if 0 ≤ x5 then (if x5 ≤ (y0.items.length : Int) then (if ([] : List PV).length + ((y0.items.drop 0).take (x5.toNat - 0)).length ≤ 8796093022208 then (if (([] : List PV) ++ ((y0.items.drop 0).take (x5.toNat - 0))).length + [(PV.sc (.string x1))].length ≤ 8796093022208 then (if 0 ≤ x5 then (if x5 ≤ (y0.items.length : Int) then (if ((([] : List PV) ++ ((y0.items.drop 0).take (x5.toNat - 0))) ++ [(PV.sc (.string x1))]).length + ((y0.items.drop x5.toNat).take (y0.items.length - x5.toNat)).length ≤ 8796093022208 then (some [(PV.list (((([] : List PV) ++ ((y0.items.drop 0).take (x5.toNat - 0))) ++ [(PV.sc (.string x1))]) ++ ((y0.items.drop x5.toNat).take (y0.items.length - x5.toNat))))]) else none) else none) else none) else none) else none) else none) else none)) else none) else none) else (if 0 ≤ x5 then (if x5 ≤ (y0.items.length : Int) then (if ([] : List PV).length + ((y0.items.drop 0).take (x5.toNat - 0)).length ≤ 8796093022208 then (if (([] : List PV) ++ ((y0.items.drop 0).take (x5.toNat - 0))).length + [(PV.sc (.string x1))].length ≤ 8796093022208 then (if 0 ≤ x5 then (if x5 ≤ (y0.items.length : Int) then (if ((([] : List PV) ++ ((y0.items.drop 0).take (x5.toNat - 0))) ++ [(PV.sc (.string x1))]).length + ((y0.items.drop x5.toNat).take (y0.items.length - x5.toNat)).length ≤ 8796093022208 then (some [(PV.list (((([] : List PV) ++ ((y0.items.drop 0).take (x5.toNat - 0))) ++ [(PV.sc (.string x1))]) ++ ((y0.items.drop x5.toNat).take (y0.items.length - x5.toNat))))]) else none) else none) else none) else none) else none) else none) else none))) else none) else none) else (if decide (x5 < (y0.items.length : Int)) = true then (if 0 ≤ x5 then (if x5 < (y0.items.length : Int) then (if decide (((y0.elem x5.toNat).toStr).toList = x1.toList) = true then (some [y0]) else (if 0 ≤ x5 then (if x5 ≤ (y0.items.length : Int) then (if ([] : List PV).length + ((y0.items.drop 0).take (x5.toNat - 0)).length ≤ 8796093022208 then (if (([] : List PV) ++ ((y0.items.drop 0).take (x5.toNat - 0))).length + [(PV.sc (.string x1))].length ≤ 8796093022208 then (if 0 ≤ x5 then (if x5 ≤ (y0.items.length : Int) then (if ((([] : List PV) ++ ((y0.items.drop 0).take (x5.toNat - 0))) ++ [(PV.sc (.string x1))]).length + ((y0.items.drop x5.toNat).take (y0.items.length - x5.toNat)).length ≤ 8796093022208 then (some [(PV.list (((([] : List PV) ++ ((y0.items.drop 0).take (x5.toNat - 0))) ++ [(PV.sc (.string x1))]) ++ ((y0.items.drop x5.toNat).take (y0.items.length - x5.toNat))))]) else none) else none) else none) else none) else none) else none) else none)) else none) else none) else (if 0 ≤ x5 then (if x5 ≤ (y0.items.length : Int) then (if ([] : List PV).length + ((y0.items.drop 0).take (x5.toNat - 0)).length ≤ 8796093022208 then (if (([] : List PV) ++ ((y0.items.drop 0).take (x5.toNat - 0))).length + [(PV.sc (.string x1))].length ≤ 8796093022208 then (if 0 ≤ x5 then (if x5 ≤ (y0.items.length : Int) then (if ((([] : List PV) ++ ((y0.items.drop 0).take (x5.toNat - 0))) ++ [(PV.sc (.string x1))]).length + ((y0.items.drop x5.toNat).take (y0.items.length - x5.toNat)).length ≤ 8796093022208 then (some [(PV.list (((([] : List PV) ++ ((y0.items.drop 0).take (x5.toNat - 0))) ++ [(PV.sc (.string x1))]) ++ ((y0.items.drop x5.toNat).take (y0.items.length - x5.toNat))))]) else none) else none) else none) else none) else none) else none) else none)) := by kernel_rfl
noncomputable def spec_l1Put.S (N : Nat) : ASpec := ⟨[(27, .own), (9, .ro)], [(27, .own)], spec_l1Put.f N⟩
theorem spec_l1Put.ok (N : Nat) : FnOk Tryz.prog 79 (spec_l1Put.S N) := fnOk_of (E := spec_l1Put.E N) mix Tryz.func79 (by kernel_rfl) (by kernel_rfl) (by kernel_rfl) (lk_ok all_nil) (by kernel_rfl) (fun _ _ h => h)

/-! ### spec_l13Entry: function 159, loop.example/medlar/spec.l13Entry -/
noncomputable def spec_l13Entry.E (N : Nat) : Env := ⟨lk [(71, spec_l1Rd_of.S N)], nzk [], N, [(true, 95)], false⟩
noncomputable def spec_l13Entry.f (N : Nat) (a : List PV) : Option Res := run Tryz.prog (spec_l13Entry.E N) Tryz.f159 [(57, .box), (9, .ro)] [(99, .val)] a
theorem spec_l13Entry.f_eq (N : Nat) (a0 : PV) (a1 : PV) : spec_l13Entry.f N [a0, a1] = (spec_l1Rd_of.f N [(PV.agg [a0.fld 0, (PV.sc (.int .i64 ((a0.fld 1).toInt)))]), (PV.list ([(PV.sc (.string (ByteArray.mk #[]))), (PV.sc (.string (ByteArray.mk #[]))), (PV.sc (.string (ByteArray.mk #[83]))), (PV.sc (.string (ByteArray.mk #[71, 83]))), (PV.sc (.string (ByteArray.mk #[85]))), (PV.sc (.string (ByteArray.mk #[71, 85]))), (PV.sc (.string (ByteArray.mk #[82]))), (PV.sc (.string (ByteArray.mk #[84]))), (PV.sc (.string (ByteArray.mk #[67, 82, 83, 85])))]))]).bind fun t1 => some [(PV.agg [(PV.sc (.string a1.toStr)), (PV.sc (.string ((t1.headD default).toStr)))]), (PV.agg [a0.fld 0, (PV.sc (.int .i64 (((t1.tail.headD default).fld 1).toInt)))])] := by kernel_rfl
noncomputable def spec_l13Entry.S (N : Nat) : ASpec := ⟨[(57, .box), (9, .ro)], [(99, .val)], spec_l13Entry.f N⟩
theorem spec_l13Entry.ok (N : Nat) : FnOk Tryz.prog 159 (spec_l13Entry.S N) := fnOk_of (E := spec_l13Entry.E N) mix Tryz.func159 (by kernel_rfl) (by kernel_rfl) (by kernel_rfl) (lk_ok (all_cons (spec_l1Rd_of.ok N) all_nil)) (by kernel_rfl) (fun _ _ h => h)

/-! ### spec_l13Book: function 119, loop.example/medlar/spec.l13Book -/
noncomputable def spec_l13Book.E (N : Nat) : Env := ⟨lk [(158, spec_l13Affixes.S N), (70, spec_l1Rd_pick.S N), (75, spec_l13Word.S N), (79, spec_l1Put.S N), (159, spec_l13Entry.S N)], nzk [(4, ⟨[1, 6, 7, 8, 9, 10, 11, 12, 13, 14, 15, 16, 17, 18, 19, 20, 21, 22, 23, 24, 25, 26, 27, 28, 29, 30, 31, 32, 33, 34, 35, 36, 37, 38, 39, 40, 41, 42, 43, 44, 45, 46, 47, 48, 49, 50, 51, 52, 53, 54, 55], [], []⟩), (9, ⟨[1, 5, 7, 8, 9, 10, 11, 12, 13, 14, 15, 16, 17, 18, 19, 20, 21, 22, 23, 24, 25, 26, 27, 28, 29, 30, 31, 32, 33, 34, 35, 36, 37, 38, 39, 40, 41, 42, 43, 44, 45, 46, 47, 48, 49, 50, 51, 52, 53, 54, 55], [], []⟩), (13, ⟨[1, 5, 6, 8, 9, 10, 11, 12, 13, 14, 15, 16, 17, 18, 19, 20, 21, 22, 23, 24, 25, 26, 27, 28, 29, 30, 31, 32, 33, 34, 35, 36, 37, 38, 39, 40, 41, 42, 43, 44, 45, 46, 47, 48, 49, 50, 51, 52, 53, 54, 55], [], []⟩)], N, [(true, 95)], false⟩
noncomputable def spec_l13Book.f (N : Nat) (a : List PV) : Option Res := run Tryz.prog (spec_l13Book.E N) Tryz.f119 [(57, .box)] [(26, .own)] a
noncomputable def spec_l13Book.l0 (N : Nat) (n : Nat) (x5 : Int) (y0_0 : PV) (y0_1 : Int) (y3 : List PV) (y4 : PV) : Option Res := loopAt Tryz.prog (spec_l13Book.E N) Tryz.f119 [(26, .own)] [1, 1, 1, 0, 1, 0] [] n ⟨mkSlots 56 [(0, .ptr 0 []), (2, .ptr 1 []), (3, .ptr 2 []), (4, .ref 3 []), (5, .sc (.int .i64 x5))], ohOf [.box 95 (.agg 95 [.con 0 22 y0_0, .sc (.int .i64 y0_1)]), .box 26 (.agg 26 [.nil, .nil]), .box 26 (.agg 26 [.ref 4 [], .nil]), .row 27 (PV.list y3), .row 23 y4]⟩
noncomputable def spec_l13Book.l1 (N : Nat) (n : Nat) (x5 : Int) (y0_0 : PV) (y0_1 : Int) (y3 : PV) (y4 : PV) : Option Res := loopAt Tryz.prog (spec_l13Book.E N) Tryz.f119 [(26, .own)] [1, 1, 1, 0, 1, 0] [] n ⟨mkSlots 56 [(0, .ptr 0 []), (2, .ptr 1 []), (3, .ptr 2 []), (4, .ref 3 []), (5, .sc (.int .i64 x5))], ohOf [.box 95 (.agg 95 [.con 0 22 y0_0, .sc (.int .i64 y0_1)]), .box 26 (.agg 26 [.nil, .nil]), .box 26 (.agg 26 [.ref 4 [], .nil]), .row 27 y3, .row 23 y4]⟩
noncomputable def spec_l13Book.l2 (N : Nat) (n : Nat) (x6 : Int) (y0_0 : PV) (y0_1 : Int) (y3 : List PV) (y4 : PV) : Option Res := loopAt Tryz.prog (spec_l13Book.E N) Tryz.f119 [(26, .own)] [1, 1, 1, 1, 0, 1, 0, 1, 0] [] n ⟨mkSlots 56 [(0, .ptr 0 []), (2, .ptr 1 []), (3, .ptr 2 []), (4, .ref 3 []), (6, .sc (.int .i64 x6))], ohOf [.box 95 (.agg 95 [.con 0 22 y0_0, .sc (.int .i64 y0_1)]), .box 26 (.agg 26 [.nil, .nil]), .box 26 (.agg 26 [.ref 4 [], .nil]), .row 27 (PV.list y3), .row 23 y4]⟩
noncomputable def spec_l13Book.l3 (N : Nat) (n : Nat) (x7 : Int) (y0_0 : PV) (y0_1 : Int) (y3 : List PV) (y4 : PV) : Option Res := loopAt Tryz.prog (spec_l13Book.E N) Tryz.f119 [(26, .own)] [1, 1, 1, 1, 1, 0, 1, 0] [] n ⟨mkSlots 56 [(0, .ptr 0 []), (2, .ptr 1 []), (3, .ptr 2 []), (4, .ref 3 []), (7, .sc (.int .i64 x7))], ohOf [.box 95 (.agg 95 [.con 0 22 y0_0, .sc (.int .i64 y0_1)]), .box 26 (.agg 26 [.nil, .nil]), .box 26 (.agg 26 [.ref 4 [], .nil]), .row 27 (PV.list y3), .row 23 y4]⟩
noncomputable def spec_l13Book.l4 (N : Nat) (n : Nat) (x6 : Int) (y0_0 : PV) (y0_1 : Int) (y3 : PV) (y4 : PV) : Option Res := loopAt Tryz.prog (spec_l13Book.E N) Tryz.f119 [(26, .own)] [1, 1, 1, 1, 0, 1, 0, 1, 0] [] n ⟨mkSlots 56 [(0, .ptr 0 []), (2, .ptr 1 []), (3, .ptr 2 []), (4, .ref 3 []), (6, .sc (.int .i64 x6))], ohOf [.box 95 (.agg 95 [.con 0 22 y0_0, .sc (.int .i64 y0_1)]), .box 26 (.agg 26 [.nil, .nil]), .box 26 (.agg 26 [.ref 4 [], .nil]), .row 27 y3, .row 23 y4]⟩
noncomputable def spec_l13Book.l5 (N : Nat) (n : Nat) (x7 : Int) (y0_0 : PV) (y0_1 : Int) (y3 : PV) (y4 : PV) : Option Res := loopAt Tryz.prog (spec_l13Book.E N) Tryz.f119 [(26, .own)] [1, 1, 1, 1, 1, 0, 1, 0] [] n ⟨mkSlots 56 [(0, .ptr 0 []), (2, .ptr 1 []), (3, .ptr 2 []), (4, .ref 3 []), (7, .sc (.int .i64 x7))], ohOf [.box 95 (.agg 95 [.con 0 22 y0_0, .sc (.int .i64 y0_1)]), .box 26 (.agg 26 [.nil, .nil]), .box 26 (.agg 26 [.ref 4 [], .nil]), .row 27 y3, .row 23 y4]⟩
noncomputable def spec_l13Book.l6 (N : Nat) (n : Nat) (x7 : Int) (y0_0 : PV) (y0_1 : Int) (y3 : List PV) (y4 : PV) (y5 : List PV) : Option Res := loopAt Tryz.prog (spec_l13Book.E N) Tryz.f119 [(26, .own)] [1, 1, 1, 1, 1, 0, 1, 0] [] n ⟨mkSlots 56 [(0, .ptr 0 []), (2, .ptr 1 []), (3, .ptr 2 []), (4, .ref 3 []), (7, .sc (.int .i64 x7))], ohOf [.box 95 (.agg 95 [.con 0 22 y0_0, .sc (.int .i64 y0_1)]), .box 26 (.agg 26 [.nil, .nil]), .box 26 (.agg 26 [.ref 4 [], .ref 5 []]), .row 27 (PV.list y3), .row 23 y4, .row 24 (PV.list y5)]⟩
noncomputable def spec_l13Book.l7 (N : Nat) (n : Nat) (x7 : Int) (y0_0 : PV) (y0_1 : Int) (y3 : PV) (y4 : PV) (y5 : List PV) : Option Res := loopAt Tryz.prog (spec_l13Book.E N) Tryz.f119 [(26, .own)] [1, 1, 1, 1, 1, 0, 1, 0] [] n ⟨mkSlots 56 [(0, .ptr 0 []), (2, .ptr 1 []), (3, .ptr 2 []), (4, .ref 3 []), (7, .sc (.int .i64 x7))], ohOf [.box 95 (.agg 95 [.con 0 22 y0_0, .sc (.int .i64 y0_1)]), .box 26 (.agg 26 [.nil, .nil]), .box 26 (.agg 26 [.ref 4 [], .ref 5 []]), .row 27 y3, .row 23 y4, .row 24 (PV.list y5)]⟩
theorem spec_l13Book.f_eq (N : Nat) (a0 : PV) : spec_l13Book.f N [a0] = (spec_l13Affixes.f N [(PV.agg [a0.fld 0, (PV.sc (.int .i64 ((a0.fld 1).toInt)))])]).bind fun t1 => (spec_l1Rd_pick.f N [(PV.agg [a0.fld 0, (PV.sc (.int .i64 (((t1.tail.headD default).fld 1).toInt)))]), (PV.sc (.int .i64 7))]).bind fun t2 => spec_l13Book.l0 N N ((t2.headD default).toInt) (a0.fld 0) (((t2.tail.headD default).fld 1).toInt) [] (t1.headD default) := by kernel_rfl
theorem spec_l13Book.l0_eq (N : Nat) (n : Nat) (x5 : Int) (y0_0 : PV) (y0_1 : Int) (y3 : List PV) (y4 : PV) : spec_l13Book.l0 N (n + 1) x5 y0_0 y0_1 y3 y4 = if decide (0 < x5) = true then ((spec_l13Word.f N [(PV.agg [y0_0, (PV.sc (.int .i64 y0_1))])]).bind fun t3 => (spec_l1Put.f N [(PV.list y3), (PV.sc (.string ((t3.headD default).toStr)))]).bind fun t4 => spec_l13Book.l1 N n (IntKind.i64.wrap (x5 - 1)) y0_0 (((t3.tail.headD default).fld 1).toInt) (t4.headD default) y4) else ((spec_l1Rd_pick.f N [(PV.agg [y0_0, (PV.sc (.int .i64 y0_1))]), (PV.sc (.int .i64 30))]).bind fun t5 => if decide (((t5.headD default).toInt) = 0) = true then (spec_l13Book.l2 N N 0 y0_0 (((t5.tail.headD default).fld 1).toInt) y3 y4) else (spec_l13Book.l3 N N 0 y0_0 (((t5.tail.headD default).fld 1).toInt) y3 y4)) := by kernel_rfl
theorem spec_l13Book.l1_eq (N : Nat) (n : Nat) (x5 : Int) (y0_0 : PV) (y0_1 : Int) (y3 : PV) (y4 : PV) : spec_l13Book.l1 N (n + 1) x5 y0_0 y0_1 y3 y4 = if decide (0 < x5) = true then ((spec_l13Word.f N [(PV.agg [y0_0, (PV.sc (.int .i64 y0_1))])]).bind fun t6 => (spec_l1Put.f N [y3, (PV.sc (.string ((t6.headD default).toStr)))]).bind fun t7 => spec_l13Book.l1 N n (IntKind.i64.wrap (x5 - 1)) y0_0 (((t6.tail.headD default).fld 1).toInt) (t7.headD default) y4) else ((spec_l1Rd_pick.f N [(PV.agg [y0_0, (PV.sc (.int .i64 y0_1))]), (PV.sc (.int .i64 30))]).bind fun t8 => if decide (((t8.headD default).toInt) = 0) = true then (spec_l13Book.l4 N N 0 y0_0 (((t8.tail.headD default).fld 1).toInt) y3 y4) else (spec_l13Book.l5 N N 0 y0_0 (((t8.tail.headD default).fld 1).toInt) y3 y4)) := by kernel_rfl
theorem spec_l13Book.l2_eq (N : Nat) (n : Nat) (x6 : Int) (y0_0 : PV) (y0_1 : Int) (y3 : List PV) (y4 : PV) : spec_l13Book.l2 N (n + 1) x6 y0_0 y0_1 y3 y4 = if decide ((y3.length : Int) < 24) = true then (if (ByteArray.mk #[119]).size + (bytesOfL [(PV.sc (.int .u8 (IntKind.u8.wrap (IntKind.i64.wrap (97 + x6)))))]).size ≤ 9223372036854775807 then ((spec_l1Put.f N [(PV.list y3), (PV.sc (.string ((ByteArray.mk #[119]) ++ (bytesOfL [(PV.sc (.int .u8 (IntKind.u8.wrap (IntKind.i64.wrap (97 + x6)))))]))))]).bind fun t9 => spec_l13Book.l4 N n (IntKind.i64.wrap (x6 + 1)) y0_0 y0_1 (t9.headD default) y4) else none) else (spec_l13Book.l3 N N 0 y0_0 y0_1 y3 y4) := by kernel_rfl
theorem spec_l13Book.l3_eq (N : Nat) (n : Nat) (x7 : Int) (y0_0 : PV) (y0_1 : Int) (y3 : List PV) (y4 : PV) : spec_l13Book.l3 N (n + 1) x7 y0_0 y0_1 y3 y4 = if decide (x7 < (y3.length : Int)) = true then (if 0 ≤ x7 then (if x7 < (y3.length : Int) then ((spec_l13Entry.f N [(PV.agg [y0_0, (PV.sc (.int .i64 y0_1))]), (PV.sc (.string (((PV.list y3).elem x7.toNat).toStr)))]).bind fun t10 => if ([] : List PV).length + ([(PV.agg [(PV.sc (.string (((t10.headD default).fld 0).toStr))), (PV.sc (.string (((t10.headD default).fld 1).toStr)))])]).length ≤ 4398046511104 then (spec_l13Book.l6 N n (IntKind.i64.wrap (x7 + 1)) y0_0 (((t10.tail.headD default).fld 1).toInt) y3 y4 (([] : List PV) ++ ([(PV.agg [(PV.sc (.string (((t10.headD default).fld 0).toStr))), (PV.sc (.string (((t10.headD default).fld 1).toStr)))])]))) else none) else none) else none) else (some [(PV.agg [y4, (PV.list [])]), (PV.agg [y0_0, (PV.sc (.int .i64 y0_1))])]) := by kernel_rfl
theorem spec_l13Book.l4_eq (N : Nat) (n : Nat) (x6 : Int) (y0_0 : PV) (y0_1 : Int) (y3 : PV) (y4 : PV) : spec_l13Book.l4 N (n + 1) x6 y0_0 y0_1 y3 y4 = if decide ((y3.items.length : Int) < 24) = true then (if (ByteArray.mk #[119]).size + (bytesOfL [(PV.sc (.int .u8 (IntKind.u8.wrap (IntKind.i64.wrap (97 + x6)))))]).size ≤ 9223372036854775807 then ((spec_l1Put.f N [y3, (PV.sc (.string ((ByteArray.mk #[119]) ++ (bytesOfL [(PV.sc (.int .u8 (IntKind.u8.wrap (IntKind.i64.wrap (97 + x6)))))]))))]).bind fun t11 => spec_l13Book.l4 N n (IntKind.i64.wrap (x6 + 1)) y0_0 y0_1 (t11.headD default) y4) else none) else (spec_l13Book.l5 N N 0 y0_0 y0_1 y3 y4) := by kernel_rfl
theorem spec_l13Book.l5_eq (N : Nat) (n : Nat) (x7 : Int) (y0_0 : PV) (y0_1 : Int) (y3 : PV) (y4 : PV) : spec_l13Book.l5 N (n + 1) x7 y0_0 y0_1 y3 y4 = if decide (x7 < (y3.items.length : Int)) = true then (if 0 ≤ x7 then (if x7 < (y3.items.length : Int) then ((spec_l13Entry.f N [(PV.agg [y0_0, (PV.sc (.int .i64 y0_1))]), (PV.sc (.string ((y3.elem x7.toNat).toStr)))]).bind fun t12 => if ([] : List PV).length + ([(PV.agg [(PV.sc (.string (((t12.headD default).fld 0).toStr))), (PV.sc (.string (((t12.headD default).fld 1).toStr)))])]).length ≤ 4398046511104 then (spec_l13Book.l7 N n (IntKind.i64.wrap (x7 + 1)) y0_0 (((t12.tail.headD default).fld 1).toInt) y3 y4 (([] : List PV) ++ ([(PV.agg [(PV.sc (.string (((t12.headD default).fld 0).toStr))), (PV.sc (.string (((t12.headD default).fld 1).toStr)))])]))) else none) else none) else none) else (some [(PV.agg [y4, (PV.list [])]), (PV.agg [y0_0, (PV.sc (.int .i64 y0_1))])]) := by kernel_rfl
theorem spec_l13Book.l6_eq (N : Nat) (n : Nat) (x7 : Int) (y0_0 : PV) (y0_1 : Int) (y3 : List PV) (y4 : PV) (y5 : List PV) : spec_l13Book.l6 N (n + 1) x7 y0_0 y0_1 y3 y4 y5 = if decide (x7 < (y3.length : Int)) = true then (if 0 ≤ x7 then (if x7 < (y3.length : Int) then ((spec_l13Entry.f N [(PV.agg [y0_0, (PV.sc (.int .i64 y0_1))]), (PV.sc (.string (((PV.list y3).elem x7.toNat).toStr)))]).bind fun t13 => if y5.length + ([(PV.agg [(PV.sc (.string (((t13.headD default).fld 0).toStr))), (PV.sc (.string (((t13.headD default).fld 1).toStr)))])]).length ≤ 4398046511104 then (spec_l13Book.l6 N n (IntKind.i64.wrap (x7 + 1)) y0_0 (((t13.tail.headD default).fld 1).toInt) y3 y4 (y5 ++ ([(PV.agg [(PV.sc (.string (((t13.headD default).fld 0).toStr))), (PV.sc (.string (((t13.headD default).fld 1).toStr)))])]))) else none) else none) else none) else (some [(PV.agg [y4, (PV.list y5)]), (PV.agg [y0_0, (PV.sc (.int .i64 y0_1))])]) := by kernel_rfl
theorem spec_l13Book.l7_eq (N : Nat) (n : Nat) (x7 : Int) (y0_0 : PV) (y0_1 : Int) (y3 : PV) (y4 : PV) (y5 : List PV) : spec_l13Book.l7 N (n + 1) x7 y0_0 y0_1 y3 y4 y5 = if decide (x7 < (y3.items.length : Int)) = true then (if 0 ≤ x7 then (if x7 < (y3.items.length : Int) then ((spec_l13Entry.f N [(PV.agg [y0_0, (PV.sc (.int .i64 y0_1))]), (PV.sc (.string ((y3.elem x7.toNat).toStr)))]).bind fun t14 => if y5.length + ([(PV.agg [(PV.sc (.string (((t14.headD default).fld 0).toStr))), (PV.sc (.string (((t14.headD default).fld 1).toStr)))])]).length ≤ 4398046511104 then (spec_l13Book.l7 N n (IntKind.i64.wrap (x7 + 1)) y0_0 (((t14.tail.headD default).fld 1).toInt) y3 y4 (y5 ++ ([(PV.agg [(PV.sc (.string (((t14.headD default).fld 0).toStr))), (PV.sc (.string (((t14.headD default).fld 1).toStr)))])]))) else none) else none) else none) else (some [(PV.agg [y4, (PV.list y5)]), (PV.agg [y0_0, (PV.sc (.int .i64 y0_1))])]) := by kernel_rfl
noncomputable def spec_l13Book.S (N : Nat) : ASpec := ⟨[(57, .box)], [(26, .own)], spec_l13Book.f N⟩
theorem spec_l13Book.ok (N : Nat) : FnOk Tryz.prog 119 (spec_l13Book.S N) := fnOk_of (E := spec_l13Book.E N) mix Tryz.func119 (by kernel_rfl) (by kernel_rfl) (by kernel_rfl) (lk_ok (all_cons (spec_l13Affixes.ok N) (all_cons (spec_l1Rd_pick.ok N) (all_cons (spec_l13Word.ok N) (all_cons (spec_l1Put.ok N) (all_cons (spec_l13Entry.ok N) all_nil)))))) (by kernel_rfl) (fun _ _ h => h)

/-! ### spec_l13AnyAffix: function 120, loop.example/medlar/spec.l13AnyAffix -/
noncomputable def spec_l13AnyAffix.E (N : Nat) : Env := ⟨lk [(160, spec_l13Affix.S N), (70, spec_l1Rd_pick.S N), (71, spec_l1Rd_of.S N)], nzk [], N, [(true, 95)], false⟩
noncomputable def spec_l13AnyAffix.f (N : Nat) (a : List PV) : Option Res := run Tryz.prog (spec_l13AnyAffix.E N) Tryz.f120 [(57, .box)] [(121, .val)] a
theorem spec_l13AnyAffix.f_eq (N : Nat) (a0 : PV) : spec_l13AnyAffix.f N [a0] = (spec_l13Affix.f N [(PV.agg [a0.fld 0, (PV.sc (.int .i64 ((a0.fld 1).toInt)))])]).bind fun t1 => (spec_l1Rd_pick.f N [(PV.agg [a0.fld 0, (PV.sc (.int .i64 (((t1.tail.headD default).fld 1).toInt)))]), (PV.sc (.int .i64 12))]).bind fun t2 => if decide (((t2.headD default).toInt) = 0) = true then ((spec_l1Rd_of.f N [(PV.agg [a0.fld 0, (PV.sc (.int .i64 (((t2.tail.headD default).fld 1).toInt)))]), (PV.list ([(PV.sc (.string (ByteArray.mk #[]))), (PV.sc (.string (ByteArray.mk #[115]))), (PV.sc (.string (ByteArray.mk #[65, 66]))), (PV.sc (.string (ByteArray.mk #[90])))]))]).bind fun t3 => some [(PV.agg [(PV.sc (.string ((t3.headD default).toStr))), (PV.sc (.bool (((t1.headD default).fld 1).toBool))), (PV.sc (.string (((t1.headD default).fld 2).toStr))), (PV.sc (.string (((t1.headD default).fld 3).toStr))), (PV.sc (.string (((t1.headD default).fld 4).toStr)))]), (PV.agg [a0.fld 0, (PV.sc (.int .i64 (((t3.tail.headD default).fld 1).toInt)))])]) else (if decide (((t2.headD default).toInt) = 1) = true then ((spec_l1Rd_of.f N [(PV.agg [a0.fld 0, (PV.sc (.int .i64 (((t2.tail.headD default).fld 1).toInt)))]), (PV.list ([(PV.sc (.string (ByteArray.mk #[121]))), (PV.sc (.string (ByteArray.mk #[97, 98, 99, 100, 101]))), (PV.sc (.string (ByteArray.mk #[]))), (PV.sc (.string (ByteArray.mk #[89])))]))]).bind fun t4 => some [(PV.agg [(PV.sc (.string (((t1.headD default).fld 0).toStr))), (PV.sc (.bool (((t1.headD default).fld 1).toBool))), (PV.sc (.string ((t4.headD default).toStr))), (PV.sc (.string (((t1.headD default).fld 3).toStr))), (PV.sc (.string (((t1.headD default).fld 4).toStr)))]), (PV.agg [a0.fld 0, (PV.sc (.int .i64 (((t4.tail.headD default).fld 1).toInt)))])]) else (if decide (((t2.headD default).toInt) = 2) = true then ((spec_l1Rd_of.f N [(PV.agg [a0.fld 0, (PV.sc (.int .i64 (((t2.tail.headD default).fld 1).toInt)))]), (PV.list ([(PV.sc (.string (ByteArray.mk #[121]))), (PV.sc (.string (ByteArray.mk #[116, 121]))), (PV.sc (.string (ByteArray.mk #[97, 98, 99, 100, 101]))), (PV.sc (.string (ByteArray.mk #[])))]))]).bind fun t5 => some [(PV.agg [(PV.sc (.string (((t1.headD default).fld 0).toStr))), (PV.sc (.bool (((t1.headD default).fld 1).toBool))), (PV.sc (.string (((t1.headD default).fld 2).toStr))), (PV.sc (.string (((t1.headD default).fld 3).toStr))), (PV.sc (.string ((t5.headD default).toStr)))]), (PV.agg [a0.fld 0, (PV.sc (.int .i64 (((t5.tail.headD default).fld 1).toInt)))])]) else (if decide (((t2.headD default).toInt) = 3) = true then (some [(PV.agg [(PV.sc (.string (((t1.headD default).fld 0).toStr))), (PV.sc (.bool (!(((t1.headD default).fld 1).toBool)))), (PV.sc (.string (((t1.headD default).fld 2).toStr))), (PV.sc (.string (((t1.headD default).fld 3).toStr))), (PV.sc (.string (((t1.headD default).fld 4).toStr)))]), (PV.agg [a0.fld 0, (PV.sc (.int .i64 (((t2.tail.headD default).fld 1).toInt)))])]) else (some [(PV.agg [(PV.sc (.string (((t1.headD default).fld 0).toStr))), (PV.sc (.bool (((t1.headD default).fld 1).toBool))), (PV.sc (.string (((t1.headD default).fld 2).toStr))), (PV.sc (.string (((t1.headD default).fld 3).toStr))), (PV.sc (.string (((t1.headD default).fld 4).toStr)))]), (PV.agg [a0.fld 0, (PV.sc (.int .i64 (((t2.tail.headD default).fld 1).toInt)))])])))) := by kernel_rfl
noncomputable def spec_l13AnyAffix.S (N : Nat) : ASpec := ⟨[(57, .box)], [(121, .val)], spec_l13AnyAffix.f N⟩
theorem spec_l13AnyAffix.ok (N : Nat) : FnOk Tryz.prog 120 (spec_l13AnyAffix.S N) := fnOk_of (E := spec_l13AnyAffix.E N) mix Tryz.func120 (by kernel_rfl) (by kernel_rfl) (by kernel_rfl) (lk_ok (all_cons (spec_l13Affix.ok N) (all_cons (spec_l1Rd_pick.ok N) (all_cons (spec_l1Rd_of.ok N) all_nil)))) (by kernel_rfl) (fun _ _ h => h)

/-! ### spec_l13AnyWord: function 80, loop.example/medlar/spec.l13AnyWord -/
noncomputable def spec_l13AnyWord.E (N : Nat) : Env := ⟨lk [(70, spec_l1Rd_pick.S N), (71, spec_l1Rd_of.S N), (75, spec_l13Word.S N)], nzk [], N, [(true, 95)], false⟩
noncomputable def spec_l13AnyWord.f (N : Nat) (a : List PV) : Option Res := run Tryz.prog (spec_l13AnyWord.E N) Tryz.f80 [(57, .box)] [(9, .val)] a
theorem spec_l13AnyWord.f_eq (N : Nat) (a0 : PV) : spec_l13AnyWord.f N [a0] = (spec_l1Rd_pick.f N [(PV.agg [a0.fld 0, (PV.sc (.int .i64 ((a0.fld 1).toInt)))]), (PV.sc (.int .i64 16))]).bind fun t1 => if decide (((t1.headD default).toInt) = 0) = true then ((spec_l1Rd_of.f N [(PV.agg [a0.fld 0, (PV.sc (.int .i64 (((t1.tail.headD default).fld 1).toInt)))]), (PV.list ([(PV.sc (.string (ByteArray.mk #[]))), (PV.sc (.string (ByteArray.mk #[67, 97, 116]))), (PV.sc (.string (ByteArray.mk #[97, 32, 98]))), (PV.sc (.string (ByteArray.mk #[97, 98, 99, 97, 98, 99, 97, 98, 99, 97, 98, 99, 97]))), (PV.sc (.string (ByteArray.mk #[120, 49]))), (PV.sc (.string (ByteArray.mk #[45])))]))]).bind fun t2 => some [(PV.sc (.string ((t2.headD default).toStr))), (PV.agg [a0.fld 0, (PV.sc (.int .i64 (((t2.tail.headD default).fld 1).toInt)))])]) else ((spec_l13Word.f N [(PV.agg [a0.fld 0, (PV.sc (.int .i64 (((t1.tail.headD default).fld 1).toInt)))])]).bind fun t3 => some [(PV.sc (.string ((t3.headD default).toStr))), (PV.agg [a0.fld 0, (PV.sc (.int .i64 (((t3.tail.headD default).fld 1).toInt)))])]) := by kernel_rfl
noncomputable def spec_l13AnyWord.S (N : Nat) : ASpec := ⟨[(57, .box)], [(9, .val)], spec_l13AnyWord.f N⟩
theorem spec_l13AnyWord.ok (N : Nat) : FnOk Tryz.prog 80 (spec_l13AnyWord.S N) := fnOk_of (E := spec_l13AnyWord.E N) mix Tryz.func80 (by kernel_rfl) (by kernel_rfl) (by kernel_rfl) (lk_ok (all_cons (spec_l1Rd_pick.ok N) (all_cons (spec_l1Rd_of.ok N) (all_cons (spec_l13Word.ok N) all_nil)))) (by kernel_rfl) (fun _ _ h => h)

/-! ### spec_l13AnyBook: function 69, loop.example/medlar/spec.l13AnyBook -/
noncomputable def spec_l13AnyBook.E (N : Nat) : Env := ⟨lk [(119, spec_l13Book.S N), (70, spec_l1Rd_pick.S N), (120, spec_l13AnyAffix.S N), (80, spec_l13AnyWord.S N), (71, spec_l1Rd_of.S N)], nzk [], N, [(true, 95)], false⟩
noncomputable def spec_l13AnyBook.f (N : Nat) (a : List PV) : Option Res := run Tryz.prog (spec_l13AnyBook.E N) Tryz.f69 [(57, .box)] [(26, .own)] a
theorem spec_l13AnyBook.f_eq (N : Nat) (a0 : PV) : spec_l13AnyBook.f N [a0] = (spec_l13Book.f N [(PV.agg [a0.fld 0, (PV.sc (.int .i64 ((a0.fld 1).toInt)))])]).bind fun t1 => (spec_l1Rd_pick.f N [(PV.agg [a0.fld 0, (PV.sc (.int .i64 (((t1.tail.headD default).fld 1).toInt)))]), (PV.sc (.int .i64 16))]).bind fun t2 => if decide (((t2.headD default).toInt) = 0) = true then ((spec_l13AnyAffix.f N [(PV.agg [a0.fld 0, (PV.sc (.int .i64 (((t2.tail.headD default).fld 1).toInt)))])]).bind fun t3 => if (((t1.headD default).fld 0).items).length + ([(PV.agg [(PV.sc (.string (((t3.headD default).fld 0).toStr))), (PV.sc (.bool (((t3.headD default).fld 1).toBool))), (PV.sc (.string (((t3.headD default).fld 2).toStr))), (PV.sc (.string (((t3.headD default).fld 3).toStr))), (PV.sc (.string (((t3.headD default).fld 4).toStr)))])]).length ≤ 1954687338268 then (some [(PV.agg [(PV.list ((((t1.headD default).fld 0).items) ++ ([(PV.agg [(PV.sc (.string (((t3.headD default).fld 0).toStr))), (PV.sc (.bool (((t3.headD default).fld 1).toBool))), (PV.sc (.string (((t3.headD default).fld 2).toStr))), (PV.sc (.string (((t3.headD default).fld 3).toStr))), (PV.sc (.string (((t3.headD default).fld 4).toStr)))])]))), (t1.headD default).fld 1]), (PV.agg [a0.fld 0, (PV.sc (.int .i64 (((t3.tail.headD default).fld 1).toInt)))])]) else none) else (if decide (((t2.headD default).toInt) = 1) = true then ((spec_l13AnyWord.f N [(PV.agg [a0.fld 0, (PV.sc (.int .i64 (((t2.tail.headD default).fld 1).toInt)))])]).bind fun t4 => (spec_l1Rd_of.f N [(PV.agg [a0.fld 0, (PV.sc (.int .i64 (((t4.tail.headD default).fld 1).toInt)))]), (PV.list ([(PV.sc (.string (ByteArray.mk #[]))), (PV.sc (.string (ByteArray.mk #[83, 71]))), (PV.sc (.string (ByteArray.mk #[115]))), (PV.sc (.string (ByteArray.mk #[65, 66, 67, 68, 69])))]))]).bind fun t5 => if (((t1.headD default).fld 1).items).length + ([(PV.agg [(PV.sc (.string ((t4.headD default).toStr))), (PV.sc (.string ((t5.headD default).toStr)))])]).length ≤ 4398046511104 then (some [(PV.agg [(t1.headD default).fld 0, (PV.list ((((t1.headD default).fld 1).items) ++ ([(PV.agg [(PV.sc (.string ((t4.headD default).toStr))), (PV.sc (.string ((t5.headD default).toStr)))])])))]), (PV.agg [a0.fld 0, (PV.sc (.int .i64 (((t5.tail.headD default).fld 1).toInt)))])]) else none) else (if decide (((t2.headD default).toInt) = 2) = true then (if decide (0 < ((((t1.headD default).fld 1).items).length : Int)) = true then ((spec_l1Rd_of.f N [(PV.agg [a0.fld 0, (PV.sc (.int .i64 (((t2.tail.headD default).fld 1).toInt)))]), (PV.list ([(PV.sc (.string (ByteArray.mk #[]))), (PV.sc (.string (ByteArray.mk #[122, 122]))), (PV.sc (.string (ByteArray.mk #[65])))]))]).bind fun t6 => if 0 ≤ 0 then (if 0 < ((((t1.headD default).fld 1).items).length : Int) then (some [(PV.agg [(t1.headD default).fld 0, (PV.list ((((t1.headD default).fld 1).items).set 0 (PV.agg ((((t1.headD default).fld 1).elem 0).parts.set 0 (PV.sc (.string ((t6.headD default).toStr)))))))]), (PV.agg [a0.fld 0, (PV.sc (.int .i64 (((t6.tail.headD default).fld 1).toInt)))])]) else none) else none) else (some [(PV.agg [(t1.headD default).fld 0, (t1.headD default).fld 1]), (PV.agg [a0.fld 0, (PV.sc (.int .i64 (((t2.tail.headD default).fld 1).toInt)))])])) else (some [(PV.agg [(t1.headD default).fld 0, (t1.headD default).fld 1]), (PV.agg [a0.fld 0, (PV.sc (.int .i64 (((t2.tail.headD default).fld 1).toInt)))])]))) := by kernel_rfl
noncomputable def spec_l13AnyBook.S (N : Nat) : ASpec := ⟨[(57, .box)], [(26, .own)], spec_l13AnyBook.f N⟩
theorem spec_l13AnyBook.ok (N : Nat) : FnOk Tryz.prog 69 (spec_l13AnyBook.S N) := fnOk_of (E := spec_l13AnyBook.E N) mix Tryz.func69 (by kernel_rfl) (by kernel_rfl) (by kernel_rfl) (lk_ok (all_cons (spec_l13Book.ok N) (all_cons (spec_l1Rd_pick.ok N) (all_cons (spec_l13AnyAffix.ok N) (all_cons (spec_l13AnyWord.ok N) (all_cons (spec_l1Rd_of.ok N) all_nil)))))) (by kernel_rfl) (fun _ _ h => h)

/-! ### spec_l2Flag: function 163, loop.example/medlar/spec.l2Flag -/
noncomputable def spec_l2Flag.E (N : Nat) : Env := ⟨lk [], nzk [], N, [], false⟩
noncomputable def spec_l2Flag.f (N : Nat) (a : List PV) : Option Res := run Tryz.prog (spec_l2Flag.E N) Tryz.f163 [(9, .ro)] [(4, .val)] a
theorem spec_l2Flag.f_eq (N : Nat) (a0 : PV) : spec_l2Flag.f N [a0] = if decide ((a0.toStr.size : Int) = 1) = true then (if 0 ≤ 0 then (if 0 < (a0.toStr.size : Int) then (if decide (65 ≤ ((a0.toStr.get! 0).toNat : Int)) = true then (if 0 ≤ 0 then (if 0 < (a0.toStr.size : Int) then (some [(PV.sc (.bool (decide (((a0.toStr.get! 0).toNat : Int) ≤ 90))))]) else none) else none) else (some [(PV.sc (.bool false))])) else none) else none) else (some [(PV.sc (.bool false))]) := by kernel_rfl
noncomputable def spec_l2Flag.S (N : Nat) : ASpec := ⟨[(9, .ro)], [(4, .val)], spec_l2Flag.f N⟩
theorem spec_l2Flag.ok (N : Nat) : FnOk Tryz.prog 163 (spec_l2Flag.S N) := fnOk_of (E := spec_l2Flag.E N) mix Tryz.func163 (by kernel_rfl) (by kernel_rfl) (by kernel_rfl) (lk_ok all_nil) (by kernel_rfl) (fun _ _ h => h)

/-! ### spec_l1Letters: function 87, loop.example/medlar/spec.l1Letters -/
noncomputable def spec_l1Letters.E (N : Nat) : Env := ⟨lk [], nzk [(2, ⟨[2, 3, 4, 6, 7, 8, 9, 10, 11, 12, 13, 14, 15, 16, 17, 18, 19, 20, 21, 22, 23, 24, 25], [], []⟩)], N, [], false⟩
noncomputable def spec_l1Letters.f (N : Nat) (a : List PV) : Option Res := run Tryz.prog (spec_l1Letters.E N) Tryz.f87 [(9, .ro), (3, .ro)] [(4, .val)] a
noncomputable def spec_l1Letters.l0 (N : Nat) (n : Nat) (x0 : ByteArray) (x1 : Int) (x5 : Int) : Option Res := loopAt Tryz.prog (spec_l1Letters.E N) Tryz.f87 [(4, .val)] [1, 0, 1, 0] [] n ⟨mkSlots 26 [(0, .sc (.string x0)), (1, .sc (.int .i64 x1)), (5, .sc (.int .i64 x5))], ohOf []⟩
theorem spec_l1Letters.f_eq (N : Nat) (a0 : PV) (a1 : PV) : spec_l1Letters.f N [a0, a1] = spec_l1Letters.l0 N N a0.toStr a1.toInt 0 := by kernel_rfl
theorem spec_l1Letters.l0_eq (N : Nat) (n : Nat) (x0 : ByteArray) (x1 : Int) (x5 : Int) : spec_l1Letters.l0 N (n + 1) x0 x1 x5 = if decide (x5 < (x0.size : Int)) = true then (if 0 ≤ x5 then (if x5 < (x0.size : Int) then (if decide (((x0.get! x5.toNat).toNat : Int) < 97) = false then (if 0 ≤ x5 then (if x5 < (x0.size : Int) then (if decide (122 < ((x0.get! x5.toNat).toNat : Int)) = true then (some [(PV.sc (.bool false))]) else (spec_l1Letters.l0 N n x0 x1 (IntKind.i64.wrap (x5 + 1)))) else none) else none) else (some [(PV.sc (.bool false))])) else none) else none) else (some [(PV.sc (.bool (decide ((x0.size : Int) ≤ x1))))]) := by kernel_rfl
noncomputable def spec_l1Letters.S (N : Nat) : ASpec := ⟨[(9, .ro), (3, .ro)], [(4, .val)], spec_l1Letters.f N⟩
theorem spec_l1Letters.ok (N : Nat) : FnOk Tryz.prog 87 (spec_l1Letters.S N) := fnOk_of (E := spec_l1Letters.E N) mix Tryz.func87 (by kernel_rfl) (by kernel_rfl) (by kernel_rfl) (lk_ok all_nil) (by kernel_rfl) (fun _ _ h => h)

/-! ### spec_l1Word: function 42, loop.example/medlar/spec.l1Word -/
noncomputable def spec_l1Word.E (N : Nat) : Env := ⟨lk [(87, spec_l1Letters.S N)], nzk [], N, [], false⟩
noncomputable def spec_l1Word.f (N : Nat) (a : List PV) : Option Res := run Tryz.prog (spec_l1Word.E N) Tryz.f42 [(9, .ro)] [(4, .val)] a
theorem spec_l1Word.f_eq (N : Nat) (a0 : PV) : spec_l1Word.f N [a0] = if decide (0 < (a0.toStr.size : Int)) = true then ((spec_l1Letters.f N [(PV.sc (.string a0.toStr)), (PV.sc (.int .i64 12))]).bind fun t1 => some [(PV.sc (.bool ((t1.headD default).toBool)))]) else (some [(PV.sc (.bool false))]) := by kernel_rfl
noncomputable def spec_l1Word.S (N : Nat) : ASpec := ⟨[(9, .ro)], [(4, .val)], spec_l1Word.f N⟩
theorem spec_l1Word.ok (N : Nat) : FnOk Tryz.prog 42 (spec_l1Word.S N) := fnOk_of (E := spec_l1Word.E N) mix Tryz.func42 (by kernel_rfl) (by kernel_rfl) (by kernel_rfl) (lk_ok (all_cons (spec_l1Letters.ok N) all_nil)) (by kernel_rfl) (fun _ _ h => h)

/-! ### spec_l2Entry: function 125, loop.example/medlar/spec.l2Entry -/
noncomputable def spec_l2Entry.E (N : Nat) : Env := ⟨lk [(163, spec_l2Flag.S N), (42, spec_l1Word.S N)], nzk [(2, ⟨[0, 2, 4, 5, 6, 7, 8, 9, 10, 11, 12, 13, 14, 15, 16, 17, 18, 19, 20, 21, 22, 23, 24, 25, 26, 27, 28, 29, 30, 31, 32, 33, 34, 35, 36, 37, 38, 39, 40, 41, 42, 43], [], []⟩)], N, [], false⟩
noncomputable def spec_l2Entry.f (N : Nat) (a : List PV) : Option Res := run Tryz.prog (spec_l2Entry.E N) Tryz.f125 [(99, .ro)] [(4, .val)] a
noncomputable def spec_l2Entry.l0 (N : Nat) (n : Nat) (x3 : Int) (y0_0 : ByteArray) (y0_1 : ByteArray) : Option Res := loopAt Tryz.prog (spec_l2Entry.E N) Tryz.f125 [(4, .val)] [1, 0, 1, 0] [] n ⟨mkSlots 44 [(1, .ptr 0 []), (3, .sc (.int .i64 x3))], ohOf [.box 99 (.agg 99 [.sc (.string y0_0), .sc (.string y0_1)])]⟩
theorem spec_l2Entry.f_eq (N : Nat) (a0 : PV) : spec_l2Entry.f N [a0] = spec_l2Entry.l0 N N 0 ((a0.fld 0).toStr) ((a0.fld 1).toStr) := by kernel_rfl
theorem spec_l2Entry.l0_eq (N : Nat) (n : Nat) (x3 : Int) (y0_0 : ByteArray) (y0_1 : ByteArray) : spec_l2Entry.l0 N (n + 1) x3 y0_0 y0_1 = if decide (x3 < (y0_1.size : Int)) = true then (if 0 ≤ x3 then (if x3 ≤ (IntKind.i64.wrap (x3 + 1)) then (if (IntKind.i64.wrap (x3 + 1)) ≤ (y0_1.size : Int) then ((spec_l2Flag.f N [(PV.sc (.string (y0_1.extract x3.toNat ((IntKind.i64.wrap (x3 + 1)).toNat))))]).bind fun t1 => if (!((t1.headD default).toBool)) = false then (if decide (0 < x3) = true then (if 0 ≤ (IntKind.i64.wrap (x3 - 1)) then (if (IntKind.i64.wrap (x3 - 1)) < (y0_1.size : Int) then (if 0 ≤ x3 then (if x3 < (y0_1.size : Int) then (if decide (((y0_1.get! x3.toNat).toNat : Int) ≤ ((y0_1.get! (IntKind.i64.wrap (x3 - 1)).toNat).toNat : Int)) = true then (some [(PV.sc (.bool false))]) else (spec_l2Entry.l0 N n (IntKind.i64.wrap (x3 + 1)) y0_0 y0_1)) else none) else none) else none) else none) else (spec_l2Entry.l0 N n (IntKind.i64.wrap (x3 + 1)) y0_0 y0_1)) else (some [(PV.sc (.bool false))])) else none) else none) else none) else ((spec_l1Word.f N [(PV.sc (.string y0_0))]).bind fun t2 => if (t2.headD default).toBool = true then (some [(PV.sc (.bool (decide ((y0_1.size : Int) ≤ 4))))]) else (some [(PV.sc (.bool false))])) := by kernel_rfl
noncomputable def spec_l2Entry.S (N : Nat) : ASpec := ⟨[(99, .ro)], [(4, .val)], spec_l2Entry.f N⟩
theorem spec_l2Entry.ok (N : Nat) : FnOk Tryz.prog 125 (spec_l2Entry.S N) := fnOk_of (E := spec_l2Entry.E N) mix Tryz.func125 (by kernel_rfl) (by kernel_rfl) (by kernel_rfl) (lk_ok (all_cons (spec_l2Flag.ok N) (all_cons (spec_l1Word.ok N) all_nil))) (by kernel_rfl) (fun _ _ h => h)

/-! ### spec_l2Begins: function 182, loop.example/medlar/spec.l2Begins -/
noncomputable def spec_l2Begins.E (N : Nat) : Env := ⟨lk [], nzk [], N, [], false⟩
noncomputable def spec_l2Begins.f (N : Nat) (a : List PV) : Option Res := run Tryz.prog (spec_l2Begins.E N) Tryz.f182 [(9, .ro), (9, .ro)] [(4, .val)] a
theorem spec_l2Begins.f_eq (N : Nat) (a0 : PV) (a1 : PV) : spec_l2Begins.f N [a0, a1] = if decide ((a1.toStr.size : Int) ≤ (a0.toStr.size : Int)) = true then (if 0 ≤ (a1.toStr.size : Int) then (if (a1.toStr.size : Int) ≤ (a0.toStr.size : Int) then (some [(PV.sc (.bool (decide ((a0.toStr.extract 0 a1.toStr.size).toList = a1.toStr.toList))))]) else none) else none) else (some [(PV.sc (.bool false))]) := by kernel_rfl
noncomputable def spec_l2Begins.S (N : Nat) : ASpec := ⟨[(9, .ro), (9, .ro)], [(4, .val)], spec_l2Begins.f N⟩
theorem spec_l2Begins.ok (N : Nat) : FnOk Tryz.prog 182 (spec_l2Begins.S N) := fnOk_of (E := spec_l2Begins.E N) mix Tryz.func182 (by kernel_rfl) (by kernel_rfl) (by kernel_rfl) (lk_ok all_nil) (by kernel_rfl) (fun _ _ h => h)

/-! ### spec_l2Ends: function 183, loop.example/medlar/spec.l2Ends -/
noncomputable def spec_l2Ends.E (N : Nat) : Env := ⟨lk [], nzk [], N, [], false⟩
noncomputable def spec_l2Ends.f (N : Nat) (a : List PV) : Option Res := run Tryz.prog (spec_l2Ends.E N) Tryz.f183 [(9, .ro), (9, .ro)] [(4, .val)] a
theorem spec_l2Ends.f_eq (N : Nat) (a0 : PV) (a1 : PV) : spec_l2Ends.f N [a0, a1] = if decide ((a1.toStr.size : Int) ≤ (a0.toStr.size : Int)) = true then (if 0 ≤ (IntKind.i64.wrap ((a0.toStr.size : Int) - (a1.toStr.size : Int))) then (if (IntKind.i64.wrap ((a0.toStr.size : Int) - (a1.toStr.size : Int))) ≤ (a0.toStr.size : Int) then (some [(PV.sc (.bool (decide ((a0.toStr.extract ((IntKind.i64.wrap ((a0.toStr.size : Int) - (a1.toStr.size : Int))).toNat) a0.toStr.size).toList = a1.toStr.toList))))]) else none) else none) else (some [(PV.sc (.bool false))]) := by kernel_rfl
noncomputable def spec_l2Ends.S (N : Nat) : ASpec := ⟨[(9, .ro), (9, .ro)], [(4, .val)], spec_l2Ends.f N⟩
theorem spec_l2Ends.ok (N : Nat) : FnOk Tryz.prog 183 (spec_l2Ends.S N) := fnOk_of (E := spec_l2Ends.E N) mix Tryz.func183 (by kernel_rfl) (by kernel_rfl) (by kernel_rfl) (lk_ok all_nil) (by kernel_rfl) (fun _ _ h => h)

/-! ### spec_AffixOk: function 164, loop.example/medlar/spec.AffixOk -/
noncomputable def spec_AffixOk.E (N : Nat) : Env := ⟨lk [(163, spec_l2Flag.S N), (87, spec_l1Letters.S N), (182, spec_l2Begins.S N), (183, spec_l2Ends.S N)], nzk [], N, [], false⟩
noncomputable def spec_AffixOk.f (N : Nat) (a : List PV) : Option Res := run Tryz.prog (spec_AffixOk.E N) Tryz.f164 [(121, .ro)] [(4, .val)] a
theorem spec_AffixOk.f_eq (N : Nat) (a0 : PV) : spec_AffixOk.f N [a0] = (spec_l2Flag.f N [(PV.sc (.string ((a0.fld 0).toStr)))]).bind fun t1 => if (!((t1.headD default).toBool)) = false then ((spec_l1Letters.f N [(PV.sc (.string ((a0.fld 2).toStr))), (PV.sc (.int .i64 4))]).bind fun t2 => if (!((t2.headD default).toBool)) = false then ((spec_l1Letters.f N [(PV.sc (.string ((a0.fld 3).toStr))), (PV.sc (.int .i64 4))]).bind fun t3 => if (!((t3.headD default).toBool)) = false then ((spec_l1Letters.f N [(PV.sc (.string ((a0.fld 4).toStr))), (PV.sc (.int .i64 4))]).bind fun t4 => if (!((t4.headD default).toBool)) = true then (some [(PV.sc (.bool false))]) else (if (a0.fld 1).toBool = true then ((spec_l2Begins.f N [(PV.sc (.string ((a0.fld 4).toStr))), (PV.sc (.string ((a0.fld 2).toStr)))]).bind fun t5 => some [(PV.sc (.bool ((t5.headD default).toBool)))]) else ((spec_l2Ends.f N [(PV.sc (.string ((a0.fld 4).toStr))), (PV.sc (.string ((a0.fld 2).toStr)))]).bind fun t6 => some [(PV.sc (.bool ((t6.headD default).toBool)))]))) else (some [(PV.sc (.bool false))])) else (some [(PV.sc (.bool false))])) else (some [(PV.sc (.bool false))]) := by kernel_rfl
noncomputable def spec_AffixOk.S (N : Nat) : ASpec := ⟨[(121, .ro)], [(4, .val)], spec_AffixOk.f N⟩
theorem spec_AffixOk.ok (N : Nat) : FnOk Tryz.prog 164 (spec_AffixOk.S N) := fnOk_of (E := spec_AffixOk.E N) mix Tryz.func164 (by kernel_rfl) (by kernel_rfl) (by kernel_rfl) (lk_ok (all_cons (spec_l2Flag.ok N) (all_cons (spec_l1Letters.ok N) (all_cons (spec_l2Begins.ok N) (all_cons (spec_l2Ends.ok N) all_nil))))) (by kernel_rfl) (fun _ _ h => h)

/-! ### spec_l2Affixes: function 126, loop.example/medlar/spec.l2Affixes -/
noncomputable def spec_l2Affixes.E (N : Nat) : Env := ⟨lk [(164, spec_AffixOk.S N)], nzk [(2, ⟨[1, 2, 4, 5, 6, 7, 8, 9, 10, 11, 12, 13, 14, 15, 16, 17, 18, 19, 20, 21, 22, 23, 24, 25, 26, 27, 28, 29, 30, 31, 32, 33], [], []⟩), (7, ⟨[1, 2, 5, 6, 7, 8, 9, 10, 11, 12, 13, 14, 15, 16, 17, 18, 19, 20, 21, 22, 23, 24, 25, 26, 27, 28, 29, 30, 31, 32, 33], [], []⟩)], N, [], false⟩
noncomputable def spec_l2Affixes.f (N : Nat) (a : List PV) : Option Res := run Tryz.prog (spec_l2Affixes.E N) Tryz.f126 [(23, .ro)] [(4, .val)] a
noncomputable def spec_l2Affixes.l0 (N : Nat) (n : Nat) (x0 : PV) (x3 : Int) : Option Res := loopAt Tryz.prog (spec_l2Affixes.E N) Tryz.f126 [(4, .val)] [1, 0, 1, 0] [] n ⟨mkSlots 34 [(0, .ro 23 x0), (3, .sc (.int .i64 x3))], ohOf []⟩
noncomputable def spec_l2Affixes.l1 (N : Nat) (m0 : Nat) (n : Nat) (x0 : PV) (x3 : Int) (x4 : Int) : Option Res := loopAt Tryz.prog (spec_l2Affixes.E N) Tryz.f126 [(4, .val)] [1, 0, 1, 0, 0, 1, 0, 0, 1, 1, 0] [m0] n ⟨mkSlots 34 [(0, .ro 23 x0), (3, .sc (.int .i64 x3)), (4, .sc (.int .i64 x4))], ohOf []⟩
theorem spec_l2Affixes.f_eq (N : Nat) (a0 : PV) : spec_l2Affixes.f N [a0] = spec_l2Affixes.l0 N N a0 0 := by kernel_rfl
theorem spec_l2Affixes.l0_eq (N : Nat) (n : Nat) (x0 : PV) (x3 : Int) : spec_l2Affixes.l0 N (n + 1) x0 x3 = if decide (x3 < (x0.items.length : Int)) = true then (if 0 ≤ x3 then (if x3 < (x0.items.length : Int) then ((spec_AffixOk.f N [(PV.agg [(PV.sc (.string (((x0.elem x3.toNat).fld 0).toStr))), (PV.sc (.bool (((x0.elem x3.toNat).fld 1).toBool))), (PV.sc (.string (((x0.elem x3.toNat).fld 2).toStr))), (PV.sc (.string (((x0.elem x3.toNat).fld 3).toStr))), (PV.sc (.string (((x0.elem x3.toNat).fld 4).toStr)))])]).bind fun t1 => if (!((t1.headD default).toBool)) = true then (some [(PV.sc (.bool false))]) else (spec_l2Affixes.l1 N n N x0 x3 0)) else none) else none) else (some [(PV.sc (.bool (decide ((x0.items.length : Int) ≤ 8))))]) := by kernel_rfl
theorem spec_l2Affixes.l1_eq (N : Nat) (m0 : Nat) (n : Nat) (x0 : PV) (x3 : Int) (x4 : Int) : spec_l2Affixes.l1 N m0 (n + 1) x0 x3 x4 = if decide (x4 < x3) = true then (if 0 ≤ x4 then (if x4 < (x0.items.length : Int) then (if 0 ≤ x3 then (if x3 < (x0.items.length : Int) then (if (decide ((((x0.elem x4.toNat).fld 0).toStr).toList = (((x0.elem x3.toNat).fld 0).toStr).toList) && (((((x0.elem x4.toNat).fld 1).toBool) == (((x0.elem x3.toNat).fld 1).toBool)) && (decide ((((x0.elem x4.toNat).fld 2).toStr).toList = (((x0.elem x3.toNat).fld 2).toStr).toList) && (decide ((((x0.elem x4.toNat).fld 3).toStr).toList = (((x0.elem x3.toNat).fld 3).toStr).toList) && (decide ((((x0.elem x4.toNat).fld 4).toStr).toList = (((x0.elem x3.toNat).fld 4).toStr).toList) && true))))) = true then (some [(PV.sc (.bool false))]) else (spec_l2Affixes.l1 N m0 n x0 x3 (IntKind.i64.wrap (x4 + 1)))) else none) else none) else none) else none) else (spec_l2Affixes.l0 N m0 x0 (IntKind.i64.wrap (x3 + 1))) := by kernel_rfl
noncomputable def spec_l2Affixes.S (N : Nat) : ASpec := ⟨[(23, .ro)], [(4, .val)], spec_l2Affixes.f N⟩
theorem spec_l2Affixes.ok (N : Nat) : FnOk Tryz.prog 126 (spec_l2Affixes.S N) := fnOk_of (E := spec_l2Affixes.E N) mix Tryz.func126 (by kernel_rfl) (by kernel_rfl) (by kernel_rfl) (lk_ok (all_cons (spec_AffixOk.ok N) all_nil)) (by kernel_rfl) (fun _ _ h => h)

/-! ### spec_BookOk: function 82, loop.example/medlar/spec.BookOk -/
noncomputable def spec_BookOk.E (N : Nat) : Env := ⟨lk [(125, spec_l2Entry.S N), (126, spec_l2Affixes.S N)], nzk [(2, ⟨[0, 2, 4, 5, 6, 7, 8, 9, 10, 11, 12, 13, 14, 15, 16, 17, 18, 19, 20, 21, 22, 23, 24, 25, 26, 27, 28, 29, 30, 31, 32, 33, 34, 35, 36, 37, 38, 39, 40, 41, 42, 43, 44, 45, 46], [], []⟩)], N, [], false⟩
noncomputable def spec_BookOk.f (N : Nat) (a : List PV) : Option Res := run Tryz.prog (spec_BookOk.E N) Tryz.f82 [(26, .ro)] [(4, .val)] a
noncomputable def spec_BookOk.l0 (N : Nat) (n : Nat) (x3 : Int) (y0_0 : PV) (y0_1 : PV) : Option Res := loopAt Tryz.prog (spec_BookOk.E N) Tryz.f82 [(4, .val)] [1, 0, 1, 0] [] n ⟨mkSlots 47 [(1, .ptr 0 []), (3, .sc (.int .i64 x3))], ohOf [.box 26 (.agg 26 [.ro 23 y0_0, .ro 24 y0_1])]⟩
theorem spec_BookOk.f_eq (N : Nat) (a0 : PV) : spec_BookOk.f N [a0] = spec_BookOk.l0 N N 0 (a0.fld 0) (a0.fld 1) := by kernel_rfl
theorem spec_BookOk.l0_eq (N : Nat) (n : Nat) (x3 : Int) (y0_0 : PV) (y0_1 : PV) : spec_BookOk.l0 N (n + 1) x3 y0_0 y0_1 = if decide (x3 < (y0_1.items.length : Int)) = true then (if 0 ≤ x3 then (if x3 < (y0_1.items.length : Int) then ((spec_l2Entry.f N [(PV.agg [(PV.sc (.string (((y0_1.elem x3.toNat).fld 0).toStr))), (PV.sc (.string (((y0_1.elem x3.toNat).fld 1).toStr)))])]).bind fun t1 => if (!((t1.headD default).toBool)) = false then (if decide (0 < x3) = true then (if 0 ≤ (IntKind.i64.wrap (x3 - 1)) then (if (IntKind.i64.wrap (x3 - 1)) < (y0_1.items.length : Int) then (if 0 ≤ x3 then (if x3 < (y0_1.items.length : Int) then (if (!Op.bytesLess (((y0_1.elem ((IntKind.i64.wrap (x3 - 1)).toNat)).fld 0).toStr).toList (((y0_1.elem x3.toNat).fld 0).toStr).toList) = true then (some [(PV.sc (.bool false))]) else (spec_BookOk.l0 N n (IntKind.i64.wrap (x3 + 1)) y0_0 y0_1)) else none) else none) else none) else none) else (spec_BookOk.l0 N n (IntKind.i64.wrap (x3 + 1)) y0_0 y0_1)) else (some [(PV.sc (.bool false))])) else none) else none) else ((spec_l2Affixes.f N [y0_0]).bind fun t2 => if (t2.headD default).toBool = true then (some [(PV.sc (.bool (decide ((y0_1.items.length : Int) ≤ 24))))]) else (some [(PV.sc (.bool false))])) := by kernel_rfl
noncomputable def spec_BookOk.S (N : Nat) : ASpec := ⟨[(26, .ro)], [(4, .val)], spec_BookOk.f N⟩
theorem spec_BookOk.ok (N : Nat) : FnOk Tryz.prog 82 (spec_BookOk.S N) := fnOk_of (E := spec_BookOk.E N) mix Tryz.func82 (by kernel_rfl) (by kernel_rfl) (by kernel_rfl) (lk_ok (all_cons (spec_l2Entry.ok N) (all_cons (spec_l2Affixes.ok N) all_nil))) (by kernel_rfl) (fun _ _ h => h)

/-! ### spec_l2Has: function 165, loop.example/medlar/spec.l2Has -/
noncomputable def spec_l2Has.E (N : Nat) : Env := ⟨lk [], nzk [(2, ⟨[2, 3, 4, 6, 7, 8, 9, 10, 11, 12, 13, 14, 15, 16, 17, 18], [], []⟩)], N, [], false⟩
noncomputable def spec_l2Has.f (N : Nat) (a : List PV) : Option Res := run Tryz.prog (spec_l2Has.E N) Tryz.f165 [(9, .ro), (9, .ro)] [(4, .val)] a
noncomputable def spec_l2Has.l0 (N : Nat) (n : Nat) (x0 : ByteArray) (x1 : ByteArray) (x5 : Int) : Option Res := loopAt Tryz.prog (spec_l2Has.E N) Tryz.f165 [(4, .val)] [1, 0, 1, 0] [] n ⟨mkSlots 19 [(0, .sc (.string x0)), (1, .sc (.string x1)), (5, .sc (.int .i64 x5))], ohOf []⟩
theorem spec_l2Has.f_eq (N : Nat) (a0 : PV) (a1 : PV) : spec_l2Has.f N [a0, a1] = spec_l2Has.l0 N N a0.toStr a1.toStr 0 := by kernel_rfl
theorem spec_l2Has.l0_eq (N : Nat) (n : Nat) (x0 : ByteArray) (x1 : ByteArray) (x5 : Int) : spec_l2Has.l0 N (n + 1) x0 x1 x5 = if decide (x5 < (x0.size : Int)) = true then (if 0 ≤ x5 then (if x5 ≤ (IntKind.i64.wrap (x5 + 1)) then (if (IntKind.i64.wrap (x5 + 1)) ≤ (x0.size : Int) then (if decide ((x0.extract x5.toNat ((IntKind.i64.wrap (x5 + 1)).toNat)).toList = x1.toList) = true then (some [(PV.sc (.bool true))]) else (spec_l2Has.l0 N n x0 x1 (IntKind.i64.wrap (x5 + 1)))) else none) else none) else none) else (some [(PV.sc (.bool false))]) := by kernel_rfl
noncomputable def spec_l2Has.S (N : Nat) : ASpec := ⟨[(9, .ro), (9, .ro)], [(4, .val)], spec_l2Has.f N⟩
theorem spec_l2Has.ok (N : Nat) : FnOk Tryz.prog 165 (spec_l2Has.S N) := fnOk_of (E := spec_l2Has.E N) mix Tryz.func165 (by kernel_rfl) (by kernel_rfl) (by kernel_rfl) (lk_ok all_nil) (by kernel_rfl) (fun _ _ h => h)

/-! ### spec_l2Do: function 166, loop.example/medlar/spec.l2Do -/
noncomputable def spec_l2Do.E (N : Nat) : Env := ⟨lk [(182, spec_l2Begins.S N), (42, spec_l1Word.S N), (183, spec_l2Ends.S N)], nzk [], N, [], false⟩
noncomputable def spec_l2Do.f (N : Nat) (a : List PV) : Option Res := run Tryz.prog (spec_l2Do.E N) Tryz.f166 [(121, .ro), (9, .ro)] [(9, .val), (4, .val)] a
theorem spec_l2Do.f_eq (N : Nat) (a0 : PV) (a1 : PV) : spec_l2Do.f N [a0, a1] = if (a0.fld 1).toBool = true then ((spec_l2Begins.f N [(PV.sc (.string a1.toStr)), (PV.sc (.string ((a0.fld 4).toStr)))]).bind fun t1 => if (!((t1.headD default).toBool)) = true then (some [(PV.sc (.string (ByteArray.mk #[]))), (PV.sc (.bool false))]) else (if 0 ≤ (((a0.fld 2).toStr).size : Int) then (if (((a0.fld 2).toStr).size : Int) ≤ (a1.toStr.size : Int) then (if ((a0.fld 3).toStr).size + (a1.toStr.extract (((a0.fld 2).toStr).size) a1.toStr.size).size ≤ 9223372036854775807 then ((spec_l1Word.f N [(PV.sc (.string (((a0.fld 3).toStr) ++ (a1.toStr.extract (((a0.fld 2).toStr).size) a1.toStr.size))))]).bind fun t2 => some [(PV.sc (.string (((a0.fld 3).toStr) ++ (a1.toStr.extract (((a0.fld 2).toStr).size) a1.toStr.size)))), (PV.sc (.bool ((t2.headD default).toBool)))]) else none) else none) else none)) else ((spec_l2Ends.f N [(PV.sc (.string a1.toStr)), (PV.sc (.string ((a0.fld 4).toStr)))]).bind fun t3 => if (!((t3.headD default).toBool)) = true then (some [(PV.sc (.string (ByteArray.mk #[]))), (PV.sc (.bool false))]) else (if 0 ≤ (IntKind.i64.wrap ((a1.toStr.size : Int) - (((a0.fld 2).toStr).size : Int))) then (if (IntKind.i64.wrap ((a1.toStr.size : Int) - (((a0.fld 2).toStr).size : Int))) ≤ (a1.toStr.size : Int) then (if (a1.toStr.extract 0 ((IntKind.i64.wrap ((a1.toStr.size : Int) - (((a0.fld 2).toStr).size : Int))).toNat)).size + ((a0.fld 3).toStr).size ≤ 9223372036854775807 then ((spec_l1Word.f N [(PV.sc (.string ((a1.toStr.extract 0 ((IntKind.i64.wrap ((a1.toStr.size : Int) - (((a0.fld 2).toStr).size : Int))).toNat)) ++ ((a0.fld 3).toStr))))]).bind fun t4 => some [(PV.sc (.string ((a1.toStr.extract 0 ((IntKind.i64.wrap ((a1.toStr.size : Int) - (((a0.fld 2).toStr).size : Int))).toNat)) ++ ((a0.fld 3).toStr)))), (PV.sc (.bool ((t4.headD default).toBool)))]) else none) else none) else none)) := by kernel_rfl
noncomputable def spec_l2Do.S (N : Nat) : ASpec := ⟨[(121, .ro), (9, .ro)], [(9, .val), (4, .val)], spec_l2Do.f N⟩
theorem spec_l2Do.ok (N : Nat) : FnOk Tryz.prog 166 (spec_l2Do.S N) := fnOk_of (E := spec_l2Do.E N) mix Tryz.func166 (by kernel_rfl) (by kernel_rfl) (by kernel_rfl) (lk_ok (all_cons (spec_l2Begins.ok N) (all_cons (spec_l1Word.ok N) (all_cons (spec_l2Ends.ok N) all_nil)))) (by kernel_rfl) (fun _ _ h => h)

/-! ### spec_l2One: function 127, loop.example/medlar/spec.l2One -/
noncomputable def spec_l2One.E (N : Nat) : Env := ⟨lk [(165, spec_l2Has.S N), (166, spec_l2Do.S N), (79, spec_l1Put.S N)], nzk [(3, ⟨[4, 5, 6, 7, 8, 11, 12, 13, 14, 15, 16, 17, 18, 19, 20, 21, 22, 23, 24, 25, 26, 27, 28, 29, 30, 31, 32, 33, 34, 35, 36, 37, 38, 39, 40, 41, 42, 43, 44, 45, 46, 47, 48, 49, 50, 51, 52, 53, 54, 55, 56, 57, 58, 59, 60, 61, 62], [(9, 27)], []⟩), (7, ⟨[4, 5, 6, 7, 8, 12, 13, 14, 15, 16, 17, 18, 19, 20, 21, 22, 23, 24, 25, 26, 27, 28, 29, 30, 31, 32, 33, 34, 35, 36, 37, 38, 39, 40, 41, 42, 43, 44, 45, 46, 47, 48, 49, 50, 51, 52, 53, 54, 55, 56, 57, 58, 59, 60, 61, 62], [(9, 27)], []⟩)], N, [], false⟩
noncomputable def spec_l2One.f (N : Nat) (a : List PV) : Option Res := run Tryz.prog (spec_l2One.E N) Tryz.f127 [(23, .ro), (9, .ro), (4, .ro), (27, .ro)] [(27, .own)] a
noncomputable def spec_l2One.l0 (N : Nat) (n : Nat) (x0 : PV) (x1 : ByteArray) (x2 : Bool) (x3 : PV) (x10 : Int) (y0 : List PV) : Option Res := loopAt Tryz.prog (spec_l2One.E N) Tryz.f127 [(27, .own)] [1, 1, 0, 1, 0] [] n ⟨mkSlots 63 [(0, .ro 23 x0), (1, .sc (.string x1)), (2, .sc (.bool x2)), (3, .ro 27 x3), (9, .ref 0 []), (10, .sc (.int .i64 x10))], ohOf [.row 27 (PV.list y0)]⟩
noncomputable def spec_l2One.l1 (N : Nat) (m0 : Nat) (n : Nat) (x0 : PV) (x1 : ByteArray) (x2 : Bool) (x3 : PV) (x10 : Int) (x11 : Int) (y0 : List PV) : Option Res := loopAt Tryz.prog (spec_l2One.E N) Tryz.f127 [(27, .own)] [1, 1, 0, 1, 0, 0, 1, 0, 0, 1, 1, 0] [m0] n ⟨mkSlots 63 [(0, .ro 23 x0), (1, .sc (.string x1)), (2, .sc (.bool x2)), (3, .ro 27 x3), (9, .ref 0 []), (10, .sc (.int .i64 x10)), (11, .sc (.int .i64 x11))], ohOf [.row 27 (PV.list y0)]⟩
noncomputable def spec_l2One.l2 (N : Nat) (m0 : Nat) (n : Nat) (x0 : PV) (x1 : ByteArray) (x2 : Bool) (x3 : PV) (x10 : Int) (x11 : Int) (y0 : PV) : Option Res := loopAt Tryz.prog (spec_l2One.E N) Tryz.f127 [(27, .own)] [1, 1, 0, 1, 0, 0, 1, 0, 0, 1, 1, 0] [m0] n ⟨mkSlots 63 [(0, .ro 23 x0), (1, .sc (.string x1)), (2, .sc (.bool x2)), (3, .ro 27 x3), (9, .ref 0 []), (10, .sc (.int .i64 x10)), (11, .sc (.int .i64 x11))], ohOf [.row 27 y0]⟩
noncomputable def spec_l2One.l3 (N : Nat) (n : Nat) (x0 : PV) (x1 : ByteArray) (x2 : Bool) (x3 : PV) (x10 : Int) (y0 : PV) : Option Res := loopAt Tryz.prog (spec_l2One.E N) Tryz.f127 [(27, .own)] [1, 1, 0, 1, 0] [] n ⟨mkSlots 63 [(0, .ro 23 x0), (1, .sc (.string x1)), (2, .sc (.bool x2)), (3, .ro 27 x3), (9, .ref 0 []), (10, .sc (.int .i64 x10))], ohOf [.row 27 y0]⟩
theorem spec_l2One.f_eq (N : Nat) (a0 : PV) (a1 : PV) (a2 : PV) (a3 : PV) : spec_l2One.f N [a0, a1, a2, a3] = if ([] : List PV).length + a3.items.length ≤ 8796093022208 then (spec_l2One.l0 N N a0 a1.toStr a2.toBool a3 0 (([] : List PV) ++ a3.items)) else none := by kernel_rfl
theorem spec_l2One.l0_eq (N : Nat) (n : Nat) (x0 : PV) (x1 : ByteArray) (x2 : Bool) (x3 : PV) (x10 : Int) (y0 : List PV) : spec_l2One.l0 N (n + 1) x0 x1 x2 x3 x10 y0 = if decide (x10 < (x0.items.length : Int)) = true then (if 0 ≤ x10 then (if x10 < (x0.items.length : Int) then (if ((((x0.elem x10.toNat).fld 1).toBool) != x2) = false then (if 0 ≤ x10 then (if x10 < (x0.items.length : Int) then ((spec_l2Has.f N [(PV.sc (.string x1)), (PV.sc (.string (((x0.elem x10.toNat).fld 0).toStr)))]).bind fun t1 => if (!((t1.headD default).toBool)) = true then (spec_l2One.l0 N n x0 x1 x2 x3 (IntKind.i64.wrap (x10 + 1)) y0) else (spec_l2One.l1 N n N x0 x1 x2 x3 x10 0 y0)) else none) else none) else (spec_l2One.l0 N n x0 x1 x2 x3 (IntKind.i64.wrap (x10 + 1)) y0)) else none) else none) else (some [(PV.list y0)]) := by kernel_rfl
theorem spec_l2One.l1_eq (N : Nat) (m0 : Nat) (n : Nat) (x0 : PV) (x1 : ByteArray) (x2 : Bool) (x3 : PV) (x10 : Int) (x11 : Int) (y0 : List PV) : spec_l2One.l1 N m0 (n + 1) x0 x1 x2 x3 x10 x11 y0 = if decide (x11 < (x3.items.length : Int)) = true then (if 0 ≤ x10 then (if x10 < (x0.items.length : Int) then (if 0 ≤ x11 then (if x11 < (x3.items.length : Int) then ((spec_l2Do.f N [(PV.agg [(PV.sc (.string (((x0.elem x10.toNat).fld 0).toStr))), (PV.sc (.bool (((x0.elem x10.toNat).fld 1).toBool))), (PV.sc (.string (((x0.elem x10.toNat).fld 2).toStr))), (PV.sc (.string (((x0.elem x10.toNat).fld 3).toStr))), (PV.sc (.string (((x0.elem x10.toNat).fld 4).toStr)))]), (PV.sc (.string ((x3.elem x11.toNat).toStr)))]).bind fun t2 => if (t2.tail.headD default).toBool = true then ((spec_l1Put.f N [(PV.list y0), (PV.sc (.string ((t2.headD default).toStr)))]).bind fun t3 => spec_l2One.l2 N m0 n x0 x1 x2 x3 x10 (IntKind.i64.wrap (x11 + 1)) (t3.headD default)) else (spec_l2One.l1 N m0 n x0 x1 x2 x3 x10 (IntKind.i64.wrap (x11 + 1)) y0)) else none) else none) else none) else none) else (spec_l2One.l0 N m0 x0 x1 x2 x3 (IntKind.i64.wrap (x10 + 1)) y0) := by kernel_rfl
theorem spec_l2One.l2_eq (N : Nat) (m0 : Nat) (n : Nat) (x0 : PV) (x1 : ByteArray) (x2 : Bool) (x3 : PV) (x10 : Int) (x11 : Int) (y0 : PV) : spec_l2One.l2 N m0 (n + 1) x0 x1 x2 x3 x10 x11 y0 = if decide (x11 < (x3.items.length : Int)) = true then (if 0 ≤ x10 then (if x10 < (x0.items.length : Int) then (if 0 ≤ x11 then (if x11 < (x3.items.length : Int) then ((spec_l2Do.f N [(PV.agg [(PV.sc (.string (((x0.elem x10.toNat).fld 0).toStr))), (PV.sc (.bool (((x0.elem x10.toNat).fld 1).toBool))), (PV.sc (.string (((x0.elem x10.toNat).fld 2).toStr))), (PV.sc (.string (((x0.elem x10.toNat).fld 3).toStr))), (PV.sc (.string (((x0.elem x10.toNat).fld 4).toStr)))]), (PV.sc (.string ((x3.elem x11.toNat).toStr)))]).bind fun t4 => if (t4.tail.headD default).toBool = true then ((spec_l1Put.f N [y0, (PV.sc (.string ((t4.headD default).toStr)))]).bind fun t5 => spec_l2One.l2 N m0 n x0 x1 x2 x3 x10 (IntKind.i64.wrap (x11 + 1)) (t5.headD default)) else (spec_l2One.l2 N m0 n x0 x1 x2 x3 x10 (IntKind.i64.wrap (x11 + 1)) y0)) else none) else none) else none) else none) else (spec_l2One.l3 N m0 x0 x1 x2 x3 (IntKind.i64.wrap (x10 + 1)) y0) := by kernel_rfl
theorem spec_l2One.l3_eq (N : Nat) (n : Nat) (x0 : PV) (x1 : ByteArray) (x2 : Bool) (x3 : PV) (x10 : Int) (y0 : PV) : spec_l2One.l3 N (n + 1) x0 x1 x2 x3 x10 y0 = if decide (x10 < (x0.items.length : Int)) = true then (if 0 ≤ x10 then (if x10 < (x0.items.length : Int) then (if ((((x0.elem x10.toNat).fld 1).toBool) != x2) = false then (if 0 ≤ x10 then (if x10 < (x0.items.length : Int) then ((spec_l2Has.f N [(PV.sc (.string x1)), (PV.sc (.string (((x0.elem x10.toNat).fld 0).toStr)))]).bind fun t6 => if (!((t6.headD default).toBool)) = true then (spec_l2One.l3 N n x0 x1 x2 x3 (IntKind.i64.wrap (x10 + 1)) y0) else (spec_l2One.l2 N n N x0 x1 x2 x3 x10 0 y0)) else none) else none) else (spec_l2One.l3 N n x0 x1 x2 x3 (IntKind.i64.wrap (x10 + 1)) y0)) else none) else none) else (some [y0]) := by kernel_rfl
noncomputable def spec_l2One.S (N : Nat) : ASpec := ⟨[(23, .ro), (9, .ro), (4, .ro), (27, .ro)], [(27, .own)], spec_l2One.f N⟩
theorem spec_l2One.ok (N : Nat) : FnOk Tryz.prog 127 (spec_l2One.S N) := fnOk_of (E := spec_l2One.E N) mix Tryz.func127 (by kernel_rfl) (by kernel_rfl) (by kernel_rfl) (lk_ok (all_cons (spec_l2Has.ok N) (all_cons (spec_l2Do.ok N) (all_cons (spec_l1Put.ok N) all_nil)))) (by kernel_rfl) (fun _ _ h => h)

/-! ### spec_l2Forms: function 86, loop.example/medlar/spec.l2Forms -/
noncomputable def spec_l2Forms.E (N : Nat) : Env := ⟨lk [(127, spec_l2One.S N)], nzk [], N, [], false⟩
noncomputable def spec_l2Forms.f (N : Nat) (a : List PV) : Option Res := run Tryz.prog (spec_l2Forms.E N) Tryz.f86 [(23, .ro), (99, .ro)] [(27, .own)] a
theorem spec_l2Forms.f_eq (N : Nat) (a0 : PV) (a1 : PV) : spec_l2Forms.f N [a0, a1] = (spec_l2One.f N [a0, (PV.sc (.string ((a1.fld 1).toStr))), (PV.sc (.bool false)), (PV.list [(PV.sc (.string ((a1.fld 0).toStr)))])]).bind fun t1 => (spec_l2One.f N [a0, (PV.sc (.string ((a1.fld 1).toStr))), (PV.sc (.bool true)), (t1.headD default)]).bind fun t2 => some [(t2.headD default)] := by kernel_rfl
noncomputable def spec_l2Forms.S (N : Nat) : ASpec := ⟨[(23, .ro), (99, .ro)], [(27, .own)], spec_l2Forms.f N⟩
theorem spec_l2Forms.ok (N : Nat) : FnOk Tryz.prog 86 (spec_l2Forms.S N) := fnOk_of (E := spec_l2Forms.E N) mix Tryz.func86 (by kernel_rfl) (by kernel_rfl) (by kernel_rfl) (lk_ok (all_cons (spec_l2One.ok N) all_nil)) (by kernel_rfl) (fun _ _ h => h)

/-! ### spec_l2Words: function 40, loop.example/medlar/spec.l2Words -/
noncomputable def spec_l2Words.E (N : Nat) : Env := ⟨lk [(86, spec_l2Forms.S N), (79, spec_l1Put.S N)], nzk [(3, ⟨[0, 2, 5, 6, 7, 8, 9, 10, 11, 12, 13, 14, 15, 16, 17, 18, 19, 20, 21, 22, 23, 24, 25, 26, 27, 28, 29, 30, 31, 32, 33, 34, 35], [], []⟩), (7, ⟨[0, 2, 7, 8, 9, 10, 11, 12, 13, 14, 15, 16, 17, 18, 19, 20, 21, 22, 23, 24, 25, 26, 27, 28, 29, 30, 31, 32, 33, 34, 35], [], []⟩)], N, [], false⟩
noncomputable def spec_l2Words.f (N : Nat) (a : List PV) : Option Res := run Tryz.prog (spec_l2Words.E N) Tryz.f40 [(26, .ro)] [(27, .own)] a
noncomputable def spec_l2Words.l0 (N : Nat) (n : Nat) (x4 : Int) (y0_0 : PV) (y0_1 : PV) (y1 : List PV) : Option Res := loopAt Tryz.prog (spec_l2Words.E N) Tryz.f40 [(27, .own)] [1, 1, 0, 1, 0] [] n ⟨mkSlots 36 [(1, .ptr 0 []), (3, .ref 1 []), (4, .sc (.int .i64 x4))], ohOf [.box 26 (.agg 26 [.ro 23 y0_0, .ro 24 y0_1]), .row 27 (PV.list y1)]⟩
noncomputable def spec_l2Words.l1 (N : Nat) (m0 : Nat) (n : Nat) (x4 : Int) (x6 : Int) (y0_0 : PV) (y0_1 : PV) (y1 : List PV) (y2 : PV) : Option Res := loopAt Tryz.prog (spec_l2Words.E N) Tryz.f40 [(27, .own)] [1, 1, 0, 1, 0, 0, 1, 0, 0, 1, 1, 0] [m0] n ⟨mkSlots 36 [(1, .ptr 0 []), (3, .ref 1 []), (4, .sc (.int .i64 x4)), (5, .ref 2 []), (6, .sc (.int .i64 x6))], ohOf [.box 26 (.agg 26 [.ro 23 y0_0, .ro 24 y0_1]), .row 27 (PV.list y1), .row 27 y2]⟩
noncomputable def spec_l2Words.l2 (N : Nat) (m0 : Nat) (n : Nat) (x4 : Int) (x6 : Int) (y0_0 : PV) (y0_1 : PV) (y1 : PV) (y2 : PV) : Option Res := loopAt Tryz.prog (spec_l2Words.E N) Tryz.f40 [(27, .own)] [1, 1, 0, 1, 0, 0, 1, 0, 0, 1, 1, 0] [m0] n ⟨mkSlots 36 [(1, .ptr 0 []), (3, .ref 1 []), (4, .sc (.int .i64 x4)), (5, .ref 2 []), (6, .sc (.int .i64 x6))], ohOf [.box 26 (.agg 26 [.ro 23 y0_0, .ro 24 y0_1]), .row 27 y1, .row 27 y2]⟩
noncomputable def spec_l2Words.l3 (N : Nat) (n : Nat) (x4 : Int) (y0_0 : PV) (y0_1 : PV) (y1 : PV) : Option Res := loopAt Tryz.prog (spec_l2Words.E N) Tryz.f40 [(27, .own)] [1, 1, 0, 1, 0] [] n ⟨mkSlots 36 [(1, .ptr 0 []), (3, .ref 1 []), (4, .sc (.int .i64 x4))], ohOf [.box 26 (.agg 26 [.ro 23 y0_0, .ro 24 y0_1]), .row 27 y1]⟩
theorem spec_l2Words.f_eq (N : Nat) (a0 : PV) : spec_l2Words.f N [a0] = spec_l2Words.l0 N N 0 (a0.fld 0) (a0.fld 1) [] := by kernel_rfl
theorem spec_l2Words.l0_eq (N : Nat) (n : Nat) (x4 : Int) (y0_0 : PV) (y0_1 : PV) (y1 : List PV) : spec_l2Words.l0 N (n + 1) x4 y0_0 y0_1 y1 = if decide (x4 < (y0_1.items.length : Int)) = true then (if 0 ≤ x4 then (if x4 < (y0_1.items.length : Int) then ((spec_l2Forms.f N [y0_0, (PV.agg [(PV.sc (.string (((y0_1.elem x4.toNat).fld 0).toStr))), (PV.sc (.string (((y0_1.elem x4.toNat).fld 1).toStr)))])]).bind fun t1 => spec_l2Words.l1 N n N x4 0 y0_0 y0_1 y1 (t1.headD default)) else none) else none) else (some [(PV.list y1)]) := by kernel_rfl
theorem spec_l2Words.l1_eq (N : Nat) (m0 : Nat) (n : Nat) (x4 : Int) (x6 : Int) (y0_0 : PV) (y0_1 : PV) (y1 : List PV) (y2 : PV) : spec_l2Words.l1 N m0 (n + 1) x4 x6 y0_0 y0_1 y1 y2 = if decide (x6 < (y2.items.length : Int)) = true then (if 0 ≤ x6 then (if x6 < (y2.items.length : Int) then ((spec_l1Put.f N [(PV.list y1), (PV.sc (.string ((y2.elem x6.toNat).toStr)))]).bind fun t2 => spec_l2Words.l2 N m0 n x4 (IntKind.i64.wrap (x6 + 1)) y0_0 y0_1 (t2.headD default) y2) else none) else none) else (spec_l2Words.l0 N m0 (IntKind.i64.wrap (x4 + 1)) y0_0 y0_1 y1) := by kernel_rfl
theorem spec_l2Words.l2_eq (N : Nat) (m0 : Nat) (n : Nat) (x4 : Int) (x6 : Int) (y0_0 : PV) (y0_1 : PV) (y1 : PV) (y2 : PV) : spec_l2Words.l2 N m0 (n + 1) x4 x6 y0_0 y0_1 y1 y2 = if decide (x6 < (y2.items.length : Int)) = true then (if 0 ≤ x6 then (if x6 < (y2.items.length : Int) then ((spec_l1Put.f N [y1, (PV.sc (.string ((y2.elem x6.toNat).toStr)))]).bind fun t3 => spec_l2Words.l2 N m0 n x4 (IntKind.i64.wrap (x6 + 1)) y0_0 y0_1 (t3.headD default) y2) else none) else none) else (spec_l2Words.l3 N m0 (IntKind.i64.wrap (x4 + 1)) y0_0 y0_1 y1) := by kernel_rfl
theorem spec_l2Words.l3_eq (N : Nat) (n : Nat) (x4 : Int) (y0_0 : PV) (y0_1 : PV) (y1 : PV) : spec_l2Words.l3 N (n + 1) x4 y0_0 y0_1 y1 = if decide (x4 < (y0_1.items.length : Int)) = true then (if 0 ≤ x4 then (if x4 < (y0_1.items.length : Int) then ((spec_l2Forms.f N [y0_0, (PV.agg [(PV.sc (.string (((y0_1.elem x4.toNat).fld 0).toStr))), (PV.sc (.string (((y0_1.elem x4.toNat).fld 1).toStr)))])]).bind fun t4 => spec_l2Words.l2 N n N x4 0 y0_0 y0_1 y1 (t4.headD default)) else none) else none) else (some [y1]) := by kernel_rfl
noncomputable def spec_l2Words.S (N : Nat) : ASpec := ⟨[(26, .ro)], [(27, .own)], spec_l2Words.f N⟩
theorem spec_l2Words.ok (N : Nat) : FnOk Tryz.prog 40 (spec_l2Words.S N) := fnOk_of (E := spec_l2Words.E N) mix Tryz.func40 (by kernel_rfl) (by kernel_rfl) (by kernel_rfl) (lk_ok (all_cons (spec_l2Forms.ok N) (all_cons (spec_l1Put.ok N) all_nil))) (by kernel_rfl) (fun _ _ h => h)

/-! ### spec_l13Of: function 73, loop.example/medlar/spec.l13Of -/
noncomputable def spec_l13Of.E (N : Nat) : Env := ⟨lk [(82, spec_BookOk.S N), (70, spec_l1Rd_pick.S N), (40, spec_l2Words.S N), (80, spec_l13AnyWord.S N)], nzk [], N, [(true, 95)], false⟩
noncomputable def spec_l13Of.f (N : Nat) (a : List PV) : Option Res := run Tryz.prog (spec_l13Of.E N) Tryz.f73 [(57, .box), (26, .ro)] [(9, .val)] a
theorem spec_l13Of.f_eq (N : Nat) (a0 : PV) (a1 : PV) : spec_l13Of.f N [a0, a1] = (spec_BookOk.f N [(PV.agg [a1.fld 0, a1.fld 1])]).bind fun t1 => if (t1.headD default).toBool = true then ((spec_l1Rd_pick.f N [(PV.agg [a0.fld 0, (PV.sc (.int .i64 ((a0.fld 1).toInt)))]), (PV.sc (.int .i64 2))]).bind fun t2 => if decide (((t2.headD default).toInt) = 0) = true then ((spec_l2Words.f N [(PV.agg [a1.fld 0, a1.fld 1])]).bind fun t3 => if decide (0 < (((t3.headD default).items).length : Int)) = true then ((spec_l1Rd_pick.f N [(PV.agg [a0.fld 0, (PV.sc (.int .i64 (((t2.tail.headD default).fld 1).toInt)))]), (PV.sc (.int .i64 (((t3.headD default).items).length : Int)))]).bind fun t4 => if 0 ≤ ((t4.headD default).toInt) then (if ((t4.headD default).toInt) < (((t3.headD default).items).length : Int) then (some [(PV.sc (.string (((t3.headD default).elem (((t4.headD default).toInt).toNat)).toStr))), (PV.agg [a0.fld 0, (PV.sc (.int .i64 (((t4.tail.headD default).fld 1).toInt)))])]) else none) else none) else ((spec_l13AnyWord.f N [(PV.agg [a0.fld 0, (PV.sc (.int .i64 (((t2.tail.headD default).fld 1).toInt)))])]).bind fun t5 => some [(PV.sc (.string ((t5.headD default).toStr))), (PV.agg [a0.fld 0, (PV.sc (.int .i64 (((t5.tail.headD default).fld 1).toInt)))])])) else ((spec_l13AnyWord.f N [(PV.agg [a0.fld 0, (PV.sc (.int .i64 (((t2.tail.headD default).fld 1).toInt)))])]).bind fun t6 => some [(PV.sc (.string ((t6.headD default).toStr))), (PV.agg [a0.fld 0, (PV.sc (.int .i64 (((t6.tail.headD default).fld 1).toInt)))])])) else ((spec_l13AnyWord.f N [(PV.agg [a0.fld 0, (PV.sc (.int .i64 ((a0.fld 1).toInt)))])]).bind fun t7 => some [(PV.sc (.string ((t7.headD default).toStr))), (PV.agg [a0.fld 0, (PV.sc (.int .i64 (((t7.tail.headD default).fld 1).toInt)))])]) := by kernel_rfl
noncomputable def spec_l13Of.S (N : Nat) : ASpec := ⟨[(57, .box), (26, .ro)], [(9, .val)], spec_l13Of.f N⟩
theorem spec_l13Of.ok (N : Nat) : FnOk Tryz.prog 73 (spec_l13Of.S N) := fnOk_of (E := spec_l13Of.E N) mix Tryz.func73 (by kernel_rfl) (by kernel_rfl) (by kernel_rfl) (lk_ok (all_cons (spec_BookOk.ok N) (all_cons (spec_l1Rd_pick.ok N) (all_cons (spec_l2Words.ok N) (all_cons (spec_l13AnyWord.ok N) all_nil))))) (by kernel_rfl) (fun _ _ h => h)

-- MODES: 161 loop.example/medlar/spec.l1Step own.ro.ro
/-! ### spec_l1Step: function 161, loop.example/medlar/spec.l1Step -/
noncomputable def spec_l1Step.E (N : Nat) : Env := ⟨lk [(42, spec_l1Word.S N), (79, spec_l1Put.S N)], nzk [], N, [], false⟩
noncomputable def spec_l1Step.f (N : Nat) (a : List PV) : Option Res := run Tryz.prog (spec_l1Step.E N) Tryz.f161 [(27, .own), (9, .ro), (9, .ro)] [(27, .own)] a
theorem spec_l1Step.f_eq (N : Nat) (a0 : PV) (a1 : PV) (a2 : PV) : spec_l1Step.f N [a0, a1, a2] = if decide (a2.toStr.toList = a1.toStr.toList) = false then ((spec_l1Word.f N [(PV.sc (.string a2.toStr))]).bind fun t1 => if (!((t1.headD default).toBool)) = true then (some [a0]) else ((spec_l1Put.f N [a0, (PV.sc (.string a2.toStr))]).bind fun t2 => some [(t2.headD default)])) else (some [a0]) := by kernel_rfl
noncomputable def spec_l1Step.S (N : Nat) : ASpec := ⟨[(27, .own), (9, .ro), (9, .ro)], [(27, .own)], spec_l1Step.f N⟩
theorem spec_l1Step.ok (N : Nat) : FnOk Tryz.prog 161 (spec_l1Step.S N) := fnOk_of (E := spec_l1Step.E N) mix Tryz.func161 (by kernel_rfl) (by kernel_rfl) (by kernel_rfl) (lk_ok (all_cons (spec_l1Word.ok N) (all_cons (spec_l1Put.ok N) all_nil))) (by kernel_rfl) (fun _ _ h => h)

/-! ### spec_l1Near: function 121, loop.example/medlar/spec.l1Near -/
noncomputable def spec_l1Near.E (N : Nat) : Env := ⟨lk [(161, spec_l1Step.S N)], nzk [(3, ⟨[1, 2, 5, 6, 7, 8, 9, 10, 11, 12, 13, 14, 15, 16, 17, 18, 19, 20, 21, 22, 23, 24, 25, 26, 27, 28, 29, 30, 31, 32, 33, 34, 35, 36, 37, 38, 39, 40, 41, 42, 43, 44, 45, 46, 47, 48, 49, 50, 51, 52, 53, 54, 55, 56, 57, 58, 59, 60, 61, 62, 63, 64, 65, 66, 67, 68, 69, 70, 71, 72, 73, 74, 75, 76, 77, 78, 79, 80, 81, 82, 83, 84, 85, 86, 87, 88, 89, 90, 91, 92, 93, 94, 95, 96], [], []⟩), (6, ⟨[1, 2, 6, 7, 8, 9, 10, 11, 12, 13, 14, 15, 16, 17, 18, 19, 20, 21, 22, 23, 24, 25, 26, 27, 28, 29, 30, 31, 32, 33, 34, 35, 36, 37, 38, 39, 40, 41, 42, 43, 44, 45, 46, 47, 48, 49, 50, 51, 52, 53, 54, 55, 56, 57, 58, 59, 60, 61, 62, 63, 64, 65, 66, 67, 68, 69, 70, 71, 72, 73, 74, 75, 76, 77, 78, 79, 80, 81, 82, 83, 84, 85, 86, 87, 88, 89, 90, 91, 92, 93, 94, 95, 96], [], []⟩)], N, [], false⟩
noncomputable def spec_l1Near.f (N : Nat) (a : List PV) : Option Res := run Tryz.prog (spec_l1Near.E N) Tryz.f121 [(9, .ro)] [(27, .own)] a
noncomputable def spec_l1Near.l0 (N : Nat) (n : Nat) (x0 : ByteArray) (x4 : Int) (y0 : List PV) : Option Res := loopAt Tryz.prog (spec_l1Near.E N) Tryz.f121 [(27, .own)] [1, 1, 0, 1, 0] [] n ⟨mkSlots 97 [(0, .sc (.string x0)), (3, .ref 0 []), (4, .sc (.int .i64 x4))], ohOf [.row 27 (PV.list y0)]⟩
noncomputable def spec_l1Near.l1 (N : Nat) (m0 : Nat) (n : Nat) (x0 : ByteArray) (x4 : Int) (x5 : Int) (y0 : List PV) : Option Res := loopAt Tryz.prog (spec_l1Near.E N) Tryz.f121 [(27, .own)] [1, 1, 0, 1, 0, 0, 1, 0, 0, 0, 1, 0] [m0] n ⟨mkSlots 97 [(0, .sc (.string x0)), (3, .ref 0 []), (4, .sc (.int .i64 x4)), (5, .sc (.int .i32 x5))], ohOf [.row 27 (PV.list y0)]⟩
noncomputable def spec_l1Near.l2 (N : Nat) (m0 : Nat) (n : Nat) (x0 : ByteArray) (x4 : Int) (x5 : Int) (y0 : PV) : Option Res := loopAt Tryz.prog (spec_l1Near.E N) Tryz.f121 [(27, .own)] [1, 1, 0, 1, 0, 0, 1, 0, 0, 0, 1, 0] [m0] n ⟨mkSlots 97 [(0, .sc (.string x0)), (3, .ref 0 []), (4, .sc (.int .i64 x4)), (5, .sc (.int .i32 x5))], ohOf [.row 27 y0]⟩
noncomputable def spec_l1Near.l3 (N : Nat) (n : Nat) (x0 : ByteArray) (x4 : Int) (y0 : PV) : Option Res := loopAt Tryz.prog (spec_l1Near.E N) Tryz.f121 [(27, .own)] [1, 1, 0, 1, 0] [] n ⟨mkSlots 97 [(0, .sc (.string x0)), (3, .ref 0 []), (4, .sc (.int .i64 x4))], ohOf [.row 27 y0]⟩
theorem spec_l1Near.f_eq (N : Nat) (a0 : PV) : spec_l1Near.f N [a0] = spec_l1Near.l0 N N a0.toStr 0 [] := by kernel_rfl
theorem spec_l1Near.l0_eq (N : Nat) (n : Nat) (x0 : ByteArray) (x4 : Int) (y0 : List PV) : spec_l1Near.l0 N (n + 1) x0 x4 y0 = if decide (x4 ≤ (x0.size : Int)) = true then (spec_l1Near.l1 N n N x0 x4 97 y0) else (some [(PV.list y0)]) := by kernel_rfl
theorem spec_l1Near.l1_eq (N : Nat) (m0 : Nat) (n : Nat) (x0 : ByteArray) (x4 : Int) (x5 : Int) (y0 : List PV) : spec_l1Near.l1 N m0 (n + 1) x0 x4 x5 y0 = if decide (x5 ≤ 122) = true then (if 0 ≤ x4 then (if x4 ≤ (x0.size : Int) then (if (x0.extract 0 x4.toNat).size + (bytesOfL [(PV.sc (.int .u8 (IntKind.u8.wrap x5)))]).size ≤ 9223372036854775807 then (if 0 ≤ x4 then (if x4 ≤ (x0.size : Int) then (if ((x0.extract 0 x4.toNat) ++ (bytesOfL [(PV.sc (.int .u8 (IntKind.u8.wrap x5)))])).size + (x0.extract x4.toNat x0.size).size ≤ 9223372036854775807 then ((spec_l1Step.f N [(PV.list y0), (PV.sc (.string x0)), (PV.sc (.string (((x0.extract 0 x4.toNat) ++ (bytesOfL [(PV.sc (.int .u8 (IntKind.u8.wrap x5)))])) ++ (x0.extract x4.toNat x0.size))))]).bind fun t1 => if decide (x4 < (x0.size : Int)) = true then (if 0 ≤ x4 then (if x4 ≤ (x0.size : Int) then (if (x0.extract 0 x4.toNat).size + (bytesOfL [(PV.sc (.int .u8 (IntKind.u8.wrap x5)))]).size ≤ 9223372036854775807 then (if 0 ≤ (IntKind.i64.wrap (x4 + 1)) then (if (IntKind.i64.wrap (x4 + 1)) ≤ (x0.size : Int) then (if ((x0.extract 0 x4.toNat) ++ (bytesOfL [(PV.sc (.int .u8 (IntKind.u8.wrap x5)))])).size + (x0.extract ((IntKind.i64.wrap (x4 + 1)).toNat) x0.size).size ≤ 9223372036854775807 then ((spec_l1Step.f N [(t1.headD default), (PV.sc (.string x0)), (PV.sc (.string (((x0.extract 0 x4.toNat) ++ (bytesOfL [(PV.sc (.int .u8 (IntKind.u8.wrap x5)))])) ++ (x0.extract ((IntKind.i64.wrap (x4 + 1)).toNat) x0.size))))]).bind fun t2 => spec_l1Near.l2 N m0 n x0 x4 (IntKind.i32.wrap (x5 + 1)) (t2.headD default)) else none) else none) else none) else none) else none) else none) else (spec_l1Near.l2 N m0 n x0 x4 (IntKind.i32.wrap (x5 + 1)) (t1.headD default))) else none) else none) else none) else none) else none) else none) else (if decide (x4 < (x0.size : Int)) = true then (if 0 ≤ x4 then (if x4 ≤ (x0.size : Int) then (if 0 ≤ (IntKind.i64.wrap (x4 + 1)) then (if (IntKind.i64.wrap (x4 + 1)) ≤ (x0.size : Int) then (if (x0.extract 0 x4.toNat).size + (x0.extract ((IntKind.i64.wrap (x4 + 1)).toNat) x0.size).size ≤ 9223372036854775807 then ((spec_l1Step.f N [(PV.list y0), (PV.sc (.string x0)), (PV.sc (.string ((x0.extract 0 x4.toNat) ++ (x0.extract ((IntKind.i64.wrap (x4 + 1)).toNat) x0.size))))]).bind fun t3 => if decide ((IntKind.i64.wrap (x4 + 1)) < (x0.size : Int)) = true then (if 0 ≤ x4 then (if x4 ≤ (x0.size : Int) then (if 0 ≤ (IntKind.i64.wrap (x4 + 1)) then (if (IntKind.i64.wrap (x4 + 1)) ≤ (IntKind.i64.wrap (x4 + 2)) then (if (IntKind.i64.wrap (x4 + 2)) ≤ (x0.size : Int) then (if (x0.extract 0 x4.toNat).size + (x0.extract ((IntKind.i64.wrap (x4 + 1)).toNat) ((IntKind.i64.wrap (x4 + 2)).toNat)).size ≤ 9223372036854775807 then (if 0 ≤ x4 then (if x4 ≤ (IntKind.i64.wrap (x4 + 1)) then (if (IntKind.i64.wrap (x4 + 1)) ≤ (x0.size : Int) then (if ((x0.extract 0 x4.toNat) ++ (x0.extract ((IntKind.i64.wrap (x4 + 1)).toNat) ((IntKind.i64.wrap (x4 + 2)).toNat))).size + (x0.extract x4.toNat ((IntKind.i64.wrap (x4 + 1)).toNat)).size ≤ 9223372036854775807 then (if 0 ≤ (IntKind.i64.wrap (x4 + 2)) then (if (IntKind.i64.wrap (x4 + 2)) ≤ (x0.size : Int) then (if (((x0.extract 0 x4.toNat) ++ (x0.extract ((IntKind.i64.wrap (x4 + 1)).toNat) ((IntKind.i64.wrap (x4 + 2)).toNat))) ++ (x0.extract x4.toNat ((IntKind.i64.wrap (x4 + 1)).toNat))).size + (x0.extract ((IntKind.i64.wrap (x4 + 2)).toNat) x0.size).size ≤ 9223372036854775807 then ((spec_l1Step.f N [(t3.headD default), (PV.sc (.string x0)), (PV.sc (.string ((((x0.extract 0 x4.toNat) ++ (x0.extract ((IntKind.i64.wrap (x4 + 1)).toNat) ((IntKind.i64.wrap (x4 + 2)).toNat))) ++ (x0.extract x4.toNat ((IntKind.i64.wrap (x4 + 1)).toNat))) ++ (x0.extract ((IntKind.i64.wrap (x4 + 2)).toNat) x0.size))))]).bind fun t4 => spec_l1Near.l3 N m0 x0 (IntKind.i64.wrap (x4 + 1)) (t4.headD default)) else none) else none) else none) else none) else none) else none) else none) else none) else none) else none) else none) else none) else none) else (spec_l1Near.l3 N m0 x0 (IntKind.i64.wrap (x4 + 1)) (t3.headD default))) else none) else none) else none) else none) else none) else (if decide ((IntKind.i64.wrap (x4 + 1)) < (x0.size : Int)) = true then (if 0 ≤ x4 then (if x4 ≤ (x0.size : Int) then (if 0 ≤ (IntKind.i64.wrap (x4 + 1)) then (if (IntKind.i64.wrap (x4 + 1)) ≤ (IntKind.i64.wrap (x4 + 2)) then (if (IntKind.i64.wrap (x4 + 2)) ≤ (x0.size : Int) then (if (x0.extract 0 x4.toNat).size + (x0.extract ((IntKind.i64.wrap (x4 + 1)).toNat) ((IntKind.i64.wrap (x4 + 2)).toNat)).size ≤ 9223372036854775807 then (if 0 ≤ x4 then (if x4 ≤ (IntKind.i64.wrap (x4 + 1)) then (if (IntKind.i64.wrap (x4 + 1)) ≤ (x0.size : Int) then (if ((x0.extract 0 x4.toNat) ++ (x0.extract ((IntKind.i64.wrap (x4 + 1)).toNat) ((IntKind.i64.wrap (x4 + 2)).toNat))).size + (x0.extract x4.toNat ((IntKind.i64.wrap (x4 + 1)).toNat)).size ≤ 9223372036854775807 then (if 0 ≤ (IntKind.i64.wrap (x4 + 2)) then (if (IntKind.i64.wrap (x4 + 2)) ≤ (x0.size : Int) then (if (((x0.extract 0 x4.toNat) ++ (x0.extract ((IntKind.i64.wrap (x4 + 1)).toNat) ((IntKind.i64.wrap (x4 + 2)).toNat))) ++ (x0.extract x4.toNat ((IntKind.i64.wrap (x4 + 1)).toNat))).size + (x0.extract ((IntKind.i64.wrap (x4 + 2)).toNat) x0.size).size ≤ 9223372036854775807 then ((spec_l1Step.f N [(PV.list y0), (PV.sc (.string x0)), (PV.sc (.string ((((x0.extract 0 x4.toNat) ++ (x0.extract ((IntKind.i64.wrap (x4 + 1)).toNat) ((IntKind.i64.wrap (x4 + 2)).toNat))) ++ (x0.extract x4.toNat ((IntKind.i64.wrap (x4 + 1)).toNat))) ++ (x0.extract ((IntKind.i64.wrap (x4 + 2)).toNat) x0.size))))]).bind fun t5 => spec_l1Near.l3 N m0 x0 (IntKind.i64.wrap (x4 + 1)) (t5.headD default)) else none) else none) else none) else none) else none) else none) else none) else none) else none) else none) else none) else none) else none) else (spec_l1Near.l0 N m0 x0 (IntKind.i64.wrap (x4 + 1)) y0))) := by kernel_rfl
theorem spec_l1Near.l2_eq (N : Nat) (m0 : Nat) (n : Nat) (x0 : ByteArray) (x4 : Int) (x5 : Int) (y0 : PV) : spec_l1Near.l2 N m0 (n + 1) x0 x4 x5 y0 = if decide (x5 ≤ 122) = true then (if 0 ≤ x4 then (if x4 ≤ (x0.size : Int) then (if (x0.extract 0 x4.toNat).size + (bytesOfL [(PV.sc (.int .u8 (IntKind.u8.wrap x5)))]).size ≤ 9223372036854775807 then (if 0 ≤ x4 then (if x4 ≤ (x0.size : Int) then (if ((x0.extract 0 x4.toNat) ++ (bytesOfL [(PV.sc (.int .u8 (IntKind.u8.wrap x5)))])).size + (x0.extract x4.toNat x0.size).size ≤ 9223372036854775807 then ((spec_l1Step.f N [y0, (PV.sc (.string x0)), (PV.sc (.string (((x0.extract 0 x4.toNat) ++ (bytesOfL [(PV.sc (.int .u8 (IntKind.u8.wrap x5)))])) ++ (x0.extract x4.toNat x0.size))))]).bind fun t6 => if decide (x4 < (x0.size : Int)) = true then (if 0 ≤ x4 then (if x4 ≤ (x0.size : Int) then (if (x0.extract 0 x4.toNat).size + (bytesOfL [(PV.sc (.int .u8 (IntKind.u8.wrap x5)))]).size ≤ 9223372036854775807 then (if 0 ≤ (IntKind.i64.wrap (x4 + 1)) then (if (IntKind.i64.wrap (x4 + 1)) ≤ (x0.size : Int) then (if ((x0.extract 0 x4.toNat) ++ (bytesOfL [(PV.sc (.int .u8 (IntKind.u8.wrap x5)))])).size + (x0.extract ((IntKind.i64.wrap (x4 + 1)).toNat) x0.size).size ≤ 9223372036854775807 then ((spec_l1Step.f N [(t6.headD default), (PV.sc (.string x0)), (PV.sc (.string (((x0.extract 0 x4.toNat) ++ (bytesOfL [(PV.sc (.int .u8 (IntKind.u8.wrap x5)))])) ++ (x0.extract ((IntKind.i64.wrap (x4 + 1)).toNat) x0.size))))]).bind fun t7 => spec_l1Near.l2 N m0 n x0 x4 (IntKind.i32.wrap (x5 + 1)) (t7.headD default)) else none) else none) else none) else none) else none) else none) else (spec_l1Near.l2 N m0 n x0 x4 (IntKind.i32.wrap (x5 + 1)) (t6.headD default))) else none) else none) else none) else none) else none) else none) else (if decide (x4 < (x0.size : Int)) = true then (if 0 ≤ x4 then (if x4 ≤ (x0.size : Int) then (if 0 ≤ (IntKind.i64.wrap (x4 + 1)) then (if (IntKind.i64.wrap (x4 + 1)) ≤ (x0.size : Int) then (if (x0.extract 0 x4.toNat).size + (x0.extract ((IntKind.i64.wrap (x4 + 1)).toNat) x0.size).size ≤ 9223372036854775807 then ((spec_l1Step.f N [y0, (PV.sc (.string x0)), (PV.sc (.string ((x0.extract 0 x4.toNat) ++ (x0.extract ((IntKind.i64.wrap (x4 + 1)).toNat) x0.size))))]).bind fun t8 => if decide ((IntKind.i64.wrap (x4 + 1)) < (x0.size : Int)) = true then (if 0 ≤ x4 then (if x4 ≤ (x0.size : Int) then (if 0 ≤ (IntKind.i64.wrap (x4 + 1)) then (if (IntKind.i64.wrap (x4 + 1)) ≤ (IntKind.i64.wrap (x4 + 2)) then (if (IntKind.i64.wrap (x4 + 2)) ≤ (x0.size : Int) then (if (x0.extract 0 x4.toNat).size + (x0.extract ((IntKind.i64.wrap (x4 + 1)).toNat) ((IntKind.i64.wrap (x4 + 2)).toNat)).size ≤ 9223372036854775807 then (if 0 ≤ x4 then (if x4 ≤ (IntKind.i64.wrap (x4 + 1)) then (if (IntKind.i64.wrap (x4 + 1)) ≤ (x0.size : Int) then (if ((x0.extract 0 x4.toNat) ++ (x0.extract ((IntKind.i64.wrap (x4 + 1)).toNat) ((IntKind.i64.wrap (x4 + 2)).toNat))).size + (x0.extract x4.toNat ((IntKind.i64.wrap (x4 + 1)).toNat)).size ≤ 9223372036854775807 then (if 0 ≤ (IntKind.i64.wrap (x4 + 2)) then (if (IntKind.i64.wrap (x4 + 2)) ≤ (x0.size : Int) then (if (((x0.extract 0 x4.toNat) ++ (x0.extract ((IntKind.i64.wrap (x4 + 1)).toNat) ((IntKind.i64.wrap (x4 + 2)).toNat))) ++ (x0.extract x4.toNat ((IntKind.i64.wrap (x4 + 1)).toNat))).size + (x0.extract ((IntKind.i64.wrap (x4 + 2)).toNat) x0.size).size ≤ 9223372036854775807 then ((spec_l1Step.f N [(t8.headD default), (PV.sc (.string x0)), (PV.sc (.string ((((x0.extract 0 x4.toNat) ++ (x0.extract ((IntKind.i64.wrap (x4 + 1)).toNat) ((IntKind.i64.wrap (x4 + 2)).toNat))) ++ (x0.extract x4.toNat ((IntKind.i64.wrap (x4 + 1)).toNat))) ++ (x0.extract ((IntKind.i64.wrap (x4 + 2)).toNat) x0.size))))]).bind fun t9 => spec_l1Near.l3 N m0 x0 (IntKind.i64.wrap (x4 + 1)) (t9.headD default)) else none) else none) else none) else none) else none) else none) else none) else none) else none) else none) else none) else none) else none) else (spec_l1Near.l3 N m0 x0 (IntKind.i64.wrap (x4 + 1)) (t8.headD default))) else none) else none) else none) else none) else none) else (if decide ((IntKind.i64.wrap (x4 + 1)) < (x0.size : Int)) = true then (if 0 ≤ x4 then (if x4 ≤ (x0.size : Int) then (if 0 ≤ (IntKind.i64.wrap (x4 + 1)) then (if (IntKind.i64.wrap (x4 + 1)) ≤ (IntKind.i64.wrap (x4 + 2)) then (if (IntKind.i64.wrap (x4 + 2)) ≤ (x0.size : Int) then (if (x0.extract 0 x4.toNat).size + (x0.extract ((IntKind.i64.wrap (x4 + 1)).toNat) ((IntKind.i64.wrap (x4 + 2)).toNat)).size ≤ 9223372036854775807 then (if 0 ≤ x4 then (if x4 ≤ (IntKind.i64.wrap (x4 + 1)) then (if (IntKind.i64.wrap (x4 + 1)) ≤ (x0.size : Int) then (if ((x0.extract 0 x4.toNat) ++ (x0.extract ((IntKind.i64.wrap (x4 + 1)).toNat) ((IntKind.i64.wrap (x4 + 2)).toNat))).size + (x0.extract x4.toNat ((IntKind.i64.wrap (x4 + 1)).toNat)).size ≤ 9223372036854775807 then (if 0 ≤ (IntKind.i64.wrap (x4 + 2)) then (if (IntKind.i64.wrap (x4 + 2)) ≤ (x0.size : Int) then (if (((x0.extract 0 x4.toNat) ++ (x0.extract ((IntKind.i64.wrap (x4 + 1)).toNat) ((IntKind.i64.wrap (x4 + 2)).toNat))) ++ (x0.extract x4.toNat ((IntKind.i64.wrap (x4 + 1)).toNat))).size + (x0.extract ((IntKind.i64.wrap (x4 + 2)).toNat) x0.size).size ≤ 9223372036854775807 then ((spec_l1Step.f N [y0, (PV.sc (.string x0)), (PV.sc (.string ((((x0.extract 0 x4.toNat) ++ (x0.extract ((IntKind.i64.wrap (x4 + 1)).toNat) ((IntKind.i64.wrap (x4 + 2)).toNat))) ++ (x0.extract x4.toNat ((IntKind.i64.wrap (x4 + 1)).toNat))) ++ (x0.extract ((IntKind.i64.wrap (x4 + 2)).toNat) x0.size))))]).bind fun t10 => spec_l1Near.l3 N m0 x0 (IntKind.i64.wrap (x4 + 1)) (t10.headD default)) else none) else none) else none) else none) else none) else none) else none) else none) else none) else none) else none) else none) else none) else (spec_l1Near.l3 N m0 x0 (IntKind.i64.wrap (x4 + 1)) y0))) := by kernel_rfl
theorem spec_l1Near.l3_eq (N : Nat) (n : Nat) (x0 : ByteArray) (x4 : Int) (y0 : PV) : spec_l1Near.l3 N (n + 1) x0 x4 y0 = if decide (x4 ≤ (x0.size : Int)) = true then (spec_l1Near.l2 N n N x0 x4 97 y0) else (some [y0]) := by kernel_rfl
noncomputable def spec_l1Near.S (N : Nat) : ASpec := ⟨[(9, .ro)], [(27, .own)], spec_l1Near.f N⟩
theorem spec_l1Near.ok (N : Nat) : FnOk Tryz.prog 121 (spec_l1Near.S N) := fnOk_of (E := spec_l1Near.E N) mix Tryz.func121 (by kernel_rfl) (by kernel_rfl) (by kernel_rfl) (lk_ok (all_cons (spec_l1Step.ok N) all_nil)) (by kernel_rfl) (fun _ _ h => h)

/-! ### spec_l13Other: function 72, loop.example/medlar/spec.l13Other -/
noncomputable def spec_l13Other.E (N : Nat) : Env := ⟨lk [(42, spec_l1Word.S N), (70, spec_l1Rd_pick.S N), (121, spec_l1Near.S N), (80, spec_l13AnyWord.S N)], nzk [], N, [(true, 95)], false⟩
noncomputable def spec_l13Other.f (N : Nat) (a : List PV) : Option Res := run Tryz.prog (spec_l13Other.E N) Tryz.f72 [(57, .box), (9, .ro)] [(9, .val)] a
theorem spec_l13Other.f_eq (N : Nat) (a0 : PV) (a1 : PV) : spec_l13Other.f N [a0, a1] = (spec_l1Word.f N [(PV.sc (.string a1.toStr))]).bind fun t1 => if (t1.headD default).toBool = true then ((spec_l1Rd_pick.f N [(PV.agg [a0.fld 0, (PV.sc (.int .i64 ((a0.fld 1).toInt)))]), (PV.sc (.int .i64 2))]).bind fun t2 => if decide (((t2.headD default).toInt) = 0) = true then ((spec_l1Near.f N [(PV.sc (.string a1.toStr))]).bind fun t3 => (spec_l1Rd_pick.f N [(PV.agg [a0.fld 0, (PV.sc (.int .i64 (((t2.tail.headD default).fld 1).toInt)))]), (PV.sc (.int .i64 256))]).bind fun t4 => (spec_l1Rd_pick.f N [(PV.agg [a0.fld 0, (PV.sc (.int .i64 (((t4.tail.headD default).fld 1).toInt)))]), (PV.sc (.int .i64 256))]).bind fun t5 => if (((t3.headD default).items).length : Int) = 0 then none else (if 0 ≤ (Int.tmod (IntKind.i64.wrap ((IntKind.i64.wrap (((t4.headD default).toInt) * 256)) + ((t5.headD default).toInt))) (((t3.headD default).items).length : Int)) then (if (Int.tmod (IntKind.i64.wrap ((IntKind.i64.wrap (((t4.headD default).toInt) * 256)) + ((t5.headD default).toInt))) (((t3.headD default).items).length : Int)) < (((t3.headD default).items).length : Int) then ((spec_l1Rd_pick.f N [(PV.agg [a0.fld 0, (PV.sc (.int .i64 (((t5.tail.headD default).fld 1).toInt)))]), (PV.sc (.int .i64 3))]).bind fun t6 => if decide (((t6.headD default).toInt) = 0) = true then ((spec_l1Near.f N [(PV.sc (.string (((t3.headD default).elem ((Int.tmod (IntKind.i64.wrap ((IntKind.i64.wrap (((t4.headD default).toInt) * 256)) + ((t5.headD default).toInt))) (((t3.headD default).items).length : Int)).toNat)).toStr)))]).bind fun t7 => (spec_l1Rd_pick.f N [(PV.agg [a0.fld 0, (PV.sc (.int .i64 (((t6.tail.headD default).fld 1).toInt)))]), (PV.sc (.int .i64 256))]).bind fun t8 => (spec_l1Rd_pick.f N [(PV.agg [a0.fld 0, (PV.sc (.int .i64 (((t8.tail.headD default).fld 1).toInt)))]), (PV.sc (.int .i64 256))]).bind fun t9 => if (((t7.headD default).items).length : Int) = 0 then none else (if 0 ≤ (Int.tmod (IntKind.i64.wrap ((IntKind.i64.wrap (((t8.headD default).toInt) * 256)) + ((t9.headD default).toInt))) (((t7.headD default).items).length : Int)) then (if (Int.tmod (IntKind.i64.wrap ((IntKind.i64.wrap (((t8.headD default).toInt) * 256)) + ((t9.headD default).toInt))) (((t7.headD default).items).length : Int)) < (((t7.headD default).items).length : Int) then (some [(PV.sc (.string (((t7.headD default).elem ((Int.tmod (IntKind.i64.wrap ((IntKind.i64.wrap (((t8.headD default).toInt) * 256)) + ((t9.headD default).toInt))) (((t7.headD default).items).length : Int)).toNat)).toStr))), (PV.agg [a0.fld 0, (PV.sc (.int .i64 (((t9.tail.headD default).fld 1).toInt)))])]) else none) else none)) else (some [(PV.sc (.string (((t3.headD default).elem ((Int.tmod (IntKind.i64.wrap ((IntKind.i64.wrap (((t4.headD default).toInt) * 256)) + ((t5.headD default).toInt))) (((t3.headD default).items).length : Int)).toNat)).toStr))), (PV.agg [a0.fld 0, (PV.sc (.int .i64 (((t6.tail.headD default).fld 1).toInt)))])])) else none) else none)) else ((spec_l13AnyWord.f N [(PV.agg [a0.fld 0, (PV.sc (.int .i64 (((t2.tail.headD default).fld 1).toInt)))])]).bind fun t10 => some [(PV.sc (.string ((t10.headD default).toStr))), (PV.agg [a0.fld 0, (PV.sc (.int .i64 (((t10.tail.headD default).fld 1).toInt)))])])) else ((spec_l13AnyWord.f N [(PV.agg [a0.fld 0, (PV.sc (.int .i64 ((a0.fld 1).toInt)))])]).bind fun t11 => some [(PV.sc (.string ((t11.headD default).toStr))), (PV.agg [a0.fld 0, (PV.sc (.int .i64 (((t11.tail.headD default).fld 1).toInt)))])]) := by kernel_rfl
noncomputable def spec_l13Other.S (N : Nat) : ASpec := ⟨[(57, .box), (9, .ro)], [(9, .val)], spec_l13Other.f N⟩
theorem spec_l13Other.ok (N : Nat) : FnOk Tryz.prog 72 (spec_l13Other.S N) := fnOk_of (E := spec_l13Other.E N) mix Tryz.func72 (by kernel_rfl) (by kernel_rfl) (by kernel_rfl) (lk_ok (all_cons (spec_l1Word.ok N) (all_cons (spec_l1Rd_pick.ok N) (all_cons (spec_l1Near.ok N) (all_cons (spec_l13AnyWord.ok N) all_nil))))) (by kernel_rfl) (fun _ _ h => h)

/-! ### spec_DrawBookGuesses: function 60, loop.example/medlar/spec.DrawBookGuesses -/
noncomputable def spec_DrawBookGuesses.E (N : Nat) : Env := ⟨lk [(35, spec_l1Open.S N), (69, spec_l13AnyBook.S N), (73, spec_l13Of.S N), (72, spec_l13Other.S N)], nzk [], N, [], false⟩
noncomputable def spec_DrawBookGuesses.f (N : Nat) (a : List PV) : Option Res := run Tryz.prog (spec_DrawBookGuesses.E N) Tryz.f60 [(22, .ro)] [(26, .own), (9, .val)] a
theorem spec_DrawBookGuesses.f_eq (N : Nat) (a0 : PV) : spec_DrawBookGuesses.f N [a0] = (spec_l1Open.f N [a0]).bind fun t1 => (spec_l13AnyBook.f N [(PV.agg [(t1.headD default).fld 0, (PV.sc (.int .i64 (((t1.headD default).fld 1).toInt)))])]).bind fun t2 => (spec_l13Of.f N [(PV.agg [(t1.headD default).fld 0, (PV.sc (.int .i64 (((t2.tail.headD default).fld 1).toInt)))]), (PV.agg [(t2.headD default).fld 0, (t2.headD default).fld 1])]).bind fun t3 => (spec_l13Other.f N [(PV.agg [(t1.headD default).fld 0, (PV.sc (.int .i64 (((t3.tail.headD default).fld 1).toInt)))]), (PV.sc (.string ((t3.headD default).toStr)))]).bind fun t4 => some [(PV.agg [(t2.headD default).fld 0, (t2.headD default).fld 1]), (PV.sc (.string ((t4.headD default).toStr)))] := by kernel_rfl
noncomputable def spec_DrawBookGuesses.S (N : Nat) : ASpec := ⟨[(22, .ro)], [(26, .own), (9, .val)], spec_DrawBookGuesses.f N⟩
theorem spec_DrawBookGuesses.ok (N : Nat) : FnOk Tryz.prog 60 (spec_DrawBookGuesses.S N) := fnOk_of (E := spec_DrawBookGuesses.E N) mix Tryz.func60 (by kernel_rfl) (by kernel_rfl) (by kernel_rfl) (lk_ok (all_cons (spec_l1Open.ok N) (all_cons (spec_l13AnyBook.ok N) (all_cons (spec_l13Of.ok N) (all_cons (spec_l13Other.ok N) all_nil))))) (by kernel_rfl) (fun _ _ h => h)

/-! ### spec_DrawRanked: function 25, loop.example/medlar/spec.DrawRanked -/
noncomputable def spec_DrawRanked.E (N : Nat) : Env := ⟨lk [(60, spec_DrawBookGuesses.S N)], nzk [], N, [], false⟩
noncomputable def spec_DrawRanked.f (N : Nat) (a : List PV) : Option Res := run Tryz.prog (spec_DrawRanked.E N) Tryz.f25 [(22, .ro)] [(26, .own), (9, .val)] a
theorem spec_DrawRanked.f_eq (N : Nat) (a0 : PV) : spec_DrawRanked.f N [a0] = (spec_DrawBookGuesses.f N [a0]).bind fun t1 => some [(PV.agg [(t1.headD default).fld 0, (t1.headD default).fld 1]), (PV.sc (.string ((t1.tail.headD default).toStr)))] := by kernel_rfl
noncomputable def spec_DrawRanked.S (N : Nat) : ASpec := ⟨[(22, .ro)], [(26, .own), (9, .val)], spec_DrawRanked.f N⟩
theorem spec_DrawRanked.ok (N : Nat) : FnOk Tryz.prog 25 (spec_DrawRanked.S N) := fnOk_of (E := spec_DrawRanked.E N) mix Tryz.func25 (by kernel_rfl) (by kernel_rfl) (by kernel_rfl) (lk_ok (all_cons (spec_DrawBookGuesses.ok N) all_nil)) (by kernel_rfl) (fun _ _ h => h)

/-! ### impl_upper: function 93, loop.example/medlar/impl.upper -/
noncomputable def impl_upper.E (N : Nat) : Env := ⟨lk [], nzk [], N, [], false⟩
noncomputable def impl_upper.f (N : Nat) (a : List PV) : Option Res := run Tryz.prog (impl_upper.E N) Tryz.f93 [(5, .ro)] [(4, .val)] a
theorem impl_upper.f_eq (N : Nat) (a0 : PV) : impl_upper.f N [a0] = if decide (65 ≤ a0.toInt) = true then (some [(PV.sc (.bool (decide (a0.toInt ≤ 90))))]) else (some [(PV.sc (.bool false))]) := by kernel_rfl
noncomputable def impl_upper.S (N : Nat) : ASpec := ⟨[(5, .ro)], [(4, .val)], impl_upper.f N⟩
theorem impl_upper.ok (N : Nat) : FnOk Tryz.prog 93 (impl_upper.S N) := fnOk_of (E := impl_upper.E N) mix Tryz.func93 (by kernel_rfl) (by kernel_rfl) (by kernel_rfl) (lk_ok all_nil) (by kernel_rfl) (fun _ _ h => h)

/-! ### impl_lower: function 101, loop.example/medlar/impl.lower -/
noncomputable def impl_lower.E (N : Nat) : Env := ⟨lk [], nzk [(2, ⟨[1, 2, 3, 4, 7, 8, 9, 10, 11, 12, 13, 14, 15, 16, 17, 18, 19], [], []⟩)], N, [], false⟩
noncomputable def impl_lower.f (N : Nat) (a : List PV) : Option Res := run Tryz.prog (impl_lower.E N) Tryz.f101 [(9, .ro)] [(4, .val)] a
noncomputable def impl_lower.l0 (N : Nat) (n : Nat) (x0 : ByteArray) (x5 : Int) (x6 : Int) : Option Res := loopAt Tryz.prog (impl_lower.E N) Tryz.f101 [(4, .val)] [1, 0, 1, 0] [] n ⟨mkSlots 20 [(0, .sc (.string x0)), (5, .sc (.int .i64 x5)), (6, .sc (.int .i64 x6))], ohOf []⟩
theorem impl_lower.f_eq (N : Nat) (a0 : PV) : impl_lower.f N [a0] = impl_lower.l0 N N a0.toStr (a0.toStr.size : Int) 0 := by kernel_rfl
theorem impl_lower.l0_eq (N : Nat) (n : Nat) (x0 : ByteArray) (x5 : Int) (x6 : Int) : impl_lower.l0 N (n + 1) x0 x5 x6 = if decide (x6 < x5) = true then (if 0 ≤ x6 then (if x6 < (x0.size : Int) then (if decide (((x0.get! x6.toNat).toNat : Int) < 97) = false then (if 0 ≤ x6 then (if x6 < (x0.size : Int) then (if decide (122 < ((x0.get! x6.toNat).toNat : Int)) = true then (some [(PV.sc (.bool false))]) else (impl_lower.l0 N n x0 x5 (IntKind.i64.wrap (x6 + 1)))) else none) else none) else (some [(PV.sc (.bool false))])) else none) else none) else (some [(PV.sc (.bool true))]) := by kernel_rfl
noncomputable def impl_lower.S (N : Nat) : ASpec := ⟨[(9, .ro)], [(4, .val)], impl_lower.f N⟩
theorem impl_lower.ok (N : Nat) : FnOk Tryz.prog 101 (impl_lower.S N) := fnOk_of (E := impl_lower.E N) mix Tryz.func101 (by kernel_rfl) (by kernel_rfl) (by kernel_rfl) (lk_ok all_nil) (by kernel_rfl) (fun _ _ h => h)

/-! ### stringslite_HasPrefix: function 184, internal/stringslite.HasPrefix -/
noncomputable def stringslite_HasPrefix.E (N : Nat) : Env := ⟨lk [], nzk [], N, [], false⟩
noncomputable def stringslite_HasPrefix.f (N : Nat) (a : List PV) : Option Res := run Tryz.prog (stringslite_HasPrefix.E N) Tryz.f184 [(9, .ro), (9, .ro)] [(4, .val)] a
theorem stringslite_HasPrefix.f_eq (N : Nat) (a0 : PV) (a1 : PV) : stringslite_HasPrefix.f N [a0, a1] = if decide ((a1.toStr.size : Int) ≤ (a0.toStr.size : Int)) = true then (if 0 ≤ (a1.toStr.size : Int) then (if (a1.toStr.size : Int) ≤ (a0.toStr.size : Int) then (some [(PV.sc (.bool (decide ((a0.toStr.extract 0 a1.toStr.size).toList = a1.toStr.toList))))]) else none) else none) else (some [(PV.sc (.bool false))]) := by kernel_rfl
noncomputable def stringslite_HasPrefix.S (N : Nat) : ASpec := ⟨[(9, .ro), (9, .ro)], [(4, .val)], stringslite_HasPrefix.f N⟩
theorem stringslite_HasPrefix.ok (N : Nat) : FnOk Tryz.prog 184 (stringslite_HasPrefix.S N) := fnOk_of (E := stringslite_HasPrefix.E N) mix Tryz.func184 (by kernel_rfl) (by kernel_rfl) (by kernel_rfl) (lk_ok all_nil) (by kernel_rfl) (fun _ _ h => h)

/-! ### strings_HasPrefix: function 167, strings.HasPrefix -/
noncomputable def strings_HasPrefix.E (N : Nat) : Env := ⟨lk [(184, stringslite_HasPrefix.S N)], nzk [], N, [], false⟩
noncomputable def strings_HasPrefix.f (N : Nat) (a : List PV) : Option Res := run Tryz.prog (strings_HasPrefix.E N) Tryz.f167 [(9, .ro), (9, .ro)] [(4, .val)] a
theorem strings_HasPrefix.f_eq (N : Nat) (a0 : PV) (a1 : PV) : strings_HasPrefix.f N [a0, a1] = (stringslite_HasPrefix.f N [(PV.sc (.string a0.toStr)), (PV.sc (.string a1.toStr))]).bind fun t1 => some [(PV.sc (.bool ((t1.headD default).toBool)))] := by kernel_rfl
noncomputable def strings_HasPrefix.S (N : Nat) : ASpec := ⟨[(9, .ro), (9, .ro)], [(4, .val)], strings_HasPrefix.f N⟩
theorem strings_HasPrefix.ok (N : Nat) : FnOk Tryz.prog 167 (strings_HasPrefix.S N) := fnOk_of (E := strings_HasPrefix.E N) mix Tryz.func167 (by kernel_rfl) (by kernel_rfl) (by kernel_rfl) (lk_ok (all_cons (stringslite_HasPrefix.ok N) all_nil)) (by kernel_rfl) (fun _ _ h => h)

/-! ### stringslite_HasSuffix: function 185, internal/stringslite.HasSuffix -/
noncomputable def stringslite_HasSuffix.E (N : Nat) : Env := ⟨lk [], nzk [], N, [], false⟩
noncomputable def stringslite_HasSuffix.f (N : Nat) (a : List PV) : Option Res := run Tryz.prog (stringslite_HasSuffix.E N) Tryz.f185 [(9, .ro), (9, .ro)] [(4, .val)] a
theorem stringslite_HasSuffix.f_eq (N : Nat) (a0 : PV) (a1 : PV) : stringslite_HasSuffix.f N [a0, a1] = if decide ((a1.toStr.size : Int) ≤ (a0.toStr.size : Int)) = true then (if 0 ≤ (IntKind.i64.wrap ((a0.toStr.size : Int) - (a1.toStr.size : Int))) then (if (IntKind.i64.wrap ((a0.toStr.size : Int) - (a1.toStr.size : Int))) ≤ (a0.toStr.size : Int) then (some [(PV.sc (.bool (decide ((a0.toStr.extract ((IntKind.i64.wrap ((a0.toStr.size : Int) - (a1.toStr.size : Int))).toNat) a0.toStr.size).toList = a1.toStr.toList))))]) else none) else none) else (some [(PV.sc (.bool false))]) := by kernel_rfl
noncomputable def stringslite_HasSuffix.S (N : Nat) : ASpec := ⟨[(9, .ro), (9, .ro)], [(4, .val)], stringslite_HasSuffix.f N⟩
theorem stringslite_HasSuffix.ok (N : Nat) : FnOk Tryz.prog 185 (stringslite_HasSuffix.S N) := fnOk_of (E := stringslite_HasSuffix.E N) mix Tryz.func185 (by kernel_rfl) (by kernel_rfl) (by kernel_rfl) (lk_ok all_nil) (by kernel_rfl) (fun _ _ h => h)

/-! ### strings_HasSuffix: function 168, strings.HasSuffix -/
noncomputable def strings_HasSuffix.E (N : Nat) : Env := ⟨lk [(185, stringslite_HasSuffix.S N)], nzk [], N, [], false⟩
noncomputable def strings_HasSuffix.f (N : Nat) (a : List PV) : Option Res := run Tryz.prog (strings_HasSuffix.E N) Tryz.f168 [(9, .ro), (9, .ro)] [(4, .val)] a
theorem strings_HasSuffix.f_eq (N : Nat) (a0 : PV) (a1 : PV) : strings_HasSuffix.f N [a0, a1] = (stringslite_HasSuffix.f N [(PV.sc (.string a0.toStr)), (PV.sc (.string a1.toStr))]).bind fun t1 => some [(PV.sc (.bool ((t1.headD default).toBool)))] := by kernel_rfl
noncomputable def strings_HasSuffix.S (N : Nat) : ASpec := ⟨[(9, .ro), (9, .ro)], [(4, .val)], strings_HasSuffix.f N⟩
theorem strings_HasSuffix.ok (N : Nat) : FnOk Tryz.prog 168 (strings_HasSuffix.S N) := fnOk_of (E := strings_HasSuffix.E N) mix Tryz.func168 (by kernel_rfl) (by kernel_rfl) (by kernel_rfl) (lk_ok (all_cons (stringslite_HasSuffix.ok N) all_nil)) (by kernel_rfl) (fun _ _ h => h)

/-! ### impl_AffixOk: function 128, loop.example/medlar/impl.AffixOk -/
noncomputable def impl_AffixOk.E (N : Nat) : Env := ⟨lk [(93, impl_upper.S N), (101, impl_lower.S N), (167, strings_HasPrefix.S N), (168, strings_HasSuffix.S N)], nzk [(4, ⟨[0, 2, 3, 4, 5, 6, 7, 8, 9, 10, 11, 12, 13, 14, 15, 16, 17, 18, 19, 20, 21, 25, 26, 27, 28, 29, 30, 31, 32, 33, 34, 35, 36, 37, 38, 39, 40, 41, 42, 43, 44, 45, 46, 47, 48], [], []⟩)], N, [], false⟩
noncomputable def impl_AffixOk.f (N : Nat) (a : List PV) : Option Res := run Tryz.prog (impl_AffixOk.E N) Tryz.f128 [(121, .ro)] [(4, .val)] a
noncomputable def impl_AffixOk.l0 (N : Nat) (n : Nat) (x23 : Int) (x24 : Int) (y0_0 : ByteArray) (y0_1 : Bool) (y0_2 : ByteArray) (y0_3 : ByteArray) (y0_4 : ByteArray) (y1 : List PV) : Option Res := loopAt Tryz.prog (impl_AffixOk.E N) Tryz.f128 [(4, .val)] [1, 1, 0, 1, 0] [] n ⟨mkSlots 49 [(1, .ptr 0 []), (22, .ref 1 []), (23, .sc (.int .i64 x23)), (24, .sc (.int .i64 x24))], ohOf [.box 121 (.agg 121 [.sc (.string y0_0), .sc (.bool y0_1), .sc (.string y0_2), .sc (.string y0_3), .sc (.string y0_4)]), .row 27 (PV.list y1)]⟩
theorem impl_AffixOk.f_eq (N : Nat) (a0 : PV) : impl_AffixOk.f N [a0] = if (!decide ((((a0.fld 0).toStr).size : Int) = 1)) = false then (if 0 ≤ 0 then (if 0 < (((a0.fld 0).toStr).size : Int) then ((impl_upper.f N [(PV.sc (.int .u8 ((((a0.fld 0).toStr).get! 0).toNat : Int)))]).bind fun t1 => if (!((t1.headD default).toBool)) = true then (some [(PV.sc (.bool false))]) else (impl_AffixOk.l0 N N ([(PV.sc (.string ((a0.fld 2).toStr))), (PV.sc (.string ((a0.fld 3).toStr))), (PV.sc (.string ((a0.fld 4).toStr)))].length : Int) 0 ((a0.fld 0).toStr) ((a0.fld 1).toBool) ((a0.fld 2).toStr) ((a0.fld 3).toStr) ((a0.fld 4).toStr) [(PV.sc (.string ((a0.fld 2).toStr))), (PV.sc (.string ((a0.fld 3).toStr))), (PV.sc (.string ((a0.fld 4).toStr)))])) else none) else none) else (some [(PV.sc (.bool false))]) := by kernel_rfl
theorem impl_AffixOk.l0_eq (N : Nat) (n : Nat) (x23 : Int) (x24 : Int) (y0_0 : ByteArray) (y0_1 : Bool) (y0_2 : ByteArray) (y0_3 : ByteArray) (y0_4 : ByteArray) (y1 : List PV) : impl_AffixOk.l0 N (n + 1) x23 x24 y0_0 y0_1 y0_2 y0_3 y0_4 y1 = if decide (x24 < x23) = true then (if 0 ≤ x24 then (if x24 < (y1.length : Int) then (if decide (4 < ((((PV.list y1).elem x24.toNat).toStr).size : Int)) = false then ((impl_lower.f N [(PV.sc (.string (((PV.list y1).elem x24.toNat).toStr)))]).bind fun t2 => if (!((t2.headD default).toBool)) = true then (some [(PV.sc (.bool false))]) else (impl_AffixOk.l0 N n x23 (IntKind.i64.wrap (x24 + 1)) y0_0 y0_1 y0_2 y0_3 y0_4 y1)) else (some [(PV.sc (.bool false))])) else none) else none) else (if y0_1 = true then ((strings_HasPrefix.f N [(PV.sc (.string y0_4)), (PV.sc (.string y0_2))]).bind fun t3 => some [(PV.sc (.bool ((t3.headD default).toBool)))]) else ((strings_HasSuffix.f N [(PV.sc (.string y0_4)), (PV.sc (.string y0_2))]).bind fun t4 => some [(PV.sc (.bool ((t4.headD default).toBool)))])) := by kernel_rfl
noncomputable def impl_AffixOk.S (N : Nat) : ASpec := ⟨[(121, .ro)], [(4, .val)], impl_AffixOk.f N⟩
theorem impl_AffixOk.ok (N : Nat) : FnOk Tryz.prog 128 (impl_AffixOk.S N) := fnOk_of (E := impl_AffixOk.E N) mix Tryz.func128 (by kernel_rfl) (by kernel_rfl) (by kernel_rfl) (lk_ok (all_cons (impl_upper.ok N) (all_cons (impl_lower.ok N) (all_cons (strings_HasPrefix.ok N) (all_cons (strings_HasSuffix.ok N) all_nil))))) (by kernel_rfl) (fun _ _ h => h)

/-! ### slices_Index_impl_Affix: function 169, slices.Index[[]loop.example/medlar/impl.Affix,loop.example/medlar/impl.Affix] -/
noncomputable def slices_Index_impl_Affix.E (N : Nat) : Env := ⟨lk [], nzk [(2, ⟨[1, 2, 4, 5, 6, 9, 10, 11, 12, 13, 14, 15, 16, 17, 18], [], []⟩)], N, [], false⟩
noncomputable def slices_Index_impl_Affix.f (N : Nat) (a : List PV) : Option Res := run Tryz.prog (slices_Index_impl_Affix.E N) Tryz.f169 [(23, .ro), (121, .ro)] [(3, .val)] a
noncomputable def slices_Index_impl_Affix.l0 (N : Nat) (n : Nat) (x0 : PV) (x7 : Int) (x8 : Int) (y0_0 : ByteArray) (y0_1 : Bool) (y0_2 : ByteArray) (y0_3 : ByteArray) (y0_4 : ByteArray) : Option Res := loopAt Tryz.prog (slices_Index_impl_Affix.E N) Tryz.f169 [(3, .val)] [1, 0, 1, 0] [] n ⟨mkSlots 19 [(0, .ro 23 x0), (3, .ptr 0 []), (7, .sc (.int .i64 x7)), (8, .sc (.int .i64 x8))], ohOf [.box 121 (.agg 121 [.sc (.string y0_0), .sc (.bool y0_1), .sc (.string y0_2), .sc (.string y0_3), .sc (.string y0_4)])]⟩
theorem slices_Index_impl_Affix.f_eq (N : Nat) (a0 : PV) (a1 : PV) : slices_Index_impl_Affix.f N [a0, a1] = slices_Index_impl_Affix.l0 N N a0 (a0.items.length : Int) 0 ((a1.fld 0).toStr) ((a1.fld 1).toBool) ((a1.fld 2).toStr) ((a1.fld 3).toStr) ((a1.fld 4).toStr) := by kernel_rfl
theorem slices_Index_impl_Affix.l0_eq (N : Nat) (n : Nat) (x0 : PV) (x7 : Int) (x8 : Int) (y0_0 : ByteArray) (y0_1 : Bool) (y0_2 : ByteArray) (y0_3 : ByteArray) (y0_4 : ByteArray) : slices_Index_impl_Affix.l0 N (n + 1) x0 x7 x8 y0_0 y0_1 y0_2 y0_3 y0_4 = if decide (x8 < x7) = true then (if 0 ≤ x8 then (if x8 < (x0.items.length : Int) then (if (decide (y0_0.toList = (((x0.elem x8.toNat).fld 0).toStr).toList) && ((y0_1 == (((x0.elem x8.toNat).fld 1).toBool)) && (decide (y0_2.toList = (((x0.elem x8.toNat).fld 2).toStr).toList) && (decide (y0_3.toList = (((x0.elem x8.toNat).fld 3).toStr).toList) && (decide (y0_4.toList = (((x0.elem x8.toNat).fld 4).toStr).toList) && true))))) = true then (some [(PV.sc (.int .i64 x8))]) else (slices_Index_impl_Affix.l0 N n x0 x7 (IntKind.i64.wrap (x8 + 1)) y0_0 y0_1 y0_2 y0_3 y0_4)) else none) else none) else (some [(PV.sc (.int .i64 (-1)))]) := by kernel_rfl
noncomputable def slices_Index_impl_Affix.S (N : Nat) : ASpec := ⟨[(23, .ro), (121, .ro)], [(3, .val)], slices_Index_impl_Affix.f N⟩
theorem slices_Index_impl_Affix.ok (N : Nat) : FnOk Tryz.prog 169 (slices_Index_impl_Affix.S N) := fnOk_of (E := slices_Index_impl_Affix.E N) mix Tryz.func169 (by kernel_rfl) (by kernel_rfl) (by kernel_rfl) (lk_ok all_nil) (by kernel_rfl) (fun _ _ h => h)

/-! ### slices_Contains_impl_Affix: function 129, slices.Contains[[]loop.example/medlar/impl.Affix,loop.example/medlar/impl.Affix] -/
noncomputable def slices_Contains_impl_Affix.E (N : Nat) : Env := ⟨lk [(169, slices_Index_impl_Affix.S N)], nzk [], N, [], false⟩
noncomputable def slices_Contains_impl_Affix.f (N : Nat) (a : List PV) : Option Res := run Tryz.prog (slices_Contains_impl_Affix.E N) Tryz.f129 [(23, .ro), (121, .ro)] [(4, .val)] a
theorem slices_Contains_impl_Affix.f_eq (N : Nat) (a0 : PV) (a1 : PV) : slices_Contains_impl_Affix.f N [a0, a1] = (slices_Index_impl_Affix.f N [a0, (PV.agg [(PV.sc (.string ((a1.fld 0).toStr))), (PV.sc (.bool ((a1.fld 1).toBool))), (PV.sc (.string ((a1.fld 2).toStr))), (PV.sc (.string ((a1.fld 3).toStr))), (PV.sc (.string ((a1.fld 4).toStr)))])]).bind fun t1 => some [(PV.sc (.bool (decide (0 ≤ ((t1.headD default).toInt)))))] := by kernel_rfl
noncomputable def slices_Contains_impl_Affix.S (N : Nat) : ASpec := ⟨[(23, .ro), (121, .ro)], [(4, .val)], slices_Contains_impl_Affix.f N⟩
theorem slices_Contains_impl_Affix.ok (N : Nat) : FnOk Tryz.prog 129 (slices_Contains_impl_Affix.S N) := fnOk_of (E := slices_Contains_impl_Affix.E N) mix Tryz.func129 (by kernel_rfl) (by kernel_rfl) (by kernel_rfl) (lk_ok (all_cons (slices_Index_impl_Affix.ok N) all_nil)) (by kernel_rfl) (fun _ _ h => h)

/-! ### impl_affixesOk: function 89, loop.example/medlar/impl.affixesOk -/
noncomputable def impl_affixesOk.E (N : Nat) : Env := ⟨lk [(128, impl_AffixOk.S N), (129, slices_Contains_impl_Affix.S N)], nzk [(2, ⟨[1, 2, 3, 4, 8, 9, 10, 11, 12, 13, 14, 15, 16, 17, 18, 19, 20, 21, 22, 23, 24, 25], [], []⟩)], N, [], false⟩
noncomputable def impl_affixesOk.f (N : Nat) (a : List PV) : Option Res := run Tryz.prog (impl_affixesOk.E N) Tryz.f89 [(23, .ro)] [(4, .val)] a
noncomputable def impl_affixesOk.l0 (N : Nat) (n : Nat) (x0 : PV) (x5 : PV) (x6 : Int) (x7 : Int) : Option Res := loopAt Tryz.prog (impl_affixesOk.E N) Tryz.f89 [(4, .val)] [1, 0, 1, 0] [] n ⟨mkSlots 26 [(0, .ro 23 x0), (5, .ro 23 x5), (6, .sc (.int .i64 x6)), (7, .sc (.int .i64 x7))], ohOf []⟩
theorem impl_affixesOk.f_eq (N : Nat) (a0 : PV) : impl_affixesOk.f N [a0] = impl_affixesOk.l0 N N a0 a0 (a0.items.length : Int) 0 := by kernel_rfl
theorem impl_affixesOk.l0_eq (N : Nat) (n : Nat) (x0 : PV) (x5 : PV) (x6 : Int) (x7 : Int) : impl_affixesOk.l0 N (n + 1) x0 x5 x6 x7 = if decide (x7 < x6) = true then (if 0 ≤ x7 then (if x7 < (x5.items.length : Int) then ((impl_AffixOk.f N [(PV.agg [(PV.sc (.string (((x5.elem x7.toNat).fld 0).toStr))), (PV.sc (.bool (((x5.elem x7.toNat).fld 1).toBool))), (PV.sc (.string (((x5.elem x7.toNat).fld 2).toStr))), (PV.sc (.string (((x5.elem x7.toNat).fld 3).toStr))), (PV.sc (.string (((x5.elem x7.toNat).fld 4).toStr)))])]).bind fun t1 => if (!((t1.headD default).toBool)) = false then (if 0 ≤ x7 then (if x7 ≤ (x0.items.length : Int) then ((slices_Contains_impl_Affix.f N [(PV.list ((x0.items.drop 0).take (x7.toNat - 0))), (PV.agg [(PV.sc (.string (((x5.elem x7.toNat).fld 0).toStr))), (PV.sc (.bool (((x5.elem x7.toNat).fld 1).toBool))), (PV.sc (.string (((x5.elem x7.toNat).fld 2).toStr))), (PV.sc (.string (((x5.elem x7.toNat).fld 3).toStr))), (PV.sc (.string (((x5.elem x7.toNat).fld 4).toStr)))])]).bind fun t2 => if (t2.headD default).toBool = true then (some [(PV.sc (.bool false))]) else (impl_affixesOk.l0 N n x0 x5 x6 (IntKind.i64.wrap (x7 + 1)))) else none) else none) else (some [(PV.sc (.bool false))])) else none) else none) else (some [(PV.sc (.bool (decide ((x0.items.length : Int) ≤ 8))))]) := by kernel_rfl
noncomputable def impl_affixesOk.S (N : Nat) : ASpec := ⟨[(23, .ro)], [(4, .val)], impl_affixesOk.f N⟩
theorem impl_affixesOk.ok (N : Nat) : FnOk Tryz.prog 89 (impl_affixesOk.S N) := fnOk_of (E := impl_affixesOk.E N) mix Tryz.func89 (by kernel_rfl) (by kernel_rfl) (by kernel_rfl) (lk_ok (all_cons (impl_AffixOk.ok N) (all_cons (slices_Contains_impl_Affix.ok N) all_nil))) (by kernel_rfl) (fun _ _ h => h)

/-! ### impl_within: function 100, loop.example/medlar/impl.within -/
noncomputable def impl_within.E (N : Nat) : Env := ⟨lk [], nzk [], N, [], false⟩
noncomputable def impl_within.f (N : Nat) (a : List PV) : Option Res := run Tryz.prog (impl_within.E N) Tryz.f100 [(3, .ro), (3, .ro), (3, .ro)] [(4, .val)] a
theorem impl_within.f_eq (N : Nat) (a0 : PV) (a1 : PV) (a2 : PV) : impl_within.f N [a0, a1, a2] = if decide (a1.toInt ≤ a0.toInt) = true then (some [(PV.sc (.bool (decide (a0.toInt ≤ a2.toInt))))]) else (some [(PV.sc (.bool false))]) := by kernel_rfl
noncomputable def impl_within.S (N : Nat) : ASpec := ⟨[(3, .ro), (3, .ro), (3, .ro)], [(4, .val)], impl_within.f N⟩
theorem impl_within.ok (N : Nat) : FnOk Tryz.prog 100 (impl_within.S N) := fnOk_of (E := impl_within.E N) mix Tryz.func100 (by kernel_rfl) (by kernel_rfl) (by kernel_rfl) (lk_ok all_nil) (by kernel_rfl) (fun _ _ h => h)

/-! ### impl_WordOk: function 48, loop.example/medlar/impl.WordOk -/
noncomputable def impl_WordOk.E (N : Nat) : Env := ⟨lk [(100, impl_within.S N), (101, impl_lower.S N)], nzk [], N, [], false⟩
noncomputable def impl_WordOk.f (N : Nat) (a : List PV) : Option Res := run Tryz.prog (impl_WordOk.E N) Tryz.f48 [(9, .ro)] [(4, .val)] a
theorem impl_WordOk.f_eq (N : Nat) (a0 : PV) : impl_WordOk.f N [a0] = (impl_within.f N [(PV.sc (.int .i64 (a0.toStr.size : Int))), (PV.sc (.int .i64 1)), (PV.sc (.int .i64 12))]).bind fun t1 => if (t1.headD default).toBool = true then ((impl_lower.f N [(PV.sc (.string a0.toStr))]).bind fun t2 => some [(PV.sc (.bool ((t2.headD default).toBool)))]) else (some [(PV.sc (.bool false))]) := by kernel_rfl
noncomputable def impl_WordOk.S (N : Nat) : ASpec := ⟨[(9, .ro)], [(4, .val)], impl_WordOk.f N⟩
theorem impl_WordOk.ok (N : Nat) : FnOk Tryz.prog 48 (impl_WordOk.S N) := fnOk_of (E := impl_WordOk.E N) mix Tryz.func48 (by kernel_rfl) (by kernel_rfl) (by kernel_rfl) (lk_ok (all_cons (impl_within.ok N) (all_cons (impl_lower.ok N) all_nil))) (by kernel_rfl) (fun _ _ h => h)

/-! ### impl_entryOk: function 130, loop.example/medlar/impl.entryOk -/
noncomputable def impl_entryOk.E (N : Nat) : Env := ⟨lk [(93, impl_upper.S N), (48, impl_WordOk.S N)], nzk [(2, ⟨[0, 2, 3, 4, 5, 8, 9, 10, 11, 12, 13, 14, 15, 16, 17, 18, 19, 20, 21, 22, 23, 24, 25, 26, 27, 28, 29, 30, 31, 32, 33, 34, 35, 36, 37, 38, 39, 40, 41], [], []⟩)], N, [], false⟩
noncomputable def impl_entryOk.f (N : Nat) (a : List PV) : Option Res := run Tryz.prog (impl_entryOk.E N) Tryz.f130 [(99, .ro)] [(4, .val)] a
noncomputable def impl_entryOk.l0 (N : Nat) (n : Nat) (x6 : Int) (x7 : Int) (y0_0 : ByteArray) (y0_1 : ByteArray) : Option Res := loopAt Tryz.prog (impl_entryOk.E N) Tryz.f130 [(4, .val)] [1, 0, 1, 0] [] n ⟨mkSlots 42 [(1, .ptr 0 []), (6, .sc (.int .i64 x6)), (7, .sc (.int .i64 x7))], ohOf [.box 99 (.agg 99 [.sc (.string y0_0), .sc (.string y0_1)])]⟩
theorem impl_entryOk.f_eq (N : Nat) (a0 : PV) : impl_entryOk.f N [a0] = impl_entryOk.l0 N N (((a0.fld 1).toStr).size : Int) 0 ((a0.fld 0).toStr) ((a0.fld 1).toStr) := by kernel_rfl
theorem impl_entryOk.l0_eq (N : Nat) (n : Nat) (x6 : Int) (x7 : Int) (y0_0 : ByteArray) (y0_1 : ByteArray) : impl_entryOk.l0 N (n + 1) x6 x7 y0_0 y0_1 = if decide (x7 < x6) = true then (if 0 ≤ x7 then (if x7 < (y0_1.size : Int) then ((impl_upper.f N [(PV.sc (.int .u8 ((y0_1.get! x7.toNat).toNat : Int)))]).bind fun t1 => if (!((t1.headD default).toBool)) = false then (if decide (0 < x7) = true then (if 0 ≤ (IntKind.i64.wrap (x7 - 1)) then (if (IntKind.i64.wrap (x7 - 1)) < (y0_1.size : Int) then (if 0 ≤ x7 then (if x7 < (y0_1.size : Int) then (if decide (((y0_1.get! x7.toNat).toNat : Int) ≤ ((y0_1.get! (IntKind.i64.wrap (x7 - 1)).toNat).toNat : Int)) = true then (some [(PV.sc (.bool false))]) else (impl_entryOk.l0 N n x6 (IntKind.i64.wrap (x7 + 1)) y0_0 y0_1)) else none) else none) else none) else none) else (impl_entryOk.l0 N n x6 (IntKind.i64.wrap (x7 + 1)) y0_0 y0_1)) else (some [(PV.sc (.bool false))])) else none) else none) else ((impl_WordOk.f N [(PV.sc (.string y0_0))]).bind fun t2 => if (t2.headD default).toBool = true then (some [(PV.sc (.bool (decide ((y0_1.size : Int) ≤ 4))))]) else (some [(PV.sc (.bool false))])) := by kernel_rfl
noncomputable def impl_entryOk.S (N : Nat) : ASpec := ⟨[(99, .ro)], [(4, .val)], impl_entryOk.f N⟩
theorem impl_entryOk.ok (N : Nat) : FnOk Tryz.prog 130 (impl_entryOk.S N) := fnOk_of (E := impl_entryOk.E N) mix Tryz.func130 (by kernel_rfl) (by kernel_rfl) (by kernel_rfl) (lk_ok (all_cons (impl_upper.ok N) (all_cons (impl_WordOk.ok N) all_nil))) (by kernel_rfl) (fun _ _ h => h)

/-! ### impl_entriesOk: function 90, loop.example/medlar/impl.entriesOk -/
noncomputable def impl_entriesOk.E (N : Nat) : Env := ⟨lk [(130, impl_entryOk.S N)], nzk [(2, ⟨[1, 2, 3, 4, 8, 9, 10, 11, 12, 13, 14, 15, 16, 17, 18, 19, 20, 21, 22, 23, 24, 25, 26, 27, 28, 29, 30, 31, 32, 33], [], []⟩)], N, [], false⟩
noncomputable def impl_entriesOk.f (N : Nat) (a : List PV) : Option Res := run Tryz.prog (impl_entriesOk.E N) Tryz.f90 [(24, .ro)] [(4, .val)] a
noncomputable def impl_entriesOk.l0 (N : Nat) (n : Nat) (x0 : PV) (x5 : PV) (x6 : Int) (x7 : Int) : Option Res := loopAt Tryz.prog (impl_entriesOk.E N) Tryz.f90 [(4, .val)] [1, 0, 1, 0] [] n ⟨mkSlots 34 [(0, .ro 24 x0), (5, .ro 24 x5), (6, .sc (.int .i64 x6)), (7, .sc (.int .i64 x7))], ohOf []⟩
theorem impl_entriesOk.f_eq (N : Nat) (a0 : PV) : impl_entriesOk.f N [a0] = impl_entriesOk.l0 N N a0 a0 (a0.items.length : Int) 0 := by kernel_rfl
theorem impl_entriesOk.l0_eq (N : Nat) (n : Nat) (x0 : PV) (x5 : PV) (x6 : Int) (x7 : Int) : impl_entriesOk.l0 N (n + 1) x0 x5 x6 x7 = if decide (x7 < x6) = true then (if 0 ≤ x7 then (if x7 < (x5.items.length : Int) then ((impl_entryOk.f N [(PV.agg [(PV.sc (.string (((x5.elem x7.toNat).fld 0).toStr))), (PV.sc (.string (((x5.elem x7.toNat).fld 1).toStr)))])]).bind fun t1 => if (!((t1.headD default).toBool)) = false then (if decide (0 < x7) = true then (if 0 ≤ (IntKind.i64.wrap (x7 - 1)) then (if (IntKind.i64.wrap (x7 - 1)) < (x0.items.length : Int) then (if (!Op.bytesLess (((x0.elem ((IntKind.i64.wrap (x7 - 1)).toNat)).fld 0).toStr).toList (((x5.elem x7.toNat).fld 0).toStr).toList) = true then (some [(PV.sc (.bool false))]) else (impl_entriesOk.l0 N n x0 x5 x6 (IntKind.i64.wrap (x7 + 1)))) else none) else none) else (impl_entriesOk.l0 N n x0 x5 x6 (IntKind.i64.wrap (x7 + 1)))) else (some [(PV.sc (.bool false))])) else none) else none) else (some [(PV.sc (.bool (decide ((x0.items.length : Int) ≤ 24))))]) := by kernel_rfl
noncomputable def impl_entriesOk.S (N : Nat) : ASpec := ⟨[(24, .ro)], [(4, .val)], impl_entriesOk.f N⟩
theorem impl_entriesOk.ok (N : Nat) : FnOk Tryz.prog 90 (impl_entriesOk.S N) := fnOk_of (E := impl_entriesOk.E N) mix Tryz.func90 (by kernel_rfl) (by kernel_rfl) (by kernel_rfl) (lk_ok (all_cons (impl_entryOk.ok N) all_nil)) (by kernel_rfl) (fun _ _ h => h)

/-! ### impl_BookOk: function 44, loop.example/medlar/impl.BookOk -/
noncomputable def impl_BookOk.E (N : Nat) : Env := ⟨lk [(89, impl_affixesOk.S N), (90, impl_entriesOk.S N)], nzk [], N, [], false⟩
noncomputable def impl_BookOk.f (N : Nat) (a : List PV) : Option Res := run Tryz.prog (impl_BookOk.E N) Tryz.f44 [(26, .ro)] [(4, .val)] a
theorem impl_BookOk.f_eq (N : Nat) (a0 : PV) : impl_BookOk.f N [a0] = (impl_affixesOk.f N [a0.fld 0]).bind fun t1 => if (t1.headD default).toBool = true then ((impl_entriesOk.f N [a0.fld 1]).bind fun t2 => some [(PV.sc (.bool ((t2.headD default).toBool)))]) else (some [(PV.sc (.bool false))]) := by kernel_rfl
noncomputable def impl_BookOk.S (N : Nat) : ASpec := ⟨[(26, .ro)], [(4, .val)], impl_BookOk.f N⟩
theorem impl_BookOk.ok (N : Nat) : FnOk Tryz.prog 44 (impl_BookOk.S N) := fnOk_of (E := impl_BookOk.E N) mix Tryz.func44 (by kernel_rfl) (by kernel_rfl) (by kernel_rfl) (lk_ok (all_cons (impl_affixesOk.ok N) (all_cons (impl_entriesOk.ok N) all_nil))) (by kernel_rfl) (fun _ _ h => h)

def lays143_ren : Go.Shelf.Ren := ⟨fun | 143 => 157 | 219 => 181 | 217 => 199 | 225 => 200 | 224 => 201 | 267 => 202 | 266 => 206 | 314 => 207 | n => n, fun | 9 => 9 | 3 => 3 | 4 => 4 | 5 => 5 | 46 => 128 | 146 => 207 | 51 => 163 | n => n, fun | 1 => 2 | n => n⟩
theorem lays143 : Go.Proofs.Lays.n143 Tryz.prog lays143_ren := {
  mixed := by kernel_rfl
  f143 := Tryz.func157.trans (congrArg some (by kernel_rfl))
  f217 := Tryz.func199.trans (congrArg some (by kernel_rfl))
  f219 := Tryz.func181.trans (congrArg some (by kernel_rfl))
  f224 := Tryz.func201.trans (congrArg some (by kernel_rfl))
  f225 := Tryz.func200.trans (congrArg some (by kernel_rfl))
  f266 := Tryz.func206.trans (congrArg some (by kernel_rfl))
  f267 := Tryz.func202.trans (congrArg some (by kernel_rfl))
  f314 := Tryz.func207.trans (congrArg some (by kernel_rfl))
  t3 := Tryz.underlying3
  a3 := Tryz.isAgg3
  z3 := Tryz.sizeOf3
  v3 := Tryz.zeroValue3
  t4 := Tryz.underlying4
  a4 := Tryz.isAgg4
  z4 := Tryz.sizeOf4
  v4 := Tryz.zeroValue4
  t5 := Tryz.underlying5
  a5 := Tryz.isAgg5
  z5 := Tryz.sizeOf5
  v5 := Tryz.zeroValue5
  t9 := Tryz.underlying9
  a9 := Tryz.isAgg9
  z9 := Tryz.sizeOf9
  v9 := Tryz.zeroValue9
  t46 := Tryz.underlying128
  a46 := Tryz.isAgg128
  z46 := Tryz.sizeOf128
  v46 := Tryz.zeroValue128
  t51 := Tryz.underlying163
  a51 := Tryz.isAgg163
  z51 := Tryz.sizeOf163
  v51 := Tryz.zeroValue163
  t146 := Tryz.underlying207
  a146 := Tryz.isAgg207
  z146 := Tryz.sizeOf207
  v146 := Tryz.zeroValue207
  g1 := by kernel_rfl }

/-! ### strings_Index: function 157, strings.Index, by the kit's contract, Lib4 -/
noncomputable def strings_Index.f (N : Nat) (a : List PV) : Option (List PV) := indexDen a
noncomputable def strings_Index.S (N : Nat) : ASpec := ⟨[(9, .ro), (9, .ro)], [(3, .val)], strings_Index.f N⟩
theorem strings_Index.ok (N : Nat) : FnOk Tryz.prog 157 (strings_Index.S N) := fnOk_index lays143 rfl ⟨_, Tryz.func157, by kernel_rfl, by kernel_rfl⟩ (by kernel_rfl) (by kernel_rfl)

/-! ### strings_Contains: function 131, strings.Contains -/
noncomputable def strings_Contains.E (N : Nat) : Env := ⟨lk [(157, strings_Index.S N)], nzk [], N, [], false⟩
noncomputable def strings_Contains.f (N : Nat) (a : List PV) : Option Res := run Tryz.prog (strings_Contains.E N) Tryz.f131 [(9, .ro), (9, .ro)] [(4, .val)] a
theorem strings_Contains.f_eq (N : Nat) (a0 : PV) (a1 : PV) : strings_Contains.f N [a0, a1] = (strings_Index.f N [(PV.sc (.string a0.toStr)), (PV.sc (.string a1.toStr))]).bind fun t1 => some [(PV.sc (.bool (decide (0 ≤ ((t1.headD default).toInt)))))] := by kernel_rfl
noncomputable def strings_Contains.S (N : Nat) : ASpec := ⟨[(9, .ro), (9, .ro)], [(4, .val)], strings_Contains.f N⟩
theorem strings_Contains.ok (N : Nat) : FnOk Tryz.prog 131 (strings_Contains.S N) := fnOk_of (E := strings_Contains.E N) mix Tryz.func131 (by kernel_rfl) (by kernel_rfl) (by kernel_rfl) (lk_ok (all_cons (strings_Index.ok N) all_nil)) (by kernel_rfl) (fun _ _ h => h)

/-! ### impl_AffixDo: function 132, loop.example/medlar/impl.AffixDo -/
noncomputable def impl_AffixDo.E (N : Nat) : Env := ⟨lk [(128, impl_AffixOk.S N), (48, impl_WordOk.S N), (167, strings_HasPrefix.S N), (168, strings_HasSuffix.S N)], nzk [], N, [], false⟩
noncomputable def impl_AffixDo.f (N : Nat) (a : List PV) : Option Res := run Tryz.prog (impl_AffixDo.E N) Tryz.f132 [(121, .ro), (9, .ro)] [(9, .val), (4, .val)] a
theorem impl_AffixDo.f_eq (N : Nat) (a0 : PV) (a1 : PV) : impl_AffixDo.f N [a0, a1] = (impl_AffixOk.f N [(PV.agg [(PV.sc (.string ((a0.fld 0).toStr))), (PV.sc (.bool ((a0.fld 1).toBool))), (PV.sc (.string ((a0.fld 2).toStr))), (PV.sc (.string ((a0.fld 3).toStr))), (PV.sc (.string ((a0.fld 4).toStr)))])]).bind fun t1 => if (!((t1.headD default).toBool)) = false then ((impl_WordOk.f N [(PV.sc (.string a1.toStr))]).bind fun t2 => if (!((t2.headD default).toBool)) = true then (some [(PV.sc (.string (ByteArray.mk #[]))), (PV.sc (.bool false))]) else (if (a0.fld 1).toBool = true then ((strings_HasPrefix.f N [(PV.sc (.string a1.toStr)), (PV.sc (.string ((a0.fld 4).toStr)))]).bind fun t3 => if (!((t3.headD default).toBool)) = true then (some [(PV.sc (.string (ByteArray.mk #[]))), (PV.sc (.bool false))]) else (if 0 ≤ (((a0.fld 2).toStr).size : Int) then (if (((a0.fld 2).toStr).size : Int) ≤ (a1.toStr.size : Int) then (if ((a0.fld 3).toStr).size + (a1.toStr.extract (((a0.fld 2).toStr).size) a1.toStr.size).size ≤ 9223372036854775807 then ((impl_WordOk.f N [(PV.sc (.string (((a0.fld 3).toStr) ++ (a1.toStr.extract (((a0.fld 2).toStr).size) a1.toStr.size))))]).bind fun t4 => if (!((t4.headD default).toBool)) = true then (some [(PV.sc (.string (ByteArray.mk #[]))), (PV.sc (.bool false))]) else (some [(PV.sc (.string (((a0.fld 3).toStr) ++ (a1.toStr.extract (((a0.fld 2).toStr).size) a1.toStr.size)))), (PV.sc (.bool true))])) else none) else none) else none)) else ((strings_HasSuffix.f N [(PV.sc (.string a1.toStr)), (PV.sc (.string ((a0.fld 4).toStr)))]).bind fun t5 => if (!((t5.headD default).toBool)) = true then (some [(PV.sc (.string (ByteArray.mk #[]))), (PV.sc (.bool false))]) else (if 0 ≤ (IntKind.i64.wrap ((a1.toStr.size : Int) - (((a0.fld 2).toStr).size : Int))) then (if (IntKind.i64.wrap ((a1.toStr.size : Int) - (((a0.fld 2).toStr).size : Int))) ≤ (a1.toStr.size : Int) then (if (a1.toStr.extract 0 ((IntKind.i64.wrap ((a1.toStr.size : Int) - (((a0.fld 2).toStr).size : Int))).toNat)).size + ((a0.fld 3).toStr).size ≤ 9223372036854775807 then ((impl_WordOk.f N [(PV.sc (.string ((a1.toStr.extract 0 ((IntKind.i64.wrap ((a1.toStr.size : Int) - (((a0.fld 2).toStr).size : Int))).toNat)) ++ ((a0.fld 3).toStr))))]).bind fun t6 => if (!((t6.headD default).toBool)) = true then (some [(PV.sc (.string (ByteArray.mk #[]))), (PV.sc (.bool false))]) else (some [(PV.sc (.string ((a1.toStr.extract 0 ((IntKind.i64.wrap ((a1.toStr.size : Int) - (((a0.fld 2).toStr).size : Int))).toNat)) ++ ((a0.fld 3).toStr)))), (PV.sc (.bool true))])) else none) else none) else none)))) else (some [(PV.sc (.string (ByteArray.mk #[]))), (PV.sc (.bool false))]) := by kernel_rfl
noncomputable def impl_AffixDo.S (N : Nat) : ASpec := ⟨[(121, .ro), (9, .ro)], [(9, .val), (4, .val)], impl_AffixDo.f N⟩
theorem impl_AffixDo.ok (N : Nat) : FnOk Tryz.prog 132 (impl_AffixDo.S N) := fnOk_of (E := impl_AffixDo.E N) mix Tryz.func132 (by kernel_rfl) (by kernel_rfl) (by kernel_rfl) (lk_ok (all_cons (impl_AffixOk.ok N) (all_cons (impl_WordOk.ok N) (all_cons (strings_HasPrefix.ok N) (all_cons (strings_HasSuffix.ok N) all_nil))))) (by kernel_rfl) (fun _ _ h => h)

def lays190_ren : Go.Shelf.Ren := ⟨fun | 190 => 133 | 125 => 109 | 258 => 170 | 128 => 150 | 129 => 151 | 302 => 186 | 303 => 187 | 304 => 188 | 305 => 189 | 306 => 190 | 307 => 191 | 308 => 192 | 309 => 193 | 310 => 194 | 333 => 203 | 329 => 177 | 330 => 178 | 334 => 204 | 335 => 205 | 336 => 153 | 344 => 208 | n => n, fun | 31 => 27 | 9 => 9 | 3 => 3 | 46 => 128 | 0 => 0 | 51 => 163 | 53 => 165 | 4 => 4 | 183 => 156 | 182 => 155 | 131 => 160 | 5 => 5 | 218 => 180 | 222 => 184 | 228 => 198 | 229 => 133 | n => n, fun | n => n⟩
theorem lays190 : Go.Proofs.Lays.n190 Tryz.prog lays190_ren := {
  mixed := by kernel_rfl
  f125 := Tryz.func109.trans (congrArg some (by kernel_rfl))
  f128 := Tryz.func150.trans (congrArg some (by kernel_rfl))
  f129 := Tryz.func151.trans (congrArg some (by kernel_rfl))
  f190 := Tryz.func133.trans (congrArg some (by kernel_rfl))
  f258 := Tryz.func170.trans (congrArg some (by kernel_rfl))
  f302 := Tryz.func186.trans (congrArg some (by kernel_rfl))
  f303 := Tryz.func187.trans (congrArg some (by kernel_rfl))
  f304 := Tryz.func188.trans (congrArg some (by kernel_rfl))
  f305 := Tryz.func189.trans (congrArg some (by kernel_rfl))
  f306 := Tryz.func190.trans (congrArg some (by kernel_rfl))
  f307 := Tryz.func191.trans (congrArg some (by kernel_rfl))
  f308 := Tryz.func192.trans (congrArg some (by kernel_rfl))
  f309 := Tryz.func193.trans (congrArg some (by kernel_rfl))
  f310 := Tryz.func194.trans (congrArg some (by kernel_rfl))
  f329 := Tryz.func177.trans (congrArg some (by kernel_rfl))
  f330 := Tryz.func178.trans (congrArg some (by kernel_rfl))
  f333 := Tryz.func203.trans (congrArg some (by kernel_rfl))
  f334 := Tryz.func204.trans (congrArg some (by kernel_rfl))
  f335 := Tryz.func205.trans (congrArg some (by kernel_rfl))
  f336 := Tryz.func153.trans (congrArg some (by kernel_rfl))
  f344 := Tryz.func208.trans (congrArg some (by kernel_rfl))
  t0 := Tryz.underlying0
  a0 := Tryz.isAgg0
  z0 := Tryz.sizeOf0
  v0 := Tryz.zeroValue0
  t3 := Tryz.underlying3
  a3 := Tryz.isAgg3
  z3 := Tryz.sizeOf3
  v3 := Tryz.zeroValue3
  t4 := Tryz.underlying4
  a4 := Tryz.isAgg4
  z4 := Tryz.sizeOf4
  v4 := Tryz.zeroValue4
  t5 := Tryz.underlying5
  a5 := Tryz.isAgg5
  z5 := Tryz.sizeOf5
  v5 := Tryz.zeroValue5
  t9 := Tryz.underlying9
  a9 := Tryz.isAgg9
  z9 := Tryz.sizeOf9
  v9 := Tryz.zeroValue9
  t31 := Tryz.underlying27
  a31 := Tryz.isAgg27
  z31 := Tryz.sizeOf27
  v31 := Tryz.zeroValue27
  t46 := Tryz.underlying128
  a46 := Tryz.isAgg128
  z46 := Tryz.sizeOf128
  v46 := Tryz.zeroValue128
  t51 := Tryz.underlying163
  a51 := Tryz.isAgg163
  z51 := Tryz.sizeOf163
  v51 := Tryz.zeroValue163
  t53 := Tryz.underlying165
  a53 := Tryz.isAgg165
  z53 := Tryz.sizeOf165
  v53 := Tryz.zeroValue165
  t131 := Tryz.underlying160
  a131 := Tryz.isAgg160
  z131 := Tryz.sizeOf160
  v131 := Tryz.zeroValue160
  t182 := Tryz.underlying155
  a182 := Tryz.isAgg155
  z182 := Tryz.sizeOf155
  v182 := Tryz.zeroValue155
  t183 := Tryz.underlying156
  a183 := Tryz.isAgg156
  z183 := Tryz.sizeOf156
  v183 := Tryz.zeroValue156
  t218 := Tryz.underlying180
  a218 := Tryz.isAgg180
  z218 := Tryz.sizeOf180
  v218 := Tryz.zeroValue180
  t222 := Tryz.underlying184
  a222 := Tryz.isAgg184
  z222 := Tryz.sizeOf184
  v222 := Tryz.zeroValue184
  t228 := Tryz.underlying198
  a228 := Tryz.isAgg198
  z228 := Tryz.sizeOf198
  v228 := Tryz.zeroValue198
  t229 := Tryz.underlying133
  a229 := Tryz.isAgg133
  z229 := Tryz.sizeOf133
  v229 := Tryz.zeroValue133 }

/-! ### slices_Sort_string_string: function 133, slices.Sort[[]string,string], by the kit's contract, Lib1 -/
noncomputable def slices_Sort_string_string.f (N : Nat) (a : List PV) : Option (List PV) := sortDen a
noncomputable def slices_Sort_string_string.S (N : Nat) : ASpec := ⟨[(27, .mut)], [], slices_Sort_string_string.f N⟩
theorem slices_Sort_string_string.ok (N : Nat) : FnOk Tryz.prog 133 (slices_Sort_string_string.S N) := fnOk_sort (e := 9) lays190 rfl ⟨_, Tryz.func133, by kernel_rfl, by kernel_rfl⟩ (by kernel_rfl) (by kernel_rfl)

def lays194_ren : Go.Shelf.Ren := ⟨fun | 194 => 134 | n => n, fun | 31 => 27 | 9 => 9 | 3 => 3 | 4 => 4 | 0 => 0 | n => n, fun | n => n⟩
theorem lays194 : Go.Proofs.Lays.n194 Tryz.prog lays194_ren := {
  mixed := by kernel_rfl
  f194 := Tryz.func134.trans (congrArg some (by kernel_rfl))
  t0 := Tryz.underlying0
  a0 := Tryz.isAgg0
  z0 := Tryz.sizeOf0
  v0 := Tryz.zeroValue0
  t3 := Tryz.underlying3
  a3 := Tryz.isAgg3
  z3 := Tryz.sizeOf3
  v3 := Tryz.zeroValue3
  t4 := Tryz.underlying4
  a4 := Tryz.isAgg4
  z4 := Tryz.sizeOf4
  v4 := Tryz.zeroValue4
  t9 := Tryz.underlying9
  a9 := Tryz.isAgg9
  z9 := Tryz.sizeOf9
  v9 := Tryz.zeroValue9
  t31 := Tryz.underlying27
  a31 := Tryz.isAgg27
  z31 := Tryz.sizeOf27
  v31 := Tryz.zeroValue27 }

/-! ### slices_Compact_string_string: function 134, slices.Compact[[]string,string], by the kit's contract, Lib1 Lib2 -/
noncomputable def slices_Compact_string_string.f (N : Nat) (a : List PV) : Option (List PV) := compactDen a
noncomputable def slices_Compact_string_string.S (N : Nat) : ASpec := ⟨[(27, .own)], [(27, .own)], slices_Compact_string_string.f N⟩
theorem slices_Compact_string_string.ok (N : Nat) : FnOk Tryz.prog 134 (slices_Compact_string_string.S N) := fnOk_compact (e := 9) lays194 rfl ⟨_, Tryz.func134, by kernel_rfl, by kernel_rfl⟩ (by kernel_rfl) (by kernel_rfl)

/-! ### impl_sorted: function 92, loop.example/medlar/impl.sorted -/
noncomputable def impl_sorted.E (N : Nat) : Env := ⟨lk [(133, slices_Sort_string_string.S N), (134, slices_Compact_string_string.S N)], nzk [], N, [], false⟩
noncomputable def impl_sorted.f (N : Nat) (a : List PV) : Option Res := run Tryz.prog (impl_sorted.E N) Tryz.f92 [(27, .ro)] [(27, .own)] a
theorem impl_sorted.f_eq (N : Nat) (a0 : PV) : impl_sorted.f N [a0] = if ([] : List PV).length + a0.items.length ≤ 8796093022208 then ((slices_Sort_string_string.f N [(PV.list (([] : List PV) ++ a0.items))]).bind fun t1 => (slices_Compact_string_string.f N [(t1.headD default)]).bind fun t2 => if ([] : List PV).length + ((t2.headD default).items).length ≤ 8796093022208 then (some [(PV.list (([] : List PV) ++ ((t2.headD default).items)))]) else none) else none := by kernel_rfl
noncomputable def impl_sorted.S (N : Nat) : ASpec := ⟨[(27, .ro)], [(27, .own)], impl_sorted.f N⟩
theorem impl_sorted.ok (N : Nat) : FnOk Tryz.prog 92 (impl_sorted.S N) := fnOk_of (E := impl_sorted.E N) mix Tryz.func92 (by kernel_rfl) (by kernel_rfl) (by kernel_rfl) (lk_ok (all_cons (slices_Sort_string_string.ok N) (all_cons (slices_Compact_string_string.ok N) all_nil))) (by kernel_rfl) (fun _ _ h => h)

/-! ### impl_Forms: function 91, loop.example/medlar/impl.Forms -/
noncomputable def impl_Forms.E (N : Nat) : Env := ⟨lk [(89, impl_affixesOk.S N), (130, impl_entryOk.S N), (92, impl_sorted.S N), (131, strings_Contains.S N), (132, impl_AffixDo.S N)], nzk [(5, ⟨[1, 2, 4, 6, 7, 8, 9, 10, 11, 12, 13, 14, 15, 16, 17, 18, 19, 20, 21, 22, 23, 24, 25, 29, 30, 31, 32, 33, 34, 35, 36, 37, 38, 39, 40, 41, 42, 43, 44, 45, 46, 47, 48, 49, 50, 51, 52, 53, 54, 55, 56, 57, 58, 59, 60, 61, 62, 63, 64, 65, 66, 67, 68, 69, 70, 71, 72, 73, 74, 75, 76, 77, 78, 79, 80], [(5, 27)], []⟩), (8, ⟨[1, 2, 4, 6, 8, 9, 10, 11, 12, 13, 14, 15, 16, 17, 18, 19, 20, 21, 22, 23, 24, 25, 29, 30, 31, 32, 33, 37, 38, 39, 40, 41, 42, 43, 44, 45, 46, 47, 48, 49, 50, 51, 52, 53, 54, 55, 56, 57, 58, 59, 60, 61, 62, 63, 64, 65, 66, 67, 68, 69, 70, 71, 72, 73, 74, 75, 76, 77, 78, 79, 80], [(5, 27)], []⟩), (11, ⟨[1, 2, 4, 6, 8, 10, 11, 12, 13, 14, 15, 16, 17, 18, 19, 20, 21, 22, 23, 24, 25, 29, 30, 31, 32, 33, 37, 38, 39, 43, 44, 45, 46, 47, 48, 49, 50, 51, 52, 53, 54, 55, 56, 57, 58, 59, 60, 61, 62, 63, 64, 65, 66, 67, 68, 69, 70, 71, 72, 73, 74, 75, 76, 77, 78, 79, 80], [(5, 27)], []⟩)], N, [], false⟩
noncomputable def impl_Forms.f (N : Nat) (a : List PV) : Option Res := run Tryz.prog (impl_Forms.E N) Tryz.f91 [(23, .ro), (99, .ro)] [(27, .own)] a
noncomputable def impl_Forms.l0 (N : Nat) (n : Nat) (x0 : PV) (x27 : Int) (x28 : Int) (y0_0 : ByteArray) (y0_1 : ByteArray) (y1 : List PV) (y2 : List PV) : Option Res := loopAt Tryz.prog (impl_Forms.E N) Tryz.f91 [(27, .own)] [1, 1, 1, 0, 1, 0] [] n ⟨mkSlots 81 [(0, .ro 23 x0), (3, .ptr 0 []), (5, .ref 1 []), (26, .ref 2 []), (27, .sc (.int .i64 x27)), (28, .sc (.int .i64 x28))], ohOf [.box 99 (.agg 99 [.sc (.string y0_0), .sc (.string y0_1)]), .row 27 (PV.list y1), .row 142 (PV.list y2)]⟩
noncomputable def impl_Forms.l1 (N : Nat) (m0 : Nat) (n : Nat) (x0 : PV) (x7 : Bool) (x27 : Int) (x28 : Int) (x35 : Int) (x36 : Int) (y0_0 : ByteArray) (y0_1 : ByteArray) (y1 : List PV) (y2 : List PV) (y3 : List PV) : Option Res := loopAt Tryz.prog (impl_Forms.E N) Tryz.f91 [(27, .own)] [1, 1, 1, 0, 1, 0, 0, 1, 1, 0, 0, 1, 1, 0] [m0] n ⟨mkSlots 81 [(0, .ro 23 x0), (3, .ptr 0 []), (5, .ref 1 []), (7, .sc (.bool x7)), (26, .ref 2 []), (27, .sc (.int .i64 x27)), (28, .sc (.int .i64 x28)), (34, .ref 3 []), (35, .sc (.int .i64 x35)), (36, .sc (.int .i64 x36))], ohOf [.box 99 (.agg 99 [.sc (.string y0_0), .sc (.string y0_1)]), .row 27 (PV.list y1), .row 142 (PV.list y2), .row 27 (PV.list y3)]⟩
noncomputable def impl_Forms.l2 (N : Nat) (m0 : Nat) (m1 : Nat) (n : Nat) (x0 : PV) (x7 : Bool) (x9 : ByteArray) (x27 : Int) (x28 : Int) (x35 : Int) (x36 : Int) (x40 : PV) (x41 : Int) (x42 : Int) (y0_0 : ByteArray) (y0_1 : ByteArray) (y1 : List PV) (y2 : List PV) (y3 : List PV) : Option Res := loopAt Tryz.prog (impl_Forms.E N) Tryz.f91 [(27, .own)] [1, 1, 1, 0, 1, 0, 0, 1, 1, 0, 0, 1, 1, 0, 0, 1, 1, 0, 0, 1, 1, 0] [m0, m1] n ⟨mkSlots 81 [(0, .ro 23 x0), (3, .ptr 0 []), (5, .ref 1 []), (7, .sc (.bool x7)), (9, .sc (.string x9)), (26, .ref 2 []), (27, .sc (.int .i64 x27)), (28, .sc (.int .i64 x28)), (34, .ref 3 []), (35, .sc (.int .i64 x35)), (36, .sc (.int .i64 x36)), (40, .ro 23 x40), (41, .sc (.int .i64 x41)), (42, .sc (.int .i64 x42))], ohOf [.box 99 (.agg 99 [.sc (.string y0_0), .sc (.string y0_1)]), .row 27 (PV.list y1), .row 142 (PV.list y2), .row 27 (PV.list y3)]⟩
theorem impl_Forms.f_eq (N : Nat) (a0 : PV) (a1 : PV) : impl_Forms.f N [a0, a1] = (impl_affixesOk.f N [a0]).bind fun t1 => if (!((t1.headD default).toBool)) = false then ((impl_entryOk.f N [(PV.agg [(PV.sc (.string ((a1.fld 0).toStr))), (PV.sc (.string ((a1.fld 1).toStr)))])]).bind fun t2 => if (!((t2.headD default).toBool)) = true then (some [(PV.list [])]) else (impl_Forms.l0 N N a0 ([(PV.sc (.bool false)), (PV.sc (.bool true))].length : Int) 0 ((a1.fld 0).toStr) ((a1.fld 1).toStr) [(PV.sc (.string ((a1.fld 0).toStr)))] [(PV.sc (.bool false)), (PV.sc (.bool true))])) else (some [(PV.list [])]) := by kernel_rfl
theorem impl_Forms.l0_eq (N : Nat) (n : Nat) (x0 : PV) (x27 : Int) (x28 : Int) (y0_0 : ByteArray) (y0_1 : ByteArray) (y1 : List PV) (y2 : List PV) : impl_Forms.l0 N (n + 1) x0 x27 x28 y0_0 y0_1 y1 y2 = if decide (x28 < x27) = true then (if 0 ≤ x28 then (if x28 < (y2.length : Int) then (if ([] : List PV).length + y1.length ≤ 8796093022208 then (impl_Forms.l1 N n N x0 (((PV.list y2).elem x28.toNat).toBool) x27 x28 ((([] : List PV) ++ y1).length : Int) 0 y0_0 y0_1 y1 y2 (([] : List PV) ++ y1)) else none) else none) else none) else ((impl_sorted.f N [(PV.list y1)]).bind fun t3 => some [(t3.headD default)]) := by kernel_rfl
theorem impl_Forms.l1_eq (N : Nat) (m0 : Nat) (n : Nat) (x0 : PV) (x7 : Bool) (x27 : Int) (x28 : Int) (x35 : Int) (x36 : Int) (y0_0 : ByteArray) (y0_1 : ByteArray) (y1 : List PV) (y2 : List PV) (y3 : List PV) : impl_Forms.l1 N m0 (n + 1) x0 x7 x27 x28 x35 x36 y0_0 y0_1 y1 y2 y3 = if decide (x36 < x35) = true then (if 0 ≤ x36 then (if x36 < (y3.length : Int) then (impl_Forms.l2 N m0 n N x0 x7 (((PV.list y3).elem x36.toNat).toStr) x27 x28 x35 x36 x0 (x0.items.length : Int) 0 y0_0 y0_1 y1 y2 y3) else none) else none) else (impl_Forms.l0 N m0 x0 x27 (IntKind.i64.wrap (x28 + 1)) y0_0 y0_1 y1 y2) := by kernel_rfl
theorem impl_Forms.l2_eq (N : Nat) (m0 : Nat) (m1 : Nat) (n : Nat) (x0 : PV) (x7 : Bool) (x9 : ByteArray) (x27 : Int) (x28 : Int) (x35 : Int) (x36 : Int) (x40 : PV) (x41 : Int) (x42 : Int) (y0_0 : ByteArray) (y0_1 : ByteArray) (y1 : List PV) (y2 : List PV) (y3 : List PV) : impl_Forms.l2 N m0 m1 (n + 1) x0 x7 x9 x27 x28 x35 x36 x40 x41 x42 y0_0 y0_1 y1 y2 y3 = if decide (x42 < x41) = true then (if 0 ≤ x42 then (if x42 < (x40.items.length : Int) then (if ((((x40.elem x42.toNat).fld 1).toBool) != x7) = false then ((strings_Contains.f N [(PV.sc (.string y0_1)), (PV.sc (.string (((x40.elem x42.toNat).fld 0).toStr)))]).bind fun t4 => if (!((t4.headD default).toBool)) = true then (impl_Forms.l2 N m0 m1 n x0 x7 x9 x27 x28 x35 x36 x40 x41 (IntKind.i64.wrap (x42 + 1)) y0_0 y0_1 y1 y2 y3) else (if x7 = false then (if decide (x9.toList = y0_0.toList) = true then ((impl_AffixDo.f N [(PV.agg [(PV.sc (.string (((x40.elem x42.toNat).fld 0).toStr))), (PV.sc (.bool (((x40.elem x42.toNat).fld 1).toBool))), (PV.sc (.string (((x40.elem x42.toNat).fld 2).toStr))), (PV.sc (.string (((x40.elem x42.toNat).fld 3).toStr))), (PV.sc (.string (((x40.elem x42.toNat).fld 4).toStr)))]), (PV.sc (.string x9))]).bind fun t5 => if (t5.tail.headD default).toBool = true then (if y1.length + [(PV.sc (.string ((t5.headD default).toStr)))].length ≤ 8796093022208 then (impl_Forms.l2 N m0 m1 n x0 x7 x9 x27 x28 x35 x36 x40 x41 (IntKind.i64.wrap (x42 + 1)) y0_0 y0_1 (y1 ++ [(PV.sc (.string ((t5.headD default).toStr)))]) y2 y3) else none) else (impl_Forms.l2 N m0 m1 n x0 x7 x9 x27 x28 x35 x36 x40 x41 (IntKind.i64.wrap (x42 + 1)) y0_0 y0_1 y1 y2 y3)) else (impl_Forms.l2 N m0 m1 n x0 x7 x9 x27 x28 x35 x36 x40 x41 (IntKind.i64.wrap (x42 + 1)) y0_0 y0_1 y1 y2 y3)) else ((impl_AffixDo.f N [(PV.agg [(PV.sc (.string (((x40.elem x42.toNat).fld 0).toStr))), (PV.sc (.bool (((x40.elem x42.toNat).fld 1).toBool))), (PV.sc (.string (((x40.elem x42.toNat).fld 2).toStr))), (PV.sc (.string (((x40.elem x42.toNat).fld 3).toStr))), (PV.sc (.string (((x40.elem x42.toNat).fld 4).toStr)))]), (PV.sc (.string x9))]).bind fun t6 => if (t6.tail.headD default).toBool = true then (if y1.length + [(PV.sc (.string ((t6.headD default).toStr)))].length ≤ 8796093022208 then (impl_Forms.l2 N m0 m1 n x0 x7 x9 x27 x28 x35 x36 x40 x41 (IntKind.i64.wrap (x42 + 1)) y0_0 y0_1 (y1 ++ [(PV.sc (.string ((t6.headD default).toStr)))]) y2 y3) else none) else (impl_Forms.l2 N m0 m1 n x0 x7 x9 x27 x28 x35 x36 x40 x41 (IntKind.i64.wrap (x42 + 1)) y0_0 y0_1 y1 y2 y3)))) else (impl_Forms.l2 N m0 m1 n x0 x7 x9 x27 x28 x35 x36 x40 x41 (IntKind.i64.wrap (x42 + 1)) y0_0 y0_1 y1 y2 y3)) else none) else none) else (impl_Forms.l1 N m0 m1 x0 x7 x27 x28 x35 (IntKind.i64.wrap (x36 + 1)) y0_0 y0_1 y1 y2 y3) := by kernel_rfl
noncomputable def impl_Forms.S (N : Nat) : ASpec := ⟨[(23, .ro), (99, .ro)], [(27, .own)], impl_Forms.f N⟩
theorem impl_Forms.ok (N : Nat) : FnOk Tryz.prog 91 (impl_Forms.S N) := fnOk_of (E := impl_Forms.E N) mix Tryz.func91 (by kernel_rfl) (by kernel_rfl) (by kernel_rfl) (lk_ok (all_cons (impl_affixesOk.ok N) (all_cons (impl_entryOk.ok N) (all_cons (impl_sorted.ok N) (all_cons (strings_Contains.ok N) (all_cons (impl_AffixDo.ok N) all_nil)))))) (by kernel_rfl) (fun _ _ h => h)

/-! ### impl_Book_words: function 45, (loop.example/medlar/impl.Book).words -/
noncomputable def impl_Book_words.E (N : Nat) : Env := ⟨lk [(91, impl_Forms.S N), (92, impl_sorted.S N)], nzk [(3, ⟨[0, 2, 4, 5, 6, 7, 11, 12, 13, 14, 15, 16, 17, 18, 19, 20, 21, 22], [(3, 27)], []⟩)], N, [], false⟩
noncomputable def impl_Book_words.f (N : Nat) (a : List PV) : Option Res := run Tryz.prog (impl_Book_words.E N) Tryz.f45 [(26, .ro)] [(27, .own)] a
noncomputable def impl_Book_words.l0 (N : Nat) (n : Nat) (x8 : PV) (x9 : Int) (x10 : Int) (y0_0 : PV) (y0_1 : PV) (y1 : List PV) : Option Res := loopAt Tryz.prog (impl_Book_words.E N) Tryz.f45 [(27, .own)] [1, 1, 0, 1, 0] [] n ⟨mkSlots 23 [(1, .ptr 0 []), (3, .ref 1 []), (8, .ro 24 x8), (9, .sc (.int .i64 x9)), (10, .sc (.int .i64 x10))], ohOf [.box 26 (.agg 26 [.ro 23 y0_0, .ro 24 y0_1]), .row 27 (PV.list y1)]⟩
theorem impl_Book_words.f_eq (N : Nat) (a0 : PV) : impl_Book_words.f N [a0] = impl_Book_words.l0 N N (a0.fld 1) (((a0.fld 1).items).length : Int) 0 (a0.fld 0) (a0.fld 1) [] := by kernel_rfl
theorem impl_Book_words.l0_eq (N : Nat) (n : Nat) (x8 : PV) (x9 : Int) (x10 : Int) (y0_0 : PV) (y0_1 : PV) (y1 : List PV) : impl_Book_words.l0 N (n + 1) x8 x9 x10 y0_0 y0_1 y1 = if decide (x10 < x9) = true then (if 0 ≤ x10 then (if x10 < (x8.items.length : Int) then ((impl_Forms.f N [y0_0, (PV.agg [(PV.sc (.string (((x8.elem x10.toNat).fld 0).toStr))), (PV.sc (.string (((x8.elem x10.toNat).fld 1).toStr)))])]).bind fun t1 => if y1.length + ((t1.headD default).items).length ≤ 8796093022208 then (impl_Book_words.l0 N n x8 x9 (IntKind.i64.wrap (x10 + 1)) y0_0 y0_1 (y1 ++ ((t1.headD default).items))) else none) else none) else none) else ((impl_sorted.f N [(PV.list y1)]).bind fun t2 => some [(t2.headD default)]) := by kernel_rfl
noncomputable def impl_Book_words.S (N : Nat) : ASpec := ⟨[(26, .ro)], [(27, .own)], impl_Book_words.f N⟩
theorem impl_Book_words.ok (N : Nat) : FnOk Tryz.prog 45 (impl_Book_words.S N) := fnOk_of (E := impl_Book_words.E N) mix Tryz.func45 (by kernel_rfl) (by kernel_rfl) (by kernel_rfl) (lk_ok (all_cons (impl_Forms.ok N) (all_cons (impl_sorted.ok N) all_nil))) (by kernel_rfl) (fun _ _ h => h)

/-! ### slices_Index_string_string: function 81, slices.Index[[]string,string] -/
noncomputable def slices_Index_string_string.E (N : Nat) : Env := ⟨lk [], nzk [(2, ⟨[2, 3, 4, 5, 6, 9, 10, 11, 12, 13, 14, 15, 16, 17, 18], [], []⟩)], N, [], false⟩
noncomputable def slices_Index_string_string.f (N : Nat) (a : List PV) : Option Res := run Tryz.prog (slices_Index_string_string.E N) Tryz.f81 [(27, .ro), (9, .ro)] [(3, .val)] a
noncomputable def slices_Index_string_string.l0 (N : Nat) (n : Nat) (x0 : PV) (x1 : ByteArray) (x7 : Int) (x8 : Int) : Option Res := loopAt Tryz.prog (slices_Index_string_string.E N) Tryz.f81 [(3, .val)] [1, 0, 1, 0] [] n ⟨mkSlots 19 [(0, .ro 27 x0), (1, .sc (.string x1)), (7, .sc (.int .i64 x7)), (8, .sc (.int .i64 x8))], ohOf []⟩
theorem slices_Index_string_string.f_eq (N : Nat) (a0 : PV) (a1 : PV) : slices_Index_string_string.f N [a0, a1] = slices_Index_string_string.l0 N N a0 a1.toStr (a0.items.length : Int) 0 := by kernel_rfl
theorem slices_Index_string_string.l0_eq (N : Nat) (n : Nat) (x0 : PV) (x1 : ByteArray) (x7 : Int) (x8 : Int) : slices_Index_string_string.l0 N (n + 1) x0 x1 x7 x8 = if decide (x8 < x7) = true then (if 0 ≤ x8 then (if x8 < (x0.items.length : Int) then (if decide (x1.toList = ((x0.elem x8.toNat).toStr).toList) = true then (some [(PV.sc (.int .i64 x8))]) else (slices_Index_string_string.l0 N n x0 x1 x7 (IntKind.i64.wrap (x8 + 1)))) else none) else none) else (some [(PV.sc (.int .i64 (-1)))]) := by kernel_rfl
noncomputable def slices_Index_string_string.S (N : Nat) : ASpec := ⟨[(27, .ro), (9, .ro)], [(3, .val)], slices_Index_string_string.f N⟩
theorem slices_Index_string_string.ok (N : Nat) : FnOk Tryz.prog 81 (slices_Index_string_string.S N) := fnOk_of (E := slices_Index_string_string.E N) mix Tryz.func81 (by kernel_rfl) (by kernel_rfl) (by kernel_rfl) (lk_ok all_nil) (by kernel_rfl) (fun _ _ h => h)

/-! ### slices_Contains_string_string: function 37, slices.Contains[[]string,string] -/
noncomputable def slices_Contains_string_string.E (N : Nat) : Env := ⟨lk [(81, slices_Index_string_string.S N)], nzk [], N, [], false⟩
noncomputable def slices_Contains_string_string.f (N : Nat) (a : List PV) : Option Res := run Tryz.prog (slices_Contains_string_string.E N) Tryz.f37 [(27, .ro), (9, .ro)] [(4, .val)] a
theorem slices_Contains_string_string.f_eq (N : Nat) (a0 : PV) (a1 : PV) : slices_Contains_string_string.f N [a0, a1] = (slices_Index_string_string.f N [a0, (PV.sc (.string a1.toStr))]).bind fun t1 => some [(PV.sc (.bool (decide (0 ≤ ((t1.headD default).toInt)))))] := by kernel_rfl
noncomputable def slices_Contains_string_string.S (N : Nat) : ASpec := ⟨[(27, .ro), (9, .ro)], [(4, .val)], slices_Contains_string_string.f N⟩
theorem slices_Contains_string_string.ok (N : Nat) : FnOk Tryz.prog 37 (slices_Contains_string_string.S N) := fnOk_of (E := slices_Contains_string_string.E N) mix Tryz.func37 (by kernel_rfl) (by kernel_rfl) (by kernel_rfl) (lk_ok (all_cons (slices_Index_string_string.ok N) all_nil)) (by kernel_rfl) (fun _ _ h => h)

/-! ### impl_BookKnows: function 66, loop.example/medlar/impl.BookKnows -/
noncomputable def impl_BookKnows.E (N : Nat) : Env := ⟨lk [(44, impl_BookOk.S N), (45, impl_Book_words.S N), (37, slices_Contains_string_string.S N)], nzk [], N, [], false⟩
noncomputable def impl_BookKnows.f (N : Nat) (a : List PV) : Option Res := run Tryz.prog (impl_BookKnows.E N) Tryz.f66 [(26, .ro), (9, .ro)] [(4, .val)] a
theorem impl_BookKnows.f_eq (N : Nat) (a0 : PV) (a1 : PV) : impl_BookKnows.f N [a0, a1] = (impl_BookOk.f N [(PV.agg [a0.fld 0, a0.fld 1])]).bind fun t1 => if (t1.headD default).toBool = true then ((impl_Book_words.f N [(PV.agg [a0.fld 0, a0.fld 1])]).bind fun t2 => (slices_Contains_string_string.f N [(t2.headD default), (PV.sc (.string a1.toStr))]).bind fun t3 => some [(PV.sc (.bool ((t3.headD default).toBool)))]) else (some [(PV.sc (.bool false))]) := by kernel_rfl
noncomputable def impl_BookKnows.S (N : Nat) : ASpec := ⟨[(26, .ro), (9, .ro)], [(4, .val)], impl_BookKnows.f N⟩
theorem impl_BookKnows.ok (N : Nat) : FnOk Tryz.prog 66 (impl_BookKnows.S N) := fnOk_of (E := impl_BookKnows.E N) mix Tryz.func66 (by kernel_rfl) (by kernel_rfl) (by kernel_rfl) (lk_ok (all_cons (impl_BookOk.ok N) (all_cons (impl_Book_words.ok N) (all_cons (slices_Contains_string_string.ok N) all_nil)))) (by kernel_rfl) (fun _ _ h => h)

/-! ### impl_Far: function 117, loop.example/medlar/impl.Far -/
noncomputable def impl_Far.E (N : Nat) : Env := ⟨lk [(48, impl_WordOk.S N)], nzk [(5, ⟨[2, 3, 4, 6, 7, 8, 9, 10, 11, 12, 13, 14, 15, 16, 17, 18, 19, 20, 21, 22, 23, 26, 27, 28, 29, 30, 31, 32, 33, 34, 35, 36, 37, 38, 39, 40, 41, 42, 43, 44, 45, 46, 47, 48, 49, 50, 51, 52, 53, 54, 55, 56, 57, 58, 59, 60, 61, 62, 63, 64, 65, 66, 67, 68, 69, 70, 71, 72, 73, 74, 75, 76, 77, 78, 79, 80, 81, 82, 83, 84, 85, 86, 87, 88, 89, 90, 91, 92, 93, 94, 95, 96, 97, 98, 99, 100, 101, 102, 103, 104, 105, 106, 107, 108, 109, 110, 111, 112, 113, 114, 115, 116, 117, 118, 119, 120, 121, 122, 123, 124, 125, 126, 127, 128, 129, 130, 131, 132, 133, 134, 135, 136, 137, 138, 139, 140, 141, 142, 143, 144, 145, 146, 147, 148, 149, 150, 151, 152, 153, 154, 155, 156, 157, 158, 159, 160, 161, 162, 163], [], []⟩), (11, ⟨[2, 3, 4, 6, 7, 8, 9, 10, 11, 12, 13, 14, 15, 16, 17, 18, 19, 20, 21, 22, 23, 24, 25, 26, 27, 28, 29, 30, 31, 32, 33, 34, 35, 36, 37, 38, 39, 40, 41, 42, 43, 44, 47, 48, 49, 50, 51, 52, 53, 54, 55, 56, 57, 58, 59, 60, 61, 62, 63, 64, 65, 66, 67, 68, 69, 70, 71, 72, 73, 74, 75, 76, 77, 78, 79, 80, 81, 82, 83, 84, 85, 86, 87, 88, 89, 90, 91, 92, 93, 94, 95, 96, 97, 98, 99, 100, 101, 102, 103, 104, 105, 106, 107, 108, 109, 110, 111, 112, 113, 114, 115, 116, 117, 118, 119, 120, 121, 122, 123, 124, 125, 126, 127, 128, 129, 130, 131, 132, 133, 134, 135, 136, 137, 138, 139, 140, 141, 142, 143, 144, 145, 146, 147, 148, 149, 150, 151, 152, 153, 154, 155, 156, 157, 158, 159, 160, 161, 162, 163], [], []⟩), (16, ⟨[2, 3, 4, 6, 7, 9, 10, 11, 12, 13, 14, 15, 16, 17, 18, 19, 20, 21, 22, 23, 24, 25, 26, 27, 28, 29, 30, 31, 32, 33, 34, 35, 36, 37, 38, 39, 40, 41, 42, 43, 44, 45, 46, 47, 48, 49, 50, 51, 52, 53, 54, 55, 56, 57, 58, 59, 60, 61, 62, 63, 64, 65, 66, 67, 68, 69, 70, 71, 72, 73, 74, 75, 76, 77, 78, 79, 80, 81, 82, 83, 84, 85, 86, 87, 88, 89, 90, 91, 92, 93, 94, 95, 96, 97, 98, 99, 100, 101, 102, 103, 104, 105, 106, 107, 108, 109, 110, 111, 112, 113, 114, 115, 116, 117, 118, 119, 120, 121, 122, 123, 124, 125, 126, 127, 128, 129, 130, 131, 132, 133, 134, 135, 136, 137, 138, 139, 140, 141, 142, 143, 144, 145, 146, 147, 148, 149, 150, 151, 152, 153, 154, 155, 156, 157, 158, 159, 160, 161, 162, 163], [], []⟩), (19, ⟨[2, 3, 4, 6, 7, 10, 11, 12, 13, 14, 15, 16, 17, 18, 19, 20, 21, 22, 23, 24, 25, 26, 27, 28, 29, 30, 31, 32, 33, 34, 35, 36, 37, 38, 39, 40, 41, 42, 43, 44, 45, 46, 47, 48, 49, 50, 51, 52, 53, 54, 55, 56, 57, 58, 59, 60, 61, 62, 63, 64, 65, 66, 67, 68, 69, 70, 71, 72, 73, 74, 75, 76, 77, 78, 79, 80, 81, 82, 83, 84, 85, 86, 87, 88, 89, 90, 91, 92, 93, 94, 95, 96, 97, 98, 99, 100, 101, 102, 103, 104, 105, 106, 107, 108, 109, 110, 111, 112, 113, 114, 115, 116, 117, 118, 119, 120, 121, 122, 123, 124, 125, 126, 127, 128, 129, 130, 131, 132, 133, 134, 135, 136, 137, 138, 139, 140, 141, 142, 143, 144, 145, 146, 147, 148, 149, 150, 151, 152, 153, 154, 155, 156, 157, 158, 159, 160, 161, 162, 163], [], []⟩)], N, [], false⟩
noncomputable def impl_Far.f (N : Nat) (a : List PV) : Option Res := run Tryz.prog (impl_Far.E N) Tryz.f117 [(9, .ro), (9, .ro)] [(3, .val)] a
noncomputable def impl_Far.l0 (N : Nat) (n : Nat) (x0 : ByteArray) (x1 : ByteArray) (x24 : Int) (x25 : Int) (y0 : List PV) : Option Res := loopAt Tryz.prog (impl_Far.E N) Tryz.f117 [(3, .val)] [1, 1, 1, 0, 1, 0] [] n ⟨mkSlots 164 [(0, .sc (.string x0)), (1, .sc (.string x1)), (5, .ref 0 []), (24, .sc (.int .i64 x24)), (25, .sc (.int .i64 x25))], ohOf [.row 84 (PV.list y0)]⟩
noncomputable def impl_Far.l1 (N : Nat) (n : Nat) (x0 : ByteArray) (x1 : ByteArray) (x45 : Int) (x46 : Int) (y0 : List PV) : Option Res := loopAt Tryz.prog (impl_Far.E N) Tryz.f117 [(3, .val)] [1, 1, 1, 1, 0, 1, 0] [] n ⟨mkSlots 164 [(0, .sc (.string x0)), (1, .sc (.string x1)), (5, .ref 0 []), (45, .sc (.int .i64 x45)), (46, .sc (.int .i64 x46))], ohOf [.row 84 (PV.list y0)]⟩
noncomputable def impl_Far.l2 (N : Nat) (n : Nat) (x0 : ByteArray) (x1 : ByteArray) (x8 : Int) (y0 : List PV) : Option Res := loopAt Tryz.prog (impl_Far.E N) Tryz.f117 [(3, .val)] [1, 1, 1, 1, 1, 0, 1, 0] [] n ⟨mkSlots 164 [(0, .sc (.string x0)), (1, .sc (.string x1)), (5, .ref 0 []), (8, .sc (.int .i64 x8))], ohOf [.row 84 (PV.list y0)]⟩
noncomputable def impl_Far.l3 (N : Nat) (m0 : Nat) (n : Nat) (x0 : ByteArray) (x1 : ByteArray) (x8 : Int) (x9 : Int) (y0 : List PV) : Option Res := loopAt Tryz.prog (impl_Far.E N) Tryz.f117 [(3, .val)] [1, 1, 1, 1, 1, 0, 1, 0, 0, 1, 0, 0, 1, 0] [m0] n ⟨mkSlots 164 [(0, .sc (.string x0)), (1, .sc (.string x1)), (5, .ref 0 []), (8, .sc (.int .i64 x8)), (9, .sc (.int .i64 x9))], ohOf [.row 84 (PV.list y0)]⟩
theorem impl_Far.f_eq (N : Nat) (a0 : PV) (a1 : PV) : impl_Far.f N [a0, a1] = (impl_WordOk.f N [(PV.sc (.string a0.toStr))]).bind fun t1 => if (!((t1.headD default).toBool)) = false then ((impl_WordOk.f N [(PV.sc (.string a1.toStr))]).bind fun t2 => if (!((t2.headD default).toBool)) = true then (some [(PV.sc (.int .i64 (-1)))]) else (if 0 ≤ (IntKind.i64.wrap ((a0.toStr.size : Int) + 1)) then (if (IntKind.i64.wrap ((a0.toStr.size : Int) + 1)) ≤ (IntKind.i64.wrap ((a0.toStr.size : Int) + 1)) then (if (IntKind.i64.wrap ((a0.toStr.size : Int) + 1)).toNat ≤ 11728124029610 then (impl_Far.l0 N N a0.toStr a1.toStr ((List.replicate (IntKind.i64.wrap ((a0.toStr.size : Int) + 1)).toNat (PV.list [])).length : Int) 0 (List.replicate (IntKind.i64.wrap ((a0.toStr.size : Int) + 1)).toNat (PV.list []))) else none) else none) else none)) else (some [(PV.sc (.int .i64 (-1)))]) := by kernel_rfl
theorem impl_Far.l0_eq (N : Nat) (n : Nat) (x0 : ByteArray) (x1 : ByteArray) (x24 : Int) (x25 : Int) (y0 : List PV) : impl_Far.l0 N (n + 1) x0 x1 x24 x25 y0 = if decide (x25 < x24) = true then (if 0 ≤ (IntKind.i64.wrap ((x1.size : Int) + 1)) then (if (IntKind.i64.wrap ((x1.size : Int) + 1)) ≤ (IntKind.i64.wrap ((x1.size : Int) + 1)) then (if (IntKind.i64.wrap ((x1.size : Int) + 1)).toNat ≤ 35184372088832 then (if 0 ≤ x25 then (if x25 < (y0.length : Int) then (if 0 ≤ x25 then (if x25 < ((y0.set x25.toNat (PV.list (List.replicate (IntKind.i64.wrap ((x1.size : Int) + 1)).toNat (PV.sc (.int .i64 0))))).length : Int) then (if 0 ≤ 0 then (if 0 < ((((PV.list (y0.set x25.toNat (PV.list (List.replicate (IntKind.i64.wrap ((x1.size : Int) + 1)).toNat (PV.sc (.int .i64 0)))))).elem x25.toNat).items).length : Int) then (impl_Far.l0 N n x0 x1 x24 (IntKind.i64.wrap (x25 + 1)) ((y0.set x25.toNat (PV.list (List.replicate (IntKind.i64.wrap ((x1.size : Int) + 1)).toNat (PV.sc (.int .i64 0))))).set x25.toNat (PV.list ((((PV.list (y0.set x25.toNat (PV.list (List.replicate (IntKind.i64.wrap ((x1.size : Int) + 1)).toNat (PV.sc (.int .i64 0)))))).elem x25.toNat).items).set 0 (PV.sc (.int .i64 x25)))))) else none) else none) else none) else none) else none) else none) else none) else none) else none) else (if 0 ≤ 0 then (if 0 < (y0.length : Int) then (impl_Far.l1 N N x0 x1 ((((PV.list y0).elem 0).items).length : Int) 0 y0) else none) else none) := by kernel_rfl
theorem impl_Far.l1_eq (N : Nat) (n : Nat) (x0 : ByteArray) (x1 : ByteArray) (x45 : Int) (x46 : Int) (y0 : List PV) : impl_Far.l1 N (n + 1) x0 x1 x45 x46 y0 = if decide (x46 < x45) = true then (if 0 ≤ 0 then (if 0 < (y0.length : Int) then (if 0 ≤ x46 then (if x46 < ((((PV.list y0).elem 0).items).length : Int) then (impl_Far.l1 N n x0 x1 x45 (IntKind.i64.wrap (x46 + 1)) (y0.set 0 (PV.list ((((PV.list y0).elem 0).items).set x46.toNat (PV.sc (.int .i64 x46)))))) else none) else none) else none) else none) else (impl_Far.l2 N N x0 x1 1 y0) := by kernel_rfl
theorem impl_Far.l2_eq (N : Nat) (n : Nat) (x0 : ByteArray) (x1 : ByteArray) (x8 : Int) (y0 : List PV) : impl_Far.l2 N (n + 1) x0 x1 x8 y0 = if decide (x8 ≤ (x0.size : Int)) = true then (impl_Far.l3 N n N x0 x1 x8 1 y0) else (if 0 ≤ (x0.size : Int) then (if (x0.size : Int) < (y0.length : Int) then (if 0 ≤ (x1.size : Int) then (if (x1.size : Int) < ((((PV.list y0).elem x0.size).items).length : Int) then (some [(PV.sc (.int .i64 ((((PV.list y0).elem x0.size).elem x1.size).toInt)))]) else none) else none) else none) else none) := by kernel_rfl
theorem impl_Far.l3_eq (N : Nat) (m0 : Nat) (n : Nat) (x0 : ByteArray) (x1 : ByteArray) (x8 : Int) (x9 : Int) (y0 : List PV) : impl_Far.l3 N m0 (n + 1) x0 x1 x8 x9 y0 = if decide (x9 ≤ (x1.size : Int)) = true then (if 0 ≤ (IntKind.i64.wrap (x8 - 1)) then (if (IntKind.i64.wrap (x8 - 1)) < (y0.length : Int) then (if 0 ≤ (IntKind.i64.wrap (x9 - 1)) then (if (IntKind.i64.wrap (x9 - 1)) < ((((PV.list y0).elem ((IntKind.i64.wrap (x8 - 1)).toNat)).items).length : Int) then (if 0 ≤ (IntKind.i64.wrap (x8 - 1)) then (if (IntKind.i64.wrap (x8 - 1)) < (x0.size : Int) then (if 0 ≤ (IntKind.i64.wrap (x9 - 1)) then (if (IntKind.i64.wrap (x9 - 1)) < (x1.size : Int) then (if (!decide (((x0.get! (IntKind.i64.wrap (x8 - 1)).toNat).toNat : Int) = ((x1.get! (IntKind.i64.wrap (x9 - 1)).toNat).toNat : Int))) = true then (if 0 ≤ (IntKind.i64.wrap (x8 - 1)) then (if (IntKind.i64.wrap (x8 - 1)) < (y0.length : Int) then (if 0 ≤ x9 then (if x9 < ((((PV.list y0).elem ((IntKind.i64.wrap (x8 - 1)).toNat)).items).length : Int) then (if 0 ≤ x8 then (if x8 < (y0.length : Int) then (if 0 ≤ (IntKind.i64.wrap (x9 - 1)) then (if (IntKind.i64.wrap (x9 - 1)) < ((((PV.list y0).elem x8.toNat).items).length : Int) then (if decide (1 < x8) = true then (if decide (1 < x9) = true then (if 0 ≤ (IntKind.i64.wrap (x8 - 1)) then (if (IntKind.i64.wrap (x8 - 1)) < (x0.size : Int) then (if 0 ≤ (IntKind.i64.wrap (x9 - 2)) then (if (IntKind.i64.wrap (x9 - 2)) < (x1.size : Int) then (if decide (((x0.get! (IntKind.i64.wrap (x8 - 1)).toNat).toNat : Int) = ((x1.get! (IntKind.i64.wrap (x9 - 2)).toNat).toNat : Int)) = true then (if 0 ≤ (IntKind.i64.wrap (x8 - 2)) then (if (IntKind.i64.wrap (x8 - 2)) < (x0.size : Int) then (if 0 ≤ (IntKind.i64.wrap (x9 - 1)) then (if (IntKind.i64.wrap (x9 - 1)) < (x1.size : Int) then (if decide (((x0.get! (IntKind.i64.wrap (x8 - 2)).toNat).toNat : Int) = ((x1.get! (IntKind.i64.wrap (x9 - 1)).toNat).toNat : Int)) = true then (if 0 ≤ (IntKind.i64.wrap (x8 - 2)) then (if (IntKind.i64.wrap (x8 - 2)) < (y0.length : Int) then (if 0 ≤ (IntKind.i64.wrap (x9 - 2)) then (if (IntKind.i64.wrap (x9 - 2)) < ((((PV.list y0).elem ((IntKind.i64.wrap (x8 - 2)).toNat)).items).length : Int) then (if 0 ≤ x8 then (if x8 < (y0.length : Int) then (if 0 ≤ x9 then (if x9 < ((((PV.list y0).elem x8.toNat).items).length : Int) then (impl_Far.l3 N m0 n x0 x1 x8 (IntKind.i64.wrap (x9 + 1)) (y0.set x8.toNat (PV.list ((((PV.list y0).elem x8.toNat).items).set x9.toNat (PV.sc (.int .i64 (minI (minI (minI (IntKind.i64.wrap (((((PV.list y0).elem ((IntKind.i64.wrap (x8 - 1)).toNat)).elem ((IntKind.i64.wrap (x9 - 1)).toNat)).toInt) + 1)) (IntKind.i64.wrap (((((PV.list y0).elem ((IntKind.i64.wrap (x8 - 1)).toNat)).elem x9.toNat).toInt) + 1))) (IntKind.i64.wrap (((((PV.list y0).elem x8.toNat).elem ((IntKind.i64.wrap (x9 - 1)).toNat)).toInt) + 1))) (IntKind.i64.wrap (((((PV.list y0).elem ((IntKind.i64.wrap (x8 - 2)).toNat)).elem ((IntKind.i64.wrap (x9 - 2)).toNat)).toInt) + 1))))))))) else none) else none) else none) else none) else none) else none) else none) else none) else (if 0 ≤ x8 then (if x8 < (y0.length : Int) then (if 0 ≤ x9 then (if x9 < ((((PV.list y0).elem x8.toNat).items).length : Int) then (impl_Far.l3 N m0 n x0 x1 x8 (IntKind.i64.wrap (x9 + 1)) (y0.set x8.toNat (PV.list ((((PV.list y0).elem x8.toNat).items).set x9.toNat (PV.sc (.int .i64 (minI (minI (IntKind.i64.wrap (((((PV.list y0).elem ((IntKind.i64.wrap (x8 - 1)).toNat)).elem ((IntKind.i64.wrap (x9 - 1)).toNat)).toInt) + 1)) (IntKind.i64.wrap (((((PV.list y0).elem ((IntKind.i64.wrap (x8 - 1)).toNat)).elem x9.toNat).toInt) + 1))) (IntKind.i64.wrap (((((PV.list y0).elem x8.toNat).elem ((IntKind.i64.wrap (x9 - 1)).toNat)).toInt) + 1))))))))) else none) else none) else none) else none)) else none) else none) else none) else none) else (if 0 ≤ x8 then (if x8 < (y0.length : Int) then (if 0 ≤ x9 then (if x9 < ((((PV.list y0).elem x8.toNat).items).length : Int) then (impl_Far.l3 N m0 n x0 x1 x8 (IntKind.i64.wrap (x9 + 1)) (y0.set x8.toNat (PV.list ((((PV.list y0).elem x8.toNat).items).set x9.toNat (PV.sc (.int .i64 (minI (minI (IntKind.i64.wrap (((((PV.list y0).elem ((IntKind.i64.wrap (x8 - 1)).toNat)).elem ((IntKind.i64.wrap (x9 - 1)).toNat)).toInt) + 1)) (IntKind.i64.wrap (((((PV.list y0).elem ((IntKind.i64.wrap (x8 - 1)).toNat)).elem x9.toNat).toInt) + 1))) (IntKind.i64.wrap (((((PV.list y0).elem x8.toNat).elem ((IntKind.i64.wrap (x9 - 1)).toNat)).toInt) + 1))))))))) else none) else none) else none) else none)) else none) else none) else none) else none) else (if 0 ≤ x8 then (if x8 < (y0.length : Int) then (if 0 ≤ x9 then (if x9 < ((((PV.list y0).elem x8.toNat).items).length : Int) then (impl_Far.l3 N m0 n x0 x1 x8 (IntKind.i64.wrap (x9 + 1)) (y0.set x8.toNat (PV.list ((((PV.list y0).elem x8.toNat).items).set x9.toNat (PV.sc (.int .i64 (minI (minI (IntKind.i64.wrap (((((PV.list y0).elem ((IntKind.i64.wrap (x8 - 1)).toNat)).elem ((IntKind.i64.wrap (x9 - 1)).toNat)).toInt) + 1)) (IntKind.i64.wrap (((((PV.list y0).elem ((IntKind.i64.wrap (x8 - 1)).toNat)).elem x9.toNat).toInt) + 1))) (IntKind.i64.wrap (((((PV.list y0).elem x8.toNat).elem ((IntKind.i64.wrap (x9 - 1)).toNat)).toInt) + 1))))))))) else none) else none) else none) else none)) else (if 0 ≤ x8 then (if x8 < (y0.length : Int) then (if 0 ≤ x9 then (if x9 < ((((PV.list y0).elem x8.toNat).items).length : Int) then (impl_Far.l3 N m0 n x0 x1 x8 (IntKind.i64.wrap (x9 + 1)) (y0.set x8.toNat (PV.list ((((PV.list y0).elem x8.toNat).items).set x9.toNat (PV.sc (.int .i64 (minI (minI (IntKind.i64.wrap (((((PV.list y0).elem ((IntKind.i64.wrap (x8 - 1)).toNat)).elem ((IntKind.i64.wrap (x9 - 1)).toNat)).toInt) + 1)) (IntKind.i64.wrap (((((PV.list y0).elem ((IntKind.i64.wrap (x8 - 1)).toNat)).elem x9.toNat).toInt) + 1))) (IntKind.i64.wrap (((((PV.list y0).elem x8.toNat).elem ((IntKind.i64.wrap (x9 - 1)).toNat)).toInt) + 1))))))))) else none) else none) else none) else none)) else none) else none) else none) else none) else none) else none) else none) else none) else (if 0 ≤ (IntKind.i64.wrap (x8 - 1)) then (if (IntKind.i64.wrap (x8 - 1)) < (y0.length : Int) then (if 0 ≤ x9 then (if x9 < ((((PV.list y0).elem ((IntKind.i64.wrap (x8 - 1)).toNat)).items).length : Int) then (if 0 ≤ x8 then (if x8 < (y0.length : Int) then (if 0 ≤ (IntKind.i64.wrap (x9 - 1)) then (if (IntKind.i64.wrap (x9 - 1)) < ((((PV.list y0).elem x8.toNat).items).length : Int) then (if decide (1 < x8) = true then (if decide (1 < x9) = true then (if 0 ≤ (IntKind.i64.wrap (x8 - 1)) then (if (IntKind.i64.wrap (x8 - 1)) < (x0.size : Int) then (if 0 ≤ (IntKind.i64.wrap (x9 - 2)) then (if (IntKind.i64.wrap (x9 - 2)) < (x1.size : Int) then (if decide (((x0.get! (IntKind.i64.wrap (x8 - 1)).toNat).toNat : Int) = ((x1.get! (IntKind.i64.wrap (x9 - 2)).toNat).toNat : Int)) = true then (if 0 ≤ (IntKind.i64.wrap (x8 - 2)) then (if (IntKind.i64.wrap (x8 - 2)) < (x0.size : Int) then (if 0 ≤ (IntKind.i64.wrap (x9 - 1)) then (if (IntKind.i64.wrap (x9 - 1)) < (x1.size : Int) then (if decide (((x0.get! (IntKind.i64.wrap (x8 - 2)).toNat).toNat : Int) = ((x1.get! (IntKind.i64.wrap (x9 - 1)).toNat).toNat : Int)) = true then (if 0 ≤ (IntKind.i64.wrap (x8 - 2)) then (if (IntKind.i64.wrap (x8 - 2)) < (y0.length : Int) then (if 0 ≤ (IntKind.i64.wrap (x9 - 2)) then (if (IntKind.i64.wrap (x9 - 2)) < ((((PV.list y0).elem ((IntKind.i64.wrap (x8 - 2)).toNat)).items).length : Int) then (if 0 ≤ x8 then (if x8 < (y0.length : Int) then (if 0 ≤ x9 then (if x9 < ((((PV.list y0).elem x8.toNat).items).length : Int) then (impl_Far.l3 N m0 n x0 x1 x8 (IntKind.i64.wrap (x9 + 1)) (y0.set x8.toNat (PV.list ((((PV.list y0).elem x8.toNat).items).set x9.toNat (PV.sc (.int .i64 (minI (minI (minI ((((PV.list y0).elem ((IntKind.i64.wrap (x8 - 1)).toNat)).elem ((IntKind.i64.wrap (x9 - 1)).toNat)).toInt) (IntKind.i64.wrap (((((PV.list y0).elem ((IntKind.i64.wrap (x8 - 1)).toNat)).elem x9.toNat).toInt) + 1))) (IntKind.i64.wrap (((((PV.list y0).elem x8.toNat).elem ((IntKind.i64.wrap (x9 - 1)).toNat)).toInt) + 1))) (IntKind.i64.wrap (((((PV.list y0).elem ((IntKind.i64.wrap (x8 - 2)).toNat)).elem ((IntKind.i64.wrap (x9 - 2)).toNat)).toInt) + 1))))))))) else none) else none) else none) else none) else none) else none) else none) else none) else (if 0 ≤ x8 then (if x8 < (y0.length : Int) then (if 0 ≤ x9 then (if x9 < ((((PV.list y0).elem x8.toNat).items).length : Int) then (impl_Far.l3 N m0 n x0 x1 x8 (IntKind.i64.wrap (x9 + 1)) (y0.set x8.toNat (PV.list ((((PV.list y0).elem x8.toNat).items).set x9.toNat (PV.sc (.int .i64 (minI (minI ((((PV.list y0).elem ((IntKind.i64.wrap (x8 - 1)).toNat)).elem ((IntKind.i64.wrap (x9 - 1)).toNat)).toInt) (IntKind.i64.wrap (((((PV.list y0).elem ((IntKind.i64.wrap (x8 - 1)).toNat)).elem x9.toNat).toInt) + 1))) (IntKind.i64.wrap (((((PV.list y0).elem x8.toNat).elem ((IntKind.i64.wrap (x9 - 1)).toNat)).toInt) + 1))))))))) else none) else none) else none) else none)) else none) else none) else none) else none) else (if 0 ≤ x8 then (if x8 < (y0.length : Int) then (if 0 ≤ x9 then (if x9 < ((((PV.list y0).elem x8.toNat).items).length : Int) then (impl_Far.l3 N m0 n x0 x1 x8 (IntKind.i64.wrap (x9 + 1)) (y0.set x8.toNat (PV.list ((((PV.list y0).elem x8.toNat).items).set x9.toNat (PV.sc (.int .i64 (minI (minI ((((PV.list y0).elem ((IntKind.i64.wrap (x8 - 1)).toNat)).elem ((IntKind.i64.wrap (x9 - 1)).toNat)).toInt) (IntKind.i64.wrap (((((PV.list y0).elem ((IntKind.i64.wrap (x8 - 1)).toNat)).elem x9.toNat).toInt) + 1))) (IntKind.i64.wrap (((((PV.list y0).elem x8.toNat).elem ((IntKind.i64.wrap (x9 - 1)).toNat)).toInt) + 1))))))))) else none) else none) else none) else none)) else none) else none) else none) else none) else (if 0 ≤ x8 then (if x8 < (y0.length : Int) then (if 0 ≤ x9 then (if x9 < ((((PV.list y0).elem x8.toNat).items).length : Int) then (impl_Far.l3 N m0 n x0 x1 x8 (IntKind.i64.wrap (x9 + 1)) (y0.set x8.toNat (PV.list ((((PV.list y0).elem x8.toNat).items).set x9.toNat (PV.sc (.int .i64 (minI (minI ((((PV.list y0).elem ((IntKind.i64.wrap (x8 - 1)).toNat)).elem ((IntKind.i64.wrap (x9 - 1)).toNat)).toInt) (IntKind.i64.wrap (((((PV.list y0).elem ((IntKind.i64.wrap (x8 - 1)).toNat)).elem x9.toNat).toInt) + 1))) (IntKind.i64.wrap (((((PV.list y0).elem x8.toNat).elem ((IntKind.i64.wrap (x9 - 1)).toNat)).toInt) + 1))))))))) else none) else none) else none) else none)) else (if 0 ≤ x8 then (if x8 < (y0.length : Int) then (if 0 ≤ x9 then (if x9 < ((((PV.list y0).elem x8.toNat).items).length : Int) then (impl_Far.l3 N m0 n x0 x1 x8 (IntKind.i64.wrap (x9 + 1)) (y0.set x8.toNat (PV.list ((((PV.list y0).elem x8.toNat).items).set x9.toNat (PV.sc (.int .i64 (minI (minI ((((PV.list y0).elem ((IntKind.i64.wrap (x8 - 1)).toNat)).elem ((IntKind.i64.wrap (x9 - 1)).toNat)).toInt) (IntKind.i64.wrap (((((PV.list y0).elem ((IntKind.i64.wrap (x8 - 1)).toNat)).elem x9.toNat).toInt) + 1))) (IntKind.i64.wrap (((((PV.list y0).elem x8.toNat).elem ((IntKind.i64.wrap (x9 - 1)).toNat)).toInt) + 1))))))))) else none) else none) else none) else none)) else none) else none) else none) else none) else none) else none) else none) else none)) else none) else none) else none) else none) else none) else none) else none) else none) else (impl_Far.l2 N m0 x0 x1 (IntKind.i64.wrap (x8 + 1)) y0) := by kernel_rfl
noncomputable def impl_Far.S (N : Nat) : ASpec := ⟨[(9, .ro), (9, .ro)], [(3, .val)], impl_Far.f N⟩
theorem impl_Far.ok (N : Nat) : FnOk Tryz.prog 117 (impl_Far.S N) := fnOk_of (E := impl_Far.E N) mix Tryz.func117 (by kernel_rfl) (by kernel_rfl) (by kernel_rfl) (lk_ok (all_cons (impl_WordOk.ok N) all_nil)) (by kernel_rfl) (fun _ _ h => h)

/-! ### impl_Within: function 116, loop.example/medlar/impl.Within -/
noncomputable def impl_Within.E (N : Nat) : Env := ⟨lk [(117, impl_Far.S N)], nzk [], N, [], false⟩
noncomputable def impl_Within.f (N : Nat) (a : List PV) : Option Res := run Tryz.prog (impl_Within.E N) Tryz.f116 [(9, .ro), (9, .ro), (3, .ro)] [(4, .val)] a
theorem impl_Within.f_eq (N : Nat) (a0 : PV) (a1 : PV) (a2 : PV) : impl_Within.f N [a0, a1, a2] = (impl_Far.f N [(PV.sc (.string a0.toStr)), (PV.sc (.string a1.toStr))]).bind fun t1 => if decide (0 ≤ ((t1.headD default).toInt)) = true then (some [(PV.sc (.bool (decide (((t1.headD default).toInt) ≤ a2.toInt))))]) else (some [(PV.sc (.bool false))]) := by kernel_rfl
noncomputable def impl_Within.S (N : Nat) : ASpec := ⟨[(9, .ro), (9, .ro), (3, .ro)], [(4, .val)], impl_Within.f N⟩
theorem impl_Within.ok (N : Nat) : FnOk Tryz.prog 116 (impl_Within.S N) := fnOk_of (E := impl_Within.E N) mix Tryz.func116 (by kernel_rfl) (by kernel_rfl) (by kernel_rfl) (lk_ok (all_cons (impl_Far.ok N) all_nil)) (by kernel_rfl) (fun _ _ h => h)

/-! ### slices_SortFunc_impl_Guess: function 61, slices.SortFunc[[]loop.example/medlar/impl.Guess,loop.example/medlar/impl.Guess], walked by hand -/
section
open Go.RowKit Go.Proofs Go.Sort
def cmpB (x y : ByteArray) : Int := if Op.bytesLess x.toList y.toList then -1 else if (Op.bytesLess x.toList y.toList || x.toList == y.toList) then 0 else 1
def cmpG (a b : ByteArray × Int) : Int := if Lib.compareInt a.2 b.2 = 0 then cmpB a.1 b.1 else Lib.compareInt a.2 b.2
theorem nanI (x : Int) (w : World) : Calls Tryz.prog 152 #[.int .i64 x] w fun e w' => e = .returned (.bool false) ∧ w' = w := by
  go_enter Tryz.func152, Tryz.ntmps152
  go_wp2
  go_ret
  exact ⟨by simp, rfl⟩
theorem nanS (x : ByteArray) (w : World) : Calls Tryz.prog 153 #[.string x] w fun e w' => e = .returned (.bool false) ∧ w' = w := by
  go_enter Tryz.func153, Tryz.ntmps153
  go_wp2
  go_ret
  exact ⟨by simp, rfl⟩
theorem cmpI (x y : Int) (w : World) : Calls Tryz.prog 111 #[.int .i64 x, .int .i64 y] w fun e w' => e = .returned (.int .i64 (Lib.compareInt x y)) ∧ w' = w := by
  go_enter Tryz.func111, Tryz.ntmps111
  go_wp2_with (go_at_call 152; refine (nanI _ _).mono ?_; rintro e w' ⟨rfl, hw⟩; rw [hw])
  all_goals (go_ret; refine ⟨?_, rfl⟩; unfold Lib.compareInt; (repeat' split) <;> first | rfl | (exfalso; omega))
theorem run_gtr (x y : ByteArray) (w : World) : Sem.run Tryz.prog (Go.binOp BinOp.gtr 9 (.string x) (.string y)) w = .ok (.bool !(Op.bytesLess x.toList y.toList || x.toList == y.toList)) w := rfl
theorem cmpS (x y : ByteArray) (r : Int) (hr : cmpB x y = r) (w : World) : Calls Tryz.prog 112 #[.string x, .string y] w fun e w' => e = .returned (.int .i64 r) ∧ w' = w := by
  go_enter Tryz.func112, Tryz.ntmps112
  go_wp2_with (go_at_call 153; refine (nanS _ _).mono ?_; rintro e w' ⟨rfl, hw⟩; rw [hw])
  · go_ret
    rename_i h
    subst hr
    exact ⟨by simp [cmpB, h], rfl⟩
  · have h : Op.bytesLess x.toList y.toList = false := by assumption
    rw [run_gtr]
    cases h2 : (x.toList == y.toList)
    · go_wp2
      all_goals (go_ret; subst hr)
      all_goals first | exact ⟨by simp [cmpB, h, h2], rfl⟩ | (simp_all; done)
    · go_wp2
      all_goals (go_ret; subst hr)
      all_goals first | exact ⟨by simp [cmpB, h, h2], rfl⟩ | (simp_all; done)
theorem orI (b : Nat) (x y r : Int) (hr : (if x = 0 then y else x) = r) (w : World) (h0 : w.cell? ⟨b, 0, none⟩ = some (.int .i64 x)) (h1 : w.cell? ⟨b, 1, none⟩ = some (.int .i64 y)) :
    Calls Tryz.prog 110 #[.slice (some ⟨b, 0, none⟩) 2 2] w fun e w' => e = .returned (.int .i64 r) ∧ w' = w := by
  go_enter Tryz.func110, Tryz.ntmps110
  go_wp2
  refine wp_loop_rounds 3 ?_
  rw [rounds_succ]
  go_wp2
  · go_ret
    subst hr
    have h : x ≠ 0 := fun h => by simp_all
    exact ⟨by simp [h], rfl⟩
  · have hx : x = 0 := by simp_all
    rw [rounds_succ]
    go_wp2
    · go_ret
      subst hr
      exact ⟨by simp [hx], rfl⟩
    · rw [rounds_succ]
      go_wp2
      go_ret
      subst hr
      exact ⟨by simp_all, rfl⟩
/-- Draws and blocks behind a world. -/
def More (w w' : World) : Prop := ∃ q os, w' = grow (w.drewN q) os
theorem More.refl (w : World) : More w w := ⟨0, #[], by rw [grow_empty]; rfl⟩
theorem More.drew {w w' : World} (h : More w w') : More w w'.drew := by
  obtain ⟨q, os, rfl⟩ := h; exact ⟨q + 1, os, rfl⟩
theorem More.alloc {w w' : World} (o : Obj) (h : More w w') : More w (w'.alloc o) := by
  obtain ⟨q, os, rfl⟩ := h; exact ⟨q, os ++ #[o], by rw [alloc_eq_grow, grow_grow]⟩
/-- .. and the two that are compared lie there. -/
def Two (w0 : World) (n : Nat) (a b : ByteArray) (x y : Int) (w : World) : Prop := More w0 w ∧ w.cell? ⟨n, 0, none⟩ = some (.string a) ∧ w.cell? ⟨n, 1, none⟩ = some (.int .i64 x) ∧ w.cell? ⟨n + 1, 0, none⟩ = some (.string b) ∧ w.cell? ⟨n + 1, 1, none⟩ = some (.int .i64 y) ∧ n + 1 < w.heap.size
theorem Two.drew {w0 w : World} {n : Nat} {a b : ByteArray} {x y : Int} (h : Two w0 n a b x y w) : Two w0 n a b x y w.drew := ⟨h.1.drew, h.2⟩
theorem cell_alloc {w : World} {o : Obj} {k j : Nat} (h : k < w.heap.size) : (w.alloc o).cell? ⟨k, j, none⟩ = w.cell? ⟨k, j, none⟩ := by
  exact World.cell?_alloc_past (w := w) (o := o) (n := k) (i := j) (hn := h)
theorem Two.alloc {w0 w : World} {n : Nat} {a b : ByteArray} {x y : Int} (o : Obj) (h : Two w0 n a b x y w) : Two w0 n a b x y (w.alloc o) := by
  obtain ⟨h1, h2, h3, h4, h5, h6⟩ := h
  refine ⟨h1.alloc o, ?_, ?_, ?_, ?_, ?_⟩
  · rw [cell_alloc (by omega)]; exact h2
  · rw [cell_alloc (by omega)]; exact h3
  · rw [cell_alloc h6]; exact h4
  · rw [cell_alloc h6]; exact h5
  · rw [World.size_alloc]; omega
theorem order (a b : ByteArray) (x y : Int) (w : World) : Calls Tryz.prog 62 #[.agg #[.string a, .int .i64 x], .agg #[.string b, .int .i64 y]] w fun e w' => e = .returned (.int .i64 (cmpG (a, x) (b, y))) ∧ More w w' := by
  have cI := fun W => cmpI x y W
  have cS := fun W => cmpS a b _ rfl W
  unfold cmpG
  dsimp only
  generalize Lib.compareInt x y = r1 at cI ⊢
  generalize cmpB a b = r2 at cS ⊢
  generalize hr : (if r1 = 0 then r2 else r1) = r
  go_enter Tryz.func62, Tryz.ntmps62
  go_wp2
  generalize hW : (w.alloc (Obj.cells #[Value.string a, Value.int IntKind.i64 x] 35)).alloc (Obj.cells #[Value.string b, Value.int IntKind.i64 y] 35) = W1
  have hT : Two w w.heap.size a b x y W1 := by
    subst hW
    refine ⟨(More.refl w).alloc _ |>.alloc _, ?_, ?_, ?_, ?_, ?_⟩
    · rw [cell_alloc (by simp), World.cell?_alloc_at _ _ _ _ rfl]; rfl
    · rw [cell_alloc (by simp), World.cell?_alloc_at _ _ _ _ rfl]; rfl
    · rw [World.cell?_alloc_at _ _ _ _ (by simp)]; rfl
    · rw [World.cell?_alloc_at _ _ _ _ (by simp)]; rfl
    · simp
  clear hW
  generalize w.heap.size = n at hT ⊢
  have r10 : ∀ W, Two w n a b x y W → W.cell? ⟨n, 0, none⟩ = some (.string a) := fun W h => h.2.1
  have r11 : ∀ W, Two w n a b x y W → W.cell? ⟨n, 1, none⟩ = some (.int .i64 x) := fun W h => h.2.2.1
  have r12 : ∀ W, Two w n a b x y W → W.cell? ⟨n + 1, 0, none⟩ = some (.string b) := fun W h => h.2.2.2.1
  have r13 : ∀ W, Two w n a b x y W → W.cell? ⟨n + 1, 1, none⟩ = some (.int .i64 y) := fun W h => h.2.2.2.2.1
  go_region_held3 (fun W => Two w n a b x y W) (first | assumption | exact Two.drew (by assumption) | exact Two.alloc _ (by assumption)) (first | (go_at_call 111; refine (cI _).mono ?_; rintro e W3 ⟨rfl, rfl⟩) | (go_at_call 112; refine (cS _).mono ?_; rintro e W3 ⟨rfl, rfl⟩) | (go_at_call 110; refine (orI _ _ _ _ hr _ (World.cell?_alloc_at _ _ _ _ rfl) (World.cell?_alloc_at _ _ _ _ rfl)).mono ?_; rintro e W3 ⟨rfl, rfl⟩))
  go_wp2
  go_ret
  rename_i hH
  exact ⟨rfl, hH.1⟩

section
open Go.Shelf
def laysSF_ren : Go.Shelf.Ren := ⟨fun | 6 => 61 | 15 => 109 | 14 => 108 | 28 => 150 | 29 => 151 | 20 => 142 | 21 => 143 | 22 => 144 | 23 => 145 | 24 => 146 | 25 => 147 | 26 => 148 | 27 => 149 | 46 => 176 | 47 => 177 | 48 => 178 | 49 => 179 | 50 => 180 | 57 => 198 | n => n, fun | 22 => 30 | 24 => 35 | 25 => 80 | 3 => 3 | 39 => 128 | 0 => 0 | 53 => 163 | 55 => 165 | 4 => 4 | 46 => 156 | 45 => 155 | 50 => 160 | 5 => 5 | 9 => 9 | 66 => 180 | 70 => 184 | 76 => 198 | 77 => 133 | n => n, fun | n => n⟩
theorem laysSF : Go.Proofs.SlLaysF0.n6 Tryz.prog laysSF_ren := {
  mixed := by kernel_rfl
  f6 := ⟨Tryz.f61.name, by decide, Tryz.func61.trans (congrArg some (by kernel_rfl))⟩
  f14 := ⟨Tryz.f108.name, by decide, Tryz.func108.trans (congrArg some (by kernel_rfl))⟩
  f15 := Tryz.func109.trans (congrArg some (by kernel_rfl))
  f20 := ⟨Tryz.f142.name, by decide, Tryz.func142.trans (congrArg some (by kernel_rfl))⟩
  f21 := ⟨Tryz.f143.name, by decide, Tryz.func143.trans (congrArg some (by kernel_rfl))⟩
  f22 := ⟨Tryz.f144.name, by decide, Tryz.func144.trans (congrArg some (by kernel_rfl))⟩
  f23 := ⟨Tryz.f145.name, by decide, Tryz.func145.trans (congrArg some (by kernel_rfl))⟩
  f24 := ⟨Tryz.f146.name, by decide, Tryz.func146.trans (congrArg some (by kernel_rfl))⟩
  f25 := ⟨Tryz.f147.name, by decide, Tryz.func147.trans (congrArg some (by kernel_rfl))⟩
  f26 := ⟨Tryz.f148.name, by decide, Tryz.func148.trans (congrArg some (by kernel_rfl))⟩
  f27 := ⟨Tryz.f149.name, by decide, Tryz.func149.trans (congrArg some (by kernel_rfl))⟩
  f28 := Tryz.func150.trans (congrArg some (by kernel_rfl))
  f29 := Tryz.func151.trans (congrArg some (by kernel_rfl))
  f46 := ⟨Tryz.f176.name, by decide, Tryz.func176.trans (congrArg some (by kernel_rfl))⟩
  f47 := Tryz.func177.trans (congrArg some (by kernel_rfl))
  f48 := Tryz.func178.trans (congrArg some (by kernel_rfl))
  f49 := ⟨Tryz.f179.name, by decide, Tryz.func179.trans (congrArg some (by kernel_rfl))⟩
  f50 := ⟨Tryz.f180.name, by decide, Tryz.func180.trans (congrArg some (by kernel_rfl))⟩
  f57 := ⟨Tryz.f198.name, by decide, Tryz.func198.trans (congrArg some (by kernel_rfl))⟩
  t0 := Tryz.underlying0
  a0 := Tryz.isAgg0
  z0 := Tryz.sizeOf0
  v0 := Tryz.zeroValue0
  t3 := Tryz.underlying3
  a3 := Tryz.isAgg3
  z3 := Tryz.sizeOf3
  v3 := Tryz.zeroValue3
  t4 := Tryz.underlying4
  a4 := Tryz.isAgg4
  z4 := Tryz.sizeOf4
  v4 := Tryz.zeroValue4
  t5 := Tryz.underlying5
  a5 := Tryz.isAgg5
  z5 := Tryz.sizeOf5
  v5 := Tryz.zeroValue5
  t9 := Tryz.underlying9
  a9 := Tryz.isAgg9
  z9 := Tryz.sizeOf9
  v9 := Tryz.zeroValue9
  t22 := Tryz.underlying30
  a22 := Tryz.isAgg30
  z22 := Tryz.sizeOf30
  v22 := Tryz.zeroValue30
  t25 := Tryz.underlying80
  a25 := Tryz.isAgg80
  z25 := Tryz.sizeOf80
  v25 := Tryz.zeroValue80
  t39 := Tryz.underlying128
  a39 := Tryz.isAgg128
  z39 := Tryz.sizeOf128
  v39 := Tryz.zeroValue128
  t45 := Tryz.underlying155
  a45 := Tryz.isAgg155
  z45 := Tryz.sizeOf155
  v45 := Tryz.zeroValue155
  t46 := Tryz.underlying156
  a46 := Tryz.isAgg156
  z46 := Tryz.sizeOf156
  v46 := Tryz.zeroValue156
  t50 := Tryz.underlying160
  a50 := Tryz.isAgg160
  z50 := Tryz.sizeOf160
  v50 := Tryz.zeroValue160
  t53 := Tryz.underlying163
  a53 := Tryz.isAgg163
  z53 := Tryz.sizeOf163
  v53 := Tryz.zeroValue163
  t55 := Tryz.underlying165
  a55 := Tryz.isAgg165
  z55 := Tryz.sizeOf165
  v55 := Tryz.zeroValue165
  t66 := Tryz.underlying180
  a66 := Tryz.isAgg180
  z66 := Tryz.sizeOf180
  v66 := Tryz.zeroValue180
  t70 := Tryz.underlying184
  a70 := Tryz.isAgg184
  z70 := Tryz.sizeOf184
  v70 := Tryz.zeroValue184
  t76 := Tryz.underlying198
  a76 := Tryz.isAgg198
  z76 := Tryz.sizeOf198
  v76 := Tryz.zeroValue198
  t77 := Tryz.underlying133
  a77 := Tryz.isAgg133
  z77 := Tryz.sizeOf133
  v77 := Tryz.zeroValue133 }

end
def guessP (g : ByteArray × Int) : PV := .agg [strP g.1, intP g.2]
def toGuess (p : PV) : ByteArray × Int := ((p.fld 0).toStr, (p.fld 1).toInt)
theorem toGuess_guessP (g : ByteArray × Int) : toGuess (guessP g) = g := rfl
def encG (g : ByteArray × Int) : List Value := [.string g.1, .int .i64 g.2]
def sortG (l : List (ByteArray × Int)) : List (ByteArray × Int) := l.mergeSort fun x y => !(ltOf cmpG) y x
theorem sortG_len (l : List (ByteArray × Int)) : (sortG l).length = l.length := by simp [sortG]
def isFn (g : Nat) : Value → Bool
  | .func (.func h) a b => decide (h = g ∧ a = #[] ∧ b = #[])
  | _ => false
theorem isFn_eq {g : Nat} {v : Value} (h : isFn g v = true) : v = .func (.func g) #[] #[] := by
  unfold isFn at h
  split at h
  · simp at h; simp [h]
  · cases h
noncomputable def slices_SortFunc_impl_Guess.f (N : Nat) (a : List PV) : Option (List PV) := match a with
  | [.list ps, .sc v] => if isFn 62 v = true ∧ ps.length < 4611686018427387904 then some [.list ((sortG (ps.map toGuess)).map guessP)] else none
  | _ => none
noncomputable def slices_SortFunc_impl_Guess.S (N : Nat) : ASpec := ⟨[(30, .mut), (73, .ro)], [], slices_SortFunc_impl_Guess.f N⟩
/-! the order -/
theorem str_tri (a b : ByteArray) : (a.toList < b.toList ∨ a.toList = b.toList) ∨ b.toList < a.toList := by
  by_cases h : a.toList < b.toList
  · exact .inl (.inl h)
  · by_cases h2 : b.toList < a.toList
    · exact .inr h2
    · exact .inl (.inr (Std.le_antisymm (Std.not_lt.1 h2) (Std.not_lt.1 h)))
theorem lt_cmpG (a b : ByteArray × Int) : ltOf cmpG a b = decide (a.2 < b.2 ∨ (a.2 = b.2 ∧ a.1.toList < b.1.toList)) := by
  unfold ltOf cmpG Lib.compareInt cmpB
  rw [Go.Proofs.bytesLess_eq]
  by_cases h1 : a.2 < b.2
  · simp [h1]
  · by_cases h2 : a.2 > b.2
    · have : ¬ a.2 = b.2 := by omega
      simp [h1, h2, this]
    · have h3 : a.2 = b.2 := by omega
      by_cases h4 : a.1.toList < b.1.toList
      · simp [h3, h4]
      · have hn : ¬ b.1.toList < b.1.toList := Std.lt_irrefl
        by_cases h5 : a.1.toList = b.1.toList <;> simp [h3, h4, h5, hn]
theorem swoG : SWO (ltOf cmpG) where
  irrefl x := by rw [lt_cmpG]; simp
  trans x y z h1 h2 := by
    rw [lt_cmpG] at *
    simp only [decide_eq_true_eq] at *
    rcases h1 with h1 | ⟨h1, h3⟩ <;> rcases h2 with h2 | ⟨h2, h4⟩
    · left; omega
    · left; omega
    · left; omega
    · right; exact ⟨by omega, Std.lt_trans h3 h4⟩
  ntrans x y z h1 h2 := by
    rw [lt_cmpG] at *
    simp only [decide_eq_false_iff_not, not_or, not_and] at *
    refine ⟨by omega, fun h3 h4 => ?_⟩
    have e1 : x.2 = y.2 := by omega
    have e2 : y.2 = z.2 := by omega
    have h5 := h1.2 e1
    have h6 := h2.2 e2
    exact absurd h4 (Std.not_lt.2 (Std.le_trans (Std.not_lt.1 h6) (Std.not_lt.1 h5)))
theorem totG (x y : ByteArray × Int) (h1 : ltOf cmpG x y = false) (h2 : ltOf cmpG y x = false) : x = y := by
  rw [lt_cmpG] at *
  simp only [decide_eq_false_iff_not, not_or, not_and] at *
  have e : x.2 = y.2 := by omega
  have h3 := h1.2 e
  have h4 := h2.2 e.symm
  have h5 : x.1.toList = y.1.toList := by rcases str_tri x.1 y.1 with (h | h) | h <;> first | exact absurd h h3 | exact absurd h h4 | exact h
  have h6 : x.1 = y.1 := by
    rw [ByteArray.toList_eq, ByteArray.toList_eq] at h5
    exact ByteArray.ext (Array.ext' h5)
  exact Prod.ext h6 e
/-! rows of guesses -/
theorem flat_len : ∀ ns : List (ByteArray × Int), (ns.flatMap encG).length = ns.length * 2
  | [] => rfl
  | x :: ns => by rw [List.flatMap_cons, List.length_append, flat_len ns, List.length_cons]; simp [encG]; omega
theorem flat_get : ∀ (ns : List (ByteArray × Int)) (k : Nat), k < ns.length * 2 → (ns.flatMap encG)[k]? = some ((encG ns[k / 2]!)[k % 2]!)
  | [], k, h => by simp at h
  | x :: ns, 0, h => rfl
  | x :: ns, 1, h => rfl
  | x :: ns, k + 2, h => by
    have h' : k < ns.length * 2 := by simp at h; omega
    have e1 : (k + 2) / 2 = k / 2 + 1 := by omega
    have e2 : (k + 2) % 2 = k % 2 := by omega
    rw [e1, e2, List.flatMap_cons]
    show (Value.string x.1 :: Value.int .i64 x.2 :: ns.flatMap encG)[k + 2]? = _
    simpa using flat_get ns k h'
theorem flatK_list (ns : List (ByteArray × Int)) : (flatK encG 2 ns.toArray).toList = ns.flatMap encG := by
  apply List.ext_getElem?
  intro k
  by_cases hk : k < ns.length * 2
  · rw [flat_get ns k hk]
    have := get_flatK encG 2 ns.toArray k (by simpa using hk)
    have hs : k < (flatK encG 2 ns.toArray).size := by simpa using hk
    rw [getElem!_pos _ k hs] at this
    rw [Array.getElem?_toList, Array.getElem?_eq_getElem hs, this]
    simp
  · rw [List.getElem?_eq_none (l := ns.flatMap encG) (by rw [flat_len]; omega), List.getElem?_eq_none (by simp; omega)]
section
variable {w : World} {n : Nat}
theorem guess_seq : ∀ {ps : List PV} {xs : List Value} {F : List Nat}, OwSeq (Ow Tryz.prog w n 35) 2 ps xs F → ∃ ns : List (ByteArray × Int), ps = ns.map guessP ∧ xs = ns.flatMap encG ∧ F = []
  | [], xs, F, h => ⟨[], rfl, h.1, h.2⟩
  | p :: ps, xs, F, ⟨c, cs', k, F', h1, h2, h3, h4, h5⟩ => by
    obtain ⟨ns, e1, e2, e3⟩ := guess_seq h5
    cases n with
    | zero => exact h4.elim
    | succ n =>
      unfold Ow at h4
      have t35 : tk Tryz.prog 35 = .struct [9, 3] := by kernel_rfl
      simp only [t35] at h4
      obtain ⟨ps', rfl, h6⟩ := h4
      match ps', h6 with
      | [q1, q2], h6 =>
        obtain ⟨c1, c1', f1, f1', rfl, rfl, h7, c2, c2', f2, f2', rfl, rfl, h8, rfl, rfl⟩ := h6
        cases n with
        | zero => exact h7.elim
        | succ n =>
          have t9 : tk Tryz.prog 9 = .str := by kernel_rfl
          have t3 : tk Tryz.prog 3 = .int .i64 := by kernel_rfl
          unfold Ow at h7 h8
          simp only [t9] at h7
          simp only [t3] at h8
          obtain ⟨⟨s, rfl, rfl⟩, rfl⟩ := h7
          obtain ⟨⟨x, rfl, rfl⟩, rfl⟩ := h8
          exact ⟨(s, x) :: ns, by simp [e1, guessP, strP, intP], by simp [h1, e2, encG], by simp [h3, e3]⟩
      | [], h6 => exact h6.elim
      | [_], h6 => obtain ⟨_, _, _, _, _, _, _, h6⟩ := h6; exact h6.elim
      | _ :: _ :: _ :: _, h6 => obtain ⟨_, _, _, _, _, _, _, _, _, _, _, _, _, _, h6⟩ := h6; exact h6.elim
theorem guess_seq_of : ∀ ns : List (ByteArray × Int), OwSeq (Ow Tryz.prog w 2 35) 2 (ns.map guessP) (ns.flatMap encG) []
  | [] => ⟨rfl, rfl⟩
  | x :: ns => ⟨encG x, ns.flatMap encG, [], [], rfl, rfl, rfl, by
      have t35 : tk Tryz.prog 35 = .struct [9, 3] := by kernel_rfl
      have t9 : tk Tryz.prog 9 = .str := by kernel_rfl
      have t3 : tk Tryz.prog 3 = .int .i64 := by kernel_rfl
      unfold Ow
      simp only [t35]
      refine ⟨_, rfl, [.string x.1], [.int .i64 x.2], [], [], rfl, rfl, ?_, [.int .i64 x.2], [], [], [], rfl, rfl, ?_, rfl, rfl⟩
      · unfold Ow; simp only [t9]; exact ⟨⟨x.1, rfl, rfl⟩, trivial⟩
      · unfold Ow; simp only [t3]; exact ⟨⟨x.2, rfl, rfl⟩, trivial⟩, guess_seq_of ns⟩
theorem ow_guess {p : PV} {v : Value} {F : List Nat} (h : Ow Tryz.prog w n 30 p [v] F) : ∃ ns : List (ByteArray × Int), p = .list (ns.map guessP) ∧ F = v.ownBlock.toList ∧
    ((v = .slice none 0 0 ∧ ns = []) ∨ ∃ g cap cur fz, v = .slice (some ⟨g, 0, none⟩) ns.length cap ∧ F = [g] ∧ FzOk cur.size fz ∧ w.heap[g]? = some (.cells cur 35 fz) ∧ ns.length ≤ cap ∧ cap ≤ maxLen ∧ cur.size = cap * 2 ∧ cur.toList.take (ns.length * 2) = ns.flatMap encG) := by
  cases n with
  | zero => exact h.elim
  | succ n =>
    have ht : tk Tryz.prog 30 = .slice 35 := by kernel_rfl
    unfold Ow at h
    simp only [ht] at h
    obtain ⟨v', xs, ps, F', hv, rfl, h1, h2, h3⟩ := h
    simp at hv; subst hv
    have hs : YtoiigoflkhmjnaaGreatDoorAm.sizeOf Tryz.prog 35 = 2 := by kernel_rfl
    rw [hs] at h1 h3
    obtain ⟨ns, rfl, rfl, rfl⟩ := guess_seq h3
    refine ⟨ns, rfl, by rw [h2, List.append_nil], ?_⟩
    rcases h1.2 with ⟨rfl, h0⟩ | ⟨g, cap, cur, fz, rfl, h4, h5, h6, h7, h8, h9⟩
    · exact .inl ⟨rfl, List.eq_nil_of_length_eq_zero (by simpa using h0)⟩
    · refine .inr ⟨g, cap, cur, fz, by simp, by rw [h2]; rfl, h4, h5, by simpa using h6, h7, h8, by simpa using h9⟩
theorem ow_guess_of {g cap : Nat} {cur : Array Value} {fz : Nat × Nat} {ns : List (ByteArray × Int)} (h4 : FzOk cur.size fz) (h5 : w.heap[g]? = some (.cells cur 35 fz)) (h6 : ns.length ≤ cap) (h7 : cap ≤ maxLen) (h8 : cur.size = cap * 2) (h9 : cur.toList.take (ns.length * 2) = ns.flatMap encG) :
    Ow Tryz.prog w 3 30 (.list (ns.map guessP)) [.slice (some ⟨g, 0, none⟩) ns.length cap] [g] := by
  have ht : tk Tryz.prog 30 = .slice 35 := by kernel_rfl
  have hs : YtoiigoflkhmjnaaGreatDoorAm.sizeOf Tryz.prog 35 = 2 := by kernel_rfl
  unfold Ow
  simp only [ht]
  refine ⟨_, ns.flatMap encG, ns.map guessP, [], rfl, rfl, ⟨by rw [hs]; simpa using flat_len ns, .inr ⟨g, cap, cur, fz, by simp, h4, h5, by simpa using h6, h7, by rw [hs, h8], by rw [hs]; simpa using h9⟩⟩, rfl, ?_⟩
  rw [hs]
  exact guess_seq_of ns
theorem holds_guess {g : Nat} {cur : Array Value} {fz : Nat × Nat} {ns : List (ByteArray × Int)} (h4 : FzOk cur.size fz) (h5 : w.heap[g]? = some (.cells cur 35 fz)) (h6 : ns.length * 2 ≤ cur.size) (h9 : cur.toList.take (ns.length * 2) = ns.flatMap encG) :
    HoldsK encG 2 w g 0 ns.toArray := by
  intro j hj
  have hj' : j < ns.length * 2 := by simpa using hj
  have hc : cur[j]? = some ((encG ns[j / 2]!)[j % 2]!) := by
    have : (cur.toList.take (ns.length * 2))[j]? = some ((encG ns[j / 2]!)[j % 2]!) := by rw [h9]; exact flat_get ns j hj'
    rw [List.getElem?_take, if_pos hj'] at this
    simpa using this
  refine ⟨?_, ?_⟩
  · simp only [World.cell?, h5, Nat.zero_add]
    rw [hc]
    have := get_flatK encG 2 ns.toArray j (by simpa using hj')
    rw [this]
    simp
  · simp only [World.frozen?, h5, Nat.zero_add]
    rcases h4 with rfl | h4
    · simp
    · have : ¬ fz.1 ≤ j := by omega
      simp [this]
theorem putK_take {cur : Array Value} (ns : List (ByteArray × Int)) (hl : ns.length * 2 ≤ cur.size) : (Sort.putCells id 0 (flatK encG 2 ns.toArray) cur).toList.take (ns.length * 2) = ns.flatMap encG := by
  apply List.ext_getElem?
  intro k
  rw [List.getElem?_take]
  by_cases hk : k < ns.length * 2
  · have hk2 : k < cur.size := by omega
    have hs : k < (flatK encG 2 ns.toArray).size := by simpa using hk
    rw [if_pos hk, flat_get ns k hk]
    have := get_flatK encG 2 ns.toArray k (by simpa using hk)
    have e : ns.toArray[k / 2]! = ns[k / 2]! := by simp
    rw [e] at this
    simp only [Sort.putCells, Array.getElem?_toList, Array.getElem?_mapIdx, Array.getElem?_eq_getElem hk2, Option.map_some, Nat.zero_le, true_and, Nat.zero_add, Nat.sub_zero, if_pos hs, this, id]
  · rw [if_neg hk, List.getElem?_eq_none (by rw [flat_len]; omega)]
end
theorem slices_SortFunc_impl_Guess.ok (N : Nat) : FnOk Tryz.prog 61 (slices_SortFunc_impl_Guess.S N) := by
  refine ⟨⟨_, Tryz.func61, by kernel_rfl, by kernel_rfl⟩, fun w ok vs ps F L outs hglb ha hnd hok hd => ?_⟩
  match vs, ps, ha with
  | [v, u], [p, q], ha =>
    obtain ⟨r, L', rfl, ⟨hb, hrt⟩, rfl, _, ⟨n, how⟩, hq, rfl, rfl⟩ := ha
    obtain ⟨ns, rfl, hF, hcase⟩ := ow_guess how
    obtain ⟨m, cs, hr, hu⟩ := hq
    cases m with
    | zero => exact hr.elim
    | succ m =>
    have t80 : tk Tryz.prog 73 = .other := by kernel_rfl
    unfold YtoiigoflkhmjnaaGreatDoorAm.Rd at hr
    simp only [t80] at hr
    obtain ⟨v, rfl, rfl, -⟩ := hr
    rw [valOf_one (fun fs => by rw [t80]; simp)] at hu
    subst hu
    have hd' : (if isFn 62 u = true ∧ (ns.map guessP).length < 4611686018427387904 then some [PV.list ((sortG ((ns.map guessP).map toGuess)).map guessP)] else none) = some outs := hd
    have hid : (ns.map guessP).map toGuess = ns := by simp [Function.comp_def, toGuess_guessP]
    rw [hid, List.length_map] at hd'
    split at hd'
    case isFalse => cases hd'
    rename_i hc
    obtain ⟨hfn, hlen⟩ := hc
    rw [isFn_eq hfn]
    injection hd' with hd'
    subst hd'
    rcases hcase with ⟨hv, rfl⟩ | ⟨g, cap, cur, fz, hv, hFg, h4, h5, h6, h7, h8, h9⟩
    · have hc := AnyF.slices_SortFunc_none laysSF none 0 (.func (.func 62) #[] #[]) w
      change Calls Tryz.prog 61 _ _ _ at hc
      have hvs : ([r.hd, .func (.func 62) #[] #[]] : List Value).toArray = #[.slice none 0 0, .func (.func 62) #[] #[]] := by rw [hv]
      rw [hvs]
      refine Calls.mono hc ?_
      rintro x w' ⟨rfl, rfl⟩
      refine ⟨_, rfl, [], [], [r.ft], rfl, ⟨rfl, rfl⟩, ⟨r.ft, [], rfl, ?_, rfl⟩, ?_, ?_, ?_⟩
      · unfold LentAt1
        rw [hb]
        have e0 : sortG [] = [] := by simp [sortG]
        rw [e0]
        exact ⟨n, hrt ▸ how⟩
      · simpa using hnd
      · intro k hk
        refine .inr ?_
        simpa using hk
      · exact ⟨rfl, rfl, rfl, Nat.le_refl _, fun k hk hn => rfl⟩
    · have hg : g < w.heap.size := (Array.getElem?_eq_some_iff.1 h5).1
      have eg : ∀ args w, (callFunc 62 args).run Tryz.prog w = .ok (.enter 62 args) w := enters_of Tryz.func62 (by kernel_rfl) rfl
      have hcmp : CmpLays Tryz.prog 62 #[] encG 2 cmpG g 0 ns.toArray.size w := fun m os dk _ x y => order x.1 y.1 x.2 y.2 _
      have hc := AnyQ.slices_SortFunc_total laysSF 2 Tryz.isAgg35 Tryz.sizeOf35 encG (fun _ => rfl) (fun x v hv => by
        rcases List.mem_cons.1 hv with rfl | hv
        · rfl
        · rcases List.mem_cons.1 hv with rfl | hv
          · rfl
          · cases hv) cmpG swoG 62 #[] g 0 cap ns.toArray w eg hcmp (holds_guess h4 h5 (by omega) h9) hg (by simpa using hlen) totG
      change Calls Tryz.prog 61 _ _ _ at hc
      rw [List.size_toArray] at hc
      have hvs : ([r.hd, .func (.func 62) #[] #[]] : List Value).toArray = #[.slice (some ⟨g, 0, none⟩) ns.length cap, .func (.func 62) #[] #[]] := by rw [hv]
      rw [hvs]
      refine Calls.mono hc ?_
      rintro x w' ⟨rfl, m, os, rfl⟩
      have hse : (ns.toArray.toList.mergeSort fun x y => !(ltOf cmpG) y x) = sortG ns := rfl
      rw [hse]
      have hlen' : (sortG ns).length = ns.length := sortG_len _
      refine ⟨_, rfl, [], [], [r.ft], rfl, ⟨rfl, rfl⟩, ⟨r.ft, [], rfl, ?_, rfl⟩, ?_, ?_, ?_⟩
      · unfold LentAt1
        rw [hb]
        have hw1 : (sortWorldK encG 2 w g 0 m (sortG ns).toArray os).heap[g]? = some (.cells (Sort.putCells id 0 (flatK encG 2 (sortG ns).toArray) cur) 35 fz) := by
          have h1 : (Sort.putRow id (Sort.ahead w m) g 0 (flatK encG 2 (sortG ns).toArray)).heap[g]? = some (.cells (Sort.putCells id 0 (flatK encG 2 (sortG ns).toArray) cur) 35 fz) := by
            have h5' : (Sort.ahead w m).heap[g]? = some (.cells cur 35 fz) := h5
            simp [Sort.putRow, Sort.mapBlock, Array.getElem?_modify, h5, Sort.ahead, Sort.onCells]
          have hlt := (Array.getElem?_eq_some_iff.1 h1).1
          unfold sortWorldK putRowK
          simp only [Sort.grow]
          rw [Array.getElem?_append_left hlt]
          exact h1
        have hsz : (Sort.putCells id 0 (flatK encG 2 (sortG ns).toArray) cur).size = cur.size := by simp [Sort.putCells]
        have htk := putK_take (cur := cur) (sortG ns) (by rw [hlen']; omega)
        refine ⟨3, ?_⟩
        have := ow_guess_of (cap := cap) (by rw [hsz]; exact h4) hw1 (by rw [hlen']; exact h6) h7 (by rw [hsz]; exact h8) htk
        rw [hlen', ← hv, ← hFg, hrt.symm] at this
        exact this
      · simpa using hnd
      · intro k hk
        refine .inr ?_
        simpa using hk
      · refine ⟨rfl, rfl, rfl, by simp [sortWorldK, putRowK, Sort.grow, Sort.putRow, Sort.mapBlock, Sort.ahead], fun k hk hn => ?_⟩
        have hkg : k ≠ g := fun h => hn (by simp [hFg, h])
        unfold sortWorldK putRowK
        simp only [Sort.grow]
        rw [Array.getElem?_append_left (by simpa [Sort.putRow, Sort.mapBlock, Sort.ahead] using hk)]
        simp [Sort.putRow, Sort.mapBlock, Sort.ahead, Array.getElem?_modify, Ne.symm hkg]
  | [], _, ha => exact absurd ha (by simp [ArgsAt, slices_SortFunc_impl_Guess.S])
  | [_], [], ha => exact absurd ha (by simp [ArgsAt, slices_SortFunc_impl_Guess.S])
  | [_], _ :: _, ha => exact absurd ha (by simp [ArgsAt, slices_SortFunc_impl_Guess.S])
  | _ :: _ :: _, [], ha => exact absurd ha (by simp [ArgsAt, slices_SortFunc_impl_Guess.S])
  | _ :: _ :: _, [_], ha => exact absurd ha (by simp [ArgsAt, slices_SortFunc_impl_Guess.S])
  | [_, _], _ :: _ :: _ :: _, ha => exact absurd ha (by simp [ArgsAt, slices_SortFunc_impl_Guess.S])
  | _ :: _ :: _ :: _, _ :: _ :: _, ha => exact absurd ha (by simp [ArgsAt, slices_SortFunc_impl_Guess.S])

end

/-! ### impl_guesses: function 67, loop.example/medlar/impl.guesses -/
noncomputable def impl_guesses.E (N : Nat) : Env := ⟨lk [(116, impl_Within.S N), (117, impl_Far.S N), (61, slices_SortFunc_impl_Guess.S N)], nzk [(3, ⟨[0, 3, 4, 5, 6, 8, 9, 10, 14, 15, 16, 17, 18, 19, 20, 21, 22, 23, 24, 25, 26, 27, 28, 29, 30, 31, 32, 33, 34, 35, 36, 37, 38], [(7, 30)], []⟩)], N, [], false⟩
noncomputable def impl_guesses.f (N : Nat) (a : List PV) : Option Res := run Tryz.prog (impl_guesses.E N) Tryz.f67 [(27, .ro), (9, .ro), (3, .ro)] [(30, .own)] a
noncomputable def impl_guesses.l0 (N : Nat) (n : Nat) (x1 : ByteArray) (x2 : Int) (x11 : PV) (x12 : Int) (x13 : Int) (y0 : List PV) : Option Res := loopAt Tryz.prog (impl_guesses.E N) Tryz.f67 [(30, .own)] [1, 1, 0, 1, 0] [] n ⟨mkSlots 39 [(1, .sc (.string x1)), (2, .sc (.int .i64 x2)), (7, .ref 0 []), (11, .ro 27 x11), (12, .sc (.int .i64 x12)), (13, .sc (.int .i64 x13))], ohOf [.row 30 (PV.list y0)]⟩
theorem impl_guesses.f_eq (N : Nat) (a0 : PV) (a1 : PV) (a2 : PV) : impl_guesses.f N [a0, a1, a2] = impl_guesses.l0 N N a1.toStr a2.toInt a0 (a0.items.length : Int) 0 [] := by kernel_rfl
theorem impl_guesses.l0_eq (N : Nat) (n : Nat) (x1 : ByteArray) (x2 : Int) (x11 : PV) (x12 : Int) (x13 : Int) (y0 : List PV) : impl_guesses.l0 N (n + 1) x1 x2 x11 x12 x13 y0 = if decide (x13 < x12) = true then (if 0 ≤ x13 then (if x13 < (x11.items.length : Int) then ((impl_Within.f N [(PV.sc (.string ((x11.elem x13.toNat).toStr))), (PV.sc (.string x1)), (PV.sc (.int .i64 x2))]).bind fun t1 => if (t1.headD default).toBool = true then ((impl_Far.f N [(PV.sc (.string ((x11.elem x13.toNat).toStr))), (PV.sc (.string x1))]).bind fun t2 => if y0.length + ([(PV.agg [(PV.sc (.string ((x11.elem x13.toNat).toStr))), (PV.sc (.int .i64 ((t2.headD default).toInt)))])]).length ≤ 5864062014805 then (impl_guesses.l0 N n x1 x2 x11 x12 (IntKind.i64.wrap (x13 + 1)) (y0 ++ ([(PV.agg [(PV.sc (.string ((x11.elem x13.toNat).toStr))), (PV.sc (.int .i64 ((t2.headD default).toInt)))])]))) else none) else (impl_guesses.l0 N n x1 x2 x11 x12 (IntKind.i64.wrap (x13 + 1)) y0)) else none) else none) else ((slices_SortFunc_impl_Guess.f N [(PV.list y0), (PV.sc (.func (.func 62) #[] #[]))]).bind fun t3 => if 0 ≤ (minI (((t3.headD default).items).length : Int) 10) then (if (minI (((t3.headD default).items).length : Int) 10) ≤ (((t3.headD default).items).length : Int) then (if ([] : List PV).length + ((((t3.headD default).items).drop 0).take (((minI (((t3.headD default).items).length : Int) 10).toNat) - 0)).length ≤ 5864062014805 then (some [(PV.list (([] : List PV) ++ ((((t3.headD default).items).drop 0).take (((minI (((t3.headD default).items).length : Int) 10).toNat) - 0))))]) else none) else none) else none) := by kernel_rfl
noncomputable def impl_guesses.S (N : Nat) : ASpec := ⟨[(27, .ro), (9, .ro), (3, .ro)], [(30, .own)], impl_guesses.f N⟩
theorem impl_guesses.ok (N : Nat) : FnOk Tryz.prog 67 (impl_guesses.S N) := fnOk_of (E := impl_guesses.E N) mix Tryz.func67 (by kernel_rfl) (by kernel_rfl) (by kernel_rfl) (lk_ok (all_cons (impl_Within.ok N) (all_cons (impl_Far.ok N) (all_cons (slices_SortFunc_impl_Guess.ok N) all_nil)))) (by kernel_rfl) (fun _ _ h => h)

/-! ### impl_BookGuesses: function 28, loop.example/medlar/impl.BookGuesses -/
noncomputable def impl_BookGuesses.E (N : Nat) : Env := ⟨lk [(44, impl_BookOk.S N), (48, impl_WordOk.S N), (66, impl_BookKnows.S N), (45, impl_Book_words.S N), (67, impl_guesses.S N)], nzk [(5, ⟨[0, 1, 2, 3, 4, 6, 7, 8, 9, 10, 11, 12, 13, 14, 15, 16, 17, 18, 19, 20, 21, 22, 23, 24, 25, 29, 30, 31, 32, 33, 34, 35, 36, 37, 38, 39, 40, 41, 42, 43, 44, 45, 46, 47, 48, 49], [(5, 30)], []⟩)], N, [], false⟩
noncomputable def impl_BookGuesses.f (N : Nat) (a : List PV) : Option Res := run Tryz.prog (impl_BookGuesses.E N) Tryz.f28 [(26, .ro), (9, .ro)] [(30, .own)] a
noncomputable def impl_BookGuesses.l0 (N : Nat) (n : Nat) (x27 : Int) (x28 : Int) (y0 : List PV) (y1 : PV) : Option Res := loopAt Tryz.prog (impl_BookGuesses.E N) Tryz.f28 [(30, .own)] [1, 1, 1, 0, 1, 0] [] n ⟨mkSlots 50 [(5, .ref 0 []), (26, .ref 1 []), (27, .sc (.int .i64 x27)), (28, .sc (.int .i64 x28))], ohOf [.row 30 (PV.list y0), .row 30 y1]⟩
theorem impl_BookGuesses.f_eq (N : Nat) (a0 : PV) (a1 : PV) : impl_BookGuesses.f N [a0, a1] = (impl_BookOk.f N [(PV.agg [a0.fld 0, a0.fld 1])]).bind fun t1 => if (!((t1.headD default).toBool)) = false then ((impl_WordOk.f N [(PV.sc (.string a1.toStr))]).bind fun t2 => if (!((t2.headD default).toBool)) = false then ((impl_BookKnows.f N [(PV.agg [a0.fld 0, a0.fld 1]), (PV.sc (.string a1.toStr))]).bind fun t3 => if (t3.headD default).toBool = true then (some [(PV.list [])]) else ((impl_Book_words.f N [(PV.agg [a0.fld 0, a0.fld 1])]).bind fun t4 => (impl_guesses.f N [(t4.headD default), (PV.sc (.string a1.toStr)), (PV.sc (.int .i64 2))]).bind fun t5 => impl_BookGuesses.l0 N N (((t5.headD default).items).length : Int) 0 [] (t5.headD default))) else (some [(PV.list [])])) else (some [(PV.list [])]) := by kernel_rfl
theorem impl_BookGuesses.l0_eq (N : Nat) (n : Nat) (x27 : Int) (x28 : Int) (y0 : List PV) (y1 : PV) : impl_BookGuesses.l0 N (n + 1) x27 x28 y0 y1 = if decide (x28 < x27) = true then (if 0 ≤ x28 then (if x28 < (y1.items.length : Int) then (if decide (0 < (y0.length : Int)) = true then (if 0 ≤ 0 then (if 0 < (y0.length : Int) then (if (!decide ((((y1.elem x28.toNat).fld 1).toInt) = ((((PV.list y0).elem 0).fld 1).toInt))) = true then (some [(PV.list y0)]) else (if y0.length + ([(PV.agg [(PV.sc (.string (((y1.elem x28.toNat).fld 0).toStr))), (PV.sc (.int .i64 (((y1.elem x28.toNat).fld 1).toInt)))])]).length ≤ 5864062014805 then (impl_BookGuesses.l0 N n x27 (IntKind.i64.wrap (x28 + 1)) (y0 ++ ([(PV.agg [(PV.sc (.string (((y1.elem x28.toNat).fld 0).toStr))), (PV.sc (.int .i64 (((y1.elem x28.toNat).fld 1).toInt)))])])) y1) else none)) else none) else none) else (if y0.length + ([(PV.agg [(PV.sc (.string (((y1.elem x28.toNat).fld 0).toStr))), (PV.sc (.int .i64 (((y1.elem x28.toNat).fld 1).toInt)))])]).length ≤ 5864062014805 then (impl_BookGuesses.l0 N n x27 (IntKind.i64.wrap (x28 + 1)) (y0 ++ ([(PV.agg [(PV.sc (.string (((y1.elem x28.toNat).fld 0).toStr))), (PV.sc (.int .i64 (((y1.elem x28.toNat).fld 1).toInt)))])])) y1) else none)) else none) else none) else (some [(PV.list y0)]) := by kernel_rfl
noncomputable def impl_BookGuesses.S (N : Nat) : ASpec := ⟨[(26, .ro), (9, .ro)], [(30, .own)], impl_BookGuesses.f N⟩
theorem impl_BookGuesses.ok (N : Nat) : FnOk Tryz.prog 28 (impl_BookGuesses.S N) := fnOk_of (E := impl_BookGuesses.E N) mix Tryz.func28 (by kernel_rfl) (by kernel_rfl) (by kernel_rfl) (lk_ok (all_cons (impl_BookOk.ok N) (all_cons (impl_WordOk.ok N) (all_cons (impl_BookKnows.ok N) (all_cons (impl_Book_words.ok N) (all_cons (impl_guesses.ok N) all_nil)))))) (by kernel_rfl) (fun _ _ h => h)

/-! ### impl_keyAt: function 118, loop.example/medlar/impl.keyAt -/
noncomputable def impl_keyAt.E (N : Nat) : Env := ⟨lk [(157, strings_Index.S N)], nzk [(2, ⟨[1, 2, 3, 4, 5, 6, 10, 11, 12, 13, 14, 15, 16, 17, 18, 19, 20, 21], [], []⟩)], N, [], false⟩
noncomputable def impl_keyAt.f (N : Nat) (a : List PV) : Option Res := run Tryz.prog (impl_keyAt.E N) Tryz.f118 [(9, .ro)] [(3, .val), (3, .val)] a
noncomputable def impl_keyAt.l0 (N : Nat) (n : Nat) (x0 : ByteArray) (x7 : PV) (x8 : Int) (x9 : Int) : Option Res := loopAt Tryz.prog (impl_keyAt.E N) Tryz.f118 [(3, .val), (3, .val)] [1, 0, 1, 0] [] n ⟨mkSlots 22 [(0, .sc (.string x0)), (7, .ro 27 x7), (8, .sc (.int .i64 x8)), (9, .sc (.int .i64 x9))], ohOf []⟩
theorem impl_keyAt.f_eq (N : Nat) (a0 : PV) : impl_keyAt.f N [a0] = impl_keyAt.l0 N N a0.toStr keyRowsP (keyRowsP.items.length : Int) 0 := by kernel_rfl
theorem impl_keyAt.l0_eq (N : Nat) (n : Nat) (x0 : ByteArray) (x7 : PV) (x8 : Int) (x9 : Int) : impl_keyAt.l0 N (n + 1) x0 x7 x8 x9 = if decide (x9 < x8) = true then (if 0 ≤ x9 then (if x9 < (x7.items.length : Int) then ((strings_Index.f N [(PV.sc (.string ((x7.elem x9.toNat).toStr))), (PV.sc (.string x0))]).bind fun t1 => if decide (0 ≤ ((t1.headD default).toInt)) = true then (some [(PV.sc (.int .i64 x9)), (PV.sc (.int .i64 ((t1.headD default).toInt)))]) else (impl_keyAt.l0 N n x0 x7 x8 (IntKind.i64.wrap (x9 + 1)))) else none) else none) else (some [(PV.sc (.int .i64 (-1))), (PV.sc (.int .i64 (-1)))]) := by kernel_rfl
noncomputable def impl_keyAt.S (N : Nat) : ASpec := ⟨[(9, .ro)], [(3, .val), (3, .val)], impl_keyAt.f N⟩
theorem impl_keyAt.ok (N : Nat) : FnOk Tryz.prog 118 (impl_keyAt.S N) := fnOk_of (E := impl_keyAt.E N) mix Tryz.func118 (by kernel_rfl) (by kernel_rfl) (by kernel_rfl) (lk_ok (all_cons (strings_Index.ok N) all_nil)) (by kernel_rfl) (fun _ _ h => h)

/-! ### impl_KeyFar: function 68, loop.example/medlar/impl.KeyFar -/
noncomputable def impl_KeyFar.E (N : Nat) : Env := ⟨lk [(101, impl_lower.S N), (118, impl_keyAt.S N)], nzk [], N, [], false⟩
noncomputable def impl_KeyFar.f (N : Nat) (a : List PV) : Option Res := run Tryz.prog (impl_KeyFar.E N) Tryz.f68 [(9, .ro), (9, .ro)] [(3, .val)] a
theorem impl_KeyFar.f_eq (N : Nat) (a0 : PV) (a1 : PV) : impl_KeyFar.f N [a0, a1] = if (!decide ((a0.toStr.size : Int) = 1)) = false then (if (!decide ((a1.toStr.size : Int) = 1)) = false then ((impl_lower.f N [(PV.sc (.string a0.toStr))]).bind fun t1 => if (!((t1.headD default).toBool)) = false then ((impl_lower.f N [(PV.sc (.string a1.toStr))]).bind fun t2 => if (!((t2.headD default).toBool)) = true then (some [(PV.sc (.int .i64 (-1)))]) else ((impl_keyAt.f N [(PV.sc (.string a0.toStr))]).bind fun t3 => (impl_keyAt.f N [(PV.sc (.string a1.toStr))]).bind fun t4 => some [(PV.sc (.int .i64 (minI (maxI (maxI (maxI (IntKind.i64.wrap (((t3.headD default).toInt) - ((t4.headD default).toInt))) (IntKind.i64.wrap (((t4.headD default).toInt) - ((t3.headD default).toInt)))) (IntKind.i64.wrap (((t3.tail.headD default).toInt) - ((t4.tail.headD default).toInt)))) (IntKind.i64.wrap (((t4.tail.headD default).toInt) - ((t3.tail.headD default).toInt)))) 4)))])) else (some [(PV.sc (.int .i64 (-1)))])) else (some [(PV.sc (.int .i64 (-1)))])) else (some [(PV.sc (.int .i64 (-1)))]) := by kernel_rfl
noncomputable def impl_KeyFar.S (N : Nat) : ASpec := ⟨[(9, .ro), (9, .ro)], [(3, .val)], impl_KeyFar.f N⟩
theorem impl_KeyFar.ok (N : Nat) : FnOk Tryz.prog 68 (impl_KeyFar.S N) := fnOk_of (E := impl_KeyFar.E N) mix Tryz.func68 (by kernel_rfl) (by kernel_rfl) (by kernel_rfl) (lk_ok (all_cons (impl_lower.ok N) (all_cons (impl_keyAt.ok N) all_nil))) (by kernel_rfl) (fun _ _ h => h)

/-! ### impl_WeighFar: function 29, loop.example/medlar/impl.WeighFar -/
noncomputable def impl_WeighFar.E (N : Nat) : Env := ⟨lk [(48, impl_WordOk.S N), (68, impl_KeyFar.S N)], nzk [(5, ⟨[2, 3, 4, 6, 7, 8, 9, 10, 11, 12, 13, 14, 15, 16, 17, 18, 19, 20, 21, 22, 23, 26, 27, 28, 29, 30, 31, 32, 33, 34, 35, 36, 37, 38, 39, 40, 41, 42, 43, 44, 45, 46, 47, 48, 49, 50, 51, 52, 53, 54, 55, 56, 57, 58, 59, 60, 61, 62, 63, 64, 65, 66, 67, 68, 69, 70, 71, 72, 73, 74, 75, 76, 77, 78, 79, 80, 81, 82, 83, 84, 85, 86, 87, 88, 89, 90, 91, 92, 93, 94, 95, 96, 97, 98, 99, 100, 101, 102, 103, 104, 105, 106, 107, 108, 109, 110, 111, 112, 113, 114, 115, 116, 117, 118, 119, 120, 121, 122, 123, 124, 125], [], []⟩), (11, ⟨[2, 3, 4, 6, 7, 8, 9, 10, 11, 12, 13, 14, 15, 16, 17, 18, 19, 20, 21, 22, 23, 24, 25, 26, 27, 28, 29, 30, 31, 32, 33, 34, 35, 36, 37, 38, 39, 40, 41, 42, 43, 44, 45, 48, 49, 50, 51, 52, 53, 54, 55, 56, 57, 58, 59, 60, 61, 62, 63, 64, 65, 66, 67, 68, 69, 70, 71, 72, 73, 74, 75, 76, 77, 78, 79, 80, 81, 82, 83, 84, 85, 86, 87, 88, 89, 90, 91, 92, 93, 94, 95, 96, 97, 98, 99, 100, 101, 102, 103, 104, 105, 106, 107, 108, 109, 110, 111, 112, 113, 114, 115, 116, 117, 118, 119, 120, 121, 122, 123, 124, 125], [], []⟩), (16, ⟨[2, 3, 4, 6, 7, 9, 10, 11, 12, 13, 14, 15, 16, 17, 18, 19, 20, 21, 22, 23, 24, 25, 26, 27, 28, 29, 30, 31, 32, 33, 34, 35, 36, 37, 38, 39, 40, 41, 42, 43, 44, 45, 46, 47, 48, 49, 50, 51, 52, 53, 54, 55, 56, 57, 58, 59, 60, 61, 62, 63, 64, 65, 66, 67, 68, 69, 70, 71, 72, 73, 74, 75, 76, 77, 78, 79, 80, 81, 82, 83, 84, 85, 86, 87, 88, 89, 90, 91, 92, 93, 94, 95, 96, 97, 98, 99, 100, 101, 102, 103, 104, 105, 106, 107, 108, 109, 110, 111, 112, 113, 114, 115, 116, 117, 118, 119, 120, 121, 122, 123, 124, 125], [], []⟩), (19, ⟨[2, 3, 4, 6, 7, 10, 11, 12, 13, 14, 15, 16, 17, 18, 19, 20, 21, 22, 23, 24, 25, 26, 27, 28, 29, 30, 31, 32, 33, 34, 35, 36, 37, 38, 39, 40, 41, 42, 43, 44, 45, 46, 47, 48, 49, 50, 51, 52, 53, 54, 55, 56, 57, 58, 59, 60, 61, 62, 63, 64, 65, 66, 67, 68, 69, 70, 71, 72, 73, 74, 75, 76, 77, 78, 79, 80, 81, 82, 83, 84, 85, 86, 87, 88, 89, 90, 91, 92, 93, 94, 95, 96, 97, 98, 99, 100, 101, 102, 103, 104, 105, 106, 107, 108, 109, 110, 111, 112, 113, 114, 115, 116, 117, 118, 119, 120, 121, 122, 123, 124, 125], [], []⟩)], N, [], false⟩
noncomputable def impl_WeighFar.f (N : Nat) (a : List PV) : Option Res := run Tryz.prog (impl_WeighFar.E N) Tryz.f29 [(9, .ro), (9, .ro)] [(3, .val)] a
noncomputable def impl_WeighFar.l0 (N : Nat) (n : Nat) (x0 : ByteArray) (x1 : ByteArray) (x24 : Int) (x25 : Int) (y0 : List PV) : Option Res := loopAt Tryz.prog (impl_WeighFar.E N) Tryz.f29 [(3, .val)] [1, 1, 1, 0, 1, 0] [] n ⟨mkSlots 126 [(0, .sc (.string x0)), (1, .sc (.string x1)), (5, .ref 0 []), (24, .sc (.int .i64 x24)), (25, .sc (.int .i64 x25))], ohOf [.row 84 (PV.list y0)]⟩
noncomputable def impl_WeighFar.l1 (N : Nat) (n : Nat) (x0 : ByteArray) (x1 : ByteArray) (x46 : Int) (x47 : Int) (y0 : List PV) : Option Res := loopAt Tryz.prog (impl_WeighFar.E N) Tryz.f29 [(3, .val)] [1, 1, 1, 1, 0, 1, 0] [] n ⟨mkSlots 126 [(0, .sc (.string x0)), (1, .sc (.string x1)), (5, .ref 0 []), (46, .sc (.int .i64 x46)), (47, .sc (.int .i64 x47))], ohOf [.row 84 (PV.list y0)]⟩
noncomputable def impl_WeighFar.l2 (N : Nat) (n : Nat) (x0 : ByteArray) (x1 : ByteArray) (x8 : Int) (y0 : List PV) : Option Res := loopAt Tryz.prog (impl_WeighFar.E N) Tryz.f29 [(3, .val)] [1, 1, 1, 1, 1, 0, 1, 0] [] n ⟨mkSlots 126 [(0, .sc (.string x0)), (1, .sc (.string x1)), (5, .ref 0 []), (8, .sc (.int .i64 x8))], ohOf [.row 84 (PV.list y0)]⟩
noncomputable def impl_WeighFar.l3 (N : Nat) (m0 : Nat) (n : Nat) (x0 : ByteArray) (x1 : ByteArray) (x8 : Int) (x9 : Int) (y0 : List PV) : Option Res := loopAt Tryz.prog (impl_WeighFar.E N) Tryz.f29 [(3, .val)] [1, 1, 1, 1, 1, 0, 1, 0, 0, 1, 0, 0, 1, 0] [m0] n ⟨mkSlots 126 [(0, .sc (.string x0)), (1, .sc (.string x1)), (5, .ref 0 []), (8, .sc (.int .i64 x8)), (9, .sc (.int .i64 x9))], ohOf [.row 84 (PV.list y0)]⟩
theorem impl_WeighFar.f_eq (N : Nat) (a0 : PV) (a1 : PV) : impl_WeighFar.f N [a0, a1] = (impl_WordOk.f N [(PV.sc (.string a0.toStr))]).bind fun t1 => if (!((t1.headD default).toBool)) = false then ((impl_WordOk.f N [(PV.sc (.string a1.toStr))]).bind fun t2 => if (!((t2.headD default).toBool)) = true then (some [(PV.sc (.int .i64 (-1)))]) else (if 0 ≤ (IntKind.i64.wrap ((a0.toStr.size : Int) + 1)) then (if (IntKind.i64.wrap ((a0.toStr.size : Int) + 1)) ≤ (IntKind.i64.wrap ((a0.toStr.size : Int) + 1)) then (if (IntKind.i64.wrap ((a0.toStr.size : Int) + 1)).toNat ≤ 11728124029610 then (impl_WeighFar.l0 N N a0.toStr a1.toStr ((List.replicate (IntKind.i64.wrap ((a0.toStr.size : Int) + 1)).toNat (PV.list [])).length : Int) 0 (List.replicate (IntKind.i64.wrap ((a0.toStr.size : Int) + 1)).toNat (PV.list []))) else none) else none) else none)) else (some [(PV.sc (.int .i64 (-1)))]) := by kernel_rfl
theorem impl_WeighFar.l0_eq (N : Nat) (n : Nat) (x0 : ByteArray) (x1 : ByteArray) (x24 : Int) (x25 : Int) (y0 : List PV) : impl_WeighFar.l0 N (n + 1) x0 x1 x24 x25 y0 = if decide (x25 < x24) = true then (if 0 ≤ (IntKind.i64.wrap ((x1.size : Int) + 1)) then (if (IntKind.i64.wrap ((x1.size : Int) + 1)) ≤ (IntKind.i64.wrap ((x1.size : Int) + 1)) then (if (IntKind.i64.wrap ((x1.size : Int) + 1)).toNat ≤ 35184372088832 then (if 0 ≤ x25 then (if x25 < (y0.length : Int) then (if 0 ≤ x25 then (if x25 < ((y0.set x25.toNat (PV.list (List.replicate (IntKind.i64.wrap ((x1.size : Int) + 1)).toNat (PV.sc (.int .i64 0))))).length : Int) then (if 0 ≤ 0 then (if 0 < ((((PV.list (y0.set x25.toNat (PV.list (List.replicate (IntKind.i64.wrap ((x1.size : Int) + 1)).toNat (PV.sc (.int .i64 0)))))).elem x25.toNat).items).length : Int) then (impl_WeighFar.l0 N n x0 x1 x24 (IntKind.i64.wrap (x25 + 1)) ((y0.set x25.toNat (PV.list (List.replicate (IntKind.i64.wrap ((x1.size : Int) + 1)).toNat (PV.sc (.int .i64 0))))).set x25.toNat (PV.list ((((PV.list (y0.set x25.toNat (PV.list (List.replicate (IntKind.i64.wrap ((x1.size : Int) + 1)).toNat (PV.sc (.int .i64 0)))))).elem x25.toNat).items).set 0 (PV.sc (.int .i64 (IntKind.i64.wrap (4 * x25)))))))) else none) else none) else none) else none) else none) else none) else none) else none) else none) else (if 0 ≤ 0 then (if 0 < (y0.length : Int) then (impl_WeighFar.l1 N N x0 x1 ((((PV.list y0).elem 0).items).length : Int) 0 y0) else none) else none) := by kernel_rfl
theorem impl_WeighFar.l1_eq (N : Nat) (n : Nat) (x0 : ByteArray) (x1 : ByteArray) (x46 : Int) (x47 : Int) (y0 : List PV) : impl_WeighFar.l1 N (n + 1) x0 x1 x46 x47 y0 = if decide (x47 < x46) = true then (if 0 ≤ 0 then (if 0 < (y0.length : Int) then (if 0 ≤ x47 then (if x47 < ((((PV.list y0).elem 0).items).length : Int) then (impl_WeighFar.l1 N n x0 x1 x46 (IntKind.i64.wrap (x47 + 1)) (y0.set 0 (PV.list ((((PV.list y0).elem 0).items).set x47.toNat (PV.sc (.int .i64 (IntKind.i64.wrap (4 * x47)))))))) else none) else none) else none) else none) else (impl_WeighFar.l2 N N x0 x1 1 y0) := by kernel_rfl
theorem impl_WeighFar.l2_eq (N : Nat) (n : Nat) (x0 : ByteArray) (x1 : ByteArray) (x8 : Int) (y0 : List PV) : impl_WeighFar.l2 N (n + 1) x0 x1 x8 y0 = if decide (x8 ≤ (x0.size : Int)) = true then (impl_WeighFar.l3 N n N x0 x1 x8 1 y0) else (if 0 ≤ (x0.size : Int) then (if (x0.size : Int) < (y0.length : Int) then (if 0 ≤ (x1.size : Int) then (if (x1.size : Int) < ((((PV.list y0).elem x0.size).items).length : Int) then (some [(PV.sc (.int .i64 ((((PV.list y0).elem x0.size).elem x1.size).toInt)))]) else none) else none) else none) else none) := by kernel_rfl
theorem impl_WeighFar.l3_eq (N : Nat) (m0 : Nat) (n : Nat) (x0 : ByteArray) (x1 : ByteArray) (x8 : Int) (x9 : Int) (y0 : List PV) : impl_WeighFar.l3 N m0 (n + 1) x0 x1 x8 x9 y0 = if decide (x9 ≤ (x1.size : Int)) = true then (if 0 ≤ (IntKind.i64.wrap (x8 - 1)) then (if (IntKind.i64.wrap (x8 - 1)) < (y0.length : Int) then (if 0 ≤ (IntKind.i64.wrap (x9 - 1)) then (if (IntKind.i64.wrap (x9 - 1)) < ((((PV.list y0).elem ((IntKind.i64.wrap (x8 - 1)).toNat)).items).length : Int) then (if 0 ≤ (IntKind.i64.wrap (x8 - 1)) then (if (IntKind.i64.wrap (x8 - 1)) ≤ x8 then (if x8 ≤ (x0.size : Int) then (if 0 ≤ (IntKind.i64.wrap (x9 - 1)) then (if (IntKind.i64.wrap (x9 - 1)) ≤ x9 then (if x9 ≤ (x1.size : Int) then ((impl_KeyFar.f N [(PV.sc (.string (x0.extract ((IntKind.i64.wrap (x8 - 1)).toNat) x8.toNat))), (PV.sc (.string (x1.extract ((IntKind.i64.wrap (x9 - 1)).toNat) x9.toNat)))]).bind fun t3 => if 0 ≤ x8 then (if x8 < (y0.length : Int) then (if 0 ≤ (IntKind.i64.wrap (x8 - 1)) then (if (IntKind.i64.wrap (x8 - 1)) < (y0.length : Int) then (if 0 ≤ x9 then (if x9 < ((((PV.list y0).elem ((IntKind.i64.wrap (x8 - 1)).toNat)).items).length : Int) then (if 0 ≤ x8 then (if x8 < (y0.length : Int) then (if 0 ≤ (IntKind.i64.wrap (x9 - 1)) then (if (IntKind.i64.wrap (x9 - 1)) < ((((PV.list y0).elem x8.toNat).items).length : Int) then (if 0 ≤ x9 then (if x9 < ((((PV.list y0).elem x8.toNat).items).length : Int) then (impl_WeighFar.l3 N m0 n x0 x1 x8 (IntKind.i64.wrap (x9 + 1)) (y0.set x8.toNat (PV.list ((((PV.list y0).elem x8.toNat).items).set x9.toNat (PV.sc (.int .i64 (minI (minI (IntKind.i64.wrap (((((PV.list y0).elem ((IntKind.i64.wrap (x8 - 1)).toNat)).elem ((IntKind.i64.wrap (x9 - 1)).toNat)).toInt) + ((t3.headD default).toInt))) (IntKind.i64.wrap (((((PV.list y0).elem ((IntKind.i64.wrap (x8 - 1)).toNat)).elem x9.toNat).toInt) + 4))) (IntKind.i64.wrap (((((PV.list y0).elem x8.toNat).elem ((IntKind.i64.wrap (x9 - 1)).toNat)).toInt) + 4))))))))) else none) else none) else none) else none) else none) else none) else none) else none) else none) else none) else none) else none) else none) else none) else none) else none) else none) else none) else none) else none) else none) else none) else (impl_WeighFar.l2 N m0 x0 x1 (IntKind.i64.wrap (x8 + 1)) y0) := by kernel_rfl
noncomputable def impl_WeighFar.S (N : Nat) : ASpec := ⟨[(9, .ro), (9, .ro)], [(3, .val)], impl_WeighFar.f N⟩
theorem impl_WeighFar.ok (N : Nat) : FnOk Tryz.prog 29 (impl_WeighFar.S N) := fnOk_of (E := impl_WeighFar.E N) mix Tryz.func29 (by kernel_rfl) (by kernel_rfl) (by kernel_rfl) (lk_ok (all_cons (impl_WordOk.ok N) (all_cons (impl_KeyFar.ok N) all_nil))) (by kernel_rfl) (fun _ _ h => h)

/-! ### impl_Ranked: function 26, loop.example/medlar/impl.Ranked -/
noncomputable def impl_Ranked.E (N : Nat) : Env := ⟨lk [(28, impl_BookGuesses.S N), (29, impl_WeighFar.S N), (61, slices_SortFunc_impl_Guess.S N)], nzk [(3, ⟨[0, 2, 3, 4, 6, 7, 8, 9, 10, 14, 15, 16, 17, 18, 19, 20, 21, 22, 23, 24, 25, 26, 27, 28, 29, 30], [(5, 30)], []⟩)], N, [], false⟩
noncomputable def impl_Ranked.f (N : Nat) (a : List PV) : Option Res := run Tryz.prog (impl_Ranked.E N) Tryz.f26 [(26, .ro), (9, .ro)] [(30, .own)] a
noncomputable def impl_Ranked.l0 (N : Nat) (n : Nat) (x1 : ByteArray) (x12 : Int) (x13 : Int) (y0 : List PV) (y1 : PV) : Option Res := loopAt Tryz.prog (impl_Ranked.E N) Tryz.f26 [(30, .own)] [1, 1, 0, 1, 0] [] n ⟨mkSlots 31 [(1, .sc (.string x1)), (5, .ref 0 []), (11, .ref 1 []), (12, .sc (.int .i64 x12)), (13, .sc (.int .i64 x13))], ohOf [.row 30 (PV.list y0), .row 30 y1]⟩
theorem impl_Ranked.f_eq (N : Nat) (a0 : PV) (a1 : PV) : impl_Ranked.f N [a0, a1] = (impl_BookGuesses.f N [(PV.agg [a0.fld 0, a0.fld 1]), (PV.sc (.string a1.toStr))]).bind fun t1 => impl_Ranked.l0 N N a1.toStr (((t1.headD default).items).length : Int) 0 [] (t1.headD default) := by kernel_rfl
theorem impl_Ranked.l0_eq (N : Nat) (n : Nat) (x1 : ByteArray) (x12 : Int) (x13 : Int) (y0 : List PV) (y1 : PV) : impl_Ranked.l0 N (n + 1) x1 x12 x13 y0 y1 = if decide (x13 < x12) = true then (if 0 ≤ x13 then (if x13 < (y1.items.length : Int) then ((impl_WeighFar.f N [(PV.sc (.string (((y1.elem x13.toNat).fld 0).toStr))), (PV.sc (.string x1))]).bind fun t2 => if y0.length + ([(PV.agg [(PV.sc (.string (((y1.elem x13.toNat).fld 0).toStr))), (PV.sc (.int .i64 ((t2.headD default).toInt)))])]).length ≤ 5864062014805 then (impl_Ranked.l0 N n x1 x12 (IntKind.i64.wrap (x13 + 1)) (y0 ++ ([(PV.agg [(PV.sc (.string (((y1.elem x13.toNat).fld 0).toStr))), (PV.sc (.int .i64 ((t2.headD default).toInt)))])])) y1) else none) else none) else none) else ((slices_SortFunc_impl_Guess.f N [(PV.list y0), (PV.sc (.func (.func 62) #[] #[]))]).bind fun t3 => some [(t3.headD default)]) := by kernel_rfl
noncomputable def impl_Ranked.S (N : Nat) : ASpec := ⟨[(26, .ro), (9, .ro)], [(30, .own)], impl_Ranked.f N⟩
theorem impl_Ranked.ok (N : Nat) : FnOk Tryz.prog 26 (impl_Ranked.S N) := fnOk_of (E := impl_Ranked.E N) mix Tryz.func26 (by kernel_rfl) (by kernel_rfl) (by kernel_rfl) (lk_ok (all_cons (impl_BookGuesses.ok N) (all_cons (impl_WeighFar.ok N) (all_cons (slices_SortFunc_impl_Guess.ok N) all_nil)))) (by kernel_rfl) (fun _ _ h => h)

/-! ### spec_l2In: function 41, loop.example/medlar/spec.l2In -/
noncomputable def spec_l2In.E (N : Nat) : Env := ⟨lk [], nzk [(2, ⟨[2, 3, 4, 6, 7, 8, 9, 10, 11, 12, 13, 14, 15, 16, 17], [], []⟩)], N, [], false⟩
noncomputable def spec_l2In.f (N : Nat) (a : List PV) : Option Res := run Tryz.prog (spec_l2In.E N) Tryz.f41 [(27, .ro), (9, .ro)] [(4, .val)] a
noncomputable def spec_l2In.l0 (N : Nat) (n : Nat) (x0 : PV) (x1 : ByteArray) (x5 : Int) : Option Res := loopAt Tryz.prog (spec_l2In.E N) Tryz.f41 [(4, .val)] [1, 0, 1, 0] [] n ⟨mkSlots 18 [(0, .ro 27 x0), (1, .sc (.string x1)), (5, .sc (.int .i64 x5))], ohOf []⟩
theorem spec_l2In.f_eq (N : Nat) (a0 : PV) (a1 : PV) : spec_l2In.f N [a0, a1] = spec_l2In.l0 N N a0 a1.toStr 0 := by kernel_rfl
theorem spec_l2In.l0_eq (N : Nat) (n : Nat) (x0 : PV) (x1 : ByteArray) (x5 : Int) : spec_l2In.l0 N (n + 1) x0 x1 x5 = if decide (x5 < (x0.items.length : Int)) = true then (if 0 ≤ x5 then (if x5 < (x0.items.length : Int) then (if decide (((x0.elem x5.toNat).toStr).toList = x1.toList) = true then (some [(PV.sc (.bool true))]) else (spec_l2In.l0 N n x0 x1 (IntKind.i64.wrap (x5 + 1)))) else none) else none) else (some [(PV.sc (.bool false))]) := by kernel_rfl
noncomputable def spec_l2In.S (N : Nat) : ASpec := ⟨[(27, .ro), (9, .ro)], [(4, .val)], spec_l2In.f N⟩
theorem spec_l2In.ok (N : Nat) : FnOk Tryz.prog 41 (spec_l2In.S N) := fnOk_of (E := spec_l2In.E N) mix Tryz.func41 (by kernel_rfl) (by kernel_rfl) (by kernel_rfl) (lk_ok all_nil) (by kernel_rfl) (fun _ _ h => h)

end Go.Proofs.YtoiigoflkhmjnaaGreatDoor.FnRanked
