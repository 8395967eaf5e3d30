/- What each function that the law FnFront reaches computes, as trees, part 1: no conditions. -/
import Derived.Test.YtpnbhcifhbnaaaaGreatDoorLib1456789
import Derived.Test.YtpnbhcifhbnaaaaGreatDoorProg
import Derived.BigCall
import Derived.Deep.RegionHeld3
import Derived.Shelf.Strings.BuilderF
import Derived.WalkKit
set_option maxRecDepth 100000
set_option linter.unusedVariables false
namespace Go.Proofs.YtpnbhcifhbnaaaaGreatDoor.FnFront
open Go Go.Proofs.YtpnbhcifhbnaaaaGreatDoorAm
theorem mix : Tryz.prog.follows .mixedOrders = true := by kernel_rfl
noncomputable instance glb : Glb Tryz.prog := glbOf Tryz.prog [] [(0, ifaceObj), (1, ifaceObj), (2, tabObj .u64 Lib.pow10Tab), (5, someI64)]

/-! ### spec_l1Open: function 12, loop.example/medlar/spec.l1Open -/
noncomputable def spec_l1Open.E (N : Nat) : Env := ⟨lk [], nzk [], N, [], false⟩
noncomputable def spec_l1Open.f (N : Nat) (a : List PV) : Option Res := run Tryz.prog (spec_l1Open.E N) Tryz.f12 [(22, .ro)] [(32, .box)] a
theorem spec_l1Open.f_eq (N : Nat) (a0 : PV) : spec_l1Open.f N [a0] = if decide (2000 < (a0.items.length : Int)) = true then (if 0 ≤ 2000 then (if 2000 ≤ (a0.items.length : Int) then (some [(PV.agg [(PV.list ((a0.items.drop 0).take (2000 - 0))), (PV.sc (.int .i64 0))])]) else none) else none) else (some [(PV.agg [a0, (PV.sc (.int .i64 0))])]) := by kernel_rfl
noncomputable def spec_l1Open.S (N : Nat) : ASpec := ⟨[(22, .ro)], [(32, .box)], spec_l1Open.f N⟩
theorem spec_l1Open.ok (N : Nat) : FnOk Tryz.prog 12 (spec_l1Open.S N) := fnOk_of (E := spec_l1Open.E N) mix Tryz.func12 (by kernel_rfl) (by kernel_rfl) (by kernel_rfl) (lk_ok all_nil) (by kernel_rfl) (fun _ _ h => h)

/-! ### spec_l1Rd_pick: function 29, (*loop.example/medlar/spec.l1Rd).pick -/
noncomputable def spec_l1Rd_pick.E (N : Nat) : Env := ⟨lk [], nzk [], N, [(true, 55)], false⟩
noncomputable def spec_l1Rd_pick.f (N : Nat) (a : List PV) : Option Res := run Tryz.prog (spec_l1Rd_pick.E N) Tryz.f29 [(32, .box), (3, .ro)] [(3, .val)] a
theorem spec_l1Rd_pick.f_eq (N : Nat) (a0 : PV) (a1 : PV) : spec_l1Rd_pick.f N [a0, a1] = if decide (a1.toInt < 1) = false then (if decide ((((a0.fld 0).items).length : Int) = 0) = true then (some [(PV.sc (.int .i64 0)), (PV.agg [a0.fld 0, (PV.sc (.int .i64 (IntKind.i64.wrap (((a0.fld 1).toInt) + 1))))])]) else (if decide ((IntKind.i64.wrap ((IntKind.i64.wrap (((a0.fld 1).toInt) + 1)) - 1)) < (((a0.fld 0).items).length : Int)) = true then (if 0 ≤ (IntKind.i64.wrap ((IntKind.i64.wrap (((a0.fld 1).toInt) + 1)) - 1)) then (if (IntKind.i64.wrap ((IntKind.i64.wrap (((a0.fld 1).toInt) + 1)) - 1)) < (((a0.fld 0).items).length : Int) then (if a1.toInt = 0 then none else (some [(PV.sc (.int .i64 (Int.tmod (IntKind.i64.wrap (((a0.fld 0).elem ((IntKind.i64.wrap ((IntKind.i64.wrap (((a0.fld 1).toInt) + 1)) - 1)).toNat)).toInt)) a1.toInt))), (PV.agg [a0.fld 0, (PV.sc (.int .i64 (IntKind.i64.wrap (((a0.fld 1).toInt) + 1))))])])) else none) else none) else (if (((a0.fld 0).items).length : Int) = 0 then none else (if 0 ≤ (Int.tmod (IntKind.i64.wrap ((IntKind.i64.wrap (((a0.fld 1).toInt) + 1)) - 1)) (((a0.fld 0).items).length : Int)) then (if (Int.tmod (IntKind.i64.wrap ((IntKind.i64.wrap (((a0.fld 1).toInt) + 1)) - 1)) (((a0.fld 0).items).length : Int)) < (((a0.fld 0).items).length : Int) then (if (((a0.fld 0).items).length : Int) = 0 then none else (if 0 ≤ (Int.tmod (IntKind.i64.wrap ((IntKind.i64.wrap ((IntKind.i64.wrap ((IntKind.i64.wrap (((a0.fld 1).toInt) + 1)) - 1)) * 7)) + 3)) (((a0.fld 0).items).length : Int)) then (if (Int.tmod (IntKind.i64.wrap ((IntKind.i64.wrap ((IntKind.i64.wrap ((IntKind.i64.wrap (((a0.fld 1).toInt) + 1)) - 1)) * 7)) + 3)) (((a0.fld 0).items).length : Int)) < (((a0.fld 0).items).length : Int) then (if (((a0.fld 0).items).length : Int) = 0 then none else (if 64 = 0 then none else (if a1.toInt = 0 then none else (some [(PV.sc (.int .i64 (Int.tmod (bXor .i64 (IntKind.i64.wrap ((IntKind.i64.wrap ((IntKind.i64.wrap ((IntKind.i64.wrap ((IntKind.i64.wrap (((a0.fld 0).elem ((Int.tmod (IntKind.i64.wrap ((IntKind.i64.wrap (((a0.fld 1).toInt) + 1)) - 1)) (((a0.fld 0).items).length : Int)).toNat)).toInt)) * 131)) + (IntKind.i64.wrap ((IntKind.i64.wrap (((a0.fld 0).elem ((Int.tmod (IntKind.i64.wrap ((IntKind.i64.wrap ((IntKind.i64.wrap ((IntKind.i64.wrap (((a0.fld 1).toInt) + 1)) - 1)) * 7)) + 3)) (((a0.fld 0).items).length : Int)).toNat)).toInt)) * 1117)))) + (IntKind.i64.wrap ((IntKind.i64.wrap ((IntKind.i64.wrap (((a0.fld 1).toInt) + 1)) - 1)) * 29)))) + (IntKind.i64.wrap ((IntKind.i64.wrap (Int.tdiv (IntKind.i64.wrap ((IntKind.i64.wrap (((a0.fld 1).toInt) + 1)) - 1)) (((a0.fld 0).items).length : Int))) * 53)))) (IntKind.i64.wrap (Int.tdiv (IntKind.i64.wrap ((IntKind.i64.wrap ((IntKind.i64.wrap ((IntKind.i64.wrap ((IntKind.i64.wrap (((a0.fld 0).elem ((Int.tmod (IntKind.i64.wrap ((IntKind.i64.wrap (((a0.fld 1).toInt) + 1)) - 1)) (((a0.fld 0).items).length : Int)).toNat)).toInt)) * 131)) + (IntKind.i64.wrap ((IntKind.i64.wrap (((a0.fld 0).elem ((Int.tmod (IntKind.i64.wrap ((IntKind.i64.wrap ((IntKind.i64.wrap ((IntKind.i64.wrap (((a0.fld 1).toInt) + 1)) - 1)) * 7)) + 3)) (((a0.fld 0).items).length : Int)).toNat)).toInt)) * 1117)))) + (IntKind.i64.wrap ((IntKind.i64.wrap ((IntKind.i64.wrap (((a0.fld 1).toInt) + 1)) - 1)) * 29)))) + (IntKind.i64.wrap ((IntKind.i64.wrap (Int.tdiv (IntKind.i64.wrap ((IntKind.i64.wrap (((a0.fld 1).toInt) + 1)) - 1)) (((a0.fld 0).items).length : Int))) * 53)))) 64))) a1.toInt))), (PV.agg [a0.fld 0, (PV.sc (.int .i64 (IntKind.i64.wrap (((a0.fld 1).toInt) + 1))))])])))) else none) else none)) else none) else none)))) else (some [(PV.sc (.int .i64 0)), (PV.agg [a0.fld 0, (PV.sc (.int .i64 (IntKind.i64.wrap (((a0.fld 1).toInt) + 1))))])]) := by kernel_rfl
noncomputable def spec_l1Rd_pick.S (N : Nat) : ASpec := ⟨[(32, .box), (3, .ro)], [(3, .val)], spec_l1Rd_pick.f N⟩
theorem spec_l1Rd_pick.ok (N : Nat) : FnOk Tryz.prog 29 (spec_l1Rd_pick.S N) := fnOk_of (E := spec_l1Rd_pick.E N) mix Tryz.func29 (by kernel_rfl) (by kernel_rfl) (by kernel_rfl) (lk_ok all_nil) (by kernel_rfl) (fun _ _ h => h)

/-! ### spec_l1Rd_of: function 42, (*loop.example/medlar/spec.l1Rd).of -/
noncomputable def spec_l1Rd_of.E (N : Nat) : Env := ⟨lk [(29, spec_l1Rd_pick.S N)], nzk [], N, [(true, 55)], false⟩
noncomputable def spec_l1Rd_of.f (N : Nat) (a : List PV) : Option Res := run Tryz.prog (spec_l1Rd_of.E N) Tryz.f42 [(32, .box), (23, .ro)] [(9, .val)] a
theorem spec_l1Rd_of.f_eq (N : Nat) (a0 : PV) (a1 : PV) : spec_l1Rd_of.f N [a0, a1] = (spec_l1Rd_pick.f N [(PV.agg [a0.fld 0, (PV.sc (.int .i64 ((a0.fld 1).toInt)))]), (PV.sc (.int .i64 (a1.items.length : Int)))]).bind fun t1 => if 0 ≤ ((t1.headD default).toInt) then (if ((t1.headD default).toInt) < (a1.items.length : Int) then (some [(PV.sc (.string ((a1.elem (((t1.headD default).toInt).toNat)).toStr))), (PV.agg [a0.fld 0, (PV.sc (.int .i64 (((t1.tail.headD default).fld 1).toInt)))])]) else none) else none := by kernel_rfl
noncomputable def spec_l1Rd_of.S (N : Nat) : ASpec := ⟨[(32, .box), (23, .ro)], [(9, .val)], spec_l1Rd_of.f N⟩
theorem spec_l1Rd_of.ok (N : Nat) : FnOk Tryz.prog 42 (spec_l1Rd_of.S N) := fnOk_of (E := spec_l1Rd_of.E N) mix Tryz.func42 (by kernel_rfl) (by kernel_rfl) (by kernel_rfl) (lk_ok (all_cons (spec_l1Rd_pick.ok N) all_nil)) (by kernel_rfl) (fun _ _ h => h)

/-! ### spec_l1Least: function 62, loop.example/medlar/spec.l1Least -/
noncomputable def spec_l1Least.E (N : Nat) : Env := ⟨lk [], nzk [], N, [], false⟩
noncomputable def spec_l1Least.f (N : Nat) (a : List PV) : Option Res := run Tryz.prog (spec_l1Least.E N) Tryz.f62 [(3, .ro), (3, .ro)] [(3, .val)] a
theorem spec_l1Least.f_eq (N : Nat) (a0 : PV) (a1 : PV) : spec_l1Least.f N [a0, a1] = if decide (a0.toInt < a1.toInt) = true then (some [(PV.sc (.int .i64 a0.toInt))]) else (some [(PV.sc (.int .i64 a1.toInt))]) := by kernel_rfl
noncomputable def spec_l1Least.S (N : Nat) : ASpec := ⟨[(3, .ro), (3, .ro)], [(3, .val)], spec_l1Least.f N⟩
theorem spec_l1Least.ok (N : Nat) : FnOk Tryz.prog 62 (spec_l1Least.S N) := fnOk_of (E := spec_l1Least.E N) mix Tryz.func62 (by kernel_rfl) (by kernel_rfl) (by kernel_rfl) (lk_ok all_nil) (by kernel_rfl) (fun _ _ h => h)

/-! ### spec_l13Word: function 44, loop.example/medlar/spec.l13Word -/
noncomputable def spec_l13Word.E (N : Nat) : Env := ⟨lk [(29, spec_l1Rd_pick.S N), (42, spec_l1Rd_of.S N), (62, spec_l1Least.S N)], nzk [(4, ⟨[1, 2, 5, 6, 7, 8, 9, 10, 11, 12, 13, 14, 15, 16, 17, 18, 19, 20, 21, 22, 23, 24, 25, 26, 27], [], []⟩)], N, [(true, 55)], false⟩
noncomputable def spec_l13Word.f (N : Nat) (a : List PV) : Option Res := run Tryz.prog (spec_l13Word.E N) Tryz.f44 [(32, .box)] [(9, .val)] a
noncomputable def spec_l13Word.l0 (N : Nat) (n : Nat) (x3 : ByteArray) (x4 : Int) (y0_0 : PV) (y0_1 : Int) : Option Res := loopAt Tryz.prog (spec_l13Word.E N) Tryz.f44 [(9, .val)] [1, 0, 1, 0, 1, 0, 1, 0] [] n ⟨mkSlots 28 [(0, .ptr 0 []), (3, .sc (.string x3)), (4, .sc (.int .i64 x4))], ohOf [.box 55 (.agg 55 [.con 0 22 y0_0, .sc (.int .i64 y0_1)])]⟩
theorem spec_l13Word.f_eq (N : Nat) (a0 : PV) : spec_l13Word.f N [a0] = (spec_l1Rd_pick.f N [(PV.agg [a0.fld 0, (PV.sc (.int .i64 ((a0.fld 1).toInt)))]), (PV.sc (.int .i64 3))]).bind fun t1 => if decide (((t1.headD default).toInt) = 0) = true then ((spec_l1Rd_pick.f N [(PV.agg [a0.fld 0, (PV.sc (.int .i64 (((t1.tail.headD default).fld 1).toInt)))]), (PV.sc (.int .i64 5))]).bind fun t2 => spec_l13Word.l0 N N (ByteArray.mk #[]) (IntKind.i64.wrap (1 + ((t2.headD default).toInt))) (a0.fld 0) (((t2.tail.headD default).fld 1).toInt)) else ((spec_l1Rd_of.f N [(PV.agg [a0.fld 0, (PV.sc (.int .i64 (((t1.tail.headD default).fld 1).toInt)))]), (PV.list ([(PV.sc (.string (ByteArray.mk #[99, 97, 116]))), (PV.sc (.string (ByteArray.mk #[99, 97, 116, 115]))), (PV.sc (.string (ByteArray.mk #[97, 99, 116]))), (PV.sc (.string (ByteArray.mk #[100, 111]))), (PV.sc (.string (ByteArray.mk #[100, 111, 105, 110, 103]))), (PV.sc (.string (ByteArray.mk #[103, 111]))), (PV.sc (.string (ByteArray.mk #[117, 110, 100, 111]))), (PV.sc (.string (ByteArray.mk #[116, 114, 121]))), (PV.sc (.string (ByteArray.mk #[116, 114, 105, 101, 115]))), (PV.sc (.string (ByteArray.mk #[97]))), (PV.sc (.string (ByteArray.mk #[98, 97, 107, 101]))), (PV.sc (.string (ByteArray.mk #[98, 97, 107, 105, 110, 103]))), (PV.sc (.string (ByteArray.mk #[116, 97, 99, 116]))), (PV.sc (.string (ByteArray.mk #[99, 97, 114, 116]))), (PV.sc (.string (ByteArray.mk #[97, 98, 99, 97, 98, 99, 97, 98, 99, 97, 98, 99])))]))]).bind fun t3 => some [(PV.sc (.string ((t3.headD default).toStr))), (PV.agg [a0.fld 0, (PV.sc (.int .i64 (((t3.tail.headD default).fld 1).toInt)))])]) := by kernel_rfl
theorem spec_l13Word.l0_eq (N : Nat) (n : Nat) (x3 : ByteArray) (x4 : Int) (y0_0 : PV) (y0_1 : Int) : spec_l13Word.l0 N (n + 1) x3 x4 y0_0 y0_1 = if decide (0 < x4) = true then ((spec_l1Rd_of.f N [(PV.agg [y0_0, (PV.sc (.int .i64 y0_1))]), (PV.list ([(PV.sc (.string (ByteArray.mk #[97]))), (PV.sc (.string (ByteArray.mk #[98]))), (PV.sc (.string (ByteArray.mk #[99]))), (PV.sc (.string (ByteArray.mk #[97, 98]))), (PV.sc (.string (ByteArray.mk #[116])))]))]).bind fun t4 => if x3.size + ((t4.headD default).toStr).size ≤ 9223372036854775807 then (spec_l13Word.l0 N n (x3 ++ ((t4.headD default).toStr)) (IntKind.i64.wrap (x4 - 1)) y0_0 (((t4.tail.headD default).fld 1).toInt)) else none) else ((spec_l1Least.f N [(PV.sc (.int .i64 (x3.size : Int))), (PV.sc (.int .i64 12))]).bind fun t5 => if 0 ≤ ((t5.headD default).toInt) then (if ((t5.headD default).toInt) ≤ (x3.size : Int) then (some [(PV.sc (.string (x3.extract 0 (((t5.headD default).toInt).toNat)))), (PV.agg [y0_0, (PV.sc (.int .i64 y0_1))])]) else none) else none) := by kernel_rfl
noncomputable def spec_l13Word.S (N : Nat) : ASpec := ⟨[(32, .box)], [(9, .val)], spec_l13Word.f N⟩
theorem spec_l13Word.ok (N : Nat) : FnOk Tryz.prog 44 (spec_l13Word.S N) := fnOk_of (E := spec_l13Word.E N) mix Tryz.func44 (by kernel_rfl) (by kernel_rfl) (by kernel_rfl) (lk_ok (all_cons (spec_l1Rd_pick.ok N) (all_cons (spec_l1Rd_of.ok N) (all_cons (spec_l1Least.ok N) all_nil)))) (by kernel_rfl) (fun _ _ h => h)

-- MODES: 43 loop.example/medlar/spec.l1Put own.ro
/-! ### spec_l1Put: function 43, loop.example/medlar/spec.l1Put -/
noncomputable def spec_l1Put.E (N : Nat) : Env := ⟨lk [], nzk [(2, ⟨[2, 3, 4, 6, 7, 8, 9, 10, 11, 12, 13, 14, 15, 16, 17, 18, 19, 20, 21, 22, 23, 24, 25, 26, 27, 28, 29, 30, 31, 32, 33, 34, 35, 36, 37, 38, 39, 40, 41, 42, 43, 44], [], []⟩)], N, [], false⟩
noncomputable def spec_l1Put.f (N : Nat) (a : List PV) : Option Res := run Tryz.prog (spec_l1Put.E N) Tryz.f43 [(23, .own), (9, .ro)] [(23, .own)] a
noncomputable def spec_l1Put.l0 (N : Nat) (n : Nat) (x1 : ByteArray) (x5 : Int) (y0 : PV) : Option Res := loopAt Tryz.prog (spec_l1Put.E N) Tryz.f43 [(23, .own)] [1, 1, 0, 0] [] n ⟨mkSlots 45 [(0, .ref 0 []), (1, .sc (.string x1)), (5, .sc (.int .i64 x5))], ohOf [.row 23 y0]⟩
theorem spec_l1Put.f_eq (N : Nat) (a0 : PV) (a1 : PV) : spec_l1Put.f N [a0, a1] = spec_l1Put.l0 N N a1.toStr 0 a0 := by kernel_rfl
theorem spec_l1Put.l0_eq (N : Nat) (n : Nat) (x1 : ByteArray) (x5 : Int) (y0 : PV) : spec_l1Put.l0 N (n + 1) x1 x5 y0 = if decide (x5 < (y0.items.length : Int)) = true then (if 0 ≤ x5 then (if x5 < (y0.items.length : Int) then (if Op.bytesLess ((y0.elem x5.toNat).toStr).toList x1.toList = true then (spec_l1Put.l0 N n x1 (IntKind.i64.wrap (x5 + 1)) y0) else (if decide (x5 < (y0.items.length : Int)) = true then (if 0 ≤ x5 then (if x5 < (y0.items.length : Int) then (if decide (((y0.elem x5.toNat).toStr).toList = x1.toList) = true then (some [y0]) else (if 0 ≤ x5 then (if x5 ≤ (y0.items.length : Int) then (if ([] : List PV).length + ((y0.items.drop 0).take (x5.toNat - 0)).length ≤ 8796093022208 then (if (([] : List PV) ++ ((y0.items.drop 0).take (x5.toNat - 0))).length + [(PV.sc (.string x1))].length ≤ 8796093022208 then (if 0 ≤ x5 then (if x5 ≤ (y0.items.length : Int) then (if ((([] : List PV) ++ ((y0.items.drop 0).take (x5.toNat - 0))) ++ [(PV.sc (.string x1))]).length + ((y0.items.drop x5.toNat).take (y0.items.length - x5.toNat)).length ≤ 8796093022208 then (some [(PV.list (((([] : List PV) ++ ((y0.items.drop 0).take (x5.toNat - 0))) ++ [(PV.sc (.string x1))]) ++ ((y0.items.drop x5.toNat).take (y0.items.length - x5.toNat))))]) else none) else none) else none) else none) else none) else none) else none)) else none) else none) else (if 0 ≤ x5 then (if x5 ≤ (y0.items.length : Int) then (if ([] : List PV).length + ((y0.items.drop 0).take (x5.toNat - 0)).length ≤ 8796093022208 then (if (([] : List PV) ++ ((y0.items.drop 0).take (x5.toNat - 0))).length + [(PV.sc (.string x1))].length ≤ 8796093022208 then (if 0 ≤ x5 then (if x5 ≤ (y0.items.length : Int) then (if ((([] : List PV) ++ ((y0.items.drop 0).take (x5.toNat - 0))) ++ [(PV.sc (.string x1))]).length + ((y0.items.drop x5.toNat).take (y0.items.length - x5.toNat)).length ≤ 8796093022208 then (some [(PV.list (((([] : List PV) ++ ((y0.items.drop 0).take (x5.toNat - 0))) ++ [(PV.sc (.string x1))]) ++ ((y0.items.drop x5.toNat).take (y0.items.length - x5.toNat))))]) else none) else none) else none) else none) else none) else none) else none))) else none) else none) else (if decide (x5 < (y0.items.length : Int)) = true then (if 0 ≤ x5 then (if x5 < (y0.items.length : Int) then (if decide (((y0.elem x5.toNat).toStr).toList = x1.toList) = true then (some [y0]) else (if 0 ≤ x5 then (if x5 ≤ (y0.items.length : Int) then (if ([] : List PV).length + ((y0.items.drop 0).take (x5.toNat - 0)).length ≤ 8796093022208 then (if (([] : List PV) ++ ((y0.items.drop 0).take (x5.toNat - 0))).length + [(PV.sc (.string x1))].length ≤ 8796093022208 then (if 0 ≤ x5 then (if x5 ≤ (y0.items.length : Int) then (if ((([] : List PV) ++ ((y0.items.drop 0).take (x5.toNat - 0))) ++ [(PV.sc (.string x1))]).length + ((y0.items.drop x5.toNat).take (y0.items.length - x5.toNat)).length ≤ 8796093022208 then (some [(PV.list (((([] : List PV) ++ ((y0.items.drop 0).take (x5.toNat - 0))) ++ [(PV.sc (.string x1))]) ++ ((y0.items.drop x5.toNat).take (y0.items.length - x5.toNat))))]) else none) else none) else none) else none) else none) else none) else none)) else none) else none) else (if 0 ≤ x5 then (if x5 ≤ (y0.items.length : Int) then (if ([] : List PV).length + ((y0.items.drop 0).take (x5.toNat - 0)).length ≤ 8796093022208 then (if (([] : List PV) ++ ((y0.items.drop 0).take (x5.toNat - 0))).length + [(PV.sc (.string x1))].length ≤ 8796093022208 then (if 0 ≤ x5 then (if x5 ≤ (y0.items.length : Int) then (if ((([] : List PV) ++ ((y0.items.drop 0).take (x5.toNat - 0))) ++ [(PV.sc (.string x1))]).length + ((y0.items.drop x5.toNat).take (y0.items.length - x5.toNat)).length ≤ 8796093022208 then (some [(PV.list (((([] : List PV) ++ ((y0.items.drop 0).take (x5.toNat - 0))) ++ [(PV.sc (.string x1))]) ++ ((y0.items.drop x5.toNat).take (y0.items.length - x5.toNat))))]) else none) else none) else none) else none) else none) else none) else none)) := by kernel_rfl
noncomputable def spec_l1Put.S (N : Nat) : ASpec := ⟨[(23, .own), (9, .ro)], [(23, .own)], spec_l1Put.f N⟩
theorem spec_l1Put.ok (N : Nat) : FnOk Tryz.prog 43 (spec_l1Put.S N) := fnOk_of (E := spec_l1Put.E N) mix Tryz.func43 (by kernel_rfl) (by kernel_rfl) (by kernel_rfl) (lk_ok all_nil) (by kernel_rfl) (fun _ _ h => h)

/-! ### spec_l13Affix: function 79, loop.example/medlar/spec.l13Affix -/
noncomputable def spec_l13Affix.E (N : Nat) : Env := ⟨lk [(29, spec_l1Rd_pick.S N)], nzk [], N, [(true, 55)], false⟩
noncomputable def spec_l13Affix.f (N : Nat) (a : List PV) : Option Res := run Tryz.prog (spec_l13Affix.E N) Tryz.f79 [(32, .box)] [(114, .val)] a
theorem spec_l13Affix.f_eq (N : Nat) (a0 : PV) : spec_l13Affix.f N [a0] = (spec_l1Rd_pick.f N [(PV.agg [a0.fld 0, (PV.sc (.int .i64 ((a0.fld 1).toInt)))]), (PV.sc (.int .i64 (([(PV.agg [(PV.sc (.string (ByteArray.mk #[83]))), (PV.sc (.bool false)), (PV.sc (.string (ByteArray.mk #[]))), (PV.sc (.string (ByteArray.mk #[115]))), (PV.sc (.string (ByteArray.mk #[])))]), (PV.agg [(PV.sc (.string (ByteArray.mk #[83]))), (PV.sc (.bool false)), (PV.sc (.string (ByteArray.mk #[121]))), (PV.sc (.string (ByteArray.mk #[105, 101, 115]))), (PV.sc (.string (ByteArray.mk #[121])))]), (PV.agg [(PV.sc (.string (ByteArray.mk #[71]))), (PV.sc (.bool false)), (PV.sc (.string (ByteArray.mk #[]))), (PV.sc (.string (ByteArray.mk #[105, 110, 103]))), (PV.sc (.string (ByteArray.mk #[])))]), (PV.agg [(PV.sc (.string (ByteArray.mk #[71]))), (PV.sc (.bool false)), (PV.sc (.string (ByteArray.mk #[101]))), (PV.sc (.string (ByteArray.mk #[105, 110, 103]))), (PV.sc (.string (ByteArray.mk #[101])))]), (PV.agg [(PV.sc (.string (ByteArray.mk #[85]))), (PV.sc (.bool true)), (PV.sc (.string (ByteArray.mk #[]))), (PV.sc (.string (ByteArray.mk #[117, 110]))), (PV.sc (.string (ByteArray.mk #[])))]), (PV.agg [(PV.sc (.string (ByteArray.mk #[82]))), (PV.sc (.bool true)), (PV.sc (.string (ByteArray.mk #[97]))), (PV.sc (.string (ByteArray.mk #[98]))), (PV.sc (.string (ByteArray.mk #[97])))]), (PV.agg [(PV.sc (.string (ByteArray.mk #[84]))), (PV.sc (.bool false)), (PV.sc (.string (ByteArray.mk #[]))), (PV.sc (.string (ByteArray.mk #[116]))), (PV.sc (.string (ByteArray.mk #[97, 99])))]), (PV.agg [(PV.sc (.string (ByteArray.mk #[67]))), (PV.sc (.bool false)), (PV.sc (.string (ByteArray.mk #[]))), (PV.sc (.string (ByteArray.mk #[97, 98, 99]))), (PV.sc (.string (ByteArray.mk #[])))])]).length : Int)))]).bind fun t1 => if 0 ≤ ((t1.headD default).toInt) then (if ((t1.headD default).toInt) < (([(PV.agg [(PV.sc (.string (ByteArray.mk #[83]))), (PV.sc (.bool false)), (PV.sc (.string (ByteArray.mk #[]))), (PV.sc (.string (ByteArray.mk #[115]))), (PV.sc (.string (ByteArray.mk #[])))]), (PV.agg [(PV.sc (.string (ByteArray.mk #[83]))), (PV.sc (.bool false)), (PV.sc (.string (ByteArray.mk #[121]))), (PV.sc (.string (ByteArray.mk #[105, 101, 115]))), (PV.sc (.string (ByteArray.mk #[121])))]), (PV.agg [(PV.sc (.string (ByteArray.mk #[71]))), (PV.sc (.bool false)), (PV.sc (.string (ByteArray.mk #[]))), (PV.sc (.string (ByteArray.mk #[105, 110, 103]))), (PV.sc (.string (ByteArray.mk #[])))]), (PV.agg [(PV.sc (.string (ByteArray.mk #[71]))), (PV.sc (.bool false)), (PV.sc (.string (ByteArray.mk #[101]))), (PV.sc (.string (ByteArray.mk #[105, 110, 103]))), (PV.sc (.string (ByteArray.mk #[101])))]), (PV.agg [(PV.sc (.string (ByteArray.mk #[85]))), (PV.sc (.bool true)), (PV.sc (.string (ByteArray.mk #[]))), (PV.sc (.string (ByteArray.mk #[117, 110]))), (PV.sc (.string (ByteArray.mk #[])))]), (PV.agg [(PV.sc (.string (ByteArray.mk #[82]))), (PV.sc (.bool true)), (PV.sc (.string (ByteArray.mk #[97]))), (PV.sc (.string (ByteArray.mk #[98]))), (PV.sc (.string (ByteArray.mk #[97])))]), (PV.agg [(PV.sc (.string (ByteArray.mk #[84]))), (PV.sc (.bool false)), (PV.sc (.string (ByteArray.mk #[]))), (PV.sc (.string (ByteArray.mk #[116]))), (PV.sc (.string (ByteArray.mk #[97, 99])))]), (PV.agg [(PV.sc (.string (ByteArray.mk #[67]))), (PV.sc (.bool false)), (PV.sc (.string (ByteArray.mk #[]))), (PV.sc (.string (ByteArray.mk #[97, 98, 99]))), (PV.sc (.string (ByteArray.mk #[])))])]).length : Int) then (some [(PV.agg [(PV.sc (.string ((((PV.list ([(PV.agg [(PV.sc (.string (ByteArray.mk #[83]))), (PV.sc (.bool false)), (PV.sc (.string (ByteArray.mk #[]))), (PV.sc (.string (ByteArray.mk #[115]))), (PV.sc (.string (ByteArray.mk #[])))]), (PV.agg [(PV.sc (.string (ByteArray.mk #[83]))), (PV.sc (.bool false)), (PV.sc (.string (ByteArray.mk #[121]))), (PV.sc (.string (ByteArray.mk #[105, 101, 115]))), (PV.sc (.string (ByteArray.mk #[121])))]), (PV.agg [(PV.sc (.string (ByteArray.mk #[71]))), (PV.sc (.bool false)), (PV.sc (.string (ByteArray.mk #[]))), (PV.sc (.string (ByteArray.mk #[105, 110, 103]))), (PV.sc (.string (ByteArray.mk #[])))]), (PV.agg [(PV.sc (.string (ByteArray.mk #[71]))), (PV.sc (.bool false)), (PV.sc (.string (ByteArray.mk #[101]))), (PV.sc (.string (ByteArray.mk #[105, 110, 103]))), (PV.sc (.string (ByteArray.mk #[101])))]), (PV.agg [(PV.sc (.string (ByteArray.mk #[85]))), (PV.sc (.bool true)), (PV.sc (.string (ByteArray.mk #[]))), (PV.sc (.string (ByteArray.mk #[117, 110]))), (PV.sc (.string (ByteArray.mk #[])))]), (PV.agg [(PV.sc (.string (ByteArray.mk #[82]))), (PV.sc (.bool true)), (PV.sc (.string (ByteArray.mk #[97]))), (PV.sc (.string (ByteArray.mk #[98]))), (PV.sc (.string (ByteArray.mk #[97])))]), (PV.agg [(PV.sc (.string (ByteArray.mk #[84]))), (PV.sc (.bool false)), (PV.sc (.string (ByteArray.mk #[]))), (PV.sc (.string (ByteArray.mk #[116]))), (PV.sc (.string (ByteArray.mk #[97, 99])))]), (PV.agg [(PV.sc (.string (ByteArray.mk #[67]))), (PV.sc (.bool false)), (PV.sc (.string (ByteArray.mk #[]))), (PV.sc (.string (ByteArray.mk #[97, 98, 99]))), (PV.sc (.string (ByteArray.mk #[])))])])).elem (((t1.headD default).toInt).toNat)).fld 0).toStr))), (PV.sc (.bool ((((PV.list ([(PV.agg [(PV.sc (.string (ByteArray.mk #[83]))), (PV.sc (.bool false)), (PV.sc (.string (ByteArray.mk #[]))), (PV.sc (.string (ByteArray.mk #[115]))), (PV.sc (.string (ByteArray.mk #[])))]), (PV.agg [(PV.sc (.string (ByteArray.mk #[83]))), (PV.sc (.bool false)), (PV.sc (.string (ByteArray.mk #[121]))), (PV.sc (.string (ByteArray.mk #[105, 101, 115]))), (PV.sc (.string (ByteArray.mk #[121])))]), (PV.agg [(PV.sc (.string (ByteArray.mk #[71]))), (PV.sc (.bool false)), (PV.sc (.string (ByteArray.mk #[]))), (PV.sc (.string (ByteArray.mk #[105, 110, 103]))), (PV.sc (.string (ByteArray.mk #[])))]), (PV.agg [(PV.sc (.string (ByteArray.mk #[71]))), (PV.sc (.bool false)), (PV.sc (.string (ByteArray.mk #[101]))), (PV.sc (.string (ByteArray.mk #[105, 110, 103]))), (PV.sc (.string (ByteArray.mk #[101])))]), (PV.agg [(PV.sc (.string (ByteArray.mk #[85]))), (PV.sc (.bool true)), (PV.sc (.string (ByteArray.mk #[]))), (PV.sc (.string (ByteArray.mk #[117, 110]))), (PV.sc (.string (ByteArray.mk #[])))]), (PV.agg [(PV.sc (.string (ByteArray.mk #[82]))), (PV.sc (.bool true)), (PV.sc (.string (ByteArray.mk #[97]))), (PV.sc (.string (ByteArray.mk #[98]))), (PV.sc (.string (ByteArray.mk #[97])))]), (PV.agg [(PV.sc (.string (ByteArray.mk #[84]))), (PV.sc (.bool false)), (PV.sc (.string (ByteArray.mk #[]))), (PV.sc (.string (ByteArray.mk #[116]))), (PV.sc (.string (ByteArray.mk #[97, 99])))]), (PV.agg [(PV.sc (.string (ByteArray.mk #[67]))), (PV.sc (.bool false)), (PV.sc (.string (ByteArray.mk #[]))), (PV.sc (.string (ByteArray.mk #[97, 98, 99]))), (PV.sc (.string (ByteArray.mk #[])))])])).elem (((t1.headD default).toInt).toNat)).fld 1).toBool))), (PV.sc (.string ((((PV.list ([(PV.agg [(PV.sc (.string (ByteArray.mk #[83]))), (PV.sc (.bool false)), (PV.sc (.string (ByteArray.mk #[]))), (PV.sc (.string (ByteArray.mk #[115]))), (PV.sc (.string (ByteArray.mk #[])))]), (PV.agg [(PV.sc (.string (ByteArray.mk #[83]))), (PV.sc (.bool false)), (PV.sc (.string (ByteArray.mk #[121]))), (PV.sc (.string (ByteArray.mk #[105, 101, 115]))), (PV.sc (.string (ByteArray.mk #[121])))]), (PV.agg [(PV.sc (.string (ByteArray.mk #[71]))), (PV.sc (.bool false)), (PV.sc (.string (ByteArray.mk #[]))), (PV.sc (.string (ByteArray.mk #[105, 110, 103]))), (PV.sc (.string (ByteArray.mk #[])))]), (PV.agg [(PV.sc (.string (ByteArray.mk #[71]))), (PV.sc (.bool false)), (PV.sc (.string (ByteArray.mk #[101]))), (PV.sc (.string (ByteArray.mk #[105, 110, 103]))), (PV.sc (.string (ByteArray.mk #[101])))]), (PV.agg [(PV.sc (.string (ByteArray.mk #[85]))), (PV.sc (.bool true)), (PV.sc (.string (ByteArray.mk #[]))), (PV.sc (.string (ByteArray.mk #[117, 110]))), (PV.sc (.string (ByteArray.mk #[])))]), (PV.agg [(PV.sc (.string (ByteArray.mk #[82]))), (PV.sc (.bool true)), (PV.sc (.string (ByteArray.mk #[97]))), (PV.sc (.string (ByteArray.mk #[98]))), (PV.sc (.string (ByteArray.mk #[97])))]), (PV.agg [(PV.sc (.string (ByteArray.mk #[84]))), (PV.sc (.bool false)), (PV.sc (.string (ByteArray.mk #[]))), (PV.sc (.string (ByteArray.mk #[116]))), (PV.sc (.string (ByteArray.mk #[97, 99])))]), (PV.agg [(PV.sc (.string (ByteArray.mk #[67]))), (PV.sc (.bool false)), (PV.sc (.string (ByteArray.mk #[]))), (PV.sc (.string (ByteArray.mk #[97, 98, 99]))), (PV.sc (.string (ByteArray.mk #[])))])])).elem (((t1.headD default).toInt).toNat)).fld 2).toStr))), (PV.sc (.string ((((PV.list ([(PV.agg [(PV.sc (.string (ByteArray.mk #[83]))), (PV.sc (.bool false)), (PV.sc (.string (ByteArray.mk #[]))), (PV.sc (.string (ByteArray.mk #[115]))), (PV.sc (.string (ByteArray.mk #[])))]), (PV.agg [(PV.sc (.string (ByteArray.mk #[83]))), (PV.sc (.bool false)), (PV.sc (.string (ByteArray.mk #[121]))), (PV.sc (.string (ByteArray.mk #[105, 101, 115]))), (PV.sc (.string (ByteArray.mk #[121])))]), (PV.agg [(PV.sc (.string (ByteArray.mk #[71]))), (PV.sc (.bool false)), (PV.sc (.string (ByteArray.mk #[]))), (PV.sc (.string (ByteArray.mk #[105, 110, 103]))), (PV.sc (.string (ByteArray.mk #[])))]), (PV.agg [(PV.sc (.string (ByteArray.mk #[71]))), (PV.sc (.bool false)), (PV.sc (.string (ByteArray.mk #[101]))), (PV.sc (.string (ByteArray.mk #[105, 110, 103]))), (PV.sc (.string (ByteArray.mk #[101])))]), (PV.agg [(PV.sc (.string (ByteArray.mk #[85]))), (PV.sc (.bool true)), (PV.sc (.string (ByteArray.mk #[]))), (PV.sc (.string (ByteArray.mk #[117, 110]))), (PV.sc (.string (ByteArray.mk #[])))]), (PV.agg [(PV.sc (.string (ByteArray.mk #[82]))), (PV.sc (.bool true)), (PV.sc (.string (ByteArray.mk #[97]))), (PV.sc (.string (ByteArray.mk #[98]))), (PV.sc (.string (ByteArray.mk #[97])))]), (PV.agg [(PV.sc (.string (ByteArray.mk #[84]))), (PV.sc (.bool false)), (PV.sc (.string (ByteArray.mk #[]))), (PV.sc (.string (ByteArray.mk #[116]))), (PV.sc (.string (ByteArray.mk #[97, 99])))]), (PV.agg [(PV.sc (.string (ByteArray.mk #[67]))), (PV.sc (.bool false)), (PV.sc (.string (ByteArray.mk #[]))), (PV.sc (.string (ByteArray.mk #[97, 98, 99]))), (PV.sc (.string (ByteArray.mk #[])))])])).elem (((t1.headD default).toInt).toNat)).fld 3).toStr))), (PV.sc (.string ((((PV.list ([(PV.agg [(PV.sc (.string (ByteArray.mk #[83]))), (PV.sc (.bool false)), (PV.sc (.string (ByteArray.mk #[]))), (PV.sc (.string (ByteArray.mk #[115]))), (PV.sc (.string (ByteArray.mk #[])))]), (PV.agg [(PV.sc (.string (ByteArray.mk #[83]))), (PV.sc (.bool false)), (PV.sc (.string (ByteArray.mk #[121]))), (PV.sc (.string (ByteArray.mk #[105, 101, 115]))), (PV.sc (.string (ByteArray.mk #[121])))]), (PV.agg [(PV.sc (.string (ByteArray.mk #[71]))), (PV.sc (.bool false)), (PV.sc (.string (ByteArray.mk #[]))), (PV.sc (.string (ByteArray.mk #[105, 110, 103]))), (PV.sc (.string (ByteArray.mk #[])))]), (PV.agg [(PV.sc (.string (ByteArray.mk #[71]))), (PV.sc (.bool false)), (PV.sc (.string (ByteArray.mk #[101]))), (PV.sc (.string (ByteArray.mk #[105, 110, 103]))), (PV.sc (.string (ByteArray.mk #[101])))]), (PV.agg [(PV.sc (.string (ByteArray.mk #[85]))), (PV.sc (.bool true)), (PV.sc (.string (ByteArray.mk #[]))), (PV.sc (.string (ByteArray.mk #[117, 110]))), (PV.sc (.string (ByteArray.mk #[])))]), (PV.agg [(PV.sc (.string (ByteArray.mk #[82]))), (PV.sc (.bool true)), (PV.sc (.string (ByteArray.mk #[97]))), (PV.sc (.string (ByteArray.mk #[98]))), (PV.sc (.string (ByteArray.mk #[97])))]), (PV.agg [(PV.sc (.string (ByteArray.mk #[84]))), (PV.sc (.bool false)), (PV.sc (.string (ByteArray.mk #[]))), (PV.sc (.string (ByteArray.mk #[116]))), (PV.sc (.string (ByteArray.mk #[97, 99])))]), (PV.agg [(PV.sc (.string (ByteArray.mk #[67]))), (PV.sc (.bool false)), (PV.sc (.string (ByteArray.mk #[]))), (PV.sc (.string (ByteArray.mk #[97, 98, 99]))), (PV.sc (.string (ByteArray.mk #[])))])])).elem (((t1.headD default).toInt).toNat)).fld 4).toStr)))]), (PV.agg [a0.fld 0, (PV.sc (.int .i64 (((t1.tail.headD default).fld 1).toInt)))])]) else none) else none := by kernel_rfl
noncomputable def spec_l13Affix.S (N : Nat) : ASpec := ⟨[(32, .box)], [(114, .val)], spec_l13Affix.f N⟩
theorem spec_l13Affix.ok (N : Nat) : FnOk Tryz.prog 79 (spec_l13Affix.S N) := fnOk_of (E := spec_l13Affix.E N) mix Tryz.func79 (by kernel_rfl) (by kernel_rfl) (by kernel_rfl) (lk_ok (all_cons (spec_l1Rd_pick.ok N) all_nil)) (by kernel_rfl) (fun _ _ h => h)

/-! ### spec_l13Affixes: function 64, loop.example/medlar/spec.l13Affixes -/
noncomputable def spec_l13Affixes.E (N : Nat) : Env := ⟨lk [(29, spec_l1Rd_pick.S N), (79, spec_l13Affix.S N)], nzk [(3, ⟨[1, 2, 5, 6, 7, 8, 9, 10, 11, 12, 13, 14, 15, 16, 17, 18, 19, 20, 21, 22, 23, 24, 25, 26, 27, 28, 29, 30, 31, 32, 33, 34, 35, 36, 37, 38], [(3, 69)], []⟩), (8, ⟨[1, 2, 8, 9, 10, 11, 12, 13, 14, 15, 16, 17, 18, 19, 20, 21, 22, 23, 24, 25, 26, 27, 28, 29, 30, 31, 32, 33, 34, 35, 36, 37, 38], [(3, 69)], []⟩)], N, [(true, 55)], false⟩
noncomputable def spec_l13Affixes.f (N : Nat) (a : List PV) : Option Res := run Tryz.prog (spec_l13Affixes.E N) Tryz.f64 [(32, .box)] [(69, .own)] a
noncomputable def spec_l13Affixes.l0 (N : Nat) (n : Nat) (x4 : Int) (y0_0 : PV) (y0_1 : Int) (y1 : List PV) : Option Res := loopAt Tryz.prog (spec_l13Affixes.E N) Tryz.f64 [(69, .own)] [1, 1, 0, 1, 0] [] n ⟨mkSlots 39 [(0, .ptr 0 []), (3, .ref 1 []), (4, .sc (.int .i64 x4))], ohOf [.box 55 (.agg 55 [.con 0 22 y0_0, .sc (.int .i64 y0_1)]), .row 69 (PV.list y1)]⟩
noncomputable def spec_l13Affixes.l1 (N : Nat) (m0 : Nat) (n : Nat) (x4 : Int) (x6 : Bool) (x7 : Int) (y0_0 : PV) (y0_1 : Int) (y1 : List PV) (y2_0 : ByteArray) (y2_1 : Bool) (y2_2 : ByteArray) (y2_3 : ByteArray) (y2_4 : ByteArray) : Option Res := loopAt Tryz.prog (spec_l13Affixes.E N) Tryz.f64 [(69, .own)] [1, 1, 0, 1, 0, 0, 1, 0, 0, 1, 1, 0, 1, 0] [m0] n ⟨mkSlots 39 [(0, .ptr 0 []), (3, .ref 1 []), (4, .sc (.int .i64 x4)), (5, .ptr 2 []), (6, .sc (.bool x6)), (7, .sc (.int .i64 x7))], ohOf [.box 55 (.agg 55 [.con 0 22 y0_0, .sc (.int .i64 y0_1)]), .row 69 (PV.list y1), .box 114 (.agg 114 [.sc (.string y2_0), .sc (.bool y2_1), .sc (.string y2_2), .sc (.string y2_3), .sc (.string y2_4)])]⟩
theorem spec_l13Affixes.f_eq (N : Nat) (a0 : PV) : spec_l13Affixes.f N [a0] = (spec_l1Rd_pick.f N [(PV.agg [a0.fld 0, (PV.sc (.int .i64 ((a0.fld 1).toInt)))]), (PV.sc (.int .i64 5))]).bind fun t1 => spec_l13Affixes.l0 N N ((t1.headD default).toInt) (a0.fld 0) (((t1.tail.headD default).fld 1).toInt) [] := by kernel_rfl
theorem spec_l13Affixes.l0_eq (N : Nat) (n : Nat) (x4 : Int) (y0_0 : PV) (y0_1 : Int) (y1 : List PV) : spec_l13Affixes.l0 N (n + 1) x4 y0_0 y0_1 y1 = if decide (0 < x4) = true then ((spec_l13Affix.f N [(PV.agg [y0_0, (PV.sc (.int .i64 y0_1))])]).bind fun t2 => spec_l13Affixes.l1 N n N x4 false 0 y0_0 (((t2.tail.headD default).fld 1).toInt) y1 (((t2.headD default).fld 0).toStr) (((t2.headD default).fld 1).toBool) (((t2.headD default).fld 2).toStr) (((t2.headD default).fld 3).toStr) (((t2.headD default).fld 4).toStr)) else (some [(PV.list y1), (PV.agg [y0_0, (PV.sc (.int .i64 y0_1))])]) := by kernel_rfl
theorem spec_l13Affixes.l1_eq (N : Nat) (m0 : Nat) (n : Nat) (x4 : Int) (x6 : Bool) (x7 : Int) (y0_0 : PV) (y0_1 : Int) (y1 : List PV) (y2_0 : ByteArray) (y2_1 : Bool) (y2_2 : ByteArray) (y2_3 : ByteArray) (y2_4 : ByteArray) : spec_l13Affixes.l1 N m0 (n + 1) x4 x6 x7 y0_0 y0_1 y1 y2_0 y2_1 y2_2 y2_3 y2_4 = if decide (x7 < (y1.length : Int)) = true then (if x6 = false then (if 0 ≤ x7 then (if x7 < (y1.length : Int) then (spec_l13Affixes.l1 N m0 n x4 (decide (((((PV.list y1).elem x7.toNat).fld 0).toStr).toList = y2_0.toList) && ((((((PV.list y1).elem x7.toNat).fld 1).toBool) == y2_1) && (decide (((((PV.list y1).elem x7.toNat).fld 2).toStr).toList = y2_2.toList) && (decide (((((PV.list y1).elem x7.toNat).fld 3).toStr).toList = y2_3.toList) && (decide (((((PV.list y1).elem x7.toNat).fld 4).toStr).toList = y2_4.toList) && true))))) (IntKind.i64.wrap (x7 + 1)) y0_0 y0_1 y1 y2_0 y2_1 y2_2 y2_3 y2_4) else none) else none) else (spec_l13Affixes.l1 N m0 n x4 true (IntKind.i64.wrap (x7 + 1)) y0_0 y0_1 y1 y2_0 y2_1 y2_2 y2_3 y2_4)) else (if (!x6) = true then (if y1.length + ([(PV.agg [(PV.sc (.string y2_0)), (PV.sc (.bool y2_1)), (PV.sc (.string y2_2)), (PV.sc (.string y2_3)), (PV.sc (.string y2_4))])]).length ≤ 1954687338268 then (spec_l13Affixes.l0 N m0 (IntKind.i64.wrap (x4 - 1)) y0_0 y0_1 (y1 ++ ([(PV.agg [(PV.sc (.string y2_0)), (PV.sc (.bool y2_1)), (PV.sc (.string y2_2)), (PV.sc (.string y2_3)), (PV.sc (.string y2_4))])]))) else none) else (spec_l13Affixes.l0 N m0 (IntKind.i64.wrap (x4 - 1)) y0_0 y0_1 y1)) := by kernel_rfl
noncomputable def spec_l13Affixes.S (N : Nat) : ASpec := ⟨[(32, .box)], [(69, .own)], spec_l13Affixes.f N⟩
theorem spec_l13Affixes.ok (N : Nat) : FnOk Tryz.prog 64 (spec_l13Affixes.S N) := fnOk_of (E := spec_l13Affixes.E N) mix Tryz.func64 (by kernel_rfl) (by kernel_rfl) (by kernel_rfl) (lk_ok (all_cons (spec_l1Rd_pick.ok N) (all_cons (spec_l13Affix.ok N) all_nil))) (by kernel_rfl) (fun _ _ h => h)

/-! ### spec_l13Entry: function 65, loop.example/medlar/spec.l13Entry -/
noncomputable def spec_l13Entry.E (N : Nat) : Env := ⟨lk [(42, spec_l1Rd_of.S N)], nzk [], N, [(true, 55)], false⟩
noncomputable def spec_l13Entry.f (N : Nat) (a : List PV) : Option Res := run Tryz.prog (spec_l13Entry.E N) Tryz.f65 [(32, .box), (9, .ro)] [(93, .val)] a
theorem spec_l13Entry.f_eq (N : Nat) (a0 : PV) (a1 : PV) : spec_l13Entry.f N [a0, a1] = (spec_l1Rd_of.f N [(PV.agg [a0.fld 0, (PV.sc (.int .i64 ((a0.fld 1).toInt)))]), (PV.list ([(PV.sc (.string (ByteArray.mk #[]))), (PV.sc (.string (ByteArray.mk #[]))), (PV.sc (.string (ByteArray.mk #[83]))), (PV.sc (.string (ByteArray.mk #[71, 83]))), (PV.sc (.string (ByteArray.mk #[85]))), (PV.sc (.string (ByteArray.mk #[71, 85]))), (PV.sc (.string (ByteArray.mk #[82]))), (PV.sc (.string (ByteArray.mk #[84]))), (PV.sc (.string (ByteArray.mk #[67, 82, 83, 85])))]))]).bind fun t1 => some [(PV.agg [(PV.sc (.string a1.toStr)), (PV.sc (.string ((t1.headD default).toStr)))]), (PV.agg [a0.fld 0, (PV.sc (.int .i64 (((t1.tail.headD default).fld 1).toInt)))])] := by kernel_rfl
noncomputable def spec_l13Entry.S (N : Nat) : ASpec := ⟨[(32, .box), (9, .ro)], [(93, .val)], spec_l13Entry.f N⟩
theorem spec_l13Entry.ok (N : Nat) : FnOk Tryz.prog 65 (spec_l13Entry.S N) := fnOk_of (E := spec_l13Entry.E N) mix Tryz.func65 (by kernel_rfl) (by kernel_rfl) (by kernel_rfl) (lk_ok (all_cons (spec_l1Rd_of.ok N) all_nil)) (by kernel_rfl) (fun _ _ h => h)

/-! ### spec_l13Book: function 46, loop.example/medlar/spec.l13Book -/
noncomputable def spec_l13Book.E (N : Nat) : Env := ⟨lk [(64, spec_l13Affixes.S N), (29, spec_l1Rd_pick.S N), (44, spec_l13Word.S N), (43, spec_l1Put.S N), (65, spec_l13Entry.S N)], nzk [(4, ⟨[1, 6, 7, 8, 9, 10, 11, 12, 13, 14, 15, 16, 17, 18, 19, 20, 21, 22, 23, 24, 25, 26, 27, 28, 29, 30, 31, 32, 33, 34, 35, 36, 37, 38, 39, 40, 41, 42, 43, 44, 45, 46, 47, 48, 49, 50, 51, 52, 53, 54, 55], [], []⟩), (9, ⟨[1, 5, 7, 8, 9, 10, 11, 12, 13, 14, 15, 16, 17, 18, 19, 20, 21, 22, 23, 24, 25, 26, 27, 28, 29, 30, 31, 32, 33, 34, 35, 36, 37, 38, 39, 40, 41, 42, 43, 44, 45, 46, 47, 48, 49, 50, 51, 52, 53, 54, 55], [], []⟩), (13, ⟨[1, 5, 6, 8, 9, 10, 11, 12, 13, 14, 15, 16, 17, 18, 19, 20, 21, 22, 23, 24, 25, 26, 27, 28, 29, 30, 31, 32, 33, 34, 35, 36, 37, 38, 39, 40, 41, 42, 43, 44, 45, 46, 47, 48, 49, 50, 51, 52, 53, 54, 55], [], []⟩)], N, [(true, 55)], false⟩
noncomputable def spec_l13Book.f (N : Nat) (a : List PV) : Option Res := run Tryz.prog (spec_l13Book.E N) Tryz.f46 [(32, .box)] [(72, .own)] a
noncomputable def spec_l13Book.l0 (N : Nat) (n : Nat) (x5 : Int) (y0_0 : PV) (y0_1 : Int) (y3 : List PV) (y4 : PV) : Option Res := loopAt Tryz.prog (spec_l13Book.E N) Tryz.f46 [(72, .own)] [1, 1, 1, 0, 1, 0] [] n ⟨mkSlots 56 [(0, .ptr 0 []), (2, .ptr 1 []), (3, .ptr 2 []), (4, .ref 3 []), (5, .sc (.int .i64 x5))], ohOf [.box 55 (.agg 55 [.con 0 22 y0_0, .sc (.int .i64 y0_1)]), .box 72 (.agg 72 [.nil, .nil]), .box 72 (.agg 72 [.ref 4 [], .nil]), .row 23 (PV.list y3), .row 69 y4]⟩
noncomputable def spec_l13Book.l1 (N : Nat) (n : Nat) (x5 : Int) (y0_0 : PV) (y0_1 : Int) (y3 : PV) (y4 : PV) : Option Res := loopAt Tryz.prog (spec_l13Book.E N) Tryz.f46 [(72, .own)] [1, 1, 1, 0, 1, 0] [] n ⟨mkSlots 56 [(0, .ptr 0 []), (2, .ptr 1 []), (3, .ptr 2 []), (4, .ref 3 []), (5, .sc (.int .i64 x5))], ohOf [.box 55 (.agg 55 [.con 0 22 y0_0, .sc (.int .i64 y0_1)]), .box 72 (.agg 72 [.nil, .nil]), .box 72 (.agg 72 [.ref 4 [], .nil]), .row 23 y3, .row 69 y4]⟩
noncomputable def spec_l13Book.l2 (N : Nat) (n : Nat) (x6 : Int) (y0_0 : PV) (y0_1 : Int) (y3 : List PV) (y4 : PV) : Option Res := loopAt Tryz.prog (spec_l13Book.E N) Tryz.f46 [(72, .own)] [1, 1, 1, 1, 0, 1, 0, 1, 0] [] n ⟨mkSlots 56 [(0, .ptr 0 []), (2, .ptr 1 []), (3, .ptr 2 []), (4, .ref 3 []), (6, .sc (.int .i64 x6))], ohOf [.box 55 (.agg 55 [.con 0 22 y0_0, .sc (.int .i64 y0_1)]), .box 72 (.agg 72 [.nil, .nil]), .box 72 (.agg 72 [.ref 4 [], .nil]), .row 23 (PV.list y3), .row 69 y4]⟩
noncomputable def spec_l13Book.l3 (N : Nat) (n : Nat) (x7 : Int) (y0_0 : PV) (y0_1 : Int) (y3 : List PV) (y4 : PV) : Option Res := loopAt Tryz.prog (spec_l13Book.E N) Tryz.f46 [(72, .own)] [1, 1, 1, 1, 1, 0, 1, 0] [] n ⟨mkSlots 56 [(0, .ptr 0 []), (2, .ptr 1 []), (3, .ptr 2 []), (4, .ref 3 []), (7, .sc (.int .i64 x7))], ohOf [.box 55 (.agg 55 [.con 0 22 y0_0, .sc (.int .i64 y0_1)]), .box 72 (.agg 72 [.nil, .nil]), .box 72 (.agg 72 [.ref 4 [], .nil]), .row 23 (PV.list y3), .row 69 y4]⟩
noncomputable def spec_l13Book.l4 (N : Nat) (n : Nat) (x6 : Int) (y0_0 : PV) (y0_1 : Int) (y3 : PV) (y4 : PV) : Option Res := loopAt Tryz.prog (spec_l13Book.E N) Tryz.f46 [(72, .own)] [1, 1, 1, 1, 0, 1, 0, 1, 0] [] n ⟨mkSlots 56 [(0, .ptr 0 []), (2, .ptr 1 []), (3, .ptr 2 []), (4, .ref 3 []), (6, .sc (.int .i64 x6))], ohOf [.box 55 (.agg 55 [.con 0 22 y0_0, .sc (.int .i64 y0_1)]), .box 72 (.agg 72 [.nil, .nil]), .box 72 (.agg 72 [.ref 4 [], .nil]), .row 23 y3, .row 69 y4]⟩
noncomputable def spec_l13Book.l5 (N : Nat) (n : Nat) (x7 : Int) (y0_0 : PV) (y0_1 : Int) (y3 : PV) (y4 : PV) : Option Res := loopAt Tryz.prog (spec_l13Book.E N) Tryz.f46 [(72, .own)] [1, 1, 1, 1, 1, 0, 1, 0] [] n ⟨mkSlots 56 [(0, .ptr 0 []), (2, .ptr 1 []), (3, .ptr 2 []), (4, .ref 3 []), (7, .sc (.int .i64 x7))], ohOf [.box 55 (.agg 55 [.con 0 22 y0_0, .sc (.int .i64 y0_1)]), .box 72 (.agg 72 [.nil, .nil]), .box 72 (.agg 72 [.ref 4 [], .nil]), .row 23 y3, .row 69 y4]⟩
noncomputable def spec_l13Book.l6 (N : Nat) (n : Nat) (x7 : Int) (y0_0 : PV) (y0_1 : Int) (y3 : List PV) (y4 : PV) (y5 : List PV) : Option Res := loopAt Tryz.prog (spec_l13Book.E N) Tryz.f46 [(72, .own)] [1, 1, 1, 1, 1, 0, 1, 0] [] n ⟨mkSlots 56 [(0, .ptr 0 []), (2, .ptr 1 []), (3, .ptr 2 []), (4, .ref 3 []), (7, .sc (.int .i64 x7))], ohOf [.box 55 (.agg 55 [.con 0 22 y0_0, .sc (.int .i64 y0_1)]), .box 72 (.agg 72 [.nil, .nil]), .box 72 (.agg 72 [.ref 4 [], .ref 5 []]), .row 23 (PV.list y3), .row 69 y4, .row 70 (PV.list y5)]⟩
noncomputable def spec_l13Book.l7 (N : Nat) (n : Nat) (x7 : Int) (y0_0 : PV) (y0_1 : Int) (y3 : PV) (y4 : PV) (y5 : List PV) : Option Res := loopAt Tryz.prog (spec_l13Book.E N) Tryz.f46 [(72, .own)] [1, 1, 1, 1, 1, 0, 1, 0] [] n ⟨mkSlots 56 [(0, .ptr 0 []), (2, .ptr 1 []), (3, .ptr 2 []), (4, .ref 3 []), (7, .sc (.int .i64 x7))], ohOf [.box 55 (.agg 55 [.con 0 22 y0_0, .sc (.int .i64 y0_1)]), .box 72 (.agg 72 [.nil, .nil]), .box 72 (.agg 72 [.ref 4 [], .ref 5 []]), .row 23 y3, .row 69 y4, .row 70 (PV.list y5)]⟩
theorem spec_l13Book.f_eq (N : Nat) (a0 : PV) : spec_l13Book.f N [a0] = (spec_l13Affixes.f N [(PV.agg [a0.fld 0, (PV.sc (.int .i64 ((a0.fld 1).toInt)))])]).bind fun t1 => (spec_l1Rd_pick.f N [(PV.agg [a0.fld 0, (PV.sc (.int .i64 (((t1.tail.headD default).fld 1).toInt)))]), (PV.sc (.int .i64 7))]).bind fun t2 => spec_l13Book.l0 N N ((t2.headD default).toInt) (a0.fld 0) (((t2.tail.headD default).fld 1).toInt) [] (t1.headD default) := by kernel_rfl
theorem spec_l13Book.l0_eq (N : Nat) (n : Nat) (x5 : Int) (y0_0 : PV) (y0_1 : Int) (y3 : List PV) (y4 : PV) : spec_l13Book.l0 N (n + 1) x5 y0_0 y0_1 y3 y4 = if decide (0 < x5) = true then ((spec_l13Word.f N [(PV.agg [y0_0, (PV.sc (.int .i64 y0_1))])]).bind fun t3 => (spec_l1Put.f N [(PV.list y3), (PV.sc (.string ((t3.headD default).toStr)))]).bind fun t4 => spec_l13Book.l1 N n (IntKind.i64.wrap (x5 - 1)) y0_0 (((t3.tail.headD default).fld 1).toInt) (t4.headD default) y4) else ((spec_l1Rd_pick.f N [(PV.agg [y0_0, (PV.sc (.int .i64 y0_1))]), (PV.sc (.int .i64 30))]).bind fun t5 => if decide (((t5.headD default).toInt) = 0) = true then (spec_l13Book.l2 N N 0 y0_0 (((t5.tail.headD default).fld 1).toInt) y3 y4) else (spec_l13Book.l3 N N 0 y0_0 (((t5.tail.headD default).fld 1).toInt) y3 y4)) := by kernel_rfl
theorem spec_l13Book.l1_eq (N : Nat) (n : Nat) (x5 : Int) (y0_0 : PV) (y0_1 : Int) (y3 : PV) (y4 : PV) : spec_l13Book.l1 N (n + 1) x5 y0_0 y0_1 y3 y4 = if decide (0 < x5) = true then ((spec_l13Word.f N [(PV.agg [y0_0, (PV.sc (.int .i64 y0_1))])]).bind fun t6 => (spec_l1Put.f N [y3, (PV.sc (.string ((t6.headD default).toStr)))]).bind fun t7 => spec_l13Book.l1 N n (IntKind.i64.wrap (x5 - 1)) y0_0 (((t6.tail.headD default).fld 1).toInt) (t7.headD default) y4) else ((spec_l1Rd_pick.f N [(PV.agg [y0_0, (PV.sc (.int .i64 y0_1))]), (PV.sc (.int .i64 30))]).bind fun t8 => if decide (((t8.headD default).toInt) = 0) = true then (spec_l13Book.l4 N N 0 y0_0 (((t8.tail.headD default).fld 1).toInt) y3 y4) else (spec_l13Book.l5 N N 0 y0_0 (((t8.tail.headD default).fld 1).toInt) y3 y4)) := by kernel_rfl
theorem spec_l13Book.l2_eq (N : Nat) (n : Nat) (x6 : Int) (y0_0 : PV) (y0_1 : Int) (y3 : List PV) (y4 : PV) : spec_l13Book.l2 N (n + 1) x6 y0_0 y0_1 y3 y4 = if decide ((y3.length : Int) < 24) = true then (if (ByteArray.mk #[119]).size + (bytesOfL [(PV.sc (.int .u8 (IntKind.u8.wrap (IntKind.i64.wrap (97 + x6)))))]).size ≤ 9223372036854775807 then ((spec_l1Put.f N [(PV.list y3), (PV.sc (.string ((ByteArray.mk #[119]) ++ (bytesOfL [(PV.sc (.int .u8 (IntKind.u8.wrap (IntKind.i64.wrap (97 + x6)))))]))))]).bind fun t9 => spec_l13Book.l4 N n (IntKind.i64.wrap (x6 + 1)) y0_0 y0_1 (t9.headD default) y4) else none) else (spec_l13Book.l3 N N 0 y0_0 y0_1 y3 y4) := by kernel_rfl
theorem spec_l13Book.l3_eq (N : Nat) (n : Nat) (x7 : Int) (y0_0 : PV) (y0_1 : Int) (y3 : List PV) (y4 : PV) : spec_l13Book.l3 N (n + 1) x7 y0_0 y0_1 y3 y4 = if decide (x7 < (y3.length : Int)) = true then (if 0 ≤ x7 then (if x7 < (y3.length : Int) then ((spec_l13Entry.f N [(PV.agg [y0_0, (PV.sc (.int .i64 y0_1))]), (PV.sc (.string (((PV.list y3).elem x7.toNat).toStr)))]).bind fun t10 => if ([] : List PV).length + ([(PV.agg [(PV.sc (.string (((t10.headD default).fld 0).toStr))), (PV.sc (.string (((t10.headD default).fld 1).toStr)))])]).length ≤ 4398046511104 then (spec_l13Book.l6 N n (IntKind.i64.wrap (x7 + 1)) y0_0 (((t10.tail.headD default).fld 1).toInt) y3 y4 (([] : List PV) ++ ([(PV.agg [(PV.sc (.string (((t10.headD default).fld 0).toStr))), (PV.sc (.string (((t10.headD default).fld 1).toStr)))])]))) else none) else none) else none) else (some [(PV.agg [y4, (PV.list [])]), (PV.agg [y0_0, (PV.sc (.int .i64 y0_1))])]) := by kernel_rfl
theorem spec_l13Book.l4_eq (N : Nat) (n : Nat) (x6 : Int) (y0_0 : PV) (y0_1 : Int) (y3 : PV) (y4 : PV) : spec_l13Book.l4 N (n + 1) x6 y0_0 y0_1 y3 y4 = if decide ((y3.items.length : Int) < 24) = true then (if (ByteArray.mk #[119]).size + (bytesOfL [(PV.sc (.int .u8 (IntKind.u8.wrap (IntKind.i64.wrap (97 + x6)))))]).size ≤ 9223372036854775807 then ((spec_l1Put.f N [y3, (PV.sc (.string ((ByteArray.mk #[119]) ++ (bytesOfL [(PV.sc (.int .u8 (IntKind.u8.wrap (IntKind.i64.wrap (97 + x6)))))]))))]).bind fun t11 => spec_l13Book.l4 N n (IntKind.i64.wrap (x6 + 1)) y0_0 y0_1 (t11.headD default) y4) else none) else (spec_l13Book.l5 N N 0 y0_0 y0_1 y3 y4) := by kernel_rfl
theorem spec_l13Book.l5_eq (N : Nat) (n : Nat) (x7 : Int) (y0_0 : PV) (y0_1 : Int) (y3 : PV) (y4 : PV) : spec_l13Book.l5 N (n + 1) x7 y0_0 y0_1 y3 y4 = if decide (x7 < (y3.items.length : Int)) = true then (if 0 ≤ x7 then (if x7 < (y3.items.length : Int) then ((spec_l13Entry.f N [(PV.agg [y0_0, (PV.sc (.int .i64 y0_1))]), (PV.sc (.string ((y3.elem x7.toNat).toStr)))]).bind fun t12 => if ([] : List PV).length + ([(PV.agg [(PV.sc (.string (((t12.headD default).fld 0).toStr))), (PV.sc (.string (((t12.headD default).fld 1).toStr)))])]).length ≤ 4398046511104 then (spec_l13Book.l7 N n (IntKind.i64.wrap (x7 + 1)) y0_0 (((t12.tail.headD default).fld 1).toInt) y3 y4 (([] : List PV) ++ ([(PV.agg [(PV.sc (.string (((t12.headD default).fld 0).toStr))), (PV.sc (.string (((t12.headD default).fld 1).toStr)))])]))) else none) else none) else none) else (some [(PV.agg [y4, (PV.list [])]), (PV.agg [y0_0, (PV.sc (.int .i64 y0_1))])]) := by kernel_rfl
theorem spec_l13Book.l6_eq (N : Nat) (n : Nat) (x7 : Int) (y0_0 : PV) (y0_1 : Int) (y3 : List PV) (y4 : PV) (y5 : List PV) : spec_l13Book.l6 N (n + 1) x7 y0_0 y0_1 y3 y4 y5 = if decide (x7 < (y3.length : Int)) = true then (if 0 ≤ x7 then (if x7 < (y3.length : Int) then ((spec_l13Entry.f N [(PV.agg [y0_0, (PV.sc (.int .i64 y0_1))]), (PV.sc (.string (((PV.list y3).elem x7.toNat).toStr)))]).bind fun t13 => if y5.length + ([(PV.agg [(PV.sc (.string (((t13.headD default).fld 0).toStr))), (PV.sc (.string (((t13.headD default).fld 1).toStr)))])]).length ≤ 4398046511104 then (spec_l13Book.l6 N n (IntKind.i64.wrap (x7 + 1)) y0_0 (((t13.tail.headD default).fld 1).toInt) y3 y4 (y5 ++ ([(PV.agg [(PV.sc (.string (((t13.headD default).fld 0).toStr))), (PV.sc (.string (((t13.headD default).fld 1).toStr)))])]))) else none) else none) else none) else (some [(PV.agg [y4, (PV.list y5)]), (PV.agg [y0_0, (PV.sc (.int .i64 y0_1))])]) := by kernel_rfl
theorem spec_l13Book.l7_eq (N : Nat) (n : Nat) (x7 : Int) (y0_0 : PV) (y0_1 : Int) (y3 : PV) (y4 : PV) (y5 : List PV) : spec_l13Book.l7 N (n + 1) x7 y0_0 y0_1 y3 y4 y5 = if decide (x7 < (y3.items.length : Int)) = true then (if 0 ≤ x7 then (if x7 < (y3.items.length : Int) then ((spec_l13Entry.f N [(PV.agg [y0_0, (PV.sc (.int .i64 y0_1))]), (PV.sc (.string ((y3.elem x7.toNat).toStr)))]).bind fun t14 => if y5.length + ([(PV.agg [(PV.sc (.string (((t14.headD default).fld 0).toStr))), (PV.sc (.string (((t14.headD default).fld 1).toStr)))])]).length ≤ 4398046511104 then (spec_l13Book.l7 N n (IntKind.i64.wrap (x7 + 1)) y0_0 (((t14.tail.headD default).fld 1).toInt) y3 y4 (y5 ++ ([(PV.agg [(PV.sc (.string (((t14.headD default).fld 0).toStr))), (PV.sc (.string (((t14.headD default).fld 1).toStr)))])]))) else none) else none) else none) else (some [(PV.agg [y4, (PV.list y5)]), (PV.agg [y0_0, (PV.sc (.int .i64 y0_1))])]) := by kernel_rfl
noncomputable def spec_l13Book.S (N : Nat) : ASpec := ⟨[(32, .box)], [(72, .own)], spec_l13Book.f N⟩
theorem spec_l13Book.ok (N : Nat) : FnOk Tryz.prog 46 (spec_l13Book.S N) := fnOk_of (E := spec_l13Book.E N) mix Tryz.func46 (by kernel_rfl) (by kernel_rfl) (by kernel_rfl) (lk_ok (all_cons (spec_l13Affixes.ok N) (all_cons (spec_l1Rd_pick.ok N) (all_cons (spec_l13Word.ok N) (all_cons (spec_l1Put.ok N) (all_cons (spec_l13Entry.ok N) all_nil)))))) (by kernel_rfl) (fun _ _ h => h)

/-! ### spec_l2Has: function 94, loop.example/medlar/spec.l2Has -/
noncomputable def spec_l2Has.E (N : Nat) : Env := ⟨lk [], nzk [(2, ⟨[2, 3, 4, 6, 7, 8, 9, 10, 11, 12, 13, 14, 15, 16, 17, 18], [], []⟩)], N, [], false⟩
noncomputable def spec_l2Has.f (N : Nat) (a : List PV) : Option Res := run Tryz.prog (spec_l2Has.E N) Tryz.f94 [(9, .ro), (9, .ro)] [(4, .val)] a
noncomputable def spec_l2Has.l0 (N : Nat) (n : Nat) (x0 : ByteArray) (x1 : ByteArray) (x5 : Int) : Option Res := loopAt Tryz.prog (spec_l2Has.E N) Tryz.f94 [(4, .val)] [1, 0, 1, 0] [] n ⟨mkSlots 19 [(0, .sc (.string x0)), (1, .sc (.string x1)), (5, .sc (.int .i64 x5))], ohOf []⟩
theorem spec_l2Has.f_eq (N : Nat) (a0 : PV) (a1 : PV) : spec_l2Has.f N [a0, a1] = spec_l2Has.l0 N N a0.toStr a1.toStr 0 := by kernel_rfl
theorem spec_l2Has.l0_eq (N : Nat) (n : Nat) (x0 : ByteArray) (x1 : ByteArray) (x5 : Int) : spec_l2Has.l0 N (n + 1) x0 x1 x5 = if decide (x5 < (x0.size : Int)) = true then (if 0 ≤ x5 then (if x5 ≤ (IntKind.i64.wrap (x5 + 1)) then (if (IntKind.i64.wrap (x5 + 1)) ≤ (x0.size : Int) then (if decide ((x0.extract x5.toNat ((IntKind.i64.wrap (x5 + 1)).toNat)).toList = x1.toList) = true then (some [(PV.sc (.bool true))]) else (spec_l2Has.l0 N n x0 x1 (IntKind.i64.wrap (x5 + 1)))) else none) else none) else none) else (some [(PV.sc (.bool false))]) := by kernel_rfl
noncomputable def spec_l2Has.S (N : Nat) : ASpec := ⟨[(9, .ro), (9, .ro)], [(4, .val)], spec_l2Has.f N⟩
theorem spec_l2Has.ok (N : Nat) : FnOk Tryz.prog 94 (spec_l2Has.S N) := fnOk_of (E := spec_l2Has.E N) mix Tryz.func94 (by kernel_rfl) (by kernel_rfl) (by kernel_rfl) (lk_ok all_nil) (by kernel_rfl) (fun _ _ h => h)

/-! ### spec_l2Begins: function 100, loop.example/medlar/spec.l2Begins -/
noncomputable def spec_l2Begins.E (N : Nat) : Env := ⟨lk [], nzk [], N, [], false⟩
noncomputable def spec_l2Begins.f (N : Nat) (a : List PV) : Option Res := run Tryz.prog (spec_l2Begins.E N) Tryz.f100 [(9, .ro), (9, .ro)] [(4, .val)] a
theorem spec_l2Begins.f_eq (N : Nat) (a0 : PV) (a1 : PV) : spec_l2Begins.f N [a0, a1] = if decide ((a1.toStr.size : Int) ≤ (a0.toStr.size : Int)) = true then (if 0 ≤ (a1.toStr.size : Int) then (if (a1.toStr.size : Int) ≤ (a0.toStr.size : Int) then (some [(PV.sc (.bool (decide ((a0.toStr.extract 0 a1.toStr.size).toList = a1.toStr.toList))))]) else none) else none) else (some [(PV.sc (.bool false))]) := by kernel_rfl
noncomputable def spec_l2Begins.S (N : Nat) : ASpec := ⟨[(9, .ro), (9, .ro)], [(4, .val)], spec_l2Begins.f N⟩
theorem spec_l2Begins.ok (N : Nat) : FnOk Tryz.prog 100 (spec_l2Begins.S N) := fnOk_of (E := spec_l2Begins.E N) mix Tryz.func100 (by kernel_rfl) (by kernel_rfl) (by kernel_rfl) (lk_ok all_nil) (by kernel_rfl) (fun _ _ h => h)

/-! ### spec_l2Ends: function 101, loop.example/medlar/spec.l2Ends -/
noncomputable def spec_l2Ends.E (N : Nat) : Env := ⟨lk [], nzk [], N, [], false⟩
noncomputable def spec_l2Ends.f (N : Nat) (a : List PV) : Option Res := run Tryz.prog (spec_l2Ends.E N) Tryz.f101 [(9, .ro), (9, .ro)] [(4, .val)] a
theorem spec_l2Ends.f_eq (N : Nat) (a0 : PV) (a1 : PV) : spec_l2Ends.f N [a0, a1] = if decide ((a1.toStr.size : Int) ≤ (a0.toStr.size : Int)) = true then (if 0 ≤ (IntKind.i64.wrap ((a0.toStr.size : Int) - (a1.toStr.size : Int))) then (if (IntKind.i64.wrap ((a0.toStr.size : Int) - (a1.toStr.size : Int))) ≤ (a0.toStr.size : Int) then (some [(PV.sc (.bool (decide ((a0.toStr.extract ((IntKind.i64.wrap ((a0.toStr.size : Int) - (a1.toStr.size : Int))).toNat) a0.toStr.size).toList = a1.toStr.toList))))]) else none) else none) else (some [(PV.sc (.bool false))]) := by kernel_rfl
noncomputable def spec_l2Ends.S (N : Nat) : ASpec := ⟨[(9, .ro), (9, .ro)], [(4, .val)], spec_l2Ends.f N⟩
theorem spec_l2Ends.ok (N : Nat) : FnOk Tryz.prog 101 (spec_l2Ends.S N) := fnOk_of (E := spec_l2Ends.E N) mix Tryz.func101 (by kernel_rfl) (by kernel_rfl) (by kernel_rfl) (lk_ok all_nil) (by kernel_rfl) (fun _ _ h => h)

/-! ### spec_l1Letters: function 61, loop.example/medlar/spec.l1Letters -/
noncomputable def spec_l1Letters.E (N : Nat) : Env := ⟨lk [], nzk [(2, ⟨[2, 3, 4, 6, 7, 8, 9, 10, 11, 12, 13, 14, 15, 16, 17, 18, 19, 20, 21, 22, 23, 24, 25], [], []⟩)], N, [], false⟩
noncomputable def spec_l1Letters.f (N : Nat) (a : List PV) : Option Res := run Tryz.prog (spec_l1Letters.E N) Tryz.f61 [(9, .ro), (3, .ro)] [(4, .val)] a
noncomputable def spec_l1Letters.l0 (N : Nat) (n : Nat) (x0 : ByteArray) (x1 : Int) (x5 : Int) : Option Res := loopAt Tryz.prog (spec_l1Letters.E N) Tryz.f61 [(4, .val)] [1, 0, 1, 0] [] n ⟨mkSlots 26 [(0, .sc (.string x0)), (1, .sc (.int .i64 x1)), (5, .sc (.int .i64 x5))], ohOf []⟩
theorem spec_l1Letters.f_eq (N : Nat) (a0 : PV) (a1 : PV) : spec_l1Letters.f N [a0, a1] = spec_l1Letters.l0 N N a0.toStr a1.toInt 0 := by kernel_rfl
theorem spec_l1Letters.l0_eq (N : Nat) (n : Nat) (x0 : ByteArray) (x1 : Int) (x5 : Int) : spec_l1Letters.l0 N (n + 1) x0 x1 x5 = if decide (x5 < (x0.size : Int)) = true then (if 0 ≤ x5 then (if x5 < (x0.size : Int) then (if decide (((x0.get! x5.toNat).toNat : Int) < 97) = false then (if 0 ≤ x5 then (if x5 < (x0.size : Int) then (if decide (122 < ((x0.get! x5.toNat).toNat : Int)) = true then (some [(PV.sc (.bool false))]) else (spec_l1Letters.l0 N n x0 x1 (IntKind.i64.wrap (x5 + 1)))) else none) else none) else (some [(PV.sc (.bool false))])) else none) else none) else (some [(PV.sc (.bool (decide ((x0.size : Int) ≤ x1))))]) := by kernel_rfl
noncomputable def spec_l1Letters.S (N : Nat) : ASpec := ⟨[(9, .ro), (3, .ro)], [(4, .val)], spec_l1Letters.f N⟩
theorem spec_l1Letters.ok (N : Nat) : FnOk Tryz.prog 61 (spec_l1Letters.S N) := fnOk_of (E := spec_l1Letters.E N) mix Tryz.func61 (by kernel_rfl) (by kernel_rfl) (by kernel_rfl) (lk_ok all_nil) (by kernel_rfl) (fun _ _ h => h)

/-! ### spec_l1Word: function 41, loop.example/medlar/spec.l1Word -/
noncomputable def spec_l1Word.E (N : Nat) : Env := ⟨lk [(61, spec_l1Letters.S N)], nzk [], N, [], false⟩
noncomputable def spec_l1Word.f (N : Nat) (a : List PV) : Option Res := run Tryz.prog (spec_l1Word.E N) Tryz.f41 [(9, .ro)] [(4, .val)] a
theorem spec_l1Word.f_eq (N : Nat) (a0 : PV) : spec_l1Word.f N [a0] = if decide (0 < (a0.toStr.size : Int)) = true then ((spec_l1Letters.f N [(PV.sc (.string a0.toStr)), (PV.sc (.int .i64 12))]).bind fun t1 => some [(PV.sc (.bool ((t1.headD default).toBool)))]) else (some [(PV.sc (.bool false))]) := by kernel_rfl
noncomputable def spec_l1Word.S (N : Nat) : ASpec := ⟨[(9, .ro)], [(4, .val)], spec_l1Word.f N⟩
theorem spec_l1Word.ok (N : Nat) : FnOk Tryz.prog 41 (spec_l1Word.S N) := fnOk_of (E := spec_l1Word.E N) mix Tryz.func41 (by kernel_rfl) (by kernel_rfl) (by kernel_rfl) (lk_ok (all_cons (spec_l1Letters.ok N) all_nil)) (by kernel_rfl) (fun _ _ h => h)

/-! ### spec_l2Do: function 95, loop.example/medlar/spec.l2Do -/
noncomputable def spec_l2Do.E (N : Nat) : Env := ⟨lk [(100, spec_l2Begins.S N), (41, spec_l1Word.S N), (101, spec_l2Ends.S N)], nzk [], N, [], false⟩
noncomputable def spec_l2Do.f (N : Nat) (a : List PV) : Option Res := run Tryz.prog (spec_l2Do.E N) Tryz.f95 [(114, .ro), (9, .ro)] [(9, .val), (4, .val)] a
theorem spec_l2Do.f_eq (N : Nat) (a0 : PV) (a1 : PV) : spec_l2Do.f N [a0, a1] = if (a0.fld 1).toBool = true then ((spec_l2Begins.f N [(PV.sc (.string a1.toStr)), (PV.sc (.string ((a0.fld 4).toStr)))]).bind fun t1 => if (!((t1.headD default).toBool)) = true then (some [(PV.sc (.string (ByteArray.mk #[]))), (PV.sc (.bool false))]) else (if 0 ≤ (((a0.fld 2).toStr).size : Int) then (if (((a0.fld 2).toStr).size : Int) ≤ (a1.toStr.size : Int) then (if ((a0.fld 3).toStr).size + (a1.toStr.extract (((a0.fld 2).toStr).size) a1.toStr.size).size ≤ 9223372036854775807 then ((spec_l1Word.f N [(PV.sc (.string (((a0.fld 3).toStr) ++ (a1.toStr.extract (((a0.fld 2).toStr).size) a1.toStr.size))))]).bind fun t2 => some [(PV.sc (.string (((a0.fld 3).toStr) ++ (a1.toStr.extract (((a0.fld 2).toStr).size) a1.toStr.size)))), (PV.sc (.bool ((t2.headD default).toBool)))]) else none) else none) else none)) else ((spec_l2Ends.f N [(PV.sc (.string a1.toStr)), (PV.sc (.string ((a0.fld 4).toStr)))]).bind fun t3 => if (!((t3.headD default).toBool)) = true then (some [(PV.sc (.string (ByteArray.mk #[]))), (PV.sc (.bool false))]) else (if 0 ≤ (IntKind.i64.wrap ((a1.toStr.size : Int) - (((a0.fld 2).toStr).size : Int))) then (if (IntKind.i64.wrap ((a1.toStr.size : Int) - (((a0.fld 2).toStr).size : Int))) ≤ (a1.toStr.size : Int) then (if (a1.toStr.extract 0 ((IntKind.i64.wrap ((a1.toStr.size : Int) - (((a0.fld 2).toStr).size : Int))).toNat)).size + ((a0.fld 3).toStr).size ≤ 9223372036854775807 then ((spec_l1Word.f N [(PV.sc (.string ((a1.toStr.extract 0 ((IntKind.i64.wrap ((a1.toStr.size : Int) - (((a0.fld 2).toStr).size : Int))).toNat)) ++ ((a0.fld 3).toStr))))]).bind fun t4 => some [(PV.sc (.string ((a1.toStr.extract 0 ((IntKind.i64.wrap ((a1.toStr.size : Int) - (((a0.fld 2).toStr).size : Int))).toNat)) ++ ((a0.fld 3).toStr)))), (PV.sc (.bool ((t4.headD default).toBool)))]) else none) else none) else none)) := by kernel_rfl
noncomputable def spec_l2Do.S (N : Nat) : ASpec := ⟨[(114, .ro), (9, .ro)], [(9, .val), (4, .val)], spec_l2Do.f N⟩
theorem spec_l2Do.ok (N : Nat) : FnOk Tryz.prog 95 (spec_l2Do.S N) := fnOk_of (E := spec_l2Do.E N) mix Tryz.func95 (by kernel_rfl) (by kernel_rfl) (by kernel_rfl) (lk_ok (all_cons (spec_l2Begins.ok N) (all_cons (spec_l1Word.ok N) (all_cons (spec_l2Ends.ok N) all_nil)))) (by kernel_rfl) (fun _ _ h => h)

/-! ### spec_l2One: function 78, loop.example/medlar/spec.l2One -/
noncomputable def spec_l2One.E (N : Nat) : Env := ⟨lk [(94, spec_l2Has.S N), (95, spec_l2Do.S N), (43, spec_l1Put.S N)], nzk [(3, ⟨[4, 5, 6, 7, 8, 11, 12, 13, 14, 15, 16, 17, 18, 19, 20, 21, 22, 23, 24, 25, 26, 27, 28, 29, 30, 31, 32, 33, 34, 35, 36, 37, 38, 39, 40, 41, 42, 43, 44, 45, 46, 47, 48, 49, 50, 51, 52, 53, 54, 55, 56, 57, 58, 59, 60, 61, 62], [(9, 23)], []⟩), (7, ⟨[4, 5, 6, 7, 8, 12, 13, 14, 15, 16, 17, 18, 19, 20, 21, 22, 23, 24, 25, 26, 27, 28, 29, 30, 31, 32, 33, 34, 35, 36, 37, 38, 39, 40, 41, 42, 43, 44, 45, 46, 47, 48, 49, 50, 51, 52, 53, 54, 55, 56, 57, 58, 59, 60, 61, 62], [(9, 23)], []⟩)], N, [], false⟩
noncomputable def spec_l2One.f (N : Nat) (a : List PV) : Option Res := run Tryz.prog (spec_l2One.E N) Tryz.f78 [(69, .ro), (9, .ro), (4, .ro), (23, .ro)] [(23, .own)] a
noncomputable def spec_l2One.l0 (N : Nat) (n : Nat) (x0 : PV) (x1 : ByteArray) (x2 : Bool) (x3 : PV) (x10 : Int) (y0 : List PV) : Option Res := loopAt Tryz.prog (spec_l2One.E N) Tryz.f78 [(23, .own)] [1, 1, 0, 1, 0] [] n ⟨mkSlots 63 [(0, .ro 69 x0), (1, .sc (.string x1)), (2, .sc (.bool x2)), (3, .ro 23 x3), (9, .ref 0 []), (10, .sc (.int .i64 x10))], ohOf [.row 23 (PV.list y0)]⟩
noncomputable def spec_l2One.l1 (N : Nat) (m0 : Nat) (n : Nat) (x0 : PV) (x1 : ByteArray) (x2 : Bool) (x3 : PV) (x10 : Int) (x11 : Int) (y0 : List PV) : Option Res := loopAt Tryz.prog (spec_l2One.E N) Tryz.f78 [(23, .own)] [1, 1, 0, 1, 0, 0, 1, 0, 0, 1, 1, 0] [m0] n ⟨mkSlots 63 [(0, .ro 69 x0), (1, .sc (.string x1)), (2, .sc (.bool x2)), (3, .ro 23 x3), (9, .ref 0 []), (10, .sc (.int .i64 x10)), (11, .sc (.int .i64 x11))], ohOf [.row 23 (PV.list y0)]⟩
noncomputable def spec_l2One.l2 (N : Nat) (m0 : Nat) (n : Nat) (x0 : PV) (x1 : ByteArray) (x2 : Bool) (x3 : PV) (x10 : Int) (x11 : Int) (y0 : PV) : Option Res := loopAt Tryz.prog (spec_l2One.E N) Tryz.f78 [(23, .own)] [1, 1, 0, 1, 0, 0, 1, 0, 0, 1, 1, 0] [m0] n ⟨mkSlots 63 [(0, .ro 69 x0), (1, .sc (.string x1)), (2, .sc (.bool x2)), (3, .ro 23 x3), (9, .ref 0 []), (10, .sc (.int .i64 x10)), (11, .sc (.int .i64 x11))], ohOf [.row 23 y0]⟩
noncomputable def spec_l2One.l3 (N : Nat) (n : Nat) (x0 : PV) (x1 : ByteArray) (x2 : Bool) (x3 : PV) (x10 : Int) (y0 : PV) : Option Res := loopAt Tryz.prog (spec_l2One.E N) Tryz.f78 [(23, .own)] [1, 1, 0, 1, 0] [] n ⟨mkSlots 63 [(0, .ro 69 x0), (1, .sc (.string x1)), (2, .sc (.bool x2)), (3, .ro 23 x3), (9, .ref 0 []), (10, .sc (.int .i64 x10))], ohOf [.row 23 y0]⟩
theorem spec_l2One.f_eq (N : Nat) (a0 : PV) (a1 : PV) (a2 : PV) (a3 : PV) : spec_l2One.f N [a0, a1, a2, a3] = if ([] : List PV).length + a3.items.length ≤ 8796093022208 then (spec_l2One.l0 N N a0 a1.toStr a2.toBool a3 0 (([] : List PV) ++ a3.items)) else none := by kernel_rfl
theorem spec_l2One.l0_eq (N : Nat) (n : Nat) (x0 : PV) (x1 : ByteArray) (x2 : Bool) (x3 : PV) (x10 : Int) (y0 : List PV) : spec_l2One.l0 N (n + 1) x0 x1 x2 x3 x10 y0 = if decide (x10 < (x0.items.length : Int)) = true then (if 0 ≤ x10 then (if x10 < (x0.items.length : Int) then (if ((((x0.elem x10.toNat).fld 1).toBool) != x2) = false then (if 0 ≤ x10 then (if x10 < (x0.items.length : Int) then ((spec_l2Has.f N [(PV.sc (.string x1)), (PV.sc (.string (((x0.elem x10.toNat).fld 0).toStr)))]).bind fun t1 => if (!((t1.headD default).toBool)) = true then (spec_l2One.l0 N n x0 x1 x2 x3 (IntKind.i64.wrap (x10 + 1)) y0) else (spec_l2One.l1 N n N x0 x1 x2 x3 x10 0 y0)) else none) else none) else (spec_l2One.l0 N n x0 x1 x2 x3 (IntKind.i64.wrap (x10 + 1)) y0)) else none) else none) else (some [(PV.list y0)]) := by kernel_rfl
theorem spec_l2One.l1_eq (N : Nat) (m0 : Nat) (n : Nat) (x0 : PV) (x1 : ByteArray) (x2 : Bool) (x3 : PV) (x10 : Int) (x11 : Int) (y0 : List PV) : spec_l2One.l1 N m0 (n + 1) x0 x1 x2 x3 x10 x11 y0 = if decide (x11 < (x3.items.length : Int)) = true then (if 0 ≤ x10 then (if x10 < (x0.items.length : Int) then (if 0 ≤ x11 then (if x11 < (x3.items.length : Int) then ((spec_l2Do.f N [(PV.agg [(PV.sc (.string (((x0.elem x10.toNat).fld 0).toStr))), (PV.sc (.bool (((x0.elem x10.toNat).fld 1).toBool))), (PV.sc (.string (((x0.elem x10.toNat).fld 2).toStr))), (PV.sc (.string (((x0.elem x10.toNat).fld 3).toStr))), (PV.sc (.string (((x0.elem x10.toNat).fld 4).toStr)))]), (PV.sc (.string ((x3.elem x11.toNat).toStr)))]).bind fun t2 => if (t2.tail.headD default).toBool = true then ((spec_l1Put.f N [(PV.list y0), (PV.sc (.string ((t2.headD default).toStr)))]).bind fun t3 => spec_l2One.l2 N m0 n x0 x1 x2 x3 x10 (IntKind.i64.wrap (x11 + 1)) (t3.headD default)) else (spec_l2One.l1 N m0 n x0 x1 x2 x3 x10 (IntKind.i64.wrap (x11 + 1)) y0)) else none) else none) else none) else none) else (spec_l2One.l0 N m0 x0 x1 x2 x3 (IntKind.i64.wrap (x10 + 1)) y0) := by kernel_rfl
theorem spec_l2One.l2_eq (N : Nat) (m0 : Nat) (n : Nat) (x0 : PV) (x1 : ByteArray) (x2 : Bool) (x3 : PV) (x10 : Int) (x11 : Int) (y0 : PV) : spec_l2One.l2 N m0 (n + 1) x0 x1 x2 x3 x10 x11 y0 = if decide (x11 < (x3.items.length : Int)) = true then (if 0 ≤ x10 then (if x10 < (x0.items.length : Int) then (if 0 ≤ x11 then (if x11 < (x3.items.length : Int) then ((spec_l2Do.f N [(PV.agg [(PV.sc (.string (((x0.elem x10.toNat).fld 0).toStr))), (PV.sc (.bool (((x0.elem x10.toNat).fld 1).toBool))), (PV.sc (.string (((x0.elem x10.toNat).fld 2).toStr))), (PV.sc (.string (((x0.elem x10.toNat).fld 3).toStr))), (PV.sc (.string (((x0.elem x10.toNat).fld 4).toStr)))]), (PV.sc (.string ((x3.elem x11.toNat).toStr)))]).bind fun t4 => if (t4.tail.headD default).toBool = true then ((spec_l1Put.f N [y0, (PV.sc (.string ((t4.headD default).toStr)))]).bind fun t5 => spec_l2One.l2 N m0 n x0 x1 x2 x3 x10 (IntKind.i64.wrap (x11 + 1)) (t5.headD default)) else (spec_l2One.l2 N m0 n x0 x1 x2 x3 x10 (IntKind.i64.wrap (x11 + 1)) y0)) else none) else none) else none) else none) else (spec_l2One.l3 N m0 x0 x1 x2 x3 (IntKind.i64.wrap (x10 + 1)) y0) := by kernel_rfl
theorem spec_l2One.l3_eq (N : Nat) (n : Nat) (x0 : PV) (x1 : ByteArray) (x2 : Bool) (x3 : PV) (x10 : Int) (y0 : PV) : spec_l2One.l3 N (n + 1) x0 x1 x2 x3 x10 y0 = if decide (x10 < (x0.items.length : Int)) = true then (if 0 ≤ x10 then (if x10 < (x0.items.length : Int) then (if ((((x0.elem x10.toNat).fld 1).toBool) != x2) = false then (if 0 ≤ x10 then (if x10 < (x0.items.length : Int) then ((spec_l2Has.f N [(PV.sc (.string x1)), (PV.sc (.string (((x0.elem x10.toNat).fld 0).toStr)))]).bind fun t6 => if (!((t6.headD default).toBool)) = true then (spec_l2One.l3 N n x0 x1 x2 x3 (IntKind.i64.wrap (x10 + 1)) y0) else (spec_l2One.l2 N n N x0 x1 x2 x3 x10 0 y0)) else none) else none) else (spec_l2One.l3 N n x0 x1 x2 x3 (IntKind.i64.wrap (x10 + 1)) y0)) else none) else none) else (some [y0]) := by kernel_rfl
noncomputable def spec_l2One.S (N : Nat) : ASpec := ⟨[(69, .ro), (9, .ro), (4, .ro), (23, .ro)], [(23, .own)], spec_l2One.f N⟩
theorem spec_l2One.ok (N : Nat) : FnOk Tryz.prog 78 (spec_l2One.S N) := fnOk_of (E := spec_l2One.E N) mix Tryz.func78 (by kernel_rfl) (by kernel_rfl) (by kernel_rfl) (lk_ok (all_cons (spec_l2Has.ok N) (all_cons (spec_l2Do.ok N) (all_cons (spec_l1Put.ok N) all_nil)))) (by kernel_rfl) (fun _ _ h => h)

/-! ### spec_l2Forms: function 63, loop.example/medlar/spec.l2Forms -/
noncomputable def spec_l2Forms.E (N : Nat) : Env := ⟨lk [(78, spec_l2One.S N)], nzk [], N, [], false⟩
noncomputable def spec_l2Forms.f (N : Nat) (a : List PV) : Option Res := run Tryz.prog (spec_l2Forms.E N) Tryz.f63 [(69, .ro), (93, .ro)] [(23, .own)] a
theorem spec_l2Forms.f_eq (N : Nat) (a0 : PV) (a1 : PV) : spec_l2Forms.f N [a0, a1] = (spec_l2One.f N [a0, (PV.sc (.string ((a1.fld 1).toStr))), (PV.sc (.bool false)), (PV.list [(PV.sc (.string ((a1.fld 0).toStr)))])]).bind fun t1 => (spec_l2One.f N [a0, (PV.sc (.string ((a1.fld 1).toStr))), (PV.sc (.bool true)), (t1.headD default)]).bind fun t2 => some [(t2.headD default)] := by kernel_rfl
noncomputable def spec_l2Forms.S (N : Nat) : ASpec := ⟨[(69, .ro), (93, .ro)], [(23, .own)], spec_l2Forms.f N⟩
theorem spec_l2Forms.ok (N : Nat) : FnOk Tryz.prog 63 (spec_l2Forms.S N) := fnOk_of (E := spec_l2Forms.E N) mix Tryz.func63 (by kernel_rfl) (by kernel_rfl) (by kernel_rfl) (lk_ok (all_cons (spec_l2One.ok N) all_nil)) (by kernel_rfl) (fun _ _ h => h)

/-! ### spec_l2Words: function 45, loop.example/medlar/spec.l2Words -/
noncomputable def spec_l2Words.E (N : Nat) : Env := ⟨lk [(63, spec_l2Forms.S N), (43, spec_l1Put.S N)], nzk [(3, ⟨[0, 2, 5, 6, 7, 8, 9, 10, 11, 12, 13, 14, 15, 16, 17, 18, 19, 20, 21, 22, 23, 24, 25, 26, 27, 28, 29, 30, 31, 32, 33, 34, 35], [], []⟩), (7, ⟨[0, 2, 7, 8, 9, 10, 11, 12, 13, 14, 15, 16, 17, 18, 19, 20, 21, 22, 23, 24, 25, 26, 27, 28, 29, 30, 31, 32, 33, 34, 35], [], []⟩)], N, [], false⟩
noncomputable def spec_l2Words.f (N : Nat) (a : List PV) : Option Res := run Tryz.prog (spec_l2Words.E N) Tryz.f45 [(72, .ro)] [(23, .own)] a
noncomputable def spec_l2Words.l0 (N : Nat) (n : Nat) (x4 : Int) (y0_0 : PV) (y0_1 : PV) (y1 : List PV) : Option Res := loopAt Tryz.prog (spec_l2Words.E N) Tryz.f45 [(23, .own)] [1, 1, 0, 1, 0] [] n ⟨mkSlots 36 [(1, .ptr 0 []), (3, .ref 1 []), (4, .sc (.int .i64 x4))], ohOf [.box 72 (.agg 72 [.ro 69 y0_0, .ro 70 y0_1]), .row 23 (PV.list y1)]⟩
noncomputable def spec_l2Words.l1 (N : Nat) (m0 : Nat) (n : Nat) (x4 : Int) (x6 : Int) (y0_0 : PV) (y0_1 : PV) (y1 : List PV) (y2 : PV) : Option Res := loopAt Tryz.prog (spec_l2Words.E N) Tryz.f45 [(23, .own)] [1, 1, 0, 1, 0, 0, 1, 0, 0, 1, 1, 0] [m0] n ⟨mkSlots 36 [(1, .ptr 0 []), (3, .ref 1 []), (4, .sc (.int .i64 x4)), (5, .ref 2 []), (6, .sc (.int .i64 x6))], ohOf [.box 72 (.agg 72 [.ro 69 y0_0, .ro 70 y0_1]), .row 23 (PV.list y1), .row 23 y2]⟩
noncomputable def spec_l2Words.l2 (N : Nat) (m0 : Nat) (n : Nat) (x4 : Int) (x6 : Int) (y0_0 : PV) (y0_1 : PV) (y1 : PV) (y2 : PV) : Option Res := loopAt Tryz.prog (spec_l2Words.E N) Tryz.f45 [(23, .own)] [1, 1, 0, 1, 0, 0, 1, 0, 0, 1, 1, 0] [m0] n ⟨mkSlots 36 [(1, .ptr 0 []), (3, .ref 1 []), (4, .sc (.int .i64 x4)), (5, .ref 2 []), (6, .sc (.int .i64 x6))], ohOf [.box 72 (.agg 72 [.ro 69 y0_0, .ro 70 y0_1]), .row 23 y1, .row 23 y2]⟩
noncomputable def spec_l2Words.l3 (N : Nat) (n : Nat) (x4 : Int) (y0_0 : PV) (y0_1 : PV) (y1 : PV) : Option Res := loopAt Tryz.prog (spec_l2Words.E N) Tryz.f45 [(23, .own)] [1, 1, 0, 1, 0] [] n ⟨mkSlots 36 [(1, .ptr 0 []), (3, .ref 1 []), (4, .sc (.int .i64 x4))], ohOf [.box 72 (.agg 72 [.ro 69 y0_0, .ro 70 y0_1]), .row 23 y1]⟩
theorem spec_l2Words.f_eq (N : Nat) (a0 : PV) : spec_l2Words.f N [a0] = spec_l2Words.l0 N N 0 (a0.fld 0) (a0.fld 1) [] := by kernel_rfl
theorem spec_l2Words.l0_eq (N : Nat) (n : Nat) (x4 : Int) (y0_0 : PV) (y0_1 : PV) (y1 : List PV) : spec_l2Words.l0 N (n + 1) x4 y0_0 y0_1 y1 = if decide (x4 < (y0_1.items.length : Int)) = true then (if 0 ≤ x4 then (if x4 < (y0_1.items.length : Int) then ((spec_l2Forms.f N [y0_0, (PV.agg [(PV.sc (.string (((y0_1.elem x4.toNat).fld 0).toStr))), (PV.sc (.string (((y0_1.elem x4.toNat).fld 1).toStr)))])]).bind fun t1 => spec_l2Words.l1 N n N x4 0 y0_0 y0_1 y1 (t1.headD default)) else none) else none) else (some [(PV.list y1)]) := by kernel_rfl
theorem spec_l2Words.l1_eq (N : Nat) (m0 : Nat) (n : Nat) (x4 : Int) (x6 : Int) (y0_0 : PV) (y0_1 : PV) (y1 : List PV) (y2 : PV) : spec_l2Words.l1 N m0 (n + 1) x4 x6 y0_0 y0_1 y1 y2 = if decide (x6 < (y2.items.length : Int)) = true then (if 0 ≤ x6 then (if x6 < (y2.items.length : Int) then ((spec_l1Put.f N [(PV.list y1), (PV.sc (.string ((y2.elem x6.toNat).toStr)))]).bind fun t2 => spec_l2Words.l2 N m0 n x4 (IntKind.i64.wrap (x6 + 1)) y0_0 y0_1 (t2.headD default) y2) else none) else none) else (spec_l2Words.l0 N m0 (IntKind.i64.wrap (x4 + 1)) y0_0 y0_1 y1) := by kernel_rfl
theorem spec_l2Words.l2_eq (N : Nat) (m0 : Nat) (n : Nat) (x4 : Int) (x6 : Int) (y0_0 : PV) (y0_1 : PV) (y1 : PV) (y2 : PV) : spec_l2Words.l2 N m0 (n + 1) x4 x6 y0_0 y0_1 y1 y2 = if decide (x6 < (y2.items.length : Int)) = true then (if 0 ≤ x6 then (if x6 < (y2.items.length : Int) then ((spec_l1Put.f N [y1, (PV.sc (.string ((y2.elem x6.toNat).toStr)))]).bind fun t3 => spec_l2Words.l2 N m0 n x4 (IntKind.i64.wrap (x6 + 1)) y0_0 y0_1 (t3.headD default) y2) else none) else none) else (spec_l2Words.l3 N m0 (IntKind.i64.wrap (x4 + 1)) y0_0 y0_1 y1) := by kernel_rfl
theorem spec_l2Words.l3_eq (N : Nat) (n : Nat) (x4 : Int) (y0_0 : PV) (y0_1 : PV) (y1 : PV) : spec_l2Words.l3 N (n + 1) x4 y0_0 y0_1 y1 = if decide (x4 < (y0_1.items.length : Int)) = true then (if 0 ≤ x4 then (if x4 < (y0_1.items.length : Int) then ((spec_l2Forms.f N [y0_0, (PV.agg [(PV.sc (.string (((y0_1.elem x4.toNat).fld 0).toStr))), (PV.sc (.string (((y0_1.elem x4.toNat).fld 1).toStr)))])]).bind fun t4 => spec_l2Words.l2 N n N x4 0 y0_0 y0_1 y1 (t4.headD default)) else none) else none) else (some [y1]) := by kernel_rfl
noncomputable def spec_l2Words.S (N : Nat) : ASpec := ⟨[(72, .ro)], [(23, .own)], spec_l2Words.f N⟩
theorem spec_l2Words.ok (N : Nat) : FnOk Tryz.prog 45 (spec_l2Words.S N) := fnOk_of (E := spec_l2Words.E N) mix Tryz.func45 (by kernel_rfl) (by kernel_rfl) (by kernel_rfl) (lk_ok (all_cons (spec_l2Forms.ok N) (all_cons (spec_l1Put.ok N) all_nil))) (by kernel_rfl) (fun _ _ h => h)

/-! ### spec_l13Words: function 25, loop.example/medlar/spec.l13Words -/
noncomputable def spec_l13Words.E (N : Nat) : Env := ⟨lk [(29, spec_l1Rd_pick.S N), (44, spec_l13Word.S N), (43, spec_l1Put.S N), (46, spec_l13Book.S N), (45, spec_l2Words.S N)], nzk [(3, ⟨[1, 2, 5, 6, 7, 8, 9, 10, 11, 12, 13, 14, 15, 16, 17, 18, 19, 20, 21, 22, 23, 24, 25, 26, 27], [], []⟩)], N, [(true, 55)], false⟩
noncomputable def spec_l13Words.f (N : Nat) (a : List PV) : Option Res := run Tryz.prog (spec_l13Words.E N) Tryz.f25 [(32, .box)] [(23, .own)] a
noncomputable def spec_l13Words.l0 (N : Nat) (n : Nat) (x4 : Int) (y0_0 : PV) (y0_1 : Int) (y1 : List PV) : Option Res := loopAt Tryz.prog (spec_l13Words.E N) Tryz.f25 [(23, .own)] [1, 1, 0, 1, 0] [] n ⟨mkSlots 28 [(0, .ptr 0 []), (3, .ref 1 []), (4, .sc (.int .i64 x4))], ohOf [.box 55 (.agg 55 [.con 0 22 y0_0, .sc (.int .i64 y0_1)]), .row 23 (PV.list y1)]⟩
noncomputable def spec_l13Words.l1 (N : Nat) (n : Nat) (x4 : Int) (y0_0 : PV) (y0_1 : Int) (y1 : PV) : Option Res := loopAt Tryz.prog (spec_l13Words.E N) Tryz.f25 [(23, .own)] [1, 1, 0, 1, 0] [] n ⟨mkSlots 28 [(0, .ptr 0 []), (3, .ref 1 []), (4, .sc (.int .i64 x4))], ohOf [.box 55 (.agg 55 [.con 0 22 y0_0, .sc (.int .i64 y0_1)]), .row 23 y1]⟩
theorem spec_l13Words.f_eq (N : Nat) (a0 : PV) : spec_l13Words.f N [a0] = (spec_l1Rd_pick.f N [(PV.agg [a0.fld 0, (PV.sc (.int .i64 ((a0.fld 1).toInt)))]), (PV.sc (.int .i64 9))]).bind fun t1 => spec_l13Words.l0 N N ((t1.headD default).toInt) (a0.fld 0) (((t1.tail.headD default).fld 1).toInt) [] := by kernel_rfl
theorem spec_l13Words.l0_eq (N : Nat) (n : Nat) (x4 : Int) (y0_0 : PV) (y0_1 : Int) (y1 : List PV) : spec_l13Words.l0 N (n + 1) x4 y0_0 y0_1 y1 = if decide (0 < x4) = true then ((spec_l13Word.f N [(PV.agg [y0_0, (PV.sc (.int .i64 y0_1))])]).bind fun t2 => (spec_l1Put.f N [(PV.list y1), (PV.sc (.string ((t2.headD default).toStr)))]).bind fun t3 => spec_l13Words.l1 N n (IntKind.i64.wrap (x4 - 1)) y0_0 (((t2.tail.headD default).fld 1).toInt) (t3.headD default)) else ((spec_l1Rd_pick.f N [(PV.agg [y0_0, (PV.sc (.int .i64 y0_1))]), (PV.sc (.int .i64 3))]).bind fun t4 => if decide (((t4.headD default).toInt) = 0) = true then ((spec_l13Book.f N [(PV.agg [y0_0, (PV.sc (.int .i64 (((t4.tail.headD default).fld 1).toInt)))])]).bind fun t5 => (spec_l2Words.f N [(PV.agg [(t5.headD default).fld 0, (t5.headD default).fld 1])]).bind fun t6 => if decide (40 < (((t6.headD default).items).length : Int)) = true then (if 0 ≤ 40 then (if 40 ≤ (((t6.headD default).items).length : Int) then (some [(PV.list (((t6.headD default).items).take 40)), (PV.agg [y0_0, (PV.sc (.int .i64 (((t5.tail.headD default).fld 1).toInt)))])]) else none) else none) else (some [(t6.headD default), (PV.agg [y0_0, (PV.sc (.int .i64 (((t5.tail.headD default).fld 1).toInt)))])])) else (if decide (40 < (y1.length : Int)) = true then (if 0 ≤ 40 then (if 40 ≤ (y1.length : Int) then (some [(PV.list (y1.take 40)), (PV.agg [y0_0, (PV.sc (.int .i64 (((t4.tail.headD default).fld 1).toInt)))])]) else none) else none) else (some [(PV.list y1), (PV.agg [y0_0, (PV.sc (.int .i64 (((t4.tail.headD default).fld 1).toInt)))])]))) := by kernel_rfl
theorem spec_l13Words.l1_eq (N : Nat) (n : Nat) (x4 : Int) (y0_0 : PV) (y0_1 : Int) (y1 : PV) : spec_l13Words.l1 N (n + 1) x4 y0_0 y0_1 y1 = if decide (0 < x4) = true then ((spec_l13Word.f N [(PV.agg [y0_0, (PV.sc (.int .i64 y0_1))])]).bind fun t7 => (spec_l1Put.f N [y1, (PV.sc (.string ((t7.headD default).toStr)))]).bind fun t8 => spec_l13Words.l1 N n (IntKind.i64.wrap (x4 - 1)) y0_0 (((t7.tail.headD default).fld 1).toInt) (t8.headD default)) else ((spec_l1Rd_pick.f N [(PV.agg [y0_0, (PV.sc (.int .i64 y0_1))]), (PV.sc (.int .i64 3))]).bind fun t9 => if decide (((t9.headD default).toInt) = 0) = true then ((spec_l13Book.f N [(PV.agg [y0_0, (PV.sc (.int .i64 (((t9.tail.headD default).fld 1).toInt)))])]).bind fun t10 => (spec_l2Words.f N [(PV.agg [(t10.headD default).fld 0, (t10.headD default).fld 1])]).bind fun t11 => if decide (40 < (((t11.headD default).items).length : Int)) = true then (if 0 ≤ 40 then (if 40 ≤ (((t11.headD default).items).length : Int) then (some [(PV.list (((t11.headD default).items).take 40)), (PV.agg [y0_0, (PV.sc (.int .i64 (((t10.tail.headD default).fld 1).toInt)))])]) else none) else none) else (some [(t11.headD default), (PV.agg [y0_0, (PV.sc (.int .i64 (((t10.tail.headD default).fld 1).toInt)))])])) else (if decide (40 < (y1.items.length : Int)) = true then (if 0 ≤ 40 then (if 40 ≤ (y1.items.length : Int) then (some [(PV.list (y1.items.take 40)), (PV.agg [y0_0, (PV.sc (.int .i64 (((t9.tail.headD default).fld 1).toInt)))])]) else none) else none) else (some [y1, (PV.agg [y0_0, (PV.sc (.int .i64 (((t9.tail.headD default).fld 1).toInt)))])]))) := by kernel_rfl
noncomputable def spec_l13Words.S (N : Nat) : ASpec := ⟨[(32, .box)], [(23, .own)], spec_l13Words.f N⟩
theorem spec_l13Words.ok (N : Nat) : FnOk Tryz.prog 25 (spec_l13Words.S N) := fnOk_of (E := spec_l13Words.E N) mix Tryz.func25 (by kernel_rfl) (by kernel_rfl) (by kernel_rfl) (lk_ok (all_cons (spec_l1Rd_pick.ok N) (all_cons (spec_l13Word.ok N) (all_cons (spec_l1Put.ok N) (all_cons (spec_l13Book.ok N) (all_cons (spec_l2Words.ok N) all_nil)))))) (by kernel_rfl) (fun _ _ h => h)

/-! ### spec_l13AnyWord: function 30, loop.example/medlar/spec.l13AnyWord -/
noncomputable def spec_l13AnyWord.E (N : Nat) : Env := ⟨lk [(29, spec_l1Rd_pick.S N), (42, spec_l1Rd_of.S N), (44, spec_l13Word.S N)], nzk [], N, [(true, 55)], false⟩
noncomputable def spec_l13AnyWord.f (N : Nat) (a : List PV) : Option Res := run Tryz.prog (spec_l13AnyWord.E N) Tryz.f30 [(32, .box)] [(9, .val)] a
theorem spec_l13AnyWord.f_eq (N : Nat) (a0 : PV) : spec_l13AnyWord.f N [a0] = (spec_l1Rd_pick.f N [(PV.agg [a0.fld 0, (PV.sc (.int .i64 ((a0.fld 1).toInt)))]), (PV.sc (.int .i64 16))]).bind fun t1 => if decide (((t1.headD default).toInt) = 0) = true then ((spec_l1Rd_of.f N [(PV.agg [a0.fld 0, (PV.sc (.int .i64 (((t1.tail.headD default).fld 1).toInt)))]), (PV.list ([(PV.sc (.string (ByteArray.mk #[]))), (PV.sc (.string (ByteArray.mk #[67, 97, 116]))), (PV.sc (.string (ByteArray.mk #[97, 32, 98]))), (PV.sc (.string (ByteArray.mk #[97, 98, 99, 97, 98, 99, 97, 98, 99, 97, 98, 99, 97]))), (PV.sc (.string (ByteArray.mk #[120, 49]))), (PV.sc (.string (ByteArray.mk #[45])))]))]).bind fun t2 => some [(PV.sc (.string ((t2.headD default).toStr))), (PV.agg [a0.fld 0, (PV.sc (.int .i64 (((t2.tail.headD default).fld 1).toInt)))])]) else ((spec_l13Word.f N [(PV.agg [a0.fld 0, (PV.sc (.int .i64 (((t1.tail.headD default).fld 1).toInt)))])]).bind fun t3 => some [(PV.sc (.string ((t3.headD default).toStr))), (PV.agg [a0.fld 0, (PV.sc (.int .i64 (((t3.tail.headD default).fld 1).toInt)))])]) := by kernel_rfl
noncomputable def spec_l13AnyWord.S (N : Nat) : ASpec := ⟨[(32, .box)], [(9, .val)], spec_l13AnyWord.f N⟩
theorem spec_l13AnyWord.ok (N : Nat) : FnOk Tryz.prog 30 (spec_l13AnyWord.S N) := fnOk_of (E := spec_l13AnyWord.E N) mix Tryz.func30 (by kernel_rfl) (by kernel_rfl) (by kernel_rfl) (lk_ok (all_cons (spec_l1Rd_pick.ok N) (all_cons (spec_l1Rd_of.ok N) (all_cons (spec_l13Word.ok N) all_nil)))) (by kernel_rfl) (fun _ _ h => h)

/-! ### spec_l13AnyWords: function 11, loop.example/medlar/spec.l13AnyWords -/
noncomputable def spec_l13AnyWords.E (N : Nat) : Env := ⟨lk [(25, spec_l13Words.S N), (29, spec_l1Rd_pick.S N), (30, spec_l13AnyWord.S N)], nzk [], N, [(true, 55)], false⟩
noncomputable def spec_l13AnyWords.f (N : Nat) (a : List PV) : Option Res := run Tryz.prog (spec_l13AnyWords.E N) Tryz.f11 [(32, .box)] [(23, .own)] a
theorem spec_l13AnyWords.f_eq (N : Nat) (a0 : PV) : spec_l13AnyWords.f N [a0] = (spec_l13Words.f N [(PV.agg [a0.fld 0, (PV.sc (.int .i64 ((a0.fld 1).toInt)))])]).bind fun t1 => (spec_l1Rd_pick.f N [(PV.agg [a0.fld 0, (PV.sc (.int .i64 (((t1.tail.headD default).fld 1).toInt)))]), (PV.sc (.int .i64 10))]).bind fun t2 => if decide (((t2.headD default).toInt) = 0) = true then ((spec_l13AnyWord.f N [(PV.agg [a0.fld 0, (PV.sc (.int .i64 (((t2.tail.headD default).fld 1).toInt)))])]).bind fun t3 => if ((t1.headD default).items).length + [(PV.sc (.string ((t3.headD default).toStr)))].length ≤ 8796093022208 then (some [(PV.list (((t1.headD default).items) ++ [(PV.sc (.string ((t3.headD default).toStr)))])), (PV.agg [a0.fld 0, (PV.sc (.int .i64 (((t3.tail.headD default).fld 1).toInt)))])]) else none) else (some [(t1.headD default), (PV.agg [a0.fld 0, (PV.sc (.int .i64 (((t2.tail.headD default).fld 1).toInt)))])]) := by kernel_rfl
noncomputable def spec_l13AnyWords.S (N : Nat) : ASpec := ⟨[(32, .box)], [(23, .own)], spec_l13AnyWords.f N⟩
theorem spec_l13AnyWords.ok (N : Nat) : FnOk Tryz.prog 11 (spec_l13AnyWords.S N) := fnOk_of (E := spec_l13AnyWords.E N) mix Tryz.func11 (by kernel_rfl) (by kernel_rfl) (by kernel_rfl) (lk_ok (all_cons (spec_l13Words.ok N) (all_cons (spec_l1Rd_pick.ok N) (all_cons (spec_l13AnyWord.ok N) all_nil)))) (by kernel_rfl) (fun _ _ h => h)

/-! ### spec_DrawFrontPut: function 4, loop.example/medlar/spec.DrawFrontPut -/
noncomputable def spec_DrawFrontPut.E (N : Nat) : Env := ⟨lk [(12, spec_l1Open.S N), (11, spec_l13AnyWords.S N)], nzk [], N, [], false⟩
noncomputable def spec_DrawFrontPut.f (N : Nat) (a : List PV) : Option Res := run Tryz.prog (spec_DrawFrontPut.E N) Tryz.f4 [(22, .ro)] [(23, .own)] a
theorem spec_DrawFrontPut.f_eq (N : Nat) (a0 : PV) : spec_DrawFrontPut.f N [a0] = (spec_l1Open.f N [a0]).bind fun t1 => (spec_l13AnyWords.f N [(PV.agg [(t1.headD default).fld 0, (PV.sc (.int .i64 (((t1.headD default).fld 1).toInt)))])]).bind fun t2 => some [(t2.headD default)] := by kernel_rfl
noncomputable def spec_DrawFrontPut.S (N : Nat) : ASpec := ⟨[(22, .ro)], [(23, .own)], spec_DrawFrontPut.f N⟩
theorem spec_DrawFrontPut.ok (N : Nat) : FnOk Tryz.prog 4 (spec_DrawFrontPut.S N) := fnOk_of (E := spec_DrawFrontPut.E N) mix Tryz.func4 (by kernel_rfl) (by kernel_rfl) (by kernel_rfl) (lk_ok (all_cons (spec_l1Open.ok N) (all_cons (spec_l13AnyWords.ok N) all_nil))) (by kernel_rfl) (fun _ _ h => h)

/-! ### impl_within: function 48, loop.example/medlar/impl.within -/
noncomputable def impl_within.E (N : Nat) : Env := ⟨lk [], nzk [], N, [], false⟩
noncomputable def impl_within.f (N : Nat) (a : List PV) : Option Res := run Tryz.prog (impl_within.E N) Tryz.f48 [(3, .ro), (3, .ro), (3, .ro)] [(4, .val)] a
theorem impl_within.f_eq (N : Nat) (a0 : PV) (a1 : PV) (a2 : PV) : impl_within.f N [a0, a1, a2] = if decide (a1.toInt ≤ a0.toInt) = true then (some [(PV.sc (.bool (decide (a0.toInt ≤ a2.toInt))))]) else (some [(PV.sc (.bool false))]) := by kernel_rfl
noncomputable def impl_within.S (N : Nat) : ASpec := ⟨[(3, .ro), (3, .ro), (3, .ro)], [(4, .val)], impl_within.f N⟩
theorem impl_within.ok (N : Nat) : FnOk Tryz.prog 48 (impl_within.S N) := fnOk_of (E := impl_within.E N) mix Tryz.func48 (by kernel_rfl) (by kernel_rfl) (by kernel_rfl) (lk_ok all_nil) (by kernel_rfl) (fun _ _ h => h)

/-! ### impl_lower: function 49, loop.example/medlar/impl.lower -/
noncomputable def impl_lower.E (N : Nat) : Env := ⟨lk [], nzk [(2, ⟨[1, 2, 3, 4, 7, 8, 9, 10, 11, 12, 13, 14, 15, 16, 17, 18, 19], [], []⟩)], N, [], false⟩
noncomputable def impl_lower.f (N : Nat) (a : List PV) : Option Res := run Tryz.prog (impl_lower.E N) Tryz.f49 [(9, .ro)] [(4, .val)] a
noncomputable def impl_lower.l0 (N : Nat) (n : Nat) (x0 : ByteArray) (x5 : Int) (x6 : Int) : Option Res := loopAt Tryz.prog (impl_lower.E N) Tryz.f49 [(4, .val)] [1, 0, 1, 0] [] n ⟨mkSlots 20 [(0, .sc (.string x0)), (5, .sc (.int .i64 x5)), (6, .sc (.int .i64 x6))], ohOf []⟩
theorem impl_lower.f_eq (N : Nat) (a0 : PV) : impl_lower.f N [a0] = impl_lower.l0 N N a0.toStr (a0.toStr.size : Int) 0 := by kernel_rfl
theorem impl_lower.l0_eq (N : Nat) (n : Nat) (x0 : ByteArray) (x5 : Int) (x6 : Int) : impl_lower.l0 N (n + 1) x0 x5 x6 = if decide (x6 < x5) = true then (if 0 ≤ x6 then (if x6 < (x0.size : Int) then (if decide (((x0.get! x6.toNat).toNat : Int) < 97) = false then (if 0 ≤ x6 then (if x6 < (x0.size : Int) then (if decide (122 < ((x0.get! x6.toNat).toNat : Int)) = true then (some [(PV.sc (.bool false))]) else (impl_lower.l0 N n x0 x5 (IntKind.i64.wrap (x6 + 1)))) else none) else none) else (some [(PV.sc (.bool false))])) else none) else none) else (some [(PV.sc (.bool true))]) := by kernel_rfl
noncomputable def impl_lower.S (N : Nat) : ASpec := ⟨[(9, .ro)], [(4, .val)], impl_lower.f N⟩
theorem impl_lower.ok (N : Nat) : FnOk Tryz.prog 49 (impl_lower.S N) := fnOk_of (E := impl_lower.E N) mix Tryz.func49 (by kernel_rfl) (by kernel_rfl) (by kernel_rfl) (lk_ok all_nil) (by kernel_rfl) (fun _ _ h => h)

/-! ### impl_WordOk: function 31, loop.example/medlar/impl.WordOk -/
noncomputable def impl_WordOk.E (N : Nat) : Env := ⟨lk [(48, impl_within.S N), (49, impl_lower.S N)], nzk [], N, [], false⟩
noncomputable def impl_WordOk.f (N : Nat) (a : List PV) : Option Res := run Tryz.prog (impl_WordOk.E N) Tryz.f31 [(9, .ro)] [(4, .val)] a
theorem impl_WordOk.f_eq (N : Nat) (a0 : PV) : impl_WordOk.f N [a0] = (impl_within.f N [(PV.sc (.int .i64 (a0.toStr.size : Int))), (PV.sc (.int .i64 1)), (PV.sc (.int .i64 12))]).bind fun t1 => if (t1.headD default).toBool = true then ((impl_lower.f N [(PV.sc (.string a0.toStr))]).bind fun t2 => some [(PV.sc (.bool ((t2.headD default).toBool)))]) else (some [(PV.sc (.bool false))]) := by kernel_rfl
noncomputable def impl_WordOk.S (N : Nat) : ASpec := ⟨[(9, .ro)], [(4, .val)], impl_WordOk.f N⟩
theorem impl_WordOk.ok (N : Nat) : FnOk Tryz.prog 31 (impl_WordOk.S N) := fnOk_of (E := impl_WordOk.E N) mix Tryz.func31 (by kernel_rfl) (by kernel_rfl) (by kernel_rfl) (lk_ok (all_cons (impl_within.ok N) (all_cons (impl_lower.ok N) all_nil))) (by kernel_rfl) (fun _ _ h => h)

/-! ### impl_wordsOk: function 13, loop.example/medlar/impl.wordsOk -/
noncomputable def impl_wordsOk.E (N : Nat) : Env := ⟨lk [(31, impl_WordOk.S N)], nzk [(2, ⟨[2, 3, 4, 5, 6, 10, 11, 12, 13, 14, 15, 16, 17, 18, 19, 20, 21, 22, 23, 24, 25, 26, 27, 28, 29, 30, 31, 32, 33, 34], [], []⟩)], N, [], false⟩
noncomputable def impl_wordsOk.f (N : Nat) (a : List PV) : Option Res := run Tryz.prog (impl_wordsOk.E N) Tryz.f13 [(23, .ro), (3, .ro)] [(4, .val)] a
noncomputable def impl_wordsOk.l0 (N : Nat) (n : Nat) (x0 : PV) (x1 : Int) (x7 : PV) (x8 : Int) (x9 : Int) : Option Res := loopAt Tryz.prog (impl_wordsOk.E N) Tryz.f13 [(4, .val)] [1, 0, 1, 0] [] n ⟨mkSlots 35 [(0, .ro 23 x0), (1, .sc (.int .i64 x1)), (7, .ro 23 x7), (8, .sc (.int .i64 x8)), (9, .sc (.int .i64 x9))], ohOf []⟩
theorem impl_wordsOk.f_eq (N : Nat) (a0 : PV) (a1 : PV) : impl_wordsOk.f N [a0, a1] = impl_wordsOk.l0 N N a0 a1.toInt a0 (a0.items.length : Int) 0 := by kernel_rfl
theorem impl_wordsOk.l0_eq (N : Nat) (n : Nat) (x0 : PV) (x1 : Int) (x7 : PV) (x8 : Int) (x9 : Int) : impl_wordsOk.l0 N (n + 1) x0 x1 x7 x8 x9 = if decide (x9 < x8) = true then (if 0 ≤ x9 then (if x9 < (x7.items.length : Int) then ((impl_WordOk.f N [(PV.sc (.string ((x7.elem x9.toNat).toStr)))]).bind fun t1 => if (!((t1.headD default).toBool)) = false then (if decide (0 < x9) = true then (if 0 ≤ (IntKind.i64.wrap (x9 - 1)) then (if (IntKind.i64.wrap (x9 - 1)) < (x0.items.length : Int) then (if (!Op.bytesLess ((x0.elem ((IntKind.i64.wrap (x9 - 1)).toNat)).toStr).toList ((x7.elem x9.toNat).toStr).toList) = true then (some [(PV.sc (.bool false))]) else (impl_wordsOk.l0 N n x0 x1 x7 x8 (IntKind.i64.wrap (x9 + 1)))) else none) else none) else (impl_wordsOk.l0 N n x0 x1 x7 x8 (IntKind.i64.wrap (x9 + 1)))) else (some [(PV.sc (.bool false))])) else none) else none) else (some [(PV.sc (.bool (decide ((x0.items.length : Int) ≤ x1))))]) := by kernel_rfl
noncomputable def impl_wordsOk.S (N : Nat) : ASpec := ⟨[(23, .ro), (3, .ro)], [(4, .val)], impl_wordsOk.f N⟩
theorem impl_wordsOk.ok (N : Nat) : FnOk Tryz.prog 13 (impl_wordsOk.S N) := fnOk_of (E := impl_wordsOk.E N) mix Tryz.func13 (by kernel_rfl) (by kernel_rfl) (by kernel_rfl) (lk_ok (all_cons (impl_WordOk.ok N) all_nil)) (by kernel_rfl) (fun _ _ h => h)

/-! ### impl_Beginning: function 14, loop.example/medlar/impl.Beginning -/
noncomputable def impl_Beginning.E (N : Nat) : Env := ⟨lk [], nzk [(2, ⟨[2, 3, 4, 6, 7, 8, 9, 10, 11, 12, 13, 14, 15, 16, 17, 18, 19, 20, 21, 22, 23, 24, 25, 26, 27, 28, 29], [], []⟩)], N, [], false⟩
noncomputable def impl_Beginning.f (N : Nat) (a : List PV) : Option Res := run Tryz.prog (impl_Beginning.E N) Tryz.f14 [(9, .ro), (9, .ro)] [(9, .val)] a
noncomputable def impl_Beginning.l0 (N : Nat) (n : Nat) (x0 : ByteArray) (x1 : ByteArray) (x5 : Int) : Option Res := loopAt Tryz.prog (impl_Beginning.E N) Tryz.f14 [(9, .val)] [1, 1, 0, 0] [] n ⟨mkSlots 30 [(0, .sc (.string x0)), (1, .sc (.string x1)), (5, .sc (.int .i64 x5))], ohOf []⟩
theorem impl_Beginning.f_eq (N : Nat) (a0 : PV) (a1 : PV) : impl_Beginning.f N [a0, a1] = impl_Beginning.l0 N N a0.toStr a1.toStr 0 := by kernel_rfl
theorem impl_Beginning.l0_eq (N : Nat) (n : Nat) (x0 : ByteArray) (x1 : ByteArray) (x5 : Int) : impl_Beginning.l0 N (n + 1) x0 x1 x5 = if decide (x5 < (x0.size : Int)) = true then (if decide (x5 < (x1.size : Int)) = true then (if 0 ≤ x5 then (if x5 < (x0.size : Int) then (if 0 ≤ x5 then (if x5 < (x1.size : Int) then (if decide (((x0.get! x5.toNat).toNat : Int) = ((x1.get! x5.toNat).toNat : Int)) = true then (impl_Beginning.l0 N n x0 x1 (IntKind.i64.wrap (x5 + 1))) else (if 0 ≤ x5 then (if x5 ≤ (x0.size : Int) then (some [(PV.sc (.string (x0.extract 0 x5.toNat)))]) else none) else none)) else none) else none) else none) else none) else (if 0 ≤ x5 then (if x5 ≤ (x0.size : Int) then (some [(PV.sc (.string (x0.extract 0 x5.toNat)))]) else none) else none)) else (if 0 ≤ x5 then (if x5 ≤ (x0.size : Int) then (some [(PV.sc (.string (x0.extract 0 x5.toNat)))]) else none) else none) := by kernel_rfl
noncomputable def impl_Beginning.S (N : Nat) : ASpec := ⟨[(9, .ro), (9, .ro)], [(9, .val)], impl_Beginning.f N⟩
theorem impl_Beginning.ok (N : Nat) : FnOk Tryz.prog 14 (impl_Beginning.S N) := fnOk_of (E := impl_Beginning.E N) mix Tryz.func14 (by kernel_rfl) (by kernel_rfl) (by kernel_rfl) (lk_ok all_nil) (by kernel_rfl) (fun _ _ h => h)

def laysM171_ren : Go.Shelf.Ren := ⟨fun | 171 => 16 | 243 => 33 | 246 => 51 | 283 => 66 | 284 => 67 | 285 => 68 | 286 => 69 | 129 => 81 | 317 => 80 | 318 => 82 | 319 => 83 | 320 => 84 | 337 => 96 | 338 => 97 | n => n, fun | 3 => 3 | 9 => 9 | 2 => 2 | 4 => 4 | 171 => 96 | 0 => 0 | 53 => 97 | 37 => 22 | 5 => 5 | 173 => 100 | 212 => 117 | 51 => 118 | 20 => 20 | 213 => 119 | 46 => 107 | 232 => 136 | 233 => 137 | n => n, fun | 17 => 2 | 18 => 6 | 19 => 7 | n => n⟩
theorem laysM171 : Go.Proofs.LaysM.n171 Tryz.prog laysM171_ren := {
  mixed := by kernel_rfl
  f129 := Tryz.func81.trans (congrArg some (by kernel_rfl))
  f171 := Tryz.func16.trans (congrArg some (by kernel_rfl))
  f243 := Tryz.func33.trans (congrArg some (by kernel_rfl))
  f246 := Tryz.func51.trans (congrArg some (by kernel_rfl))
  f283 := Tryz.func66.trans (congrArg some (by kernel_rfl))
  f284 := Tryz.func67.trans (congrArg some (by kernel_rfl))
  f285 := Tryz.func68.trans (congrArg some (by kernel_rfl))
  f286 := Tryz.func69.trans (congrArg some (by kernel_rfl))
  f317 := Tryz.func80.trans (congrArg some (by kernel_rfl))
  f318 := Tryz.func82.trans (congrArg some (by kernel_rfl))
  f319 := Tryz.func83.trans (congrArg some (by kernel_rfl))
  f320 := Tryz.func84.trans (congrArg some (by kernel_rfl))
  f337 := Tryz.func96.trans (congrArg some (by kernel_rfl))
  f338 := Tryz.func97.trans (congrArg some (by kernel_rfl))
  t0 := Tryz.underlying0
  a0 := Tryz.isAgg0
  z0 := Tryz.sizeOf0
  v0 := Tryz.zeroValue0
  t2 := Tryz.underlying2
  a2 := Tryz.isAgg2
  z2 := Tryz.sizeOf2
  v2 := Tryz.zeroValue2
  t3 := Tryz.underlying3
  a3 := Tryz.isAgg3
  z3 := Tryz.sizeOf3
  v3 := Tryz.zeroValue3
  t4 := Tryz.underlying4
  a4 := Tryz.isAgg4
  z4 := Tryz.sizeOf4
  v4 := Tryz.zeroValue4
  t5 := Tryz.underlying5
  a5 := Tryz.isAgg5
  z5 := Tryz.sizeOf5
  v5 := Tryz.zeroValue5
  t9 := Tryz.underlying9
  a9 := Tryz.isAgg9
  z9 := Tryz.sizeOf9
  v9 := Tryz.zeroValue9
  t20 := Tryz.underlying20
  a20 := Tryz.isAgg20
  z20 := Tryz.sizeOf20
  v20 := Tryz.zeroValue20
  t37 := Tryz.underlying22
  a37 := Tryz.isAgg22
  z37 := Tryz.sizeOf22
  v37 := Tryz.zeroValue22
  t46 := Tryz.underlying107
  a46 := Tryz.isAgg107
  z46 := Tryz.sizeOf107
  v46 := Tryz.zeroValue107
  t51 := Tryz.underlying118
  a51 := Tryz.isAgg118
  z51 := Tryz.sizeOf118
  v51 := Tryz.zeroValue118
  t53 := Tryz.underlying97
  a53 := Tryz.isAgg97
  z53 := Tryz.sizeOf97
  v53 := Tryz.zeroValue97
  t171 := Tryz.underlying96
  a171 := Tryz.isAgg96
  z171 := Tryz.sizeOf96
  v171 := Tryz.zeroValue96
  t173 := Tryz.underlying100
  a173 := Tryz.isAgg100
  z173 := Tryz.sizeOf100
  v173 := Tryz.zeroValue100
  t212 := Tryz.underlying117
  a212 := Tryz.isAgg117
  z212 := Tryz.sizeOf117
  v212 := Tryz.zeroValue117
  t213 := Tryz.underlying119
  a213 := Tryz.isAgg119
  z213 := Tryz.sizeOf119
  t232 := Tryz.underlying136
  a232 := Tryz.isAgg136
  z232 := Tryz.sizeOf136
  v232 := Tryz.zeroValue136
  t233 := Tryz.underlying137
  a233 := Tryz.isAgg137
  z233 := Tryz.sizeOf137
  v233 := Tryz.zeroValue137
  g17 := by kernel_rfl
  g18 := by kernel_rfl
  g19 := by kernel_rfl
  i0 := by kernel_rfl
  i2 := by kernel_rfl
  i3 := by kernel_rfl
  i4 := by kernel_rfl
  i5 := by kernel_rfl
  i9 := by kernel_rfl
  i20 := by kernel_rfl
  i37 := by kernel_rfl
  i46 := by kernel_rfl
  i51 := by kernel_rfl
  i53 := by kernel_rfl
  i171 := by kernel_rfl
  i173 := by kernel_rfl
  i212 := by kernel_rfl
  i232 := by kernel_rfl
  i233 := by kernel_rfl
  m17 := by kernel_rfl
  m18 := by kernel_rfl
  m19 := by kernel_rfl }

/-! ### strconv_Itoa: function 16, strconv.Itoa, by the kit's contract, Lib4 Lib7 -/
noncomputable def strconv_Itoa.f (N : Nat) (a : List PV) : Option (List PV) := itoaDen a
noncomputable def strconv_Itoa.S (N : Nat) : ASpec := ⟨[(3, .ro)], [(9, .val)], strconv_Itoa.f N⟩
theorem strconv_Itoa.ok (N : Nat) : FnOk Tryz.prog 16 (strconv_Itoa.S N) := fnOk_itoa laysM171 rfl ⟨_, Tryz.func16, by kernel_rfl, by kernel_rfl⟩ (fun ok w h => tab_of (g := 2) (by kernel_rfl) h (by simp)) (by kernel_rfl) (by kernel_rfl)

/-! ### impl_FrontPut: function 5, loop.example/medlar/impl.FrontPut, walked by hand -/
section
open Go.RowKit Go.Shelf Go.Proofs
def lays166_ren : Go.Shelf.Ren := ⟨fun | 166 => 15 | 240 => 32 | 276 => 50 | n => n, fun | 70 => 35 | 72 => 37 | 37 => 22 | 75 => 40 | 80 => 44 | 164 => 75 | n => n, fun | n => n⟩
theorem lays166 : Go.Proofs.Lays.n166 Tryz.prog lays166_ren := {
  mixed := by kernel_rfl
  f166 := Tryz.func15.trans (congrArg some (by kernel_rfl))
  f240 := Tryz.func32.trans (congrArg some (by kernel_rfl))
  f276 := Tryz.func50.trans (congrArg some (by kernel_rfl))
  t0 := Tryz.underlying0
  a0 := Tryz.isAgg0
  z0 := Tryz.sizeOf0
  v0 := Tryz.zeroValue0
  t3 := Tryz.underlying3
  a3 := Tryz.isAgg3
  z3 := Tryz.sizeOf3
  v3 := Tryz.zeroValue3
  t4 := Tryz.underlying4
  a4 := Tryz.isAgg4
  z4 := Tryz.sizeOf4
  v4 := Tryz.zeroValue4
  t9 := Tryz.underlying9
  a9 := Tryz.isAgg9
  z9 := Tryz.sizeOf9
  v9 := Tryz.zeroValue9
  t20 := Tryz.underlying20
  a20 := Tryz.isAgg20
  z20 := Tryz.sizeOf20
  v20 := Tryz.zeroValue20
  t37 := Tryz.underlying22
  a37 := Tryz.isAgg22
  z37 := Tryz.sizeOf22
  v37 := Tryz.zeroValue22
  t70 := Tryz.underlying35
  a70 := Tryz.isAgg35
  z70 := Tryz.sizeOf35
  v70 := Tryz.zeroValue35
  t72 := Tryz.underlying37
  a72 := Tryz.isAgg37
  z72 := Tryz.sizeOf37
  v72 := Tryz.zeroValue37
  t75 := Tryz.underlying40
  a75 := Tryz.isAgg40
  z75 := Tryz.sizeOf40
  v75 := Tryz.zeroValue40
  t164 := Tryz.underlying75
  a164 := Tryz.isAgg75
  z164 := Tryz.sizeOf75
  v164 := Tryz.zeroValue75 }
theorem Builder_Extra_166 : Go.Proofs.Builder.Extra Tryz.prog lays166_ren := {
  sizeBuilder := by kernel_rfl
  liesBuilder := by kernel_rfl
  t5 := Tryz.underlying5
  a5 := Tryz.isAgg5
  z5 := Tryz.sizeOf5
  v5 := Tryz.zeroValue5
  infoByte := by kernel_rfl
  cellsByte := by kernel_rfl
  sizeByte := by kernel_rfl
  neB5 := by decide }
def lays169_ren : Go.Shelf.Ren := ⟨fun | 169 => 17 | n => n, fun | 70 => 35 | 9 => 9 | 0 => 0 | 72 => 37 | 37 => 22 | 127 => 57 | 3 => 3 | 5 => 5 | n => n, fun | n => n⟩
theorem lays169 : Go.Proofs.Lays.n169 Tryz.prog lays169_ren := {
  mixed := by kernel_rfl
  f169 := Tryz.func17.trans (congrArg some (by kernel_rfl))
  t0 := Tryz.underlying0
  a0 := Tryz.isAgg0
  z0 := Tryz.sizeOf0
  v0 := Tryz.zeroValue0
  t3 := Tryz.underlying3
  a3 := Tryz.isAgg3
  z3 := Tryz.sizeOf3
  v3 := Tryz.zeroValue3
  t9 := Tryz.underlying9
  a9 := Tryz.isAgg9
  z9 := Tryz.sizeOf9
  v9 := Tryz.zeroValue9
  t37 := Tryz.underlying22
  a37 := Tryz.isAgg22
  z37 := Tryz.sizeOf22
  v37 := Tryz.zeroValue22
  t70 := Tryz.underlying35
  a70 := Tryz.isAgg35
  z70 := Tryz.sizeOf35
  v70 := Tryz.zeroValue35
  t72 := Tryz.underlying37
  a72 := Tryz.isAgg37
  z72 := Tryz.sizeOf37
  v72 := Tryz.zeroValue37
  t127 := Tryz.underlying57
  a127 := Tryz.isAgg57
  z127 := Tryz.sizeOf57
  v127 := Tryz.zeroValue57 }
theorem Builder_Extra_169 : Builder.Extra Tryz.prog lays169_ren := {
  sizeBuilder := by kernel_rfl
  liesBuilder := by kernel_rfl
  t5 := Tryz.underlying5
  a5 := Tryz.isAgg5
  z5 := Tryz.sizeOf5
  v5 := Tryz.zeroValue5
  infoByte := by kernel_rfl
  cellsByte := by kernel_rfl
  sizeByte := by kernel_rfl
  neB5 := by decide }

theorem own_below {W W' : World} {B sz n : Nat} {e : TypeId} {v : Value} {xs : List Value} (h : W.ownsRowF B e sz v n xs) (hb : Below W.heap.size W W') : W'.ownsRowF B e sz v n xs :=
  ⟨h.1, h.2.imp id fun ⟨g, cap, cur, fz, h1, h2, h3, h4⟩ => ⟨g, cap, cur, fz, h1, h2, (hb.block g (Array.getElem?_eq_some_iff.1 h3).1).trans h3, h4⟩⟩
theorem bld_below {T e : TypeId} {B b : Nat} {bs : List Value} {W W' : World} (h : Lib.IsBuilderF T e B b bs W) (hb : Below W.heap.size W W') : Lib.IsBuilderF T e B b bs W' := by
  have one : ∀ p, Lib.BuilderAtF T e B b p bs W → Lib.BuilderAtF T e B b p bs W' := fun p ⟨h0, v, h1, h2, h3⟩ =>
    ⟨h0, v, (hb.block b (Array.getElem?_eq_some_iff.1 h1).1).trans h1, own_below h2 hb, h3⟩
  exact h.elim (fun x => .inl (one _ x)) (fun x => .inr (one _ x))
theorem bld_drew {T e : TypeId} {B b : Nat} {bs : List Value} {W : World} (h : Lib.IsBuilderF T e B b bs W) : Lib.IsBuilderF T e B b bs W.drew := h.elim (fun x => .inl x.drew) (fun x => .inr x.drew)
theorem wrap64_id (x : Int) (h0 : -9223372036854775808 ≤ x) (h1 : x < 9223372036854775808) : wrap64 x = x := by
  unfold wrap64; omega
theorem below_undrew {W W' : World} (h : Below W.drew.heap.size W.drew W') : Below W.heap.size W W' := ⟨h.os, h.tape, h.output, h.size, h.block⟩
theorem less_next {n i : Nat} (h : i < n) : n - ((i + 1 : Nat) : Int).toNat < n - ((i : Nat) : Int).toNat := by
  rw [Int.toNat_natCast, Int.toNat_natCast]; omega
theorem next_id {n i : Nat} (h : i < n) (hn : n ≤ 1099511627776) : wrap64 ((i : Int) + 1) = ((i + 1 : Nat) : Int) := by
  rw [wrap64_id _ (by omega) (by omega)]; omega
theorem acc_cells (a l : ByteArray) : Lib.byteCells (a ++ l).data.toList = Lib.byteCells a.data.toList ++ Lib.strCells l := by
  rw [Lib.strCells_eq, ← Lib.byteCells_append]
  simp [ByteArray.data_append]
theorem strs_items_len (ns : List ByteArray) : (strsP ns).items.length = ns.length := by simp [strsP, PV.items]
theorem wr_ok (B b : Nat) (bs : List Value) (s : ByteArray) (w : World) (h : Lib.IsBuilderF 37 5 B b bs w) (hlen : bs.length + s.size ≤ 140737488355328) (hBw : B ≤ w.heap.size) :
    Calls Tryz.prog 15 #[.pointer (some ⟨b, 0, none⟩), .string s] w fun e w' => e = .returned (.tuple #[.int .i64 s.size, .nilIface]) ∧ Lib.IsBuilderF 37 5 B b (bs ++ Lib.strCells s) w' ∧ Below B w w' :=
  (Any.Builder_WriteString_f lays166 Builder_Extra_166 B b bs s w h hlen hBw).mono fun e w' ⟨h1, h2, h3⟩ => ⟨h1, .inr h2, h3⟩
theorem st_ok (B b : Nat) (l : List UInt8) (w : World) (h : Lib.IsBuilderF 37 5 B b (Lib.byteCells l) w) (hBw : B ≤ w.heap.size) :
    Calls Tryz.prog 17 #[.pointer (some ⟨b, 0, none⟩)] w fun e w' => e = .returned (.string ⟨l.toArray⟩) ∧ Below B w w' :=
  (Any.Builder_String_any_f lays169 Builder_Extra_169 B b l w h hBw).mono fun e w' ⟨h1, _, h3⟩ => ⟨h1, h3⟩
theorem rd_strsV {P : Program} [Glb P] {ok : Nat → Prop} {w : World} {t e : TypeId} {p : PV} {v : Value} (h : RdV P ok w t p v) (ht : tk P t = .slice e) (he : tk P e = .str) :
    ∃ A cap ns, v = .slice A ns.length cap ∧ p = strsP ns ∧ ns.length ≤ cap ∧ (0 < ns.length → ∃ ad, A = some ad ∧ ok ad.block ∧ ∀ j s, ns[j]? = some s → w.cell? (ad.add j) = some (.string s)) := by
  obtain ⟨n, cs, h1, h2⟩ := h
  cases n with
  | zero => exact h1.elim
  | succ n =>
    unfold Rd at h1
    simp only [ht] at h1
    obtain ⟨A, cap, ps, rfl, rfl, hc, hr⟩ := h1
    rw [valOf_one (fun fs => by rw [ht]; simp)] at h2
    have hsz : YtpnbhcifhbnaaaaGreatDoorAm.sizeOf P e = 1 := by
      have := tk_size (P := P) (t := e) (by rw [he]; simp)
      rw [this, he]; rfl
    have hps : 0 < ps.length → ∃ ad, A = some ad ∧ ok ad.block ∧ ∀ j q, ps[j]? = some q → ∃ s, q = strP s ∧ w.cell? (ad.add j) = some (.string s) := fun h0 => by
      obtain ⟨ad, a1, a2, a3⟩ := hr h0
      refine ⟨ad, a1, a2, fun j q hj => ?_⟩
      obtain ⟨c, c1, c2, c3⟩ := a3 j q hj
      cases n with
      | zero => exact c3.elim
      | succ n =>
        unfold Rd at c3
        simp only [he] at c3
        obtain ⟨s, rfl, rfl⟩ := c3
        refine ⟨s, rfl, ?_⟩
        have := c2 0 (.string s) rfl
        rw [hsz] at this
        simpa using this
    have hall : ∀ q ∈ ps, ∃ s, q = strP s := fun q hq => by
      obtain ⟨j, hj, hjq⟩ := List.getElem_of_mem hq
      obtain ⟨ad, _, _, h3⟩ := hps (by omega)
      obtain ⟨s, hs, _⟩ := h3 j q (by rw [List.getElem?_eq_getElem hj, hjq])
      exact ⟨s, hs⟩
    have hmap : (ps.map PV.toStr).map strP = ps := by
      rw [List.map_map]
      conv => rhs; rw [← List.map_id ps]
      apply List.map_congr_left
      intro q hq
      obtain ⟨s, rfl⟩ := hall q hq
      rfl
    refine ⟨A, cap, ps.map PV.toStr, by rw [h2, List.length_map], by rw [strsP, hmap], by rw [List.length_map]; exact hc, fun h0 => ?_⟩
    rw [List.length_map] at h0
    obtain ⟨ad, a1, a2, a3⟩ := hps h0
    refine ⟨ad, a1, a2, fun j s hj => ?_⟩
    rw [List.getElem?_map] at hj
    cases hq : ps[j]? with
    | none => rw [hq] at hj; cases hj
    | some q =>
      rw [hq] at hj
      obtain ⟨s', rfl, h4⟩ := a3 j q hq
      simp only [Option.map_some] at hj
      injection hj with hj
      have : s' = s := hj
      rw [← this]; exact h4
noncomputable def impl_FrontPut.g (N : Nat) : List ByteArray → ByteArray → ByteArray → Option ByteArray
  | [], _, acc => some acc
  | w :: r, last, acc => (impl_Beginning.f N [strP last, strP w]).bind fun t =>
      if (t.headD default).toStr.size ≤ w.size ∧ (t.headD default).toStr.size ≤ 1099511627776 then
        (if acc.size + (itoaB ((t.headD default).toStr.size : Int) ++ w.extract (t.headD default).toStr.size w.size ++ ByteArray.mk #[10]).size ≤ 140737488355328 then impl_FrontPut.g N r w (acc ++ (itoaB ((t.headD default).toStr.size : Int) ++ w.extract (t.headD default).toStr.size w.size ++ ByteArray.mk #[10])) else none) else none
noncomputable def impl_FrontPut.f (N : Nat) (a : List PV) : Option (List PV) := match a with
  | [a0] => if a0.items.length ≤ 1099511627776 then (impl_wordsOk.f N [a0, intP 300]).bind fun t => if (!((t.headD default).toBool)) = true then some [strP ⟨#[]⟩] else (impl_FrontPut.g N (a0.items.map PV.toStr) ⟨#[]⟩ ⟨#[]⟩).bind fun s => some [strP s] else none
  | _ => none
noncomputable def impl_FrontPut.S (N : Nat) : ASpec := ⟨[(23, .ro)], [(9, .val)], impl_FrontPut.f N⟩
theorem below_step {w w' : World} (h : Step w w' (fun k => k ∈ ([] : List Nat))) : Below w.heap.size w w' := ⟨h.os, h.tape, h.output, h.size, fun k hk => h.block k hk (by simp)⟩
set_option maxHeartbeats 8000000 in
theorem impl_FrontPut.ok (N : Nat) : FnOk Tryz.prog 5 (impl_FrontPut.S N) := by
  refine ⟨⟨_, Tryz.func5, by kernel_rfl, by kernel_rfl⟩, fun w ok vs ps F L outs hglb ha hnd hok hd => ?_⟩
  match vs, ps, ha with
  | [], _, h => exact absurd h (by simp [ArgsAt, impl_FrontPut.S])
  | _ :: _ :: _, [], h => exact absurd h (by simp [ArgsAt, impl_FrontPut.S])
  | _ :: _ :: _, _ :: _, h => exact absurd h (by simp [ArgsAt, impl_FrontPut.S])
  | [_], [], h => exact absurd h (by simp [ArgsAt, impl_FrontPut.S])
  | [_], _ :: _ :: _, h => exact absurd h (by simp [ArgsAt, impl_FrontPut.S])
  | [v], [p], ⟨hr, hF, hL⟩ =>
    subst hF hL
    have ht : tk Tryz.prog 23 = .slice 9 := by kernel_rfl
    have he : tk Tryz.prog 9 = .str := by kernel_rfl
    obtain ⟨A, cap, ns, rfl, rfl, hcap, hcell⟩ := rd_strsV hr ht he
    have hit : (strsP ns).items.map PV.toStr = ns := by simp [strsP, PV.items, Function.comp_def, PV.toStr]
    have hd' : (if (strsP ns).items.length ≤ 1099511627776 then (impl_wordsOk.f N [strsP ns, intP 300]).bind fun t => if (!((t.headD default).toBool)) = true then some [strP ⟨#[]⟩] else (impl_FrontPut.g N ((strsP ns).items.map PV.toStr) ⟨#[]⟩ ⟨#[]⟩).bind fun s => some [strP s] else none) = some outs := hd
    split at hd'
    case isFalse => cases hd'
    rename_i hlen
    rw [hit] at hd'
    cases h1 : impl_wordsOk.f N [strsP ns, intP 300] with
    | none => rw [h1] at hd'; cases hd'
    | some t1 =>
      rw [h1, Option.bind_some] at hd'
      have c1 := (impl_wordsOk.ok N).2 w ok [.slice A ns.length cap, .int .i64 300] [strsP ns, intP 300] [] [] t1 hglb ⟨hr, rdV_of (by kernel_rfl), rfl, rfl⟩ (by simp) (by simp) h1
      have hw : ∀ w', Step w w' (fun k => k ∈ ([] ++ ([] : List Row).flatMap (·.ft) : List Nat)) → Below w.heap.size w w' := fun w' h => ⟨h.os, h.tape, h.output, h.size, fun k hk => h.block k hk (by simp)⟩
      have fin : ∀ (s : ByteArray) (w' : World), outs = [strP s] → Below w.heap.size w w' → ∃ v, Ending.returned (.string s) = .returned v ∧ FnPost Tryz.prog ok w w' (impl_FrontPut.S N).res outs [] ([] ++ ([] : List Row).flatMap (·.ft)) v := fun s w' ho hb => by
        subst ho
        exact ⟨_, rfl, [.string s], [], [], rfl, ⟨rdV_of (by kernel_rfl), rfl, rfl⟩, rfl, by simp, by simp, ⟨hb.os, hb.tape, hb.output, hb.size, fun k hk _ => hb.block k hk⟩⟩
      have hbool : ∃ b : Bool, (t1.headD default).toBool = b := ⟨_, rfl⟩
      obtain ⟨b, hb⟩ := hbool
      have c1' : Calls Tryz.prog 13 #[.slice A ns.length cap, .int .i64 300] w fun e w' => e = .returned (.bool b) ∧ Below w.heap.size w w' := by
        refine Calls.mono c1 ?_
        rintro e w' ⟨v, rfl, vs, F, Gs, rfl, hres, _, _, _, hst⟩
        refine ⟨?_, hw w' hst⟩
        match vs, hres with
        | [x], ⟨hx, _⟩ =>
          obtain ⟨hx1, hx2⟩ := rdV_scal (P := Tryz.prog) (t := 4) (by kernel_rfl) hx
          rw [hx1] at hb
          have hk4 : tk Tryz.prog 4 = .bool := by kernel_rfl
          unfold kindB at hx2
          rw [hk4] at hx2
          cases x <;> simp at hx2
          rename_i b'
          have : b' = b := hb
          rw [this]; rfl
        | [], h => exact h.elim
        | _ :: _ :: _, ⟨_, h, _⟩ => cases h
      have hglb' : ∀ wx, Below w.heap.size w wx → Glb.holds (P := Tryz.prog) ok wx := fun wx hx => Glb.step hglb hx.size (fun k hk ho => ⟨ho, hx.block k hk⟩)
      have hstr : ∀ (f : FuncId) (wx : World) (params : List (TypeId × YtpnbhcifhbnaaaaGreatDoorAm.Mode)) (den : List PV → Option (List PV)) (vs : List Value) (t : List PV), FnOk Tryz.prog f ⟨params, [(9, .val)], den⟩ → Below w.heap.size w wx → ArgsAt Tryz.prog ok wx params vs (vs.map PV.sc) [] [] → den (vs.map PV.sc) = some t →
          Calls Tryz.prog f vs.toArray wx fun e w' => e = .returned (.string (t.headD default).toStr) ∧ Below wx.heap.size wx w' := fun f wx params den vs t hf hx hargs hden => by
        have c := hf.2 wx ok vs (vs.map PV.sc) [] [] t (hglb' wx hx) hargs (by simp) (by simp) hden
        refine Calls.mono c ?_
        rintro e w' ⟨v, rfl, vs, F, Gs, rfl, hres, _, _, _, hst⟩
        refine ⟨?_, ⟨hst.os, hst.tape, hst.output, hst.size, fun k hk => hst.block k hk (by simp)⟩⟩
        match vs, hres with
        | [x], ⟨hx, _⟩ =>
          obtain ⟨hx1, hx2⟩ := rdV_scal (P := Tryz.prog) (t := 9) (by kernel_rfl) hx
          rw [hx1]
          unfold kindB at hx2
          rw [he] at hx2
          cases x <;> simp at hx2
          rfl
        | [], h => exact h.elim
        | _ :: _ :: _, ⟨_, h, _⟩ => cases h
      cases b with
      | false =>
        have ho : outs = [strP ⟨#[]⟩] := by
          rw [hb] at hd'
          simpa using hd'.symm
        go_enter Tryz.func5, Tryz.ntmps5
        go_wp2_with (go_at_call 13; refine c1'.mono ?_)
        rintro e W1 ⟨rfl, b1⟩
        go_wp2
        go_ret
        exact fin _ _ ho b1
      | true =>
        rw [hb] at hd'
        simp only [Bool.not_true, Bool.false_eq_true, if_false] at hd'
        cases hg : impl_FrontPut.g N ns ⟨#[]⟩ ⟨#[]⟩ with
        | none => rw [hg] at hd'; cases hd'
        | some sOut =>
          rw [hg] at hd'
          have ho : outs = [strP sOut] := by simpa using hd'.symm
          go_enter Tryz.func5, Tryz.ntmps5
          go_wp2_with (go_at_call 13; refine c1'.mono ?_)
          rintro e W1 ⟨rfl, b1⟩
          have h0 : Lib.IsBuilderF 37 5 W1.heap.size W1.heap.size (Lib.byteCells []) (W1.alloc (.cells #[.pointer none, .slice none 0 0] 37)) := Lib.IsBuilderF.of (Lib.fresh_isBuilder 37 5 W1)
          have b0 : Below W1.heap.size W1 (W1.alloc (.cells #[.pointer none, .slice none 0 0] 37)) := (Below.refl _ W1).alloc (Nat.le_refl _) _
          go_wp2
          go_loopw [4, 15] (fun t4 t15 wr => ∃ (i : Nat) (last acc : ByteArray), t4 = .string last ∧ t15 = .int .i64 (i : Int) ∧ i ≤ ns.length ∧ Lib.IsBuilderF 37 5 W1.heap.size W1.heap.size (Lib.byteCells acc.data.toList) wr ∧ Below W1.heap.size W1 wr ∧ impl_FrontPut.g N (ns.drop i) last acc = some sOut)
            (fun t4 t15 _ => ns.length - (match t15 with | .int _ n => n.toNat | _ => 0))
          case atStart => exact ⟨0, ⟨#[]⟩, ⟨#[]⟩, rfl, rfl, Nat.zero_le _, h0, b0, hg⟩
          case round =>
            obtain ⟨i, last, acc, rfl, rfl, hi, hI, hB, hgi⟩ := hrel
            have hWr : Below w.heap.size w wr := b1.trans (hB.mono b1.size)
            have hszr := hB.size
            by_cases hlt : i < ns.length
            · have hdrop : ns.drop i = ns[i] :: ns.drop (i + 1) := List.drop_eq_getElem_cons hlt
              obtain ⟨x, hx⟩ : ∃ x, x = ns[i] := ⟨_, rfl⟩
              rw [← hx] at hdrop
              have hx' : ns[i]? = some x := by rw [List.getElem?_eq_getElem hlt, hx]
              rw [hdrop, impl_FrontPut.g] at hgi
              cases hbg : impl_Beginning.f N [strP last, strP x] with
              | none => rw [hbg] at hgi; cases hgi
              | some t =>
                rw [hbg, Option.bind_some] at hgi
                split at hgi
                case isFalse => cases hgi
                rename_i hle2
                obtain ⟨hle, hkb⟩ := hle2
                split at hgi
                case isFalse => cases hgi
                rename_i hroom
                obtain ⟨k, hk⟩ : ∃ k, k = (t.headD default).toStr := ⟨_, rfl⟩
                rw [← hk] at hle hkb hroom hgi
                obtain ⟨ad, rfl, hadok, hcells⟩ := hcell (by omega)
                have hc0 := hcells i x hx'
                have hadlt : (ad.add i).block < w.heap.size := World.block_lt_of_cell? _ _ hc0
                have hcr : wr.cell? (ad.add i) = some (.string x) := (hWr.cell hadlt).trans hc0
                have cB := hstr 14 wr [(9, .ro), (9, .ro)] (impl_Beginning.f N) [.string last, .string x] t (impl_Beginning.ok N) hWr ⟨rdV_of (by kernel_rfl), rdV_of (by kernel_rfl), rfl, rfl⟩ hbg
                have cI : Hid (∀ wx, Below w.heap.size w wx → Calls Tryz.prog 16 #[.int .i64 (k.size : Int)] wx fun e w' => e = .returned (.string (itoaB (k.size : Int))) ∧ Below wx.heap.size wx w') := fun wx hwx => by
                  have hkb2 : -9223372036854775808 ≤ (k.size : Int) ∧ (k.size : Int) ≤ 9223372036854775807 := by omega
                  exact hstr 16 wx [(3, .ro)] (strconv_Itoa.f N) [.int .i64 (k.size : Int)] [strP (itoaB (k.size : Int))] (strconv_Itoa.ok N) hwx ⟨rdV_of (by kernel_rfl), rfl, rfl⟩ (if_pos hkb2)
                rw [← hk] at cB
                have HI : Hid (Lib.IsBuilderF 37 5 W1.heap.size W1.heap.size (Lib.byteCells acc.data.toList) wr) := hI
                have HG : Hid (impl_FrontPut.g N (ns.drop (i + 1)) x (acc ++ (itoaB (k.size : Int) ++ x.extract k.size x.size ++ ByteArray.mk #[10])) = some sOut) := hgi
                have HO : Hid (outs = [strP sOut]) := ho
                have HF : Hid (∀ (s : ByteArray) (w' : World), outs = [strP s] → Below w.heap.size w w' → ∃ v, Ending.returned (.string s) = .returned v ∧ FnPost Tryz.prog ok w w' (impl_FrontPut.S N).res outs [] ([] ++ ([] : List Row).flatMap (·.ft)) v) := fin
                have hrs : acc.size + ((itoaB (k.size : Int)).size + (x.size - k.size) + 1) ≤ 140737488355328 := by
                  have h := hroom
                  rw [ByteArray.size_append, ByteArray.size_append, ByteArray.size_extract, Nat.min_self] at h
                  exact h
                have hs1 : ¬ 9223372036854775807 < (itoaB (k.size : Int)).size + (x.size - k.size) := by omega
                have hs2 : ¬ 9223372036854775807 < (itoaB (k.size : Int)).size + (x.size - k.size) + 1 := by omega
                have HR : Hid (acc.size + (itoaB (k.size : Int) ++ x.extract k.size x.size ++ ByteArray.mk #[10]).size ≤ 140737488355328) := hroom
                have HC : Hid (0 < ns.length → ∃ ad', some ad = some ad' ∧ ok ad'.block ∧ ∀ (j : Nat) (s : ByteArray), ns[j]? = some s → w.cell? (ad'.add j) = some (.string s)) := hcell
                have hilt : (i : Int) < (ns.length : Int) := by omega
                clear hI hgi ho fin hroom hcell hcells hc0 hbg hstr hglb' hd' hd hg c1' c1 h1 hb hw hnd hok ha hr hglb h0 b0 hdrop hx hx' hit
                clear hk
                have hleI : (k.size : Int) ≤ (x.size : Int) := by omega
                go_wp2_with (go_at_call 14; refine cB.mono ?_)
                rintro e W2 ⟨rfl, b2⟩
                have hW2 : Below w.heap.size w W2 := hWr.trans (b2.mono hWr.size)
                go_wp2
                have HI2 : Hid (Lib.IsBuilderF 37 5 W1.heap.size W1.heap.size (Lib.byteCells acc.data.toList) W2.drew) := bld_drew (bld_below HI.out b2)
                have hcl : (Lib.byteCells acc.data.toList).length = acc.size := by rw [Lib.byteCells_length]; exact Array.length_toList (xs := acc.data)
                go_region_held3 (fun W => Below w.heap.size w W) (first | exact hW2.drew | assumption) (first | (go_at_call 16; refine (cI.out _ (by exact hW2.drew)).mono ?_; rintro e W3 ⟨rfl, b3⟩; have hW3 : Below w.heap.size w W3 := hW2.drew.trans (b3.mono hW2.drew.size)) | (go_at_call 15; refine (wr_ok W1.heap.size W1.heap.size _ _ _ (bld_below HI2.out b3) (by rw [hcl]; exact HR.out) (Nat.le_trans hszr (Nat.le_trans b2.size b3.size))).mono ?_; rintro e W4 ⟨rfl, h4, b4⟩; have hW4 : Below w.heap.size w W4 := hW3.trans (b4.mono b1.size)))
                go_wp2
                have hnl : ns.length ≤ 1099511627776 := by rw [← strs_items_len]; exact hlen
                rw [next_id hlt hnl]
                refine ⟨⟨i + 1, x, acc ++ (itoaB (k.size : Int) ++ x.extract k.size x.size ++ ByteArray.mk #[10]), rfl, rfl, hlt, ?_, ?_, HG.out⟩, less_next hlt⟩
                · rw [acc_cells]; exact h4
                · exact hB.trans ((b2.mono hszr).trans ((Below.mono (below_undrew b3) (Nat.le_trans hszr b2.size)).trans b4))
            · have hin : i = ns.length := by omega
              subst hin
              have hdn : ns.drop ns.length = [] := List.drop_length
              have hgi2 : some acc = some sOut := by rw [hdn] at hgi; exact hgi
              injection hgi2 with hgi2
              subst hgi2
              go_wp2_with (go_at_call 17; refine (st_ok W1.heap.size W1.heap.size acc.data.toList _ hI hszr).mono ?_)
              rintro e W5 ⟨rfl, b5⟩
              go_wp2
              go_ret
              exact fin acc W5 ho (hWr.trans (b5.mono b1.size))

end

def lays146_ren : Go.Shelf.Ren := ⟨fun | 146 => 34 | 221 => 52 | 268 => 70 | 138 => 71 | 143 => 72 | 195 => 85 | 197 => 54 | 218 => 86 | 219 => 87 | 260 => 73 | 217 => 98 | 225 => 91 | 224 => 90 | 267 => 99 | 266 => 102 | 314 => 103 | n => n, fun | 9 => 9 | 31 => 23 | 3 => 3 | 4 => 4 | 0 => 0 | 105 => 80 | 21 => 21 | 5 => 5 | 46 => 107 | 119 => 123 | 139 => 126 | 138 => 125 | 146 => 138 | 51 => 118 | n => n, fun | 1 => 5 | 3 => 3 | 4 => 4 | n => n⟩
theorem lays146 : Go.Proofs.Lays.n146 Tryz.prog lays146_ren := {
  mixed := by kernel_rfl
  f138 := Tryz.func71.trans (congrArg some (by kernel_rfl))
  f143 := Tryz.func72.trans (congrArg some (by kernel_rfl))
  f146 := Tryz.func34.trans (congrArg some (by kernel_rfl))
  f195 := Tryz.func85.trans (congrArg some (by kernel_rfl))
  f197 := Tryz.func54.trans (congrArg some (by kernel_rfl))
  f217 := Tryz.func98.trans (congrArg some (by kernel_rfl))
  f218 := Tryz.func86.trans (congrArg some (by kernel_rfl))
  f219 := Tryz.func87.trans (congrArg some (by kernel_rfl))
  f221 := Tryz.func52.trans (congrArg some (by kernel_rfl))
  f224 := Tryz.func90.trans (congrArg some (by kernel_rfl))
  f225 := Tryz.func91.trans (congrArg some (by kernel_rfl))
  f260 := Tryz.func73.trans (congrArg some (by kernel_rfl))
  f266 := Tryz.func102.trans (congrArg some (by kernel_rfl))
  f267 := Tryz.func99.trans (congrArg some (by kernel_rfl))
  f268 := Tryz.func70.trans (congrArg some (by kernel_rfl))
  f314 := Tryz.func103.trans (congrArg some (by kernel_rfl))
  t0 := Tryz.underlying0
  a0 := Tryz.isAgg0
  z0 := Tryz.sizeOf0
  v0 := Tryz.zeroValue0
  t3 := Tryz.underlying3
  a3 := Tryz.isAgg3
  z3 := Tryz.sizeOf3
  v3 := Tryz.zeroValue3
  t4 := Tryz.underlying4
  a4 := Tryz.isAgg4
  z4 := Tryz.sizeOf4
  v4 := Tryz.zeroValue4
  t5 := Tryz.underlying5
  a5 := Tryz.isAgg5
  z5 := Tryz.sizeOf5
  v5 := Tryz.zeroValue5
  t9 := Tryz.underlying9
  a9 := Tryz.isAgg9
  z9 := Tryz.sizeOf9
  v9 := Tryz.zeroValue9
  t21 := Tryz.underlying21
  a21 := Tryz.isAgg21
  z21 := Tryz.sizeOf21
  v21 := Tryz.zeroValue21
  t31 := Tryz.underlying23
  a31 := Tryz.isAgg23
  z31 := Tryz.sizeOf23
  v31 := Tryz.zeroValue23
  t46 := Tryz.underlying107
  a46 := Tryz.isAgg107
  z46 := Tryz.sizeOf107
  v46 := Tryz.zeroValue107
  t51 := Tryz.underlying118
  a51 := Tryz.isAgg118
  z51 := Tryz.sizeOf118
  v51 := Tryz.zeroValue118
  t105 := Tryz.underlying80
  a105 := Tryz.isAgg80
  z105 := Tryz.sizeOf80
  v105 := Tryz.zeroValue80
  t119 := Tryz.underlying123
  a119 := Tryz.isAgg123
  z119 := Tryz.sizeOf123
  t138 := Tryz.underlying125
  a138 := Tryz.isAgg125
  z138 := Tryz.sizeOf125
  v138 := Tryz.zeroValue125
  t139 := Tryz.underlying126
  a139 := Tryz.isAgg126
  z139 := Tryz.sizeOf126
  v139 := Tryz.zeroValue126
  t146 := Tryz.underlying138
  a146 := Tryz.isAgg138
  z146 := Tryz.sizeOf138
  v146 := Tryz.zeroValue138
  g1 := by kernel_rfl
  g3 := by kernel_rfl
  g4 := by kernel_rfl }

/-! ### strings_Split: function 34, strings.Split, by the kit's contract, Lib1 Lib4 Lib5 Lib6 -/
noncomputable def strings_Split.f (N : Nat) (a : List PV) : Option (List PV) := splitDen a
noncomputable def strings_Split.S (N : Nat) : ASpec := ⟨[(9, .ro), (9, .ro)], [(23, .own)], strings_Split.f N⟩
theorem strings_Split.ok (N : Nat) : FnOk Tryz.prog 34 (strings_Split.S N) := fnOk_split (e := 9) lays146 rfl ⟨_, Tryz.func34, by kernel_rfl, by kernel_rfl⟩ (fun ok w h => fact_of (g := 5) h (by simp)) (by kernel_rfl) (by kernel_rfl) (by kernel_rfl) (by kernel_rfl) (by kernel_rfl)

/-! ### impl_linesOf: function 18, loop.example/medlar/impl.linesOf -/
noncomputable def impl_linesOf.E (N : Nat) : Env := ⟨lk [(34, strings_Split.S N)], nzk [], N, [], false⟩
noncomputable def impl_linesOf.f (N : Nat) (a : List PV) : Option Res := run Tryz.prog (impl_linesOf.E N) Tryz.f18 [(9, .ro)] [(23, .own)] a
theorem impl_linesOf.f_eq (N : Nat) (a0 : PV) : impl_linesOf.f N [a0] = (strings_Split.f N [(PV.sc (.string a0.toStr)), (PV.sc (.string (ByteArray.mk #[10])))]).bind fun t1 => if 0 ≤ (IntKind.i64.wrap ((((t1.headD default).items).length : Int) - 1)) then (if (IntKind.i64.wrap ((((t1.headD default).items).length : Int) - 1)) ≤ (((t1.headD default).items).length : Int) then (some [(PV.list (((t1.headD default).items).take ((IntKind.i64.wrap ((((t1.headD default).items).length : Int) - 1)).toNat)))]) else none) else none := by kernel_rfl
noncomputable def impl_linesOf.S (N : Nat) : ASpec := ⟨[(9, .ro)], [(23, .own)], impl_linesOf.f N⟩
theorem impl_linesOf.ok (N : Nat) : FnOk Tryz.prog 18 (impl_linesOf.S N) := fnOk_of (E := impl_linesOf.E N) mix Tryz.func18 (by kernel_rfl) (by kernel_rfl) (by kernel_rfl) (lk_ok (all_cons (strings_Split.ok N) all_nil)) (by kernel_rfl) (fun _ _ h => h)

def lays161_ren : Go.Shelf.Ren := ⟨fun | 161 => 19 | 231 => 35 | 227 => 36 | 233 => 37 | 235 => 38 | 228 => 53 | 197 => 54 | 151 => 55 | 260 => 73 | 152 => 74 | 137 => 88 | 119 => 89 | 224 => 90 | 225 => 91 | 217 => 98 | 266 => 102 | n => n, fun | 9 => 9 | 4 => 4 | 3 => 3 | 5 => 5 | 117 => 62 | 116 => 61 | 0 => 0 | 124 => 65 | 105 => 80 | 21 => 21 | 119 => 123 | 46 => 107 | 139 => 126 | 138 => 125 | n => n, fun | 3 => 3 | 4 => 4 | n => n⟩
theorem lays161 : Go.Proofs.Lays.n161 Tryz.prog lays161_ren := {
  mixed := by kernel_rfl
  f119 := Tryz.func89.trans (congrArg some (by kernel_rfl))
  f137 := Tryz.func88.trans (congrArg some (by kernel_rfl))
  f151 := Tryz.func55.trans (congrArg some (by kernel_rfl))
  f152 := Tryz.func74.trans (congrArg some (by kernel_rfl))
  f161 := Tryz.func19.trans (congrArg some (by kernel_rfl))
  f197 := Tryz.func54.trans (congrArg some (by kernel_rfl))
  f217 := Tryz.func98.trans (congrArg some (by kernel_rfl))
  f224 := Tryz.func90.trans (congrArg some (by kernel_rfl))
  f225 := Tryz.func91.trans (congrArg some (by kernel_rfl))
  f227 := Tryz.func36.trans (congrArg some (by kernel_rfl))
  f228 := Tryz.func53.trans (congrArg some (by kernel_rfl))
  f231 := Tryz.func35.trans (congrArg some (by kernel_rfl))
  f233 := Tryz.func37.trans (congrArg some (by kernel_rfl))
  f235 := Tryz.func38.trans (congrArg some (by kernel_rfl))
  f260 := Tryz.func73.trans (congrArg some (by kernel_rfl))
  f266 := Tryz.func102.trans (congrArg some (by kernel_rfl))
  t0 := Tryz.underlying0
  a0 := Tryz.isAgg0
  z0 := Tryz.sizeOf0
  v0 := Tryz.zeroValue0
  t3 := Tryz.underlying3
  a3 := Tryz.isAgg3
  z3 := Tryz.sizeOf3
  v3 := Tryz.zeroValue3
  t4 := Tryz.underlying4
  a4 := Tryz.isAgg4
  z4 := Tryz.sizeOf4
  v4 := Tryz.zeroValue4
  t5 := Tryz.underlying5
  a5 := Tryz.isAgg5
  z5 := Tryz.sizeOf5
  v5 := Tryz.zeroValue5
  t9 := Tryz.underlying9
  a9 := Tryz.isAgg9
  z9 := Tryz.sizeOf9
  v9 := Tryz.zeroValue9
  t21 := Tryz.underlying21
  a21 := Tryz.isAgg21
  z21 := Tryz.sizeOf21
  v21 := Tryz.zeroValue21
  t46 := Tryz.underlying107
  a46 := Tryz.isAgg107
  z46 := Tryz.sizeOf107
  v46 := Tryz.zeroValue107
  t105 := Tryz.underlying80
  a105 := Tryz.isAgg80
  z105 := Tryz.sizeOf80
  v105 := Tryz.zeroValue80
  t116 := Tryz.underlying61
  a116 := Tryz.isAgg61
  z116 := Tryz.sizeOf61
  t117 := Tryz.underlying62
  a117 := Tryz.isAgg62
  z117 := Tryz.sizeOf62
  v117 := Tryz.zeroValue62
  t119 := Tryz.underlying123
  a119 := Tryz.isAgg123
  z119 := Tryz.sizeOf123
  t124 := Tryz.underlying65
  a124 := Tryz.isAgg65
  z124 := Tryz.sizeOf65
  v124 := Tryz.zeroValue65
  t138 := Tryz.underlying125
  a138 := Tryz.isAgg125
  z138 := Tryz.sizeOf125
  v138 := Tryz.zeroValue125
  t139 := Tryz.underlying126
  a139 := Tryz.isAgg126
  z139 := Tryz.sizeOf126
  v139 := Tryz.zeroValue126
  g3 := by kernel_rfl
  g4 := by kernel_rfl }

/-! ### strings_TrimLeft: function 19, strings.TrimLeft, by the kit's contract, Lib4 Lib9 -/
noncomputable def strings_TrimLeft.f (N : Nat) (a : List PV) : Option (List PV) := trimDen a
noncomputable def strings_TrimLeft.S (N : Nat) : ASpec := ⟨[(9, .ro), (9, .ro)], [(9, .val)], strings_TrimLeft.f N⟩
theorem strings_TrimLeft.ok (N : Nat) : FnOk Tryz.prog 19 (strings_TrimLeft.S N) := fnOk_trim lays161 rfl ⟨_, Tryz.func19, by kernel_rfl, by kernel_rfl⟩ (by kernel_rfl) (by kernel_rfl) (by kernel_rfl)

def laysC172_ren : Go.Shelf.Ren := ⟨fun | 172 => 20 | 244 => 39 | 245 => 40 | 247 => 56 | 279 => 57 | 280 => 58 | 281 => 59 | 282 => 60 | 287 => 75 | 316 => 76 | 171 => 16 | 205 => 77 | 321 => 92 | 322 => 93 | 243 => 33 | 246 => 51 | 283 => 66 | 284 => 67 | 285 => 68 | 286 => 69 | 129 => 81 | 317 => 80 | 318 => 82 | 319 => 83 | 320 => 84 | 337 => 96 | 338 => 97 | n => n, fun | 9 => 9 | 3 => 3 | 75 => 40 | 76 => 41 | 4 => 4 | 5 => 5 | 167 => 83 | 37 => 22 | 0 => 0 | 85 => 84 | 2 => 2 | 168 => 86 | 53 => 97 | 175 => 105 | 46 => 107 | 210 => 110 | 127 => 57 | 145 => 131 | 143 => 129 | 21 => 21 | 171 => 96 | 173 => 100 | 212 => 117 | 51 => 118 | 20 => 20 | 213 => 119 | 232 => 136 | 233 => 137 | 80 => 44 | n => n, fun | 15 => 0 | 16 => 1 | 17 => 2 | 18 => 6 | 19 => 7 | n => n⟩
theorem laysC172 : Go.Proofs.LaysC.n172 Tryz.prog laysC172_ren := {
  mixed := by kernel_rfl
  f129 := Tryz.func81.trans (congrArg some (by kernel_rfl))
  f171 := Tryz.func16.trans (congrArg some (by kernel_rfl))
  f172 := Tryz.func20.trans (congrArg some (by kernel_rfl))
  f205 := Tryz.func77.trans (congrArg some (by kernel_rfl))
  f243 := Tryz.func33.trans (congrArg some (by kernel_rfl))
  f244 := Tryz.func39.trans (congrArg some (by kernel_rfl))
  f245 := Tryz.func40.trans (congrArg some (by kernel_rfl))
  f246 := Tryz.func51.trans (congrArg some (by kernel_rfl))
  f247 := Tryz.func56.trans (congrArg some (by kernel_rfl))
  f279 := Tryz.func57.trans (congrArg some (by kernel_rfl))
  f280 := Tryz.func58.trans (congrArg some (by kernel_rfl))
  f281 := Tryz.func59.trans (congrArg some (by kernel_rfl))
  f282 := Tryz.func60.trans (congrArg some (by kernel_rfl))
  f283 := Tryz.func66.trans (congrArg some (by kernel_rfl))
  f284 := Tryz.func67.trans (congrArg some (by kernel_rfl))
  f285 := Tryz.func68.trans (congrArg some (by kernel_rfl))
  f286 := Tryz.func69.trans (congrArg some (by kernel_rfl))
  f287 := Tryz.func75.trans (congrArg some (by kernel_rfl))
  f316 := Tryz.func76.trans (congrArg some (by kernel_rfl))
  f317 := Tryz.func80.trans (congrArg some (by kernel_rfl))
  f318 := Tryz.func82.trans (congrArg some (by kernel_rfl))
  f319 := Tryz.func83.trans (congrArg some (by kernel_rfl))
  f320 := Tryz.func84.trans (congrArg some (by kernel_rfl))
  f321 := Tryz.func92.trans (congrArg some (by kernel_rfl))
  f322 := Tryz.func93.trans (congrArg some (by kernel_rfl))
  f337 := Tryz.func96.trans (congrArg some (by kernel_rfl))
  f338 := Tryz.func97.trans (congrArg some (by kernel_rfl))
  t0 := Tryz.underlying0
  a0 := Tryz.isAgg0
  z0 := Tryz.sizeOf0
  v0 := Tryz.zeroValue0
  t2 := Tryz.underlying2
  a2 := Tryz.isAgg2
  z2 := Tryz.sizeOf2
  v2 := Tryz.zeroValue2
  t3 := Tryz.underlying3
  a3 := Tryz.isAgg3
  z3 := Tryz.sizeOf3
  v3 := Tryz.zeroValue3
  t4 := Tryz.underlying4
  a4 := Tryz.isAgg4
  z4 := Tryz.sizeOf4
  v4 := Tryz.zeroValue4
  t5 := Tryz.underlying5
  a5 := Tryz.isAgg5
  z5 := Tryz.sizeOf5
  v5 := Tryz.zeroValue5
  t9 := Tryz.underlying9
  a9 := Tryz.isAgg9
  z9 := Tryz.sizeOf9
  v9 := Tryz.zeroValue9
  t20 := Tryz.underlying20
  a20 := Tryz.isAgg20
  z20 := Tryz.sizeOf20
  v20 := Tryz.zeroValue20
  t21 := Tryz.underlying21
  a21 := Tryz.isAgg21
  z21 := Tryz.sizeOf21
  v21 := Tryz.zeroValue21
  t37 := Tryz.underlying22
  a37 := Tryz.isAgg22
  z37 := Tryz.sizeOf22
  v37 := Tryz.zeroValue22
  t46 := Tryz.underlying107
  a46 := Tryz.isAgg107
  z46 := Tryz.sizeOf107
  v46 := Tryz.zeroValue107
  t51 := Tryz.underlying118
  a51 := Tryz.isAgg118
  z51 := Tryz.sizeOf118
  v51 := Tryz.zeroValue118
  t53 := Tryz.underlying97
  a53 := Tryz.isAgg97
  z53 := Tryz.sizeOf97
  v53 := Tryz.zeroValue97
  t75 := Tryz.underlying40
  a75 := Tryz.isAgg40
  z75 := Tryz.sizeOf40
  v75 := Tryz.zeroValue40
  t76 := Tryz.underlying41
  a76 := Tryz.isAgg41
  z76 := Tryz.sizeOf41
  v76 := Tryz.zeroValue41
  t85 := Tryz.underlying84
  a85 := Tryz.isAgg84
  z85 := Tryz.sizeOf84
  v85 := Tryz.zeroValue84
  t127 := Tryz.underlying57
  a127 := Tryz.isAgg57
  z127 := Tryz.sizeOf57
  v127 := Tryz.zeroValue57
  t143 := Tryz.underlying129
  a143 := Tryz.isAgg129
  z143 := Tryz.sizeOf129
  v143 := Tryz.zeroValue129
  t145 := Tryz.underlying131
  a145 := Tryz.isAgg131
  z145 := Tryz.sizeOf131
  v145 := Tryz.zeroValue131
  t167 := Tryz.underlying83
  a167 := Tryz.isAgg83
  z167 := Tryz.sizeOf83
  v167 := Tryz.zeroValue83
  t168 := Tryz.underlying86
  a168 := Tryz.isAgg86
  z168 := Tryz.sizeOf86
  v168 := Tryz.zeroValue86
  t171 := Tryz.underlying96
  a171 := Tryz.isAgg96
  z171 := Tryz.sizeOf96
  v171 := Tryz.zeroValue96
  t173 := Tryz.underlying100
  a173 := Tryz.isAgg100
  z173 := Tryz.sizeOf100
  v173 := Tryz.zeroValue100
  t175 := Tryz.underlying105
  a175 := Tryz.isAgg105
  z175 := Tryz.sizeOf105
  v175 := Tryz.zeroValue105
  t210 := Tryz.underlying110
  a210 := Tryz.isAgg110
  z210 := Tryz.sizeOf110
  v210 := Tryz.zeroValue110
  t212 := Tryz.underlying117
  a212 := Tryz.isAgg117
  z212 := Tryz.sizeOf117
  v212 := Tryz.zeroValue117
  t213 := Tryz.underlying119
  a213 := Tryz.isAgg119
  z213 := Tryz.sizeOf119
  t232 := Tryz.underlying136
  a232 := Tryz.isAgg136
  z232 := Tryz.sizeOf136
  v232 := Tryz.zeroValue136
  t233 := Tryz.underlying137
  a233 := Tryz.isAgg137
  z233 := Tryz.sizeOf137
  v233 := Tryz.zeroValue137
  g15 := by kernel_rfl
  g16 := by kernel_rfl
  g17 := by kernel_rfl
  g18 := by kernel_rfl
  g19 := by kernel_rfl
  t80 := Tryz.underlying44
  a80 := Tryz.isAgg44
  z80 := Tryz.sizeOf44
  v80 := Tryz.zeroValue44
  i0 := by kernel_rfl
  i2 := by kernel_rfl
  i3 := by kernel_rfl
  i4 := by kernel_rfl
  i5 := by kernel_rfl
  i9 := by kernel_rfl
  i20 := by kernel_rfl
  i21 := by kernel_rfl
  i37 := by kernel_rfl
  i46 := by kernel_rfl
  i51 := by kernel_rfl
  i53 := by kernel_rfl
  i75 := by kernel_rfl
  i76 := by kernel_rfl
  i80 := by kernel_rfl
  i85 := by kernel_rfl
  i127 := by kernel_rfl
  i143 := by kernel_rfl
  i145 := by kernel_rfl
  i167 := by kernel_rfl
  i168 := by kernel_rfl
  i171 := by kernel_rfl
  i173 := by kernel_rfl
  i175 := by kernel_rfl
  i210 := by kernel_rfl
  i212 := by kernel_rfl
  i232 := by kernel_rfl
  i233 := by kernel_rfl
  m15 := by kernel_rfl
  m16 := by kernel_rfl
  m17 := by kernel_rfl
  m18 := by kernel_rfl
  m19 := by kernel_rfl
  c0 := by kernel_rfl
  c2 := by kernel_rfl
  c3 := by kernel_rfl
  c4 := by kernel_rfl
  c5 := by kernel_rfl
  c9 := by kernel_rfl
  c20 := by kernel_rfl
  c21 := by kernel_rfl
  c37 := by kernel_rfl
  c46 := by kernel_rfl
  c51 := by kernel_rfl
  c53 := by kernel_rfl
  c75 := by kernel_rfl
  c76 := by kernel_rfl
  c80 := by kernel_rfl
  c85 := by kernel_rfl
  c127 := by kernel_rfl
  c143 := by kernel_rfl
  c145 := by kernel_rfl
  c167 := by kernel_rfl
  c168 := by kernel_rfl
  c171 := by kernel_rfl
  c173 := by kernel_rfl
  c175 := by kernel_rfl
  c210 := by kernel_rfl
  c212 := by kernel_rfl
  c213 := by kernel_rfl
  c232 := by kernel_rfl
  c233 := by kernel_rfl }

/-! ### strconv_Atoi: function 20, strconv.Atoi, by the kit's contract, Lib4 Lib7 Lib8 -/
noncomputable def strconv_Atoi.f (N : Nat) (a : List PV) : Option (List PV) := atoiDen a
noncomputable def strconv_Atoi.S (N : Nat) : ASpec := ⟨[(9, .ro)], [(3, .val), (40, .err)], strconv_Atoi.f N⟩
theorem strconv_Atoi.ok (N : Nat) : FnOk Tryz.prog 20 (strconv_Atoi.S N) := fnOk_atoi laysC172 rfl ⟨_, Tryz.func20, by kernel_rfl, by kernel_rfl⟩ (fun ok w h => iface_fact (g := 0) h (by simp)) (fun ok w h => iface_fact (g := 1) h (by simp)) (by kernel_rfl) (by kernel_rfl)

/-! ### impl_FrontGet: function 6, loop.example/medlar/impl.FrontGet -/
noncomputable def impl_FrontGet.E (N : Nat) : Env := ⟨lk [(18, impl_linesOf.S N), (19, strings_TrimLeft.S N), (20, strconv_Atoi.S N), (13, impl_wordsOk.S N), (5, impl_FrontPut.S N)], nzk [(4, ⟨[1, 2, 3, 6, 7, 8, 9, 10, 11, 12, 16, 17, 18, 19, 20, 21, 22, 23, 24, 25, 26, 27, 28, 29, 30, 31, 32, 33, 34, 35, 36, 37, 38, 39, 40, 41, 42, 43, 44, 45, 46, 47, 48, 49, 50, 51, 52, 53, 54, 55, 56, 57, 58, 59, 60, 61, 62, 63, 64, 65, 66], [(4, 23)], []⟩)], N, [], false⟩
noncomputable def impl_FrontGet.f (N : Nat) (a : List PV) : Option Res := run Tryz.prog (impl_FrontGet.E N) Tryz.f6 [(9, .ro)] [(23, .own), (4, .val)] a
noncomputable def impl_FrontGet.l0 (N : Nat) (n : Nat) (x0 : ByteArray) (x5 : ByteArray) (x14 : Int) (x15 : Int) (y0 : List PV) (y1 : PV) : Option Res := loopAt Tryz.prog (impl_FrontGet.E N) Tryz.f6 [(23, .own), (4, .val)] [1, 1, 1, 0, 1, 0] [] n ⟨mkSlots 67 [(0, .sc (.string x0)), (4, .ref 0 []), (5, .sc (.string x5)), (13, .ref 1 []), (14, .sc (.int .i64 x14)), (15, .sc (.int .i64 x15))], ohOf [.row 23 (PV.list y0), .row 23 y1]⟩
theorem impl_FrontGet.f_eq (N : Nat) (a0 : PV) : impl_FrontGet.f N [a0] = (impl_linesOf.f N [(PV.sc (.string a0.toStr))]).bind fun t1 => impl_FrontGet.l0 N N a0.toStr (ByteArray.mk #[]) (((t1.headD default).items).length : Int) 0 [] (t1.headD default) := by kernel_rfl
theorem impl_FrontGet.l0_eq (N : Nat) (n : Nat) (x0 : ByteArray) (x5 : ByteArray) (x14 : Int) (x15 : Int) (y0 : List PV) (y1 : PV) : impl_FrontGet.l0 N (n + 1) x0 x5 x14 x15 y0 y1 = if decide (x15 < x14) = true then (if 0 ≤ x15 then (if x15 < (y1.items.length : Int) then ((strings_TrimLeft.f N [(PV.sc (.string ((y1.elem x15.toNat).toStr))), (PV.sc (.string (ByteArray.mk #[48, 49, 50, 51, 52, 53, 54, 55, 56, 57])))]).bind fun t2 => if 0 ≤ (IntKind.i64.wrap ((((y1.elem x15.toNat).toStr).size : Int) - (((t2.headD default).toStr).size : Int))) then (if (IntKind.i64.wrap ((((y1.elem x15.toNat).toStr).size : Int) - (((t2.headD default).toStr).size : Int))) ≤ (((y1.elem x15.toNat).toStr).size : Int) then ((strconv_Atoi.f N [(PV.sc (.string (((y1.elem x15.toNat).toStr).extract 0 ((IntKind.i64.wrap ((((y1.elem x15.toNat).toStr).size : Int) - (((t2.headD default).toStr).size : Int))).toNat))))]).bind fun t3 => if (t3.tail.headD default).toBool = false then (if decide ((x5.size : Int) < ((t3.headD default).toInt)) = false then (if decide ((y0.length : Int) = 300) = true then (some [(PV.list []), (PV.sc (.bool false))]) else (if 0 ≤ ((t3.headD default).toInt) then (if ((t3.headD default).toInt) ≤ (x5.size : Int) then (if (x5.extract 0 (((t3.headD default).toInt).toNat)).size + ((t2.headD default).toStr).size ≤ 9223372036854775807 then (if y0.length + [(PV.sc (.string ((x5.extract 0 (((t3.headD default).toInt).toNat)) ++ ((t2.headD default).toStr))))].length ≤ 8796093022208 then (impl_FrontGet.l0 N n x0 ((x5.extract 0 (((t3.headD default).toInt).toNat)) ++ ((t2.headD default).toStr)) x14 (IntKind.i64.wrap (x15 + 1)) (y0 ++ [(PV.sc (.string ((x5.extract 0 (((t3.headD default).toInt).toNat)) ++ ((t2.headD default).toStr))))]) y1) else none) else none) else none) else none)) else (some [(PV.list []), (PV.sc (.bool false))])) else (some [(PV.list []), (PV.sc (.bool false))])) else none) else none) else none) else none) else ((impl_wordsOk.f N [(PV.list y0), (PV.sc (.int .i64 300))]).bind fun t4 => if (!((t4.headD default).toBool)) = false then ((impl_FrontPut.f N [(PV.list y0)]).bind fun t5 => if (!decide (((t5.headD default).toStr).toList = x0.toList)) = true then (some [(PV.list []), (PV.sc (.bool false))]) else (some [(PV.list y0), (PV.sc (.bool true))])) else (some [(PV.list []), (PV.sc (.bool false))])) := by kernel_rfl
noncomputable def impl_FrontGet.S (N : Nat) : ASpec := ⟨[(9, .ro)], [(23, .own), (4, .val)], impl_FrontGet.f N⟩
theorem impl_FrontGet.ok (N : Nat) : FnOk Tryz.prog 6 (impl_FrontGet.S N) := fnOk_of (E := impl_FrontGet.E N) mix Tryz.func6 (by kernel_rfl) (by kernel_rfl) (by kernel_rfl) (lk_ok (all_cons (impl_linesOf.ok N) (all_cons (strings_TrimLeft.ok N) (all_cons (strconv_Atoi.ok N) (all_cons (impl_wordsOk.ok N) (all_cons (impl_FrontPut.ok N) all_nil)))))) (by kernel_rfl) (fun _ _ h => h)

/-! ### spec_l3Words: function 21, loop.example/medlar/spec.l3Words -/
noncomputable def spec_l3Words.E (N : Nat) : Env := ⟨lk [(41, spec_l1Word.S N)], nzk [(2, ⟨[1, 2, 4, 5, 6, 7, 8, 9, 10, 11, 12, 13, 14, 15, 16, 17, 18, 19, 20, 21, 22, 23, 24, 25, 26, 27, 28, 29, 30, 31, 32, 33, 34], [], []⟩)], N, [], false⟩
noncomputable def spec_l3Words.f (N : Nat) (a : List PV) : Option Res := run Tryz.prog (spec_l3Words.E N) Tryz.f21 [(23, .ro)] [(4, .val)] a
noncomputable def spec_l3Words.l0 (N : Nat) (n : Nat) (x0 : PV) (x3 : Int) : Option Res := loopAt Tryz.prog (spec_l3Words.E N) Tryz.f21 [(4, .val)] [1, 0, 1, 0] [] n ⟨mkSlots 35 [(0, .ro 23 x0), (3, .sc (.int .i64 x3))], ohOf []⟩
theorem spec_l3Words.f_eq (N : Nat) (a0 : PV) : spec_l3Words.f N [a0] = spec_l3Words.l0 N N a0 0 := by kernel_rfl
theorem spec_l3Words.l0_eq (N : Nat) (n : Nat) (x0 : PV) (x3 : Int) : spec_l3Words.l0 N (n + 1) x0 x3 = if decide (x3 < (x0.items.length : Int)) = true then (if 0 ≤ x3 then (if x3 < (x0.items.length : Int) then ((spec_l1Word.f N [(PV.sc (.string ((x0.elem x3.toNat).toStr)))]).bind fun t1 => if (!((t1.headD default).toBool)) = false then (if decide (0 < x3) = true then (if 0 ≤ (IntKind.i64.wrap (x3 - 1)) then (if (IntKind.i64.wrap (x3 - 1)) < (x0.items.length : Int) then (if 0 ≤ x3 then (if x3 < (x0.items.length : Int) then (if (!Op.bytesLess ((x0.elem ((IntKind.i64.wrap (x3 - 1)).toNat)).toStr).toList ((x0.elem x3.toNat).toStr).toList) = true then (some [(PV.sc (.bool false))]) else (spec_l3Words.l0 N n x0 (IntKind.i64.wrap (x3 + 1)))) else none) else none) else none) else none) else (spec_l3Words.l0 N n x0 (IntKind.i64.wrap (x3 + 1)))) else (some [(PV.sc (.bool false))])) else none) else none) else (some [(PV.sc (.bool (decide ((x0.items.length : Int) ≤ 300))))]) := by kernel_rfl
noncomputable def spec_l3Words.S (N : Nat) : ASpec := ⟨[(23, .ro)], [(4, .val)], spec_l3Words.f N⟩
theorem spec_l3Words.ok (N : Nat) : FnOk Tryz.prog 21 (spec_l3Words.S N) := fnOk_of (E := spec_l3Words.E N) mix Tryz.func21 (by kernel_rfl) (by kernel_rfl) (by kernel_rfl) (lk_ok (all_cons (spec_l1Word.ok N) all_nil)) (by kernel_rfl) (fun _ _ h => h)

/-! ### spec_Beginning: function 22, loop.example/medlar/spec.Beginning -/
noncomputable def spec_Beginning.E (N : Nat) : Env := ⟨lk [], nzk [(2, ⟨[2, 3, 4, 6, 7, 8, 9, 10, 11, 12, 13, 14, 15, 16, 17, 18, 19, 20, 21, 22, 23, 24, 25, 26, 27, 28, 29], [], []⟩)], N, [], false⟩
noncomputable def spec_Beginning.f (N : Nat) (a : List PV) : Option Res := run Tryz.prog (spec_Beginning.E N) Tryz.f22 [(9, .ro), (9, .ro)] [(9, .val)] a
noncomputable def spec_Beginning.l0 (N : Nat) (n : Nat) (x0 : ByteArray) (x1 : ByteArray) (x5 : Int) : Option Res := loopAt Tryz.prog (spec_Beginning.E N) Tryz.f22 [(9, .val)] [1, 1, 0, 0] [] n ⟨mkSlots 30 [(0, .sc (.string x0)), (1, .sc (.string x1)), (5, .sc (.int .i64 x5))], ohOf []⟩
theorem spec_Beginning.f_eq (N : Nat) (a0 : PV) (a1 : PV) : spec_Beginning.f N [a0, a1] = spec_Beginning.l0 N N a0.toStr a1.toStr 0 := by kernel_rfl
theorem spec_Beginning.l0_eq (N : Nat) (n : Nat) (x0 : ByteArray) (x1 : ByteArray) (x5 : Int) : spec_Beginning.l0 N (n + 1) x0 x1 x5 = if decide (x5 < (x0.size : Int)) = true then (if decide (x5 < (x1.size : Int)) = true then (if 0 ≤ x5 then (if x5 < (x0.size : Int) then (if 0 ≤ x5 then (if x5 < (x1.size : Int) then (if decide (((x0.get! x5.toNat).toNat : Int) = ((x1.get! x5.toNat).toNat : Int)) = true then (spec_Beginning.l0 N n x0 x1 (IntKind.i64.wrap (x5 + 1))) else (if 0 ≤ x5 then (if x5 ≤ (x0.size : Int) then (some [(PV.sc (.string (x0.extract 0 x5.toNat)))]) else none) else none)) else none) else none) else none) else none) else (if 0 ≤ x5 then (if x5 ≤ (x0.size : Int) then (some [(PV.sc (.string (x0.extract 0 x5.toNat)))]) else none) else none)) else (if 0 ≤ x5 then (if x5 ≤ (x0.size : Int) then (some [(PV.sc (.string (x0.extract 0 x5.toNat)))]) else none) else none) := by kernel_rfl
noncomputable def spec_Beginning.S (N : Nat) : ASpec := ⟨[(9, .ro), (9, .ro)], [(9, .val)], spec_Beginning.f N⟩
theorem spec_Beginning.ok (N : Nat) : FnOk Tryz.prog 22 (spec_Beginning.S N) := fnOk_of (E := spec_Beginning.E N) mix Tryz.func22 (by kernel_rfl) (by kernel_rfl) (by kernel_rfl) (lk_ok all_nil) (by kernel_rfl) (fun _ _ h => h)

/-! ### spec_l1Dec: function 23, loop.example/medlar/spec.l1Dec -/
noncomputable def spec_l1Dec.E (N : Nat) (self : List PV → Option Res) : Env := ⟨lk [(23, ⟨[(3, .ro)], [(9, .val)], self⟩)], nzk [], N, [], false⟩
noncomputable def spec_l1Dec.g (N : Nat) (d : Nat) : List PV → Option Res := Nat.rec (fun _ => none) (fun _ ih a => run Tryz.prog (spec_l1Dec.E N ih) Tryz.f23 [(3, .ro)] [(9, .val)] a) d
noncomputable def spec_l1Dec.f (N : Nat) (a : List PV) : Option Res := spec_l1Dec.g N N a
theorem spec_l1Dec.f_eq (N : Nat) (a : List PV) : spec_l1Dec.f N a = spec_l1Dec.g N N a := rfl
theorem spec_l1Dec.g_eq (N : Nat) (d : Nat) (a0 : PV) : spec_l1Dec.g N (d + 1) [a0] = if decide (a0.toInt < (-9223372036854775807)) = true then (some [(PV.sc (.string (ByteArray.mk #[45, 57, 50, 50, 51, 51, 55, 50, 48, 51, 54, 56, 53, 52, 55, 55, 53, 56, 48, 56])))]) else (if decide (a0.toInt < 0) = true then ((spec_l1Dec.g N d [(PV.sc (.int .i64 (IntKind.i64.wrap (0 - a0.toInt))))]).bind fun t1 => if (ByteArray.mk #[45]).size + ((t1.headD default).toStr).size ≤ 9223372036854775807 then (some [(PV.sc (.string ((ByteArray.mk #[45]) ++ ((t1.headD default).toStr))))]) else none) else (if decide (a0.toInt < 10) = true then (some [(PV.sc (.string (bytesOfL [(PV.sc (.int .u8 (IntKind.u8.wrap (IntKind.i64.wrap (48 + a0.toInt)))))])))]) else (if 10 = 0 then none else ((spec_l1Dec.g N d [(PV.sc (.int .i64 (IntKind.i64.wrap (Int.tdiv a0.toInt 10))))]).bind fun t2 => if 10 = 0 then none else (if ((t2.headD default).toStr).size + (bytesOfL [(PV.sc (.int .u8 (IntKind.u8.wrap (IntKind.i64.wrap (48 + (Int.tmod a0.toInt 10))))))]).size ≤ 9223372036854775807 then (some [(PV.sc (.string (((t2.headD default).toStr) ++ (bytesOfL [(PV.sc (.int .u8 (IntKind.u8.wrap (IntKind.i64.wrap (48 + (Int.tmod a0.toInt 10))))))]))))]) else none))))) := by kernel_rfl
noncomputable def spec_l1Dec.S (N : Nat) : ASpec := ⟨[(3, .ro)], [(9, .val)], spec_l1Dec.f N⟩
theorem spec_l1Dec.g_ok (N : Nat) : ∀ d, FnOk Tryz.prog 23 ⟨[(3, .ro)], [(9, .val)], spec_l1Dec.g N d⟩ := fnOk_rec mix Tryz.func23 (by kernel_rfl) (by kernel_rfl) (by kernel_rfl) (spec_l1Dec.g N) (fun d => spec_l1Dec.E N (spec_l1Dec.g N d)) (fun _ => rfl) (fun d ih => lk_ok (all_cons ih all_nil)) (fun _ => rfl) (fun _ _ _ h => h)
theorem spec_l1Dec.ok (N : Nat) : FnOk Tryz.prog 23 (spec_l1Dec.S N) := spec_l1Dec.g_ok N N

/-! ### spec_FrontPut: function 7, loop.example/medlar/spec.FrontPut -/
noncomputable def spec_FrontPut.E (N : Nat) : Env := ⟨lk [(21, spec_l3Words.S N), (22, spec_Beginning.S N), (23, spec_l1Dec.S N)], nzk [(4, ⟨[1, 2, 6, 7, 8, 9, 10, 11, 12, 13, 14, 15, 16, 17, 18, 19, 20, 21, 22, 23, 24, 25, 26, 27, 28, 29, 30, 31, 32, 33, 34, 35, 36, 37, 38, 39, 40], [], []⟩)], N, [], false⟩
noncomputable def spec_FrontPut.f (N : Nat) (a : List PV) : Option Res := run Tryz.prog (spec_FrontPut.E N) Tryz.f7 [(23, .ro)] [(9, .val)] a
noncomputable def spec_FrontPut.l0 (N : Nat) (n : Nat) (x0 : PV) (x3 : ByteArray) (x4 : ByteArray) (x5 : Int) : Option Res := loopAt Tryz.prog (spec_FrontPut.E N) Tryz.f7 [(9, .val)] [1, 1, 1, 0, 1, 0] [] n ⟨mkSlots 41 [(0, .ro 23 x0), (3, .sc (.string x3)), (4, .sc (.string x4)), (5, .sc (.int .i64 x5))], ohOf []⟩
theorem spec_FrontPut.f_eq (N : Nat) (a0 : PV) : spec_FrontPut.f N [a0] = spec_FrontPut.l0 N N a0 (ByteArray.mk #[]) (ByteArray.mk #[]) 0 := by kernel_rfl
theorem spec_FrontPut.l0_eq (N : Nat) (n : Nat) (x0 : PV) (x3 : ByteArray) (x4 : ByteArray) (x5 : Int) : spec_FrontPut.l0 N (n + 1) x0 x3 x4 x5 = if decide (x5 < (x0.items.length : Int)) = true then ((spec_l3Words.f N [x0]).bind fun t1 => if (t1.headD default).toBool = true then (if 0 ≤ x5 then (if x5 < (x0.items.length : Int) then ((spec_Beginning.f N [(PV.sc (.string x4)), (PV.sc (.string ((x0.elem x5.toNat).toStr)))]).bind fun t2 => (spec_l1Dec.f N [(PV.sc (.int .i64 (((t2.headD default).toStr).size : Int)))]).bind fun t3 => if x3.size + ((t3.headD default).toStr).size ≤ 9223372036854775807 then (if 0 ≤ x5 then (if x5 < (x0.items.length : Int) then (if 0 ≤ (((t2.headD default).toStr).size : Int) then (if (((t2.headD default).toStr).size : Int) ≤ (((x0.elem x5.toNat).toStr).size : Int) then (if (x3 ++ ((t3.headD default).toStr)).size + (((x0.elem x5.toNat).toStr).extract (((t2.headD default).toStr).size) (((x0.elem x5.toNat).toStr).size)).size ≤ 9223372036854775807 then (if ((x3 ++ ((t3.headD default).toStr)) ++ (((x0.elem x5.toNat).toStr).extract (((t2.headD default).toStr).size) (((x0.elem x5.toNat).toStr).size))).size + (ByteArray.mk #[10]).size ≤ 9223372036854775807 then (if 0 ≤ x5 then (if x5 < (x0.items.length : Int) then (spec_FrontPut.l0 N n x0 (((x3 ++ ((t3.headD default).toStr)) ++ (((x0.elem x5.toNat).toStr).extract (((t2.headD default).toStr).size) (((x0.elem x5.toNat).toStr).size))) ++ (ByteArray.mk #[10])) ((x0.elem x5.toNat).toStr) (IntKind.i64.wrap (x5 + 1))) else none) else none) else none) else none) else none) else none) else none) else none) else none) else none) else none) else (some [(PV.sc (.string x3))])) else (some [(PV.sc (.string x3))]) := by kernel_rfl
noncomputable def spec_FrontPut.S (N : Nat) : ASpec := ⟨[(23, .ro)], [(9, .val)], spec_FrontPut.f N⟩
theorem spec_FrontPut.ok (N : Nat) : FnOk Tryz.prog 7 (spec_FrontPut.S N) := fnOk_of (E := spec_FrontPut.E N) mix Tryz.func7 (by kernel_rfl) (by kernel_rfl) (by kernel_rfl) (lk_ok (all_cons (spec_l3Words.ok N) (all_cons (spec_Beginning.ok N) (all_cons (spec_l1Dec.ok N) all_nil)))) (by kernel_rfl) (fun _ _ h => h)

/-! ### laws_mdTexts: function 8, loop.example/medlar/laws.mdTexts -/
noncomputable def laws_mdTexts.E (N : Nat) : Env := ⟨lk [], nzk [(4, ⟨[2, 3, 4, 6, 7, 8, 9, 10, 11, 12, 13, 14, 15, 16, 17, 18, 19, 20, 21, 22, 23, 24, 25], [], []⟩)], N, [], false⟩
noncomputable def laws_mdTexts.f (N : Nat) (a : List PV) : Option Res := run Tryz.prog (laws_mdTexts.E N) Tryz.f8 [(23, .ro), (23, .ro)] [(4, .val)] a
noncomputable def laws_mdTexts.l0 (N : Nat) (n : Nat) (x0 : PV) (x1 : PV) (x5 : Int) : Option Res := loopAt Tryz.prog (laws_mdTexts.E N) Tryz.f8 [(4, .val)] [1, 1, 0, 1, 0] [] n ⟨mkSlots 26 [(0, .ro 23 x0), (1, .ro 23 x1), (5, .sc (.int .i64 x5))], ohOf []⟩
theorem laws_mdTexts.f_eq (N : Nat) (a0 : PV) (a1 : PV) : laws_mdTexts.f N [a0, a1] = if (!decide ((a0.items.length : Int) = (a1.items.length : Int))) = true then (some [(PV.sc (.bool false))]) else (laws_mdTexts.l0 N N a0 a1 0) := by kernel_rfl
theorem laws_mdTexts.l0_eq (N : Nat) (n : Nat) (x0 : PV) (x1 : PV) (x5 : Int) : laws_mdTexts.l0 N (n + 1) x0 x1 x5 = if decide (x5 < (x0.items.length : Int)) = true then (if 0 ≤ x5 then (if x5 < (x0.items.length : Int) then (if 0 ≤ x5 then (if x5 < (x1.items.length : Int) then (if (!decide (((x0.elem x5.toNat).toStr).toList = ((x1.elem x5.toNat).toStr).toList)) = true then (some [(PV.sc (.bool false))]) else (laws_mdTexts.l0 N n x0 x1 (IntKind.i64.wrap (x5 + 1)))) else none) else none) else none) else none) else (some [(PV.sc (.bool true))]) := by kernel_rfl
noncomputable def laws_mdTexts.S (N : Nat) : ASpec := ⟨[(23, .ro), (23, .ro)], [(4, .val)], laws_mdTexts.f N⟩
theorem laws_mdTexts.ok (N : Nat) : FnOk Tryz.prog 8 (laws_mdTexts.S N) := fnOk_of (E := laws_mdTexts.E N) mix Tryz.func8 (by kernel_rfl) (by kernel_rfl) (by kernel_rfl) (lk_ok all_nil) (by kernel_rfl) (fun _ _ h => h)

/-! ### spec_l13Cut: function 24, loop.example/medlar/spec.l13Cut -/
noncomputable def spec_l13Cut.E (N : Nat) : Env := ⟨lk [(29, spec_l1Rd_pick.S N), (42, spec_l1Rd_of.S N)], nzk [], N, [(true, 55)], false⟩
noncomputable def spec_l13Cut.f (N : Nat) (a : List PV) : Option Res := run Tryz.prog (spec_l13Cut.E N) Tryz.f24 [(32, .box), (9, .ro)] [(9, .val)] a
theorem spec_l13Cut.f_eq (N : Nat) (a0 : PV) (a1 : PV) : spec_l13Cut.f N [a0, a1] = (spec_l1Rd_pick.f N [(PV.agg [a0.fld 0, (PV.sc (.int .i64 ((a0.fld 1).toInt)))]), (PV.sc (.int .i64 (IntKind.i64.wrap ((a1.toStr.size : Int) + 1))))]).bind fun t1 => (spec_l1Rd_pick.f N [(PV.agg [a0.fld 0, (PV.sc (.int .i64 (((t1.tail.headD default).fld 1).toInt)))]), (PV.sc (.int .i64 5))]).bind fun t2 => if decide (((t2.headD default).toInt) = 0) = true then (if 0 ≤ ((t1.headD default).toInt) then (if ((t1.headD default).toInt) ≤ (a1.toStr.size : Int) then ((spec_l1Rd_of.f N [(PV.agg [a0.fld 0, (PV.sc (.int .i64 (((t2.tail.headD default).fld 1).toInt)))]), (PV.list ([(PV.sc (.string (ByteArray.mk #[32]))), (PV.sc (.string (ByteArray.mk #[10]))), (PV.sc (.string (ByteArray.mk #[47]))), (PV.sc (.string (ByteArray.mk #[97]))), (PV.sc (.string (ByteArray.mk #[83]))), (PV.sc (.string (ByteArray.mk #[45]))), (PV.sc (.string (ByteArray.mk #[43]))), (PV.sc (.string (ByteArray.mk #[48])))]))]).bind fun t3 => if (a1.toStr.extract 0 (((t1.headD default).toInt).toNat)).size + ((t3.headD default).toStr).size ≤ 9223372036854775807 then (if 0 ≤ ((t1.headD default).toInt) then (if ((t1.headD default).toInt) ≤ (a1.toStr.size : Int) then (if ((a1.toStr.extract 0 (((t1.headD default).toInt).toNat)) ++ ((t3.headD default).toStr)).size + (a1.toStr.extract (((t1.headD default).toInt).toNat) a1.toStr.size).size ≤ 9223372036854775807 then (some [(PV.sc (.string (((a1.toStr.extract 0 (((t1.headD default).toInt).toNat)) ++ ((t3.headD default).toStr)) ++ (a1.toStr.extract (((t1.headD default).toInt).toNat) a1.toStr.size)))), (PV.agg [a0.fld 0, (PV.sc (.int .i64 (((t3.tail.headD default).fld 1).toInt)))])]) else none) else none) else none) else none) else none) else none) else (if decide (((t2.headD default).toInt) = 1) = true then (if 0 ≤ ((t1.headD default).toInt) then (if ((t1.headD default).toInt) ≤ (a1.toStr.size : Int) then (some [(PV.sc (.string (a1.toStr.extract 0 (((t1.headD default).toInt).toNat)))), (PV.agg [a0.fld 0, (PV.sc (.int .i64 (((t2.tail.headD default).fld 1).toInt)))])]) else none) else none) else (some [(PV.sc (.string a1.toStr)), (PV.agg [a0.fld 0, (PV.sc (.int .i64 (((t2.tail.headD default).fld 1).toInt)))])])) := by kernel_rfl
noncomputable def spec_l13Cut.S (N : Nat) : ASpec := ⟨[(32, .box), (9, .ro)], [(9, .val)], spec_l13Cut.f N⟩
theorem spec_l13Cut.ok (N : Nat) : FnOk Tryz.prog 24 (spec_l13Cut.S N) := fnOk_of (E := spec_l13Cut.E N) mix Tryz.func24 (by kernel_rfl) (by kernel_rfl) (by kernel_rfl) (lk_ok (all_cons (spec_l1Rd_pick.ok N) (all_cons (spec_l1Rd_of.ok N) all_nil))) (by kernel_rfl) (fun _ _ h => h)

/-! ### spec_DrawFrontGet: function 9, loop.example/medlar/spec.DrawFrontGet -/
noncomputable def spec_DrawFrontGet.E (N : Nat) : Env := ⟨lk [(12, spec_l1Open.S N), (25, spec_l13Words.S N), (7, spec_FrontPut.S N), (24, spec_l13Cut.S N)], nzk [], N, [], false⟩
noncomputable def spec_DrawFrontGet.f (N : Nat) (a : List PV) : Option Res := run Tryz.prog (spec_DrawFrontGet.E N) Tryz.f9 [(22, .ro)] [(9, .val)] a
theorem spec_DrawFrontGet.f_eq (N : Nat) (a0 : PV) : spec_DrawFrontGet.f N [a0] = (spec_l1Open.f N [a0]).bind fun t1 => (spec_l13Words.f N [(PV.agg [(t1.headD default).fld 0, (PV.sc (.int .i64 (((t1.headD default).fld 1).toInt)))])]).bind fun t2 => (spec_FrontPut.f N [(t2.headD default)]).bind fun t3 => (spec_l13Cut.f N [(PV.agg [(t1.headD default).fld 0, (PV.sc (.int .i64 (((t2.tail.headD default).fld 1).toInt)))]), (PV.sc (.string ((t3.headD default).toStr)))]).bind fun t4 => some [(PV.sc (.string ((t4.headD default).toStr)))] := by kernel_rfl
noncomputable def spec_DrawFrontGet.S (N : Nat) : ASpec := ⟨[(22, .ro)], [(9, .val)], spec_DrawFrontGet.f N⟩
theorem spec_DrawFrontGet.ok (N : Nat) : FnOk Tryz.prog 9 (spec_DrawFrontGet.S N) := fnOk_of (E := spec_DrawFrontGet.E N) mix Tryz.func9 (by kernel_rfl) (by kernel_rfl) (by kernel_rfl) (lk_ok (all_cons (spec_l1Open.ok N) (all_cons (spec_l13Words.ok N) (all_cons (spec_FrontPut.ok N) (all_cons (spec_l13Cut.ok N) all_nil))))) (by kernel_rfl) (fun _ _ h => h)

/-! ### spec_l1Cut: function 26, loop.example/medlar/spec.l1Cut -/
noncomputable def spec_l1Cut.E (N : Nat) : Env := ⟨lk [], nzk [(4, ⟨[2, 3, 4, 8, 9, 10, 11, 12, 13, 14, 15, 16, 17, 18, 19, 20, 21, 22, 23, 24, 25, 26, 27, 28, 29, 30, 31, 32, 33, 34], [(5, 23)], []⟩)], N, [], false⟩
noncomputable def spec_l1Cut.f (N : Nat) (a : List PV) : Option Res := run Tryz.prog (spec_l1Cut.E N) Tryz.f26 [(9, .ro), (5, .ro)] [(23, .own)] a
noncomputable def spec_l1Cut.l0 (N : Nat) (n : Nat) (x0 : ByteArray) (x1 : Int) (x6 : Int) (x7 : Int) (y0 : List PV) : Option Res := loopAt Tryz.prog (spec_l1Cut.E N) Tryz.f26 [(23, .own)] [1, 1, 1, 0, 1, 0] [] n ⟨mkSlots 35 [(0, .sc (.string x0)), (1, .sc (.int .u8 x1)), (5, .ref 0 []), (6, .sc (.int .i64 x6)), (7, .sc (.int .i64 x7))], ohOf [.row 23 (PV.list y0)]⟩
theorem spec_l1Cut.f_eq (N : Nat) (a0 : PV) (a1 : PV) : spec_l1Cut.f N [a0, a1] = spec_l1Cut.l0 N N a0.toStr a1.toInt 0 0 [] := by kernel_rfl
theorem spec_l1Cut.l0_eq (N : Nat) (n : Nat) (x0 : ByteArray) (x1 : Int) (x6 : Int) (x7 : Int) (y0 : List PV) : spec_l1Cut.l0 N (n + 1) x0 x1 x6 x7 y0 = if decide (x7 < (x0.size : Int)) = true then (if 0 ≤ x7 then (if x7 < (x0.size : Int) then (if decide (((x0.get! x7.toNat).toNat : Int) = x1) = true then (if 0 ≤ x6 then (if x6 ≤ x7 then (if x7 ≤ (x0.size : Int) then (if y0.length + [(PV.sc (.string (x0.extract x6.toNat x7.toNat)))].length ≤ 8796093022208 then (spec_l1Cut.l0 N n x0 x1 (IntKind.i64.wrap (x7 + 1)) (IntKind.i64.wrap (x7 + 1)) (y0 ++ [(PV.sc (.string (x0.extract x6.toNat x7.toNat)))])) else none) else none) else none) else none) else (spec_l1Cut.l0 N n x0 x1 x6 (IntKind.i64.wrap (x7 + 1)) y0)) else none) else none) else (if 0 ≤ x6 then (if x6 ≤ (x0.size : Int) then (if y0.length + [(PV.sc (.string (x0.extract x6.toNat x0.size)))].length ≤ 8796093022208 then (some [(PV.list (y0 ++ [(PV.sc (.string (x0.extract x6.toNat x0.size)))]))]) else none) else none) else none) := by kernel_rfl
noncomputable def spec_l1Cut.S (N : Nat) : ASpec := ⟨[(9, .ro), (5, .ro)], [(23, .own)], spec_l1Cut.f N⟩
theorem spec_l1Cut.ok (N : Nat) : FnOk Tryz.prog 26 (spec_l1Cut.S N) := fnOk_of (E := spec_l1Cut.E N) mix Tryz.func26 (by kernel_rfl) (by kernel_rfl) (by kernel_rfl) (lk_ok all_nil) (by kernel_rfl) (fun _ _ h => h)

/-! ### spec_l1Num: function 47, loop.example/medlar/spec.l1Num -/
noncomputable def spec_l1Num.E (N : Nat) : Env := ⟨lk [], nzk [(5, ⟨[1, 2, 5, 6, 7, 8, 9, 10, 11, 12, 13, 14, 15, 16, 17, 18, 19, 20, 21, 22, 23, 24, 25, 26, 27, 28, 29, 30, 31, 32, 33, 34, 35, 36, 37, 38, 39, 40, 41, 42, 43, 44, 45, 46, 47], [], []⟩)], N, [], false⟩
noncomputable def spec_l1Num.f (N : Nat) (a : List PV) : Option Res := run Tryz.prog (spec_l1Num.E N) Tryz.f47 [(9, .ro)] [(3, .val)] a
noncomputable def spec_l1Num.l0 (N : Nat) (n : Nat) (x0 : ByteArray) (x3 : Int) (x4 : Int) : Option Res := loopAt Tryz.prog (spec_l1Num.E N) Tryz.f47 [(3, .val)] [1, 1, 1, 0, 1, 0] [] n ⟨mkSlots 48 [(0, .sc (.string x0)), (3, .sc (.int .i64 x3)), (4, .sc (.int .i64 x4))], ohOf []⟩
theorem spec_l1Num.f_eq (N : Nat) (a0 : PV) : spec_l1Num.f N [a0] = if decide ((a0.toStr.size : Int) = 0) = false then (if decide (6 < (a0.toStr.size : Int)) = false then (if decide (1 < (a0.toStr.size : Int)) = true then (if 0 ≤ 0 then (if 0 < (a0.toStr.size : Int) then (if decide (((a0.toStr.get! 0).toNat : Int) = 48) = true then (some [(PV.sc (.int .i64 (-1)))]) else (spec_l1Num.l0 N N a0.toStr 0 0)) else none) else none) else (spec_l1Num.l0 N N a0.toStr 0 0)) else (some [(PV.sc (.int .i64 (-1)))])) else (some [(PV.sc (.int .i64 (-1)))]) := by kernel_rfl
theorem spec_l1Num.l0_eq (N : Nat) (n : Nat) (x0 : ByteArray) (x3 : Int) (x4 : Int) : spec_l1Num.l0 N (n + 1) x0 x3 x4 = if decide (x4 < (x0.size : Int)) = true then (if 0 ≤ x4 then (if x4 < (x0.size : Int) then (if decide (((x0.get! x4.toNat).toNat : Int) < 48) = false then (if 0 ≤ x4 then (if x4 < (x0.size : Int) then (if decide (57 < ((x0.get! x4.toNat).toNat : Int)) = true then (some [(PV.sc (.int .i64 (-1)))]) else (if 0 ≤ x4 then (if x4 < (x0.size : Int) then (spec_l1Num.l0 N n x0 (IntKind.i64.wrap ((IntKind.i64.wrap (x3 * 10)) + (IntKind.i64.wrap (IntKind.u8.wrap (((x0.get! x4.toNat).toNat : Int) - 48))))) (IntKind.i64.wrap (x4 + 1))) else none) else none)) else none) else none) else (some [(PV.sc (.int .i64 (-1)))])) else none) else none) else (some [(PV.sc (.int .i64 x3))]) := by kernel_rfl
noncomputable def spec_l1Num.S (N : Nat) : ASpec := ⟨[(9, .ro)], [(3, .val)], spec_l1Num.f N⟩
theorem spec_l1Num.ok (N : Nat) : FnOk Tryz.prog 47 (spec_l1Num.S N) := fnOk_of (E := spec_l1Num.E N) mix Tryz.func47 (by kernel_rfl) (by kernel_rfl) (by kernel_rfl) (lk_ok all_nil) (by kernel_rfl) (fun _ _ h => h)

/-! ### spec_l12Front: function 27, loop.example/medlar/spec.l12Front -/
noncomputable def spec_l12Front.E (N : Nat) : Env := ⟨lk [(47, spec_l1Num.S N)], nzk [(2, ⟨[1, 2, 3, 5, 6, 7, 8, 9, 10, 11, 12, 13, 14, 15, 16, 17, 18, 19, 20, 21, 22, 23, 24, 25, 26, 27, 28, 29], [], []⟩)], N, [], false⟩
noncomputable def spec_l12Front.f (N : Nat) (a : List PV) : Option Res := run Tryz.prog (spec_l12Front.E N) Tryz.f27 [(9, .ro)] [(3, .val), (9, .val)] a
noncomputable def spec_l12Front.l0 (N : Nat) (n : Nat) (x0 : ByteArray) (x4 : Int) : Option Res := loopAt Tryz.prog (spec_l12Front.E N) Tryz.f27 [(3, .val), (9, .val)] [1, 1, 0, 0] [] n ⟨mkSlots 30 [(0, .sc (.string x0)), (4, .sc (.int .i64 x4))], ohOf []⟩
theorem spec_l12Front.f_eq (N : Nat) (a0 : PV) : spec_l12Front.f N [a0] = spec_l12Front.l0 N N a0.toStr 0 := by kernel_rfl
theorem spec_l12Front.l0_eq (N : Nat) (n : Nat) (x0 : ByteArray) (x4 : Int) : spec_l12Front.l0 N (n + 1) x0 x4 = if decide (x4 < (x0.size : Int)) = true then (if 0 ≤ x4 then (if x4 < (x0.size : Int) then (if decide (48 ≤ ((x0.get! x4.toNat).toNat : Int)) = true then (if 0 ≤ x4 then (if x4 < (x0.size : Int) then (if decide (((x0.get! x4.toNat).toNat : Int) ≤ 57) = true then (spec_l12Front.l0 N n x0 (IntKind.i64.wrap (x4 + 1))) else (if 0 ≤ x4 then (if x4 ≤ (x0.size : Int) then ((spec_l1Num.f N [(PV.sc (.string (x0.extract 0 x4.toNat)))]).bind fun t1 => if 0 ≤ x4 then (if x4 ≤ (x0.size : Int) then (some [(PV.sc (.int .i64 ((t1.headD default).toInt))), (PV.sc (.string (x0.extract x4.toNat x0.size)))]) else none) else none) else none) else none)) else none) else none) else (if 0 ≤ x4 then (if x4 ≤ (x0.size : Int) then ((spec_l1Num.f N [(PV.sc (.string (x0.extract 0 x4.toNat)))]).bind fun t2 => if 0 ≤ x4 then (if x4 ≤ (x0.size : Int) then (some [(PV.sc (.int .i64 ((t2.headD default).toInt))), (PV.sc (.string (x0.extract x4.toNat x0.size)))]) else none) else none) else none) else none)) else none) else none) else (if 0 ≤ x4 then (if x4 ≤ (x0.size : Int) then ((spec_l1Num.f N [(PV.sc (.string (x0.extract 0 x4.toNat)))]).bind fun t3 => if 0 ≤ x4 then (if x4 ≤ (x0.size : Int) then (some [(PV.sc (.int .i64 ((t3.headD default).toInt))), (PV.sc (.string (x0.extract x4.toNat x0.size)))]) else none) else none) else none) else none) := by kernel_rfl
noncomputable def spec_l12Front.S (N : Nat) : ASpec := ⟨[(9, .ro)], [(3, .val), (9, .val)], spec_l12Front.f N⟩
theorem spec_l12Front.ok (N : Nat) : FnOk Tryz.prog 27 (spec_l12Front.S N) := fnOk_of (E := spec_l12Front.E N) mix Tryz.func27 (by kernel_rfl) (by kernel_rfl) (by kernel_rfl) (lk_ok (all_cons (spec_l1Num.ok N) all_nil)) (by kernel_rfl) (fun _ _ h => h)

/-! ### spec_l1In: function 28, loop.example/medlar/spec.l1In -/
noncomputable def spec_l1In.E (N : Nat) : Env := ⟨lk [], nzk [], N, [], false⟩
noncomputable def spec_l1In.f (N : Nat) (a : List PV) : Option Res := run Tryz.prog (spec_l1In.E N) Tryz.f28 [(3, .ro), (3, .ro), (3, .ro)] [(4, .val)] a
theorem spec_l1In.f_eq (N : Nat) (a0 : PV) (a1 : PV) (a2 : PV) : spec_l1In.f N [a0, a1, a2] = if decide (a1.toInt ≤ a0.toInt) = true then (some [(PV.sc (.bool (decide (a0.toInt ≤ a2.toInt))))]) else (some [(PV.sc (.bool false))]) := by kernel_rfl
noncomputable def spec_l1In.S (N : Nat) : ASpec := ⟨[(3, .ro), (3, .ro), (3, .ro)], [(4, .val)], spec_l1In.f N⟩
theorem spec_l1In.ok (N : Nat) : FnOk Tryz.prog 28 (spec_l1In.S N) := fnOk_of (E := spec_l1In.E N) mix Tryz.func28 (by kernel_rfl) (by kernel_rfl) (by kernel_rfl) (lk_ok all_nil) (by kernel_rfl) (fun _ _ h => h)

/-! ### spec_FrontGet: function 10, loop.example/medlar/spec.FrontGet -/
noncomputable def spec_FrontGet.E (N : Nat) : Env := ⟨lk [(26, spec_l1Cut.S N), (27, spec_l12Front.S N), (28, spec_l1In.S N), (21, spec_l3Words.S N), (7, spec_FrontPut.S N)], nzk [(5, ⟨[1, 2, 3, 8, 9, 10, 11, 12, 13, 14, 15, 16, 17, 18, 19, 20, 21, 22, 23, 24, 25, 26, 27, 28, 29, 30, 31, 32, 33, 34, 35, 36, 37, 38, 39, 40, 41, 42, 43, 44, 45, 46, 47, 48, 49, 50, 51, 52, 53], [(5, 23)], []⟩)], N, [], false⟩
noncomputable def spec_FrontGet.f (N : Nat) (a : List PV) : Option Res := run Tryz.prog (spec_FrontGet.E N) Tryz.f10 [(9, .ro)] [(23, .own), (4, .val)] a
noncomputable def spec_FrontGet.l0 (N : Nat) (n : Nat) (x0 : ByteArray) (x6 : ByteArray) (x7 : Int) (y0 : PV) (y1 : List PV) : Option Res := loopAt Tryz.prog (spec_FrontGet.E N) Tryz.f10 [(23, .own), (4, .val)] [1, 1, 1, 1, 0, 1, 0] [] n ⟨mkSlots 54 [(0, .sc (.string x0)), (4, .ref 0 []), (5, .ref 1 []), (6, .sc (.string x6)), (7, .sc (.int .i64 x7))], ohOf [.row 23 y0, .row 23 (PV.list y1)]⟩
theorem spec_FrontGet.f_eq (N : Nat) (a0 : PV) : spec_FrontGet.f N [a0] = (spec_l1Cut.f N [(PV.sc (.string a0.toStr)), (PV.sc (.int .u8 10))]).bind fun t1 => spec_FrontGet.l0 N N a0.toStr (ByteArray.mk #[]) 0 (t1.headD default) [] := by kernel_rfl
theorem spec_FrontGet.l0_eq (N : Nat) (n : Nat) (x0 : ByteArray) (x6 : ByteArray) (x7 : Int) (y0 : PV) (y1 : List PV) : spec_FrontGet.l0 N (n + 1) x0 x6 x7 y0 y1 = if decide ((IntKind.i64.wrap (x7 + 1)) < (y0.items.length : Int)) = true then (if 0 ≤ x7 then (if x7 < (y0.items.length : Int) then ((spec_l12Front.f N [(PV.sc (.string ((y0.elem x7.toNat).toStr)))]).bind fun t2 => (spec_l1In.f N [(PV.sc (.int .i64 ((t2.headD default).toInt))), (PV.sc (.int .i64 0)), (PV.sc (.int .i64 (x6.size : Int)))]).bind fun t3 => if (!((t3.headD default).toBool)) = true then (some [(PV.list []), (PV.sc (.bool false))]) else (if 0 ≤ ((t2.headD default).toInt) then (if ((t2.headD default).toInt) ≤ (x6.size : Int) then (if (x6.extract 0 (((t2.headD default).toInt).toNat)).size + ((t2.tail.headD default).toStr).size ≤ 9223372036854775807 then (if y1.length + [(PV.sc (.string ((x6.extract 0 (((t2.headD default).toInt).toNat)) ++ ((t2.tail.headD default).toStr))))].length ≤ 8796093022208 then (spec_FrontGet.l0 N n x0 ((x6.extract 0 (((t2.headD default).toInt).toNat)) ++ ((t2.tail.headD default).toStr)) (IntKind.i64.wrap (x7 + 1)) y0 (y1 ++ [(PV.sc (.string ((x6.extract 0 (((t2.headD default).toInt).toNat)) ++ ((t2.tail.headD default).toStr))))])) else none) else none) else none) else none)) else none) else none) else ((spec_l3Words.f N [(PV.list y1)]).bind fun t4 => if (!((t4.headD default).toBool)) = false then ((spec_FrontPut.f N [(PV.list y1)]).bind fun t5 => if (!decide (((t5.headD default).toStr).toList = x0.toList)) = true then (some [(PV.list []), (PV.sc (.bool false))]) else (some [(PV.list y1), (PV.sc (.bool true))])) else (some [(PV.list []), (PV.sc (.bool false))])) := by kernel_rfl
noncomputable def spec_FrontGet.S (N : Nat) : ASpec := ⟨[(9, .ro)], [(23, .own), (4, .val)], spec_FrontGet.f N⟩
theorem spec_FrontGet.ok (N : Nat) : FnOk Tryz.prog 10 (spec_FrontGet.S N) := fnOk_of (E := spec_FrontGet.E N) mix Tryz.func10 (by kernel_rfl) (by kernel_rfl) (by kernel_rfl) (lk_ok (all_cons (spec_l1Cut.ok N) (all_cons (spec_l12Front.ok N) (all_cons (spec_l1In.ok N) (all_cons (spec_l3Words.ok N) (all_cons (spec_FrontPut.ok N) all_nil)))))) (by kernel_rfl) (fun _ _ h => h)

/-! ### laws_FnFront: function 3, loop.example/medlar/laws.FnFront -/
noncomputable def laws_FnFront.E (N : Nat) : Env := ⟨lk [(4, spec_DrawFrontPut.S N), (5, impl_FrontPut.S N), (6, impl_FrontGet.S N), (7, spec_FrontPut.S N), (8, laws_mdTexts.S N), (9, spec_DrawFrontGet.S N), (10, spec_FrontGet.S N)], nzk [], N, [], false⟩
noncomputable def laws_FnFront.f (N : Nat) (a : List PV) : Option Res := run Tryz.prog (laws_FnFront.E N) Tryz.f3 [(22, .ro), (22, .ro)] [(4, .val)] a
theorem laws_FnFront.f_eq (N : Nat) (a0 : PV) (a1 : PV) : laws_FnFront.f N [a0, a1] = if decide (1048576 < (a0.items.length : Int)) = false then (if decide (1048576 < (a1.items.length : Int)) = true then (some [(PV.sc (.bool true))]) else ((spec_DrawFrontPut.f N [a0]).bind fun t1 => (impl_FrontPut.f N [(t1.headD default)]).bind fun t2 => (impl_FrontGet.f N [(PV.sc (.string ((t2.headD default).toStr)))]).bind fun t3 => (spec_FrontPut.f N [(t1.headD default)]).bind fun t4 => if (!decide (((t2.headD default).toStr).toList = ((t4.headD default).toStr).toList)) = false then (if (!((t3.tail.headD default).toBool)) = false then (if (!decide (((t2.headD default).toStr).toList = (ByteArray.mk #[]).toList)) = true then ((laws_mdTexts.f N [(t3.headD default), (t1.headD default)]).bind fun t5 => if (!((t5.headD default).toBool)) = true then (some [(PV.sc (.bool false))]) else ((spec_DrawFrontGet.f N [a1]).bind fun t6 => (impl_FrontGet.f N [(PV.sc (.string ((t6.headD default).toStr)))]).bind fun t7 => (spec_FrontGet.f N [(PV.sc (.string ((t6.headD default).toStr)))]).bind fun t8 => if (((t7.tail.headD default).toBool) == ((t8.tail.headD default).toBool)) = true then ((laws_mdTexts.f N [(t7.headD default), (t8.headD default)]).bind fun t9 => if (t9.headD default).toBool = true then (if (!((t7.tail.headD default).toBool)) = false then ((impl_FrontPut.f N [(t7.headD default)]).bind fun t10 => some [(PV.sc (.bool (decide (((t10.headD default).toStr).toList = ((t6.headD default).toStr).toList))))]) else (some [(PV.sc (.bool true))])) else (some [(PV.sc (.bool false))])) else (some [(PV.sc (.bool false))]))) else ((spec_DrawFrontGet.f N [a1]).bind fun t11 => (impl_FrontGet.f N [(PV.sc (.string ((t11.headD default).toStr)))]).bind fun t12 => (spec_FrontGet.f N [(PV.sc (.string ((t11.headD default).toStr)))]).bind fun t13 => if (((t12.tail.headD default).toBool) == ((t13.tail.headD default).toBool)) = true then ((laws_mdTexts.f N [(t12.headD default), (t13.headD default)]).bind fun t14 => if (t14.headD default).toBool = true then (if (!((t12.tail.headD default).toBool)) = false then ((impl_FrontPut.f N [(t12.headD default)]).bind fun t15 => some [(PV.sc (.bool (decide (((t15.headD default).toStr).toList = ((t11.headD default).toStr).toList))))]) else (some [(PV.sc (.bool true))])) else (some [(PV.sc (.bool false))])) else (some [(PV.sc (.bool false))]))) else (some [(PV.sc (.bool false))])) else (some [(PV.sc (.bool false))]))) else (some [(PV.sc (.bool true))]) := by kernel_rfl
noncomputable def laws_FnFront.S (N : Nat) : ASpec := ⟨[(22, .ro), (22, .ro)], [(4, .val)], laws_FnFront.f N⟩
theorem laws_FnFront.ok (N : Nat) : FnOk Tryz.prog 3 (laws_FnFront.S N) := fnOk_of (E := laws_FnFront.E N) mix Tryz.func3 (by kernel_rfl) (by kernel_rfl) (by kernel_rfl) (lk_ok (all_cons (spec_DrawFrontPut.ok N) (all_cons (impl_FrontPut.ok N) (all_cons (impl_FrontGet.ok N) (all_cons (spec_FrontPut.ok N) (all_cons (laws_mdTexts.ok N) (all_cons (spec_DrawFrontGet.ok N) (all_cons (spec_FrontGet.ok N) all_nil)))))))) (by kernel_rfl) (fun _ _ h => h)

end Go.Proofs.YtpnbhcifhbnaaaaGreatDoor.FnFront
