/- What each function that the law FnUserDrop reaches computes, as trees, part 1: no conditions. -/
import Derived.Test.YtpnbhcifhbnaaaaLib
import Derived.Test.YtpnbhcifhbnaaaaProg
set_option maxRecDepth 100000
set_option linter.unusedVariables false
namespace Go.Proofs.Ytpnbhcifhbnaaaa.FnUserDrop
open Go Go.Proofs.YtpnbhcifhbnaaaaAm
theorem mix : Try.prog.follows .mixedOrders = true := by kernel_rfl
/-! ### spec_l1Open: function 24, loop.example/medlar/spec.l1Open -/
noncomputable def spec_l1Open.E (N : Nat) : Env := ⟨lk [], nzk [], N, []⟩
noncomputable def spec_l1Open.f (N : Nat) (a : List PV) : Option Res := run Try.prog (spec_l1Open.E N) Try.f24 [(29, .ro)] [(37, .box)] a
theorem spec_l1Open.f_eq (N : Nat) (a0 : PV) : spec_l1Open.f N [a0] = if decide (2000 < (a0.items.length : Int)) = true then (if 0 ≤ 2000 then (if 2000 ≤ (a0.items.length : Int) then (some [(PV.agg [(PV.list ((a0.items.drop 0).take (2000 - 0))), (PV.sc (.int .i64 0))])]) else none) else none) else (some [(PV.agg [a0, (PV.sc (.int .i64 0))])]) := by kernel_rfl
noncomputable def spec_l1Open.S (N : Nat) : ASpec := ⟨[(29, .ro)], [(37, .box)], spec_l1Open.f N⟩
theorem spec_l1Open.ok (N : Nat) : FnOk Try.prog 24 (spec_l1Open.S N) := fnOk_of (E := spec_l1Open.E N) mix Try.func24 (by kernel_rfl) (by kernel_rfl) (by kernel_rfl) (lk_ok all_nil) (by kernel_rfl) (fun _ _ h => h)

/-! ### spec_l1Rd_pick: function 27, (*loop.example/medlar/spec.l1Rd).pick -/
noncomputable def spec_l1Rd_pick.E (N : Nat) : Env := ⟨lk [], nzk [], N, [(true, 45)]⟩
noncomputable def spec_l1Rd_pick.f (N : Nat) (a : List PV) : Option Res := run Try.prog (spec_l1Rd_pick.E N) Try.f27 [(37, .box), (3, .ro)] [(3, .val)] a
theorem spec_l1Rd_pick.f_eq (N : Nat) (a0 : PV) (a1 : PV) : spec_l1Rd_pick.f N [a0, a1] = if decide (a1.toInt < 1) = false then (if decide ((((a0.fld 0).items).length : Int) = 0) = true then (some [(PV.sc (.int .i64 0)), (PV.agg [a0.fld 0, (PV.sc (.int .i64 (IntKind.i64.wrap (((a0.fld 1).toInt) + 1))))])]) else (if decide ((IntKind.i64.wrap ((IntKind.i64.wrap (((a0.fld 1).toInt) + 1)) - 1)) < (((a0.fld 0).items).length : Int)) = true then (if 0 ≤ (IntKind.i64.wrap ((IntKind.i64.wrap (((a0.fld 1).toInt) + 1)) - 1)) then (if (IntKind.i64.wrap ((IntKind.i64.wrap (((a0.fld 1).toInt) + 1)) - 1)) < (((a0.fld 0).items).length : Int) then (if a1.toInt = 0 then none else (some [(PV.sc (.int .i64 (Int.tmod (IntKind.i64.wrap (((a0.fld 0).elem ((IntKind.i64.wrap ((IntKind.i64.wrap (((a0.fld 1).toInt) + 1)) - 1)).toNat)).toInt)) a1.toInt))), (PV.agg [a0.fld 0, (PV.sc (.int .i64 (IntKind.i64.wrap (((a0.fld 1).toInt) + 1))))])])) else none) else none) else (if (((a0.fld 0).items).length : Int) = 0 then none else (if 0 ≤ (Int.tmod (IntKind.i64.wrap ((IntKind.i64.wrap (((a0.fld 1).toInt) + 1)) - 1)) (((a0.fld 0).items).length : Int)) then (if (Int.tmod (IntKind.i64.wrap ((IntKind.i64.wrap (((a0.fld 1).toInt) + 1)) - 1)) (((a0.fld 0).items).length : Int)) < (((a0.fld 0).items).length : Int) then (if (((a0.fld 0).items).length : Int) = 0 then none else (if 0 ≤ (Int.tmod (IntKind.i64.wrap ((IntKind.i64.wrap ((IntKind.i64.wrap ((IntKind.i64.wrap (((a0.fld 1).toInt) + 1)) - 1)) * 7)) + 3)) (((a0.fld 0).items).length : Int)) then (if (Int.tmod (IntKind.i64.wrap ((IntKind.i64.wrap ((IntKind.i64.wrap ((IntKind.i64.wrap (((a0.fld 1).toInt) + 1)) - 1)) * 7)) + 3)) (((a0.fld 0).items).length : Int)) < (((a0.fld 0).items).length : Int) then (if (((a0.fld 0).items).length : Int) = 0 then none else (if 64 = 0 then none else (if a1.toInt = 0 then none else (some [(PV.sc (.int .i64 (Int.tmod (bXor .i64 (IntKind.i64.wrap ((IntKind.i64.wrap ((IntKind.i64.wrap ((IntKind.i64.wrap ((IntKind.i64.wrap (((a0.fld 0).elem ((Int.tmod (IntKind.i64.wrap ((IntKind.i64.wrap (((a0.fld 1).toInt) + 1)) - 1)) (((a0.fld 0).items).length : Int)).toNat)).toInt)) * 131)) + (IntKind.i64.wrap ((IntKind.i64.wrap (((a0.fld 0).elem ((Int.tmod (IntKind.i64.wrap ((IntKind.i64.wrap ((IntKind.i64.wrap ((IntKind.i64.wrap (((a0.fld 1).toInt) + 1)) - 1)) * 7)) + 3)) (((a0.fld 0).items).length : Int)).toNat)).toInt)) * 1117)))) + (IntKind.i64.wrap ((IntKind.i64.wrap ((IntKind.i64.wrap (((a0.fld 1).toInt) + 1)) - 1)) * 29)))) + (IntKind.i64.wrap ((IntKind.i64.wrap (Int.tdiv (IntKind.i64.wrap ((IntKind.i64.wrap (((a0.fld 1).toInt) + 1)) - 1)) (((a0.fld 0).items).length : Int))) * 53)))) (IntKind.i64.wrap (Int.tdiv (IntKind.i64.wrap ((IntKind.i64.wrap ((IntKind.i64.wrap ((IntKind.i64.wrap ((IntKind.i64.wrap (((a0.fld 0).elem ((Int.tmod (IntKind.i64.wrap ((IntKind.i64.wrap (((a0.fld 1).toInt) + 1)) - 1)) (((a0.fld 0).items).length : Int)).toNat)).toInt)) * 131)) + (IntKind.i64.wrap ((IntKind.i64.wrap (((a0.fld 0).elem ((Int.tmod (IntKind.i64.wrap ((IntKind.i64.wrap ((IntKind.i64.wrap ((IntKind.i64.wrap (((a0.fld 1).toInt) + 1)) - 1)) * 7)) + 3)) (((a0.fld 0).items).length : Int)).toNat)).toInt)) * 1117)))) + (IntKind.i64.wrap ((IntKind.i64.wrap ((IntKind.i64.wrap (((a0.fld 1).toInt) + 1)) - 1)) * 29)))) + (IntKind.i64.wrap ((IntKind.i64.wrap (Int.tdiv (IntKind.i64.wrap ((IntKind.i64.wrap (((a0.fld 1).toInt) + 1)) - 1)) (((a0.fld 0).items).length : Int))) * 53)))) 64))) a1.toInt))), (PV.agg [a0.fld 0, (PV.sc (.int .i64 (IntKind.i64.wrap (((a0.fld 1).toInt) + 1))))])])))) else none) else none)) else none) else none)))) else (some [(PV.sc (.int .i64 0)), (PV.agg [a0.fld 0, (PV.sc (.int .i64 (IntKind.i64.wrap (((a0.fld 1).toInt) + 1))))])]) := by kernel_rfl
noncomputable def spec_l1Rd_pick.S (N : Nat) : ASpec := ⟨[(37, .box), (3, .ro)], [(3, .val)], spec_l1Rd_pick.f N⟩
theorem spec_l1Rd_pick.ok (N : Nat) : FnOk Try.prog 27 (spec_l1Rd_pick.S N) := fnOk_of (E := spec_l1Rd_pick.E N) mix Try.func27 (by kernel_rfl) (by kernel_rfl) (by kernel_rfl) (lk_ok all_nil) (by kernel_rfl) (fun _ _ h => h)

/-! ### spec_l1Rd_of: function 33, (*loop.example/medlar/spec.l1Rd).of -/
noncomputable def spec_l1Rd_of.E (N : Nat) : Env := ⟨lk [(27, spec_l1Rd_pick.S N)], nzk [], N, [(true, 45)]⟩
noncomputable def spec_l1Rd_of.f (N : Nat) (a : List PV) : Option Res := run Try.prog (spec_l1Rd_of.E N) Try.f33 [(37, .box), (22, .ro)] [(9, .val)] a
theorem spec_l1Rd_of.f_eq (N : Nat) (a0 : PV) (a1 : PV) : spec_l1Rd_of.f N [a0, a1] = (spec_l1Rd_pick.f N [(PV.agg [a0.fld 0, (PV.sc (.int .i64 ((a0.fld 1).toInt)))]), (PV.sc (.int .i64 (a1.items.length : Int)))]).bind fun t1 => if 0 ≤ ((t1.headD default).toInt) then (if ((t1.headD default).toInt) < (a1.items.length : Int) then (some [(PV.sc (.string ((a1.elem (((t1.headD default).toInt).toNat)).toStr))), (PV.agg [a0.fld 0, (PV.sc (.int .i64 (((t1.tail.headD default).fld 1).toInt)))])]) else none) else none := by kernel_rfl
noncomputable def spec_l1Rd_of.S (N : Nat) : ASpec := ⟨[(37, .box), (22, .ro)], [(9, .val)], spec_l1Rd_of.f N⟩
theorem spec_l1Rd_of.ok (N : Nat) : FnOk Try.prog 33 (spec_l1Rd_of.S N) := fnOk_of (E := spec_l1Rd_of.E N) mix Try.func33 (by kernel_rfl) (by kernel_rfl) (by kernel_rfl) (lk_ok (all_cons (spec_l1Rd_pick.ok N) all_nil)) (by kernel_rfl) (fun _ _ h => h)

/-! ### spec_l1Least: function 39, loop.example/medlar/spec.l1Least -/
noncomputable def spec_l1Least.E (N : Nat) : Env := ⟨lk [], nzk [], N, []⟩
noncomputable def spec_l1Least.f (N : Nat) (a : List PV) : Option Res := run Try.prog (spec_l1Least.E N) Try.f39 [(3, .ro), (3, .ro)] [(3, .val)] a
theorem spec_l1Least.f_eq (N : Nat) (a0 : PV) (a1 : PV) : spec_l1Least.f N [a0, a1] = if decide (a0.toInt < a1.toInt) = true then (some [(PV.sc (.int .i64 a0.toInt))]) else (some [(PV.sc (.int .i64 a1.toInt))]) := by kernel_rfl
noncomputable def spec_l1Least.S (N : Nat) : ASpec := ⟨[(3, .ro), (3, .ro)], [(3, .val)], spec_l1Least.f N⟩
theorem spec_l1Least.ok (N : Nat) : FnOk Try.prog 39 (spec_l1Least.S N) := fnOk_of (E := spec_l1Least.E N) mix Try.func39 (by kernel_rfl) (by kernel_rfl) (by kernel_rfl) (lk_ok all_nil) (by kernel_rfl) (fun _ _ h => h)

/-! ### spec_l13Word: function 32, loop.example/medlar/spec.l13Word -/
noncomputable def spec_l13Word.E (N : Nat) : Env := ⟨lk [(27, spec_l1Rd_pick.S N), (33, spec_l1Rd_of.S N), (39, spec_l1Least.S N)], nzk [(4, ⟨[1, 2, 5, 6, 7, 8, 9, 10, 11, 12, 13, 14, 15, 16, 17, 18, 19, 20, 21, 22, 23, 24, 25, 26, 27], []⟩)], N, [(true, 45)]⟩
noncomputable def spec_l13Word.f (N : Nat) (a : List PV) : Option Res := run Try.prog (spec_l13Word.E N) Try.f32 [(37, .box)] [(9, .val)] a
noncomputable def spec_l13Word.l0 (N : Nat) (n : Nat) (x3 : ByteArray) (x4 : Int) (y0_0 : PV) (y0_1 : Int) : Option Res := loopAt Try.prog (spec_l13Word.E N) Try.f32 [(9, .val)] [1, 0, 1, 0, 1, 0, 1, 0] [] n ⟨mkSlots 28 [(0, .ptr 0 []), (3, .sc (.string x3)), (4, .sc (.int .i64 x4))], ohOf [.box 45 (.agg 45 [.con 0 29 y0_0, .sc (.int .i64 y0_1)])]⟩
theorem spec_l13Word.f_eq (N : Nat) (a0 : PV) : spec_l13Word.f N [a0] = (spec_l1Rd_pick.f N [(PV.agg [a0.fld 0, (PV.sc (.int .i64 ((a0.fld 1).toInt)))]), (PV.sc (.int .i64 3))]).bind fun t1 => if decide (((t1.headD default).toInt) = 0) = true then ((spec_l1Rd_pick.f N [(PV.agg [a0.fld 0, (PV.sc (.int .i64 (((t1.tail.headD default).fld 1).toInt)))]), (PV.sc (.int .i64 5))]).bind fun t2 => spec_l13Word.l0 N N (ByteArray.mk #[]) (IntKind.i64.wrap (1 + ((t2.headD default).toInt))) (a0.fld 0) (((t2.tail.headD default).fld 1).toInt)) else ((spec_l1Rd_of.f N [(PV.agg [a0.fld 0, (PV.sc (.int .i64 (((t1.tail.headD default).fld 1).toInt)))]), (PV.list ([(PV.sc (.string (ByteArray.mk #[99, 97, 116]))), (PV.sc (.string (ByteArray.mk #[99, 97, 116, 115]))), (PV.sc (.string (ByteArray.mk #[97, 99, 116]))), (PV.sc (.string (ByteArray.mk #[100, 111]))), (PV.sc (.string (ByteArray.mk #[100, 111, 105, 110, 103]))), (PV.sc (.string (ByteArray.mk #[103, 111]))), (PV.sc (.string (ByteArray.mk #[117, 110, 100, 111]))), (PV.sc (.string (ByteArray.mk #[116, 114, 121]))), (PV.sc (.string (ByteArray.mk #[116, 114, 105, 101, 115]))), (PV.sc (.string (ByteArray.mk #[97]))), (PV.sc (.string (ByteArray.mk #[98, 97, 107, 101]))), (PV.sc (.string (ByteArray.mk #[98, 97, 107, 105, 110, 103]))), (PV.sc (.string (ByteArray.mk #[116, 97, 99, 116]))), (PV.sc (.string (ByteArray.mk #[99, 97, 114, 116]))), (PV.sc (.string (ByteArray.mk #[97, 98, 99, 97, 98, 99, 97, 98, 99, 97, 98, 99])))]))]).bind fun t3 => some [(PV.sc (.string ((t3.headD default).toStr))), (PV.agg [a0.fld 0, (PV.sc (.int .i64 (((t3.tail.headD default).fld 1).toInt)))])]) := by kernel_rfl
theorem spec_l13Word.l0_eq (N : Nat) (n : Nat) (x3 : ByteArray) (x4 : Int) (y0_0 : PV) (y0_1 : Int) : spec_l13Word.l0 N (n + 1) x3 x4 y0_0 y0_1 = if decide (0 < x4) = true then ((spec_l1Rd_of.f N [(PV.agg [y0_0, (PV.sc (.int .i64 y0_1))]), (PV.list ([(PV.sc (.string (ByteArray.mk #[97]))), (PV.sc (.string (ByteArray.mk #[98]))), (PV.sc (.string (ByteArray.mk #[99]))), (PV.sc (.string (ByteArray.mk #[97, 98]))), (PV.sc (.string (ByteArray.mk #[116])))]))]).bind fun t4 => if x3.size + ((t4.headD default).toStr).size ≤ 9223372036854775807 then (spec_l13Word.l0 N n (x3 ++ ((t4.headD default).toStr)) (IntKind.i64.wrap (x4 - 1)) y0_0 (((t4.tail.headD default).fld 1).toInt)) else none) else ((spec_l1Least.f N [(PV.sc (.int .i64 (x3.size : Int))), (PV.sc (.int .i64 12))]).bind fun t5 => if 0 ≤ ((t5.headD default).toInt) then (if ((t5.headD default).toInt) ≤ (x3.size : Int) then (some [(PV.sc (.string (x3.extract 0 (((t5.headD default).toInt).toNat)))), (PV.agg [y0_0, (PV.sc (.int .i64 y0_1))])]) else none) else none) := by kernel_rfl
noncomputable def spec_l13Word.S (N : Nat) : ASpec := ⟨[(37, .box)], [(9, .val)], spec_l13Word.f N⟩
theorem spec_l13Word.ok (N : Nat) : FnOk Try.prog 32 (spec_l13Word.S N) := fnOk_of (E := spec_l13Word.E N) mix Try.func32 (by kernel_rfl) (by kernel_rfl) (by kernel_rfl) (lk_ok (all_cons (spec_l1Rd_pick.ok N) (all_cons (spec_l1Rd_of.ok N) (all_cons (spec_l1Least.ok N) all_nil)))) (by kernel_rfl) (fun _ _ h => h)

/-! ### spec_l1Put: function 20, loop.example/medlar/spec.l1Put -/
noncomputable def spec_l1Put.E (N : Nat) : Env := ⟨lk [], nzk [(2, ⟨[2, 3, 4, 6, 7, 8, 9, 10, 11, 12, 13, 14, 15, 16, 17, 18, 19, 20, 21, 22, 23, 24, 25, 26, 27, 28, 29, 30, 31, 32, 33, 34, 35, 36, 37, 38, 39, 40, 41, 42, 43, 44], []⟩)], N, []⟩
noncomputable def spec_l1Put.f (N : Nat) (a : List PV) : Option Res := run Try.prog (spec_l1Put.E N) Try.f20 [(22, .own), (9, .ro)] [(22, .own)] a
noncomputable def spec_l1Put.l0 (N : Nat) (n : Nat) (x1 : ByteArray) (x5 : Int) (y0 : PV) : Option Res := loopAt Try.prog (spec_l1Put.E N) Try.f20 [(22, .own)] [1, 1, 0, 0] [] n ⟨mkSlots 45 [(0, .ref 0 []), (1, .sc (.string x1)), (5, .sc (.int .i64 x5))], ohOf [.row 22 y0]⟩
theorem spec_l1Put.f_eq (N : Nat) (a0 : PV) (a1 : PV) : spec_l1Put.f N [a0, a1] = spec_l1Put.l0 N N a1.toStr 0 a0 := by kernel_rfl
theorem spec_l1Put.l0_eq (N : Nat) (n : Nat) (x1 : ByteArray) (x5 : Int) (y0 : PV) : spec_l1Put.l0 N (n + 1) x1 x5 y0 = if decide (x5 < (y0.items.length : Int)) = true then (if 0 ≤ x5 then (if x5 < (y0.items.length : Int) then (if Op.bytesLess ((y0.elem x5.toNat).toStr).toList x1.toList = true then (spec_l1Put.l0 N n x1 (IntKind.i64.wrap (x5 + 1)) y0) else (if decide (x5 < (y0.items.length : Int)) = true then (if 0 ≤ x5 then (if x5 < (y0.items.length : Int) then (if decide (((y0.elem x5.toNat).toStr).toList = x1.toList) = true then (some [y0]) else (if 0 ≤ x5 then (if x5 ≤ (y0.items.length : Int) then (if ([] : List PV).length + ((y0.items.drop 0).take (x5.toNat - 0)).length ≤ 8796093022208 then (if (([] : List PV) ++ ((y0.items.drop 0).take (x5.toNat - 0))).length + [(PV.sc (.string x1))].length ≤ 8796093022208 then (if 0 ≤ x5 then (if x5 ≤ (y0.items.length : Int) then (if ((([] : List PV) ++ ((y0.items.drop 0).take (x5.toNat - 0))) ++ [(PV.sc (.string x1))]).length + ((y0.items.drop x5.toNat).take (y0.items.length - x5.toNat)).length ≤ 8796093022208 then (some [(PV.list (((([] : List PV) ++ ((y0.items.drop 0).take (x5.toNat - 0))) ++ [(PV.sc (.string x1))]) ++ ((y0.items.drop x5.toNat).take (y0.items.length - x5.toNat))))]) else none) else none) else none) else none) else none) else none) else none)) else none) else none) else (if 0 ≤ x5 then (if x5 ≤ (y0.items.length : Int) then (if ([] : List PV).length + ((y0.items.drop 0).take (x5.toNat - 0)).length ≤ 8796093022208 then (if (([] : List PV) ++ ((y0.items.drop 0).take (x5.toNat - 0))).length + [(PV.sc (.string x1))].length ≤ 8796093022208 then (if 0 ≤ x5 then (if x5 ≤ (y0.items.length : Int) then (if ((([] : List PV) ++ ((y0.items.drop 0).take (x5.toNat - 0))) ++ [(PV.sc (.string x1))]).length + ((y0.items.drop x5.toNat).take (y0.items.length - x5.toNat)).length ≤ 8796093022208 then (some [(PV.list (((([] : List PV) ++ ((y0.items.drop 0).take (x5.toNat - 0))) ++ [(PV.sc (.string x1))]) ++ ((y0.items.drop x5.toNat).take (y0.items.length - x5.toNat))))]) else none) else none) else none) else none) else none) else none) else none))) else none) else none) else (if decide (x5 < (y0.items.length : Int)) = true then (if 0 ≤ x5 then (if x5 < (y0.items.length : Int) then (if decide (((y0.elem x5.toNat).toStr).toList = x1.toList) = true then (some [y0]) else (if 0 ≤ x5 then (if x5 ≤ (y0.items.length : Int) then (if ([] : List PV).length + ((y0.items.drop 0).take (x5.toNat - 0)).length ≤ 8796093022208 then (if (([] : List PV) ++ ((y0.items.drop 0).take (x5.toNat - 0))).length + [(PV.sc (.string x1))].length ≤ 8796093022208 then (if 0 ≤ x5 then (if x5 ≤ (y0.items.length : Int) then (if ((([] : List PV) ++ ((y0.items.drop 0).take (x5.toNat - 0))) ++ [(PV.sc (.string x1))]).length + ((y0.items.drop x5.toNat).take (y0.items.length - x5.toNat)).length ≤ 8796093022208 then (some [(PV.list (((([] : List PV) ++ ((y0.items.drop 0).take (x5.toNat - 0))) ++ [(PV.sc (.string x1))]) ++ ((y0.items.drop x5.toNat).take (y0.items.length - x5.toNat))))]) else none) else none) else none) else none) else none) else none) else none)) else none) else none) else (if 0 ≤ x5 then (if x5 ≤ (y0.items.length : Int) then (if ([] : List PV).length + ((y0.items.drop 0).take (x5.toNat - 0)).length ≤ 8796093022208 then (if (([] : List PV) ++ ((y0.items.drop 0).take (x5.toNat - 0))).length + [(PV.sc (.string x1))].length ≤ 8796093022208 then (if 0 ≤ x5 then (if x5 ≤ (y0.items.length : Int) then (if ((([] : List PV) ++ ((y0.items.drop 0).take (x5.toNat - 0))) ++ [(PV.sc (.string x1))]).length + ((y0.items.drop x5.toNat).take (y0.items.length - x5.toNat)).length ≤ 8796093022208 then (some [(PV.list (((([] : List PV) ++ ((y0.items.drop 0).take (x5.toNat - 0))) ++ [(PV.sc (.string x1))]) ++ ((y0.items.drop x5.toNat).take (y0.items.length - x5.toNat))))]) else none) else none) else none) else none) else none) else none) else none)) := by kernel_rfl
noncomputable def spec_l1Put.S (N : Nat) : ASpec := ⟨[(22, .own), (9, .ro)], [(22, .own)], spec_l1Put.f N⟩
theorem spec_l1Put.ok (N : Nat) : FnOk Try.prog 20 (spec_l1Put.S N) := fnOk_of (E := spec_l1Put.E N) mix Try.func20 (by kernel_rfl) (by kernel_rfl) (by kernel_rfl) (lk_ok all_nil) (by kernel_rfl) (fun _ _ h => h)

/-! ### spec_l13AnyWord: function 26, loop.example/medlar/spec.l13AnyWord -/
noncomputable def spec_l13AnyWord.E (N : Nat) : Env := ⟨lk [(27, spec_l1Rd_pick.S N), (33, spec_l1Rd_of.S N), (32, spec_l13Word.S N)], nzk [], N, [(true, 45)]⟩
noncomputable def spec_l13AnyWord.f (N : Nat) (a : List PV) : Option Res := run Try.prog (spec_l13AnyWord.E N) Try.f26 [(37, .box)] [(9, .val)] a
theorem spec_l13AnyWord.f_eq (N : Nat) (a0 : PV) : spec_l13AnyWord.f N [a0] = (spec_l1Rd_pick.f N [(PV.agg [a0.fld 0, (PV.sc (.int .i64 ((a0.fld 1).toInt)))]), (PV.sc (.int .i64 16))]).bind fun t1 => if decide (((t1.headD default).toInt) = 0) = true then ((spec_l1Rd_of.f N [(PV.agg [a0.fld 0, (PV.sc (.int .i64 (((t1.tail.headD default).fld 1).toInt)))]), (PV.list ([(PV.sc (.string (ByteArray.mk #[]))), (PV.sc (.string (ByteArray.mk #[67, 97, 116]))), (PV.sc (.string (ByteArray.mk #[97, 32, 98]))), (PV.sc (.string (ByteArray.mk #[97, 98, 99, 97, 98, 99, 97, 98, 99, 97, 98, 99, 97]))), (PV.sc (.string (ByteArray.mk #[120, 49]))), (PV.sc (.string (ByteArray.mk #[45])))]))]).bind fun t2 => some [(PV.sc (.string ((t2.headD default).toStr))), (PV.agg [a0.fld 0, (PV.sc (.int .i64 (((t2.tail.headD default).fld 1).toInt)))])]) else ((spec_l13Word.f N [(PV.agg [a0.fld 0, (PV.sc (.int .i64 (((t1.tail.headD default).fld 1).toInt)))])]).bind fun t3 => some [(PV.sc (.string ((t3.headD default).toStr))), (PV.agg [a0.fld 0, (PV.sc (.int .i64 (((t3.tail.headD default).fld 1).toInt)))])]) := by kernel_rfl
noncomputable def spec_l13AnyWord.S (N : Nat) : ASpec := ⟨[(37, .box)], [(9, .val)], spec_l13AnyWord.f N⟩
theorem spec_l13AnyWord.ok (N : Nat) : FnOk Try.prog 26 (spec_l13AnyWord.S N) := fnOk_of (E := spec_l13AnyWord.E N) mix Try.func26 (by kernel_rfl) (by kernel_rfl) (by kernel_rfl) (lk_ok (all_cons (spec_l1Rd_pick.ok N) (all_cons (spec_l1Rd_of.ok N) (all_cons (spec_l13Word.ok N) all_nil)))) (by kernel_rfl) (fun _ _ h => h)

/-! ### spec_l13Own: function 25, loop.example/medlar/spec.l13Own -/
noncomputable def spec_l13Own.E (N : Nat) : Env := ⟨lk [(27, spec_l1Rd_pick.S N), (32, spec_l13Word.S N), (20, spec_l1Put.S N), (26, spec_l13AnyWord.S N)], nzk [(3, ⟨[1, 2, 5, 6, 7, 8, 9, 10, 11, 12, 13, 14, 15, 16, 17, 18, 19, 20, 21, 22, 23, 24, 25, 26, 27, 28], [(3, 22)]⟩)], N, [(true, 45)]⟩
noncomputable def spec_l13Own.f (N : Nat) (a : List PV) : Option Res := run Try.prog (spec_l13Own.E N) Try.f25 [(37, .box)] [(22, .own)] a
noncomputable def spec_l13Own.l0 (N : Nat) (n : Nat) (x4 : Int) (y0_0 : PV) (y0_1 : Int) (y1 : List PV) : Option Res := loopAt Try.prog (spec_l13Own.E N) Try.f25 [(22, .own)] [1, 1, 0, 1, 0] [] n ⟨mkSlots 29 [(0, .ptr 0 []), (3, .ref 1 []), (4, .sc (.int .i64 x4))], ohOf [.box 45 (.agg 45 [.con 0 29 y0_0, .sc (.int .i64 y0_1)]), .row 22 (PV.list y1)]⟩
noncomputable def spec_l13Own.l1 (N : Nat) (n : Nat) (x4 : Int) (y0_0 : PV) (y0_1 : Int) (y1 : PV) : Option Res := loopAt Try.prog (spec_l13Own.E N) Try.f25 [(22, .own)] [1, 1, 0, 1, 0] [] n ⟨mkSlots 29 [(0, .ptr 0 []), (3, .ref 1 []), (4, .sc (.int .i64 x4))], ohOf [.box 45 (.agg 45 [.con 0 29 y0_0, .sc (.int .i64 y0_1)]), .row 22 y1]⟩
theorem spec_l13Own.f_eq (N : Nat) (a0 : PV) : spec_l13Own.f N [a0] = (spec_l1Rd_pick.f N [(PV.agg [a0.fld 0, (PV.sc (.int .i64 ((a0.fld 1).toInt)))]), (PV.sc (.int .i64 4))]).bind fun t1 => spec_l13Own.l0 N N ((t1.headD default).toInt) (a0.fld 0) (((t1.tail.headD default).fld 1).toInt) [] := by kernel_rfl
theorem spec_l13Own.l0_eq (N : Nat) (n : Nat) (x4 : Int) (y0_0 : PV) (y0_1 : Int) (y1 : List PV) : spec_l13Own.l0 N (n + 1) x4 y0_0 y0_1 y1 = if decide (0 < x4) = true then ((spec_l13Word.f N [(PV.agg [y0_0, (PV.sc (.int .i64 y0_1))])]).bind fun t2 => (spec_l1Put.f N [(PV.list y1), (PV.sc (.string ((t2.headD default).toStr)))]).bind fun t3 => spec_l13Own.l1 N n (IntKind.i64.wrap (x4 - 1)) y0_0 (((t2.tail.headD default).fld 1).toInt) (t3.headD default)) else ((spec_l1Rd_pick.f N [(PV.agg [y0_0, (PV.sc (.int .i64 y0_1))]), (PV.sc (.int .i64 20))]).bind fun t4 => if decide (((t4.headD default).toInt) = 0) = true then ((spec_l13AnyWord.f N [(PV.agg [y0_0, (PV.sc (.int .i64 (((t4.tail.headD default).fld 1).toInt)))])]).bind fun t5 => if y1.length + [(PV.sc (.string ((t5.headD default).toStr)))].length ≤ 8796093022208 then ((spec_l1Rd_pick.f N [(PV.agg [y0_0, (PV.sc (.int .i64 (((t5.tail.headD default).fld 1).toInt)))]), (PV.sc (.int .i64 20))]).bind fun t6 => if decide (((t6.headD default).toInt) = 0) = true then (some [(PV.list ([(PV.sc (.string (ByteArray.mk #[97]))), (PV.sc (.string (ByteArray.mk #[98]))), (PV.sc (.string (ByteArray.mk #[99]))), (PV.sc (.string (ByteArray.mk #[100]))), (PV.sc (.string (ByteArray.mk #[101]))), (PV.sc (.string (ByteArray.mk #[102]))), (PV.sc (.string (ByteArray.mk #[103]))), (PV.sc (.string (ByteArray.mk #[104]))), (PV.sc (.string (ByteArray.mk #[105]))), (PV.sc (.string (ByteArray.mk #[106])))])), (PV.agg [y0_0, (PV.sc (.int .i64 (((t6.tail.headD default).fld 1).toInt)))])]) else (some [(PV.list (y1 ++ [(PV.sc (.string ((t5.headD default).toStr)))])), (PV.agg [y0_0, (PV.sc (.int .i64 (((t6.tail.headD default).fld 1).toInt)))])])) else none) else ((spec_l1Rd_pick.f N [(PV.agg [y0_0, (PV.sc (.int .i64 (((t4.tail.headD default).fld 1).toInt)))]), (PV.sc (.int .i64 20))]).bind fun t7 => if decide (((t7.headD default).toInt) = 0) = true then (some [(PV.list ([(PV.sc (.string (ByteArray.mk #[97]))), (PV.sc (.string (ByteArray.mk #[98]))), (PV.sc (.string (ByteArray.mk #[99]))), (PV.sc (.string (ByteArray.mk #[100]))), (PV.sc (.string (ByteArray.mk #[101]))), (PV.sc (.string (ByteArray.mk #[102]))), (PV.sc (.string (ByteArray.mk #[103]))), (PV.sc (.string (ByteArray.mk #[104]))), (PV.sc (.string (ByteArray.mk #[105]))), (PV.sc (.string (ByteArray.mk #[106])))])), (PV.agg [y0_0, (PV.sc (.int .i64 (((t7.tail.headD default).fld 1).toInt)))])]) else (some [(PV.list y1), (PV.agg [y0_0, (PV.sc (.int .i64 (((t7.tail.headD default).fld 1).toInt)))])]))) := by kernel_rfl
theorem spec_l13Own.l1_eq (N : Nat) (n : Nat) (x4 : Int) (y0_0 : PV) (y0_1 : Int) (y1 : PV) : spec_l13Own.l1 N (n + 1) x4 y0_0 y0_1 y1 = if decide (0 < x4) = true then ((spec_l13Word.f N [(PV.agg [y0_0, (PV.sc (.int .i64 y0_1))])]).bind fun t8 => (spec_l1Put.f N [y1, (PV.sc (.string ((t8.headD default).toStr)))]).bind fun t9 => spec_l13Own.l1 N n (IntKind.i64.wrap (x4 - 1)) y0_0 (((t8.tail.headD default).fld 1).toInt) (t9.headD default)) else ((spec_l1Rd_pick.f N [(PV.agg [y0_0, (PV.sc (.int .i64 y0_1))]), (PV.sc (.int .i64 20))]).bind fun t10 => if decide (((t10.headD default).toInt) = 0) = true then ((spec_l13AnyWord.f N [(PV.agg [y0_0, (PV.sc (.int .i64 (((t10.tail.headD default).fld 1).toInt)))])]).bind fun t11 => if y1.items.length + [(PV.sc (.string ((t11.headD default).toStr)))].length ≤ 8796093022208 then ((spec_l1Rd_pick.f N [(PV.agg [y0_0, (PV.sc (.int .i64 (((t11.tail.headD default).fld 1).toInt)))]), (PV.sc (.int .i64 20))]).bind fun t12 => if decide (((t12.headD default).toInt) = 0) = true then (some [(PV.list ([(PV.sc (.string (ByteArray.mk #[97]))), (PV.sc (.string (ByteArray.mk #[98]))), (PV.sc (.string (ByteArray.mk #[99]))), (PV.sc (.string (ByteArray.mk #[100]))), (PV.sc (.string (ByteArray.mk #[101]))), (PV.sc (.string (ByteArray.mk #[102]))), (PV.sc (.string (ByteArray.mk #[103]))), (PV.sc (.string (ByteArray.mk #[104]))), (PV.sc (.string (ByteArray.mk #[105]))), (PV.sc (.string (ByteArray.mk #[106])))])), (PV.agg [y0_0, (PV.sc (.int .i64 (((t12.tail.headD default).fld 1).toInt)))])]) else (some [(PV.list (y1.items ++ [(PV.sc (.string ((t11.headD default).toStr)))])), (PV.agg [y0_0, (PV.sc (.int .i64 (((t12.tail.headD default).fld 1).toInt)))])])) else none) else ((spec_l1Rd_pick.f N [(PV.agg [y0_0, (PV.sc (.int .i64 (((t10.tail.headD default).fld 1).toInt)))]), (PV.sc (.int .i64 20))]).bind fun t13 => if decide (((t13.headD default).toInt) = 0) = true then (some [(PV.list ([(PV.sc (.string (ByteArray.mk #[97]))), (PV.sc (.string (ByteArray.mk #[98]))), (PV.sc (.string (ByteArray.mk #[99]))), (PV.sc (.string (ByteArray.mk #[100]))), (PV.sc (.string (ByteArray.mk #[101]))), (PV.sc (.string (ByteArray.mk #[102]))), (PV.sc (.string (ByteArray.mk #[103]))), (PV.sc (.string (ByteArray.mk #[104]))), (PV.sc (.string (ByteArray.mk #[105]))), (PV.sc (.string (ByteArray.mk #[106])))])), (PV.agg [y0_0, (PV.sc (.int .i64 (((t13.tail.headD default).fld 1).toInt)))])]) else (some [y1, (PV.agg [y0_0, (PV.sc (.int .i64 (((t13.tail.headD default).fld 1).toInt)))])]))) := by kernel_rfl
noncomputable def spec_l13Own.S (N : Nat) : ASpec := ⟨[(37, .box)], [(22, .own)], spec_l13Own.f N⟩
theorem spec_l13Own.ok (N : Nat) : FnOk Try.prog 25 (spec_l13Own.S N) := fnOk_of (E := spec_l13Own.E N) mix Try.func25 (by kernel_rfl) (by kernel_rfl) (by kernel_rfl) (lk_ok (all_cons (spec_l1Rd_pick.ok N) (all_cons (spec_l13Word.ok N) (all_cons (spec_l1Put.ok N) (all_cons (spec_l13AnyWord.ok N) all_nil))))) (by kernel_rfl) (fun _ _ h => h)

/-! ### spec_DrawUserDrop: function 17, loop.example/medlar/spec.DrawUserDrop -/
noncomputable def spec_DrawUserDrop.E (N : Nat) : Env := ⟨lk [(24, spec_l1Open.S N), (25, spec_l13Own.S N), (27, spec_l1Rd_pick.S N), (26, spec_l13AnyWord.S N)], nzk [], N, []⟩
noncomputable def spec_DrawUserDrop.f (N : Nat) (a : List PV) : Option Res := run Try.prog (spec_DrawUserDrop.E N) Try.f17 [(29, .ro)] [(22, .own), (9, .val)] a
theorem spec_DrawUserDrop.f_eq (N : Nat) (a0 : PV) : spec_DrawUserDrop.f N [a0] = (spec_l1Open.f N [a0]).bind fun t1 => (spec_l13Own.f N [(PV.agg [(t1.headD default).fld 0, (PV.sc (.int .i64 (((t1.headD default).fld 1).toInt)))])]).bind fun t2 => if decide (0 < (((t2.headD default).items).length : Int)) = true then ((spec_l1Rd_pick.f N [(PV.agg [(t1.headD default).fld 0, (PV.sc (.int .i64 (((t2.tail.headD default).fld 1).toInt)))]), (PV.sc (.int .i64 2))]).bind fun t3 => if decide (((t3.headD default).toInt) = 0) = true then ((spec_l1Rd_pick.f N [(PV.agg [(t1.headD default).fld 0, (PV.sc (.int .i64 (((t3.tail.headD default).fld 1).toInt)))]), (PV.sc (.int .i64 (((t2.headD default).items).length : Int)))]).bind fun t4 => if 0 ≤ ((t4.headD default).toInt) then (if ((t4.headD default).toInt) < (((t2.headD default).items).length : Int) then (some [(t2.headD default), (PV.sc (.string (((t2.headD default).elem (((t4.headD default).toInt).toNat)).toStr)))]) else none) else none) else ((spec_l13AnyWord.f N [(PV.agg [(t1.headD default).fld 0, (PV.sc (.int .i64 (((t3.tail.headD default).fld 1).toInt)))])]).bind fun t5 => some [(t2.headD default), (PV.sc (.string ((t5.headD default).toStr)))])) else ((spec_l13AnyWord.f N [(PV.agg [(t1.headD default).fld 0, (PV.sc (.int .i64 (((t2.tail.headD default).fld 1).toInt)))])]).bind fun t6 => some [(t2.headD default), (PV.sc (.string ((t6.headD default).toStr)))]) := by kernel_rfl
noncomputable def spec_DrawUserDrop.S (N : Nat) : ASpec := ⟨[(29, .ro)], [(22, .own), (9, .val)], spec_DrawUserDrop.f N⟩
theorem spec_DrawUserDrop.ok (N : Nat) : FnOk Try.prog 17 (spec_DrawUserDrop.S N) := fnOk_of (E := spec_DrawUserDrop.E N) mix Try.func17 (by kernel_rfl) (by kernel_rfl) (by kernel_rfl) (lk_ok (all_cons (spec_l1Open.ok N) (all_cons (spec_l13Own.ok N) (all_cons (spec_l1Rd_pick.ok N) (all_cons (spec_l13AnyWord.ok N) all_nil))))) (by kernel_rfl) (fun _ _ h => h)

/-! ### impl_within: function 35, loop.example/medlar/impl.within -/
noncomputable def impl_within.E (N : Nat) : Env := ⟨lk [], nzk [], N, []⟩
noncomputable def impl_within.f (N : Nat) (a : List PV) : Option Res := run Try.prog (impl_within.E N) Try.f35 [(3, .ro), (3, .ro), (3, .ro)] [(4, .val)] a
theorem impl_within.f_eq (N : Nat) (a0 : PV) (a1 : PV) (a2 : PV) : impl_within.f N [a0, a1, a2] = if decide (a1.toInt ≤ a0.toInt) = true then (some [(PV.sc (.bool (decide (a0.toInt ≤ a2.toInt))))]) else (some [(PV.sc (.bool false))]) := by kernel_rfl
noncomputable def impl_within.S (N : Nat) : ASpec := ⟨[(3, .ro), (3, .ro), (3, .ro)], [(4, .val)], impl_within.f N⟩
theorem impl_within.ok (N : Nat) : FnOk Try.prog 35 (impl_within.S N) := fnOk_of (E := impl_within.E N) mix Try.func35 (by kernel_rfl) (by kernel_rfl) (by kernel_rfl) (lk_ok all_nil) (by kernel_rfl) (fun _ _ h => h)

/-! ### impl_lower: function 36, loop.example/medlar/impl.lower -/
noncomputable def impl_lower.E (N : Nat) : Env := ⟨lk [], nzk [(2, ⟨[1, 2, 3, 4, 7, 8, 9, 10, 11, 12, 13, 14, 15, 16, 17, 18, 19], []⟩)], N, []⟩
noncomputable def impl_lower.f (N : Nat) (a : List PV) : Option Res := run Try.prog (impl_lower.E N) Try.f36 [(9, .ro)] [(4, .val)] a
noncomputable def impl_lower.l0 (N : Nat) (n : Nat) (x0 : ByteArray) (x5 : Int) (x6 : Int) : Option Res := loopAt Try.prog (impl_lower.E N) Try.f36 [(4, .val)] [1, 0, 1, 0] [] n ⟨mkSlots 20 [(0, .sc (.string x0)), (5, .sc (.int .i64 x5)), (6, .sc (.int .i64 x6))], ohOf []⟩
theorem impl_lower.f_eq (N : Nat) (a0 : PV) : impl_lower.f N [a0] = impl_lower.l0 N N a0.toStr (a0.toStr.size : Int) 0 := by kernel_rfl
theorem impl_lower.l0_eq (N : Nat) (n : Nat) (x0 : ByteArray) (x5 : Int) (x6 : Int) : impl_lower.l0 N (n + 1) x0 x5 x6 = if decide (x6 < x5) = true then (if 0 ≤ x6 then (if x6 < (x0.size : Int) then (if decide (((x0.get! x6.toNat).toNat : Int) < 97) = false then (if 0 ≤ x6 then (if x6 < (x0.size : Int) then (if decide (122 < ((x0.get! x6.toNat).toNat : Int)) = true then (some [(PV.sc (.bool false))]) else (impl_lower.l0 N n x0 x5 (IntKind.i64.wrap (x6 + 1)))) else none) else none) else (some [(PV.sc (.bool false))])) else none) else none) else (some [(PV.sc (.bool true))]) := by kernel_rfl
noncomputable def impl_lower.S (N : Nat) : ASpec := ⟨[(9, .ro)], [(4, .val)], impl_lower.f N⟩
theorem impl_lower.ok (N : Nat) : FnOk Try.prog 36 (impl_lower.S N) := fnOk_of (E := impl_lower.E N) mix Try.func36 (by kernel_rfl) (by kernel_rfl) (by kernel_rfl) (lk_ok all_nil) (by kernel_rfl) (fun _ _ h => h)

/-! ### impl_WordOk: function 29, loop.example/medlar/impl.WordOk -/
noncomputable def impl_WordOk.E (N : Nat) : Env := ⟨lk [(35, impl_within.S N), (36, impl_lower.S N)], nzk [], N, []⟩
noncomputable def impl_WordOk.f (N : Nat) (a : List PV) : Option Res := run Try.prog (impl_WordOk.E N) Try.f29 [(9, .ro)] [(4, .val)] a
theorem impl_WordOk.f_eq (N : Nat) (a0 : PV) : impl_WordOk.f N [a0] = (impl_within.f N [(PV.sc (.int .i64 (a0.toStr.size : Int))), (PV.sc (.int .i64 1)), (PV.sc (.int .i64 12))]).bind fun t1 => if (t1.headD default).toBool = true then ((impl_lower.f N [(PV.sc (.string a0.toStr))]).bind fun t2 => some [(PV.sc (.bool ((t2.headD default).toBool)))]) else (some [(PV.sc (.bool false))]) := by kernel_rfl
noncomputable def impl_WordOk.S (N : Nat) : ASpec := ⟨[(9, .ro)], [(4, .val)], impl_WordOk.f N⟩
theorem impl_WordOk.ok (N : Nat) : FnOk Try.prog 29 (impl_WordOk.S N) := fnOk_of (E := impl_WordOk.E N) mix Try.func29 (by kernel_rfl) (by kernel_rfl) (by kernel_rfl) (lk_ok (all_cons (impl_within.ok N) (all_cons (impl_lower.ok N) all_nil))) (by kernel_rfl) (fun _ _ h => h)

/-! ### impl_wordsOk: function 21, loop.example/medlar/impl.wordsOk -/
noncomputable def impl_wordsOk.E (N : Nat) : Env := ⟨lk [(29, impl_WordOk.S N)], nzk [(2, ⟨[2, 3, 4, 5, 6, 10, 11, 12, 13, 14, 15, 16, 17, 18, 19, 20, 21, 22, 23, 24, 25, 26, 27, 28, 29, 30, 31, 32, 33, 34], []⟩)], N, []⟩
noncomputable def impl_wordsOk.f (N : Nat) (a : List PV) : Option Res := run Try.prog (impl_wordsOk.E N) Try.f21 [(22, .ro), (3, .ro)] [(4, .val)] a
noncomputable def impl_wordsOk.l0 (N : Nat) (n : Nat) (x0 : PV) (x1 : Int) (x7 : PV) (x8 : Int) (x9 : Int) : Option Res := loopAt Try.prog (impl_wordsOk.E N) Try.f21 [(4, .val)] [1, 0, 1, 0] [] n ⟨mkSlots 35 [(0, .ro 22 x0), (1, .sc (.int .i64 x1)), (7, .ro 22 x7), (8, .sc (.int .i64 x8)), (9, .sc (.int .i64 x9))], ohOf []⟩
theorem impl_wordsOk.f_eq (N : Nat) (a0 : PV) (a1 : PV) : impl_wordsOk.f N [a0, a1] = impl_wordsOk.l0 N N a0 a1.toInt a0 (a0.items.length : Int) 0 := by kernel_rfl
theorem impl_wordsOk.l0_eq (N : Nat) (n : Nat) (x0 : PV) (x1 : Int) (x7 : PV) (x8 : Int) (x9 : Int) : impl_wordsOk.l0 N (n + 1) x0 x1 x7 x8 x9 = if decide (x9 < x8) = true then (if 0 ≤ x9 then (if x9 < (x7.items.length : Int) then ((impl_WordOk.f N [(PV.sc (.string ((x7.elem x9.toNat).toStr)))]).bind fun t1 => if (!((t1.headD default).toBool)) = false then (if decide (0 < x9) = true then (if 0 ≤ (IntKind.i64.wrap (x9 - 1)) then (if (IntKind.i64.wrap (x9 - 1)) < (x0.items.length : Int) then (if (!Op.bytesLess ((x0.elem ((IntKind.i64.wrap (x9 - 1)).toNat)).toStr).toList ((x7.elem x9.toNat).toStr).toList) = true then (some [(PV.sc (.bool false))]) else (impl_wordsOk.l0 N n x0 x1 x7 x8 (IntKind.i64.wrap (x9 + 1)))) else none) else none) else (impl_wordsOk.l0 N n x0 x1 x7 x8 (IntKind.i64.wrap (x9 + 1)))) else (some [(PV.sc (.bool false))])) else none) else none) else (some [(PV.sc (.bool (decide ((x0.items.length : Int) ≤ x1))))]) := by kernel_rfl
noncomputable def impl_wordsOk.S (N : Nat) : ASpec := ⟨[(22, .ro), (3, .ro)], [(4, .val)], impl_wordsOk.f N⟩
theorem impl_wordsOk.ok (N : Nat) : FnOk Try.prog 21 (impl_wordsOk.S N) := fnOk_of (E := impl_wordsOk.E N) mix Try.func21 (by kernel_rfl) (by kernel_rfl) (by kernel_rfl) (lk_ok (all_cons (impl_WordOk.ok N) all_nil)) (by kernel_rfl) (fun _ _ h => h)

/-! ### impl_UserDrop: function 15, loop.example/medlar/impl.UserDrop -/
noncomputable def impl_UserDrop.E (N : Nat) : Env := ⟨lk [(21, impl_wordsOk.S N)], nzk [(5, ⟨[2, 3, 4, 5, 7, 8, 9, 10, 11, 12, 13, 17, 18, 19, 20, 21, 22, 23, 24, 25, 26, 27, 28, 29, 30, 31, 32, 33], [(6, 22)]⟩)], N, []⟩
noncomputable def impl_UserDrop.f (N : Nat) (a : List PV) : Option Res := run Try.prog (impl_UserDrop.E N) Try.f15 [(22, .ro), (9, .ro)] [(22, .own), (4, .val)] a
noncomputable def impl_UserDrop.l0 (N : Nat) (n : Nat) (x0 : PV) (x1 : ByteArray) (x14 : PV) (x15 : Int) (x16 : Int) (y0 : List PV) : Option Res := loopAt Try.prog (impl_UserDrop.E N) Try.f15 [(22, .own), (4, .val)] [1, 1, 1, 0, 1, 0] [] n ⟨mkSlots 34 [(0, .ro 22 x0), (1, .sc (.string x1)), (6, .ref 0 []), (14, .ro 22 x14), (15, .sc (.int .i64 x15)), (16, .sc (.int .i64 x16))], ohOf [.row 22 (PV.list y0)]⟩
theorem impl_UserDrop.f_eq (N : Nat) (a0 : PV) (a1 : PV) : impl_UserDrop.f N [a0, a1] = (impl_wordsOk.f N [a0, (PV.sc (.int .i64 10))]).bind fun t1 => if (!((t1.headD default).toBool)) = true then (some [(PV.list []), (PV.sc (.bool false))]) else (impl_UserDrop.l0 N N a0 a1.toStr a0 (a0.items.length : Int) 0 []) := by kernel_rfl
theorem impl_UserDrop.l0_eq (N : Nat) (n : Nat) (x0 : PV) (x1 : ByteArray) (x14 : PV) (x15 : Int) (x16 : Int) (y0 : List PV) : impl_UserDrop.l0 N (n + 1) x0 x1 x14 x15 x16 y0 = if decide (x16 < x15) = true then (if 0 ≤ x16 then (if x16 < (x14.items.length : Int) then (if (!decide (((x14.elem x16.toNat).toStr).toList = x1.toList)) = true then (if y0.length + [(PV.sc (.string ((x14.elem x16.toNat).toStr)))].length ≤ 8796093022208 then (impl_UserDrop.l0 N n x0 x1 x14 x15 (IntKind.i64.wrap (x16 + 1)) (y0 ++ [(PV.sc (.string ((x14.elem x16.toNat).toStr)))])) else none) else (impl_UserDrop.l0 N n x0 x1 x14 x15 (IntKind.i64.wrap (x16 + 1)) y0)) else none) else none) else (some [(PV.list y0), (PV.sc (.bool (decide ((y0.length : Int) < (x0.items.length : Int)))))]) := by kernel_rfl
noncomputable def impl_UserDrop.S (N : Nat) : ASpec := ⟨[(22, .ro), (9, .ro)], [(22, .own), (4, .val)], impl_UserDrop.f N⟩
theorem impl_UserDrop.ok (N : Nat) : FnOk Try.prog 15 (impl_UserDrop.S N) := fnOk_of (E := impl_UserDrop.E N) mix Try.func15 (by kernel_rfl) (by kernel_rfl) (by kernel_rfl) (lk_ok (all_cons (impl_wordsOk.ok N) all_nil)) (by kernel_rfl) (fun _ _ h => h)

/-! ### spec_l1Letters: function 40, loop.example/medlar/spec.l1Letters -/
noncomputable def spec_l1Letters.E (N : Nat) : Env := ⟨lk [], nzk [(2, ⟨[2, 3, 4, 6, 7, 8, 9, 10, 11, 12, 13, 14, 15, 16, 17, 18, 19, 20, 21, 22, 23, 24, 25], []⟩)], N, []⟩
noncomputable def spec_l1Letters.f (N : Nat) (a : List PV) : Option Res := run Try.prog (spec_l1Letters.E N) Try.f40 [(9, .ro), (3, .ro)] [(4, .val)] a
noncomputable def spec_l1Letters.l0 (N : Nat) (n : Nat) (x0 : ByteArray) (x1 : Int) (x5 : Int) : Option Res := loopAt Try.prog (spec_l1Letters.E N) Try.f40 [(4, .val)] [1, 0, 1, 0] [] n ⟨mkSlots 26 [(0, .sc (.string x0)), (1, .sc (.int .i64 x1)), (5, .sc (.int .i64 x5))], ohOf []⟩
theorem spec_l1Letters.f_eq (N : Nat) (a0 : PV) (a1 : PV) : spec_l1Letters.f N [a0, a1] = spec_l1Letters.l0 N N a0.toStr a1.toInt 0 := by kernel_rfl
theorem spec_l1Letters.l0_eq (N : Nat) (n : Nat) (x0 : ByteArray) (x1 : Int) (x5 : Int) : spec_l1Letters.l0 N (n + 1) x0 x1 x5 = if decide (x5 < (x0.size : Int)) = true then (if 0 ≤ x5 then (if x5 < (x0.size : Int) then (if decide (((x0.get! x5.toNat).toNat : Int) < 97) = false then (if 0 ≤ x5 then (if x5 < (x0.size : Int) then (if decide (122 < ((x0.get! x5.toNat).toNat : Int)) = true then (some [(PV.sc (.bool false))]) else (spec_l1Letters.l0 N n x0 x1 (IntKind.i64.wrap (x5 + 1)))) else none) else none) else (some [(PV.sc (.bool false))])) else none) else none) else (some [(PV.sc (.bool (decide ((x0.size : Int) ≤ x1))))]) := by kernel_rfl
noncomputable def spec_l1Letters.S (N : Nat) : ASpec := ⟨[(9, .ro), (3, .ro)], [(4, .val)], spec_l1Letters.f N⟩
theorem spec_l1Letters.ok (N : Nat) : FnOk Try.prog 40 (spec_l1Letters.S N) := fnOk_of (E := spec_l1Letters.E N) mix Try.func40 (by kernel_rfl) (by kernel_rfl) (by kernel_rfl) (lk_ok all_nil) (by kernel_rfl) (fun _ _ h => h)

/-! ### spec_l1Word: function 34, loop.example/medlar/spec.l1Word -/
noncomputable def spec_l1Word.E (N : Nat) : Env := ⟨lk [(40, spec_l1Letters.S N)], nzk [], N, []⟩
noncomputable def spec_l1Word.f (N : Nat) (a : List PV) : Option Res := run Try.prog (spec_l1Word.E N) Try.f34 [(9, .ro)] [(4, .val)] a
theorem spec_l1Word.f_eq (N : Nat) (a0 : PV) : spec_l1Word.f N [a0] = if decide (0 < (a0.toStr.size : Int)) = true then ((spec_l1Letters.f N [(PV.sc (.string a0.toStr)), (PV.sc (.int .i64 12))]).bind fun t1 => some [(PV.sc (.bool ((t1.headD default).toBool)))]) else (some [(PV.sc (.bool false))]) := by kernel_rfl
noncomputable def spec_l1Word.S (N : Nat) : ASpec := ⟨[(9, .ro)], [(4, .val)], spec_l1Word.f N⟩
theorem spec_l1Word.ok (N : Nat) : FnOk Try.prog 34 (spec_l1Word.S N) := fnOk_of (E := spec_l1Word.E N) mix Try.func34 (by kernel_rfl) (by kernel_rfl) (by kernel_rfl) (lk_ok (all_cons (spec_l1Letters.ok N) all_nil)) (by kernel_rfl) (fun _ _ h => h)

/-! ### spec_l3Words: function 28, loop.example/medlar/spec.l3Words -/
noncomputable def spec_l3Words.E (N : Nat) : Env := ⟨lk [(34, spec_l1Word.S N)], nzk [(2, ⟨[1, 2, 4, 5, 6, 7, 8, 9, 10, 11, 12, 13, 14, 15, 16, 17, 18, 19, 20, 21, 22, 23, 24, 25, 26, 27, 28, 29, 30, 31, 32, 33, 34], []⟩)], N, []⟩
noncomputable def spec_l3Words.f (N : Nat) (a : List PV) : Option Res := run Try.prog (spec_l3Words.E N) Try.f28 [(22, .ro)] [(4, .val)] a
noncomputable def spec_l3Words.l0 (N : Nat) (n : Nat) (x0 : PV) (x3 : Int) : Option Res := loopAt Try.prog (spec_l3Words.E N) Try.f28 [(4, .val)] [1, 0, 1, 0] [] n ⟨mkSlots 35 [(0, .ro 22 x0), (3, .sc (.int .i64 x3))], ohOf []⟩
theorem spec_l3Words.f_eq (N : Nat) (a0 : PV) : spec_l3Words.f N [a0] = spec_l3Words.l0 N N a0 0 := by kernel_rfl
theorem spec_l3Words.l0_eq (N : Nat) (n : Nat) (x0 : PV) (x3 : Int) : spec_l3Words.l0 N (n + 1) x0 x3 = if decide (x3 < (x0.items.length : Int)) = true then (if 0 ≤ x3 then (if x3 < (x0.items.length : Int) then ((spec_l1Word.f N [(PV.sc (.string ((x0.elem x3.toNat).toStr)))]).bind fun t1 => if (!((t1.headD default).toBool)) = false then (if decide (0 < x3) = true then (if 0 ≤ (IntKind.i64.wrap (x3 - 1)) then (if (IntKind.i64.wrap (x3 - 1)) < (x0.items.length : Int) then (if 0 ≤ x3 then (if x3 < (x0.items.length : Int) then (if (!Op.bytesLess ((x0.elem ((IntKind.i64.wrap (x3 - 1)).toNat)).toStr).toList ((x0.elem x3.toNat).toStr).toList) = true then (some [(PV.sc (.bool false))]) else (spec_l3Words.l0 N n x0 (IntKind.i64.wrap (x3 + 1)))) else none) else none) else none) else none) else (spec_l3Words.l0 N n x0 (IntKind.i64.wrap (x3 + 1)))) else (some [(PV.sc (.bool false))])) else none) else none) else (some [(PV.sc (.bool (decide ((x0.items.length : Int) ≤ 300))))]) := by kernel_rfl
noncomputable def spec_l3Words.S (N : Nat) : ASpec := ⟨[(22, .ro)], [(4, .val)], spec_l3Words.f N⟩
theorem spec_l3Words.ok (N : Nat) : FnOk Try.prog 28 (spec_l3Words.S N) := fnOk_of (E := spec_l3Words.E N) mix Try.func28 (by kernel_rfl) (by kernel_rfl) (by kernel_rfl) (lk_ok (all_cons (spec_l1Word.ok N) all_nil)) (by kernel_rfl) (fun _ _ h => h)

/-! ### spec_l10Own: function 19, loop.example/medlar/spec.l10Own -/
noncomputable def spec_l10Own.E (N : Nat) : Env := ⟨lk [(28, spec_l3Words.S N)], nzk [], N, []⟩
noncomputable def spec_l10Own.f (N : Nat) (a : List PV) : Option Res := run Try.prog (spec_l10Own.E N) Try.f19 [(22, .ro)] [(4, .val)] a
theorem spec_l10Own.f_eq (N : Nat) (a0 : PV) : spec_l10Own.f N [a0] = (spec_l3Words.f N [a0]).bind fun t1 => if (t1.headD default).toBool = true then (some [(PV.sc (.bool (decide ((a0.items.length : Int) ≤ 10))))]) else (some [(PV.sc (.bool false))]) := by kernel_rfl
noncomputable def spec_l10Own.S (N : Nat) : ASpec := ⟨[(22, .ro)], [(4, .val)], spec_l10Own.f N⟩
theorem spec_l10Own.ok (N : Nat) : FnOk Try.prog 19 (spec_l10Own.S N) := fnOk_of (E := spec_l10Own.E N) mix Try.func19 (by kernel_rfl) (by kernel_rfl) (by kernel_rfl) (lk_ok (all_cons (spec_l3Words.ok N) all_nil)) (by kernel_rfl) (fun _ _ h => h)

/-! ### spec_UserDrop: function 18, loop.example/medlar/spec.UserDrop -/
noncomputable def spec_UserDrop.E (N : Nat) : Env := ⟨lk [(19, spec_l10Own.S N)], nzk [(5, ⟨[2, 3, 4, 5, 8, 9, 10, 11, 12, 13, 14, 15, 16, 17, 18, 19, 20, 21, 22, 23, 24, 25, 26, 27, 28, 29, 30, 31, 32, 33, 34, 35, 36, 37], [(6, 22)]⟩)], N, []⟩
noncomputable def spec_UserDrop.f (N : Nat) (a : List PV) : Option Res := run Try.prog (spec_UserDrop.E N) Try.f18 [(22, .ro), (9, .ro)] [(22, .own), (4, .val)] a
noncomputable def spec_UserDrop.l0 (N : Nat) (n : Nat) (x0 : PV) (x1 : ByteArray) (x7 : Int) (y0 : List PV) : Option Res := loopAt Try.prog (spec_UserDrop.E N) Try.f18 [(22, .own), (4, .val)] [1, 1, 1, 0, 1, 0] [] n ⟨mkSlots 38 [(0, .ro 22 x0), (1, .sc (.string x1)), (6, .ref 0 []), (7, .sc (.int .i64 x7))], ohOf [.row 22 (PV.list y0)]⟩
theorem spec_UserDrop.f_eq (N : Nat) (a0 : PV) (a1 : PV) : spec_UserDrop.f N [a0, a1] = (spec_l10Own.f N [a0]).bind fun t1 => if (!((t1.headD default).toBool)) = true then (some [(PV.list []), (PV.sc (.bool false))]) else (spec_UserDrop.l0 N N a0 a1.toStr 0 []) := by kernel_rfl
theorem spec_UserDrop.l0_eq (N : Nat) (n : Nat) (x0 : PV) (x1 : ByteArray) (x7 : Int) (y0 : List PV) : spec_UserDrop.l0 N (n + 1) x0 x1 x7 y0 = if decide (x7 < (x0.items.length : Int)) = true then (if 0 ≤ x7 then (if x7 < (x0.items.length : Int) then (if (!decide (((x0.elem x7.toNat).toStr).toList = x1.toList)) = true then (if 0 ≤ x7 then (if x7 < (x0.items.length : Int) then (if y0.length + [(PV.sc (.string ((x0.elem x7.toNat).toStr)))].length ≤ 8796093022208 then (spec_UserDrop.l0 N n x0 x1 (IntKind.i64.wrap (x7 + 1)) (y0 ++ [(PV.sc (.string ((x0.elem x7.toNat).toStr)))])) else none) else none) else none) else (spec_UserDrop.l0 N n x0 x1 (IntKind.i64.wrap (x7 + 1)) y0)) else none) else none) else (some [(PV.list y0), (PV.sc (.bool (decide ((y0.length : Int) < (x0.items.length : Int)))))]) := by kernel_rfl
noncomputable def spec_UserDrop.S (N : Nat) : ASpec := ⟨[(22, .ro), (9, .ro)], [(22, .own), (4, .val)], spec_UserDrop.f N⟩
theorem spec_UserDrop.ok (N : Nat) : FnOk Try.prog 18 (spec_UserDrop.S N) := fnOk_of (E := spec_UserDrop.E N) mix Try.func18 (by kernel_rfl) (by kernel_rfl) (by kernel_rfl) (lk_ok (all_cons (spec_l10Own.ok N) all_nil)) (by kernel_rfl) (fun _ _ h => h)

/-! ### laws_mdTexts: function 14, loop.example/medlar/laws.mdTexts -/
noncomputable def laws_mdTexts.E (N : Nat) : Env := ⟨lk [], nzk [(4, ⟨[2, 3, 4, 6, 7, 8, 9, 10, 11, 12, 13, 14, 15, 16, 17, 18, 19, 20, 21, 22, 23, 24, 25], []⟩)], N, []⟩
noncomputable def laws_mdTexts.f (N : Nat) (a : List PV) : Option Res := run Try.prog (laws_mdTexts.E N) Try.f14 [(22, .ro), (22, .ro)] [(4, .val)] a
noncomputable def laws_mdTexts.l0 (N : Nat) (n : Nat) (x0 : PV) (x1 : PV) (x5 : Int) : Option Res := loopAt Try.prog (laws_mdTexts.E N) Try.f14 [(4, .val)] [1, 1, 0, 1, 0] [] n ⟨mkSlots 26 [(0, .ro 22 x0), (1, .ro 22 x1), (5, .sc (.int .i64 x5))], ohOf []⟩
theorem laws_mdTexts.f_eq (N : Nat) (a0 : PV) (a1 : PV) : laws_mdTexts.f N [a0, a1] = if (!decide ((a0.items.length : Int) = (a1.items.length : Int))) = true then (some [(PV.sc (.bool false))]) else (laws_mdTexts.l0 N N a0 a1 0) := by kernel_rfl
theorem laws_mdTexts.l0_eq (N : Nat) (n : Nat) (x0 : PV) (x1 : PV) (x5 : Int) : laws_mdTexts.l0 N (n + 1) x0 x1 x5 = if decide (x5 < (x0.items.length : Int)) = true then (if 0 ≤ x5 then (if x5 < (x0.items.length : Int) then (if 0 ≤ x5 then (if x5 < (x1.items.length : Int) then (if (!decide (((x0.elem x5.toNat).toStr).toList = ((x1.elem x5.toNat).toStr).toList)) = true then (some [(PV.sc (.bool false))]) else (laws_mdTexts.l0 N n x0 x1 (IntKind.i64.wrap (x5 + 1)))) else none) else none) else none) else none) else (some [(PV.sc (.bool true))]) := by kernel_rfl
noncomputable def laws_mdTexts.S (N : Nat) : ASpec := ⟨[(22, .ro), (22, .ro)], [(4, .val)], laws_mdTexts.f N⟩
theorem laws_mdTexts.ok (N : Nat) : FnOk Try.prog 14 (laws_mdTexts.S N) := fnOk_of (E := laws_mdTexts.E N) mix Try.func14 (by kernel_rfl) (by kernel_rfl) (by kernel_rfl) (lk_ok all_nil) (by kernel_rfl) (fun _ _ h => h)

def lays190_ren : Go.Shelf.Ren := ⟨fun | 190 => 30 | 125 => 38 | 258 => 37 | 128 => 50 | 129 => 51 | 302 => 41 | 303 => 42 | 304 => 43 | 305 => 44 | 306 => 45 | 307 => 46 | 308 => 47 | 309 => 48 | 310 => 49 | 333 => 52 | 329 => 53 | 330 => 54 | 334 => 55 | 335 => 56 | 336 => 57 | 344 => 58 | n => n, fun | 31 => 22 | 9 => 9 | 3 => 3 | 46 => 50 | 0 => 0 | 51 => 63 | 53 => 65 | 4 => 4 | 183 => 55 | 182 => 54 | 131 => 60 | 5 => 5 | 218 => 66 | 222 => 70 | 228 => 72 | 229 => 73 | n => n, fun | n => n⟩
theorem lays190 : Go.Proofs.Lays.n190 Try.prog lays190_ren := {
  mixed := by kernel_rfl
  f125 := Try.func38.trans (congrArg some (by kernel_rfl))
  f128 := Try.func50.trans (congrArg some (by kernel_rfl))
  f129 := Try.func51.trans (congrArg some (by kernel_rfl))
  f190 := Try.func30.trans (congrArg some (by kernel_rfl))
  f258 := Try.func37.trans (congrArg some (by kernel_rfl))
  f302 := Try.func41.trans (congrArg some (by kernel_rfl))
  f303 := Try.func42.trans (congrArg some (by kernel_rfl))
  f304 := Try.func43.trans (congrArg some (by kernel_rfl))
  f305 := Try.func44.trans (congrArg some (by kernel_rfl))
  f306 := Try.func45.trans (congrArg some (by kernel_rfl))
  f307 := Try.func46.trans (congrArg some (by kernel_rfl))
  f308 := Try.func47.trans (congrArg some (by kernel_rfl))
  f309 := Try.func48.trans (congrArg some (by kernel_rfl))
  f310 := Try.func49.trans (congrArg some (by kernel_rfl))
  f329 := Try.func53.trans (congrArg some (by kernel_rfl))
  f330 := Try.func54.trans (congrArg some (by kernel_rfl))
  f333 := Try.func52.trans (congrArg some (by kernel_rfl))
  f334 := Try.func55.trans (congrArg some (by kernel_rfl))
  f335 := Try.func56.trans (congrArg some (by kernel_rfl))
  f336 := Try.func57.trans (congrArg some (by kernel_rfl))
  f344 := Try.func58.trans (congrArg some (by kernel_rfl))
  t0 := Try.underlying0
  a0 := Try.isAgg0
  z0 := Try.sizeOf0
  v0 := Try.zeroValue0
  t3 := Try.underlying3
  a3 := Try.isAgg3
  z3 := Try.sizeOf3
  v3 := Try.zeroValue3
  t4 := Try.underlying4
  a4 := Try.isAgg4
  z4 := Try.sizeOf4
  v4 := Try.zeroValue4
  t5 := Try.underlying5
  a5 := Try.isAgg5
  z5 := Try.sizeOf5
  v5 := Try.zeroValue5
  t9 := Try.underlying9
  a9 := Try.isAgg9
  z9 := Try.sizeOf9
  v9 := Try.zeroValue9
  t31 := Try.underlying22
  a31 := Try.isAgg22
  z31 := Try.sizeOf22
  v31 := Try.zeroValue22
  t46 := Try.underlying50
  a46 := Try.isAgg50
  z46 := Try.sizeOf50
  v46 := Try.zeroValue50
  t51 := Try.underlying63
  a51 := Try.isAgg63
  z51 := Try.sizeOf63
  v51 := Try.zeroValue63
  t53 := Try.underlying65
  a53 := Try.isAgg65
  z53 := Try.sizeOf65
  v53 := Try.zeroValue65
  t131 := Try.underlying60
  a131 := Try.isAgg60
  z131 := Try.sizeOf60
  v131 := Try.zeroValue60
  t182 := Try.underlying54
  a182 := Try.isAgg54
  z182 := Try.sizeOf54
  v182 := Try.zeroValue54
  t183 := Try.underlying55
  a183 := Try.isAgg55
  z183 := Try.sizeOf55
  v183 := Try.zeroValue55
  t218 := Try.underlying66
  a218 := Try.isAgg66
  z218 := Try.sizeOf66
  v218 := Try.zeroValue66
  t222 := Try.underlying70
  a222 := Try.isAgg70
  z222 := Try.sizeOf70
  v222 := Try.zeroValue70
  t228 := Try.underlying72
  a228 := Try.isAgg72
  z228 := Try.sizeOf72
  v228 := Try.zeroValue72
  t229 := Try.underlying73
  a229 := Try.isAgg73
  z229 := Try.sizeOf73
  v229 := Try.zeroValue73 }

/-! ### slices_Sort_string_string: function 30, slices.Sort[[]string,string], by the kit's contract, Lib2 -/
noncomputable def slices_Sort_string_string.f (N : Nat) (a : List PV) : Option (List PV) := sortDen a
noncomputable def slices_Sort_string_string.S (N : Nat) : ASpec := ⟨[(22, .mut)], [], slices_Sort_string_string.f N⟩
theorem slices_Sort_string_string.ok (N : Nat) : FnOk Try.prog 30 (slices_Sort_string_string.S N) := fnOk_sort (e := 9) lays190 rfl ⟨_, Try.func30, by kernel_rfl, by kernel_rfl⟩ (by kernel_rfl) (by kernel_rfl)

def lays194_ren : Go.Shelf.Ren := ⟨fun | 194 => 31 | n => n, fun | 31 => 22 | 9 => 9 | 3 => 3 | 4 => 4 | 0 => 0 | n => n, fun | n => n⟩
theorem lays194 : Go.Proofs.Lays.n194 Try.prog lays194_ren := {
  mixed := by kernel_rfl
  f194 := Try.func31.trans (congrArg some (by kernel_rfl))
  t0 := Try.underlying0
  a0 := Try.isAgg0
  z0 := Try.sizeOf0
  v0 := Try.zeroValue0
  t3 := Try.underlying3
  a3 := Try.isAgg3
  z3 := Try.sizeOf3
  v3 := Try.zeroValue3
  t4 := Try.underlying4
  a4 := Try.isAgg4
  z4 := Try.sizeOf4
  v4 := Try.zeroValue4
  t9 := Try.underlying9
  a9 := Try.isAgg9
  z9 := Try.sizeOf9
  v9 := Try.zeroValue9
  t31 := Try.underlying22
  a31 := Try.isAgg22
  z31 := Try.sizeOf22
  v31 := Try.zeroValue22 }

/-! ### slices_Compact_string_string: function 31, slices.Compact[[]string,string], by the kit's contract, Lib2 -/
noncomputable def slices_Compact_string_string.f (N : Nat) (a : List PV) : Option (List PV) := compactDen a
noncomputable def slices_Compact_string_string.S (N : Nat) : ASpec := ⟨[(22, .own)], [(22, .own)], slices_Compact_string_string.f N⟩
theorem slices_Compact_string_string.ok (N : Nat) : FnOk Try.prog 31 (slices_Compact_string_string.S N) := fnOk_compact (e := 9) lays194 rfl ⟨_, Try.func31, by kernel_rfl, by kernel_rfl⟩ (by kernel_rfl) (by kernel_rfl)

/-! ### impl_sorted: function 22, loop.example/medlar/impl.sorted -/
noncomputable def impl_sorted.E (N : Nat) : Env := ⟨lk [(30, slices_Sort_string_string.S N), (31, slices_Compact_string_string.S N)], nzk [], N, []⟩
noncomputable def impl_sorted.f (N : Nat) (a : List PV) : Option Res := run Try.prog (impl_sorted.E N) Try.f22 [(22, .ro)] [(22, .own)] a
theorem impl_sorted.f_eq (N : Nat) (a0 : PV) : impl_sorted.f N [a0] = if ([] : List PV).length + a0.items.length ≤ 8796093022208 then ((slices_Sort_string_string.f N [(PV.list (([] : List PV) ++ a0.items))]).bind fun t1 => (slices_Compact_string_string.f N [(t1.headD default)]).bind fun t2 => if ([] : List PV).length + ((t2.headD default).items).length ≤ 8796093022208 then (some [(PV.list (([] : List PV) ++ ((t2.headD default).items)))]) else none) else none := by kernel_rfl
noncomputable def impl_sorted.S (N : Nat) : ASpec := ⟨[(22, .ro)], [(22, .own)], impl_sorted.f N⟩
theorem impl_sorted.ok (N : Nat) : FnOk Try.prog 22 (impl_sorted.S N) := fnOk_of (E := impl_sorted.E N) mix Try.func22 (by kernel_rfl) (by kernel_rfl) (by kernel_rfl) (lk_ok (all_cons (slices_Sort_string_string.ok N) (all_cons (slices_Compact_string_string.ok N) all_nil))) (by kernel_rfl) (fun _ _ h => h)

/-! ### impl_UserAdd: function 9, loop.example/medlar/impl.UserAdd -/
noncomputable def impl_UserAdd.E (N : Nat) : Env := ⟨lk [(21, impl_wordsOk.S N), (22, impl_sorted.S N)], nzk [], N, []⟩
noncomputable def impl_UserAdd.f (N : Nat) (a : List PV) : Option Res := run Try.prog (impl_UserAdd.E N) Try.f9 [(22, .ro), (9, .ro)] [(22, .own), (4, .val)] a
theorem impl_UserAdd.f_eq (N : Nat) (a0 : PV) (a1 : PV) : impl_UserAdd.f N [a0, a1] = (impl_wordsOk.f N [a0, (PV.sc (.int .i64 10))]).bind fun t1 => if (!((t1.headD default).toBool)) = true then (some [(PV.list []), (PV.sc (.bool false))]) else (if ([] : List PV).length + a0.items.length ≤ 8796093022208 then (if (([] : List PV) ++ a0.items).length + [(PV.sc (.string a1.toStr))].length ≤ 8796093022208 then ((impl_sorted.f N [(PV.list ((([] : List PV) ++ a0.items) ++ [(PV.sc (.string a1.toStr))]))]).bind fun t2 => (impl_wordsOk.f N [(t2.headD default), (PV.sc (.int .i64 10))]).bind fun t3 => if (!((t3.headD default).toBool)) = true then (if ([] : List PV).length + a0.items.length ≤ 8796093022208 then (some [(PV.list (([] : List PV) ++ a0.items)), (PV.sc (.bool false))]) else none) else (some [(t2.headD default), (PV.sc (.bool true))])) else none) else none) := by kernel_rfl
noncomputable def impl_UserAdd.S (N : Nat) : ASpec := ⟨[(22, .ro), (9, .ro)], [(22, .own), (4, .val)], impl_UserAdd.f N⟩
theorem impl_UserAdd.ok (N : Nat) : FnOk Try.prog 9 (impl_UserAdd.S N) := fnOk_of (E := impl_UserAdd.E N) mix Try.func9 (by kernel_rfl) (by kernel_rfl) (by kernel_rfl) (lk_ok (all_cons (impl_wordsOk.ok N) (all_cons (impl_sorted.ok N) all_nil))) (by kernel_rfl) (fun _ _ h => h)

/-! ### laws_mdHas: function 16, loop.example/medlar/laws.mdHas -/
noncomputable def laws_mdHas.E (N : Nat) : Env := ⟨lk [], nzk [(2, ⟨[2, 3, 4, 6, 7, 8, 9, 10, 11, 12, 13, 14, 15, 16, 17], []⟩)], N, []⟩
noncomputable def laws_mdHas.f (N : Nat) (a : List PV) : Option Res := run Try.prog (laws_mdHas.E N) Try.f16 [(22, .ro), (9, .ro)] [(4, .val)] a
noncomputable def laws_mdHas.l0 (N : Nat) (n : Nat) (x0 : PV) (x1 : ByteArray) (x5 : Int) : Option Res := loopAt Try.prog (laws_mdHas.E N) Try.f16 [(4, .val)] [1, 0, 1, 0] [] n ⟨mkSlots 18 [(0, .ro 22 x0), (1, .sc (.string x1)), (5, .sc (.int .i64 x5))], ohOf []⟩
theorem laws_mdHas.f_eq (N : Nat) (a0 : PV) (a1 : PV) : laws_mdHas.f N [a0, a1] = laws_mdHas.l0 N N a0 a1.toStr 0 := by kernel_rfl
theorem laws_mdHas.l0_eq (N : Nat) (n : Nat) (x0 : PV) (x1 : ByteArray) (x5 : Int) : laws_mdHas.l0 N (n + 1) x0 x1 x5 = if decide (x5 < (x0.items.length : Int)) = true then (if 0 ≤ x5 then (if x5 < (x0.items.length : Int) then (if decide (((x0.elem x5.toNat).toStr).toList = x1.toList) = true then (some [(PV.sc (.bool true))]) else (laws_mdHas.l0 N n x0 x1 (IntKind.i64.wrap (x5 + 1)))) else none) else none) else (some [(PV.sc (.bool false))]) := by kernel_rfl
noncomputable def laws_mdHas.S (N : Nat) : ASpec := ⟨[(22, .ro), (9, .ro)], [(4, .val)], laws_mdHas.f N⟩
theorem laws_mdHas.ok (N : Nat) : FnOk Try.prog 16 (laws_mdHas.S N) := fnOk_of (E := laws_mdHas.E N) mix Try.func16 (by kernel_rfl) (by kernel_rfl) (by kernel_rfl) (lk_ok all_nil) (by kernel_rfl) (fun _ _ h => h)

/-! ### laws_FnUserDrop: function 5, loop.example/medlar/laws.FnUserDrop -/
noncomputable def laws_FnUserDrop.E (N : Nat) : Env := ⟨lk [(17, spec_DrawUserDrop.S N), (15, impl_UserDrop.S N), (18, spec_UserDrop.S N), (14, laws_mdTexts.S N), (9, impl_UserAdd.S N), (16, laws_mdHas.S N)], nzk [], N, []⟩
noncomputable def laws_FnUserDrop.f (N : Nat) (a : List PV) : Option Res := run Try.prog (laws_FnUserDrop.E N) Try.f5 [(29, .ro)] [(4, .val)] a
theorem laws_FnUserDrop.f_eq (N : Nat) (a0 : PV) : laws_FnUserDrop.f N [a0] = if decide (1048576 < (a0.items.length : Int)) = true then (some [(PV.sc (.bool true))]) else ((spec_DrawUserDrop.f N [a0]).bind fun t1 => (impl_UserDrop.f N [(t1.headD default), (PV.sc (.string ((t1.tail.headD default).toStr)))]).bind fun t2 => (spec_UserDrop.f N [(t1.headD default), (PV.sc (.string ((t1.tail.headD default).toStr)))]).bind fun t3 => if (((t2.tail.headD default).toBool) != ((t3.tail.headD default).toBool)) = false then ((laws_mdTexts.f N [(t2.headD default), (t3.headD default)]).bind fun t4 => if (!((t4.headD default).toBool)) = false then (if (!((t2.tail.headD default).toBool)) = true then (if (((t2.tail.headD default).toBool) == ((t3.tail.headD default).toBool)) = true then ((laws_mdTexts.f N [(t2.headD default), (t3.headD default)]).bind fun t5 => some [(PV.sc (.bool ((t5.headD default).toBool)))]) else (some [(PV.sc (.bool false))])) else ((impl_UserAdd.f N [(t2.headD default), (PV.sc (.string ((t1.tail.headD default).toStr)))]).bind fun t6 => (laws_mdHas.f N [(t2.headD default), (PV.sc (.string ((t1.tail.headD default).toStr)))]).bind fun t7 => if (!((t7.headD default).toBool)) = true then (if decide ((IntKind.i64.wrap ((((t2.headD default).items).length : Int) + 1)) = (((t1.headD default).items).length : Int)) = true then (if (t6.tail.headD default).toBool = true then ((laws_mdTexts.f N [(t6.headD default), (t1.headD default)]).bind fun t8 => some [(PV.sc (.bool ((t8.headD default).toBool)))]) else (some [(PV.sc (.bool false))])) else (some [(PV.sc (.bool false))])) else (some [(PV.sc (.bool false))]))) else (if (((t2.tail.headD default).toBool) == ((t3.tail.headD default).toBool)) = true then ((laws_mdTexts.f N [(t2.headD default), (t3.headD default)]).bind fun t9 => some [(PV.sc (.bool ((t9.headD default).toBool)))]) else (some [(PV.sc (.bool false))]))) else (if (((t2.tail.headD default).toBool) == ((t3.tail.headD default).toBool)) = true then ((laws_mdTexts.f N [(t2.headD default), (t3.headD default)]).bind fun t10 => some [(PV.sc (.bool ((t10.headD default).toBool)))]) else (some [(PV.sc (.bool false))]))) := by kernel_rfl
noncomputable def laws_FnUserDrop.S (N : Nat) : ASpec := ⟨[(29, .ro)], [(4, .val)], laws_FnUserDrop.f N⟩
theorem laws_FnUserDrop.ok (N : Nat) : FnOk Try.prog 5 (laws_FnUserDrop.S N) := fnOk_of (E := laws_FnUserDrop.E N) mix Try.func5 (by kernel_rfl) (by kernel_rfl) (by kernel_rfl) (lk_ok (all_cons (spec_DrawUserDrop.ok N) (all_cons (impl_UserDrop.ok N) (all_cons (spec_UserDrop.ok N) (all_cons (laws_mdTexts.ok N) (all_cons (impl_UserAdd.ok N) (all_cons (laws_mdHas.ok N) all_nil))))))) (by kernel_rfl) (fun _ _ h => h)

end Go.Proofs.Ytpnbhcifhbnaaaa.FnUserDrop
