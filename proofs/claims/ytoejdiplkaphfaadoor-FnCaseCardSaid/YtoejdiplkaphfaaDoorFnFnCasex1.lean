/- What each function that the law FnCase reaches computes, as trees, part 1: no conditions. -/
import Derived.Test.YtoejdiplkaphfaaDoorLib3
import Derived.Test.YtoejdiplkaphfaaDoorProg
set_option maxRecDepth 100000
set_option linter.unusedVariables false
namespace Go.Proofs.YtoejdiplkaphfaaDoor.FnCase
open Go Go.Proofs.YtoejdiplkaphfaaDoorAm
theorem mix : Tryd.prog.follows .mixedOrders = true := by kernel_rfl
noncomputable instance glb : Glb Tryd.prog := glbOf Tryd.prog [] [(1, someI64)]

/-! ### spec_l1Open: function 14, loop.example/medlar/spec.l1Open -/
noncomputable def spec_l1Open.E (N : Nat) : Env := ⟨lk [], nzk [], N, []⟩
noncomputable def spec_l1Open.f (N : Nat) (a : List PV) : Option Res := run Tryd.prog (spec_l1Open.E N) Tryd.f14 [(24, .ro)] [(31, .box)] a
theorem spec_l1Open.f_eq (N : Nat) (a0 : PV) : spec_l1Open.f N [a0] = if decide (2000 < (a0.items.length : Int)) = true then (if 0 ≤ 2000 then (if 2000 ≤ (a0.items.length : Int) then (some [(PV.agg [(PV.list ((a0.items.drop 0).take (2000 - 0))), (PV.sc (.int .i64 0))])]) else none) else none) else (some [(PV.agg [a0, (PV.sc (.int .i64 0))])]) := by kernel_rfl
noncomputable def spec_l1Open.S (N : Nat) : ASpec := ⟨[(24, .ro)], [(31, .box)], spec_l1Open.f N⟩
theorem spec_l1Open.ok (N : Nat) : FnOk Tryd.prog 14 (spec_l1Open.S N) := fnOk_of (E := spec_l1Open.E N) mix Tryd.func14 (by kernel_rfl) (by kernel_rfl) (by kernel_rfl) (lk_ok all_nil) (by kernel_rfl) (fun _ _ h => h)

/-! ### spec_l1Rd_pick: function 28, (*loop.example/medlar/spec.l1Rd).pick -/
noncomputable def spec_l1Rd_pick.E (N : Nat) : Env := ⟨lk [], nzk [], N, [(true, 50)]⟩
noncomputable def spec_l1Rd_pick.f (N : Nat) (a : List PV) : Option Res := run Tryd.prog (spec_l1Rd_pick.E N) Tryd.f28 [(31, .box), (3, .ro)] [(3, .val)] a
theorem spec_l1Rd_pick.f_eq (N : Nat) (a0 : PV) (a1 : PV) : spec_l1Rd_pick.f N [a0, a1] = if decide (a1.toInt < 1) = false then (if decide ((((a0.fld 0).items).length : Int) = 0) = true then (some [(PV.sc (.int .i64 0)), (PV.agg [a0.fld 0, (PV.sc (.int .i64 (IntKind.i64.wrap (((a0.fld 1).toInt) + 1))))])]) else (if decide ((IntKind.i64.wrap ((IntKind.i64.wrap (((a0.fld 1).toInt) + 1)) - 1)) < (((a0.fld 0).items).length : Int)) = true then (if 0 ≤ (IntKind.i64.wrap ((IntKind.i64.wrap (((a0.fld 1).toInt) + 1)) - 1)) then (if (IntKind.i64.wrap ((IntKind.i64.wrap (((a0.fld 1).toInt) + 1)) - 1)) < (((a0.fld 0).items).length : Int) then (if a1.toInt = 0 then none else (some [(PV.sc (.int .i64 (Int.tmod (IntKind.i64.wrap (((a0.fld 0).elem ((IntKind.i64.wrap ((IntKind.i64.wrap (((a0.fld 1).toInt) + 1)) - 1)).toNat)).toInt)) a1.toInt))), (PV.agg [a0.fld 0, (PV.sc (.int .i64 (IntKind.i64.wrap (((a0.fld 1).toInt) + 1))))])])) else none) else none) else (if (((a0.fld 0).items).length : Int) = 0 then none else (if 0 ≤ (Int.tmod (IntKind.i64.wrap ((IntKind.i64.wrap (((a0.fld 1).toInt) + 1)) - 1)) (((a0.fld 0).items).length : Int)) then (if (Int.tmod (IntKind.i64.wrap ((IntKind.i64.wrap (((a0.fld 1).toInt) + 1)) - 1)) (((a0.fld 0).items).length : Int)) < (((a0.fld 0).items).length : Int) then (if (((a0.fld 0).items).length : Int) = 0 then none else (if 0 ≤ (Int.tmod (IntKind.i64.wrap ((IntKind.i64.wrap ((IntKind.i64.wrap ((IntKind.i64.wrap (((a0.fld 1).toInt) + 1)) - 1)) * 7)) + 3)) (((a0.fld 0).items).length : Int)) then (if (Int.tmod (IntKind.i64.wrap ((IntKind.i64.wrap ((IntKind.i64.wrap ((IntKind.i64.wrap (((a0.fld 1).toInt) + 1)) - 1)) * 7)) + 3)) (((a0.fld 0).items).length : Int)) < (((a0.fld 0).items).length : Int) then (if (((a0.fld 0).items).length : Int) = 0 then none else (if 64 = 0 then none else (if a1.toInt = 0 then none else (some [(PV.sc (.int .i64 (Int.tmod (bXor .i64 (IntKind.i64.wrap ((IntKind.i64.wrap ((IntKind.i64.wrap ((IntKind.i64.wrap ((IntKind.i64.wrap (((a0.fld 0).elem ((Int.tmod (IntKind.i64.wrap ((IntKind.i64.wrap (((a0.fld 1).toInt) + 1)) - 1)) (((a0.fld 0).items).length : Int)).toNat)).toInt)) * 131)) + (IntKind.i64.wrap ((IntKind.i64.wrap (((a0.fld 0).elem ((Int.tmod (IntKind.i64.wrap ((IntKind.i64.wrap ((IntKind.i64.wrap ((IntKind.i64.wrap (((a0.fld 1).toInt) + 1)) - 1)) * 7)) + 3)) (((a0.fld 0).items).length : Int)).toNat)).toInt)) * 1117)))) + (IntKind.i64.wrap ((IntKind.i64.wrap ((IntKind.i64.wrap (((a0.fld 1).toInt) + 1)) - 1)) * 29)))) + (IntKind.i64.wrap ((IntKind.i64.wrap (Int.tdiv (IntKind.i64.wrap ((IntKind.i64.wrap (((a0.fld 1).toInt) + 1)) - 1)) (((a0.fld 0).items).length : Int))) * 53)))) (IntKind.i64.wrap (Int.tdiv (IntKind.i64.wrap ((IntKind.i64.wrap ((IntKind.i64.wrap ((IntKind.i64.wrap ((IntKind.i64.wrap (((a0.fld 0).elem ((Int.tmod (IntKind.i64.wrap ((IntKind.i64.wrap (((a0.fld 1).toInt) + 1)) - 1)) (((a0.fld 0).items).length : Int)).toNat)).toInt)) * 131)) + (IntKind.i64.wrap ((IntKind.i64.wrap (((a0.fld 0).elem ((Int.tmod (IntKind.i64.wrap ((IntKind.i64.wrap ((IntKind.i64.wrap ((IntKind.i64.wrap (((a0.fld 1).toInt) + 1)) - 1)) * 7)) + 3)) (((a0.fld 0).items).length : Int)).toNat)).toInt)) * 1117)))) + (IntKind.i64.wrap ((IntKind.i64.wrap ((IntKind.i64.wrap (((a0.fld 1).toInt) + 1)) - 1)) * 29)))) + (IntKind.i64.wrap ((IntKind.i64.wrap (Int.tdiv (IntKind.i64.wrap ((IntKind.i64.wrap (((a0.fld 1).toInt) + 1)) - 1)) (((a0.fld 0).items).length : Int))) * 53)))) 64))) a1.toInt))), (PV.agg [a0.fld 0, (PV.sc (.int .i64 (IntKind.i64.wrap (((a0.fld 1).toInt) + 1))))])])))) else none) else none)) else none) else none)))) else (some [(PV.sc (.int .i64 0)), (PV.agg [a0.fld 0, (PV.sc (.int .i64 (IntKind.i64.wrap (((a0.fld 1).toInt) + 1))))])]) := by kernel_rfl
noncomputable def spec_l1Rd_pick.S (N : Nat) : ASpec := ⟨[(31, .box), (3, .ro)], [(3, .val)], spec_l1Rd_pick.f N⟩
theorem spec_l1Rd_pick.ok (N : Nat) : FnOk Tryd.prog 28 (spec_l1Rd_pick.S N) := fnOk_of (E := spec_l1Rd_pick.E N) mix Tryd.func28 (by kernel_rfl) (by kernel_rfl) (by kernel_rfl) (lk_ok all_nil) (by kernel_rfl) (fun _ _ h => h)

/-! ### spec_l1Rd_of: function 29, (*loop.example/medlar/spec.l1Rd).of -/
noncomputable def spec_l1Rd_of.E (N : Nat) : Env := ⟨lk [(28, spec_l1Rd_pick.S N)], nzk [], N, [(true, 50)]⟩
noncomputable def spec_l1Rd_of.f (N : Nat) (a : List PV) : Option Res := run Tryd.prog (spec_l1Rd_of.E N) Tryd.f29 [(31, .box), (53, .ro)] [(9, .val)] a
theorem spec_l1Rd_of.f_eq (N : Nat) (a0 : PV) (a1 : PV) : spec_l1Rd_of.f N [a0, a1] = (spec_l1Rd_pick.f N [(PV.agg [a0.fld 0, (PV.sc (.int .i64 ((a0.fld 1).toInt)))]), (PV.sc (.int .i64 (a1.items.length : Int)))]).bind fun t1 => if 0 ≤ ((t1.headD default).toInt) then (if ((t1.headD default).toInt) < (a1.items.length : Int) then (some [(PV.sc (.string ((a1.elem (((t1.headD default).toInt).toNat)).toStr))), (PV.agg [a0.fld 0, (PV.sc (.int .i64 (((t1.tail.headD default).fld 1).toInt)))])]) else none) else none := by kernel_rfl
noncomputable def spec_l1Rd_of.S (N : Nat) : ASpec := ⟨[(31, .box), (53, .ro)], [(9, .val)], spec_l1Rd_of.f N⟩
theorem spec_l1Rd_of.ok (N : Nat) : FnOk Tryd.prog 29 (spec_l1Rd_of.S N) := fnOk_of (E := spec_l1Rd_of.E N) mix Tryd.func29 (by kernel_rfl) (by kernel_rfl) (by kernel_rfl) (lk_ok (all_cons (spec_l1Rd_pick.ok N) all_nil)) (by kernel_rfl) (fun _ _ h => h)

/-! ### spec_l1Least: function 38, loop.example/medlar/spec.l1Least -/
noncomputable def spec_l1Least.E (N : Nat) : Env := ⟨lk [], nzk [], N, []⟩
noncomputable def spec_l1Least.f (N : Nat) (a : List PV) : Option Res := run Tryd.prog (spec_l1Least.E N) Tryd.f38 [(3, .ro), (3, .ro)] [(3, .val)] a
theorem spec_l1Least.f_eq (N : Nat) (a0 : PV) (a1 : PV) : spec_l1Least.f N [a0, a1] = if decide (a0.toInt < a1.toInt) = true then (some [(PV.sc (.int .i64 a0.toInt))]) else (some [(PV.sc (.int .i64 a1.toInt))]) := by kernel_rfl
noncomputable def spec_l1Least.S (N : Nat) : ASpec := ⟨[(3, .ro), (3, .ro)], [(3, .val)], spec_l1Least.f N⟩
theorem spec_l1Least.ok (N : Nat) : FnOk Tryd.prog 38 (spec_l1Least.S N) := fnOk_of (E := spec_l1Least.E N) mix Tryd.func38 (by kernel_rfl) (by kernel_rfl) (by kernel_rfl) (lk_ok all_nil) (by kernel_rfl) (fun _ _ h => h)

/-! ### spec_l13Word: function 30, loop.example/medlar/spec.l13Word -/
noncomputable def spec_l13Word.E (N : Nat) : Env := ⟨lk [(28, spec_l1Rd_pick.S N), (29, spec_l1Rd_of.S N), (38, spec_l1Least.S N)], nzk [(4, ⟨[1, 2, 5, 6, 7, 8, 9, 10, 11, 12, 13, 14, 15, 16, 17, 18, 19, 20, 21, 22, 23, 24, 25, 26, 27], []⟩)], N, [(true, 50)]⟩
noncomputable def spec_l13Word.f (N : Nat) (a : List PV) : Option Res := run Tryd.prog (spec_l13Word.E N) Tryd.f30 [(31, .box)] [(9, .val)] a
noncomputable def spec_l13Word.l0 (N : Nat) (n : Nat) (x3 : ByteArray) (x4 : Int) (y0_0 : PV) (y0_1 : Int) : Option Res := loopAt Tryd.prog (spec_l13Word.E N) Tryd.f30 [(9, .val)] [1, 0, 1, 0, 1, 0, 1, 0] [] n ⟨mkSlots 28 [(0, .ptr 0 []), (3, .sc (.string x3)), (4, .sc (.int .i64 x4))], ohOf [.box 50 (.agg 50 [.con 0 24 y0_0, .sc (.int .i64 y0_1)])]⟩
theorem spec_l13Word.f_eq (N : Nat) (a0 : PV) : spec_l13Word.f N [a0] = (spec_l1Rd_pick.f N [(PV.agg [a0.fld 0, (PV.sc (.int .i64 ((a0.fld 1).toInt)))]), (PV.sc (.int .i64 3))]).bind fun t1 => if decide (((t1.headD default).toInt) = 0) = true then ((spec_l1Rd_pick.f N [(PV.agg [a0.fld 0, (PV.sc (.int .i64 (((t1.tail.headD default).fld 1).toInt)))]), (PV.sc (.int .i64 5))]).bind fun t2 => spec_l13Word.l0 N N (ByteArray.mk #[]) (IntKind.i64.wrap (1 + ((t2.headD default).toInt))) (a0.fld 0) (((t2.tail.headD default).fld 1).toInt)) else ((spec_l1Rd_of.f N [(PV.agg [a0.fld 0, (PV.sc (.int .i64 (((t1.tail.headD default).fld 1).toInt)))]), (PV.list ([(PV.sc (.string (ByteArray.mk #[99, 97, 116]))), (PV.sc (.string (ByteArray.mk #[99, 97, 116, 115]))), (PV.sc (.string (ByteArray.mk #[97, 99, 116]))), (PV.sc (.string (ByteArray.mk #[100, 111]))), (PV.sc (.string (ByteArray.mk #[100, 111, 105, 110, 103]))), (PV.sc (.string (ByteArray.mk #[103, 111]))), (PV.sc (.string (ByteArray.mk #[117, 110, 100, 111]))), (PV.sc (.string (ByteArray.mk #[116, 114, 121]))), (PV.sc (.string (ByteArray.mk #[116, 114, 105, 101, 115]))), (PV.sc (.string (ByteArray.mk #[97]))), (PV.sc (.string (ByteArray.mk #[98, 97, 107, 101]))), (PV.sc (.string (ByteArray.mk #[98, 97, 107, 105, 110, 103]))), (PV.sc (.string (ByteArray.mk #[116, 97, 99, 116]))), (PV.sc (.string (ByteArray.mk #[99, 97, 114, 116]))), (PV.sc (.string (ByteArray.mk #[97, 98, 99, 97, 98, 99, 97, 98, 99, 97, 98, 99])))]))]).bind fun t3 => some [(PV.sc (.string ((t3.headD default).toStr))), (PV.agg [a0.fld 0, (PV.sc (.int .i64 (((t3.tail.headD default).fld 1).toInt)))])]) := by kernel_rfl
theorem spec_l13Word.l0_eq (N : Nat) (n : Nat) (x3 : ByteArray) (x4 : Int) (y0_0 : PV) (y0_1 : Int) : spec_l13Word.l0 N (n + 1) x3 x4 y0_0 y0_1 = if decide (0 < x4) = true then ((spec_l1Rd_of.f N [(PV.agg [y0_0, (PV.sc (.int .i64 y0_1))]), (PV.list ([(PV.sc (.string (ByteArray.mk #[97]))), (PV.sc (.string (ByteArray.mk #[98]))), (PV.sc (.string (ByteArray.mk #[99]))), (PV.sc (.string (ByteArray.mk #[97, 98]))), (PV.sc (.string (ByteArray.mk #[116])))]))]).bind fun t4 => if x3.size + ((t4.headD default).toStr).size ≤ 9223372036854775807 then (spec_l13Word.l0 N n (x3 ++ ((t4.headD default).toStr)) (IntKind.i64.wrap (x4 - 1)) y0_0 (((t4.tail.headD default).fld 1).toInt)) else none) else ((spec_l1Least.f N [(PV.sc (.int .i64 (x3.size : Int))), (PV.sc (.int .i64 12))]).bind fun t5 => if 0 ≤ ((t5.headD default).toInt) then (if ((t5.headD default).toInt) ≤ (x3.size : Int) then (some [(PV.sc (.string (x3.extract 0 (((t5.headD default).toInt).toNat)))), (PV.agg [y0_0, (PV.sc (.int .i64 y0_1))])]) else none) else none) := by kernel_rfl
noncomputable def spec_l13Word.S (N : Nat) : ASpec := ⟨[(31, .box)], [(9, .val)], spec_l13Word.f N⟩
theorem spec_l13Word.ok (N : Nat) : FnOk Tryd.prog 30 (spec_l13Word.S N) := fnOk_of (E := spec_l13Word.E N) mix Tryd.func30 (by kernel_rfl) (by kernel_rfl) (by kernel_rfl) (lk_ok (all_cons (spec_l1Rd_pick.ok N) (all_cons (spec_l1Rd_of.ok N) (all_cons (spec_l1Least.ok N) all_nil)))) (by kernel_rfl) (fun _ _ h => h)

/-! ### spec_l13AnyWord: function 15, loop.example/medlar/spec.l13AnyWord -/
noncomputable def spec_l13AnyWord.E (N : Nat) : Env := ⟨lk [(28, spec_l1Rd_pick.S N), (29, spec_l1Rd_of.S N), (30, spec_l13Word.S N)], nzk [], N, [(true, 50)]⟩
noncomputable def spec_l13AnyWord.f (N : Nat) (a : List PV) : Option Res := run Tryd.prog (spec_l13AnyWord.E N) Tryd.f15 [(31, .box)] [(9, .val)] a
theorem spec_l13AnyWord.f_eq (N : Nat) (a0 : PV) : spec_l13AnyWord.f N [a0] = (spec_l1Rd_pick.f N [(PV.agg [a0.fld 0, (PV.sc (.int .i64 ((a0.fld 1).toInt)))]), (PV.sc (.int .i64 16))]).bind fun t1 => if decide (((t1.headD default).toInt) = 0) = true then ((spec_l1Rd_of.f N [(PV.agg [a0.fld 0, (PV.sc (.int .i64 (((t1.tail.headD default).fld 1).toInt)))]), (PV.list ([(PV.sc (.string (ByteArray.mk #[]))), (PV.sc (.string (ByteArray.mk #[67, 97, 116]))), (PV.sc (.string (ByteArray.mk #[97, 32, 98]))), (PV.sc (.string (ByteArray.mk #[97, 98, 99, 97, 98, 99, 97, 98, 99, 97, 98, 99, 97]))), (PV.sc (.string (ByteArray.mk #[120, 49]))), (PV.sc (.string (ByteArray.mk #[45])))]))]).bind fun t2 => some [(PV.sc (.string ((t2.headD default).toStr))), (PV.agg [a0.fld 0, (PV.sc (.int .i64 (((t2.tail.headD default).fld 1).toInt)))])]) else ((spec_l13Word.f N [(PV.agg [a0.fld 0, (PV.sc (.int .i64 (((t1.tail.headD default).fld 1).toInt)))])]).bind fun t3 => some [(PV.sc (.string ((t3.headD default).toStr))), (PV.agg [a0.fld 0, (PV.sc (.int .i64 (((t3.tail.headD default).fld 1).toInt)))])]) := by kernel_rfl
noncomputable def spec_l13AnyWord.S (N : Nat) : ASpec := ⟨[(31, .box)], [(9, .val)], spec_l13AnyWord.f N⟩
theorem spec_l13AnyWord.ok (N : Nat) : FnOk Tryd.prog 15 (spec_l13AnyWord.S N) := fnOk_of (E := spec_l13AnyWord.E N) mix Tryd.func15 (by kernel_rfl) (by kernel_rfl) (by kernel_rfl) (lk_ok (all_cons (spec_l1Rd_pick.ok N) (all_cons (spec_l1Rd_of.ok N) (all_cons (spec_l13Word.ok N) all_nil)))) (by kernel_rfl) (fun _ _ h => h)

/-! ### spec_l10Upper: function 11, loop.example/medlar/spec.l10Upper -/
noncomputable def spec_l10Upper.E (N : Nat) : Env := ⟨lk [], nzk [(3, ⟨[0, 1, 2, 5, 6, 7, 8, 9, 10, 11, 12, 13, 14, 15, 16, 17, 18, 19, 20, 21, 22, 23, 24, 25, 26, 27, 28, 29, 30, 31, 32, 33, 34], []⟩)], N, []⟩
noncomputable def spec_l10Upper.f (N : Nat) (a : List PV) : Option Res := run Tryd.prog (spec_l10Upper.E N) Tryd.f11 [(9, .ro)] [(9, .val)] a
noncomputable def spec_l10Upper.l0 (N : Nat) (n : Nat) (x4 : Int) (y0 : List PV) : Option Res := loopAt Tryd.prog (spec_l10Upper.E N) Tryd.f11 [(9, .val)] [1, 1, 0, 1, 0] [] n ⟨mkSlots 35 [(3, .ref 0 []), (4, .sc (.int .i64 x4))], ohOf [.row 24 (PV.list y0)]⟩
theorem spec_l10Upper.f_eq (N : Nat) (a0 : PV) : spec_l10Upper.f N [a0] = if a0.toStr.size ≤ 9223372036854775807 then (spec_l10Upper.l0 N N 0 (bytesL a0.toStr)) else none := by kernel_rfl
theorem spec_l10Upper.l0_eq (N : Nat) (n : Nat) (x4 : Int) (y0 : List PV) : spec_l10Upper.l0 N (n + 1) x4 y0 = if decide (x4 < (y0.length : Int)) = true then (if 0 ≤ x4 then (if x4 < (y0.length : Int) then (if decide (97 ≤ (((PV.list y0).elem x4.toNat).toInt)) = true then (if 0 ≤ x4 then (if x4 < (y0.length : Int) then (if decide ((((PV.list y0).elem x4.toNat).toInt) ≤ 122) = true then (if 0 ≤ x4 then (if x4 < (y0.length : Int) then (if 0 ≤ x4 then (if x4 < (y0.length : Int) then (spec_l10Upper.l0 N n (IntKind.i64.wrap (x4 + 1)) (y0.set x4.toNat (PV.sc (.int .u8 (IntKind.u8.wrap ((((PV.list y0).elem x4.toNat).toInt) - 32)))))) else none) else none) else none) else none) else (spec_l10Upper.l0 N n (IntKind.i64.wrap (x4 + 1)) y0)) else none) else none) else (spec_l10Upper.l0 N n (IntKind.i64.wrap (x4 + 1)) y0)) else none) else none) else (some [(PV.sc (.string (bytesOfL y0)))]) := by kernel_rfl
noncomputable def spec_l10Upper.S (N : Nat) : ASpec := ⟨[(9, .ro)], [(9, .val)], spec_l10Upper.f N⟩
theorem spec_l10Upper.ok (N : Nat) : FnOk Tryd.prog 11 (spec_l10Upper.S N) := fnOk_of (E := spec_l10Upper.E N) mix Tryd.func11 (by kernel_rfl) (by kernel_rfl) (by kernel_rfl) (lk_ok all_nil) (by kernel_rfl) (fun _ _ h => h)

/-! ### spec_l13Case: function 16, loop.example/medlar/spec.l13Case -/
noncomputable def spec_l13Case.E (N : Nat) : Env := ⟨lk [(30, spec_l13Word.S N), (28, spec_l1Rd_pick.S N), (11, spec_l10Upper.S N), (29, spec_l1Rd_of.S N)], nzk [], N, [(true, 50)]⟩
noncomputable def spec_l13Case.f (N : Nat) (a : List PV) : Option Res := run Tryd.prog (spec_l13Case.E N) Tryd.f16 [(31, .box)] [(9, .val)] a
theorem spec_l13Case.f_eq (N : Nat) (a0 : PV) : spec_l13Case.f N [a0] = (spec_l13Word.f N [(PV.agg [a0.fld 0, (PV.sc (.int .i64 ((a0.fld 1).toInt)))])]).bind fun t1 => (spec_l1Rd_pick.f N [(PV.agg [a0.fld 0, (PV.sc (.int .i64 (((t1.tail.headD default).fld 1).toInt)))]), (PV.sc (.int .i64 6))]).bind fun t2 => if decide (((t2.headD default).toInt) = 0) = true then ((spec_l10Upper.f N [(PV.sc (.string ((t1.headD default).toStr)))]).bind fun t3 => some [(PV.sc (.string ((t3.headD default).toStr))), (PV.agg [a0.fld 0, (PV.sc (.int .i64 (((t2.tail.headD default).fld 1).toInt)))])]) else (if decide (((t2.headD default).toInt) = 1) = true then (if 0 ≤ 1 then (if 1 ≤ (((t1.headD default).toStr).size : Int) then ((spec_l10Upper.f N [(PV.sc (.string (((t1.headD default).toStr).extract 0 1)))]).bind fun t4 => if 0 ≤ 1 then (if 1 ≤ (((t1.headD default).toStr).size : Int) then (if ((t4.headD default).toStr).size + (((t1.headD default).toStr).extract 1 (((t1.headD default).toStr).size)).size ≤ 9223372036854775807 then (some [(PV.sc (.string (((t4.headD default).toStr) ++ (((t1.headD default).toStr).extract 1 (((t1.headD default).toStr).size))))), (PV.agg [a0.fld 0, (PV.sc (.int .i64 (((t2.tail.headD default).fld 1).toInt)))])]) else none) else none) else none) else none) else none) else (if decide (((t2.headD default).toInt) = 2) = true then (if ((t1.headD default).toStr).size + (ByteArray.mk #[88]).size ≤ 9223372036854775807 then (some [(PV.sc (.string (((t1.headD default).toStr) ++ (ByteArray.mk #[88])))), (PV.agg [a0.fld 0, (PV.sc (.int .i64 (((t2.tail.headD default).fld 1).toInt)))])]) else none) else (if decide (((t2.headD default).toInt) = 3) = true then ((spec_l1Rd_of.f N [(PV.agg [a0.fld 0, (PV.sc (.int .i64 (((t2.tail.headD default).fld 1).toInt)))]), (PV.list ([(PV.sc (.string (ByteArray.mk #[]))), (PV.sc (.string (ByteArray.mk #[97, 49]))), (PV.sc (.string (ByteArray.mk #[65]))), (PV.sc (.string (ByteArray.mk #[97, 66]))), (PV.sc (.string (ByteArray.mk #[45])))]))]).bind fun t5 => some [(PV.sc (.string ((t5.headD default).toStr))), (PV.agg [a0.fld 0, (PV.sc (.int .i64 (((t5.tail.headD default).fld 1).toInt)))])]) else (some [(PV.sc (.string ((t1.headD default).toStr))), (PV.agg [a0.fld 0, (PV.sc (.int .i64 (((t2.tail.headD default).fld 1).toInt)))])])))) := by kernel_rfl
noncomputable def spec_l13Case.S (N : Nat) : ASpec := ⟨[(31, .box)], [(9, .val)], spec_l13Case.f N⟩
theorem spec_l13Case.ok (N : Nat) : FnOk Tryd.prog 16 (spec_l13Case.S N) := fnOk_of (E := spec_l13Case.E N) mix Tryd.func16 (by kernel_rfl) (by kernel_rfl) (by kernel_rfl) (lk_ok (all_cons (spec_l13Word.ok N) (all_cons (spec_l1Rd_pick.ok N) (all_cons (spec_l10Upper.ok N) (all_cons (spec_l1Rd_of.ok N) all_nil))))) (by kernel_rfl) (fun _ _ h => h)

/-! ### spec_DrawCaseLike: function 7, loop.example/medlar/spec.DrawCaseLike -/
noncomputable def spec_DrawCaseLike.E (N : Nat) : Env := ⟨lk [(14, spec_l1Open.S N), (15, spec_l13AnyWord.S N), (16, spec_l13Case.S N)], nzk [], N, []⟩
noncomputable def spec_DrawCaseLike.f (N : Nat) (a : List PV) : Option Res := run Tryd.prog (spec_DrawCaseLike.E N) Tryd.f7 [(24, .ro)] [(9, .val), (9, .val)] a
theorem spec_DrawCaseLike.f_eq (N : Nat) (a0 : PV) : spec_DrawCaseLike.f N [a0] = (spec_l1Open.f N [a0]).bind fun t1 => (spec_l13AnyWord.f N [(PV.agg [(t1.headD default).fld 0, (PV.sc (.int .i64 (((t1.headD default).fld 1).toInt)))])]).bind fun t2 => (spec_l13Case.f N [(PV.agg [(t1.headD default).fld 0, (PV.sc (.int .i64 (((t2.tail.headD default).fld 1).toInt)))])]).bind fun t3 => some [(PV.sc (.string ((t2.headD default).toStr))), (PV.sc (.string ((t3.headD default).toStr)))] := by kernel_rfl
noncomputable def spec_DrawCaseLike.S (N : Nat) : ASpec := ⟨[(24, .ro)], [(9, .val), (9, .val)], spec_DrawCaseLike.f N⟩
theorem spec_DrawCaseLike.ok (N : Nat) : FnOk Tryd.prog 7 (spec_DrawCaseLike.S N) := fnOk_of (E := spec_DrawCaseLike.E N) mix Tryd.func7 (by kernel_rfl) (by kernel_rfl) (by kernel_rfl) (lk_ok (all_cons (spec_l1Open.ok N) (all_cons (spec_l13AnyWord.ok N) (all_cons (spec_l13Case.ok N) all_nil)))) (by kernel_rfl) (fun _ _ h => h)

/-! ### impl_within: function 20, loop.example/medlar/impl.within -/
noncomputable def impl_within.E (N : Nat) : Env := ⟨lk [], nzk [], N, []⟩
noncomputable def impl_within.f (N : Nat) (a : List PV) : Option Res := run Tryd.prog (impl_within.E N) Tryd.f20 [(3, .ro), (3, .ro), (3, .ro)] [(4, .val)] a
theorem impl_within.f_eq (N : Nat) (a0 : PV) (a1 : PV) (a2 : PV) : impl_within.f N [a0, a1, a2] = if decide (a1.toInt ≤ a0.toInt) = true then (some [(PV.sc (.bool (decide (a0.toInt ≤ a2.toInt))))]) else (some [(PV.sc (.bool false))]) := by kernel_rfl
noncomputable def impl_within.S (N : Nat) : ASpec := ⟨[(3, .ro), (3, .ro), (3, .ro)], [(4, .val)], impl_within.f N⟩
theorem impl_within.ok (N : Nat) : FnOk Tryd.prog 20 (impl_within.S N) := fnOk_of (E := impl_within.E N) mix Tryd.func20 (by kernel_rfl) (by kernel_rfl) (by kernel_rfl) (lk_ok all_nil) (by kernel_rfl) (fun _ _ h => h)

/-! ### impl_lower: function 21, loop.example/medlar/impl.lower -/
noncomputable def impl_lower.E (N : Nat) : Env := ⟨lk [], nzk [(2, ⟨[1, 2, 3, 4, 7, 8, 9, 10, 11, 12, 13, 14, 15, 16, 17, 18, 19], []⟩)], N, []⟩
noncomputable def impl_lower.f (N : Nat) (a : List PV) : Option Res := run Tryd.prog (impl_lower.E N) Tryd.f21 [(9, .ro)] [(4, .val)] a
noncomputable def impl_lower.l0 (N : Nat) (n : Nat) (x0 : ByteArray) (x5 : Int) (x6 : Int) : Option Res := loopAt Tryd.prog (impl_lower.E N) Tryd.f21 [(4, .val)] [1, 0, 1, 0] [] n ⟨mkSlots 20 [(0, .sc (.string x0)), (5, .sc (.int .i64 x5)), (6, .sc (.int .i64 x6))], ohOf []⟩
theorem impl_lower.f_eq (N : Nat) (a0 : PV) : impl_lower.f N [a0] = impl_lower.l0 N N a0.toStr (a0.toStr.size : Int) 0 := by kernel_rfl
theorem impl_lower.l0_eq (N : Nat) (n : Nat) (x0 : ByteArray) (x5 : Int) (x6 : Int) : impl_lower.l0 N (n + 1) x0 x5 x6 = if decide (x6 < x5) = true then (if 0 ≤ x6 then (if x6 < (x0.size : Int) then (if decide (((x0.get! x6.toNat).toNat : Int) < 97) = false then (if 0 ≤ x6 then (if x6 < (x0.size : Int) then (if decide (122 < ((x0.get! x6.toNat).toNat : Int)) = true then (some [(PV.sc (.bool false))]) else (impl_lower.l0 N n x0 x5 (IntKind.i64.wrap (x6 + 1)))) else none) else none) else (some [(PV.sc (.bool false))])) else none) else none) else (some [(PV.sc (.bool true))]) := by kernel_rfl
noncomputable def impl_lower.S (N : Nat) : ASpec := ⟨[(9, .ro)], [(4, .val)], impl_lower.f N⟩
theorem impl_lower.ok (N : Nat) : FnOk Tryd.prog 21 (impl_lower.S N) := fnOk_of (E := impl_lower.E N) mix Tryd.func21 (by kernel_rfl) (by kernel_rfl) (by kernel_rfl) (lk_ok all_nil) (by kernel_rfl) (fun _ _ h => h)

/-! ### impl_WordOk: function 12, loop.example/medlar/impl.WordOk -/
noncomputable def impl_WordOk.E (N : Nat) : Env := ⟨lk [(20, impl_within.S N), (21, impl_lower.S N)], nzk [], N, []⟩
noncomputable def impl_WordOk.f (N : Nat) (a : List PV) : Option Res := run Tryd.prog (impl_WordOk.E N) Tryd.f12 [(9, .ro)] [(4, .val)] a
theorem impl_WordOk.f_eq (N : Nat) (a0 : PV) : impl_WordOk.f N [a0] = (impl_within.f N [(PV.sc (.int .i64 (a0.toStr.size : Int))), (PV.sc (.int .i64 1)), (PV.sc (.int .i64 12))]).bind fun t1 => if (t1.headD default).toBool = true then ((impl_lower.f N [(PV.sc (.string a0.toStr))]).bind fun t2 => some [(PV.sc (.bool ((t2.headD default).toBool)))]) else (some [(PV.sc (.bool false))]) := by kernel_rfl
noncomputable def impl_WordOk.S (N : Nat) : ASpec := ⟨[(9, .ro)], [(4, .val)], impl_WordOk.f N⟩
theorem impl_WordOk.ok (N : Nat) : FnOk Tryd.prog 12 (impl_WordOk.S N) := fnOk_of (E := impl_WordOk.E N) mix Tryd.func12 (by kernel_rfl) (by kernel_rfl) (by kernel_rfl) (lk_ok (all_cons (impl_within.ok N) (all_cons (impl_lower.ok N) all_nil))) (by kernel_rfl) (fun _ _ h => h)

/-! ### impl_upper: function 18, loop.example/medlar/impl.upper -/
noncomputable def impl_upper.E (N : Nat) : Env := ⟨lk [], nzk [], N, []⟩
noncomputable def impl_upper.f (N : Nat) (a : List PV) : Option Res := run Tryd.prog (impl_upper.E N) Tryd.f18 [(5, .ro)] [(4, .val)] a
theorem impl_upper.f_eq (N : Nat) (a0 : PV) : impl_upper.f N [a0] = if decide (65 ≤ a0.toInt) = true then (some [(PV.sc (.bool (decide (a0.toInt ≤ 90))))]) else (some [(PV.sc (.bool false))]) := by kernel_rfl
noncomputable def impl_upper.S (N : Nat) : ASpec := ⟨[(5, .ro)], [(4, .val)], impl_upper.f N⟩
theorem impl_upper.ok (N : Nat) : FnOk Tryd.prog 18 (impl_upper.S N) := fnOk_of (E := impl_upper.E N) mix Tryd.func18 (by kernel_rfl) (by kernel_rfl) (by kernel_rfl) (lk_ok all_nil) (by kernel_rfl) (fun _ _ h => h)

/-! ### impl_letter: function 17, loop.example/medlar/impl.letter -/
noncomputable def impl_letter.E (N : Nat) : Env := ⟨lk [(18, impl_upper.S N)], nzk [], N, []⟩
noncomputable def impl_letter.f (N : Nat) (a : List PV) : Option Res := run Tryd.prog (impl_letter.E N) Tryd.f17 [(5, .ro)] [(4, .val)] a
theorem impl_letter.f_eq (N : Nat) (a0 : PV) : impl_letter.f N [a0] = if decide (97 ≤ a0.toInt) = true then (if decide (a0.toInt ≤ 122) = false then ((impl_upper.f N [(PV.sc (.int .u8 a0.toInt))]).bind fun t1 => some [(PV.sc (.bool ((t1.headD default).toBool)))]) else (some [(PV.sc (.bool true))])) else ((impl_upper.f N [(PV.sc (.int .u8 a0.toInt))]).bind fun t2 => some [(PV.sc (.bool ((t2.headD default).toBool)))]) := by kernel_rfl
noncomputable def impl_letter.S (N : Nat) : ASpec := ⟨[(5, .ro)], [(4, .val)], impl_letter.f N⟩
theorem impl_letter.ok (N : Nat) : FnOk Tryd.prog 17 (impl_letter.S N) := fnOk_of (E := impl_letter.E N) mix Tryd.func17 (by kernel_rfl) (by kernel_rfl) (by kernel_rfl) (lk_ok (all_cons (impl_upper.ok N) all_nil)) (by kernel_rfl) (fun _ _ h => h)

/-! ### impl_CaseOf: function 8, loop.example/medlar/impl.CaseOf -/
noncomputable def impl_CaseOf.E (N : Nat) : Env := ⟨lk [(17, impl_letter.S N), (18, impl_upper.S N)], nzk [(5, ⟨[1, 2, 4, 5, 6, 7, 10, 11, 12, 13, 14, 15, 16, 17, 18, 19, 20, 21, 22, 23, 24, 25, 26, 27, 28, 29, 30, 31, 32, 33, 34, 35, 36, 37, 38, 39], []⟩)], N, []⟩
noncomputable def impl_CaseOf.f (N : Nat) (a : List PV) : Option Res := run Tryd.prog (impl_CaseOf.E N) Tryd.f8 [(9, .ro)] [(3, .val)] a
noncomputable def impl_CaseOf.l0 (N : Nat) (n : Nat) (x0 : ByteArray) (x3 : Int) (x8 : Int) (x9 : Int) : Option Res := loopAt Tryd.prog (impl_CaseOf.E N) Tryd.f8 [(3, .val)] [1, 1, 1, 0, 1, 0] [] n ⟨mkSlots 40 [(0, .sc (.string x0)), (3, .sc (.int .i64 x3)), (8, .sc (.int .i64 x8)), (9, .sc (.int .i64 x9))], ohOf []⟩
theorem impl_CaseOf.f_eq (N : Nat) (a0 : PV) : impl_CaseOf.f N [a0] = if decide (a0.toStr.toList = (ByteArray.mk #[]).toList) = true then (some [(PV.sc (.int .i64 0))]) else (impl_CaseOf.l0 N N a0.toStr 0 (a0.toStr.size : Int) 0) := by kernel_rfl
theorem impl_CaseOf.l0_eq (N : Nat) (n : Nat) (x0 : ByteArray) (x3 : Int) (x8 : Int) (x9 : Int) : impl_CaseOf.l0 N (n + 1) x0 x3 x8 x9 = if decide (x9 < x8) = true then (if 0 ≤ x9 then (if x9 < (x0.size : Int) then ((impl_letter.f N [(PV.sc (.int .u8 ((x0.get! x9.toNat).toNat : Int)))]).bind fun t1 => if (!((t1.headD default).toBool)) = true then (some [(PV.sc (.int .i64 0))]) else (if 0 ≤ x9 then (if x9 < (x0.size : Int) then ((impl_upper.f N [(PV.sc (.int .u8 ((x0.get! x9.toNat).toNat : Int)))]).bind fun t2 => if (t2.headD default).toBool = true then (impl_CaseOf.l0 N n x0 (IntKind.i64.wrap (x3 + 1)) x8 (IntKind.i64.wrap (x9 + 1))) else (impl_CaseOf.l0 N n x0 x3 x8 (IntKind.i64.wrap (x9 + 1)))) else none) else none)) else none) else none) else (if decide (x3 = 0) = true then (some [(PV.sc (.int .i64 1))]) else (if decide (x3 = 1) = true then (if 0 ≤ 0 then (if 0 < (x0.size : Int) then ((impl_upper.f N [(PV.sc (.int .u8 ((x0.get! 0).toNat : Int)))]).bind fun t3 => if (t3.headD default).toBool = true then (some [(PV.sc (.int .i64 2))]) else (if decide (x3 = (x0.size : Int)) = true then (some [(PV.sc (.int .i64 3))]) else (some [(PV.sc (.int .i64 4))]))) else none) else none) else (if decide (x3 = (x0.size : Int)) = true then (some [(PV.sc (.int .i64 3))]) else (some [(PV.sc (.int .i64 4))])))) := by kernel_rfl
noncomputable def impl_CaseOf.S (N : Nat) : ASpec := ⟨[(9, .ro)], [(3, .val)], impl_CaseOf.f N⟩
theorem impl_CaseOf.ok (N : Nat) : FnOk Tryd.prog 8 (impl_CaseOf.S N) := fnOk_of (E := impl_CaseOf.E N) mix Tryd.func8 (by kernel_rfl) (by kernel_rfl) (by kernel_rfl) (lk_ok (all_cons (impl_letter.ok N) (all_cons (impl_upper.ok N) all_nil))) (by kernel_rfl) (fun _ _ h => h)

def lays158_ren : Go.Shelf.Ren := ⟨fun | 158 => 13 | 165 => 22 | 166 => 23 | 167 => 24 | 169 => 25 | 230 => 26 | 203 => 27 | 240 => 31 | 241 => 32 | 197 => 33 | 118 => 34 | 168 => 35 | 270 => 36 | 262 => 37 | 276 => 39 | 277 => 40 | 260 => 41 | 242 => 42 | 313 => 43 | 278 => 44 | 274 => 45 | 275 => 46 | n => n, fun | 9 => 9 | 4 => 4 | 3 => 3 | 5 => 5 | 72 => 39 | 0 => 0 | 76 => 43 | 75 => 42 | 107 => 48 | 70 => 37 | 20 => 20 | 37 => 24 | 127 => 54 | 21 => 21 | 105 => 55 | 164 => 62 | 162 => 68 | 203 => 66 | 119 => 69 | 46 => 70 | 139 => 73 | 138 => 72 | 51 => 74 | 160 => 75 | 208 => 81 | 206 => 79 | 80 => 46 | n => n, fun | 13 => 0 | 3 => 2 | 4 => 3 | n => n⟩
theorem lays158 : Go.Proofs.Lays.n158 Tryd.prog lays158_ren := {
  mixed := by kernel_rfl
  f118 := Tryd.func34.trans (congrArg some (by kernel_rfl))
  f158 := Tryd.func13.trans (congrArg some (by kernel_rfl))
  f165 := Tryd.func22.trans (congrArg some (by kernel_rfl))
  f166 := Tryd.func23.trans (congrArg some (by kernel_rfl))
  f167 := Tryd.func24.trans (congrArg some (by kernel_rfl))
  f168 := Tryd.func35.trans (congrArg some (by kernel_rfl))
  f169 := Tryd.func25.trans (congrArg some (by kernel_rfl))
  f197 := Tryd.func33.trans (congrArg some (by kernel_rfl))
  f203 := Tryd.func27.trans (congrArg some (by kernel_rfl))
  f230 := Tryd.func26.trans (congrArg some (by kernel_rfl))
  f240 := Tryd.func31.trans (congrArg some (by kernel_rfl))
  f241 := Tryd.func32.trans (congrArg some (by kernel_rfl))
  f242 := Tryd.func42.trans (congrArg some (by kernel_rfl))
  f260 := Tryd.func41.trans (congrArg some (by kernel_rfl))
  f262 := Tryd.func37.trans (congrArg some (by kernel_rfl))
  f270 := Tryd.func36.trans (congrArg some (by kernel_rfl))
  f274 := Tryd.func45.trans (congrArg some (by kernel_rfl))
  f275 := Tryd.func46.trans (congrArg some (by kernel_rfl))
  f276 := Tryd.func39.trans (congrArg some (by kernel_rfl))
  f277 := Tryd.func40.trans (congrArg some (by kernel_rfl))
  f278 := Tryd.func44.trans (congrArg some (by kernel_rfl))
  f313 := Tryd.func43.trans (congrArg some (by kernel_rfl))
  t0 := Tryd.underlying0
  a0 := Tryd.isAgg0
  z0 := Tryd.sizeOf0
  v0 := Tryd.zeroValue0
  t3 := Tryd.underlying3
  a3 := Tryd.isAgg3
  z3 := Tryd.sizeOf3
  v3 := Tryd.zeroValue3
  t4 := Tryd.underlying4
  a4 := Tryd.isAgg4
  z4 := Tryd.sizeOf4
  v4 := Tryd.zeroValue4
  t5 := Tryd.underlying5
  a5 := Tryd.isAgg5
  z5 := Tryd.sizeOf5
  v5 := Tryd.zeroValue5
  t9 := Tryd.underlying9
  a9 := Tryd.isAgg9
  z9 := Tryd.sizeOf9
  v9 := Tryd.zeroValue9
  t20 := Tryd.underlying20
  a20 := Tryd.isAgg20
  z20 := Tryd.sizeOf20
  v20 := Tryd.zeroValue20
  t21 := Tryd.underlying21
  a21 := Tryd.isAgg21
  z21 := Tryd.sizeOf21
  v21 := Tryd.zeroValue21
  t37 := Tryd.underlying24
  a37 := Tryd.isAgg24
  z37 := Tryd.sizeOf24
  v37 := Tryd.zeroValue24
  t46 := Tryd.underlying70
  a46 := Tryd.isAgg70
  z46 := Tryd.sizeOf70
  v46 := Tryd.zeroValue70
  t51 := Tryd.underlying74
  a51 := Tryd.isAgg74
  z51 := Tryd.sizeOf74
  v51 := Tryd.zeroValue74
  t70 := Tryd.underlying37
  a70 := Tryd.isAgg37
  z70 := Tryd.sizeOf37
  v70 := Tryd.zeroValue37
  t72 := Tryd.underlying39
  a72 := Tryd.isAgg39
  z72 := Tryd.sizeOf39
  v72 := Tryd.zeroValue39
  t75 := Tryd.underlying42
  a75 := Tryd.isAgg42
  z75 := Tryd.sizeOf42
  v75 := Tryd.zeroValue42
  t76 := Tryd.underlying43
  a76 := Tryd.isAgg43
  z76 := Tryd.sizeOf43
  v76 := Tryd.zeroValue43
  t105 := Tryd.underlying55
  a105 := Tryd.isAgg55
  z105 := Tryd.sizeOf55
  v105 := Tryd.zeroValue55
  t107 := Tryd.underlying48
  a107 := Tryd.isAgg48
  z107 := Tryd.sizeOf48
  v107 := Tryd.zeroValue48
  t119 := Tryd.underlying69
  a119 := Tryd.isAgg69
  z119 := Tryd.sizeOf69
  t127 := Tryd.underlying54
  a127 := Tryd.isAgg54
  z127 := Tryd.sizeOf54
  v127 := Tryd.zeroValue54
  t138 := Tryd.underlying72
  a138 := Tryd.isAgg72
  z138 := Tryd.sizeOf72
  v138 := Tryd.zeroValue72
  t139 := Tryd.underlying73
  a139 := Tryd.isAgg73
  z139 := Tryd.sizeOf73
  v139 := Tryd.zeroValue73
  t160 := Tryd.underlying75
  a160 := Tryd.isAgg75
  z160 := Tryd.sizeOf75
  v160 := Tryd.zeroValue75
  t162 := Tryd.underlying68
  a162 := Tryd.isAgg68
  z162 := Tryd.sizeOf68
  v162 := Tryd.zeroValue68
  t164 := Tryd.underlying62
  a164 := Tryd.isAgg62
  z164 := Tryd.sizeOf62
  v164 := Tryd.zeroValue62
  t203 := Tryd.underlying66
  a203 := Tryd.isAgg66
  z203 := Tryd.sizeOf66
  v203 := Tryd.zeroValue66
  t206 := Tryd.underlying79
  a206 := Tryd.isAgg79
  z206 := Tryd.sizeOf79
  v206 := Tryd.zeroValue79
  t208 := Tryd.underlying81
  a208 := Tryd.isAgg81
  z208 := Tryd.sizeOf81
  v208 := Tryd.zeroValue81
  g3 := by kernel_rfl
  g4 := by kernel_rfl
  g13 := by kernel_rfl }

theorem Builder_Extra_158 : Builder.Extra Tryd.prog lays158_ren := {
  sizeBuilder := by kernel_rfl
  liesBuilder := by kernel_rfl
  t5 := Tryd.underlying5
  a5 := Tryd.isAgg5
  z5 := Tryd.sizeOf5
  v5 := Tryd.zeroValue5
  infoByte := by kernel_rfl
  cellsByte := by kernel_rfl
  sizeByte := by kernel_rfl
  neB5 := by decide }

/-! ### strings_ToUpper: function 13, strings.ToUpper, by the kit's contract, Lib3 -/
noncomputable def strings_ToUpper.f (N : Nat) (a : List PV) : Option (List PV) := upperDen a
noncomputable def strings_ToUpper.S (N : Nat) : ASpec := ⟨[(9, .ro)], [(9, .val)], strings_ToUpper.f N⟩
theorem strings_ToUpper.ok (N : Nat) : FnOk Tryd.prog 13 (strings_ToUpper.S N) := fnOk_upper lays158 Builder_Extra_158 rfl ⟨_, Tryd.func13, by kernel_rfl, by kernel_rfl⟩ (by kernel_rfl) (by kernel_rfl)

/-! ### impl_CaseLike: function 6, loop.example/medlar/impl.CaseLike -/
noncomputable def impl_CaseLike.E (N : Nat) : Env := ⟨lk [(12, impl_WordOk.S N), (8, impl_CaseOf.S N), (13, strings_ToUpper.S N)], nzk [], N, []⟩
noncomputable def impl_CaseLike.f (N : Nat) (a : List PV) : Option Res := run Tryd.prog (impl_CaseLike.E N) Tryd.f6 [(9, .ro), (9, .ro)] [(9, .val)] a
theorem impl_CaseLike.f_eq (N : Nat) (a0 : PV) (a1 : PV) : impl_CaseLike.f N [a0, a1] = (impl_WordOk.f N [(PV.sc (.string a0.toStr))]).bind fun t1 => if (!((t1.headD default).toBool)) = true then (some [(PV.sc (.string (ByteArray.mk #[])))]) else ((impl_CaseOf.f N [(PV.sc (.string a1.toStr))]).bind fun t2 => if decide (((t2.headD default).toInt) = 2) = true then (if 0 ≤ 1 then (if 1 ≤ (a0.toStr.size : Int) then ((strings_ToUpper.f N [(PV.sc (.string (a0.toStr.extract 0 1)))]).bind fun t3 => if 0 ≤ 1 then (if 1 ≤ (a0.toStr.size : Int) then (if ((t3.headD default).toStr).size + (a0.toStr.extract 1 a0.toStr.size).size ≤ 9223372036854775807 then (some [(PV.sc (.string (((t3.headD default).toStr) ++ (a0.toStr.extract 1 a0.toStr.size))))]) else none) else none) else none) else none) else none) else (if decide (((t2.headD default).toInt) = 3) = true then ((strings_ToUpper.f N [(PV.sc (.string a0.toStr))]).bind fun t4 => some [(PV.sc (.string ((t4.headD default).toStr)))]) else (some [(PV.sc (.string a0.toStr))]))) := by kernel_rfl
noncomputable def impl_CaseLike.S (N : Nat) : ASpec := ⟨[(9, .ro), (9, .ro)], [(9, .val)], impl_CaseLike.f N⟩
theorem impl_CaseLike.ok (N : Nat) : FnOk Tryd.prog 6 (impl_CaseLike.S N) := fnOk_of (E := impl_CaseLike.E N) mix Tryd.func6 (by kernel_rfl) (by kernel_rfl) (by kernel_rfl) (lk_ok (all_cons (impl_WordOk.ok N) (all_cons (impl_CaseOf.ok N) (all_cons (strings_ToUpper.ok N) all_nil)))) (by kernel_rfl) (fun _ _ h => h)

/-! ### spec_l1Letters: function 19, loop.example/medlar/spec.l1Letters -/
noncomputable def spec_l1Letters.E (N : Nat) : Env := ⟨lk [], nzk [(2, ⟨[2, 3, 4, 6, 7, 8, 9, 10, 11, 12, 13, 14, 15, 16, 17, 18, 19, 20, 21, 22, 23, 24, 25], []⟩)], N, []⟩
noncomputable def spec_l1Letters.f (N : Nat) (a : List PV) : Option Res := run Tryd.prog (spec_l1Letters.E N) Tryd.f19 [(9, .ro), (3, .ro)] [(4, .val)] a
noncomputable def spec_l1Letters.l0 (N : Nat) (n : Nat) (x0 : ByteArray) (x1 : Int) (x5 : Int) : Option Res := loopAt Tryd.prog (spec_l1Letters.E N) Tryd.f19 [(4, .val)] [1, 0, 1, 0] [] n ⟨mkSlots 26 [(0, .sc (.string x0)), (1, .sc (.int .i64 x1)), (5, .sc (.int .i64 x5))], ohOf []⟩
theorem spec_l1Letters.f_eq (N : Nat) (a0 : PV) (a1 : PV) : spec_l1Letters.f N [a0, a1] = spec_l1Letters.l0 N N a0.toStr a1.toInt 0 := by kernel_rfl
theorem spec_l1Letters.l0_eq (N : Nat) (n : Nat) (x0 : ByteArray) (x1 : Int) (x5 : Int) : spec_l1Letters.l0 N (n + 1) x0 x1 x5 = if decide (x5 < (x0.size : Int)) = true then (if 0 ≤ x5 then (if x5 < (x0.size : Int) then (if decide (((x0.get! x5.toNat).toNat : Int) < 97) = false then (if 0 ≤ x5 then (if x5 < (x0.size : Int) then (if decide (122 < ((x0.get! x5.toNat).toNat : Int)) = true then (some [(PV.sc (.bool false))]) else (spec_l1Letters.l0 N n x0 x1 (IntKind.i64.wrap (x5 + 1)))) else none) else none) else (some [(PV.sc (.bool false))])) else none) else none) else (some [(PV.sc (.bool (decide ((x0.size : Int) ≤ x1))))]) := by kernel_rfl
noncomputable def spec_l1Letters.S (N : Nat) : ASpec := ⟨[(9, .ro), (3, .ro)], [(4, .val)], spec_l1Letters.f N⟩
theorem spec_l1Letters.ok (N : Nat) : FnOk Tryd.prog 19 (spec_l1Letters.S N) := fnOk_of (E := spec_l1Letters.E N) mix Tryd.func19 (by kernel_rfl) (by kernel_rfl) (by kernel_rfl) (lk_ok all_nil) (by kernel_rfl) (fun _ _ h => h)

/-! ### spec_l1Word: function 10, loop.example/medlar/spec.l1Word -/
noncomputable def spec_l1Word.E (N : Nat) : Env := ⟨lk [(19, spec_l1Letters.S N)], nzk [], N, []⟩
noncomputable def spec_l1Word.f (N : Nat) (a : List PV) : Option Res := run Tryd.prog (spec_l1Word.E N) Tryd.f10 [(9, .ro)] [(4, .val)] a
theorem spec_l1Word.f_eq (N : Nat) (a0 : PV) : spec_l1Word.f N [a0] = if decide (0 < (a0.toStr.size : Int)) = true then ((spec_l1Letters.f N [(PV.sc (.string a0.toStr)), (PV.sc (.int .i64 12))]).bind fun t1 => some [(PV.sc (.bool ((t1.headD default).toBool)))]) else (some [(PV.sc (.bool false))]) := by kernel_rfl
noncomputable def spec_l1Word.S (N : Nat) : ASpec := ⟨[(9, .ro)], [(4, .val)], spec_l1Word.f N⟩
theorem spec_l1Word.ok (N : Nat) : FnOk Tryd.prog 10 (spec_l1Word.S N) := fnOk_of (E := spec_l1Word.E N) mix Tryd.func10 (by kernel_rfl) (by kernel_rfl) (by kernel_rfl) (lk_ok (all_cons (spec_l1Letters.ok N) all_nil)) (by kernel_rfl) (fun _ _ h => h)

/-! ### spec_CaseOf: function 9, loop.example/medlar/spec.CaseOf -/
noncomputable def spec_CaseOf.E (N : Nat) : Env := ⟨lk [], nzk [(4, ⟨[1, 2, 6, 7, 8, 9, 10, 11, 12, 13, 14, 15, 16, 17, 18, 19, 20, 21, 22, 23, 24, 25, 26, 27, 28, 29, 30, 31, 32, 33, 34, 35, 36, 37, 38, 39, 40, 41, 42, 43, 44, 45, 46, 47, 48, 49, 50, 51, 52, 53, 54, 55], []⟩)], N, []⟩
noncomputable def spec_CaseOf.f (N : Nat) (a : List PV) : Option Res := run Tryd.prog (spec_CaseOf.E N) Tryd.f9 [(9, .ro)] [(3, .val)] a
noncomputable def spec_CaseOf.l0 (N : Nat) (n : Nat) (x0 : ByteArray) (x3 : Int) (x4 : Int) (x5 : Int) : Option Res := loopAt Tryd.prog (spec_CaseOf.E N) Tryd.f9 [(3, .val)] [1, 1, 1, 0, 1, 0] [] n ⟨mkSlots 56 [(0, .sc (.string x0)), (3, .sc (.int .i64 x3)), (4, .sc (.int .i64 x4)), (5, .sc (.int .i64 x5))], ohOf []⟩
theorem spec_CaseOf.f_eq (N : Nat) (a0 : PV) : spec_CaseOf.f N [a0] = spec_CaseOf.l0 N N a0.toStr 0 0 0 := by kernel_rfl
theorem spec_CaseOf.l0_eq (N : Nat) (n : Nat) (x0 : ByteArray) (x3 : Int) (x4 : Int) (x5 : Int) : spec_CaseOf.l0 N (n + 1) x0 x3 x4 x5 = if decide (x5 < (x0.size : Int)) = true then (if 0 ≤ x5 then (if x5 < (x0.size : Int) then (if decide (97 ≤ ((x0.get! x5.toNat).toNat : Int)) = true then (if 0 ≤ x5 then (if x5 < (x0.size : Int) then (if decide (((x0.get! x5.toNat).toNat : Int) ≤ 122) = true then (spec_CaseOf.l0 N n x0 (IntKind.i64.wrap (x3 + 1)) x4 (IntKind.i64.wrap (x5 + 1))) else (if 0 ≤ x5 then (if x5 < (x0.size : Int) then (if decide (65 ≤ ((x0.get! x5.toNat).toNat : Int)) = true then (if 0 ≤ x5 then (if x5 < (x0.size : Int) then (if decide (((x0.get! x5.toNat).toNat : Int) ≤ 90) = true then (spec_CaseOf.l0 N n x0 x3 (IntKind.i64.wrap (x4 + 1)) (IntKind.i64.wrap (x5 + 1))) else (some [(PV.sc (.int .i64 0))])) else none) else none) else (some [(PV.sc (.int .i64 0))])) else none) else none)) else none) else none) else (if 0 ≤ x5 then (if x5 < (x0.size : Int) then (if decide (65 ≤ ((x0.get! x5.toNat).toNat : Int)) = true then (if 0 ≤ x5 then (if x5 < (x0.size : Int) then (if decide (((x0.get! x5.toNat).toNat : Int) ≤ 90) = true then (spec_CaseOf.l0 N n x0 x3 (IntKind.i64.wrap (x4 + 1)) (IntKind.i64.wrap (x5 + 1))) else (some [(PV.sc (.int .i64 0))])) else none) else none) else (some [(PV.sc (.int .i64 0))])) else none) else none)) else none) else none) else (if decide ((x0.size : Int) = 0) = true then (some [(PV.sc (.int .i64 0))]) else (if decide (x4 = 0) = true then (some [(PV.sc (.int .i64 1))]) else (if decide (x4 = 1) = true then (if 0 ≤ 0 then (if 0 < (x0.size : Int) then (if decide (((x0.get! 0).toNat : Int) ≤ 90) = true then (some [(PV.sc (.int .i64 2))]) else (if decide (x3 = 0) = true then (some [(PV.sc (.int .i64 3))]) else (some [(PV.sc (.int .i64 4))]))) else none) else none) else (if decide (x3 = 0) = true then (some [(PV.sc (.int .i64 3))]) else (some [(PV.sc (.int .i64 4))]))))) := by kernel_rfl
noncomputable def spec_CaseOf.S (N : Nat) : ASpec := ⟨[(9, .ro)], [(3, .val)], spec_CaseOf.f N⟩
theorem spec_CaseOf.ok (N : Nat) : FnOk Tryd.prog 9 (spec_CaseOf.S N) := fnOk_of (E := spec_CaseOf.E N) mix Tryd.func9 (by kernel_rfl) (by kernel_rfl) (by kernel_rfl) (lk_ok all_nil) (by kernel_rfl) (fun _ _ h => h)

/-! ### spec_CaseLike: function 5, loop.example/medlar/spec.CaseLike -/
noncomputable def spec_CaseLike.E (N : Nat) : Env := ⟨lk [(10, spec_l1Word.S N), (9, spec_CaseOf.S N), (11, spec_l10Upper.S N)], nzk [], N, []⟩
noncomputable def spec_CaseLike.f (N : Nat) (a : List PV) : Option Res := run Tryd.prog (spec_CaseLike.E N) Tryd.f5 [(9, .ro), (9, .ro)] [(9, .val)] a
theorem spec_CaseLike.f_eq (N : Nat) (a0 : PV) (a1 : PV) : spec_CaseLike.f N [a0, a1] = (spec_l1Word.f N [(PV.sc (.string a0.toStr))]).bind fun t1 => if (!((t1.headD default).toBool)) = true then (some [(PV.sc (.string (ByteArray.mk #[])))]) else ((spec_CaseOf.f N [(PV.sc (.string a1.toStr))]).bind fun t2 => if decide (((t2.headD default).toInt) = 2) = true then (if 0 ≤ 1 then (if 1 ≤ (a0.toStr.size : Int) then ((spec_l10Upper.f N [(PV.sc (.string (a0.toStr.extract 0 1)))]).bind fun t3 => if 0 ≤ 1 then (if 1 ≤ (a0.toStr.size : Int) then (if ((t3.headD default).toStr).size + (a0.toStr.extract 1 a0.toStr.size).size ≤ 9223372036854775807 then (some [(PV.sc (.string (((t3.headD default).toStr) ++ (a0.toStr.extract 1 a0.toStr.size))))]) else none) else none) else none) else none) else none) else (if decide (((t2.headD default).toInt) = 3) = true then ((spec_l10Upper.f N [(PV.sc (.string a0.toStr))]).bind fun t4 => some [(PV.sc (.string ((t4.headD default).toStr)))]) else (some [(PV.sc (.string a0.toStr))]))) := by kernel_rfl
noncomputable def spec_CaseLike.S (N : Nat) : ASpec := ⟨[(9, .ro), (9, .ro)], [(9, .val)], spec_CaseLike.f N⟩
theorem spec_CaseLike.ok (N : Nat) : FnOk Tryd.prog 5 (spec_CaseLike.S N) := fnOk_of (E := spec_CaseLike.E N) mix Tryd.func5 (by kernel_rfl) (by kernel_rfl) (by kernel_rfl) (lk_ok (all_cons (spec_l1Word.ok N) (all_cons (spec_CaseOf.ok N) (all_cons (spec_l10Upper.ok N) all_nil)))) (by kernel_rfl) (fun _ _ h => h)

/-! ### laws_FnCase: function 4, loop.example/medlar/laws.FnCase -/
noncomputable def laws_FnCase.E (N : Nat) : Env := ⟨lk [(7, spec_DrawCaseLike.S N), (6, impl_CaseLike.S N), (8, impl_CaseOf.S N), (5, spec_CaseLike.S N), (9, spec_CaseOf.S N)], nzk [], N, []⟩
noncomputable def laws_FnCase.f (N : Nat) (a : List PV) : Option Res := run Tryd.prog (laws_FnCase.E N) Tryd.f4 [(24, .ro)] [(4, .val)] a
theorem laws_FnCase.f_eq (N : Nat) (a0 : PV) : laws_FnCase.f N [a0] = if decide (1048576 < (a0.items.length : Int)) = true then (some [(PV.sc (.bool true))]) else ((spec_DrawCaseLike.f N [a0]).bind fun t1 => (impl_CaseLike.f N [(PV.sc (.string ((t1.headD default).toStr))), (PV.sc (.string ((t1.tail.headD default).toStr)))]).bind fun t2 => (impl_CaseOf.f N [(PV.sc (.string ((t1.tail.headD default).toStr)))]).bind fun t3 => (spec_CaseLike.f N [(PV.sc (.string ((t1.headD default).toStr))), (PV.sc (.string ((t1.tail.headD default).toStr)))]).bind fun t4 => if (!decide (((t2.headD default).toStr).toList = ((t4.headD default).toStr).toList)) = false then ((spec_CaseOf.f N [(PV.sc (.string ((t1.tail.headD default).toStr)))]).bind fun t5 => if (!decide (((t3.headD default).toInt) = ((t5.headD default).toInt))) = false then (if decide ((((t2.headD default).toStr).size : Int) < 2) = true then ((spec_CaseLike.f N [(PV.sc (.string ((t1.headD default).toStr))), (PV.sc (.string ((t1.tail.headD default).toStr)))]).bind fun t6 => if decide (((t2.headD default).toStr).toList = ((t6.headD default).toStr).toList) = true then ((spec_CaseOf.f N [(PV.sc (.string ((t1.tail.headD default).toStr)))]).bind fun t7 => some [(PV.sc (.bool (decide (((t3.headD default).toInt) = ((t7.headD default).toInt)))))]) else (some [(PV.sc (.bool false))])) else (if decide (((t3.headD default).toInt) = 0) = false then (if decide (((t3.headD default).toInt) = 4) = true then (if decide (((t2.headD default).toStr).toList = ((t1.headD default).toStr).toList) = true then ((impl_CaseOf.f N [(PV.sc (.string ((t2.headD default).toStr)))]).bind fun t8 => some [(PV.sc (.bool (decide (((t8.headD default).toInt) = 1))))]) else (some [(PV.sc (.bool false))])) else ((impl_CaseOf.f N [(PV.sc (.string ((t2.headD default).toStr)))]).bind fun t9 => if decide (((t9.headD default).toInt) = ((t3.headD default).toInt)) = true then (if decide ((((t2.headD default).toStr).size : Int) = (((t1.headD default).toStr).size : Int)) = true then ((impl_CaseLike.f N [(PV.sc (.string ((t1.headD default).toStr))), (PV.sc (.string ((t2.headD default).toStr)))]).bind fun t10 => some [(PV.sc (.bool (decide (((t10.headD default).toStr).toList = ((t2.headD default).toStr).toList))))]) else (some [(PV.sc (.bool false))])) else (some [(PV.sc (.bool false))]))) else (if decide (((t2.headD default).toStr).toList = ((t1.headD default).toStr).toList) = true then ((impl_CaseOf.f N [(PV.sc (.string ((t2.headD default).toStr)))]).bind fun t11 => some [(PV.sc (.bool (decide (((t11.headD default).toInt) = 1))))]) else (some [(PV.sc (.bool false))])))) else ((spec_CaseLike.f N [(PV.sc (.string ((t1.headD default).toStr))), (PV.sc (.string ((t1.tail.headD default).toStr)))]).bind fun t12 => if decide (((t2.headD default).toStr).toList = ((t12.headD default).toStr).toList) = true then ((spec_CaseOf.f N [(PV.sc (.string ((t1.tail.headD default).toStr)))]).bind fun t13 => some [(PV.sc (.bool (decide (((t3.headD default).toInt) = ((t13.headD default).toInt)))))]) else (some [(PV.sc (.bool false))]))) else ((spec_CaseLike.f N [(PV.sc (.string ((t1.headD default).toStr))), (PV.sc (.string ((t1.tail.headD default).toStr)))]).bind fun t14 => if decide (((t2.headD default).toStr).toList = ((t14.headD default).toStr).toList) = true then ((spec_CaseOf.f N [(PV.sc (.string ((t1.tail.headD default).toStr)))]).bind fun t15 => some [(PV.sc (.bool (decide (((t3.headD default).toInt) = ((t15.headD default).toInt)))))]) else (some [(PV.sc (.bool false))]))) := by kernel_rfl
noncomputable def laws_FnCase.S (N : Nat) : ASpec := ⟨[(24, .ro)], [(4, .val)], laws_FnCase.f N⟩
theorem laws_FnCase.ok (N : Nat) : FnOk Tryd.prog 4 (laws_FnCase.S N) := fnOk_of (E := laws_FnCase.E N) mix Tryd.func4 (by kernel_rfl) (by kernel_rfl) (by kernel_rfl) (lk_ok (all_cons (spec_DrawCaseLike.ok N) (all_cons (impl_CaseLike.ok N) (all_cons (impl_CaseOf.ok N) (all_cons (spec_CaseLike.ok N) (all_cons (spec_CaseOf.ok N) all_nil)))))) (by kernel_rfl) (fun _ _ h => h)

end Go.Proofs.YtoejdiplkaphfaaDoor.FnCase
