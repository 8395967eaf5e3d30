/- What each function that the law FnKeyFar reaches computes, as trees, part 1: no conditions. -/
import Derived.Test.YtgahfbbhnkcnfaaDoorLib4
import Derived.Test.YtgahfbbhnkcnfaaDoorProg
set_option maxRecDepth 100000
set_option linter.unusedVariables false
namespace Go.Proofs.YtgahfbbhnkcnfaaDoor.FnKeyFar
open Go Go.Proofs.YtgahfbbhnkcnfaaDoorAm
theorem mix : Tryd.prog.follows .mixedOrders = true := by kernel_rfl
def keyRowsP : PV := strsP [ByteArray.mk #[113, 119, 101, 114, 116, 121, 117, 105, 111, 112], ByteArray.mk #[97, 115, 100, 102, 103, 104, 106, 107, 108], ByteArray.mk #[122, 120, 99, 118, 98, 110, 109]]
noncomputable instance glb : Glb Tryd.prog := glbOf Tryd.prog [(0, 36, keyRowsP)] [(1, someI64)]

/-! ### spec_l1Open: function 17, loop.example/medlar/spec.l1Open -/
noncomputable def spec_l1Open.E (N : Nat) : Env := ⟨lk [], nzk [], N, []⟩
noncomputable def spec_l1Open.f (N : Nat) (a : List PV) : Option Res := run Tryd.prog (spec_l1Open.E N) Tryd.f17 [(24, .ro)] [(32, .box)] a
theorem spec_l1Open.f_eq (N : Nat) (a0 : PV) : spec_l1Open.f N [a0] = if decide (2000 < (a0.items.length : Int)) = true then (if 0 ≤ 2000 then (if 2000 ≤ (a0.items.length : Int) then (some [(PV.agg [(PV.list ((a0.items.drop 0).take (2000 - 0))), (PV.sc (.int .i64 0))])]) else none) else none) else (some [(PV.agg [a0, (PV.sc (.int .i64 0))])]) := by kernel_rfl
noncomputable def spec_l1Open.S (N : Nat) : ASpec := ⟨[(24, .ro)], [(32, .box)], spec_l1Open.f N⟩
theorem spec_l1Open.ok (N : Nat) : FnOk Tryd.prog 17 (spec_l1Open.S N) := fnOk_of (E := spec_l1Open.E N) mix Tryd.func17 (by kernel_rfl) (by kernel_rfl) (by kernel_rfl) (lk_ok all_nil) (by kernel_rfl) (fun _ _ h => h)

/-! ### spec_l1Rd_pick: function 18, (*loop.example/medlar/spec.l1Rd).pick -/
noncomputable def spec_l1Rd_pick.E (N : Nat) : Env := ⟨lk [], nzk [], N, [(true, 43)]⟩
noncomputable def spec_l1Rd_pick.f (N : Nat) (a : List PV) : Option Res := run Tryd.prog (spec_l1Rd_pick.E N) Tryd.f18 [(32, .box), (3, .ro)] [(3, .val)] a
theorem spec_l1Rd_pick.f_eq (N : Nat) (a0 : PV) (a1 : PV) : spec_l1Rd_pick.f N [a0, a1] = if decide (a1.toInt < 1) = false then (if decide ((((a0.fld 0).items).length : Int) = 0) = true then (some [(PV.sc (.int .i64 0)), (PV.agg [a0.fld 0, (PV.sc (.int .i64 (IntKind.i64.wrap (((a0.fld 1).toInt) + 1))))])]) else (if decide ((IntKind.i64.wrap ((IntKind.i64.wrap (((a0.fld 1).toInt) + 1)) - 1)) < (((a0.fld 0).items).length : Int)) = true then (if 0 ≤ (IntKind.i64.wrap ((IntKind.i64.wrap (((a0.fld 1).toInt) + 1)) - 1)) then (if (IntKind.i64.wrap ((IntKind.i64.wrap (((a0.fld 1).toInt) + 1)) - 1)) < (((a0.fld 0).items).length : Int) then (if a1.toInt = 0 then none else (some [(PV.sc (.int .i64 (Int.tmod (IntKind.i64.wrap (((a0.fld 0).elem ((IntKind.i64.wrap ((IntKind.i64.wrap (((a0.fld 1).toInt) + 1)) - 1)).toNat)).toInt)) a1.toInt))), (PV.agg [a0.fld 0, (PV.sc (.int .i64 (IntKind.i64.wrap (((a0.fld 1).toInt) + 1))))])])) else none) else none) else (if (((a0.fld 0).items).length : Int) = 0 then none else (if 0 ≤ (Int.tmod (IntKind.i64.wrap ((IntKind.i64.wrap (((a0.fld 1).toInt) + 1)) - 1)) (((a0.fld 0).items).length : Int)) then (if (Int.tmod (IntKind.i64.wrap ((IntKind.i64.wrap (((a0.fld 1).toInt) + 1)) - 1)) (((a0.fld 0).items).length : Int)) < (((a0.fld 0).items).length : Int) then (if (((a0.fld 0).items).length : Int) = 0 then none else (if 0 ≤ (Int.tmod (IntKind.i64.wrap ((IntKind.i64.wrap ((IntKind.i64.wrap ((IntKind.i64.wrap (((a0.fld 1).toInt) + 1)) - 1)) * 7)) + 3)) (((a0.fld 0).items).length : Int)) then (if (Int.tmod (IntKind.i64.wrap ((IntKind.i64.wrap ((IntKind.i64.wrap ((IntKind.i64.wrap (((a0.fld 1).toInt) + 1)) - 1)) * 7)) + 3)) (((a0.fld 0).items).length : Int)) < (((a0.fld 0).items).length : Int) then (if (((a0.fld 0).items).length : Int) = 0 then none else (if 64 = 0 then none else (if a1.toInt = 0 then none else (some [(PV.sc (.int .i64 (Int.tmod (bXor .i64 (IntKind.i64.wrap ((IntKind.i64.wrap ((IntKind.i64.wrap ((IntKind.i64.wrap ((IntKind.i64.wrap (((a0.fld 0).elem ((Int.tmod (IntKind.i64.wrap ((IntKind.i64.wrap (((a0.fld 1).toInt) + 1)) - 1)) (((a0.fld 0).items).length : Int)).toNat)).toInt)) * 131)) + (IntKind.i64.wrap ((IntKind.i64.wrap (((a0.fld 0).elem ((Int.tmod (IntKind.i64.wrap ((IntKind.i64.wrap ((IntKind.i64.wrap ((IntKind.i64.wrap (((a0.fld 1).toInt) + 1)) - 1)) * 7)) + 3)) (((a0.fld 0).items).length : Int)).toNat)).toInt)) * 1117)))) + (IntKind.i64.wrap ((IntKind.i64.wrap ((IntKind.i64.wrap (((a0.fld 1).toInt) + 1)) - 1)) * 29)))) + (IntKind.i64.wrap ((IntKind.i64.wrap (Int.tdiv (IntKind.i64.wrap ((IntKind.i64.wrap (((a0.fld 1).toInt) + 1)) - 1)) (((a0.fld 0).items).length : Int))) * 53)))) (IntKind.i64.wrap (Int.tdiv (IntKind.i64.wrap ((IntKind.i64.wrap ((IntKind.i64.wrap ((IntKind.i64.wrap ((IntKind.i64.wrap (((a0.fld 0).elem ((Int.tmod (IntKind.i64.wrap ((IntKind.i64.wrap (((a0.fld 1).toInt) + 1)) - 1)) (((a0.fld 0).items).length : Int)).toNat)).toInt)) * 131)) + (IntKind.i64.wrap ((IntKind.i64.wrap (((a0.fld 0).elem ((Int.tmod (IntKind.i64.wrap ((IntKind.i64.wrap ((IntKind.i64.wrap ((IntKind.i64.wrap (((a0.fld 1).toInt) + 1)) - 1)) * 7)) + 3)) (((a0.fld 0).items).length : Int)).toNat)).toInt)) * 1117)))) + (IntKind.i64.wrap ((IntKind.i64.wrap ((IntKind.i64.wrap (((a0.fld 1).toInt) + 1)) - 1)) * 29)))) + (IntKind.i64.wrap ((IntKind.i64.wrap (Int.tdiv (IntKind.i64.wrap ((IntKind.i64.wrap (((a0.fld 1).toInt) + 1)) - 1)) (((a0.fld 0).items).length : Int))) * 53)))) 64))) a1.toInt))), (PV.agg [a0.fld 0, (PV.sc (.int .i64 (IntKind.i64.wrap (((a0.fld 1).toInt) + 1))))])])))) else none) else none)) else none) else none)))) else (some [(PV.sc (.int .i64 0)), (PV.agg [a0.fld 0, (PV.sc (.int .i64 (IntKind.i64.wrap (((a0.fld 1).toInt) + 1))))])]) := by kernel_rfl
noncomputable def spec_l1Rd_pick.S (N : Nat) : ASpec := ⟨[(32, .box), (3, .ro)], [(3, .val)], spec_l1Rd_pick.f N⟩
theorem spec_l1Rd_pick.ok (N : Nat) : FnOk Tryd.prog 18 (spec_l1Rd_pick.S N) := fnOk_of (E := spec_l1Rd_pick.E N) mix Tryd.func18 (by kernel_rfl) (by kernel_rfl) (by kernel_rfl) (lk_ok all_nil) (by kernel_rfl) (fun _ _ h => h)

/-! ### spec_l1Rd_of: function 19, (*loop.example/medlar/spec.l1Rd).of -/
noncomputable def spec_l1Rd_of.E (N : Nat) : Env := ⟨lk [(18, spec_l1Rd_pick.S N)], nzk [], N, [(true, 43)]⟩
noncomputable def spec_l1Rd_of.f (N : Nat) (a : List PV) : Option Res := run Tryd.prog (spec_l1Rd_of.E N) Tryd.f19 [(32, .box), (36, .ro)] [(9, .val)] a
theorem spec_l1Rd_of.f_eq (N : Nat) (a0 : PV) (a1 : PV) : spec_l1Rd_of.f N [a0, a1] = (spec_l1Rd_pick.f N [(PV.agg [a0.fld 0, (PV.sc (.int .i64 ((a0.fld 1).toInt)))]), (PV.sc (.int .i64 (a1.items.length : Int)))]).bind fun t1 => if 0 ≤ ((t1.headD default).toInt) then (if ((t1.headD default).toInt) < (a1.items.length : Int) then (some [(PV.sc (.string ((a1.elem (((t1.headD default).toInt).toNat)).toStr))), (PV.agg [a0.fld 0, (PV.sc (.int .i64 (((t1.tail.headD default).fld 1).toInt)))])]) else none) else none := by kernel_rfl
noncomputable def spec_l1Rd_of.S (N : Nat) : ASpec := ⟨[(32, .box), (36, .ro)], [(9, .val)], spec_l1Rd_of.f N⟩
theorem spec_l1Rd_of.ok (N : Nat) : FnOk Tryd.prog 19 (spec_l1Rd_of.S N) := fnOk_of (E := spec_l1Rd_of.E N) mix Tryd.func19 (by kernel_rfl) (by kernel_rfl) (by kernel_rfl) (lk_ok (all_cons (spec_l1Rd_pick.ok N) all_nil)) (by kernel_rfl) (fun _ _ h => h)

/-! ### spec_DrawKeyFar: function 9, loop.example/medlar/spec.DrawKeyFar -/
noncomputable def spec_DrawKeyFar.E (N : Nat) : Env := ⟨lk [(17, spec_l1Open.S N), (18, spec_l1Rd_pick.S N), (19, spec_l1Rd_of.S N)], nzk [], N, []⟩
noncomputable def spec_DrawKeyFar.f (N : Nat) (a : List PV) : Option Res := run Tryd.prog (spec_DrawKeyFar.E N) Tryd.f9 [(24, .ro)] [(9, .val), (9, .val)] a
theorem spec_DrawKeyFar.f_eq (N : Nat) (a0 : PV) : spec_DrawKeyFar.f N [a0] = (spec_l1Open.f N [a0]).bind fun t1 => (spec_l1Rd_pick.f N [(PV.agg [(t1.headD default).fld 0, (PV.sc (.int .i64 (((t1.headD default).fld 1).toInt)))]), (PV.sc (.int .i64 26))]).bind fun t2 => (spec_l1Rd_pick.f N [(PV.agg [(t1.headD default).fld 0, (PV.sc (.int .i64 (((t2.tail.headD default).fld 1).toInt)))]), (PV.sc (.int .i64 26))]).bind fun t3 => (spec_l1Rd_of.f N [(PV.agg [(t1.headD default).fld 0, (PV.sc (.int .i64 (((t3.tail.headD default).fld 1).toInt)))]), (PV.list ([(PV.sc (.string (bytesOfL [(PV.sc (.int .u8 (IntKind.u8.wrap (IntKind.i64.wrap (97 + ((t3.headD default).toInt))))))]))), (PV.sc (.string (bytesOfL [(PV.sc (.int .u8 (IntKind.u8.wrap (IntKind.i64.wrap (97 + ((t2.headD default).toInt))))))]))), (PV.sc (.string (ByteArray.mk #[]))), (PV.sc (.string (ByteArray.mk #[65]))), (PV.sc (.string (ByteArray.mk #[97, 98])))]))]).bind fun t4 => some [(PV.sc (.string (bytesOfL [(PV.sc (.int .u8 (IntKind.u8.wrap (IntKind.i64.wrap (97 + ((t2.headD default).toInt))))))]))), (PV.sc (.string ((t4.headD default).toStr)))] := by kernel_rfl
noncomputable def spec_DrawKeyFar.S (N : Nat) : ASpec := ⟨[(24, .ro)], [(9, .val), (9, .val)], spec_DrawKeyFar.f N⟩
theorem spec_DrawKeyFar.ok (N : Nat) : FnOk Tryd.prog 9 (spec_DrawKeyFar.S N) := fnOk_of (E := spec_DrawKeyFar.E N) mix Tryd.func9 (by kernel_rfl) (by kernel_rfl) (by kernel_rfl) (lk_ok (all_cons (spec_l1Open.ok N) (all_cons (spec_l1Rd_pick.ok N) (all_cons (spec_l1Rd_of.ok N) all_nil)))) (by kernel_rfl) (fun _ _ h => h)

/-! ### impl_lower: function 15, loop.example/medlar/impl.lower -/
noncomputable def impl_lower.E (N : Nat) : Env := ⟨lk [], nzk [(2, ⟨[1, 2, 3, 4, 7, 8, 9, 10, 11, 12, 13, 14, 15, 16, 17, 18, 19], []⟩)], N, []⟩
noncomputable def impl_lower.f (N : Nat) (a : List PV) : Option Res := run Tryd.prog (impl_lower.E N) Tryd.f15 [(9, .ro)] [(4, .val)] a
noncomputable def impl_lower.l0 (N : Nat) (n : Nat) (x0 : ByteArray) (x5 : Int) (x6 : Int) : Option Res := loopAt Tryd.prog (impl_lower.E N) Tryd.f15 [(4, .val)] [1, 0, 1, 0] [] n ⟨mkSlots 20 [(0, .sc (.string x0)), (5, .sc (.int .i64 x5)), (6, .sc (.int .i64 x6))], ohOf []⟩
theorem impl_lower.f_eq (N : Nat) (a0 : PV) : impl_lower.f N [a0] = impl_lower.l0 N N a0.toStr (a0.toStr.size : Int) 0 := by kernel_rfl
theorem impl_lower.l0_eq (N : Nat) (n : Nat) (x0 : ByteArray) (x5 : Int) (x6 : Int) : impl_lower.l0 N (n + 1) x0 x5 x6 = if decide (x6 < x5) = true then (if 0 ≤ x6 then (if x6 < (x0.size : Int) then (if decide (((x0.get! x6.toNat).toNat : Int) < 97) = false then (if 0 ≤ x6 then (if x6 < (x0.size : Int) then (if decide (122 < ((x0.get! x6.toNat).toNat : Int)) = true then (some [(PV.sc (.bool false))]) else (impl_lower.l0 N n x0 x5 (IntKind.i64.wrap (x6 + 1)))) else none) else none) else (some [(PV.sc (.bool false))])) else none) else none) else (some [(PV.sc (.bool true))]) := by kernel_rfl
noncomputable def impl_lower.S (N : Nat) : ASpec := ⟨[(9, .ro)], [(4, .val)], impl_lower.f N⟩
theorem impl_lower.ok (N : Nat) : FnOk Tryd.prog 15 (impl_lower.S N) := fnOk_of (E := impl_lower.E N) mix Tryd.func15 (by kernel_rfl) (by kernel_rfl) (by kernel_rfl) (lk_ok all_nil) (by kernel_rfl) (fun _ _ h => h)

def lays143_ren : Go.Shelf.Ren := ⟨fun | 143 => 27 | 219 => 31 | 217 => 34 | 225 => 35 | 224 => 36 | 267 => 37 | 266 => 39 | 314 => 40 | n => n, fun | 9 => 9 | 3 => 3 | 4 => 4 | 5 => 5 | 46 => 49 | 146 => 52 | 51 => 51 | n => n, fun | 1 => 1 | n => n⟩
theorem lays143 : Go.Proofs.Lays.n143 Tryd.prog lays143_ren := {
  mixed := by kernel_rfl
  f143 := Tryd.func27.trans (congrArg some (by kernel_rfl))
  f217 := Tryd.func34.trans (congrArg some (by kernel_rfl))
  f219 := Tryd.func31.trans (congrArg some (by kernel_rfl))
  f224 := Tryd.func36.trans (congrArg some (by kernel_rfl))
  f225 := Tryd.func35.trans (congrArg some (by kernel_rfl))
  f266 := Tryd.func39.trans (congrArg some (by kernel_rfl))
  f267 := Tryd.func37.trans (congrArg some (by kernel_rfl))
  f314 := Tryd.func40.trans (congrArg some (by kernel_rfl))
  t3 := Tryd.underlying3
  a3 := Tryd.isAgg3
  z3 := Tryd.sizeOf3
  v3 := Tryd.zeroValue3
  t4 := Tryd.underlying4
  a4 := Tryd.isAgg4
  z4 := Tryd.sizeOf4
  v4 := Tryd.zeroValue4
  t5 := Tryd.underlying5
  a5 := Tryd.isAgg5
  z5 := Tryd.sizeOf5
  v5 := Tryd.zeroValue5
  t9 := Tryd.underlying9
  a9 := Tryd.isAgg9
  z9 := Tryd.sizeOf9
  v9 := Tryd.zeroValue9
  t46 := Tryd.underlying49
  a46 := Tryd.isAgg49
  z46 := Tryd.sizeOf49
  v46 := Tryd.zeroValue49
  t51 := Tryd.underlying51
  a51 := Tryd.isAgg51
  z51 := Tryd.sizeOf51
  v51 := Tryd.zeroValue51
  t146 := Tryd.underlying52
  a146 := Tryd.isAgg52
  z146 := Tryd.sizeOf52
  v146 := Tryd.zeroValue52
  g1 := by kernel_rfl }

/-! ### strings_Index: function 27, strings.Index, by the kit's contract, Lib4 -/
noncomputable def strings_Index.f (N : Nat) (a : List PV) : Option (List PV) := indexDen a
noncomputable def strings_Index.S (N : Nat) : ASpec := ⟨[(9, .ro), (9, .ro)], [(3, .val)], strings_Index.f N⟩
theorem strings_Index.ok (N : Nat) : FnOk Tryd.prog 27 (strings_Index.S N) := fnOk_index lays143 rfl ⟨_, Tryd.func27, by kernel_rfl, by kernel_rfl⟩ (by kernel_rfl) (by kernel_rfl)

/-! ### impl_keyAt: function 16, loop.example/medlar/impl.keyAt -/
noncomputable def impl_keyAt.E (N : Nat) : Env := ⟨lk [(27, strings_Index.S N)], nzk [(2, ⟨[1, 2, 3, 4, 5, 6, 10, 11, 12, 13, 14, 15, 16, 17, 18, 19, 20, 21], []⟩)], N, []⟩
noncomputable def impl_keyAt.f (N : Nat) (a : List PV) : Option Res := run Tryd.prog (impl_keyAt.E N) Tryd.f16 [(9, .ro)] [(3, .val), (3, .val)] a
noncomputable def impl_keyAt.l0 (N : Nat) (n : Nat) (x0 : ByteArray) (x7 : PV) (x8 : Int) (x9 : Int) : Option Res := loopAt Tryd.prog (impl_keyAt.E N) Tryd.f16 [(3, .val), (3, .val)] [1, 0, 1, 0] [] n ⟨mkSlots 22 [(0, .sc (.string x0)), (7, .ro 36 x7), (8, .sc (.int .i64 x8)), (9, .sc (.int .i64 x9))], ohOf []⟩
theorem impl_keyAt.f_eq (N : Nat) (a0 : PV) : impl_keyAt.f N [a0] = impl_keyAt.l0 N N a0.toStr keyRowsP (keyRowsP.items.length : Int) 0 := by kernel_rfl
theorem impl_keyAt.l0_eq (N : Nat) (n : Nat) (x0 : ByteArray) (x7 : PV) (x8 : Int) (x9 : Int) : impl_keyAt.l0 N (n + 1) x0 x7 x8 x9 = if decide (x9 < x8) = true then (if 0 ≤ x9 then (if x9 < (x7.items.length : Int) then ((strings_Index.f N [(PV.sc (.string ((x7.elem x9.toNat).toStr))), (PV.sc (.string x0))]).bind fun t1 => if decide (0 ≤ ((t1.headD default).toInt)) = true then (some [(PV.sc (.int .i64 x9)), (PV.sc (.int .i64 ((t1.headD default).toInt)))]) else (impl_keyAt.l0 N n x0 x7 x8 (IntKind.i64.wrap (x9 + 1)))) else none) else none) else (some [(PV.sc (.int .i64 (-1))), (PV.sc (.int .i64 (-1)))]) := by kernel_rfl
noncomputable def impl_keyAt.S (N : Nat) : ASpec := ⟨[(9, .ro)], [(3, .val), (3, .val)], impl_keyAt.f N⟩
theorem impl_keyAt.ok (N : Nat) : FnOk Tryd.prog 16 (impl_keyAt.S N) := fnOk_of (E := impl_keyAt.E N) mix Tryd.func16 (by kernel_rfl) (by kernel_rfl) (by kernel_rfl) (lk_ok (all_cons (strings_Index.ok N) all_nil)) (by kernel_rfl) (fun _ _ h => h)

/-! ### impl_KeyFar: function 8, loop.example/medlar/impl.KeyFar -/
noncomputable def impl_KeyFar.E (N : Nat) : Env := ⟨lk [(15, impl_lower.S N), (16, impl_keyAt.S N)], nzk [], N, []⟩
noncomputable def impl_KeyFar.f (N : Nat) (a : List PV) : Option Res := run Tryd.prog (impl_KeyFar.E N) Tryd.f8 [(9, .ro), (9, .ro)] [(3, .val)] a
theorem impl_KeyFar.f_eq (N : Nat) (a0 : PV) (a1 : PV) : impl_KeyFar.f N [a0, a1] = if (!decide ((a0.toStr.size : Int) = 1)) = false then (if (!decide ((a1.toStr.size : Int) = 1)) = false then ((impl_lower.f N [(PV.sc (.string a0.toStr))]).bind fun t1 => if (!((t1.headD default).toBool)) = false then ((impl_lower.f N [(PV.sc (.string a1.toStr))]).bind fun t2 => if (!((t2.headD default).toBool)) = true then (some [(PV.sc (.int .i64 (-1)))]) else ((impl_keyAt.f N [(PV.sc (.string a0.toStr))]).bind fun t3 => (impl_keyAt.f N [(PV.sc (.string a1.toStr))]).bind fun t4 => some [(PV.sc (.int .i64 (minI (maxI (maxI (maxI (IntKind.i64.wrap (((t3.headD default).toInt) - ((t4.headD default).toInt))) (IntKind.i64.wrap (((t4.headD default).toInt) - ((t3.headD default).toInt)))) (IntKind.i64.wrap (((t3.tail.headD default).toInt) - ((t4.tail.headD default).toInt)))) (IntKind.i64.wrap (((t4.tail.headD default).toInt) - ((t3.tail.headD default).toInt)))) 4)))])) else (some [(PV.sc (.int .i64 (-1)))])) else (some [(PV.sc (.int .i64 (-1)))])) else (some [(PV.sc (.int .i64 (-1)))]) := by kernel_rfl
noncomputable def impl_KeyFar.S (N : Nat) : ASpec := ⟨[(9, .ro), (9, .ro)], [(3, .val)], impl_KeyFar.f N⟩
theorem impl_KeyFar.ok (N : Nat) : FnOk Tryd.prog 8 (impl_KeyFar.S N) := fnOk_of (E := impl_KeyFar.E N) mix Tryd.func8 (by kernel_rfl) (by kernel_rfl) (by kernel_rfl) (lk_ok (all_cons (impl_lower.ok N) (all_cons (impl_keyAt.ok N) all_nil))) (by kernel_rfl) (fun _ _ h => h)

/-! ### spec_l1Letters: function 23, loop.example/medlar/spec.l1Letters -/
noncomputable def spec_l1Letters.E (N : Nat) : Env := ⟨lk [], nzk [(2, ⟨[2, 3, 4, 6, 7, 8, 9, 10, 11, 12, 13, 14, 15, 16, 17, 18, 19, 20, 21, 22, 23, 24, 25], []⟩)], N, []⟩
noncomputable def spec_l1Letters.f (N : Nat) (a : List PV) : Option Res := run Tryd.prog (spec_l1Letters.E N) Tryd.f23 [(9, .ro), (3, .ro)] [(4, .val)] a
noncomputable def spec_l1Letters.l0 (N : Nat) (n : Nat) (x0 : ByteArray) (x1 : Int) (x5 : Int) : Option Res := loopAt Tryd.prog (spec_l1Letters.E N) Tryd.f23 [(4, .val)] [1, 0, 1, 0] [] n ⟨mkSlots 26 [(0, .sc (.string x0)), (1, .sc (.int .i64 x1)), (5, .sc (.int .i64 x5))], ohOf []⟩
theorem spec_l1Letters.f_eq (N : Nat) (a0 : PV) (a1 : PV) : spec_l1Letters.f N [a0, a1] = spec_l1Letters.l0 N N a0.toStr a1.toInt 0 := by kernel_rfl
theorem spec_l1Letters.l0_eq (N : Nat) (n : Nat) (x0 : ByteArray) (x1 : Int) (x5 : Int) : spec_l1Letters.l0 N (n + 1) x0 x1 x5 = if decide (x5 < (x0.size : Int)) = true then (if 0 ≤ x5 then (if x5 < (x0.size : Int) then (if decide (((x0.get! x5.toNat).toNat : Int) < 97) = false then (if 0 ≤ x5 then (if x5 < (x0.size : Int) then (if decide (122 < ((x0.get! x5.toNat).toNat : Int)) = true then (some [(PV.sc (.bool false))]) else (spec_l1Letters.l0 N n x0 x1 (IntKind.i64.wrap (x5 + 1)))) else none) else none) else (some [(PV.sc (.bool false))])) else none) else none) else (some [(PV.sc (.bool (decide ((x0.size : Int) ≤ x1))))]) := by kernel_rfl
noncomputable def spec_l1Letters.S (N : Nat) : ASpec := ⟨[(9, .ro), (3, .ro)], [(4, .val)], spec_l1Letters.f N⟩
theorem spec_l1Letters.ok (N : Nat) : FnOk Tryd.prog 23 (spec_l1Letters.S N) := fnOk_of (E := spec_l1Letters.E N) mix Tryd.func23 (by kernel_rfl) (by kernel_rfl) (by kernel_rfl) (lk_ok all_nil) (by kernel_rfl) (fun _ _ h => h)

/-! ### spec_l1Word: function 13, loop.example/medlar/spec.l1Word -/
noncomputable def spec_l1Word.E (N : Nat) : Env := ⟨lk [(23, spec_l1Letters.S N)], nzk [], N, []⟩
noncomputable def spec_l1Word.f (N : Nat) (a : List PV) : Option Res := run Tryd.prog (spec_l1Word.E N) Tryd.f13 [(9, .ro)] [(4, .val)] a
theorem spec_l1Word.f_eq (N : Nat) (a0 : PV) : spec_l1Word.f N [a0] = if decide (0 < (a0.toStr.size : Int)) = true then ((spec_l1Letters.f N [(PV.sc (.string a0.toStr)), (PV.sc (.int .i64 12))]).bind fun t1 => some [(PV.sc (.bool ((t1.headD default).toBool)))]) else (some [(PV.sc (.bool false))]) := by kernel_rfl
noncomputable def spec_l1Word.S (N : Nat) : ASpec := ⟨[(9, .ro)], [(4, .val)], spec_l1Word.f N⟩
theorem spec_l1Word.ok (N : Nat) : FnOk Tryd.prog 13 (spec_l1Word.S N) := fnOk_of (E := spec_l1Word.E N) mix Tryd.func13 (by kernel_rfl) (by kernel_rfl) (by kernel_rfl) (lk_ok (all_cons (spec_l1Letters.ok N) all_nil)) (by kernel_rfl) (fun _ _ h => h)

/-! ### spec_l10Row: function 24, loop.example/medlar/spec.l10Row -/
noncomputable def spec_l10Row.E (N : Nat) : Env := ⟨lk [], nzk [(3, ⟨[1, 2, 3, 6, 7, 8, 9, 10, 11, 12, 13, 14, 15, 16, 17, 18, 19, 20, 21, 22, 23, 24, 25, 26, 27, 28, 29, 30, 31, 32], []⟩), (6, ⟨[1, 2, 3, 7, 8, 9, 10, 11, 12, 13, 14, 15, 16, 17, 18, 19, 20, 21, 22, 23, 24, 25, 26, 27, 28, 29, 30, 31, 32], []⟩)], N, []⟩
noncomputable def spec_l10Row.f (N : Nat) (a : List PV) : Option Res := run Tryd.prog (spec_l10Row.E N) Tryd.f24 [(5, .ro)] [(3, .val), (3, .val)] a
noncomputable def spec_l10Row.l0 (N : Nat) (n : Nat) (x0 : Int) (x5 : Int) (y0 : List PV) : Option Res := loopAt Tryd.prog (spec_l10Row.E N) Tryd.f24 [(3, .val), (3, .val)] [1, 1, 0, 1, 0] [] n ⟨mkSlots 33 [(0, .sc (.int .u8 x0)), (4, .ref 0 []), (5, .sc (.int .i64 x5))], ohOf [.row 36 (PV.list y0)]⟩
noncomputable def spec_l10Row.l1 (N : Nat) (m0 : Nat) (n : Nat) (x0 : Int) (x5 : Int) (x6 : Int) (y0 : List PV) : Option Res := loopAt Tryd.prog (spec_l10Row.E N) Tryd.f24 [(3, .val), (3, .val)] [1, 1, 0, 1, 0, 0, 1, 0, 0, 1, 0] [m0] n ⟨mkSlots 33 [(0, .sc (.int .u8 x0)), (4, .ref 0 []), (5, .sc (.int .i64 x5)), (6, .sc (.int .i64 x6))], ohOf [.row 36 (PV.list y0)]⟩
theorem spec_l10Row.f_eq (N : Nat) (a0 : PV) : spec_l10Row.f N [a0] = spec_l10Row.l0 N N a0.toInt 0 ([(PV.sc (.string (ByteArray.mk #[113, 119, 101, 114, 116, 121, 117, 105, 111, 112]))), (PV.sc (.string (ByteArray.mk #[97, 115, 100, 102, 103, 104, 106, 107, 108]))), (PV.sc (.string (ByteArray.mk #[122, 120, 99, 118, 98, 110, 109])))]) := by kernel_rfl
theorem spec_l10Row.l0_eq (N : Nat) (n : Nat) (x0 : Int) (x5 : Int) (y0 : List PV) : spec_l10Row.l0 N (n + 1) x0 x5 y0 = if decide (x5 < (y0.length : Int)) = true then (spec_l10Row.l1 N n N x0 x5 0 y0) else (some [(PV.sc (.int .i64 (-1))), (PV.sc (.int .i64 (-1)))]) := by kernel_rfl
theorem spec_l10Row.l1_eq (N : Nat) (m0 : Nat) (n : Nat) (x0 : Int) (x5 : Int) (x6 : Int) (y0 : List PV) : spec_l10Row.l1 N m0 (n + 1) x0 x5 x6 y0 = if 0 ≤ x5 then (if x5 < (y0.length : Int) then (if decide (x6 < ((((PV.list y0).elem x5.toNat).toStr).size : Int)) = true then (if 0 ≤ x5 then (if x5 < (y0.length : Int) then (if 0 ≤ x6 then (if x6 < ((((PV.list y0).elem x5.toNat).toStr).size : Int) then (if decide ((((((PV.list y0).elem x5.toNat).toStr).get! x6.toNat).toNat : Int) = x0) = true then (some [(PV.sc (.int .i64 x5)), (PV.sc (.int .i64 x6))]) else (spec_l10Row.l1 N m0 n x0 x5 (IntKind.i64.wrap (x6 + 1)) y0)) else none) else none) else none) else none) else (spec_l10Row.l0 N m0 x0 (IntKind.i64.wrap (x5 + 1)) y0)) else none) else none := by kernel_rfl
noncomputable def spec_l10Row.S (N : Nat) : ASpec := ⟨[(5, .ro)], [(3, .val), (3, .val)], spec_l10Row.f N⟩
theorem spec_l10Row.ok (N : Nat) : FnOk Tryd.prog 24 (spec_l10Row.S N) := fnOk_of (E := spec_l10Row.E N) mix Tryd.func24 (by kernel_rfl) (by kernel_rfl) (by kernel_rfl) (lk_ok all_nil) (by kernel_rfl) (fun _ _ h => h)

/-! ### spec_l10Apart: function 25, loop.example/medlar/spec.l10Apart -/
noncomputable def spec_l10Apart.E (N : Nat) : Env := ⟨lk [], nzk [], N, []⟩
noncomputable def spec_l10Apart.f (N : Nat) (a : List PV) : Option Res := run Tryd.prog (spec_l10Apart.E N) Tryd.f25 [(3, .ro), (3, .ro)] [(3, .val)] a
theorem spec_l10Apart.f_eq (N : Nat) (a0 : PV) (a1 : PV) : spec_l10Apart.f N [a0, a1] = if decide (a0.toInt < a1.toInt) = true then (some [(PV.sc (.int .i64 (IntKind.i64.wrap (a1.toInt - a0.toInt))))]) else (some [(PV.sc (.int .i64 (IntKind.i64.wrap (a0.toInt - a1.toInt))))]) := by kernel_rfl
noncomputable def spec_l10Apart.S (N : Nat) : ASpec := ⟨[(3, .ro), (3, .ro)], [(3, .val)], spec_l10Apart.f N⟩
theorem spec_l10Apart.ok (N : Nat) : FnOk Tryd.prog 25 (spec_l10Apart.S N) := fnOk_of (E := spec_l10Apart.E N) mix Tryd.func25 (by kernel_rfl) (by kernel_rfl) (by kernel_rfl) (lk_ok all_nil) (by kernel_rfl) (fun _ _ h => h)

/-! ### spec_l1Least: function 26, loop.example/medlar/spec.l1Least -/
noncomputable def spec_l1Least.E (N : Nat) : Env := ⟨lk [], nzk [], N, []⟩
noncomputable def spec_l1Least.f (N : Nat) (a : List PV) : Option Res := run Tryd.prog (spec_l1Least.E N) Tryd.f26 [(3, .ro), (3, .ro)] [(3, .val)] a
theorem spec_l1Least.f_eq (N : Nat) (a0 : PV) (a1 : PV) : spec_l1Least.f N [a0, a1] = if decide (a0.toInt < a1.toInt) = true then (some [(PV.sc (.int .i64 a0.toInt))]) else (some [(PV.sc (.int .i64 a1.toInt))]) := by kernel_rfl
noncomputable def spec_l1Least.S (N : Nat) : ASpec := ⟨[(3, .ro), (3, .ro)], [(3, .val)], spec_l1Least.f N⟩
theorem spec_l1Least.ok (N : Nat) : FnOk Tryd.prog 26 (spec_l1Least.S N) := fnOk_of (E := spec_l1Least.E N) mix Tryd.func26 (by kernel_rfl) (by kernel_rfl) (by kernel_rfl) (lk_ok all_nil) (by kernel_rfl) (fun _ _ h => h)

/-! ### spec_l10Key: function 14, loop.example/medlar/spec.l10Key -/
noncomputable def spec_l10Key.E (N : Nat) : Env := ⟨lk [(24, spec_l10Row.S N), (25, spec_l10Apart.S N), (26, spec_l1Least.S N)], nzk [], N, []⟩
noncomputable def spec_l10Key.f (N : Nat) (a : List PV) : Option Res := run Tryd.prog (spec_l10Key.E N) Tryd.f14 [(5, .ro), (5, .ro)] [(3, .val)] a
theorem spec_l10Key.f_eq (N : Nat) (a0 : PV) (a1 : PV) : spec_l10Key.f N [a0, a1] = (spec_l10Row.f N [(PV.sc (.int .u8 a0.toInt))]).bind fun t1 => (spec_l10Row.f N [(PV.sc (.int .u8 a1.toInt))]).bind fun t2 => (spec_l10Apart.f N [(PV.sc (.int .i64 ((t1.headD default).toInt))), (PV.sc (.int .i64 ((t2.headD default).toInt)))]).bind fun t3 => (spec_l10Apart.f N [(PV.sc (.int .i64 ((t1.tail.headD default).toInt))), (PV.sc (.int .i64 ((t2.tail.headD default).toInt)))]).bind fun t4 => if decide (((t3.headD default).toInt) < ((t4.headD default).toInt)) = true then ((spec_l10Apart.f N [(PV.sc (.int .i64 ((t1.tail.headD default).toInt))), (PV.sc (.int .i64 ((t2.tail.headD default).toInt)))]).bind fun t5 => (spec_l1Least.f N [(PV.sc (.int .i64 ((t5.headD default).toInt))), (PV.sc (.int .i64 4))]).bind fun t6 => some [(PV.sc (.int .i64 ((t6.headD default).toInt)))]) else ((spec_l1Least.f N [(PV.sc (.int .i64 ((t3.headD default).toInt))), (PV.sc (.int .i64 4))]).bind fun t7 => some [(PV.sc (.int .i64 ((t7.headD default).toInt)))]) := by kernel_rfl
noncomputable def spec_l10Key.S (N : Nat) : ASpec := ⟨[(5, .ro), (5, .ro)], [(3, .val)], spec_l10Key.f N⟩
theorem spec_l10Key.ok (N : Nat) : FnOk Tryd.prog 14 (spec_l10Key.S N) := fnOk_of (E := spec_l10Key.E N) mix Tryd.func14 (by kernel_rfl) (by kernel_rfl) (by kernel_rfl) (lk_ok (all_cons (spec_l10Row.ok N) (all_cons (spec_l10Apart.ok N) (all_cons (spec_l1Least.ok N) all_nil)))) (by kernel_rfl) (fun _ _ h => h)

/-! ### spec_KeyFar: function 7, loop.example/medlar/spec.KeyFar -/
noncomputable def spec_KeyFar.E (N : Nat) : Env := ⟨lk [(13, spec_l1Word.S N), (14, spec_l10Key.S N)], nzk [], N, []⟩
noncomputable def spec_KeyFar.f (N : Nat) (a : List PV) : Option Res := run Tryd.prog (spec_KeyFar.E N) Tryd.f7 [(9, .ro), (9, .ro)] [(3, .val)] a
theorem spec_KeyFar.f_eq (N : Nat) (a0 : PV) (a1 : PV) : spec_KeyFar.f N [a0, a1] = if (!decide ((a0.toStr.size : Int) = 1)) = false then (if (!decide ((a1.toStr.size : Int) = 1)) = false then ((spec_l1Word.f N [(PV.sc (.string a0.toStr))]).bind fun t1 => if (!((t1.headD default).toBool)) = false then ((spec_l1Word.f N [(PV.sc (.string a1.toStr))]).bind fun t2 => if (!((t2.headD default).toBool)) = true then (some [(PV.sc (.int .i64 (-1)))]) else (if 0 ≤ 0 then (if 0 < (a0.toStr.size : Int) then (if 0 ≤ 0 then (if 0 < (a1.toStr.size : Int) then ((spec_l10Key.f N [(PV.sc (.int .u8 ((a0.toStr.get! 0).toNat : Int))), (PV.sc (.int .u8 ((a1.toStr.get! 0).toNat : Int)))]).bind fun t3 => some [(PV.sc (.int .i64 ((t3.headD default).toInt)))]) else none) else none) else none) else none)) else (some [(PV.sc (.int .i64 (-1)))])) else (some [(PV.sc (.int .i64 (-1)))])) else (some [(PV.sc (.int .i64 (-1)))]) := by kernel_rfl
noncomputable def spec_KeyFar.S (N : Nat) : ASpec := ⟨[(9, .ro), (9, .ro)], [(3, .val)], spec_KeyFar.f N⟩
theorem spec_KeyFar.ok (N : Nat) : FnOk Tryd.prog 7 (spec_KeyFar.S N) := fnOk_of (E := spec_KeyFar.E N) mix Tryd.func7 (by kernel_rfl) (by kernel_rfl) (by kernel_rfl) (lk_ok (all_cons (spec_l1Word.ok N) (all_cons (spec_l10Key.ok N) all_nil))) (by kernel_rfl) (fun _ _ h => h)

/-! ### laws_FnKeyFar: function 4, loop.example/medlar/laws.FnKeyFar -/
noncomputable def laws_FnKeyFar.E (N : Nat) : Env := ⟨lk [(9, spec_DrawKeyFar.S N), (8, impl_KeyFar.S N), (7, spec_KeyFar.S N)], nzk [], N, []⟩
noncomputable def laws_FnKeyFar.f (N : Nat) (a : List PV) : Option Res := run Tryd.prog (laws_FnKeyFar.E N) Tryd.f4 [(24, .ro)] [(4, .val)] a
theorem laws_FnKeyFar.f_eq (N : Nat) (a0 : PV) : laws_FnKeyFar.f N [a0] = if decide (1048576 < (a0.items.length : Int)) = true then (some [(PV.sc (.bool true))]) else ((spec_DrawKeyFar.f N [a0]).bind fun t1 => (impl_KeyFar.f N [(PV.sc (.string ((t1.headD default).toStr))), (PV.sc (.string ((t1.tail.headD default).toStr)))]).bind fun t2 => (spec_KeyFar.f N [(PV.sc (.string ((t1.headD default).toStr))), (PV.sc (.string ((t1.tail.headD default).toStr)))]).bind fun t3 => if (!decide (((t2.headD default).toInt) = ((t3.headD default).toInt))) = false then (if decide (((t2.headD default).toInt) < 0) = true then ((spec_KeyFar.f N [(PV.sc (.string ((t1.headD default).toStr))), (PV.sc (.string ((t1.tail.headD default).toStr)))]).bind fun t4 => some [(PV.sc (.bool (decide (((t2.headD default).toInt) = ((t4.headD default).toInt)))))]) else ((impl_KeyFar.f N [(PV.sc (.string ((t1.tail.headD default).toStr))), (PV.sc (.string ((t1.headD default).toStr)))]).bind fun t5 => if decide (((t5.headD default).toInt) = ((t2.headD default).toInt)) = true then (if decide (((t2.headD default).toInt) ≤ 4) = true then (some [(PV.sc (.bool ((decide (((t2.headD default).toInt) = 0)) == (decide (((t1.headD default).toStr).toList = ((t1.tail.headD default).toStr).toList)))))]) else (some [(PV.sc (.bool false))])) else (some [(PV.sc (.bool false))]))) else ((spec_KeyFar.f N [(PV.sc (.string ((t1.headD default).toStr))), (PV.sc (.string ((t1.tail.headD default).toStr)))]).bind fun t6 => some [(PV.sc (.bool (decide (((t2.headD default).toInt) = ((t6.headD default).toInt)))))])) := by kernel_rfl
noncomputable def laws_FnKeyFar.S (N : Nat) : ASpec := ⟨[(24, .ro)], [(4, .val)], laws_FnKeyFar.f N⟩
theorem laws_FnKeyFar.ok (N : Nat) : FnOk Tryd.prog 4 (laws_FnKeyFar.S N) := fnOk_of (E := laws_FnKeyFar.E N) mix Tryd.func4 (by kernel_rfl) (by kernel_rfl) (by kernel_rfl) (lk_ok (all_cons (spec_DrawKeyFar.ok N) (all_cons (impl_KeyFar.ok N) (all_cons (spec_KeyFar.ok N) all_nil)))) (by kernel_rfl) (fun _ _ h => h)

end Go.Proofs.YtgahfbbhnkcnfaaDoor.FnKeyFar
