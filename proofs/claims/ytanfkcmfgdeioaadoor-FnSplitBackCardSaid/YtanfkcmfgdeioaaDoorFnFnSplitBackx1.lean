/- What each function that the law FnSplitBack reaches computes, as trees, part 1: no conditions. -/
import Derived.Test.YtanfkcmfgdeioaaDoorLib45
import Derived.Test.YtanfkcmfgdeioaaDoorProg
set_option maxRecDepth 100000
set_option linter.unusedVariables false
namespace Go.Proofs.YtanfkcmfgdeioaaDoor.FnSplitBack
open Go Go.Proofs.YtanfkcmfgdeioaaDoorAm
theorem mix : Tryd.prog.follows .mixedOrders = true := by kernel_rfl
noncomputable instance glb : Glb Tryd.prog := glbOf Tryd.prog [] [(0, someI64)]

/-! ### spec_l1Open: function 19, loop.example/medlar/spec.l1Open -/
noncomputable def spec_l1Open.E (N : Nat) : Env := ⟨lk [], nzk [], N, []⟩
noncomputable def spec_l1Open.f (N : Nat) (a : List PV) : Option Res := run Tryd.prog (spec_l1Open.E N) Tryd.f19 [(22, .ro)] [(41, .box)] a
theorem spec_l1Open.f_eq (N : Nat) (a0 : PV) : spec_l1Open.f N [a0] = if decide (2000 < (a0.items.length : Int)) = true then (if 0 ≤ 2000 then (if 2000 ≤ (a0.items.length : Int) then (some [(PV.agg [(PV.list ((a0.items.drop 0).take (2000 - 0))), (PV.sc (.int .i64 0))])]) else none) else none) else (some [(PV.agg [a0, (PV.sc (.int .i64 0))])]) := by kernel_rfl
noncomputable def spec_l1Open.S (N : Nat) : ASpec := ⟨[(22, .ro)], [(41, .box)], spec_l1Open.f N⟩
theorem spec_l1Open.ok (N : Nat) : FnOk Tryd.prog 19 (spec_l1Open.S N) := fnOk_of (E := spec_l1Open.E N) mix Tryd.func19 (by kernel_rfl) (by kernel_rfl) (by kernel_rfl) (lk_ok all_nil) (by kernel_rfl) (fun _ _ h => h)

/-! ### spec_l1Rd_pick: function 31, (*loop.example/medlar/spec.l1Rd).pick -/
noncomputable def spec_l1Rd_pick.E (N : Nat) : Env := ⟨lk [], nzk [], N, [(true, 58)]⟩
noncomputable def spec_l1Rd_pick.f (N : Nat) (a : List PV) : Option Res := run Tryd.prog (spec_l1Rd_pick.E N) Tryd.f31 [(41, .box), (3, .ro)] [(3, .val)] a
theorem spec_l1Rd_pick.f_eq (N : Nat) (a0 : PV) (a1 : PV) : spec_l1Rd_pick.f N [a0, a1] = if decide (a1.toInt < 1) = false then (if decide ((((a0.fld 0).items).length : Int) = 0) = true then (some [(PV.sc (.int .i64 0)), (PV.agg [a0.fld 0, (PV.sc (.int .i64 (IntKind.i64.wrap (((a0.fld 1).toInt) + 1))))])]) else (if decide ((IntKind.i64.wrap ((IntKind.i64.wrap (((a0.fld 1).toInt) + 1)) - 1)) < (((a0.fld 0).items).length : Int)) = true then (if 0 ≤ (IntKind.i64.wrap ((IntKind.i64.wrap (((a0.fld 1).toInt) + 1)) - 1)) then (if (IntKind.i64.wrap ((IntKind.i64.wrap (((a0.fld 1).toInt) + 1)) - 1)) < (((a0.fld 0).items).length : Int) then (if a1.toInt = 0 then none else (some [(PV.sc (.int .i64 (Int.tmod (IntKind.i64.wrap (((a0.fld 0).elem ((IntKind.i64.wrap ((IntKind.i64.wrap (((a0.fld 1).toInt) + 1)) - 1)).toNat)).toInt)) a1.toInt))), (PV.agg [a0.fld 0, (PV.sc (.int .i64 (IntKind.i64.wrap (((a0.fld 1).toInt) + 1))))])])) else none) else none) else (if (((a0.fld 0).items).length : Int) = 0 then none else (if 0 ≤ (Int.tmod (IntKind.i64.wrap ((IntKind.i64.wrap (((a0.fld 1).toInt) + 1)) - 1)) (((a0.fld 0).items).length : Int)) then (if (Int.tmod (IntKind.i64.wrap ((IntKind.i64.wrap (((a0.fld 1).toInt) + 1)) - 1)) (((a0.fld 0).items).length : Int)) < (((a0.fld 0).items).length : Int) then (if (((a0.fld 0).items).length : Int) = 0 then none else (if 0 ≤ (Int.tmod (IntKind.i64.wrap ((IntKind.i64.wrap ((IntKind.i64.wrap ((IntKind.i64.wrap (((a0.fld 1).toInt) + 1)) - 1)) * 7)) + 3)) (((a0.fld 0).items).length : Int)) then (if (Int.tmod (IntKind.i64.wrap ((IntKind.i64.wrap ((IntKind.i64.wrap ((IntKind.i64.wrap (((a0.fld 1).toInt) + 1)) - 1)) * 7)) + 3)) (((a0.fld 0).items).length : Int)) < (((a0.fld 0).items).length : Int) then (if (((a0.fld 0).items).length : Int) = 0 then none else (if 64 = 0 then none else (if a1.toInt = 0 then none else (some [(PV.sc (.int .i64 (Int.tmod (bXor .i64 (IntKind.i64.wrap ((IntKind.i64.wrap ((IntKind.i64.wrap ((IntKind.i64.wrap ((IntKind.i64.wrap (((a0.fld 0).elem ((Int.tmod (IntKind.i64.wrap ((IntKind.i64.wrap (((a0.fld 1).toInt) + 1)) - 1)) (((a0.fld 0).items).length : Int)).toNat)).toInt)) * 131)) + (IntKind.i64.wrap ((IntKind.i64.wrap (((a0.fld 0).elem ((Int.tmod (IntKind.i64.wrap ((IntKind.i64.wrap ((IntKind.i64.wrap ((IntKind.i64.wrap (((a0.fld 1).toInt) + 1)) - 1)) * 7)) + 3)) (((a0.fld 0).items).length : Int)).toNat)).toInt)) * 1117)))) + (IntKind.i64.wrap ((IntKind.i64.wrap ((IntKind.i64.wrap (((a0.fld 1).toInt) + 1)) - 1)) * 29)))) + (IntKind.i64.wrap ((IntKind.i64.wrap (Int.tdiv (IntKind.i64.wrap ((IntKind.i64.wrap (((a0.fld 1).toInt) + 1)) - 1)) (((a0.fld 0).items).length : Int))) * 53)))) (IntKind.i64.wrap (Int.tdiv (IntKind.i64.wrap ((IntKind.i64.wrap ((IntKind.i64.wrap ((IntKind.i64.wrap ((IntKind.i64.wrap (((a0.fld 0).elem ((Int.tmod (IntKind.i64.wrap ((IntKind.i64.wrap (((a0.fld 1).toInt) + 1)) - 1)) (((a0.fld 0).items).length : Int)).toNat)).toInt)) * 131)) + (IntKind.i64.wrap ((IntKind.i64.wrap (((a0.fld 0).elem ((Int.tmod (IntKind.i64.wrap ((IntKind.i64.wrap ((IntKind.i64.wrap ((IntKind.i64.wrap (((a0.fld 1).toInt) + 1)) - 1)) * 7)) + 3)) (((a0.fld 0).items).length : Int)).toNat)).toInt)) * 1117)))) + (IntKind.i64.wrap ((IntKind.i64.wrap ((IntKind.i64.wrap (((a0.fld 1).toInt) + 1)) - 1)) * 29)))) + (IntKind.i64.wrap ((IntKind.i64.wrap (Int.tdiv (IntKind.i64.wrap ((IntKind.i64.wrap (((a0.fld 1).toInt) + 1)) - 1)) (((a0.fld 0).items).length : Int))) * 53)))) 64))) a1.toInt))), (PV.agg [a0.fld 0, (PV.sc (.int .i64 (IntKind.i64.wrap (((a0.fld 1).toInt) + 1))))])])))) else none) else none)) else none) else none)))) else (some [(PV.sc (.int .i64 0)), (PV.agg [a0.fld 0, (PV.sc (.int .i64 (IntKind.i64.wrap (((a0.fld 1).toInt) + 1))))])]) := by kernel_rfl
noncomputable def spec_l1Rd_pick.S (N : Nat) : ASpec := ⟨[(41, .box), (3, .ro)], [(3, .val)], spec_l1Rd_pick.f N⟩
theorem spec_l1Rd_pick.ok (N : Nat) : FnOk Tryd.prog 31 (spec_l1Rd_pick.S N) := fnOk_of (E := spec_l1Rd_pick.E N) mix Tryd.func31 (by kernel_rfl) (by kernel_rfl) (by kernel_rfl) (lk_ok all_nil) (by kernel_rfl) (fun _ _ h => h)

/-! ### spec_l1Rd_of: function 20, (*loop.example/medlar/spec.l1Rd).of -/
noncomputable def spec_l1Rd_of.E (N : Nat) : Env := ⟨lk [(31, spec_l1Rd_pick.S N)], nzk [], N, [(true, 58)]⟩
noncomputable def spec_l1Rd_of.f (N : Nat) (a : List PV) : Option Res := run Tryd.prog (spec_l1Rd_of.E N) Tryd.f20 [(41, .box), (34, .ro)] [(9, .val)] a
theorem spec_l1Rd_of.f_eq (N : Nat) (a0 : PV) (a1 : PV) : spec_l1Rd_of.f N [a0, a1] = (spec_l1Rd_pick.f N [(PV.agg [a0.fld 0, (PV.sc (.int .i64 ((a0.fld 1).toInt)))]), (PV.sc (.int .i64 (a1.items.length : Int)))]).bind fun t1 => if 0 ≤ ((t1.headD default).toInt) then (if ((t1.headD default).toInt) < (a1.items.length : Int) then (some [(PV.sc (.string ((a1.elem (((t1.headD default).toInt).toNat)).toStr))), (PV.agg [a0.fld 0, (PV.sc (.int .i64 (((t1.tail.headD default).fld 1).toInt)))])]) else none) else none := by kernel_rfl
noncomputable def spec_l1Rd_of.S (N : Nat) : ASpec := ⟨[(41, .box), (34, .ro)], [(9, .val)], spec_l1Rd_of.f N⟩
theorem spec_l1Rd_of.ok (N : Nat) : FnOk Tryd.prog 20 (spec_l1Rd_of.S N) := fnOk_of (E := spec_l1Rd_of.E N) mix Tryd.func20 (by kernel_rfl) (by kernel_rfl) (by kernel_rfl) (lk_ok (all_cons (spec_l1Rd_pick.ok N) all_nil)) (by kernel_rfl) (fun _ _ h => h)

/-! ### spec_l1In: function 35, loop.example/medlar/spec.l1In -/
noncomputable def spec_l1In.E (N : Nat) : Env := ⟨lk [], nzk [], N, []⟩
noncomputable def spec_l1In.f (N : Nat) (a : List PV) : Option Res := run Tryd.prog (spec_l1In.E N) Tryd.f35 [(3, .ro), (3, .ro), (3, .ro)] [(4, .val)] a
theorem spec_l1In.f_eq (N : Nat) (a0 : PV) (a1 : PV) (a2 : PV) : spec_l1In.f N [a0, a1, a2] = if decide (a1.toInt ≤ a0.toInt) = true then (some [(PV.sc (.bool (decide (a0.toInt ≤ a2.toInt))))]) else (some [(PV.sc (.bool false))]) := by kernel_rfl
noncomputable def spec_l1In.S (N : Nat) : ASpec := ⟨[(3, .ro), (3, .ro), (3, .ro)], [(4, .val)], spec_l1In.f N⟩
theorem spec_l1In.ok (N : Nat) : FnOk Tryd.prog 35 (spec_l1In.S N) := fnOk_of (E := spec_l1In.E N) mix Tryd.func35 (by kernel_rfl) (by kernel_rfl) (by kernel_rfl) (lk_ok all_nil) (by kernel_rfl) (fun _ _ h => h)

/-! ### spec_PatternOk: function 49, loop.example/medlar/spec.PatternOk -/
noncomputable def spec_PatternOk.E (N : Nat) : Env := ⟨lk [(35, spec_l1In.S N)], nzk [(3, ⟨[0, 2, 5, 6, 7, 8, 9, 10, 11, 12, 13, 14, 15, 16, 17, 18, 19, 20, 21, 22, 23, 24, 25, 26, 27, 28, 29, 30, 31, 32, 33, 34, 35, 36, 37, 38, 39, 40, 41, 42, 43, 44, 45, 46, 47, 48, 49, 50, 51, 52, 53, 54, 55, 56, 57, 58, 59, 60, 61, 62, 63, 64, 65, 66, 67, 68, 69], []⟩), (9, ⟨[0, 2, 4, 5, 7, 8, 9, 10, 11, 12, 13, 14, 15, 16, 17, 18, 19, 20, 21, 22, 23, 24, 25, 26, 27, 28, 29, 30, 31, 32, 33, 34, 35, 36, 37, 38, 39, 40, 41, 42, 43, 44, 45, 46, 47, 48, 49, 50, 51, 52, 53, 54, 55, 56, 57, 58, 59, 60, 61, 62, 63, 64, 65, 66, 67, 68, 69], []⟩)], N, []⟩
noncomputable def spec_PatternOk.f (N : Nat) (a : List PV) : Option Res := run Tryd.prog (spec_PatternOk.E N) Tryd.f49 [(49, .ro)] [(4, .val)] a
noncomputable def spec_PatternOk.l0 (N : Nat) (n : Nat) (x3 : Int) (x4 : Int) (y0_0 : ByteArray) (y0_1 : PV) : Option Res := loopAt Tryd.prog (spec_PatternOk.E N) Tryd.f49 [(4, .val)] [1, 1, 0, 1, 0] [] n ⟨mkSlots 70 [(1, .ptr 0 []), (3, .sc (.int .i64 x3)), (4, .sc (.int .i64 x4))], ohOf [.box 49 (.agg 49 [.sc (.string y0_0), .ro 31 y0_1])]⟩
noncomputable def spec_PatternOk.l1 (N : Nat) (n : Nat) (x3 : Int) (x6 : Int) (y0_0 : ByteArray) (y0_1 : PV) : Option Res := loopAt Tryd.prog (spec_PatternOk.E N) Tryd.f49 [(4, .val)] [1, 1, 1, 0, 1, 0] [] n ⟨mkSlots 70 [(1, .ptr 0 []), (3, .sc (.int .i64 x3)), (6, .sc (.int .i64 x6))], ohOf [.box 49 (.agg 49 [.sc (.string y0_0), .ro 31 y0_1])]⟩
theorem spec_PatternOk.f_eq (N : Nat) (a0 : PV) : spec_PatternOk.f N [a0] = spec_PatternOk.l0 N N (((a0.fld 0).toStr).size : Int) 0 ((a0.fld 0).toStr) (a0.fld 1) := by kernel_rfl
theorem spec_PatternOk.l0_eq (N : Nat) (n : Nat) (x3 : Int) (x4 : Int) (y0_0 : ByteArray) (y0_1 : PV) : spec_PatternOk.l0 N (n + 1) x3 x4 y0_0 y0_1 = if decide (x4 < x3) = true then (if 0 ≤ x4 then (if x4 < (y0_0.size : Int) then (if decide (((y0_0.get! x4.toNat).toNat : Int) = 46) = true then (if decide (x4 = 0) = false then (if (!(decide (x4 = (IntKind.i64.wrap (x3 - 1))))) = true then (if 0 ≤ x4 then (if x4 < (y0_0.size : Int) then (if decide (((y0_0.get! x4.toNat).toNat : Int) < 97) = false then (if 0 ≤ x4 then (if x4 < (y0_0.size : Int) then (if decide (122 < ((y0_0.get! x4.toNat).toNat : Int)) = true then (some [(PV.sc (.bool false))]) else (spec_PatternOk.l0 N n x3 (IntKind.i64.wrap (x4 + 1)) y0_0 y0_1)) else none) else none) else (some [(PV.sc (.bool false))])) else none) else none) else (spec_PatternOk.l0 N n x3 (IntKind.i64.wrap (x4 + 1)) y0_0 y0_1)) else (spec_PatternOk.l0 N n x3 (IntKind.i64.wrap (x4 + 1)) y0_0 y0_1)) else (if 0 ≤ x4 then (if x4 < (y0_0.size : Int) then (if decide (((y0_0.get! x4.toNat).toNat : Int) < 97) = false then (if 0 ≤ x4 then (if x4 < (y0_0.size : Int) then (if decide (122 < ((y0_0.get! x4.toNat).toNat : Int)) = true then (some [(PV.sc (.bool false))]) else (spec_PatternOk.l0 N n x3 (IntKind.i64.wrap (x4 + 1)) y0_0 y0_1)) else none) else none) else (some [(PV.sc (.bool false))])) else none) else none)) else none) else none) else (spec_PatternOk.l1 N N x3 0 y0_0 y0_1) := by kernel_rfl
theorem spec_PatternOk.l1_eq (N : Nat) (n : Nat) (x3 : Int) (x6 : Int) (y0_0 : ByteArray) (y0_1 : PV) : spec_PatternOk.l1 N (n + 1) x3 x6 y0_0 y0_1 = if decide (x6 < (y0_1.items.length : Int)) = true then (if 0 ≤ x6 then (if x6 < (y0_1.items.length : Int) then ((spec_l1In.f N [(PV.sc (.int .i64 ((y0_1.elem x6.toNat).toInt))), (PV.sc (.int .i64 0)), (PV.sc (.int .i64 9))]).bind fun t1 => if (!((t1.headD default).toBool)) = true then (some [(PV.sc (.bool false))]) else (spec_PatternOk.l1 N n x3 (IntKind.i64.wrap (x6 + 1)) y0_0 y0_1)) else none) else none) else ((spec_l1In.f N [(PV.sc (.int .i64 x3)), (PV.sc (.int .i64 1)), (PV.sc (.int .i64 8))]).bind fun t2 => if (t2.headD default).toBool = true then (some [(PV.sc (.bool (decide ((y0_1.items.length : Int) = (IntKind.i64.wrap (x3 + 1))))))]) else (some [(PV.sc (.bool false))])) := by kernel_rfl
noncomputable def spec_PatternOk.S (N : Nat) : ASpec := ⟨[(49, .ro)], [(4, .val)], spec_PatternOk.f N⟩
theorem spec_PatternOk.ok (N : Nat) : FnOk Tryd.prog 49 (spec_PatternOk.S N) := fnOk_of (E := spec_PatternOk.E N) mix Tryd.func49 (by kernel_rfl) (by kernel_rfl) (by kernel_rfl) (lk_ok (all_cons (spec_l1In.ok N) all_nil)) (by kernel_rfl) (fun _ _ h => h)

/-! ### spec_l1Dec: function 71, loop.example/medlar/spec.l1Dec -/
noncomputable def spec_l1Dec.E (N : Nat) (self : List PV → Option Res) : Env := ⟨lk [(71, ⟨[(3, .ro)], [(9, .val)], self⟩)], nzk [], N, []⟩
noncomputable def spec_l1Dec.g (N : Nat) (d : Nat) : List PV → Option Res := Nat.rec (fun _ => none) (fun _ ih a => run Tryd.prog (spec_l1Dec.E N ih) Tryd.f71 [(3, .ro)] [(9, .val)] a) d
noncomputable def spec_l1Dec.f (N : Nat) (a : List PV) : Option Res := spec_l1Dec.g N N a
theorem spec_l1Dec.f_eq (N : Nat) (a : List PV) : spec_l1Dec.f N a = spec_l1Dec.g N N a := rfl
theorem spec_l1Dec.g_eq (N : Nat) (d : Nat) (a0 : PV) : spec_l1Dec.g N (d + 1) [a0] = if decide (a0.toInt < (-9223372036854775807)) = true then (some [(PV.sc (.string (ByteArray.mk #[45, 57, 50, 50, 51, 51, 55, 50, 48, 51, 54, 56, 53, 52, 55, 55, 53, 56, 48, 56])))]) else (if decide (a0.toInt < 0) = true then ((spec_l1Dec.g N d [(PV.sc (.int .i64 (IntKind.i64.wrap (0 - a0.toInt))))]).bind fun t1 => if (ByteArray.mk #[45]).size + ((t1.headD default).toStr).size ≤ 9223372036854775807 then (some [(PV.sc (.string ((ByteArray.mk #[45]) ++ ((t1.headD default).toStr))))]) else none) else (if decide (a0.toInt < 10) = true then (some [(PV.sc (.string (bytesOfL [(PV.sc (.int .u8 (IntKind.u8.wrap (IntKind.i64.wrap (48 + a0.toInt)))))])))]) else (if 10 = 0 then none else ((spec_l1Dec.g N d [(PV.sc (.int .i64 (IntKind.i64.wrap (Int.tdiv a0.toInt 10))))]).bind fun t2 => if 10 = 0 then none else (if ((t2.headD default).toStr).size + (bytesOfL [(PV.sc (.int .u8 (IntKind.u8.wrap (IntKind.i64.wrap (48 + (Int.tmod a0.toInt 10))))))]).size ≤ 9223372036854775807 then (some [(PV.sc (.string (((t2.headD default).toStr) ++ (bytesOfL [(PV.sc (.int .u8 (IntKind.u8.wrap (IntKind.i64.wrap (48 + (Int.tmod a0.toInt 10))))))]))))]) else none))))) := by kernel_rfl
noncomputable def spec_l1Dec.S (N : Nat) : ASpec := ⟨[(3, .ro)], [(9, .val)], spec_l1Dec.f N⟩
theorem spec_l1Dec.g_ok (N : Nat) : ∀ d, FnOk Tryd.prog 71 ⟨[(3, .ro)], [(9, .val)], spec_l1Dec.g N d⟩ := fnOk_rec mix Tryd.func71 (by kernel_rfl) (by kernel_rfl) (by kernel_rfl) (spec_l1Dec.g N) (fun d => spec_l1Dec.E N (spec_l1Dec.g N d)) (fun _ => rfl) (fun d ih => lk_ok (all_cons ih all_nil)) (fun _ => rfl) (fun _ _ _ h => h)
theorem spec_l1Dec.ok (N : Nat) : FnOk Tryd.prog 71 (spec_l1Dec.S N) := spec_l1Dec.g_ok N N

/-! ### spec_l9Put: function 64, loop.example/medlar/spec.l9Put -/
noncomputable def spec_l9Put.E (N : Nat) : Env := ⟨lk [(71, spec_l1Dec.S N)], nzk [(3, ⟨[0, 2, 5, 6, 7, 8, 9, 10, 11, 12, 13, 14, 15, 16, 17, 18, 19, 20, 21, 22, 23, 24, 25, 26, 27, 28, 29, 30, 31, 32, 33, 34, 35, 36, 37, 38, 39], []⟩)], N, []⟩
noncomputable def spec_l9Put.f (N : Nat) (a : List PV) : Option Res := run Tryd.prog (spec_l9Put.E N) Tryd.f64 [(49, .ro)] [(9, .val)] a
noncomputable def spec_l9Put.l0 (N : Nat) (n : Nat) (x3 : ByteArray) (x4 : Int) (y0_0 : ByteArray) (y0_1 : PV) : Option Res := loopAt Tryd.prog (spec_l9Put.E N) Tryd.f64 [(9, .val)] [1, 1, 0, 1, 0] [] n ⟨mkSlots 40 [(1, .ptr 0 []), (3, .sc (.string x3)), (4, .sc (.int .i64 x4))], ohOf [.box 49 (.agg 49 [.sc (.string y0_0), .ro 31 y0_1])]⟩
theorem spec_l9Put.f_eq (N : Nat) (a0 : PV) : spec_l9Put.f N [a0] = spec_l9Put.l0 N N (ByteArray.mk #[]) 0 ((a0.fld 0).toStr) (a0.fld 1) := by kernel_rfl
theorem spec_l9Put.l0_eq (N : Nat) (n : Nat) (x3 : ByteArray) (x4 : Int) (y0_0 : ByteArray) (y0_1 : PV) : spec_l9Put.l0 N (n + 1) x3 x4 y0_0 y0_1 = if decide (x4 < (y0_1.items.length : Int)) = true then (if 0 ≤ x4 then (if x4 < (y0_1.items.length : Int) then (if decide (0 < ((y0_1.elem x4.toNat).toInt)) = true then (if 0 ≤ x4 then (if x4 < (y0_1.items.length : Int) then ((spec_l1Dec.f N [(PV.sc (.int .i64 ((y0_1.elem x4.toNat).toInt)))]).bind fun t1 => if x3.size + ((t1.headD default).toStr).size ≤ 9223372036854775807 then (if decide (x4 < (y0_0.size : Int)) = true then (if 0 ≤ x4 then (if x4 ≤ (IntKind.i64.wrap (x4 + 1)) then (if (IntKind.i64.wrap (x4 + 1)) ≤ (y0_0.size : Int) then (if (x3 ++ ((t1.headD default).toStr)).size + (y0_0.extract x4.toNat ((IntKind.i64.wrap (x4 + 1)).toNat)).size ≤ 9223372036854775807 then (spec_l9Put.l0 N n ((x3 ++ ((t1.headD default).toStr)) ++ (y0_0.extract x4.toNat ((IntKind.i64.wrap (x4 + 1)).toNat))) (IntKind.i64.wrap (x4 + 1)) y0_0 y0_1) else none) else none) else none) else none) else (spec_l9Put.l0 N n (x3 ++ ((t1.headD default).toStr)) (IntKind.i64.wrap (x4 + 1)) y0_0 y0_1)) else none) else none) else none) else (if decide (x4 < (y0_0.size : Int)) = true then (if 0 ≤ x4 then (if x4 ≤ (IntKind.i64.wrap (x4 + 1)) then (if (IntKind.i64.wrap (x4 + 1)) ≤ (y0_0.size : Int) then (if x3.size + (y0_0.extract x4.toNat ((IntKind.i64.wrap (x4 + 1)).toNat)).size ≤ 9223372036854775807 then (spec_l9Put.l0 N n (x3 ++ (y0_0.extract x4.toNat ((IntKind.i64.wrap (x4 + 1)).toNat))) (IntKind.i64.wrap (x4 + 1)) y0_0 y0_1) else none) else none) else none) else none) else (spec_l9Put.l0 N n x3 (IntKind.i64.wrap (x4 + 1)) y0_0 y0_1))) else none) else none) else (some [(PV.sc (.string x3))]) := by kernel_rfl
noncomputable def spec_l9Put.S (N : Nat) : ASpec := ⟨[(49, .ro)], [(9, .val)], spec_l9Put.f N⟩
theorem spec_l9Put.ok (N : Nat) : FnOk Tryd.prog 64 (spec_l9Put.S N) := fnOk_of (E := spec_l9Put.E N) mix Tryd.func64 (by kernel_rfl) (by kernel_rfl) (by kernel_rfl) (lk_ok (all_cons (spec_l1Dec.ok N) all_nil)) (by kernel_rfl) (fun _ _ h => h)

/-! ### spec_PatternGet: function 55, loop.example/medlar/spec.PatternGet -/
noncomputable def spec_PatternGet.E (N : Nat) : Env := ⟨lk [(49, spec_PatternOk.S N), (64, spec_l9Put.S N)], nzk [(3, ⟨[1, 3, 6, 7, 8, 9, 10, 11, 12, 13, 14, 15, 16, 17, 18, 19, 20, 21, 22, 23, 24, 25, 26, 27, 28, 29, 30, 31, 32, 33, 34, 35, 36, 37, 38, 39, 40, 41, 42, 43, 44, 45, 46, 47, 48, 49, 50, 51, 52, 53, 54, 55, 56, 57, 58, 59, 60], []⟩)], N, []⟩
noncomputable def spec_PatternGet.f (N : Nat) (a : List PV) : Option Res := run Tryd.prog (spec_PatternGet.E N) Tryd.f55 [(9, .ro)] [(49, .own), (4, .val)] a
noncomputable def spec_PatternGet.l0 (N : Nat) (n : Nat) (x0 : ByteArray) (x5 : Int) (y0_0 : ByteArray) (y1_0 : ByteArray) (y2 : List PV) : Option Res := loopAt Tryd.prog (spec_PatternGet.E N) Tryd.f55 [(49, .own), (4, .val)] [1, 1, 0, 1, 0] [] n ⟨mkSlots 61 [(0, .sc (.string x0)), (2, .ptr 0 []), (4, .ptr 1 []), (5, .sc (.int .i64 x5))], ohOf [.box 49 (.agg 49 [.sc (.string y0_0), .nil]), .box 49 (.agg 49 [.sc (.string y1_0), .ref 2 []]), .row 31 (PV.list y2)]⟩
theorem spec_PatternGet.f_eq (N : Nat) (a0 : PV) : spec_PatternGet.f N [a0] = spec_PatternGet.l0 N N a0.toStr 0 (ByteArray.mk #[]) (ByteArray.mk #[]) [(PV.sc (.int .i64 0))] := by kernel_rfl
theorem spec_PatternGet.l0_eq (N : Nat) (n : Nat) (x0 : ByteArray) (x5 : Int) (y0_0 : ByteArray) (y1_0 : ByteArray) (y2 : List PV) : spec_PatternGet.l0 N (n + 1) x0 x5 y0_0 y1_0 y2 = if decide (x5 < (x0.size : Int)) = true then (if 0 ≤ x5 then (if x5 < (x0.size : Int) then (if decide (48 ≤ ((x0.get! x5.toNat).toNat : Int)) = true then (if 0 ≤ x5 then (if x5 < (x0.size : Int) then (if decide (((x0.get! x5.toNat).toNat : Int) ≤ 57) = true then (if 0 ≤ x5 then (if x5 < (x0.size : Int) then (if 0 ≤ (IntKind.i64.wrap ((y2.length : Int) - 1)) then (if (IntKind.i64.wrap ((y2.length : Int) - 1)) < (y2.length : Int) then (spec_PatternGet.l0 N n x0 (IntKind.i64.wrap (x5 + 1)) y0_0 y1_0 (y2.set ((IntKind.i64.wrap ((y2.length : Int) - 1)).toNat) (PV.sc (.int .i64 (IntKind.i64.wrap (IntKind.u8.wrap (((x0.get! x5.toNat).toNat : Int) - 48))))))) else none) else none) else none) else none) else (if 0 ≤ x5 then (if x5 ≤ (IntKind.i64.wrap (x5 + 1)) then (if (IntKind.i64.wrap (x5 + 1)) ≤ (x0.size : Int) then (if y1_0.size + (x0.extract x5.toNat ((IntKind.i64.wrap (x5 + 1)).toNat)).size ≤ 9223372036854775807 then (if y2.length + [(PV.sc (.int .i64 0))].length ≤ 17592186044416 then (spec_PatternGet.l0 N n x0 (IntKind.i64.wrap (x5 + 1)) y0_0 (y1_0 ++ (x0.extract x5.toNat ((IntKind.i64.wrap (x5 + 1)).toNat))) (y2 ++ [(PV.sc (.int .i64 0))])) else none) else none) else none) else none) else none)) else none) else none) else (if 0 ≤ x5 then (if x5 ≤ (IntKind.i64.wrap (x5 + 1)) then (if (IntKind.i64.wrap (x5 + 1)) ≤ (x0.size : Int) then (if y1_0.size + (x0.extract x5.toNat ((IntKind.i64.wrap (x5 + 1)).toNat)).size ≤ 9223372036854775807 then (if y2.length + [(PV.sc (.int .i64 0))].length ≤ 17592186044416 then (spec_PatternGet.l0 N n x0 (IntKind.i64.wrap (x5 + 1)) y0_0 (y1_0 ++ (x0.extract x5.toNat ((IntKind.i64.wrap (x5 + 1)).toNat))) (y2 ++ [(PV.sc (.int .i64 0))])) else none) else none) else none) else none) else none)) else none) else none) else ((spec_PatternOk.f N [(PV.agg [(PV.sc (.string y1_0)), (PV.list y2)])]).bind fun t1 => if (!((t1.headD default).toBool)) = false then ((spec_l9Put.f N [(PV.agg [(PV.sc (.string y1_0)), (PV.list y2)])]).bind fun t2 => if (!decide (((t2.headD default).toStr).toList = x0.toList)) = true then (some [(PV.agg [(PV.sc (.string (ByteArray.mk #[]))), (PV.list [])]), (PV.sc (.bool false))]) else (some [(PV.agg [(PV.sc (.string y1_0)), (PV.list y2)]), (PV.sc (.bool true))])) else (some [(PV.agg [(PV.sc (.string (ByteArray.mk #[]))), (PV.list [])]), (PV.sc (.bool false))])) := by kernel_rfl
noncomputable def spec_PatternGet.S (N : Nat) : ASpec := ⟨[(9, .ro)], [(49, .own), (4, .val)], spec_PatternGet.f N⟩
theorem spec_PatternGet.ok (N : Nat) : FnOk Tryd.prog 55 (spec_PatternGet.S N) := fnOk_of (E := spec_PatternGet.E N) mix Tryd.func55 (by kernel_rfl) (by kernel_rfl) (by kernel_rfl) (lk_ok (all_cons (spec_PatternOk.ok N) (all_cons (spec_l9Put.ok N) all_nil))) (by kernel_rfl) (fun _ _ h => h)

/-! ### spec_l13Pattern: function 40, loop.example/medlar/spec.l13Pattern -/
noncomputable def spec_l13Pattern.E (N : Nat) : Env := ⟨lk [(20, spec_l1Rd_of.S N), (55, spec_PatternGet.S N)], nzk [], N, [(true, 58)]⟩
noncomputable def spec_l13Pattern.f (N : Nat) (a : List PV) : Option Res := run Tryd.prog (spec_l13Pattern.E N) Tryd.f40 [(41, .box)] [(49, .own)] a
theorem spec_l13Pattern.f_eq (N : Nat) (a0 : PV) : spec_l13Pattern.f N [a0] = (spec_l1Rd_of.f N [(PV.agg [a0.fld 0, (PV.sc (.int .i64 ((a0.fld 1).toInt)))]), (PV.list ([(PV.sc (.string (ByteArray.mk #[49, 110, 97]))), (PV.sc (.string (ByteArray.mk #[50, 99, 116]))), (PV.sc (.string (ByteArray.mk #[97, 49, 98]))), (PV.sc (.string (ByteArray.mk #[49, 107, 105]))), (PV.sc (.string (ByteArray.mk #[46, 117, 110, 49]))), (PV.sc (.string (ByteArray.mk #[52, 116, 115, 46]))), (PV.sc (.string (ByteArray.mk #[111, 49, 105]))), (PV.sc (.string (ByteArray.mk #[99, 49, 116]))), (PV.sc (.string (ByteArray.mk #[97, 50, 98, 49, 99]))), (PV.sc (.string (ByteArray.mk #[49, 105, 110, 103, 46]))), (PV.sc (.string (ByteArray.mk #[51, 115, 46])))]))]).bind fun t1 => (spec_PatternGet.f N [(PV.sc (.string ((t1.headD default).toStr)))]).bind fun t2 => some [(PV.agg [(PV.sc (.string (((t2.headD default).fld 0).toStr))), (t2.headD default).fld 1]), (PV.agg [a0.fld 0, (PV.sc (.int .i64 (((t1.tail.headD default).fld 1).toInt)))])] := by kernel_rfl
noncomputable def spec_l13Pattern.S (N : Nat) : ASpec := ⟨[(41, .box)], [(49, .own)], spec_l13Pattern.f N⟩
theorem spec_l13Pattern.ok (N : Nat) : FnOk Tryd.prog 40 (spec_l13Pattern.S N) := fnOk_of (E := spec_l13Pattern.E N) mix Tryd.func40 (by kernel_rfl) (by kernel_rfl) (by kernel_rfl) (lk_ok (all_cons (spec_l1Rd_of.ok N) (all_cons (spec_PatternGet.ok N) all_nil))) (by kernel_rfl) (fun _ _ h => h)

/-! ### spec_l1Rd_one: function 33, (*loop.example/medlar/spec.l1Rd).one -/
noncomputable def spec_l1Rd_one.E (N : Nat) : Env := ⟨lk [(31, spec_l1Rd_pick.S N)], nzk [], N, [(true, 58)]⟩
noncomputable def spec_l1Rd_one.f (N : Nat) (a : List PV) : Option Res := run Tryd.prog (spec_l1Rd_one.E N) Tryd.f33 [(41, .box), (31, .ro)] [(3, .val)] a
theorem spec_l1Rd_one.f_eq (N : Nat) (a0 : PV) (a1 : PV) : spec_l1Rd_one.f N [a0, a1] = (spec_l1Rd_pick.f N [(PV.agg [a0.fld 0, (PV.sc (.int .i64 ((a0.fld 1).toInt)))]), (PV.sc (.int .i64 (a1.items.length : Int)))]).bind fun t1 => if 0 ≤ ((t1.headD default).toInt) then (if ((t1.headD default).toInt) < (a1.items.length : Int) then (some [(PV.sc (.int .i64 ((a1.elem (((t1.headD default).toInt).toNat)).toInt))), (PV.agg [a0.fld 0, (PV.sc (.int .i64 (((t1.tail.headD default).fld 1).toInt)))])]) else none) else none := by kernel_rfl
noncomputable def spec_l1Rd_one.S (N : Nat) : ASpec := ⟨[(41, .box), (31, .ro)], [(3, .val)], spec_l1Rd_one.f N⟩
theorem spec_l1Rd_one.ok (N : Nat) : FnOk Tryd.prog 33 (spec_l1Rd_one.S N) := fnOk_of (E := spec_l1Rd_one.E N) mix Tryd.func33 (by kernel_rfl) (by kernel_rfl) (by kernel_rfl) (lk_ok (all_cons (spec_l1Rd_pick.ok N) all_nil)) (by kernel_rfl) (fun _ _ h => h)

/-! ### spec_l13AnyPattern: function 41, loop.example/medlar/spec.l13AnyPattern -/
noncomputable def spec_l13AnyPattern.E (N : Nat) : Env := ⟨lk [(40, spec_l13Pattern.S N), (31, spec_l1Rd_pick.S N), (20, spec_l1Rd_of.S N), (33, spec_l1Rd_one.S N)], nzk [], N, [(true, 58)]⟩
noncomputable def spec_l13AnyPattern.f (N : Nat) (a : List PV) : Option Res := run Tryd.prog (spec_l13AnyPattern.E N) Tryd.f41 [(41, .box)] [(49, .own)] a
theorem spec_l13AnyPattern.f_eq (N : Nat) (a0 : PV) : spec_l13AnyPattern.f N [a0] = (spec_l13Pattern.f N [(PV.agg [a0.fld 0, (PV.sc (.int .i64 ((a0.fld 1).toInt)))])]).bind fun t1 => if ([] : List PV).length + (((t1.headD default).fld 1).items).length ≤ 17592186044416 then ((spec_l1Rd_pick.f N [(PV.agg [a0.fld 0, (PV.sc (.int .i64 (((t1.tail.headD default).fld 1).toInt)))]), (PV.sc (.int .i64 10))]).bind fun t2 => if decide (((t2.headD default).toInt) = 0) = true then ((spec_l1Rd_of.f N [(PV.agg [a0.fld 0, (PV.sc (.int .i64 (((t2.tail.headD default).fld 1).toInt)))]), (PV.list ([(PV.sc (.string (ByteArray.mk #[]))), (PV.sc (.string (ByteArray.mk #[65]))), (PV.sc (.string (ByteArray.mk #[97, 46, 98]))), (PV.sc (.string (ByteArray.mk #[46, 46]))), (PV.sc (.string (ByteArray.mk #[97, 98, 99, 100, 101, 102, 103, 104, 105])))]))]).bind fun t3 => some [(PV.agg [(PV.sc (.string ((t3.headD default).toStr))), (PV.list (([] : List PV) ++ (((t1.headD default).fld 1).items)))]), (PV.agg [a0.fld 0, (PV.sc (.int .i64 (((t3.tail.headD default).fld 1).toInt)))])]) else (if decide (((t2.headD default).toInt) = 1) = true then ((spec_l1Rd_one.f N [(PV.agg [a0.fld 0, (PV.sc (.int .i64 (((t2.tail.headD default).fld 1).toInt)))]), (PV.list [(PV.sc (.int .i64 (-1))), (PV.sc (.int .i64 10)), (PV.sc (.int .i64 9))])]).bind fun t4 => if 0 ≤ 0 then (if 0 < ((([] : List PV) ++ (((t1.headD default).fld 1).items)).length : Int) then (some [(PV.agg [(PV.sc (.string (((t1.headD default).fld 0).toStr))), (PV.list ((([] : List PV) ++ (((t1.headD default).fld 1).items)).set 0 (PV.sc (.int .i64 ((t4.headD default).toInt)))))]), (PV.agg [a0.fld 0, (PV.sc (.int .i64 (((t4.tail.headD default).fld 1).toInt)))])]) else none) else none) else (if decide (((t2.headD default).toInt) = 2) = true then (if (([] : List PV) ++ (((t1.headD default).fld 1).items)).length + [(PV.sc (.int .i64 1))].length ≤ 17592186044416 then (some [(PV.agg [(PV.sc (.string (((t1.headD default).fld 0).toStr))), (PV.list ((([] : List PV) ++ (((t1.headD default).fld 1).items)) ++ [(PV.sc (.int .i64 1))]))]), (PV.agg [a0.fld 0, (PV.sc (.int .i64 (((t2.tail.headD default).fld 1).toInt)))])]) else none) else (some [(PV.agg [(PV.sc (.string (((t1.headD default).fld 0).toStr))), (PV.list (([] : List PV) ++ (((t1.headD default).fld 1).items)))]), (PV.agg [a0.fld 0, (PV.sc (.int .i64 (((t2.tail.headD default).fld 1).toInt)))])])))) else none := by kernel_rfl
noncomputable def spec_l13AnyPattern.S (N : Nat) : ASpec := ⟨[(41, .box)], [(49, .own)], spec_l13AnyPattern.f N⟩
theorem spec_l13AnyPattern.ok (N : Nat) : FnOk Tryd.prog 41 (spec_l13AnyPattern.S N) := fnOk_of (E := spec_l13AnyPattern.E N) mix Tryd.func41 (by kernel_rfl) (by kernel_rfl) (by kernel_rfl) (lk_ok (all_cons (spec_l13Pattern.ok N) (all_cons (spec_l1Rd_pick.ok N) (all_cons (spec_l1Rd_of.ok N) (all_cons (spec_l1Rd_one.ok N) all_nil))))) (by kernel_rfl) (fun _ _ h => h)

/-! ### spec_l13Patterns: function 21, loop.example/medlar/spec.l13Patterns -/
noncomputable def spec_l13Patterns.E (N : Nat) : Env := ⟨lk [(31, spec_l1Rd_pick.S N), (40, spec_l13Pattern.S N), (41, spec_l13AnyPattern.S N)], nzk [(3, ⟨[1, 2, 5, 6, 7, 8, 9, 10, 11, 12, 13, 14, 15, 16, 17, 18, 19, 20, 21, 22, 23, 24, 25, 26, 27, 28, 29, 30, 31, 32, 33, 34, 35, 36, 37, 38, 39], [(3, 26)]⟩), (9, ⟨[1, 2, 4, 5, 6, 7, 8, 9, 10, 11, 12, 13, 14, 15, 16, 17, 18, 19, 20, 21, 22, 23, 24, 25, 26, 27, 28, 29, 30, 31, 32, 33, 34, 35, 36, 37, 38, 39], [(3, 26)]⟩)], N, [(true, 58)]⟩
noncomputable def spec_l13Patterns.f (N : Nat) (a : List PV) : Option Res := run Tryd.prog (spec_l13Patterns.E N) Tryd.f21 [(41, .box)] [(26, .own)] a
noncomputable def spec_l13Patterns.l0 (N : Nat) (n : Nat) (x4 : Int) (y0_0 : PV) (y0_1 : Int) (y1 : List PV) : Option Res := loopAt Tryd.prog (spec_l13Patterns.E N) Tryd.f21 [(26, .own)] [1, 1, 0, 1, 0] [] n ⟨mkSlots 40 [(0, .ptr 0 []), (3, .ref 1 []), (4, .sc (.int .i64 x4))], ohOf [.box 58 (.agg 58 [.con 0 22 y0_0, .sc (.int .i64 y0_1)]), .row 26 (PV.list y1)]⟩
noncomputable def spec_l13Patterns.l1 (N : Nat) (n : Nat) (y0_0 : PV) (y0_1 : Int) (y1 : List PV) : Option Res := loopAt Tryd.prog (spec_l13Patterns.E N) Tryd.f21 [(26, .own)] [1, 1, 1, 1, 0, 1, 0, 0] [] n ⟨mkSlots 40 [(0, .ptr 0 []), (3, .ref 1 [])], ohOf [.box 58 (.agg 58 [.con 0 22 y0_0, .sc (.int .i64 y0_1)]), .row 26 (PV.list y1)]⟩
theorem spec_l13Patterns.f_eq (N : Nat) (a0 : PV) : spec_l13Patterns.f N [a0] = (spec_l1Rd_pick.f N [(PV.agg [a0.fld 0, (PV.sc (.int .i64 ((a0.fld 1).toInt)))]), (PV.sc (.int .i64 8))]).bind fun t1 => spec_l13Patterns.l0 N N ((t1.headD default).toInt) (a0.fld 0) (((t1.tail.headD default).fld 1).toInt) [] := by kernel_rfl
theorem spec_l13Patterns.l0_eq (N : Nat) (n : Nat) (x4 : Int) (y0_0 : PV) (y0_1 : Int) (y1 : List PV) : spec_l13Patterns.l0 N (n + 1) x4 y0_0 y0_1 y1 = if decide (0 < x4) = true then ((spec_l13Pattern.f N [(PV.agg [y0_0, (PV.sc (.int .i64 y0_1))])]).bind fun t2 => if y1.length + ([(PV.agg [(PV.sc (.string (((t2.headD default).fld 0).toStr))), (t2.headD default).fld 1])]).length ≤ 3518437208883 then (spec_l13Patterns.l0 N n (IntKind.i64.wrap (x4 - 1)) y0_0 (((t2.tail.headD default).fld 1).toInt) (y1 ++ ([(PV.agg [(PV.sc (.string (((t2.headD default).fld 0).toStr))), (t2.headD default).fld 1])]))) else none) else ((spec_l1Rd_pick.f N [(PV.agg [y0_0, (PV.sc (.int .i64 y0_1))]), (PV.sc (.int .i64 20))]).bind fun t3 => if decide (((t3.headD default).toInt) = 0) = true then ((spec_l13AnyPattern.f N [(PV.agg [y0_0, (PV.sc (.int .i64 (((t3.tail.headD default).fld 1).toInt)))])]).bind fun t4 => if y1.length + ([(PV.agg [(PV.sc (.string (((t4.headD default).fld 0).toStr))), (t4.headD default).fld 1])]).length ≤ 3518437208883 then ((spec_l1Rd_pick.f N [(PV.agg [y0_0, (PV.sc (.int .i64 (((t4.tail.headD default).fld 1).toInt)))]), (PV.sc (.int .i64 30))]).bind fun t5 => if decide (((t5.headD default).toInt) = 0) = true then (spec_l13Patterns.l1 N N y0_0 (((t5.tail.headD default).fld 1).toInt) (y1 ++ ([(PV.agg [(PV.sc (.string (((t4.headD default).fld 0).toStr))), (t4.headD default).fld 1])]))) else (some [(PV.list (y1 ++ ([(PV.agg [(PV.sc (.string (((t4.headD default).fld 0).toStr))), (t4.headD default).fld 1])]))), (PV.agg [y0_0, (PV.sc (.int .i64 (((t5.tail.headD default).fld 1).toInt)))])])) else none) else ((spec_l1Rd_pick.f N [(PV.agg [y0_0, (PV.sc (.int .i64 (((t3.tail.headD default).fld 1).toInt)))]), (PV.sc (.int .i64 30))]).bind fun t6 => if decide (((t6.headD default).toInt) = 0) = true then (spec_l13Patterns.l1 N N y0_0 (((t6.tail.headD default).fld 1).toInt) y1) else (some [(PV.list y1), (PV.agg [y0_0, (PV.sc (.int .i64 (((t6.tail.headD default).fld 1).toInt)))])]))) := by kernel_rfl
theorem spec_l13Patterns.l1_eq (N : Nat) (n : Nat) (y0_0 : PV) (y0_1 : Int) (y1 : List PV) : spec_l13Patterns.l1 N (n + 1) y0_0 y0_1 y1 = (spec_l1Rd_pick.f N [(PV.agg [y0_0, (PV.sc (.int .i64 y0_1))]), (PV.sc (.int .i64 2))]).bind fun t7 => if decide ((y1.length : Int) < (IntKind.i64.wrap (20 + ((t7.headD default).toInt)))) = true then ((spec_l13Pattern.f N [(PV.agg [y0_0, (PV.sc (.int .i64 (((t7.tail.headD default).fld 1).toInt)))])]).bind fun t8 => if y1.length + ([(PV.agg [(PV.sc (.string (((t8.headD default).fld 0).toStr))), (t8.headD default).fld 1])]).length ≤ 3518437208883 then (spec_l13Patterns.l1 N n y0_0 (((t8.tail.headD default).fld 1).toInt) (y1 ++ ([(PV.agg [(PV.sc (.string (((t8.headD default).fld 0).toStr))), (t8.headD default).fld 1])]))) else none) else (some [(PV.list y1), (PV.agg [y0_0, (PV.sc (.int .i64 (((t7.tail.headD default).fld 1).toInt)))])]) := by kernel_rfl
noncomputable def spec_l13Patterns.S (N : Nat) : ASpec := ⟨[(41, .box)], [(26, .own)], spec_l13Patterns.f N⟩
theorem spec_l13Patterns.ok (N : Nat) : FnOk Tryd.prog 21 (spec_l13Patterns.S N) := fnOk_of (E := spec_l13Patterns.E N) mix Tryd.func21 (by kernel_rfl) (by kernel_rfl) (by kernel_rfl) (lk_ok (all_cons (spec_l1Rd_pick.ok N) (all_cons (spec_l13Pattern.ok N) (all_cons (spec_l13AnyPattern.ok N) all_nil)))) (by kernel_rfl) (fun _ _ h => h)

/-! ### spec_l1Least: function 42, loop.example/medlar/spec.l1Least -/
noncomputable def spec_l1Least.E (N : Nat) : Env := ⟨lk [], nzk [], N, []⟩
noncomputable def spec_l1Least.f (N : Nat) (a : List PV) : Option Res := run Tryd.prog (spec_l1Least.E N) Tryd.f42 [(3, .ro), (3, .ro)] [(3, .val)] a
theorem spec_l1Least.f_eq (N : Nat) (a0 : PV) (a1 : PV) : spec_l1Least.f N [a0, a1] = if decide (a0.toInt < a1.toInt) = true then (some [(PV.sc (.int .i64 a0.toInt))]) else (some [(PV.sc (.int .i64 a1.toInt))]) := by kernel_rfl
noncomputable def spec_l1Least.S (N : Nat) : ASpec := ⟨[(3, .ro), (3, .ro)], [(3, .val)], spec_l1Least.f N⟩
theorem spec_l1Least.ok (N : Nat) : FnOk Tryd.prog 42 (spec_l1Least.S N) := fnOk_of (E := spec_l1Least.E N) mix Tryd.func42 (by kernel_rfl) (by kernel_rfl) (by kernel_rfl) (lk_ok all_nil) (by kernel_rfl) (fun _ _ h => h)

/-! ### spec_l13Word: function 22, loop.example/medlar/spec.l13Word -/
noncomputable def spec_l13Word.E (N : Nat) : Env := ⟨lk [(31, spec_l1Rd_pick.S N), (20, spec_l1Rd_of.S N), (42, spec_l1Least.S N)], nzk [(4, ⟨[1, 2, 5, 6, 7, 8, 9, 10, 11, 12, 13, 14, 15, 16, 17, 18, 19, 20, 21, 22, 23, 24, 25, 26, 27], []⟩)], N, [(true, 58)]⟩
noncomputable def spec_l13Word.f (N : Nat) (a : List PV) : Option Res := run Tryd.prog (spec_l13Word.E N) Tryd.f22 [(41, .box)] [(9, .val)] a
noncomputable def spec_l13Word.l0 (N : Nat) (n : Nat) (x3 : ByteArray) (x4 : Int) (y0_0 : PV) (y0_1 : Int) : Option Res := loopAt Tryd.prog (spec_l13Word.E N) Tryd.f22 [(9, .val)] [1, 0, 1, 0, 1, 0, 1, 0] [] n ⟨mkSlots 28 [(0, .ptr 0 []), (3, .sc (.string x3)), (4, .sc (.int .i64 x4))], ohOf [.box 58 (.agg 58 [.con 0 22 y0_0, .sc (.int .i64 y0_1)])]⟩
theorem spec_l13Word.f_eq (N : Nat) (a0 : PV) : spec_l13Word.f N [a0] = (spec_l1Rd_pick.f N [(PV.agg [a0.fld 0, (PV.sc (.int .i64 ((a0.fld 1).toInt)))]), (PV.sc (.int .i64 3))]).bind fun t1 => if decide (((t1.headD default).toInt) = 0) = true then ((spec_l1Rd_pick.f N [(PV.agg [a0.fld 0, (PV.sc (.int .i64 (((t1.tail.headD default).fld 1).toInt)))]), (PV.sc (.int .i64 5))]).bind fun t2 => spec_l13Word.l0 N N (ByteArray.mk #[]) (IntKind.i64.wrap (1 + ((t2.headD default).toInt))) (a0.fld 0) (((t2.tail.headD default).fld 1).toInt)) else ((spec_l1Rd_of.f N [(PV.agg [a0.fld 0, (PV.sc (.int .i64 (((t1.tail.headD default).fld 1).toInt)))]), (PV.list ([(PV.sc (.string (ByteArray.mk #[99, 97, 116]))), (PV.sc (.string (ByteArray.mk #[99, 97, 116, 115]))), (PV.sc (.string (ByteArray.mk #[97, 99, 116]))), (PV.sc (.string (ByteArray.mk #[100, 111]))), (PV.sc (.string (ByteArray.mk #[100, 111, 105, 110, 103]))), (PV.sc (.string (ByteArray.mk #[103, 111]))), (PV.sc (.string (ByteArray.mk #[117, 110, 100, 111]))), (PV.sc (.string (ByteArray.mk #[116, 114, 121]))), (PV.sc (.string (ByteArray.mk #[116, 114, 105, 101, 115]))), (PV.sc (.string (ByteArray.mk #[97]))), (PV.sc (.string (ByteArray.mk #[98, 97, 107, 101]))), (PV.sc (.string (ByteArray.mk #[98, 97, 107, 105, 110, 103]))), (PV.sc (.string (ByteArray.mk #[116, 97, 99, 116]))), (PV.sc (.string (ByteArray.mk #[99, 97, 114, 116]))), (PV.sc (.string (ByteArray.mk #[97, 98, 99, 97, 98, 99, 97, 98, 99, 97, 98, 99])))]))]).bind fun t3 => some [(PV.sc (.string ((t3.headD default).toStr))), (PV.agg [a0.fld 0, (PV.sc (.int .i64 (((t3.tail.headD default).fld 1).toInt)))])]) := by kernel_rfl
theorem spec_l13Word.l0_eq (N : Nat) (n : Nat) (x3 : ByteArray) (x4 : Int) (y0_0 : PV) (y0_1 : Int) : spec_l13Word.l0 N (n + 1) x3 x4 y0_0 y0_1 = if decide (0 < x4) = true then ((spec_l1Rd_of.f N [(PV.agg [y0_0, (PV.sc (.int .i64 y0_1))]), (PV.list ([(PV.sc (.string (ByteArray.mk #[97]))), (PV.sc (.string (ByteArray.mk #[98]))), (PV.sc (.string (ByteArray.mk #[99]))), (PV.sc (.string (ByteArray.mk #[97, 98]))), (PV.sc (.string (ByteArray.mk #[116])))]))]).bind fun t4 => if x3.size + ((t4.headD default).toStr).size ≤ 9223372036854775807 then (spec_l13Word.l0 N n (x3 ++ ((t4.headD default).toStr)) (IntKind.i64.wrap (x4 - 1)) y0_0 (((t4.tail.headD default).fld 1).toInt)) else none) else ((spec_l1Least.f N [(PV.sc (.int .i64 (x3.size : Int))), (PV.sc (.int .i64 12))]).bind fun t5 => if 0 ≤ ((t5.headD default).toInt) then (if ((t5.headD default).toInt) ≤ (x3.size : Int) then (some [(PV.sc (.string (x3.extract 0 (((t5.headD default).toInt).toNat)))), (PV.agg [y0_0, (PV.sc (.int .i64 y0_1))])]) else none) else none) := by kernel_rfl
noncomputable def spec_l13Word.S (N : Nat) : ASpec := ⟨[(41, .box)], [(9, .val)], spec_l13Word.f N⟩
theorem spec_l13Word.ok (N : Nat) : FnOk Tryd.prog 22 (spec_l13Word.S N) := fnOk_of (E := spec_l13Word.E N) mix Tryd.func22 (by kernel_rfl) (by kernel_rfl) (by kernel_rfl) (lk_ok (all_cons (spec_l1Rd_pick.ok N) (all_cons (spec_l1Rd_of.ok N) (all_cons (spec_l1Least.ok N) all_nil)))) (by kernel_rfl) (fun _ _ h => h)

/-! ### spec_l9Patterns: function 34, loop.example/medlar/spec.l9Patterns -/
noncomputable def spec_l9Patterns.E (N : Nat) : Env := ⟨lk [(49, spec_PatternOk.S N)], nzk [(2, ⟨[1, 2, 4, 5, 6, 7, 8, 9, 10, 11, 12, 13, 14, 15, 16, 17, 18], []⟩)], N, []⟩
noncomputable def spec_l9Patterns.f (N : Nat) (a : List PV) : Option Res := run Tryd.prog (spec_l9Patterns.E N) Tryd.f34 [(26, .ro)] [(4, .val)] a
noncomputable def spec_l9Patterns.l0 (N : Nat) (n : Nat) (x0 : PV) (x3 : Int) : Option Res := loopAt Tryd.prog (spec_l9Patterns.E N) Tryd.f34 [(4, .val)] [1, 0, 1, 0] [] n ⟨mkSlots 19 [(0, .ro 26 x0), (3, .sc (.int .i64 x3))], ohOf []⟩
theorem spec_l9Patterns.f_eq (N : Nat) (a0 : PV) : spec_l9Patterns.f N [a0] = spec_l9Patterns.l0 N N a0 0 := by kernel_rfl
theorem spec_l9Patterns.l0_eq (N : Nat) (n : Nat) (x0 : PV) (x3 : Int) : spec_l9Patterns.l0 N (n + 1) x0 x3 = if decide (x3 < (x0.items.length : Int)) = true then (if 0 ≤ x3 then (if x3 < (x0.items.length : Int) then ((spec_PatternOk.f N [(PV.agg [(PV.sc (.string (((x0.elem x3.toNat).fld 0).toStr))), (x0.elem x3.toNat).fld 1])]).bind fun t1 => if (!((t1.headD default).toBool)) = true then (some [(PV.sc (.bool false))]) else (spec_l9Patterns.l0 N n x0 (IntKind.i64.wrap (x3 + 1)))) else none) else none) else (some [(PV.sc (.bool (decide ((x0.items.length : Int) ≤ 20))))]) := by kernel_rfl
noncomputable def spec_l9Patterns.S (N : Nat) : ASpec := ⟨[(26, .ro)], [(4, .val)], spec_l9Patterns.f N⟩
theorem spec_l9Patterns.ok (N : Nat) : FnOk Tryd.prog 34 (spec_l9Patterns.S N) := fnOk_of (E := spec_l9Patterns.E N) mix Tryd.func34 (by kernel_rfl) (by kernel_rfl) (by kernel_rfl) (lk_ok (all_cons (spec_PatternOk.ok N) all_nil)) (by kernel_rfl) (fun _ _ h => h)

/-! ### spec_l1Letters: function 45, loop.example/medlar/spec.l1Letters -/
noncomputable def spec_l1Letters.E (N : Nat) : Env := ⟨lk [], nzk [(2, ⟨[2, 3, 4, 6, 7, 8, 9, 10, 11, 12, 13, 14, 15, 16, 17, 18, 19, 20, 21, 22, 23, 24, 25], []⟩)], N, []⟩
noncomputable def spec_l1Letters.f (N : Nat) (a : List PV) : Option Res := run Tryd.prog (spec_l1Letters.E N) Tryd.f45 [(9, .ro), (3, .ro)] [(4, .val)] a
noncomputable def spec_l1Letters.l0 (N : Nat) (n : Nat) (x0 : ByteArray) (x1 : Int) (x5 : Int) : Option Res := loopAt Tryd.prog (spec_l1Letters.E N) Tryd.f45 [(4, .val)] [1, 0, 1, 0] [] n ⟨mkSlots 26 [(0, .sc (.string x0)), (1, .sc (.int .i64 x1)), (5, .sc (.int .i64 x5))], ohOf []⟩
theorem spec_l1Letters.f_eq (N : Nat) (a0 : PV) (a1 : PV) : spec_l1Letters.f N [a0, a1] = spec_l1Letters.l0 N N a0.toStr a1.toInt 0 := by kernel_rfl
theorem spec_l1Letters.l0_eq (N : Nat) (n : Nat) (x0 : ByteArray) (x1 : Int) (x5 : Int) : spec_l1Letters.l0 N (n + 1) x0 x1 x5 = if decide (x5 < (x0.size : Int)) = true then (if 0 ≤ x5 then (if x5 < (x0.size : Int) then (if decide (((x0.get! x5.toNat).toNat : Int) < 97) = false then (if 0 ≤ x5 then (if x5 < (x0.size : Int) then (if decide (122 < ((x0.get! x5.toNat).toNat : Int)) = true then (some [(PV.sc (.bool false))]) else (spec_l1Letters.l0 N n x0 x1 (IntKind.i64.wrap (x5 + 1)))) else none) else none) else (some [(PV.sc (.bool false))])) else none) else none) else (some [(PV.sc (.bool (decide ((x0.size : Int) ≤ x1))))]) := by kernel_rfl
noncomputable def spec_l1Letters.S (N : Nat) : ASpec := ⟨[(9, .ro), (3, .ro)], [(4, .val)], spec_l1Letters.f N⟩
theorem spec_l1Letters.ok (N : Nat) : FnOk Tryd.prog 45 (spec_l1Letters.S N) := fnOk_of (E := spec_l1Letters.E N) mix Tryd.func45 (by kernel_rfl) (by kernel_rfl) (by kernel_rfl) (lk_ok all_nil) (by kernel_rfl) (fun _ _ h => h)

/-! ### spec_l1Word: function 26, loop.example/medlar/spec.l1Word -/
noncomputable def spec_l1Word.E (N : Nat) : Env := ⟨lk [(45, spec_l1Letters.S N)], nzk [], N, []⟩
noncomputable def spec_l1Word.f (N : Nat) (a : List PV) : Option Res := run Tryd.prog (spec_l1Word.E N) Tryd.f26 [(9, .ro)] [(4, .val)] a
theorem spec_l1Word.f_eq (N : Nat) (a0 : PV) : spec_l1Word.f N [a0] = if decide (0 < (a0.toStr.size : Int)) = true then ((spec_l1Letters.f N [(PV.sc (.string a0.toStr)), (PV.sc (.int .i64 12))]).bind fun t1 => some [(PV.sc (.bool ((t1.headD default).toBool)))]) else (some [(PV.sc (.bool false))]) := by kernel_rfl
noncomputable def spec_l1Word.S (N : Nat) : ASpec := ⟨[(9, .ro)], [(4, .val)], spec_l1Word.f N⟩
theorem spec_l1Word.ok (N : Nat) : FnOk Tryd.prog 26 (spec_l1Word.S N) := fnOk_of (E := spec_l1Word.E N) mix Tryd.func26 (by kernel_rfl) (by kernel_rfl) (by kernel_rfl) (lk_ok (all_cons (spec_l1Letters.ok N) all_nil)) (by kernel_rfl) (fun _ _ h => h)

/-! ### spec_l9Marks: function 62, loop.example/medlar/spec.l9Marks -/
noncomputable def spec_l9Marks.E (N : Nat) : Env := ⟨lk [], nzk [(3, ⟨[2, 3, 4, 7, 8, 9, 10, 11, 12, 13, 14, 15, 16, 17, 18, 19, 20, 21, 22, 23, 24, 25, 26, 27, 28, 29, 30, 31, 32, 33, 34, 35, 36, 37, 38, 39, 40, 41, 42, 43, 44, 45, 46, 47, 48, 49, 50, 51, 52, 53, 54, 55, 56, 57, 58, 59, 60, 61, 62, 63, 64, 65, 66, 67, 68, 69, 70, 71, 72, 73, 74, 75, 76, 77, 78, 79, 80, 81], []⟩), (7, ⟨[2, 3, 4, 9, 10, 11, 12, 13, 14, 15, 16, 17, 18, 19, 20, 21, 22, 23, 24, 25, 26, 27, 28, 29, 30, 31, 32, 33, 34, 35, 36, 37, 38, 39, 40, 41, 42, 43, 44, 45, 46, 47, 48, 49, 50, 51, 52, 53, 54, 55, 56, 57, 58, 59, 60, 61, 62, 63, 64, 65, 66, 67, 68, 69, 70, 71, 72, 73, 74, 75, 76, 77, 78, 79, 80, 81], []⟩), (10, ⟨[2, 3, 4, 10, 11, 12, 13, 14, 15, 16, 17, 18, 19, 20, 21, 22, 23, 24, 25, 26, 27, 28, 29, 30, 31, 32, 33, 34, 35, 36, 37, 38, 39, 40, 41, 42, 43, 44, 45, 46, 47, 48, 49, 50, 51, 52, 53, 54, 55, 56, 57, 58, 59, 60, 61, 62, 63, 64, 65, 66, 67, 68, 69, 70, 71, 72, 73, 74, 75, 76, 77, 78, 79, 80, 81], []⟩)], N, []⟩
noncomputable def spec_l9Marks.f (N : Nat) (a : List PV) : Option Res := run Tryd.prog (spec_l9Marks.E N) Tryd.f62 [(26, .ro), (9, .ro)] [(31, .own)] a
noncomputable def spec_l9Marks.l0 (N : Nat) (n : Nat) (x0 : PV) (x1 : ByteArray) (x6 : Int) (y0 : List PV) : Option Res := loopAt Tryd.prog (spec_l9Marks.E N) Tryd.f62 [(31, .own)] [1, 1, 0, 1, 0] [] n ⟨mkSlots 82 [(0, .ro 26 x0), (1, .sc (.string x1)), (5, .ref 0 []), (6, .sc (.int .i64 x6))], ohOf [.row 31 (PV.list y0)]⟩
noncomputable def spec_l9Marks.l1 (N : Nat) (m0 : Nat) (n : Nat) (x0 : PV) (x1 : ByteArray) (x6 : Int) (x7 : Int) (x8 : Int) (y0 : List PV) : Option Res := loopAt Tryd.prog (spec_l9Marks.E N) Tryd.f62 [(31, .own)] [1, 1, 0, 1, 0, 0, 1, 0, 0, 1, 1, 0] [m0] n ⟨mkSlots 82 [(0, .ro 26 x0), (1, .sc (.string x1)), (5, .ref 0 []), (6, .sc (.int .i64 x6)), (7, .sc (.int .i64 x7)), (8, .sc (.int .i64 x8))], ohOf [.row 31 (PV.list y0)]⟩
noncomputable def spec_l9Marks.l2 (N : Nat) (m0 : Nat) (m1 : Nat) (n : Nat) (x0 : PV) (x1 : ByteArray) (x6 : Int) (x7 : Int) (x8 : Int) (x9 : Int) (y0 : List PV) : Option Res := loopAt Tryd.prog (spec_l9Marks.E N) Tryd.f62 [(31, .own)] [1, 1, 0, 1, 0, 0, 1, 0, 0, 1, 1, 0, 0, 1, 0, 0, 1, 0] [m0, m1] n ⟨mkSlots 82 [(0, .ro 26 x0), (1, .sc (.string x1)), (5, .ref 0 []), (6, .sc (.int .i64 x6)), (7, .sc (.int .i64 x7)), (8, .sc (.int .i64 x8)), (9, .sc (.int .i64 x9))], ohOf [.row 31 (PV.list y0)]⟩
theorem spec_l9Marks.f_eq (N : Nat) (a0 : PV) (a1 : PV) : spec_l9Marks.f N [a0, a1] = if 0 ≤ (IntKind.i64.wrap ((a1.toStr.size : Int) + 1)) then (if (IntKind.i64.wrap ((a1.toStr.size : Int) + 1)) ≤ (IntKind.i64.wrap ((a1.toStr.size : Int) + 1)) then (if (IntKind.i64.wrap ((a1.toStr.size : Int) + 1)).toNat ≤ 35184372088832 then (spec_l9Marks.l0 N N a0 a1.toStr 0 (List.replicate (IntKind.i64.wrap ((a1.toStr.size : Int) + 1)).toNat (PV.sc (.int .i64 0)))) else none) else none) else none := by kernel_rfl
theorem spec_l9Marks.l0_eq (N : Nat) (n : Nat) (x0 : PV) (x1 : ByteArray) (x6 : Int) (y0 : List PV) : spec_l9Marks.l0 N (n + 1) x0 x1 x6 y0 = if decide (x6 < (x0.items.length : Int)) = true then (if 0 ≤ x6 then (if x6 < (x0.items.length : Int) then (spec_l9Marks.l1 N n N x0 x1 x6 ((((x0.elem x6.toNat).fld 0).toStr).size : Int) 0 y0) else none) else none) else (some [(PV.list y0)]) := by kernel_rfl
theorem spec_l9Marks.l1_eq (N : Nat) (m0 : Nat) (n : Nat) (x0 : PV) (x1 : ByteArray) (x6 : Int) (x7 : Int) (x8 : Int) (y0 : List PV) : spec_l9Marks.l1 N m0 (n + 1) x0 x1 x6 x7 x8 y0 = if decide ((IntKind.i64.wrap (x8 + x7)) ≤ (x1.size : Int)) = true then (spec_l9Marks.l2 N m0 n N x0 x1 x6 x7 x8 0 y0) else (spec_l9Marks.l0 N m0 x0 x1 (IntKind.i64.wrap (x6 + 1)) y0) := by kernel_rfl
theorem spec_l9Marks.l2_eq (N : Nat) (m0 : Nat) (m1 : Nat) (n : Nat) (x0 : PV) (x1 : ByteArray) (x6 : Int) (x7 : Int) (x8 : Int) (x9 : Int) (y0 : List PV) : spec_l9Marks.l2 N m0 m1 (n + 1) x0 x1 x6 x7 x8 x9 y0 = if decide (x9 ≤ x7) = true then (if 0 ≤ x8 then (if x8 ≤ (IntKind.i64.wrap (x8 + x7)) then (if (IntKind.i64.wrap (x8 + x7)) ≤ (x1.size : Int) then (if 0 ≤ x6 then (if x6 < (x0.items.length : Int) then (if decide ((x1.extract x8.toNat ((IntKind.i64.wrap (x8 + x7)).toNat)).toList = (((x0.elem x6.toNat).fld 0).toStr).toList) = true then (if 0 ≤ x6 then (if x6 < (x0.items.length : Int) then (if 0 ≤ x9 then (if x9 < ((((x0.elem x6.toNat).fld 1).items).length : Int) then (if 0 ≤ (IntKind.i64.wrap (x8 + x9)) then (if (IntKind.i64.wrap (x8 + x9)) < (y0.length : Int) then (if decide ((((PV.list y0).elem ((IntKind.i64.wrap (x8 + x9)).toNat)).toInt) < ((((x0.elem x6.toNat).fld 1).elem x9.toNat).toInt)) = true then (if 0 ≤ x6 then (if x6 < (x0.items.length : Int) then (if 0 ≤ x9 then (if x9 < ((((x0.elem x6.toNat).fld 1).items).length : Int) then (if 0 ≤ (IntKind.i64.wrap (x8 + x9)) then (if (IntKind.i64.wrap (x8 + x9)) < (y0.length : Int) then (spec_l9Marks.l2 N m0 m1 n x0 x1 x6 x7 x8 (IntKind.i64.wrap (x9 + 1)) (y0.set ((IntKind.i64.wrap (x8 + x9)).toNat) (PV.sc (.int .i64 ((((x0.elem x6.toNat).fld 1).elem x9.toNat).toInt))))) else none) else none) else none) else none) else none) else none) else (spec_l9Marks.l2 N m0 m1 n x0 x1 x6 x7 x8 (IntKind.i64.wrap (x9 + 1)) y0)) else none) else none) else none) else none) else none) else none) else (spec_l9Marks.l1 N m0 m1 x0 x1 x6 x7 (IntKind.i64.wrap (x8 + 1)) y0)) else none) else none) else none) else none) else none) else (spec_l9Marks.l1 N m0 m1 x0 x1 x6 x7 (IntKind.i64.wrap (x8 + 1)) y0) := by kernel_rfl
noncomputable def spec_l9Marks.S (N : Nat) : ASpec := ⟨[(26, .ro), (9, .ro)], [(31, .own)], spec_l9Marks.f N⟩
theorem spec_l9Marks.ok (N : Nat) : FnOk Tryd.prog 62 (spec_l9Marks.S N) := fnOk_of (E := spec_l9Marks.E N) mix Tryd.func62 (by kernel_rfl) (by kernel_rfl) (by kernel_rfl) (lk_ok all_nil) (by kernel_rfl) (fun _ _ h => h)

/-! ### spec_l9At: function 44, loop.example/medlar/spec.l9At -/
noncomputable def spec_l9At.E (N : Nat) : Env := ⟨lk [(62, spec_l9Marks.S N)], nzk [(4, ⟨[0, 2, 3, 4, 8, 9, 10, 11, 12, 13, 14, 15, 16, 17, 18, 19, 20, 21, 22, 23, 24, 25, 26, 27, 28, 29, 30, 31, 32], [(5, 31)]⟩)], N, []⟩
noncomputable def spec_l9At.f (N : Nat) (a : List PV) : Option Res := run Tryd.prog (spec_l9At.E N) Tryd.f44 [(26, .ro), (9, .ro)] [(31, .own)] a
noncomputable def spec_l9At.l0 (N : Nat) (n : Nat) (x1 : ByteArray) (x7 : Int) (y0 : List PV) (y1 : PV) : Option Res := loopAt Tryd.prog (spec_l9At.E N) Tryd.f44 [(31, .own)] [1, 1, 1, 0, 1, 0] [] n ⟨mkSlots 33 [(1, .sc (.string x1)), (5, .ref 0 []), (6, .ref 1 []), (7, .sc (.int .i64 x7))], ohOf [.row 31 (PV.list y0), .row 31 y1]⟩
theorem spec_l9At.f_eq (N : Nat) (a0 : PV) (a1 : PV) : spec_l9At.f N [a0, a1] = if (ByteArray.mk #[46]).size + a1.toStr.size ≤ 9223372036854775807 then (if ((ByteArray.mk #[46]) ++ a1.toStr).size + (ByteArray.mk #[46]).size ≤ 9223372036854775807 then ((spec_l9Marks.f N [a0, (PV.sc (.string (((ByteArray.mk #[46]) ++ a1.toStr) ++ (ByteArray.mk #[46]))))]).bind fun t1 => spec_l9At.l0 N N a1.toStr 2 [] (t1.headD default)) else none) else none := by kernel_rfl
theorem spec_l9At.l0_eq (N : Nat) (n : Nat) (x1 : ByteArray) (x7 : Int) (y0 : List PV) (y1 : PV) : spec_l9At.l0 N (n + 1) x1 x7 y0 y1 = if decide (x7 ≤ (IntKind.i64.wrap ((x1.size : Int) - 2))) = true then (if 0 ≤ (IntKind.i64.wrap (x7 + 1)) then (if (IntKind.i64.wrap (x7 + 1)) < (y1.items.length : Int) then (if 2 = 0 then none else (if decide ((Int.tmod ((y1.elem ((IntKind.i64.wrap (x7 + 1)).toNat)).toInt) 2) = 1) = true then (if y0.length + [(PV.sc (.int .i64 x7))].length ≤ 17592186044416 then (spec_l9At.l0 N n x1 (IntKind.i64.wrap (x7 + 1)) (y0 ++ [(PV.sc (.int .i64 x7))]) y1) else none) else (spec_l9At.l0 N n x1 (IntKind.i64.wrap (x7 + 1)) y0 y1))) else none) else none) else (some [(PV.list y0)]) := by kernel_rfl
noncomputable def spec_l9At.S (N : Nat) : ASpec := ⟨[(26, .ro), (9, .ro)], [(31, .own)], spec_l9At.f N⟩
theorem spec_l9At.ok (N : Nat) : FnOk Tryd.prog 44 (spec_l9At.S N) := fnOk_of (E := spec_l9At.E N) mix Tryd.func44 (by kernel_rfl) (by kernel_rfl) (by kernel_rfl) (lk_ok (all_cons (spec_l9Marks.ok N) all_nil)) (by kernel_rfl) (fun _ _ h => h)

/-! ### spec_SplitAt: function 25, loop.example/medlar/spec.SplitAt -/
noncomputable def spec_SplitAt.E (N : Nat) : Env := ⟨lk [(34, spec_l9Patterns.S N), (26, spec_l1Word.S N), (44, spec_l9At.S N)], nzk [], N, []⟩
noncomputable def spec_SplitAt.f (N : Nat) (a : List PV) : Option Res := run Tryd.prog (spec_SplitAt.E N) Tryd.f25 [(26, .ro), (9, .ro)] [(31, .own)] a
theorem spec_SplitAt.f_eq (N : Nat) (a0 : PV) (a1 : PV) : spec_SplitAt.f N [a0, a1] = (spec_l9Patterns.f N [a0]).bind fun t1 => if (!((t1.headD default).toBool)) = false then ((spec_l1Word.f N [(PV.sc (.string a1.toStr))]).bind fun t2 => if (!((t2.headD default).toBool)) = true then (some [(PV.list [])]) else ((spec_l9At.f N [a0, (PV.sc (.string a1.toStr))]).bind fun t3 => some [(t3.headD default)])) else (some [(PV.list [])]) := by kernel_rfl
noncomputable def spec_SplitAt.S (N : Nat) : ASpec := ⟨[(26, .ro), (9, .ro)], [(31, .own)], spec_SplitAt.f N⟩
theorem spec_SplitAt.ok (N : Nat) : FnOk Tryd.prog 25 (spec_SplitAt.S N) := fnOk_of (E := spec_SplitAt.E N) mix Tryd.func25 (by kernel_rfl) (by kernel_rfl) (by kernel_rfl) (lk_ok (all_cons (spec_l9Patterns.ok N) (all_cons (spec_l1Word.ok N) (all_cons (spec_l9At.ok N) all_nil)))) (by kernel_rfl) (fun _ _ h => h)

/-! ### spec_SplitText: function 11, loop.example/medlar/spec.SplitText -/
noncomputable def spec_SplitText.E (N : Nat) : Env := ⟨lk [(25, spec_SplitAt.S N)], nzk [(5, ⟨[0, 2, 3, 4, 9, 10, 11, 12, 13, 14, 15, 16, 17, 18, 19, 20, 21, 22, 23, 24, 25, 26, 27, 28, 29, 30, 31, 32, 33, 34, 35, 36], []⟩)], N, []⟩
noncomputable def spec_SplitText.f (N : Nat) (a : List PV) : Option Res := run Tryd.prog (spec_SplitText.E N) Tryd.f11 [(26, .ro), (9, .ro)] [(9, .val)] a
noncomputable def spec_SplitText.l0 (N : Nat) (n : Nat) (x1 : ByteArray) (x6 : ByteArray) (x7 : Int) (x8 : Int) (y0 : PV) : Option Res := loopAt Tryd.prog (spec_SplitText.E N) Tryd.f11 [(9, .val)] [1, 1, 1, 1, 0, 1, 0] [] n ⟨mkSlots 37 [(1, .sc (.string x1)), (5, .ref 0 []), (6, .sc (.string x6)), (7, .sc (.int .i64 x7)), (8, .sc (.int .i64 x8))], ohOf [.row 31 y0]⟩
theorem spec_SplitText.f_eq (N : Nat) (a0 : PV) (a1 : PV) : spec_SplitText.f N [a0, a1] = (spec_SplitAt.f N [a0, (PV.sc (.string a1.toStr))]).bind fun t1 => spec_SplitText.l0 N N a1.toStr (ByteArray.mk #[]) 0 0 (t1.headD default) := by kernel_rfl
theorem spec_SplitText.l0_eq (N : Nat) (n : Nat) (x1 : ByteArray) (x6 : ByteArray) (x7 : Int) (x8 : Int) (y0 : PV) : spec_SplitText.l0 N (n + 1) x1 x6 x7 x8 y0 = if decide (x8 < (y0.items.length : Int)) = true then (if 0 ≤ x8 then (if x8 < (y0.items.length : Int) then (if 0 ≤ x7 then (if x7 ≤ ((y0.elem x8.toNat).toInt) then (if ((y0.elem x8.toNat).toInt) ≤ (x1.size : Int) then (if x6.size + (x1.extract x7.toNat (((y0.elem x8.toNat).toInt).toNat)).size ≤ 9223372036854775807 then (if (x6 ++ (x1.extract x7.toNat (((y0.elem x8.toNat).toInt).toNat))).size + (ByteArray.mk #[45]).size ≤ 9223372036854775807 then (if 0 ≤ x8 then (if x8 < (y0.items.length : Int) then (spec_SplitText.l0 N n x1 ((x6 ++ (x1.extract x7.toNat (((y0.elem x8.toNat).toInt).toNat))) ++ (ByteArray.mk #[45])) ((y0.elem x8.toNat).toInt) (IntKind.i64.wrap (x8 + 1)) y0) else none) else none) else none) else none) else none) else none) else none) else none) else none) else (if 0 ≤ x7 then (if x7 ≤ (x1.size : Int) then (if x6.size + (x1.extract x7.toNat x1.size).size ≤ 9223372036854775807 then (some [(PV.sc (.string (x6 ++ (x1.extract x7.toNat x1.size))))]) else none) else none) else none) := by kernel_rfl
noncomputable def spec_SplitText.S (N : Nat) : ASpec := ⟨[(26, .ro), (9, .ro)], [(9, .val)], spec_SplitText.f N⟩
theorem spec_SplitText.ok (N : Nat) : FnOk Tryd.prog 11 (spec_SplitText.S N) := fnOk_of (E := spec_SplitText.E N) mix Tryd.func11 (by kernel_rfl) (by kernel_rfl) (by kernel_rfl) (lk_ok (all_cons (spec_SplitAt.ok N) all_nil)) (by kernel_rfl) (fun _ _ h => h)

/-! ### spec_DrawSplitBack: function 6, loop.example/medlar/spec.DrawSplitBack -/
noncomputable def spec_DrawSplitBack.E (N : Nat) : Env := ⟨lk [(19, spec_l1Open.S N), (21, spec_l13Patterns.S N), (22, spec_l13Word.S N), (11, spec_SplitText.S N), (20, spec_l1Rd_of.S N)], nzk [], N, []⟩
noncomputable def spec_DrawSplitBack.f (N : Nat) (a : List PV) : Option Res := run Tryd.prog (spec_DrawSplitBack.E N) Tryd.f6 [(22, .ro)] [(9, .val)] a
theorem spec_DrawSplitBack.f_eq (N : Nat) (a0 : PV) : spec_DrawSplitBack.f N [a0] = (spec_l1Open.f N [a0]).bind fun t1 => (spec_l13Patterns.f N [(PV.agg [(t1.headD default).fld 0, (PV.sc (.int .i64 (((t1.headD default).fld 1).toInt)))])]).bind fun t2 => (spec_l13Word.f N [(PV.agg [(t1.headD default).fld 0, (PV.sc (.int .i64 (((t2.tail.headD default).fld 1).toInt)))])]).bind fun t3 => (spec_SplitText.f N [(t2.headD default), (PV.sc (.string ((t3.headD default).toStr)))]).bind fun t4 => (spec_l1Rd_of.f N [(PV.agg [(t1.headD default).fld 0, (PV.sc (.int .i64 (((t3.tail.headD default).fld 1).toInt)))]), (PV.list ([(PV.sc (.string (ByteArray.mk #[]))), (PV.sc (.string (ByteArray.mk #[45]))), (PV.sc (.string (ByteArray.mk #[117, 110, 45, 100, 111]))), (PV.sc (.string (ByteArray.mk #[97, 45, 45, 98]))), (PV.sc (.string ((t4.headD default).toStr)))]))]).bind fun t5 => some [(PV.sc (.string ((t5.headD default).toStr)))] := by kernel_rfl
noncomputable def spec_DrawSplitBack.S (N : Nat) : ASpec := ⟨[(22, .ro)], [(9, .val)], spec_DrawSplitBack.f N⟩
theorem spec_DrawSplitBack.ok (N : Nat) : FnOk Tryd.prog 6 (spec_DrawSplitBack.S N) := fnOk_of (E := spec_DrawSplitBack.E N) mix Tryd.func6 (by kernel_rfl) (by kernel_rfl) (by kernel_rfl) (lk_ok (all_cons (spec_l1Open.ok N) (all_cons (spec_l13Patterns.ok N) (all_cons (spec_l13Word.ok N) (all_cons (spec_SplitText.ok N) (all_cons (spec_l1Rd_of.ok N) all_nil)))))) (by kernel_rfl) (fun _ _ h => h)

def lays155_ren : Go.Shelf.Ren := ⟨fun | 155 => 23 | 154 => 43 | 138 => 56 | 165 => 57 | 143 => 58 | 166 => 59 | 197 => 60 | 169 => 61 | 195 => 65 | 218 => 66 | 240 => 67 | 241 => 68 | 219 => 69 | 260 => 70 | 276 => 72 | 277 => 73 | 217 => 74 | 225 => 75 | 224 => 76 | 267 => 77 | 266 => 78 | 314 => 79 | n => n, fun | 9 => 9 | 3 => 3 | 4 => 4 | 72 => 71 | 0 => 0 | 76 => 75 | 105 => 77 | 21 => 21 | 5 => 5 | 70 => 69 | 20 => 20 | 37 => 22 | 75 => 74 | 127 => 84 | 164 => 86 | 46 => 89 | 119 => 90 | 139 => 93 | 138 => 92 | 146 => 95 | 51 => 94 | 80 => 79 | n => n, fun | 1 => 0 | 3 => 1 | 4 => 2 | n => n⟩
theorem lays155 : Go.Proofs.Lays.n155 Tryd.prog lays155_ren := {
  mixed := by kernel_rfl
  f138 := Tryd.func56.trans (congrArg some (by kernel_rfl))
  f143 := Tryd.func58.trans (congrArg some (by kernel_rfl))
  f154 := Tryd.func43.trans (congrArg some (by kernel_rfl))
  f155 := Tryd.func23.trans (congrArg some (by kernel_rfl))
  f165 := Tryd.func57.trans (congrArg some (by kernel_rfl))
  f166 := Tryd.func59.trans (congrArg some (by kernel_rfl))
  f169 := Tryd.func61.trans (congrArg some (by kernel_rfl))
  f195 := Tryd.func65.trans (congrArg some (by kernel_rfl))
  f197 := Tryd.func60.trans (congrArg some (by kernel_rfl))
  f217 := Tryd.func74.trans (congrArg some (by kernel_rfl))
  f218 := Tryd.func66.trans (congrArg some (by kernel_rfl))
  f219 := Tryd.func69.trans (congrArg some (by kernel_rfl))
  f224 := Tryd.func76.trans (congrArg some (by kernel_rfl))
  f225 := Tryd.func75.trans (congrArg some (by kernel_rfl))
  f240 := Tryd.func67.trans (congrArg some (by kernel_rfl))
  f241 := Tryd.func68.trans (congrArg some (by kernel_rfl))
  f260 := Tryd.func70.trans (congrArg some (by kernel_rfl))
  f266 := Tryd.func78.trans (congrArg some (by kernel_rfl))
  f267 := Tryd.func77.trans (congrArg some (by kernel_rfl))
  f276 := Tryd.func72.trans (congrArg some (by kernel_rfl))
  f277 := Tryd.func73.trans (congrArg some (by kernel_rfl))
  f314 := Tryd.func79.trans (congrArg some (by kernel_rfl))
  t0 := Tryd.underlying0
  a0 := Tryd.isAgg0
  z0 := Tryd.sizeOf0
  v0 := Tryd.zeroValue0
  t3 := Tryd.underlying3
  a3 := Tryd.isAgg3
  z3 := Tryd.sizeOf3
  v3 := Tryd.zeroValue3
  t4 := Tryd.underlying4
  a4 := Tryd.isAgg4
  z4 := Tryd.sizeOf4
  v4 := Tryd.zeroValue4
  t5 := Tryd.underlying5
  a5 := Tryd.isAgg5
  z5 := Tryd.sizeOf5
  v5 := Tryd.zeroValue5
  t9 := Tryd.underlying9
  a9 := Tryd.isAgg9
  z9 := Tryd.sizeOf9
  v9 := Tryd.zeroValue9
  t20 := Tryd.underlying20
  a20 := Tryd.isAgg20
  z20 := Tryd.sizeOf20
  v20 := Tryd.zeroValue20
  t21 := Tryd.underlying21
  a21 := Tryd.isAgg21
  z21 := Tryd.sizeOf21
  v21 := Tryd.zeroValue21
  t37 := Tryd.underlying22
  a37 := Tryd.isAgg22
  z37 := Tryd.sizeOf22
  v37 := Tryd.zeroValue22
  t46 := Tryd.underlying89
  a46 := Tryd.isAgg89
  z46 := Tryd.sizeOf89
  v46 := Tryd.zeroValue89
  t51 := Tryd.underlying94
  a51 := Tryd.isAgg94
  z51 := Tryd.sizeOf94
  v51 := Tryd.zeroValue94
  t70 := Tryd.underlying69
  a70 := Tryd.isAgg69
  z70 := Tryd.sizeOf69
  v70 := Tryd.zeroValue69
  t72 := Tryd.underlying71
  a72 := Tryd.isAgg71
  z72 := Tryd.sizeOf71
  v72 := Tryd.zeroValue71
  t75 := Tryd.underlying74
  a75 := Tryd.isAgg74
  z75 := Tryd.sizeOf74
  v75 := Tryd.zeroValue74
  t76 := Tryd.underlying75
  a76 := Tryd.isAgg75
  z76 := Tryd.sizeOf75
  v76 := Tryd.zeroValue75
  t105 := Tryd.underlying77
  a105 := Tryd.isAgg77
  z105 := Tryd.sizeOf77
  v105 := Tryd.zeroValue77
  t119 := Tryd.underlying90
  a119 := Tryd.isAgg90
  z119 := Tryd.sizeOf90
  t127 := Tryd.underlying84
  a127 := Tryd.isAgg84
  z127 := Tryd.sizeOf84
  v127 := Tryd.zeroValue84
  t138 := Tryd.underlying92
  a138 := Tryd.isAgg92
  z138 := Tryd.sizeOf92
  v138 := Tryd.zeroValue92
  t139 := Tryd.underlying93
  a139 := Tryd.isAgg93
  z139 := Tryd.sizeOf93
  v139 := Tryd.zeroValue93
  t146 := Tryd.underlying95
  a146 := Tryd.isAgg95
  z146 := Tryd.sizeOf95
  v146 := Tryd.zeroValue95
  t164 := Tryd.underlying86
  a164 := Tryd.isAgg86
  z164 := Tryd.sizeOf86
  v164 := Tryd.zeroValue86
  g1 := by kernel_rfl
  g3 := by kernel_rfl
  g4 := by kernel_rfl }

theorem Builder_Extra_155 : Builder.Extra Tryd.prog lays155_ren := {
  sizeBuilder := by kernel_rfl
  liesBuilder := by kernel_rfl
  t5 := Tryd.underlying5
  a5 := Tryd.isAgg5
  z5 := Tryd.sizeOf5
  v5 := Tryd.zeroValue5
  infoByte := by kernel_rfl
  cellsByte := by kernel_rfl
  sizeByte := by kernel_rfl
  neB5 := by decide }

/-! ### strings_ReplaceAll: function 23, strings.ReplaceAll, by the kit's contract, Lib4 Lib5 -/
noncomputable def strings_ReplaceAll.f (N : Nat) (a : List PV) : Option (List PV) := dropDen a
noncomputable def strings_ReplaceAll.S (N : Nat) : ASpec := ⟨[(9, .ro), (9, .ro), (9, .ro)], [(9, .val)], strings_ReplaceAll.f N⟩
theorem strings_ReplaceAll.ok (N : Nat) : FnOk Tryd.prog 23 (strings_ReplaceAll.S N) := fnOk_drop lays155 Builder_Extra_155 rfl ⟨_, Tryd.func23, by kernel_rfl, by kernel_rfl⟩ (fun ok w h => fact_of (g := 0) h (by simp)) (by kernel_rfl) (by kernel_rfl)

/-! ### impl_SplitBack: function 7, loop.example/medlar/impl.SplitBack -/
noncomputable def impl_SplitBack.E (N : Nat) : Env := ⟨lk [(23, strings_ReplaceAll.S N)], nzk [], N, []⟩
noncomputable def impl_SplitBack.f (N : Nat) (a : List PV) : Option Res := run Tryd.prog (impl_SplitBack.E N) Tryd.f7 [(9, .ro)] [(9, .val)] a
theorem impl_SplitBack.f_eq (N : Nat) (a0 : PV) : impl_SplitBack.f N [a0] = (strings_ReplaceAll.f N [(PV.sc (.string a0.toStr)), (PV.sc (.string (ByteArray.mk #[45]))), (PV.sc (.string (ByteArray.mk #[])))]).bind fun t1 => some [(PV.sc (.string ((t1.headD default).toStr)))] := by kernel_rfl
noncomputable def impl_SplitBack.S (N : Nat) : ASpec := ⟨[(9, .ro)], [(9, .val)], impl_SplitBack.f N⟩
theorem impl_SplitBack.ok (N : Nat) : FnOk Tryd.prog 7 (impl_SplitBack.S N) := fnOk_of (E := impl_SplitBack.E N) mix Tryd.func7 (by kernel_rfl) (by kernel_rfl) (by kernel_rfl) (lk_ok (all_cons (strings_ReplaceAll.ok N) all_nil)) (by kernel_rfl) (fun _ _ h => h)

/-! ### spec_SplitBack: function 8, loop.example/medlar/spec.SplitBack -/
noncomputable def spec_SplitBack.E (N : Nat) : Env := ⟨lk [], nzk [(3, ⟨[1, 2, 5, 6, 7, 8, 9, 10, 11, 12, 13, 14, 15, 16, 17, 18, 19, 20, 21, 22], []⟩)], N, []⟩
noncomputable def spec_SplitBack.f (N : Nat) (a : List PV) : Option Res := run Tryd.prog (spec_SplitBack.E N) Tryd.f8 [(9, .ro)] [(9, .val)] a
noncomputable def spec_SplitBack.l0 (N : Nat) (n : Nat) (x0 : ByteArray) (x3 : ByteArray) (x4 : Int) : Option Res := loopAt Tryd.prog (spec_SplitBack.E N) Tryd.f8 [(9, .val)] [1, 1, 0, 1, 0] [] n ⟨mkSlots 23 [(0, .sc (.string x0)), (3, .sc (.string x3)), (4, .sc (.int .i64 x4))], ohOf []⟩
theorem spec_SplitBack.f_eq (N : Nat) (a0 : PV) : spec_SplitBack.f N [a0] = spec_SplitBack.l0 N N a0.toStr (ByteArray.mk #[]) 0 := by kernel_rfl
theorem spec_SplitBack.l0_eq (N : Nat) (n : Nat) (x0 : ByteArray) (x3 : ByteArray) (x4 : Int) : spec_SplitBack.l0 N (n + 1) x0 x3 x4 = if decide (x4 < (x0.size : Int)) = true then (if 0 ≤ x4 then (if x4 < (x0.size : Int) then (if (!decide (((x0.get! x4.toNat).toNat : Int) = 45)) = true then (if 0 ≤ x4 then (if x4 ≤ (IntKind.i64.wrap (x4 + 1)) then (if (IntKind.i64.wrap (x4 + 1)) ≤ (x0.size : Int) then (if x3.size + (x0.extract x4.toNat ((IntKind.i64.wrap (x4 + 1)).toNat)).size ≤ 9223372036854775807 then (spec_SplitBack.l0 N n x0 (x3 ++ (x0.extract x4.toNat ((IntKind.i64.wrap (x4 + 1)).toNat))) (IntKind.i64.wrap (x4 + 1))) else none) else none) else none) else none) else (spec_SplitBack.l0 N n x0 x3 (IntKind.i64.wrap (x4 + 1)))) else none) else none) else (some [(PV.sc (.string x3))]) := by kernel_rfl
noncomputable def spec_SplitBack.S (N : Nat) : ASpec := ⟨[(9, .ro)], [(9, .val)], spec_SplitBack.f N⟩
theorem spec_SplitBack.ok (N : Nat) : FnOk Tryd.prog 8 (spec_SplitBack.S N) := fnOk_of (E := spec_SplitBack.E N) mix Tryd.func8 (by kernel_rfl) (by kernel_rfl) (by kernel_rfl) (lk_ok all_nil) (by kernel_rfl) (fun _ _ h => h)

/-! ### laws_FnSplitBack: function 3, loop.example/medlar/laws.FnSplitBack -/
noncomputable def laws_FnSplitBack.E (N : Nat) : Env := ⟨lk [(6, spec_DrawSplitBack.S N), (7, impl_SplitBack.S N), (8, spec_SplitBack.S N)], nzk [(8, ⟨[0, 1, 2, 3, 4, 10, 11, 12, 13, 14, 15, 16, 17, 18, 19, 20, 21, 22, 23, 24, 25, 26, 27, 28, 29, 30, 31, 32, 33, 34, 35, 36, 37, 38, 39, 40, 41, 42, 43, 44, 45, 46, 47, 48, 49, 50, 51, 52, 53, 54, 55, 56, 57, 58, 59, 60, 61, 62, 63, 64, 65, 66, 67, 68, 69, 70, 71], []⟩)], N, []⟩
noncomputable def laws_FnSplitBack.f (N : Nat) (a : List PV) : Option Res := run Tryd.prog (laws_FnSplitBack.E N) Tryd.f3 [(22, .ro), (22, .ro)] [(4, .val)] a
noncomputable def laws_FnSplitBack.l0 (N : Nat) (n : Nat) (x5 : ByteArray) (x6 : ByteArray) (x7 : Int) (x8 : Int) (x9 : Int) : Option Res := loopAt Tryd.prog (laws_FnSplitBack.E N) Tryd.f3 [(4, .val)] [1, 1, 1, 1, 1, 1, 0, 1, 0] [] n ⟨mkSlots 72 [(5, .sc (.string x5)), (6, .sc (.string x6)), (7, .sc (.int .i64 x7)), (8, .sc (.int .i64 x8)), (9, .sc (.int .i64 x9))], ohOf []⟩
theorem laws_FnSplitBack.f_eq (N : Nat) (a0 : PV) (a1 : PV) : laws_FnSplitBack.f N [a0, a1] = if decide (1048576 < (a0.items.length : Int)) = false then (if decide (1048576 < (a1.items.length : Int)) = true then (some [(PV.sc (.bool true))]) else ((spec_DrawSplitBack.f N [a0]).bind fun t1 => (impl_SplitBack.f N [(PV.sc (.string ((t1.headD default).toStr)))]).bind fun t2 => if (IntKind.i64.wrap ((((t1.headD default).toStr).size : Int) + 1)) = 0 then none else (laws_FnSplitBack.l0 N N ((t1.headD default).toStr) ((t2.headD default).toStr) (Int.tmod (a1.items.length : Int) (IntKind.i64.wrap ((((t1.headD default).toStr).size : Int) + 1))) 0 0))) else (some [(PV.sc (.bool true))]) := by kernel_rfl
theorem laws_FnSplitBack.l0_eq (N : Nat) (n : Nat) (x5 : ByteArray) (x6 : ByteArray) (x7 : Int) (x8 : Int) (x9 : Int) : laws_FnSplitBack.l0 N (n + 1) x5 x6 x7 x8 x9 = if decide (x9 < (x5.size : Int)) = true then (if 0 ≤ x9 then (if x9 < (x5.size : Int) then (if decide (((x5.get! x9.toNat).toNat : Int) = 45) = true then (laws_FnSplitBack.l0 N n x5 x6 x7 (IntKind.i64.wrap (x8 + 1)) (IntKind.i64.wrap (x9 + 1))) else (laws_FnSplitBack.l0 N n x5 x6 x7 x8 (IntKind.i64.wrap (x9 + 1)))) else none) else none) else ((spec_SplitBack.f N [(PV.sc (.string x5))]).bind fun t3 => if decide (x6.toList = ((t3.headD default).toStr).toList) = true then (if decide ((IntKind.i64.wrap ((x6.size : Int) + x8)) = (x5.size : Int)) = true then ((impl_SplitBack.f N [(PV.sc (.string x6))]).bind fun t4 => if decide (((t4.headD default).toStr).toList = x6.toList) = true then (if 0 ≤ x7 then (if x7 ≤ (x5.size : Int) then ((impl_SplitBack.f N [(PV.sc (.string (x5.extract 0 x7.toNat)))]).bind fun t5 => if 0 ≤ x7 then (if x7 ≤ (x5.size : Int) then ((impl_SplitBack.f N [(PV.sc (.string (x5.extract x7.toNat x5.size)))]).bind fun t6 => if ((t5.headD default).toStr).size + ((t6.headD default).toStr).size ≤ 9223372036854775807 then (some [(PV.sc (.bool (decide ((((t5.headD default).toStr) ++ ((t6.headD default).toStr)).toList = x6.toList))))]) else none) else none) else none) else none) else none) else (some [(PV.sc (.bool false))])) else (some [(PV.sc (.bool false))])) else (some [(PV.sc (.bool false))])) := by kernel_rfl
noncomputable def laws_FnSplitBack.S (N : Nat) : ASpec := ⟨[(22, .ro), (22, .ro)], [(4, .val)], laws_FnSplitBack.f N⟩
theorem laws_FnSplitBack.ok (N : Nat) : FnOk Tryd.prog 3 (laws_FnSplitBack.S N) := fnOk_of (E := laws_FnSplitBack.E N) mix Tryd.func3 (by kernel_rfl) (by kernel_rfl) (by kernel_rfl) (lk_ok (all_cons (spec_DrawSplitBack.ok N) (all_cons (impl_SplitBack.ok N) (all_cons (spec_SplitBack.ok N) all_nil)))) (by kernel_rfl) (fun _ _ h => h)

end Go.Proofs.YtanfkcmfgdeioaaDoor.FnSplitBack
