/- What each function that the law FnExactFrontGet reaches computes, as trees, part 1: no conditions. -/
import Derived.Test.YtpnbhcifhbnaaaaDoorLib1456789
import Derived.Test.YtpnbhcifhbnaaaaDoorProg
import Derived.BigCall
import Derived.Deep.RegionHeld3
import Derived.Shelf.Strings.BuilderF
import Derived.WalkKit
set_option maxRecDepth 100000
set_option linter.unusedVariables false
namespace Go.Proofs.YtpnbhcifhbnaaaaDoor.FnExactFrontGet
open Go Go.Proofs.YtpnbhcifhbnaaaaDoorAm
theorem mix : Tryd.prog.follows .mixedOrders = true := by kernel_rfl
noncomputable instance glb : Glb Tryd.prog := glbOf Tryd.prog [] [(0, ifaceObj), (1, ifaceObj), (2, tabObj .u64 Lib.pow10Tab), (5, someI64)]

/-! ### spec_l1Cut: function 22, loop.example/medlar/spec.l1Cut -/
noncomputable def spec_l1Cut.E (N : Nat) : Env := ⟨lk [], nzk [(4, ⟨[2, 3, 4, 8, 9, 10, 11, 12, 13, 14, 15, 16, 17, 18, 19, 20, 21, 22, 23, 24, 25, 26, 27, 28, 29, 30, 31, 32, 33, 34], [(5, 22)], []⟩)], N, [], false⟩
noncomputable def spec_l1Cut.f (N : Nat) (a : List PV) : Option Res := run Tryd.prog (spec_l1Cut.E N) Tryd.f22 [(9, .ro), (5, .ro)] [(22, .own)] a
noncomputable def spec_l1Cut.l0 (N : Nat) (n : Nat) (x0 : ByteArray) (x1 : Int) (x6 : Int) (x7 : Int) (y0 : List PV) : Option Res := loopAt Tryd.prog (spec_l1Cut.E N) Tryd.f22 [(22, .own)] [1, 1, 1, 0, 1, 0] [] n ⟨mkSlots 35 [(0, .sc (.string x0)), (1, .sc (.int .u8 x1)), (5, .ref 0 []), (6, .sc (.int .i64 x6)), (7, .sc (.int .i64 x7))], ohOf [.row 22 (PV.list y0)]⟩
theorem spec_l1Cut.f_eq (N : Nat) (a0 : PV) (a1 : PV) : spec_l1Cut.f N [a0, a1] = spec_l1Cut.l0 N N a0.toStr a1.toInt 0 0 [] := by kernel_rfl
theorem spec_l1Cut.l0_eq (N : Nat) (n : Nat) (x0 : ByteArray) (x1 : Int) (x6 : Int) (x7 : Int) (y0 : List PV) : spec_l1Cut.l0 N (n + 1) x0 x1 x6 x7 y0 = if decide (x7 < (x0.size : Int)) = true then (if 0 ≤ x7 then (if x7 < (x0.size : Int) then (if decide (((x0.get! x7.toNat).toNat : Int) = x1) = true then (if 0 ≤ x6 then (if x6 ≤ x7 then (if x7 ≤ (x0.size : Int) then (if y0.length + [(PV.sc (.string (x0.extract x6.toNat x7.toNat)))].length ≤ 8796093022208 then (spec_l1Cut.l0 N n x0 x1 (IntKind.i64.wrap (x7 + 1)) (IntKind.i64.wrap (x7 + 1)) (y0 ++ [(PV.sc (.string (x0.extract x6.toNat x7.toNat)))])) else none) else none) else none) else none) else (spec_l1Cut.l0 N n x0 x1 x6 (IntKind.i64.wrap (x7 + 1)) y0)) else none) else none) else (if 0 ≤ x6 then (if x6 ≤ (x0.size : Int) then (if y0.length + [(PV.sc (.string (x0.extract x6.toNat x0.size)))].length ≤ 8796093022208 then (some [(PV.list (y0 ++ [(PV.sc (.string (x0.extract x6.toNat x0.size)))]))]) else none) else none) else none) := by kernel_rfl
noncomputable def spec_l1Cut.S (N : Nat) : ASpec := ⟨[(9, .ro), (5, .ro)], [(22, .own)], spec_l1Cut.f N⟩
theorem spec_l1Cut.ok (N : Nat) : FnOk Tryd.prog 22 (spec_l1Cut.S N) := fnOk_of (E := spec_l1Cut.E N) mix Tryd.func22 (by kernel_rfl) (by kernel_rfl) (by kernel_rfl) (lk_ok all_nil) (by kernel_rfl) (fun _ _ h => h)

/-! ### spec_l1Num: function 33, loop.example/medlar/spec.l1Num -/
noncomputable def spec_l1Num.E (N : Nat) : Env := ⟨lk [], nzk [(5, ⟨[1, 2, 5, 6, 7, 8, 9, 10, 11, 12, 13, 14, 15, 16, 17, 18, 19, 20, 21, 22, 23, 24, 25, 26, 27, 28, 29, 30, 31, 32, 33, 34, 35, 36, 37, 38, 39, 40, 41, 42, 43, 44, 45, 46, 47], [], []⟩)], N, [], false⟩
noncomputable def spec_l1Num.f (N : Nat) (a : List PV) : Option Res := run Tryd.prog (spec_l1Num.E N) Tryd.f33 [(9, .ro)] [(3, .val)] a
noncomputable def spec_l1Num.l0 (N : Nat) (n : Nat) (x0 : ByteArray) (x3 : Int) (x4 : Int) : Option Res := loopAt Tryd.prog (spec_l1Num.E N) Tryd.f33 [(3, .val)] [1, 1, 1, 0, 1, 0] [] n ⟨mkSlots 48 [(0, .sc (.string x0)), (3, .sc (.int .i64 x3)), (4, .sc (.int .i64 x4))], ohOf []⟩
theorem spec_l1Num.f_eq (N : Nat) (a0 : PV) : spec_l1Num.f N [a0] = if decide ((a0.toStr.size : Int) = 0) = false then (if decide (6 < (a0.toStr.size : Int)) = false then (if decide (1 < (a0.toStr.size : Int)) = true then (if 0 ≤ 0 then (if 0 < (a0.toStr.size : Int) then (if decide (((a0.toStr.get! 0).toNat : Int) = 48) = true then (some [(PV.sc (.int .i64 (-1)))]) else (spec_l1Num.l0 N N a0.toStr 0 0)) else none) else none) else (spec_l1Num.l0 N N a0.toStr 0 0)) else (some [(PV.sc (.int .i64 (-1)))])) else (some [(PV.sc (.int .i64 (-1)))]) := by kernel_rfl
theorem spec_l1Num.l0_eq (N : Nat) (n : Nat) (x0 : ByteArray) (x3 : Int) (x4 : Int) : spec_l1Num.l0 N (n + 1) x0 x3 x4 = if decide (x4 < (x0.size : Int)) = true then (if 0 ≤ x4 then (if x4 < (x0.size : Int) then (if decide (((x0.get! x4.toNat).toNat : Int) < 48) = false then (if 0 ≤ x4 then (if x4 < (x0.size : Int) then (if decide (57 < ((x0.get! x4.toNat).toNat : Int)) = true then (some [(PV.sc (.int .i64 (-1)))]) else (if 0 ≤ x4 then (if x4 < (x0.size : Int) then (spec_l1Num.l0 N n x0 (IntKind.i64.wrap ((IntKind.i64.wrap (x3 * 10)) + (IntKind.i64.wrap (IntKind.u8.wrap (((x0.get! x4.toNat).toNat : Int) - 48))))) (IntKind.i64.wrap (x4 + 1))) else none) else none)) else none) else none) else (some [(PV.sc (.int .i64 (-1)))])) else none) else none) else (some [(PV.sc (.int .i64 x3))]) := by kernel_rfl
noncomputable def spec_l1Num.S (N : Nat) : ASpec := ⟨[(9, .ro)], [(3, .val)], spec_l1Num.f N⟩
theorem spec_l1Num.ok (N : Nat) : FnOk Tryd.prog 33 (spec_l1Num.S N) := fnOk_of (E := spec_l1Num.E N) mix Tryd.func33 (by kernel_rfl) (by kernel_rfl) (by kernel_rfl) (lk_ok all_nil) (by kernel_rfl) (fun _ _ h => h)

/-! ### spec_l12Front: function 23, loop.example/medlar/spec.l12Front -/
noncomputable def spec_l12Front.E (N : Nat) : Env := ⟨lk [(33, spec_l1Num.S N)], nzk [(2, ⟨[1, 2, 3, 5, 6, 7, 8, 9, 10, 11, 12, 13, 14, 15, 16, 17, 18, 19, 20, 21, 22, 23, 24, 25, 26, 27, 28, 29], [], []⟩)], N, [], false⟩
noncomputable def spec_l12Front.f (N : Nat) (a : List PV) : Option Res := run Tryd.prog (spec_l12Front.E N) Tryd.f23 [(9, .ro)] [(3, .val), (9, .val)] a
noncomputable def spec_l12Front.l0 (N : Nat) (n : Nat) (x0 : ByteArray) (x4 : Int) : Option Res := loopAt Tryd.prog (spec_l12Front.E N) Tryd.f23 [(3, .val), (9, .val)] [1, 1, 0, 0] [] n ⟨mkSlots 30 [(0, .sc (.string x0)), (4, .sc (.int .i64 x4))], ohOf []⟩
theorem spec_l12Front.f_eq (N : Nat) (a0 : PV) : spec_l12Front.f N [a0] = spec_l12Front.l0 N N a0.toStr 0 := by kernel_rfl
theorem spec_l12Front.l0_eq (N : Nat) (n : Nat) (x0 : ByteArray) (x4 : Int) : spec_l12Front.l0 N (n + 1) x0 x4 = if decide (x4 < (x0.size : Int)) = true then (if 0 ≤ x4 then (if x4 < (x0.size : Int) then (if decide (48 ≤ ((x0.get! x4.toNat).toNat : Int)) = true then (if 0 ≤ x4 then (if x4 < (x0.size : Int) then (if decide (((x0.get! x4.toNat).toNat : Int) ≤ 57) = true then (spec_l12Front.l0 N n x0 (IntKind.i64.wrap (x4 + 1))) else (if 0 ≤ x4 then (if x4 ≤ (x0.size : Int) then ((spec_l1Num.f N [(PV.sc (.string (x0.extract 0 x4.toNat)))]).bind fun t1 => if 0 ≤ x4 then (if x4 ≤ (x0.size : Int) then (some [(PV.sc (.int .i64 ((t1.headD default).toInt))), (PV.sc (.string (x0.extract x4.toNat x0.size)))]) else none) else none) else none) else none)) else none) else none) else (if 0 ≤ x4 then (if x4 ≤ (x0.size : Int) then ((spec_l1Num.f N [(PV.sc (.string (x0.extract 0 x4.toNat)))]).bind fun t2 => if 0 ≤ x4 then (if x4 ≤ (x0.size : Int) then (some [(PV.sc (.int .i64 ((t2.headD default).toInt))), (PV.sc (.string (x0.extract x4.toNat x0.size)))]) else none) else none) else none) else none)) else none) else none) else (if 0 ≤ x4 then (if x4 ≤ (x0.size : Int) then ((spec_l1Num.f N [(PV.sc (.string (x0.extract 0 x4.toNat)))]).bind fun t3 => if 0 ≤ x4 then (if x4 ≤ (x0.size : Int) then (some [(PV.sc (.int .i64 ((t3.headD default).toInt))), (PV.sc (.string (x0.extract x4.toNat x0.size)))]) else none) else none) else none) else none) := by kernel_rfl
noncomputable def spec_l12Front.S (N : Nat) : ASpec := ⟨[(9, .ro)], [(3, .val), (9, .val)], spec_l12Front.f N⟩
theorem spec_l12Front.ok (N : Nat) : FnOk Tryd.prog 23 (spec_l12Front.S N) := fnOk_of (E := spec_l12Front.E N) mix Tryd.func23 (by kernel_rfl) (by kernel_rfl) (by kernel_rfl) (lk_ok (all_cons (spec_l1Num.ok N) all_nil)) (by kernel_rfl) (fun _ _ h => h)

/-! ### spec_l1In: function 24, loop.example/medlar/spec.l1In -/
noncomputable def spec_l1In.E (N : Nat) : Env := ⟨lk [], nzk [], N, [], false⟩
noncomputable def spec_l1In.f (N : Nat) (a : List PV) : Option Res := run Tryd.prog (spec_l1In.E N) Tryd.f24 [(3, .ro), (3, .ro), (3, .ro)] [(4, .val)] a
theorem spec_l1In.f_eq (N : Nat) (a0 : PV) (a1 : PV) (a2 : PV) : spec_l1In.f N [a0, a1, a2] = if decide (a1.toInt ≤ a0.toInt) = true then (some [(PV.sc (.bool (decide (a0.toInt ≤ a2.toInt))))]) else (some [(PV.sc (.bool false))]) := by kernel_rfl
noncomputable def spec_l1In.S (N : Nat) : ASpec := ⟨[(3, .ro), (3, .ro), (3, .ro)], [(4, .val)], spec_l1In.f N⟩
theorem spec_l1In.ok (N : Nat) : FnOk Tryd.prog 24 (spec_l1In.S N) := fnOk_of (E := spec_l1In.E N) mix Tryd.func24 (by kernel_rfl) (by kernel_rfl) (by kernel_rfl) (lk_ok all_nil) (by kernel_rfl) (fun _ _ h => h)

/-! ### spec_l1Letters: function 41, loop.example/medlar/spec.l1Letters -/
noncomputable def spec_l1Letters.E (N : Nat) : Env := ⟨lk [], nzk [(2, ⟨[2, 3, 4, 6, 7, 8, 9, 10, 11, 12, 13, 14, 15, 16, 17, 18, 19, 20, 21, 22, 23, 24, 25], [], []⟩)], N, [], false⟩
noncomputable def spec_l1Letters.f (N : Nat) (a : List PV) : Option Res := run Tryd.prog (spec_l1Letters.E N) Tryd.f41 [(9, .ro), (3, .ro)] [(4, .val)] a
noncomputable def spec_l1Letters.l0 (N : Nat) (n : Nat) (x0 : ByteArray) (x1 : Int) (x5 : Int) : Option Res := loopAt Tryd.prog (spec_l1Letters.E N) Tryd.f41 [(4, .val)] [1, 0, 1, 0] [] n ⟨mkSlots 26 [(0, .sc (.string x0)), (1, .sc (.int .i64 x1)), (5, .sc (.int .i64 x5))], ohOf []⟩
theorem spec_l1Letters.f_eq (N : Nat) (a0 : PV) (a1 : PV) : spec_l1Letters.f N [a0, a1] = spec_l1Letters.l0 N N a0.toStr a1.toInt 0 := by kernel_rfl
theorem spec_l1Letters.l0_eq (N : Nat) (n : Nat) (x0 : ByteArray) (x1 : Int) (x5 : Int) : spec_l1Letters.l0 N (n + 1) x0 x1 x5 = if decide (x5 < (x0.size : Int)) = true then (if 0 ≤ x5 then (if x5 < (x0.size : Int) then (if decide (((x0.get! x5.toNat).toNat : Int) < 97) = false then (if 0 ≤ x5 then (if x5 < (x0.size : Int) then (if decide (122 < ((x0.get! x5.toNat).toNat : Int)) = true then (some [(PV.sc (.bool false))]) else (spec_l1Letters.l0 N n x0 x1 (IntKind.i64.wrap (x5 + 1)))) else none) else none) else (some [(PV.sc (.bool false))])) else none) else none) else (some [(PV.sc (.bool (decide ((x0.size : Int) ≤ x1))))]) := by kernel_rfl
noncomputable def spec_l1Letters.S (N : Nat) : ASpec := ⟨[(9, .ro), (3, .ro)], [(4, .val)], spec_l1Letters.f N⟩
theorem spec_l1Letters.ok (N : Nat) : FnOk Tryd.prog 41 (spec_l1Letters.S N) := fnOk_of (E := spec_l1Letters.E N) mix Tryd.func41 (by kernel_rfl) (by kernel_rfl) (by kernel_rfl) (lk_ok all_nil) (by kernel_rfl) (fun _ _ h => h)

/-! ### spec_l1Word: function 29, loop.example/medlar/spec.l1Word -/
noncomputable def spec_l1Word.E (N : Nat) : Env := ⟨lk [(41, spec_l1Letters.S N)], nzk [], N, [], false⟩
noncomputable def spec_l1Word.f (N : Nat) (a : List PV) : Option Res := run Tryd.prog (spec_l1Word.E N) Tryd.f29 [(9, .ro)] [(4, .val)] a
theorem spec_l1Word.f_eq (N : Nat) (a0 : PV) : spec_l1Word.f N [a0] = if decide (0 < (a0.toStr.size : Int)) = true then ((spec_l1Letters.f N [(PV.sc (.string a0.toStr)), (PV.sc (.int .i64 12))]).bind fun t1 => some [(PV.sc (.bool ((t1.headD default).toBool)))]) else (some [(PV.sc (.bool false))]) := by kernel_rfl
noncomputable def spec_l1Word.S (N : Nat) : ASpec := ⟨[(9, .ro)], [(4, .val)], spec_l1Word.f N⟩
theorem spec_l1Word.ok (N : Nat) : FnOk Tryd.prog 29 (spec_l1Word.S N) := fnOk_of (E := spec_l1Word.E N) mix Tryd.func29 (by kernel_rfl) (by kernel_rfl) (by kernel_rfl) (lk_ok (all_cons (spec_l1Letters.ok N) all_nil)) (by kernel_rfl) (fun _ _ h => h)

/-! ### spec_l3Words: function 14, loop.example/medlar/spec.l3Words -/
noncomputable def spec_l3Words.E (N : Nat) : Env := ⟨lk [(29, spec_l1Word.S N)], nzk [(2, ⟨[1, 2, 4, 5, 6, 7, 8, 9, 10, 11, 12, 13, 14, 15, 16, 17, 18, 19, 20, 21, 22, 23, 24, 25, 26, 27, 28, 29, 30, 31, 32, 33, 34], [], []⟩)], N, [], false⟩
noncomputable def spec_l3Words.f (N : Nat) (a : List PV) : Option Res := run Tryd.prog (spec_l3Words.E N) Tryd.f14 [(22, .ro)] [(4, .val)] a
noncomputable def spec_l3Words.l0 (N : Nat) (n : Nat) (x0 : PV) (x3 : Int) : Option Res := loopAt Tryd.prog (spec_l3Words.E N) Tryd.f14 [(4, .val)] [1, 0, 1, 0] [] n ⟨mkSlots 35 [(0, .ro 22 x0), (3, .sc (.int .i64 x3))], ohOf []⟩
theorem spec_l3Words.f_eq (N : Nat) (a0 : PV) : spec_l3Words.f N [a0] = spec_l3Words.l0 N N a0 0 := by kernel_rfl
theorem spec_l3Words.l0_eq (N : Nat) (n : Nat) (x0 : PV) (x3 : Int) : spec_l3Words.l0 N (n + 1) x0 x3 = if decide (x3 < (x0.items.length : Int)) = true then (if 0 ≤ x3 then (if x3 < (x0.items.length : Int) then ((spec_l1Word.f N [(PV.sc (.string ((x0.elem x3.toNat).toStr)))]).bind fun t1 => if (!((t1.headD default).toBool)) = false then (if decide (0 < x3) = true then (if 0 ≤ (IntKind.i64.wrap (x3 - 1)) then (if (IntKind.i64.wrap (x3 - 1)) < (x0.items.length : Int) then (if 0 ≤ x3 then (if x3 < (x0.items.length : Int) then (if (!Op.bytesLess ((x0.elem ((IntKind.i64.wrap (x3 - 1)).toNat)).toStr).toList ((x0.elem x3.toNat).toStr).toList) = true then (some [(PV.sc (.bool false))]) else (spec_l3Words.l0 N n x0 (IntKind.i64.wrap (x3 + 1)))) else none) else none) else none) else none) else (spec_l3Words.l0 N n x0 (IntKind.i64.wrap (x3 + 1)))) else (some [(PV.sc (.bool false))])) else none) else none) else (some [(PV.sc (.bool (decide ((x0.items.length : Int) ≤ 300))))]) := by kernel_rfl
noncomputable def spec_l3Words.S (N : Nat) : ASpec := ⟨[(22, .ro)], [(4, .val)], spec_l3Words.f N⟩
theorem spec_l3Words.ok (N : Nat) : FnOk Tryd.prog 14 (spec_l3Words.S N) := fnOk_of (E := spec_l3Words.E N) mix Tryd.func14 (by kernel_rfl) (by kernel_rfl) (by kernel_rfl) (lk_ok (all_cons (spec_l1Word.ok N) all_nil)) (by kernel_rfl) (fun _ _ h => h)

/-! ### spec_Beginning: function 15, loop.example/medlar/spec.Beginning -/
noncomputable def spec_Beginning.E (N : Nat) : Env := ⟨lk [], nzk [(2, ⟨[2, 3, 4, 6, 7, 8, 9, 10, 11, 12, 13, 14, 15, 16, 17, 18, 19, 20, 21, 22, 23, 24, 25, 26, 27, 28, 29], [], []⟩)], N, [], false⟩
noncomputable def spec_Beginning.f (N : Nat) (a : List PV) : Option Res := run Tryd.prog (spec_Beginning.E N) Tryd.f15 [(9, .ro), (9, .ro)] [(9, .val)] a
noncomputable def spec_Beginning.l0 (N : Nat) (n : Nat) (x0 : ByteArray) (x1 : ByteArray) (x5 : Int) : Option Res := loopAt Tryd.prog (spec_Beginning.E N) Tryd.f15 [(9, .val)] [1, 1, 0, 0] [] n ⟨mkSlots 30 [(0, .sc (.string x0)), (1, .sc (.string x1)), (5, .sc (.int .i64 x5))], ohOf []⟩
theorem spec_Beginning.f_eq (N : Nat) (a0 : PV) (a1 : PV) : spec_Beginning.f N [a0, a1] = spec_Beginning.l0 N N a0.toStr a1.toStr 0 := by kernel_rfl
theorem spec_Beginning.l0_eq (N : Nat) (n : Nat) (x0 : ByteArray) (x1 : ByteArray) (x5 : Int) : spec_Beginning.l0 N (n + 1) x0 x1 x5 = if decide (x5 < (x0.size : Int)) = true then (if decide (x5 < (x1.size : Int)) = true then (if 0 ≤ x5 then (if x5 < (x0.size : Int) then (if 0 ≤ x5 then (if x5 < (x1.size : Int) then (if decide (((x0.get! x5.toNat).toNat : Int) = ((x1.get! x5.toNat).toNat : Int)) = true then (spec_Beginning.l0 N n x0 x1 (IntKind.i64.wrap (x5 + 1))) else (if 0 ≤ x5 then (if x5 ≤ (x0.size : Int) then (some [(PV.sc (.string (x0.extract 0 x5.toNat)))]) else none) else none)) else none) else none) else none) else none) else (if 0 ≤ x5 then (if x5 ≤ (x0.size : Int) then (some [(PV.sc (.string (x0.extract 0 x5.toNat)))]) else none) else none)) else (if 0 ≤ x5 then (if x5 ≤ (x0.size : Int) then (some [(PV.sc (.string (x0.extract 0 x5.toNat)))]) else none) else none) := by kernel_rfl
noncomputable def spec_Beginning.S (N : Nat) : ASpec := ⟨[(9, .ro), (9, .ro)], [(9, .val)], spec_Beginning.f N⟩
theorem spec_Beginning.ok (N : Nat) : FnOk Tryd.prog 15 (spec_Beginning.S N) := fnOk_of (E := spec_Beginning.E N) mix Tryd.func15 (by kernel_rfl) (by kernel_rfl) (by kernel_rfl) (lk_ok all_nil) (by kernel_rfl) (fun _ _ h => h)

/-! ### spec_l1Dec: function 16, loop.example/medlar/spec.l1Dec -/
noncomputable def spec_l1Dec.E (N : Nat) (self : List PV → Option Res) : Env := ⟨lk [(16, ⟨[(3, .ro)], [(9, .val)], self⟩)], nzk [], N, [], false⟩
noncomputable def spec_l1Dec.g (N : Nat) (d : Nat) : List PV → Option Res := Nat.rec (fun _ => none) (fun _ ih a => run Tryd.prog (spec_l1Dec.E N ih) Tryd.f16 [(3, .ro)] [(9, .val)] a) d
noncomputable def spec_l1Dec.f (N : Nat) (a : List PV) : Option Res := spec_l1Dec.g N N a
theorem spec_l1Dec.f_eq (N : Nat) (a : List PV) : spec_l1Dec.f N a = spec_l1Dec.g N N a := rfl
theorem spec_l1Dec.g_eq (N : Nat) (d : Nat) (a0 : PV) : spec_l1Dec.g N (d + 1) [a0] = if decide (a0.toInt < (-9223372036854775807)) = true then (some [(PV.sc (.string (ByteArray.mk #[45, 57, 50, 50, 51, 51, 55, 50, 48, 51, 54, 56, 53, 52, 55, 55, 53, 56, 48, 56])))]) else (if decide (a0.toInt < 0) = true then ((spec_l1Dec.g N d [(PV.sc (.int .i64 (IntKind.i64.wrap (0 - a0.toInt))))]).bind fun t1 => if (ByteArray.mk #[45]).size + ((t1.headD default).toStr).size ≤ 9223372036854775807 then (some [(PV.sc (.string ((ByteArray.mk #[45]) ++ ((t1.headD default).toStr))))]) else none) else (if decide (a0.toInt < 10) = true then (some [(PV.sc (.string (bytesOfL [(PV.sc (.int .u8 (IntKind.u8.wrap (IntKind.i64.wrap (48 + a0.toInt)))))])))]) else (if 10 = 0 then none else ((spec_l1Dec.g N d [(PV.sc (.int .i64 (IntKind.i64.wrap (Int.tdiv a0.toInt 10))))]).bind fun t2 => if 10 = 0 then none else (if ((t2.headD default).toStr).size + (bytesOfL [(PV.sc (.int .u8 (IntKind.u8.wrap (IntKind.i64.wrap (48 + (Int.tmod a0.toInt 10))))))]).size ≤ 9223372036854775807 then (some [(PV.sc (.string (((t2.headD default).toStr) ++ (bytesOfL [(PV.sc (.int .u8 (IntKind.u8.wrap (IntKind.i64.wrap (48 + (Int.tmod a0.toInt 10))))))]))))]) else none))))) := by kernel_rfl
noncomputable def spec_l1Dec.S (N : Nat) : ASpec := ⟨[(3, .ro)], [(9, .val)], spec_l1Dec.f N⟩
theorem spec_l1Dec.g_ok (N : Nat) : ∀ d, FnOk Tryd.prog 16 ⟨[(3, .ro)], [(9, .val)], spec_l1Dec.g N d⟩ := fnOk_rec mix Tryd.func16 (by kernel_rfl) (by kernel_rfl) (by kernel_rfl) (spec_l1Dec.g N) (fun d => spec_l1Dec.E N (spec_l1Dec.g N d)) (fun _ => rfl) (fun d ih => lk_ok (all_cons ih all_nil)) (fun _ => rfl) (fun _ _ _ h => h)
theorem spec_l1Dec.ok (N : Nat) : FnOk Tryd.prog 16 (spec_l1Dec.S N) := spec_l1Dec.g_ok N N

/-! ### spec_FrontPut: function 6, loop.example/medlar/spec.FrontPut -/
noncomputable def spec_FrontPut.E (N : Nat) : Env := ⟨lk [(14, spec_l3Words.S N), (15, spec_Beginning.S N), (16, spec_l1Dec.S N)], nzk [(4, ⟨[1, 2, 6, 7, 8, 9, 10, 11, 12, 13, 14, 15, 16, 17, 18, 19, 20, 21, 22, 23, 24, 25, 26, 27, 28, 29, 30, 31, 32, 33, 34, 35, 36, 37, 38, 39, 40], [], []⟩)], N, [], false⟩
noncomputable def spec_FrontPut.f (N : Nat) (a : List PV) : Option Res := run Tryd.prog (spec_FrontPut.E N) Tryd.f6 [(22, .ro)] [(9, .val)] a
noncomputable def spec_FrontPut.l0 (N : Nat) (n : Nat) (x0 : PV) (x3 : ByteArray) (x4 : ByteArray) (x5 : Int) : Option Res := loopAt Tryd.prog (spec_FrontPut.E N) Tryd.f6 [(9, .val)] [1, 1, 1, 0, 1, 0] [] n ⟨mkSlots 41 [(0, .ro 22 x0), (3, .sc (.string x3)), (4, .sc (.string x4)), (5, .sc (.int .i64 x5))], ohOf []⟩
theorem spec_FrontPut.f_eq (N : Nat) (a0 : PV) : spec_FrontPut.f N [a0] = spec_FrontPut.l0 N N a0 (ByteArray.mk #[]) (ByteArray.mk #[]) 0 := by kernel_rfl
theorem spec_FrontPut.l0_eq (N : Nat) (n : Nat) (x0 : PV) (x3 : ByteArray) (x4 : ByteArray) (x5 : Int) : spec_FrontPut.l0 N (n + 1) x0 x3 x4 x5 = if decide (x5 < (x0.items.length : Int)) = true then ((spec_l3Words.f N [x0]).bind fun t1 => if (t1.headD default).toBool = true then (if 0 ≤ x5 then (if x5 < (x0.items.length : Int) then ((spec_Beginning.f N [(PV.sc (.string x4)), (PV.sc (.string ((x0.elem x5.toNat).toStr)))]).bind fun t2 => (spec_l1Dec.f N [(PV.sc (.int .i64 (((t2.headD default).toStr).size : Int)))]).bind fun t3 => if x3.size + ((t3.headD default).toStr).size ≤ 9223372036854775807 then (if 0 ≤ x5 then (if x5 < (x0.items.length : Int) then (if 0 ≤ (((t2.headD default).toStr).size : Int) then (if (((t2.headD default).toStr).size : Int) ≤ (((x0.elem x5.toNat).toStr).size : Int) then (if (x3 ++ ((t3.headD default).toStr)).size + (((x0.elem x5.toNat).toStr).extract (((t2.headD default).toStr).size) (((x0.elem x5.toNat).toStr).size)).size ≤ 9223372036854775807 then (if ((x3 ++ ((t3.headD default).toStr)) ++ (((x0.elem x5.toNat).toStr).extract (((t2.headD default).toStr).size) (((x0.elem x5.toNat).toStr).size))).size + (ByteArray.mk #[10]).size ≤ 9223372036854775807 then (if 0 ≤ x5 then (if x5 < (x0.items.length : Int) then (spec_FrontPut.l0 N n x0 (((x3 ++ ((t3.headD default).toStr)) ++ (((x0.elem x5.toNat).toStr).extract (((t2.headD default).toStr).size) (((x0.elem x5.toNat).toStr).size))) ++ (ByteArray.mk #[10])) ((x0.elem x5.toNat).toStr) (IntKind.i64.wrap (x5 + 1))) else none) else none) else none) else none) else none) else none) else none) else none) else none) else none) else none) else (some [(PV.sc (.string x3))])) else (some [(PV.sc (.string x3))]) := by kernel_rfl
noncomputable def spec_FrontPut.S (N : Nat) : ASpec := ⟨[(22, .ro)], [(9, .val)], spec_FrontPut.f N⟩
theorem spec_FrontPut.ok (N : Nat) : FnOk Tryd.prog 6 (spec_FrontPut.S N) := fnOk_of (E := spec_FrontPut.E N) mix Tryd.func6 (by kernel_rfl) (by kernel_rfl) (by kernel_rfl) (lk_ok (all_cons (spec_l3Words.ok N) (all_cons (spec_Beginning.ok N) (all_cons (spec_l1Dec.ok N) all_nil)))) (by kernel_rfl) (fun _ _ h => h)

/-! ### spec_FrontGet: function 10, loop.example/medlar/spec.FrontGet -/
noncomputable def spec_FrontGet.E (N : Nat) : Env := ⟨lk [(22, spec_l1Cut.S N), (23, spec_l12Front.S N), (24, spec_l1In.S N), (14, spec_l3Words.S N), (6, spec_FrontPut.S N)], nzk [(5, ⟨[1, 2, 3, 8, 9, 10, 11, 12, 13, 14, 15, 16, 17, 18, 19, 20, 21, 22, 23, 24, 25, 26, 27, 28, 29, 30, 31, 32, 33, 34, 35, 36, 37, 38, 39, 40, 41, 42, 43, 44, 45, 46, 47, 48, 49, 50, 51, 52, 53], [(5, 22)], []⟩)], N, [], false⟩
noncomputable def spec_FrontGet.f (N : Nat) (a : List PV) : Option Res := run Tryd.prog (spec_FrontGet.E N) Tryd.f10 [(9, .ro)] [(22, .own), (4, .val)] a
noncomputable def spec_FrontGet.l0 (N : Nat) (n : Nat) (x0 : ByteArray) (x6 : ByteArray) (x7 : Int) (y0 : PV) (y1 : List PV) : Option Res := loopAt Tryd.prog (spec_FrontGet.E N) Tryd.f10 [(22, .own), (4, .val)] [1, 1, 1, 1, 0, 1, 0] [] n ⟨mkSlots 54 [(0, .sc (.string x0)), (4, .ref 0 []), (5, .ref 1 []), (6, .sc (.string x6)), (7, .sc (.int .i64 x7))], ohOf [.row 22 y0, .row 22 (PV.list y1)]⟩
theorem spec_FrontGet.f_eq (N : Nat) (a0 : PV) : spec_FrontGet.f N [a0] = (spec_l1Cut.f N [(PV.sc (.string a0.toStr)), (PV.sc (.int .u8 10))]).bind fun t1 => spec_FrontGet.l0 N N a0.toStr (ByteArray.mk #[]) 0 (t1.headD default) [] := by kernel_rfl
theorem spec_FrontGet.l0_eq (N : Nat) (n : Nat) (x0 : ByteArray) (x6 : ByteArray) (x7 : Int) (y0 : PV) (y1 : List PV) : spec_FrontGet.l0 N (n + 1) x0 x6 x7 y0 y1 = if decide ((IntKind.i64.wrap (x7 + 1)) < (y0.items.length : Int)) = true then (if 0 ≤ x7 then (if x7 < (y0.items.length : Int) then ((spec_l12Front.f N [(PV.sc (.string ((y0.elem x7.toNat).toStr)))]).bind fun t2 => (spec_l1In.f N [(PV.sc (.int .i64 ((t2.headD default).toInt))), (PV.sc (.int .i64 0)), (PV.sc (.int .i64 (x6.size : Int)))]).bind fun t3 => if (!((t3.headD default).toBool)) = true then (some [(PV.list []), (PV.sc (.bool false))]) else (if 0 ≤ ((t2.headD default).toInt) then (if ((t2.headD default).toInt) ≤ (x6.size : Int) then (if (x6.extract 0 (((t2.headD default).toInt).toNat)).size + ((t2.tail.headD default).toStr).size ≤ 9223372036854775807 then (if y1.length + [(PV.sc (.string ((x6.extract 0 (((t2.headD default).toInt).toNat)) ++ ((t2.tail.headD default).toStr))))].length ≤ 8796093022208 then (spec_FrontGet.l0 N n x0 ((x6.extract 0 (((t2.headD default).toInt).toNat)) ++ ((t2.tail.headD default).toStr)) (IntKind.i64.wrap (x7 + 1)) y0 (y1 ++ [(PV.sc (.string ((x6.extract 0 (((t2.headD default).toInt).toNat)) ++ ((t2.tail.headD default).toStr))))])) else none) else none) else none) else none)) else none) else none) else ((spec_l3Words.f N [(PV.list y1)]).bind fun t4 => if (!((t4.headD default).toBool)) = false then ((spec_FrontPut.f N [(PV.list y1)]).bind fun t5 => if (!decide (((t5.headD default).toStr).toList = x0.toList)) = true then (some [(PV.list []), (PV.sc (.bool false))]) else (some [(PV.list y1), (PV.sc (.bool true))])) else (some [(PV.list []), (PV.sc (.bool false))])) := by kernel_rfl
noncomputable def spec_FrontGet.S (N : Nat) : ASpec := ⟨[(9, .ro)], [(22, .own), (4, .val)], spec_FrontGet.f N⟩
theorem spec_FrontGet.ok (N : Nat) : FnOk Tryd.prog 10 (spec_FrontGet.S N) := fnOk_of (E := spec_FrontGet.E N) mix Tryd.func10 (by kernel_rfl) (by kernel_rfl) (by kernel_rfl) (lk_ok (all_cons (spec_l1Cut.ok N) (all_cons (spec_l12Front.ok N) (all_cons (spec_l1In.ok N) (all_cons (spec_l3Words.ok N) (all_cons (spec_FrontPut.ok N) all_nil)))))) (by kernel_rfl) (fun _ _ h => h)

def lays146_ren : Go.Shelf.Ren := ⟨fun | 146 => 34 | 221 => 46 | 268 => 59 | 138 => 60 | 143 => 61 | 195 => 72 | 197 => 48 | 218 => 73 | 219 => 74 | 260 => 62 | 217 => 83 | 225 => 78 | 224 => 77 | 267 => 84 | 266 => 85 | 314 => 86 | n => n, fun | 9 => 9 | 31 => 22 | 3 => 3 | 4 => 4 | 0 => 0 | 105 => 65 | 21 => 21 | 5 => 5 | 46 => 85 | 119 => 98 | 139 => 101 | 138 => 100 | 146 => 110 | 51 => 93 | n => n, fun | 1 => 5 | 3 => 3 | 4 => 4 | n => n⟩
theorem lays146 : Go.Proofs.Lays.n146 Tryd.prog lays146_ren := {
  mixed := by kernel_rfl
  f138 := Tryd.func60.trans (congrArg some (by kernel_rfl))
  f143 := Tryd.func61.trans (congrArg some (by kernel_rfl))
  f146 := Tryd.func34.trans (congrArg some (by kernel_rfl))
  f195 := Tryd.func72.trans (congrArg some (by kernel_rfl))
  f197 := Tryd.func48.trans (congrArg some (by kernel_rfl))
  f217 := Tryd.func83.trans (congrArg some (by kernel_rfl))
  f218 := Tryd.func73.trans (congrArg some (by kernel_rfl))
  f219 := Tryd.func74.trans (congrArg some (by kernel_rfl))
  f221 := Tryd.func46.trans (congrArg some (by kernel_rfl))
  f224 := Tryd.func77.trans (congrArg some (by kernel_rfl))
  f225 := Tryd.func78.trans (congrArg some (by kernel_rfl))
  f260 := Tryd.func62.trans (congrArg some (by kernel_rfl))
  f266 := Tryd.func85.trans (congrArg some (by kernel_rfl))
  f267 := Tryd.func84.trans (congrArg some (by kernel_rfl))
  f268 := Tryd.func59.trans (congrArg some (by kernel_rfl))
  f314 := Tryd.func86.trans (congrArg some (by kernel_rfl))
  t0 := Tryd.underlying0
  a0 := Tryd.isAgg0
  z0 := Tryd.sizeOf0
  v0 := Tryd.zeroValue0
  t3 := Tryd.underlying3
  a3 := Tryd.isAgg3
  z3 := Tryd.sizeOf3
  v3 := Tryd.zeroValue3
  t4 := Tryd.underlying4
  a4 := Tryd.isAgg4
  z4 := Tryd.sizeOf4
  v4 := Tryd.zeroValue4
  t5 := Tryd.underlying5
  a5 := Tryd.isAgg5
  z5 := Tryd.sizeOf5
  v5 := Tryd.zeroValue5
  t9 := Tryd.underlying9
  a9 := Tryd.isAgg9
  z9 := Tryd.sizeOf9
  v9 := Tryd.zeroValue9
  t21 := Tryd.underlying21
  a21 := Tryd.isAgg21
  z21 := Tryd.sizeOf21
  v21 := Tryd.zeroValue21
  t31 := Tryd.underlying22
  a31 := Tryd.isAgg22
  z31 := Tryd.sizeOf22
  v31 := Tryd.zeroValue22
  t46 := Tryd.underlying85
  a46 := Tryd.isAgg85
  z46 := Tryd.sizeOf85
  v46 := Tryd.zeroValue85
  t51 := Tryd.underlying93
  a51 := Tryd.isAgg93
  z51 := Tryd.sizeOf93
  v51 := Tryd.zeroValue93
  t105 := Tryd.underlying65
  a105 := Tryd.isAgg65
  z105 := Tryd.sizeOf65
  v105 := Tryd.zeroValue65
  t119 := Tryd.underlying98
  a119 := Tryd.isAgg98
  z119 := Tryd.sizeOf98
  t138 := Tryd.underlying100
  a138 := Tryd.isAgg100
  z138 := Tryd.sizeOf100
  v138 := Tryd.zeroValue100
  t139 := Tryd.underlying101
  a139 := Tryd.isAgg101
  z139 := Tryd.sizeOf101
  v139 := Tryd.zeroValue101
  t146 := Tryd.underlying110
  a146 := Tryd.isAgg110
  z146 := Tryd.sizeOf110
  v146 := Tryd.zeroValue110
  g1 := by kernel_rfl
  g3 := by kernel_rfl
  g4 := by kernel_rfl }

/-! ### strings_Split: function 34, strings.Split, by the kit's contract, Lib1 Lib4 Lib5 Lib6 -/
noncomputable def strings_Split.f (N : Nat) (a : List PV) : Option (List PV) := splitDen a
noncomputable def strings_Split.S (N : Nat) : ASpec := ⟨[(9, .ro), (9, .ro)], [(22, .own)], strings_Split.f N⟩
theorem strings_Split.ok (N : Nat) : FnOk Tryd.prog 34 (strings_Split.S N) := fnOk_split (e := 9) lays146 rfl ⟨_, Tryd.func34, by kernel_rfl, by kernel_rfl⟩ (fun ok w h => fact_of (g := 5) h (by simp)) (by kernel_rfl) (by kernel_rfl) (by kernel_rfl) (by kernel_rfl) (by kernel_rfl)

/-! ### impl_linesOf: function 25, loop.example/medlar/impl.linesOf -/
noncomputable def impl_linesOf.E (N : Nat) : Env := ⟨lk [(34, strings_Split.S N)], nzk [], N, [], false⟩
noncomputable def impl_linesOf.f (N : Nat) (a : List PV) : Option Res := run Tryd.prog (impl_linesOf.E N) Tryd.f25 [(9, .ro)] [(22, .own)] a
theorem impl_linesOf.f_eq (N : Nat) (a0 : PV) : impl_linesOf.f N [a0] = (strings_Split.f N [(PV.sc (.string a0.toStr)), (PV.sc (.string (ByteArray.mk #[10])))]).bind fun t1 => if 0 ≤ (IntKind.i64.wrap ((((t1.headD default).items).length : Int) - 1)) then (if (IntKind.i64.wrap ((((t1.headD default).items).length : Int) - 1)) ≤ (((t1.headD default).items).length : Int) then (some [(PV.list (((t1.headD default).items).take ((IntKind.i64.wrap ((((t1.headD default).items).length : Int) - 1)).toNat)))]) else none) else none := by kernel_rfl
noncomputable def impl_linesOf.S (N : Nat) : ASpec := ⟨[(9, .ro)], [(22, .own)], impl_linesOf.f N⟩
theorem impl_linesOf.ok (N : Nat) : FnOk Tryd.prog 25 (impl_linesOf.S N) := fnOk_of (E := impl_linesOf.E N) mix Tryd.func25 (by kernel_rfl) (by kernel_rfl) (by kernel_rfl) (lk_ok (all_cons (strings_Split.ok N) all_nil)) (by kernel_rfl) (fun _ _ h => h)

def lays161_ren : Go.Shelf.Ren := ⟨fun | 161 => 26 | 231 => 35 | 227 => 36 | 233 => 37 | 235 => 38 | 228 => 47 | 197 => 48 | 151 => 49 | 260 => 62 | 152 => 63 | 137 => 75 | 119 => 76 | 224 => 77 | 225 => 78 | 217 => 83 | 266 => 85 | n => n, fun | 9 => 9 | 4 => 4 | 3 => 3 | 5 => 5 | 117 => 54 | 116 => 53 | 0 => 0 | 124 => 57 | 105 => 65 | 21 => 21 | 119 => 98 | 46 => 85 | 139 => 101 | 138 => 100 | n => n, fun | 3 => 3 | 4 => 4 | n => n⟩
theorem lays161 : Go.Proofs.Lays.n161 Tryd.prog lays161_ren := {
  mixed := by kernel_rfl
  f119 := Tryd.func76.trans (congrArg some (by kernel_rfl))
  f137 := Tryd.func75.trans (congrArg some (by kernel_rfl))
  f151 := Tryd.func49.trans (congrArg some (by kernel_rfl))
  f152 := Tryd.func63.trans (congrArg some (by kernel_rfl))
  f161 := Tryd.func26.trans (congrArg some (by kernel_rfl))
  f197 := Tryd.func48.trans (congrArg some (by kernel_rfl))
  f217 := Tryd.func83.trans (congrArg some (by kernel_rfl))
  f224 := Tryd.func77.trans (congrArg some (by kernel_rfl))
  f225 := Tryd.func78.trans (congrArg some (by kernel_rfl))
  f227 := Tryd.func36.trans (congrArg some (by kernel_rfl))
  f228 := Tryd.func47.trans (congrArg some (by kernel_rfl))
  f231 := Tryd.func35.trans (congrArg some (by kernel_rfl))
  f233 := Tryd.func37.trans (congrArg some (by kernel_rfl))
  f235 := Tryd.func38.trans (congrArg some (by kernel_rfl))
  f260 := Tryd.func62.trans (congrArg some (by kernel_rfl))
  f266 := Tryd.func85.trans (congrArg some (by kernel_rfl))
  t0 := Tryd.underlying0
  a0 := Tryd.isAgg0
  z0 := Tryd.sizeOf0
  v0 := Tryd.zeroValue0
  t3 := Tryd.underlying3
  a3 := Tryd.isAgg3
  z3 := Tryd.sizeOf3
  v3 := Tryd.zeroValue3
  t4 := Tryd.underlying4
  a4 := Tryd.isAgg4
  z4 := Tryd.sizeOf4
  v4 := Tryd.zeroValue4
  t5 := Tryd.underlying5
  a5 := Tryd.isAgg5
  z5 := Tryd.sizeOf5
  v5 := Tryd.zeroValue5
  t9 := Tryd.underlying9
  a9 := Tryd.isAgg9
  z9 := Tryd.sizeOf9
  v9 := Tryd.zeroValue9
  t21 := Tryd.underlying21
  a21 := Tryd.isAgg21
  z21 := Tryd.sizeOf21
  v21 := Tryd.zeroValue21
  t46 := Tryd.underlying85
  a46 := Tryd.isAgg85
  z46 := Tryd.sizeOf85
  v46 := Tryd.zeroValue85
  t105 := Tryd.underlying65
  a105 := Tryd.isAgg65
  z105 := Tryd.sizeOf65
  v105 := Tryd.zeroValue65
  t116 := Tryd.underlying53
  a116 := Tryd.isAgg53
  z116 := Tryd.sizeOf53
  t117 := Tryd.underlying54
  a117 := Tryd.isAgg54
  z117 := Tryd.sizeOf54
  v117 := Tryd.zeroValue54
  t119 := Tryd.underlying98
  a119 := Tryd.isAgg98
  z119 := Tryd.sizeOf98
  t124 := Tryd.underlying57
  a124 := Tryd.isAgg57
  z124 := Tryd.sizeOf57
  v124 := Tryd.zeroValue57
  t138 := Tryd.underlying100
  a138 := Tryd.isAgg100
  z138 := Tryd.sizeOf100
  v138 := Tryd.zeroValue100
  t139 := Tryd.underlying101
  a139 := Tryd.isAgg101
  z139 := Tryd.sizeOf101
  v139 := Tryd.zeroValue101
  g3 := by kernel_rfl
  g4 := by kernel_rfl }

/-! ### strings_TrimLeft: function 26, strings.TrimLeft, by the kit's contract, Lib4 Lib9 -/
noncomputable def strings_TrimLeft.f (N : Nat) (a : List PV) : Option (List PV) := trimDen a
noncomputable def strings_TrimLeft.S (N : Nat) : ASpec := ⟨[(9, .ro), (9, .ro)], [(9, .val)], strings_TrimLeft.f N⟩
theorem strings_TrimLeft.ok (N : Nat) : FnOk Tryd.prog 26 (strings_TrimLeft.S N) := fnOk_trim lays161 rfl ⟨_, Tryd.func26, by kernel_rfl, by kernel_rfl⟩ (by kernel_rfl) (by kernel_rfl) (by kernel_rfl)

def laysC172_ren : Go.Shelf.Ren := ⟨fun | 172 => 27 | 244 => 39 | 245 => 40 | 247 => 50 | 279 => 51 | 280 => 52 | 281 => 53 | 282 => 54 | 287 => 64 | 316 => 65 | 171 => 20 | 205 => 66 | 321 => 79 | 322 => 80 | 243 => 32 | 246 => 45 | 283 => 55 | 284 => 56 | 285 => 57 | 286 => 58 | 129 => 68 | 317 => 67 | 318 => 69 | 319 => 70 | 320 => 71 | 337 => 81 | 338 => 82 | n => n, fun | 9 => 9 | 3 => 3 | 75 => 39 | 76 => 40 | 4 => 4 | 5 => 5 | 167 => 68 | 37 => 35 | 0 => 0 | 85 => 69 | 2 => 2 | 168 => 71 | 53 => 75 | 175 => 83 | 46 => 85 | 210 => 88 | 127 => 48 | 145 => 106 | 143 => 104 | 21 => 21 | 171 => 74 | 173 => 78 | 212 => 92 | 51 => 93 | 20 => 20 | 213 => 94 | 232 => 108 | 233 => 109 | 80 => 42 | n => n, fun | 15 => 0 | 16 => 1 | 17 => 2 | 18 => 6 | 19 => 7 | n => n⟩
theorem laysC172 : Go.Proofs.LaysC.n172 Tryd.prog laysC172_ren := {
  mixed := by kernel_rfl
  f129 := Tryd.func68.trans (congrArg some (by kernel_rfl))
  f171 := Tryd.func20.trans (congrArg some (by kernel_rfl))
  f172 := Tryd.func27.trans (congrArg some (by kernel_rfl))
  f205 := Tryd.func66.trans (congrArg some (by kernel_rfl))
  f243 := Tryd.func32.trans (congrArg some (by kernel_rfl))
  f244 := Tryd.func39.trans (congrArg some (by kernel_rfl))
  f245 := Tryd.func40.trans (congrArg some (by kernel_rfl))
  f246 := Tryd.func45.trans (congrArg some (by kernel_rfl))
  f247 := Tryd.func50.trans (congrArg some (by kernel_rfl))
  f279 := Tryd.func51.trans (congrArg some (by kernel_rfl))
  f280 := Tryd.func52.trans (congrArg some (by kernel_rfl))
  f281 := Tryd.func53.trans (congrArg some (by kernel_rfl))
  f282 := Tryd.func54.trans (congrArg some (by kernel_rfl))
  f283 := Tryd.func55.trans (congrArg some (by kernel_rfl))
  f284 := Tryd.func56.trans (congrArg some (by kernel_rfl))
  f285 := Tryd.func57.trans (congrArg some (by kernel_rfl))
  f286 := Tryd.func58.trans (congrArg some (by kernel_rfl))
  f287 := Tryd.func64.trans (congrArg some (by kernel_rfl))
  f316 := Tryd.func65.trans (congrArg some (by kernel_rfl))
  f317 := Tryd.func67.trans (congrArg some (by kernel_rfl))
  f318 := Tryd.func69.trans (congrArg some (by kernel_rfl))
  f319 := Tryd.func70.trans (congrArg some (by kernel_rfl))
  f320 := Tryd.func71.trans (congrArg some (by kernel_rfl))
  f321 := Tryd.func79.trans (congrArg some (by kernel_rfl))
  f322 := Tryd.func80.trans (congrArg some (by kernel_rfl))
  f337 := Tryd.func81.trans (congrArg some (by kernel_rfl))
  f338 := Tryd.func82.trans (congrArg some (by kernel_rfl))
  t0 := Tryd.underlying0
  a0 := Tryd.isAgg0
  z0 := Tryd.sizeOf0
  v0 := Tryd.zeroValue0
  t2 := Tryd.underlying2
  a2 := Tryd.isAgg2
  z2 := Tryd.sizeOf2
  v2 := Tryd.zeroValue2
  t3 := Tryd.underlying3
  a3 := Tryd.isAgg3
  z3 := Tryd.sizeOf3
  v3 := Tryd.zeroValue3
  t4 := Tryd.underlying4
  a4 := Tryd.isAgg4
  z4 := Tryd.sizeOf4
  v4 := Tryd.zeroValue4
  t5 := Tryd.underlying5
  a5 := Tryd.isAgg5
  z5 := Tryd.sizeOf5
  v5 := Tryd.zeroValue5
  t9 := Tryd.underlying9
  a9 := Tryd.isAgg9
  z9 := Tryd.sizeOf9
  v9 := Tryd.zeroValue9
  t20 := Tryd.underlying20
  a20 := Tryd.isAgg20
  z20 := Tryd.sizeOf20
  v20 := Tryd.zeroValue20
  t21 := Tryd.underlying21
  a21 := Tryd.isAgg21
  z21 := Tryd.sizeOf21
  v21 := Tryd.zeroValue21
  t37 := Tryd.underlying35
  a37 := Tryd.isAgg35
  z37 := Tryd.sizeOf35
  v37 := Tryd.zeroValue35
  t46 := Tryd.underlying85
  a46 := Tryd.isAgg85
  z46 := Tryd.sizeOf85
  v46 := Tryd.zeroValue85
  t51 := Tryd.underlying93
  a51 := Tryd.isAgg93
  z51 := Tryd.sizeOf93
  v51 := Tryd.zeroValue93
  t53 := Tryd.underlying75
  a53 := Tryd.isAgg75
  z53 := Tryd.sizeOf75
  v53 := Tryd.zeroValue75
  t75 := Tryd.underlying39
  a75 := Tryd.isAgg39
  z75 := Tryd.sizeOf39
  v75 := Tryd.zeroValue39
  t76 := Tryd.underlying40
  a76 := Tryd.isAgg40
  z76 := Tryd.sizeOf40
  v76 := Tryd.zeroValue40
  t85 := Tryd.underlying69
  a85 := Tryd.isAgg69
  z85 := Tryd.sizeOf69
  v85 := Tryd.zeroValue69
  t127 := Tryd.underlying48
  a127 := Tryd.isAgg48
  z127 := Tryd.sizeOf48
  v127 := Tryd.zeroValue48
  t143 := Tryd.underlying104
  a143 := Tryd.isAgg104
  z143 := Tryd.sizeOf104
  v143 := Tryd.zeroValue104
  t145 := Tryd.underlying106
  a145 := Tryd.isAgg106
  z145 := Tryd.sizeOf106
  v145 := Tryd.zeroValue106
  t167 := Tryd.underlying68
  a167 := Tryd.isAgg68
  z167 := Tryd.sizeOf68
  v167 := Tryd.zeroValue68
  t168 := Tryd.underlying71
  a168 := Tryd.isAgg71
  z168 := Tryd.sizeOf71
  v168 := Tryd.zeroValue71
  t171 := Tryd.underlying74
  a171 := Tryd.isAgg74
  z171 := Tryd.sizeOf74
  v171 := Tryd.zeroValue74
  t173 := Tryd.underlying78
  a173 := Tryd.isAgg78
  z173 := Tryd.sizeOf78
  v173 := Tryd.zeroValue78
  t175 := Tryd.underlying83
  a175 := Tryd.isAgg83
  z175 := Tryd.sizeOf83
  v175 := Tryd.zeroValue83
  t210 := Tryd.underlying88
  a210 := Tryd.isAgg88
  z210 := Tryd.sizeOf88
  v210 := Tryd.zeroValue88
  t212 := Tryd.underlying92
  a212 := Tryd.isAgg92
  z212 := Tryd.sizeOf92
  v212 := Tryd.zeroValue92
  t213 := Tryd.underlying94
  a213 := Tryd.isAgg94
  z213 := Tryd.sizeOf94
  t232 := Tryd.underlying108
  a232 := Tryd.isAgg108
  z232 := Tryd.sizeOf108
  v232 := Tryd.zeroValue108
  t233 := Tryd.underlying109
  a233 := Tryd.isAgg109
  z233 := Tryd.sizeOf109
  v233 := Tryd.zeroValue109
  g15 := by kernel_rfl
  g16 := by kernel_rfl
  g17 := by kernel_rfl
  g18 := by kernel_rfl
  g19 := by kernel_rfl
  t80 := Tryd.underlying42
  a80 := Tryd.isAgg42
  z80 := Tryd.sizeOf42
  v80 := Tryd.zeroValue42
  i0 := by kernel_rfl
  i2 := by kernel_rfl
  i3 := by kernel_rfl
  i4 := by kernel_rfl
  i5 := by kernel_rfl
  i9 := by kernel_rfl
  i20 := by kernel_rfl
  i21 := by kernel_rfl
  i37 := by kernel_rfl
  i46 := by kernel_rfl
  i51 := by kernel_rfl
  i53 := by kernel_rfl
  i75 := by kernel_rfl
  i76 := by kernel_rfl
  i80 := by kernel_rfl
  i85 := by kernel_rfl
  i127 := by kernel_rfl
  i143 := by kernel_rfl
  i145 := by kernel_rfl
  i167 := by kernel_rfl
  i168 := by kernel_rfl
  i171 := by kernel_rfl
  i173 := by kernel_rfl
  i175 := by kernel_rfl
  i210 := by kernel_rfl
  i212 := by kernel_rfl
  i232 := by kernel_rfl
  i233 := by kernel_rfl
  m15 := by kernel_rfl
  m16 := by kernel_rfl
  m17 := by kernel_rfl
  m18 := by kernel_rfl
  m19 := by kernel_rfl
  c0 := by kernel_rfl
  c2 := by kernel_rfl
  c3 := by kernel_rfl
  c4 := by kernel_rfl
  c5 := by kernel_rfl
  c9 := by kernel_rfl
  c20 := by kernel_rfl
  c21 := by kernel_rfl
  c37 := by kernel_rfl
  c46 := by kernel_rfl
  c51 := by kernel_rfl
  c53 := by kernel_rfl
  c75 := by kernel_rfl
  c76 := by kernel_rfl
  c80 := by kernel_rfl
  c85 := by kernel_rfl
  c127 := by kernel_rfl
  c143 := by kernel_rfl
  c145 := by kernel_rfl
  c167 := by kernel_rfl
  c168 := by kernel_rfl
  c171 := by kernel_rfl
  c173 := by kernel_rfl
  c175 := by kernel_rfl
  c210 := by kernel_rfl
  c212 := by kernel_rfl
  c213 := by kernel_rfl
  c232 := by kernel_rfl
  c233 := by kernel_rfl }

/-! ### strconv_Atoi: function 27, strconv.Atoi, by the kit's contract, Lib4 Lib7 Lib8 -/
noncomputable def strconv_Atoi.f (N : Nat) (a : List PV) : Option (List PV) := atoiDen a
noncomputable def strconv_Atoi.S (N : Nat) : ASpec := ⟨[(9, .ro)], [(3, .val), (39, .err)], strconv_Atoi.f N⟩
theorem strconv_Atoi.ok (N : Nat) : FnOk Tryd.prog 27 (strconv_Atoi.S N) := fnOk_atoi laysC172 rfl ⟨_, Tryd.func27, by kernel_rfl, by kernel_rfl⟩ (fun ok w h => iface_fact (g := 0) h (by simp)) (fun ok w h => iface_fact (g := 1) h (by simp)) (by kernel_rfl) (by kernel_rfl)

/-! ### impl_within: function 42, loop.example/medlar/impl.within -/
noncomputable def impl_within.E (N : Nat) : Env := ⟨lk [], nzk [], N, [], false⟩
noncomputable def impl_within.f (N : Nat) (a : List PV) : Option Res := run Tryd.prog (impl_within.E N) Tryd.f42 [(3, .ro), (3, .ro), (3, .ro)] [(4, .val)] a
theorem impl_within.f_eq (N : Nat) (a0 : PV) (a1 : PV) (a2 : PV) : impl_within.f N [a0, a1, a2] = if decide (a1.toInt ≤ a0.toInt) = true then (some [(PV.sc (.bool (decide (a0.toInt ≤ a2.toInt))))]) else (some [(PV.sc (.bool false))]) := by kernel_rfl
noncomputable def impl_within.S (N : Nat) : ASpec := ⟨[(3, .ro), (3, .ro), (3, .ro)], [(4, .val)], impl_within.f N⟩
theorem impl_within.ok (N : Nat) : FnOk Tryd.prog 42 (impl_within.S N) := fnOk_of (E := impl_within.E N) mix Tryd.func42 (by kernel_rfl) (by kernel_rfl) (by kernel_rfl) (lk_ok all_nil) (by kernel_rfl) (fun _ _ h => h)

/-! ### impl_lower: function 43, loop.example/medlar/impl.lower -/
noncomputable def impl_lower.E (N : Nat) : Env := ⟨lk [], nzk [(2, ⟨[1, 2, 3, 4, 7, 8, 9, 10, 11, 12, 13, 14, 15, 16, 17, 18, 19], [], []⟩)], N, [], false⟩
noncomputable def impl_lower.f (N : Nat) (a : List PV) : Option Res := run Tryd.prog (impl_lower.E N) Tryd.f43 [(9, .ro)] [(4, .val)] a
noncomputable def impl_lower.l0 (N : Nat) (n : Nat) (x0 : ByteArray) (x5 : Int) (x6 : Int) : Option Res := loopAt Tryd.prog (impl_lower.E N) Tryd.f43 [(4, .val)] [1, 0, 1, 0] [] n ⟨mkSlots 20 [(0, .sc (.string x0)), (5, .sc (.int .i64 x5)), (6, .sc (.int .i64 x6))], ohOf []⟩
theorem impl_lower.f_eq (N : Nat) (a0 : PV) : impl_lower.f N [a0] = impl_lower.l0 N N a0.toStr (a0.toStr.size : Int) 0 := by kernel_rfl
theorem impl_lower.l0_eq (N : Nat) (n : Nat) (x0 : ByteArray) (x5 : Int) (x6 : Int) : impl_lower.l0 N (n + 1) x0 x5 x6 = if decide (x6 < x5) = true then (if 0 ≤ x6 then (if x6 < (x0.size : Int) then (if decide (((x0.get! x6.toNat).toNat : Int) < 97) = false then (if 0 ≤ x6 then (if x6 < (x0.size : Int) then (if decide (122 < ((x0.get! x6.toNat).toNat : Int)) = true then (some [(PV.sc (.bool false))]) else (impl_lower.l0 N n x0 x5 (IntKind.i64.wrap (x6 + 1)))) else none) else none) else (some [(PV.sc (.bool false))])) else none) else none) else (some [(PV.sc (.bool true))]) := by kernel_rfl
noncomputable def impl_lower.S (N : Nat) : ASpec := ⟨[(9, .ro)], [(4, .val)], impl_lower.f N⟩
theorem impl_lower.ok (N : Nat) : FnOk Tryd.prog 43 (impl_lower.S N) := fnOk_of (E := impl_lower.E N) mix Tryd.func43 (by kernel_rfl) (by kernel_rfl) (by kernel_rfl) (lk_ok all_nil) (by kernel_rfl) (fun _ _ h => h)

/-! ### impl_WordOk: function 30, loop.example/medlar/impl.WordOk -/
noncomputable def impl_WordOk.E (N : Nat) : Env := ⟨lk [(42, impl_within.S N), (43, impl_lower.S N)], nzk [], N, [], false⟩
noncomputable def impl_WordOk.f (N : Nat) (a : List PV) : Option Res := run Tryd.prog (impl_WordOk.E N) Tryd.f30 [(9, .ro)] [(4, .val)] a
theorem impl_WordOk.f_eq (N : Nat) (a0 : PV) : impl_WordOk.f N [a0] = (impl_within.f N [(PV.sc (.int .i64 (a0.toStr.size : Int))), (PV.sc (.int .i64 1)), (PV.sc (.int .i64 12))]).bind fun t1 => if (t1.headD default).toBool = true then ((impl_lower.f N [(PV.sc (.string a0.toStr))]).bind fun t2 => some [(PV.sc (.bool ((t2.headD default).toBool)))]) else (some [(PV.sc (.bool false))]) := by kernel_rfl
noncomputable def impl_WordOk.S (N : Nat) : ASpec := ⟨[(9, .ro)], [(4, .val)], impl_WordOk.f N⟩
theorem impl_WordOk.ok (N : Nat) : FnOk Tryd.prog 30 (impl_WordOk.S N) := fnOk_of (E := impl_WordOk.E N) mix Tryd.func30 (by kernel_rfl) (by kernel_rfl) (by kernel_rfl) (lk_ok (all_cons (impl_within.ok N) (all_cons (impl_lower.ok N) all_nil))) (by kernel_rfl) (fun _ _ h => h)

/-! ### impl_wordsOk: function 17, loop.example/medlar/impl.wordsOk -/
noncomputable def impl_wordsOk.E (N : Nat) : Env := ⟨lk [(30, impl_WordOk.S N)], nzk [(2, ⟨[2, 3, 4, 5, 6, 10, 11, 12, 13, 14, 15, 16, 17, 18, 19, 20, 21, 22, 23, 24, 25, 26, 27, 28, 29, 30, 31, 32, 33, 34], [], []⟩)], N, [], false⟩
noncomputable def impl_wordsOk.f (N : Nat) (a : List PV) : Option Res := run Tryd.prog (impl_wordsOk.E N) Tryd.f17 [(22, .ro), (3, .ro)] [(4, .val)] a
noncomputable def impl_wordsOk.l0 (N : Nat) (n : Nat) (x0 : PV) (x1 : Int) (x7 : PV) (x8 : Int) (x9 : Int) : Option Res := loopAt Tryd.prog (impl_wordsOk.E N) Tryd.f17 [(4, .val)] [1, 0, 1, 0] [] n ⟨mkSlots 35 [(0, .ro 22 x0), (1, .sc (.int .i64 x1)), (7, .ro 22 x7), (8, .sc (.int .i64 x8)), (9, .sc (.int .i64 x9))], ohOf []⟩
theorem impl_wordsOk.f_eq (N : Nat) (a0 : PV) (a1 : PV) : impl_wordsOk.f N [a0, a1] = impl_wordsOk.l0 N N a0 a1.toInt a0 (a0.items.length : Int) 0 := by kernel_rfl
theorem impl_wordsOk.l0_eq (N : Nat) (n : Nat) (x0 : PV) (x1 : Int) (x7 : PV) (x8 : Int) (x9 : Int) : impl_wordsOk.l0 N (n + 1) x0 x1 x7 x8 x9 = if decide (x9 < x8) = true then (if 0 ≤ x9 then (if x9 < (x7.items.length : Int) then ((impl_WordOk.f N [(PV.sc (.string ((x7.elem x9.toNat).toStr)))]).bind fun t1 => if (!((t1.headD default).toBool)) = false then (if decide (0 < x9) = true then (if 0 ≤ (IntKind.i64.wrap (x9 - 1)) then (if (IntKind.i64.wrap (x9 - 1)) < (x0.items.length : Int) then (if (!Op.bytesLess ((x0.elem ((IntKind.i64.wrap (x9 - 1)).toNat)).toStr).toList ((x7.elem x9.toNat).toStr).toList) = true then (some [(PV.sc (.bool false))]) else (impl_wordsOk.l0 N n x0 x1 x7 x8 (IntKind.i64.wrap (x9 + 1)))) else none) else none) else (impl_wordsOk.l0 N n x0 x1 x7 x8 (IntKind.i64.wrap (x9 + 1)))) else (some [(PV.sc (.bool false))])) else none) else none) else (some [(PV.sc (.bool (decide ((x0.items.length : Int) ≤ x1))))]) := by kernel_rfl
noncomputable def impl_wordsOk.S (N : Nat) : ASpec := ⟨[(22, .ro), (3, .ro)], [(4, .val)], impl_wordsOk.f N⟩
theorem impl_wordsOk.ok (N : Nat) : FnOk Tryd.prog 17 (impl_wordsOk.S N) := fnOk_of (E := impl_wordsOk.E N) mix Tryd.func17 (by kernel_rfl) (by kernel_rfl) (by kernel_rfl) (lk_ok (all_cons (impl_WordOk.ok N) all_nil)) (by kernel_rfl) (fun _ _ h => h)

/-! ### impl_Beginning: function 18, loop.example/medlar/impl.Beginning -/
noncomputable def impl_Beginning.E (N : Nat) : Env := ⟨lk [], nzk [(2, ⟨[2, 3, 4, 6, 7, 8, 9, 10, 11, 12, 13, 14, 15, 16, 17, 18, 19, 20, 21, 22, 23, 24, 25, 26, 27, 28, 29], [], []⟩)], N, [], false⟩
noncomputable def impl_Beginning.f (N : Nat) (a : List PV) : Option Res := run Tryd.prog (impl_Beginning.E N) Tryd.f18 [(9, .ro), (9, .ro)] [(9, .val)] a
noncomputable def impl_Beginning.l0 (N : Nat) (n : Nat) (x0 : ByteArray) (x1 : ByteArray) (x5 : Int) : Option Res := loopAt Tryd.prog (impl_Beginning.E N) Tryd.f18 [(9, .val)] [1, 1, 0, 0] [] n ⟨mkSlots 30 [(0, .sc (.string x0)), (1, .sc (.string x1)), (5, .sc (.int .i64 x5))], ohOf []⟩
theorem impl_Beginning.f_eq (N : Nat) (a0 : PV) (a1 : PV) : impl_Beginning.f N [a0, a1] = impl_Beginning.l0 N N a0.toStr a1.toStr 0 := by kernel_rfl
theorem impl_Beginning.l0_eq (N : Nat) (n : Nat) (x0 : ByteArray) (x1 : ByteArray) (x5 : Int) : impl_Beginning.l0 N (n + 1) x0 x1 x5 = if decide (x5 < (x0.size : Int)) = true then (if decide (x5 < (x1.size : Int)) = true then (if 0 ≤ x5 then (if x5 < (x0.size : Int) then (if 0 ≤ x5 then (if x5 < (x1.size : Int) then (if decide (((x0.get! x5.toNat).toNat : Int) = ((x1.get! x5.toNat).toNat : Int)) = true then (impl_Beginning.l0 N n x0 x1 (IntKind.i64.wrap (x5 + 1))) else (if 0 ≤ x5 then (if x5 ≤ (x0.size : Int) then (some [(PV.sc (.string (x0.extract 0 x5.toNat)))]) else none) else none)) else none) else none) else none) else none) else (if 0 ≤ x5 then (if x5 ≤ (x0.size : Int) then (some [(PV.sc (.string (x0.extract 0 x5.toNat)))]) else none) else none)) else (if 0 ≤ x5 then (if x5 ≤ (x0.size : Int) then (some [(PV.sc (.string (x0.extract 0 x5.toNat)))]) else none) else none) := by kernel_rfl
noncomputable def impl_Beginning.S (N : Nat) : ASpec := ⟨[(9, .ro), (9, .ro)], [(9, .val)], impl_Beginning.f N⟩
theorem impl_Beginning.ok (N : Nat) : FnOk Tryd.prog 18 (impl_Beginning.S N) := fnOk_of (E := impl_Beginning.E N) mix Tryd.func18 (by kernel_rfl) (by kernel_rfl) (by kernel_rfl) (lk_ok all_nil) (by kernel_rfl) (fun _ _ h => h)

def laysM171_ren : Go.Shelf.Ren := ⟨fun | 171 => 20 | 243 => 32 | 246 => 45 | 283 => 55 | 284 => 56 | 285 => 57 | 286 => 58 | 129 => 68 | 317 => 67 | 318 => 69 | 319 => 70 | 320 => 71 | 337 => 81 | 338 => 82 | n => n, fun | 3 => 3 | 9 => 9 | 2 => 2 | 4 => 4 | 171 => 74 | 0 => 0 | 53 => 75 | 37 => 35 | 5 => 5 | 173 => 78 | 212 => 92 | 51 => 93 | 20 => 20 | 213 => 94 | 46 => 85 | 232 => 108 | 233 => 109 | n => n, fun | 17 => 2 | 18 => 6 | 19 => 7 | n => n⟩
theorem laysM171 : Go.Proofs.LaysM.n171 Tryd.prog laysM171_ren := {
  mixed := by kernel_rfl
  f129 := Tryd.func68.trans (congrArg some (by kernel_rfl))
  f171 := Tryd.func20.trans (congrArg some (by kernel_rfl))
  f243 := Tryd.func32.trans (congrArg some (by kernel_rfl))
  f246 := Tryd.func45.trans (congrArg some (by kernel_rfl))
  f283 := Tryd.func55.trans (congrArg some (by kernel_rfl))
  f284 := Tryd.func56.trans (congrArg some (by kernel_rfl))
  f285 := Tryd.func57.trans (congrArg some (by kernel_rfl))
  f286 := Tryd.func58.trans (congrArg some (by kernel_rfl))
  f317 := Tryd.func67.trans (congrArg some (by kernel_rfl))
  f318 := Tryd.func69.trans (congrArg some (by kernel_rfl))
  f319 := Tryd.func70.trans (congrArg some (by kernel_rfl))
  f320 := Tryd.func71.trans (congrArg some (by kernel_rfl))
  f337 := Tryd.func81.trans (congrArg some (by kernel_rfl))
  f338 := Tryd.func82.trans (congrArg some (by kernel_rfl))
  t0 := Tryd.underlying0
  a0 := Tryd.isAgg0
  z0 := Tryd.sizeOf0
  v0 := Tryd.zeroValue0
  t2 := Tryd.underlying2
  a2 := Tryd.isAgg2
  z2 := Tryd.sizeOf2
  v2 := Tryd.zeroValue2
  t3 := Tryd.underlying3
  a3 := Tryd.isAgg3
  z3 := Tryd.sizeOf3
  v3 := Tryd.zeroValue3
  t4 := Tryd.underlying4
  a4 := Tryd.isAgg4
  z4 := Tryd.sizeOf4
  v4 := Tryd.zeroValue4
  t5 := Tryd.underlying5
  a5 := Tryd.isAgg5
  z5 := Tryd.sizeOf5
  v5 := Tryd.zeroValue5
  t9 := Tryd.underlying9
  a9 := Tryd.isAgg9
  z9 := Tryd.sizeOf9
  v9 := Tryd.zeroValue9
  t20 := Tryd.underlying20
  a20 := Tryd.isAgg20
  z20 := Tryd.sizeOf20
  v20 := Tryd.zeroValue20
  t37 := Tryd.underlying35
  a37 := Tryd.isAgg35
  z37 := Tryd.sizeOf35
  v37 := Tryd.zeroValue35
  t46 := Tryd.underlying85
  a46 := Tryd.isAgg85
  z46 := Tryd.sizeOf85
  v46 := Tryd.zeroValue85
  t51 := Tryd.underlying93
  a51 := Tryd.isAgg93
  z51 := Tryd.sizeOf93
  v51 := Tryd.zeroValue93
  t53 := Tryd.underlying75
  a53 := Tryd.isAgg75
  z53 := Tryd.sizeOf75
  v53 := Tryd.zeroValue75
  t171 := Tryd.underlying74
  a171 := Tryd.isAgg74
  z171 := Tryd.sizeOf74
  v171 := Tryd.zeroValue74
  t173 := Tryd.underlying78
  a173 := Tryd.isAgg78
  z173 := Tryd.sizeOf78
  v173 := Tryd.zeroValue78
  t212 := Tryd.underlying92
  a212 := Tryd.isAgg92
  z212 := Tryd.sizeOf92
  v212 := Tryd.zeroValue92
  t213 := Tryd.underlying94
  a213 := Tryd.isAgg94
  z213 := Tryd.sizeOf94
  t232 := Tryd.underlying108
  a232 := Tryd.isAgg108
  z232 := Tryd.sizeOf108
  v232 := Tryd.zeroValue108
  t233 := Tryd.underlying109
  a233 := Tryd.isAgg109
  z233 := Tryd.sizeOf109
  v233 := Tryd.zeroValue109
  g17 := by kernel_rfl
  g18 := by kernel_rfl
  g19 := by kernel_rfl
  i0 := by kernel_rfl
  i2 := by kernel_rfl
  i3 := by kernel_rfl
  i4 := by kernel_rfl
  i5 := by kernel_rfl
  i9 := by kernel_rfl
  i20 := by kernel_rfl
  i37 := by kernel_rfl
  i46 := by kernel_rfl
  i51 := by kernel_rfl
  i53 := by kernel_rfl
  i171 := by kernel_rfl
  i173 := by kernel_rfl
  i212 := by kernel_rfl
  i232 := by kernel_rfl
  i233 := by kernel_rfl
  m17 := by kernel_rfl
  m18 := by kernel_rfl
  m19 := by kernel_rfl }

/-! ### strconv_Itoa: function 20, strconv.Itoa, by the kit's contract, Lib4 Lib7 -/
noncomputable def strconv_Itoa.f (N : Nat) (a : List PV) : Option (List PV) := itoaDen a
noncomputable def strconv_Itoa.S (N : Nat) : ASpec := ⟨[(3, .ro)], [(9, .val)], strconv_Itoa.f N⟩
theorem strconv_Itoa.ok (N : Nat) : FnOk Tryd.prog 20 (strconv_Itoa.S N) := fnOk_itoa laysM171 rfl ⟨_, Tryd.func20, by kernel_rfl, by kernel_rfl⟩ (fun ok w h => tab_of (g := 2) (by kernel_rfl) h (by simp)) (by kernel_rfl) (by kernel_rfl)

/-! ### impl_FrontPut: function 8, loop.example/medlar/impl.FrontPut, walked by hand -/
section
open Go.RowKit Go.Shelf Go.Proofs
def lays166_ren : Go.Shelf.Ren := ⟨fun | 166 => 19 | 240 => 31 | 276 => 44 | n => n, fun | 70 => 34 | 72 => 37 | 37 => 35 | 75 => 39 | 80 => 42 | 164 => 60 | n => n, fun | n => n⟩
theorem lays166 : Go.Proofs.Lays.n166 Tryd.prog lays166_ren := {
  mixed := by kernel_rfl
  f166 := Tryd.func19.trans (congrArg some (by kernel_rfl))
  f240 := Tryd.func31.trans (congrArg some (by kernel_rfl))
  f276 := Tryd.func44.trans (congrArg some (by kernel_rfl))
  t0 := Tryd.underlying0
  a0 := Tryd.isAgg0
  z0 := Tryd.sizeOf0
  v0 := Tryd.zeroValue0
  t3 := Tryd.underlying3
  a3 := Tryd.isAgg3
  z3 := Tryd.sizeOf3
  v3 := Tryd.zeroValue3
  t4 := Tryd.underlying4
  a4 := Tryd.isAgg4
  z4 := Tryd.sizeOf4
  v4 := Tryd.zeroValue4
  t9 := Tryd.underlying9
  a9 := Tryd.isAgg9
  z9 := Tryd.sizeOf9
  v9 := Tryd.zeroValue9
  t20 := Tryd.underlying20
  a20 := Tryd.isAgg20
  z20 := Tryd.sizeOf20
  v20 := Tryd.zeroValue20
  t37 := Tryd.underlying35
  a37 := Tryd.isAgg35
  z37 := Tryd.sizeOf35
  v37 := Tryd.zeroValue35
  t70 := Tryd.underlying34
  a70 := Tryd.isAgg34
  z70 := Tryd.sizeOf34
  v70 := Tryd.zeroValue34
  t72 := Tryd.underlying37
  a72 := Tryd.isAgg37
  z72 := Tryd.sizeOf37
  v72 := Tryd.zeroValue37
  t75 := Tryd.underlying39
  a75 := Tryd.isAgg39
  z75 := Tryd.sizeOf39
  v75 := Tryd.zeroValue39
  t164 := Tryd.underlying60
  a164 := Tryd.isAgg60
  z164 := Tryd.sizeOf60
  v164 := Tryd.zeroValue60 }
theorem Builder_Extra_166 : Go.Proofs.Builder.Extra Tryd.prog lays166_ren := {
  sizeBuilder := by kernel_rfl
  liesBuilder := by kernel_rfl
  t5 := Tryd.underlying5
  a5 := Tryd.isAgg5
  z5 := Tryd.sizeOf5
  v5 := Tryd.zeroValue5
  infoByte := by kernel_rfl
  cellsByte := by kernel_rfl
  sizeByte := by kernel_rfl
  neB5 := by decide }
def lays169_ren : Go.Shelf.Ren := ⟨fun | 169 => 21 | n => n, fun | 70 => 34 | 9 => 9 | 0 => 0 | 72 => 37 | 37 => 35 | 127 => 48 | 3 => 3 | 5 => 5 | n => n, fun | n => n⟩
theorem lays169 : Go.Proofs.Lays.n169 Tryd.prog lays169_ren := {
  mixed := by kernel_rfl
  f169 := Tryd.func21.trans (congrArg some (by kernel_rfl))
  t0 := Tryd.underlying0
  a0 := Tryd.isAgg0
  z0 := Tryd.sizeOf0
  v0 := Tryd.zeroValue0
  t3 := Tryd.underlying3
  a3 := Tryd.isAgg3
  z3 := Tryd.sizeOf3
  v3 := Tryd.zeroValue3
  t9 := Tryd.underlying9
  a9 := Tryd.isAgg9
  z9 := Tryd.sizeOf9
  v9 := Tryd.zeroValue9
  t37 := Tryd.underlying35
  a37 := Tryd.isAgg35
  z37 := Tryd.sizeOf35
  v37 := Tryd.zeroValue35
  t70 := Tryd.underlying34
  a70 := Tryd.isAgg34
  z70 := Tryd.sizeOf34
  v70 := Tryd.zeroValue34
  t72 := Tryd.underlying37
  a72 := Tryd.isAgg37
  z72 := Tryd.sizeOf37
  v72 := Tryd.zeroValue37
  t127 := Tryd.underlying48
  a127 := Tryd.isAgg48
  z127 := Tryd.sizeOf48
  v127 := Tryd.zeroValue48 }
theorem Builder_Extra_169 : Builder.Extra Tryd.prog lays169_ren := {
  sizeBuilder := by kernel_rfl
  liesBuilder := by kernel_rfl
  t5 := Tryd.underlying5
  a5 := Tryd.isAgg5
  z5 := Tryd.sizeOf5
  v5 := Tryd.zeroValue5
  infoByte := by kernel_rfl
  cellsByte := by kernel_rfl
  sizeByte := by kernel_rfl
  neB5 := by decide }

theorem own_below {W W' : World} {B sz n : Nat} {e : TypeId} {v : Value} {xs : List Value} (h : W.ownsRowF B e sz v n xs) (hb : Below W.heap.size W W') : W'.ownsRowF B e sz v n xs :=
  ⟨h.1, h.2.imp id fun ⟨g, cap, cur, fz, h1, h2, h3, h4⟩ => ⟨g, cap, cur, fz, h1, h2, (hb.block g (Array.getElem?_eq_some_iff.1 h3).1).trans h3, h4⟩⟩
theorem bld_below {T e : TypeId} {B b : Nat} {bs : List Value} {W W' : World} (h : Lib.IsBuilderF T e B b bs W) (hb : Below W.heap.size W W') : Lib.IsBuilderF T e B b bs W' := by
  have one : ∀ p, Lib.BuilderAtF T e B b p bs W → Lib.BuilderAtF T e B b p bs W' := fun p ⟨h0, v, h1, h2, h3⟩ =>
    ⟨h0, v, (hb.block b (Array.getElem?_eq_some_iff.1 h1).1).trans h1, own_below h2 hb, h3⟩
  exact h.elim (fun x => .inl (one _ x)) (fun x => .inr (one _ x))
theorem bld_drew {T e : TypeId} {B b : Nat} {bs : List Value} {W : World} (h : Lib.IsBuilderF T e B b bs W) : Lib.IsBuilderF T e B b bs W.drew := h.elim (fun x => .inl x.drew) (fun x => .inr x.drew)
theorem wrap64_id (x : Int) (h0 : -9223372036854775808 ≤ x) (h1 : x < 9223372036854775808) : wrap64 x = x := by
  unfold wrap64; omega
theorem below_undrew {W W' : World} (h : Below W.drew.heap.size W.drew W') : Below W.heap.size W W' := ⟨h.os, h.tape, h.output, h.size, h.block⟩
theorem less_next {n i : Nat} (h : i < n) : n - ((i + 1 : Nat) : Int).toNat < n - ((i : Nat) : Int).toNat := by
  rw [Int.toNat_natCast, Int.toNat_natCast]; omega
theorem next_id {n i : Nat} (h : i < n) (hn : n ≤ 1099511627776) : wrap64 ((i : Int) + 1) = ((i + 1 : Nat) : Int) := by
  rw [wrap64_id _ (by omega) (by omega)]; omega
theorem acc_cells (a l : ByteArray) : Lib.byteCells (a ++ l).data.toList = Lib.byteCells a.data.toList ++ Lib.strCells l := by
  rw [Lib.strCells_eq, ← Lib.byteCells_append]
  simp [ByteArray.data_append]
theorem strs_items_len (ns : List ByteArray) : (strsP ns).items.length = ns.length := by simp [strsP, PV.items]
theorem wr_ok (B b : Nat) (bs : List Value) (s : ByteArray) (w : World) (h : Lib.IsBuilderF 37 5 B b bs w) (hlen : bs.length + s.size ≤ 140737488355328) (hBw : B ≤ w.heap.size) :
    Calls Tryd.prog 19 #[.pointer (some ⟨b, 0, none⟩), .string s] w fun e w' => e = .returned (.tuple #[.int .i64 s.size, .nilIface]) ∧ Lib.IsBuilderF 37 5 B b (bs ++ Lib.strCells s) w' ∧ Below B w w' :=
  (Any.Builder_WriteString_f lays166 Builder_Extra_166 B b bs s w h hlen hBw).mono fun e w' ⟨h1, h2, h3⟩ => ⟨h1, .inr h2, h3⟩
theorem st_ok (B b : Nat) (l : List UInt8) (w : World) (h : Lib.IsBuilderF 37 5 B b (Lib.byteCells l) w) (hBw : B ≤ w.heap.size) :
    Calls Tryd.prog 21 #[.pointer (some ⟨b, 0, none⟩)] w fun e w' => e = .returned (.string ⟨l.toArray⟩) ∧ Below B w w' :=
  (Any.Builder_String_any_f lays169 Builder_Extra_169 B b l w h hBw).mono fun e w' ⟨h1, _, h3⟩ => ⟨h1, h3⟩
theorem rd_strsV {P : Program} [Glb P] {ok : Nat → Prop} {w : World} {t e : TypeId} {p : PV} {v : Value} (h : RdV P ok w t p v) (ht : tk P t = .slice e) (he : tk P e = .str) :
    ∃ A cap ns, v = .slice A ns.length cap ∧ p = strsP ns ∧ ns.length ≤ cap ∧ (0 < ns.length → ∃ ad, A = some ad ∧ ok ad.block ∧ ∀ j s, ns[j]? = some s → w.cell? (ad.add j) = some (.string s)) := by
  obtain ⟨n, cs, h1, h2⟩ := h
  cases n with
  | zero => exact h1.elim
  | succ n =>
    unfold Rd at h1
    simp only [ht] at h1
    obtain ⟨A, cap, ps, rfl, rfl, hc, hr⟩ := h1
    rw [valOf_one (fun fs => by rw [ht]; simp)] at h2
    have hsz : YtpnbhcifhbnaaaaDoorAm.sizeOf P e = 1 := by
      have := tk_size (P := P) (t := e) (by rw [he]; simp)
      rw [this, he]; rfl
    have hps : 0 < ps.length → ∃ ad, A = some ad ∧ ok ad.block ∧ ∀ j q, ps[j]? = some q → ∃ s, q = strP s ∧ w.cell? (ad.add j) = some (.string s) := fun h0 => by
      obtain ⟨ad, a1, a2, a3⟩ := hr h0
      refine ⟨ad, a1, a2, fun j q hj => ?_⟩
      obtain ⟨c, c1, c2, c3⟩ := a3 j q hj
      cases n with
      | zero => exact c3.elim
      | succ n =>
        unfold Rd at c3
        simp only [he] at c3
        obtain ⟨s, rfl, rfl⟩ := c3
        refine ⟨s, rfl, ?_⟩
        have := c2 0 (.string s) rfl
        rw [hsz] at this
        simpa using this
    have hall : ∀ q ∈ ps, ∃ s, q = strP s := fun q hq => by
      obtain ⟨j, hj, hjq⟩ := List.getElem_of_mem hq
      obtain ⟨ad, _, _, h3⟩ := hps (by omega)
      obtain ⟨s, hs, _⟩ := h3 j q (by rw [List.getElem?_eq_getElem hj, hjq])
      exact ⟨s, hs⟩
    have hmap : (ps.map PV.toStr).map strP = ps := by
      rw [List.map_map]
      conv => rhs; rw [← List.map_id ps]
      apply List.map_congr_left
      intro q hq
      obtain ⟨s, rfl⟩ := hall q hq
      rfl
    refine ⟨A, cap, ps.map PV.toStr, by rw [h2, List.length_map], by rw [strsP, hmap], by rw [List.length_map]; exact hc, fun h0 => ?_⟩
    rw [List.length_map] at h0
    obtain ⟨ad, a1, a2, a3⟩ := hps h0
    refine ⟨ad, a1, a2, fun j s hj => ?_⟩
    rw [List.getElem?_map] at hj
    cases hq : ps[j]? with
    | none => rw [hq] at hj; cases hj
    | some q =>
      rw [hq] at hj
      obtain ⟨s', rfl, h4⟩ := a3 j q hq
      simp only [Option.map_some] at hj
      injection hj with hj
      have : s' = s := hj
      rw [← this]; exact h4
noncomputable def impl_FrontPut.g (N : Nat) : List ByteArray → ByteArray → ByteArray → Option ByteArray
  | [], _, acc => some acc
  | w :: r, last, acc => (impl_Beginning.f N [strP last, strP w]).bind fun t =>
      if (t.headD default).toStr.size ≤ w.size ∧ (t.headD default).toStr.size ≤ 1099511627776 then
        (if acc.size + (itoaB ((t.headD default).toStr.size : Int) ++ w.extract (t.headD default).toStr.size w.size ++ ByteArray.mk #[10]).size ≤ 140737488355328 then impl_FrontPut.g N r w (acc ++ (itoaB ((t.headD default).toStr.size : Int) ++ w.extract (t.headD default).toStr.size w.size ++ ByteArray.mk #[10])) else none) else none
noncomputable def impl_FrontPut.f (N : Nat) (a : List PV) : Option (List PV) := match a with
  | [a0] => if a0.items.length ≤ 1099511627776 then (impl_wordsOk.f N [a0, intP 300]).bind fun t => if (!((t.headD default).toBool)) = true then some [strP ⟨#[]⟩] else (impl_FrontPut.g N (a0.items.map PV.toStr) ⟨#[]⟩ ⟨#[]⟩).bind fun s => some [strP s] else none
  | _ => none
noncomputable def impl_FrontPut.S (N : Nat) : ASpec := ⟨[(22, .ro)], [(9, .val)], impl_FrontPut.f N⟩
theorem below_step {w w' : World} (h : Step w w' (fun k => k ∈ ([] : List Nat))) : Below w.heap.size w w' := ⟨h.os, h.tape, h.output, h.size, fun k hk => h.block k hk (by simp)⟩
set_option maxHeartbeats 8000000 in
theorem impl_FrontPut.ok (N : Nat) : FnOk Tryd.prog 8 (impl_FrontPut.S N) := by
  refine ⟨⟨_, Tryd.func8, by kernel_rfl, by kernel_rfl⟩, fun w ok vs ps F L outs hglb ha hnd hok hd => ?_⟩
  match vs, ps, ha with
  | [], _, h => exact absurd h (by simp [ArgsAt, impl_FrontPut.S])
  | _ :: _ :: _, [], h => exact absurd h (by simp [ArgsAt, impl_FrontPut.S])
  | _ :: _ :: _, _ :: _, h => exact absurd h (by simp [ArgsAt, impl_FrontPut.S])
  | [_], [], h => exact absurd h (by simp [ArgsAt, impl_FrontPut.S])
  | [_], _ :: _ :: _, h => exact absurd h (by simp [ArgsAt, impl_FrontPut.S])
  | [v], [p], ⟨hr, hF, hL⟩ =>
    subst hF hL
    have ht : tk Tryd.prog 22 = .slice 9 := by kernel_rfl
    have he : tk Tryd.prog 9 = .str := by kernel_rfl
    obtain ⟨A, cap, ns, rfl, rfl, hcap, hcell⟩ := rd_strsV hr ht he
    have hit : (strsP ns).items.map PV.toStr = ns := by simp [strsP, PV.items, Function.comp_def, PV.toStr]
    have hd' : (if (strsP ns).items.length ≤ 1099511627776 then (impl_wordsOk.f N [strsP ns, intP 300]).bind fun t => if (!((t.headD default).toBool)) = true then some [strP ⟨#[]⟩] else (impl_FrontPut.g N ((strsP ns).items.map PV.toStr) ⟨#[]⟩ ⟨#[]⟩).bind fun s => some [strP s] else none) = some outs := hd
    split at hd'
    case isFalse => cases hd'
    rename_i hlen
    rw [hit] at hd'
    cases h1 : impl_wordsOk.f N [strsP ns, intP 300] with
    | none => rw [h1] at hd'; cases hd'
    | some t1 =>
      rw [h1, Option.bind_some] at hd'
      have c1 := (impl_wordsOk.ok N).2 w ok [.slice A ns.length cap, .int .i64 300] [strsP ns, intP 300] [] [] t1 hglb ⟨hr, rdV_of (by kernel_rfl), rfl, rfl⟩ (by simp) (by simp) h1
      have hw : ∀ w', Step w w' (fun k => k ∈ ([] ++ ([] : List Row).flatMap (·.ft) : List Nat)) → Below w.heap.size w w' := fun w' h => ⟨h.os, h.tape, h.output, h.size, fun k hk => h.block k hk (by simp)⟩
      have fin : ∀ (s : ByteArray) (w' : World), outs = [strP s] → Below w.heap.size w w' → ∃ v, Ending.returned (.string s) = .returned v ∧ FnPost Tryd.prog ok w w' (impl_FrontPut.S N).res outs [] ([] ++ ([] : List Row).flatMap (·.ft)) v := fun s w' ho hb => by
        subst ho
        exact ⟨_, rfl, [.string s], [], [], rfl, ⟨rdV_of (by kernel_rfl), rfl, rfl⟩, rfl, by simp, by simp, ⟨hb.os, hb.tape, hb.output, hb.size, fun k hk _ => hb.block k hk⟩⟩
      have hbool : ∃ b : Bool, (t1.headD default).toBool = b := ⟨_, rfl⟩
      obtain ⟨b, hb⟩ := hbool
      have c1' : Calls Tryd.prog 17 #[.slice A ns.length cap, .int .i64 300] w fun e w' => e = .returned (.bool b) ∧ Below w.heap.size w w' := by
        refine Calls.mono c1 ?_
        rintro e w' ⟨v, rfl, vs, F, Gs, rfl, hres, _, _, _, hst⟩
        refine ⟨?_, hw w' hst⟩
        match vs, hres with
        | [x], ⟨hx, _⟩ =>
          obtain ⟨hx1, hx2⟩ := rdV_scal (P := Tryd.prog) (t := 4) (by kernel_rfl) hx
          rw [hx1] at hb
          have hk4 : tk Tryd.prog 4 = .bool := by kernel_rfl
          unfold kindB at hx2
          rw [hk4] at hx2
          cases x <;> simp at hx2
          rename_i b'
          have : b' = b := hb
          rw [this]; rfl
        | [], h => exact h.elim
        | _ :: _ :: _, ⟨_, h, _⟩ => cases h
      have hglb' : ∀ wx, Below w.heap.size w wx → Glb.holds (P := Tryd.prog) ok wx := fun wx hx => Glb.step hglb hx.size (fun k hk ho => ⟨ho, hx.block k hk⟩)
      have hstr : ∀ (f : FuncId) (wx : World) (params : List (TypeId × YtpnbhcifhbnaaaaDoorAm.Mode)) (den : List PV → Option (List PV)) (vs : List Value) (t : List PV), FnOk Tryd.prog f ⟨params, [(9, .val)], den⟩ → Below w.heap.size w wx → ArgsAt Tryd.prog ok wx params vs (vs.map PV.sc) [] [] → den (vs.map PV.sc) = some t →
          Calls Tryd.prog f vs.toArray wx fun e w' => e = .returned (.string (t.headD default).toStr) ∧ Below wx.heap.size wx w' := fun f wx params den vs t hf hx hargs hden => by
        have c := hf.2 wx ok vs (vs.map PV.sc) [] [] t (hglb' wx hx) hargs (by simp) (by simp) hden
        refine Calls.mono c ?_
        rintro e w' ⟨v, rfl, vs, F, Gs, rfl, hres, _, _, _, hst⟩
        refine ⟨?_, ⟨hst.os, hst.tape, hst.output, hst.size, fun k hk => hst.block k hk (by simp)⟩⟩
        match vs, hres with
        | [x], ⟨hx, _⟩ =>
          obtain ⟨hx1, hx2⟩ := rdV_scal (P := Tryd.prog) (t := 9) (by kernel_rfl) hx
          rw [hx1]
          unfold kindB at hx2
          rw [he] at hx2
          cases x <;> simp at hx2
          rfl
        | [], h => exact h.elim
        | _ :: _ :: _, ⟨_, h, _⟩ => cases h
      cases b with
      | false =>
        have ho : outs = [strP ⟨#[]⟩] := by
          rw [hb] at hd'
          simpa using hd'.symm
        go_enter Tryd.func8, Tryd.ntmps8
        go_wp2_with (go_at_call 17; refine c1'.mono ?_)
        rintro e W1 ⟨rfl, b1⟩
        go_wp2
        go_ret
        exact fin _ _ ho b1
      | true =>
        rw [hb] at hd'
        simp only [Bool.not_true, Bool.false_eq_true, if_false] at hd'
        cases hg : impl_FrontPut.g N ns ⟨#[]⟩ ⟨#[]⟩ with
        | none => rw [hg] at hd'; cases hd'
        | some sOut =>
          rw [hg] at hd'
          have ho : outs = [strP sOut] := by simpa using hd'.symm
          go_enter Tryd.func8, Tryd.ntmps8
          go_wp2_with (go_at_call 17; refine c1'.mono ?_)
          rintro e W1 ⟨rfl, b1⟩
          have h0 : Lib.IsBuilderF 37 5 W1.heap.size W1.heap.size (Lib.byteCells []) (W1.alloc (.cells #[.pointer none, .slice none 0 0] 37)) := Lib.IsBuilderF.of (Lib.fresh_isBuilder 37 5 W1)
          have b0 : Below W1.heap.size W1 (W1.alloc (.cells #[.pointer none, .slice none 0 0] 37)) := (Below.refl _ W1).alloc (Nat.le_refl _) _
          go_wp2
          go_loopw [4, 15] (fun t4 t15 wr => ∃ (i : Nat) (last acc : ByteArray), t4 = .string last ∧ t15 = .int .i64 (i : Int) ∧ i ≤ ns.length ∧ Lib.IsBuilderF 37 5 W1.heap.size W1.heap.size (Lib.byteCells acc.data.toList) wr ∧ Below W1.heap.size W1 wr ∧ impl_FrontPut.g N (ns.drop i) last acc = some sOut)
            (fun t4 t15 _ => ns.length - (match t15 with | .int _ n => n.toNat | _ => 0))
          case atStart => exact ⟨0, ⟨#[]⟩, ⟨#[]⟩, rfl, rfl, Nat.zero_le _, h0, b0, hg⟩
          case round =>
            obtain ⟨i, last, acc, rfl, rfl, hi, hI, hB, hgi⟩ := hrel
            have hWr : Below w.heap.size w wr := b1.trans (hB.mono b1.size)
            have hszr := hB.size
            by_cases hlt : i < ns.length
            · have hdrop : ns.drop i = ns[i] :: ns.drop (i + 1) := List.drop_eq_getElem_cons hlt
              obtain ⟨x, hx⟩ : ∃ x, x = ns[i] := ⟨_, rfl⟩
              rw [← hx] at hdrop
              have hx' : ns[i]? = some x := by rw [List.getElem?_eq_getElem hlt, hx]
              rw [hdrop, impl_FrontPut.g] at hgi
              cases hbg : impl_Beginning.f N [strP last, strP x] with
              | none => rw [hbg] at hgi; cases hgi
              | some t =>
                rw [hbg, Option.bind_some] at hgi
                split at hgi
                case isFalse => cases hgi
                rename_i hle2
                obtain ⟨hle, hkb⟩ := hle2
                split at hgi
                case isFalse => cases hgi
                rename_i hroom
                obtain ⟨k, hk⟩ : ∃ k, k = (t.headD default).toStr := ⟨_, rfl⟩
                rw [← hk] at hle hkb hroom hgi
                obtain ⟨ad, rfl, hadok, hcells⟩ := hcell (by omega)
                have hc0 := hcells i x hx'
                have hadlt : (ad.add i).block < w.heap.size := World.block_lt_of_cell? _ _ hc0
                have hcr : wr.cell? (ad.add i) = some (.string x) := (hWr.cell hadlt).trans hc0
                have cB := hstr 18 wr [(9, .ro), (9, .ro)] (impl_Beginning.f N) [.string last, .string x] t (impl_Beginning.ok N) hWr ⟨rdV_of (by kernel_rfl), rdV_of (by kernel_rfl), rfl, rfl⟩ hbg
                have cI : Hid (∀ wx, Below w.heap.size w wx → Calls Tryd.prog 20 #[.int .i64 (k.size : Int)] wx fun e w' => e = .returned (.string (itoaB (k.size : Int))) ∧ Below wx.heap.size wx w') := fun wx hwx => by
                  have hkb2 : -9223372036854775808 ≤ (k.size : Int) ∧ (k.size : Int) ≤ 9223372036854775807 := by omega
                  exact hstr 20 wx [(3, .ro)] (strconv_Itoa.f N) [.int .i64 (k.size : Int)] [strP (itoaB (k.size : Int))] (strconv_Itoa.ok N) hwx ⟨rdV_of (by kernel_rfl), rfl, rfl⟩ (if_pos hkb2)
                rw [← hk] at cB
                have HI : Hid (Lib.IsBuilderF 37 5 W1.heap.size W1.heap.size (Lib.byteCells acc.data.toList) wr) := hI
                have HG : Hid (impl_FrontPut.g N (ns.drop (i + 1)) x (acc ++ (itoaB (k.size : Int) ++ x.extract k.size x.size ++ ByteArray.mk #[10])) = some sOut) := hgi
                have HO : Hid (outs = [strP sOut]) := ho
                have HF : Hid (∀ (s : ByteArray) (w' : World), outs = [strP s] → Below w.heap.size w w' → ∃ v, Ending.returned (.string s) = .returned v ∧ FnPost Tryd.prog ok w w' (impl_FrontPut.S N).res outs [] ([] ++ ([] : List Row).flatMap (·.ft)) v) := fin
                have hrs : acc.size + ((itoaB (k.size : Int)).size + (x.size - k.size) + 1) ≤ 140737488355328 := by
                  have h := hroom
                  rw [ByteArray.size_append, ByteArray.size_append, ByteArray.size_extract, Nat.min_self] at h
                  exact h
                have hs1 : ¬ 9223372036854775807 < (itoaB (k.size : Int)).size + (x.size - k.size) := by omega
                have hs2 : ¬ 9223372036854775807 < (itoaB (k.size : Int)).size + (x.size - k.size) + 1 := by omega
                have HR : Hid (acc.size + (itoaB (k.size : Int) ++ x.extract k.size x.size ++ ByteArray.mk #[10]).size ≤ 140737488355328) := hroom
                have HC : Hid (0 < ns.length → ∃ ad', some ad = some ad' ∧ ok ad'.block ∧ ∀ (j : Nat) (s : ByteArray), ns[j]? = some s → w.cell? (ad'.add j) = some (.string s)) := hcell
                have hilt : (i : Int) < (ns.length : Int) := by omega
                clear hI hgi ho fin hroom hcell hcells hc0 hbg hstr hglb' hd' hd hg c1' c1 h1 hb hw hnd hok ha hr hglb h0 b0 hdrop hx hx' hit
                clear hk
                have hleI : (k.size : Int) ≤ (x.size : Int) := by omega
                go_wp2_with (go_at_call 18; refine cB.mono ?_)
                rintro e W2 ⟨rfl, b2⟩
                have hW2 : Below w.heap.size w W2 := hWr.trans (b2.mono hWr.size)
                go_wp2
                have HI2 : Hid (Lib.IsBuilderF 37 5 W1.heap.size W1.heap.size (Lib.byteCells acc.data.toList) W2.drew) := bld_drew (bld_below HI.out b2)
                have hcl : (Lib.byteCells acc.data.toList).length = acc.size := by rw [Lib.byteCells_length]; exact Array.length_toList (xs := acc.data)
                go_region_held3 (fun W => Below w.heap.size w W) (first | exact hW2.drew | assumption) (first | (go_at_call 20; refine (cI.out _ (by exact hW2.drew)).mono ?_; rintro e W3 ⟨rfl, b3⟩; have hW3 : Below w.heap.size w W3 := hW2.drew.trans (b3.mono hW2.drew.size)) | (go_at_call 19; refine (wr_ok W1.heap.size W1.heap.size _ _ _ (bld_below HI2.out b3) (by rw [hcl]; exact HR.out) (Nat.le_trans hszr (Nat.le_trans b2.size b3.size))).mono ?_; rintro e W4 ⟨rfl, h4, b4⟩; have hW4 : Below w.heap.size w W4 := hW3.trans (b4.mono b1.size)))
                go_wp2
                have hnl : ns.length ≤ 1099511627776 := by rw [← strs_items_len]; exact hlen
                rw [next_id hlt hnl]
                refine ⟨⟨i + 1, x, acc ++ (itoaB (k.size : Int) ++ x.extract k.size x.size ++ ByteArray.mk #[10]), rfl, rfl, hlt, ?_, ?_, HG.out⟩, less_next hlt⟩
                · rw [acc_cells]; exact h4
                · exact hB.trans ((b2.mono hszr).trans ((Below.mono (below_undrew b3) (Nat.le_trans hszr b2.size)).trans b4))
            · have hin : i = ns.length := by omega
              subst hin
              have hdn : ns.drop ns.length = [] := List.drop_length
              have hgi2 : some acc = some sOut := by rw [hdn] at hgi; exact hgi
              injection hgi2 with hgi2
              subst hgi2
              go_wp2_with (go_at_call 21; refine (st_ok W1.heap.size W1.heap.size acc.data.toList _ hI hszr).mono ?_)
              rintro e W5 ⟨rfl, b5⟩
              go_wp2
              go_ret
              exact fin acc W5 ho (hWr.trans (b5.mono b1.size))

end

/-! ### impl_FrontGet: function 11, loop.example/medlar/impl.FrontGet -/
noncomputable def impl_FrontGet.E (N : Nat) : Env := ⟨lk [(25, impl_linesOf.S N), (26, strings_TrimLeft.S N), (27, strconv_Atoi.S N), (17, impl_wordsOk.S N), (8, impl_FrontPut.S N)], nzk [(4, ⟨[1, 2, 3, 6, 7, 8, 9, 10, 11, 12, 16, 17, 18, 19, 20, 21, 22, 23, 24, 25, 26, 27, 28, 29, 30, 31, 32, 33, 34, 35, 36, 37, 38, 39, 40, 41, 42, 43, 44, 45, 46, 47, 48, 49, 50, 51, 52, 53, 54, 55, 56, 57, 58, 59, 60, 61, 62, 63, 64, 65, 66], [(4, 22)], []⟩)], N, [], false⟩
noncomputable def impl_FrontGet.f (N : Nat) (a : List PV) : Option Res := run Tryd.prog (impl_FrontGet.E N) Tryd.f11 [(9, .ro)] [(22, .own), (4, .val)] a
noncomputable def impl_FrontGet.l0 (N : Nat) (n : Nat) (x0 : ByteArray) (x5 : ByteArray) (x14 : Int) (x15 : Int) (y0 : List PV) (y1 : PV) : Option Res := loopAt Tryd.prog (impl_FrontGet.E N) Tryd.f11 [(22, .own), (4, .val)] [1, 1, 1, 0, 1, 0] [] n ⟨mkSlots 67 [(0, .sc (.string x0)), (4, .ref 0 []), (5, .sc (.string x5)), (13, .ref 1 []), (14, .sc (.int .i64 x14)), (15, .sc (.int .i64 x15))], ohOf [.row 22 (PV.list y0), .row 22 y1]⟩
theorem impl_FrontGet.f_eq (N : Nat) (a0 : PV) : impl_FrontGet.f N [a0] = (impl_linesOf.f N [(PV.sc (.string a0.toStr))]).bind fun t1 => impl_FrontGet.l0 N N a0.toStr (ByteArray.mk #[]) (((t1.headD default).items).length : Int) 0 [] (t1.headD default) := by kernel_rfl
theorem impl_FrontGet.l0_eq (N : Nat) (n : Nat) (x0 : ByteArray) (x5 : ByteArray) (x14 : Int) (x15 : Int) (y0 : List PV) (y1 : PV) : impl_FrontGet.l0 N (n + 1) x0 x5 x14 x15 y0 y1 = if decide (x15 < x14) = true then (if 0 ≤ x15 then (if x15 < (y1.items.length : Int) then ((strings_TrimLeft.f N [(PV.sc (.string ((y1.elem x15.toNat).toStr))), (PV.sc (.string (ByteArray.mk #[48, 49, 50, 51, 52, 53, 54, 55, 56, 57])))]).bind fun t2 => if 0 ≤ (IntKind.i64.wrap ((((y1.elem x15.toNat).toStr).size : Int) - (((t2.headD default).toStr).size : Int))) then (if (IntKind.i64.wrap ((((y1.elem x15.toNat).toStr).size : Int) - (((t2.headD default).toStr).size : Int))) ≤ (((y1.elem x15.toNat).toStr).size : Int) then ((strconv_Atoi.f N [(PV.sc (.string (((y1.elem x15.toNat).toStr).extract 0 ((IntKind.i64.wrap ((((y1.elem x15.toNat).toStr).size : Int) - (((t2.headD default).toStr).size : Int))).toNat))))]).bind fun t3 => if (t3.tail.headD default).toBool = false then (if decide ((x5.size : Int) < ((t3.headD default).toInt)) = false then (if decide ((y0.length : Int) = 300) = true then (some [(PV.list []), (PV.sc (.bool false))]) else (if 0 ≤ ((t3.headD default).toInt) then (if ((t3.headD default).toInt) ≤ (x5.size : Int) then (if (x5.extract 0 (((t3.headD default).toInt).toNat)).size + ((t2.headD default).toStr).size ≤ 9223372036854775807 then (if y0.length + [(PV.sc (.string ((x5.extract 0 (((t3.headD default).toInt).toNat)) ++ ((t2.headD default).toStr))))].length ≤ 8796093022208 then (impl_FrontGet.l0 N n x0 ((x5.extract 0 (((t3.headD default).toInt).toNat)) ++ ((t2.headD default).toStr)) x14 (IntKind.i64.wrap (x15 + 1)) (y0 ++ [(PV.sc (.string ((x5.extract 0 (((t3.headD default).toInt).toNat)) ++ ((t2.headD default).toStr))))]) y1) else none) else none) else none) else none)) else (some [(PV.list []), (PV.sc (.bool false))])) else (some [(PV.list []), (PV.sc (.bool false))])) else none) else none) else none) else none) else ((impl_wordsOk.f N [(PV.list y0), (PV.sc (.int .i64 300))]).bind fun t4 => if (!((t4.headD default).toBool)) = false then ((impl_FrontPut.f N [(PV.list y0)]).bind fun t5 => if (!decide (((t5.headD default).toStr).toList = x0.toList)) = true then (some [(PV.list []), (PV.sc (.bool false))]) else (some [(PV.list y0), (PV.sc (.bool true))])) else (some [(PV.list []), (PV.sc (.bool false))])) := by kernel_rfl
noncomputable def impl_FrontGet.S (N : Nat) : ASpec := ⟨[(9, .ro)], [(22, .own), (4, .val)], impl_FrontGet.f N⟩
theorem impl_FrontGet.ok (N : Nat) : FnOk Tryd.prog 11 (impl_FrontGet.S N) := fnOk_of (E := impl_FrontGet.E N) mix Tryd.func11 (by kernel_rfl) (by kernel_rfl) (by kernel_rfl) (lk_ok (all_cons (impl_linesOf.ok N) (all_cons (strings_TrimLeft.ok N) (all_cons (strconv_Atoi.ok N) (all_cons (impl_wordsOk.ok N) (all_cons (impl_FrontPut.ok N) all_nil)))))) (by kernel_rfl) (fun _ _ h => h)

/-! ### laws_eqStringS: function 9, loop.example/medlar/laws.eqStringS -/
noncomputable def laws_eqStringS.E (N : Nat) : Env := ⟨lk [], nzk [(4, ⟨[2, 3, 4, 6, 7, 8, 9, 10, 11, 12, 13, 14, 15, 16, 17, 18, 19, 20, 21, 22, 23, 24, 25], [], []⟩)], N, [], false⟩
noncomputable def laws_eqStringS.f (N : Nat) (a : List PV) : Option Res := run Tryd.prog (laws_eqStringS.E N) Tryd.f9 [(22, .ro), (22, .ro)] [(4, .val)] a
noncomputable def laws_eqStringS.l0 (N : Nat) (n : Nat) (x0 : PV) (x1 : PV) (x5 : Int) : Option Res := loopAt Tryd.prog (laws_eqStringS.E N) Tryd.f9 [(4, .val)] [1, 1, 0, 1, 0] [] n ⟨mkSlots 26 [(0, .ro 22 x0), (1, .ro 22 x1), (5, .sc (.int .i64 x5))], ohOf []⟩
theorem laws_eqStringS.f_eq (N : Nat) (a0 : PV) (a1 : PV) : laws_eqStringS.f N [a0, a1] = if (!decide ((a0.items.length : Int) = (a1.items.length : Int))) = true then (some [(PV.sc (.bool false))]) else (laws_eqStringS.l0 N N a0 a1 0) := by kernel_rfl
theorem laws_eqStringS.l0_eq (N : Nat) (n : Nat) (x0 : PV) (x1 : PV) (x5 : Int) : laws_eqStringS.l0 N (n + 1) x0 x1 x5 = if decide (x5 < (x0.items.length : Int)) = true then (if 0 ≤ x5 then (if x5 < (x0.items.length : Int) then (if 0 ≤ x5 then (if x5 < (x1.items.length : Int) then (if (!decide (((x0.elem x5.toNat).toStr).toList = ((x1.elem x5.toNat).toStr).toList)) = true then (some [(PV.sc (.bool false))]) else (laws_eqStringS.l0 N n x0 x1 (IntKind.i64.wrap (x5 + 1)))) else none) else none) else none) else none) else (some [(PV.sc (.bool true))]) := by kernel_rfl
noncomputable def laws_eqStringS.S (N : Nat) : ASpec := ⟨[(22, .ro), (22, .ro)], [(4, .val)], laws_eqStringS.f N⟩
theorem laws_eqStringS.ok (N : Nat) : FnOk Tryd.prog 9 (laws_eqStringS.S N) := fnOk_of (E := laws_eqStringS.E N) mix Tryd.func9 (by kernel_rfl) (by kernel_rfl) (by kernel_rfl) (lk_ok all_nil) (by kernel_rfl) (fun _ _ h => h)

/-! ### laws_markText: function 28, loop.example/medlar/laws.markText -/
noncomputable def laws_markText.E (N : Nat) : Env := ⟨lk [], nzk [(4, ⟨[1, 2, 4, 5, 6, 7, 8, 9, 10, 11, 12, 13, 14, 15, 16, 17, 18, 19], [], []⟩)], N, [], false⟩
noncomputable def laws_markText.f (N : Nat) (a : List PV) : Option Res := run Tryd.prog (laws_markText.E N) Tryd.f28 [(3, .ro)] [(9, .val)] a
noncomputable def laws_markText.l0 (N : Nat) (n : Nat) (x0 : Int) (x3 : ByteArray) : Option Res := loopAt Tryd.prog (laws_markText.E N) Tryd.f28 [(9, .val)] [1, 1, 1, 0, 0] [] n ⟨mkSlots 20 [(0, .sc (.int .i64 x0)), (3, .sc (.string x3))], ohOf []⟩
theorem laws_markText.f_eq (N : Nat) (a0 : PV) : laws_markText.f N [a0] = if decide (a0.toInt ≤ 0) = true then (some [(PV.sc (.string (ByteArray.mk #[109, 48])))]) else (laws_markText.l0 N N a0.toInt (ByteArray.mk #[])) := by kernel_rfl
theorem laws_markText.l0_eq (N : Nat) (n : Nat) (x0 : Int) (x3 : ByteArray) : laws_markText.l0 N (n + 1) x0 x3 = if decide (0 < x0) = true then (if 10 = 0 then none else (if (bytesOfL [(PV.sc (.int .u8 (IntKind.u8.wrap (IntKind.i64.wrap (48 + (Int.tmod x0 10))))))]).size + x3.size ≤ 9223372036854775807 then (if 10 = 0 then none else (laws_markText.l0 N n (IntKind.i64.wrap (Int.tdiv x0 10)) ((bytesOfL [(PV.sc (.int .u8 (IntKind.u8.wrap (IntKind.i64.wrap (48 + (Int.tmod x0 10))))))]) ++ x3))) else none)) else (if (ByteArray.mk #[109]).size + x3.size ≤ 9223372036854775807 then (some [(PV.sc (.string ((ByteArray.mk #[109]) ++ x3)))]) else none) := by kernel_rfl
noncomputable def laws_markText.S (N : Nat) : ASpec := ⟨[(3, .ro)], [(9, .val)], laws_markText.f N⟩
theorem laws_markText.ok (N : Nat) : FnOk Tryd.prog 28 (laws_markText.S N) := fnOk_of (E := laws_markText.E N) mix Tryd.func28 (by kernel_rfl) (by kernel_rfl) (by kernel_rfl) (lk_ok all_nil) (by kernel_rfl) (fun _ _ h => h)

-- MODES: 12 loop.example/medlar/laws.markStringS mut.ro
/-! ### laws_markStringS: function 12, loop.example/medlar/laws.markStringS -/
noncomputable def laws_markStringS.E (N : Nat) : Env := ⟨lk [(28, laws_markText.S N)], nzk [(2, ⟨[2, 3, 4, 6, 7, 8, 9, 10, 11, 12, 13, 14, 15, 16, 17, 18, 19], [], []⟩)], N, [(false, 22)], false⟩
noncomputable def laws_markStringS.f (N : Nat) (a : List PV) : Option Res := run Tryd.prog (laws_markStringS.E N) Tryd.f12 [(22, .mut), (3, .ro)] [(3, .val)] a
noncomputable def laws_markStringS.l0 (N : Nat) (n : Nat) (x1 : Int) (x5 : Int) (y0 : PV) : Option Res := loopAt Tryd.prog (laws_markStringS.E N) Tryd.f12 [(3, .val)] [1, 0, 1, 0] [] n ⟨mkSlots 20 [(0, .ref 0 []), (1, .sc (.int .i64 x1)), (5, .sc (.int .i64 x5))], ohOf [.row 22 y0]⟩
noncomputable def laws_markStringS.l1 (N : Nat) (n : Nat) (x1 : Int) (x5 : Int) (y0 : List PV) : Option Res := loopAt Tryd.prog (laws_markStringS.E N) Tryd.f12 [(3, .val)] [1, 0, 1, 0] [] n ⟨mkSlots 20 [(0, .ref 0 []), (1, .sc (.int .i64 x1)), (5, .sc (.int .i64 x5))], ohOf [.row 22 (PV.list y0)]⟩
theorem laws_markStringS.f_eq (N : Nat) (a0 : PV) (a1 : PV) : laws_markStringS.f N [a0, a1] = laws_markStringS.l0 N N a1.toInt 0 a0 := by kernel_rfl
theorem laws_markStringS.l0_eq (N : Nat) (n : Nat) (x1 : Int) (x5 : Int) (y0 : PV) : laws_markStringS.l0 N (n + 1) x1 x5 y0 = if decide (x5 < (y0.items.length : Int)) = true then ((laws_markText.f N [(PV.sc (.int .i64 x1))]).bind fun t1 => if 0 ≤ x5 then (if x5 < (y0.items.length : Int) then (laws_markStringS.l1 N n (IntKind.i64.wrap (x1 + 1)) (IntKind.i64.wrap (x5 + 1)) (y0.items.set x5.toNat (PV.sc (.string ((t1.headD default).toStr))))) else none) else none) else (some [(PV.sc (.int .i64 x1)), y0]) := by kernel_rfl
theorem laws_markStringS.l1_eq (N : Nat) (n : Nat) (x1 : Int) (x5 : Int) (y0 : List PV) : laws_markStringS.l1 N (n + 1) x1 x5 y0 = if decide (x5 < (y0.length : Int)) = true then ((laws_markText.f N [(PV.sc (.int .i64 x1))]).bind fun t2 => if 0 ≤ x5 then (if x5 < (y0.length : Int) then (laws_markStringS.l1 N n (IntKind.i64.wrap (x1 + 1)) (IntKind.i64.wrap (x5 + 1)) (y0.set x5.toNat (PV.sc (.string ((t2.headD default).toStr))))) else none) else none) else (some [(PV.sc (.int .i64 x1)), (PV.list y0)]) := by kernel_rfl
noncomputable def laws_markStringS.S (N : Nat) : ASpec := ⟨[(22, .mut), (3, .ro)], [(3, .val)], laws_markStringS.f N⟩
theorem laws_markStringS.ok (N : Nat) : FnOk Tryd.prog 12 (laws_markStringS.S N) := fnOk_of (E := laws_markStringS.E N) mix Tryd.func12 (by kernel_rfl) (by kernel_rfl) (by kernel_rfl) (lk_ok (all_cons (laws_markText.ok N) all_nil)) (by kernel_rfl) (fun _ _ h => h)

/-! ### laws_heldStringS: function 13, loop.example/medlar/laws.heldStringS -/
noncomputable def laws_heldStringS.E (N : Nat) : Env := ⟨lk [(28, laws_markText.S N)], nzk [(2, ⟨[2, 3, 4, 6, 7, 8, 9, 10, 11, 12, 13, 14, 15, 16, 17, 18, 19, 20, 21], [], []⟩)], N, [], false⟩
noncomputable def laws_heldStringS.f (N : Nat) (a : List PV) : Option Res := run Tryd.prog (laws_heldStringS.E N) Tryd.f13 [(22, .ro), (3, .ro)] [(3, .val)] a
noncomputable def laws_heldStringS.l0 (N : Nat) (n : Nat) (x0 : PV) (x1 : Int) (x5 : Int) : Option Res := loopAt Tryd.prog (laws_heldStringS.E N) Tryd.f13 [(3, .val)] [1, 0, 1, 0] [] n ⟨mkSlots 22 [(0, .ro 22 x0), (1, .sc (.int .i64 x1)), (5, .sc (.int .i64 x5))], ohOf []⟩
theorem laws_heldStringS.f_eq (N : Nat) (a0 : PV) (a1 : PV) : laws_heldStringS.f N [a0, a1] = laws_heldStringS.l0 N N a0 a1.toInt 0 := by kernel_rfl
theorem laws_heldStringS.l0_eq (N : Nat) (n : Nat) (x0 : PV) (x1 : Int) (x5 : Int) : laws_heldStringS.l0 N (n + 1) x0 x1 x5 = if decide (x5 < (x0.items.length : Int)) = true then (if 0 ≤ x5 then (if x5 < (x0.items.length : Int) then ((laws_markText.f N [(PV.sc (.int .i64 x1))]).bind fun t1 => if (!decide (((x0.elem x5.toNat).toStr).toList = ((t1.headD default).toStr).toList)) = true then (some [(PV.sc (.int .i64 (-1)))]) else (laws_heldStringS.l0 N n x0 (IntKind.i64.wrap (x1 + 1)) (IntKind.i64.wrap (x5 + 1)))) else none) else none) else (some [(PV.sc (.int .i64 x1))]) := by kernel_rfl
noncomputable def laws_heldStringS.S (N : Nat) : ASpec := ⟨[(22, .ro), (3, .ro)], [(3, .val)], laws_heldStringS.f N⟩
theorem laws_heldStringS.ok (N : Nat) : FnOk Tryd.prog 13 (laws_heldStringS.S N) := fnOk_of (E := laws_heldStringS.E N) mix Tryd.func13 (by kernel_rfl) (by kernel_rfl) (by kernel_rfl) (lk_ok (all_cons (laws_markText.ok N) all_nil)) (by kernel_rfl) (fun _ _ h => h)

/-! ### laws_FnExactFrontGet: function 4, loop.example/medlar/laws.FnExactFrontGet -/
noncomputable def laws_FnExactFrontGet.E (N : Nat) : Env := ⟨lk [(10, spec_FrontGet.S N), (11, impl_FrontGet.S N), (9, laws_eqStringS.S N), (12, laws_markStringS.S N), (13, laws_heldStringS.S N)], nzk [], N, [], false⟩
noncomputable def laws_FnExactFrontGet.f (N : Nat) (a : List PV) : Option Res := run Tryd.prog (laws_FnExactFrontGet.E N) Tryd.f4 [(9, .ro)] [(4, .val)] a
theorem laws_FnExactFrontGet.f_eq (N : Nat) (a0 : PV) : laws_FnExactFrontGet.f N [a0] = if decide (1048576 < (a0.toStr.size : Int)) = true then (some [(PV.sc (.bool true))]) else ((spec_FrontGet.f N [(PV.sc (.string a0.toStr))]).bind fun t1 => (impl_FrontGet.f N [(PV.sc (.string a0.toStr))]).bind fun t2 => (laws_eqStringS.f N [(t2.headD default), (t1.headD default)]).bind fun t3 => if (!((t3.headD default).toBool)) = false then (if (((t2.tail.headD default).toBool) != ((t1.tail.headD default).toBool)) = true then (some [(PV.sc (.bool false))]) else ((laws_markStringS.f N [(t2.headD default), (PV.sc (.int .i64 1))]).bind fun t4 => (laws_heldStringS.f N [(t4.tail.headD default), (PV.sc (.int .i64 1))]).bind fun t5 => if decide (((t5.headD default).toInt) < 0) = true then (some [(PV.sc (.bool false))]) else (if (!decide (((t5.headD default).toInt) = ((t4.headD default).toInt))) = true then (some [(PV.sc (.bool false))]) else ((impl_FrontGet.f N [(PV.sc (.string a0.toStr))]).bind fun t6 => (laws_eqStringS.f N [(t6.headD default), (t1.headD default)]).bind fun t7 => if (!((t7.headD default).toBool)) = false then (if (((t6.tail.headD default).toBool) != ((t1.tail.headD default).toBool)) = true then (some [(PV.sc (.bool false))]) else ((laws_heldStringS.f N [(t4.tail.headD default), (PV.sc (.int .i64 1))]).bind fun t8 => if decide (((t8.headD default).toInt) < 0) = true then (some [(PV.sc (.bool false))]) else (if (!decide (((t8.headD default).toInt) = ((t4.headD default).toInt))) = true then (some [(PV.sc (.bool false))]) else (some [(PV.sc (.bool true))])))) else (some [(PV.sc (.bool false))]))))) else (some [(PV.sc (.bool false))])) := by kernel_rfl
noncomputable def laws_FnExactFrontGet.S (N : Nat) : ASpec := ⟨[(9, .ro)], [(4, .val)], laws_FnExactFrontGet.f N⟩
theorem laws_FnExactFrontGet.ok (N : Nat) : FnOk Tryd.prog 4 (laws_FnExactFrontGet.S N) := fnOk_of (E := laws_FnExactFrontGet.E N) mix Tryd.func4 (by kernel_rfl) (by kernel_rfl) (by kernel_rfl) (lk_ok (all_cons (spec_FrontGet.ok N) (all_cons (impl_FrontGet.ok N) (all_cons (laws_eqStringS.ok N) (all_cons (laws_markStringS.ok N) (all_cons (laws_heldStringS.ok N) all_nil)))))) (by kernel_rfl) (fun _ _ h => h)

end Go.Proofs.YtpnbhcifhbnaaaaDoor.FnExactFrontGet
