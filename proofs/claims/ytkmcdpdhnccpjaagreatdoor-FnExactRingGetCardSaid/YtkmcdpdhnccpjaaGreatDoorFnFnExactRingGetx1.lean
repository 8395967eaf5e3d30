/- What each function that the law FnExactRingGet reaches computes, as trees, part 1: no conditions. -/
import Derived.Test.YtkmcdpdhnccpjaaGreatDoorLib145678
import Derived.Test.YtkmcdpdhnccpjaaGreatDoorProg
set_option maxRecDepth 100000
set_option linter.unusedVariables false
namespace Go.Proofs.YtkmcdpdhnccpjaaGreatDoor.FnExactRingGet
open Go Go.Proofs.YtkmcdpdhnccpjaaGreatDoorAm
theorem mix : Tryz.prog.follows .mixedOrders = true := by kernel_rfl
def shaStepP : PV := PV.agg (numsL [1116352408, 1899447441, 3049323471, 3921009573, 961987163, 1508970993, 2453635748, 2870763221, 3624381080, 310598401, 607225278, 1426881987, 1925078388, 2162078206, 2614888103, 3248222580, 3835390401, 4022224774, 264347078, 604807628, 770255983, 1249150122, 1555081692, 1996064986, 2554220882, 2821834349, 2952996808, 3210313671, 3336571891, 3584528711, 113926993, 338241895, 666307205, 773529912, 1294757372, 1396182291, 1695183700, 1986661051, 2177026350, 2456956037, 2730485921, 2820302411, 3259730800, 3345764771, 3516065817, 3600352804, 4094571909, 275423344, 430227734, 506948616, 659060556, 883997877, 958139571, 1322822218, 1537002063, 1747873779, 1955562222, 2024104815, 2227730452, 2361852424, 2428436474, 2756734187, 3204031479, 3329325298])
noncomputable instance glb : Glb Tryz.prog := glbOf Tryz.prog [(2, 107, shaStepP)] [(0, ifaceObj), (1, ifaceObj), (3, someI64), (6, tabObj .u64 Lib.pow10Tab)]

/-! ### spec_l1In: function 41, loop.example/medlar/spec.l1In -/
noncomputable def spec_l1In.E (N : Nat) : Env := ⟨lk [], nzk [], N, [], false⟩
noncomputable def spec_l1In.f (N : Nat) (a : List PV) : Option Res := run Tryz.prog (spec_l1In.E N) Tryz.f41 [(3, .ro), (3, .ro), (3, .ro)] [(4, .val)] a
theorem spec_l1In.f_eq (N : Nat) (a0 : PV) (a1 : PV) (a2 : PV) : spec_l1In.f N [a0, a1, a2] = if decide (a1.toInt ≤ a0.toInt) = true then (some [(PV.sc (.bool (decide (a0.toInt ≤ a2.toInt))))]) else (some [(PV.sc (.bool false))]) := by kernel_rfl
noncomputable def spec_l1In.S (N : Nat) : ASpec := ⟨[(3, .ro), (3, .ro), (3, .ro)], [(4, .val)], spec_l1In.f N⟩
theorem spec_l1In.ok (N : Nat) : FnOk Tryz.prog 41 (spec_l1In.S N) := fnOk_of (E := spec_l1In.E N) mix Tryz.func41 (by kernel_rfl) (by kernel_rfl) (by kernel_rfl) (lk_ok all_nil) (by kernel_rfl) (fun _ _ h => h)

/-! ### spec_l6Key: function 40, loop.example/medlar/spec.l6Key -/
noncomputable def spec_l6Key.E (N : Nat) : Env := ⟨lk [(41, spec_l1In.S N)], nzk [], N, [], false⟩
noncomputable def spec_l6Key.f (N : Nat) (a : List PV) : Option Res := run Tryz.prog (spec_l6Key.E N) Tryz.f40 [(9, .ro)] [(4, .val)] a
theorem spec_l6Key.f_eq (N : Nat) (a0 : PV) : spec_l6Key.f N [a0] = (spec_l1In.f N [(PV.sc (.int .i64 (a0.toStr.size : Int))), (PV.sc (.int .i64 1)), (PV.sc (.int .i64 64))]).bind fun t1 => if (t1.headD default).toBool = true then (if 0 ≤ (IntKind.i64.wrap ((a0.toStr.size : Int) - 1)) then (if (IntKind.i64.wrap ((a0.toStr.size : Int) - 1)) < (a0.toStr.size : Int) then (some [(PV.sc (.bool (!decide (((a0.toStr.get! (IntKind.i64.wrap ((a0.toStr.size : Int) - 1)).toNat).toNat : Int) = 0))))]) else none) else none) else (some [(PV.sc (.bool false))]) := by kernel_rfl
noncomputable def spec_l6Key.S (N : Nat) : ASpec := ⟨[(9, .ro)], [(4, .val)], spec_l6Key.f N⟩
theorem spec_l6Key.ok (N : Nat) : FnOk Tryz.prog 40 (spec_l6Key.S N) := fnOk_of (E := spec_l6Key.E N) mix Tryz.func40 (by kernel_rfl) (by kernel_rfl) (by kernel_rfl) (lk_ok (all_cons (spec_l1In.ok N) all_nil)) (by kernel_rfl) (fun _ _ h => h)

/-! ### spec_RingNew: function 16, loop.example/medlar/spec.RingNew -/
noncomputable def spec_RingNew.E (N : Nat) : Env := ⟨lk [(40, spec_l6Key.S N)], nzk [], N, [], false⟩
noncomputable def spec_RingNew.f (N : Nat) (a : List PV) : Option Res := run Tryz.prog (spec_RingNew.E N) Tryz.f16 [(9, .ro)] [(25, .own), (4, .val)] a
theorem spec_RingNew.f_eq (N : Nat) (a0 : PV) : spec_RingNew.f N [a0] = (spec_l6Key.f N [(PV.sc (.string a0.toStr))]).bind fun t1 => if (!((t1.headD default).toBool)) = true then (some [(PV.agg [(PV.list []), (PV.list [])]), (PV.sc (.bool false))]) else (some [(PV.agg [(PV.list [(PV.sc (.string a0.toStr))]), (PV.list [(PV.sc (.int .i64 1))])]), (PV.sc (.bool true))]) := by kernel_rfl
noncomputable def spec_RingNew.S (N : Nat) : ASpec := ⟨[(9, .ro)], [(25, .own), (4, .val)], spec_RingNew.f N⟩
theorem spec_RingNew.ok (N : Nat) : FnOk Tryz.prog 16 (spec_RingNew.S N) := fnOk_of (E := spec_RingNew.E N) mix Tryz.func16 (by kernel_rfl) (by kernel_rfl) (by kernel_rfl) (lk_ok (all_cons (spec_l6Key.ok N) all_nil)) (by kernel_rfl) (fun _ _ h => h)

/-! ### spec_l1Cut: function 17, loop.example/medlar/spec.l1Cut -/
noncomputable def spec_l1Cut.E (N : Nat) : Env := ⟨lk [], nzk [(4, ⟨[2, 3, 4, 8, 9, 10, 11, 12, 13, 14, 15, 16, 17, 18, 19, 20, 21, 22, 23, 24, 25, 26, 27, 28, 29, 30, 31, 32, 33, 34], [(5, 22)], []⟩)], N, [], false⟩
noncomputable def spec_l1Cut.f (N : Nat) (a : List PV) : Option Res := run Tryz.prog (spec_l1Cut.E N) Tryz.f17 [(9, .ro), (5, .ro)] [(22, .own)] a
noncomputable def spec_l1Cut.l0 (N : Nat) (n : Nat) (x0 : ByteArray) (x1 : Int) (x6 : Int) (x7 : Int) (y0 : List PV) : Option Res := loopAt Tryz.prog (spec_l1Cut.E N) Tryz.f17 [(22, .own)] [1, 1, 1, 0, 1, 0] [] n ⟨mkSlots 35 [(0, .sc (.string x0)), (1, .sc (.int .u8 x1)), (5, .ref 0 []), (6, .sc (.int .i64 x6)), (7, .sc (.int .i64 x7))], ohOf [.row 22 (PV.list y0)]⟩
theorem spec_l1Cut.f_eq (N : Nat) (a0 : PV) (a1 : PV) : spec_l1Cut.f N [a0, a1] = spec_l1Cut.l0 N N a0.toStr a1.toInt 0 0 [] := by kernel_rfl
theorem spec_l1Cut.l0_eq (N : Nat) (n : Nat) (x0 : ByteArray) (x1 : Int) (x6 : Int) (x7 : Int) (y0 : List PV) : spec_l1Cut.l0 N (n + 1) x0 x1 x6 x7 y0 = if decide (x7 < (x0.size : Int)) = true then (if 0 ≤ x7 then (if x7 < (x0.size : Int) then (if decide (((x0.get! x7.toNat).toNat : Int) = x1) = true then (if 0 ≤ x6 then (if x6 ≤ x7 then (if x7 ≤ (x0.size : Int) then (if y0.length + [(PV.sc (.string (x0.extract x6.toNat x7.toNat)))].length ≤ 8796093022208 then (spec_l1Cut.l0 N n x0 x1 (IntKind.i64.wrap (x7 + 1)) (IntKind.i64.wrap (x7 + 1)) (y0 ++ [(PV.sc (.string (x0.extract x6.toNat x7.toNat)))])) else none) else none) else none) else none) else (spec_l1Cut.l0 N n x0 x1 x6 (IntKind.i64.wrap (x7 + 1)) y0)) else none) else none) else (if 0 ≤ x6 then (if x6 ≤ (x0.size : Int) then (if y0.length + [(PV.sc (.string (x0.extract x6.toNat x0.size)))].length ≤ 8796093022208 then (some [(PV.list (y0 ++ [(PV.sc (.string (x0.extract x6.toNat x0.size)))]))]) else none) else none) else none) := by kernel_rfl
noncomputable def spec_l1Cut.S (N : Nat) : ASpec := ⟨[(9, .ro), (5, .ro)], [(22, .own)], spec_l1Cut.f N⟩
theorem spec_l1Cut.ok (N : Nat) : FnOk Tryz.prog 17 (spec_l1Cut.S N) := fnOk_of (E := spec_l1Cut.E N) mix Tryz.func17 (by kernel_rfl) (by kernel_rfl) (by kernel_rfl) (lk_ok all_nil) (by kernel_rfl) (fun _ _ h => h)

/-! ### spec_l6Figure: function 46, loop.example/medlar/spec.l6Figure -/
noncomputable def spec_l6Figure.E (N : Nat) : Env := ⟨lk [], nzk [], N, [], false⟩
noncomputable def spec_l6Figure.f (N : Nat) (a : List PV) : Option Res := run Tryz.prog (spec_l6Figure.E N) Tryz.f46 [(5, .ro)] [(4, .val)] a
theorem spec_l6Figure.f_eq (N : Nat) (a0 : PV) : spec_l6Figure.f N [a0] = if decide (48 ≤ a0.toInt) = true then (if decide (a0.toInt ≤ 57) = false then (if decide (97 ≤ a0.toInt) = true then (some [(PV.sc (.bool (decide (a0.toInt ≤ 102))))]) else (some [(PV.sc (.bool false))])) else (some [(PV.sc (.bool true))])) else (if decide (97 ≤ a0.toInt) = true then (some [(PV.sc (.bool (decide (a0.toInt ≤ 102))))]) else (some [(PV.sc (.bool false))])) := by kernel_rfl
noncomputable def spec_l6Figure.S (N : Nat) : ASpec := ⟨[(5, .ro)], [(4, .val)], spec_l6Figure.f N⟩
theorem spec_l6Figure.ok (N : Nat) : FnOk Tryz.prog 46 (spec_l6Figure.S N) := fnOk_of (E := spec_l6Figure.E N) mix Tryz.func46 (by kernel_rfl) (by kernel_rfl) (by kernel_rfl) (lk_ok all_nil) (by kernel_rfl) (fun _ _ h => h)

/-! ### spec_l11Figure: function 47, loop.example/medlar/spec.l11Figure -/
noncomputable def spec_l11Figure.E (N : Nat) : Env := ⟨lk [], nzk [], N, [], false⟩
noncomputable def spec_l11Figure.f (N : Nat) (a : List PV) : Option Res := run Tryz.prog (spec_l11Figure.E N) Tryz.f47 [(5, .ro)] [(3, .val)] a
theorem spec_l11Figure.f_eq (N : Nat) (a0 : PV) : spec_l11Figure.f N [a0] = if decide (a0.toInt ≤ 57) = true then (some [(PV.sc (.int .i64 (IntKind.i64.wrap (IntKind.u8.wrap (a0.toInt - 48)))))]) else (some [(PV.sc (.int .i64 (IntKind.i64.wrap ((IntKind.i64.wrap (IntKind.u8.wrap (a0.toInt - 97))) + 10))))]) := by kernel_rfl
noncomputable def spec_l11Figure.S (N : Nat) : ASpec := ⟨[(5, .ro)], [(3, .val)], spec_l11Figure.f N⟩
theorem spec_l11Figure.ok (N : Nat) : FnOk Tryz.prog 47 (spec_l11Figure.S N) := fnOk_of (E := spec_l11Figure.E N) mix Tryz.func47 (by kernel_rfl) (by kernel_rfl) (by kernel_rfl) (lk_ok all_nil) (by kernel_rfl) (fun _ _ h => h)

/-! ### spec_l11Bytes: function 18, loop.example/medlar/spec.l11Bytes -/
noncomputable def spec_l11Bytes.E (N : Nat) : Env := ⟨lk [(46, spec_l6Figure.S N), (47, spec_l11Figure.S N)], nzk [(3, ⟨[1, 2, 3, 6, 7, 8, 9, 10, 11, 12, 13, 14, 15, 16, 17, 18, 19, 20, 21, 22, 23, 24, 25, 26, 27, 28, 29, 30, 31, 32, 33, 34, 35, 36, 37, 38, 39, 40, 41, 42, 43, 44, 45, 46], [(4, 31)], []⟩), (8, ⟨[1, 2, 3, 5, 7, 8, 9, 10, 11, 12, 13, 14, 15, 16, 17, 18, 19, 20, 21, 22, 23, 24, 25, 26, 27, 28, 29, 30, 31, 32, 33, 34, 35, 36, 37, 38, 39, 40, 41, 42, 43, 44, 45, 46], [(4, 31)], []⟩)], N, [], false⟩
noncomputable def spec_l11Bytes.f (N : Nat) (a : List PV) : Option Res := run Tryz.prog (spec_l11Bytes.E N) Tryz.f18 [(9, .ro)] [(9, .val), (4, .val)] a
noncomputable def spec_l11Bytes.l0 (N : Nat) (n : Nat) (x0 : ByteArray) (x5 : Int) (y0 : List PV) : Option Res := loopAt Tryz.prog (spec_l11Bytes.E N) Tryz.f18 [(9, .val), (4, .val)] [1, 1, 0, 1, 0] [] n ⟨mkSlots 47 [(0, .sc (.string x0)), (4, .ref 0 []), (5, .sc (.int .i64 x5))], ohOf [.row 31 (PV.list y0)]⟩
noncomputable def spec_l11Bytes.l1 (N : Nat) (n : Nat) (x0 : ByteArray) (x6 : Int) (y0 : List PV) : Option Res := loopAt Tryz.prog (spec_l11Bytes.E N) Tryz.f18 [(9, .val), (4, .val)] [1, 1, 1, 0, 1, 0] [] n ⟨mkSlots 47 [(0, .sc (.string x0)), (4, .ref 0 []), (6, .sc (.int .i64 x6))], ohOf [.row 31 (PV.list y0)]⟩
theorem spec_l11Bytes.f_eq (N : Nat) (a0 : PV) : spec_l11Bytes.f N [a0] = spec_l11Bytes.l0 N N a0.toStr 0 [] := by kernel_rfl
theorem spec_l11Bytes.l0_eq (N : Nat) (n : Nat) (x0 : ByteArray) (x5 : Int) (y0 : List PV) : spec_l11Bytes.l0 N (n + 1) x0 x5 y0 = if decide (x5 < (x0.size : Int)) = true then (if 0 ≤ x5 then (if x5 < (x0.size : Int) then ((spec_l6Figure.f N [(PV.sc (.int .u8 ((x0.get! x5.toNat).toNat : Int)))]).bind fun t1 => if (!((t1.headD default).toBool)) = true then (some [(PV.sc (.string (ByteArray.mk #[]))), (PV.sc (.bool false))]) else (spec_l11Bytes.l0 N n x0 (IntKind.i64.wrap (x5 + 1)) y0)) else none) else none) else (spec_l11Bytes.l1 N N x0 0 y0) := by kernel_rfl
theorem spec_l11Bytes.l1_eq (N : Nat) (n : Nat) (x0 : ByteArray) (x6 : Int) (y0 : List PV) : spec_l11Bytes.l1 N (n + 1) x0 x6 y0 = if decide ((IntKind.i64.wrap (x6 + 1)) < (x0.size : Int)) = true then (if 0 ≤ x6 then (if x6 < (x0.size : Int) then ((spec_l11Figure.f N [(PV.sc (.int .u8 ((x0.get! x6.toNat).toNat : Int)))]).bind fun t2 => if 0 ≤ (IntKind.i64.wrap (x6 + 1)) then (if (IntKind.i64.wrap (x6 + 1)) < (x0.size : Int) then ((spec_l11Figure.f N [(PV.sc (.int .u8 ((x0.get! (IntKind.i64.wrap (x6 + 1)).toNat).toNat : Int)))]).bind fun t3 => if y0.length + [(PV.sc (.int .u8 (IntKind.u8.wrap (IntKind.i64.wrap ((IntKind.i64.wrap (16 * ((t2.headD default).toInt))) + ((t3.headD default).toInt))))))].length ≤ 140737488355328 then (spec_l11Bytes.l1 N n x0 (IntKind.i64.wrap (x6 + 2)) (y0 ++ [(PV.sc (.int .u8 (IntKind.u8.wrap (IntKind.i64.wrap ((IntKind.i64.wrap (16 * ((t2.headD default).toInt))) + ((t3.headD default).toInt))))))])) else none) else none) else none) else none) else none) else (if 2 = 0 then none else (some [(PV.sc (.string (bytesOfL y0))), (PV.sc (.bool (decide ((Int.tmod (x0.size : Int) 2) = 0))))])) := by kernel_rfl
noncomputable def spec_l11Bytes.S (N : Nat) : ASpec := ⟨[(9, .ro)], [(9, .val), (4, .val)], spec_l11Bytes.f N⟩
theorem spec_l11Bytes.ok (N : Nat) : FnOk Tryz.prog 18 (spec_l11Bytes.S N) := fnOk_of (E := spec_l11Bytes.E N) mix Tryz.func18 (by kernel_rfl) (by kernel_rfl) (by kernel_rfl) (lk_ok (all_cons (spec_l6Figure.ok N) (all_cons (spec_l11Figure.ok N) all_nil))) (by kernel_rfl) (fun _ _ h => h)

/-! ### spec_l1Num: function 20, loop.example/medlar/spec.l1Num -/
noncomputable def spec_l1Num.E (N : Nat) : Env := ⟨lk [], nzk [(5, ⟨[1, 2, 5, 6, 7, 8, 9, 10, 11, 12, 13, 14, 15, 16, 17, 18, 19, 20, 21, 22, 23, 24, 25, 26, 27, 28, 29, 30, 31, 32, 33, 34, 35, 36, 37, 38, 39, 40, 41, 42, 43, 44, 45, 46, 47], [], []⟩)], N, [], false⟩
noncomputable def spec_l1Num.f (N : Nat) (a : List PV) : Option Res := run Tryz.prog (spec_l1Num.E N) Tryz.f20 [(9, .ro)] [(3, .val)] a
noncomputable def spec_l1Num.l0 (N : Nat) (n : Nat) (x0 : ByteArray) (x3 : Int) (x4 : Int) : Option Res := loopAt Tryz.prog (spec_l1Num.E N) Tryz.f20 [(3, .val)] [1, 1, 1, 0, 1, 0] [] n ⟨mkSlots 48 [(0, .sc (.string x0)), (3, .sc (.int .i64 x3)), (4, .sc (.int .i64 x4))], ohOf []⟩
theorem spec_l1Num.f_eq (N : Nat) (a0 : PV) : spec_l1Num.f N [a0] = if decide ((a0.toStr.size : Int) = 0) = false then (if decide (6 < (a0.toStr.size : Int)) = false then (if decide (1 < (a0.toStr.size : Int)) = true then (if 0 ≤ 0 then (if 0 < (a0.toStr.size : Int) then (if decide (((a0.toStr.get! 0).toNat : Int) = 48) = true then (some [(PV.sc (.int .i64 (-1)))]) else (spec_l1Num.l0 N N a0.toStr 0 0)) else none) else none) else (spec_l1Num.l0 N N a0.toStr 0 0)) else (some [(PV.sc (.int .i64 (-1)))])) else (some [(PV.sc (.int .i64 (-1)))]) := by kernel_rfl
theorem spec_l1Num.l0_eq (N : Nat) (n : Nat) (x0 : ByteArray) (x3 : Int) (x4 : Int) : spec_l1Num.l0 N (n + 1) x0 x3 x4 = if decide (x4 < (x0.size : Int)) = true then (if 0 ≤ x4 then (if x4 < (x0.size : Int) then (if decide (((x0.get! x4.toNat).toNat : Int) < 48) = false then (if 0 ≤ x4 then (if x4 < (x0.size : Int) then (if decide (57 < ((x0.get! x4.toNat).toNat : Int)) = true then (some [(PV.sc (.int .i64 (-1)))]) else (if 0 ≤ x4 then (if x4 < (x0.size : Int) then (spec_l1Num.l0 N n x0 (IntKind.i64.wrap ((IntKind.i64.wrap (x3 * 10)) + (IntKind.i64.wrap (IntKind.u8.wrap (((x0.get! x4.toNat).toNat : Int) - 48))))) (IntKind.i64.wrap (x4 + 1))) else none) else none)) else none) else none) else (some [(PV.sc (.int .i64 (-1)))])) else none) else none) else (some [(PV.sc (.int .i64 x3))]) := by kernel_rfl
noncomputable def spec_l1Num.S (N : Nat) : ASpec := ⟨[(9, .ro)], [(3, .val)], spec_l1Num.f N⟩
theorem spec_l1Num.ok (N : Nat) : FnOk Tryz.prog 20 (spec_l1Num.S N) := fnOk_of (E := spec_l1Num.E N) mix Tryz.func20 (by kernel_rfl) (by kernel_rfl) (by kernel_rfl) (lk_ok all_nil) (by kernel_rfl) (fun _ _ h => h)

/-! ### spec_RingOk: function 13, loop.example/medlar/spec.RingOk -/
noncomputable def spec_RingOk.E (N : Nat) : Env := ⟨lk [(40, spec_l6Key.S N), (41, spec_l1In.S N)], nzk [(2, ⟨[0, 2, 4, 5, 6, 7, 8, 9, 10, 11, 12, 13, 14, 15, 16, 17, 18, 19, 20, 21, 22, 23, 24, 25, 26, 27, 28, 29, 30, 31, 32, 33, 34, 35, 36, 37, 38, 39, 40, 41, 42, 43, 44, 45, 46, 47, 48, 49, 50, 51, 52, 53, 54, 55, 56, 57, 58, 59, 60, 61, 62, 63, 64, 65, 66, 67, 68, 69, 70, 71, 72, 73, 74, 75, 76, 77, 78, 79, 80, 81, 82], [], []⟩), (7, ⟨[0, 2, 5, 6, 7, 8, 9, 10, 11, 12, 13, 14, 15, 16, 17, 18, 19, 20, 21, 22, 23, 24, 25, 26, 27, 28, 29, 30, 31, 32, 33, 34, 35, 36, 37, 38, 39, 40, 41, 42, 43, 44, 45, 46, 47, 48, 49, 50, 51, 52, 53, 54, 55, 56, 57, 58, 59, 60, 61, 62, 63, 64, 65, 66, 67, 68, 69, 70, 71, 72, 73, 74, 75, 76, 77, 78, 79, 80, 81, 82], [], []⟩), (12, ⟨[0, 2, 3, 4, 6, 7, 8, 9, 10, 11, 12, 13, 14, 15, 16, 17, 18, 19, 20, 21, 22, 23, 24, 25, 26, 27, 28, 29, 30, 31, 32, 33, 34, 35, 36, 37, 38, 39, 40, 41, 42, 43, 44, 45, 46, 47, 48, 49, 50, 51, 52, 53, 54, 55, 56, 57, 58, 59, 60, 61, 62, 63, 64, 65, 66, 67, 68, 69, 70, 71, 72, 73, 74, 75, 76, 77, 78, 79, 80, 81, 82], [], []⟩)], N, [], false⟩
noncomputable def spec_RingOk.f (N : Nat) (a : List PV) : Option Res := run Tryz.prog (spec_RingOk.E N) Tryz.f13 [(25, .ro)] [(4, .val)] a
noncomputable def spec_RingOk.l0 (N : Nat) (n : Nat) (x3 : Int) (y0_0 : PV) (y0_1 : PV) : Option Res := loopAt Tryz.prog (spec_RingOk.E N) Tryz.f13 [(4, .val)] [1, 0, 1, 0] [] n ⟨mkSlots 83 [(1, .ptr 0 []), (3, .sc (.int .i64 x3))], ohOf [.box 25 (.agg 25 [.ro 22 y0_0, .ro 23 y0_1])]⟩
noncomputable def spec_RingOk.l1 (N : Nat) (m0 : Nat) (n : Nat) (x3 : Int) (x4 : Int) (y0_0 : PV) (y0_1 : PV) : Option Res := loopAt Tryz.prog (spec_RingOk.E N) Tryz.f13 [(4, .val)] [1, 0, 1, 0, 0, 1, 0, 0, 1, 1, 0] [m0] n ⟨mkSlots 83 [(1, .ptr 0 []), (3, .sc (.int .i64 x3)), (4, .sc (.int .i64 x4))], ohOf [.box 25 (.agg 25 [.ro 22 y0_0, .ro 23 y0_1])]⟩
noncomputable def spec_RingOk.l2 (N : Nat) (n : Nat) (x5 : Int) (y0_0 : PV) (y0_1 : PV) : Option Res := loopAt Tryz.prog (spec_RingOk.E N) Tryz.f13 [(4, .val)] [1, 1, 0, 1, 0] [] n ⟨mkSlots 83 [(1, .ptr 0 []), (5, .sc (.int .i64 x5))], ohOf [.box 25 (.agg 25 [.ro 22 y0_0, .ro 23 y0_1])]⟩
theorem spec_RingOk.f_eq (N : Nat) (a0 : PV) : spec_RingOk.f N [a0] = spec_RingOk.l0 N N 0 (a0.fld 0) (a0.fld 1) := by kernel_rfl
theorem spec_RingOk.l0_eq (N : Nat) (n : Nat) (x3 : Int) (y0_0 : PV) (y0_1 : PV) : spec_RingOk.l0 N (n + 1) x3 y0_0 y0_1 = if decide (x3 < (y0_0.items.length : Int)) = true then (if 0 ≤ x3 then (if x3 < (y0_0.items.length : Int) then ((spec_l6Key.f N [(PV.sc (.string ((y0_0.elem x3.toNat).toStr)))]).bind fun t1 => if (!((t1.headD default).toBool)) = true then (some [(PV.sc (.bool false))]) else (spec_RingOk.l1 N n N x3 0 y0_0 y0_1)) else none) else none) else (spec_RingOk.l2 N N 1 y0_0 y0_1) := by kernel_rfl
theorem spec_RingOk.l1_eq (N : Nat) (m0 : Nat) (n : Nat) (x3 : Int) (x4 : Int) (y0_0 : PV) (y0_1 : PV) : spec_RingOk.l1 N m0 (n + 1) x3 x4 y0_0 y0_1 = if decide (x4 < x3) = true then (if 0 ≤ x4 then (if x4 < (y0_0.items.length : Int) then (if 0 ≤ x3 then (if x3 < (y0_0.items.length : Int) then (if decide (((y0_0.elem x4.toNat).toStr).toList = ((y0_0.elem x3.toNat).toStr).toList) = true then (some [(PV.sc (.bool false))]) else (spec_RingOk.l1 N m0 n x3 (IntKind.i64.wrap (x4 + 1)) y0_0 y0_1)) else none) else none) else none) else none) else (spec_RingOk.l0 N m0 (IntKind.i64.wrap (x3 + 1)) y0_0 y0_1) := by kernel_rfl
theorem spec_RingOk.l2_eq (N : Nat) (n : Nat) (x5 : Int) (y0_0 : PV) (y0_1 : PV) : spec_RingOk.l2 N (n + 1) x5 y0_0 y0_1 = if decide (x5 < (y0_1.items.length : Int)) = true then (if 0 ≤ (IntKind.i64.wrap (x5 - 1)) then (if (IntKind.i64.wrap (x5 - 1)) < (y0_1.items.length : Int) then (if 0 ≤ x5 then (if x5 < (y0_1.items.length : Int) then (if decide (((y0_1.elem x5.toNat).toInt) ≤ ((y0_1.elem ((IntKind.i64.wrap (x5 - 1)).toNat)).toInt)) = false then (if 0 ≤ x5 then (if x5 < (y0_1.items.length : Int) then (if decide (999999 < ((y0_1.elem x5.toNat).toInt)) = true then (some [(PV.sc (.bool false))]) else (spec_RingOk.l2 N n (IntKind.i64.wrap (x5 + 1)) y0_0 y0_1)) else none) else none) else (some [(PV.sc (.bool false))])) else none) else none) else none) else none) else ((spec_l1In.f N [(PV.sc (.int .i64 (y0_0.items.length : Int))), (PV.sc (.int .i64 1)), (PV.sc (.int .i64 5))]).bind fun t2 => if (t2.headD default).toBool = true then (if decide ((y0_1.items.length : Int) = (y0_0.items.length : Int)) = true then (if 0 ≤ 0 then (if 0 < (y0_1.items.length : Int) then (some [(PV.sc (.bool (decide (((y0_1.elem 0).toInt) = 1))))]) else none) else none) else (some [(PV.sc (.bool false))])) else (some [(PV.sc (.bool false))])) := by kernel_rfl
noncomputable def spec_RingOk.S (N : Nat) : ASpec := ⟨[(25, .ro)], [(4, .val)], spec_RingOk.f N⟩
theorem spec_RingOk.ok (N : Nat) : FnOk Tryz.prog 13 (spec_RingOk.S N) := fnOk_of (E := spec_RingOk.E N) mix Tryz.func13 (by kernel_rfl) (by kernel_rfl) (by kernel_rfl) (lk_ok (all_cons (spec_l6Key.ok N) (all_cons (spec_l1In.ok N) all_nil))) (by kernel_rfl) (fun _ _ h => h)

/-! ### spec_l11Copy: function 49, loop.example/medlar/spec.l11Copy -/
noncomputable def spec_l11Copy.E (N : Nat) : Env := ⟨lk [], nzk [], N, [], false⟩
noncomputable def spec_l11Copy.f (N : Nat) (a : List PV) : Option Res := run Tryz.prog (spec_l11Copy.E N) Tryz.f49 [(25, .ro)] [(25, .own)] a
theorem spec_l11Copy.f_eq (N : Nat) (a0 : PV) : spec_l11Copy.f N [a0] = if ([] : List PV).length + ((a0.fld 0).items).length ≤ 8796093022208 then (if ([] : List PV).length + ((a0.fld 1).items).length ≤ 17592186044416 then (some [(PV.agg [(PV.list (([] : List PV) ++ ((a0.fld 0).items))), (PV.list (([] : List PV) ++ ((a0.fld 1).items)))])]) else none) else none := by kernel_rfl
noncomputable def spec_l11Copy.S (N : Nat) : ASpec := ⟨[(25, .ro)], [(25, .own)], spec_l11Copy.f N⟩
theorem spec_l11Copy.ok (N : Nat) : FnOk Tryz.prog 49 (spec_l11Copy.S N) := fnOk_of (E := spec_l11Copy.E N) mix Tryz.func49 (by kernel_rfl) (by kernel_rfl) (by kernel_rfl) (lk_ok all_nil) (by kernel_rfl) (fun _ _ h => h)

/-! ### spec_l11Last: function 70, loop.example/medlar/spec.l11Last -/
noncomputable def spec_l11Last.E (N : Nat) : Env := ⟨lk [], nzk [], N, [], false⟩
noncomputable def spec_l11Last.f (N : Nat) (a : List PV) : Option Res := run Tryz.prog (spec_l11Last.E N) Tryz.f70 [(25, .ro)] [(9, .val)] a
theorem spec_l11Last.f_eq (N : Nat) (a0 : PV) : spec_l11Last.f N [a0] = if 0 ≤ (IntKind.i64.wrap ((((a0.fld 0).items).length : Int) - 1)) then (if (IntKind.i64.wrap ((((a0.fld 0).items).length : Int) - 1)) < (((a0.fld 0).items).length : Int) then (some [(PV.sc (.string (((a0.fld 0).elem ((IntKind.i64.wrap ((((a0.fld 0).items).length : Int) - 1)).toNat)).toStr)))]) else none) else none := by kernel_rfl
noncomputable def spec_l11Last.S (N : Nat) : ASpec := ⟨[(25, .ro)], [(9, .val)], spec_l11Last.f N⟩
theorem spec_l11Last.ok (N : Nat) : FnOk Tryz.prog 70 (spec_l11Last.S N) := fnOk_of (E := spec_l11Last.E N) mix Tryz.func70 (by kernel_rfl) (by kernel_rfl) (by kernel_rfl) (lk_ok all_nil) (by kernel_rfl) (fun _ _ h => h)

/-! ### spec_l1Dec: function 66, loop.example/medlar/spec.l1Dec -/
noncomputable def spec_l1Dec.E (N : Nat) (self : List PV → Option Res) : Env := ⟨lk [(66, ⟨[(3, .ro)], [(9, .val)], self⟩)], nzk [], N, [], false⟩
noncomputable def spec_l1Dec.g (N : Nat) (d : Nat) : List PV → Option Res := Nat.rec (fun _ => none) (fun _ ih a => run Tryz.prog (spec_l1Dec.E N ih) Tryz.f66 [(3, .ro)] [(9, .val)] a) d
noncomputable def spec_l1Dec.f (N : Nat) (a : List PV) : Option Res := spec_l1Dec.g N N a
theorem spec_l1Dec.f_eq (N : Nat) (a : List PV) : spec_l1Dec.f N a = spec_l1Dec.g N N a := rfl
theorem spec_l1Dec.g_eq (N : Nat) (d : Nat) (a0 : PV) : spec_l1Dec.g N (d + 1) [a0] = if decide (a0.toInt < (-9223372036854775807)) = true then (some [(PV.sc (.string (ByteArray.mk #[45, 57, 50, 50, 51, 51, 55, 50, 48, 51, 54, 56, 53, 52, 55, 55, 53, 56, 48, 56])))]) else (if decide (a0.toInt < 0) = true then ((spec_l1Dec.g N d [(PV.sc (.int .i64 (IntKind.i64.wrap (0 - a0.toInt))))]).bind fun t1 => if (ByteArray.mk #[45]).size + ((t1.headD default).toStr).size ≤ 9223372036854775807 then (some [(PV.sc (.string ((ByteArray.mk #[45]) ++ ((t1.headD default).toStr))))]) else none) else (if decide (a0.toInt < 10) = true then (some [(PV.sc (.string (bytesOfL [(PV.sc (.int .u8 (IntKind.u8.wrap (IntKind.i64.wrap (48 + a0.toInt)))))])))]) else (if 10 = 0 then none else ((spec_l1Dec.g N d [(PV.sc (.int .i64 (IntKind.i64.wrap (Int.tdiv a0.toInt 10))))]).bind fun t2 => if 10 = 0 then none else (if ((t2.headD default).toStr).size + (bytesOfL [(PV.sc (.int .u8 (IntKind.u8.wrap (IntKind.i64.wrap (48 + (Int.tmod a0.toInt 10))))))]).size ≤ 9223372036854775807 then (some [(PV.sc (.string (((t2.headD default).toStr) ++ (bytesOfL [(PV.sc (.int .u8 (IntKind.u8.wrap (IntKind.i64.wrap (48 + (Int.tmod a0.toInt 10))))))]))))]) else none))))) := by kernel_rfl
noncomputable def spec_l1Dec.S (N : Nat) : ASpec := ⟨[(3, .ro)], [(9, .val)], spec_l1Dec.f N⟩
theorem spec_l1Dec.g_ok (N : Nat) : ∀ d, FnOk Tryz.prog 66 ⟨[(3, .ro)], [(9, .val)], spec_l1Dec.g N d⟩ := fnOk_rec mix Tryz.func66 (by kernel_rfl) (by kernel_rfl) (by kernel_rfl) (spec_l1Dec.g N) (fun d => spec_l1Dec.E N (spec_l1Dec.g N d)) (fun _ => rfl) (fun d ih => lk_ok (all_cons ih all_nil)) (fun _ => rfl) (fun _ _ _ h => h)
theorem spec_l1Dec.ok (N : Nat) : FnOk Tryz.prog 66 (spec_l1Dec.S N) := spec_l1Dec.g_ok N N

/-! ### spec_l6Hex: function 67, loop.example/medlar/spec.l6Hex -/
noncomputable def spec_l6Hex.E (N : Nat) : Env := ⟨lk [], nzk [(4, ⟨[1, 2, 6, 7, 8, 9, 10, 11, 12, 13, 14, 15, 16, 17, 18, 19, 20, 21, 22, 23, 24, 25, 26, 27, 28, 29], [(4, 31)], []⟩)], N, [], false⟩
noncomputable def spec_l6Hex.f (N : Nat) (a : List PV) : Option Res := run Tryz.prog (spec_l6Hex.E N) Tryz.f67 [(9, .ro)] [(9, .val)] a
noncomputable def spec_l6Hex.l0 (N : Nat) (n : Nat) (x0 : ByteArray) (x3 : ByteArray) (x5 : Int) (y0 : List PV) : Option Res := loopAt Tryz.prog (spec_l6Hex.E N) Tryz.f67 [(9, .val)] [1, 1, 1, 0, 1, 0] [] n ⟨mkSlots 30 [(0, .sc (.string x0)), (3, .sc (.string x3)), (4, .ref 0 []), (5, .sc (.int .i64 x5))], ohOf [.row 31 (PV.list y0)]⟩
theorem spec_l6Hex.f_eq (N : Nat) (a0 : PV) : spec_l6Hex.f N [a0] = spec_l6Hex.l0 N N a0.toStr (ByteArray.mk #[48, 49, 50, 51, 52, 53, 54, 55, 56, 57, 97, 98, 99, 100, 101, 102]) 0 [] := by kernel_rfl
theorem spec_l6Hex.l0_eq (N : Nat) (n : Nat) (x0 : ByteArray) (x3 : ByteArray) (x5 : Int) (y0 : List PV) : spec_l6Hex.l0 N (n + 1) x0 x3 x5 y0 = if decide (x5 < (x0.size : Int)) = true then (if 0 ≤ x5 then (if x5 < (x0.size : Int) then (if 16 = 0 then none else (if 0 ≤ (IntKind.u8.wrap (Int.tdiv ((x0.get! x5.toNat).toNat : Int) 16)) then (if (IntKind.u8.wrap (Int.tdiv ((x0.get! x5.toNat).toNat : Int) 16)) < (x3.size : Int) then (if 0 ≤ x5 then (if x5 < (x0.size : Int) then (if 16 = 0 then none else (if 0 ≤ (Int.tmod ((x0.get! x5.toNat).toNat : Int) 16) then (if (Int.tmod ((x0.get! x5.toNat).toNat : Int) 16) < (x3.size : Int) then (if y0.length + [(PV.sc (.int .u8 ((x3.get! (IntKind.u8.wrap (Int.tdiv ((x0.get! x5.toNat).toNat : Int) 16)).toNat).toNat : Int))), (PV.sc (.int .u8 ((x3.get! (Int.tmod ((x0.get! x5.toNat).toNat : Int) 16).toNat).toNat : Int)))].length ≤ 140737488355328 then (spec_l6Hex.l0 N n x0 x3 (IntKind.i64.wrap (x5 + 1)) (y0 ++ [(PV.sc (.int .u8 ((x3.get! (IntKind.u8.wrap (Int.tdiv ((x0.get! x5.toNat).toNat : Int) 16)).toNat).toNat : Int))), (PV.sc (.int .u8 ((x3.get! (Int.tmod ((x0.get! x5.toNat).toNat : Int) 16).toNat).toNat : Int)))])) else none) else none) else none)) else none) else none) else none) else none)) else none) else none) else (some [(PV.sc (.string (bytesOfL y0)))]) := by kernel_rfl
noncomputable def spec_l6Hex.S (N : Nat) : ASpec := ⟨[(9, .ro)], [(9, .val)], spec_l6Hex.f N⟩
theorem spec_l6Hex.ok (N : Nat) : FnOk Tryz.prog 67 (spec_l6Hex.S N) := fnOk_of (E := spec_l6Hex.E N) mix Tryz.func67 (by kernel_rfl) (by kernel_rfl) (by kernel_rfl) (lk_ok all_nil) (by kernel_rfl) (fun _ _ h => h)

/-! ### spec_l11Text: function 38, loop.example/medlar/spec.l11Text -/
noncomputable def spec_l11Text.E (N : Nat) : Env := ⟨lk [(66, spec_l1Dec.S N), (67, spec_l6Hex.S N)], nzk [], N, [], false⟩
noncomputable def spec_l11Text.f (N : Nat) (a : List PV) : Option Res := run Tryz.prog (spec_l11Text.E N) Tryz.f38 [(45, .ro)] [(9, .val)] a
theorem spec_l11Text.f_eq (N : Nat) (a0 : PV) : spec_l11Text.f N [a0] = (spec_l1Dec.f N [(PV.sc (.int .i64 ((a0.fld 1).toInt)))]).bind fun t1 => if (ByteArray.mk #[116, 117, 114, 110, 32]).size + ((t1.headD default).toStr).size ≤ 9223372036854775807 then (if ((ByteArray.mk #[116, 117, 114, 110, 32]) ++ ((t1.headD default).toStr)).size + (ByteArray.mk #[32]).size ≤ 9223372036854775807 then ((spec_l6Hex.f N [(PV.sc (.string ((a0.fld 0).toStr)))]).bind fun t2 => if (((ByteArray.mk #[116, 117, 114, 110, 32]) ++ ((t1.headD default).toStr)) ++ (ByteArray.mk #[32])).size + ((t2.headD default).toStr).size ≤ 9223372036854775807 then (some [(PV.sc (.string ((((ByteArray.mk #[116, 117, 114, 110, 32]) ++ ((t1.headD default).toStr)) ++ (ByteArray.mk #[32])) ++ ((t2.headD default).toStr))))]) else none) else none) else none := by kernel_rfl
noncomputable def spec_l11Text.S (N : Nat) : ASpec := ⟨[(45, .ro)], [(9, .val)], spec_l11Text.f N⟩
theorem spec_l11Text.ok (N : Nat) : FnOk Tryz.prog 38 (spec_l11Text.S N) := fnOk_of (E := spec_l11Text.E N) mix Tryz.func38 (by kernel_rfl) (by kernel_rfl) (by kernel_rfl) (lk_ok (all_cons (spec_l1Dec.ok N) (all_cons (spec_l6Hex.ok N) all_nil))) (by kernel_rfl) (fun _ _ h => h)

/-! ### spec_l6Pad: function 69, loop.example/medlar/spec.l6Pad -/
noncomputable def spec_l6Pad.E (N : Nat) : Env := ⟨lk [], nzk [(3, ⟨[2, 3, 4, 7, 8, 9, 10, 11, 12, 13, 14, 15, 16, 17, 18, 19, 20, 21, 22, 23, 24, 25, 26, 27], [(5, 31)], []⟩)], N, [], false⟩
noncomputable def spec_l6Pad.f (N : Nat) (a : List PV) : Option Res := run Tryz.prog (spec_l6Pad.E N) Tryz.f69 [(9, .ro), (5, .ro)] [(9, .val)] a
noncomputable def spec_l6Pad.l0 (N : Nat) (n : Nat) (x0 : ByteArray) (x1 : Int) (x6 : Int) (y0 : List PV) : Option Res := loopAt Tryz.prog (spec_l6Pad.E N) Tryz.f69 [(9, .val)] [1, 1, 0, 1, 0] [] n ⟨mkSlots 28 [(0, .sc (.string x0)), (1, .sc (.int .u8 x1)), (5, .ref 0 []), (6, .sc (.int .i64 x6))], ohOf [.row 31 (PV.list y0)]⟩
theorem spec_l6Pad.f_eq (N : Nat) (a0 : PV) (a1 : PV) : spec_l6Pad.f N [a0, a1] = spec_l6Pad.l0 N N a0.toStr a1.toInt 0 [] := by kernel_rfl
theorem spec_l6Pad.l0_eq (N : Nat) (n : Nat) (x0 : ByteArray) (x1 : Int) (x6 : Int) (y0 : List PV) : spec_l6Pad.l0 N (n + 1) x0 x1 x6 y0 = if decide (x6 < 64) = true then (if decide (x6 < (x0.size : Int)) = true then (if 0 ≤ x6 then (if x6 < (x0.size : Int) then (if y0.length + [(PV.sc (.int .u8 (bXor .u8 ((x0.get! x6.toNat).toNat : Int) x1)))].length ≤ 140737488355328 then (spec_l6Pad.l0 N n x0 x1 (IntKind.i64.wrap (x6 + 1)) (y0 ++ [(PV.sc (.int .u8 (bXor .u8 ((x0.get! x6.toNat).toNat : Int) x1)))])) else none) else none) else none) else (if y0.length + [(PV.sc (.int .u8 (bXor .u8 0 x1)))].length ≤ 140737488355328 then (spec_l6Pad.l0 N n x0 x1 (IntKind.i64.wrap (x6 + 1)) (y0 ++ [(PV.sc (.int .u8 (bXor .u8 0 x1)))])) else none)) else (some [(PV.sc (.string (bytesOfL y0)))]) := by kernel_rfl
noncomputable def spec_l6Pad.S (N : Nat) : ASpec := ⟨[(9, .ro), (5, .ro)], [(9, .val)], spec_l6Pad.f N⟩
theorem spec_l6Pad.ok (N : Nat) : FnOk Tryz.prog 69 (spec_l6Pad.S N) := fnOk_of (E := spec_l6Pad.E N) mix Tryz.func69 (by kernel_rfl) (by kernel_rfl) (by kernel_rfl) (lk_ok all_nil) (by kernel_rfl) (fun _ _ h => h)

/-! ### spec_l6Padded: function 82, loop.example/medlar/spec.l6Padded -/
noncomputable def spec_l6Padded.E (N : Nat) : Env := ⟨lk [], nzk [(2, ⟨[1, 2, 4, 5, 6, 7, 8, 9, 10, 11, 12, 13, 14, 15, 16, 17, 18, 19, 20, 21, 22, 23, 24, 25, 26, 27, 28, 29, 30, 31, 32], [(3, 31)], []⟩), (6, ⟨[0, 1, 2, 6, 7, 8, 9, 10, 11, 12, 13, 14, 15, 16, 17, 18, 19, 20, 21, 22, 23, 24, 25, 26, 27, 28, 29, 30, 31, 32], [(3, 31)], []⟩)], N, [], false⟩
noncomputable def spec_l6Padded.f (N : Nat) (a : List PV) : Option Res := run Tryz.prog (spec_l6Padded.E N) Tryz.f82 [(9, .ro)] [(31, .own)] a
noncomputable def spec_l6Padded.l0 (N : Nat) (n : Nat) (x0 : ByteArray) (y0 : List PV) : Option Res := loopAt Tryz.prog (spec_l6Padded.E N) Tryz.f82 [(31, .own)] [1, 1, 0, 0] [] n ⟨mkSlots 33 [(0, .sc (.string x0)), (3, .ref 0 [])], ohOf [.row 31 (PV.list y0)]⟩
noncomputable def spec_l6Padded.l1 (N : Nat) (n : Nat) (x4 : Int) (x5 : Int) (y0 : List PV) : Option Res := loopAt Tryz.prog (spec_l6Padded.E N) Tryz.f82 [(31, .own)] [1, 1, 1, 1, 0, 1, 0] [] n ⟨mkSlots 33 [(3, .ref 0 []), (4, .sc (.int .i64 x4)), (5, .sc (.int .i64 x5))], ohOf [.row 31 (PV.list y0)]⟩
theorem spec_l6Padded.f_eq (N : Nat) (a0 : PV) : spec_l6Padded.f N [a0] = if a0.toStr.size ≤ 9223372036854775807 then (if (bytesL a0.toStr).length + [(PV.sc (.int .u8 128))].length ≤ 140737488355328 then (spec_l6Padded.l0 N N a0.toStr ((bytesL a0.toStr) ++ [(PV.sc (.int .u8 128))])) else none) else none := by kernel_rfl
theorem spec_l6Padded.l0_eq (N : Nat) (n : Nat) (x0 : ByteArray) (y0 : List PV) : spec_l6Padded.l0 N (n + 1) x0 y0 = if 64 = 0 then none else (if (!decide ((Int.tmod (y0.length : Int) 64) = 56)) = true then (if y0.length + [(PV.sc (.int .u8 0))].length ≤ 140737488355328 then (spec_l6Padded.l0 N n x0 (y0 ++ [(PV.sc (.int .u8 0))])) else none) else (spec_l6Padded.l1 N N (IntKind.i64.wrap ((x0.size : Int) * 8)) 7 y0)) := by kernel_rfl
theorem spec_l6Padded.l1_eq (N : Nat) (n : Nat) (x4 : Int) (x5 : Int) (y0 : List PV) : spec_l6Padded.l1 N (n + 1) x4 x5 y0 = if decide (0 ≤ x5) = true then (if 0 ≤ (IntKind.i64.wrap (8 * x5)) then (if y0.length + [(PV.sc (.int .u8 (IntKind.u8.wrap (shrI .i64 x4 (IntKind.i64.wrap (8 * x5))))))].length ≤ 140737488355328 then (spec_l6Padded.l1 N n x4 (IntKind.i64.wrap (x5 - 1)) (y0 ++ [(PV.sc (.int .u8 (IntKind.u8.wrap (shrI .i64 x4 (IntKind.i64.wrap (8 * x5))))))])) else none) else none) else (some [(PV.list y0)]) := by kernel_rfl
noncomputable def spec_l6Padded.S (N : Nat) : ASpec := ⟨[(9, .ro)], [(31, .own)], spec_l6Padded.f N⟩
theorem spec_l6Padded.ok (N : Nat) : FnOk Tryz.prog 82 (spec_l6Padded.S N) := fnOk_of (E := spec_l6Padded.E N) mix Tryz.func82 (by kernel_rfl) (by kernel_rfl) (by kernel_rfl) (lk_ok all_nil) (by kernel_rfl) (fun _ _ h => h)

/-! ### spec_l6Turn: function 95, loop.example/medlar/spec.l6Turn -/
noncomputable def spec_l6Turn.E (N : Nat) : Env := ⟨lk [], nzk [], N, [], false⟩
noncomputable def spec_l6Turn.f (N : Nat) (a : List PV) : Option Res := run Tryz.prog (spec_l6Turn.E N) Tryz.f95 [(91, .ro), (3, .ro)] [(91, .val)] a
theorem spec_l6Turn.f_eq (N : Nat) (a0 : PV) (a1 : PV) : spec_l6Turn.f N [a0, a1] = if 0 ≤ a1.toInt then (if 0 ≤ (IntKind.i64.wrap (32 - a1.toInt)) then (some [(PV.sc (.int .u32 (bOr .u32 (shrI .u32 a0.toInt a1.toInt) (shlI .u32 a0.toInt (IntKind.i64.wrap (32 - a1.toInt))))))]) else none) else none := by kernel_rfl
noncomputable def spec_l6Turn.S (N : Nat) : ASpec := ⟨[(91, .ro), (3, .ro)], [(91, .val)], spec_l6Turn.f N⟩
theorem spec_l6Turn.ok (N : Nat) : FnOk Tryz.prog 95 (spec_l6Turn.S N) := fnOk_of (E := spec_l6Turn.E N) mix Tryz.func95 (by kernel_rfl) (by kernel_rfl) (by kernel_rfl) (lk_ok all_nil) (by kernel_rfl) (fun _ _ h => h)

/-! ### spec_l6Words: function 93, loop.example/medlar/spec.l6Words -/
noncomputable def spec_l6Words.E (N : Nat) : Env := ⟨lk [(95, spec_l6Turn.S N)], nzk [(3, ⟨[1, 2, 5, 6, 7, 8, 9, 10, 11, 12, 13, 14, 15, 16, 17, 18, 19, 20, 21, 22, 23, 24, 25, 26, 27, 28, 29, 30, 31, 32, 33, 34, 35, 36, 37, 38, 39, 40, 41, 42, 43, 44, 45, 46, 47, 48, 49, 50, 51, 52, 53, 54, 55, 56, 57, 58, 59, 60, 61, 62, 63, 64, 65, 66, 67, 68, 69, 70, 71, 72, 73, 74, 75, 76, 77, 78, 79, 80, 81, 82, 83, 84, 85, 86, 87, 88, 89, 90, 91, 92, 93, 94, 95, 96, 97, 98, 99], [(3, 92)], []⟩), (7, ⟨[0, 1, 2, 4, 6, 7, 8, 9, 10, 11, 12, 13, 14, 15, 16, 17, 18, 19, 20, 21, 22, 23, 24, 25, 26, 27, 28, 29, 30, 31, 32, 33, 34, 35, 36, 37, 38, 39, 40, 41, 42, 43, 44, 45, 46, 47, 48, 49, 50, 51, 52, 53, 54, 55, 56, 57, 58, 59, 60, 61, 62, 63, 64, 65, 66, 67, 68, 69, 70, 71, 72, 73, 74, 75, 76, 77, 78, 79, 80, 81, 82, 83, 84, 85, 86, 87, 88, 89, 90, 91, 92, 93, 94, 95, 96, 97, 98, 99], [(3, 92)], []⟩)], N, [], false⟩
noncomputable def spec_l6Words.f (N : Nat) (a : List PV) : Option Res := run Tryz.prog (spec_l6Words.E N) Tryz.f93 [(31, .ro)] [(92, .own)] a
noncomputable def spec_l6Words.l0 (N : Nat) (n : Nat) (x0 : PV) (x4 : Int) (y0 : List PV) : Option Res := loopAt Tryz.prog (spec_l6Words.E N) Tryz.f93 [(92, .own)] [1, 1, 0, 1, 0] [] n ⟨mkSlots 100 [(0, .ro 31 x0), (3, .ref 0 []), (4, .sc (.int .i64 x4))], ohOf [.row 92 (PV.list y0)]⟩
noncomputable def spec_l6Words.l1 (N : Nat) (n : Nat) (x5 : Int) (y0 : List PV) : Option Res := loopAt Tryz.prog (spec_l6Words.E N) Tryz.f93 [(92, .own)] [1, 1, 1, 0, 1, 0] [] n ⟨mkSlots 100 [(3, .ref 0 []), (5, .sc (.int .i64 x5))], ohOf [.row 92 (PV.list y0)]⟩
theorem spec_l6Words.f_eq (N : Nat) (a0 : PV) : spec_l6Words.f N [a0] = if 0 ≤ 0 then (if 0 ≤ 64 then (if 64 ≤ 70368744177664 then (spec_l6Words.l0 N N a0 0 (List.replicate 0 (PV.sc (.int .u32 0)))) else none) else none) else none := by kernel_rfl
theorem spec_l6Words.l0_eq (N : Nat) (n : Nat) (x0 : PV) (x4 : Int) (y0 : List PV) : spec_l6Words.l0 N (n + 1) x0 x4 y0 = if decide (x4 < 16) = true then (if 0 ≤ (IntKind.i64.wrap (4 * x4)) then (if (IntKind.i64.wrap (4 * x4)) < (x0.items.length : Int) then (if 0 ≤ 24 then (if 0 ≤ (IntKind.i64.wrap ((IntKind.i64.wrap (4 * x4)) + 1)) then (if (IntKind.i64.wrap ((IntKind.i64.wrap (4 * x4)) + 1)) < (x0.items.length : Int) then (if 0 ≤ 16 then (if 0 ≤ (IntKind.i64.wrap ((IntKind.i64.wrap (4 * x4)) + 2)) then (if (IntKind.i64.wrap ((IntKind.i64.wrap (4 * x4)) + 2)) < (x0.items.length : Int) then (if 0 ≤ 8 then (if 0 ≤ (IntKind.i64.wrap ((IntKind.i64.wrap (4 * x4)) + 3)) then (if (IntKind.i64.wrap ((IntKind.i64.wrap (4 * x4)) + 3)) < (x0.items.length : Int) then (if y0.length + [(PV.sc (.int .u32 (bOr .u32 (bOr .u32 (bOr .u32 (shlI .u32 (IntKind.u32.wrap ((x0.elem ((IntKind.i64.wrap (4 * x4)).toNat)).toInt)) 24) (shlI .u32 (IntKind.u32.wrap ((x0.elem ((IntKind.i64.wrap ((IntKind.i64.wrap (4 * x4)) + 1)).toNat)).toInt)) 16)) (shlI .u32 (IntKind.u32.wrap ((x0.elem ((IntKind.i64.wrap ((IntKind.i64.wrap (4 * x4)) + 2)).toNat)).toInt)) 8)) (IntKind.u32.wrap ((x0.elem ((IntKind.i64.wrap ((IntKind.i64.wrap (4 * x4)) + 3)).toNat)).toInt)))))].length ≤ 35184372088832 then (spec_l6Words.l0 N n x0 (IntKind.i64.wrap (x4 + 1)) (y0 ++ [(PV.sc (.int .u32 (bOr .u32 (bOr .u32 (bOr .u32 (shlI .u32 (IntKind.u32.wrap ((x0.elem ((IntKind.i64.wrap (4 * x4)).toNat)).toInt)) 24) (shlI .u32 (IntKind.u32.wrap ((x0.elem ((IntKind.i64.wrap ((IntKind.i64.wrap (4 * x4)) + 1)).toNat)).toInt)) 16)) (shlI .u32 (IntKind.u32.wrap ((x0.elem ((IntKind.i64.wrap ((IntKind.i64.wrap (4 * x4)) + 2)).toNat)).toInt)) 8)) (IntKind.u32.wrap ((x0.elem ((IntKind.i64.wrap ((IntKind.i64.wrap (4 * x4)) + 3)).toNat)).toInt)))))])) else none) else none) else none) else none) else none) else none) else none) else none) else none) else none) else none) else none) else (spec_l6Words.l1 N N 16 y0) := by kernel_rfl
theorem spec_l6Words.l1_eq (N : Nat) (n : Nat) (x5 : Int) (y0 : List PV) : spec_l6Words.l1 N (n + 1) x5 y0 = if decide (x5 < 64) = true then (if 0 ≤ (IntKind.i64.wrap (x5 - 15)) then (if (IntKind.i64.wrap (x5 - 15)) < (y0.length : Int) then (if 0 ≤ (IntKind.i64.wrap (x5 - 2)) then (if (IntKind.i64.wrap (x5 - 2)) < (y0.length : Int) then ((spec_l6Turn.f N [(PV.sc (.int .u32 (((PV.list y0).elem ((IntKind.i64.wrap (x5 - 15)).toNat)).toInt))), (PV.sc (.int .i64 7))]).bind fun t1 => (spec_l6Turn.f N [(PV.sc (.int .u32 (((PV.list y0).elem ((IntKind.i64.wrap (x5 - 15)).toNat)).toInt))), (PV.sc (.int .i64 18))]).bind fun t2 => if 0 ≤ 3 then ((spec_l6Turn.f N [(PV.sc (.int .u32 (((PV.list y0).elem ((IntKind.i64.wrap (x5 - 2)).toNat)).toInt))), (PV.sc (.int .i64 17))]).bind fun t3 => (spec_l6Turn.f N [(PV.sc (.int .u32 (((PV.list y0).elem ((IntKind.i64.wrap (x5 - 2)).toNat)).toInt))), (PV.sc (.int .i64 19))]).bind fun t4 => if 0 ≤ 10 then (if 0 ≤ (IntKind.i64.wrap (x5 - 16)) then (if (IntKind.i64.wrap (x5 - 16)) < (y0.length : Int) then (if 0 ≤ (IntKind.i64.wrap (x5 - 7)) then (if (IntKind.i64.wrap (x5 - 7)) < (y0.length : Int) then (if y0.length + [(PV.sc (.int .u32 (IntKind.u32.wrap ((IntKind.u32.wrap ((IntKind.u32.wrap ((((PV.list y0).elem ((IntKind.i64.wrap (x5 - 16)).toNat)).toInt) + (bXor .u32 (bXor .u32 ((t1.headD default).toInt) ((t2.headD default).toInt)) (shrI .u32 (((PV.list y0).elem ((IntKind.i64.wrap (x5 - 15)).toNat)).toInt) 3)))) + (((PV.list y0).elem ((IntKind.i64.wrap (x5 - 7)).toNat)).toInt))) + (bXor .u32 (bXor .u32 ((t3.headD default).toInt) ((t4.headD default).toInt)) (shrI .u32 (((PV.list y0).elem ((IntKind.i64.wrap (x5 - 2)).toNat)).toInt) 10))))))].length ≤ 35184372088832 then (spec_l6Words.l1 N n (IntKind.i64.wrap (x5 + 1)) (y0 ++ [(PV.sc (.int .u32 (IntKind.u32.wrap ((IntKind.u32.wrap ((IntKind.u32.wrap ((((PV.list y0).elem ((IntKind.i64.wrap (x5 - 16)).toNat)).toInt) + (bXor .u32 (bXor .u32 ((t1.headD default).toInt) ((t2.headD default).toInt)) (shrI .u32 (((PV.list y0).elem ((IntKind.i64.wrap (x5 - 15)).toNat)).toInt) 3)))) + (((PV.list y0).elem ((IntKind.i64.wrap (x5 - 7)).toNat)).toInt))) + (bXor .u32 (bXor .u32 ((t3.headD default).toInt) ((t4.headD default).toInt)) (shrI .u32 (((PV.list y0).elem ((IntKind.i64.wrap (x5 - 2)).toNat)).toInt) 10))))))])) else none) else none) else none) else none) else none) else none) else none) else none) else none) else none) else none) else (some [(PV.list y0)]) := by kernel_rfl
noncomputable def spec_l6Words.S (N : Nat) : ASpec := ⟨[(31, .ro)], [(92, .own)], spec_l6Words.f N⟩
theorem spec_l6Words.ok (N : Nat) : FnOk Tryz.prog 93 (spec_l6Words.S N) := fnOk_of (E := spec_l6Words.E N) mix Tryz.func93 (by kernel_rfl) (by kernel_rfl) (by kernel_rfl) (lk_ok (all_cons (spec_l6Turn.ok N) all_nil)) (by kernel_rfl) (fun _ _ h => h)

/-! ### spec_l6Consts: function 94, loop.example/medlar/spec.l6Consts -/
noncomputable def spec_l6Consts.E (N : Nat) : Env := ⟨lk [], nzk [], N, [], false⟩
noncomputable def spec_l6Consts.f (N : Nat) (a : List PV) : Option Res := run Tryz.prog (spec_l6Consts.E N) Tryz.f94 [] [(92, .own)] a
theorem spec_l6Consts.f_eq (N : Nat)  : spec_l6Consts.f N [] = some [(PV.list [(PV.sc (.int .u32 1116352408)), (PV.sc (.int .u32 1899447441)), (PV.sc (.int .u32 3049323471)), (PV.sc (.int .u32 3921009573)), (PV.sc (.int .u32 961987163)), (PV.sc (.int .u32 1508970993)), (PV.sc (.int .u32 2453635748)), (PV.sc (.int .u32 2870763221)), (PV.sc (.int .u32 3624381080)), (PV.sc (.int .u32 310598401)), (PV.sc (.int .u32 607225278)), (PV.sc (.int .u32 1426881987)), (PV.sc (.int .u32 1925078388)), (PV.sc (.int .u32 2162078206)), (PV.sc (.int .u32 2614888103)), (PV.sc (.int .u32 3248222580)), (PV.sc (.int .u32 3835390401)), (PV.sc (.int .u32 4022224774)), (PV.sc (.int .u32 264347078)), (PV.sc (.int .u32 604807628)), (PV.sc (.int .u32 770255983)), (PV.sc (.int .u32 1249150122)), (PV.sc (.int .u32 1555081692)), (PV.sc (.int .u32 1996064986)), (PV.sc (.int .u32 2554220882)), (PV.sc (.int .u32 2821834349)), (PV.sc (.int .u32 2952996808)), (PV.sc (.int .u32 3210313671)), (PV.sc (.int .u32 3336571891)), (PV.sc (.int .u32 3584528711)), (PV.sc (.int .u32 113926993)), (PV.sc (.int .u32 338241895)), (PV.sc (.int .u32 666307205)), (PV.sc (.int .u32 773529912)), (PV.sc (.int .u32 1294757372)), (PV.sc (.int .u32 1396182291)), (PV.sc (.int .u32 1695183700)), (PV.sc (.int .u32 1986661051)), (PV.sc (.int .u32 2177026350)), (PV.sc (.int .u32 2456956037)), (PV.sc (.int .u32 2730485921)), (PV.sc (.int .u32 2820302411)), (PV.sc (.int .u32 3259730800)), (PV.sc (.int .u32 3345764771)), (PV.sc (.int .u32 3516065817)), (PV.sc (.int .u32 3600352804)), (PV.sc (.int .u32 4094571909)), (PV.sc (.int .u32 275423344)), (PV.sc (.int .u32 430227734)), (PV.sc (.int .u32 506948616)), (PV.sc (.int .u32 659060556)), (PV.sc (.int .u32 883997877)), (PV.sc (.int .u32 958139571)), (PV.sc (.int .u32 1322822218)), (PV.sc (.int .u32 1537002063)), (PV.sc (.int .u32 1747873779)), (PV.sc (.int .u32 1955562222)), (PV.sc (.int .u32 2024104815)), (PV.sc (.int .u32 2227730452)), (PV.sc (.int .u32 2361852424)), (PV.sc (.int .u32 2428436474)), (PV.sc (.int .u32 2756734187)), (PV.sc (.int .u32 3204031479)), (PV.sc (.int .u32 3329325298))])] := by kernel_rfl
noncomputable def spec_l6Consts.S (N : Nat) : ASpec := ⟨[], [(92, .own)], spec_l6Consts.f N⟩
theorem spec_l6Consts.ok (N : Nat) : FnOk Tryz.prog 94 (spec_l6Consts.S N) := fnOk_of (E := spec_l6Consts.E N) mix Tryz.func94 (by kernel_rfl) (by kernel_rfl) (by kernel_rfl) (lk_ok all_nil) (by kernel_rfl) (fun _ _ h => h)

/-! ### spec_l6Block: function 83, loop.example/medlar/spec.l6Block -/
noncomputable def spec_l6Block.E (N : Nat) : Env := ⟨lk [(93, spec_l6Words.S N), (94, spec_l6Consts.S N), (95, spec_l6Turn.S N)], nzk [(5, ⟨[1, 2, 3, 4, 9, 10, 11, 12, 13, 14, 15, 16, 17, 18, 19, 20, 21, 22, 23, 24, 25, 26, 27, 28, 29, 30, 31, 32, 33, 34, 35, 36, 37, 38, 39, 40, 41, 42, 43, 44, 45, 46, 47, 48, 49, 50, 51, 52, 53, 54, 55, 56, 57, 58, 59, 60, 61, 62, 63, 64, 65, 66, 67, 68, 69, 70, 71, 72, 73, 74, 75, 76, 77, 78, 79, 80, 81, 82, 83, 84, 85, 86, 87, 88, 89, 90, 91, 92, 93, 94, 95, 96, 97, 98, 99, 100, 101, 102, 103, 104, 105, 106, 107, 108, 109, 110, 111, 112, 113, 114, 115, 116, 117, 118, 119, 120, 121, 122, 123, 124, 125, 126, 127, 128, 129, 130, 131, 132, 133, 134, 135, 136, 137, 138, 139, 140, 141, 142, 143, 144, 145, 146, 147, 148, 149, 150, 151, 152, 153, 154], [(7, 92)], []⟩), (13, ⟨[1, 2, 3, 4, 9, 10, 15, 16, 17, 18, 19, 20, 21, 22, 23, 24, 25, 26, 27, 28, 29, 30, 31, 32, 33, 34, 35, 36, 37, 38, 39, 40, 41, 42, 43, 44, 45, 46, 47, 48, 49, 50, 51, 52, 53, 54, 55, 56, 57, 58, 59, 60, 61, 62, 63, 64, 65, 66, 67, 68, 69, 70, 71, 72, 73, 74, 75, 76, 77, 78, 79, 80, 81, 82, 83, 84, 85, 86, 87, 88, 89, 90, 91, 92, 93, 94, 95, 96, 97, 98, 99, 100, 101, 102, 103, 104, 105, 106, 107, 108, 109, 110, 111, 112, 113, 114, 115, 116, 117, 118, 119, 120, 121, 122, 123, 124, 125, 126, 127, 128, 129, 130, 131, 132, 133, 134, 135, 136, 137, 138, 139, 140, 141, 142, 143, 144, 145, 146, 147, 148, 149, 150, 151, 152, 153, 154], [(7, 92)], []⟩), (20, ⟨[1, 2, 3, 4, 5, 6, 8, 9, 10, 11, 12, 13, 14, 17, 18, 19, 20, 21, 22, 23, 24, 25, 26, 27, 28, 29, 30, 31, 32, 33, 34, 35, 36, 37, 38, 39, 40, 41, 42, 43, 44, 45, 46, 47, 48, 49, 50, 51, 52, 53, 54, 55, 56, 57, 58, 59, 60, 61, 62, 63, 64, 65, 66, 67, 68, 69, 70, 71, 72, 73, 74, 75, 76, 77, 78, 79, 80, 81, 82, 83, 84, 85, 86, 87, 88, 89, 90, 91, 92, 93, 94, 95, 96, 97, 98, 99, 100, 101, 102, 103, 104, 105, 106, 107, 108, 109, 110, 111, 112, 113, 114, 115, 116, 117, 118, 119, 120, 121, 122, 123, 124, 125, 126, 127, 128, 129, 130, 131, 132, 133, 134, 135, 136, 137, 138, 139, 140, 141, 142, 143, 144, 145, 146, 147, 148, 149, 150, 151, 152, 153, 154], [(7, 92), (15, 92)], []⟩)], N, [], false⟩
noncomputable def spec_l6Block.f (N : Nat) (a : List PV) : Option Res := run Tryz.prog (spec_l6Block.E N) Tryz.f83 [(92, .ro), (31, .ro)] [(92, .own)] a
noncomputable def spec_l6Block.l0 (N : Nat) (n : Nat) (x0 : PV) (x8 : Int) (y0 : PV) (y1 : PV) (y2 : List PV) : Option Res := loopAt Tryz.prog (spec_l6Block.E N) Tryz.f83 [(92, .own)] [1, 1, 1, 1, 0, 1, 0] [] n ⟨mkSlots 155 [(0, .ro 92 x0), (5, .ref 0 []), (6, .ref 1 []), (7, .ref 2 []), (8, .sc (.int .i64 x8))], ohOf [.row 92 y0, .row 92 y1, .row 92 (PV.list y2)]⟩
noncomputable def spec_l6Block.l1 (N : Nat) (m0 : Nat) (n : Nat) (x0 : PV) (x8 : Int) (x11 : Int) (x12 : Int) (x13 : Int) (x14 : Int) (y0 : PV) (y1 : PV) (y2 : List PV) : Option Res := loopAt Tryz.prog (spec_l6Block.E N) Tryz.f83 [(92, .own)] [1, 1, 1, 1, 0, 1, 0, 0, 1, 0, 0, 1, 1, 1, 1, 1, 0, 1, 0] [m0] n ⟨mkSlots 155 [(0, .ro 92 x0), (5, .ref 0 []), (6, .ref 1 []), (7, .ref 2 []), (8, .sc (.int .i64 x8)), (11, .sc (.int .u32 x11)), (12, .sc (.int .u32 x12)), (13, .sc (.int .u32 x13)), (14, .sc (.int .i64 x14))], ohOf [.row 92 y0, .row 92 y1, .row 92 (PV.list y2)]⟩
noncomputable def spec_l6Block.l2 (N : Nat) (n : Nat) (x0 : PV) (x16 : Int) (y0 : List PV) (y1 : List PV) : Option Res := loopAt Tryz.prog (spec_l6Block.E N) Tryz.f83 [(92, .own)] [1, 1, 1, 1, 1, 1, 0, 1, 0] [] n ⟨mkSlots 155 [(0, .ro 92 x0), (7, .ref 0 []), (15, .ref 1 []), (16, .sc (.int .i64 x16))], ohOf [.row 92 (PV.list y0), .row 92 (PV.list y1)]⟩
theorem spec_l6Block.f_eq (N : Nat) (a0 : PV) (a1 : PV) : spec_l6Block.f N [a0, a1] = (spec_l6Words.f N [a1]).bind fun t1 => (spec_l6Consts.f N []).bind fun t2 => if ([] : List PV).length + a0.items.length ≤ 35184372088832 then (spec_l6Block.l0 N N a0 0 (t1.headD default) (t2.headD default) (([] : List PV) ++ a0.items)) else none := by kernel_rfl
theorem spec_l6Block.l0_eq (N : Nat) (n : Nat) (x0 : PV) (x8 : Int) (y0 : PV) (y1 : PV) (y2 : List PV) : spec_l6Block.l0 N (n + 1) x0 x8 y0 y1 y2 = if decide (x8 < 64) = true then (if 0 ≤ 4 then (if 4 < (y2.length : Int) then ((spec_l6Turn.f N [(PV.sc (.int .u32 (((PV.list y2).elem 4).toInt))), (PV.sc (.int .i64 6))]).bind fun t3 => if 0 ≤ 4 then (if 4 < (y2.length : Int) then ((spec_l6Turn.f N [(PV.sc (.int .u32 (((PV.list y2).elem 4).toInt))), (PV.sc (.int .i64 11))]).bind fun t4 => if 0 ≤ 4 then (if 4 < (y2.length : Int) then ((spec_l6Turn.f N [(PV.sc (.int .u32 (((PV.list y2).elem 4).toInt))), (PV.sc (.int .i64 25))]).bind fun t5 => if 0 ≤ 4 then (if 4 < (y2.length : Int) then (if 0 ≤ 5 then (if 5 < (y2.length : Int) then (if 0 ≤ 4 then (if 4 < (y2.length : Int) then (if 0 ≤ 6 then (if 6 < (y2.length : Int) then (if 0 ≤ 7 then (if 7 < (y2.length : Int) then (if 0 ≤ x8 then (if x8 < (y1.items.length : Int) then (if 0 ≤ x8 then (if x8 < (y0.items.length : Int) then (if 0 ≤ 0 then (if 0 < (y2.length : Int) then ((spec_l6Turn.f N [(PV.sc (.int .u32 (((PV.list y2).elem 0).toInt))), (PV.sc (.int .i64 2))]).bind fun t6 => if 0 ≤ 0 then (if 0 < (y2.length : Int) then ((spec_l6Turn.f N [(PV.sc (.int .u32 (((PV.list y2).elem 0).toInt))), (PV.sc (.int .i64 13))]).bind fun t7 => if 0 ≤ 0 then (if 0 < (y2.length : Int) then ((spec_l6Turn.f N [(PV.sc (.int .u32 (((PV.list y2).elem 0).toInt))), (PV.sc (.int .i64 22))]).bind fun t8 => if 0 ≤ 0 then (if 0 < (y2.length : Int) then (if 0 ≤ 1 then (if 1 < (y2.length : Int) then (if 0 ≤ 0 then (if 0 < (y2.length : Int) then (if 0 ≤ 2 then (if 2 < (y2.length : Int) then (if 0 ≤ 1 then (if 1 < (y2.length : Int) then (if 0 ≤ 2 then (if 2 < (y2.length : Int) then (spec_l6Block.l1 N n N x0 x8 (IntKind.u32.wrap ((IntKind.u32.wrap ((IntKind.u32.wrap ((IntKind.u32.wrap ((((PV.list y2).elem 7).toInt) + (bXor .u32 (bXor .u32 ((t3.headD default).toInt) ((t4.headD default).toInt)) ((t5.headD default).toInt)))) + (bXor .u32 (bAnd .u32 (((PV.list y2).elem 4).toInt) (((PV.list y2).elem 5).toInt)) (bAnd .u32 (bXor .u32 4294967295 (((PV.list y2).elem 4).toInt)) (((PV.list y2).elem 6).toInt))))) + ((y1.elem x8.toNat).toInt))) + ((y0.elem x8.toNat).toInt))) (bXor .u32 (bXor .u32 ((t6.headD default).toInt) ((t7.headD default).toInt)) ((t8.headD default).toInt)) (bXor .u32 (bXor .u32 (bAnd .u32 (((PV.list y2).elem 0).toInt) (((PV.list y2).elem 1).toInt)) (bAnd .u32 (((PV.list y2).elem 0).toInt) (((PV.list y2).elem 2).toInt))) (bAnd .u32 (((PV.list y2).elem 1).toInt) (((PV.list y2).elem 2).toInt))) 7 y0 y1 y2) else none) else none) else none) else none) else none) else none) else none) else none) else none) else none) else none) else none) else none) else none) else none) else none) else none) else none) else none) else none) else none) else none) else none) else none) else none) else none) else none) else none) else none) else none) else none) else none) else none) else none) else none) else none) else none) else none) else (spec_l6Block.l2 N N x0 0 y2 []) := by kernel_rfl
theorem spec_l6Block.l1_eq (N : Nat) (m0 : Nat) (n : Nat) (x0 : PV) (x8 : Int) (x11 : Int) (x12 : Int) (x13 : Int) (x14 : Int) (y0 : PV) (y1 : PV) (y2 : List PV) : spec_l6Block.l1 N m0 (n + 1) x0 x8 x11 x12 x13 x14 y0 y1 y2 = if decide (0 < x14) = true then (if 0 ≤ (IntKind.i64.wrap (x14 - 1)) then (if (IntKind.i64.wrap (x14 - 1)) < (y2.length : Int) then (if 0 ≤ x14 then (if x14 < (y2.length : Int) then (spec_l6Block.l1 N m0 n x0 x8 x11 x12 x13 (IntKind.i64.wrap (x14 - 1)) y0 y1 (y2.set x14.toNat (PV.sc (.int .u32 (((PV.list y2).elem ((IntKind.i64.wrap (x14 - 1)).toNat)).toInt))))) else none) else none) else none) else none) else (if 0 ≤ 4 then (if 4 < (y2.length : Int) then (if 0 ≤ 4 then (if 4 < (y2.length : Int) then (if 0 ≤ 0 then (if 0 < ((y2.set 4 (PV.sc (.int .u32 (IntKind.u32.wrap ((((PV.list y2).elem 4).toInt) + x11))))).length : Int) then (spec_l6Block.l0 N m0 x0 (IntKind.i64.wrap (x8 + 1)) y0 y1 ((y2.set 4 (PV.sc (.int .u32 (IntKind.u32.wrap ((((PV.list y2).elem 4).toInt) + x11))))).set 0 (PV.sc (.int .u32 (IntKind.u32.wrap ((IntKind.u32.wrap (x11 + x12)) + x13)))))) else none) else none) else none) else none) else none) else none) := by kernel_rfl
theorem spec_l6Block.l2_eq (N : Nat) (n : Nat) (x0 : PV) (x16 : Int) (y0 : List PV) (y1 : List PV) : spec_l6Block.l2 N (n + 1) x0 x16 y0 y1 = if decide (x16 < 8) = true then (if 0 ≤ x16 then (if x16 < (x0.items.length : Int) then (if 0 ≤ x16 then (if x16 < (y0.length : Int) then (if y1.length + [(PV.sc (.int .u32 (IntKind.u32.wrap (((x0.elem x16.toNat).toInt) + (((PV.list y0).elem x16.toNat).toInt)))))].length ≤ 35184372088832 then (spec_l6Block.l2 N n x0 (IntKind.i64.wrap (x16 + 1)) y0 (y1 ++ [(PV.sc (.int .u32 (IntKind.u32.wrap (((x0.elem x16.toNat).toInt) + (((PV.list y0).elem x16.toNat).toInt)))))])) else none) else none) else none) else none) else none) else (some [(PV.list y1)]) := by kernel_rfl
noncomputable def spec_l6Block.S (N : Nat) : ASpec := ⟨[(92, .ro), (31, .ro)], [(92, .own)], spec_l6Block.f N⟩
theorem spec_l6Block.ok (N : Nat) : FnOk Tryz.prog 83 (spec_l6Block.S N) := fnOk_of (E := spec_l6Block.E N) mix Tryz.func83 (by kernel_rfl) (by kernel_rfl) (by kernel_rfl) (lk_ok (all_cons (spec_l6Words.ok N) (all_cons (spec_l6Consts.ok N) (all_cons (spec_l6Turn.ok N) all_nil)))) (by kernel_rfl) (fun _ _ h => h)

/-! ### spec_l6Sum: function 68, loop.example/medlar/spec.l6Sum -/
noncomputable def spec_l6Sum.E (N : Nat) : Env := ⟨lk [(82, spec_l6Padded.S N), (83, spec_l6Block.S N)], nzk [(4, ⟨[0, 1, 2, 6, 7, 8, 9, 10, 11, 12, 13, 14, 15, 16, 17, 18, 19, 20, 21, 22, 23, 24, 25, 26, 27, 28, 29, 30, 31, 32, 33, 34, 35, 36, 37, 38, 39, 40, 41, 42, 43, 44, 45, 46, 47, 48, 49, 50, 51, 52, 53, 54, 55, 56], [], []⟩), (9, ⟨[0, 1, 2, 4, 5, 8, 9, 10, 11, 12, 13, 14, 15, 16, 17, 18, 19, 20, 21, 22, 23, 24, 25, 26, 27, 28, 29, 30, 31, 32, 33, 34, 35, 36, 37, 38, 39, 40, 41, 42, 43, 44, 45, 46, 47, 48, 49, 50, 51, 52, 53, 54, 55, 56], [(6, 31)], []⟩)], N, [], false⟩
noncomputable def spec_l6Sum.f (N : Nat) (a : List PV) : Option Res := run Tryz.prog (spec_l6Sum.E N) Tryz.f68 [(9, .ro)] [(9, .val)] a
noncomputable def spec_l6Sum.l0 (N : Nat) (n : Nat) (x5 : Int) (y0 : List PV) (y1 : PV) : Option Res := loopAt Tryz.prog (spec_l6Sum.E N) Tryz.f68 [(9, .val)] [1, 1, 1, 0, 1, 0] [] n ⟨mkSlots 57 [(3, .ref 0 []), (4, .ref 1 []), (5, .sc (.int .i64 x5))], ohOf [.row 92 (PV.list y0), .row 31 y1]⟩
noncomputable def spec_l6Sum.l1 (N : Nat) (n : Nat) (x5 : Int) (y0 : PV) (y1 : PV) : Option Res := loopAt Tryz.prog (spec_l6Sum.E N) Tryz.f68 [(9, .val)] [1, 1, 1, 0, 1, 0] [] n ⟨mkSlots 57 [(3, .ref 0 []), (4, .ref 1 []), (5, .sc (.int .i64 x5))], ohOf [.row 92 y0, .row 31 y1]⟩
noncomputable def spec_l6Sum.l2 (N : Nat) (n : Nat) (x7 : Int) (y0 : List PV) (y1 : List PV) : Option Res := loopAt Tryz.prog (spec_l6Sum.E N) Tryz.f68 [(9, .val)] [1, 1, 1, 1, 1, 0, 1, 0] [] n ⟨mkSlots 57 [(3, .ref 0 []), (6, .ref 1 []), (7, .sc (.int .i64 x7))], ohOf [.row 92 (PV.list y0), .row 31 (PV.list y1)]⟩
noncomputable def spec_l6Sum.l3 (N : Nat) (n : Nat) (x7 : Int) (y0 : PV) (y1 : List PV) : Option Res := loopAt Tryz.prog (spec_l6Sum.E N) Tryz.f68 [(9, .val)] [1, 1, 1, 1, 1, 0, 1, 0] [] n ⟨mkSlots 57 [(3, .ref 0 []), (6, .ref 1 []), (7, .sc (.int .i64 x7))], ohOf [.row 92 y0, .row 31 (PV.list y1)]⟩
theorem spec_l6Sum.f_eq (N : Nat) (a0 : PV) : spec_l6Sum.f N [a0] = (spec_l6Padded.f N [(PV.sc (.string a0.toStr))]).bind fun t1 => spec_l6Sum.l0 N N 0 [(PV.sc (.int .u32 1779033703)), (PV.sc (.int .u32 3144134277)), (PV.sc (.int .u32 1013904242)), (PV.sc (.int .u32 2773480762)), (PV.sc (.int .u32 1359893119)), (PV.sc (.int .u32 2600822924)), (PV.sc (.int .u32 528734635)), (PV.sc (.int .u32 1541459225))] (t1.headD default) := by kernel_rfl
theorem spec_l6Sum.l0_eq (N : Nat) (n : Nat) (x5 : Int) (y0 : List PV) (y1 : PV) : spec_l6Sum.l0 N (n + 1) x5 y0 y1 = if decide (x5 < (y1.items.length : Int)) = true then (if 0 ≤ x5 then (if x5 ≤ (IntKind.i64.wrap (x5 + 64)) then (if (IntKind.i64.wrap (x5 + 64)) ≤ (y1.items.length : Int) then ((spec_l6Block.f N [(PV.list y0), (PV.list ((y1.items.drop x5.toNat).take (((IntKind.i64.wrap (x5 + 64)).toNat) - x5.toNat)))]).bind fun t2 => spec_l6Sum.l1 N n (IntKind.i64.wrap (x5 + 64)) (t2.headD default) y1) else none) else none) else none) else (spec_l6Sum.l2 N N 0 y0 []) := by kernel_rfl
theorem spec_l6Sum.l1_eq (N : Nat) (n : Nat) (x5 : Int) (y0 : PV) (y1 : PV) : spec_l6Sum.l1 N (n + 1) x5 y0 y1 = if decide (x5 < (y1.items.length : Int)) = true then (if 0 ≤ x5 then (if x5 ≤ (IntKind.i64.wrap (x5 + 64)) then (if (IntKind.i64.wrap (x5 + 64)) ≤ (y1.items.length : Int) then ((spec_l6Block.f N [y0, (PV.list ((y1.items.drop x5.toNat).take (((IntKind.i64.wrap (x5 + 64)).toNat) - x5.toNat)))]).bind fun t3 => spec_l6Sum.l1 N n (IntKind.i64.wrap (x5 + 64)) (t3.headD default) y1) else none) else none) else none) else (spec_l6Sum.l3 N N 0 y0 []) := by kernel_rfl
theorem spec_l6Sum.l2_eq (N : Nat) (n : Nat) (x7 : Int) (y0 : List PV) (y1 : List PV) : spec_l6Sum.l2 N (n + 1) x7 y0 y1 = if decide (x7 < 8) = true then (if 0 ≤ x7 then (if x7 < (y0.length : Int) then (if 0 ≤ 24 then (if 0 ≤ x7 then (if x7 < (y0.length : Int) then (if 0 ≤ 16 then (if 0 ≤ x7 then (if x7 < (y0.length : Int) then (if 0 ≤ 8 then (if 0 ≤ x7 then (if x7 < (y0.length : Int) then (if y1.length + [(PV.sc (.int .u8 (IntKind.u8.wrap (shrI .u32 (((PV.list y0).elem x7.toNat).toInt) 24)))), (PV.sc (.int .u8 (IntKind.u8.wrap (shrI .u32 (((PV.list y0).elem x7.toNat).toInt) 16)))), (PV.sc (.int .u8 (IntKind.u8.wrap (shrI .u32 (((PV.list y0).elem x7.toNat).toInt) 8)))), (PV.sc (.int .u8 (IntKind.u8.wrap (((PV.list y0).elem x7.toNat).toInt))))].length ≤ 140737488355328 then (spec_l6Sum.l2 N n (IntKind.i64.wrap (x7 + 1)) y0 (y1 ++ [(PV.sc (.int .u8 (IntKind.u8.wrap (shrI .u32 (((PV.list y0).elem x7.toNat).toInt) 24)))), (PV.sc (.int .u8 (IntKind.u8.wrap (shrI .u32 (((PV.list y0).elem x7.toNat).toInt) 16)))), (PV.sc (.int .u8 (IntKind.u8.wrap (shrI .u32 (((PV.list y0).elem x7.toNat).toInt) 8)))), (PV.sc (.int .u8 (IntKind.u8.wrap (((PV.list y0).elem x7.toNat).toInt))))])) else none) else none) else none) else none) else none) else none) else none) else none) else none) else none) else none) else none) else (some [(PV.sc (.string (bytesOfL y1)))]) := by kernel_rfl
theorem spec_l6Sum.l3_eq (N : Nat) (n : Nat) (x7 : Int) (y0 : PV) (y1 : List PV) : spec_l6Sum.l3 N (n + 1) x7 y0 y1 = if decide (x7 < 8) = true then (if 0 ≤ x7 then (if x7 < (y0.items.length : Int) then (if 0 ≤ 24 then (if 0 ≤ x7 then (if x7 < (y0.items.length : Int) then (if 0 ≤ 16 then (if 0 ≤ x7 then (if x7 < (y0.items.length : Int) then (if 0 ≤ 8 then (if 0 ≤ x7 then (if x7 < (y0.items.length : Int) then (if y1.length + [(PV.sc (.int .u8 (IntKind.u8.wrap (shrI .u32 ((y0.elem x7.toNat).toInt) 24)))), (PV.sc (.int .u8 (IntKind.u8.wrap (shrI .u32 ((y0.elem x7.toNat).toInt) 16)))), (PV.sc (.int .u8 (IntKind.u8.wrap (shrI .u32 ((y0.elem x7.toNat).toInt) 8)))), (PV.sc (.int .u8 (IntKind.u8.wrap ((y0.elem x7.toNat).toInt))))].length ≤ 140737488355328 then (spec_l6Sum.l3 N n (IntKind.i64.wrap (x7 + 1)) y0 (y1 ++ [(PV.sc (.int .u8 (IntKind.u8.wrap (shrI .u32 ((y0.elem x7.toNat).toInt) 24)))), (PV.sc (.int .u8 (IntKind.u8.wrap (shrI .u32 ((y0.elem x7.toNat).toInt) 16)))), (PV.sc (.int .u8 (IntKind.u8.wrap (shrI .u32 ((y0.elem x7.toNat).toInt) 8)))), (PV.sc (.int .u8 (IntKind.u8.wrap ((y0.elem x7.toNat).toInt))))])) else none) else none) else none) else none) else none) else none) else none) else none) else none) else none) else none) else none) else (some [(PV.sc (.string (bytesOfL y1)))]) := by kernel_rfl
noncomputable def spec_l6Sum.S (N : Nat) : ASpec := ⟨[(9, .ro)], [(9, .val)], spec_l6Sum.f N⟩
theorem spec_l6Sum.ok (N : Nat) : FnOk Tryz.prog 68 (spec_l6Sum.S N) := fnOk_of (E := spec_l6Sum.E N) mix Tryz.func68 (by kernel_rfl) (by kernel_rfl) (by kernel_rfl) (lk_ok (all_cons (spec_l6Padded.ok N) (all_cons (spec_l6Block.ok N) all_nil))) (by kernel_rfl) (fun _ _ h => h)

/-! ### spec_SealOf: function 39, loop.example/medlar/spec.SealOf -/
noncomputable def spec_SealOf.E (N : Nat) : Env := ⟨lk [(40, spec_l6Key.S N), (69, spec_l6Pad.S N), (68, spec_l6Sum.S N), (67, spec_l6Hex.S N)], nzk [], N, [], false⟩
noncomputable def spec_SealOf.f (N : Nat) (a : List PV) : Option Res := run Tryz.prog (spec_SealOf.E N) Tryz.f39 [(9, .ro), (9, .ro)] [(9, .val)] a
theorem spec_SealOf.f_eq (N : Nat) (a0 : PV) (a1 : PV) : spec_SealOf.f N [a0, a1] = (spec_l6Key.f N [(PV.sc (.string a0.toStr))]).bind fun t1 => if (!((t1.headD default).toBool)) = true then (some [(PV.sc (.string (ByteArray.mk #[])))]) else ((spec_l6Pad.f N [(PV.sc (.string a0.toStr)), (PV.sc (.int .u8 92))]).bind fun t2 => (spec_l6Pad.f N [(PV.sc (.string a0.toStr)), (PV.sc (.int .u8 54))]).bind fun t3 => if ((t3.headD default).toStr).size + a1.toStr.size ≤ 9223372036854775807 then ((spec_l6Sum.f N [(PV.sc (.string (((t3.headD default).toStr) ++ a1.toStr)))]).bind fun t4 => if ((t2.headD default).toStr).size + ((t4.headD default).toStr).size ≤ 9223372036854775807 then ((spec_l6Sum.f N [(PV.sc (.string (((t2.headD default).toStr) ++ ((t4.headD default).toStr))))]).bind fun t5 => (spec_l6Hex.f N [(PV.sc (.string ((t5.headD default).toStr)))]).bind fun t6 => some [(PV.sc (.string ((t6.headD default).toStr)))]) else none) else none) := by kernel_rfl
noncomputable def spec_SealOf.S (N : Nat) : ASpec := ⟨[(9, .ro), (9, .ro)], [(9, .val)], spec_SealOf.f N⟩
theorem spec_SealOf.ok (N : Nat) : FnOk Tryz.prog 39 (spec_SealOf.S N) := fnOk_of (E := spec_SealOf.E N) mix Tryz.func39 (by kernel_rfl) (by kernel_rfl) (by kernel_rfl) (lk_ok (all_cons (spec_l6Key.ok N) (all_cons (spec_l6Pad.ok N) (all_cons (spec_l6Sum.ok N) (all_cons (spec_l6Hex.ok N) all_nil))))) (by kernel_rfl) (fun _ _ h => h)

/-! ### spec_TurnOf: function 48, loop.example/medlar/spec.TurnOf -/
noncomputable def spec_TurnOf.E (N : Nat) : Env := ⟨lk [(13, spec_RingOk.S N), (49, spec_l11Copy.S N), (70, spec_l11Last.S N), (38, spec_l11Text.S N), (39, spec_SealOf.S N)], nzk [], N, [], false⟩
noncomputable def spec_TurnOf.f (N : Nat) (a : List PV) : Option Res := run Tryz.prog (spec_TurnOf.E N) Tryz.f48 [(25, .ro), (9, .ro), (3, .ro)] [(45, .val), (4, .val)] a
theorem spec_TurnOf.f_eq (N : Nat) (a0 : PV) (a1 : PV) (a2 : PV) : spec_TurnOf.f N [a0, a1, a2] = (spec_RingOk.f N [(PV.agg [a0.fld 0, a0.fld 1])]).bind fun t1 => if (!((t1.headD default).toBool)) = true then (some [(PV.agg [(PV.sc (.string (ByteArray.mk #[]))), (PV.sc (.int .i64 0)), (PV.sc (.string (ByteArray.mk #[])))]), (PV.sc (.bool false))]) else ((spec_l11Copy.f N [(PV.agg [a0.fld 0, a0.fld 1])]).bind fun t2 => if (((t2.headD default).fld 0).items).length + [(PV.sc (.string a1.toStr))].length ≤ 8796093022208 then (if (((t2.headD default).fld 1).items).length + [(PV.sc (.int .i64 a2.toInt))].length ≤ 17592186044416 then ((spec_RingOk.f N [(PV.agg [(PV.list ((((t2.headD default).fld 0).items) ++ [(PV.sc (.string a1.toStr))])), (PV.list ((((t2.headD default).fld 1).items) ++ [(PV.sc (.int .i64 a2.toInt))]))])]).bind fun t3 => if (!((t3.headD default).toBool)) = true then (some [(PV.agg [(PV.sc (.string (ByteArray.mk #[]))), (PV.sc (.int .i64 0)), (PV.sc (.string (ByteArray.mk #[])))]), (PV.sc (.bool false))]) else ((spec_l11Last.f N [(PV.agg [a0.fld 0, a0.fld 1])]).bind fun t4 => (spec_l11Text.f N [(PV.agg [(PV.sc (.string a1.toStr)), (PV.sc (.int .i64 a2.toInt)), (PV.sc (.string (ByteArray.mk #[])))])]).bind fun t5 => (spec_SealOf.f N [(PV.sc (.string ((t4.headD default).toStr))), (PV.sc (.string ((t5.headD default).toStr)))]).bind fun t6 => some [(PV.agg [(PV.sc (.string a1.toStr)), (PV.sc (.int .i64 a2.toInt)), (PV.sc (.string ((t6.headD default).toStr)))]), (PV.sc (.bool true))])) else none) else none) := by kernel_rfl
noncomputable def spec_TurnOf.S (N : Nat) : ASpec := ⟨[(25, .ro), (9, .ro), (3, .ro)], [(45, .val), (4, .val)], spec_TurnOf.f N⟩
theorem spec_TurnOf.ok (N : Nat) : FnOk Tryz.prog 48 (spec_TurnOf.S N) := fnOk_of (E := spec_TurnOf.E N) mix Tryz.func48 (by kernel_rfl) (by kernel_rfl) (by kernel_rfl) (lk_ok (all_cons (spec_RingOk.ok N) (all_cons (spec_l11Copy.ok N) (all_cons (spec_l11Last.ok N) (all_cons (spec_l11Text.ok N) (all_cons (spec_SealOf.ok N) all_nil)))))) (by kernel_rfl) (fun _ _ h => h)

/-! ### spec_RingTake: function 19, loop.example/medlar/spec.RingTake -/
noncomputable def spec_RingTake.E (N : Nat) : Env := ⟨lk [(13, spec_RingOk.S N), (48, spec_TurnOf.S N), (49, spec_l11Copy.S N)], nzk [], N, [], false⟩
noncomputable def spec_RingTake.f (N : Nat) (a : List PV) : Option Res := run Tryz.prog (spec_RingTake.E N) Tryz.f19 [(25, .ro), (45, .ro)] [(25, .own), (4, .val)] a
theorem spec_RingTake.f_eq (N : Nat) (a0 : PV) (a1 : PV) : spec_RingTake.f N [a0, a1] = (spec_RingOk.f N [(PV.agg [a0.fld 0, a0.fld 1])]).bind fun t1 => if (!((t1.headD default).toBool)) = true then (some [(PV.agg [(PV.list []), (PV.list [])]), (PV.sc (.bool false))]) else ((spec_TurnOf.f N [(PV.agg [a0.fld 0, a0.fld 1]), (PV.sc (.string ((a1.fld 0).toStr))), (PV.sc (.int .i64 ((a1.fld 1).toInt)))]).bind fun t2 => (spec_l11Copy.f N [(PV.agg [a0.fld 0, a0.fld 1])]).bind fun t3 => if (!((t2.tail.headD default).toBool)) = false then (if (!decide ((((t2.headD default).fld 2).toStr).toList = ((a1.fld 2).toStr).toList)) = true then (some [(PV.agg [(t3.headD default).fld 0, (t3.headD default).fld 1]), (PV.sc (.bool false))]) else (if (((t3.headD default).fld 0).items).length + [(PV.sc (.string ((a1.fld 0).toStr)))].length ≤ 8796093022208 then (if (((t3.headD default).fld 1).items).length + [(PV.sc (.int .i64 ((a1.fld 1).toInt)))].length ≤ 17592186044416 then (some [(PV.agg [(PV.list ((((t3.headD default).fld 0).items) ++ [(PV.sc (.string ((a1.fld 0).toStr)))])), (PV.list ((((t3.headD default).fld 1).items) ++ [(PV.sc (.int .i64 ((a1.fld 1).toInt)))]))]), (PV.sc (.bool true))]) else none) else none)) else (some [(PV.agg [(t3.headD default).fld 0, (t3.headD default).fld 1]), (PV.sc (.bool false))])) := by kernel_rfl
noncomputable def spec_RingTake.S (N : Nat) : ASpec := ⟨[(25, .ro), (45, .ro)], [(25, .own), (4, .val)], spec_RingTake.f N⟩
theorem spec_RingTake.ok (N : Nat) : FnOk Tryz.prog 19 (spec_RingTake.S N) := fnOk_of (E := spec_RingTake.E N) mix Tryz.func19 (by kernel_rfl) (by kernel_rfl) (by kernel_rfl) (lk_ok (all_cons (spec_RingOk.ok N) (all_cons (spec_TurnOf.ok N) (all_cons (spec_l11Copy.ok N) all_nil)))) (by kernel_rfl) (fun _ _ h => h)

/-! ### spec_RingPut: function 12, loop.example/medlar/spec.RingPut -/
noncomputable def spec_RingPut.E (N : Nat) : Env := ⟨lk [(13, spec_RingOk.S N), (38, spec_l11Text.S N), (39, spec_SealOf.S N)], nzk [(3, ⟨[0, 2, 5, 6, 7, 8, 9, 10, 11, 12, 13, 14, 15, 16, 17, 18, 19, 20, 21, 22, 23, 24, 25, 26, 27, 28, 29, 30, 31, 32, 33, 34, 35, 36, 37, 38, 39, 40, 41, 42, 43, 44], [], []⟩)], N, [], false⟩
noncomputable def spec_RingPut.f (N : Nat) (a : List PV) : Option Res := run Tryz.prog (spec_RingPut.E N) Tryz.f12 [(25, .ro)] [(9, .val)] a
noncomputable def spec_RingPut.l0 (N : Nat) (n : Nat) (x3 : ByteArray) (x4 : Int) (y0_0 : PV) (y0_1 : PV) : Option Res := loopAt Tryz.prog (spec_RingPut.E N) Tryz.f12 [(9, .val)] [1, 1, 0, 1, 0] [] n ⟨mkSlots 45 [(1, .ptr 0 []), (3, .sc (.string x3)), (4, .sc (.int .i64 x4))], ohOf [.box 25 (.agg 25 [.ro 22 y0_0, .ro 23 y0_1])]⟩
theorem spec_RingPut.f_eq (N : Nat) (a0 : PV) : spec_RingPut.f N [a0] = spec_RingPut.l0 N N (ByteArray.mk #[]) 1 (a0.fld 0) (a0.fld 1) := by kernel_rfl
theorem spec_RingPut.l0_eq (N : Nat) (n : Nat) (x3 : ByteArray) (x4 : Int) (y0_0 : PV) (y0_1 : PV) : spec_RingPut.l0 N (n + 1) x3 x4 y0_0 y0_1 = if decide (x4 < (y0_0.items.length : Int)) = true then ((spec_RingOk.f N [(PV.agg [y0_0, y0_1])]).bind fun t1 => if (t1.headD default).toBool = true then (if 0 ≤ x4 then (if x4 < (y0_0.items.length : Int) then (if 0 ≤ x4 then (if x4 < (y0_1.items.length : Int) then ((spec_l11Text.f N [(PV.agg [(PV.sc (.string ((y0_0.elem x4.toNat).toStr))), (PV.sc (.int .i64 ((y0_1.elem x4.toNat).toInt))), (PV.sc (.string (ByteArray.mk #[])))])]).bind fun t2 => if x3.size + ((t2.headD default).toStr).size ≤ 9223372036854775807 then (if (x3 ++ ((t2.headD default).toStr)).size + (ByteArray.mk #[32]).size ≤ 9223372036854775807 then (if 0 ≤ (IntKind.i64.wrap (x4 - 1)) then (if (IntKind.i64.wrap (x4 - 1)) < (y0_0.items.length : Int) then ((spec_l11Text.f N [(PV.agg [(PV.sc (.string ((y0_0.elem x4.toNat).toStr))), (PV.sc (.int .i64 ((y0_1.elem x4.toNat).toInt))), (PV.sc (.string (ByteArray.mk #[])))])]).bind fun t3 => (spec_SealOf.f N [(PV.sc (.string ((y0_0.elem ((IntKind.i64.wrap (x4 - 1)).toNat)).toStr))), (PV.sc (.string ((t3.headD default).toStr)))]).bind fun t4 => if ((x3 ++ ((t2.headD default).toStr)) ++ (ByteArray.mk #[32])).size + ((t4.headD default).toStr).size ≤ 9223372036854775807 then (if (((x3 ++ ((t2.headD default).toStr)) ++ (ByteArray.mk #[32])) ++ ((t4.headD default).toStr)).size + (ByteArray.mk #[10]).size ≤ 9223372036854775807 then (spec_RingPut.l0 N n ((((x3 ++ ((t2.headD default).toStr)) ++ (ByteArray.mk #[32])) ++ ((t4.headD default).toStr)) ++ (ByteArray.mk #[10])) (IntKind.i64.wrap (x4 + 1)) y0_0 y0_1) else none) else none) else none) else none) else none) else none) else none) else none) else none) else none) else (some [(PV.sc (.string x3))])) else (some [(PV.sc (.string x3))]) := by kernel_rfl
noncomputable def spec_RingPut.S (N : Nat) : ASpec := ⟨[(25, .ro)], [(9, .val)], spec_RingPut.f N⟩
theorem spec_RingPut.ok (N : Nat) : FnOk Tryz.prog 12 (spec_RingPut.S N) := fnOk_of (E := spec_RingPut.E N) mix Tryz.func12 (by kernel_rfl) (by kernel_rfl) (by kernel_rfl) (lk_ok (all_cons (spec_RingOk.ok N) (all_cons (spec_l11Text.ok N) (all_cons (spec_SealOf.ok N) all_nil)))) (by kernel_rfl) (fun _ _ h => h)

/-! ### spec_RingGet: function 5, loop.example/medlar/spec.RingGet -/
noncomputable def spec_RingGet.E (N : Nat) : Env := ⟨lk [(16, spec_RingNew.S N), (17, spec_l1Cut.S N), (18, spec_l11Bytes.S N), (20, spec_l1Num.S N), (19, spec_RingTake.S N), (12, spec_RingPut.S N)], nzk [(4, ⟨[0, 2, 3, 5, 10, 11, 12, 13, 14, 15, 16, 17, 18, 19, 20, 21, 22, 23, 24, 25, 26, 27, 28, 29, 30, 31, 32, 33, 34, 35, 36, 37, 38, 39, 40, 41, 42, 43, 44, 45, 46, 47, 48, 49, 50, 51, 52, 53, 54, 55, 56, 57, 58, 59, 60, 61, 62, 63, 64, 65, 66, 67, 68, 69, 70, 71, 72, 73, 74, 75, 76, 77, 78, 79], [], []⟩)], N, [], false⟩
noncomputable def spec_RingGet.f (N : Nat) (a : List PV) : Option Res := run Tryz.prog (spec_RingGet.E N) Tryz.f5 [(9, .ro), (9, .ro)] [(25, .own), (4, .val)] a
noncomputable def spec_RingGet.l0 (N : Nat) (n : Nat) (x1 : ByteArray) (x7 : Bool) (x9 : Int) (y2 : PV) (y3 : PV) (y4 : PV) : Option Res := loopAt Tryz.prog (spec_RingGet.E N) Tryz.f5 [(25, .own), (4, .val)] [1, 1, 1, 0, 1, 0] [] n ⟨mkSlots 80 [(1, .sc (.string x1)), (4, .ptr 0 []), (6, .ptr 1 []), (7, .sc (.bool x7)), (8, .ref 2 []), (9, .sc (.int .i64 x9))], ohOf [.box 25 (.agg 25 [.nil, .nil]), .box 25 (.agg 25 [.ref 3 [], .ref 4 []]), .row 22 y2, .row 22 y3, .row 23 y4]⟩
theorem spec_RingGet.f_eq (N : Nat) (a0 : PV) (a1 : PV) : spec_RingGet.f N [a0, a1] = (spec_RingNew.f N [(PV.sc (.string a0.toStr))]).bind fun t1 => (spec_l1Cut.f N [(PV.sc (.string a1.toStr)), (PV.sc (.int .u8 10))]).bind fun t2 => spec_RingGet.l0 N N a1.toStr ((t1.tail.headD default).toBool) 0 (t2.headD default) ((t1.headD default).fld 0) ((t1.headD default).fld 1) := by kernel_rfl
theorem spec_RingGet.l0_eq (N : Nat) (n : Nat) (x1 : ByteArray) (x7 : Bool) (x9 : Int) (y2 : PV) (y3 : PV) (y4 : PV) : spec_RingGet.l0 N (n + 1) x1 x7 x9 y2 y3 y4 = if decide ((IntKind.i64.wrap (x9 + 1)) < (y2.items.length : Int)) = true then (if x7 = true then (if 0 ≤ x9 then (if x9 < (y2.items.length : Int) then ((spec_l1Cut.f N [(PV.sc (.string ((y2.elem x9.toNat).toStr))), (PV.sc (.int .u8 32))]).bind fun t3 => if (!decide ((((t3.headD default).items).length : Int) = 4)) = true then (some [(PV.agg [(PV.list []), (PV.list [])]), (PV.sc (.bool false))]) else (if 0 ≤ 2 then (if 2 < (((t3.headD default).items).length : Int) then ((spec_l11Bytes.f N [(PV.sc (.string (((t3.headD default).elem 2).toStr)))]).bind fun t4 => if 0 ≤ 1 then (if 1 < (((t3.headD default).items).length : Int) then ((spec_l1Num.f N [(PV.sc (.string (((t3.headD default).elem 1).toStr)))]).bind fun t5 => if 0 ≤ 3 then (if 3 < (((t3.headD default).items).length : Int) then ((spec_RingTake.f N [(PV.agg [y3, y4]), (PV.agg [(PV.sc (.string ((t4.headD default).toStr))), (PV.sc (.int .i64 ((t5.headD default).toInt))), (PV.sc (.string (((t3.headD default).elem 3).toStr)))])]).bind fun t6 => if (!((t4.tail.headD default).toBool)) = false then (if (!((t6.tail.headD default).toBool)) = true then (some [(PV.agg [(PV.list []), (PV.list [])]), (PV.sc (.bool false))]) else (spec_RingGet.l0 N n x1 x7 (IntKind.i64.wrap (x9 + 1)) y2 ((t6.headD default).fld 0) ((t6.headD default).fld 1))) else (some [(PV.agg [(PV.list []), (PV.list [])]), (PV.sc (.bool false))])) else none) else none) else none) else none) else none) else none)) else none) else none) else (if (!x7) = false then ((spec_RingPut.f N [(PV.agg [y3, y4])]).bind fun t7 => if (!decide (((t7.headD default).toStr).toList = x1.toList)) = true then (some [(PV.agg [(PV.list []), (PV.list [])]), (PV.sc (.bool false))]) else (some [(PV.agg [y3, y4]), (PV.sc (.bool true))])) else (some [(PV.agg [(PV.list []), (PV.list [])]), (PV.sc (.bool false))]))) else (if (!x7) = false then ((spec_RingPut.f N [(PV.agg [y3, y4])]).bind fun t8 => if (!decide (((t8.headD default).toStr).toList = x1.toList)) = true then (some [(PV.agg [(PV.list []), (PV.list [])]), (PV.sc (.bool false))]) else (some [(PV.agg [y3, y4]), (PV.sc (.bool true))])) else (some [(PV.agg [(PV.list []), (PV.list [])]), (PV.sc (.bool false))])) := by kernel_rfl
noncomputable def spec_RingGet.S (N : Nat) : ASpec := ⟨[(9, .ro), (9, .ro)], [(25, .own), (4, .val)], spec_RingGet.f N⟩
theorem spec_RingGet.ok (N : Nat) : FnOk Tryz.prog 5 (spec_RingGet.S N) := fnOk_of (E := spec_RingGet.E N) mix Tryz.func5 (by kernel_rfl) (by kernel_rfl) (by kernel_rfl) (lk_ok (all_cons (spec_RingNew.ok N) (all_cons (spec_l1Cut.ok N) (all_cons (spec_l11Bytes.ok N) (all_cons (spec_l1Num.ok N) (all_cons (spec_RingTake.ok N) (all_cons (spec_RingPut.ok N) all_nil))))))) (by kernel_rfl) (fun _ _ h => h)

/-! ### impl_within: function 61, loop.example/medlar/impl.within -/
noncomputable def impl_within.E (N : Nat) : Env := ⟨lk [], nzk [], N, [], false⟩
noncomputable def impl_within.f (N : Nat) (a : List PV) : Option Res := run Tryz.prog (impl_within.E N) Tryz.f61 [(3, .ro), (3, .ro), (3, .ro)] [(4, .val)] a
theorem impl_within.f_eq (N : Nat) (a0 : PV) (a1 : PV) (a2 : PV) : impl_within.f N [a0, a1, a2] = if decide (a1.toInt ≤ a0.toInt) = true then (some [(PV.sc (.bool (decide (a0.toInt ≤ a2.toInt))))]) else (some [(PV.sc (.bool false))]) := by kernel_rfl
noncomputable def impl_within.S (N : Nat) : ASpec := ⟨[(3, .ro), (3, .ro), (3, .ro)], [(4, .val)], impl_within.f N⟩
theorem impl_within.ok (N : Nat) : FnOk Tryz.prog 61 (impl_within.S N) := fnOk_of (E := impl_within.E N) mix Tryz.func61 (by kernel_rfl) (by kernel_rfl) (by kernel_rfl) (lk_ok all_nil) (by kernel_rfl) (fun _ _ h => h)

/-! ### impl_keyOk: function 50, loop.example/medlar/impl.keyOk -/
noncomputable def impl_keyOk.E (N : Nat) : Env := ⟨lk [(61, impl_within.S N)], nzk [], N, [], false⟩
noncomputable def impl_keyOk.f (N : Nat) (a : List PV) : Option Res := run Tryz.prog (impl_keyOk.E N) Tryz.f50 [(9, .ro)] [(4, .val)] a
theorem impl_keyOk.f_eq (N : Nat) (a0 : PV) : impl_keyOk.f N [a0] = (impl_within.f N [(PV.sc (.int .i64 (a0.toStr.size : Int))), (PV.sc (.int .i64 1)), (PV.sc (.int .i64 64))]).bind fun t1 => if (t1.headD default).toBool = true then (if 0 ≤ (IntKind.i64.wrap ((a0.toStr.size : Int) - 1)) then (if (IntKind.i64.wrap ((a0.toStr.size : Int) - 1)) < (a0.toStr.size : Int) then (some [(PV.sc (.bool (!decide (((a0.toStr.get! (IntKind.i64.wrap ((a0.toStr.size : Int) - 1)).toNat).toNat : Int) = 0))))]) else none) else none) else (some [(PV.sc (.bool false))]) := by kernel_rfl
noncomputable def impl_keyOk.S (N : Nat) : ASpec := ⟨[(9, .ro)], [(4, .val)], impl_keyOk.f N⟩
theorem impl_keyOk.ok (N : Nat) : FnOk Tryz.prog 50 (impl_keyOk.S N) := fnOk_of (E := impl_keyOk.E N) mix Tryz.func50 (by kernel_rfl) (by kernel_rfl) (by kernel_rfl) (lk_ok (all_cons (impl_within.ok N) all_nil)) (by kernel_rfl) (fun _ _ h => h)

/-! ### impl_RingNew: function 21, loop.example/medlar/impl.RingNew -/
noncomputable def impl_RingNew.E (N : Nat) : Env := ⟨lk [(50, impl_keyOk.S N)], nzk [], N, [], false⟩
noncomputable def impl_RingNew.f (N : Nat) (a : List PV) : Option Res := run Tryz.prog (impl_RingNew.E N) Tryz.f21 [(9, .ro)] [(25, .own), (4, .val)] a
theorem impl_RingNew.f_eq (N : Nat) (a0 : PV) : impl_RingNew.f N [a0] = (impl_keyOk.f N [(PV.sc (.string a0.toStr))]).bind fun t1 => if (!((t1.headD default).toBool)) = true then (some [(PV.agg [(PV.list []), (PV.list [])]), (PV.sc (.bool false))]) else (some [(PV.agg [(PV.list [(PV.sc (.string a0.toStr))]), (PV.list [(PV.sc (.int .i64 1))])]), (PV.sc (.bool true))]) := by kernel_rfl
noncomputable def impl_RingNew.S (N : Nat) : ASpec := ⟨[(9, .ro)], [(25, .own), (4, .val)], impl_RingNew.f N⟩
theorem impl_RingNew.ok (N : Nat) : FnOk Tryz.prog 21 (impl_RingNew.S N) := fnOk_of (E := impl_RingNew.E N) mix Tryz.func21 (by kernel_rfl) (by kernel_rfl) (by kernel_rfl) (lk_ok (all_cons (impl_keyOk.ok N) all_nil)) (by kernel_rfl) (fun _ _ h => h)

def lays146_ren : Go.Shelf.Ren := ⟨fun | 146 => 23 | 221 => 51 | 268 => 71 | 138 => 72 | 143 => 73 | 195 => 84 | 197 => 85 | 218 => 86 | 219 => 87 | 260 => 96 | 217 => 97 | 225 => 98 | 224 => 99 | 267 => 100 | 266 => 107 | 314 => 108 | n => n, fun | 9 => 9 | 31 => 22 | 3 => 3 | 4 => 4 | 0 => 0 | 105 => 96 | 21 => 21 | 5 => 5 | 46 => 95 | 119 => 121 | 139 => 124 | 138 => 123 | 146 => 125 | 51 => 91 | n => n, fun | 1 => 3 | 3 => 4 | 4 => 5 | n => n⟩
theorem lays146 : Go.Proofs.Lays.n146 Tryz.prog lays146_ren := {
  mixed := by kernel_rfl
  f138 := Tryz.func72.trans (congrArg some (by kernel_rfl))
  f143 := Tryz.func73.trans (congrArg some (by kernel_rfl))
  f146 := Tryz.func23.trans (congrArg some (by kernel_rfl))
  f195 := Tryz.func84.trans (congrArg some (by kernel_rfl))
  f197 := Tryz.func85.trans (congrArg some (by kernel_rfl))
  f217 := Tryz.func97.trans (congrArg some (by kernel_rfl))
  f218 := Tryz.func86.trans (congrArg some (by kernel_rfl))
  f219 := Tryz.func87.trans (congrArg some (by kernel_rfl))
  f221 := Tryz.func51.trans (congrArg some (by kernel_rfl))
  f224 := Tryz.func99.trans (congrArg some (by kernel_rfl))
  f225 := Tryz.func98.trans (congrArg some (by kernel_rfl))
  f260 := Tryz.func96.trans (congrArg some (by kernel_rfl))
  f266 := Tryz.func107.trans (congrArg some (by kernel_rfl))
  f267 := Tryz.func100.trans (congrArg some (by kernel_rfl))
  f268 := Tryz.func71.trans (congrArg some (by kernel_rfl))
  f314 := Tryz.func108.trans (congrArg some (by kernel_rfl))
  t0 := Tryz.underlying0
  a0 := Tryz.isAgg0
  z0 := Tryz.sizeOf0
  v0 := Tryz.zeroValue0
  t3 := Tryz.underlying3
  a3 := Tryz.isAgg3
  z3 := Tryz.sizeOf3
  v3 := Tryz.zeroValue3
  t4 := Tryz.underlying4
  a4 := Tryz.isAgg4
  z4 := Tryz.sizeOf4
  v4 := Tryz.zeroValue4
  t5 := Tryz.underlying5
  a5 := Tryz.isAgg5
  z5 := Tryz.sizeOf5
  v5 := Tryz.zeroValue5
  t9 := Tryz.underlying9
  a9 := Tryz.isAgg9
  z9 := Tryz.sizeOf9
  v9 := Tryz.zeroValue9
  t21 := Tryz.underlying21
  a21 := Tryz.isAgg21
  z21 := Tryz.sizeOf21
  v21 := Tryz.zeroValue21
  t31 := Tryz.underlying22
  a31 := Tryz.isAgg22
  z31 := Tryz.sizeOf22
  v31 := Tryz.zeroValue22
  t46 := Tryz.underlying95
  a46 := Tryz.isAgg95
  z46 := Tryz.sizeOf95
  v46 := Tryz.zeroValue95
  t51 := Tryz.underlying91
  a51 := Tryz.isAgg91
  z51 := Tryz.sizeOf91
  v51 := Tryz.zeroValue91
  t105 := Tryz.underlying96
  a105 := Tryz.isAgg96
  z105 := Tryz.sizeOf96
  v105 := Tryz.zeroValue96
  t119 := Tryz.underlying121
  a119 := Tryz.isAgg121
  z119 := Tryz.sizeOf121
  t138 := Tryz.underlying123
  a138 := Tryz.isAgg123
  z138 := Tryz.sizeOf123
  v138 := Tryz.zeroValue123
  t139 := Tryz.underlying124
  a139 := Tryz.isAgg124
  z139 := Tryz.sizeOf124
  v139 := Tryz.zeroValue124
  t146 := Tryz.underlying125
  a146 := Tryz.isAgg125
  z146 := Tryz.sizeOf125
  v146 := Tryz.zeroValue125
  g1 := by kernel_rfl
  g3 := by kernel_rfl
  g4 := by kernel_rfl }

/-! ### strings_Split: function 23, strings.Split, by the kit's contract, Lib1 Lib4 Lib5 Lib6 -/
noncomputable def strings_Split.f (N : Nat) (a : List PV) : Option (List PV) := splitDen a
noncomputable def strings_Split.S (N : Nat) : ASpec := ⟨[(9, .ro), (9, .ro)], [(22, .own)], strings_Split.f N⟩
theorem strings_Split.ok (N : Nat) : FnOk Tryz.prog 23 (strings_Split.S N) := fnOk_split (e := 9) lays146 rfl ⟨_, Tryz.func23, by kernel_rfl, by kernel_rfl⟩ (fun ok w h => fact_of (g := 3) h (by simp)) (by kernel_rfl) (by kernel_rfl) (by kernel_rfl) (by kernel_rfl) (by kernel_rfl)

/-! ### impl_linesOf: function 22, loop.example/medlar/impl.linesOf -/
noncomputable def impl_linesOf.E (N : Nat) : Env := ⟨lk [(23, strings_Split.S N)], nzk [], N, [], false⟩
noncomputable def impl_linesOf.f (N : Nat) (a : List PV) : Option Res := run Tryz.prog (impl_linesOf.E N) Tryz.f22 [(9, .ro)] [(22, .own)] a
theorem impl_linesOf.f_eq (N : Nat) (a0 : PV) : impl_linesOf.f N [a0] = (strings_Split.f N [(PV.sc (.string a0.toStr)), (PV.sc (.string (ByteArray.mk #[10])))]).bind fun t1 => if 0 ≤ (IntKind.i64.wrap ((((t1.headD default).items).length : Int) - 1)) then (if (IntKind.i64.wrap ((((t1.headD default).items).length : Int) - 1)) ≤ (((t1.headD default).items).length : Int) then (some [(PV.list (((t1.headD default).items).take ((IntKind.i64.wrap ((((t1.headD default).items).length : Int) - 1)).toNat)))]) else none) else none := by kernel_rfl
noncomputable def impl_linesOf.S (N : Nat) : ASpec := ⟨[(9, .ro)], [(22, .own)], impl_linesOf.f N⟩
theorem impl_linesOf.ok (N : Nat) : FnOk Tryz.prog 22 (impl_linesOf.S N) := fnOk_of (E := impl_linesOf.E N) mix Tryz.func22 (by kernel_rfl) (by kernel_rfl) (by kernel_rfl) (lk_ok (all_cons (strings_Split.ok N) all_nil)) (by kernel_rfl) (fun _ _ h => h)

def laysC172_ren : Go.Shelf.Ren := ⟨fun | 172 => 24 | 244 => 52 | 245 => 53 | 247 => 74 | 279 => 75 | 280 => 76 | 281 => 77 | 282 => 78 | 287 => 88 | 316 => 89 | 171 => 63 | 205 => 90 | 321 => 101 | 322 => 102 | 243 => 80 | 246 => 91 | 283 => 103 | 284 => 104 | 285 => 105 | 286 => 106 | 129 => 110 | 317 => 109 | 318 => 111 | 319 => 112 | 320 => 113 | 337 => 114 | 338 => 115 | n => n, fun | 9 => 9 | 3 => 3 | 75 => 49 | 76 => 50 | 4 => 4 | 5 => 5 | 167 => 84 | 37 => 31 | 0 => 0 | 85 => 85 | 2 => 2 | 168 => 87 | 53 => 99 | 175 => 100 | 46 => 95 | 210 => 103 | 127 => 112 | 145 => 115 | 143 => 113 | 21 => 21 | 171 => 116 | 173 => 119 | 212 => 128 | 51 => 91 | 20 => 20 | 213 => 129 | 232 => 133 | 233 => 134 | 80 => 135 | n => n, fun | 15 => 0 | 16 => 1 | 17 => 6 | 18 => 7 | 19 => 8 | n => n⟩
theorem laysC172 : Go.Proofs.LaysC.n172 Tryz.prog laysC172_ren := {
  mixed := by kernel_rfl
  f129 := Tryz.func110.trans (congrArg some (by kernel_rfl))
  f171 := Tryz.func63.trans (congrArg some (by kernel_rfl))
  f172 := Tryz.func24.trans (congrArg some (by kernel_rfl))
  f205 := Tryz.func90.trans (congrArg some (by kernel_rfl))
  f243 := Tryz.func80.trans (congrArg some (by kernel_rfl))
  f244 := Tryz.func52.trans (congrArg some (by kernel_rfl))
  f245 := Tryz.func53.trans (congrArg some (by kernel_rfl))
  f246 := Tryz.func91.trans (congrArg some (by kernel_rfl))
  f247 := Tryz.func74.trans (congrArg some (by kernel_rfl))
  f279 := Tryz.func75.trans (congrArg some (by kernel_rfl))
  f280 := Tryz.func76.trans (congrArg some (by kernel_rfl))
  f281 := Tryz.func77.trans (congrArg some (by kernel_rfl))
  f282 := Tryz.func78.trans (congrArg some (by kernel_rfl))
  f283 := Tryz.func103.trans (congrArg some (by kernel_rfl))
  f284 := Tryz.func104.trans (congrArg some (by kernel_rfl))
  f285 := Tryz.func105.trans (congrArg some (by kernel_rfl))
  f286 := Tryz.func106.trans (congrArg some (by kernel_rfl))
  f287 := Tryz.func88.trans (congrArg some (by kernel_rfl))
  f316 := Tryz.func89.trans (congrArg some (by kernel_rfl))
  f317 := Tryz.func109.trans (congrArg some (by kernel_rfl))
  f318 := Tryz.func111.trans (congrArg some (by kernel_rfl))
  f319 := Tryz.func112.trans (congrArg some (by kernel_rfl))
  f320 := Tryz.func113.trans (congrArg some (by kernel_rfl))
  f321 := Tryz.func101.trans (congrArg some (by kernel_rfl))
  f322 := Tryz.func102.trans (congrArg some (by kernel_rfl))
  f337 := Tryz.func114.trans (congrArg some (by kernel_rfl))
  f338 := Tryz.func115.trans (congrArg some (by kernel_rfl))
  t0 := Tryz.underlying0
  a0 := Tryz.isAgg0
  z0 := Tryz.sizeOf0
  v0 := Tryz.zeroValue0
  t2 := Tryz.underlying2
  a2 := Tryz.isAgg2
  z2 := Tryz.sizeOf2
  v2 := Tryz.zeroValue2
  t3 := Tryz.underlying3
  a3 := Tryz.isAgg3
  z3 := Tryz.sizeOf3
  v3 := Tryz.zeroValue3
  t4 := Tryz.underlying4
  a4 := Tryz.isAgg4
  z4 := Tryz.sizeOf4
  v4 := Tryz.zeroValue4
  t5 := Tryz.underlying5
  a5 := Tryz.isAgg5
  z5 := Tryz.sizeOf5
  v5 := Tryz.zeroValue5
  t9 := Tryz.underlying9
  a9 := Tryz.isAgg9
  z9 := Tryz.sizeOf9
  v9 := Tryz.zeroValue9
  t20 := Tryz.underlying20
  a20 := Tryz.isAgg20
  z20 := Tryz.sizeOf20
  v20 := Tryz.zeroValue20
  t21 := Tryz.underlying21
  a21 := Tryz.isAgg21
  z21 := Tryz.sizeOf21
  v21 := Tryz.zeroValue21
  t37 := Tryz.underlying31
  a37 := Tryz.isAgg31
  z37 := Tryz.sizeOf31
  v37 := Tryz.zeroValue31
  t46 := Tryz.underlying95
  a46 := Tryz.isAgg95
  z46 := Tryz.sizeOf95
  v46 := Tryz.zeroValue95
  t51 := Tryz.underlying91
  a51 := Tryz.isAgg91
  z51 := Tryz.sizeOf91
  v51 := Tryz.zeroValue91
  t53 := Tryz.underlying99
  a53 := Tryz.isAgg99
  z53 := Tryz.sizeOf99
  v53 := Tryz.zeroValue99
  t75 := Tryz.underlying49
  a75 := Tryz.isAgg49
  z75 := Tryz.sizeOf49
  v75 := Tryz.zeroValue49
  t76 := Tryz.underlying50
  a76 := Tryz.isAgg50
  z76 := Tryz.sizeOf50
  v76 := Tryz.zeroValue50
  t85 := Tryz.underlying85
  a85 := Tryz.isAgg85
  z85 := Tryz.sizeOf85
  v85 := Tryz.zeroValue85
  t127 := Tryz.underlying112
  a127 := Tryz.isAgg112
  z127 := Tryz.sizeOf112
  v127 := Tryz.zeroValue112
  t143 := Tryz.underlying113
  a143 := Tryz.isAgg113
  z143 := Tryz.sizeOf113
  v143 := Tryz.zeroValue113
  t145 := Tryz.underlying115
  a145 := Tryz.isAgg115
  z145 := Tryz.sizeOf115
  v145 := Tryz.zeroValue115
  t167 := Tryz.underlying84
  a167 := Tryz.isAgg84
  z167 := Tryz.sizeOf84
  v167 := Tryz.zeroValue84
  t168 := Tryz.underlying87
  a168 := Tryz.isAgg87
  z168 := Tryz.sizeOf87
  v168 := Tryz.zeroValue87
  t171 := Tryz.underlying116
  a171 := Tryz.isAgg116
  z171 := Tryz.sizeOf116
  v171 := Tryz.zeroValue116
  t173 := Tryz.underlying119
  a173 := Tryz.isAgg119
  z173 := Tryz.sizeOf119
  v173 := Tryz.zeroValue119
  t175 := Tryz.underlying100
  a175 := Tryz.isAgg100
  z175 := Tryz.sizeOf100
  v175 := Tryz.zeroValue100
  t210 := Tryz.underlying103
  a210 := Tryz.isAgg103
  z210 := Tryz.sizeOf103
  v210 := Tryz.zeroValue103
  t212 := Tryz.underlying128
  a212 := Tryz.isAgg128
  z212 := Tryz.sizeOf128
  v212 := Tryz.zeroValue128
  t213 := Tryz.underlying129
  a213 := Tryz.isAgg129
  z213 := Tryz.sizeOf129
  t232 := Tryz.underlying133
  a232 := Tryz.isAgg133
  z232 := Tryz.sizeOf133
  v232 := Tryz.zeroValue133
  t233 := Tryz.underlying134
  a233 := Tryz.isAgg134
  z233 := Tryz.sizeOf134
  v233 := Tryz.zeroValue134
  g15 := by kernel_rfl
  g16 := by kernel_rfl
  g17 := by kernel_rfl
  g18 := by kernel_rfl
  g19 := by kernel_rfl
  t80 := Tryz.underlying135
  a80 := Tryz.isAgg135
  z80 := Tryz.sizeOf135
  v80 := Tryz.zeroValue135
  i0 := by kernel_rfl
  i2 := by kernel_rfl
  i3 := by kernel_rfl
  i4 := by kernel_rfl
  i5 := by kernel_rfl
  i9 := by kernel_rfl
  i20 := by kernel_rfl
  i21 := by kernel_rfl
  i37 := by kernel_rfl
  i46 := by kernel_rfl
  i51 := by kernel_rfl
  i53 := by kernel_rfl
  i75 := by kernel_rfl
  i76 := by kernel_rfl
  i80 := by kernel_rfl
  i85 := by kernel_rfl
  i127 := by kernel_rfl
  i143 := by kernel_rfl
  i145 := by kernel_rfl
  i167 := by kernel_rfl
  i168 := by kernel_rfl
  i171 := by kernel_rfl
  i173 := by kernel_rfl
  i175 := by kernel_rfl
  i210 := by kernel_rfl
  i212 := by kernel_rfl
  i232 := by kernel_rfl
  i233 := by kernel_rfl
  m15 := by kernel_rfl
  m16 := by kernel_rfl
  m17 := by kernel_rfl
  m18 := by kernel_rfl
  m19 := by kernel_rfl
  c0 := by kernel_rfl
  c2 := by kernel_rfl
  c3 := by kernel_rfl
  c4 := by kernel_rfl
  c5 := by kernel_rfl
  c9 := by kernel_rfl
  c20 := by kernel_rfl
  c21 := by kernel_rfl
  c37 := by kernel_rfl
  c46 := by kernel_rfl
  c51 := by kernel_rfl
  c53 := by kernel_rfl
  c75 := by kernel_rfl
  c76 := by kernel_rfl
  c80 := by kernel_rfl
  c85 := by kernel_rfl
  c127 := by kernel_rfl
  c143 := by kernel_rfl
  c145 := by kernel_rfl
  c167 := by kernel_rfl
  c168 := by kernel_rfl
  c171 := by kernel_rfl
  c173 := by kernel_rfl
  c175 := by kernel_rfl
  c210 := by kernel_rfl
  c212 := by kernel_rfl
  c213 := by kernel_rfl
  c232 := by kernel_rfl
  c233 := by kernel_rfl }

/-! ### strconv_Atoi: function 24, strconv.Atoi, by the kit's contract, Lib4 Lib7 Lib8 -/
noncomputable def strconv_Atoi.f (N : Nat) (a : List PV) : Option (List PV) := atoiDen a
noncomputable def strconv_Atoi.S (N : Nat) : ASpec := ⟨[(9, .ro)], [(3, .val), (49, .err)], strconv_Atoi.f N⟩
theorem strconv_Atoi.ok (N : Nat) : FnOk Tryz.prog 24 (strconv_Atoi.S N) := fnOk_atoi laysC172 rfl ⟨_, Tryz.func24, by kernel_rfl, by kernel_rfl⟩ (fun ok w h => iface_fact (g := 0) h (by simp)) (fun ok w h => iface_fact (g := 1) h (by simp)) (by kernel_rfl) (by kernel_rfl)

/-! ### impl_nibble: function 57, loop.example/medlar/impl.nibble -/
noncomputable def impl_nibble.E (N : Nat) : Env := ⟨lk [], nzk [], N, [], false⟩
noncomputable def impl_nibble.f (N : Nat) (a : List PV) : Option Res := run Tryz.prog (impl_nibble.E N) Tryz.f57 [(5, .ro)] [(3, .val)] a
theorem impl_nibble.f_eq (N : Nat) (a0 : PV) : impl_nibble.f N [a0] = if decide (48 ≤ a0.toInt) = true then (if decide (a0.toInt ≤ 57) = true then (some [(PV.sc (.int .i64 (IntKind.i64.wrap (IntKind.u8.wrap (a0.toInt - 48)))))]) else (if decide (97 ≤ a0.toInt) = true then (if decide (a0.toInt ≤ 102) = true then (some [(PV.sc (.int .i64 (IntKind.i64.wrap ((IntKind.i64.wrap (IntKind.u8.wrap (a0.toInt - 97))) + 10))))]) else (if decide (65 ≤ a0.toInt) = true then (if decide (a0.toInt ≤ 70) = true then (some [(PV.sc (.int .i64 (IntKind.i64.wrap ((IntKind.i64.wrap (IntKind.u8.wrap (a0.toInt - 65))) + 10))))]) else (some [(PV.sc (.int .i64 (-1)))])) else (some [(PV.sc (.int .i64 (-1)))]))) else (if decide (65 ≤ a0.toInt) = true then (if decide (a0.toInt ≤ 70) = true then (some [(PV.sc (.int .i64 (IntKind.i64.wrap ((IntKind.i64.wrap (IntKind.u8.wrap (a0.toInt - 65))) + 10))))]) else (some [(PV.sc (.int .i64 (-1)))])) else (some [(PV.sc (.int .i64 (-1)))])))) else (if decide (97 ≤ a0.toInt) = true then (if decide (a0.toInt ≤ 102) = true then (some [(PV.sc (.int .i64 (IntKind.i64.wrap ((IntKind.i64.wrap (IntKind.u8.wrap (a0.toInt - 97))) + 10))))]) else (if decide (65 ≤ a0.toInt) = true then (if decide (a0.toInt ≤ 70) = true then (some [(PV.sc (.int .i64 (IntKind.i64.wrap ((IntKind.i64.wrap (IntKind.u8.wrap (a0.toInt - 65))) + 10))))]) else (some [(PV.sc (.int .i64 (-1)))])) else (some [(PV.sc (.int .i64 (-1)))]))) else (if decide (65 ≤ a0.toInt) = true then (if decide (a0.toInt ≤ 70) = true then (some [(PV.sc (.int .i64 (IntKind.i64.wrap ((IntKind.i64.wrap (IntKind.u8.wrap (a0.toInt - 65))) + 10))))]) else (some [(PV.sc (.int .i64 (-1)))])) else (some [(PV.sc (.int .i64 (-1)))]))) := by kernel_rfl
noncomputable def impl_nibble.S (N : Nat) : ASpec := ⟨[(5, .ro)], [(3, .val)], impl_nibble.f N⟩
theorem impl_nibble.ok (N : Nat) : FnOk Tryz.prog 57 (impl_nibble.S N) := fnOk_of (E := impl_nibble.E N) mix Tryz.func57 (by kernel_rfl) (by kernel_rfl) (by kernel_rfl) (lk_ok all_nil) (by kernel_rfl) (fun _ _ h => h)

/-! ### impl_unhex: function 26, loop.example/medlar/impl.unhex -/
noncomputable def impl_unhex.E (N : Nat) : Env := ⟨lk [(57, impl_nibble.S N)], nzk [(3, ⟨[1, 2, 5, 6, 7, 8, 9, 10, 11, 12, 13, 14, 15, 16, 17, 18, 19, 20, 21, 22, 23, 24, 25, 26, 27, 28, 29, 30, 31, 32, 33, 34, 35, 36, 37, 38, 39, 40, 41, 42, 43, 44], [(3, 31)], []⟩)], N, [], false⟩
noncomputable def impl_unhex.f (N : Nat) (a : List PV) : Option Res := run Tryz.prog (impl_unhex.E N) Tryz.f26 [(9, .ro)] [(9, .val)] a
noncomputable def impl_unhex.l0 (N : Nat) (n : Nat) (x0 : ByteArray) (x4 : Int) (y0 : List PV) : Option Res := loopAt Tryz.prog (impl_unhex.E N) Tryz.f26 [(9, .val)] [1, 1, 0, 1, 0] [] n ⟨mkSlots 45 [(0, .sc (.string x0)), (3, .ref 0 []), (4, .sc (.int .i64 x4))], ohOf [.row 31 (PV.list y0)]⟩
theorem impl_unhex.f_eq (N : Nat) (a0 : PV) : impl_unhex.f N [a0] = impl_unhex.l0 N N a0.toStr 0 [] := by kernel_rfl
theorem impl_unhex.l0_eq (N : Nat) (n : Nat) (x0 : ByteArray) (x4 : Int) (y0 : List PV) : impl_unhex.l0 N (n + 1) x0 x4 y0 = if decide ((IntKind.i64.wrap (x4 + 1)) < (x0.size : Int)) = true then (if 0 ≤ x4 then (if x4 < (x0.size : Int) then ((impl_nibble.f N [(PV.sc (.int .u8 ((x0.get! x4.toNat).toNat : Int)))]).bind fun t1 => if decide (0 ≤ ((t1.headD default).toInt)) = true then (if 0 ≤ (IntKind.i64.wrap (x4 + 1)) then (if (IntKind.i64.wrap (x4 + 1)) < (x0.size : Int) then ((impl_nibble.f N [(PV.sc (.int .u8 ((x0.get! (IntKind.i64.wrap (x4 + 1)).toNat).toNat : Int)))]).bind fun t2 => if decide (0 ≤ ((t2.headD default).toInt)) = true then (if 0 ≤ x4 then (if x4 < (x0.size : Int) then ((impl_nibble.f N [(PV.sc (.int .u8 ((x0.get! x4.toNat).toNat : Int)))]).bind fun t3 => if 0 ≤ (IntKind.i64.wrap (x4 + 1)) then (if (IntKind.i64.wrap (x4 + 1)) < (x0.size : Int) then ((impl_nibble.f N [(PV.sc (.int .u8 ((x0.get! (IntKind.i64.wrap (x4 + 1)).toNat).toNat : Int)))]).bind fun t4 => if y0.length + [(PV.sc (.int .u8 (IntKind.u8.wrap (IntKind.i64.wrap ((IntKind.i64.wrap (16 * ((t3.headD default).toInt))) + ((t4.headD default).toInt))))))].length ≤ 140737488355328 then (impl_unhex.l0 N n x0 (IntKind.i64.wrap (x4 + 2)) (y0 ++ [(PV.sc (.int .u8 (IntKind.u8.wrap (IntKind.i64.wrap ((IntKind.i64.wrap (16 * ((t3.headD default).toInt))) + ((t4.headD default).toInt))))))])) else none) else none) else none) else none) else none) else (some [(PV.sc (.string (bytesOfL y0)))])) else none) else none) else (some [(PV.sc (.string (bytesOfL y0)))])) else none) else none) else (some [(PV.sc (.string (bytesOfL y0)))]) := by kernel_rfl
noncomputable def impl_unhex.S (N : Nat) : ASpec := ⟨[(9, .ro)], [(9, .val)], impl_unhex.f N⟩
theorem impl_unhex.ok (N : Nat) : FnOk Tryz.prog 26 (impl_unhex.S N) := fnOk_of (E := impl_unhex.E N) mix Tryz.func26 (by kernel_rfl) (by kernel_rfl) (by kernel_rfl) (lk_ok (all_cons (impl_nibble.ok N) all_nil)) (by kernel_rfl) (fun _ _ h => h)

/-! ### slices_Index_string_string: function 79, slices.Index[[]string,string] -/
noncomputable def slices_Index_string_string.E (N : Nat) : Env := ⟨lk [], nzk [(2, ⟨[2, 3, 4, 5, 6, 9, 10, 11, 12, 13, 14, 15, 16, 17, 18], [], []⟩)], N, [], false⟩
noncomputable def slices_Index_string_string.f (N : Nat) (a : List PV) : Option Res := run Tryz.prog (slices_Index_string_string.E N) Tryz.f79 [(22, .ro), (9, .ro)] [(3, .val)] a
noncomputable def slices_Index_string_string.l0 (N : Nat) (n : Nat) (x0 : PV) (x1 : ByteArray) (x7 : Int) (x8 : Int) : Option Res := loopAt Tryz.prog (slices_Index_string_string.E N) Tryz.f79 [(3, .val)] [1, 0, 1, 0] [] n ⟨mkSlots 19 [(0, .ro 22 x0), (1, .sc (.string x1)), (7, .sc (.int .i64 x7)), (8, .sc (.int .i64 x8))], ohOf []⟩
theorem slices_Index_string_string.f_eq (N : Nat) (a0 : PV) (a1 : PV) : slices_Index_string_string.f N [a0, a1] = slices_Index_string_string.l0 N N a0 a1.toStr (a0.items.length : Int) 0 := by kernel_rfl
theorem slices_Index_string_string.l0_eq (N : Nat) (n : Nat) (x0 : PV) (x1 : ByteArray) (x7 : Int) (x8 : Int) : slices_Index_string_string.l0 N (n + 1) x0 x1 x7 x8 = if decide (x8 < x7) = true then (if 0 ≤ x8 then (if x8 < (x0.items.length : Int) then (if decide (x1.toList = ((x0.elem x8.toNat).toStr).toList) = true then (some [(PV.sc (.int .i64 x8))]) else (slices_Index_string_string.l0 N n x0 x1 x7 (IntKind.i64.wrap (x8 + 1)))) else none) else none) else (some [(PV.sc (.int .i64 (-1)))]) := by kernel_rfl
noncomputable def slices_Index_string_string.S (N : Nat) : ASpec := ⟨[(22, .ro), (9, .ro)], [(3, .val)], slices_Index_string_string.f N⟩
theorem slices_Index_string_string.ok (N : Nat) : FnOk Tryz.prog 79 (slices_Index_string_string.S N) := fnOk_of (E := slices_Index_string_string.E N) mix Tryz.func79 (by kernel_rfl) (by kernel_rfl) (by kernel_rfl) (lk_ok all_nil) (by kernel_rfl) (fun _ _ h => h)

/-! ### slices_Contains_string_string: function 62, slices.Contains[[]string,string] -/
noncomputable def slices_Contains_string_string.E (N : Nat) : Env := ⟨lk [(79, slices_Index_string_string.S N)], nzk [], N, [], false⟩
noncomputable def slices_Contains_string_string.f (N : Nat) (a : List PV) : Option Res := run Tryz.prog (slices_Contains_string_string.E N) Tryz.f62 [(22, .ro), (9, .ro)] [(4, .val)] a
theorem slices_Contains_string_string.f_eq (N : Nat) (a0 : PV) (a1 : PV) : slices_Contains_string_string.f N [a0, a1] = (slices_Index_string_string.f N [a0, (PV.sc (.string a1.toStr))]).bind fun t1 => some [(PV.sc (.bool (decide (0 ≤ ((t1.headD default).toInt)))))] := by kernel_rfl
noncomputable def slices_Contains_string_string.S (N : Nat) : ASpec := ⟨[(22, .ro), (9, .ro)], [(4, .val)], slices_Contains_string_string.f N⟩
theorem slices_Contains_string_string.ok (N : Nat) : FnOk Tryz.prog 62 (slices_Contains_string_string.S N) := fnOk_of (E := slices_Contains_string_string.E N) mix Tryz.func62 (by kernel_rfl) (by kernel_rfl) (by kernel_rfl) (lk_ok (all_cons (slices_Index_string_string.ok N) all_nil)) (by kernel_rfl) (fun _ _ h => h)

/-! ### impl_RingOk: function 35, loop.example/medlar/impl.RingOk -/
noncomputable def impl_RingOk.E (N : Nat) : Env := ⟨lk [(61, impl_within.S N), (50, impl_keyOk.S N), (62, slices_Contains_string_string.S N)], nzk [(4, ⟨[0, 2, 3, 4, 5, 6, 7, 8, 9, 10, 11, 12, 13, 14, 15, 16, 17, 18, 19, 20, 21, 22, 23, 24, 25, 26, 30, 31, 32, 33, 34, 35, 36, 37, 38, 39, 40, 41, 42, 43, 44, 45, 46, 47, 48, 49, 50, 51, 52, 53, 54, 55, 56, 57, 58, 59, 60, 61, 62, 63, 64, 65, 66, 67, 68, 69, 70, 71], [], []⟩)], N, [], false⟩
noncomputable def impl_RingOk.f (N : Nat) (a : List PV) : Option Res := run Tryz.prog (impl_RingOk.E N) Tryz.f35 [(25, .ro)] [(4, .val)] a
noncomputable def impl_RingOk.l0 (N : Nat) (n : Nat) (x27 : PV) (x28 : Int) (x29 : Int) (y0_0 : PV) (y0_1 : PV) : Option Res := loopAt Tryz.prog (impl_RingOk.E N) Tryz.f35 [(4, .val)] [1, 1, 0, 1, 0] [] n ⟨mkSlots 72 [(1, .ptr 0 []), (27, .ro 22 x27), (28, .sc (.int .i64 x28)), (29, .sc (.int .i64 x29))], ohOf [.box 25 (.agg 25 [.ro 22 y0_0, .ro 23 y0_1])]⟩
theorem impl_RingOk.f_eq (N : Nat) (a0 : PV) : impl_RingOk.f N [a0] = (impl_within.f N [(PV.sc (.int .i64 (((a0.fld 0).items).length : Int))), (PV.sc (.int .i64 1)), (PV.sc (.int .i64 5))]).bind fun t1 => if (!((t1.headD default).toBool)) = false then (if (!decide ((((a0.fld 1).items).length : Int) = (((a0.fld 0).items).length : Int))) = false then (if 0 ≤ 0 then (if 0 < (((a0.fld 1).items).length : Int) then (if (!decide ((((a0.fld 1).elem 0).toInt) = 1)) = true then (some [(PV.sc (.bool false))]) else (impl_RingOk.l0 N N (a0.fld 0) (((a0.fld 0).items).length : Int) 0 (a0.fld 0) (a0.fld 1))) else none) else none) else (some [(PV.sc (.bool false))])) else (some [(PV.sc (.bool false))]) := by kernel_rfl
theorem impl_RingOk.l0_eq (N : Nat) (n : Nat) (x27 : PV) (x28 : Int) (x29 : Int) (y0_0 : PV) (y0_1 : PV) : impl_RingOk.l0 N (n + 1) x27 x28 x29 y0_0 y0_1 = if decide (x29 < x28) = true then (if 0 ≤ x29 then (if x29 < (x27.items.length : Int) then ((impl_keyOk.f N [(PV.sc (.string ((x27.elem x29.toNat).toStr)))]).bind fun t2 => if (!((t2.headD default).toBool)) = false then (if 0 ≤ x29 then (if x29 ≤ (y0_0.items.length : Int) then ((slices_Contains_string_string.f N [(PV.list ((y0_0.items.drop 0).take (x29.toNat - 0))), (PV.sc (.string ((x27.elem x29.toNat).toStr)))]).bind fun t3 => if (t3.headD default).toBool = false then (if 0 ≤ x29 then (if x29 < (y0_1.items.length : Int) then (if decide (999999 < ((y0_1.elem x29.toNat).toInt)) = false then (if decide (0 < x29) = true then (if 0 ≤ (IntKind.i64.wrap (x29 - 1)) then (if (IntKind.i64.wrap (x29 - 1)) < (y0_1.items.length : Int) then (if 0 ≤ x29 then (if x29 < (y0_1.items.length : Int) then (if decide (((y0_1.elem x29.toNat).toInt) ≤ ((y0_1.elem ((IntKind.i64.wrap (x29 - 1)).toNat)).toInt)) = true then (some [(PV.sc (.bool false))]) else (impl_RingOk.l0 N n x27 x28 (IntKind.i64.wrap (x29 + 1)) y0_0 y0_1)) else none) else none) else none) else none) else (impl_RingOk.l0 N n x27 x28 (IntKind.i64.wrap (x29 + 1)) y0_0 y0_1)) else (some [(PV.sc (.bool false))])) else none) else none) else (some [(PV.sc (.bool false))])) else none) else none) else (some [(PV.sc (.bool false))])) else none) else none) else (some [(PV.sc (.bool true))]) := by kernel_rfl
noncomputable def impl_RingOk.S (N : Nat) : ASpec := ⟨[(25, .ro)], [(4, .val)], impl_RingOk.f N⟩
theorem impl_RingOk.ok (N : Nat) : FnOk Tryz.prog 35 (impl_RingOk.S N) := fnOk_of (E := impl_RingOk.E N) mix Tryz.func35 (by kernel_rfl) (by kernel_rfl) (by kernel_rfl) (lk_ok (all_cons (impl_within.ok N) (all_cons (impl_keyOk.ok N) (all_cons (slices_Contains_string_string.ok N) all_nil)))) (by kernel_rfl) (fun _ _ h => h)

/-! ### impl_cloneRing: function 55, loop.example/medlar/impl.cloneRing -/
noncomputable def impl_cloneRing.E (N : Nat) : Env := ⟨lk [], nzk [], N, [], false⟩
noncomputable def impl_cloneRing.f (N : Nat) (a : List PV) : Option Res := run Tryz.prog (impl_cloneRing.E N) Tryz.f55 [(25, .ro)] [(25, .own)] a
theorem impl_cloneRing.f_eq (N : Nat) (a0 : PV) : impl_cloneRing.f N [a0] = if ([] : List PV).length + ((a0.fld 0).items).length ≤ 8796093022208 then (if ([] : List PV).length + ((a0.fld 1).items).length ≤ 17592186044416 then (some [(PV.agg [(PV.list (([] : List PV) ++ ((a0.fld 0).items))), (PV.list (([] : List PV) ++ ((a0.fld 1).items)))])]) else none) else none := by kernel_rfl
noncomputable def impl_cloneRing.S (N : Nat) : ASpec := ⟨[(25, .ro)], [(25, .own)], impl_cloneRing.f N⟩
theorem impl_cloneRing.ok (N : Nat) : FnOk Tryz.prog 55 (impl_cloneRing.S N) := fnOk_of (E := impl_cloneRing.E N) mix Tryz.func55 (by kernel_rfl) (by kernel_rfl) (by kernel_rfl) (lk_ok all_nil) (by kernel_rfl) (fun _ _ h => h)

/-! ### impl_Ring_with: function 56, (loop.example/medlar/impl.Ring).with -/
noncomputable def impl_Ring_with.E (N : Nat) : Env := ⟨lk [(55, impl_cloneRing.S N)], nzk [], N, [], false⟩
noncomputable def impl_Ring_with.f (N : Nat) (a : List PV) : Option Res := run Tryz.prog (impl_Ring_with.E N) Tryz.f56 [(25, .ro), (9, .ro), (3, .ro)] [(25, .own)] a
theorem impl_Ring_with.f_eq (N : Nat) (a0 : PV) (a1 : PV) (a2 : PV) : impl_Ring_with.f N [a0, a1, a2] = (impl_cloneRing.f N [(PV.agg [a0.fld 0, a0.fld 1])]).bind fun t1 => if (((t1.headD default).fld 0).items).length + [(PV.sc (.string a1.toStr))].length ≤ 8796093022208 then (if (((t1.headD default).fld 1).items).length + [(PV.sc (.int .i64 a2.toInt))].length ≤ 17592186044416 then (some [(PV.agg [(PV.list ((((t1.headD default).fld 0).items) ++ [(PV.sc (.string a1.toStr))])), (PV.list ((((t1.headD default).fld 1).items) ++ [(PV.sc (.int .i64 a2.toInt))]))])]) else none) else none := by kernel_rfl
noncomputable def impl_Ring_with.S (N : Nat) : ASpec := ⟨[(25, .ro), (9, .ro), (3, .ro)], [(25, .own)], impl_Ring_with.f N⟩
theorem impl_Ring_with.ok (N : Nat) : FnOk Tryz.prog 56 (impl_Ring_with.S N) := fnOk_of (E := impl_Ring_with.E N) mix Tryz.func56 (by kernel_rfl) (by kernel_rfl) (by kernel_rfl) (lk_ok (all_cons (impl_cloneRing.ok N) all_nil)) (by kernel_rfl) (fun _ _ h => h)

def laysM171_ren : Go.Shelf.Ren := ⟨fun | 171 => 63 | 243 => 80 | 246 => 91 | 283 => 103 | 284 => 104 | 285 => 105 | 286 => 106 | 129 => 110 | 317 => 109 | 318 => 111 | 319 => 112 | 320 => 113 | 337 => 114 | 338 => 115 | n => n, fun | 3 => 3 | 9 => 9 | 2 => 2 | 4 => 4 | 171 => 116 | 0 => 0 | 53 => 99 | 37 => 31 | 5 => 5 | 173 => 119 | 212 => 128 | 51 => 91 | 20 => 20 | 213 => 129 | 46 => 95 | 232 => 133 | 233 => 134 | n => n, fun | 17 => 6 | 18 => 7 | 19 => 8 | n => n⟩
theorem laysM171 : Go.Proofs.LaysM.n171 Tryz.prog laysM171_ren := {
  mixed := by kernel_rfl
  f129 := Tryz.func110.trans (congrArg some (by kernel_rfl))
  f171 := Tryz.func63.trans (congrArg some (by kernel_rfl))
  f243 := Tryz.func80.trans (congrArg some (by kernel_rfl))
  f246 := Tryz.func91.trans (congrArg some (by kernel_rfl))
  f283 := Tryz.func103.trans (congrArg some (by kernel_rfl))
  f284 := Tryz.func104.trans (congrArg some (by kernel_rfl))
  f285 := Tryz.func105.trans (congrArg some (by kernel_rfl))
  f286 := Tryz.func106.trans (congrArg some (by kernel_rfl))
  f317 := Tryz.func109.trans (congrArg some (by kernel_rfl))
  f318 := Tryz.func111.trans (congrArg some (by kernel_rfl))
  f319 := Tryz.func112.trans (congrArg some (by kernel_rfl))
  f320 := Tryz.func113.trans (congrArg some (by kernel_rfl))
  f337 := Tryz.func114.trans (congrArg some (by kernel_rfl))
  f338 := Tryz.func115.trans (congrArg some (by kernel_rfl))
  t0 := Tryz.underlying0
  a0 := Tryz.isAgg0
  z0 := Tryz.sizeOf0
  v0 := Tryz.zeroValue0
  t2 := Tryz.underlying2
  a2 := Tryz.isAgg2
  z2 := Tryz.sizeOf2
  v2 := Tryz.zeroValue2
  t3 := Tryz.underlying3
  a3 := Tryz.isAgg3
  z3 := Tryz.sizeOf3
  v3 := Tryz.zeroValue3
  t4 := Tryz.underlying4
  a4 := Tryz.isAgg4
  z4 := Tryz.sizeOf4
  v4 := Tryz.zeroValue4
  t5 := Tryz.underlying5
  a5 := Tryz.isAgg5
  z5 := Tryz.sizeOf5
  v5 := Tryz.zeroValue5
  t9 := Tryz.underlying9
  a9 := Tryz.isAgg9
  z9 := Tryz.sizeOf9
  v9 := Tryz.zeroValue9
  t20 := Tryz.underlying20
  a20 := Tryz.isAgg20
  z20 := Tryz.sizeOf20
  v20 := Tryz.zeroValue20
  t37 := Tryz.underlying31
  a37 := Tryz.isAgg31
  z37 := Tryz.sizeOf31
  v37 := Tryz.zeroValue31
  t46 := Tryz.underlying95
  a46 := Tryz.isAgg95
  z46 := Tryz.sizeOf95
  v46 := Tryz.zeroValue95
  t51 := Tryz.underlying91
  a51 := Tryz.isAgg91
  z51 := Tryz.sizeOf91
  v51 := Tryz.zeroValue91
  t53 := Tryz.underlying99
  a53 := Tryz.isAgg99
  z53 := Tryz.sizeOf99
  v53 := Tryz.zeroValue99
  t171 := Tryz.underlying116
  a171 := Tryz.isAgg116
  z171 := Tryz.sizeOf116
  v171 := Tryz.zeroValue116
  t173 := Tryz.underlying119
  a173 := Tryz.isAgg119
  z173 := Tryz.sizeOf119
  v173 := Tryz.zeroValue119
  t212 := Tryz.underlying128
  a212 := Tryz.isAgg128
  z212 := Tryz.sizeOf128
  v212 := Tryz.zeroValue128
  t213 := Tryz.underlying129
  a213 := Tryz.isAgg129
  z213 := Tryz.sizeOf129
  t232 := Tryz.underlying133
  a232 := Tryz.isAgg133
  z232 := Tryz.sizeOf133
  v232 := Tryz.zeroValue133
  t233 := Tryz.underlying134
  a233 := Tryz.isAgg134
  z233 := Tryz.sizeOf134
  v233 := Tryz.zeroValue134
  g17 := by kernel_rfl
  g18 := by kernel_rfl
  g19 := by kernel_rfl
  i0 := by kernel_rfl
  i2 := by kernel_rfl
  i3 := by kernel_rfl
  i4 := by kernel_rfl
  i5 := by kernel_rfl
  i9 := by kernel_rfl
  i20 := by kernel_rfl
  i37 := by kernel_rfl
  i46 := by kernel_rfl
  i51 := by kernel_rfl
  i53 := by kernel_rfl
  i171 := by kernel_rfl
  i173 := by kernel_rfl
  i212 := by kernel_rfl
  i232 := by kernel_rfl
  i233 := by kernel_rfl
  m17 := by kernel_rfl
  m18 := by kernel_rfl
  m19 := by kernel_rfl }

/-! ### strconv_Itoa: function 63, strconv.Itoa, by the kit's contract, Lib4 Lib7 -/
noncomputable def strconv_Itoa.f (N : Nat) (a : List PV) : Option (List PV) := itoaDen a
noncomputable def strconv_Itoa.S (N : Nat) : ASpec := ⟨[(3, .ro)], [(9, .val)], strconv_Itoa.f N⟩
theorem strconv_Itoa.ok (N : Nat) : FnOk Tryz.prog 63 (strconv_Itoa.S N) := fnOk_itoa laysM171 rfl ⟨_, Tryz.func63, by kernel_rfl, by kernel_rfl⟩ (fun ok w h => tab_of (g := 6) (by kernel_rfl) h (by simp)) (by kernel_rfl) (by kernel_rfl)

/-! ### impl_hexOf: function 64, loop.example/medlar/impl.hexOf -/
noncomputable def impl_hexOf.E (N : Nat) : Env := ⟨lk [], nzk [(3, ⟨[1, 2, 5, 6, 7, 8, 9, 10, 11, 12, 13, 14, 15, 16, 17, 18, 19, 20, 21, 22, 23, 24, 25, 26], [(3, 31)], []⟩)], N, [], false⟩
noncomputable def impl_hexOf.f (N : Nat) (a : List PV) : Option Res := run Tryz.prog (impl_hexOf.E N) Tryz.f64 [(9, .ro)] [(9, .val)] a
noncomputable def impl_hexOf.l0 (N : Nat) (n : Nat) (x0 : ByteArray) (x4 : Int) (y0 : List PV) : Option Res := loopAt Tryz.prog (impl_hexOf.E N) Tryz.f64 [(9, .val)] [1, 1, 0, 1, 0] [] n ⟨mkSlots 27 [(0, .sc (.string x0)), (3, .ref 0 []), (4, .sc (.int .i64 x4))], ohOf [.row 31 (PV.list y0)]⟩
theorem impl_hexOf.f_eq (N : Nat) (a0 : PV) : impl_hexOf.f N [a0] = impl_hexOf.l0 N N a0.toStr 0 [] := by kernel_rfl
theorem impl_hexOf.l0_eq (N : Nat) (n : Nat) (x0 : ByteArray) (x4 : Int) (y0 : List PV) : impl_hexOf.l0 N (n + 1) x0 x4 y0 = if decide (x4 < (x0.size : Int)) = true then (if 0 ≤ x4 then (if x4 < (x0.size : Int) then (if 16 = 0 then none else (if 0 ≤ (IntKind.u8.wrap (Int.tdiv ((x0.get! x4.toNat).toNat : Int) 16)) then (if (IntKind.u8.wrap (Int.tdiv ((x0.get! x4.toNat).toNat : Int) 16)) < ((ByteArray.mk #[48, 49, 50, 51, 52, 53, 54, 55, 56, 57, 97, 98, 99, 100, 101, 102]).size : Int) then (if 0 ≤ x4 then (if x4 < (x0.size : Int) then (if 16 = 0 then none else (if 0 ≤ (Int.tmod ((x0.get! x4.toNat).toNat : Int) 16) then (if (Int.tmod ((x0.get! x4.toNat).toNat : Int) 16) < ((ByteArray.mk #[48, 49, 50, 51, 52, 53, 54, 55, 56, 57, 97, 98, 99, 100, 101, 102]).size : Int) then (if y0.length + ([(PV.sc (.int .u8 (((ByteArray.mk #[48, 49, 50, 51, 52, 53, 54, 55, 56, 57, 97, 98, 99, 100, 101, 102]).get! (IntKind.u8.wrap (Int.tdiv ((x0.get! x4.toNat).toNat : Int) 16)).toNat).toNat : Int))), (PV.sc (.int .u8 (((ByteArray.mk #[48, 49, 50, 51, 52, 53, 54, 55, 56, 57, 97, 98, 99, 100, 101, 102]).get! (Int.tmod ((x0.get! x4.toNat).toNat : Int) 16).toNat).toNat : Int)))]).length ≤ 140737488355328 then (impl_hexOf.l0 N n x0 (IntKind.i64.wrap (x4 + 1)) (y0 ++ ([(PV.sc (.int .u8 (((ByteArray.mk #[48, 49, 50, 51, 52, 53, 54, 55, 56, 57, 97, 98, 99, 100, 101, 102]).get! (IntKind.u8.wrap (Int.tdiv ((x0.get! x4.toNat).toNat : Int) 16)).toNat).toNat : Int))), (PV.sc (.int .u8 (((ByteArray.mk #[48, 49, 50, 51, 52, 53, 54, 55, 56, 57, 97, 98, 99, 100, 101, 102]).get! (Int.tmod ((x0.get! x4.toNat).toNat : Int) 16).toNat).toNat : Int)))]))) else none) else none) else none)) else none) else none) else none) else none)) else none) else none) else (some [(PV.sc (.string (bytesOfL y0)))]) := by kernel_rfl
noncomputable def impl_hexOf.S (N : Nat) : ASpec := ⟨[(9, .ro)], [(9, .val)], impl_hexOf.f N⟩
theorem impl_hexOf.ok (N : Nat) : FnOk Tryz.prog 64 (impl_hexOf.S N) := fnOk_of (E := impl_hexOf.E N) mix Tryz.func64 (by kernel_rfl) (by kernel_rfl) (by kernel_rfl) (lk_ok all_nil) (by kernel_rfl) (fun _ _ h => h)

/-! ### impl_turnText: function 36, loop.example/medlar/impl.turnText -/
noncomputable def impl_turnText.E (N : Nat) : Env := ⟨lk [(63, strconv_Itoa.S N), (64, impl_hexOf.S N)], nzk [], N, [], false⟩
noncomputable def impl_turnText.f (N : Nat) (a : List PV) : Option Res := run Tryz.prog (impl_turnText.E N) Tryz.f36 [(9, .ro), (3, .ro)] [(9, .val)] a
theorem impl_turnText.f_eq (N : Nat) (a0 : PV) (a1 : PV) : impl_turnText.f N [a0, a1] = (strconv_Itoa.f N [(PV.sc (.int .i64 a1.toInt))]).bind fun t1 => if (ByteArray.mk #[116, 117, 114, 110, 32]).size + ((t1.headD default).toStr).size ≤ 9223372036854775807 then (if ((ByteArray.mk #[116, 117, 114, 110, 32]) ++ ((t1.headD default).toStr)).size + (ByteArray.mk #[32]).size ≤ 9223372036854775807 then ((impl_hexOf.f N [(PV.sc (.string a0.toStr))]).bind fun t2 => if (((ByteArray.mk #[116, 117, 114, 110, 32]) ++ ((t1.headD default).toStr)) ++ (ByteArray.mk #[32])).size + ((t2.headD default).toStr).size ≤ 9223372036854775807 then (some [(PV.sc (.string ((((ByteArray.mk #[116, 117, 114, 110, 32]) ++ ((t1.headD default).toStr)) ++ (ByteArray.mk #[32])) ++ ((t2.headD default).toStr))))]) else none) else none) else none := by kernel_rfl
noncomputable def impl_turnText.S (N : Nat) : ASpec := ⟨[(9, .ro), (3, .ro)], [(9, .val)], impl_turnText.f N⟩
theorem impl_turnText.ok (N : Nat) : FnOk Tryz.prog 36 (impl_turnText.S N) := fnOk_of (E := impl_turnText.E N) mix Tryz.func36 (by kernel_rfl) (by kernel_rfl) (by kernel_rfl) (lk_ok (all_cons (strconv_Itoa.ok N) (all_cons (impl_hexOf.ok N) all_nil))) (by kernel_rfl) (fun _ _ h => h)

/-! ### impl_rolled: function 92, loop.example/medlar/impl.rolled -/
noncomputable def impl_rolled.E (N : Nat) : Env := ⟨lk [], nzk [], N, [], false⟩
noncomputable def impl_rolled.f (N : Nat) (a : List PV) : Option Res := run Tryz.prog (impl_rolled.E N) Tryz.f92 [(91, .ro), (3, .ro)] [(91, .val)] a
theorem impl_rolled.f_eq (N : Nat) (a0 : PV) (a1 : PV) : impl_rolled.f N [a0, a1] = if 0 ≤ a1.toInt then (if 0 ≤ (IntKind.i64.wrap (32 - a1.toInt)) then (some [(PV.sc (.int .u32 (bOr .u32 (shrI .u32 a0.toInt a1.toInt) (shlI .u32 a0.toInt (IntKind.i64.wrap (32 - a1.toInt))))))]) else none) else none := by kernel_rfl
noncomputable def impl_rolled.S (N : Nat) : ASpec := ⟨[(91, .ro), (3, .ro)], [(91, .val)], impl_rolled.f N⟩
theorem impl_rolled.ok (N : Nat) : FnOk Tryz.prog 92 (impl_rolled.S N) := fnOk_of (E := impl_rolled.E N) mix Tryz.func92 (by kernel_rfl) (by kernel_rfl) (by kernel_rfl) (lk_ok all_nil) (by kernel_rfl) (fun _ _ h => h)

/-! ### impl_sha256Of: function 81, loop.example/medlar/impl.sha256Of -/
noncomputable def impl_sha256Of.E (N : Nat) : Env := ⟨lk [(92, impl_rolled.S N)], nzk [(3, ⟨[1, 2, 5, 6, 7, 8, 9, 10, 11, 12, 13, 14, 15, 16, 17, 18, 19, 20, 21, 22, 23, 24, 25, 26, 27, 28, 29, 30, 31, 32, 33, 34, 35, 36, 37, 38, 39, 40, 41, 42, 43, 44, 45, 46, 47, 48, 49, 50, 51, 52, 53, 54, 55, 56, 57, 58, 59, 60, 61, 62, 63, 64, 65, 66, 67, 68, 69, 70, 71, 72, 73, 74, 75, 76, 77, 78, 79, 80, 81, 82, 83, 84, 85, 86, 87, 88, 89, 90, 91, 92, 93, 94, 95, 96, 97, 98, 99, 100, 101, 102, 103, 104, 105, 106, 107, 108, 109, 110, 111, 112, 113, 114, 115, 116, 117, 118, 119, 120, 121, 122, 123, 124, 125, 126, 127, 128, 129, 130, 131, 132, 133, 134, 135, 136, 137, 138, 139, 140, 141, 142, 143, 144, 145, 146, 147, 148, 149, 150, 151, 152, 153, 154, 155, 156, 157, 158, 159, 160, 161, 162, 163, 164, 165, 166, 167, 168, 169, 170, 171, 172, 173, 174, 175, 176, 177, 178, 179, 180, 181, 182, 183, 184, 185, 186, 187, 188, 189, 190, 191, 192, 193, 194, 195, 196, 197, 198, 199, 200, 201, 202, 203, 204, 205, 206, 207, 208, 209, 210, 211, 212, 213, 214, 215, 216, 217, 218, 219, 220, 221, 222, 223, 224, 225, 226, 227, 228, 229, 230, 231, 232, 233, 234, 235, 236, 237, 238, 239, 240, 241, 242, 243, 244, 245, 246], [(4, 31)], []⟩), (7, ⟨[0, 1, 2, 7, 8, 9, 10, 11, 12, 13, 14, 15, 16, 17, 18, 19, 20, 21, 22, 23, 24, 25, 26, 27, 28, 29, 30, 31, 32, 33, 34, 35, 36, 37, 38, 39, 40, 41, 42, 43, 44, 45, 46, 47, 48, 49, 50, 51, 52, 53, 54, 55, 56, 57, 58, 59, 60, 61, 62, 63, 64, 65, 66, 67, 68, 69, 70, 71, 72, 73, 74, 75, 76, 77, 78, 79, 80, 81, 82, 83, 84, 85, 86, 87, 88, 89, 90, 91, 92, 93, 94, 95, 96, 97, 98, 99, 100, 101, 102, 103, 104, 105, 106, 107, 108, 109, 110, 111, 112, 113, 114, 115, 116, 117, 118, 119, 120, 121, 122, 123, 124, 125, 126, 127, 128, 129, 130, 131, 132, 133, 134, 135, 136, 137, 138, 139, 140, 141, 142, 143, 144, 145, 146, 147, 148, 149, 150, 151, 152, 153, 154, 155, 156, 157, 158, 159, 160, 161, 162, 163, 164, 165, 166, 167, 168, 169, 170, 171, 172, 173, 174, 175, 176, 177, 178, 179, 180, 181, 182, 183, 184, 185, 186, 187, 188, 189, 190, 191, 192, 193, 194, 195, 196, 197, 198, 199, 200, 201, 202, 203, 204, 205, 206, 207, 208, 209, 210, 211, 212, 213, 214, 215, 216, 217, 218, 219, 220, 221, 222, 223, 224, 225, 226, 227, 228, 229, 230, 231, 232, 233, 234, 235, 236, 237, 238, 239, 240, 241, 242, 243, 244, 245, 246], [(4, 31)], []⟩), (10, ⟨[0, 1, 2, 5, 6, 7, 8, 9, 10, 11, 12, 13, 14, 15, 16, 17, 18, 19, 20, 21, 22, 23, 24, 25, 26, 27, 28, 29, 30, 31, 32, 33, 34, 35, 36, 37, 38, 39, 40, 41, 42, 43, 44, 45, 46, 47, 48, 49, 50, 51, 52, 53, 54, 55, 56, 57, 58, 59, 60, 61, 62, 63, 64, 65, 66, 67, 68, 69, 70, 71, 72, 73, 74, 75, 76, 77, 78, 79, 80, 81, 82, 83, 84, 85, 86, 87, 88, 89, 90, 91, 92, 93, 94, 95, 96, 97, 98, 99, 100, 101, 102, 103, 104, 105, 106, 107, 108, 109, 110, 111, 112, 113, 114, 115, 116, 117, 118, 119, 120, 121, 122, 123, 124, 125, 126, 127, 128, 129, 130, 131, 132, 133, 134, 135, 136, 137, 138, 139, 140, 141, 142, 143, 144, 145, 146, 147, 148, 149, 150, 151, 152, 153, 154, 155, 156, 157, 158, 159, 160, 161, 162, 163, 164, 165, 166, 167, 168, 169, 170, 171, 172, 173, 174, 175, 176, 177, 178, 179, 180, 181, 182, 183, 184, 185, 186, 187, 188, 189, 190, 191, 192, 193, 194, 195, 196, 197, 198, 199, 200, 201, 202, 203, 204, 205, 206, 207, 208, 209, 210, 211, 212, 213, 214, 215, 216, 217, 218, 219, 220, 221, 222, 223, 224, 225, 226, 227, 228, 229, 230, 231, 232, 233, 234, 235, 236, 237, 238, 239, 240, 241, 242, 243, 244, 245, 246], [(4, 31)], [(4, 31)]⟩), (14, ⟨[0, 1, 2, 5, 6, 8, 9, 10, 11, 12, 13, 14, 15, 16, 17, 18, 19, 20, 21, 22, 23, 24, 25, 26, 27, 28, 29, 30, 31, 32, 33, 34, 35, 36, 37, 38, 39, 40, 41, 42, 43, 44, 45, 46, 47, 48, 49, 50, 51, 52, 53, 55, 56, 57, 58, 59, 60, 61, 62, 63, 64, 65, 66, 67, 68, 69, 70, 71, 72, 73, 74, 75, 76, 77, 78, 79, 80, 81, 82, 83, 84, 85, 86, 87, 88, 89, 90, 91, 92, 93, 94, 95, 96, 97, 98, 99, 100, 101, 102, 103, 104, 105, 106, 107, 108, 109, 110, 111, 112, 113, 114, 115, 116, 117, 118, 119, 120, 121, 122, 123, 124, 125, 126, 127, 128, 129, 130, 131, 132, 133, 134, 135, 136, 137, 138, 139, 140, 141, 142, 143, 144, 145, 146, 147, 148, 149, 150, 151, 152, 153, 154, 155, 156, 157, 158, 159, 160, 161, 162, 163, 164, 165, 166, 167, 168, 169, 170, 171, 172, 173, 174, 175, 176, 177, 178, 179, 180, 181, 182, 183, 184, 185, 186, 187, 188, 189, 190, 191, 192, 193, 194, 195, 196, 197, 198, 199, 200, 201, 202, 203, 204, 205, 206, 207, 208, 209, 210, 211, 212, 213, 214, 215, 216, 217, 218, 219, 220, 221, 222, 223, 224, 225, 226, 227, 228, 229, 230, 231, 232, 233, 234, 235, 236, 237, 238, 239, 240, 241, 242, 243, 244, 245, 246], [(4, 31)], []⟩), (37, ⟨[0, 1, 2, 3, 4, 5, 6, 7, 8, 9, 10, 11, 12, 13, 14, 15, 16, 17, 19, 20, 21, 22, 23, 24, 25, 26, 27, 28, 29, 30, 31, 32, 33, 34, 35, 36, 37, 38, 39, 40, 41, 42, 43, 44, 45, 46, 47, 48, 49, 50, 51, 52, 53, 54, 55, 56, 57, 58, 59, 60, 61, 62, 63, 64, 65, 66, 67, 68, 69, 70, 71, 72, 73, 74, 75, 76, 77, 78, 79, 80, 81, 82, 83, 84, 85, 86, 87, 88, 89, 90, 91, 92, 93, 94, 95, 96, 97, 98, 99, 100, 101, 102, 103, 104, 105, 106, 107, 108, 109, 110, 111, 112, 113, 114, 115, 116, 117, 118, 119, 120, 121, 122, 123, 124, 125, 126, 127, 128, 129, 130, 131, 132, 133, 134, 135, 136, 137, 138, 139, 140, 141, 142, 143, 144, 145, 146, 147, 148, 149, 150, 151, 152, 153, 154, 155, 156, 157, 158, 159, 160, 161, 162, 163, 164, 165, 166, 167, 168, 169, 170, 171, 172, 173, 174, 175, 176, 177, 178, 179, 180, 181, 182, 183, 184, 185, 186, 187, 188, 189, 190, 191, 192, 193, 194, 195, 196, 197, 198, 199, 200, 201, 202, 203, 204, 205, 206, 207, 208, 209, 210, 211, 212, 213, 214, 215, 216, 217, 218, 219, 220, 221, 222, 223, 224, 225, 228, 229, 230, 231, 232, 233, 234, 235, 236, 237, 238, 239, 240, 241, 242, 243, 244, 245, 246], [(18, 31)], []⟩), (23, ⟨[0, 1, 2, 5, 6, 8, 9, 10, 12, 13, 14, 15, 16, 17, 18, 19, 20, 21, 22, 23, 24, 25, 26, 27, 28, 29, 30, 31, 32, 33, 34, 35, 36, 37, 38, 39, 40, 41, 42, 43, 44, 45, 46, 47, 48, 49, 50, 51, 52, 53, 54, 55, 56, 57, 58, 59, 60, 61, 62, 63, 64, 65, 66, 67, 68, 69, 70, 71, 72, 73, 74, 75, 76, 77, 78, 79, 80, 81, 82, 83, 84, 85, 86, 87, 88, 89, 90, 91, 92, 93, 94, 95, 96, 97, 98, 99, 100, 101, 102, 103, 104, 105, 106, 107, 108, 109, 110, 111, 112, 113, 114, 115, 116, 117, 118, 119, 120, 121, 122, 123, 124, 125, 126, 127, 128, 129, 130, 131, 132, 134, 135, 136, 137, 138, 139, 140, 141, 142, 143, 144, 145, 146, 147, 148, 149, 150, 151, 152, 153, 154, 155, 156, 157, 158, 159, 160, 161, 162, 163, 164, 165, 166, 167, 168, 169, 170, 171, 172, 173, 174, 175, 176, 177, 178, 179, 180, 181, 182, 183, 184, 185, 186, 187, 188, 189, 190, 191, 192, 193, 194, 195, 196, 197, 198, 199, 200, 201, 202, 203, 204, 205, 206, 207, 208, 209, 210, 211, 212, 213, 214, 215, 216, 217, 218, 219, 220, 221, 222, 223, 224, 225, 226, 227, 228, 229, 230, 231, 232, 233, 234, 235, 236, 237, 238, 239, 240, 241, 242, 243, 244, 245, 246], [(4, 31)], []⟩), (31, ⟨[0, 1, 2, 5, 6, 7, 8, 9, 10, 12, 13, 14, 15, 16, 17, 18, 19, 20, 21, 22, 23, 24, 25, 26, 27, 28, 29, 30, 31, 32, 33, 34, 35, 36, 37, 38, 39, 40, 41, 42, 43, 44, 45, 46, 47, 48, 49, 50, 51, 52, 53, 54, 55, 56, 57, 58, 59, 60, 61, 62, 63, 64, 65, 66, 67, 68, 69, 70, 71, 72, 73, 74, 75, 76, 77, 78, 79, 80, 81, 82, 83, 84, 85, 86, 87, 88, 89, 90, 91, 92, 93, 94, 95, 96, 97, 98, 99, 100, 101, 102, 103, 104, 105, 106, 107, 108, 109, 110, 111, 112, 113, 114, 115, 116, 117, 118, 119, 120, 121, 122, 123, 124, 125, 126, 127, 128, 129, 130, 131, 132, 133, 134, 135, 136, 137, 138, 139, 140, 141, 142, 143, 144, 145, 146, 147, 148, 149, 150, 151, 152, 153, 154, 155, 156, 157, 158, 159, 160, 161, 162, 163, 164, 165, 166, 167, 168, 169, 170, 171, 172, 173, 174, 175, 176, 177, 178, 179, 180, 181, 182, 183, 184, 185, 186, 187, 188, 189, 190, 191, 192, 193, 194, 195, 196, 197, 198, 199, 200, 201, 202, 203, 204, 205, 206, 207, 208, 209, 210, 211, 212, 214, 215, 216, 217, 218, 219, 220, 221, 222, 223, 224, 225, 226, 227, 228, 229, 230, 231, 232, 233, 234, 235, 236, 237, 238, 239, 240, 241, 242, 243, 244, 245, 246], [(4, 31)], []⟩)], N, [], true⟩
noncomputable def impl_sha256Of.f (N : Nat) (a : List PV) : Option Res := run Tryz.prog (impl_sha256Of.E N) Tryz.f81 [(9, .ro)] [(9, .val)] a
noncomputable def impl_sha256Of.l0 (N : Nat) (n : Nat) (x0 : ByteArray) (y0 : PV) (y1 : List PV) : Option Res := loopAt Tryz.prog (impl_sha256Of.E N) Tryz.f81 [(9, .val)] [1, 1, 1, 0, 0] [] n ⟨mkSlots 247 [(0, .sc (.string x0)), (3, .ptr 0 []), (4, .ref 1 [])], ohOf [.box 106 (.arr 106 .u32 y0), .row 31 (PV.list y1)]⟩
noncomputable def impl_sha256Of.l1 (N : Nat) (n : Nat) (x5 : Int) (x6 : Int) (y0 : PV) (y1 : List PV) : Option Res := loopAt Tryz.prog (impl_sha256Of.E N) Tryz.f81 [(9, .val)] [1, 1, 1, 1, 1, 0, 1, 0] [] n ⟨mkSlots 247 [(3, .ptr 0 []), (4, .ref 1 []), (5, .sc (.int .u64 x5)), (6, .sc (.int .i64 x6))], ohOf [.box 106 (.arr 106 .u32 y0), .row 31 (PV.list y1)]⟩
noncomputable def impl_sha256Of.l2 (N : Nat) (n : Nat) (x4 : List PV) (y0 : PV) : Option Res := loopAt Tryz.prog (impl_sha256Of.E N) Tryz.f81 [(9, .val)] [1, 1, 1, 1, 1, 1, 0, 0] [] n ⟨mkSlots 247 [(3, .ptr 0 []), (4, .ro 31 (PV.list x4))], ohOf [.box 106 (.arr 106 .u32 y0)]⟩
noncomputable def impl_sha256Of.l3 (N : Nat) (m0 : Nat) (n : Nat) (x4 : List PV) (x54 : Int) (y0 : PV) (y1 : PV) : Option Res := loopAt Tryz.prog (impl_sha256Of.E N) Tryz.f81 [(9, .val)] [1, 1, 1, 1, 1, 1, 0, 0, 0, 1, 0, 0, 1, 0, 1, 0] [m0] n ⟨mkSlots 247 [(3, .ptr 0 []), (4, .ro 31 (PV.list x4)), (7, .ptr 1 []), (54, .sc (.int .i64 x54))], ohOf [.box 106 (.arr 106 .u32 y0), .box 107 (.arr 107 .u32 y1)]⟩
noncomputable def impl_sha256Of.l4 (N : Nat) (n : Nat) (x226 : PV) (x227 : Int) (y0 : List PV) : Option Res := loopAt Tryz.prog (impl_sha256Of.E N) Tryz.f81 [(9, .val)] [1, 1, 1, 1, 1, 1, 1, 1, 0, 1, 0] [] n ⟨mkSlots 247 [(18, .ref 0 []), (226, .arr 106 .u32 x226), (227, .sc (.int .i64 x227))], ohOf [.row 31 (PV.list y0)]⟩
noncomputable def impl_sha256Of.l5 (N : Nat) (m0 : Nat) (n : Nat) (x4 : List PV) (x133 : Int) (y0 : PV) (y1 : PV) (y2 : PV) : Option Res := loopAt Tryz.prog (impl_sha256Of.E N) Tryz.f81 [(9, .val)] [1, 1, 1, 1, 1, 1, 0, 0, 0, 1, 0, 0, 1, 1, 1, 0, 1, 0] [m0] n ⟨mkSlots 247 [(3, .ptr 0 []), (4, .ro 31 (PV.list x4)), (7, .ptr 1 []), (11, .ptr 2 []), (133, .sc (.int .i64 x133))], ohOf [.box 106 (.arr 106 .u32 y0), .box 107 (.arr 107 .u32 y1), .box 106 (.arr 106 .u32 y2)]⟩
noncomputable def impl_sha256Of.l6 (N : Nat) (m0 : Nat) (n : Nat) (x4 : List PV) (x213 : Int) (y0 : PV) (y1 : PV) : Option Res := loopAt Tryz.prog (impl_sha256Of.E N) Tryz.f81 [(9, .val)] [1, 1, 1, 1, 1, 1, 0, 0, 0, 1, 0, 0, 1, 1, 1, 1, 1, 0] [m0] n ⟨mkSlots 247 [(3, .ptr 0 []), (4, .ro 31 (PV.list x4)), (11, .ptr 1 []), (213, .sc (.int .i64 x213))], ohOf [.box 106 (.arr 106 .u32 y0), .box 106 (.arr 106 .u32 y1)]⟩
theorem impl_sha256Of.f_eq (N : Nat) (a0 : PV) : impl_sha256Of.f N [a0] = if a0.toStr.size ≤ 9223372036854775807 then (if (bytesL a0.toStr).length + [(PV.sc (.int .u8 128))].length ≤ 140737488355328 then (impl_sha256Of.l0 N N a0.toStr (PV.agg [(PV.sc (.int .u32 1779033703)), (PV.sc (.int .u32 3144134277)), (PV.sc (.int .u32 1013904242)), (PV.sc (.int .u32 2773480762)), (PV.sc (.int .u32 1359893119)), (PV.sc (.int .u32 2600822924)), (PV.sc (.int .u32 528734635)), (PV.sc (.int .u32 1541459225))]) ((bytesL a0.toStr) ++ [(PV.sc (.int .u8 128))])) else none) else none := by kernel_rfl
theorem impl_sha256Of.l0_eq (N : Nat) (n : Nat) (x0 : ByteArray) (y0 : PV) (y1 : List PV) : impl_sha256Of.l0 N (n + 1) x0 y0 y1 = if 64 = 0 then none else (if (!decide ((Int.tmod (y1.length : Int) 64) = 56)) = true then (if y1.length + [(PV.sc (.int .u8 0))].length ≤ 140737488355328 then (impl_sha256Of.l0 N n x0 y0 (y1 ++ [(PV.sc (.int .u8 0))])) else none) else (impl_sha256Of.l1 N N (IntKind.u64.wrap ((IntKind.u64.wrap (x0.size : Int)) * 8)) 56 y0 y1)) := by kernel_rfl
theorem impl_sha256Of.l1_eq (N : Nat) (n : Nat) (x5 : Int) (x6 : Int) (y0 : PV) (y1 : List PV) : impl_sha256Of.l1 N (n + 1) x5 x6 y0 y1 = if decide (0 ≤ x6) = true then (if 0 ≤ x6 then (if y1.length + [(PV.sc (.int .u8 (IntKind.u8.wrap (shrI .u64 x5 x6))))].length ≤ 140737488355328 then (impl_sha256Of.l1 N n x5 (IntKind.i64.wrap (x6 - 8)) y0 (y1 ++ [(PV.sc (.int .u8 (IntKind.u8.wrap (shrI .u64 x5 x6))))])) else none) else none) else (impl_sha256Of.l2 N N y1 y0) := by kernel_rfl
theorem impl_sha256Of.l2_eq (N : Nat) (n : Nat) (x4 : List PV) (y0 : PV) : impl_sha256Of.l2 N (n + 1) x4 y0 = if decide (0 < (x4.length : Int)) = true then (impl_sha256Of.l3 N n N x4 0 y0 (PV.agg (List.replicate 64 (.sc (.int .u32 0))))) else (impl_sha256Of.l4 N N y0 0 []) := by kernel_rfl
theorem impl_sha256Of.l3_eq (N : Nat) (m0 : Nat) (n : Nat) (x4 : List PV) (x54 : Int) (y0 : PV) (y1 : PV) : impl_sha256Of.l3 N m0 (n + 1) x4 x54 y0 y1 = if decide (x54 < 64) = true then (if decide (x54 < 16) = true then (if 0 ≤ (IntKind.i64.wrap (4 * x54)) then (if (IntKind.i64.wrap (4 * x54)) < (x4.length : Int) then (if 0 ≤ 24 then (if 0 ≤ (IntKind.i64.wrap ((IntKind.i64.wrap (4 * x54)) + 1)) then (if (IntKind.i64.wrap ((IntKind.i64.wrap (4 * x54)) + 1)) < (x4.length : Int) then (if 0 ≤ 16 then (if 0 ≤ (IntKind.i64.wrap ((IntKind.i64.wrap (4 * x54)) + 2)) then (if (IntKind.i64.wrap ((IntKind.i64.wrap (4 * x54)) + 2)) < (x4.length : Int) then (if 0 ≤ 8 then (if 0 ≤ (IntKind.i64.wrap ((IntKind.i64.wrap (4 * x54)) + 3)) then (if (IntKind.i64.wrap ((IntKind.i64.wrap (4 * x54)) + 3)) < (x4.length : Int) then (if 0 ≤ x54 then (if x54 < ((64 : Nat) : Int) then (impl_sha256Of.l3 N m0 n x4 (IntKind.i64.wrap (x54 + 1)) y0 (PV.agg (y1.parts.set x54.toNat (PV.sc (.int .u32 (bOr .u32 (bOr .u32 (bOr .u32 (shlI .u32 (IntKind.u32.wrap (((PV.list x4).elem ((IntKind.i64.wrap (4 * x54)).toNat)).toInt)) 24) (shlI .u32 (IntKind.u32.wrap (((PV.list x4).elem ((IntKind.i64.wrap ((IntKind.i64.wrap (4 * x54)) + 1)).toNat)).toInt)) 16)) (shlI .u32 (IntKind.u32.wrap (((PV.list x4).elem ((IntKind.i64.wrap ((IntKind.i64.wrap (4 * x54)) + 2)).toNat)).toInt)) 8)) (IntKind.u32.wrap (((PV.list x4).elem ((IntKind.i64.wrap ((IntKind.i64.wrap (4 * x54)) + 3)).toNat)).toInt)))))))) else none) else none) else none) else none) else none) else none) else none) else none) else none) else none) else none) else none) else none) else (if 0 ≤ (IntKind.i64.wrap (x54 - 15)) then (if (IntKind.i64.wrap (x54 - 15)) < ((64 : Nat) : Int) then (if 0 ≤ (IntKind.i64.wrap (x54 - 2)) then (if (IntKind.i64.wrap (x54 - 2)) < ((64 : Nat) : Int) then (if 0 ≤ (IntKind.i64.wrap (x54 - 16)) then (if (IntKind.i64.wrap (x54 - 16)) < ((64 : Nat) : Int) then (if 0 ≤ (IntKind.i64.wrap (x54 - 7)) then (if (IntKind.i64.wrap (x54 - 7)) < ((64 : Nat) : Int) then ((impl_rolled.f N [(PV.sc (.int .u32 ((y1.fld ((IntKind.i64.wrap (x54 - 15)).toNat)).toInt))), (PV.sc (.int .i64 7))]).bind fun t1 => (impl_rolled.f N [(PV.sc (.int .u32 ((y1.fld ((IntKind.i64.wrap (x54 - 15)).toNat)).toInt))), (PV.sc (.int .i64 18))]).bind fun t2 => if 0 ≤ 3 then ((impl_rolled.f N [(PV.sc (.int .u32 ((y1.fld ((IntKind.i64.wrap (x54 - 2)).toNat)).toInt))), (PV.sc (.int .i64 17))]).bind fun t3 => (impl_rolled.f N [(PV.sc (.int .u32 ((y1.fld ((IntKind.i64.wrap (x54 - 2)).toNat)).toInt))), (PV.sc (.int .i64 19))]).bind fun t4 => if 0 ≤ 10 then (if 0 ≤ x54 then (if x54 < ((64 : Nat) : Int) then (impl_sha256Of.l3 N m0 n x4 (IntKind.i64.wrap (x54 + 1)) y0 (PV.agg (y1.parts.set x54.toNat (PV.sc (.int .u32 (IntKind.u32.wrap ((IntKind.u32.wrap ((IntKind.u32.wrap (((y1.fld ((IntKind.i64.wrap (x54 - 16)).toNat)).toInt) + ((y1.fld ((IntKind.i64.wrap (x54 - 7)).toNat)).toInt))) + (bXor .u32 (bXor .u32 ((t1.headD default).toInt) ((t2.headD default).toInt)) (shrI .u32 ((y1.fld ((IntKind.i64.wrap (x54 - 15)).toNat)).toInt) 3)))) + (bXor .u32 (bXor .u32 ((t3.headD default).toInt) ((t4.headD default).toInt)) (shrI .u32 ((y1.fld ((IntKind.i64.wrap (x54 - 2)).toNat)).toInt) 10))))))))) else none) else none) else none) else none) else none) else none) else none) else none) else none) else none) else none) else none)) else (impl_sha256Of.l5 N m0 N x4 0 y0 y1 y0) := by kernel_rfl
theorem impl_sha256Of.l4_eq (N : Nat) (n : Nat) (x226 : PV) (x227 : Int) (y0 : List PV) : impl_sha256Of.l4 N (n + 1) x226 x227 y0 = if decide (x227 < 8) = true then (if 0 ≤ x227 then (if x227 < ((8 : Nat) : Int) then (if 0 ≤ 24 then (if 0 ≤ 16 then (if 0 ≤ 8 then (if y0.length + [(PV.sc (.int .u8 (IntKind.u8.wrap (shrI .u32 ((x226.fld x227.toNat).toInt) 24)))), (PV.sc (.int .u8 (IntKind.u8.wrap (shrI .u32 ((x226.fld x227.toNat).toInt) 16)))), (PV.sc (.int .u8 (IntKind.u8.wrap (shrI .u32 ((x226.fld x227.toNat).toInt) 8)))), (PV.sc (.int .u8 (IntKind.u8.wrap ((x226.fld x227.toNat).toInt))))].length ≤ 140737488355328 then (impl_sha256Of.l4 N n x226 (IntKind.i64.wrap (x227 + 1)) (y0 ++ [(PV.sc (.int .u8 (IntKind.u8.wrap (shrI .u32 ((x226.fld x227.toNat).toInt) 24)))), (PV.sc (.int .u8 (IntKind.u8.wrap (shrI .u32 ((x226.fld x227.toNat).toInt) 16)))), (PV.sc (.int .u8 (IntKind.u8.wrap (shrI .u32 ((x226.fld x227.toNat).toInt) 8)))), (PV.sc (.int .u8 (IntKind.u8.wrap ((x226.fld x227.toNat).toInt))))])) else none) else none) else none) else none) else none) else none) else (some [(PV.sc (.string (bytesOfL y0)))]) := by kernel_rfl
theorem impl_sha256Of.l5_eq (N : Nat) (m0 : Nat) (n : Nat) (x4 : List PV) (x133 : Int) (y0 : PV) (y1 : PV) (y2 : PV) : impl_sha256Of.l5 N m0 (n + 1) x4 x133 y0 y1 y2 = if decide (x133 < 64) = true then (if 0 ≤ 4 then (if 4 < ((8 : Nat) : Int) then (if 0 ≤ 0 then (if 0 < ((8 : Nat) : Int) then (if 0 ≤ 7 then (if 7 < ((8 : Nat) : Int) then ((impl_rolled.f N [(PV.sc (.int .u32 ((y2.fld 4).toInt))), (PV.sc (.int .i64 6))]).bind fun t5 => (impl_rolled.f N [(PV.sc (.int .u32 ((y2.fld 4).toInt))), (PV.sc (.int .i64 11))]).bind fun t6 => (impl_rolled.f N [(PV.sc (.int .u32 ((y2.fld 4).toInt))), (PV.sc (.int .i64 25))]).bind fun t7 => if 0 ≤ 5 then (if 5 < ((8 : Nat) : Int) then (if 0 ≤ 6 then (if 6 < ((8 : Nat) : Int) then (if 0 ≤ x133 then (if x133 < ((64 : Nat) : Int) then (if 0 ≤ x133 then (if x133 < ((64 : Nat) : Int) then ((impl_rolled.f N [(PV.sc (.int .u32 ((y2.fld 0).toInt))), (PV.sc (.int .i64 2))]).bind fun t8 => (impl_rolled.f N [(PV.sc (.int .u32 ((y2.fld 0).toInt))), (PV.sc (.int .i64 13))]).bind fun t9 => (impl_rolled.f N [(PV.sc (.int .u32 ((y2.fld 0).toInt))), (PV.sc (.int .i64 22))]).bind fun t10 => if 0 ≤ 1 then (if 1 < ((8 : Nat) : Int) then (if 0 ≤ 2 then (if 2 < ((8 : Nat) : Int) then (if 0 ≤ 1 then (if 1 < ((8 : Nat) : Int) then (if 0 ≤ 2 then (if 2 < ((8 : Nat) : Int) then (if 0 ≤ 1 then (if 1 < ((8 : Nat) : Int) then (if 0 ≤ 2 then (if 2 < ((8 : Nat) : Int) then (if 0 ≤ 3 then (if 3 < ((8 : Nat) : Int) then (if 0 ≤ 5 then (if 5 < ((8 : Nat) : Int) then (if 0 ≤ 6 then (if 6 < ((8 : Nat) : Int) then (impl_sha256Of.l5 N m0 n x4 (IntKind.i64.wrap (x133 + 1)) y0 y1 (PV.agg [(PV.sc (.int .u32 (IntKind.u32.wrap ((IntKind.u32.wrap ((IntKind.u32.wrap ((IntKind.u32.wrap ((IntKind.u32.wrap (((y2.fld 7).toInt) + (bXor .u32 (bXor .u32 ((t5.headD default).toInt) ((t6.headD default).toInt)) ((t7.headD default).toInt)))) + (bXor .u32 (bAnd .u32 ((y2.fld 4).toInt) ((y2.fld 5).toInt)) (bAnd .u32 (bXor .u32 4294967295 ((y2.fld 4).toInt)) ((y2.fld 6).toInt))))) + ((shaStepP.fld x133.toNat).toInt))) + ((y1.fld x133.toNat).toInt))) + (IntKind.u32.wrap ((bXor .u32 (bXor .u32 ((t8.headD default).toInt) ((t9.headD default).toInt)) ((t10.headD default).toInt)) + (bXor .u32 (bXor .u32 (bAnd .u32 ((y2.fld 0).toInt) ((y2.fld 1).toInt)) (bAnd .u32 ((y2.fld 0).toInt) ((y2.fld 2).toInt))) (bAnd .u32 ((y2.fld 1).toInt) ((y2.fld 2).toInt))))))))), (PV.sc (.int .u32 ((y2.fld 0).toInt))), (PV.sc (.int .u32 ((y2.fld 1).toInt))), (PV.sc (.int .u32 ((y2.fld 2).toInt))), (PV.sc (.int .u32 (IntKind.u32.wrap (((y2.fld 3).toInt) + (IntKind.u32.wrap ((IntKind.u32.wrap ((IntKind.u32.wrap ((IntKind.u32.wrap (((y2.fld 7).toInt) + (bXor .u32 (bXor .u32 ((t5.headD default).toInt) ((t6.headD default).toInt)) ((t7.headD default).toInt)))) + (bXor .u32 (bAnd .u32 ((y2.fld 4).toInt) ((y2.fld 5).toInt)) (bAnd .u32 (bXor .u32 4294967295 ((y2.fld 4).toInt)) ((y2.fld 6).toInt))))) + ((shaStepP.fld x133.toNat).toInt))) + ((y1.fld x133.toNat).toInt))))))), (PV.sc (.int .u32 ((y2.fld 4).toInt))), (PV.sc (.int .u32 ((y2.fld 5).toInt))), (PV.sc (.int .u32 ((y2.fld 6).toInt)))])) else none) else none) else none) else none) else none) else none) else none) else none) else none) else none) else none) else none) else none) else none) else none) else none) else none) else none) else none) else none) else none) else none) else none) else none) else none) else none) else none) else none) else none) else none) else none) else none) else (impl_sha256Of.l6 N m0 N x4 0 y0 y2) := by kernel_rfl
theorem impl_sha256Of.l6_eq (N : Nat) (m0 : Nat) (n : Nat) (x4 : List PV) (x213 : Int) (y0 : PV) (y1 : PV) : impl_sha256Of.l6 N m0 (n + 1) x4 x213 y0 y1 = if decide (x213 < 8) = true then (if 0 ≤ x213 then (if x213 < ((8 : Nat) : Int) then (if 0 ≤ x213 then (if x213 < ((8 : Nat) : Int) then (if 0 ≤ x213 then (if x213 < ((8 : Nat) : Int) then (impl_sha256Of.l6 N m0 n x4 (IntKind.i64.wrap (x213 + 1)) (PV.agg (y0.parts.set x213.toNat (PV.sc (.int .u32 (IntKind.u32.wrap (((y0.fld x213.toNat).toInt) + ((y1.fld x213.toNat).toInt))))))) y1) else none) else none) else none) else none) else none) else none) else (if 0 ≤ 64 then (if 64 ≤ (x4.length : Int) then (impl_sha256Of.l2 N m0 ((x4.drop 64).take (x4.length - 64)) y0) else none) else none) := by kernel_rfl
noncomputable def impl_sha256Of.S (N : Nat) : ASpec := ⟨[(9, .ro)], [(9, .val)], impl_sha256Of.f N⟩
theorem impl_sha256Of.ok (N : Nat) : FnOk Tryz.prog 81 (impl_sha256Of.S N) := fnOk_ofz (E := impl_sha256Of.E N) mix Tryz.func81 (by kernel_rfl) (by kernel_rfl) (by kernel_rfl) (lk_ok (all_cons (impl_rolled.ok N) all_nil)) (by kernel_rfl) (fun _ _ h => h)

/-! ### impl_hmacOf: function 65, loop.example/medlar/impl.hmacOf -/
noncomputable def impl_hmacOf.E (N : Nat) : Env := ⟨lk [(81, impl_sha256Of.S N)], nzk [(7, ⟨[0, 2, 3, 4, 7, 8, 9, 10, 11, 12, 13, 14, 15, 16, 17, 18, 19, 20, 21, 24, 25, 26, 27, 28, 29, 30, 31, 32, 33, 34, 35, 36, 37, 38, 39, 40, 41, 42, 43, 44, 45, 46, 47], [], []⟩)], N, [], false⟩
noncomputable def impl_hmacOf.f (N : Nat) (a : List PV) : Option Res := run Tryz.prog (impl_hmacOf.E N) Tryz.f65 [(9, .ro), (9, .ro)] [(9, .val)] a
noncomputable def impl_hmacOf.l0 (N : Nat) (n : Nat) (x1 : ByteArray) (x22 : Int) (x23 : Int) (y0 : List PV) (y1 : List PV) : Option Res := loopAt Tryz.prog (impl_hmacOf.E N) Tryz.f65 [(9, .val)] [1, 1, 1, 1, 1, 0, 1, 0] [] n ⟨mkSlots 48 [(1, .sc (.string x1)), (5, .ref 0 []), (6, .ref 1 []), (22, .sc (.int .i64 x22)), (23, .sc (.int .i64 x23))], ohOf [.row 31 (PV.list y0), .row 31 (PV.list y1)]⟩
theorem impl_hmacOf.f_eq (N : Nat) (a0 : PV) (a1 : PV) : impl_hmacOf.f N [a0, a1] = if decide (64 < (a0.toStr.size : Int)) = true then ((impl_sha256Of.f N [(PV.sc (.string a0.toStr))]).bind fun t1 => if 0 ≤ 64 then (if 64 ≤ 64 then (if 64 ≤ 281474976710656 then (if 0 ≤ 64 then (if 64 ≤ 64 then (if 64 ≤ 281474976710656 then (impl_hmacOf.l0 N N a1.toStr (((bytesL ((t1.headD default).toStr)).take (List.replicate 64 (PV.sc (.int .u8 0))).length ++ (List.replicate 64 (PV.sc (.int .u8 0))).drop ((t1.headD default).toStr).size).length : Int) 0 ((bytesL ((t1.headD default).toStr)).take (List.replicate 64 (PV.sc (.int .u8 0))).length ++ (List.replicate 64 (PV.sc (.int .u8 0))).drop ((t1.headD default).toStr).size) ((bytesL ((t1.headD default).toStr)).take (List.replicate 64 (PV.sc (.int .u8 0))).length ++ (List.replicate 64 (PV.sc (.int .u8 0))).drop ((t1.headD default).toStr).size)) else none) else none) else none) else none) else none) else none) else (if 0 ≤ 64 then (if 64 ≤ 64 then (if 64 ≤ 281474976710656 then (if 0 ≤ 64 then (if 64 ≤ 64 then (if 64 ≤ 281474976710656 then (impl_hmacOf.l0 N N a1.toStr (((bytesL a0.toStr).take (List.replicate 64 (PV.sc (.int .u8 0))).length ++ (List.replicate 64 (PV.sc (.int .u8 0))).drop a0.toStr.size).length : Int) 0 ((bytesL a0.toStr).take (List.replicate 64 (PV.sc (.int .u8 0))).length ++ (List.replicate 64 (PV.sc (.int .u8 0))).drop a0.toStr.size) ((bytesL a0.toStr).take (List.replicate 64 (PV.sc (.int .u8 0))).length ++ (List.replicate 64 (PV.sc (.int .u8 0))).drop a0.toStr.size)) else none) else none) else none) else none) else none) else none) := by kernel_rfl
theorem impl_hmacOf.l0_eq (N : Nat) (n : Nat) (x1 : ByteArray) (x22 : Int) (x23 : Int) (y0 : List PV) (y1 : List PV) : impl_hmacOf.l0 N (n + 1) x1 x22 x23 y0 y1 = if decide (x23 < x22) = true then (if 0 ≤ x23 then (if x23 < (y0.length : Int) then (if 0 ≤ x23 then (if x23 < (y0.length : Int) then (if 0 ≤ x23 then (if x23 < (y1.length : Int) then (if 0 ≤ x23 then (if x23 < (y1.length : Int) then (impl_hmacOf.l0 N n x1 x22 (IntKind.i64.wrap (x23 + 1)) (y0.set x23.toNat (PV.sc (.int .u8 (bXor .u8 (((PV.list y0).elem x23.toNat).toInt) 54)))) (y1.set x23.toNat (PV.sc (.int .u8 (bXor .u8 (((PV.list y1).elem x23.toNat).toInt) 92))))) else none) else none) else none) else none) else none) else none) else none) else none) else (if (bytesOfL y0).size + x1.size ≤ 9223372036854775807 then ((impl_sha256Of.f N [(PV.sc (.string ((bytesOfL y0) ++ x1)))]).bind fun t2 => if (bytesOfL y1).size + ((t2.headD default).toStr).size ≤ 9223372036854775807 then ((impl_sha256Of.f N [(PV.sc (.string ((bytesOfL y1) ++ ((t2.headD default).toStr))))]).bind fun t3 => some [(PV.sc (.string ((t3.headD default).toStr)))]) else none) else none) := by kernel_rfl
noncomputable def impl_hmacOf.S (N : Nat) : ASpec := ⟨[(9, .ro), (9, .ro)], [(9, .val)], impl_hmacOf.f N⟩
theorem impl_hmacOf.ok (N : Nat) : FnOk Tryz.prog 65 (impl_hmacOf.S N) := fnOk_of (E := impl_hmacOf.E N) mix Tryz.func65 (by kernel_rfl) (by kernel_rfl) (by kernel_rfl) (lk_ok (all_cons (impl_sha256Of.ok N) all_nil)) (by kernel_rfl) (fun _ _ h => h)

/-! ### impl_SealOf: function 37, loop.example/medlar/impl.SealOf -/
noncomputable def impl_SealOf.E (N : Nat) : Env := ⟨lk [(50, impl_keyOk.S N), (65, impl_hmacOf.S N), (64, impl_hexOf.S N)], nzk [], N, [], false⟩
noncomputable def impl_SealOf.f (N : Nat) (a : List PV) : Option Res := run Tryz.prog (impl_SealOf.E N) Tryz.f37 [(9, .ro), (9, .ro)] [(9, .val)] a
theorem impl_SealOf.f_eq (N : Nat) (a0 : PV) (a1 : PV) : impl_SealOf.f N [a0, a1] = (impl_keyOk.f N [(PV.sc (.string a0.toStr))]).bind fun t1 => if (!((t1.headD default).toBool)) = true then (some [(PV.sc (.string (ByteArray.mk #[])))]) else ((impl_hmacOf.f N [(PV.sc (.string a0.toStr)), (PV.sc (.string a1.toStr))]).bind fun t2 => (impl_hexOf.f N [(PV.sc (.string ((t2.headD default).toStr)))]).bind fun t3 => some [(PV.sc (.string ((t3.headD default).toStr)))]) := by kernel_rfl
noncomputable def impl_SealOf.S (N : Nat) : ASpec := ⟨[(9, .ro), (9, .ro)], [(9, .val)], impl_SealOf.f N⟩
theorem impl_SealOf.ok (N : Nat) : FnOk Tryz.prog 37 (impl_SealOf.S N) := fnOk_of (E := impl_SealOf.E N) mix Tryz.func37 (by kernel_rfl) (by kernel_rfl) (by kernel_rfl) (lk_ok (all_cons (impl_keyOk.ok N) (all_cons (impl_hmacOf.ok N) (all_cons (impl_hexOf.ok N) all_nil)))) (by kernel_rfl) (fun _ _ h => h)

/-! ### impl_TurnOf: function 54, loop.example/medlar/impl.TurnOf -/
noncomputable def impl_TurnOf.E (N : Nat) : Env := ⟨lk [(35, impl_RingOk.S N), (56, impl_Ring_with.S N), (36, impl_turnText.S N), (37, impl_SealOf.S N)], nzk [], N, [], false⟩
noncomputable def impl_TurnOf.f (N : Nat) (a : List PV) : Option Res := run Tryz.prog (impl_TurnOf.E N) Tryz.f54 [(25, .ro), (9, .ro), (3, .ro)] [(45, .val), (4, .val)] a
theorem impl_TurnOf.f_eq (N : Nat) (a0 : PV) (a1 : PV) (a2 : PV) : impl_TurnOf.f N [a0, a1, a2] = (impl_RingOk.f N [(PV.agg [a0.fld 0, a0.fld 1])]).bind fun t1 => if (!((t1.headD default).toBool)) = false then ((impl_Ring_with.f N [(PV.agg [a0.fld 0, a0.fld 1]), (PV.sc (.string a1.toStr)), (PV.sc (.int .i64 a2.toInt))]).bind fun t2 => (impl_RingOk.f N [(PV.agg [(t2.headD default).fld 0, (t2.headD default).fld 1])]).bind fun t3 => if (!((t3.headD default).toBool)) = true then (some [(PV.agg [(PV.sc (.string (ByteArray.mk #[]))), (PV.sc (.int .i64 0)), (PV.sc (.string (ByteArray.mk #[])))]), (PV.sc (.bool false))]) else (if 0 ≤ (IntKind.i64.wrap ((((a0.fld 0).items).length : Int) - 1)) then (if (IntKind.i64.wrap ((((a0.fld 0).items).length : Int) - 1)) < (((a0.fld 0).items).length : Int) then ((impl_turnText.f N [(PV.sc (.string a1.toStr)), (PV.sc (.int .i64 a2.toInt))]).bind fun t4 => (impl_SealOf.f N [(PV.sc (.string (((a0.fld 0).elem ((IntKind.i64.wrap ((((a0.fld 0).items).length : Int) - 1)).toNat)).toStr))), (PV.sc (.string ((t4.headD default).toStr)))]).bind fun t5 => some [(PV.agg [(PV.sc (.string a1.toStr)), (PV.sc (.int .i64 a2.toInt)), (PV.sc (.string ((t5.headD default).toStr)))]), (PV.sc (.bool true))]) else none) else none)) else (some [(PV.agg [(PV.sc (.string (ByteArray.mk #[]))), (PV.sc (.int .i64 0)), (PV.sc (.string (ByteArray.mk #[])))]), (PV.sc (.bool false))]) := by kernel_rfl
noncomputable def impl_TurnOf.S (N : Nat) : ASpec := ⟨[(25, .ro), (9, .ro), (3, .ro)], [(45, .val), (4, .val)], impl_TurnOf.f N⟩
theorem impl_TurnOf.ok (N : Nat) : FnOk Tryz.prog 54 (impl_TurnOf.S N) := fnOk_of (E := impl_TurnOf.E N) mix Tryz.func54 (by kernel_rfl) (by kernel_rfl) (by kernel_rfl) (lk_ok (all_cons (impl_RingOk.ok N) (all_cons (impl_Ring_with.ok N) (all_cons (impl_turnText.ok N) (all_cons (impl_SealOf.ok N) all_nil))))) (by kernel_rfl) (fun _ _ h => h)

/-! ### impl_RingTake: function 25, loop.example/medlar/impl.RingTake -/
noncomputable def impl_RingTake.E (N : Nat) : Env := ⟨lk [(35, impl_RingOk.S N), (54, impl_TurnOf.S N), (55, impl_cloneRing.S N), (56, impl_Ring_with.S N)], nzk [], N, [], false⟩
noncomputable def impl_RingTake.f (N : Nat) (a : List PV) : Option Res := run Tryz.prog (impl_RingTake.E N) Tryz.f25 [(25, .ro), (45, .ro)] [(25, .own), (4, .val)] a
theorem impl_RingTake.f_eq (N : Nat) (a0 : PV) (a1 : PV) : impl_RingTake.f N [a0, a1] = (impl_RingOk.f N [(PV.agg [a0.fld 0, a0.fld 1])]).bind fun t1 => if (!((t1.headD default).toBool)) = true then (some [(PV.agg [(PV.list []), (PV.list [])]), (PV.sc (.bool false))]) else ((impl_TurnOf.f N [(PV.agg [a0.fld 0, a0.fld 1]), (PV.sc (.string ((a1.fld 0).toStr))), (PV.sc (.int .i64 ((a1.fld 1).toInt)))]).bind fun t2 => if (!((t2.tail.headD default).toBool)) = false then (if (!(decide ((((t2.headD default).fld 0).toStr).toList = ((a1.fld 0).toStr).toList) && (decide ((((t2.headD default).fld 1).toInt) = ((a1.fld 1).toInt)) && (decide ((((t2.headD default).fld 2).toStr).toList = ((a1.fld 2).toStr).toList) && true)))) = true then ((impl_cloneRing.f N [(PV.agg [a0.fld 0, a0.fld 1])]).bind fun t3 => some [(PV.agg [(t3.headD default).fld 0, (t3.headD default).fld 1]), (PV.sc (.bool false))]) else ((impl_Ring_with.f N [(PV.agg [a0.fld 0, a0.fld 1]), (PV.sc (.string ((a1.fld 0).toStr))), (PV.sc (.int .i64 ((a1.fld 1).toInt)))]).bind fun t4 => some [(PV.agg [(t4.headD default).fld 0, (t4.headD default).fld 1]), (PV.sc (.bool true))])) else ((impl_cloneRing.f N [(PV.agg [a0.fld 0, a0.fld 1])]).bind fun t5 => some [(PV.agg [(t5.headD default).fld 0, (t5.headD default).fld 1]), (PV.sc (.bool false))])) := by kernel_rfl
noncomputable def impl_RingTake.S (N : Nat) : ASpec := ⟨[(25, .ro), (45, .ro)], [(25, .own), (4, .val)], impl_RingTake.f N⟩
theorem impl_RingTake.ok (N : Nat) : FnOk Tryz.prog 25 (impl_RingTake.S N) := fnOk_of (E := impl_RingTake.E N) mix Tryz.func25 (by kernel_rfl) (by kernel_rfl) (by kernel_rfl) (lk_ok (all_cons (impl_RingOk.ok N) (all_cons (impl_TurnOf.ok N) (all_cons (impl_cloneRing.ok N) (all_cons (impl_Ring_with.ok N) all_nil))))) (by kernel_rfl) (fun _ _ h => h)

/-! ### impl_RingPut: function 11, loop.example/medlar/impl.RingPut -/
noncomputable def impl_RingPut.E (N : Nat) : Env := ⟨lk [(35, impl_RingOk.S N), (36, impl_turnText.S N), (37, impl_SealOf.S N)], nzk [(5, ⟨[0, 2, 5, 6, 7, 8, 9, 10, 11, 12, 13, 14, 15, 16, 17, 18, 19, 20, 21, 22, 23, 24, 25, 26, 27, 28, 29, 30, 31, 32, 33, 34, 35, 36, 37, 38, 39, 40, 41], [], []⟩)], N, [], false⟩
noncomputable def impl_RingPut.f (N : Nat) (a : List PV) : Option Res := run Tryz.prog (impl_RingPut.E N) Tryz.f11 [(25, .ro)] [(9, .val)] a
noncomputable def impl_RingPut.l0 (N : Nat) (n : Nat) (x3 : ByteArray) (x4 : Int) (y0_0 : PV) (y0_1 : PV) : Option Res := loopAt Tryz.prog (impl_RingPut.E N) Tryz.f11 [(9, .val)] [1, 1, 1, 0, 1, 0] [] n ⟨mkSlots 42 [(1, .ptr 0 []), (3, .sc (.string x3)), (4, .sc (.int .i64 x4))], ohOf [.box 25 (.agg 25 [.ro 22 y0_0, .ro 23 y0_1])]⟩
theorem impl_RingPut.f_eq (N : Nat) (a0 : PV) : impl_RingPut.f N [a0] = (impl_RingOk.f N [(PV.agg [a0.fld 0, a0.fld 1])]).bind fun t1 => if (!((t1.headD default).toBool)) = true then (some [(PV.sc (.string (ByteArray.mk #[])))]) else (impl_RingPut.l0 N N (ByteArray.mk #[]) 1 (a0.fld 0) (a0.fld 1)) := by kernel_rfl
theorem impl_RingPut.l0_eq (N : Nat) (n : Nat) (x3 : ByteArray) (x4 : Int) (y0_0 : PV) (y0_1 : PV) : impl_RingPut.l0 N (n + 1) x3 x4 y0_0 y0_1 = if decide (x4 < (y0_0.items.length : Int)) = true then (if 0 ≤ x4 then (if x4 < (y0_0.items.length : Int) then (if 0 ≤ x4 then (if x4 < (y0_1.items.length : Int) then ((impl_turnText.f N [(PV.sc (.string ((y0_0.elem x4.toNat).toStr))), (PV.sc (.int .i64 ((y0_1.elem x4.toNat).toInt)))]).bind fun t2 => if ((t2.headD default).toStr).size + (ByteArray.mk #[32]).size ≤ 9223372036854775807 then (if 0 ≤ (IntKind.i64.wrap (x4 - 1)) then (if (IntKind.i64.wrap (x4 - 1)) < (y0_0.items.length : Int) then ((impl_SealOf.f N [(PV.sc (.string ((y0_0.elem ((IntKind.i64.wrap (x4 - 1)).toNat)).toStr))), (PV.sc (.string ((t2.headD default).toStr)))]).bind fun t3 => if (((t2.headD default).toStr) ++ (ByteArray.mk #[32])).size + ((t3.headD default).toStr).size ≤ 9223372036854775807 then (if ((((t2.headD default).toStr) ++ (ByteArray.mk #[32])) ++ ((t3.headD default).toStr)).size + (ByteArray.mk #[10]).size ≤ 9223372036854775807 then (if x3.size + (((((t2.headD default).toStr) ++ (ByteArray.mk #[32])) ++ ((t3.headD default).toStr)) ++ (ByteArray.mk #[10])).size ≤ 9223372036854775807 then (impl_RingPut.l0 N n (x3 ++ (((((t2.headD default).toStr) ++ (ByteArray.mk #[32])) ++ ((t3.headD default).toStr)) ++ (ByteArray.mk #[10]))) (IntKind.i64.wrap (x4 + 1)) y0_0 y0_1) else none) else none) else none) else none) else none) else none) else none) else none) else none) else none) else (some [(PV.sc (.string x3))]) := by kernel_rfl
noncomputable def impl_RingPut.S (N : Nat) : ASpec := ⟨[(25, .ro)], [(9, .val)], impl_RingPut.f N⟩
theorem impl_RingPut.ok (N : Nat) : FnOk Tryz.prog 11 (impl_RingPut.S N) := fnOk_of (E := impl_RingPut.E N) mix Tryz.func11 (by kernel_rfl) (by kernel_rfl) (by kernel_rfl) (lk_ok (all_cons (impl_RingOk.ok N) (all_cons (impl_turnText.ok N) (all_cons (impl_SealOf.ok N) all_nil)))) (by kernel_rfl) (fun _ _ h => h)

/-! ### impl_RingGet: function 6, loop.example/medlar/impl.RingGet -/
noncomputable def impl_RingGet.E (N : Nat) : Env := ⟨lk [(21, impl_RingNew.S N), (22, impl_linesOf.S N), (23, strings_Split.S N), (24, strconv_Atoi.S N), (26, impl_unhex.S N), (25, impl_RingTake.S N), (11, impl_RingPut.S N)], nzk [(5, ⟨[0, 2, 3, 5, 7, 8, 9, 10, 11, 12, 13, 14, 15, 16, 17, 18, 19, 20, 21, 25, 26, 27, 28, 29, 30, 31, 32, 33, 34, 35, 36, 37, 38, 39, 40, 41, 42, 43, 44, 45, 46, 47, 48, 49, 50, 51, 52, 53, 54, 55, 56, 57, 58, 59, 60, 61, 62, 63, 64], [], []⟩)], N, [], false⟩
noncomputable def impl_RingGet.f (N : Nat) (a : List PV) : Option Res := run Tryz.prog (impl_RingGet.E N) Tryz.f6 [(9, .ro), (9, .ro)] [(25, .own), (4, .val)] a
noncomputable def impl_RingGet.l0 (N : Nat) (n : Nat) (x1 : ByteArray) (x23 : Int) (x24 : Int) (y2 : PV) (y3 : PV) (y4 : PV) : Option Res := loopAt Tryz.prog (impl_RingGet.E N) Tryz.f6 [(25, .own), (4, .val)] [1, 1, 1, 0, 1, 0] [] n ⟨mkSlots 65 [(1, .sc (.string x1)), (4, .ptr 0 []), (6, .ptr 1 []), (22, .ref 2 []), (23, .sc (.int .i64 x23)), (24, .sc (.int .i64 x24))], ohOf [.box 25 (.agg 25 [.nil, .nil]), .box 25 (.agg 25 [.ref 3 [], .ref 4 []]), .row 22 y2, .row 22 y3, .row 23 y4]⟩
theorem impl_RingGet.f_eq (N : Nat) (a0 : PV) (a1 : PV) : impl_RingGet.f N [a0, a1] = (impl_RingNew.f N [(PV.sc (.string a0.toStr))]).bind fun t1 => if (!((t1.tail.headD default).toBool)) = true then (some [(PV.agg [(PV.list []), (PV.list [])]), (PV.sc (.bool false))]) else ((impl_linesOf.f N [(PV.sc (.string a1.toStr))]).bind fun t2 => impl_RingGet.l0 N N a1.toStr (((t2.headD default).items).length : Int) 0 (t2.headD default) ((t1.headD default).fld 0) ((t1.headD default).fld 1)) := by kernel_rfl
theorem impl_RingGet.l0_eq (N : Nat) (n : Nat) (x1 : ByteArray) (x23 : Int) (x24 : Int) (y2 : PV) (y3 : PV) (y4 : PV) : impl_RingGet.l0 N (n + 1) x1 x23 x24 y2 y3 y4 = if decide (x24 < x23) = true then (if 0 ≤ x24 then (if x24 < (y2.items.length : Int) then ((strings_Split.f N [(PV.sc (.string ((y2.elem x24.toNat).toStr))), (PV.sc (.string (ByteArray.mk #[32])))]).bind fun t3 => if (!decide ((((t3.headD default).items).length : Int) = 4)) = true then (some [(PV.agg [(PV.list []), (PV.list [])]), (PV.sc (.bool false))]) else (if 0 ≤ 1 then (if 1 < (((t3.headD default).items).length : Int) then ((strconv_Atoi.f N [(PV.sc (.string (((t3.headD default).elem 1).toStr)))]).bind fun t4 => if 0 ≤ 2 then (if 2 < (((t3.headD default).items).length : Int) then ((impl_unhex.f N [(PV.sc (.string (((t3.headD default).elem 2).toStr)))]).bind fun t5 => if 0 ≤ 3 then (if 3 < (((t3.headD default).items).length : Int) then ((impl_RingTake.f N [(PV.agg [y3, y4]), (PV.agg [(PV.sc (.string ((t5.headD default).toStr))), (PV.sc (.int .i64 ((t4.headD default).toInt))), (PV.sc (.string (((t3.headD default).elem 3).toStr)))])]).bind fun t6 => if (!((t6.tail.headD default).toBool)) = true then (some [(PV.agg [(PV.list []), (PV.list [])]), (PV.sc (.bool false))]) else (impl_RingGet.l0 N n x1 x23 (IntKind.i64.wrap (x24 + 1)) y2 ((t6.headD default).fld 0) ((t6.headD default).fld 1))) else none) else none) else none) else none) else none) else none)) else none) else none) else ((impl_RingPut.f N [(PV.agg [y3, y4])]).bind fun t7 => if (!decide (((t7.headD default).toStr).toList = x1.toList)) = true then (some [(PV.agg [(PV.list []), (PV.list [])]), (PV.sc (.bool false))]) else (some [(PV.agg [y3, y4]), (PV.sc (.bool true))])) := by kernel_rfl
noncomputable def impl_RingGet.S (N : Nat) : ASpec := ⟨[(9, .ro), (9, .ro)], [(25, .own), (4, .val)], impl_RingGet.f N⟩
theorem impl_RingGet.ok (N : Nat) : FnOk Tryz.prog 6 (impl_RingGet.S N) := fnOk_of (E := impl_RingGet.E N) mix Tryz.func6 (by kernel_rfl) (by kernel_rfl) (by kernel_rfl) (lk_ok (all_cons (impl_RingNew.ok N) (all_cons (impl_linesOf.ok N) (all_cons (strings_Split.ok N) (all_cons (strconv_Atoi.ok N) (all_cons (impl_unhex.ok N) (all_cons (impl_RingTake.ok N) (all_cons (impl_RingPut.ok N) all_nil)))))))) (by kernel_rfl) (fun _ _ h => h)

/-! ### laws_eqStringS: function 27, loop.example/medlar/laws.eqStringS -/
noncomputable def laws_eqStringS.E (N : Nat) : Env := ⟨lk [], nzk [(4, ⟨[2, 3, 4, 6, 7, 8, 9, 10, 11, 12, 13, 14, 15, 16, 17, 18, 19, 20, 21, 22, 23, 24, 25], [], []⟩)], N, [], false⟩
noncomputable def laws_eqStringS.f (N : Nat) (a : List PV) : Option Res := run Tryz.prog (laws_eqStringS.E N) Tryz.f27 [(22, .ro), (22, .ro)] [(4, .val)] a
noncomputable def laws_eqStringS.l0 (N : Nat) (n : Nat) (x0 : PV) (x1 : PV) (x5 : Int) : Option Res := loopAt Tryz.prog (laws_eqStringS.E N) Tryz.f27 [(4, .val)] [1, 1, 0, 1, 0] [] n ⟨mkSlots 26 [(0, .ro 22 x0), (1, .ro 22 x1), (5, .sc (.int .i64 x5))], ohOf []⟩
theorem laws_eqStringS.f_eq (N : Nat) (a0 : PV) (a1 : PV) : laws_eqStringS.f N [a0, a1] = if (!decide ((a0.items.length : Int) = (a1.items.length : Int))) = true then (some [(PV.sc (.bool false))]) else (laws_eqStringS.l0 N N a0 a1 0) := by kernel_rfl
theorem laws_eqStringS.l0_eq (N : Nat) (n : Nat) (x0 : PV) (x1 : PV) (x5 : Int) : laws_eqStringS.l0 N (n + 1) x0 x1 x5 = if decide (x5 < (x0.items.length : Int)) = true then (if 0 ≤ x5 then (if x5 < (x0.items.length : Int) then (if 0 ≤ x5 then (if x5 < (x1.items.length : Int) then (if (!decide (((x0.elem x5.toNat).toStr).toList = ((x1.elem x5.toNat).toStr).toList)) = true then (some [(PV.sc (.bool false))]) else (laws_eqStringS.l0 N n x0 x1 (IntKind.i64.wrap (x5 + 1)))) else none) else none) else none) else none) else (some [(PV.sc (.bool true))]) := by kernel_rfl
noncomputable def laws_eqStringS.S (N : Nat) : ASpec := ⟨[(22, .ro), (22, .ro)], [(4, .val)], laws_eqStringS.f N⟩
theorem laws_eqStringS.ok (N : Nat) : FnOk Tryz.prog 27 (laws_eqStringS.S N) := fnOk_of (E := laws_eqStringS.E N) mix Tryz.func27 (by kernel_rfl) (by kernel_rfl) (by kernel_rfl) (lk_ok all_nil) (by kernel_rfl) (fun _ _ h => h)

/-! ### laws_eqIntS: function 28, loop.example/medlar/laws.eqIntS -/
noncomputable def laws_eqIntS.E (N : Nat) : Env := ⟨lk [], nzk [(4, ⟨[2, 3, 4, 6, 7, 8, 9, 10, 11, 12, 13, 14, 15, 16, 17, 18, 19, 20, 21, 22, 23, 24, 25], [], []⟩)], N, [], false⟩
noncomputable def laws_eqIntS.f (N : Nat) (a : List PV) : Option Res := run Tryz.prog (laws_eqIntS.E N) Tryz.f28 [(23, .ro), (23, .ro)] [(4, .val)] a
noncomputable def laws_eqIntS.l0 (N : Nat) (n : Nat) (x0 : PV) (x1 : PV) (x5 : Int) : Option Res := loopAt Tryz.prog (laws_eqIntS.E N) Tryz.f28 [(4, .val)] [1, 1, 0, 1, 0] [] n ⟨mkSlots 26 [(0, .ro 23 x0), (1, .ro 23 x1), (5, .sc (.int .i64 x5))], ohOf []⟩
theorem laws_eqIntS.f_eq (N : Nat) (a0 : PV) (a1 : PV) : laws_eqIntS.f N [a0, a1] = if (!decide ((a0.items.length : Int) = (a1.items.length : Int))) = true then (some [(PV.sc (.bool false))]) else (laws_eqIntS.l0 N N a0 a1 0) := by kernel_rfl
theorem laws_eqIntS.l0_eq (N : Nat) (n : Nat) (x0 : PV) (x1 : PV) (x5 : Int) : laws_eqIntS.l0 N (n + 1) x0 x1 x5 = if decide (x5 < (x0.items.length : Int)) = true then (if 0 ≤ x5 then (if x5 < (x0.items.length : Int) then (if 0 ≤ x5 then (if x5 < (x1.items.length : Int) then (if (!decide (((x0.elem x5.toNat).toInt) = ((x1.elem x5.toNat).toInt))) = true then (some [(PV.sc (.bool false))]) else (laws_eqIntS.l0 N n x0 x1 (IntKind.i64.wrap (x5 + 1)))) else none) else none) else none) else none) else (some [(PV.sc (.bool true))]) := by kernel_rfl
noncomputable def laws_eqIntS.S (N : Nat) : ASpec := ⟨[(23, .ro), (23, .ro)], [(4, .val)], laws_eqIntS.f N⟩
theorem laws_eqIntS.ok (N : Nat) : FnOk Tryz.prog 28 (laws_eqIntS.S N) := fnOk_of (E := laws_eqIntS.E N) mix Tryz.func28 (by kernel_rfl) (by kernel_rfl) (by kernel_rfl) (lk_ok all_nil) (by kernel_rfl) (fun _ _ h => h)

/-! ### laws_eqRing: function 7, loop.example/medlar/laws.eqRing -/
noncomputable def laws_eqRing.E (N : Nat) : Env := ⟨lk [(27, laws_eqStringS.S N), (28, laws_eqIntS.S N)], nzk [], N, [], false⟩
noncomputable def laws_eqRing.f (N : Nat) (a : List PV) : Option Res := run Tryz.prog (laws_eqRing.E N) Tryz.f7 [(25, .ro), (25, .ro)] [(4, .val)] a
theorem laws_eqRing.f_eq (N : Nat) (a0 : PV) (a1 : PV) : laws_eqRing.f N [a0, a1] = (laws_eqStringS.f N [a0.fld 0, a1.fld 0]).bind fun t1 => if (!((t1.headD default).toBool)) = true then (some [(PV.sc (.bool false))]) else ((laws_eqIntS.f N [a0.fld 1, a1.fld 1]).bind fun t2 => if (!((t2.headD default).toBool)) = true then (some [(PV.sc (.bool false))]) else (some [(PV.sc (.bool true))])) := by kernel_rfl
noncomputable def laws_eqRing.S (N : Nat) : ASpec := ⟨[(25, .ro), (25, .ro)], [(4, .val)], laws_eqRing.f N⟩
theorem laws_eqRing.ok (N : Nat) : FnOk Tryz.prog 7 (laws_eqRing.S N) := fnOk_of (E := laws_eqRing.E N) mix Tryz.func7 (by kernel_rfl) (by kernel_rfl) (by kernel_rfl) (lk_ok (all_cons (laws_eqStringS.ok N) (all_cons (laws_eqIntS.ok N) all_nil))) (by kernel_rfl) (fun _ _ h => h)

/-! ### laws_markText: function 58, loop.example/medlar/laws.markText -/
noncomputable def laws_markText.E (N : Nat) : Env := ⟨lk [], nzk [(4, ⟨[1, 2, 4, 5, 6, 7, 8, 9, 10, 11, 12, 13, 14, 15, 16, 17, 18, 19], [], []⟩)], N, [], false⟩
noncomputable def laws_markText.f (N : Nat) (a : List PV) : Option Res := run Tryz.prog (laws_markText.E N) Tryz.f58 [(3, .ro)] [(9, .val)] a
noncomputable def laws_markText.l0 (N : Nat) (n : Nat) (x0 : Int) (x3 : ByteArray) : Option Res := loopAt Tryz.prog (laws_markText.E N) Tryz.f58 [(9, .val)] [1, 1, 1, 0, 0] [] n ⟨mkSlots 20 [(0, .sc (.int .i64 x0)), (3, .sc (.string x3))], ohOf []⟩
theorem laws_markText.f_eq (N : Nat) (a0 : PV) : laws_markText.f N [a0] = if decide (a0.toInt ≤ 0) = true then (some [(PV.sc (.string (ByteArray.mk #[109, 48])))]) else (laws_markText.l0 N N a0.toInt (ByteArray.mk #[])) := by kernel_rfl
theorem laws_markText.l0_eq (N : Nat) (n : Nat) (x0 : Int) (x3 : ByteArray) : laws_markText.l0 N (n + 1) x0 x3 = if decide (0 < x0) = true then (if 10 = 0 then none else (if (bytesOfL [(PV.sc (.int .u8 (IntKind.u8.wrap (IntKind.i64.wrap (48 + (Int.tmod x0 10))))))]).size + x3.size ≤ 9223372036854775807 then (if 10 = 0 then none else (laws_markText.l0 N n (IntKind.i64.wrap (Int.tdiv x0 10)) ((bytesOfL [(PV.sc (.int .u8 (IntKind.u8.wrap (IntKind.i64.wrap (48 + (Int.tmod x0 10))))))]) ++ x3))) else none)) else (if (ByteArray.mk #[109]).size + x3.size ≤ 9223372036854775807 then (some [(PV.sc (.string ((ByteArray.mk #[109]) ++ x3)))]) else none) := by kernel_rfl
noncomputable def laws_markText.S (N : Nat) : ASpec := ⟨[(3, .ro)], [(9, .val)], laws_markText.f N⟩
theorem laws_markText.ok (N : Nat) : FnOk Tryz.prog 58 (laws_markText.S N) := fnOk_of (E := laws_markText.E N) mix Tryz.func58 (by kernel_rfl) (by kernel_rfl) (by kernel_rfl) (lk_ok all_nil) (by kernel_rfl) (fun _ _ h => h)

-- MODES: 29 loop.example/medlar/laws.markStringS mut.ro
/-! ### laws_markStringS: function 29, loop.example/medlar/laws.markStringS -/
noncomputable def laws_markStringS.E (N : Nat) : Env := ⟨lk [(58, laws_markText.S N)], nzk [(2, ⟨[2, 3, 4, 6, 7, 8, 9, 10, 11, 12, 13, 14, 15, 16, 17, 18, 19], [], []⟩)], N, [(false, 22)], false⟩
noncomputable def laws_markStringS.f (N : Nat) (a : List PV) : Option Res := run Tryz.prog (laws_markStringS.E N) Tryz.f29 [(22, .mut), (3, .ro)] [(3, .val)] a
noncomputable def laws_markStringS.l0 (N : Nat) (n : Nat) (x1 : Int) (x5 : Int) (y0 : PV) : Option Res := loopAt Tryz.prog (laws_markStringS.E N) Tryz.f29 [(3, .val)] [1, 0, 1, 0] [] n ⟨mkSlots 20 [(0, .ref 0 []), (1, .sc (.int .i64 x1)), (5, .sc (.int .i64 x5))], ohOf [.row 22 y0]⟩
noncomputable def laws_markStringS.l1 (N : Nat) (n : Nat) (x1 : Int) (x5 : Int) (y0 : List PV) : Option Res := loopAt Tryz.prog (laws_markStringS.E N) Tryz.f29 [(3, .val)] [1, 0, 1, 0] [] n ⟨mkSlots 20 [(0, .ref 0 []), (1, .sc (.int .i64 x1)), (5, .sc (.int .i64 x5))], ohOf [.row 22 (PV.list y0)]⟩
theorem laws_markStringS.f_eq (N : Nat) (a0 : PV) (a1 : PV) : laws_markStringS.f N [a0, a1] = laws_markStringS.l0 N N a1.toInt 0 a0 := by kernel_rfl
theorem laws_markStringS.l0_eq (N : Nat) (n : Nat) (x1 : Int) (x5 : Int) (y0 : PV) : laws_markStringS.l0 N (n + 1) x1 x5 y0 = if decide (x5 < (y0.items.length : Int)) = true then ((laws_markText.f N [(PV.sc (.int .i64 x1))]).bind fun t1 => if 0 ≤ x5 then (if x5 < (y0.items.length : Int) then (laws_markStringS.l1 N n (IntKind.i64.wrap (x1 + 1)) (IntKind.i64.wrap (x5 + 1)) (y0.items.set x5.toNat (PV.sc (.string ((t1.headD default).toStr))))) else none) else none) else (some [(PV.sc (.int .i64 x1)), y0]) := by kernel_rfl
theorem laws_markStringS.l1_eq (N : Nat) (n : Nat) (x1 : Int) (x5 : Int) (y0 : List PV) : laws_markStringS.l1 N (n + 1) x1 x5 y0 = if decide (x5 < (y0.length : Int)) = true then ((laws_markText.f N [(PV.sc (.int .i64 x1))]).bind fun t2 => if 0 ≤ x5 then (if x5 < (y0.length : Int) then (laws_markStringS.l1 N n (IntKind.i64.wrap (x1 + 1)) (IntKind.i64.wrap (x5 + 1)) (y0.set x5.toNat (PV.sc (.string ((t2.headD default).toStr))))) else none) else none) else (some [(PV.sc (.int .i64 x1)), (PV.list y0)]) := by kernel_rfl
noncomputable def laws_markStringS.S (N : Nat) : ASpec := ⟨[(22, .mut), (3, .ro)], [(3, .val)], laws_markStringS.f N⟩
theorem laws_markStringS.ok (N : Nat) : FnOk Tryz.prog 29 (laws_markStringS.S N) := fnOk_of (E := laws_markStringS.E N) mix Tryz.func29 (by kernel_rfl) (by kernel_rfl) (by kernel_rfl) (lk_ok (all_cons (laws_markText.ok N) all_nil)) (by kernel_rfl) (fun _ _ h => h)

-- MODES: 30 loop.example/medlar/laws.markIntS mut.ro
/-! ### laws_markIntS: function 30, loop.example/medlar/laws.markIntS -/
noncomputable def laws_markIntS.E (N : Nat) : Env := ⟨lk [], nzk [(2, ⟨[2, 3, 4, 6, 7, 8, 9, 10, 11, 12, 13, 14, 15, 16, 17, 18], [], []⟩)], N, [(false, 23)], false⟩
noncomputable def laws_markIntS.f (N : Nat) (a : List PV) : Option Res := run Tryz.prog (laws_markIntS.E N) Tryz.f30 [(23, .mut), (3, .ro)] [(3, .val)] a
noncomputable def laws_markIntS.l0 (N : Nat) (n : Nat) (x1 : Int) (x5 : Int) (y0 : PV) : Option Res := loopAt Tryz.prog (laws_markIntS.E N) Tryz.f30 [(3, .val)] [1, 0, 1, 0] [] n ⟨mkSlots 19 [(0, .ref 0 []), (1, .sc (.int .i64 x1)), (5, .sc (.int .i64 x5))], ohOf [.row 23 y0]⟩
noncomputable def laws_markIntS.l1 (N : Nat) (n : Nat) (x1 : Int) (x5 : Int) (y0 : List PV) : Option Res := loopAt Tryz.prog (laws_markIntS.E N) Tryz.f30 [(3, .val)] [1, 0, 1, 0] [] n ⟨mkSlots 19 [(0, .ref 0 []), (1, .sc (.int .i64 x1)), (5, .sc (.int .i64 x5))], ohOf [.row 23 (PV.list y0)]⟩
theorem laws_markIntS.f_eq (N : Nat) (a0 : PV) (a1 : PV) : laws_markIntS.f N [a0, a1] = laws_markIntS.l0 N N a1.toInt 0 a0 := by kernel_rfl
theorem laws_markIntS.l0_eq (N : Nat) (n : Nat) (x1 : Int) (x5 : Int) (y0 : PV) : laws_markIntS.l0 N (n + 1) x1 x5 y0 = if decide (x5 < (y0.items.length : Int)) = true then (if 0 ≤ x5 then (if x5 < (y0.items.length : Int) then (laws_markIntS.l1 N n (IntKind.i64.wrap (x1 + 1)) (IntKind.i64.wrap (x5 + 1)) (y0.items.set x5.toNat (PV.sc (.int .i64 x1)))) else none) else none) else (some [(PV.sc (.int .i64 x1)), y0]) := by kernel_rfl
theorem laws_markIntS.l1_eq (N : Nat) (n : Nat) (x1 : Int) (x5 : Int) (y0 : List PV) : laws_markIntS.l1 N (n + 1) x1 x5 y0 = if decide (x5 < (y0.length : Int)) = true then (if 0 ≤ x5 then (if x5 < (y0.length : Int) then (laws_markIntS.l1 N n (IntKind.i64.wrap (x1 + 1)) (IntKind.i64.wrap (x5 + 1)) (y0.set x5.toNat (PV.sc (.int .i64 x1)))) else none) else none) else (some [(PV.sc (.int .i64 x1)), (PV.list y0)]) := by kernel_rfl
noncomputable def laws_markIntS.S (N : Nat) : ASpec := ⟨[(23, .mut), (3, .ro)], [(3, .val)], laws_markIntS.f N⟩
theorem laws_markIntS.ok (N : Nat) : FnOk Tryz.prog 30 (laws_markIntS.S N) := fnOk_of (E := laws_markIntS.E N) mix Tryz.func30 (by kernel_rfl) (by kernel_rfl) (by kernel_rfl) (lk_ok all_nil) (by kernel_rfl) (fun _ _ h => h)

-- MODES: 8 loop.example/medlar/laws.markRing mut2.ro
/-! ### laws_markRing: function 8, loop.example/medlar/laws.markRing -/
noncomputable def laws_markRing.E (N : Nat) : Env := ⟨lk [(29, laws_markStringS.S N), (30, laws_markIntS.S N)], nzk [], N, [(false, 22), (false, 23)], false⟩
noncomputable def laws_markRing.f (N : Nat) (a : List PV) : Option Res := run Tryz.prog (laws_markRing.E N) Tryz.f8 [(25, .mut2), (3, .ro)] [(3, .val)] a
theorem laws_markRing.f_eq (N : Nat) (a0 : PV) (a1 : PV) : laws_markRing.f N [a0, a1] = (laws_markStringS.f N [a0.fld 0, (PV.sc (.int .i64 a1.toInt))]).bind fun t1 => (laws_markIntS.f N [a0.fld 1, (PV.sc (.int .i64 ((t1.headD default).toInt)))]).bind fun t2 => some [(PV.sc (.int .i64 ((t2.headD default).toInt))), (t1.tail.headD default), (t2.tail.headD default)] := by kernel_rfl
noncomputable def laws_markRing.S (N : Nat) : ASpec := ⟨[(25, .mut2), (3, .ro)], [(3, .val)], laws_markRing.f N⟩
theorem laws_markRing.ok (N : Nat) : FnOk Tryz.prog 8 (laws_markRing.S N) := fnOk_of (E := laws_markRing.E N) mix Tryz.func8 (by kernel_rfl) (by kernel_rfl) (by kernel_rfl) (lk_ok (all_cons (laws_markStringS.ok N) (all_cons (laws_markIntS.ok N) all_nil))) (by kernel_rfl) (fun _ _ h => h)

/-! ### laws_heldStringS: function 31, loop.example/medlar/laws.heldStringS -/
noncomputable def laws_heldStringS.E (N : Nat) : Env := ⟨lk [(58, laws_markText.S N)], nzk [(2, ⟨[2, 3, 4, 6, 7, 8, 9, 10, 11, 12, 13, 14, 15, 16, 17, 18, 19, 20, 21], [], []⟩)], N, [], false⟩
noncomputable def laws_heldStringS.f (N : Nat) (a : List PV) : Option Res := run Tryz.prog (laws_heldStringS.E N) Tryz.f31 [(22, .ro), (3, .ro)] [(3, .val)] a
noncomputable def laws_heldStringS.l0 (N : Nat) (n : Nat) (x0 : PV) (x1 : Int) (x5 : Int) : Option Res := loopAt Tryz.prog (laws_heldStringS.E N) Tryz.f31 [(3, .val)] [1, 0, 1, 0] [] n ⟨mkSlots 22 [(0, .ro 22 x0), (1, .sc (.int .i64 x1)), (5, .sc (.int .i64 x5))], ohOf []⟩
theorem laws_heldStringS.f_eq (N : Nat) (a0 : PV) (a1 : PV) : laws_heldStringS.f N [a0, a1] = laws_heldStringS.l0 N N a0 a1.toInt 0 := by kernel_rfl
theorem laws_heldStringS.l0_eq (N : Nat) (n : Nat) (x0 : PV) (x1 : Int) (x5 : Int) : laws_heldStringS.l0 N (n + 1) x0 x1 x5 = if decide (x5 < (x0.items.length : Int)) = true then (if 0 ≤ x5 then (if x5 < (x0.items.length : Int) then ((laws_markText.f N [(PV.sc (.int .i64 x1))]).bind fun t1 => if (!decide (((x0.elem x5.toNat).toStr).toList = ((t1.headD default).toStr).toList)) = true then (some [(PV.sc (.int .i64 (-1)))]) else (laws_heldStringS.l0 N n x0 (IntKind.i64.wrap (x1 + 1)) (IntKind.i64.wrap (x5 + 1)))) else none) else none) else (some [(PV.sc (.int .i64 x1))]) := by kernel_rfl
noncomputable def laws_heldStringS.S (N : Nat) : ASpec := ⟨[(22, .ro), (3, .ro)], [(3, .val)], laws_heldStringS.f N⟩
theorem laws_heldStringS.ok (N : Nat) : FnOk Tryz.prog 31 (laws_heldStringS.S N) := fnOk_of (E := laws_heldStringS.E N) mix Tryz.func31 (by kernel_rfl) (by kernel_rfl) (by kernel_rfl) (lk_ok (all_cons (laws_markText.ok N) all_nil)) (by kernel_rfl) (fun _ _ h => h)

/-! ### laws_heldIntS: function 32, loop.example/medlar/laws.heldIntS -/
noncomputable def laws_heldIntS.E (N : Nat) : Env := ⟨lk [], nzk [(2, ⟨[2, 3, 4, 6, 7, 8, 9, 10, 11, 12, 13, 14, 15, 16, 17, 18, 19, 20], [], []⟩)], N, [], false⟩
noncomputable def laws_heldIntS.f (N : Nat) (a : List PV) : Option Res := run Tryz.prog (laws_heldIntS.E N) Tryz.f32 [(23, .ro), (3, .ro)] [(3, .val)] a
noncomputable def laws_heldIntS.l0 (N : Nat) (n : Nat) (x0 : PV) (x1 : Int) (x5 : Int) : Option Res := loopAt Tryz.prog (laws_heldIntS.E N) Tryz.f32 [(3, .val)] [1, 0, 1, 0] [] n ⟨mkSlots 21 [(0, .ro 23 x0), (1, .sc (.int .i64 x1)), (5, .sc (.int .i64 x5))], ohOf []⟩
theorem laws_heldIntS.f_eq (N : Nat) (a0 : PV) (a1 : PV) : laws_heldIntS.f N [a0, a1] = laws_heldIntS.l0 N N a0 a1.toInt 0 := by kernel_rfl
theorem laws_heldIntS.l0_eq (N : Nat) (n : Nat) (x0 : PV) (x1 : Int) (x5 : Int) : laws_heldIntS.l0 N (n + 1) x0 x1 x5 = if decide (x5 < (x0.items.length : Int)) = true then (if 0 ≤ x5 then (if x5 < (x0.items.length : Int) then (if (!decide (((x0.elem x5.toNat).toInt) = x1)) = true then (some [(PV.sc (.int .i64 (-1)))]) else (laws_heldIntS.l0 N n x0 (IntKind.i64.wrap (x1 + 1)) (IntKind.i64.wrap (x5 + 1)))) else none) else none) else (some [(PV.sc (.int .i64 x1))]) := by kernel_rfl
noncomputable def laws_heldIntS.S (N : Nat) : ASpec := ⟨[(23, .ro), (3, .ro)], [(3, .val)], laws_heldIntS.f N⟩
theorem laws_heldIntS.ok (N : Nat) : FnOk Tryz.prog 32 (laws_heldIntS.S N) := fnOk_of (E := laws_heldIntS.E N) mix Tryz.func32 (by kernel_rfl) (by kernel_rfl) (by kernel_rfl) (lk_ok all_nil) (by kernel_rfl) (fun _ _ h => h)

/-! ### laws_heldRing: function 9, loop.example/medlar/laws.heldRing -/
noncomputable def laws_heldRing.E (N : Nat) : Env := ⟨lk [(31, laws_heldStringS.S N), (32, laws_heldIntS.S N)], nzk [], N, [], false⟩
noncomputable def laws_heldRing.f (N : Nat) (a : List PV) : Option Res := run Tryz.prog (laws_heldRing.E N) Tryz.f9 [(25, .ro), (3, .ro)] [(3, .val)] a
theorem laws_heldRing.f_eq (N : Nat) (a0 : PV) (a1 : PV) : laws_heldRing.f N [a0, a1] = (laws_heldStringS.f N [a0.fld 0, (PV.sc (.int .i64 a1.toInt))]).bind fun t1 => if decide (((t1.headD default).toInt) < 0) = true then (some [(PV.sc (.int .i64 (-1)))]) else ((laws_heldIntS.f N [a0.fld 1, (PV.sc (.int .i64 ((t1.headD default).toInt)))]).bind fun t2 => if decide (((t2.headD default).toInt) < 0) = true then (some [(PV.sc (.int .i64 (-1)))]) else (some [(PV.sc (.int .i64 ((t2.headD default).toInt)))])) := by kernel_rfl
noncomputable def laws_heldRing.S (N : Nat) : ASpec := ⟨[(25, .ro), (3, .ro)], [(3, .val)], laws_heldRing.f N⟩
theorem laws_heldRing.ok (N : Nat) : FnOk Tryz.prog 9 (laws_heldRing.S N) := fnOk_of (E := laws_heldRing.E N) mix Tryz.func9 (by kernel_rfl) (by kernel_rfl) (by kernel_rfl) (lk_ok (all_cons (laws_heldStringS.ok N) (all_cons (laws_heldIntS.ok N) all_nil))) (by kernel_rfl) (fun _ _ h => h)

/-! ### laws_FnExactRingGet: function 3, loop.example/medlar/laws.FnExactRingGet -/
noncomputable def laws_FnExactRingGet.E (N : Nat) : Env := ⟨lk [(5, spec_RingGet.S N), (6, impl_RingGet.S N), (7, laws_eqRing.S N), (8, laws_markRing.S N), (9, laws_heldRing.S N)], nzk [], N, [], false⟩
noncomputable def laws_FnExactRingGet.f (N : Nat) (a : List PV) : Option Res := run Tryz.prog (laws_FnExactRingGet.E N) Tryz.f3 [(9, .ro), (9, .ro)] [(4, .val)] a
theorem laws_FnExactRingGet.f_eq (N : Nat) (a0 : PV) (a1 : PV) : laws_FnExactRingGet.f N [a0, a1] = if decide (1048576 < (a0.toStr.size : Int)) = true then (some [(PV.sc (.bool true))]) else (if decide (1048576 < (a1.toStr.size : Int)) = true then (some [(PV.sc (.bool true))]) else ((spec_RingGet.f N [(PV.sc (.string a0.toStr)), (PV.sc (.string a1.toStr))]).bind fun t1 => (impl_RingGet.f N [(PV.sc (.string a0.toStr)), (PV.sc (.string a1.toStr))]).bind fun t2 => (laws_eqRing.f N [(PV.agg [(t2.headD default).fld 0, (t2.headD default).fld 1]), (PV.agg [(t1.headD default).fld 0, (t1.headD default).fld 1])]).bind fun t3 => if (!((t3.headD default).toBool)) = false then (if (((t2.tail.headD default).toBool) != ((t1.tail.headD default).toBool)) = true then (some [(PV.sc (.bool false))]) else ((laws_markRing.f N [(PV.agg [(t2.headD default).fld 0, (t2.headD default).fld 1]), (PV.sc (.int .i64 1))]).bind fun t4 => (laws_heldRing.f N [(PV.agg [(t4.tail.headD default), (t4.tail.tail.headD default)]), (PV.sc (.int .i64 1))]).bind fun t5 => if decide (((t5.headD default).toInt) < 0) = true then (some [(PV.sc (.bool false))]) else (if (!decide (((t5.headD default).toInt) = ((t4.headD default).toInt))) = true then (some [(PV.sc (.bool false))]) else ((impl_RingGet.f N [(PV.sc (.string a0.toStr)), (PV.sc (.string a1.toStr))]).bind fun t6 => (laws_eqRing.f N [(PV.agg [(t6.headD default).fld 0, (t6.headD default).fld 1]), (PV.agg [(t1.headD default).fld 0, (t1.headD default).fld 1])]).bind fun t7 => if (!((t7.headD default).toBool)) = false then (if (((t6.tail.headD default).toBool) != ((t1.tail.headD default).toBool)) = true then (some [(PV.sc (.bool false))]) else ((laws_heldRing.f N [(PV.agg [(t4.tail.headD default), (t4.tail.tail.headD default)]), (PV.sc (.int .i64 1))]).bind fun t8 => if decide (((t8.headD default).toInt) < 0) = true then (some [(PV.sc (.bool false))]) else (if (!decide (((t8.headD default).toInt) = ((t4.headD default).toInt))) = true then (some [(PV.sc (.bool false))]) else (some [(PV.sc (.bool true))])))) else (some [(PV.sc (.bool false))]))))) else (some [(PV.sc (.bool false))]))) := by kernel_rfl
noncomputable def laws_FnExactRingGet.S (N : Nat) : ASpec := ⟨[(9, .ro), (9, .ro)], [(4, .val)], laws_FnExactRingGet.f N⟩
theorem laws_FnExactRingGet.ok (N : Nat) : FnOk Tryz.prog 3 (laws_FnExactRingGet.S N) := fnOk_of (E := laws_FnExactRingGet.E N) mix Tryz.func3 (by kernel_rfl) (by kernel_rfl) (by kernel_rfl) (lk_ok (all_cons (spec_RingGet.ok N) (all_cons (impl_RingGet.ok N) (all_cons (laws_eqRing.ok N) (all_cons (laws_markRing.ok N) (all_cons (laws_heldRing.ok N) all_nil)))))) (by kernel_rfl) (fun _ _ h => h)

end Go.Proofs.YtkmcdpdhnccpjaaGreatDoor.FnExactRingGet
