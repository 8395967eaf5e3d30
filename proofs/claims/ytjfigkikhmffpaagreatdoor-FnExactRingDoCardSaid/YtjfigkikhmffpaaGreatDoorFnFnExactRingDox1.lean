/- What each function that the law FnExactRingDo reaches computes, as trees, part 1: no conditions. -/
import Derived.Test.YtjfigkikhmffpaaGreatDoorLib471112
import Derived.Test.YtjfigkikhmffpaaGreatDoorProg
import Derived.BigCall
import Derived.Deep.RegionHeld3
import Derived.Lib.SliceRun
import Derived.Lib.Small
import Derived.Lib.Walk
import Derived.Shelf.SlSortCmp.NoneTotal
import Derived.Shelf.SlicesQ.IndexFunc
import Derived.WalkKit
set_option maxRecDepth 100000
set_option linter.unusedVariables false
namespace Go.Proofs.YtjfigkikhmffpaaGreatDoor.FnExactRingDo
open Go Go.Proofs.YtjfigkikhmffpaaGreatDoorAm
theorem mix : Tryz.prog.follows .mixedOrders = true := by kernel_rfl
def shaStepP : PV := PV.agg (numsL [1116352408, 1899447441, 3049323471, 3921009573, 961987163, 1508970993, 2453635748, 2870763221, 3624381080, 310598401, 607225278, 1426881987, 1925078388, 2162078206, 2614888103, 3248222580, 3835390401, 4022224774, 264347078, 604807628, 770255983, 1249150122, 1555081692, 1996064986, 2554220882, 2821834349, 2952996808, 3210313671, 3336571891, 3584528711, 113926993, 338241895, 666307205, 773529912, 1294757372, 1396182291, 1695183700, 1986661051, 2177026350, 2456956037, 2730485921, 2820302411, 3259730800, 3345764771, 3516065817, 3600352804, 4094571909, 275423344, 430227734, 506948616, 659060556, 883997877, 958139571, 1322822218, 1537002063, 1747873779, 1955562222, 2024104815, 2227730452, 2361852424, 2428436474, 2756734187, 3204031479, 3329325298])
noncomputable instance glb : Glb Tryz.prog := glbOf Tryz.prog [(0, 168, shaStepP)] [(1, tabObj .u64 Lib.pow10Tab), (4, someI64)]

/-! ### laws_szStringS: function 29, loop.example/medlar/laws.szStringS -/
noncomputable def laws_szStringS.E (N : Nat) : Env := ⟨lk [], nzk [(5, ⟨[2, 3, 4, 6, 7, 8, 9, 10, 11, 12, 13, 14, 15, 16, 17, 18, 19, 20, 21, 22, 23, 24, 25, 26, 27], [], []⟩)], N, [], false⟩
noncomputable def laws_szStringS.f (N : Nat) (a : List PV) : Option Res := run Tryz.prog (laws_szStringS.E N) Tryz.f29 [(22, .ro), (3, .ro)] [(3, .val)] a
noncomputable def laws_szStringS.l0 (N : Nat) (n : Nat) (x0 : PV) (x1 : Int) (x5 : Int) : Option Res := loopAt Tryz.prog (laws_szStringS.E N) Tryz.f29 [(3, .val)] [1, 1, 1, 0, 1, 0] [] n ⟨mkSlots 28 [(0, .ro 22 x0), (1, .sc (.int .i64 x1)), (5, .sc (.int .i64 x5))], ohOf []⟩
theorem laws_szStringS.f_eq (N : Nat) (a0 : PV) (a1 : PV) : laws_szStringS.f N [a0, a1] = if decide ((IntKind.i64.wrap (a1.toInt - (a0.items.length : Int))) < 0) = true then (some [(PV.sc (.int .i64 (-1)))]) else (laws_szStringS.l0 N N a0 (IntKind.i64.wrap (a1.toInt - (a0.items.length : Int))) 0) := by kernel_rfl
theorem laws_szStringS.l0_eq (N : Nat) (n : Nat) (x0 : PV) (x1 : Int) (x5 : Int) : laws_szStringS.l0 N (n + 1) x0 x1 x5 = if decide (x5 < (x0.items.length : Int)) = true then (if 0 ≤ x5 then (if x5 < (x0.items.length : Int) then (if decide ((IntKind.i64.wrap (x1 - (((x0.elem x5.toNat).toStr).size : Int))) < 0) = true then (some [(PV.sc (.int .i64 (-1)))]) else (laws_szStringS.l0 N n x0 (IntKind.i64.wrap (x1 - (((x0.elem x5.toNat).toStr).size : Int))) (IntKind.i64.wrap (x5 + 1)))) else none) else none) else (some [(PV.sc (.int .i64 x1))]) := by kernel_rfl
noncomputable def laws_szStringS.S (N : Nat) : ASpec := ⟨[(22, .ro), (3, .ro)], [(3, .val)], laws_szStringS.f N⟩
theorem laws_szStringS.ok (N : Nat) : FnOk Tryz.prog 29 (laws_szStringS.S N) := fnOk_of (E := laws_szStringS.E N) mix Tryz.func29 (by kernel_rfl) (by kernel_rfl) (by kernel_rfl) (lk_ok all_nil) (by kernel_rfl) (fun _ _ h => h)

/-! ### laws_szIntS: function 30, loop.example/medlar/laws.szIntS -/
noncomputable def laws_szIntS.E (N : Nat) : Env := ⟨lk [], nzk [], N, [], false⟩
noncomputable def laws_szIntS.f (N : Nat) (a : List PV) : Option Res := run Tryz.prog (laws_szIntS.E N) Tryz.f30 [(23, .ro), (3, .ro)] [(3, .val)] a
theorem laws_szIntS.f_eq (N : Nat) (a0 : PV) (a1 : PV) : laws_szIntS.f N [a0, a1] = if decide ((IntKind.i64.wrap (a1.toInt - (a0.items.length : Int))) < 0) = true then (some [(PV.sc (.int .i64 (-1)))]) else (some [(PV.sc (.int .i64 (IntKind.i64.wrap (a1.toInt - (a0.items.length : Int)))))]) := by kernel_rfl
noncomputable def laws_szIntS.S (N : Nat) : ASpec := ⟨[(23, .ro), (3, .ro)], [(3, .val)], laws_szIntS.f N⟩
theorem laws_szIntS.ok (N : Nat) : FnOk Tryz.prog 30 (laws_szIntS.S N) := fnOk_of (E := laws_szIntS.E N) mix Tryz.func30 (by kernel_rfl) (by kernel_rfl) (by kernel_rfl) (lk_ok all_nil) (by kernel_rfl) (fun _ _ h => h)

/-! ### laws_szRing: function 6, loop.example/medlar/laws.szRing -/
noncomputable def laws_szRing.E (N : Nat) : Env := ⟨lk [(29, laws_szStringS.S N), (30, laws_szIntS.S N)], nzk [], N, [], false⟩
noncomputable def laws_szRing.f (N : Nat) (a : List PV) : Option Res := run Tryz.prog (laws_szRing.E N) Tryz.f6 [(25, .ro), (3, .ro)] [(3, .val)] a
theorem laws_szRing.f_eq (N : Nat) (a0 : PV) (a1 : PV) : laws_szRing.f N [a0, a1] = (laws_szStringS.f N [a0.fld 0, (PV.sc (.int .i64 a1.toInt))]).bind fun t1 => if decide (((t1.headD default).toInt) < 0) = true then (some [(PV.sc (.int .i64 (-1)))]) else ((laws_szIntS.f N [a0.fld 1, (PV.sc (.int .i64 ((t1.headD default).toInt)))]).bind fun t2 => if decide (((t2.headD default).toInt) < 0) = true then (some [(PV.sc (.int .i64 (-1)))]) else (some [(PV.sc (.int .i64 ((t2.headD default).toInt)))])) := by kernel_rfl
noncomputable def laws_szRing.S (N : Nat) : ASpec := ⟨[(25, .ro), (3, .ro)], [(3, .val)], laws_szRing.f N⟩
theorem laws_szRing.ok (N : Nat) : FnOk Tryz.prog 6 (laws_szRing.S N) := fnOk_of (E := laws_szRing.E N) mix Tryz.func6 (by kernel_rfl) (by kernel_rfl) (by kernel_rfl) (lk_ok (all_cons (laws_szStringS.ok N) (all_cons (laws_szIntS.ok N) all_nil))) (by kernel_rfl) (fun _ _ h => h)

/-! ### laws_szAffix: function 74, loop.example/medlar/laws.szAffix -/
noncomputable def laws_szAffix.E (N : Nat) : Env := ⟨lk [], nzk [], N, [], false⟩
noncomputable def laws_szAffix.f (N : Nat) (a : List PV) : Option Res := run Tryz.prog (laws_szAffix.E N) Tryz.f74 [(107, .ro), (3, .ro)] [(3, .val)] a
theorem laws_szAffix.f_eq (N : Nat) (a0 : PV) (a1 : PV) : laws_szAffix.f N [a0, a1] = if decide ((IntKind.i64.wrap (a1.toInt - (((a0.fld 0).toStr).size : Int))) < 0) = true then (some [(PV.sc (.int .i64 (-1)))]) else (if decide ((IntKind.i64.wrap ((IntKind.i64.wrap (a1.toInt - (((a0.fld 0).toStr).size : Int))) - (((a0.fld 2).toStr).size : Int))) < 0) = true then (some [(PV.sc (.int .i64 (-1)))]) else (if decide ((IntKind.i64.wrap ((IntKind.i64.wrap ((IntKind.i64.wrap (a1.toInt - (((a0.fld 0).toStr).size : Int))) - (((a0.fld 2).toStr).size : Int))) - (((a0.fld 3).toStr).size : Int))) < 0) = true then (some [(PV.sc (.int .i64 (-1)))]) else (if decide ((IntKind.i64.wrap ((IntKind.i64.wrap ((IntKind.i64.wrap ((IntKind.i64.wrap (a1.toInt - (((a0.fld 0).toStr).size : Int))) - (((a0.fld 2).toStr).size : Int))) - (((a0.fld 3).toStr).size : Int))) - (((a0.fld 4).toStr).size : Int))) < 0) = true then (some [(PV.sc (.int .i64 (-1)))]) else (some [(PV.sc (.int .i64 (IntKind.i64.wrap ((IntKind.i64.wrap ((IntKind.i64.wrap ((IntKind.i64.wrap (a1.toInt - (((a0.fld 0).toStr).size : Int))) - (((a0.fld 2).toStr).size : Int))) - (((a0.fld 3).toStr).size : Int))) - (((a0.fld 4).toStr).size : Int)))))])))) := by kernel_rfl
noncomputable def laws_szAffix.S (N : Nat) : ASpec := ⟨[(107, .ro), (3, .ro)], [(3, .val)], laws_szAffix.f N⟩
theorem laws_szAffix.ok (N : Nat) : FnOk Tryz.prog 74 (laws_szAffix.S N) := fnOk_of (E := laws_szAffix.E N) mix Tryz.func74 (by kernel_rfl) (by kernel_rfl) (by kernel_rfl) (lk_ok all_nil) (by kernel_rfl) (fun _ _ h => h)

/-! ### laws_szAffixS: function 31, loop.example/medlar/laws.szAffixS -/
noncomputable def laws_szAffixS.E (N : Nat) : Env := ⟨lk [(74, laws_szAffix.S N)], nzk [(5, ⟨[2, 3, 4, 6, 7, 8, 9, 10, 11, 12, 13, 14, 15, 16, 17, 18, 19, 20, 21, 22, 23, 24, 25, 26], [], []⟩)], N, [], false⟩
noncomputable def laws_szAffixS.f (N : Nat) (a : List PV) : Option Res := run Tryz.prog (laws_szAffixS.E N) Tryz.f31 [(26, .ro), (3, .ro)] [(3, .val)] a
noncomputable def laws_szAffixS.l0 (N : Nat) (n : Nat) (x0 : PV) (x1 : Int) (x5 : Int) : Option Res := loopAt Tryz.prog (laws_szAffixS.E N) Tryz.f31 [(3, .val)] [1, 1, 1, 0, 1, 0] [] n ⟨mkSlots 27 [(0, .ro 26 x0), (1, .sc (.int .i64 x1)), (5, .sc (.int .i64 x5))], ohOf []⟩
theorem laws_szAffixS.f_eq (N : Nat) (a0 : PV) (a1 : PV) : laws_szAffixS.f N [a0, a1] = if decide ((IntKind.i64.wrap (a1.toInt - (a0.items.length : Int))) < 0) = true then (some [(PV.sc (.int .i64 (-1)))]) else (laws_szAffixS.l0 N N a0 (IntKind.i64.wrap (a1.toInt - (a0.items.length : Int))) 0) := by kernel_rfl
theorem laws_szAffixS.l0_eq (N : Nat) (n : Nat) (x0 : PV) (x1 : Int) (x5 : Int) : laws_szAffixS.l0 N (n + 1) x0 x1 x5 = if decide (x5 < (x0.items.length : Int)) = true then (if 0 ≤ x5 then (if x5 < (x0.items.length : Int) then ((laws_szAffix.f N [(PV.agg [(PV.sc (.string (((x0.elem x5.toNat).fld 0).toStr))), (PV.sc (.bool (((x0.elem x5.toNat).fld 1).toBool))), (PV.sc (.string (((x0.elem x5.toNat).fld 2).toStr))), (PV.sc (.string (((x0.elem x5.toNat).fld 3).toStr))), (PV.sc (.string (((x0.elem x5.toNat).fld 4).toStr)))]), (PV.sc (.int .i64 x1))]).bind fun t1 => if decide (((t1.headD default).toInt) < 0) = true then (some [(PV.sc (.int .i64 (-1)))]) else (laws_szAffixS.l0 N n x0 ((t1.headD default).toInt) (IntKind.i64.wrap (x5 + 1)))) else none) else none) else (some [(PV.sc (.int .i64 x1))]) := by kernel_rfl
noncomputable def laws_szAffixS.S (N : Nat) : ASpec := ⟨[(26, .ro), (3, .ro)], [(3, .val)], laws_szAffixS.f N⟩
theorem laws_szAffixS.ok (N : Nat) : FnOk Tryz.prog 31 (laws_szAffixS.S N) := fnOk_of (E := laws_szAffixS.E N) mix Tryz.func31 (by kernel_rfl) (by kernel_rfl) (by kernel_rfl) (lk_ok (all_cons (laws_szAffix.ok N) all_nil)) (by kernel_rfl) (fun _ _ h => h)

/-! ### laws_szEntry: function 75, loop.example/medlar/laws.szEntry -/
noncomputable def laws_szEntry.E (N : Nat) : Env := ⟨lk [], nzk [], N, [], false⟩
noncomputable def laws_szEntry.f (N : Nat) (a : List PV) : Option Res := run Tryz.prog (laws_szEntry.E N) Tryz.f75 [(109, .ro), (3, .ro)] [(3, .val)] a
theorem laws_szEntry.f_eq (N : Nat) (a0 : PV) (a1 : PV) : laws_szEntry.f N [a0, a1] = if decide ((IntKind.i64.wrap (a1.toInt - (((a0.fld 0).toStr).size : Int))) < 0) = true then (some [(PV.sc (.int .i64 (-1)))]) else (if decide ((IntKind.i64.wrap ((IntKind.i64.wrap (a1.toInt - (((a0.fld 0).toStr).size : Int))) - (((a0.fld 1).toStr).size : Int))) < 0) = true then (some [(PV.sc (.int .i64 (-1)))]) else (some [(PV.sc (.int .i64 (IntKind.i64.wrap ((IntKind.i64.wrap (a1.toInt - (((a0.fld 0).toStr).size : Int))) - (((a0.fld 1).toStr).size : Int)))))])) := by kernel_rfl
noncomputable def laws_szEntry.S (N : Nat) : ASpec := ⟨[(109, .ro), (3, .ro)], [(3, .val)], laws_szEntry.f N⟩
theorem laws_szEntry.ok (N : Nat) : FnOk Tryz.prog 75 (laws_szEntry.S N) := fnOk_of (E := laws_szEntry.E N) mix Tryz.func75 (by kernel_rfl) (by kernel_rfl) (by kernel_rfl) (lk_ok all_nil) (by kernel_rfl) (fun _ _ h => h)

/-! ### laws_szEntryS: function 32, loop.example/medlar/laws.szEntryS -/
noncomputable def laws_szEntryS.E (N : Nat) : Env := ⟨lk [(75, laws_szEntry.S N)], nzk [(5, ⟨[2, 3, 4, 6, 7, 8, 9, 10, 11, 12, 13, 14, 15, 16, 17, 18, 19, 20, 21, 22, 23, 24, 25, 26], [], []⟩)], N, [], false⟩
noncomputable def laws_szEntryS.f (N : Nat) (a : List PV) : Option Res := run Tryz.prog (laws_szEntryS.E N) Tryz.f32 [(27, .ro), (3, .ro)] [(3, .val)] a
noncomputable def laws_szEntryS.l0 (N : Nat) (n : Nat) (x0 : PV) (x1 : Int) (x5 : Int) : Option Res := loopAt Tryz.prog (laws_szEntryS.E N) Tryz.f32 [(3, .val)] [1, 1, 1, 0, 1, 0] [] n ⟨mkSlots 27 [(0, .ro 27 x0), (1, .sc (.int .i64 x1)), (5, .sc (.int .i64 x5))], ohOf []⟩
theorem laws_szEntryS.f_eq (N : Nat) (a0 : PV) (a1 : PV) : laws_szEntryS.f N [a0, a1] = if decide ((IntKind.i64.wrap (a1.toInt - (a0.items.length : Int))) < 0) = true then (some [(PV.sc (.int .i64 (-1)))]) else (laws_szEntryS.l0 N N a0 (IntKind.i64.wrap (a1.toInt - (a0.items.length : Int))) 0) := by kernel_rfl
theorem laws_szEntryS.l0_eq (N : Nat) (n : Nat) (x0 : PV) (x1 : Int) (x5 : Int) : laws_szEntryS.l0 N (n + 1) x0 x1 x5 = if decide (x5 < (x0.items.length : Int)) = true then (if 0 ≤ x5 then (if x5 < (x0.items.length : Int) then ((laws_szEntry.f N [(PV.agg [(PV.sc (.string (((x0.elem x5.toNat).fld 0).toStr))), (PV.sc (.string (((x0.elem x5.toNat).fld 1).toStr)))]), (PV.sc (.int .i64 x1))]).bind fun t1 => if decide (((t1.headD default).toInt) < 0) = true then (some [(PV.sc (.int .i64 (-1)))]) else (laws_szEntryS.l0 N n x0 ((t1.headD default).toInt) (IntKind.i64.wrap (x5 + 1)))) else none) else none) else (some [(PV.sc (.int .i64 x1))]) := by kernel_rfl
noncomputable def laws_szEntryS.S (N : Nat) : ASpec := ⟨[(27, .ro), (3, .ro)], [(3, .val)], laws_szEntryS.f N⟩
theorem laws_szEntryS.ok (N : Nat) : FnOk Tryz.prog 32 (laws_szEntryS.S N) := fnOk_of (E := laws_szEntryS.E N) mix Tryz.func32 (by kernel_rfl) (by kernel_rfl) (by kernel_rfl) (lk_ok (all_cons (laws_szEntry.ok N) all_nil)) (by kernel_rfl) (fun _ _ h => h)

/-! ### laws_szBook: function 7, loop.example/medlar/laws.szBook -/
noncomputable def laws_szBook.E (N : Nat) : Env := ⟨lk [(31, laws_szAffixS.S N), (32, laws_szEntryS.S N)], nzk [], N, [], false⟩
noncomputable def laws_szBook.f (N : Nat) (a : List PV) : Option Res := run Tryz.prog (laws_szBook.E N) Tryz.f7 [(29, .ro), (3, .ro)] [(3, .val)] a
theorem laws_szBook.f_eq (N : Nat) (a0 : PV) (a1 : PV) : laws_szBook.f N [a0, a1] = (laws_szAffixS.f N [a0.fld 0, (PV.sc (.int .i64 a1.toInt))]).bind fun t1 => if decide (((t1.headD default).toInt) < 0) = true then (some [(PV.sc (.int .i64 (-1)))]) else ((laws_szEntryS.f N [a0.fld 1, (PV.sc (.int .i64 ((t1.headD default).toInt)))]).bind fun t2 => if decide (((t2.headD default).toInt) < 0) = true then (some [(PV.sc (.int .i64 (-1)))]) else (some [(PV.sc (.int .i64 ((t2.headD default).toInt)))])) := by kernel_rfl
noncomputable def laws_szBook.S (N : Nat) : ASpec := ⟨[(29, .ro), (3, .ro)], [(3, .val)], laws_szBook.f N⟩
theorem laws_szBook.ok (N : Nat) : FnOk Tryz.prog 7 (laws_szBook.S N) := fnOk_of (E := laws_szBook.E N) mix Tryz.func7 (by kernel_rfl) (by kernel_rfl) (by kernel_rfl) (lk_ok (all_cons (laws_szAffixS.ok N) (all_cons (laws_szEntryS.ok N) all_nil))) (by kernel_rfl) (fun _ _ h => h)

/-! ### laws_szDelta: function 54, loop.example/medlar/laws.szDelta -/
noncomputable def laws_szDelta.E (N : Nat) : Env := ⟨lk [(29, laws_szStringS.S N), (32, laws_szEntryS.S N), (31, laws_szAffixS.S N)], nzk [], N, [], false⟩
noncomputable def laws_szDelta.f (N : Nat) (a : List PV) : Option Res := run Tryz.prog (laws_szDelta.E N) Tryz.f54 [(53, .ro), (3, .ro)] [(3, .val)] a
theorem laws_szDelta.f_eq (N : Nat) (a0 : PV) (a1 : PV) : laws_szDelta.f N [a0, a1] = (laws_szStringS.f N [a0.fld 0, (PV.sc (.int .i64 a1.toInt))]).bind fun t1 => if decide (((t1.headD default).toInt) < 0) = true then (some [(PV.sc (.int .i64 (-1)))]) else ((laws_szEntryS.f N [a0.fld 1, (PV.sc (.int .i64 ((t1.headD default).toInt)))]).bind fun t2 => if decide (((t2.headD default).toInt) < 0) = true then (some [(PV.sc (.int .i64 (-1)))]) else ((laws_szAffixS.f N [a0.fld 3, (PV.sc (.int .i64 ((t2.headD default).toInt)))]).bind fun t3 => if decide (((t3.headD default).toInt) < 0) = true then (some [(PV.sc (.int .i64 (-1)))]) else (some [(PV.sc (.int .i64 ((t3.headD default).toInt)))]))) := by kernel_rfl
noncomputable def laws_szDelta.S (N : Nat) : ASpec := ⟨[(53, .ro), (3, .ro)], [(3, .val)], laws_szDelta.f N⟩
theorem laws_szDelta.ok (N : Nat) : FnOk Tryz.prog 54 (laws_szDelta.S N) := fnOk_of (E := laws_szDelta.E N) mix Tryz.func54 (by kernel_rfl) (by kernel_rfl) (by kernel_rfl) (lk_ok (all_cons (laws_szStringS.ok N) (all_cons (laws_szEntryS.ok N) (all_cons (laws_szAffixS.ok N) all_nil)))) (by kernel_rfl) (fun _ _ h => h)

/-! ### laws_szRelease: function 19, loop.example/medlar/laws.szRelease -/
noncomputable def laws_szRelease.E (N : Nat) : Env := ⟨lk [(54, laws_szDelta.S N)], nzk [], N, [], false⟩
noncomputable def laws_szRelease.f (N : Nat) (a : List PV) : Option Res := run Tryz.prog (laws_szRelease.E N) Tryz.f19 [(55, .ro), (3, .ro)] [(3, .val)] a
theorem laws_szRelease.f_eq (N : Nat) (a0 : PV) (a1 : PV) : laws_szRelease.f N [a0, a1] = (laws_szDelta.f N [(PV.agg [(a0.fld 1).fld 0, (a0.fld 1).fld 1, (PV.sc (.bool (((a0.fld 1).fld 2).toBool))), (a0.fld 1).fld 3]), (PV.sc (.int .i64 a1.toInt))]).bind fun t1 => if decide (((t1.headD default).toInt) < 0) = true then (some [(PV.sc (.int .i64 (-1)))]) else (if decide ((IntKind.i64.wrap (((t1.headD default).toInt) - (((a0.fld 2).toStr).size : Int))) < 0) = true then (some [(PV.sc (.int .i64 (-1)))]) else (if decide ((IntKind.i64.wrap ((IntKind.i64.wrap (((t1.headD default).toInt) - (((a0.fld 2).toStr).size : Int))) - (((a0.fld 3).toStr).size : Int))) < 0) = true then (some [(PV.sc (.int .i64 (-1)))]) else (some [(PV.sc (.int .i64 (IntKind.i64.wrap ((IntKind.i64.wrap (((t1.headD default).toInt) - (((a0.fld 2).toStr).size : Int))) - (((a0.fld 3).toStr).size : Int)))))]))) := by kernel_rfl
noncomputable def laws_szRelease.S (N : Nat) : ASpec := ⟨[(55, .ro), (3, .ro)], [(3, .val)], laws_szRelease.f N⟩
theorem laws_szRelease.ok (N : Nat) : FnOk Tryz.prog 19 (laws_szRelease.S N) := fnOk_of (E := laws_szRelease.E N) mix Tryz.func19 (by kernel_rfl) (by kernel_rfl) (by kernel_rfl) (lk_ok (all_cons (laws_szDelta.ok N) all_nil)) (by kernel_rfl) (fun _ _ h => h)

/-! ### laws_toStringS: function 36, loop.example/medlar/laws.toStringS -/
noncomputable def laws_toStringS.E (N : Nat) : Env := ⟨lk [], nzk [(3, ⟨[1, 2, 5, 6, 7, 8, 9, 10, 11, 12, 13, 14, 15, 16, 17, 18, 19, 20, 21], [], []⟩)], N, [], false⟩
noncomputable def laws_toStringS.f (N : Nat) (a : List PV) : Option Res := run Tryz.prog (laws_toStringS.E N) Tryz.f36 [(22, .ro)] [(22, .own)] a
noncomputable def laws_toStringS.l0 (N : Nat) (n : Nat) (x0 : PV) (x4 : Int) (y0 : List PV) : Option Res := loopAt Tryz.prog (laws_toStringS.E N) Tryz.f36 [(22, .own)] [1, 1, 0, 1, 0] [] n ⟨mkSlots 22 [(0, .ro 22 x0), (3, .ref 0 []), (4, .sc (.int .i64 x4))], ohOf [.row 22 (PV.list y0)]⟩
theorem laws_toStringS.f_eq (N : Nat) (a0 : PV) : laws_toStringS.f N [a0] = if 0 ≤ (a0.items.length : Int) then (if (a0.items.length : Int) ≤ (a0.items.length : Int) then (if a0.items.length ≤ 17592186044416 then (laws_toStringS.l0 N N a0 0 (List.replicate a0.items.length (PV.sc (.string (ByteArray.mk #[]))))) else none) else none) else none := by kernel_rfl
theorem laws_toStringS.l0_eq (N : Nat) (n : Nat) (x0 : PV) (x4 : Int) (y0 : List PV) : laws_toStringS.l0 N (n + 1) x0 x4 y0 = if decide (x4 < (x0.items.length : Int)) = true then (if 0 ≤ x4 then (if x4 < (x0.items.length : Int) then (if 0 ≤ x4 then (if x4 < (y0.length : Int) then (laws_toStringS.l0 N n x0 (IntKind.i64.wrap (x4 + 1)) (y0.set x4.toNat (PV.sc (.string ((x0.elem x4.toNat).toStr))))) else none) else none) else none) else none) else (some [(PV.list y0)]) := by kernel_rfl
noncomputable def laws_toStringS.S (N : Nat) : ASpec := ⟨[(22, .ro)], [(22, .own)], laws_toStringS.f N⟩
theorem laws_toStringS.ok (N : Nat) : FnOk Tryz.prog 36 (laws_toStringS.S N) := fnOk_of (E := laws_toStringS.E N) mix Tryz.func36 (by kernel_rfl) (by kernel_rfl) (by kernel_rfl) (lk_ok all_nil) (by kernel_rfl) (fun _ _ h => h)

/-! ### laws_toIntS: function 37, loop.example/medlar/laws.toIntS -/
noncomputable def laws_toIntS.E (N : Nat) : Env := ⟨lk [], nzk [(3, ⟨[1, 2, 5, 6, 7, 8, 9, 10, 11, 12, 13, 14, 15, 16, 17, 18, 19, 20, 21], [], []⟩)], N, [], false⟩
noncomputable def laws_toIntS.f (N : Nat) (a : List PV) : Option Res := run Tryz.prog (laws_toIntS.E N) Tryz.f37 [(23, .ro)] [(23, .own)] a
noncomputable def laws_toIntS.l0 (N : Nat) (n : Nat) (x0 : PV) (x4 : Int) (y0 : List PV) : Option Res := loopAt Tryz.prog (laws_toIntS.E N) Tryz.f37 [(23, .own)] [1, 1, 0, 1, 0] [] n ⟨mkSlots 22 [(0, .ro 23 x0), (3, .ref 0 []), (4, .sc (.int .i64 x4))], ohOf [.row 23 (PV.list y0)]⟩
theorem laws_toIntS.f_eq (N : Nat) (a0 : PV) : laws_toIntS.f N [a0] = if 0 ≤ (a0.items.length : Int) then (if (a0.items.length : Int) ≤ (a0.items.length : Int) then (if a0.items.length ≤ 35184372088832 then (laws_toIntS.l0 N N a0 0 (List.replicate a0.items.length (PV.sc (.int .i64 0)))) else none) else none) else none := by kernel_rfl
theorem laws_toIntS.l0_eq (N : Nat) (n : Nat) (x0 : PV) (x4 : Int) (y0 : List PV) : laws_toIntS.l0 N (n + 1) x0 x4 y0 = if decide (x4 < (x0.items.length : Int)) = true then (if 0 ≤ x4 then (if x4 < (x0.items.length : Int) then (if 0 ≤ x4 then (if x4 < (y0.length : Int) then (laws_toIntS.l0 N n x0 (IntKind.i64.wrap (x4 + 1)) (y0.set x4.toNat (PV.sc (.int .i64 ((x0.elem x4.toNat).toInt))))) else none) else none) else none) else none) else (some [(PV.list y0)]) := by kernel_rfl
noncomputable def laws_toIntS.S (N : Nat) : ASpec := ⟨[(23, .ro)], [(23, .own)], laws_toIntS.f N⟩
theorem laws_toIntS.ok (N : Nat) : FnOk Tryz.prog 37 (laws_toIntS.S N) := fnOk_of (E := laws_toIntS.E N) mix Tryz.func37 (by kernel_rfl) (by kernel_rfl) (by kernel_rfl) (lk_ok all_nil) (by kernel_rfl) (fun _ _ h => h)

/-! ### laws_toRing: function 9, loop.example/medlar/laws.toRing -/
noncomputable def laws_toRing.E (N : Nat) : Env := ⟨lk [(36, laws_toStringS.S N), (37, laws_toIntS.S N)], nzk [], N, [], false⟩
noncomputable def laws_toRing.f (N : Nat) (a : List PV) : Option Res := run Tryz.prog (laws_toRing.E N) Tryz.f9 [(25, .ro)] [(40, .own)] a
theorem laws_toRing.f_eq (N : Nat) (a0 : PV) : laws_toRing.f N [a0] = (laws_toStringS.f N [a0.fld 0]).bind fun t1 => (laws_toIntS.f N [a0.fld 1]).bind fun t2 => some [(PV.agg [(t1.headD default), (t2.headD default)])] := by kernel_rfl
noncomputable def laws_toRing.S (N : Nat) : ASpec := ⟨[(25, .ro)], [(40, .own)], laws_toRing.f N⟩
theorem laws_toRing.ok (N : Nat) : FnOk Tryz.prog 9 (laws_toRing.S N) := fnOk_of (E := laws_toRing.E N) mix Tryz.func9 (by kernel_rfl) (by kernel_rfl) (by kernel_rfl) (lk_ok (all_cons (laws_toStringS.ok N) (all_cons (laws_toIntS.ok N) all_nil))) (by kernel_rfl) (fun _ _ h => h)

/-! ### laws_toAffix: function 84, loop.example/medlar/laws.toAffix -/
noncomputable def laws_toAffix.E (N : Nat) : Env := ⟨lk [], nzk [], N, [], false⟩
noncomputable def laws_toAffix.f (N : Nat) (a : List PV) : Option Res := run Tryz.prog (laws_toAffix.E N) Tryz.f84 [(107, .ro)] [(97, .val)] a
theorem laws_toAffix.f_eq (N : Nat) (a0 : PV) : laws_toAffix.f N [a0] = some [(PV.agg [(PV.sc (.string ((a0.fld 0).toStr))), (PV.sc (.bool ((a0.fld 1).toBool))), (PV.sc (.string ((a0.fld 2).toStr))), (PV.sc (.string ((a0.fld 3).toStr))), (PV.sc (.string ((a0.fld 4).toStr)))])] := by kernel_rfl
noncomputable def laws_toAffix.S (N : Nat) : ASpec := ⟨[(107, .ro)], [(97, .val)], laws_toAffix.f N⟩
theorem laws_toAffix.ok (N : Nat) : FnOk Tryz.prog 84 (laws_toAffix.S N) := fnOk_of (E := laws_toAffix.E N) mix Tryz.func84 (by kernel_rfl) (by kernel_rfl) (by kernel_rfl) (lk_ok all_nil) (by kernel_rfl) (fun _ _ h => h)

/-! ### laws_toAffixS: function 38, loop.example/medlar/laws.toAffixS -/
noncomputable def laws_toAffixS.E (N : Nat) : Env := ⟨lk [(84, laws_toAffix.S N)], nzk [(3, ⟨[1, 2, 5, 6, 7, 8, 9, 10, 11, 12, 13, 14, 15, 16, 17, 18, 19, 20, 21, 22], [], []⟩)], N, [], false⟩
noncomputable def laws_toAffixS.f (N : Nat) (a : List PV) : Option Res := run Tryz.prog (laws_toAffixS.E N) Tryz.f38 [(26, .ro)] [(33, .own)] a
noncomputable def laws_toAffixS.l0 (N : Nat) (n : Nat) (x0 : PV) (x4 : Int) (y0 : List PV) : Option Res := loopAt Tryz.prog (laws_toAffixS.E N) Tryz.f38 [(33, .own)] [1, 1, 0, 1, 0] [] n ⟨mkSlots 23 [(0, .ro 26 x0), (3, .ref 0 []), (4, .sc (.int .i64 x4))], ohOf [.row 33 (PV.list y0)]⟩
theorem laws_toAffixS.f_eq (N : Nat) (a0 : PV) : laws_toAffixS.f N [a0] = if 0 ≤ (a0.items.length : Int) then (if (a0.items.length : Int) ≤ (a0.items.length : Int) then (if a0.items.length ≤ 3909374676536 then (laws_toAffixS.l0 N N a0 0 (List.replicate a0.items.length (PV.agg [(PV.sc (.string (ByteArray.mk #[]))), (PV.sc (.bool false)), (PV.sc (.string (ByteArray.mk #[]))), (PV.sc (.string (ByteArray.mk #[]))), (PV.sc (.string (ByteArray.mk #[])))]))) else none) else none) else none := by kernel_rfl
theorem laws_toAffixS.l0_eq (N : Nat) (n : Nat) (x0 : PV) (x4 : Int) (y0 : List PV) : laws_toAffixS.l0 N (n + 1) x0 x4 y0 = if decide (x4 < (x0.items.length : Int)) = true then (if 0 ≤ x4 then (if x4 < (x0.items.length : Int) then ((laws_toAffix.f N [(PV.agg [(PV.sc (.string (((x0.elem x4.toNat).fld 0).toStr))), (PV.sc (.bool (((x0.elem x4.toNat).fld 1).toBool))), (PV.sc (.string (((x0.elem x4.toNat).fld 2).toStr))), (PV.sc (.string (((x0.elem x4.toNat).fld 3).toStr))), (PV.sc (.string (((x0.elem x4.toNat).fld 4).toStr)))])]).bind fun t1 => if 0 ≤ x4 then (if x4 < (y0.length : Int) then (laws_toAffixS.l0 N n x0 (IntKind.i64.wrap (x4 + 1)) (y0.set x4.toNat (PV.agg [(PV.sc (.string (((t1.headD default).fld 0).toStr))), (PV.sc (.bool (((t1.headD default).fld 1).toBool))), (PV.sc (.string (((t1.headD default).fld 2).toStr))), (PV.sc (.string (((t1.headD default).fld 3).toStr))), (PV.sc (.string (((t1.headD default).fld 4).toStr)))]))) else none) else none) else none) else none) else (some [(PV.list y0)]) := by kernel_rfl
noncomputable def laws_toAffixS.S (N : Nat) : ASpec := ⟨[(26, .ro)], [(33, .own)], laws_toAffixS.f N⟩
theorem laws_toAffixS.ok (N : Nat) : FnOk Tryz.prog 38 (laws_toAffixS.S N) := fnOk_of (E := laws_toAffixS.E N) mix Tryz.func38 (by kernel_rfl) (by kernel_rfl) (by kernel_rfl) (lk_ok (all_cons (laws_toAffix.ok N) all_nil)) (by kernel_rfl) (fun _ _ h => h)

/-! ### laws_toEntry: function 85, loop.example/medlar/laws.toEntry -/
noncomputable def laws_toEntry.E (N : Nat) : Env := ⟨lk [], nzk [], N, [], false⟩
noncomputable def laws_toEntry.f (N : Nat) (a : List PV) : Option Res := run Tryz.prog (laws_toEntry.E N) Tryz.f85 [(109, .ro)] [(99, .val)] a
theorem laws_toEntry.f_eq (N : Nat) (a0 : PV) : laws_toEntry.f N [a0] = some [(PV.agg [(PV.sc (.string ((a0.fld 0).toStr))), (PV.sc (.string ((a0.fld 1).toStr)))])] := by kernel_rfl
noncomputable def laws_toEntry.S (N : Nat) : ASpec := ⟨[(109, .ro)], [(99, .val)], laws_toEntry.f N⟩
theorem laws_toEntry.ok (N : Nat) : FnOk Tryz.prog 85 (laws_toEntry.S N) := fnOk_of (E := laws_toEntry.E N) mix Tryz.func85 (by kernel_rfl) (by kernel_rfl) (by kernel_rfl) (lk_ok all_nil) (by kernel_rfl) (fun _ _ h => h)

/-! ### laws_toEntryS: function 39, loop.example/medlar/laws.toEntryS -/
noncomputable def laws_toEntryS.E (N : Nat) : Env := ⟨lk [(85, laws_toEntry.S N)], nzk [(3, ⟨[1, 2, 5, 6, 7, 8, 9, 10, 11, 12, 13, 14, 15, 16, 17, 18, 19, 20, 21, 22], [], []⟩)], N, [], false⟩
noncomputable def laws_toEntryS.f (N : Nat) (a : List PV) : Option Res := run Tryz.prog (laws_toEntryS.E N) Tryz.f39 [(27, .ro)] [(32, .own)] a
noncomputable def laws_toEntryS.l0 (N : Nat) (n : Nat) (x0 : PV) (x4 : Int) (y0 : List PV) : Option Res := loopAt Tryz.prog (laws_toEntryS.E N) Tryz.f39 [(32, .own)] [1, 1, 0, 1, 0] [] n ⟨mkSlots 23 [(0, .ro 27 x0), (3, .ref 0 []), (4, .sc (.int .i64 x4))], ohOf [.row 32 (PV.list y0)]⟩
theorem laws_toEntryS.f_eq (N : Nat) (a0 : PV) : laws_toEntryS.f N [a0] = if 0 ≤ (a0.items.length : Int) then (if (a0.items.length : Int) ≤ (a0.items.length : Int) then (if a0.items.length ≤ 8796093022208 then (laws_toEntryS.l0 N N a0 0 (List.replicate a0.items.length (PV.agg [(PV.sc (.string (ByteArray.mk #[]))), (PV.sc (.string (ByteArray.mk #[])))]))) else none) else none) else none := by kernel_rfl
theorem laws_toEntryS.l0_eq (N : Nat) (n : Nat) (x0 : PV) (x4 : Int) (y0 : List PV) : laws_toEntryS.l0 N (n + 1) x0 x4 y0 = if decide (x4 < (x0.items.length : Int)) = true then (if 0 ≤ x4 then (if x4 < (x0.items.length : Int) then ((laws_toEntry.f N [(PV.agg [(PV.sc (.string (((x0.elem x4.toNat).fld 0).toStr))), (PV.sc (.string (((x0.elem x4.toNat).fld 1).toStr)))])]).bind fun t1 => if 0 ≤ x4 then (if x4 < (y0.length : Int) then (laws_toEntryS.l0 N n x0 (IntKind.i64.wrap (x4 + 1)) (y0.set x4.toNat (PV.agg [(PV.sc (.string (((t1.headD default).fld 0).toStr))), (PV.sc (.string (((t1.headD default).fld 1).toStr)))]))) else none) else none) else none) else none) else (some [(PV.list y0)]) := by kernel_rfl
noncomputable def laws_toEntryS.S (N : Nat) : ASpec := ⟨[(27, .ro)], [(32, .own)], laws_toEntryS.f N⟩
theorem laws_toEntryS.ok (N : Nat) : FnOk Tryz.prog 39 (laws_toEntryS.S N) := fnOk_of (E := laws_toEntryS.E N) mix Tryz.func39 (by kernel_rfl) (by kernel_rfl) (by kernel_rfl) (lk_ok (all_cons (laws_toEntry.ok N) all_nil)) (by kernel_rfl) (fun _ _ h => h)

/-! ### laws_toBook: function 10, loop.example/medlar/laws.toBook -/
noncomputable def laws_toBook.E (N : Nat) : Env := ⟨lk [(38, laws_toAffixS.S N), (39, laws_toEntryS.S N)], nzk [], N, [], false⟩
noncomputable def laws_toBook.f (N : Nat) (a : List PV) : Option Res := run Tryz.prog (laws_toBook.E N) Tryz.f10 [(29, .ro)] [(43, .own)] a
theorem laws_toBook.f_eq (N : Nat) (a0 : PV) : laws_toBook.f N [a0] = (laws_toAffixS.f N [a0.fld 0]).bind fun t1 => (laws_toEntryS.f N [a0.fld 1]).bind fun t2 => some [(PV.agg [(t1.headD default), (t2.headD default)])] := by kernel_rfl
noncomputable def laws_toBook.S (N : Nat) : ASpec := ⟨[(29, .ro)], [(43, .own)], laws_toBook.f N⟩
theorem laws_toBook.ok (N : Nat) : FnOk Tryz.prog 10 (laws_toBook.S N) := fnOk_of (E := laws_toBook.E N) mix Tryz.func10 (by kernel_rfl) (by kernel_rfl) (by kernel_rfl) (lk_ok (all_cons (laws_toAffixS.ok N) (all_cons (laws_toEntryS.ok N) all_nil))) (by kernel_rfl) (fun _ _ h => h)

/-! ### laws_toDelta: function 57, loop.example/medlar/laws.toDelta -/
noncomputable def laws_toDelta.E (N : Nat) : Env := ⟨lk [(36, laws_toStringS.S N), (39, laws_toEntryS.S N), (38, laws_toAffixS.S N)], nzk [], N, [], false⟩
noncomputable def laws_toDelta.f (N : Nat) (a : List PV) : Option Res := run Tryz.prog (laws_toDelta.E N) Tryz.f57 [(53, .ro)] [(35, .own)] a
theorem laws_toDelta.f_eq (N : Nat) (a0 : PV) : laws_toDelta.f N [a0] = (laws_toStringS.f N [a0.fld 0]).bind fun t1 => (laws_toEntryS.f N [a0.fld 1]).bind fun t2 => (laws_toAffixS.f N [a0.fld 3]).bind fun t3 => some [(PV.agg [(t1.headD default), (t2.headD default), (PV.sc (.bool ((a0.fld 2).toBool))), (t3.headD default)])] := by kernel_rfl
noncomputable def laws_toDelta.S (N : Nat) : ASpec := ⟨[(53, .ro)], [(35, .own)], laws_toDelta.f N⟩
theorem laws_toDelta.ok (N : Nat) : FnOk Tryz.prog 57 (laws_toDelta.S N) := fnOk_of (E := laws_toDelta.E N) mix Tryz.func57 (by kernel_rfl) (by kernel_rfl) (by kernel_rfl) (lk_ok (all_cons (laws_toStringS.ok N) (all_cons (laws_toEntryS.ok N) (all_cons (laws_toAffixS.ok N) all_nil)))) (by kernel_rfl) (fun _ _ h => h)

/-! ### laws_toRelease: function 21, loop.example/medlar/laws.toRelease -/
noncomputable def laws_toRelease.E (N : Nat) : Env := ⟨lk [(57, laws_toDelta.S N)], nzk [], N, [], false⟩
noncomputable def laws_toRelease.f (N : Nat) (a : List PV) : Option Res := run Tryz.prog (laws_toRelease.E N) Tryz.f21 [(55, .ro)] [(37, .own)] a
theorem laws_toRelease.f_eq (N : Nat) (a0 : PV) : laws_toRelease.f N [a0] = (laws_toDelta.f N [(PV.agg [(a0.fld 1).fld 0, (a0.fld 1).fld 1, (PV.sc (.bool (((a0.fld 1).fld 2).toBool))), (a0.fld 1).fld 3])]).bind fun t1 => some [(PV.agg [(PV.sc (.int .i64 ((a0.fld 0).toInt))), (PV.agg [(t1.headD default).fld 0, (t1.headD default).fld 1, (PV.sc (.bool (((t1.headD default).fld 2).toBool))), (t1.headD default).fld 3]), (PV.sc (.string ((a0.fld 2).toStr))), (PV.sc (.string ((a0.fld 3).toStr)))])] := by kernel_rfl
noncomputable def laws_toRelease.S (N : Nat) : ASpec := ⟨[(55, .ro)], [(37, .own)], laws_toRelease.f N⟩
theorem laws_toRelease.ok (N : Nat) : FnOk Tryz.prog 21 (laws_toRelease.S N) := fnOk_of (E := laws_toRelease.E N) mix Tryz.func21 (by kernel_rfl) (by kernel_rfl) (by kernel_rfl) (lk_ok (all_cons (laws_toDelta.ok N) all_nil)) (by kernel_rfl) (fun _ _ h => h)

/-! ### spec_l1In: function 77, loop.example/medlar/spec.l1In -/
noncomputable def spec_l1In.E (N : Nat) : Env := ⟨lk [], nzk [], N, [], false⟩
noncomputable def spec_l1In.f (N : Nat) (a : List PV) : Option Res := run Tryz.prog (spec_l1In.E N) Tryz.f77 [(3, .ro), (3, .ro), (3, .ro)] [(4, .val)] a
theorem spec_l1In.f_eq (N : Nat) (a0 : PV) (a1 : PV) (a2 : PV) : spec_l1In.f N [a0, a1, a2] = if decide (a1.toInt ≤ a0.toInt) = true then (some [(PV.sc (.bool (decide (a0.toInt ≤ a2.toInt))))]) else (some [(PV.sc (.bool false))]) := by kernel_rfl
noncomputable def spec_l1In.S (N : Nat) : ASpec := ⟨[(3, .ro), (3, .ro), (3, .ro)], [(4, .val)], spec_l1In.f N⟩
theorem spec_l1In.ok (N : Nat) : FnOk Tryz.prog 77 (spec_l1In.S N) := fnOk_of (E := spec_l1In.E N) mix Tryz.func77 (by kernel_rfl) (by kernel_rfl) (by kernel_rfl) (lk_ok all_nil) (by kernel_rfl) (fun _ _ h => h)

/-! ### spec_l6Key: function 76, loop.example/medlar/spec.l6Key -/
noncomputable def spec_l6Key.E (N : Nat) : Env := ⟨lk [(77, spec_l1In.S N)], nzk [], N, [], false⟩
noncomputable def spec_l6Key.f (N : Nat) (a : List PV) : Option Res := run Tryz.prog (spec_l6Key.E N) Tryz.f76 [(9, .ro)] [(4, .val)] a
theorem spec_l6Key.f_eq (N : Nat) (a0 : PV) : spec_l6Key.f N [a0] = (spec_l1In.f N [(PV.sc (.int .i64 (a0.toStr.size : Int))), (PV.sc (.int .i64 1)), (PV.sc (.int .i64 64))]).bind fun t1 => if (t1.headD default).toBool = true then (if 0 ≤ (IntKind.i64.wrap ((a0.toStr.size : Int) - 1)) then (if (IntKind.i64.wrap ((a0.toStr.size : Int) - 1)) < (a0.toStr.size : Int) then (some [(PV.sc (.bool (!decide (((a0.toStr.get! (IntKind.i64.wrap ((a0.toStr.size : Int) - 1)).toNat).toNat : Int) = 0))))]) else none) else none) else (some [(PV.sc (.bool false))]) := by kernel_rfl
noncomputable def spec_l6Key.S (N : Nat) : ASpec := ⟨[(9, .ro)], [(4, .val)], spec_l6Key.f N⟩
theorem spec_l6Key.ok (N : Nat) : FnOk Tryz.prog 76 (spec_l6Key.S N) := fnOk_of (E := spec_l6Key.E N) mix Tryz.func76 (by kernel_rfl) (by kernel_rfl) (by kernel_rfl) (lk_ok (all_cons (spec_l1In.ok N) all_nil)) (by kernel_rfl) (fun _ _ h => h)

/-! ### spec_RingOk: function 33, loop.example/medlar/spec.RingOk -/
noncomputable def spec_RingOk.E (N : Nat) : Env := ⟨lk [(76, spec_l6Key.S N), (77, spec_l1In.S N)], nzk [(2, ⟨[0, 2, 4, 5, 6, 7, 8, 9, 10, 11, 12, 13, 14, 15, 16, 17, 18, 19, 20, 21, 22, 23, 24, 25, 26, 27, 28, 29, 30, 31, 32, 33, 34, 35, 36, 37, 38, 39, 40, 41, 42, 43, 44, 45, 46, 47, 48, 49, 50, 51, 52, 53, 54, 55, 56, 57, 58, 59, 60, 61, 62, 63, 64, 65, 66, 67, 68, 69, 70, 71, 72, 73, 74, 75, 76, 77, 78, 79, 80, 81, 82], [], []⟩), (7, ⟨[0, 2, 5, 6, 7, 8, 9, 10, 11, 12, 13, 14, 15, 16, 17, 18, 19, 20, 21, 22, 23, 24, 25, 26, 27, 28, 29, 30, 31, 32, 33, 34, 35, 36, 37, 38, 39, 40, 41, 42, 43, 44, 45, 46, 47, 48, 49, 50, 51, 52, 53, 54, 55, 56, 57, 58, 59, 60, 61, 62, 63, 64, 65, 66, 67, 68, 69, 70, 71, 72, 73, 74, 75, 76, 77, 78, 79, 80, 81, 82], [], []⟩), (12, ⟨[0, 2, 3, 4, 6, 7, 8, 9, 10, 11, 12, 13, 14, 15, 16, 17, 18, 19, 20, 21, 22, 23, 24, 25, 26, 27, 28, 29, 30, 31, 32, 33, 34, 35, 36, 37, 38, 39, 40, 41, 42, 43, 44, 45, 46, 47, 48, 49, 50, 51, 52, 53, 54, 55, 56, 57, 58, 59, 60, 61, 62, 63, 64, 65, 66, 67, 68, 69, 70, 71, 72, 73, 74, 75, 76, 77, 78, 79, 80, 81, 82], [], []⟩)], N, [], false⟩
noncomputable def spec_RingOk.f (N : Nat) (a : List PV) : Option Res := run Tryz.prog (spec_RingOk.E N) Tryz.f33 [(40, .ro)] [(4, .val)] a
noncomputable def spec_RingOk.l0 (N : Nat) (n : Nat) (x3 : Int) (y0_0 : PV) (y0_1 : PV) : Option Res := loopAt Tryz.prog (spec_RingOk.E N) Tryz.f33 [(4, .val)] [1, 0, 1, 0] [] n ⟨mkSlots 83 [(1, .ptr 0 []), (3, .sc (.int .i64 x3))], ohOf [.box 40 (.agg 40 [.ro 22 y0_0, .ro 23 y0_1])]⟩
noncomputable def spec_RingOk.l1 (N : Nat) (m0 : Nat) (n : Nat) (x3 : Int) (x4 : Int) (y0_0 : PV) (y0_1 : PV) : Option Res := loopAt Tryz.prog (spec_RingOk.E N) Tryz.f33 [(4, .val)] [1, 0, 1, 0, 0, 1, 0, 0, 1, 1, 0] [m0] n ⟨mkSlots 83 [(1, .ptr 0 []), (3, .sc (.int .i64 x3)), (4, .sc (.int .i64 x4))], ohOf [.box 40 (.agg 40 [.ro 22 y0_0, .ro 23 y0_1])]⟩
noncomputable def spec_RingOk.l2 (N : Nat) (n : Nat) (x5 : Int) (y0_0 : PV) (y0_1 : PV) : Option Res := loopAt Tryz.prog (spec_RingOk.E N) Tryz.f33 [(4, .val)] [1, 1, 0, 1, 0] [] n ⟨mkSlots 83 [(1, .ptr 0 []), (5, .sc (.int .i64 x5))], ohOf [.box 40 (.agg 40 [.ro 22 y0_0, .ro 23 y0_1])]⟩
theorem spec_RingOk.f_eq (N : Nat) (a0 : PV) : spec_RingOk.f N [a0] = spec_RingOk.l0 N N 0 (a0.fld 0) (a0.fld 1) := by kernel_rfl
theorem spec_RingOk.l0_eq (N : Nat) (n : Nat) (x3 : Int) (y0_0 : PV) (y0_1 : PV) : spec_RingOk.l0 N (n + 1) x3 y0_0 y0_1 = if decide (x3 < (y0_0.items.length : Int)) = true then (if 0 ≤ x3 then (if x3 < (y0_0.items.length : Int) then ((spec_l6Key.f N [(PV.sc (.string ((y0_0.elem x3.toNat).toStr)))]).bind fun t1 => if (!((t1.headD default).toBool)) = true then (some [(PV.sc (.bool false))]) else (spec_RingOk.l1 N n N x3 0 y0_0 y0_1)) else none) else none) else (spec_RingOk.l2 N N 1 y0_0 y0_1) := by kernel_rfl
theorem spec_RingOk.l1_eq (N : Nat) (m0 : Nat) (n : Nat) (x3 : Int) (x4 : Int) (y0_0 : PV) (y0_1 : PV) : spec_RingOk.l1 N m0 (n + 1) x3 x4 y0_0 y0_1 = if decide (x4 < x3) = true then (if 0 ≤ x4 then (if x4 < (y0_0.items.length : Int) then (if 0 ≤ x3 then (if x3 < (y0_0.items.length : Int) then (if decide (((y0_0.elem x4.toNat).toStr).toList = ((y0_0.elem x3.toNat).toStr).toList) = true then (some [(PV.sc (.bool false))]) else (spec_RingOk.l1 N m0 n x3 (IntKind.i64.wrap (x4 + 1)) y0_0 y0_1)) else none) else none) else none) else none) else (spec_RingOk.l0 N m0 (IntKind.i64.wrap (x3 + 1)) y0_0 y0_1) := by kernel_rfl
theorem spec_RingOk.l2_eq (N : Nat) (n : Nat) (x5 : Int) (y0_0 : PV) (y0_1 : PV) : spec_RingOk.l2 N (n + 1) x5 y0_0 y0_1 = if decide (x5 < (y0_1.items.length : Int)) = true then (if 0 ≤ (IntKind.i64.wrap (x5 - 1)) then (if (IntKind.i64.wrap (x5 - 1)) < (y0_1.items.length : Int) then (if 0 ≤ x5 then (if x5 < (y0_1.items.length : Int) then (if decide (((y0_1.elem x5.toNat).toInt) ≤ ((y0_1.elem ((IntKind.i64.wrap (x5 - 1)).toNat)).toInt)) = false then (if 0 ≤ x5 then (if x5 < (y0_1.items.length : Int) then (if decide (999999 < ((y0_1.elem x5.toNat).toInt)) = true then (some [(PV.sc (.bool false))]) else (spec_RingOk.l2 N n (IntKind.i64.wrap (x5 + 1)) y0_0 y0_1)) else none) else none) else (some [(PV.sc (.bool false))])) else none) else none) else none) else none) else ((spec_l1In.f N [(PV.sc (.int .i64 (y0_0.items.length : Int))), (PV.sc (.int .i64 1)), (PV.sc (.int .i64 5))]).bind fun t2 => if (t2.headD default).toBool = true then (if decide ((y0_1.items.length : Int) = (y0_0.items.length : Int)) = true then (if 0 ≤ 0 then (if 0 < (y0_1.items.length : Int) then (some [(PV.sc (.bool (decide (((y0_1.elem 0).toInt) = 1))))]) else none) else none) else (some [(PV.sc (.bool false))])) else (some [(PV.sc (.bool false))])) := by kernel_rfl
noncomputable def spec_RingOk.S (N : Nat) : ASpec := ⟨[(40, .ro)], [(4, .val)], spec_RingOk.f N⟩
theorem spec_RingOk.ok (N : Nat) : FnOk Tryz.prog 33 (spec_RingOk.S N) := fnOk_of (E := spec_RingOk.E N) mix Tryz.func33 (by kernel_rfl) (by kernel_rfl) (by kernel_rfl) (lk_ok (all_cons (spec_l6Key.ok N) (all_cons (spec_l1In.ok N) all_nil))) (by kernel_rfl) (fun _ _ h => h)

/-! ### spec_l2Flag: function 109, loop.example/medlar/spec.l2Flag -/
noncomputable def spec_l2Flag.E (N : Nat) : Env := ⟨lk [], nzk [], N, [], false⟩
noncomputable def spec_l2Flag.f (N : Nat) (a : List PV) : Option Res := run Tryz.prog (spec_l2Flag.E N) Tryz.f109 [(9, .ro)] [(4, .val)] a
theorem spec_l2Flag.f_eq (N : Nat) (a0 : PV) : spec_l2Flag.f N [a0] = if decide ((a0.toStr.size : Int) = 1) = true then (if 0 ≤ 0 then (if 0 < (a0.toStr.size : Int) then (if decide (65 ≤ ((a0.toStr.get! 0).toNat : Int)) = true then (if 0 ≤ 0 then (if 0 < (a0.toStr.size : Int) then (some [(PV.sc (.bool (decide (((a0.toStr.get! 0).toNat : Int) ≤ 90))))]) else none) else none) else (some [(PV.sc (.bool false))])) else none) else none) else (some [(PV.sc (.bool false))]) := by kernel_rfl
noncomputable def spec_l2Flag.S (N : Nat) : ASpec := ⟨[(9, .ro)], [(4, .val)], spec_l2Flag.f N⟩
theorem spec_l2Flag.ok (N : Nat) : FnOk Tryz.prog 109 (spec_l2Flag.S N) := fnOk_of (E := spec_l2Flag.E N) mix Tryz.func109 (by kernel_rfl) (by kernel_rfl) (by kernel_rfl) (lk_ok all_nil) (by kernel_rfl) (fun _ _ h => h)

/-! ### spec_l1Letters: function 146, loop.example/medlar/spec.l1Letters -/
noncomputable def spec_l1Letters.E (N : Nat) : Env := ⟨lk [], nzk [(2, ⟨[2, 3, 4, 6, 7, 8, 9, 10, 11, 12, 13, 14, 15, 16, 17, 18, 19, 20, 21, 22, 23, 24, 25], [], []⟩)], N, [], false⟩
noncomputable def spec_l1Letters.f (N : Nat) (a : List PV) : Option Res := run Tryz.prog (spec_l1Letters.E N) Tryz.f146 [(9, .ro), (3, .ro)] [(4, .val)] a
noncomputable def spec_l1Letters.l0 (N : Nat) (n : Nat) (x0 : ByteArray) (x1 : Int) (x5 : Int) : Option Res := loopAt Tryz.prog (spec_l1Letters.E N) Tryz.f146 [(4, .val)] [1, 0, 1, 0] [] n ⟨mkSlots 26 [(0, .sc (.string x0)), (1, .sc (.int .i64 x1)), (5, .sc (.int .i64 x5))], ohOf []⟩
theorem spec_l1Letters.f_eq (N : Nat) (a0 : PV) (a1 : PV) : spec_l1Letters.f N [a0, a1] = spec_l1Letters.l0 N N a0.toStr a1.toInt 0 := by kernel_rfl
theorem spec_l1Letters.l0_eq (N : Nat) (n : Nat) (x0 : ByteArray) (x1 : Int) (x5 : Int) : spec_l1Letters.l0 N (n + 1) x0 x1 x5 = if decide (x5 < (x0.size : Int)) = true then (if 0 ≤ x5 then (if x5 < (x0.size : Int) then (if decide (((x0.get! x5.toNat).toNat : Int) < 97) = false then (if 0 ≤ x5 then (if x5 < (x0.size : Int) then (if decide (122 < ((x0.get! x5.toNat).toNat : Int)) = true then (some [(PV.sc (.bool false))]) else (spec_l1Letters.l0 N n x0 x1 (IntKind.i64.wrap (x5 + 1)))) else none) else none) else (some [(PV.sc (.bool false))])) else none) else none) else (some [(PV.sc (.bool (decide ((x0.size : Int) ≤ x1))))]) := by kernel_rfl
noncomputable def spec_l1Letters.S (N : Nat) : ASpec := ⟨[(9, .ro), (3, .ro)], [(4, .val)], spec_l1Letters.f N⟩
theorem spec_l1Letters.ok (N : Nat) : FnOk Tryz.prog 146 (spec_l1Letters.S N) := fnOk_of (E := spec_l1Letters.E N) mix Tryz.func146 (by kernel_rfl) (by kernel_rfl) (by kernel_rfl) (lk_ok all_nil) (by kernel_rfl) (fun _ _ h => h)

/-! ### spec_l1Word: function 110, loop.example/medlar/spec.l1Word -/
noncomputable def spec_l1Word.E (N : Nat) : Env := ⟨lk [(146, spec_l1Letters.S N)], nzk [], N, [], false⟩
noncomputable def spec_l1Word.f (N : Nat) (a : List PV) : Option Res := run Tryz.prog (spec_l1Word.E N) Tryz.f110 [(9, .ro)] [(4, .val)] a
theorem spec_l1Word.f_eq (N : Nat) (a0 : PV) : spec_l1Word.f N [a0] = if decide (0 < (a0.toStr.size : Int)) = true then ((spec_l1Letters.f N [(PV.sc (.string a0.toStr)), (PV.sc (.int .i64 12))]).bind fun t1 => some [(PV.sc (.bool ((t1.headD default).toBool)))]) else (some [(PV.sc (.bool false))]) := by kernel_rfl
noncomputable def spec_l1Word.S (N : Nat) : ASpec := ⟨[(9, .ro)], [(4, .val)], spec_l1Word.f N⟩
theorem spec_l1Word.ok (N : Nat) : FnOk Tryz.prog 110 (spec_l1Word.S N) := fnOk_of (E := spec_l1Word.E N) mix Tryz.func110 (by kernel_rfl) (by kernel_rfl) (by kernel_rfl) (lk_ok (all_cons (spec_l1Letters.ok N) all_nil)) (by kernel_rfl) (fun _ _ h => h)

/-! ### spec_l2Entry: function 68, loop.example/medlar/spec.l2Entry -/
noncomputable def spec_l2Entry.E (N : Nat) : Env := ⟨lk [(109, spec_l2Flag.S N), (110, spec_l1Word.S N)], nzk [(2, ⟨[0, 2, 4, 5, 6, 7, 8, 9, 10, 11, 12, 13, 14, 15, 16, 17, 18, 19, 20, 21, 22, 23, 24, 25, 26, 27, 28, 29, 30, 31, 32, 33, 34, 35, 36, 37, 38, 39, 40, 41, 42, 43], [], []⟩)], N, [], false⟩
noncomputable def spec_l2Entry.f (N : Nat) (a : List PV) : Option Res := run Tryz.prog (spec_l2Entry.E N) Tryz.f68 [(99, .ro)] [(4, .val)] a
noncomputable def spec_l2Entry.l0 (N : Nat) (n : Nat) (x3 : Int) (y0_0 : ByteArray) (y0_1 : ByteArray) : Option Res := loopAt Tryz.prog (spec_l2Entry.E N) Tryz.f68 [(4, .val)] [1, 0, 1, 0] [] n ⟨mkSlots 44 [(1, .ptr 0 []), (3, .sc (.int .i64 x3))], ohOf [.box 99 (.agg 99 [.sc (.string y0_0), .sc (.string y0_1)])]⟩
theorem spec_l2Entry.f_eq (N : Nat) (a0 : PV) : spec_l2Entry.f N [a0] = spec_l2Entry.l0 N N 0 ((a0.fld 0).toStr) ((a0.fld 1).toStr) := by kernel_rfl
theorem spec_l2Entry.l0_eq (N : Nat) (n : Nat) (x3 : Int) (y0_0 : ByteArray) (y0_1 : ByteArray) : spec_l2Entry.l0 N (n + 1) x3 y0_0 y0_1 = if decide (x3 < (y0_1.size : Int)) = true then (if 0 ≤ x3 then (if x3 ≤ (IntKind.i64.wrap (x3 + 1)) then (if (IntKind.i64.wrap (x3 + 1)) ≤ (y0_1.size : Int) then ((spec_l2Flag.f N [(PV.sc (.string (y0_1.extract x3.toNat ((IntKind.i64.wrap (x3 + 1)).toNat))))]).bind fun t1 => if (!((t1.headD default).toBool)) = false then (if decide (0 < x3) = true then (if 0 ≤ (IntKind.i64.wrap (x3 - 1)) then (if (IntKind.i64.wrap (x3 - 1)) < (y0_1.size : Int) then (if 0 ≤ x3 then (if x3 < (y0_1.size : Int) then (if decide (((y0_1.get! x3.toNat).toNat : Int) ≤ ((y0_1.get! (IntKind.i64.wrap (x3 - 1)).toNat).toNat : Int)) = true then (some [(PV.sc (.bool false))]) else (spec_l2Entry.l0 N n (IntKind.i64.wrap (x3 + 1)) y0_0 y0_1)) else none) else none) else none) else none) else (spec_l2Entry.l0 N n (IntKind.i64.wrap (x3 + 1)) y0_0 y0_1)) else (some [(PV.sc (.bool false))])) else none) else none) else none) else ((spec_l1Word.f N [(PV.sc (.string y0_0))]).bind fun t2 => if (t2.headD default).toBool = true then (some [(PV.sc (.bool (decide ((y0_1.size : Int) ≤ 4))))]) else (some [(PV.sc (.bool false))])) := by kernel_rfl
noncomputable def spec_l2Entry.S (N : Nat) : ASpec := ⟨[(99, .ro)], [(4, .val)], spec_l2Entry.f N⟩
theorem spec_l2Entry.ok (N : Nat) : FnOk Tryz.prog 68 (spec_l2Entry.S N) := fnOk_of (E := spec_l2Entry.E N) mix Tryz.func68 (by kernel_rfl) (by kernel_rfl) (by kernel_rfl) (lk_ok (all_cons (spec_l2Flag.ok N) (all_cons (spec_l1Word.ok N) all_nil))) (by kernel_rfl) (fun _ _ h => h)

/-! ### spec_l2Begins: function 147, loop.example/medlar/spec.l2Begins -/
noncomputable def spec_l2Begins.E (N : Nat) : Env := ⟨lk [], nzk [], N, [], false⟩
noncomputable def spec_l2Begins.f (N : Nat) (a : List PV) : Option Res := run Tryz.prog (spec_l2Begins.E N) Tryz.f147 [(9, .ro), (9, .ro)] [(4, .val)] a
theorem spec_l2Begins.f_eq (N : Nat) (a0 : PV) (a1 : PV) : spec_l2Begins.f N [a0, a1] = if decide ((a1.toStr.size : Int) ≤ (a0.toStr.size : Int)) = true then (if 0 ≤ (a1.toStr.size : Int) then (if (a1.toStr.size : Int) ≤ (a0.toStr.size : Int) then (some [(PV.sc (.bool (decide ((a0.toStr.extract 0 a1.toStr.size).toList = a1.toStr.toList))))]) else none) else none) else (some [(PV.sc (.bool false))]) := by kernel_rfl
noncomputable def spec_l2Begins.S (N : Nat) : ASpec := ⟨[(9, .ro), (9, .ro)], [(4, .val)], spec_l2Begins.f N⟩
theorem spec_l2Begins.ok (N : Nat) : FnOk Tryz.prog 147 (spec_l2Begins.S N) := fnOk_of (E := spec_l2Begins.E N) mix Tryz.func147 (by kernel_rfl) (by kernel_rfl) (by kernel_rfl) (lk_ok all_nil) (by kernel_rfl) (fun _ _ h => h)

/-! ### spec_l2Ends: function 148, loop.example/medlar/spec.l2Ends -/
noncomputable def spec_l2Ends.E (N : Nat) : Env := ⟨lk [], nzk [], N, [], false⟩
noncomputable def spec_l2Ends.f (N : Nat) (a : List PV) : Option Res := run Tryz.prog (spec_l2Ends.E N) Tryz.f148 [(9, .ro), (9, .ro)] [(4, .val)] a
theorem spec_l2Ends.f_eq (N : Nat) (a0 : PV) (a1 : PV) : spec_l2Ends.f N [a0, a1] = if decide ((a1.toStr.size : Int) ≤ (a0.toStr.size : Int)) = true then (if 0 ≤ (IntKind.i64.wrap ((a0.toStr.size : Int) - (a1.toStr.size : Int))) then (if (IntKind.i64.wrap ((a0.toStr.size : Int) - (a1.toStr.size : Int))) ≤ (a0.toStr.size : Int) then (some [(PV.sc (.bool (decide ((a0.toStr.extract ((IntKind.i64.wrap ((a0.toStr.size : Int) - (a1.toStr.size : Int))).toNat) a0.toStr.size).toList = a1.toStr.toList))))]) else none) else none) else (some [(PV.sc (.bool false))]) := by kernel_rfl
noncomputable def spec_l2Ends.S (N : Nat) : ASpec := ⟨[(9, .ro), (9, .ro)], [(4, .val)], spec_l2Ends.f N⟩
theorem spec_l2Ends.ok (N : Nat) : FnOk Tryz.prog 148 (spec_l2Ends.S N) := fnOk_of (E := spec_l2Ends.E N) mix Tryz.func148 (by kernel_rfl) (by kernel_rfl) (by kernel_rfl) (lk_ok all_nil) (by kernel_rfl) (fun _ _ h => h)

/-! ### spec_AffixOk: function 111, loop.example/medlar/spec.AffixOk -/
noncomputable def spec_AffixOk.E (N : Nat) : Env := ⟨lk [(109, spec_l2Flag.S N), (146, spec_l1Letters.S N), (147, spec_l2Begins.S N), (148, spec_l2Ends.S N)], nzk [], N, [], false⟩
noncomputable def spec_AffixOk.f (N : Nat) (a : List PV) : Option Res := run Tryz.prog (spec_AffixOk.E N) Tryz.f111 [(97, .ro)] [(4, .val)] a
theorem spec_AffixOk.f_eq (N : Nat) (a0 : PV) : spec_AffixOk.f N [a0] = (spec_l2Flag.f N [(PV.sc (.string ((a0.fld 0).toStr)))]).bind fun t1 => if (!((t1.headD default).toBool)) = false then ((spec_l1Letters.f N [(PV.sc (.string ((a0.fld 2).toStr))), (PV.sc (.int .i64 4))]).bind fun t2 => if (!((t2.headD default).toBool)) = false then ((spec_l1Letters.f N [(PV.sc (.string ((a0.fld 3).toStr))), (PV.sc (.int .i64 4))]).bind fun t3 => if (!((t3.headD default).toBool)) = false then ((spec_l1Letters.f N [(PV.sc (.string ((a0.fld 4).toStr))), (PV.sc (.int .i64 4))]).bind fun t4 => if (!((t4.headD default).toBool)) = true then (some [(PV.sc (.bool false))]) else (if (a0.fld 1).toBool = true then ((spec_l2Begins.f N [(PV.sc (.string ((a0.fld 4).toStr))), (PV.sc (.string ((a0.fld 2).toStr)))]).bind fun t5 => some [(PV.sc (.bool ((t5.headD default).toBool)))]) else ((spec_l2Ends.f N [(PV.sc (.string ((a0.fld 4).toStr))), (PV.sc (.string ((a0.fld 2).toStr)))]).bind fun t6 => some [(PV.sc (.bool ((t6.headD default).toBool)))]))) else (some [(PV.sc (.bool false))])) else (some [(PV.sc (.bool false))])) else (some [(PV.sc (.bool false))]) := by kernel_rfl
noncomputable def spec_AffixOk.S (N : Nat) : ASpec := ⟨[(97, .ro)], [(4, .val)], spec_AffixOk.f N⟩
theorem spec_AffixOk.ok (N : Nat) : FnOk Tryz.prog 111 (spec_AffixOk.S N) := fnOk_of (E := spec_AffixOk.E N) mix Tryz.func111 (by kernel_rfl) (by kernel_rfl) (by kernel_rfl) (lk_ok (all_cons (spec_l2Flag.ok N) (all_cons (spec_l1Letters.ok N) (all_cons (spec_l2Begins.ok N) (all_cons (spec_l2Ends.ok N) all_nil))))) (by kernel_rfl) (fun _ _ h => h)

/-! ### spec_l2Affixes: function 69, loop.example/medlar/spec.l2Affixes -/
noncomputable def spec_l2Affixes.E (N : Nat) : Env := ⟨lk [(111, spec_AffixOk.S N)], nzk [(2, ⟨[1, 2, 4, 5, 6, 7, 8, 9, 10, 11, 12, 13, 14, 15, 16, 17, 18, 19, 20, 21, 22, 23, 24, 25, 26, 27, 28, 29, 30, 31, 32, 33], [], []⟩), (7, ⟨[1, 2, 5, 6, 7, 8, 9, 10, 11, 12, 13, 14, 15, 16, 17, 18, 19, 20, 21, 22, 23, 24, 25, 26, 27, 28, 29, 30, 31, 32, 33], [], []⟩)], N, [], false⟩
noncomputable def spec_l2Affixes.f (N : Nat) (a : List PV) : Option Res := run Tryz.prog (spec_l2Affixes.E N) Tryz.f69 [(33, .ro)] [(4, .val)] a
noncomputable def spec_l2Affixes.l0 (N : Nat) (n : Nat) (x0 : PV) (x3 : Int) : Option Res := loopAt Tryz.prog (spec_l2Affixes.E N) Tryz.f69 [(4, .val)] [1, 0, 1, 0] [] n ⟨mkSlots 34 [(0, .ro 33 x0), (3, .sc (.int .i64 x3))], ohOf []⟩
noncomputable def spec_l2Affixes.l1 (N : Nat) (m0 : Nat) (n : Nat) (x0 : PV) (x3 : Int) (x4 : Int) : Option Res := loopAt Tryz.prog (spec_l2Affixes.E N) Tryz.f69 [(4, .val)] [1, 0, 1, 0, 0, 1, 0, 0, 1, 1, 0] [m0] n ⟨mkSlots 34 [(0, .ro 33 x0), (3, .sc (.int .i64 x3)), (4, .sc (.int .i64 x4))], ohOf []⟩
theorem spec_l2Affixes.f_eq (N : Nat) (a0 : PV) : spec_l2Affixes.f N [a0] = spec_l2Affixes.l0 N N a0 0 := by kernel_rfl
theorem spec_l2Affixes.l0_eq (N : Nat) (n : Nat) (x0 : PV) (x3 : Int) : spec_l2Affixes.l0 N (n + 1) x0 x3 = if decide (x3 < (x0.items.length : Int)) = true then (if 0 ≤ x3 then (if x3 < (x0.items.length : Int) then ((spec_AffixOk.f N [(PV.agg [(PV.sc (.string (((x0.elem x3.toNat).fld 0).toStr))), (PV.sc (.bool (((x0.elem x3.toNat).fld 1).toBool))), (PV.sc (.string (((x0.elem x3.toNat).fld 2).toStr))), (PV.sc (.string (((x0.elem x3.toNat).fld 3).toStr))), (PV.sc (.string (((x0.elem x3.toNat).fld 4).toStr)))])]).bind fun t1 => if (!((t1.headD default).toBool)) = true then (some [(PV.sc (.bool false))]) else (spec_l2Affixes.l1 N n N x0 x3 0)) else none) else none) else (some [(PV.sc (.bool (decide ((x0.items.length : Int) ≤ 8))))]) := by kernel_rfl
theorem spec_l2Affixes.l1_eq (N : Nat) (m0 : Nat) (n : Nat) (x0 : PV) (x3 : Int) (x4 : Int) : spec_l2Affixes.l1 N m0 (n + 1) x0 x3 x4 = if decide (x4 < x3) = true then (if 0 ≤ x4 then (if x4 < (x0.items.length : Int) then (if 0 ≤ x3 then (if x3 < (x0.items.length : Int) then (if (decide ((((x0.elem x4.toNat).fld 0).toStr).toList = (((x0.elem x3.toNat).fld 0).toStr).toList) && (((((x0.elem x4.toNat).fld 1).toBool) == (((x0.elem x3.toNat).fld 1).toBool)) && (decide ((((x0.elem x4.toNat).fld 2).toStr).toList = (((x0.elem x3.toNat).fld 2).toStr).toList) && (decide ((((x0.elem x4.toNat).fld 3).toStr).toList = (((x0.elem x3.toNat).fld 3).toStr).toList) && (decide ((((x0.elem x4.toNat).fld 4).toStr).toList = (((x0.elem x3.toNat).fld 4).toStr).toList) && true))))) = true then (some [(PV.sc (.bool false))]) else (spec_l2Affixes.l1 N m0 n x0 x3 (IntKind.i64.wrap (x4 + 1)))) else none) else none) else none) else none) else (spec_l2Affixes.l0 N m0 x0 (IntKind.i64.wrap (x3 + 1))) := by kernel_rfl
noncomputable def spec_l2Affixes.S (N : Nat) : ASpec := ⟨[(33, .ro)], [(4, .val)], spec_l2Affixes.f N⟩
theorem spec_l2Affixes.ok (N : Nat) : FnOk Tryz.prog 69 (spec_l2Affixes.S N) := fnOk_of (E := spec_l2Affixes.E N) mix Tryz.func69 (by kernel_rfl) (by kernel_rfl) (by kernel_rfl) (lk_ok (all_cons (spec_AffixOk.ok N) all_nil)) (by kernel_rfl) (fun _ _ h => h)

/-! ### spec_BookOk: function 26, loop.example/medlar/spec.BookOk -/
noncomputable def spec_BookOk.E (N : Nat) : Env := ⟨lk [(68, spec_l2Entry.S N), (69, spec_l2Affixes.S N)], nzk [(2, ⟨[0, 2, 4, 5, 6, 7, 8, 9, 10, 11, 12, 13, 14, 15, 16, 17, 18, 19, 20, 21, 22, 23, 24, 25, 26, 27, 28, 29, 30, 31, 32, 33, 34, 35, 36, 37, 38, 39, 40, 41, 42, 43, 44, 45, 46], [], []⟩)], N, [], false⟩
noncomputable def spec_BookOk.f (N : Nat) (a : List PV) : Option Res := run Tryz.prog (spec_BookOk.E N) Tryz.f26 [(43, .ro)] [(4, .val)] a
noncomputable def spec_BookOk.l0 (N : Nat) (n : Nat) (x3 : Int) (y0_0 : PV) (y0_1 : PV) : Option Res := loopAt Tryz.prog (spec_BookOk.E N) Tryz.f26 [(4, .val)] [1, 0, 1, 0] [] n ⟨mkSlots 47 [(1, .ptr 0 []), (3, .sc (.int .i64 x3))], ohOf [.box 43 (.agg 43 [.ro 33 y0_0, .ro 32 y0_1])]⟩
theorem spec_BookOk.f_eq (N : Nat) (a0 : PV) : spec_BookOk.f N [a0] = spec_BookOk.l0 N N 0 (a0.fld 0) (a0.fld 1) := by kernel_rfl
theorem spec_BookOk.l0_eq (N : Nat) (n : Nat) (x3 : Int) (y0_0 : PV) (y0_1 : PV) : spec_BookOk.l0 N (n + 1) x3 y0_0 y0_1 = if decide (x3 < (y0_1.items.length : Int)) = true then (if 0 ≤ x3 then (if x3 < (y0_1.items.length : Int) then ((spec_l2Entry.f N [(PV.agg [(PV.sc (.string (((y0_1.elem x3.toNat).fld 0).toStr))), (PV.sc (.string (((y0_1.elem x3.toNat).fld 1).toStr)))])]).bind fun t1 => if (!((t1.headD default).toBool)) = false then (if decide (0 < x3) = true then (if 0 ≤ (IntKind.i64.wrap (x3 - 1)) then (if (IntKind.i64.wrap (x3 - 1)) < (y0_1.items.length : Int) then (if 0 ≤ x3 then (if x3 < (y0_1.items.length : Int) then (if (!Op.bytesLess (((y0_1.elem ((IntKind.i64.wrap (x3 - 1)).toNat)).fld 0).toStr).toList (((y0_1.elem x3.toNat).fld 0).toStr).toList) = true then (some [(PV.sc (.bool false))]) else (spec_BookOk.l0 N n (IntKind.i64.wrap (x3 + 1)) y0_0 y0_1)) else none) else none) else none) else none) else (spec_BookOk.l0 N n (IntKind.i64.wrap (x3 + 1)) y0_0 y0_1)) else (some [(PV.sc (.bool false))])) else none) else none) else ((spec_l2Affixes.f N [y0_0]).bind fun t2 => if (t2.headD default).toBool = true then (some [(PV.sc (.bool (decide ((y0_1.items.length : Int) ≤ 24))))]) else (some [(PV.sc (.bool false))])) := by kernel_rfl
noncomputable def spec_BookOk.S (N : Nat) : ASpec := ⟨[(43, .ro)], [(4, .val)], spec_BookOk.f N⟩
theorem spec_BookOk.ok (N : Nat) : FnOk Tryz.prog 26 (spec_BookOk.S N) := fnOk_of (E := spec_BookOk.E N) mix Tryz.func26 (by kernel_rfl) (by kernel_rfl) (by kernel_rfl) (lk_ok (all_cons (spec_l2Entry.ok N) (all_cons (spec_l2Affixes.ok N) all_nil))) (by kernel_rfl) (fun _ _ h => h)

/-! ### spec_l5Book: function 55, loop.example/medlar/spec.l5Book -/
noncomputable def spec_l5Book.E (N : Nat) : Env := ⟨lk [], nzk [], N, [], false⟩
noncomputable def spec_l5Book.f (N : Nat) (a : List PV) : Option Res := run Tryz.prog (spec_l5Book.E N) Tryz.f55 [(43, .ro)] [(43, .own)] a
theorem spec_l5Book.f_eq (N : Nat) (a0 : PV) : spec_l5Book.f N [a0] = if ([] : List PV).length + ((a0.fld 0).items).length ≤ 1954687338268 then (if ([] : List PV).length + ((a0.fld 1).items).length ≤ 4398046511104 then (some [(PV.agg [(PV.list (([] : List PV) ++ ((a0.fld 0).items))), (PV.list (([] : List PV) ++ ((a0.fld 1).items)))])]) else none) else none := by kernel_rfl
noncomputable def spec_l5Book.S (N : Nat) : ASpec := ⟨[(43, .ro)], [(43, .own)], spec_l5Book.f N⟩
theorem spec_l5Book.ok (N : Nat) : FnOk Tryz.prog 55 (spec_l5Book.S N) := fnOk_of (E := spec_l5Book.E N) mix Tryz.func55 (by kernel_rfl) (by kernel_rfl) (by kernel_rfl) (lk_ok all_nil) (by kernel_rfl) (fun _ _ h => h)

/-! ### spec_l11Key: function 35, loop.example/medlar/spec.l11Key -/
noncomputable def spec_l11Key.E (N : Nat) : Env := ⟨lk [], nzk [(3, ⟨[0, 3, 4, 7, 8, 9, 10, 11, 12, 13, 14, 15, 16, 17, 18, 19, 20, 21, 22, 23, 24, 25, 26], [], []⟩)], N, [], false⟩
noncomputable def spec_l11Key.f (N : Nat) (a : List PV) : Option Res := run Tryz.prog (spec_l11Key.E N) Tryz.f35 [(40, .ro), (3, .ro)] [(9, .val)] a
noncomputable def spec_l11Key.l0 (N : Nat) (n : Nat) (x1 : Int) (x5 : ByteArray) (x6 : Int) (y0_0 : PV) (y0_1 : PV) : Option Res := loopAt Tryz.prog (spec_l11Key.E N) Tryz.f35 [(9, .val)] [1, 1, 0, 1, 0] [] n ⟨mkSlots 27 [(1, .sc (.int .i64 x1)), (2, .ptr 0 []), (5, .sc (.string x5)), (6, .sc (.int .i64 x6))], ohOf [.box 40 (.agg 40 [.ro 22 y0_0, .ro 23 y0_1])]⟩
theorem spec_l11Key.f_eq (N : Nat) (a0 : PV) (a1 : PV) : spec_l11Key.f N [a0, a1] = spec_l11Key.l0 N N a1.toInt (ByteArray.mk #[]) 0 (a0.fld 0) (a0.fld 1) := by kernel_rfl
theorem spec_l11Key.l0_eq (N : Nat) (n : Nat) (x1 : Int) (x5 : ByteArray) (x6 : Int) (y0_0 : PV) (y0_1 : PV) : spec_l11Key.l0 N (n + 1) x1 x5 x6 y0_0 y0_1 = if decide (x6 < (y0_0.items.length : Int)) = true then (if 0 ≤ x6 then (if x6 < (y0_1.items.length : Int) then (if decide (((y0_1.elem x6.toNat).toInt) ≤ x1) = true then (if 0 ≤ x6 then (if x6 < (y0_0.items.length : Int) then (spec_l11Key.l0 N n x1 ((y0_0.elem x6.toNat).toStr) (IntKind.i64.wrap (x6 + 1)) y0_0 y0_1) else none) else none) else (spec_l11Key.l0 N n x1 x5 (IntKind.i64.wrap (x6 + 1)) y0_0 y0_1)) else none) else none) else (some [(PV.sc (.string x5))]) := by kernel_rfl
noncomputable def spec_l11Key.S (N : Nat) : ASpec := ⟨[(40, .ro), (3, .ro)], [(9, .val)], spec_l11Key.f N⟩
theorem spec_l11Key.ok (N : Nat) : FnOk Tryz.prog 35 (spec_l11Key.S N) := fnOk_of (E := spec_l11Key.E N) mix Tryz.func35 (by kernel_rfl) (by kernel_rfl) (by kernel_rfl) (lk_ok all_nil) (by kernel_rfl) (fun _ _ h => h)

/-! ### spec_l5Entries: function 154, loop.example/medlar/spec.l5Entries -/
noncomputable def spec_l5Entries.E (N : Nat) : Env := ⟨lk [(26, spec_BookOk.S N)], nzk [], N, [], false⟩
noncomputable def spec_l5Entries.f (N : Nat) (a : List PV) : Option Res := run Tryz.prog (spec_l5Entries.E N) Tryz.f154 [(32, .ro)] [(4, .val)] a
theorem spec_l5Entries.f_eq (N : Nat) (a0 : PV) : spec_l5Entries.f N [a0] = (spec_BookOk.f N [(PV.agg [(PV.list []), a0])]).bind fun t1 => some [(PV.sc (.bool ((t1.headD default).toBool)))] := by kernel_rfl
noncomputable def spec_l5Entries.S (N : Nat) : ASpec := ⟨[(32, .ro)], [(4, .val)], spec_l5Entries.f N⟩
theorem spec_l5Entries.ok (N : Nat) : FnOk Tryz.prog 154 (spec_l5Entries.S N) := fnOk_of (E := spec_l5Entries.E N) mix Tryz.func154 (by kernel_rfl) (by kernel_rfl) (by kernel_rfl) (lk_ok (all_cons (spec_BookOk.ok N) all_nil)) (by kernel_rfl) (fun _ _ h => h)

/-! ### spec_DeltaOk: function 127, loop.example/medlar/spec.DeltaOk -/
noncomputable def spec_DeltaOk.E (N : Nat) : Env := ⟨lk [(110, spec_l1Word.S N), (154, spec_l5Entries.S N), (69, spec_l2Affixes.S N)], nzk [(2, ⟨[0, 2, 4, 5, 6, 7, 8, 9, 10, 11, 12, 13, 14, 15, 16, 17, 18, 19, 20, 21, 22, 23, 24, 25, 26, 27, 28, 29, 30, 31, 32, 33, 34, 35, 36, 37, 38, 39, 40, 41, 42, 43, 44, 45, 46, 47, 48, 49, 50, 51, 52, 53, 54, 55, 56, 57, 58, 59, 60, 61, 62, 63, 64, 65, 66, 67, 68, 69, 70, 71, 72, 73, 74, 75, 76, 77, 78, 79], [], []⟩), (7, ⟨[0, 2, 5, 6, 7, 8, 9, 10, 11, 12, 13, 14, 15, 16, 17, 18, 19, 20, 21, 22, 23, 24, 25, 26, 27, 28, 29, 30, 31, 32, 33, 34, 35, 36, 37, 38, 39, 40, 41, 42, 43, 44, 45, 46, 47, 48, 49, 50, 51, 52, 53, 54, 55, 56, 57, 58, 59, 60, 61, 62, 63, 64, 65, 66, 67, 68, 69, 70, 71, 72, 73, 74, 75, 76, 77, 78, 79], [], []⟩)], N, [], false⟩
noncomputable def spec_DeltaOk.f (N : Nat) (a : List PV) : Option Res := run Tryz.prog (spec_DeltaOk.E N) Tryz.f127 [(35, .ro)] [(4, .val)] a
noncomputable def spec_DeltaOk.l0 (N : Nat) (n : Nat) (x3 : Int) (y0_0 : PV) (y0_1 : PV) (y0_2 : Bool) (y0_3 : PV) : Option Res := loopAt Tryz.prog (spec_DeltaOk.E N) Tryz.f127 [(4, .val)] [1, 0, 1, 0] [] n ⟨mkSlots 80 [(1, .ptr 0 []), (3, .sc (.int .i64 x3))], ohOf [.box 35 (.agg 35 [.ro 22 y0_0, .ro 32 y0_1, .sc (.bool y0_2), .ro 33 y0_3])]⟩
noncomputable def spec_DeltaOk.l1 (N : Nat) (m0 : Nat) (n : Nat) (x3 : Int) (x4 : Int) (y0_0 : PV) (y0_1 : PV) (y0_2 : Bool) (y0_3 : PV) : Option Res := loopAt Tryz.prog (spec_DeltaOk.E N) Tryz.f127 [(4, .val)] [1, 0, 1, 0, 0, 1, 0, 0, 1, 1, 0] [m0] n ⟨mkSlots 80 [(1, .ptr 0 []), (3, .sc (.int .i64 x3)), (4, .sc (.int .i64 x4))], ohOf [.box 35 (.agg 35 [.ro 22 y0_0, .ro 32 y0_1, .sc (.bool y0_2), .ro 33 y0_3])]⟩
theorem spec_DeltaOk.f_eq (N : Nat) (a0 : PV) : spec_DeltaOk.f N [a0] = spec_DeltaOk.l0 N N 0 (a0.fld 0) (a0.fld 1) ((a0.fld 2).toBool) (a0.fld 3) := by kernel_rfl
theorem spec_DeltaOk.l0_eq (N : Nat) (n : Nat) (x3 : Int) (y0_0 : PV) (y0_1 : PV) (y0_2 : Bool) (y0_3 : PV) : spec_DeltaOk.l0 N (n + 1) x3 y0_0 y0_1 y0_2 y0_3 = if decide (x3 < (y0_0.items.length : Int)) = true then (if 0 ≤ x3 then (if x3 < (y0_0.items.length : Int) then ((spec_l1Word.f N [(PV.sc (.string ((y0_0.elem x3.toNat).toStr)))]).bind fun t1 => if (!((t1.headD default).toBool)) = false then (if decide (0 < x3) = true then (if 0 ≤ (IntKind.i64.wrap (x3 - 1)) then (if (IntKind.i64.wrap (x3 - 1)) < (y0_0.items.length : Int) then (if 0 ≤ x3 then (if x3 < (y0_0.items.length : Int) then (if (!Op.bytesLess ((y0_0.elem ((IntKind.i64.wrap (x3 - 1)).toNat)).toStr).toList ((y0_0.elem x3.toNat).toStr).toList) = true then (some [(PV.sc (.bool false))]) else (spec_DeltaOk.l1 N n N x3 0 y0_0 y0_1 y0_2 y0_3)) else none) else none) else none) else none) else (spec_DeltaOk.l1 N n N x3 0 y0_0 y0_1 y0_2 y0_3)) else (some [(PV.sc (.bool false))])) else none) else none) else (if decide ((y0_0.items.length : Int) ≤ 24) = true then ((spec_l5Entries.f N [y0_1]).bind fun t2 => if (t2.headD default).toBool = true then ((spec_l2Affixes.f N [y0_3]).bind fun t3 => if (t3.headD default).toBool = true then (if y0_2 = false then (some [(PV.sc (.bool (decide ((y0_3.items.length : Int) = 0))))]) else (some [(PV.sc (.bool true))])) else (some [(PV.sc (.bool false))])) else (some [(PV.sc (.bool false))])) else (some [(PV.sc (.bool false))])) := by kernel_rfl
theorem spec_DeltaOk.l1_eq (N : Nat) (m0 : Nat) (n : Nat) (x3 : Int) (x4 : Int) (y0_0 : PV) (y0_1 : PV) (y0_2 : Bool) (y0_3 : PV) : spec_DeltaOk.l1 N m0 (n + 1) x3 x4 y0_0 y0_1 y0_2 y0_3 = if decide (x4 < (y0_1.items.length : Int)) = true then (if 0 ≤ x4 then (if x4 < (y0_1.items.length : Int) then (if 0 ≤ x3 then (if x3 < (y0_0.items.length : Int) then (if decide ((((y0_1.elem x4.toNat).fld 0).toStr).toList = ((y0_0.elem x3.toNat).toStr).toList) = true then (some [(PV.sc (.bool false))]) else (spec_DeltaOk.l1 N m0 n x3 (IntKind.i64.wrap (x4 + 1)) y0_0 y0_1 y0_2 y0_3)) else none) else none) else none) else none) else (spec_DeltaOk.l0 N m0 (IntKind.i64.wrap (x3 + 1)) y0_0 y0_1 y0_2 y0_3) := by kernel_rfl
noncomputable def spec_DeltaOk.S (N : Nat) : ASpec := ⟨[(35, .ro)], [(4, .val)], spec_DeltaOk.f N⟩
theorem spec_DeltaOk.ok (N : Nat) : FnOk Tryz.prog 127 (spec_DeltaOk.S N) := fnOk_of (E := spec_DeltaOk.E N) mix Tryz.func127 (by kernel_rfl) (by kernel_rfl) (by kernel_rfl) (lk_ok (all_cons (spec_l1Word.ok N) (all_cons (spec_l5Entries.ok N) (all_cons (spec_l2Affixes.ok N) all_nil)))) (by kernel_rfl) (fun _ _ h => h)

/-! ### spec_l6Figure: function 128, loop.example/medlar/spec.l6Figure -/
noncomputable def spec_l6Figure.E (N : Nat) : Env := ⟨lk [], nzk [], N, [], false⟩
noncomputable def spec_l6Figure.f (N : Nat) (a : List PV) : Option Res := run Tryz.prog (spec_l6Figure.E N) Tryz.f128 [(5, .ro)] [(4, .val)] a
theorem spec_l6Figure.f_eq (N : Nat) (a0 : PV) : spec_l6Figure.f N [a0] = if decide (48 ≤ a0.toInt) = true then (if decide (a0.toInt ≤ 57) = false then (if decide (97 ≤ a0.toInt) = true then (some [(PV.sc (.bool (decide (a0.toInt ≤ 102))))]) else (some [(PV.sc (.bool false))])) else (some [(PV.sc (.bool true))])) else (if decide (97 ≤ a0.toInt) = true then (some [(PV.sc (.bool (decide (a0.toInt ≤ 102))))]) else (some [(PV.sc (.bool false))])) := by kernel_rfl
noncomputable def spec_l6Figure.S (N : Nat) : ASpec := ⟨[(5, .ro)], [(4, .val)], spec_l6Figure.f N⟩
theorem spec_l6Figure.ok (N : Nat) : FnOk Tryz.prog 128 (spec_l6Figure.S N) := fnOk_of (E := spec_l6Figure.E N) mix Tryz.func128 (by kernel_rfl) (by kernel_rfl) (by kernel_rfl) (lk_ok all_nil) (by kernel_rfl) (fun _ _ h => h)

/-! ### spec_l1Dec: function 125, loop.example/medlar/spec.l1Dec -/
noncomputable def spec_l1Dec.E (N : Nat) (self : List PV → Option Res) : Env := ⟨lk [(125, ⟨[(3, .ro)], [(9, .val)], self⟩)], nzk [], N, [], false⟩
noncomputable def spec_l1Dec.g (N : Nat) (d : Nat) : List PV → Option Res := Nat.rec (fun _ => none) (fun _ ih a => run Tryz.prog (spec_l1Dec.E N ih) Tryz.f125 [(3, .ro)] [(9, .val)] a) d
noncomputable def spec_l1Dec.f (N : Nat) (a : List PV) : Option Res := spec_l1Dec.g N N a
theorem spec_l1Dec.f_eq (N : Nat) (a : List PV) : spec_l1Dec.f N a = spec_l1Dec.g N N a := rfl
theorem spec_l1Dec.g_eq (N : Nat) (d : Nat) (a0 : PV) : spec_l1Dec.g N (d + 1) [a0] = if decide (a0.toInt < (-9223372036854775807)) = true then (some [(PV.sc (.string (ByteArray.mk #[45, 57, 50, 50, 51, 51, 55, 50, 48, 51, 54, 56, 53, 52, 55, 55, 53, 56, 48, 56])))]) else (if decide (a0.toInt < 0) = true then ((spec_l1Dec.g N d [(PV.sc (.int .i64 (IntKind.i64.wrap (0 - a0.toInt))))]).bind fun t1 => if (ByteArray.mk #[45]).size + ((t1.headD default).toStr).size ≤ 9223372036854775807 then (some [(PV.sc (.string ((ByteArray.mk #[45]) ++ ((t1.headD default).toStr))))]) else none) else (if decide (a0.toInt < 10) = true then (some [(PV.sc (.string (bytesOfL [(PV.sc (.int .u8 (IntKind.u8.wrap (IntKind.i64.wrap (48 + a0.toInt)))))])))]) else (if 10 = 0 then none else ((spec_l1Dec.g N d [(PV.sc (.int .i64 (IntKind.i64.wrap (Int.tdiv a0.toInt 10))))]).bind fun t2 => if 10 = 0 then none else (if ((t2.headD default).toStr).size + (bytesOfL [(PV.sc (.int .u8 (IntKind.u8.wrap (IntKind.i64.wrap (48 + (Int.tmod a0.toInt 10))))))]).size ≤ 9223372036854775807 then (some [(PV.sc (.string (((t2.headD default).toStr) ++ (bytesOfL [(PV.sc (.int .u8 (IntKind.u8.wrap (IntKind.i64.wrap (48 + (Int.tmod a0.toInt 10))))))]))))]) else none))))) := by kernel_rfl
noncomputable def spec_l1Dec.S (N : Nat) : ASpec := ⟨[(3, .ro)], [(9, .val)], spec_l1Dec.f N⟩
theorem spec_l1Dec.g_ok (N : Nat) : ∀ d, FnOk Tryz.prog 125 ⟨[(3, .ro)], [(9, .val)], spec_l1Dec.g N d⟩ := fnOk_rec mix Tryz.func125 (by kernel_rfl) (by kernel_rfl) (by kernel_rfl) (spec_l1Dec.g N) (fun d => spec_l1Dec.E N (spec_l1Dec.g N d)) (fun _ => rfl) (fun d ih => lk_ok (all_cons ih all_nil)) (fun _ => rfl) (fun _ _ _ h => h)
theorem spec_l1Dec.ok (N : Nat) : FnOk Tryz.prog 125 (spec_l1Dec.S N) := spec_l1Dec.g_ok N N

/-! ### spec_l2AffixPut: function 122, loop.example/medlar/spec.l2AffixPut -/
noncomputable def spec_l2AffixPut.E (N : Nat) : Env := ⟨lk [], nzk [], N, [], false⟩
noncomputable def spec_l2AffixPut.f (N : Nat) (a : List PV) : Option Res := run Tryz.prog (spec_l2AffixPut.E N) Tryz.f122 [(97, .ro)] [(9, .val)] a
theorem spec_l2AffixPut.f_eq (N : Nat) (a0 : PV) : spec_l2AffixPut.f N [a0] = if (a0.fld 1).toBool = true then (if (ByteArray.mk #[102, 114, 111, 110, 116]).size + (ByteArray.mk #[32]).size ≤ 9223372036854775807 then (if ((ByteArray.mk #[102, 114, 111, 110, 116]) ++ (ByteArray.mk #[32])).size + ((a0.fld 0).toStr).size ≤ 9223372036854775807 then (if (((ByteArray.mk #[102, 114, 111, 110, 116]) ++ (ByteArray.mk #[32])) ++ ((a0.fld 0).toStr)).size + (ByteArray.mk #[32]).size ≤ 9223372036854775807 then (if ((((ByteArray.mk #[102, 114, 111, 110, 116]) ++ (ByteArray.mk #[32])) ++ ((a0.fld 0).toStr)) ++ (ByteArray.mk #[32])).size + ((a0.fld 2).toStr).size ≤ 9223372036854775807 then (if (((((ByteArray.mk #[102, 114, 111, 110, 116]) ++ (ByteArray.mk #[32])) ++ ((a0.fld 0).toStr)) ++ (ByteArray.mk #[32])) ++ ((a0.fld 2).toStr)).size + (ByteArray.mk #[32]).size ≤ 9223372036854775807 then (if ((((((ByteArray.mk #[102, 114, 111, 110, 116]) ++ (ByteArray.mk #[32])) ++ ((a0.fld 0).toStr)) ++ (ByteArray.mk #[32])) ++ ((a0.fld 2).toStr)) ++ (ByteArray.mk #[32])).size + ((a0.fld 3).toStr).size ≤ 9223372036854775807 then (if (((((((ByteArray.mk #[102, 114, 111, 110, 116]) ++ (ByteArray.mk #[32])) ++ ((a0.fld 0).toStr)) ++ (ByteArray.mk #[32])) ++ ((a0.fld 2).toStr)) ++ (ByteArray.mk #[32])) ++ ((a0.fld 3).toStr)).size + (ByteArray.mk #[32]).size ≤ 9223372036854775807 then (if ((((((((ByteArray.mk #[102, 114, 111, 110, 116]) ++ (ByteArray.mk #[32])) ++ ((a0.fld 0).toStr)) ++ (ByteArray.mk #[32])) ++ ((a0.fld 2).toStr)) ++ (ByteArray.mk #[32])) ++ ((a0.fld 3).toStr)) ++ (ByteArray.mk #[32])).size + ((a0.fld 4).toStr).size ≤ 9223372036854775807 then (some [(PV.sc (.string (((((((((ByteArray.mk #[102, 114, 111, 110, 116]) ++ (ByteArray.mk #[32])) ++ ((a0.fld 0).toStr)) ++ (ByteArray.mk #[32])) ++ ((a0.fld 2).toStr)) ++ (ByteArray.mk #[32])) ++ ((a0.fld 3).toStr)) ++ (ByteArray.mk #[32])) ++ ((a0.fld 4).toStr))))]) else none) else none) else none) else none) else none) else none) else none) else none) else (if (ByteArray.mk #[101, 110, 100]).size + (ByteArray.mk #[32]).size ≤ 9223372036854775807 then (if ((ByteArray.mk #[101, 110, 100]) ++ (ByteArray.mk #[32])).size + ((a0.fld 0).toStr).size ≤ 9223372036854775807 then (if (((ByteArray.mk #[101, 110, 100]) ++ (ByteArray.mk #[32])) ++ ((a0.fld 0).toStr)).size + (ByteArray.mk #[32]).size ≤ 9223372036854775807 then (if ((((ByteArray.mk #[101, 110, 100]) ++ (ByteArray.mk #[32])) ++ ((a0.fld 0).toStr)) ++ (ByteArray.mk #[32])).size + ((a0.fld 2).toStr).size ≤ 9223372036854775807 then (if (((((ByteArray.mk #[101, 110, 100]) ++ (ByteArray.mk #[32])) ++ ((a0.fld 0).toStr)) ++ (ByteArray.mk #[32])) ++ ((a0.fld 2).toStr)).size + (ByteArray.mk #[32]).size ≤ 9223372036854775807 then (if ((((((ByteArray.mk #[101, 110, 100]) ++ (ByteArray.mk #[32])) ++ ((a0.fld 0).toStr)) ++ (ByteArray.mk #[32])) ++ ((a0.fld 2).toStr)) ++ (ByteArray.mk #[32])).size + ((a0.fld 3).toStr).size ≤ 9223372036854775807 then (if (((((((ByteArray.mk #[101, 110, 100]) ++ (ByteArray.mk #[32])) ++ ((a0.fld 0).toStr)) ++ (ByteArray.mk #[32])) ++ ((a0.fld 2).toStr)) ++ (ByteArray.mk #[32])) ++ ((a0.fld 3).toStr)).size + (ByteArray.mk #[32]).size ≤ 9223372036854775807 then (if ((((((((ByteArray.mk #[101, 110, 100]) ++ (ByteArray.mk #[32])) ++ ((a0.fld 0).toStr)) ++ (ByteArray.mk #[32])) ++ ((a0.fld 2).toStr)) ++ (ByteArray.mk #[32])) ++ ((a0.fld 3).toStr)) ++ (ByteArray.mk #[32])).size + ((a0.fld 4).toStr).size ≤ 9223372036854775807 then (some [(PV.sc (.string (((((((((ByteArray.mk #[101, 110, 100]) ++ (ByteArray.mk #[32])) ++ ((a0.fld 0).toStr)) ++ (ByteArray.mk #[32])) ++ ((a0.fld 2).toStr)) ++ (ByteArray.mk #[32])) ++ ((a0.fld 3).toStr)) ++ (ByteArray.mk #[32])) ++ ((a0.fld 4).toStr))))]) else none) else none) else none) else none) else none) else none) else none) else none) := by kernel_rfl
noncomputable def spec_l2AffixPut.S (N : Nat) : ASpec := ⟨[(97, .ro)], [(9, .val)], spec_l2AffixPut.f N⟩
theorem spec_l2AffixPut.ok (N : Nat) : FnOk Tryz.prog 122 (spec_l2AffixPut.S N) := fnOk_of (E := spec_l2AffixPut.E N) mix Tryz.func122 (by kernel_rfl) (by kernel_rfl) (by kernel_rfl) (lk_ok all_nil) (by kernel_rfl) (fun _ _ h => h)

/-! ### spec_l2EntryPut: function 123, loop.example/medlar/spec.l2EntryPut -/
noncomputable def spec_l2EntryPut.E (N : Nat) : Env := ⟨lk [], nzk [], N, [], false⟩
noncomputable def spec_l2EntryPut.f (N : Nat) (a : List PV) : Option Res := run Tryz.prog (spec_l2EntryPut.E N) Tryz.f123 [(99, .ro)] [(9, .val)] a
theorem spec_l2EntryPut.f_eq (N : Nat) (a0 : PV) : spec_l2EntryPut.f N [a0] = if decide (((a0.fld 1).toStr).toList = (ByteArray.mk #[]).toList) = true then (some [(PV.sc (.string ((a0.fld 0).toStr)))]) else (if ((a0.fld 0).toStr).size + (ByteArray.mk #[47]).size ≤ 9223372036854775807 then (if (((a0.fld 0).toStr) ++ (ByteArray.mk #[47])).size + ((a0.fld 1).toStr).size ≤ 9223372036854775807 then (some [(PV.sc (.string ((((a0.fld 0).toStr) ++ (ByteArray.mk #[47])) ++ ((a0.fld 1).toStr))))]) else none) else none) := by kernel_rfl
noncomputable def spec_l2EntryPut.S (N : Nat) : ASpec := ⟨[(99, .ro)], [(9, .val)], spec_l2EntryPut.f N⟩
theorem spec_l2EntryPut.ok (N : Nat) : FnOk Tryz.prog 123 (spec_l2EntryPut.S N) := fnOk_of (E := spec_l2EntryPut.E N) mix Tryz.func123 (by kernel_rfl) (by kernel_rfl) (by kernel_rfl) (lk_ok all_nil) (by kernel_rfl) (fun _ _ h => h)

/-! ### spec_l5Put: function 126, loop.example/medlar/spec.l5Put -/
noncomputable def spec_l5Put.E (N : Nat) : Env := ⟨lk [(122, spec_l2AffixPut.S N), (123, spec_l2EntryPut.S N)], nzk [(5, ⟨[0, 2, 5, 6, 7, 8, 9, 10, 11, 12, 13, 14, 15, 16, 17, 18, 19, 20, 21, 22, 23, 24, 25, 26, 27, 28, 29, 30, 31, 32, 33, 34, 35, 36, 37, 38, 39, 40, 41, 42, 43, 44, 45, 46, 47, 48, 49, 50, 51, 52, 53, 54, 55, 56, 57, 58], [], []⟩), (9, ⟨[0, 2, 4, 6, 7, 8, 9, 10, 11, 12, 13, 14, 15, 16, 17, 18, 19, 20, 21, 22, 23, 24, 25, 26, 27, 28, 29, 30, 31, 32, 33, 34, 35, 36, 37, 38, 39, 40, 41, 42, 43, 44, 45, 46, 47, 48, 49, 50, 51, 52, 53, 54, 55, 56, 57, 58], [], []⟩), (13, ⟨[0, 2, 4, 5, 7, 8, 9, 10, 11, 12, 13, 14, 15, 16, 17, 18, 19, 20, 21, 22, 23, 24, 25, 26, 27, 28, 29, 30, 31, 32, 33, 34, 35, 36, 37, 38, 39, 40, 41, 42, 43, 44, 45, 46, 47, 48, 49, 50, 51, 52, 53, 54, 55, 56, 57, 58], [], []⟩)], N, [], false⟩
noncomputable def spec_l5Put.f (N : Nat) (a : List PV) : Option Res := run Tryz.prog (spec_l5Put.E N) Tryz.f126 [(35, .ro)] [(9, .val)] a
noncomputable def spec_l5Put.l0 (N : Nat) (n : Nat) (x3 : ByteArray) (x4 : Int) (y0_0 : PV) (y0_1 : PV) (y0_2 : Bool) (y0_3 : PV) : Option Res := loopAt Tryz.prog (spec_l5Put.E N) Tryz.f126 [(9, .val)] [1, 1, 1, 0, 1, 0] [] n ⟨mkSlots 59 [(1, .ptr 0 []), (3, .sc (.string x3)), (4, .sc (.int .i64 x4))], ohOf [.box 35 (.agg 35 [.ro 22 y0_0, .ro 32 y0_1, .sc (.bool y0_2), .ro 33 y0_3])]⟩
noncomputable def spec_l5Put.l1 (N : Nat) (n : Nat) (x3 : ByteArray) (x5 : Int) (y0_0 : PV) (y0_1 : PV) (y0_2 : Bool) (y0_3 : PV) : Option Res := loopAt Tryz.prog (spec_l5Put.E N) Tryz.f126 [(9, .val)] [1, 1, 1, 1, 0, 1, 0] [] n ⟨mkSlots 59 [(1, .ptr 0 []), (3, .sc (.string x3)), (5, .sc (.int .i64 x5))], ohOf [.box 35 (.agg 35 [.ro 22 y0_0, .ro 32 y0_1, .sc (.bool y0_2), .ro 33 y0_3])]⟩
noncomputable def spec_l5Put.l2 (N : Nat) (n : Nat) (x3 : ByteArray) (x6 : Int) (y0_0 : PV) (y0_1 : PV) (y0_2 : Bool) (y0_3 : PV) : Option Res := loopAt Tryz.prog (spec_l5Put.E N) Tryz.f126 [(9, .val)] [1, 1, 1, 1, 1, 0, 1, 0] [] n ⟨mkSlots 59 [(1, .ptr 0 []), (3, .sc (.string x3)), (6, .sc (.int .i64 x6))], ohOf [.box 35 (.agg 35 [.ro 22 y0_0, .ro 32 y0_1, .sc (.bool y0_2), .ro 33 y0_3])]⟩
theorem spec_l5Put.f_eq (N : Nat) (a0 : PV) : spec_l5Put.f N [a0] = if (a0.fld 2).toBool = true then (spec_l5Put.l0 N N (ByteArray.mk #[97, 102, 102, 105, 120, 101, 115, 10]) 0 (a0.fld 0) (a0.fld 1) ((a0.fld 2).toBool) (a0.fld 3)) else (spec_l5Put.l0 N N (ByteArray.mk #[]) 0 (a0.fld 0) (a0.fld 1) ((a0.fld 2).toBool) (a0.fld 3)) := by kernel_rfl
theorem spec_l5Put.l0_eq (N : Nat) (n : Nat) (x3 : ByteArray) (x4 : Int) (y0_0 : PV) (y0_1 : PV) (y0_2 : Bool) (y0_3 : PV) : spec_l5Put.l0 N (n + 1) x3 x4 y0_0 y0_1 y0_2 y0_3 = if decide (x4 < (y0_3.items.length : Int)) = true then (if 0 ≤ x4 then (if x4 < (y0_3.items.length : Int) then ((spec_l2AffixPut.f N [(PV.agg [(PV.sc (.string (((y0_3.elem x4.toNat).fld 0).toStr))), (PV.sc (.bool (((y0_3.elem x4.toNat).fld 1).toBool))), (PV.sc (.string (((y0_3.elem x4.toNat).fld 2).toStr))), (PV.sc (.string (((y0_3.elem x4.toNat).fld 3).toStr))), (PV.sc (.string (((y0_3.elem x4.toNat).fld 4).toStr)))])]).bind fun t1 => if x3.size + ((t1.headD default).toStr).size ≤ 9223372036854775807 then (if (x3 ++ ((t1.headD default).toStr)).size + (ByteArray.mk #[10]).size ≤ 9223372036854775807 then (spec_l5Put.l0 N n ((x3 ++ ((t1.headD default).toStr)) ++ (ByteArray.mk #[10])) (IntKind.i64.wrap (x4 + 1)) y0_0 y0_1 y0_2 y0_3) else none) else none) else none) else none) else (spec_l5Put.l1 N N x3 0 y0_0 y0_1 y0_2 y0_3) := by kernel_rfl
theorem spec_l5Put.l1_eq (N : Nat) (n : Nat) (x3 : ByteArray) (x5 : Int) (y0_0 : PV) (y0_1 : PV) (y0_2 : Bool) (y0_3 : PV) : spec_l5Put.l1 N (n + 1) x3 x5 y0_0 y0_1 y0_2 y0_3 = if decide (x5 < (y0_0.items.length : Int)) = true then (if x3.size + (ByteArray.mk #[45]).size ≤ 9223372036854775807 then (if 0 ≤ x5 then (if x5 < (y0_0.items.length : Int) then (if (x3 ++ (ByteArray.mk #[45])).size + ((y0_0.elem x5.toNat).toStr).size ≤ 9223372036854775807 then (if ((x3 ++ (ByteArray.mk #[45])) ++ ((y0_0.elem x5.toNat).toStr)).size + (ByteArray.mk #[10]).size ≤ 9223372036854775807 then (spec_l5Put.l1 N n (((x3 ++ (ByteArray.mk #[45])) ++ ((y0_0.elem x5.toNat).toStr)) ++ (ByteArray.mk #[10])) (IntKind.i64.wrap (x5 + 1)) y0_0 y0_1 y0_2 y0_3) else none) else none) else none) else none) else none) else (spec_l5Put.l2 N N x3 0 y0_0 y0_1 y0_2 y0_3) := by kernel_rfl
theorem spec_l5Put.l2_eq (N : Nat) (n : Nat) (x3 : ByteArray) (x6 : Int) (y0_0 : PV) (y0_1 : PV) (y0_2 : Bool) (y0_3 : PV) : spec_l5Put.l2 N (n + 1) x3 x6 y0_0 y0_1 y0_2 y0_3 = if decide (x6 < (y0_1.items.length : Int)) = true then (if x3.size + (ByteArray.mk #[43]).size ≤ 9223372036854775807 then (if 0 ≤ x6 then (if x6 < (y0_1.items.length : Int) then ((spec_l2EntryPut.f N [(PV.agg [(PV.sc (.string (((y0_1.elem x6.toNat).fld 0).toStr))), (PV.sc (.string (((y0_1.elem x6.toNat).fld 1).toStr)))])]).bind fun t2 => if (x3 ++ (ByteArray.mk #[43])).size + ((t2.headD default).toStr).size ≤ 9223372036854775807 then (if ((x3 ++ (ByteArray.mk #[43])) ++ ((t2.headD default).toStr)).size + (ByteArray.mk #[10]).size ≤ 9223372036854775807 then (spec_l5Put.l2 N n (((x3 ++ (ByteArray.mk #[43])) ++ ((t2.headD default).toStr)) ++ (ByteArray.mk #[10])) (IntKind.i64.wrap (x6 + 1)) y0_0 y0_1 y0_2 y0_3) else none) else none) else none) else none) else none) else (some [(PV.sc (.string x3))]) := by kernel_rfl
noncomputable def spec_l5Put.S (N : Nat) : ASpec := ⟨[(35, .ro)], [(9, .val)], spec_l5Put.f N⟩
theorem spec_l5Put.ok (N : Nat) : FnOk Tryz.prog 126 (spec_l5Put.S N) := fnOk_of (E := spec_l5Put.E N) mix Tryz.func126 (by kernel_rfl) (by kernel_rfl) (by kernel_rfl) (lk_ok (all_cons (spec_l2AffixPut.ok N) (all_cons (spec_l2EntryPut.ok N) all_nil))) (by kernel_rfl) (fun _ _ h => h)

/-! ### spec_l6Text: function 82, loop.example/medlar/spec.l6Text -/
noncomputable def spec_l6Text.E (N : Nat) : Env := ⟨lk [(125, spec_l1Dec.S N), (126, spec_l5Put.S N)], nzk [], N, [], false⟩
noncomputable def spec_l6Text.f (N : Nat) (a : List PV) : Option Res := run Tryz.prog (spec_l6Text.E N) Tryz.f82 [(37, .ro)] [(9, .val)] a
theorem spec_l6Text.f_eq (N : Nat) (a0 : PV) : spec_l6Text.f N [a0] = (spec_l1Dec.f N [(PV.sc (.int .i64 ((a0.fld 0).toInt)))]).bind fun t1 => if (ByteArray.mk #[114, 101, 108, 101, 97, 115, 101, 32]).size + ((t1.headD default).toStr).size ≤ 9223372036854775807 then (if ((ByteArray.mk #[114, 101, 108, 101, 97, 115, 101, 32]) ++ ((t1.headD default).toStr)).size + (ByteArray.mk #[32]).size ≤ 9223372036854775807 then (if (((ByteArray.mk #[114, 101, 108, 101, 97, 115, 101, 32]) ++ ((t1.headD default).toStr)) ++ (ByteArray.mk #[32])).size + ((a0.fld 2).toStr).size ≤ 9223372036854775807 then (if ((((ByteArray.mk #[114, 101, 108, 101, 97, 115, 101, 32]) ++ ((t1.headD default).toStr)) ++ (ByteArray.mk #[32])) ++ ((a0.fld 2).toStr)).size + (ByteArray.mk #[10]).size ≤ 9223372036854775807 then ((spec_l5Put.f N [(PV.agg [(a0.fld 1).fld 0, (a0.fld 1).fld 1, (PV.sc (.bool (((a0.fld 1).fld 2).toBool))), (a0.fld 1).fld 3])]).bind fun t2 => if (((((ByteArray.mk #[114, 101, 108, 101, 97, 115, 101, 32]) ++ ((t1.headD default).toStr)) ++ (ByteArray.mk #[32])) ++ ((a0.fld 2).toStr)) ++ (ByteArray.mk #[10])).size + ((t2.headD default).toStr).size ≤ 9223372036854775807 then (some [(PV.sc (.string ((((((ByteArray.mk #[114, 101, 108, 101, 97, 115, 101, 32]) ++ ((t1.headD default).toStr)) ++ (ByteArray.mk #[32])) ++ ((a0.fld 2).toStr)) ++ (ByteArray.mk #[10])) ++ ((t2.headD default).toStr))))]) else none) else none) else none) else none) else none := by kernel_rfl
noncomputable def spec_l6Text.S (N : Nat) : ASpec := ⟨[(37, .ro)], [(9, .val)], spec_l6Text.f N⟩
theorem spec_l6Text.ok (N : Nat) : FnOk Tryz.prog 82 (spec_l6Text.S N) := fnOk_of (E := spec_l6Text.E N) mix Tryz.func82 (by kernel_rfl) (by kernel_rfl) (by kernel_rfl) (lk_ok (all_cons (spec_l1Dec.ok N) (all_cons (spec_l5Put.ok N) all_nil))) (by kernel_rfl) (fun _ _ h => h)

/-! ### spec_l6Form: function 83, loop.example/medlar/spec.l6Form -/
noncomputable def spec_l6Form.E (N : Nat) : Env := ⟨lk [(77, spec_l1In.S N), (127, spec_DeltaOk.S N), (128, spec_l6Figure.S N), (82, spec_l6Text.S N)], nzk [(4, ⟨[0, 2, 4, 5, 6, 7, 8, 9, 10, 11, 12, 13, 14, 15, 16, 17, 18, 19, 20, 21, 22, 23, 24, 25, 26, 27, 28, 29, 30, 31, 32, 33, 34, 35, 36, 37, 38, 39, 40, 41, 42, 43, 44, 45, 46, 47], [], []⟩)], N, [], false⟩
noncomputable def spec_l6Form.f (N : Nat) (a : List PV) : Option Res := run Tryz.prog (spec_l6Form.E N) Tryz.f83 [(37, .ro)] [(4, .val)] a
noncomputable def spec_l6Form.l0 (N : Nat) (n : Nat) (x3 : Int) (y0_0 : Int) (y0_1_0 : PV) (y0_1_1 : PV) (y0_1_2 : Bool) (y0_1_3 : PV) (y0_2 : ByteArray) (y0_3 : ByteArray) : Option Res := loopAt Tryz.prog (spec_l6Form.E N) Tryz.f83 [(4, .val)] [1, 1, 0, 1, 0] [] n ⟨mkSlots 48 [(1, .ptr 0 []), (3, .sc (.int .i64 x3))], ohOf [.box 37 (.agg 37 [.sc (.int .i64 y0_0), .agg 35 [.ro 22 y0_1_0, .ro 32 y0_1_1, .sc (.bool y0_1_2), .ro 33 y0_1_3], .sc (.string y0_2), .sc (.string y0_3)])]⟩
theorem spec_l6Form.f_eq (N : Nat) (a0 : PV) : spec_l6Form.f N [a0] = (spec_l1In.f N [(PV.sc (.int .i64 ((a0.fld 0).toInt))), (PV.sc (.int .i64 1)), (PV.sc (.int .i64 999999))]).bind fun t1 => if (!((t1.headD default).toBool)) = false then ((spec_DeltaOk.f N [(PV.agg [(a0.fld 1).fld 0, (a0.fld 1).fld 1, (PV.sc (.bool (((a0.fld 1).fld 2).toBool))), (a0.fld 1).fld 3])]).bind fun t2 => if (!((t2.headD default).toBool)) = false then (if (!decide ((((a0.fld 2).toStr).size : Int) = 64)) = false then (if (!decide ((((a0.fld 3).toStr).size : Int) = 64)) = true then (some [(PV.sc (.bool false))]) else (spec_l6Form.l0 N N 0 ((a0.fld 0).toInt) ((a0.fld 1).fld 0) ((a0.fld 1).fld 1) (((a0.fld 1).fld 2).toBool) ((a0.fld 1).fld 3) ((a0.fld 2).toStr) ((a0.fld 3).toStr))) else (some [(PV.sc (.bool false))])) else (some [(PV.sc (.bool false))])) else (some [(PV.sc (.bool false))]) := by kernel_rfl
theorem spec_l6Form.l0_eq (N : Nat) (n : Nat) (x3 : Int) (y0_0 : Int) (y0_1_0 : PV) (y0_1_1 : PV) (y0_1_2 : Bool) (y0_1_3 : PV) (y0_2 : ByteArray) (y0_3 : ByteArray) : spec_l6Form.l0 N (n + 1) x3 y0_0 y0_1_0 y0_1_1 y0_1_2 y0_1_3 y0_2 y0_3 = if decide (x3 < 64) = true then (if 0 ≤ x3 then (if x3 < (y0_2.size : Int) then ((spec_l6Figure.f N [(PV.sc (.int .u8 ((y0_2.get! x3.toNat).toNat : Int)))]).bind fun t3 => if (!((t3.headD default).toBool)) = false then (if 0 ≤ x3 then (if x3 < (y0_3.size : Int) then ((spec_l6Figure.f N [(PV.sc (.int .u8 ((y0_3.get! x3.toNat).toNat : Int)))]).bind fun t4 => if (!((t4.headD default).toBool)) = true then (some [(PV.sc (.bool false))]) else (spec_l6Form.l0 N n (IntKind.i64.wrap (x3 + 1)) y0_0 y0_1_0 y0_1_1 y0_1_2 y0_1_3 y0_2 y0_3)) else none) else none) else (some [(PV.sc (.bool false))])) else none) else none) else ((spec_l6Text.f N [(PV.agg [(PV.sc (.int .i64 y0_0)), (PV.agg [y0_1_0, y0_1_1, (PV.sc (.bool y0_1_2)), y0_1_3]), (PV.sc (.string y0_2)), (PV.sc (.string y0_3))])]).bind fun t5 => some [(PV.sc (.bool (decide ((((t5.headD default).toStr).size : Int) ≤ 1200))))]) := by kernel_rfl
noncomputable def spec_l6Form.S (N : Nat) : ASpec := ⟨[(37, .ro)], [(4, .val)], spec_l6Form.f N⟩
theorem spec_l6Form.ok (N : Nat) : FnOk Tryz.prog 83 (spec_l6Form.S N) := fnOk_of (E := spec_l6Form.E N) mix Tryz.func83 (by kernel_rfl) (by kernel_rfl) (by kernel_rfl) (lk_ok (all_cons (spec_l1In.ok N) (all_cons (spec_DeltaOk.ok N) (all_cons (spec_l6Figure.ok N) (all_cons (spec_l6Text.ok N) all_nil))))) (by kernel_rfl) (fun _ _ h => h)

/-! ### spec_l6Pad: function 124, loop.example/medlar/spec.l6Pad -/
noncomputable def spec_l6Pad.E (N : Nat) : Env := ⟨lk [], nzk [(3, ⟨[2, 3, 4, 7, 8, 9, 10, 11, 12, 13, 14, 15, 16, 17, 18, 19, 20, 21, 22, 23, 24, 25, 26, 27], [(5, 61)], []⟩)], N, [], false⟩
noncomputable def spec_l6Pad.f (N : Nat) (a : List PV) : Option Res := run Tryz.prog (spec_l6Pad.E N) Tryz.f124 [(9, .ro), (5, .ro)] [(9, .val)] a
noncomputable def spec_l6Pad.l0 (N : Nat) (n : Nat) (x0 : ByteArray) (x1 : Int) (x6 : Int) (y0 : List PV) : Option Res := loopAt Tryz.prog (spec_l6Pad.E N) Tryz.f124 [(9, .val)] [1, 1, 0, 1, 0] [] n ⟨mkSlots 28 [(0, .sc (.string x0)), (1, .sc (.int .u8 x1)), (5, .ref 0 []), (6, .sc (.int .i64 x6))], ohOf [.row 61 (PV.list y0)]⟩
theorem spec_l6Pad.f_eq (N : Nat) (a0 : PV) (a1 : PV) : spec_l6Pad.f N [a0, a1] = spec_l6Pad.l0 N N a0.toStr a1.toInt 0 [] := by kernel_rfl
theorem spec_l6Pad.l0_eq (N : Nat) (n : Nat) (x0 : ByteArray) (x1 : Int) (x6 : Int) (y0 : List PV) : spec_l6Pad.l0 N (n + 1) x0 x1 x6 y0 = if decide (x6 < 64) = true then (if decide (x6 < (x0.size : Int)) = true then (if 0 ≤ x6 then (if x6 < (x0.size : Int) then (if y0.length + [(PV.sc (.int .u8 (bXor .u8 ((x0.get! x6.toNat).toNat : Int) x1)))].length ≤ 140737488355328 then (spec_l6Pad.l0 N n x0 x1 (IntKind.i64.wrap (x6 + 1)) (y0 ++ [(PV.sc (.int .u8 (bXor .u8 ((x0.get! x6.toNat).toNat : Int) x1)))])) else none) else none) else none) else (if y0.length + [(PV.sc (.int .u8 (bXor .u8 0 x1)))].length ≤ 140737488355328 then (spec_l6Pad.l0 N n x0 x1 (IntKind.i64.wrap (x6 + 1)) (y0 ++ [(PV.sc (.int .u8 (bXor .u8 0 x1)))])) else none)) else (some [(PV.sc (.string (bytesOfL y0)))]) := by kernel_rfl
noncomputable def spec_l6Pad.S (N : Nat) : ASpec := ⟨[(9, .ro), (5, .ro)], [(9, .val)], spec_l6Pad.f N⟩
theorem spec_l6Pad.ok (N : Nat) : FnOk Tryz.prog 124 (spec_l6Pad.S N) := fnOk_of (E := spec_l6Pad.E N) mix Tryz.func124 (by kernel_rfl) (by kernel_rfl) (by kernel_rfl) (lk_ok all_nil) (by kernel_rfl) (fun _ _ h => h)

/-! ### spec_l6Padded: function 152, loop.example/medlar/spec.l6Padded -/
noncomputable def spec_l6Padded.E (N : Nat) : Env := ⟨lk [], nzk [(2, ⟨[1, 2, 4, 5, 6, 7, 8, 9, 10, 11, 12, 13, 14, 15, 16, 17, 18, 19, 20, 21, 22, 23, 24, 25, 26, 27, 28, 29, 30, 31, 32], [(3, 61)], []⟩), (6, ⟨[0, 1, 2, 6, 7, 8, 9, 10, 11, 12, 13, 14, 15, 16, 17, 18, 19, 20, 21, 22, 23, 24, 25, 26, 27, 28, 29, 30, 31, 32], [(3, 61)], []⟩)], N, [], false⟩
noncomputable def spec_l6Padded.f (N : Nat) (a : List PV) : Option Res := run Tryz.prog (spec_l6Padded.E N) Tryz.f152 [(9, .ro)] [(61, .own)] a
noncomputable def spec_l6Padded.l0 (N : Nat) (n : Nat) (x0 : ByteArray) (y0 : List PV) : Option Res := loopAt Tryz.prog (spec_l6Padded.E N) Tryz.f152 [(61, .own)] [1, 1, 0, 0] [] n ⟨mkSlots 33 [(0, .sc (.string x0)), (3, .ref 0 [])], ohOf [.row 61 (PV.list y0)]⟩
noncomputable def spec_l6Padded.l1 (N : Nat) (n : Nat) (x4 : Int) (x5 : Int) (y0 : List PV) : Option Res := loopAt Tryz.prog (spec_l6Padded.E N) Tryz.f152 [(61, .own)] [1, 1, 1, 1, 0, 1, 0] [] n ⟨mkSlots 33 [(3, .ref 0 []), (4, .sc (.int .i64 x4)), (5, .sc (.int .i64 x5))], ohOf [.row 61 (PV.list y0)]⟩
theorem spec_l6Padded.f_eq (N : Nat) (a0 : PV) : spec_l6Padded.f N [a0] = if a0.toStr.size ≤ 9223372036854775807 then (if (bytesL a0.toStr).length + [(PV.sc (.int .u8 128))].length ≤ 140737488355328 then (spec_l6Padded.l0 N N a0.toStr ((bytesL a0.toStr) ++ [(PV.sc (.int .u8 128))])) else none) else none := by kernel_rfl
theorem spec_l6Padded.l0_eq (N : Nat) (n : Nat) (x0 : ByteArray) (y0 : List PV) : spec_l6Padded.l0 N (n + 1) x0 y0 = if 64 = 0 then none else (if (!decide ((Int.tmod (y0.length : Int) 64) = 56)) = true then (if y0.length + [(PV.sc (.int .u8 0))].length ≤ 140737488355328 then (spec_l6Padded.l0 N n x0 (y0 ++ [(PV.sc (.int .u8 0))])) else none) else (spec_l6Padded.l1 N N (IntKind.i64.wrap ((x0.size : Int) * 8)) 7 y0)) := by kernel_rfl
theorem spec_l6Padded.l1_eq (N : Nat) (n : Nat) (x4 : Int) (x5 : Int) (y0 : List PV) : spec_l6Padded.l1 N (n + 1) x4 x5 y0 = if decide (0 ≤ x5) = true then (if 0 ≤ (IntKind.i64.wrap (8 * x5)) then (if y0.length + [(PV.sc (.int .u8 (IntKind.u8.wrap (shrI .i64 x4 (IntKind.i64.wrap (8 * x5))))))].length ≤ 140737488355328 then (spec_l6Padded.l1 N n x4 (IntKind.i64.wrap (x5 - 1)) (y0 ++ [(PV.sc (.int .u8 (IntKind.u8.wrap (shrI .i64 x4 (IntKind.i64.wrap (8 * x5))))))])) else none) else none) else (some [(PV.list y0)]) := by kernel_rfl
noncomputable def spec_l6Padded.S (N : Nat) : ASpec := ⟨[(9, .ro)], [(61, .own)], spec_l6Padded.f N⟩
theorem spec_l6Padded.ok (N : Nat) : FnOk Tryz.prog 152 (spec_l6Padded.S N) := fnOk_of (E := spec_l6Padded.E N) mix Tryz.func152 (by kernel_rfl) (by kernel_rfl) (by kernel_rfl) (lk_ok all_nil) (by kernel_rfl) (fun _ _ h => h)

/-! ### spec_l6Turn: function 182, loop.example/medlar/spec.l6Turn -/
noncomputable def spec_l6Turn.E (N : Nat) : Env := ⟨lk [], nzk [], N, [], false⟩
noncomputable def spec_l6Turn.f (N : Nat) (a : List PV) : Option Res := run Tryz.prog (spec_l6Turn.E N) Tryz.f182 [(159, .ro), (3, .ro)] [(159, .val)] a
theorem spec_l6Turn.f_eq (N : Nat) (a0 : PV) (a1 : PV) : spec_l6Turn.f N [a0, a1] = if 0 ≤ a1.toInt then (if 0 ≤ (IntKind.i64.wrap (32 - a1.toInt)) then (some [(PV.sc (.int .u32 (bOr .u32 (shrI .u32 a0.toInt a1.toInt) (shlI .u32 a0.toInt (IntKind.i64.wrap (32 - a1.toInt))))))]) else none) else none := by kernel_rfl
noncomputable def spec_l6Turn.S (N : Nat) : ASpec := ⟨[(159, .ro), (3, .ro)], [(159, .val)], spec_l6Turn.f N⟩
theorem spec_l6Turn.ok (N : Nat) : FnOk Tryz.prog 182 (spec_l6Turn.S N) := fnOk_of (E := spec_l6Turn.E N) mix Tryz.func182 (by kernel_rfl) (by kernel_rfl) (by kernel_rfl) (lk_ok all_nil) (by kernel_rfl) (fun _ _ h => h)

/-! ### spec_l6Words: function 180, loop.example/medlar/spec.l6Words -/
noncomputable def spec_l6Words.E (N : Nat) : Env := ⟨lk [(182, spec_l6Turn.S N)], nzk [(3, ⟨[1, 2, 5, 6, 7, 8, 9, 10, 11, 12, 13, 14, 15, 16, 17, 18, 19, 20, 21, 22, 23, 24, 25, 26, 27, 28, 29, 30, 31, 32, 33, 34, 35, 36, 37, 38, 39, 40, 41, 42, 43, 44, 45, 46, 47, 48, 49, 50, 51, 52, 53, 54, 55, 56, 57, 58, 59, 60, 61, 62, 63, 64, 65, 66, 67, 68, 69, 70, 71, 72, 73, 74, 75, 76, 77, 78, 79, 80, 81, 82, 83, 84, 85, 86, 87, 88, 89, 90, 91, 92, 93, 94, 95, 96, 97, 98, 99], [(3, 160)], []⟩), (7, ⟨[0, 1, 2, 4, 6, 7, 8, 9, 10, 11, 12, 13, 14, 15, 16, 17, 18, 19, 20, 21, 22, 23, 24, 25, 26, 27, 28, 29, 30, 31, 32, 33, 34, 35, 36, 37, 38, 39, 40, 41, 42, 43, 44, 45, 46, 47, 48, 49, 50, 51, 52, 53, 54, 55, 56, 57, 58, 59, 60, 61, 62, 63, 64, 65, 66, 67, 68, 69, 70, 71, 72, 73, 74, 75, 76, 77, 78, 79, 80, 81, 82, 83, 84, 85, 86, 87, 88, 89, 90, 91, 92, 93, 94, 95, 96, 97, 98, 99], [(3, 160)], []⟩)], N, [], false⟩
noncomputable def spec_l6Words.f (N : Nat) (a : List PV) : Option Res := run Tryz.prog (spec_l6Words.E N) Tryz.f180 [(61, .ro)] [(160, .own)] a
noncomputable def spec_l6Words.l0 (N : Nat) (n : Nat) (x0 : PV) (x4 : Int) (y0 : List PV) : Option Res := loopAt Tryz.prog (spec_l6Words.E N) Tryz.f180 [(160, .own)] [1, 1, 0, 1, 0] [] n ⟨mkSlots 100 [(0, .ro 61 x0), (3, .ref 0 []), (4, .sc (.int .i64 x4))], ohOf [.row 160 (PV.list y0)]⟩
noncomputable def spec_l6Words.l1 (N : Nat) (n : Nat) (x5 : Int) (y0 : List PV) : Option Res := loopAt Tryz.prog (spec_l6Words.E N) Tryz.f180 [(160, .own)] [1, 1, 1, 0, 1, 0] [] n ⟨mkSlots 100 [(3, .ref 0 []), (5, .sc (.int .i64 x5))], ohOf [.row 160 (PV.list y0)]⟩
theorem spec_l6Words.f_eq (N : Nat) (a0 : PV) : spec_l6Words.f N [a0] = if 0 ≤ 0 then (if 0 ≤ 64 then (if 64 ≤ 70368744177664 then (spec_l6Words.l0 N N a0 0 (List.replicate 0 (PV.sc (.int .u32 0)))) else none) else none) else none := by kernel_rfl
theorem spec_l6Words.l0_eq (N : Nat) (n : Nat) (x0 : PV) (x4 : Int) (y0 : List PV) : spec_l6Words.l0 N (n + 1) x0 x4 y0 = if decide (x4 < 16) = true then (if 0 ≤ (IntKind.i64.wrap (4 * x4)) then (if (IntKind.i64.wrap (4 * x4)) < (x0.items.length : Int) then (if 0 ≤ 24 then (if 0 ≤ (IntKind.i64.wrap ((IntKind.i64.wrap (4 * x4)) + 1)) then (if (IntKind.i64.wrap ((IntKind.i64.wrap (4 * x4)) + 1)) < (x0.items.length : Int) then (if 0 ≤ 16 then (if 0 ≤ (IntKind.i64.wrap ((IntKind.i64.wrap (4 * x4)) + 2)) then (if (IntKind.i64.wrap ((IntKind.i64.wrap (4 * x4)) + 2)) < (x0.items.length : Int) then (if 0 ≤ 8 then (if 0 ≤ (IntKind.i64.wrap ((IntKind.i64.wrap (4 * x4)) + 3)) then (if (IntKind.i64.wrap ((IntKind.i64.wrap (4 * x4)) + 3)) < (x0.items.length : Int) then (if y0.length + [(PV.sc (.int .u32 (bOr .u32 (bOr .u32 (bOr .u32 (shlI .u32 (IntKind.u32.wrap ((x0.elem ((IntKind.i64.wrap (4 * x4)).toNat)).toInt)) 24) (shlI .u32 (IntKind.u32.wrap ((x0.elem ((IntKind.i64.wrap ((IntKind.i64.wrap (4 * x4)) + 1)).toNat)).toInt)) 16)) (shlI .u32 (IntKind.u32.wrap ((x0.elem ((IntKind.i64.wrap ((IntKind.i64.wrap (4 * x4)) + 2)).toNat)).toInt)) 8)) (IntKind.u32.wrap ((x0.elem ((IntKind.i64.wrap ((IntKind.i64.wrap (4 * x4)) + 3)).toNat)).toInt)))))].length ≤ 35184372088832 then (spec_l6Words.l0 N n x0 (IntKind.i64.wrap (x4 + 1)) (y0 ++ [(PV.sc (.int .u32 (bOr .u32 (bOr .u32 (bOr .u32 (shlI .u32 (IntKind.u32.wrap ((x0.elem ((IntKind.i64.wrap (4 * x4)).toNat)).toInt)) 24) (shlI .u32 (IntKind.u32.wrap ((x0.elem ((IntKind.i64.wrap ((IntKind.i64.wrap (4 * x4)) + 1)).toNat)).toInt)) 16)) (shlI .u32 (IntKind.u32.wrap ((x0.elem ((IntKind.i64.wrap ((IntKind.i64.wrap (4 * x4)) + 2)).toNat)).toInt)) 8)) (IntKind.u32.wrap ((x0.elem ((IntKind.i64.wrap ((IntKind.i64.wrap (4 * x4)) + 3)).toNat)).toInt)))))])) else none) else none) else none) else none) else none) else none) else none) else none) else none) else none) else none) else none) else (spec_l6Words.l1 N N 16 y0) := by kernel_rfl
theorem spec_l6Words.l1_eq (N : Nat) (n : Nat) (x5 : Int) (y0 : List PV) : spec_l6Words.l1 N (n + 1) x5 y0 = if decide (x5 < 64) = true then (if 0 ≤ (IntKind.i64.wrap (x5 - 15)) then (if (IntKind.i64.wrap (x5 - 15)) < (y0.length : Int) then (if 0 ≤ (IntKind.i64.wrap (x5 - 2)) then (if (IntKind.i64.wrap (x5 - 2)) < (y0.length : Int) then ((spec_l6Turn.f N [(PV.sc (.int .u32 (((PV.list y0).elem ((IntKind.i64.wrap (x5 - 15)).toNat)).toInt))), (PV.sc (.int .i64 7))]).bind fun t1 => (spec_l6Turn.f N [(PV.sc (.int .u32 (((PV.list y0).elem ((IntKind.i64.wrap (x5 - 15)).toNat)).toInt))), (PV.sc (.int .i64 18))]).bind fun t2 => if 0 ≤ 3 then ((spec_l6Turn.f N [(PV.sc (.int .u32 (((PV.list y0).elem ((IntKind.i64.wrap (x5 - 2)).toNat)).toInt))), (PV.sc (.int .i64 17))]).bind fun t3 => (spec_l6Turn.f N [(PV.sc (.int .u32 (((PV.list y0).elem ((IntKind.i64.wrap (x5 - 2)).toNat)).toInt))), (PV.sc (.int .i64 19))]).bind fun t4 => if 0 ≤ 10 then (if 0 ≤ (IntKind.i64.wrap (x5 - 16)) then (if (IntKind.i64.wrap (x5 - 16)) < (y0.length : Int) then (if 0 ≤ (IntKind.i64.wrap (x5 - 7)) then (if (IntKind.i64.wrap (x5 - 7)) < (y0.length : Int) then (if y0.length + [(PV.sc (.int .u32 (IntKind.u32.wrap ((IntKind.u32.wrap ((IntKind.u32.wrap ((((PV.list y0).elem ((IntKind.i64.wrap (x5 - 16)).toNat)).toInt) + (bXor .u32 (bXor .u32 ((t1.headD default).toInt) ((t2.headD default).toInt)) (shrI .u32 (((PV.list y0).elem ((IntKind.i64.wrap (x5 - 15)).toNat)).toInt) 3)))) + (((PV.list y0).elem ((IntKind.i64.wrap (x5 - 7)).toNat)).toInt))) + (bXor .u32 (bXor .u32 ((t3.headD default).toInt) ((t4.headD default).toInt)) (shrI .u32 (((PV.list y0).elem ((IntKind.i64.wrap (x5 - 2)).toNat)).toInt) 10))))))].length ≤ 35184372088832 then (spec_l6Words.l1 N n (IntKind.i64.wrap (x5 + 1)) (y0 ++ [(PV.sc (.int .u32 (IntKind.u32.wrap ((IntKind.u32.wrap ((IntKind.u32.wrap ((((PV.list y0).elem ((IntKind.i64.wrap (x5 - 16)).toNat)).toInt) + (bXor .u32 (bXor .u32 ((t1.headD default).toInt) ((t2.headD default).toInt)) (shrI .u32 (((PV.list y0).elem ((IntKind.i64.wrap (x5 - 15)).toNat)).toInt) 3)))) + (((PV.list y0).elem ((IntKind.i64.wrap (x5 - 7)).toNat)).toInt))) + (bXor .u32 (bXor .u32 ((t3.headD default).toInt) ((t4.headD default).toInt)) (shrI .u32 (((PV.list y0).elem ((IntKind.i64.wrap (x5 - 2)).toNat)).toInt) 10))))))])) else none) else none) else none) else none) else none) else none) else none) else none) else none) else none) else none) else (some [(PV.list y0)]) := by kernel_rfl
noncomputable def spec_l6Words.S (N : Nat) : ASpec := ⟨[(61, .ro)], [(160, .own)], spec_l6Words.f N⟩
theorem spec_l6Words.ok (N : Nat) : FnOk Tryz.prog 180 (spec_l6Words.S N) := fnOk_of (E := spec_l6Words.E N) mix Tryz.func180 (by kernel_rfl) (by kernel_rfl) (by kernel_rfl) (lk_ok (all_cons (spec_l6Turn.ok N) all_nil)) (by kernel_rfl) (fun _ _ h => h)

/-! ### spec_l6Consts: function 181, loop.example/medlar/spec.l6Consts -/
noncomputable def spec_l6Consts.E (N : Nat) : Env := ⟨lk [], nzk [], N, [], false⟩
noncomputable def spec_l6Consts.f (N : Nat) (a : List PV) : Option Res := run Tryz.prog (spec_l6Consts.E N) Tryz.f181 [] [(160, .own)] a
theorem spec_l6Consts.f_eq (N : Nat)  : spec_l6Consts.f N [] = some [(PV.list [(PV.sc (.int .u32 1116352408)), (PV.sc (.int .u32 1899447441)), (PV.sc (.int .u32 3049323471)), (PV.sc (.int .u32 3921009573)), (PV.sc (.int .u32 961987163)), (PV.sc (.int .u32 1508970993)), (PV.sc (.int .u32 2453635748)), (PV.sc (.int .u32 2870763221)), (PV.sc (.int .u32 3624381080)), (PV.sc (.int .u32 310598401)), (PV.sc (.int .u32 607225278)), (PV.sc (.int .u32 1426881987)), (PV.sc (.int .u32 1925078388)), (PV.sc (.int .u32 2162078206)), (PV.sc (.int .u32 2614888103)), (PV.sc (.int .u32 3248222580)), (PV.sc (.int .u32 3835390401)), (PV.sc (.int .u32 4022224774)), (PV.sc (.int .u32 264347078)), (PV.sc (.int .u32 604807628)), (PV.sc (.int .u32 770255983)), (PV.sc (.int .u32 1249150122)), (PV.sc (.int .u32 1555081692)), (PV.sc (.int .u32 1996064986)), (PV.sc (.int .u32 2554220882)), (PV.sc (.int .u32 2821834349)), (PV.sc (.int .u32 2952996808)), (PV.sc (.int .u32 3210313671)), (PV.sc (.int .u32 3336571891)), (PV.sc (.int .u32 3584528711)), (PV.sc (.int .u32 113926993)), (PV.sc (.int .u32 338241895)), (PV.sc (.int .u32 666307205)), (PV.sc (.int .u32 773529912)), (PV.sc (.int .u32 1294757372)), (PV.sc (.int .u32 1396182291)), (PV.sc (.int .u32 1695183700)), (PV.sc (.int .u32 1986661051)), (PV.sc (.int .u32 2177026350)), (PV.sc (.int .u32 2456956037)), (PV.sc (.int .u32 2730485921)), (PV.sc (.int .u32 2820302411)), (PV.sc (.int .u32 3259730800)), (PV.sc (.int .u32 3345764771)), (PV.sc (.int .u32 3516065817)), (PV.sc (.int .u32 3600352804)), (PV.sc (.int .u32 4094571909)), (PV.sc (.int .u32 275423344)), (PV.sc (.int .u32 430227734)), (PV.sc (.int .u32 506948616)), (PV.sc (.int .u32 659060556)), (PV.sc (.int .u32 883997877)), (PV.sc (.int .u32 958139571)), (PV.sc (.int .u32 1322822218)), (PV.sc (.int .u32 1537002063)), (PV.sc (.int .u32 1747873779)), (PV.sc (.int .u32 1955562222)), (PV.sc (.int .u32 2024104815)), (PV.sc (.int .u32 2227730452)), (PV.sc (.int .u32 2361852424)), (PV.sc (.int .u32 2428436474)), (PV.sc (.int .u32 2756734187)), (PV.sc (.int .u32 3204031479)), (PV.sc (.int .u32 3329325298))])] := by kernel_rfl
noncomputable def spec_l6Consts.S (N : Nat) : ASpec := ⟨[], [(160, .own)], spec_l6Consts.f N⟩
theorem spec_l6Consts.ok (N : Nat) : FnOk Tryz.prog 181 (spec_l6Consts.S N) := fnOk_of (E := spec_l6Consts.E N) mix Tryz.func181 (by kernel_rfl) (by kernel_rfl) (by kernel_rfl) (lk_ok all_nil) (by kernel_rfl) (fun _ _ h => h)

/-! ### spec_l6Block: function 153, loop.example/medlar/spec.l6Block -/
noncomputable def spec_l6Block.E (N : Nat) : Env := ⟨lk [(180, spec_l6Words.S N), (181, spec_l6Consts.S N), (182, spec_l6Turn.S N)], nzk [(5, ⟨[1, 2, 3, 4, 9, 10, 11, 12, 13, 14, 15, 16, 17, 18, 19, 20, 21, 22, 23, 24, 25, 26, 27, 28, 29, 30, 31, 32, 33, 34, 35, 36, 37, 38, 39, 40, 41, 42, 43, 44, 45, 46, 47, 48, 49, 50, 51, 52, 53, 54, 55, 56, 57, 58, 59, 60, 61, 62, 63, 64, 65, 66, 67, 68, 69, 70, 71, 72, 73, 74, 75, 76, 77, 78, 79, 80, 81, 82, 83, 84, 85, 86, 87, 88, 89, 90, 91, 92, 93, 94, 95, 96, 97, 98, 99, 100, 101, 102, 103, 104, 105, 106, 107, 108, 109, 110, 111, 112, 113, 114, 115, 116, 117, 118, 119, 120, 121, 122, 123, 124, 125, 126, 127, 128, 129, 130, 131, 132, 133, 134, 135, 136, 137, 138, 139, 140, 141, 142, 143, 144, 145, 146, 147, 148, 149, 150, 151, 152, 153, 154], [(7, 160)], []⟩), (13, ⟨[1, 2, 3, 4, 9, 10, 15, 16, 17, 18, 19, 20, 21, 22, 23, 24, 25, 26, 27, 28, 29, 30, 31, 32, 33, 34, 35, 36, 37, 38, 39, 40, 41, 42, 43, 44, 45, 46, 47, 48, 49, 50, 51, 52, 53, 54, 55, 56, 57, 58, 59, 60, 61, 62, 63, 64, 65, 66, 67, 68, 69, 70, 71, 72, 73, 74, 75, 76, 77, 78, 79, 80, 81, 82, 83, 84, 85, 86, 87, 88, 89, 90, 91, 92, 93, 94, 95, 96, 97, 98, 99, 100, 101, 102, 103, 104, 105, 106, 107, 108, 109, 110, 111, 112, 113, 114, 115, 116, 117, 118, 119, 120, 121, 122, 123, 124, 125, 126, 127, 128, 129, 130, 131, 132, 133, 134, 135, 136, 137, 138, 139, 140, 141, 142, 143, 144, 145, 146, 147, 148, 149, 150, 151, 152, 153, 154], [(7, 160)], []⟩), (20, ⟨[1, 2, 3, 4, 5, 6, 8, 9, 10, 11, 12, 13, 14, 17, 18, 19, 20, 21, 22, 23, 24, 25, 26, 27, 28, 29, 30, 31, 32, 33, 34, 35, 36, 37, 38, 39, 40, 41, 42, 43, 44, 45, 46, 47, 48, 49, 50, 51, 52, 53, 54, 55, 56, 57, 58, 59, 60, 61, 62, 63, 64, 65, 66, 67, 68, 69, 70, 71, 72, 73, 74, 75, 76, 77, 78, 79, 80, 81, 82, 83, 84, 85, 86, 87, 88, 89, 90, 91, 92, 93, 94, 95, 96, 97, 98, 99, 100, 101, 102, 103, 104, 105, 106, 107, 108, 109, 110, 111, 112, 113, 114, 115, 116, 117, 118, 119, 120, 121, 122, 123, 124, 125, 126, 127, 128, 129, 130, 131, 132, 133, 134, 135, 136, 137, 138, 139, 140, 141, 142, 143, 144, 145, 146, 147, 148, 149, 150, 151, 152, 153, 154], [(7, 160), (15, 160)], []⟩)], N, [], false⟩
noncomputable def spec_l6Block.f (N : Nat) (a : List PV) : Option Res := run Tryz.prog (spec_l6Block.E N) Tryz.f153 [(160, .ro), (61, .ro)] [(160, .own)] a
noncomputable def spec_l6Block.l0 (N : Nat) (n : Nat) (x0 : PV) (x8 : Int) (y0 : PV) (y1 : PV) (y2 : List PV) : Option Res := loopAt Tryz.prog (spec_l6Block.E N) Tryz.f153 [(160, .own)] [1, 1, 1, 1, 0, 1, 0] [] n ⟨mkSlots 155 [(0, .ro 160 x0), (5, .ref 0 []), (6, .ref 1 []), (7, .ref 2 []), (8, .sc (.int .i64 x8))], ohOf [.row 160 y0, .row 160 y1, .row 160 (PV.list y2)]⟩
noncomputable def spec_l6Block.l1 (N : Nat) (m0 : Nat) (n : Nat) (x0 : PV) (x8 : Int) (x11 : Int) (x12 : Int) (x13 : Int) (x14 : Int) (y0 : PV) (y1 : PV) (y2 : List PV) : Option Res := loopAt Tryz.prog (spec_l6Block.E N) Tryz.f153 [(160, .own)] [1, 1, 1, 1, 0, 1, 0, 0, 1, 0, 0, 1, 1, 1, 1, 1, 0, 1, 0] [m0] n ⟨mkSlots 155 [(0, .ro 160 x0), (5, .ref 0 []), (6, .ref 1 []), (7, .ref 2 []), (8, .sc (.int .i64 x8)), (11, .sc (.int .u32 x11)), (12, .sc (.int .u32 x12)), (13, .sc (.int .u32 x13)), (14, .sc (.int .i64 x14))], ohOf [.row 160 y0, .row 160 y1, .row 160 (PV.list y2)]⟩
noncomputable def spec_l6Block.l2 (N : Nat) (n : Nat) (x0 : PV) (x16 : Int) (y0 : List PV) (y1 : List PV) : Option Res := loopAt Tryz.prog (spec_l6Block.E N) Tryz.f153 [(160, .own)] [1, 1, 1, 1, 1, 1, 0, 1, 0] [] n ⟨mkSlots 155 [(0, .ro 160 x0), (7, .ref 0 []), (15, .ref 1 []), (16, .sc (.int .i64 x16))], ohOf [.row 160 (PV.list y0), .row 160 (PV.list y1)]⟩
theorem spec_l6Block.f_eq (N : Nat) (a0 : PV) (a1 : PV) : spec_l6Block.f N [a0, a1] = (spec_l6Words.f N [a1]).bind fun t1 => (spec_l6Consts.f N []).bind fun t2 => if ([] : List PV).length + a0.items.length ≤ 35184372088832 then (spec_l6Block.l0 N N a0 0 (t1.headD default) (t2.headD default) (([] : List PV) ++ a0.items)) else none := by kernel_rfl
theorem spec_l6Block.l0_eq (N : Nat) (n : Nat) (x0 : PV) (x8 : Int) (y0 : PV) (y1 : PV) (y2 : List PV) : spec_l6Block.l0 N (n + 1) x0 x8 y0 y1 y2 = if decide (x8 < 64) = true then (if 0 ≤ 4 then (if 4 < (y2.length : Int) then ((spec_l6Turn.f N [(PV.sc (.int .u32 (((PV.list y2).elem 4).toInt))), (PV.sc (.int .i64 6))]).bind fun t3 => if 0 ≤ 4 then (if 4 < (y2.length : Int) then ((spec_l6Turn.f N [(PV.sc (.int .u32 (((PV.list y2).elem 4).toInt))), (PV.sc (.int .i64 11))]).bind fun t4 => if 0 ≤ 4 then (if 4 < (y2.length : Int) then ((spec_l6Turn.f N [(PV.sc (.int .u32 (((PV.list y2).elem 4).toInt))), (PV.sc (.int .i64 25))]).bind fun t5 => if 0 ≤ 4 then (if 4 < (y2.length : Int) then (if 0 ≤ 5 then (if 5 < (y2.length : Int) then (if 0 ≤ 4 then (if 4 < (y2.length : Int) then (if 0 ≤ 6 then (if 6 < (y2.length : Int) then (if 0 ≤ 7 then (if 7 < (y2.length : Int) then (if 0 ≤ x8 then (if x8 < (y1.items.length : Int) then (if 0 ≤ x8 then (if x8 < (y0.items.length : Int) then (if 0 ≤ 0 then (if 0 < (y2.length : Int) then ((spec_l6Turn.f N [(PV.sc (.int .u32 (((PV.list y2).elem 0).toInt))), (PV.sc (.int .i64 2))]).bind fun t6 => if 0 ≤ 0 then (if 0 < (y2.length : Int) then ((spec_l6Turn.f N [(PV.sc (.int .u32 (((PV.list y2).elem 0).toInt))), (PV.sc (.int .i64 13))]).bind fun t7 => if 0 ≤ 0 then (if 0 < (y2.length : Int) then ((spec_l6Turn.f N [(PV.sc (.int .u32 (((PV.list y2).elem 0).toInt))), (PV.sc (.int .i64 22))]).bind fun t8 => if 0 ≤ 0 then (if 0 < (y2.length : Int) then (if 0 ≤ 1 then (if 1 < (y2.length : Int) then (if 0 ≤ 0 then (if 0 < (y2.length : Int) then (if 0 ≤ 2 then (if 2 < (y2.length : Int) then (if 0 ≤ 1 then (if 1 < (y2.length : Int) then (if 0 ≤ 2 then (if 2 < (y2.length : Int) then (spec_l6Block.l1 N n N x0 x8 (IntKind.u32.wrap ((IntKind.u32.wrap ((IntKind.u32.wrap ((IntKind.u32.wrap ((((PV.list y2).elem 7).toInt) + (bXor .u32 (bXor .u32 ((t3.headD default).toInt) ((t4.headD default).toInt)) ((t5.headD default).toInt)))) + (bXor .u32 (bAnd .u32 (((PV.list y2).elem 4).toInt) (((PV.list y2).elem 5).toInt)) (bAnd .u32 (bXor .u32 4294967295 (((PV.list y2).elem 4).toInt)) (((PV.list y2).elem 6).toInt))))) + ((y1.elem x8.toNat).toInt))) + ((y0.elem x8.toNat).toInt))) (bXor .u32 (bXor .u32 ((t6.headD default).toInt) ((t7.headD default).toInt)) ((t8.headD default).toInt)) (bXor .u32 (bXor .u32 (bAnd .u32 (((PV.list y2).elem 0).toInt) (((PV.list y2).elem 1).toInt)) (bAnd .u32 (((PV.list y2).elem 0).toInt) (((PV.list y2).elem 2).toInt))) (bAnd .u32 (((PV.list y2).elem 1).toInt) (((PV.list y2).elem 2).toInt))) 7 y0 y1 y2) else none) else none) else none) else none) else none) else none) else none) else none) else none) else none) else none) else none) else none) else none) else none) else none) else none) else none) else none) else none) else none) else none) else none) else none) else none) else none) else none) else none) else none) else none) else none) else none) else none) else none) else none) else none) else none) else none) else (spec_l6Block.l2 N N x0 0 y2 []) := by kernel_rfl
theorem spec_l6Block.l1_eq (N : Nat) (m0 : Nat) (n : Nat) (x0 : PV) (x8 : Int) (x11 : Int) (x12 : Int) (x13 : Int) (x14 : Int) (y0 : PV) (y1 : PV) (y2 : List PV) : spec_l6Block.l1 N m0 (n + 1) x0 x8 x11 x12 x13 x14 y0 y1 y2 = if decide (0 < x14) = true then (if 0 ≤ (IntKind.i64.wrap (x14 - 1)) then (if (IntKind.i64.wrap (x14 - 1)) < (y2.length : Int) then (if 0 ≤ x14 then (if x14 < (y2.length : Int) then (spec_l6Block.l1 N m0 n x0 x8 x11 x12 x13 (IntKind.i64.wrap (x14 - 1)) y0 y1 (y2.set x14.toNat (PV.sc (.int .u32 (((PV.list y2).elem ((IntKind.i64.wrap (x14 - 1)).toNat)).toInt))))) else none) else none) else none) else none) else (if 0 ≤ 4 then (if 4 < (y2.length : Int) then (if 0 ≤ 4 then (if 4 < (y2.length : Int) then (if 0 ≤ 0 then (if 0 < ((y2.set 4 (PV.sc (.int .u32 (IntKind.u32.wrap ((((PV.list y2).elem 4).toInt) + x11))))).length : Int) then (spec_l6Block.l0 N m0 x0 (IntKind.i64.wrap (x8 + 1)) y0 y1 ((y2.set 4 (PV.sc (.int .u32 (IntKind.u32.wrap ((((PV.list y2).elem 4).toInt) + x11))))).set 0 (PV.sc (.int .u32 (IntKind.u32.wrap ((IntKind.u32.wrap (x11 + x12)) + x13)))))) else none) else none) else none) else none) else none) else none) := by kernel_rfl
theorem spec_l6Block.l2_eq (N : Nat) (n : Nat) (x0 : PV) (x16 : Int) (y0 : List PV) (y1 : List PV) : spec_l6Block.l2 N (n + 1) x0 x16 y0 y1 = if decide (x16 < 8) = true then (if 0 ≤ x16 then (if x16 < (x0.items.length : Int) then (if 0 ≤ x16 then (if x16 < (y0.length : Int) then (if y1.length + [(PV.sc (.int .u32 (IntKind.u32.wrap (((x0.elem x16.toNat).toInt) + (((PV.list y0).elem x16.toNat).toInt)))))].length ≤ 35184372088832 then (spec_l6Block.l2 N n x0 (IntKind.i64.wrap (x16 + 1)) y0 (y1 ++ [(PV.sc (.int .u32 (IntKind.u32.wrap (((x0.elem x16.toNat).toInt) + (((PV.list y0).elem x16.toNat).toInt)))))])) else none) else none) else none) else none) else none) else (some [(PV.list y1)]) := by kernel_rfl
noncomputable def spec_l6Block.S (N : Nat) : ASpec := ⟨[(160, .ro), (61, .ro)], [(160, .own)], spec_l6Block.f N⟩
theorem spec_l6Block.ok (N : Nat) : FnOk Tryz.prog 153 (spec_l6Block.S N) := fnOk_of (E := spec_l6Block.E N) mix Tryz.func153 (by kernel_rfl) (by kernel_rfl) (by kernel_rfl) (lk_ok (all_cons (spec_l6Words.ok N) (all_cons (spec_l6Consts.ok N) (all_cons (spec_l6Turn.ok N) all_nil)))) (by kernel_rfl) (fun _ _ h => h)

/-! ### spec_l6Sum: function 121, loop.example/medlar/spec.l6Sum -/
noncomputable def spec_l6Sum.E (N : Nat) : Env := ⟨lk [(152, spec_l6Padded.S N), (153, spec_l6Block.S N)], nzk [(4, ⟨[0, 1, 2, 6, 7, 8, 9, 10, 11, 12, 13, 14, 15, 16, 17, 18, 19, 20, 21, 22, 23, 24, 25, 26, 27, 28, 29, 30, 31, 32, 33, 34, 35, 36, 37, 38, 39, 40, 41, 42, 43, 44, 45, 46, 47, 48, 49, 50, 51, 52, 53, 54, 55, 56], [], []⟩), (9, ⟨[0, 1, 2, 4, 5, 8, 9, 10, 11, 12, 13, 14, 15, 16, 17, 18, 19, 20, 21, 22, 23, 24, 25, 26, 27, 28, 29, 30, 31, 32, 33, 34, 35, 36, 37, 38, 39, 40, 41, 42, 43, 44, 45, 46, 47, 48, 49, 50, 51, 52, 53, 54, 55, 56], [(6, 61)], []⟩)], N, [], false⟩
noncomputable def spec_l6Sum.f (N : Nat) (a : List PV) : Option Res := run Tryz.prog (spec_l6Sum.E N) Tryz.f121 [(9, .ro)] [(9, .val)] a
noncomputable def spec_l6Sum.l0 (N : Nat) (n : Nat) (x5 : Int) (y0 : List PV) (y1 : PV) : Option Res := loopAt Tryz.prog (spec_l6Sum.E N) Tryz.f121 [(9, .val)] [1, 1, 1, 0, 1, 0] [] n ⟨mkSlots 57 [(3, .ref 0 []), (4, .ref 1 []), (5, .sc (.int .i64 x5))], ohOf [.row 160 (PV.list y0), .row 61 y1]⟩
noncomputable def spec_l6Sum.l1 (N : Nat) (n : Nat) (x5 : Int) (y0 : PV) (y1 : PV) : Option Res := loopAt Tryz.prog (spec_l6Sum.E N) Tryz.f121 [(9, .val)] [1, 1, 1, 0, 1, 0] [] n ⟨mkSlots 57 [(3, .ref 0 []), (4, .ref 1 []), (5, .sc (.int .i64 x5))], ohOf [.row 160 y0, .row 61 y1]⟩
noncomputable def spec_l6Sum.l2 (N : Nat) (n : Nat) (x7 : Int) (y0 : List PV) (y1 : List PV) : Option Res := loopAt Tryz.prog (spec_l6Sum.E N) Tryz.f121 [(9, .val)] [1, 1, 1, 1, 1, 0, 1, 0] [] n ⟨mkSlots 57 [(3, .ref 0 []), (6, .ref 1 []), (7, .sc (.int .i64 x7))], ohOf [.row 160 (PV.list y0), .row 61 (PV.list y1)]⟩
noncomputable def spec_l6Sum.l3 (N : Nat) (n : Nat) (x7 : Int) (y0 : PV) (y1 : List PV) : Option Res := loopAt Tryz.prog (spec_l6Sum.E N) Tryz.f121 [(9, .val)] [1, 1, 1, 1, 1, 0, 1, 0] [] n ⟨mkSlots 57 [(3, .ref 0 []), (6, .ref 1 []), (7, .sc (.int .i64 x7))], ohOf [.row 160 y0, .row 61 (PV.list y1)]⟩
theorem spec_l6Sum.f_eq (N : Nat) (a0 : PV) : spec_l6Sum.f N [a0] = (spec_l6Padded.f N [(PV.sc (.string a0.toStr))]).bind fun t1 => spec_l6Sum.l0 N N 0 [(PV.sc (.int .u32 1779033703)), (PV.sc (.int .u32 3144134277)), (PV.sc (.int .u32 1013904242)), (PV.sc (.int .u32 2773480762)), (PV.sc (.int .u32 1359893119)), (PV.sc (.int .u32 2600822924)), (PV.sc (.int .u32 528734635)), (PV.sc (.int .u32 1541459225))] (t1.headD default) := by kernel_rfl
theorem spec_l6Sum.l0_eq (N : Nat) (n : Nat) (x5 : Int) (y0 : List PV) (y1 : PV) : spec_l6Sum.l0 N (n + 1) x5 y0 y1 = if decide (x5 < (y1.items.length : Int)) = true then (if 0 ≤ x5 then (if x5 ≤ (IntKind.i64.wrap (x5 + 64)) then (if (IntKind.i64.wrap (x5 + 64)) ≤ (y1.items.length : Int) then ((spec_l6Block.f N [(PV.list y0), (PV.list ((y1.items.drop x5.toNat).take (((IntKind.i64.wrap (x5 + 64)).toNat) - x5.toNat)))]).bind fun t2 => spec_l6Sum.l1 N n (IntKind.i64.wrap (x5 + 64)) (t2.headD default) y1) else none) else none) else none) else (spec_l6Sum.l2 N N 0 y0 []) := by kernel_rfl
theorem spec_l6Sum.l1_eq (N : Nat) (n : Nat) (x5 : Int) (y0 : PV) (y1 : PV) : spec_l6Sum.l1 N (n + 1) x5 y0 y1 = if decide (x5 < (y1.items.length : Int)) = true then (if 0 ≤ x5 then (if x5 ≤ (IntKind.i64.wrap (x5 + 64)) then (if (IntKind.i64.wrap (x5 + 64)) ≤ (y1.items.length : Int) then ((spec_l6Block.f N [y0, (PV.list ((y1.items.drop x5.toNat).take (((IntKind.i64.wrap (x5 + 64)).toNat) - x5.toNat)))]).bind fun t3 => spec_l6Sum.l1 N n (IntKind.i64.wrap (x5 + 64)) (t3.headD default) y1) else none) else none) else none) else (spec_l6Sum.l3 N N 0 y0 []) := by kernel_rfl
theorem spec_l6Sum.l2_eq (N : Nat) (n : Nat) (x7 : Int) (y0 : List PV) (y1 : List PV) : spec_l6Sum.l2 N (n + 1) x7 y0 y1 = if decide (x7 < 8) = true then (if 0 ≤ x7 then (if x7 < (y0.length : Int) then (if 0 ≤ 24 then (if 0 ≤ x7 then (if x7 < (y0.length : Int) then (if 0 ≤ 16 then (if 0 ≤ x7 then (if x7 < (y0.length : Int) then (if 0 ≤ 8 then (if 0 ≤ x7 then (if x7 < (y0.length : Int) then (if y1.length + [(PV.sc (.int .u8 (IntKind.u8.wrap (shrI .u32 (((PV.list y0).elem x7.toNat).toInt) 24)))), (PV.sc (.int .u8 (IntKind.u8.wrap (shrI .u32 (((PV.list y0).elem x7.toNat).toInt) 16)))), (PV.sc (.int .u8 (IntKind.u8.wrap (shrI .u32 (((PV.list y0).elem x7.toNat).toInt) 8)))), (PV.sc (.int .u8 (IntKind.u8.wrap (((PV.list y0).elem x7.toNat).toInt))))].length ≤ 140737488355328 then (spec_l6Sum.l2 N n (IntKind.i64.wrap (x7 + 1)) y0 (y1 ++ [(PV.sc (.int .u8 (IntKind.u8.wrap (shrI .u32 (((PV.list y0).elem x7.toNat).toInt) 24)))), (PV.sc (.int .u8 (IntKind.u8.wrap (shrI .u32 (((PV.list y0).elem x7.toNat).toInt) 16)))), (PV.sc (.int .u8 (IntKind.u8.wrap (shrI .u32 (((PV.list y0).elem x7.toNat).toInt) 8)))), (PV.sc (.int .u8 (IntKind.u8.wrap (((PV.list y0).elem x7.toNat).toInt))))])) else none) else none) else none) else none) else none) else none) else none) else none) else none) else none) else none) else none) else (some [(PV.sc (.string (bytesOfL y1)))]) := by kernel_rfl
theorem spec_l6Sum.l3_eq (N : Nat) (n : Nat) (x7 : Int) (y0 : PV) (y1 : List PV) : spec_l6Sum.l3 N (n + 1) x7 y0 y1 = if decide (x7 < 8) = true then (if 0 ≤ x7 then (if x7 < (y0.items.length : Int) then (if 0 ≤ 24 then (if 0 ≤ x7 then (if x7 < (y0.items.length : Int) then (if 0 ≤ 16 then (if 0 ≤ x7 then (if x7 < (y0.items.length : Int) then (if 0 ≤ 8 then (if 0 ≤ x7 then (if x7 < (y0.items.length : Int) then (if y1.length + [(PV.sc (.int .u8 (IntKind.u8.wrap (shrI .u32 ((y0.elem x7.toNat).toInt) 24)))), (PV.sc (.int .u8 (IntKind.u8.wrap (shrI .u32 ((y0.elem x7.toNat).toInt) 16)))), (PV.sc (.int .u8 (IntKind.u8.wrap (shrI .u32 ((y0.elem x7.toNat).toInt) 8)))), (PV.sc (.int .u8 (IntKind.u8.wrap ((y0.elem x7.toNat).toInt))))].length ≤ 140737488355328 then (spec_l6Sum.l3 N n (IntKind.i64.wrap (x7 + 1)) y0 (y1 ++ [(PV.sc (.int .u8 (IntKind.u8.wrap (shrI .u32 ((y0.elem x7.toNat).toInt) 24)))), (PV.sc (.int .u8 (IntKind.u8.wrap (shrI .u32 ((y0.elem x7.toNat).toInt) 16)))), (PV.sc (.int .u8 (IntKind.u8.wrap (shrI .u32 ((y0.elem x7.toNat).toInt) 8)))), (PV.sc (.int .u8 (IntKind.u8.wrap ((y0.elem x7.toNat).toInt))))])) else none) else none) else none) else none) else none) else none) else none) else none) else none) else none) else none) else none) else (some [(PV.sc (.string (bytesOfL y1)))]) := by kernel_rfl
noncomputable def spec_l6Sum.S (N : Nat) : ASpec := ⟨[(9, .ro)], [(9, .val)], spec_l6Sum.f N⟩
theorem spec_l6Sum.ok (N : Nat) : FnOk Tryz.prog 121 (spec_l6Sum.S N) := fnOk_of (E := spec_l6Sum.E N) mix Tryz.func121 (by kernel_rfl) (by kernel_rfl) (by kernel_rfl) (lk_ok (all_cons (spec_l6Padded.ok N) (all_cons (spec_l6Block.ok N) all_nil))) (by kernel_rfl) (fun _ _ h => h)

/-! ### spec_l6Hex: function 120, loop.example/medlar/spec.l6Hex -/
noncomputable def spec_l6Hex.E (N : Nat) : Env := ⟨lk [], nzk [(4, ⟨[1, 2, 6, 7, 8, 9, 10, 11, 12, 13, 14, 15, 16, 17, 18, 19, 20, 21, 22, 23, 24, 25, 26, 27, 28, 29], [(4, 61)], []⟩)], N, [], false⟩
noncomputable def spec_l6Hex.f (N : Nat) (a : List PV) : Option Res := run Tryz.prog (spec_l6Hex.E N) Tryz.f120 [(9, .ro)] [(9, .val)] a
noncomputable def spec_l6Hex.l0 (N : Nat) (n : Nat) (x0 : ByteArray) (x3 : ByteArray) (x5 : Int) (y0 : List PV) : Option Res := loopAt Tryz.prog (spec_l6Hex.E N) Tryz.f120 [(9, .val)] [1, 1, 1, 0, 1, 0] [] n ⟨mkSlots 30 [(0, .sc (.string x0)), (3, .sc (.string x3)), (4, .ref 0 []), (5, .sc (.int .i64 x5))], ohOf [.row 61 (PV.list y0)]⟩
theorem spec_l6Hex.f_eq (N : Nat) (a0 : PV) : spec_l6Hex.f N [a0] = spec_l6Hex.l0 N N a0.toStr (ByteArray.mk #[48, 49, 50, 51, 52, 53, 54, 55, 56, 57, 97, 98, 99, 100, 101, 102]) 0 [] := by kernel_rfl
theorem spec_l6Hex.l0_eq (N : Nat) (n : Nat) (x0 : ByteArray) (x3 : ByteArray) (x5 : Int) (y0 : List PV) : spec_l6Hex.l0 N (n + 1) x0 x3 x5 y0 = if decide (x5 < (x0.size : Int)) = true then (if 0 ≤ x5 then (if x5 < (x0.size : Int) then (if 16 = 0 then none else (if 0 ≤ (IntKind.u8.wrap (Int.tdiv ((x0.get! x5.toNat).toNat : Int) 16)) then (if (IntKind.u8.wrap (Int.tdiv ((x0.get! x5.toNat).toNat : Int) 16)) < (x3.size : Int) then (if 0 ≤ x5 then (if x5 < (x0.size : Int) then (if 16 = 0 then none else (if 0 ≤ (Int.tmod ((x0.get! x5.toNat).toNat : Int) 16) then (if (Int.tmod ((x0.get! x5.toNat).toNat : Int) 16) < (x3.size : Int) then (if y0.length + [(PV.sc (.int .u8 ((x3.get! (IntKind.u8.wrap (Int.tdiv ((x0.get! x5.toNat).toNat : Int) 16)).toNat).toNat : Int))), (PV.sc (.int .u8 ((x3.get! (Int.tmod ((x0.get! x5.toNat).toNat : Int) 16).toNat).toNat : Int)))].length ≤ 140737488355328 then (spec_l6Hex.l0 N n x0 x3 (IntKind.i64.wrap (x5 + 1)) (y0 ++ [(PV.sc (.int .u8 ((x3.get! (IntKind.u8.wrap (Int.tdiv ((x0.get! x5.toNat).toNat : Int) 16)).toNat).toNat : Int))), (PV.sc (.int .u8 ((x3.get! (Int.tmod ((x0.get! x5.toNat).toNat : Int) 16).toNat).toNat : Int)))])) else none) else none) else none)) else none) else none) else none) else none)) else none) else none) else (some [(PV.sc (.string (bytesOfL y0)))]) := by kernel_rfl
noncomputable def spec_l6Hex.S (N : Nat) : ASpec := ⟨[(9, .ro)], [(9, .val)], spec_l6Hex.f N⟩
theorem spec_l6Hex.ok (N : Nat) : FnOk Tryz.prog 120 (spec_l6Hex.S N) := fnOk_of (E := spec_l6Hex.E N) mix Tryz.func120 (by kernel_rfl) (by kernel_rfl) (by kernel_rfl) (lk_ok all_nil) (by kernel_rfl) (fun _ _ h => h)

/-! ### spec_SealOf: function 81, loop.example/medlar/spec.SealOf -/
noncomputable def spec_SealOf.E (N : Nat) : Env := ⟨lk [(76, spec_l6Key.S N), (124, spec_l6Pad.S N), (121, spec_l6Sum.S N), (120, spec_l6Hex.S N)], nzk [], N, [], false⟩
noncomputable def spec_SealOf.f (N : Nat) (a : List PV) : Option Res := run Tryz.prog (spec_SealOf.E N) Tryz.f81 [(9, .ro), (9, .ro)] [(9, .val)] a
theorem spec_SealOf.f_eq (N : Nat) (a0 : PV) (a1 : PV) : spec_SealOf.f N [a0, a1] = (spec_l6Key.f N [(PV.sc (.string a0.toStr))]).bind fun t1 => if (!((t1.headD default).toBool)) = true then (some [(PV.sc (.string (ByteArray.mk #[])))]) else ((spec_l6Pad.f N [(PV.sc (.string a0.toStr)), (PV.sc (.int .u8 92))]).bind fun t2 => (spec_l6Pad.f N [(PV.sc (.string a0.toStr)), (PV.sc (.int .u8 54))]).bind fun t3 => if ((t3.headD default).toStr).size + a1.toStr.size ≤ 9223372036854775807 then ((spec_l6Sum.f N [(PV.sc (.string (((t3.headD default).toStr) ++ a1.toStr)))]).bind fun t4 => if ((t2.headD default).toStr).size + ((t4.headD default).toStr).size ≤ 9223372036854775807 then ((spec_l6Sum.f N [(PV.sc (.string (((t2.headD default).toStr) ++ ((t4.headD default).toStr))))]).bind fun t5 => (spec_l6Hex.f N [(PV.sc (.string ((t5.headD default).toStr)))]).bind fun t6 => some [(PV.sc (.string ((t6.headD default).toStr)))]) else none) else none) := by kernel_rfl
noncomputable def spec_SealOf.S (N : Nat) : ASpec := ⟨[(9, .ro), (9, .ro)], [(9, .val)], spec_SealOf.f N⟩
theorem spec_SealOf.ok (N : Nat) : FnOk Tryz.prog 81 (spec_SealOf.S N) := fnOk_of (E := spec_SealOf.E N) mix Tryz.func81 (by kernel_rfl) (by kernel_rfl) (by kernel_rfl) (lk_ok (all_cons (spec_l6Key.ok N) (all_cons (spec_l6Pad.ok N) (all_cons (spec_l6Sum.ok N) (all_cons (spec_l6Hex.ok N) all_nil))))) (by kernel_rfl) (fun _ _ h => h)

/-! ### spec_ReleaseOk: function 94, loop.example/medlar/spec.ReleaseOk -/
noncomputable def spec_ReleaseOk.E (N : Nat) : Env := ⟨lk [(76, spec_l6Key.S N), (83, spec_l6Form.S N), (82, spec_l6Text.S N), (81, spec_SealOf.S N)], nzk [], N, [], false⟩
noncomputable def spec_ReleaseOk.f (N : Nat) (a : List PV) : Option Res := run Tryz.prog (spec_ReleaseOk.E N) Tryz.f94 [(9, .ro), (37, .ro)] [(4, .val)] a
theorem spec_ReleaseOk.f_eq (N : Nat) (a0 : PV) (a1 : PV) : spec_ReleaseOk.f N [a0, a1] = (spec_l6Key.f N [(PV.sc (.string a0.toStr))]).bind fun t1 => if (t1.headD default).toBool = true then ((spec_l6Form.f N [(PV.agg [(PV.sc (.int .i64 ((a1.fld 0).toInt))), (PV.agg [(a1.fld 1).fld 0, (a1.fld 1).fld 1, (PV.sc (.bool (((a1.fld 1).fld 2).toBool))), (a1.fld 1).fld 3]), (PV.sc (.string ((a1.fld 2).toStr))), (PV.sc (.string ((a1.fld 3).toStr)))])]).bind fun t2 => if (t2.headD default).toBool = true then ((spec_l6Text.f N [(PV.agg [(PV.sc (.int .i64 ((a1.fld 0).toInt))), (PV.agg [(a1.fld 1).fld 0, (a1.fld 1).fld 1, (PV.sc (.bool (((a1.fld 1).fld 2).toBool))), (a1.fld 1).fld 3]), (PV.sc (.string ((a1.fld 2).toStr))), (PV.sc (.string ((a1.fld 3).toStr)))])]).bind fun t3 => (spec_SealOf.f N [(PV.sc (.string a0.toStr)), (PV.sc (.string ((t3.headD default).toStr)))]).bind fun t4 => some [(PV.sc (.bool (decide (((t4.headD default).toStr).toList = ((a1.fld 3).toStr).toList))))]) else (some [(PV.sc (.bool false))])) else (some [(PV.sc (.bool false))]) := by kernel_rfl
noncomputable def spec_ReleaseOk.S (N : Nat) : ASpec := ⟨[(9, .ro), (37, .ro)], [(4, .val)], spec_ReleaseOk.f N⟩
theorem spec_ReleaseOk.ok (N : Nat) : FnOk Tryz.prog 94 (spec_ReleaseOk.S N) := fnOk_of (E := spec_ReleaseOk.E N) mix Tryz.func94 (by kernel_rfl) (by kernel_rfl) (by kernel_rfl) (lk_ok (all_cons (spec_l6Key.ok N) (all_cons (spec_l6Form.ok N) (all_cons (spec_l6Text.ok N) (all_cons (spec_SealOf.ok N) all_nil))))) (by kernel_rfl) (fun _ _ h => h)

/-! ### spec_l5At: function 118, loop.example/medlar/spec.l5At -/
noncomputable def spec_l5At.E (N : Nat) : Env := ⟨lk [], nzk [(2, ⟨[2, 3, 4, 5, 7, 8, 9, 10, 11, 12, 13, 14, 15, 16, 17, 18, 19, 20, 21, 22, 23, 24, 25, 26, 27, 28, 29, 30, 31, 32, 33, 34, 35], [], []⟩)], N, [], false⟩
noncomputable def spec_l5At.f (N : Nat) (a : List PV) : Option Res := run Tryz.prog (spec_l5At.E N) Tryz.f118 [(32, .ro), (9, .ro)] [(3, .val), (4, .val)] a
noncomputable def spec_l5At.l0 (N : Nat) (n : Nat) (x0 : PV) (x1 : ByteArray) (x6 : Int) : Option Res := loopAt Tryz.prog (spec_l5At.E N) Tryz.f118 [(3, .val), (4, .val)] [1, 1, 0, 0] [] n ⟨mkSlots 36 [(0, .ro 32 x0), (1, .sc (.string x1)), (6, .sc (.int .i64 x6))], ohOf []⟩
theorem spec_l5At.f_eq (N : Nat) (a0 : PV) (a1 : PV) : spec_l5At.f N [a0, a1] = spec_l5At.l0 N N a0 a1.toStr 0 := by kernel_rfl
theorem spec_l5At.l0_eq (N : Nat) (n : Nat) (x0 : PV) (x1 : ByteArray) (x6 : Int) : spec_l5At.l0 N (n + 1) x0 x1 x6 = if decide (x6 < (x0.items.length : Int)) = true then (if 0 ≤ x6 then (if x6 < (x0.items.length : Int) then (if Op.bytesLess (((x0.elem x6.toNat).fld 0).toStr).toList x1.toList = true then (spec_l5At.l0 N n x0 x1 (IntKind.i64.wrap (x6 + 1))) else (if decide (x6 < (x0.items.length : Int)) = true then (if 0 ≤ x6 then (if x6 < (x0.items.length : Int) then (some [(PV.sc (.int .i64 x6)), (PV.sc (.bool (decide ((((x0.elem x6.toNat).fld 0).toStr).toList = x1.toList))))]) else none) else none) else (some [(PV.sc (.int .i64 x6)), (PV.sc (.bool false))]))) else none) else none) else (if decide (x6 < (x0.items.length : Int)) = true then (if 0 ≤ x6 then (if x6 < (x0.items.length : Int) then (some [(PV.sc (.int .i64 x6)), (PV.sc (.bool (decide ((((x0.elem x6.toNat).fld 0).toStr).toList = x1.toList))))]) else none) else none) else (some [(PV.sc (.int .i64 x6)), (PV.sc (.bool false))])) := by kernel_rfl
noncomputable def spec_l5At.S (N : Nat) : ASpec := ⟨[(32, .ro), (9, .ro)], [(3, .val), (4, .val)], spec_l5At.f N⟩
theorem spec_l5At.ok (N : Nat) : FnOk Tryz.prog 118 (spec_l5At.S N) := fnOk_of (E := spec_l5At.E N) mix Tryz.func118 (by kernel_rfl) (by kernel_rfl) (by kernel_rfl) (lk_ok all_nil) (by kernel_rfl) (fun _ _ h => h)

/-! ### spec_l2In: function 160, loop.example/medlar/spec.l2In -/
noncomputable def spec_l2In.E (N : Nat) : Env := ⟨lk [], nzk [(2, ⟨[2, 3, 4, 6, 7, 8, 9, 10, 11, 12, 13, 14, 15, 16, 17], [], []⟩)], N, [], false⟩
noncomputable def spec_l2In.f (N : Nat) (a : List PV) : Option Res := run Tryz.prog (spec_l2In.E N) Tryz.f160 [(22, .ro), (9, .ro)] [(4, .val)] a
noncomputable def spec_l2In.l0 (N : Nat) (n : Nat) (x0 : PV) (x1 : ByteArray) (x5 : Int) : Option Res := loopAt Tryz.prog (spec_l2In.E N) Tryz.f160 [(4, .val)] [1, 0, 1, 0] [] n ⟨mkSlots 18 [(0, .ro 22 x0), (1, .sc (.string x1)), (5, .sc (.int .i64 x5))], ohOf []⟩
theorem spec_l2In.f_eq (N : Nat) (a0 : PV) (a1 : PV) : spec_l2In.f N [a0, a1] = spec_l2In.l0 N N a0 a1.toStr 0 := by kernel_rfl
theorem spec_l2In.l0_eq (N : Nat) (n : Nat) (x0 : PV) (x1 : ByteArray) (x5 : Int) : spec_l2In.l0 N (n + 1) x0 x1 x5 = if decide (x5 < (x0.items.length : Int)) = true then (if 0 ≤ x5 then (if x5 < (x0.items.length : Int) then (if decide (((x0.elem x5.toNat).toStr).toList = x1.toList) = true then (some [(PV.sc (.bool true))]) else (spec_l2In.l0 N n x0 x1 (IntKind.i64.wrap (x5 + 1)))) else none) else none) else (some [(PV.sc (.bool false))]) := by kernel_rfl
noncomputable def spec_l2In.S (N : Nat) : ASpec := ⟨[(22, .ro), (9, .ro)], [(4, .val)], spec_l2In.f N⟩
theorem spec_l2In.ok (N : Nat) : FnOk Tryz.prog 160 (spec_l2In.S N) := fnOk_of (E := spec_l2In.E N) mix Tryz.func160 (by kernel_rfl) (by kernel_rfl) (by kernel_rfl) (lk_ok all_nil) (by kernel_rfl) (fun _ _ h => h)

/-! ### spec_l5Do: function 136, loop.example/medlar/spec.l5Do -/
noncomputable def spec_l5Do.E (N : Nat) : Env := ⟨lk [(55, spec_l5Book.S N), (118, spec_l5At.S N), (160, spec_l2In.S N)], nzk [(4, ⟨[0, 1, 8, 9, 10, 11, 12, 13, 14, 15, 16, 17, 18, 19, 20, 21, 22, 23, 24, 25, 26, 27, 28, 29, 30, 31, 32, 33, 34, 35, 36, 37, 38, 39, 40, 41, 42, 43, 44, 45, 46, 47, 48, 49, 50, 51, 52, 53, 54, 55, 56, 57, 58, 59, 60, 61, 62, 63, 64, 65, 66, 67, 68, 69, 70, 71, 72, 73, 74, 75, 76, 77, 78, 79, 80, 81, 82, 83, 84, 85, 86, 87, 88, 89, 90, 91, 92, 93, 94, 95, 96, 97, 98, 99, 100], [(6, 32)], []⟩), (10, ⟨[0, 1, 2, 7, 8, 9, 11, 12, 13, 14, 15, 16, 17, 18, 19, 20, 21, 22, 23, 24, 25, 26, 27, 28, 29, 30, 31, 32, 33, 34, 35, 36, 37, 38, 39, 40, 41, 42, 43, 44, 45, 46, 47, 48, 49, 50, 51, 52, 53, 54, 55, 56, 57, 58, 59, 60, 61, 62, 63, 64, 65, 66, 67, 68, 69, 70, 71, 72, 73, 74, 75, 76, 77, 78, 79, 80, 81, 82, 83, 84, 85, 86, 87, 88, 89, 90, 91, 92, 93, 94, 95, 96, 97, 98, 99, 100], [(6, 32)], []⟩)], N, [], false⟩
noncomputable def spec_l5Do.f (N : Nat) (a : List PV) : Option Res := run Tryz.prog (spec_l5Do.E N) Tryz.f136 [(43, .ro), (35, .ro)] [(43, .own)] a
noncomputable def spec_l5Do.l0 (N : Nat) (n : Nat) (x7 : Int) (y0_0 : PV) (y0_1 : PV) (y1_0 : PV) (y1_1 : PV) (y1_2 : Bool) (y1_3 : PV) (y4 : List PV) (y5 : PV) (y6 : PV) : Option Res := loopAt Tryz.prog (spec_l5Do.E N) Tryz.f136 [(43, .own)] [1, 1, 1, 0, 1, 0] [] n ⟨mkSlots 101 [(2, .ptr 0 []), (3, .ptr 1 []), (4, .ptr 2 []), (5, .ptr 3 []), (6, .ref 4 []), (7, .sc (.int .i64 x7))], ohOf [.box 43 (.agg 43 [.ro 33 y0_0, .ro 32 y0_1]), .box 35 (.agg 35 [.ro 22 y1_0, .ro 32 y1_1, .sc (.bool y1_2), .ro 33 y1_3]), .box 43 (.agg 43 [.nil, .nil]), .box 43 (.agg 43 [.ref 5 [], .ref 6 []]), .row 32 (PV.list y4), .row 33 y5, .row 32 y6]⟩
noncomputable def spec_l5Do.l1 (N : Nat) (n : Nat) (x10 : Int) (y0_0 : PV) (y0_1 : PV) (y0_2 : Bool) (y0_3 : PV) (y3 : List PV) (y4 : PV) (y5 : PV) : Option Res := loopAt Tryz.prog (spec_l5Do.E N) Tryz.f136 [(43, .own)] [1, 1, 1, 1, 0, 1, 0] [] n ⟨mkSlots 101 [(3, .ptr 0 []), (4, .ptr 1 []), (5, .ptr 2 []), (6, .ref 3 []), (10, .sc (.int .i64 x10))], ohOf [.box 35 (.agg 35 [.ro 22 y0_0, .ro 32 y0_1, .sc (.bool y0_2), .ro 33 y0_3]), .box 43 (.agg 43 [.nil, .nil]), .box 43 (.agg 43 [.ref 4 [], .ref 5 []]), .row 32 (PV.list y3), .row 33 y4, .row 32 y5]⟩
theorem spec_l5Do.f_eq (N : Nat) (a0 : PV) (a1 : PV) : spec_l5Do.f N [a0, a1] = (spec_l5Book.f N [(PV.agg [a0.fld 0, a0.fld 1])]).bind fun t1 => spec_l5Do.l0 N N 0 (a0.fld 0) (a0.fld 1) (a1.fld 0) (a1.fld 1) ((a1.fld 2).toBool) (a1.fld 3) [] ((t1.headD default).fld 0) ((t1.headD default).fld 1) := by kernel_rfl
theorem spec_l5Do.l0_eq (N : Nat) (n : Nat) (x7 : Int) (y0_0 : PV) (y0_1 : PV) (y1_0 : PV) (y1_1 : PV) (y1_2 : Bool) (y1_3 : PV) (y4 : List PV) (y5 : PV) (y6 : PV) : spec_l5Do.l0 N (n + 1) x7 y0_0 y0_1 y1_0 y1_1 y1_2 y1_3 y4 y5 y6 = if decide (x7 < (y0_1.items.length : Int)) = true then (if 0 ≤ x7 then (if x7 < (y0_1.items.length : Int) then ((spec_l5At.f N [y1_1, (PV.sc (.string (((y0_1.elem x7.toNat).fld 0).toStr)))]).bind fun t2 => if (!((t2.tail.headD default).toBool)) = true then (if 0 ≤ x7 then (if x7 < (y0_1.items.length : Int) then ((spec_l2In.f N [y1_0, (PV.sc (.string (((y0_1.elem x7.toNat).fld 0).toStr)))]).bind fun t3 => if (!((t3.headD default).toBool)) = true then (if 0 ≤ x7 then (if x7 < (y0_1.items.length : Int) then (if y4.length + ([(PV.agg [(PV.sc (.string (((y0_1.elem x7.toNat).fld 0).toStr))), (PV.sc (.string (((y0_1.elem x7.toNat).fld 1).toStr)))])]).length ≤ 4398046511104 then (spec_l5Do.l0 N n (IntKind.i64.wrap (x7 + 1)) y0_0 y0_1 y1_0 y1_1 y1_2 y1_3 (y4 ++ ([(PV.agg [(PV.sc (.string (((y0_1.elem x7.toNat).fld 0).toStr))), (PV.sc (.string (((y0_1.elem x7.toNat).fld 1).toStr)))])])) y5 y6) else none) else none) else none) else (spec_l5Do.l0 N n (IntKind.i64.wrap (x7 + 1)) y0_0 y0_1 y1_0 y1_1 y1_2 y1_3 y4 y5 y6)) else none) else none) else (spec_l5Do.l0 N n (IntKind.i64.wrap (x7 + 1)) y0_0 y0_1 y1_0 y1_1 y1_2 y1_3 y4 y5 y6)) else none) else none) else (spec_l5Do.l1 N N 0 y1_0 y1_1 y1_2 y1_3 y4 y5 y6) := by kernel_rfl
theorem spec_l5Do.l1_eq (N : Nat) (n : Nat) (x10 : Int) (y0_0 : PV) (y0_1 : PV) (y0_2 : Bool) (y0_3 : PV) (y3 : List PV) (y4 : PV) (y5 : PV) : spec_l5Do.l1 N (n + 1) x10 y0_0 y0_1 y0_2 y0_3 y3 y4 y5 = if decide (x10 < (y0_1.items.length : Int)) = true then (if 0 ≤ x10 then (if x10 < (y0_1.items.length : Int) then ((spec_l5At.f N [(PV.list y3), (PV.sc (.string (((y0_1.elem x10.toNat).fld 0).toStr)))]).bind fun t4 => if 0 ≤ ((t4.headD default).toInt) then (if ((t4.headD default).toInt) ≤ (y3.length : Int) then (if ([] : List PV).length + ((y3.drop 0).take ((((t4.headD default).toInt).toNat) - 0)).length ≤ 4398046511104 then (if 0 ≤ x10 then (if x10 < (y0_1.items.length : Int) then (if (([] : List PV) ++ ((y3.drop 0).take ((((t4.headD default).toInt).toNat) - 0))).length + ([(PV.agg [(PV.sc (.string (((y0_1.elem x10.toNat).fld 0).toStr))), (PV.sc (.string (((y0_1.elem x10.toNat).fld 1).toStr)))])]).length ≤ 4398046511104 then (if 0 ≤ ((t4.headD default).toInt) then (if ((t4.headD default).toInt) ≤ (y3.length : Int) then (if ((([] : List PV) ++ ((y3.drop 0).take ((((t4.headD default).toInt).toNat) - 0))) ++ ([(PV.agg [(PV.sc (.string (((y0_1.elem x10.toNat).fld 0).toStr))), (PV.sc (.string (((y0_1.elem x10.toNat).fld 1).toStr)))])])).length + ((y3.drop (((t4.headD default).toInt).toNat)).take (y3.length - (((t4.headD default).toInt).toNat))).length ≤ 4398046511104 then (spec_l5Do.l1 N n (IntKind.i64.wrap (x10 + 1)) y0_0 y0_1 y0_2 y0_3 (((([] : List PV) ++ ((y3.drop 0).take ((((t4.headD default).toInt).toNat) - 0))) ++ ([(PV.agg [(PV.sc (.string (((y0_1.elem x10.toNat).fld 0).toStr))), (PV.sc (.string (((y0_1.elem x10.toNat).fld 1).toStr)))])])) ++ ((y3.drop (((t4.headD default).toInt).toNat)).take (y3.length - (((t4.headD default).toInt).toNat)))) y4 y5) else none) else none) else none) else none) else none) else none) else none) else none) else none) else none) else none) else (if y0_2 = true then (if ([] : List PV).length + y0_3.items.length ≤ 1954687338268 then (some [(PV.agg [(PV.list (([] : List PV) ++ y0_3.items)), (PV.list y3)])]) else none) else (some [(PV.agg [y4, (PV.list y3)])])) := by kernel_rfl
noncomputable def spec_l5Do.S (N : Nat) : ASpec := ⟨[(43, .ro), (35, .ro)], [(43, .own)], spec_l5Do.f N⟩
theorem spec_l5Do.ok (N : Nat) : FnOk Tryz.prog 136 (spec_l5Do.S N) := fnOk_of (E := spec_l5Do.E N) mix Tryz.func136 (by kernel_rfl) (by kernel_rfl) (by kernel_rfl) (lk_ok (all_cons (spec_l5Book.ok N) (all_cons (spec_l5At.ok N) (all_cons (spec_l2In.ok N) all_nil)))) (by kernel_rfl) (fun _ _ h => h)

/-! ### spec_DeltaDo: function 95, loop.example/medlar/spec.DeltaDo -/
noncomputable def spec_DeltaDo.E (N : Nat) : Env := ⟨lk [(26, spec_BookOk.S N), (127, spec_DeltaOk.S N), (118, spec_l5At.S N), (55, spec_l5Book.S N), (136, spec_l5Do.S N)], nzk [(4, ⟨[0, 1, 5, 7, 8, 9, 10, 11, 12, 13, 14, 15, 16, 17, 18, 19, 20, 21, 22, 23, 24, 25, 26, 27, 28, 29, 30, 31, 32, 33, 34, 35, 36, 37, 38, 39, 40, 41, 42, 43, 44, 45, 46, 47, 48, 49], [], []⟩)], N, [], false⟩
noncomputable def spec_DeltaDo.f (N : Nat) (a : List PV) : Option Res := run Tryz.prog (spec_DeltaDo.E N) Tryz.f95 [(43, .ro), (35, .ro)] [(43, .own), (4, .val)] a
noncomputable def spec_DeltaDo.l0 (N : Nat) (n : Nat) (x6 : Int) (y0_0 : PV) (y0_1 : PV) (y1_0 : PV) (y1_1 : PV) (y1_2 : Bool) (y1_3 : PV) : Option Res := loopAt Tryz.prog (spec_DeltaDo.E N) Tryz.f95 [(43, .own), (4, .val)] [1, 1, 0, 1, 0] [] n ⟨mkSlots 50 [(2, .ptr 0 []), (3, .ptr 1 []), (4, .ptr 2 []), (6, .sc (.int .i64 x6))], ohOf [.box 43 (.agg 43 [.ro 33 y0_0, .ro 32 y0_1]), .box 35 (.agg 35 [.ro 22 y1_0, .ro 32 y1_1, .sc (.bool y1_2), .ro 33 y1_3]), .box 43 (.agg 43 [.nil, .nil])]⟩
theorem spec_DeltaDo.f_eq (N : Nat) (a0 : PV) (a1 : PV) : spec_DeltaDo.f N [a0, a1] = (spec_BookOk.f N [(PV.agg [a0.fld 0, a0.fld 1])]).bind fun t1 => if (!((t1.headD default).toBool)) = false then ((spec_DeltaOk.f N [(PV.agg [a1.fld 0, a1.fld 1, (PV.sc (.bool ((a1.fld 2).toBool))), a1.fld 3])]).bind fun t2 => if (!((t2.headD default).toBool)) = true then (some [(PV.agg [(PV.list []), (PV.list [])]), (PV.sc (.bool false))]) else (spec_DeltaDo.l0 N N 0 (a0.fld 0) (a0.fld 1) (a1.fld 0) (a1.fld 1) ((a1.fld 2).toBool) (a1.fld 3))) else (some [(PV.agg [(PV.list []), (PV.list [])]), (PV.sc (.bool false))]) := by kernel_rfl
theorem spec_DeltaDo.l0_eq (N : Nat) (n : Nat) (x6 : Int) (y0_0 : PV) (y0_1 : PV) (y1_0 : PV) (y1_1 : PV) (y1_2 : Bool) (y1_3 : PV) : spec_DeltaDo.l0 N (n + 1) x6 y0_0 y0_1 y1_0 y1_1 y1_2 y1_3 = if decide (x6 < (y1_0.items.length : Int)) = true then (if 0 ≤ x6 then (if x6 < (y1_0.items.length : Int) then ((spec_l5At.f N [y0_1, (PV.sc (.string ((y1_0.elem x6.toNat).toStr)))]).bind fun t3 => if (!((t3.tail.headD default).toBool)) = true then ((spec_l5Book.f N [(PV.agg [y0_0, y0_1])]).bind fun t4 => some [(PV.agg [(t4.headD default).fld 0, (t4.headD default).fld 1]), (PV.sc (.bool false))]) else (spec_DeltaDo.l0 N n (IntKind.i64.wrap (x6 + 1)) y0_0 y0_1 y1_0 y1_1 y1_2 y1_3)) else none) else none) else ((spec_l5Do.f N [(PV.agg [y0_0, y0_1]), (PV.agg [y1_0, y1_1, (PV.sc (.bool y1_2)), y1_3])]).bind fun t5 => (spec_BookOk.f N [(PV.agg [(t5.headD default).fld 0, (t5.headD default).fld 1])]).bind fun t6 => if (!((t6.headD default).toBool)) = true then ((spec_l5Book.f N [(PV.agg [y0_0, y0_1])]).bind fun t7 => some [(PV.agg [(t7.headD default).fld 0, (t7.headD default).fld 1]), (PV.sc (.bool false))]) else (some [(PV.agg [(t5.headD default).fld 0, (t5.headD default).fld 1]), (PV.sc (.bool true))])) := by kernel_rfl
noncomputable def spec_DeltaDo.S (N : Nat) : ASpec := ⟨[(43, .ro), (35, .ro)], [(43, .own), (4, .val)], spec_DeltaDo.f N⟩
theorem spec_DeltaDo.ok (N : Nat) : FnOk Tryz.prog 95 (spec_DeltaDo.S N) := fnOk_of (E := spec_DeltaDo.E N) mix Tryz.func95 (by kernel_rfl) (by kernel_rfl) (by kernel_rfl) (lk_ok (all_cons (spec_BookOk.ok N) (all_cons (spec_DeltaOk.ok N) (all_cons (spec_l5At.ok N) (all_cons (spec_l5Book.ok N) (all_cons (spec_l5Do.ok N) all_nil)))))) (by kernel_rfl) (fun _ _ h => h)

/-! ### spec_l2Put: function 80, loop.example/medlar/spec.l2Put -/
noncomputable def spec_l2Put.E (N : Nat) : Env := ⟨lk [(122, spec_l2AffixPut.S N), (123, spec_l2EntryPut.S N)], nzk [(3, ⟨[0, 2, 5, 6, 7, 8, 9, 10, 11, 12, 13, 14, 15, 16, 17, 18, 19, 20, 21, 22, 23, 24, 25, 26, 27, 28, 29, 30, 31, 32, 33, 34, 35, 36, 37, 38], [], []⟩), (7, ⟨[0, 2, 4, 6, 7, 8, 9, 10, 11, 12, 13, 14, 15, 16, 17, 18, 19, 20, 21, 22, 23, 24, 25, 26, 27, 28, 29, 30, 31, 32, 33, 34, 35, 36, 37, 38], [], []⟩)], N, [], false⟩
noncomputable def spec_l2Put.f (N : Nat) (a : List PV) : Option Res := run Tryz.prog (spec_l2Put.E N) Tryz.f80 [(43, .ro)] [(9, .val)] a
noncomputable def spec_l2Put.l0 (N : Nat) (n : Nat) (x3 : ByteArray) (x4 : Int) (y0_0 : PV) (y0_1 : PV) : Option Res := loopAt Tryz.prog (spec_l2Put.E N) Tryz.f80 [(9, .val)] [1, 1, 0, 1, 0] [] n ⟨mkSlots 39 [(1, .ptr 0 []), (3, .sc (.string x3)), (4, .sc (.int .i64 x4))], ohOf [.box 43 (.agg 43 [.ro 33 y0_0, .ro 32 y0_1])]⟩
noncomputable def spec_l2Put.l1 (N : Nat) (n : Nat) (x3 : ByteArray) (x5 : Int) (y0_0 : PV) (y0_1 : PV) : Option Res := loopAt Tryz.prog (spec_l2Put.E N) Tryz.f80 [(9, .val)] [1, 1, 1, 0, 1, 0] [] n ⟨mkSlots 39 [(1, .ptr 0 []), (3, .sc (.string x3)), (5, .sc (.int .i64 x5))], ohOf [.box 43 (.agg 43 [.ro 33 y0_0, .ro 32 y0_1])]⟩
theorem spec_l2Put.f_eq (N : Nat) (a0 : PV) : spec_l2Put.f N [a0] = spec_l2Put.l0 N N (ByteArray.mk #[]) 0 (a0.fld 0) (a0.fld 1) := by kernel_rfl
theorem spec_l2Put.l0_eq (N : Nat) (n : Nat) (x3 : ByteArray) (x4 : Int) (y0_0 : PV) (y0_1 : PV) : spec_l2Put.l0 N (n + 1) x3 x4 y0_0 y0_1 = if decide (x4 < (y0_0.items.length : Int)) = true then (if 0 ≤ x4 then (if x4 < (y0_0.items.length : Int) then ((spec_l2AffixPut.f N [(PV.agg [(PV.sc (.string (((y0_0.elem x4.toNat).fld 0).toStr))), (PV.sc (.bool (((y0_0.elem x4.toNat).fld 1).toBool))), (PV.sc (.string (((y0_0.elem x4.toNat).fld 2).toStr))), (PV.sc (.string (((y0_0.elem x4.toNat).fld 3).toStr))), (PV.sc (.string (((y0_0.elem x4.toNat).fld 4).toStr)))])]).bind fun t1 => if x3.size + ((t1.headD default).toStr).size ≤ 9223372036854775807 then (if (x3 ++ ((t1.headD default).toStr)).size + (ByteArray.mk #[10]).size ≤ 9223372036854775807 then (spec_l2Put.l0 N n ((x3 ++ ((t1.headD default).toStr)) ++ (ByteArray.mk #[10])) (IntKind.i64.wrap (x4 + 1)) y0_0 y0_1) else none) else none) else none) else none) else (spec_l2Put.l1 N N x3 0 y0_0 y0_1) := by kernel_rfl
theorem spec_l2Put.l1_eq (N : Nat) (n : Nat) (x3 : ByteArray) (x5 : Int) (y0_0 : PV) (y0_1 : PV) : spec_l2Put.l1 N (n + 1) x3 x5 y0_0 y0_1 = if decide (x5 < (y0_1.items.length : Int)) = true then (if 0 ≤ x5 then (if x5 < (y0_1.items.length : Int) then ((spec_l2EntryPut.f N [(PV.agg [(PV.sc (.string (((y0_1.elem x5.toNat).fld 0).toStr))), (PV.sc (.string (((y0_1.elem x5.toNat).fld 1).toStr)))])]).bind fun t2 => if x3.size + ((t2.headD default).toStr).size ≤ 9223372036854775807 then (if (x3 ++ ((t2.headD default).toStr)).size + (ByteArray.mk #[10]).size ≤ 9223372036854775807 then (spec_l2Put.l1 N n ((x3 ++ ((t2.headD default).toStr)) ++ (ByteArray.mk #[10])) (IntKind.i64.wrap (x5 + 1)) y0_0 y0_1) else none) else none) else none) else none) else (some [(PV.sc (.string x3))]) := by kernel_rfl
noncomputable def spec_l2Put.S (N : Nat) : ASpec := ⟨[(43, .ro)], [(9, .val)], spec_l2Put.f N⟩
theorem spec_l2Put.ok (N : Nat) : FnOk Tryz.prog 80 (spec_l2Put.S N) := fnOk_of (E := spec_l2Put.E N) mix Tryz.func80 (by kernel_rfl) (by kernel_rfl) (by kernel_rfl) (lk_ok (all_cons (spec_l2AffixPut.ok N) (all_cons (spec_l2EntryPut.ok N) all_nil))) (by kernel_rfl) (fun _ _ h => h)

/-! ### spec_HashSum: function 79, loop.example/medlar/spec.HashSum -/
noncomputable def spec_HashSum.E (N : Nat) : Env := ⟨lk [(121, spec_l6Sum.S N), (120, spec_l6Hex.S N)], nzk [], N, [], false⟩
noncomputable def spec_HashSum.f (N : Nat) (a : List PV) : Option Res := run Tryz.prog (spec_HashSum.E N) Tryz.f79 [(9, .ro)] [(9, .val)] a
theorem spec_HashSum.f_eq (N : Nat) (a0 : PV) : spec_HashSum.f N [a0] = (spec_l6Sum.f N [(PV.sc (.string a0.toStr))]).bind fun t1 => (spec_l6Hex.f N [(PV.sc (.string ((t1.headD default).toStr)))]).bind fun t2 => some [(PV.sc (.string ((t2.headD default).toStr)))] := by kernel_rfl
noncomputable def spec_HashSum.S (N : Nat) : ASpec := ⟨[(9, .ro)], [(9, .val)], spec_HashSum.f N⟩
theorem spec_HashSum.ok (N : Nat) : FnOk Tryz.prog 79 (spec_HashSum.S N) := fnOk_of (E := spec_HashSum.E N) mix Tryz.func79 (by kernel_rfl) (by kernel_rfl) (by kernel_rfl) (lk_ok (all_cons (spec_l6Sum.ok N) (all_cons (spec_l6Hex.ok N) all_nil))) (by kernel_rfl) (fun _ _ h => h)

/-! ### spec_ReleaseDo: function 56, loop.example/medlar/spec.ReleaseDo -/
noncomputable def spec_ReleaseDo.E (N : Nat) : Env := ⟨lk [(26, spec_BookOk.S N), (94, spec_ReleaseOk.S N), (55, spec_l5Book.S N), (95, spec_DeltaDo.S N), (80, spec_l2Put.S N), (79, spec_HashSum.S N)], nzk [], N, [], false⟩
noncomputable def spec_ReleaseDo.f (N : Nat) (a : List PV) : Option Res := run Tryz.prog (spec_ReleaseDo.E N) Tryz.f56 [(9, .ro), (3, .ro), (43, .ro), (37, .ro)] [(43, .own), (4, .val)] a
theorem spec_ReleaseDo.f_eq (N : Nat) (a0 : PV) (a1 : PV) (a2 : PV) (a3 : PV) : spec_ReleaseDo.f N [a0, a1, a2, a3] = (spec_BookOk.f N [(PV.agg [a2.fld 0, a2.fld 1])]).bind fun t1 => if (!((t1.headD default).toBool)) = true then (some [(PV.agg [(PV.list []), (PV.list [])]), (PV.sc (.bool false))]) else ((spec_ReleaseOk.f N [(PV.sc (.string a0.toStr)), (PV.agg [(PV.sc (.int .i64 ((a3.fld 0).toInt))), (PV.agg [(a3.fld 1).fld 0, (a3.fld 1).fld 1, (PV.sc (.bool (((a3.fld 1).fld 2).toBool))), (a3.fld 1).fld 3]), (PV.sc (.string ((a3.fld 2).toStr))), (PV.sc (.string ((a3.fld 3).toStr)))])]).bind fun t2 => if (!((t2.headD default).toBool)) = false then (if (!decide (((a3.fld 0).toInt) = (IntKind.i64.wrap (a1.toInt + 1)))) = true then ((spec_l5Book.f N [(PV.agg [a2.fld 0, a2.fld 1])]).bind fun t3 => some [(PV.agg [(t3.headD default).fld 0, (t3.headD default).fld 1]), (PV.sc (.bool false))]) else ((spec_DeltaDo.f N [(PV.agg [a2.fld 0, a2.fld 1]), (PV.agg [(a3.fld 1).fld 0, (a3.fld 1).fld 1, (PV.sc (.bool (((a3.fld 1).fld 2).toBool))), (a3.fld 1).fld 3])]).bind fun t4 => if (!((t4.tail.headD default).toBool)) = false then ((spec_l2Put.f N [(PV.agg [(t4.headD default).fld 0, (t4.headD default).fld 1])]).bind fun t5 => (spec_HashSum.f N [(PV.sc (.string ((t5.headD default).toStr)))]).bind fun t6 => if (!decide (((t6.headD default).toStr).toList = ((a3.fld 2).toStr).toList)) = true then ((spec_l5Book.f N [(PV.agg [a2.fld 0, a2.fld 1])]).bind fun t7 => some [(PV.agg [(t7.headD default).fld 0, (t7.headD default).fld 1]), (PV.sc (.bool false))]) else (some [(PV.agg [(t4.headD default).fld 0, (t4.headD default).fld 1]), (PV.sc (.bool true))])) else ((spec_l5Book.f N [(PV.agg [a2.fld 0, a2.fld 1])]).bind fun t8 => some [(PV.agg [(t8.headD default).fld 0, (t8.headD default).fld 1]), (PV.sc (.bool false))]))) else ((spec_l5Book.f N [(PV.agg [a2.fld 0, a2.fld 1])]).bind fun t9 => some [(PV.agg [(t9.headD default).fld 0, (t9.headD default).fld 1]), (PV.sc (.bool false))])) := by kernel_rfl
noncomputable def spec_ReleaseDo.S (N : Nat) : ASpec := ⟨[(9, .ro), (3, .ro), (43, .ro), (37, .ro)], [(43, .own), (4, .val)], spec_ReleaseDo.f N⟩
theorem spec_ReleaseDo.ok (N : Nat) : FnOk Tryz.prog 56 (spec_ReleaseDo.S N) := fnOk_of (E := spec_ReleaseDo.E N) mix Tryz.func56 (by kernel_rfl) (by kernel_rfl) (by kernel_rfl) (lk_ok (all_cons (spec_BookOk.ok N) (all_cons (spec_ReleaseOk.ok N) (all_cons (spec_l5Book.ok N) (all_cons (spec_DeltaDo.ok N) (all_cons (spec_l2Put.ok N) (all_cons (spec_HashSum.ok N) all_nil))))))) (by kernel_rfl) (fun _ _ h => h)

/-! ### spec_RingDo: function 20, loop.example/medlar/spec.RingDo -/
noncomputable def spec_RingDo.E (N : Nat) : Env := ⟨lk [(33, spec_RingOk.S N), (26, spec_BookOk.S N), (55, spec_l5Book.S N), (35, spec_l11Key.S N), (56, spec_ReleaseDo.S N)], nzk [], N, [], false⟩
noncomputable def spec_RingDo.f (N : Nat) (a : List PV) : Option Res := run Tryz.prog (spec_RingDo.E N) Tryz.f20 [(40, .ro), (3, .ro), (43, .ro), (37, .ro)] [(43, .own), (4, .val)] a
theorem spec_RingDo.f_eq (N : Nat) (a0 : PV) (a1 : PV) (a2 : PV) (a3 : PV) : spec_RingDo.f N [a0, a1, a2, a3] = (spec_RingOk.f N [(PV.agg [a0.fld 0, a0.fld 1])]).bind fun t1 => if (!((t1.headD default).toBool)) = true then ((spec_BookOk.f N [(PV.agg [a2.fld 0, a2.fld 1])]).bind fun t2 => if (t2.headD default).toBool = true then ((spec_l5Book.f N [(PV.agg [a2.fld 0, a2.fld 1])]).bind fun t3 => some [(PV.agg [(t3.headD default).fld 0, (t3.headD default).fld 1]), (PV.sc (.bool false))]) else (some [(PV.agg [(PV.list []), (PV.list [])]), (PV.sc (.bool false))])) else ((spec_l11Key.f N [(PV.agg [a0.fld 0, a0.fld 1]), (PV.sc (.int .i64 (IntKind.i64.wrap (a1.toInt + 1))))]).bind fun t4 => (spec_ReleaseDo.f N [(PV.sc (.string ((t4.headD default).toStr))), (PV.sc (.int .i64 a1.toInt)), (PV.agg [a2.fld 0, a2.fld 1]), (PV.agg [(PV.sc (.int .i64 ((a3.fld 0).toInt))), (PV.agg [(a3.fld 1).fld 0, (a3.fld 1).fld 1, (PV.sc (.bool (((a3.fld 1).fld 2).toBool))), (a3.fld 1).fld 3]), (PV.sc (.string ((a3.fld 2).toStr))), (PV.sc (.string ((a3.fld 3).toStr)))])]).bind fun t5 => some [(PV.agg [(t5.headD default).fld 0, (t5.headD default).fld 1]), (PV.sc (.bool ((t5.tail.headD default).toBool)))]) := by kernel_rfl
noncomputable def spec_RingDo.S (N : Nat) : ASpec := ⟨[(40, .ro), (3, .ro), (43, .ro), (37, .ro)], [(43, .own), (4, .val)], spec_RingDo.f N⟩
theorem spec_RingDo.ok (N : Nat) : FnOk Tryz.prog 20 (spec_RingDo.S N) := fnOk_of (E := spec_RingDo.E N) mix Tryz.func20 (by kernel_rfl) (by kernel_rfl) (by kernel_rfl) (lk_ok (all_cons (spec_RingOk.ok N) (all_cons (spec_BookOk.ok N) (all_cons (spec_l5Book.ok N) (all_cons (spec_l11Key.ok N) (all_cons (spec_ReleaseDo.ok N) all_nil)))))) (by kernel_rfl) (fun _ _ h => h)

/-! ### impl_upper: function 161, loop.example/medlar/impl.upper -/
noncomputable def impl_upper.E (N : Nat) : Env := ⟨lk [], nzk [], N, [], false⟩
noncomputable def impl_upper.f (N : Nat) (a : List PV) : Option Res := run Tryz.prog (impl_upper.E N) Tryz.f161 [(5, .ro)] [(4, .val)] a
theorem impl_upper.f_eq (N : Nat) (a0 : PV) : impl_upper.f N [a0] = if decide (65 ≤ a0.toInt) = true then (some [(PV.sc (.bool (decide (a0.toInt ≤ 90))))]) else (some [(PV.sc (.bool false))]) := by kernel_rfl
noncomputable def impl_upper.S (N : Nat) : ASpec := ⟨[(5, .ro)], [(4, .val)], impl_upper.f N⟩
theorem impl_upper.ok (N : Nat) : FnOk Tryz.prog 161 (impl_upper.S N) := fnOk_of (E := impl_upper.E N) mix Tryz.func161 (by kernel_rfl) (by kernel_rfl) (by kernel_rfl) (lk_ok all_nil) (by kernel_rfl) (fun _ _ h => h)

/-! ### impl_lower: function 162, loop.example/medlar/impl.lower -/
noncomputable def impl_lower.E (N : Nat) : Env := ⟨lk [], nzk [(2, ⟨[1, 2, 3, 4, 7, 8, 9, 10, 11, 12, 13, 14, 15, 16, 17, 18, 19], [], []⟩)], N, [], false⟩
noncomputable def impl_lower.f (N : Nat) (a : List PV) : Option Res := run Tryz.prog (impl_lower.E N) Tryz.f162 [(9, .ro)] [(4, .val)] a
noncomputable def impl_lower.l0 (N : Nat) (n : Nat) (x0 : ByteArray) (x5 : Int) (x6 : Int) : Option Res := loopAt Tryz.prog (impl_lower.E N) Tryz.f162 [(4, .val)] [1, 0, 1, 0] [] n ⟨mkSlots 20 [(0, .sc (.string x0)), (5, .sc (.int .i64 x5)), (6, .sc (.int .i64 x6))], ohOf []⟩
theorem impl_lower.f_eq (N : Nat) (a0 : PV) : impl_lower.f N [a0] = impl_lower.l0 N N a0.toStr (a0.toStr.size : Int) 0 := by kernel_rfl
theorem impl_lower.l0_eq (N : Nat) (n : Nat) (x0 : ByteArray) (x5 : Int) (x6 : Int) : impl_lower.l0 N (n + 1) x0 x5 x6 = if decide (x6 < x5) = true then (if 0 ≤ x6 then (if x6 < (x0.size : Int) then (if decide (((x0.get! x6.toNat).toNat : Int) < 97) = false then (if 0 ≤ x6 then (if x6 < (x0.size : Int) then (if decide (122 < ((x0.get! x6.toNat).toNat : Int)) = true then (some [(PV.sc (.bool false))]) else (impl_lower.l0 N n x0 x5 (IntKind.i64.wrap (x6 + 1)))) else none) else none) else (some [(PV.sc (.bool false))])) else none) else none) else (some [(PV.sc (.bool true))]) := by kernel_rfl
noncomputable def impl_lower.S (N : Nat) : ASpec := ⟨[(9, .ro)], [(4, .val)], impl_lower.f N⟩
theorem impl_lower.ok (N : Nat) : FnOk Tryz.prog 162 (impl_lower.S N) := fnOk_of (E := impl_lower.E N) mix Tryz.func162 (by kernel_rfl) (by kernel_rfl) (by kernel_rfl) (lk_ok all_nil) (by kernel_rfl) (fun _ _ h => h)

/-! ### stringslite_HasPrefix: function 186, internal/stringslite.HasPrefix -/
noncomputable def stringslite_HasPrefix.E (N : Nat) : Env := ⟨lk [], nzk [], N, [], false⟩
noncomputable def stringslite_HasPrefix.f (N : Nat) (a : List PV) : Option Res := run Tryz.prog (stringslite_HasPrefix.E N) Tryz.f186 [(9, .ro), (9, .ro)] [(4, .val)] a
theorem stringslite_HasPrefix.f_eq (N : Nat) (a0 : PV) (a1 : PV) : stringslite_HasPrefix.f N [a0, a1] = if decide ((a1.toStr.size : Int) ≤ (a0.toStr.size : Int)) = true then (if 0 ≤ (a1.toStr.size : Int) then (if (a1.toStr.size : Int) ≤ (a0.toStr.size : Int) then (some [(PV.sc (.bool (decide ((a0.toStr.extract 0 a1.toStr.size).toList = a1.toStr.toList))))]) else none) else none) else (some [(PV.sc (.bool false))]) := by kernel_rfl
noncomputable def stringslite_HasPrefix.S (N : Nat) : ASpec := ⟨[(9, .ro), (9, .ro)], [(4, .val)], stringslite_HasPrefix.f N⟩
theorem stringslite_HasPrefix.ok (N : Nat) : FnOk Tryz.prog 186 (stringslite_HasPrefix.S N) := fnOk_of (E := stringslite_HasPrefix.E N) mix Tryz.func186 (by kernel_rfl) (by kernel_rfl) (by kernel_rfl) (lk_ok all_nil) (by kernel_rfl) (fun _ _ h => h)

/-! ### strings_HasPrefix: function 163, strings.HasPrefix -/
noncomputable def strings_HasPrefix.E (N : Nat) : Env := ⟨lk [(186, stringslite_HasPrefix.S N)], nzk [], N, [], false⟩
noncomputable def strings_HasPrefix.f (N : Nat) (a : List PV) : Option Res := run Tryz.prog (strings_HasPrefix.E N) Tryz.f163 [(9, .ro), (9, .ro)] [(4, .val)] a
theorem strings_HasPrefix.f_eq (N : Nat) (a0 : PV) (a1 : PV) : strings_HasPrefix.f N [a0, a1] = (stringslite_HasPrefix.f N [(PV.sc (.string a0.toStr)), (PV.sc (.string a1.toStr))]).bind fun t1 => some [(PV.sc (.bool ((t1.headD default).toBool)))] := by kernel_rfl
noncomputable def strings_HasPrefix.S (N : Nat) : ASpec := ⟨[(9, .ro), (9, .ro)], [(4, .val)], strings_HasPrefix.f N⟩
theorem strings_HasPrefix.ok (N : Nat) : FnOk Tryz.prog 163 (strings_HasPrefix.S N) := fnOk_of (E := strings_HasPrefix.E N) mix Tryz.func163 (by kernel_rfl) (by kernel_rfl) (by kernel_rfl) (lk_ok (all_cons (stringslite_HasPrefix.ok N) all_nil)) (by kernel_rfl) (fun _ _ h => h)

/-! ### stringslite_HasSuffix: function 187, internal/stringslite.HasSuffix -/
noncomputable def stringslite_HasSuffix.E (N : Nat) : Env := ⟨lk [], nzk [], N, [], false⟩
noncomputable def stringslite_HasSuffix.f (N : Nat) (a : List PV) : Option Res := run Tryz.prog (stringslite_HasSuffix.E N) Tryz.f187 [(9, .ro), (9, .ro)] [(4, .val)] a
theorem stringslite_HasSuffix.f_eq (N : Nat) (a0 : PV) (a1 : PV) : stringslite_HasSuffix.f N [a0, a1] = if decide ((a1.toStr.size : Int) ≤ (a0.toStr.size : Int)) = true then (if 0 ≤ (IntKind.i64.wrap ((a0.toStr.size : Int) - (a1.toStr.size : Int))) then (if (IntKind.i64.wrap ((a0.toStr.size : Int) - (a1.toStr.size : Int))) ≤ (a0.toStr.size : Int) then (some [(PV.sc (.bool (decide ((a0.toStr.extract ((IntKind.i64.wrap ((a0.toStr.size : Int) - (a1.toStr.size : Int))).toNat) a0.toStr.size).toList = a1.toStr.toList))))]) else none) else none) else (some [(PV.sc (.bool false))]) := by kernel_rfl
noncomputable def stringslite_HasSuffix.S (N : Nat) : ASpec := ⟨[(9, .ro), (9, .ro)], [(4, .val)], stringslite_HasSuffix.f N⟩
theorem stringslite_HasSuffix.ok (N : Nat) : FnOk Tryz.prog 187 (stringslite_HasSuffix.S N) := fnOk_of (E := stringslite_HasSuffix.E N) mix Tryz.func187 (by kernel_rfl) (by kernel_rfl) (by kernel_rfl) (lk_ok all_nil) (by kernel_rfl) (fun _ _ h => h)

/-! ### strings_HasSuffix: function 164, strings.HasSuffix -/
noncomputable def strings_HasSuffix.E (N : Nat) : Env := ⟨lk [(187, stringslite_HasSuffix.S N)], nzk [], N, [], false⟩
noncomputable def strings_HasSuffix.f (N : Nat) (a : List PV) : Option Res := run Tryz.prog (strings_HasSuffix.E N) Tryz.f164 [(9, .ro), (9, .ro)] [(4, .val)] a
theorem strings_HasSuffix.f_eq (N : Nat) (a0 : PV) (a1 : PV) : strings_HasSuffix.f N [a0, a1] = (stringslite_HasSuffix.f N [(PV.sc (.string a0.toStr)), (PV.sc (.string a1.toStr))]).bind fun t1 => some [(PV.sc (.bool ((t1.headD default).toBool)))] := by kernel_rfl
noncomputable def strings_HasSuffix.S (N : Nat) : ASpec := ⟨[(9, .ro), (9, .ro)], [(4, .val)], strings_HasSuffix.f N⟩
theorem strings_HasSuffix.ok (N : Nat) : FnOk Tryz.prog 164 (strings_HasSuffix.S N) := fnOk_of (E := strings_HasSuffix.E N) mix Tryz.func164 (by kernel_rfl) (by kernel_rfl) (by kernel_rfl) (lk_ok (all_cons (stringslite_HasSuffix.ok N) all_nil)) (by kernel_rfl) (fun _ _ h => h)

/-! ### impl_AffixOk: function 137, loop.example/medlar/impl.AffixOk -/
noncomputable def impl_AffixOk.E (N : Nat) : Env := ⟨lk [(161, impl_upper.S N), (162, impl_lower.S N), (163, strings_HasPrefix.S N), (164, strings_HasSuffix.S N)], nzk [(4, ⟨[0, 2, 3, 4, 5, 6, 7, 8, 9, 10, 11, 12, 13, 14, 15, 16, 17, 18, 19, 20, 21, 25, 26, 27, 28, 29, 30, 31, 32, 33, 34, 35, 36, 37, 38, 39, 40, 41, 42, 43, 44, 45, 46, 47, 48], [], []⟩)], N, [], false⟩
noncomputable def impl_AffixOk.f (N : Nat) (a : List PV) : Option Res := run Tryz.prog (impl_AffixOk.E N) Tryz.f137 [(97, .ro)] [(4, .val)] a
noncomputable def impl_AffixOk.l0 (N : Nat) (n : Nat) (x23 : Int) (x24 : Int) (y0_0 : ByteArray) (y0_1 : Bool) (y0_2 : ByteArray) (y0_3 : ByteArray) (y0_4 : ByteArray) (y1 : List PV) : Option Res := loopAt Tryz.prog (impl_AffixOk.E N) Tryz.f137 [(4, .val)] [1, 1, 0, 1, 0] [] n ⟨mkSlots 49 [(1, .ptr 0 []), (22, .ref 1 []), (23, .sc (.int .i64 x23)), (24, .sc (.int .i64 x24))], ohOf [.box 97 (.agg 97 [.sc (.string y0_0), .sc (.bool y0_1), .sc (.string y0_2), .sc (.string y0_3), .sc (.string y0_4)]), .row 22 (PV.list y1)]⟩
theorem impl_AffixOk.f_eq (N : Nat) (a0 : PV) : impl_AffixOk.f N [a0] = if (!decide ((((a0.fld 0).toStr).size : Int) = 1)) = false then (if 0 ≤ 0 then (if 0 < (((a0.fld 0).toStr).size : Int) then ((impl_upper.f N [(PV.sc (.int .u8 ((((a0.fld 0).toStr).get! 0).toNat : Int)))]).bind fun t1 => if (!((t1.headD default).toBool)) = true then (some [(PV.sc (.bool false))]) else (impl_AffixOk.l0 N N ([(PV.sc (.string ((a0.fld 2).toStr))), (PV.sc (.string ((a0.fld 3).toStr))), (PV.sc (.string ((a0.fld 4).toStr)))].length : Int) 0 ((a0.fld 0).toStr) ((a0.fld 1).toBool) ((a0.fld 2).toStr) ((a0.fld 3).toStr) ((a0.fld 4).toStr) [(PV.sc (.string ((a0.fld 2).toStr))), (PV.sc (.string ((a0.fld 3).toStr))), (PV.sc (.string ((a0.fld 4).toStr)))])) else none) else none) else (some [(PV.sc (.bool false))]) := by kernel_rfl
theorem impl_AffixOk.l0_eq (N : Nat) (n : Nat) (x23 : Int) (x24 : Int) (y0_0 : ByteArray) (y0_1 : Bool) (y0_2 : ByteArray) (y0_3 : ByteArray) (y0_4 : ByteArray) (y1 : List PV) : impl_AffixOk.l0 N (n + 1) x23 x24 y0_0 y0_1 y0_2 y0_3 y0_4 y1 = if decide (x24 < x23) = true then (if 0 ≤ x24 then (if x24 < (y1.length : Int) then (if decide (4 < ((((PV.list y1).elem x24.toNat).toStr).size : Int)) = false then ((impl_lower.f N [(PV.sc (.string (((PV.list y1).elem x24.toNat).toStr)))]).bind fun t2 => if (!((t2.headD default).toBool)) = true then (some [(PV.sc (.bool false))]) else (impl_AffixOk.l0 N n x23 (IntKind.i64.wrap (x24 + 1)) y0_0 y0_1 y0_2 y0_3 y0_4 y1)) else (some [(PV.sc (.bool false))])) else none) else none) else (if y0_1 = true then ((strings_HasPrefix.f N [(PV.sc (.string y0_4)), (PV.sc (.string y0_2))]).bind fun t3 => some [(PV.sc (.bool ((t3.headD default).toBool)))]) else ((strings_HasSuffix.f N [(PV.sc (.string y0_4)), (PV.sc (.string y0_2))]).bind fun t4 => some [(PV.sc (.bool ((t4.headD default).toBool)))])) := by kernel_rfl
noncomputable def impl_AffixOk.S (N : Nat) : ASpec := ⟨[(97, .ro)], [(4, .val)], impl_AffixOk.f N⟩
theorem impl_AffixOk.ok (N : Nat) : FnOk Tryz.prog 137 (impl_AffixOk.S N) := fnOk_of (E := impl_AffixOk.E N) mix Tryz.func137 (by kernel_rfl) (by kernel_rfl) (by kernel_rfl) (lk_ok (all_cons (impl_upper.ok N) (all_cons (impl_lower.ok N) (all_cons (strings_HasPrefix.ok N) (all_cons (strings_HasSuffix.ok N) all_nil))))) (by kernel_rfl) (fun _ _ h => h)

/-! ### slices_Index_impl_Affix: function 165, slices.Index[[]loop.example/medlar/impl.Affix,loop.example/medlar/impl.Affix] -/
noncomputable def slices_Index_impl_Affix.E (N : Nat) : Env := ⟨lk [], nzk [(2, ⟨[1, 2, 4, 5, 6, 9, 10, 11, 12, 13, 14, 15, 16, 17, 18], [], []⟩)], N, [], false⟩
noncomputable def slices_Index_impl_Affix.f (N : Nat) (a : List PV) : Option Res := run Tryz.prog (slices_Index_impl_Affix.E N) Tryz.f165 [(33, .ro), (97, .ro)] [(3, .val)] a
noncomputable def slices_Index_impl_Affix.l0 (N : Nat) (n : Nat) (x0 : PV) (x7 : Int) (x8 : Int) (y0_0 : ByteArray) (y0_1 : Bool) (y0_2 : ByteArray) (y0_3 : ByteArray) (y0_4 : ByteArray) : Option Res := loopAt Tryz.prog (slices_Index_impl_Affix.E N) Tryz.f165 [(3, .val)] [1, 0, 1, 0] [] n ⟨mkSlots 19 [(0, .ro 33 x0), (3, .ptr 0 []), (7, .sc (.int .i64 x7)), (8, .sc (.int .i64 x8))], ohOf [.box 97 (.agg 97 [.sc (.string y0_0), .sc (.bool y0_1), .sc (.string y0_2), .sc (.string y0_3), .sc (.string y0_4)])]⟩
theorem slices_Index_impl_Affix.f_eq (N : Nat) (a0 : PV) (a1 : PV) : slices_Index_impl_Affix.f N [a0, a1] = slices_Index_impl_Affix.l0 N N a0 (a0.items.length : Int) 0 ((a1.fld 0).toStr) ((a1.fld 1).toBool) ((a1.fld 2).toStr) ((a1.fld 3).toStr) ((a1.fld 4).toStr) := by kernel_rfl
theorem slices_Index_impl_Affix.l0_eq (N : Nat) (n : Nat) (x0 : PV) (x7 : Int) (x8 : Int) (y0_0 : ByteArray) (y0_1 : Bool) (y0_2 : ByteArray) (y0_3 : ByteArray) (y0_4 : ByteArray) : slices_Index_impl_Affix.l0 N (n + 1) x0 x7 x8 y0_0 y0_1 y0_2 y0_3 y0_4 = if decide (x8 < x7) = true then (if 0 ≤ x8 then (if x8 < (x0.items.length : Int) then (if (decide (y0_0.toList = (((x0.elem x8.toNat).fld 0).toStr).toList) && ((y0_1 == (((x0.elem x8.toNat).fld 1).toBool)) && (decide (y0_2.toList = (((x0.elem x8.toNat).fld 2).toStr).toList) && (decide (y0_3.toList = (((x0.elem x8.toNat).fld 3).toStr).toList) && (decide (y0_4.toList = (((x0.elem x8.toNat).fld 4).toStr).toList) && true))))) = true then (some [(PV.sc (.int .i64 x8))]) else (slices_Index_impl_Affix.l0 N n x0 x7 (IntKind.i64.wrap (x8 + 1)) y0_0 y0_1 y0_2 y0_3 y0_4)) else none) else none) else (some [(PV.sc (.int .i64 (-1)))]) := by kernel_rfl
noncomputable def slices_Index_impl_Affix.S (N : Nat) : ASpec := ⟨[(33, .ro), (97, .ro)], [(3, .val)], slices_Index_impl_Affix.f N⟩
theorem slices_Index_impl_Affix.ok (N : Nat) : FnOk Tryz.prog 165 (slices_Index_impl_Affix.S N) := fnOk_of (E := slices_Index_impl_Affix.E N) mix Tryz.func165 (by kernel_rfl) (by kernel_rfl) (by kernel_rfl) (lk_ok all_nil) (by kernel_rfl) (fun _ _ h => h)

/-! ### slices_Contains_impl_Affix: function 138, slices.Contains[[]loop.example/medlar/impl.Affix,loop.example/medlar/impl.Affix] -/
noncomputable def slices_Contains_impl_Affix.E (N : Nat) : Env := ⟨lk [(165, slices_Index_impl_Affix.S N)], nzk [], N, [], false⟩
noncomputable def slices_Contains_impl_Affix.f (N : Nat) (a : List PV) : Option Res := run Tryz.prog (slices_Contains_impl_Affix.E N) Tryz.f138 [(33, .ro), (97, .ro)] [(4, .val)] a
theorem slices_Contains_impl_Affix.f_eq (N : Nat) (a0 : PV) (a1 : PV) : slices_Contains_impl_Affix.f N [a0, a1] = (slices_Index_impl_Affix.f N [a0, (PV.agg [(PV.sc (.string ((a1.fld 0).toStr))), (PV.sc (.bool ((a1.fld 1).toBool))), (PV.sc (.string ((a1.fld 2).toStr))), (PV.sc (.string ((a1.fld 3).toStr))), (PV.sc (.string ((a1.fld 4).toStr)))])]).bind fun t1 => some [(PV.sc (.bool (decide (0 ≤ ((t1.headD default).toInt)))))] := by kernel_rfl
noncomputable def slices_Contains_impl_Affix.S (N : Nat) : ASpec := ⟨[(33, .ro), (97, .ro)], [(4, .val)], slices_Contains_impl_Affix.f N⟩
theorem slices_Contains_impl_Affix.ok (N : Nat) : FnOk Tryz.prog 138 (slices_Contains_impl_Affix.S N) := fnOk_of (E := slices_Contains_impl_Affix.E N) mix Tryz.func138 (by kernel_rfl) (by kernel_rfl) (by kernel_rfl) (lk_ok (all_cons (slices_Index_impl_Affix.ok N) all_nil)) (by kernel_rfl) (fun _ _ h => h)

/-! ### impl_affixesOk: function 96, loop.example/medlar/impl.affixesOk -/
noncomputable def impl_affixesOk.E (N : Nat) : Env := ⟨lk [(137, impl_AffixOk.S N), (138, slices_Contains_impl_Affix.S N)], nzk [(2, ⟨[1, 2, 3, 4, 8, 9, 10, 11, 12, 13, 14, 15, 16, 17, 18, 19, 20, 21, 22, 23, 24, 25], [], []⟩)], N, [], false⟩
noncomputable def impl_affixesOk.f (N : Nat) (a : List PV) : Option Res := run Tryz.prog (impl_affixesOk.E N) Tryz.f96 [(33, .ro)] [(4, .val)] a
noncomputable def impl_affixesOk.l0 (N : Nat) (n : Nat) (x0 : PV) (x5 : PV) (x6 : Int) (x7 : Int) : Option Res := loopAt Tryz.prog (impl_affixesOk.E N) Tryz.f96 [(4, .val)] [1, 0, 1, 0] [] n ⟨mkSlots 26 [(0, .ro 33 x0), (5, .ro 33 x5), (6, .sc (.int .i64 x6)), (7, .sc (.int .i64 x7))], ohOf []⟩
theorem impl_affixesOk.f_eq (N : Nat) (a0 : PV) : impl_affixesOk.f N [a0] = impl_affixesOk.l0 N N a0 a0 (a0.items.length : Int) 0 := by kernel_rfl
theorem impl_affixesOk.l0_eq (N : Nat) (n : Nat) (x0 : PV) (x5 : PV) (x6 : Int) (x7 : Int) : impl_affixesOk.l0 N (n + 1) x0 x5 x6 x7 = if decide (x7 < x6) = true then (if 0 ≤ x7 then (if x7 < (x5.items.length : Int) then ((impl_AffixOk.f N [(PV.agg [(PV.sc (.string (((x5.elem x7.toNat).fld 0).toStr))), (PV.sc (.bool (((x5.elem x7.toNat).fld 1).toBool))), (PV.sc (.string (((x5.elem x7.toNat).fld 2).toStr))), (PV.sc (.string (((x5.elem x7.toNat).fld 3).toStr))), (PV.sc (.string (((x5.elem x7.toNat).fld 4).toStr)))])]).bind fun t1 => if (!((t1.headD default).toBool)) = false then (if 0 ≤ x7 then (if x7 ≤ (x0.items.length : Int) then ((slices_Contains_impl_Affix.f N [(PV.list ((x0.items.drop 0).take (x7.toNat - 0))), (PV.agg [(PV.sc (.string (((x5.elem x7.toNat).fld 0).toStr))), (PV.sc (.bool (((x5.elem x7.toNat).fld 1).toBool))), (PV.sc (.string (((x5.elem x7.toNat).fld 2).toStr))), (PV.sc (.string (((x5.elem x7.toNat).fld 3).toStr))), (PV.sc (.string (((x5.elem x7.toNat).fld 4).toStr)))])]).bind fun t2 => if (t2.headD default).toBool = true then (some [(PV.sc (.bool false))]) else (impl_affixesOk.l0 N n x0 x5 x6 (IntKind.i64.wrap (x7 + 1)))) else none) else none) else (some [(PV.sc (.bool false))])) else none) else none) else (some [(PV.sc (.bool (decide ((x0.items.length : Int) ≤ 8))))]) := by kernel_rfl
noncomputable def impl_affixesOk.S (N : Nat) : ASpec := ⟨[(33, .ro)], [(4, .val)], impl_affixesOk.f N⟩
theorem impl_affixesOk.ok (N : Nat) : FnOk Tryz.prog 96 (impl_affixesOk.S N) := fnOk_of (E := impl_affixesOk.E N) mix Tryz.func96 (by kernel_rfl) (by kernel_rfl) (by kernel_rfl) (lk_ok (all_cons (impl_AffixOk.ok N) (all_cons (slices_Contains_impl_Affix.ok N) all_nil))) (by kernel_rfl) (fun _ _ h => h)

/-! ### impl_within: function 41, loop.example/medlar/impl.within -/
noncomputable def impl_within.E (N : Nat) : Env := ⟨lk [], nzk [], N, [], false⟩
noncomputable def impl_within.f (N : Nat) (a : List PV) : Option Res := run Tryz.prog (impl_within.E N) Tryz.f41 [(3, .ro), (3, .ro), (3, .ro)] [(4, .val)] a
theorem impl_within.f_eq (N : Nat) (a0 : PV) (a1 : PV) (a2 : PV) : impl_within.f N [a0, a1, a2] = if decide (a1.toInt ≤ a0.toInt) = true then (some [(PV.sc (.bool (decide (a0.toInt ≤ a2.toInt))))]) else (some [(PV.sc (.bool false))]) := by kernel_rfl
noncomputable def impl_within.S (N : Nat) : ASpec := ⟨[(3, .ro), (3, .ro), (3, .ro)], [(4, .val)], impl_within.f N⟩
theorem impl_within.ok (N : Nat) : FnOk Tryz.prog 41 (impl_within.S N) := fnOk_of (E := impl_within.E N) mix Tryz.func41 (by kernel_rfl) (by kernel_rfl) (by kernel_rfl) (lk_ok all_nil) (by kernel_rfl) (fun _ _ h => h)

/-! ### impl_WordOk: function 166, loop.example/medlar/impl.WordOk -/
noncomputable def impl_WordOk.E (N : Nat) : Env := ⟨lk [(41, impl_within.S N), (162, impl_lower.S N)], nzk [], N, [], false⟩
noncomputable def impl_WordOk.f (N : Nat) (a : List PV) : Option Res := run Tryz.prog (impl_WordOk.E N) Tryz.f166 [(9, .ro)] [(4, .val)] a
theorem impl_WordOk.f_eq (N : Nat) (a0 : PV) : impl_WordOk.f N [a0] = (impl_within.f N [(PV.sc (.int .i64 (a0.toStr.size : Int))), (PV.sc (.int .i64 1)), (PV.sc (.int .i64 12))]).bind fun t1 => if (t1.headD default).toBool = true then ((impl_lower.f N [(PV.sc (.string a0.toStr))]).bind fun t2 => some [(PV.sc (.bool ((t2.headD default).toBool)))]) else (some [(PV.sc (.bool false))]) := by kernel_rfl
noncomputable def impl_WordOk.S (N : Nat) : ASpec := ⟨[(9, .ro)], [(4, .val)], impl_WordOk.f N⟩
theorem impl_WordOk.ok (N : Nat) : FnOk Tryz.prog 166 (impl_WordOk.S N) := fnOk_of (E := impl_WordOk.E N) mix Tryz.func166 (by kernel_rfl) (by kernel_rfl) (by kernel_rfl) (lk_ok (all_cons (impl_within.ok N) (all_cons (impl_lower.ok N) all_nil))) (by kernel_rfl) (fun _ _ h => h)

/-! ### impl_entryOk: function 139, loop.example/medlar/impl.entryOk -/
noncomputable def impl_entryOk.E (N : Nat) : Env := ⟨lk [(161, impl_upper.S N), (166, impl_WordOk.S N)], nzk [(2, ⟨[0, 2, 3, 4, 5, 8, 9, 10, 11, 12, 13, 14, 15, 16, 17, 18, 19, 20, 21, 22, 23, 24, 25, 26, 27, 28, 29, 30, 31, 32, 33, 34, 35, 36, 37, 38, 39, 40, 41], [], []⟩)], N, [], false⟩
noncomputable def impl_entryOk.f (N : Nat) (a : List PV) : Option Res := run Tryz.prog (impl_entryOk.E N) Tryz.f139 [(99, .ro)] [(4, .val)] a
noncomputable def impl_entryOk.l0 (N : Nat) (n : Nat) (x6 : Int) (x7 : Int) (y0_0 : ByteArray) (y0_1 : ByteArray) : Option Res := loopAt Tryz.prog (impl_entryOk.E N) Tryz.f139 [(4, .val)] [1, 0, 1, 0] [] n ⟨mkSlots 42 [(1, .ptr 0 []), (6, .sc (.int .i64 x6)), (7, .sc (.int .i64 x7))], ohOf [.box 99 (.agg 99 [.sc (.string y0_0), .sc (.string y0_1)])]⟩
theorem impl_entryOk.f_eq (N : Nat) (a0 : PV) : impl_entryOk.f N [a0] = impl_entryOk.l0 N N (((a0.fld 1).toStr).size : Int) 0 ((a0.fld 0).toStr) ((a0.fld 1).toStr) := by kernel_rfl
theorem impl_entryOk.l0_eq (N : Nat) (n : Nat) (x6 : Int) (x7 : Int) (y0_0 : ByteArray) (y0_1 : ByteArray) : impl_entryOk.l0 N (n + 1) x6 x7 y0_0 y0_1 = if decide (x7 < x6) = true then (if 0 ≤ x7 then (if x7 < (y0_1.size : Int) then ((impl_upper.f N [(PV.sc (.int .u8 ((y0_1.get! x7.toNat).toNat : Int)))]).bind fun t1 => if (!((t1.headD default).toBool)) = false then (if decide (0 < x7) = true then (if 0 ≤ (IntKind.i64.wrap (x7 - 1)) then (if (IntKind.i64.wrap (x7 - 1)) < (y0_1.size : Int) then (if 0 ≤ x7 then (if x7 < (y0_1.size : Int) then (if decide (((y0_1.get! x7.toNat).toNat : Int) ≤ ((y0_1.get! (IntKind.i64.wrap (x7 - 1)).toNat).toNat : Int)) = true then (some [(PV.sc (.bool false))]) else (impl_entryOk.l0 N n x6 (IntKind.i64.wrap (x7 + 1)) y0_0 y0_1)) else none) else none) else none) else none) else (impl_entryOk.l0 N n x6 (IntKind.i64.wrap (x7 + 1)) y0_0 y0_1)) else (some [(PV.sc (.bool false))])) else none) else none) else ((impl_WordOk.f N [(PV.sc (.string y0_0))]).bind fun t2 => if (t2.headD default).toBool = true then (some [(PV.sc (.bool (decide ((y0_1.size : Int) ≤ 4))))]) else (some [(PV.sc (.bool false))])) := by kernel_rfl
noncomputable def impl_entryOk.S (N : Nat) : ASpec := ⟨[(99, .ro)], [(4, .val)], impl_entryOk.f N⟩
theorem impl_entryOk.ok (N : Nat) : FnOk Tryz.prog 139 (impl_entryOk.S N) := fnOk_of (E := impl_entryOk.E N) mix Tryz.func139 (by kernel_rfl) (by kernel_rfl) (by kernel_rfl) (lk_ok (all_cons (impl_upper.ok N) (all_cons (impl_WordOk.ok N) all_nil))) (by kernel_rfl) (fun _ _ h => h)

/-! ### impl_entriesOk: function 97, loop.example/medlar/impl.entriesOk -/
noncomputable def impl_entriesOk.E (N : Nat) : Env := ⟨lk [(139, impl_entryOk.S N)], nzk [(2, ⟨[1, 2, 3, 4, 8, 9, 10, 11, 12, 13, 14, 15, 16, 17, 18, 19, 20, 21, 22, 23, 24, 25, 26, 27, 28, 29, 30, 31, 32, 33], [], []⟩)], N, [], false⟩
noncomputable def impl_entriesOk.f (N : Nat) (a : List PV) : Option Res := run Tryz.prog (impl_entriesOk.E N) Tryz.f97 [(32, .ro)] [(4, .val)] a
noncomputable def impl_entriesOk.l0 (N : Nat) (n : Nat) (x0 : PV) (x5 : PV) (x6 : Int) (x7 : Int) : Option Res := loopAt Tryz.prog (impl_entriesOk.E N) Tryz.f97 [(4, .val)] [1, 0, 1, 0] [] n ⟨mkSlots 34 [(0, .ro 32 x0), (5, .ro 32 x5), (6, .sc (.int .i64 x6)), (7, .sc (.int .i64 x7))], ohOf []⟩
theorem impl_entriesOk.f_eq (N : Nat) (a0 : PV) : impl_entriesOk.f N [a0] = impl_entriesOk.l0 N N a0 a0 (a0.items.length : Int) 0 := by kernel_rfl
theorem impl_entriesOk.l0_eq (N : Nat) (n : Nat) (x0 : PV) (x5 : PV) (x6 : Int) (x7 : Int) : impl_entriesOk.l0 N (n + 1) x0 x5 x6 x7 = if decide (x7 < x6) = true then (if 0 ≤ x7 then (if x7 < (x5.items.length : Int) then ((impl_entryOk.f N [(PV.agg [(PV.sc (.string (((x5.elem x7.toNat).fld 0).toStr))), (PV.sc (.string (((x5.elem x7.toNat).fld 1).toStr)))])]).bind fun t1 => if (!((t1.headD default).toBool)) = false then (if decide (0 < x7) = true then (if 0 ≤ (IntKind.i64.wrap (x7 - 1)) then (if (IntKind.i64.wrap (x7 - 1)) < (x0.items.length : Int) then (if (!Op.bytesLess (((x0.elem ((IntKind.i64.wrap (x7 - 1)).toNat)).fld 0).toStr).toList (((x5.elem x7.toNat).fld 0).toStr).toList) = true then (some [(PV.sc (.bool false))]) else (impl_entriesOk.l0 N n x0 x5 x6 (IntKind.i64.wrap (x7 + 1)))) else none) else none) else (impl_entriesOk.l0 N n x0 x5 x6 (IntKind.i64.wrap (x7 + 1)))) else (some [(PV.sc (.bool false))])) else none) else none) else (some [(PV.sc (.bool (decide ((x0.items.length : Int) ≤ 24))))]) := by kernel_rfl
noncomputable def impl_entriesOk.S (N : Nat) : ASpec := ⟨[(32, .ro)], [(4, .val)], impl_entriesOk.f N⟩
theorem impl_entriesOk.ok (N : Nat) : FnOk Tryz.prog 97 (impl_entriesOk.S N) := fnOk_of (E := impl_entriesOk.E N) mix Tryz.func97 (by kernel_rfl) (by kernel_rfl) (by kernel_rfl) (lk_ok (all_cons (impl_entryOk.ok N) all_nil)) (by kernel_rfl) (fun _ _ h => h)

/-! ### impl_BookOk: function 58, loop.example/medlar/impl.BookOk -/
noncomputable def impl_BookOk.E (N : Nat) : Env := ⟨lk [(96, impl_affixesOk.S N), (97, impl_entriesOk.S N)], nzk [], N, [], false⟩
noncomputable def impl_BookOk.f (N : Nat) (a : List PV) : Option Res := run Tryz.prog (impl_BookOk.E N) Tryz.f58 [(43, .ro)] [(4, .val)] a
theorem impl_BookOk.f_eq (N : Nat) (a0 : PV) : impl_BookOk.f N [a0] = (impl_affixesOk.f N [a0.fld 0]).bind fun t1 => if (t1.headD default).toBool = true then ((impl_entriesOk.f N [a0.fld 1]).bind fun t2 => some [(PV.sc (.bool ((t2.headD default).toBool)))]) else (some [(PV.sc (.bool false))]) := by kernel_rfl
noncomputable def impl_BookOk.S (N : Nat) : ASpec := ⟨[(43, .ro)], [(4, .val)], impl_BookOk.f N⟩
theorem impl_BookOk.ok (N : Nat) : FnOk Tryz.prog 58 (impl_BookOk.S N) := fnOk_of (E := impl_BookOk.E N) mix Tryz.func58 (by kernel_rfl) (by kernel_rfl) (by kernel_rfl) (lk_ok (all_cons (impl_affixesOk.ok N) (all_cons (impl_entriesOk.ok N) all_nil))) (by kernel_rfl) (fun _ _ h => h)

/-! ### impl_keyOk: function 70, loop.example/medlar/impl.keyOk -/
noncomputable def impl_keyOk.E (N : Nat) : Env := ⟨lk [(41, impl_within.S N)], nzk [], N, [], false⟩
noncomputable def impl_keyOk.f (N : Nat) (a : List PV) : Option Res := run Tryz.prog (impl_keyOk.E N) Tryz.f70 [(9, .ro)] [(4, .val)] a
theorem impl_keyOk.f_eq (N : Nat) (a0 : PV) : impl_keyOk.f N [a0] = (impl_within.f N [(PV.sc (.int .i64 (a0.toStr.size : Int))), (PV.sc (.int .i64 1)), (PV.sc (.int .i64 64))]).bind fun t1 => if (t1.headD default).toBool = true then (if 0 ≤ (IntKind.i64.wrap ((a0.toStr.size : Int) - 1)) then (if (IntKind.i64.wrap ((a0.toStr.size : Int) - 1)) < (a0.toStr.size : Int) then (some [(PV.sc (.bool (!decide (((a0.toStr.get! (IntKind.i64.wrap ((a0.toStr.size : Int) - 1)).toNat).toNat : Int) = 0))))]) else none) else none) else (some [(PV.sc (.bool false))]) := by kernel_rfl
noncomputable def impl_keyOk.S (N : Nat) : ASpec := ⟨[(9, .ro)], [(4, .val)], impl_keyOk.f N⟩
theorem impl_keyOk.ok (N : Nat) : FnOk Tryz.prog 70 (impl_keyOk.S N) := fnOk_of (E := impl_keyOk.E N) mix Tryz.func70 (by kernel_rfl) (by kernel_rfl) (by kernel_rfl) (lk_ok (all_cons (impl_within.ok N) all_nil)) (by kernel_rfl) (fun _ _ h => h)

/-! ### slices_Index_string_string: function 129, slices.Index[[]string,string] -/
noncomputable def slices_Index_string_string.E (N : Nat) : Env := ⟨lk [], nzk [(2, ⟨[2, 3, 4, 5, 6, 9, 10, 11, 12, 13, 14, 15, 16, 17, 18], [], []⟩)], N, [], false⟩
noncomputable def slices_Index_string_string.f (N : Nat) (a : List PV) : Option Res := run Tryz.prog (slices_Index_string_string.E N) Tryz.f129 [(22, .ro), (9, .ro)] [(3, .val)] a
noncomputable def slices_Index_string_string.l0 (N : Nat) (n : Nat) (x0 : PV) (x1 : ByteArray) (x7 : Int) (x8 : Int) : Option Res := loopAt Tryz.prog (slices_Index_string_string.E N) Tryz.f129 [(3, .val)] [1, 0, 1, 0] [] n ⟨mkSlots 19 [(0, .ro 22 x0), (1, .sc (.string x1)), (7, .sc (.int .i64 x7)), (8, .sc (.int .i64 x8))], ohOf []⟩
theorem slices_Index_string_string.f_eq (N : Nat) (a0 : PV) (a1 : PV) : slices_Index_string_string.f N [a0, a1] = slices_Index_string_string.l0 N N a0 a1.toStr (a0.items.length : Int) 0 := by kernel_rfl
theorem slices_Index_string_string.l0_eq (N : Nat) (n : Nat) (x0 : PV) (x1 : ByteArray) (x7 : Int) (x8 : Int) : slices_Index_string_string.l0 N (n + 1) x0 x1 x7 x8 = if decide (x8 < x7) = true then (if 0 ≤ x8 then (if x8 < (x0.items.length : Int) then (if decide (x1.toList = ((x0.elem x8.toNat).toStr).toList) = true then (some [(PV.sc (.int .i64 x8))]) else (slices_Index_string_string.l0 N n x0 x1 x7 (IntKind.i64.wrap (x8 + 1)))) else none) else none) else (some [(PV.sc (.int .i64 (-1)))]) := by kernel_rfl
noncomputable def slices_Index_string_string.S (N : Nat) : ASpec := ⟨[(22, .ro), (9, .ro)], [(3, .val)], slices_Index_string_string.f N⟩
theorem slices_Index_string_string.ok (N : Nat) : FnOk Tryz.prog 129 (slices_Index_string_string.S N) := fnOk_of (E := slices_Index_string_string.E N) mix Tryz.func129 (by kernel_rfl) (by kernel_rfl) (by kernel_rfl) (lk_ok all_nil) (by kernel_rfl) (fun _ _ h => h)

/-! ### slices_Contains_string_string: function 86, slices.Contains[[]string,string] -/
noncomputable def slices_Contains_string_string.E (N : Nat) : Env := ⟨lk [(129, slices_Index_string_string.S N)], nzk [], N, [], false⟩
noncomputable def slices_Contains_string_string.f (N : Nat) (a : List PV) : Option Res := run Tryz.prog (slices_Contains_string_string.E N) Tryz.f86 [(22, .ro), (9, .ro)] [(4, .val)] a
theorem slices_Contains_string_string.f_eq (N : Nat) (a0 : PV) (a1 : PV) : slices_Contains_string_string.f N [a0, a1] = (slices_Index_string_string.f N [a0, (PV.sc (.string a1.toStr))]).bind fun t1 => some [(PV.sc (.bool (decide (0 ≤ ((t1.headD default).toInt)))))] := by kernel_rfl
noncomputable def slices_Contains_string_string.S (N : Nat) : ASpec := ⟨[(22, .ro), (9, .ro)], [(4, .val)], slices_Contains_string_string.f N⟩
theorem slices_Contains_string_string.ok (N : Nat) : FnOk Tryz.prog 86 (slices_Contains_string_string.S N) := fnOk_of (E := slices_Contains_string_string.E N) mix Tryz.func86 (by kernel_rfl) (by kernel_rfl) (by kernel_rfl) (lk_ok (all_cons (slices_Index_string_string.ok N) all_nil)) (by kernel_rfl) (fun _ _ h => h)

/-! ### impl_RingOk: function 40, loop.example/medlar/impl.RingOk -/
noncomputable def impl_RingOk.E (N : Nat) : Env := ⟨lk [(41, impl_within.S N), (70, impl_keyOk.S N), (86, slices_Contains_string_string.S N)], nzk [(4, ⟨[0, 2, 3, 4, 5, 6, 7, 8, 9, 10, 11, 12, 13, 14, 15, 16, 17, 18, 19, 20, 21, 22, 23, 24, 25, 26, 30, 31, 32, 33, 34, 35, 36, 37, 38, 39, 40, 41, 42, 43, 44, 45, 46, 47, 48, 49, 50, 51, 52, 53, 54, 55, 56, 57, 58, 59, 60, 61, 62, 63, 64, 65, 66, 67, 68, 69, 70, 71], [], []⟩)], N, [], false⟩
noncomputable def impl_RingOk.f (N : Nat) (a : List PV) : Option Res := run Tryz.prog (impl_RingOk.E N) Tryz.f40 [(40, .ro)] [(4, .val)] a
noncomputable def impl_RingOk.l0 (N : Nat) (n : Nat) (x27 : PV) (x28 : Int) (x29 : Int) (y0_0 : PV) (y0_1 : PV) : Option Res := loopAt Tryz.prog (impl_RingOk.E N) Tryz.f40 [(4, .val)] [1, 1, 0, 1, 0] [] n ⟨mkSlots 72 [(1, .ptr 0 []), (27, .ro 22 x27), (28, .sc (.int .i64 x28)), (29, .sc (.int .i64 x29))], ohOf [.box 40 (.agg 40 [.ro 22 y0_0, .ro 23 y0_1])]⟩
theorem impl_RingOk.f_eq (N : Nat) (a0 : PV) : impl_RingOk.f N [a0] = (impl_within.f N [(PV.sc (.int .i64 (((a0.fld 0).items).length : Int))), (PV.sc (.int .i64 1)), (PV.sc (.int .i64 5))]).bind fun t1 => if (!((t1.headD default).toBool)) = false then (if (!decide ((((a0.fld 1).items).length : Int) = (((a0.fld 0).items).length : Int))) = false then (if 0 ≤ 0 then (if 0 < (((a0.fld 1).items).length : Int) then (if (!decide ((((a0.fld 1).elem 0).toInt) = 1)) = true then (some [(PV.sc (.bool false))]) else (impl_RingOk.l0 N N (a0.fld 0) (((a0.fld 0).items).length : Int) 0 (a0.fld 0) (a0.fld 1))) else none) else none) else (some [(PV.sc (.bool false))])) else (some [(PV.sc (.bool false))]) := by kernel_rfl
theorem impl_RingOk.l0_eq (N : Nat) (n : Nat) (x27 : PV) (x28 : Int) (x29 : Int) (y0_0 : PV) (y0_1 : PV) : impl_RingOk.l0 N (n + 1) x27 x28 x29 y0_0 y0_1 = if decide (x29 < x28) = true then (if 0 ≤ x29 then (if x29 < (x27.items.length : Int) then ((impl_keyOk.f N [(PV.sc (.string ((x27.elem x29.toNat).toStr)))]).bind fun t2 => if (!((t2.headD default).toBool)) = false then (if 0 ≤ x29 then (if x29 ≤ (y0_0.items.length : Int) then ((slices_Contains_string_string.f N [(PV.list ((y0_0.items.drop 0).take (x29.toNat - 0))), (PV.sc (.string ((x27.elem x29.toNat).toStr)))]).bind fun t3 => if (t3.headD default).toBool = false then (if 0 ≤ x29 then (if x29 < (y0_1.items.length : Int) then (if decide (999999 < ((y0_1.elem x29.toNat).toInt)) = false then (if decide (0 < x29) = true then (if 0 ≤ (IntKind.i64.wrap (x29 - 1)) then (if (IntKind.i64.wrap (x29 - 1)) < (y0_1.items.length : Int) then (if 0 ≤ x29 then (if x29 < (y0_1.items.length : Int) then (if decide (((y0_1.elem x29.toNat).toInt) ≤ ((y0_1.elem ((IntKind.i64.wrap (x29 - 1)).toNat)).toInt)) = true then (some [(PV.sc (.bool false))]) else (impl_RingOk.l0 N n x27 x28 (IntKind.i64.wrap (x29 + 1)) y0_0 y0_1)) else none) else none) else none) else none) else (impl_RingOk.l0 N n x27 x28 (IntKind.i64.wrap (x29 + 1)) y0_0 y0_1)) else (some [(PV.sc (.bool false))])) else none) else none) else (some [(PV.sc (.bool false))])) else none) else none) else (some [(PV.sc (.bool false))])) else none) else none) else (some [(PV.sc (.bool true))]) := by kernel_rfl
noncomputable def impl_RingOk.S (N : Nat) : ASpec := ⟨[(40, .ro)], [(4, .val)], impl_RingOk.f N⟩
theorem impl_RingOk.ok (N : Nat) : FnOk Tryz.prog 40 (impl_RingOk.S N) := fnOk_of (E := impl_RingOk.E N) mix Tryz.func40 (by kernel_rfl) (by kernel_rfl) (by kernel_rfl) (lk_ok (all_cons (impl_within.ok N) (all_cons (impl_keyOk.ok N) (all_cons (slices_Contains_string_string.ok N) all_nil)))) (by kernel_rfl) (fun _ _ h => h)

/-! ### impl_cloneBook: function 59, loop.example/medlar/impl.cloneBook -/
noncomputable def impl_cloneBook.E (N : Nat) : Env := ⟨lk [], nzk [], N, [], false⟩
noncomputable def impl_cloneBook.f (N : Nat) (a : List PV) : Option Res := run Tryz.prog (impl_cloneBook.E N) Tryz.f59 [(43, .ro)] [(43, .own)] a
theorem impl_cloneBook.f_eq (N : Nat) (a0 : PV) : impl_cloneBook.f N [a0] = if ([] : List PV).length + ((a0.fld 0).items).length ≤ 1954687338268 then (if ([] : List PV).length + ((a0.fld 1).items).length ≤ 4398046511104 then (some [(PV.agg [(PV.list (([] : List PV) ++ ((a0.fld 0).items))), (PV.list (([] : List PV) ++ ((a0.fld 1).items)))])]) else none) else none := by kernel_rfl
noncomputable def impl_cloneBook.S (N : Nat) : ASpec := ⟨[(43, .ro)], [(43, .own)], impl_cloneBook.f N⟩
theorem impl_cloneBook.ok (N : Nat) : FnOk Tryz.prog 59 (impl_cloneBook.S N) := fnOk_of (E := impl_cloneBook.E N) mix Tryz.func59 (by kernel_rfl) (by kernel_rfl) (by kernel_rfl) (lk_ok all_nil) (by kernel_rfl) (fun _ _ h => h)

/-! ### impl_RingKey: function 28, loop.example/medlar/impl.RingKey -/
noncomputable def impl_RingKey.E (N : Nat) : Env := ⟨lk [(40, impl_RingOk.S N)], nzk [(4, ⟨[0, 3, 4, 6, 7, 8, 9, 10, 14, 15, 16, 17, 18, 19, 20, 21, 22, 23, 24, 25, 26, 27], [], []⟩)], N, [], false⟩
noncomputable def impl_RingKey.f (N : Nat) (a : List PV) : Option Res := run Tryz.prog (impl_RingKey.E N) Tryz.f28 [(40, .ro), (3, .ro)] [(9, .val)] a
noncomputable def impl_RingKey.l0 (N : Nat) (n : Nat) (x1 : Int) (x5 : ByteArray) (x11 : PV) (x12 : Int) (x13 : Int) (y0_0 : PV) (y0_1 : PV) : Option Res := loopAt Tryz.prog (impl_RingKey.E N) Tryz.f28 [(9, .val)] [1, 1, 0, 1, 0, 1, 0] [] n ⟨mkSlots 28 [(1, .sc (.int .i64 x1)), (2, .ptr 0 []), (5, .sc (.string x5)), (11, .ro 23 x11), (12, .sc (.int .i64 x12)), (13, .sc (.int .i64 x13))], ohOf [.box 40 (.agg 40 [.ro 22 y0_0, .ro 23 y0_1])]⟩
theorem impl_RingKey.f_eq (N : Nat) (a0 : PV) (a1 : PV) : impl_RingKey.f N [a0, a1] = (impl_RingOk.f N [(PV.agg [a0.fld 0, a0.fld 1])]).bind fun t1 => if (t1.headD default).toBool = true then (impl_RingKey.l0 N N a1.toInt (ByteArray.mk #[]) (a0.fld 1) (((a0.fld 1).items).length : Int) 0 (a0.fld 0) (a0.fld 1)) else (some [(PV.sc (.string (ByteArray.mk #[])))]) := by kernel_rfl
theorem impl_RingKey.l0_eq (N : Nat) (n : Nat) (x1 : Int) (x5 : ByteArray) (x11 : PV) (x12 : Int) (x13 : Int) (y0_0 : PV) (y0_1 : PV) : impl_RingKey.l0 N (n + 1) x1 x5 x11 x12 x13 y0_0 y0_1 = if decide (x13 < x12) = true then (if 0 ≤ x13 then (if x13 < (x11.items.length : Int) then (if decide (((x11.elem x13.toNat).toInt) ≤ x1) = true then (if 0 ≤ x13 then (if x13 < (y0_0.items.length : Int) then (impl_RingKey.l0 N n x1 ((y0_0.elem x13.toNat).toStr) x11 x12 (IntKind.i64.wrap (x13 + 1)) y0_0 y0_1) else none) else none) else (impl_RingKey.l0 N n x1 x5 x11 x12 (IntKind.i64.wrap (x13 + 1)) y0_0 y0_1)) else none) else none) else (some [(PV.sc (.string x5))]) := by kernel_rfl
noncomputable def impl_RingKey.S (N : Nat) : ASpec := ⟨[(40, .ro), (3, .ro)], [(9, .val)], impl_RingKey.f N⟩
theorem impl_RingKey.ok (N : Nat) : FnOk Tryz.prog 28 (impl_RingKey.S N) := fnOk_of (E := impl_RingKey.E N) mix Tryz.func28 (by kernel_rfl) (by kernel_rfl) (by kernel_rfl) (lk_ok (all_cons (impl_RingOk.ok N) all_nil)) (by kernel_rfl) (fun _ _ h => h)

/-! ### impl_wordsOk: function 149, loop.example/medlar/impl.wordsOk -/
noncomputable def impl_wordsOk.E (N : Nat) : Env := ⟨lk [(166, impl_WordOk.S N)], nzk [(2, ⟨[2, 3, 4, 5, 6, 10, 11, 12, 13, 14, 15, 16, 17, 18, 19, 20, 21, 22, 23, 24, 25, 26, 27, 28, 29, 30, 31, 32, 33, 34], [], []⟩)], N, [], false⟩
noncomputable def impl_wordsOk.f (N : Nat) (a : List PV) : Option Res := run Tryz.prog (impl_wordsOk.E N) Tryz.f149 [(22, .ro), (3, .ro)] [(4, .val)] a
noncomputable def impl_wordsOk.l0 (N : Nat) (n : Nat) (x0 : PV) (x1 : Int) (x7 : PV) (x8 : Int) (x9 : Int) : Option Res := loopAt Tryz.prog (impl_wordsOk.E N) Tryz.f149 [(4, .val)] [1, 0, 1, 0] [] n ⟨mkSlots 35 [(0, .ro 22 x0), (1, .sc (.int .i64 x1)), (7, .ro 22 x7), (8, .sc (.int .i64 x8)), (9, .sc (.int .i64 x9))], ohOf []⟩
theorem impl_wordsOk.f_eq (N : Nat) (a0 : PV) (a1 : PV) : impl_wordsOk.f N [a0, a1] = impl_wordsOk.l0 N N a0 a1.toInt a0 (a0.items.length : Int) 0 := by kernel_rfl
theorem impl_wordsOk.l0_eq (N : Nat) (n : Nat) (x0 : PV) (x1 : Int) (x7 : PV) (x8 : Int) (x9 : Int) : impl_wordsOk.l0 N (n + 1) x0 x1 x7 x8 x9 = if decide (x9 < x8) = true then (if 0 ≤ x9 then (if x9 < (x7.items.length : Int) then ((impl_WordOk.f N [(PV.sc (.string ((x7.elem x9.toNat).toStr)))]).bind fun t1 => if (!((t1.headD default).toBool)) = false then (if decide (0 < x9) = true then (if 0 ≤ (IntKind.i64.wrap (x9 - 1)) then (if (IntKind.i64.wrap (x9 - 1)) < (x0.items.length : Int) then (if (!Op.bytesLess ((x0.elem ((IntKind.i64.wrap (x9 - 1)).toNat)).toStr).toList ((x7.elem x9.toNat).toStr).toList) = true then (some [(PV.sc (.bool false))]) else (impl_wordsOk.l0 N n x0 x1 x7 x8 (IntKind.i64.wrap (x9 + 1)))) else none) else none) else (impl_wordsOk.l0 N n x0 x1 x7 x8 (IntKind.i64.wrap (x9 + 1)))) else (some [(PV.sc (.bool false))])) else none) else none) else (some [(PV.sc (.bool (decide ((x0.items.length : Int) ≤ x1))))]) := by kernel_rfl
noncomputable def impl_wordsOk.S (N : Nat) : ASpec := ⟨[(22, .ro), (3, .ro)], [(4, .val)], impl_wordsOk.f N⟩
theorem impl_wordsOk.ok (N : Nat) : FnOk Tryz.prog 149 (impl_wordsOk.S N) := fnOk_of (E := impl_wordsOk.E N) mix Tryz.func149 (by kernel_rfl) (by kernel_rfl) (by kernel_rfl) (lk_ok (all_cons (impl_WordOk.ok N) all_nil)) (by kernel_rfl) (fun _ _ h => h)

/-! ### impl_entryAt: function 130, loop.example/medlar/impl.entryAt, walked by hand -/
section
open Go.RowKit Go.Proofs Go.Lib
section
open Go.Shelf
def laysIF_ren : Go.Shelf.Ren := ⟨fun | 6 => 155 | n => n, fun | 22 => 32 | 23 => 99 | 25 => 100 | 3 => 3 | 0 => 0 | 4 => 4 | n => n, fun | n => n⟩
theorem laysIF : Go.Proofs.SlLaysH0.n6 Tryz.prog laysIF_ren := {
  mixed := by kernel_rfl
  f6 := ⟨Tryz.f155.name, by decide, Tryz.func155.trans (congrArg some (by kernel_rfl))⟩
  t0 := Tryz.underlying0
  a0 := Tryz.isAgg0
  z0 := Tryz.sizeOf0
  v0 := Tryz.zeroValue0
  t3 := Tryz.underlying3
  a3 := Tryz.isAgg3
  z3 := Tryz.sizeOf3
  v3 := Tryz.zeroValue3
  t4 := Tryz.underlying4
  a4 := Tryz.isAgg4
  z4 := Tryz.sizeOf4
  v4 := Tryz.zeroValue4
  t22 := Tryz.underlying32
  a22 := Tryz.isAgg32
  z22 := Tryz.sizeOf32
  v22 := Tryz.zeroValue32
  t25 := Tryz.underlying100
  a25 := Tryz.isAgg100
  z25 := Tryz.sizeOf100
  v25 := Tryz.zeroValue100 }

end
def encE (x : ByteArray × ByteArray) : List Value := [.string x.1, .string x.2]
def ent2P (x : ByteArray × ByteArray) : PV := .agg [strP x.1, strP x.2]
def toEnt2 (p : PV) : ByteArray × ByteArray := ((p.fld 0).toStr, (p.fld 1).toStr)
theorem toEnt2_ent2P (x : ByteArray × ByteArray) : toEnt2 (ent2P x) = x := rfl
def atE (s : ByteArray) (l : List (ByteArray × ByteArray)) : Int := Lib.idxBy (fun _ y => decide (y.1.toList = s.toList)) l default
theorem rd_entsV {ok : Nat → Prop} {w : World} {p : PV} {v : Value} (h : RdV Tryz.prog ok w 32 p v) :
    ∃ A cap, ∃ ns : List (ByteArray × ByteArray), v = .slice A ns.length cap ∧ p = .list (ns.map ent2P) ∧ (0 < ns.length → ∃ b off, A = some ⟨b, off, none⟩ ∧ b < w.heap.size ∧ ∀ j, j < ns.length → ∀ i u, (encE ns[j]!)[i]? = some u → w.cell? ⟨b, off + j * 2 + i, none⟩ = some u) := by
  have ht : tk Tryz.prog 32 = .slice 99 := by kernel_rfl
  have he : tk Tryz.prog 99 = .struct [9, 9] := by kernel_rfl
  have hs : tk Tryz.prog 9 = .str := by kernel_rfl
  have hz : YtjfigkikhmffpaaGreatDoorAm.sizeOf Tryz.prog 99 = 2 := by kernel_rfl
  obtain ⟨n, cs, h1, h2⟩ := h
  cases n with
  | zero => exact h1.elim
  | succ n =>
    unfold YtjfigkikhmffpaaGreatDoorAm.Rd at h1
    simp only [ht] at h1
    obtain ⟨A, cap, ps, rfl, rfl, hc, hr⟩ := h1
    rw [valOf_one (fun fs => by rw [ht]; simp)] at h2
    rw [hz] at hr
    have hps : 0 < ps.length → ∃ ad, A = some ad ∧ ∀ j q, ps[j]? = some q → ∃ x, q = ent2P x ∧ ∀ i u, (encE x)[i]? = some u → w.cell? (ad.add (j * 2 + i)) = some u := fun h0 => by
      obtain ⟨ad, a1, a2, a3⟩ := hr h0
      refine ⟨ad, a1, fun j q hj => ?_⟩
      obtain ⟨c, c1, c2, c3⟩ := a3 j q hj
      cases n with
      | zero => exact c3.elim
      | succ n =>
        unfold YtjfigkikhmffpaaGreatDoorAm.Rd at c3
        simp only [he] at c3
        obtain ⟨qs, rfl, c4⟩ := c3
        match qs, c4 with
        | [q1, q2], c4 =>
          obtain ⟨d1, d1', rfl, h7, d2, d2', rfl, h8, rfl⟩ := c4
          cases n with
          | zero => exact h7.elim
          | succ n =>
            unfold YtjfigkikhmffpaaGreatDoorAm.Rd at h7 h8
            simp only [hs] at h7 h8
            obtain ⟨a, rfl, rfl⟩ := h7
            obtain ⟨b, rfl, rfl⟩ := h8
            exact ⟨(a, b), rfl, fun i u hu => c2 i u (by simpa [encE] using hu)⟩
        | [], c4 => exact c4.elim
        | [_], c4 => obtain ⟨_, _, _, _, c4⟩ := c4; exact c4.elim
        | _ :: _ :: _ :: _, c4 => obtain ⟨_, _, _, _, _, _, _, _, c4⟩ := c4; exact c4.elim
    have hall : ∀ q ∈ ps, ent2P (toEnt2 q) = q := fun q hq => by
      obtain ⟨j, hj, hjq⟩ := List.getElem_of_mem hq
      obtain ⟨ad, _, h3⟩ := hps (by omega)
      obtain ⟨x, rfl, _⟩ := h3 j q (by rw [List.getElem?_eq_getElem hj, hjq])
      rfl
    have hmap : (ps.map toEnt2).map ent2P = ps := by
      rw [List.map_map]
      conv => rhs; rw [← List.map_id ps]
      exact List.map_congr_left fun q hq => hall q hq
    refine ⟨A, cap, ps.map toEnt2, by rw [h2, List.length_map], by rw [hmap], fun h0 => ?_⟩
    rw [List.length_map] at h0
    obtain ⟨ad, rfl, a3⟩ := hps h0
    have key : ∀ j, j < ps.length → ∀ i u, (encE (ps.map toEnt2)[j]!)[i]? = some u → w.cell? (ad.add (j * 2 + i)) = some u := fun j hj i u hu => by
      obtain ⟨x, hx, h5⟩ := a3 j ps[j] (List.getElem?_eq_getElem hj)
      have : (ps.map toEnt2)[j]! = x := by
        rw [getElem!_pos _ j (by simpa using hj), List.getElem_map, hx]
        rfl
      rw [this] at hu
      exact h5 i u hu
    have h00 := key 0 h0 0 (.string ((ps.map toEnt2)[0]!).1) rfl
    have hsp : ad.spot = none ∧ ad.block < w.heap.size := by
      unfold World.cell? at h00
      split at h00
      · rename_i c _ _ hb
        have hbl := (Array.getElem?_eq_some_iff.1 hb).1
        refine ⟨?_, hbl⟩
        cases hsp : ad.spot with
        | none => rfl
        | some z =>
          have : (ad.add (0 * 2 + 0)).spot.isSome = true := by simp [Addr.add, hsp]
          rw [if_pos this] at h00
          cases h00
      · cases h00
    obtain ⟨b, off, sp⟩ := ad
    obtain ⟨h6, h7⟩ := hsp
    simp only at h6 h7
    subst h6
    refine ⟨b, off, rfl, h7, fun j hj i u hu => ?_⟩
    have := key j (by simpa using hj) i u hu
    rw [Addr.add_lit] at this
    rw [Nat.add_assoc]; exact this
/-- The predicate: the stem. -/
theorem entry_pred (s : ByteArray) (B : Nat) (w : World) (hB : B < w.heap.size) (hcell : w.cell? ⟨B, 0, none⟩ = some (.string s)) :
    PredBelow Tryz.prog 156 #[.pointer (some ⟨B, 0, none⟩)] (fun x => .agg (encE x).toArray) (fun x => decide (x.1.toList = s.toList)) w := fun W x hb => by
  have hc : W.cell? ⟨B, 0, none⟩ = some (.string s) := (hb.cell (p := ⟨B, 0, none⟩) hB).trans hcell
  have hBW : B < W.heap.size := Nat.lt_of_lt_of_le hB hb.size
  have hne : B ≠ W.heap.size := by omega
  show Calls Tryz.prog 156 #[.agg #[.string x.1, .string x.2], .pointer (some ⟨B, 0, none⟩)] W _
  go_enter Tryz.func156, Tryz.ntmps156
  go_wp2
  all_goals (go_ret; exact ⟨by first | (simp_all; done) | (simp_all; rw [Bool.eq_iff_iff]; simp), hb.alloc hb.size _⟩)
theorem idx_none (A : Option Addr) (cap : Nat) (fv : Value) (w : World) : Calls Tryz.prog 155 #[.slice A 0 cap, fv] w fun e w' => e = .returned (.int .i64 (-1)) ∧ w' = w := by
  go_enter Tryz.func155, Tryz.ntmps155
  go_wp2
  refine wp_loop_rounds 1 ?_
  rw [rounds_succ]
  go_wp2
  go_ret
  exact ⟨rfl, rfl⟩
theorem entry_ix (A : Option Addr) (cap : Nat) (ns : List (ByteArray × ByteArray)) (s : ByteArray) (w : World) (hbig : ns.length ≤ 9223372036854775807)
    (hA : 0 < ns.length → ∃ b off, A = some ⟨b, off, none⟩ ∧ b < w.heap.size ∧ ∀ j, j < ns.length → ∀ i u, (encE ns[j]!)[i]? = some u → w.cell? ⟨b, off + j * 2 + i, none⟩ = some u) :
    Calls Tryz.prog 155 #[.slice A ns.length cap, .func (.func 156) #[] #[.pointer (some ⟨w.heap.size, 0, none⟩)]] (w.alloc (.cells #[.string s] 9)) fun e w' => e = .returned (.int .i64 (atE s ns)) ∧ Below w.heap.size w w' := by
  have hb0 : Below w.heap.size w (w.alloc (.cells #[.string s] 9)) := (Below.refl _ w).alloc (Nat.le_refl _) _
  by_cases h0 : 0 < ns.length
  · obtain ⟨b, off, rfl, h1, h2⟩ := hA h0
    have eg : ∀ args w, (callFunc 156 args).run Tryz.prog w = .ok (.enter 156 args) w := enters_of Tryz.func156 (by kernel_rfl) rfl
    have hcon := AnyQ.slices_IndexFunc laysIF 2 Tryz.isAgg99 Tryz.sizeOf99 encE (fun _ => rfl) (fun x => decide (x.1.toList = s.toList)) 156 #[.pointer (some ⟨w.heap.size, 0, none⟩)] eg b off ns.length cap ns (w.alloc (.cells #[.string s] 9))
      (entry_pred s w.heap.size _ (by simp) (by simp)) (Nat.le_refl _) hbig (by simp; omega) (fun j hj i u hu => Lib.cell?_alloc_some _ (h2 j hj i u hu))
    change Calls Tryz.prog 155 _ _ _ at hcon
    refine Calls.mono hcon ?_
    rintro e w' ⟨rfl, hb⟩
    rw [List.take_length]
    exact ⟨rfl, hb0.trans (hb.mono (by simp))⟩
  · have hz : ns = [] := List.eq_nil_of_length_eq_zero (by omega)
    subst hz
    refine Calls.mono (idx_none A cap _ _) ?_
    rintro e w' ⟨rfl, rfl⟩
    exact ⟨rfl, hb0⟩
theorem entry_run (A : Option Addr) (cap : Nat) (ns : List (ByteArray × ByteArray)) (s : ByteArray) (w : World) (hbig : ns.length ≤ 9223372036854775807)
    (hA : 0 < ns.length → ∃ b off, A = some ⟨b, off, none⟩ ∧ b < w.heap.size ∧ ∀ j, j < ns.length → ∀ i u, (encE ns[j]!)[i]? = some u → w.cell? ⟨b, off + j * 2 + i, none⟩ = some u) :
    Calls Tryz.prog 130 #[.slice A ns.length cap, .string s] w fun e w' => e = .returned (.int .i64 (atE s ns)) ∧ Below w.heap.size w w' := by
  have hcon := entry_ix A cap ns s w hbig hA
  clear hA
  generalize atE s ns = r at hcon ⊢
  go_enter Tryz.func130, Tryz.ntmps130
  go_wp2_with (go_at_call 155; refine hcon.mono ?_; rintro e w' ⟨rfl, hb'⟩)
  go_ret
  exact ⟨rfl, hb'⟩
noncomputable def impl_entryAt.f (N : Nat) (a : List PV) : Option (List PV) := match a with
  | [.list ps, .sc (.string s)] => if ps.length ≤ 9223372036854775807 then some [intP (atE s (ps.map toEnt2))] else none
  | _ => none
noncomputable def impl_entryAt.S (N : Nat) : ASpec := ⟨[(32, .ro), (9, .ro)], [(3, .val)], impl_entryAt.f N⟩
theorem impl_entryAt.ok (N : Nat) : FnOk Tryz.prog 130 (impl_entryAt.S N) := by
  refine ⟨⟨_, Tryz.func130, by kernel_rfl, by kernel_rfl⟩, fun w ok vs ps F L outs hglb ha hnd hok hd => ?_⟩
  match vs, ps, ha with
  | [v, u], [p, q], ⟨hr, hq, hF, hL⟩ =>
    subst hF hL
    obtain ⟨A, cap, ns, rfl, rfl, hA⟩ := rd_entsV hr
    obtain ⟨rfl, hk⟩ := rdV_scal (P := Tryz.prog) (t := 9) (by kernel_rfl) hq
    have hk9 : tk Tryz.prog 9 = .str := by kernel_rfl
    unfold kindB at hk
    rw [hk9] at hk
    cases u <;> simp at hk
    rename_i s
    have hd' : (if (ns.map ent2P).length ≤ 9223372036854775807 then some [intP (atE s ((ns.map ent2P).map toEnt2))] else none) = some outs := hd
    have hid : (ns.map ent2P).map toEnt2 = ns := by simp [Function.comp_def, toEnt2_ent2P]
    rw [hid, List.length_map] at hd'
    split at hd'
    case isFalse => cases hd'
    rename_i hlen
    injection hd' with hd'
    subst hd'
    refine Calls.mono (entry_run A cap ns s w hlen hA) ?_
    rintro e w' ⟨rfl, hb⟩
    exact ⟨_, rfl, [.int .i64 (atE s ns)], [], [], rfl, ⟨rdV_of (by kernel_rfl), rfl, rfl⟩, rfl, by simp, by simp, ⟨hb.os, hb.tape, hb.output, hb.size, fun k hk _ => hb.block k hk⟩⟩
  | [], _, ha => exact absurd ha (by simp [ArgsAt, impl_entryAt.S])
  | [_], [], ha => exact absurd ha (by simp [ArgsAt, impl_entryAt.S])
  | [_], _ :: _, ha => exact absurd ha (by simp [ArgsAt, impl_entryAt.S])
  | _ :: _ :: _, [], ha => exact absurd ha (by simp [ArgsAt, impl_entryAt.S])
  | _ :: _ :: _, [_], ha => exact absurd ha (by simp [ArgsAt, impl_entryAt.S])
  | [_, _], _ :: _ :: _ :: _, ha => exact absurd ha (by simp [ArgsAt, impl_entryAt.S])
  | _ :: _ :: _ :: _, _ :: _ :: _, ha => exact absurd ha (by simp [ArgsAt, impl_entryAt.S])

end

/-! ### impl_DeltaOk: function 112, loop.example/medlar/impl.DeltaOk -/
noncomputable def impl_DeltaOk.E (N : Nat) : Env := ⟨lk [(149, impl_wordsOk.S N), (97, impl_entriesOk.S N), (96, impl_affixesOk.S N), (130, impl_entryAt.S N)], nzk [(4, ⟨[0, 2, 3, 4, 5, 6, 7, 8, 9, 10, 11, 12, 13, 14, 15, 16, 17, 18, 19, 20, 21, 22, 23, 24, 25, 26, 27, 28, 29, 30, 31, 32, 36, 37, 38, 39, 40, 41, 42, 43, 44], [], []⟩)], N, [], false⟩
noncomputable def impl_DeltaOk.f (N : Nat) (a : List PV) : Option Res := run Tryz.prog (impl_DeltaOk.E N) Tryz.f112 [(35, .ro)] [(4, .val)] a
noncomputable def impl_DeltaOk.l0 (N : Nat) (n : Nat) (x33 : PV) (x34 : Int) (x35 : Int) (y0_0 : PV) (y0_1 : PV) (y0_2 : Bool) (y0_3 : PV) : Option Res := loopAt Tryz.prog (impl_DeltaOk.E N) Tryz.f112 [(4, .val)] [1, 1, 0, 1, 0] [] n ⟨mkSlots 45 [(1, .ptr 0 []), (33, .ro 22 x33), (34, .sc (.int .i64 x34)), (35, .sc (.int .i64 x35))], ohOf [.box 35 (.agg 35 [.ro 22 y0_0, .ro 32 y0_1, .sc (.bool y0_2), .ro 33 y0_3])]⟩
theorem impl_DeltaOk.f_eq (N : Nat) (a0 : PV) : impl_DeltaOk.f N [a0] = (impl_wordsOk.f N [a0.fld 0, (PV.sc (.int .i64 24))]).bind fun t1 => if (!((t1.headD default).toBool)) = false then ((impl_entriesOk.f N [a0.fld 1]).bind fun t2 => if (!((t2.headD default).toBool)) = false then ((impl_affixesOk.f N [a0.fld 3]).bind fun t3 => if (!((t3.headD default).toBool)) = false then (if (!((a0.fld 2).toBool)) = true then (if decide (0 < (((a0.fld 3).items).length : Int)) = true then (some [(PV.sc (.bool false))]) else (impl_DeltaOk.l0 N N (a0.fld 0) (((a0.fld 0).items).length : Int) 0 (a0.fld 0) (a0.fld 1) ((a0.fld 2).toBool) (a0.fld 3))) else (impl_DeltaOk.l0 N N (a0.fld 0) (((a0.fld 0).items).length : Int) 0 (a0.fld 0) (a0.fld 1) ((a0.fld 2).toBool) (a0.fld 3))) else (some [(PV.sc (.bool false))])) else (some [(PV.sc (.bool false))])) else (some [(PV.sc (.bool false))]) := by kernel_rfl
theorem impl_DeltaOk.l0_eq (N : Nat) (n : Nat) (x33 : PV) (x34 : Int) (x35 : Int) (y0_0 : PV) (y0_1 : PV) (y0_2 : Bool) (y0_3 : PV) : impl_DeltaOk.l0 N (n + 1) x33 x34 x35 y0_0 y0_1 y0_2 y0_3 = if decide (x35 < x34) = true then (if 0 ≤ x35 then (if x35 < (x33.items.length : Int) then ((impl_entryAt.f N [y0_1, (PV.sc (.string ((x33.elem x35.toNat).toStr)))]).bind fun t4 => if decide (0 ≤ ((t4.headD default).toInt)) = true then (some [(PV.sc (.bool false))]) else (impl_DeltaOk.l0 N n x33 x34 (IntKind.i64.wrap (x35 + 1)) y0_0 y0_1 y0_2 y0_3)) else none) else none) else (some [(PV.sc (.bool true))]) := by kernel_rfl
noncomputable def impl_DeltaOk.S (N : Nat) : ASpec := ⟨[(35, .ro)], [(4, .val)], impl_DeltaOk.f N⟩
theorem impl_DeltaOk.ok (N : Nat) : FnOk Tryz.prog 112 (impl_DeltaOk.S N) := fnOk_of (E := impl_DeltaOk.E N) mix Tryz.func112 (by kernel_rfl) (by kernel_rfl) (by kernel_rfl) (lk_ok (all_cons (impl_wordsOk.ok N) (all_cons (impl_entriesOk.ok N) (all_cons (impl_affixesOk.ok N) (all_cons (impl_entryAt.ok N) all_nil))))) (by kernel_rfl) (fun _ _ h => h)

def lays160_ren : Go.Shelf.Ren := ⟨fun | 160 => 150 | 232 => 173 | 231 => 172 | 227 => 174 | 234 => 176 | 233 => 175 | 236 => 178 | 235 => 177 | 228 => 191 | 271 => 194 | 151 => 193 | 197 => 192 | 120 => 213 | 152 => 212 | 260 => 211 | 137 => 225 | 119 => 226 | 224 => 227 | 225 => 228 | 217 => 232 | 266 => 233 | n => n, fun | 9 => 9 | 4 => 4 | 3 => 3 | 5 => 5 | 117 => 179 | 116 => 178 | 0 => 0 | 124 => 182 | 21 => 21 | 105 => 196 | 46 => 163 | 119 => 227 | 139 => 230 | 138 => 229 | n => n, fun | 3 => 2 | 4 => 3 | n => n⟩
theorem lays160 : Go.Proofs.Lays.n160 Tryz.prog lays160_ren := {
  mixed := by kernel_rfl
  f119 := Tryz.func226.trans (congrArg some (by kernel_rfl))
  f120 := Tryz.func213.trans (congrArg some (by kernel_rfl))
  f137 := Tryz.func225.trans (congrArg some (by kernel_rfl))
  f151 := Tryz.func193.trans (congrArg some (by kernel_rfl))
  f152 := Tryz.func212.trans (congrArg some (by kernel_rfl))
  f160 := Tryz.func150.trans (congrArg some (by kernel_rfl))
  f197 := Tryz.func192.trans (congrArg some (by kernel_rfl))
  f217 := Tryz.func232.trans (congrArg some (by kernel_rfl))
  f224 := Tryz.func227.trans (congrArg some (by kernel_rfl))
  f225 := Tryz.func228.trans (congrArg some (by kernel_rfl))
  f227 := Tryz.func174.trans (congrArg some (by kernel_rfl))
  f228 := Tryz.func191.trans (congrArg some (by kernel_rfl))
  f231 := Tryz.func172.trans (congrArg some (by kernel_rfl))
  f232 := Tryz.func173.trans (congrArg some (by kernel_rfl))
  f233 := Tryz.func175.trans (congrArg some (by kernel_rfl))
  f234 := Tryz.func176.trans (congrArg some (by kernel_rfl))
  f235 := Tryz.func177.trans (congrArg some (by kernel_rfl))
  f236 := Tryz.func178.trans (congrArg some (by kernel_rfl))
  f260 := Tryz.func211.trans (congrArg some (by kernel_rfl))
  f266 := Tryz.func233.trans (congrArg some (by kernel_rfl))
  f271 := Tryz.func194.trans (congrArg some (by kernel_rfl))
  t0 := Tryz.underlying0
  a0 := Tryz.isAgg0
  z0 := Tryz.sizeOf0
  v0 := Tryz.zeroValue0
  t3 := Tryz.underlying3
  a3 := Tryz.isAgg3
  z3 := Tryz.sizeOf3
  v3 := Tryz.zeroValue3
  t4 := Tryz.underlying4
  a4 := Tryz.isAgg4
  z4 := Tryz.sizeOf4
  v4 := Tryz.zeroValue4
  t5 := Tryz.underlying5
  a5 := Tryz.isAgg5
  z5 := Tryz.sizeOf5
  v5 := Tryz.zeroValue5
  t9 := Tryz.underlying9
  a9 := Tryz.isAgg9
  z9 := Tryz.sizeOf9
  v9 := Tryz.zeroValue9
  t21 := Tryz.underlying21
  a21 := Tryz.isAgg21
  z21 := Tryz.sizeOf21
  v21 := Tryz.zeroValue21
  t46 := Tryz.underlying163
  a46 := Tryz.isAgg163
  z46 := Tryz.sizeOf163
  v46 := Tryz.zeroValue163
  t105 := Tryz.underlying196
  a105 := Tryz.isAgg196
  z105 := Tryz.sizeOf196
  v105 := Tryz.zeroValue196
  t116 := Tryz.underlying178
  a116 := Tryz.isAgg178
  z116 := Tryz.sizeOf178
  t117 := Tryz.underlying179
  a117 := Tryz.isAgg179
  z117 := Tryz.sizeOf179
  v117 := Tryz.zeroValue179
  t119 := Tryz.underlying227
  a119 := Tryz.isAgg227
  z119 := Tryz.sizeOf227
  t124 := Tryz.underlying182
  a124 := Tryz.isAgg182
  z124 := Tryz.sizeOf182
  v124 := Tryz.zeroValue182
  t138 := Tryz.underlying229
  a138 := Tryz.isAgg229
  z138 := Tryz.sizeOf229
  v138 := Tryz.zeroValue229
  t139 := Tryz.underlying230
  a139 := Tryz.isAgg230
  z139 := Tryz.sizeOf230
  v139 := Tryz.zeroValue230
  g3 := by kernel_rfl
  g4 := by kernel_rfl }

/-! ### strings_Trim: function 150, strings.Trim, by the kit's contract, Lib4 Lib11 -/
noncomputable def strings_Trim.f (N : Nat) (a : List PV) : Option (List PV) := trimBothDen a
noncomputable def strings_Trim.S (N : Nat) : ASpec := ⟨[(9, .ro), (9, .ro)], [(9, .val)], strings_Trim.f N⟩
theorem strings_Trim.ok (N : Nat) : FnOk Tryz.prog 150 (strings_Trim.S N) := fnOk_trimBoth lays160 rfl ⟨_, Tryz.func150, by kernel_rfl, by kernel_rfl⟩ (by kernel_rfl) (by kernel_rfl) (by kernel_rfl)

/-! ### impl_digits: function 113, loop.example/medlar/impl.digits -/
noncomputable def impl_digits.E (N : Nat) : Env := ⟨lk [(150, strings_Trim.S N)], nzk [], N, [], false⟩
noncomputable def impl_digits.f (N : Nat) (a : List PV) : Option Res := run Tryz.prog (impl_digits.E N) Tryz.f113 [(9, .ro)] [(4, .val)] a
theorem impl_digits.f_eq (N : Nat) (a0 : PV) : impl_digits.f N [a0] = if decide ((a0.toStr.size : Int) = 64) = true then ((strings_Trim.f N [(PV.sc (.string a0.toStr)), (PV.sc (.string (ByteArray.mk #[48, 49, 50, 51, 52, 53, 54, 55, 56, 57, 97, 98, 99, 100, 101, 102])))]).bind fun t1 => some [(PV.sc (.bool (decide (((t1.headD default).toStr).toList = (ByteArray.mk #[]).toList))))]) else (some [(PV.sc (.bool false))]) := by kernel_rfl
noncomputable def impl_digits.S (N : Nat) : ASpec := ⟨[(9, .ro)], [(4, .val)], impl_digits.f N⟩
theorem impl_digits.ok (N : Nat) : FnOk Tryz.prog 113 (impl_digits.S N) := fnOk_of (E := impl_digits.E N) mix Tryz.func113 (by kernel_rfl) (by kernel_rfl) (by kernel_rfl) (lk_ok (all_cons (strings_Trim.ok N) all_nil)) (by kernel_rfl) (fun _ _ h => h)

def laysM171_ren : Go.Shelf.Ren := ⟨fun | 171 => 116 | 243 => 151 | 246 => 179 | 283 => 195 | 284 => 196 | 285 => 197 | 286 => 198 | 129 => 210 | 317 => 214 | 318 => 215 | 319 => 216 | 320 => 217 | 337 => 229 | 338 => 230 | n => n, fun | 3 => 3 | 9 => 9 | 2 => 2 | 4 => 4 | 171 => 199 | 0 => 0 | 53 => 167 | 37 => 61 | 5 => 5 | 173 => 202 | 212 => 215 | 51 => 159 | 20 => 20 | 213 => 216 | 46 => 163 | 232 => 236 | 233 => 237 | n => n, fun | 17 => 1 | 18 => 5 | 19 => 6 | n => n⟩
theorem laysM171 : Go.Proofs.LaysM.n171 Tryz.prog laysM171_ren := {
  mixed := by kernel_rfl
  f129 := Tryz.func210.trans (congrArg some (by kernel_rfl))
  f171 := Tryz.func116.trans (congrArg some (by kernel_rfl))
  f243 := Tryz.func151.trans (congrArg some (by kernel_rfl))
  f246 := Tryz.func179.trans (congrArg some (by kernel_rfl))
  f283 := Tryz.func195.trans (congrArg some (by kernel_rfl))
  f284 := Tryz.func196.trans (congrArg some (by kernel_rfl))
  f285 := Tryz.func197.trans (congrArg some (by kernel_rfl))
  f286 := Tryz.func198.trans (congrArg some (by kernel_rfl))
  f317 := Tryz.func214.trans (congrArg some (by kernel_rfl))
  f318 := Tryz.func215.trans (congrArg some (by kernel_rfl))
  f319 := Tryz.func216.trans (congrArg some (by kernel_rfl))
  f320 := Tryz.func217.trans (congrArg some (by kernel_rfl))
  f337 := Tryz.func229.trans (congrArg some (by kernel_rfl))
  f338 := Tryz.func230.trans (congrArg some (by kernel_rfl))
  t0 := Tryz.underlying0
  a0 := Tryz.isAgg0
  z0 := Tryz.sizeOf0
  v0 := Tryz.zeroValue0
  t2 := Tryz.underlying2
  a2 := Tryz.isAgg2
  z2 := Tryz.sizeOf2
  v2 := Tryz.zeroValue2
  t3 := Tryz.underlying3
  a3 := Tryz.isAgg3
  z3 := Tryz.sizeOf3
  v3 := Tryz.zeroValue3
  t4 := Tryz.underlying4
  a4 := Tryz.isAgg4
  z4 := Tryz.sizeOf4
  v4 := Tryz.zeroValue4
  t5 := Tryz.underlying5
  a5 := Tryz.isAgg5
  z5 := Tryz.sizeOf5
  v5 := Tryz.zeroValue5
  t9 := Tryz.underlying9
  a9 := Tryz.isAgg9
  z9 := Tryz.sizeOf9
  v9 := Tryz.zeroValue9
  t20 := Tryz.underlying20
  a20 := Tryz.isAgg20
  z20 := Tryz.sizeOf20
  v20 := Tryz.zeroValue20
  t37 := Tryz.underlying61
  a37 := Tryz.isAgg61
  z37 := Tryz.sizeOf61
  v37 := Tryz.zeroValue61
  t46 := Tryz.underlying163
  a46 := Tryz.isAgg163
  z46 := Tryz.sizeOf163
  v46 := Tryz.zeroValue163
  t51 := Tryz.underlying159
  a51 := Tryz.isAgg159
  z51 := Tryz.sizeOf159
  v51 := Tryz.zeroValue159
  t53 := Tryz.underlying167
  a53 := Tryz.isAgg167
  z53 := Tryz.sizeOf167
  v53 := Tryz.zeroValue167
  t171 := Tryz.underlying199
  a171 := Tryz.isAgg199
  z171 := Tryz.sizeOf199
  v171 := Tryz.zeroValue199
  t173 := Tryz.underlying202
  a173 := Tryz.isAgg202
  z173 := Tryz.sizeOf202
  v173 := Tryz.zeroValue202
  t212 := Tryz.underlying215
  a212 := Tryz.isAgg215
  z212 := Tryz.sizeOf215
  v212 := Tryz.zeroValue215
  t213 := Tryz.underlying216
  a213 := Tryz.isAgg216
  z213 := Tryz.sizeOf216
  t232 := Tryz.underlying236
  a232 := Tryz.isAgg236
  z232 := Tryz.sizeOf236
  v232 := Tryz.zeroValue236
  t233 := Tryz.underlying237
  a233 := Tryz.isAgg237
  z233 := Tryz.sizeOf237
  v233 := Tryz.zeroValue237
  g17 := by kernel_rfl
  g18 := by kernel_rfl
  g19 := by kernel_rfl
  i0 := by kernel_rfl
  i2 := by kernel_rfl
  i3 := by kernel_rfl
  i4 := by kernel_rfl
  i5 := by kernel_rfl
  i9 := by kernel_rfl
  i20 := by kernel_rfl
  i37 := by kernel_rfl
  i46 := by kernel_rfl
  i51 := by kernel_rfl
  i53 := by kernel_rfl
  i171 := by kernel_rfl
  i173 := by kernel_rfl
  i212 := by kernel_rfl
  i232 := by kernel_rfl
  i233 := by kernel_rfl
  m17 := by kernel_rfl
  m18 := by kernel_rfl
  m19 := by kernel_rfl }

/-! ### strconv_Itoa: function 116, strconv.Itoa, by the kit's contract, Lib4 Lib7 -/
noncomputable def strconv_Itoa.f (N : Nat) (a : List PV) : Option (List PV) := itoaDen a
noncomputable def strconv_Itoa.S (N : Nat) : ASpec := ⟨[(3, .ro)], [(9, .val)], strconv_Itoa.f N⟩
theorem strconv_Itoa.ok (N : Nat) : FnOk Tryz.prog 116 (strconv_Itoa.S N) := fnOk_itoa laysM171 rfl ⟨_, Tryz.func116, by kernel_rfl, by kernel_rfl⟩ (fun ok w h => tab_of (g := 1) (by kernel_rfl) h (by simp)) (by kernel_rfl) (by kernel_rfl)

def lays156_ren : Go.Shelf.Ren := ⟨fun | 156 => 159 | 165 => 183 | 166 => 184 | 169 => 185 | 240 => 199 | 241 => 200 | 276 => 218 | 277 => 219 | n => n, fun | 31 => 22 | 9 => 9 | 3 => 3 | 4 => 4 | 0 => 0 | 20 => 20 | 72 => 188 | 76 => 192 | 70 => 186 | 37 => 61 | 75 => 191 | 127 => 204 | 164 => 218 | 5 => 5 | 80 => 105 | n => n, fun | n => n⟩
theorem lays156 : Go.Proofs.Lays.n156 Tryz.prog lays156_ren := {
  mixed := by kernel_rfl
  f156 := Tryz.func159.trans (congrArg some (by kernel_rfl))
  f165 := Tryz.func183.trans (congrArg some (by kernel_rfl))
  f166 := Tryz.func184.trans (congrArg some (by kernel_rfl))
  f169 := Tryz.func185.trans (congrArg some (by kernel_rfl))
  f240 := Tryz.func199.trans (congrArg some (by kernel_rfl))
  f241 := Tryz.func200.trans (congrArg some (by kernel_rfl))
  f276 := Tryz.func218.trans (congrArg some (by kernel_rfl))
  f277 := Tryz.func219.trans (congrArg some (by kernel_rfl))
  t0 := Tryz.underlying0
  a0 := Tryz.isAgg0
  z0 := Tryz.sizeOf0
  v0 := Tryz.zeroValue0
  t3 := Tryz.underlying3
  a3 := Tryz.isAgg3
  z3 := Tryz.sizeOf3
  v3 := Tryz.zeroValue3
  t4 := Tryz.underlying4
  a4 := Tryz.isAgg4
  z4 := Tryz.sizeOf4
  v4 := Tryz.zeroValue4
  t9 := Tryz.underlying9
  a9 := Tryz.isAgg9
  z9 := Tryz.sizeOf9
  v9 := Tryz.zeroValue9
  t20 := Tryz.underlying20
  a20 := Tryz.isAgg20
  z20 := Tryz.sizeOf20
  v20 := Tryz.zeroValue20
  t31 := Tryz.underlying22
  a31 := Tryz.isAgg22
  z31 := Tryz.sizeOf22
  v31 := Tryz.zeroValue22
  t37 := Tryz.underlying61
  a37 := Tryz.isAgg61
  z37 := Tryz.sizeOf61
  v37 := Tryz.zeroValue61
  t70 := Tryz.underlying186
  a70 := Tryz.isAgg186
  z70 := Tryz.sizeOf186
  v70 := Tryz.zeroValue186
  t72 := Tryz.underlying188
  a72 := Tryz.isAgg188
  z72 := Tryz.sizeOf188
  v72 := Tryz.zeroValue188
  t75 := Tryz.underlying191
  a75 := Tryz.isAgg191
  z75 := Tryz.sizeOf191
  v75 := Tryz.zeroValue191
  t76 := Tryz.underlying192
  a76 := Tryz.isAgg192
  z76 := Tryz.sizeOf192
  v76 := Tryz.zeroValue192
  t127 := Tryz.underlying204
  a127 := Tryz.isAgg204
  z127 := Tryz.sizeOf204
  v127 := Tryz.zeroValue204
  t164 := Tryz.underlying218
  a164 := Tryz.isAgg218
  z164 := Tryz.sizeOf218
  v164 := Tryz.zeroValue218 }

theorem Builder_Extra_156 : Builder.Extra Tryz.prog lays156_ren := {
  sizeBuilder := by kernel_rfl
  liesBuilder := by kernel_rfl
  t5 := Tryz.underlying5
  a5 := Tryz.isAgg5
  z5 := Tryz.sizeOf5
  v5 := Tryz.zeroValue5
  infoByte := by kernel_rfl
  cellsByte := by kernel_rfl
  sizeByte := by kernel_rfl
  neB5 := by decide }

/-! ### strings_Join: function 159, strings.Join, by the kit's contract, Lib4 Lib12 -/
noncomputable def strings_Join.f (N : Nat) (a : List PV) : Option (List PV) := joinDen a
noncomputable def strings_Join.S (N : Nat) : ASpec := ⟨[(22, .ro), (9, .ro)], [(9, .val)], strings_Join.f N⟩
theorem strings_Join.ok (N : Nat) : FnOk Tryz.prog 159 (strings_Join.S N) := fnOk_join (e := 9) lays156 Builder_Extra_156 rfl ⟨_, Tryz.func159, by kernel_rfl, by kernel_rfl⟩ (by kernel_rfl) (by kernel_rfl) (by kernel_rfl)

/-! ### impl_affixLine: function 134, loop.example/medlar/impl.affixLine -/
noncomputable def impl_affixLine.E (N : Nat) : Env := ⟨lk [(159, strings_Join.S N)], nzk [], N, [], false⟩
noncomputable def impl_affixLine.f (N : Nat) (a : List PV) : Option Res := run Tryz.prog (impl_affixLine.E N) Tryz.f134 [(97, .ro)] [(9, .val)] a
theorem impl_affixLine.f_eq (N : Nat) (a0 : PV) : impl_affixLine.f N [a0] = if (a0.fld 1).toBool = true then ((strings_Join.f N [(PV.list ([(PV.sc (.string (ByteArray.mk #[102, 114, 111, 110, 116]))), (PV.sc (.string ((a0.fld 0).toStr))), (PV.sc (.string ((a0.fld 2).toStr))), (PV.sc (.string ((a0.fld 3).toStr))), (PV.sc (.string ((a0.fld 4).toStr)))])), (PV.sc (.string (ByteArray.mk #[32])))]).bind fun t1 => if ((t1.headD default).toStr).size + (ByteArray.mk #[10]).size ≤ 9223372036854775807 then (some [(PV.sc (.string (((t1.headD default).toStr) ++ (ByteArray.mk #[10]))))]) else none) else ((strings_Join.f N [(PV.list ([(PV.sc (.string (ByteArray.mk #[101, 110, 100]))), (PV.sc (.string ((a0.fld 0).toStr))), (PV.sc (.string ((a0.fld 2).toStr))), (PV.sc (.string ((a0.fld 3).toStr))), (PV.sc (.string ((a0.fld 4).toStr)))])), (PV.sc (.string (ByteArray.mk #[32])))]).bind fun t2 => if ((t2.headD default).toStr).size + (ByteArray.mk #[10]).size ≤ 9223372036854775807 then (some [(PV.sc (.string (((t2.headD default).toStr) ++ (ByteArray.mk #[10]))))]) else none) := by kernel_rfl
noncomputable def impl_affixLine.S (N : Nat) : ASpec := ⟨[(97, .ro)], [(9, .val)], impl_affixLine.f N⟩
theorem impl_affixLine.ok (N : Nat) : FnOk Tryz.prog 134 (impl_affixLine.S N) := fnOk_of (E := impl_affixLine.E N) mix Tryz.func134 (by kernel_rfl) (by kernel_rfl) (by kernel_rfl) (lk_ok (all_cons (strings_Join.ok N) all_nil)) (by kernel_rfl) (fun _ _ h => h)

/-! ### impl_entryLine: function 135, loop.example/medlar/impl.entryLine -/
noncomputable def impl_entryLine.E (N : Nat) : Env := ⟨lk [], nzk [], N, [], false⟩
noncomputable def impl_entryLine.f (N : Nat) (a : List PV) : Option Res := run Tryz.prog (impl_entryLine.E N) Tryz.f135 [(99, .ro)] [(9, .val)] a
theorem impl_entryLine.f_eq (N : Nat) (a0 : PV) : impl_entryLine.f N [a0] = if decide (((a0.fld 1).toStr).toList = (ByteArray.mk #[]).toList) = true then (if ((a0.fld 0).toStr).size + (ByteArray.mk #[10]).size ≤ 9223372036854775807 then (some [(PV.sc (.string (((a0.fld 0).toStr) ++ (ByteArray.mk #[10]))))]) else none) else (if ((a0.fld 0).toStr).size + (ByteArray.mk #[47]).size ≤ 9223372036854775807 then (if (((a0.fld 0).toStr) ++ (ByteArray.mk #[47])).size + ((a0.fld 1).toStr).size ≤ 9223372036854775807 then (if ((((a0.fld 0).toStr) ++ (ByteArray.mk #[47])) ++ ((a0.fld 1).toStr)).size + (ByteArray.mk #[10]).size ≤ 9223372036854775807 then (some [(PV.sc (.string (((((a0.fld 0).toStr) ++ (ByteArray.mk #[47])) ++ ((a0.fld 1).toStr)) ++ (ByteArray.mk #[10]))))]) else none) else none) else none) := by kernel_rfl
noncomputable def impl_entryLine.S (N : Nat) : ASpec := ⟨[(99, .ro)], [(9, .val)], impl_entryLine.f N⟩
theorem impl_entryLine.ok (N : Nat) : FnOk Tryz.prog 135 (impl_entryLine.S N) := fnOk_of (E := impl_entryLine.E N) mix Tryz.func135 (by kernel_rfl) (by kernel_rfl) (by kernel_rfl) (lk_ok all_nil) (by kernel_rfl) (fun _ _ h => h)

/-! ### impl_DeltaPut: function 117, loop.example/medlar/impl.DeltaPut -/
noncomputable def impl_DeltaPut.E (N : Nat) : Env := ⟨lk [(112, impl_DeltaOk.S N), (134, impl_affixLine.S N), (135, impl_entryLine.S N)], nzk [(7, ⟨[0, 2, 4, 5, 6, 7, 8, 9, 10, 11, 12, 13, 14, 15, 19, 20, 21, 22, 23, 24, 25, 26, 27, 28, 29, 30, 31, 32, 33, 34, 35, 36, 37, 38, 39, 40, 41, 42, 43, 44, 45, 46, 47, 48, 49, 50, 51, 52, 53], [], []⟩), (12, ⟨[0, 2, 4, 5, 6, 7, 8, 9, 10, 11, 12, 13, 14, 15, 16, 17, 18, 19, 20, 21, 22, 23, 24, 25, 26, 27, 31, 32, 33, 34, 35, 36, 37, 38, 39, 40, 41, 42, 43, 44, 45, 46, 47, 48, 49, 50, 51, 52, 53], [], []⟩), (17, ⟨[0, 1, 2, 4, 5, 6, 7, 8, 9, 10, 11, 12, 13, 14, 15, 16, 17, 18, 19, 20, 21, 22, 23, 24, 25, 26, 27, 28, 29, 30, 31, 32, 33, 34, 35, 36, 37, 38, 39, 40, 44, 45, 46, 47, 48, 49, 50, 51, 52, 53], [], []⟩)], N, [], false⟩
noncomputable def impl_DeltaPut.f (N : Nat) (a : List PV) : Option Res := run Tryz.prog (impl_DeltaPut.E N) Tryz.f117 [(35, .ro)] [(9, .val)] a
noncomputable def impl_DeltaPut.l0 (N : Nat) (n : Nat) (x3 : ByteArray) (x16 : PV) (x17 : Int) (x18 : Int) (y0_0 : PV) (y0_1 : PV) (y0_2 : Bool) (y0_3 : PV) : Option Res := loopAt Tryz.prog (impl_DeltaPut.E N) Tryz.f117 [(9, .val)] [1, 1, 1, 1, 0, 1, 0] [] n ⟨mkSlots 54 [(1, .ptr 0 []), (3, .sc (.string x3)), (16, .ro 33 x16), (17, .sc (.int .i64 x17)), (18, .sc (.int .i64 x18))], ohOf [.box 35 (.agg 35 [.ro 22 y0_0, .ro 32 y0_1, .sc (.bool y0_2), .ro 33 y0_3])]⟩
noncomputable def impl_DeltaPut.l1 (N : Nat) (n : Nat) (x3 : ByteArray) (x28 : PV) (x29 : Int) (x30 : Int) (y0_0 : PV) (y0_1 : PV) (y0_2 : Bool) (y0_3 : PV) : Option Res := loopAt Tryz.prog (impl_DeltaPut.E N) Tryz.f117 [(9, .val)] [1, 1, 1, 1, 1, 0, 1, 0] [] n ⟨mkSlots 54 [(1, .ptr 0 []), (3, .sc (.string x3)), (28, .ro 22 x28), (29, .sc (.int .i64 x29)), (30, .sc (.int .i64 x30))], ohOf [.box 35 (.agg 35 [.ro 22 y0_0, .ro 32 y0_1, .sc (.bool y0_2), .ro 33 y0_3])]⟩
noncomputable def impl_DeltaPut.l2 (N : Nat) (n : Nat) (x3 : ByteArray) (x41 : PV) (x42 : Int) (x43 : Int) : Option Res := loopAt Tryz.prog (impl_DeltaPut.E N) Tryz.f117 [(9, .val)] [1, 1, 1, 1, 1, 1, 0, 1, 0] [] n ⟨mkSlots 54 [(3, .sc (.string x3)), (41, .ro 32 x41), (42, .sc (.int .i64 x42)), (43, .sc (.int .i64 x43))], ohOf []⟩
theorem impl_DeltaPut.f_eq (N : Nat) (a0 : PV) : impl_DeltaPut.f N [a0] = (impl_DeltaOk.f N [(PV.agg [a0.fld 0, a0.fld 1, (PV.sc (.bool ((a0.fld 2).toBool))), a0.fld 3])]).bind fun t1 => if (!((t1.headD default).toBool)) = true then (some [(PV.sc (.string (ByteArray.mk #[])))]) else (if (a0.fld 2).toBool = true then (impl_DeltaPut.l0 N N (ByteArray.mk #[97, 102, 102, 105, 120, 101, 115, 10]) (a0.fld 3) (((a0.fld 3).items).length : Int) 0 (a0.fld 0) (a0.fld 1) ((a0.fld 2).toBool) (a0.fld 3)) else (impl_DeltaPut.l0 N N (ByteArray.mk #[]) (a0.fld 3) (((a0.fld 3).items).length : Int) 0 (a0.fld 0) (a0.fld 1) ((a0.fld 2).toBool) (a0.fld 3))) := by kernel_rfl
theorem impl_DeltaPut.l0_eq (N : Nat) (n : Nat) (x3 : ByteArray) (x16 : PV) (x17 : Int) (x18 : Int) (y0_0 : PV) (y0_1 : PV) (y0_2 : Bool) (y0_3 : PV) : impl_DeltaPut.l0 N (n + 1) x3 x16 x17 x18 y0_0 y0_1 y0_2 y0_3 = if decide (x18 < x17) = true then (if 0 ≤ x18 then (if x18 < (x16.items.length : Int) then ((impl_affixLine.f N [(PV.agg [(PV.sc (.string (((x16.elem x18.toNat).fld 0).toStr))), (PV.sc (.bool (((x16.elem x18.toNat).fld 1).toBool))), (PV.sc (.string (((x16.elem x18.toNat).fld 2).toStr))), (PV.sc (.string (((x16.elem x18.toNat).fld 3).toStr))), (PV.sc (.string (((x16.elem x18.toNat).fld 4).toStr)))])]).bind fun t2 => if x3.size + ((t2.headD default).toStr).size ≤ 9223372036854775807 then (impl_DeltaPut.l0 N n (x3 ++ ((t2.headD default).toStr)) x16 x17 (IntKind.i64.wrap (x18 + 1)) y0_0 y0_1 y0_2 y0_3) else none) else none) else none) else (impl_DeltaPut.l1 N N x3 y0_0 (y0_0.items.length : Int) 0 y0_0 y0_1 y0_2 y0_3) := by kernel_rfl
theorem impl_DeltaPut.l1_eq (N : Nat) (n : Nat) (x3 : ByteArray) (x28 : PV) (x29 : Int) (x30 : Int) (y0_0 : PV) (y0_1 : PV) (y0_2 : Bool) (y0_3 : PV) : impl_DeltaPut.l1 N (n + 1) x3 x28 x29 x30 y0_0 y0_1 y0_2 y0_3 = if decide (x30 < x29) = true then (if 0 ≤ x30 then (if x30 < (x28.items.length : Int) then (if (ByteArray.mk #[45]).size + ((x28.elem x30.toNat).toStr).size ≤ 9223372036854775807 then (if ((ByteArray.mk #[45]) ++ ((x28.elem x30.toNat).toStr)).size + (ByteArray.mk #[10]).size ≤ 9223372036854775807 then (if x3.size + (((ByteArray.mk #[45]) ++ ((x28.elem x30.toNat).toStr)) ++ (ByteArray.mk #[10])).size ≤ 9223372036854775807 then (impl_DeltaPut.l1 N n (x3 ++ (((ByteArray.mk #[45]) ++ ((x28.elem x30.toNat).toStr)) ++ (ByteArray.mk #[10]))) x28 x29 (IntKind.i64.wrap (x30 + 1)) y0_0 y0_1 y0_2 y0_3) else none) else none) else none) else none) else none) else (impl_DeltaPut.l2 N N x3 y0_1 (y0_1.items.length : Int) 0) := by kernel_rfl
theorem impl_DeltaPut.l2_eq (N : Nat) (n : Nat) (x3 : ByteArray) (x41 : PV) (x42 : Int) (x43 : Int) : impl_DeltaPut.l2 N (n + 1) x3 x41 x42 x43 = if decide (x43 < x42) = true then (if 0 ≤ x43 then (if x43 < (x41.items.length : Int) then ((impl_entryLine.f N [(PV.agg [(PV.sc (.string (((x41.elem x43.toNat).fld 0).toStr))), (PV.sc (.string (((x41.elem x43.toNat).fld 1).toStr)))])]).bind fun t3 => if (ByteArray.mk #[43]).size + ((t3.headD default).toStr).size ≤ 9223372036854775807 then (if x3.size + ((ByteArray.mk #[43]) ++ ((t3.headD default).toStr)).size ≤ 9223372036854775807 then (impl_DeltaPut.l2 N n (x3 ++ ((ByteArray.mk #[43]) ++ ((t3.headD default).toStr))) x41 x42 (IntKind.i64.wrap (x43 + 1))) else none) else none) else none) else none) else (some [(PV.sc (.string x3))]) := by kernel_rfl
noncomputable def impl_DeltaPut.S (N : Nat) : ASpec := ⟨[(35, .ro)], [(9, .val)], impl_DeltaPut.f N⟩
theorem impl_DeltaPut.ok (N : Nat) : FnOk Tryz.prog 117 (impl_DeltaPut.S N) := fnOk_of (E := impl_DeltaPut.E N) mix Tryz.func117 (by kernel_rfl) (by kernel_rfl) (by kernel_rfl) (lk_ok (all_cons (impl_DeltaOk.ok N) (all_cons (impl_affixLine.ok N) (all_cons (impl_entryLine.ok N) all_nil)))) (by kernel_rfl) (fun _ _ h => h)

/-! ### impl_Release_text: function 73, (loop.example/medlar/impl.Release).text -/
noncomputable def impl_Release_text.E (N : Nat) : Env := ⟨lk [(116, strconv_Itoa.S N), (117, impl_DeltaPut.S N)], nzk [], N, [], false⟩
noncomputable def impl_Release_text.f (N : Nat) (a : List PV) : Option Res := run Tryz.prog (impl_Release_text.E N) Tryz.f73 [(37, .ro)] [(9, .val)] a
theorem impl_Release_text.f_eq (N : Nat) (a0 : PV) : impl_Release_text.f N [a0] = (strconv_Itoa.f N [(PV.sc (.int .i64 ((a0.fld 0).toInt)))]).bind fun t1 => if (ByteArray.mk #[114, 101, 108, 101, 97, 115, 101, 32]).size + ((t1.headD default).toStr).size ≤ 9223372036854775807 then (if ((ByteArray.mk #[114, 101, 108, 101, 97, 115, 101, 32]) ++ ((t1.headD default).toStr)).size + (ByteArray.mk #[32]).size ≤ 9223372036854775807 then (if (((ByteArray.mk #[114, 101, 108, 101, 97, 115, 101, 32]) ++ ((t1.headD default).toStr)) ++ (ByteArray.mk #[32])).size + ((a0.fld 2).toStr).size ≤ 9223372036854775807 then (if ((((ByteArray.mk #[114, 101, 108, 101, 97, 115, 101, 32]) ++ ((t1.headD default).toStr)) ++ (ByteArray.mk #[32])) ++ ((a0.fld 2).toStr)).size + (ByteArray.mk #[10]).size ≤ 9223372036854775807 then ((impl_DeltaPut.f N [(PV.agg [(a0.fld 1).fld 0, (a0.fld 1).fld 1, (PV.sc (.bool (((a0.fld 1).fld 2).toBool))), (a0.fld 1).fld 3])]).bind fun t2 => if (((((ByteArray.mk #[114, 101, 108, 101, 97, 115, 101, 32]) ++ ((t1.headD default).toStr)) ++ (ByteArray.mk #[32])) ++ ((a0.fld 2).toStr)) ++ (ByteArray.mk #[10])).size + ((t2.headD default).toStr).size ≤ 9223372036854775807 then (some [(PV.sc (.string ((((((ByteArray.mk #[114, 101, 108, 101, 97, 115, 101, 32]) ++ ((t1.headD default).toStr)) ++ (ByteArray.mk #[32])) ++ ((a0.fld 2).toStr)) ++ (ByteArray.mk #[10])) ++ ((t2.headD default).toStr))))]) else none) else none) else none) else none) else none := by kernel_rfl
noncomputable def impl_Release_text.S (N : Nat) : ASpec := ⟨[(37, .ro)], [(9, .val)], impl_Release_text.f N⟩
theorem impl_Release_text.ok (N : Nat) : FnOk Tryz.prog 73 (impl_Release_text.S N) := fnOk_of (E := impl_Release_text.E N) mix Tryz.func73 (by kernel_rfl) (by kernel_rfl) (by kernel_rfl) (lk_ok (all_cons (strconv_Itoa.ok N) (all_cons (impl_DeltaPut.ok N) all_nil))) (by kernel_rfl) (fun _ _ h => h)

/-! ### impl_Release_wellFormed: function 71, (loop.example/medlar/impl.Release).wellFormed -/
noncomputable def impl_Release_wellFormed.E (N : Nat) : Env := ⟨lk [(41, impl_within.S N), (112, impl_DeltaOk.S N), (113, impl_digits.S N), (73, impl_Release_text.S N)], nzk [], N, [], false⟩
noncomputable def impl_Release_wellFormed.f (N : Nat) (a : List PV) : Option Res := run Tryz.prog (impl_Release_wellFormed.E N) Tryz.f71 [(37, .ro)] [(4, .val)] a
theorem impl_Release_wellFormed.f_eq (N : Nat) (a0 : PV) : impl_Release_wellFormed.f N [a0] = (impl_within.f N [(PV.sc (.int .i64 ((a0.fld 0).toInt))), (PV.sc (.int .i64 1)), (PV.sc (.int .i64 999999))]).bind fun t1 => if (t1.headD default).toBool = true then ((impl_DeltaOk.f N [(PV.agg [(a0.fld 1).fld 0, (a0.fld 1).fld 1, (PV.sc (.bool (((a0.fld 1).fld 2).toBool))), (a0.fld 1).fld 3])]).bind fun t2 => if (t2.headD default).toBool = true then ((impl_digits.f N [(PV.sc (.string ((a0.fld 2).toStr)))]).bind fun t3 => if (t3.headD default).toBool = true then ((impl_digits.f N [(PV.sc (.string ((a0.fld 3).toStr)))]).bind fun t4 => if (t4.headD default).toBool = true then ((impl_Release_text.f N [(PV.agg [(PV.sc (.int .i64 ((a0.fld 0).toInt))), (PV.agg [(a0.fld 1).fld 0, (a0.fld 1).fld 1, (PV.sc (.bool (((a0.fld 1).fld 2).toBool))), (a0.fld 1).fld 3]), (PV.sc (.string ((a0.fld 2).toStr))), (PV.sc (.string ((a0.fld 3).toStr)))])]).bind fun t5 => some [(PV.sc (.bool (decide ((((t5.headD default).toStr).size : Int) ≤ 1200))))]) else (some [(PV.sc (.bool false))])) else (some [(PV.sc (.bool false))])) else (some [(PV.sc (.bool false))])) else (some [(PV.sc (.bool false))]) := by kernel_rfl
noncomputable def impl_Release_wellFormed.S (N : Nat) : ASpec := ⟨[(37, .ro)], [(4, .val)], impl_Release_wellFormed.f N⟩
theorem impl_Release_wellFormed.ok (N : Nat) : FnOk Tryz.prog 71 (impl_Release_wellFormed.S N) := fnOk_of (E := impl_Release_wellFormed.E N) mix Tryz.func71 (by kernel_rfl) (by kernel_rfl) (by kernel_rfl) (lk_ok (all_cons (impl_within.ok N) (all_cons (impl_DeltaOk.ok N) (all_cons (impl_digits.ok N) (all_cons (impl_Release_text.ok N) all_nil))))) (by kernel_rfl) (fun _ _ h => h)

/-! ### impl_rolled: function 158, loop.example/medlar/impl.rolled -/
noncomputable def impl_rolled.E (N : Nat) : Env := ⟨lk [], nzk [], N, [], false⟩
noncomputable def impl_rolled.f (N : Nat) (a : List PV) : Option Res := run Tryz.prog (impl_rolled.E N) Tryz.f158 [(159, .ro), (3, .ro)] [(159, .val)] a
theorem impl_rolled.f_eq (N : Nat) (a0 : PV) (a1 : PV) : impl_rolled.f N [a0, a1] = if 0 ≤ a1.toInt then (if 0 ≤ (IntKind.i64.wrap (32 - a1.toInt)) then (some [(PV.sc (.int .u32 (bOr .u32 (shrI .u32 a0.toInt a1.toInt) (shlI .u32 a0.toInt (IntKind.i64.wrap (32 - a1.toInt))))))]) else none) else none := by kernel_rfl
noncomputable def impl_rolled.S (N : Nat) : ASpec := ⟨[(159, .ro), (3, .ro)], [(159, .val)], impl_rolled.f N⟩
theorem impl_rolled.ok (N : Nat) : FnOk Tryz.prog 158 (impl_rolled.S N) := fnOk_of (E := impl_rolled.E N) mix Tryz.func158 (by kernel_rfl) (by kernel_rfl) (by kernel_rfl) (lk_ok all_nil) (by kernel_rfl) (fun _ _ h => h)

/-! ### impl_sha256Of: function 133, loop.example/medlar/impl.sha256Of -/
noncomputable def impl_sha256Of.E (N : Nat) : Env := ⟨lk [(158, impl_rolled.S N)], nzk [(3, ⟨[1, 2, 5, 6, 7, 8, 9, 10, 11, 12, 13, 14, 15, 16, 17, 18, 19, 20, 21, 22, 23, 24, 25, 26, 27, 28, 29, 30, 31, 32, 33, 34, 35, 36, 37, 38, 39, 40, 41, 42, 43, 44, 45, 46, 47, 48, 49, 50, 51, 52, 53, 54, 55, 56, 57, 58, 59, 60, 61, 62, 63, 64, 65, 66, 67, 68, 69, 70, 71, 72, 73, 74, 75, 76, 77, 78, 79, 80, 81, 82, 83, 84, 85, 86, 87, 88, 89, 90, 91, 92, 93, 94, 95, 96, 97, 98, 99, 100, 101, 102, 103, 104, 105, 106, 107, 108, 109, 110, 111, 112, 113, 114, 115, 116, 117, 118, 119, 120, 121, 122, 123, 124, 125, 126, 127, 128, 129, 130, 131, 132, 133, 134, 135, 136, 137, 138, 139, 140, 141, 142, 143, 144, 145, 146, 147, 148, 149, 150, 151, 152, 153, 154, 155, 156, 157, 158, 159, 160, 161, 162, 163, 164, 165, 166, 167, 168, 169, 170, 171, 172, 173, 174, 175, 176, 177, 178, 179, 180, 181, 182, 183, 184, 185, 186, 187, 188, 189, 190, 191, 192, 193, 194, 195, 196, 197, 198, 199, 200, 201, 202, 203, 204, 205, 206, 207, 208, 209, 210, 211, 212, 213, 214, 215, 216, 217, 218, 219, 220, 221, 222, 223, 224, 225, 226, 227, 228, 229, 230, 231, 232, 233, 234, 235, 236, 237, 238, 239, 240, 241, 242, 243, 244, 245, 246], [(4, 61)], []⟩), (7, ⟨[0, 1, 2, 7, 8, 9, 10, 11, 12, 13, 14, 15, 16, 17, 18, 19, 20, 21, 22, 23, 24, 25, 26, 27, 28, 29, 30, 31, 32, 33, 34, 35, 36, 37, 38, 39, 40, 41, 42, 43, 44, 45, 46, 47, 48, 49, 50, 51, 52, 53, 54, 55, 56, 57, 58, 59, 60, 61, 62, 63, 64, 65, 66, 67, 68, 69, 70, 71, 72, 73, 74, 75, 76, 77, 78, 79, 80, 81, 82, 83, 84, 85, 86, 87, 88, 89, 90, 91, 92, 93, 94, 95, 96, 97, 98, 99, 100, 101, 102, 103, 104, 105, 106, 107, 108, 109, 110, 111, 112, 113, 114, 115, 116, 117, 118, 119, 120, 121, 122, 123, 124, 125, 126, 127, 128, 129, 130, 131, 132, 133, 134, 135, 136, 137, 138, 139, 140, 141, 142, 143, 144, 145, 146, 147, 148, 149, 150, 151, 152, 153, 154, 155, 156, 157, 158, 159, 160, 161, 162, 163, 164, 165, 166, 167, 168, 169, 170, 171, 172, 173, 174, 175, 176, 177, 178, 179, 180, 181, 182, 183, 184, 185, 186, 187, 188, 189, 190, 191, 192, 193, 194, 195, 196, 197, 198, 199, 200, 201, 202, 203, 204, 205, 206, 207, 208, 209, 210, 211, 212, 213, 214, 215, 216, 217, 218, 219, 220, 221, 222, 223, 224, 225, 226, 227, 228, 229, 230, 231, 232, 233, 234, 235, 236, 237, 238, 239, 240, 241, 242, 243, 244, 245, 246], [(4, 61)], []⟩), (10, ⟨[0, 1, 2, 5, 6, 7, 8, 9, 10, 11, 12, 13, 14, 15, 16, 17, 18, 19, 20, 21, 22, 23, 24, 25, 26, 27, 28, 29, 30, 31, 32, 33, 34, 35, 36, 37, 38, 39, 40, 41, 42, 43, 44, 45, 46, 47, 48, 49, 50, 51, 52, 53, 54, 55, 56, 57, 58, 59, 60, 61, 62, 63, 64, 65, 66, 67, 68, 69, 70, 71, 72, 73, 74, 75, 76, 77, 78, 79, 80, 81, 82, 83, 84, 85, 86, 87, 88, 89, 90, 91, 92, 93, 94, 95, 96, 97, 98, 99, 100, 101, 102, 103, 104, 105, 106, 107, 108, 109, 110, 111, 112, 113, 114, 115, 116, 117, 118, 119, 120, 121, 122, 123, 124, 125, 126, 127, 128, 129, 130, 131, 132, 133, 134, 135, 136, 137, 138, 139, 140, 141, 142, 143, 144, 145, 146, 147, 148, 149, 150, 151, 152, 153, 154, 155, 156, 157, 158, 159, 160, 161, 162, 163, 164, 165, 166, 167, 168, 169, 170, 171, 172, 173, 174, 175, 176, 177, 178, 179, 180, 181, 182, 183, 184, 185, 186, 187, 188, 189, 190, 191, 192, 193, 194, 195, 196, 197, 198, 199, 200, 201, 202, 203, 204, 205, 206, 207, 208, 209, 210, 211, 212, 213, 214, 215, 216, 217, 218, 219, 220, 221, 222, 223, 224, 225, 226, 227, 228, 229, 230, 231, 232, 233, 234, 235, 236, 237, 238, 239, 240, 241, 242, 243, 244, 245, 246], [(4, 61)], [(4, 61)]⟩), (14, ⟨[0, 1, 2, 5, 6, 8, 9, 10, 11, 12, 13, 14, 15, 16, 17, 18, 19, 20, 21, 22, 23, 24, 25, 26, 27, 28, 29, 30, 31, 32, 33, 34, 35, 36, 37, 38, 39, 40, 41, 42, 43, 44, 45, 46, 47, 48, 49, 50, 51, 52, 53, 55, 56, 57, 58, 59, 60, 61, 62, 63, 64, 65, 66, 67, 68, 69, 70, 71, 72, 73, 74, 75, 76, 77, 78, 79, 80, 81, 82, 83, 84, 85, 86, 87, 88, 89, 90, 91, 92, 93, 94, 95, 96, 97, 98, 99, 100, 101, 102, 103, 104, 105, 106, 107, 108, 109, 110, 111, 112, 113, 114, 115, 116, 117, 118, 119, 120, 121, 122, 123, 124, 125, 126, 127, 128, 129, 130, 131, 132, 133, 134, 135, 136, 137, 138, 139, 140, 141, 142, 143, 144, 145, 146, 147, 148, 149, 150, 151, 152, 153, 154, 155, 156, 157, 158, 159, 160, 161, 162, 163, 164, 165, 166, 167, 168, 169, 170, 171, 172, 173, 174, 175, 176, 177, 178, 179, 180, 181, 182, 183, 184, 185, 186, 187, 188, 189, 190, 191, 192, 193, 194, 195, 196, 197, 198, 199, 200, 201, 202, 203, 204, 205, 206, 207, 208, 209, 210, 211, 212, 213, 214, 215, 216, 217, 218, 219, 220, 221, 222, 223, 224, 225, 226, 227, 228, 229, 230, 231, 232, 233, 234, 235, 236, 237, 238, 239, 240, 241, 242, 243, 244, 245, 246], [(4, 61)], []⟩), (37, ⟨[0, 1, 2, 3, 4, 5, 6, 7, 8, 9, 10, 11, 12, 13, 14, 15, 16, 17, 19, 20, 21, 22, 23, 24, 25, 26, 27, 28, 29, 30, 31, 32, 33, 34, 35, 36, 37, 38, 39, 40, 41, 42, 43, 44, 45, 46, 47, 48, 49, 50, 51, 52, 53, 54, 55, 56, 57, 58, 59, 60, 61, 62, 63, 64, 65, 66, 67, 68, 69, 70, 71, 72, 73, 74, 75, 76, 77, 78, 79, 80, 81, 82, 83, 84, 85, 86, 87, 88, 89, 90, 91, 92, 93, 94, 95, 96, 97, 98, 99, 100, 101, 102, 103, 104, 105, 106, 107, 108, 109, 110, 111, 112, 113, 114, 115, 116, 117, 118, 119, 120, 121, 122, 123, 124, 125, 126, 127, 128, 129, 130, 131, 132, 133, 134, 135, 136, 137, 138, 139, 140, 141, 142, 143, 144, 145, 146, 147, 148, 149, 150, 151, 152, 153, 154, 155, 156, 157, 158, 159, 160, 161, 162, 163, 164, 165, 166, 167, 168, 169, 170, 171, 172, 173, 174, 175, 176, 177, 178, 179, 180, 181, 182, 183, 184, 185, 186, 187, 188, 189, 190, 191, 192, 193, 194, 195, 196, 197, 198, 199, 200, 201, 202, 203, 204, 205, 206, 207, 208, 209, 210, 211, 212, 213, 214, 215, 216, 217, 218, 219, 220, 221, 222, 223, 224, 225, 228, 229, 230, 231, 232, 233, 234, 235, 236, 237, 238, 239, 240, 241, 242, 243, 244, 245, 246], [(18, 61)], []⟩), (23, ⟨[0, 1, 2, 5, 6, 8, 9, 10, 12, 13, 14, 15, 16, 17, 18, 19, 20, 21, 22, 23, 24, 25, 26, 27, 28, 29, 30, 31, 32, 33, 34, 35, 36, 37, 38, 39, 40, 41, 42, 43, 44, 45, 46, 47, 48, 49, 50, 51, 52, 53, 54, 55, 56, 57, 58, 59, 60, 61, 62, 63, 64, 65, 66, 67, 68, 69, 70, 71, 72, 73, 74, 75, 76, 77, 78, 79, 80, 81, 82, 83, 84, 85, 86, 87, 88, 89, 90, 91, 92, 93, 94, 95, 96, 97, 98, 99, 100, 101, 102, 103, 104, 105, 106, 107, 108, 109, 110, 111, 112, 113, 114, 115, 116, 117, 118, 119, 120, 121, 122, 123, 124, 125, 126, 127, 128, 129, 130, 131, 132, 134, 135, 136, 137, 138, 139, 140, 141, 142, 143, 144, 145, 146, 147, 148, 149, 150, 151, 152, 153, 154, 155, 156, 157, 158, 159, 160, 161, 162, 163, 164, 165, 166, 167, 168, 169, 170, 171, 172, 173, 174, 175, 176, 177, 178, 179, 180, 181, 182, 183, 184, 185, 186, 187, 188, 189, 190, 191, 192, 193, 194, 195, 196, 197, 198, 199, 200, 201, 202, 203, 204, 205, 206, 207, 208, 209, 210, 211, 212, 213, 214, 215, 216, 217, 218, 219, 220, 221, 222, 223, 224, 225, 226, 227, 228, 229, 230, 231, 232, 233, 234, 235, 236, 237, 238, 239, 240, 241, 242, 243, 244, 245, 246], [(4, 61)], []⟩), (31, ⟨[0, 1, 2, 5, 6, 7, 8, 9, 10, 12, 13, 14, 15, 16, 17, 18, 19, 20, 21, 22, 23, 24, 25, 26, 27, 28, 29, 30, 31, 32, 33, 34, 35, 36, 37, 38, 39, 40, 41, 42, 43, 44, 45, 46, 47, 48, 49, 50, 51, 52, 53, 54, 55, 56, 57, 58, 59, 60, 61, 62, 63, 64, 65, 66, 67, 68, 69, 70, 71, 72, 73, 74, 75, 76, 77, 78, 79, 80, 81, 82, 83, 84, 85, 86, 87, 88, 89, 90, 91, 92, 93, 94, 95, 96, 97, 98, 99, 100, 101, 102, 103, 104, 105, 106, 107, 108, 109, 110, 111, 112, 113, 114, 115, 116, 117, 118, 119, 120, 121, 122, 123, 124, 125, 126, 127, 128, 129, 130, 131, 132, 133, 134, 135, 136, 137, 138, 139, 140, 141, 142, 143, 144, 145, 146, 147, 148, 149, 150, 151, 152, 153, 154, 155, 156, 157, 158, 159, 160, 161, 162, 163, 164, 165, 166, 167, 168, 169, 170, 171, 172, 173, 174, 175, 176, 177, 178, 179, 180, 181, 182, 183, 184, 185, 186, 187, 188, 189, 190, 191, 192, 193, 194, 195, 196, 197, 198, 199, 200, 201, 202, 203, 204, 205, 206, 207, 208, 209, 210, 211, 212, 214, 215, 216, 217, 218, 219, 220, 221, 222, 223, 224, 225, 226, 227, 228, 229, 230, 231, 232, 233, 234, 235, 236, 237, 238, 239, 240, 241, 242, 243, 244, 245, 246], [(4, 61)], []⟩)], N, [], true⟩
noncomputable def impl_sha256Of.f (N : Nat) (a : List PV) : Option Res := run Tryz.prog (impl_sha256Of.E N) Tryz.f133 [(9, .ro)] [(9, .val)] a
noncomputable def impl_sha256Of.l0 (N : Nat) (n : Nat) (x0 : ByteArray) (y0 : PV) (y1 : List PV) : Option Res := loopAt Tryz.prog (impl_sha256Of.E N) Tryz.f133 [(9, .val)] [1, 1, 1, 0, 0] [] n ⟨mkSlots 247 [(0, .sc (.string x0)), (3, .ptr 0 []), (4, .ref 1 [])], ohOf [.box 166 (.arr 166 .u32 y0), .row 61 (PV.list y1)]⟩
noncomputable def impl_sha256Of.l1 (N : Nat) (n : Nat) (x5 : Int) (x6 : Int) (y0 : PV) (y1 : List PV) : Option Res := loopAt Tryz.prog (impl_sha256Of.E N) Tryz.f133 [(9, .val)] [1, 1, 1, 1, 1, 0, 1, 0] [] n ⟨mkSlots 247 [(3, .ptr 0 []), (4, .ref 1 []), (5, .sc (.int .u64 x5)), (6, .sc (.int .i64 x6))], ohOf [.box 166 (.arr 166 .u32 y0), .row 61 (PV.list y1)]⟩
noncomputable def impl_sha256Of.l2 (N : Nat) (n : Nat) (x4 : List PV) (y0 : PV) : Option Res := loopAt Tryz.prog (impl_sha256Of.E N) Tryz.f133 [(9, .val)] [1, 1, 1, 1, 1, 1, 0, 0] [] n ⟨mkSlots 247 [(3, .ptr 0 []), (4, .ro 61 (PV.list x4))], ohOf [.box 166 (.arr 166 .u32 y0)]⟩
noncomputable def impl_sha256Of.l3 (N : Nat) (m0 : Nat) (n : Nat) (x4 : List PV) (x54 : Int) (y0 : PV) (y1 : PV) : Option Res := loopAt Tryz.prog (impl_sha256Of.E N) Tryz.f133 [(9, .val)] [1, 1, 1, 1, 1, 1, 0, 0, 0, 1, 0, 0, 1, 0, 1, 0] [m0] n ⟨mkSlots 247 [(3, .ptr 0 []), (4, .ro 61 (PV.list x4)), (7, .ptr 1 []), (54, .sc (.int .i64 x54))], ohOf [.box 166 (.arr 166 .u32 y0), .box 168 (.arr 168 .u32 y1)]⟩
noncomputable def impl_sha256Of.l4 (N : Nat) (n : Nat) (x226 : PV) (x227 : Int) (y0 : List PV) : Option Res := loopAt Tryz.prog (impl_sha256Of.E N) Tryz.f133 [(9, .val)] [1, 1, 1, 1, 1, 1, 1, 1, 0, 1, 0] [] n ⟨mkSlots 247 [(18, .ref 0 []), (226, .arr 166 .u32 x226), (227, .sc (.int .i64 x227))], ohOf [.row 61 (PV.list y0)]⟩
noncomputable def impl_sha256Of.l5 (N : Nat) (m0 : Nat) (n : Nat) (x4 : List PV) (x133 : Int) (y0 : PV) (y1 : PV) (y2 : PV) : Option Res := loopAt Tryz.prog (impl_sha256Of.E N) Tryz.f133 [(9, .val)] [1, 1, 1, 1, 1, 1, 0, 0, 0, 1, 0, 0, 1, 1, 1, 0, 1, 0] [m0] n ⟨mkSlots 247 [(3, .ptr 0 []), (4, .ro 61 (PV.list x4)), (7, .ptr 1 []), (11, .ptr 2 []), (133, .sc (.int .i64 x133))], ohOf [.box 166 (.arr 166 .u32 y0), .box 168 (.arr 168 .u32 y1), .box 166 (.arr 166 .u32 y2)]⟩
noncomputable def impl_sha256Of.l6 (N : Nat) (m0 : Nat) (n : Nat) (x4 : List PV) (x213 : Int) (y0 : PV) (y1 : PV) : Option Res := loopAt Tryz.prog (impl_sha256Of.E N) Tryz.f133 [(9, .val)] [1, 1, 1, 1, 1, 1, 0, 0, 0, 1, 0, 0, 1, 1, 1, 1, 1, 0] [m0] n ⟨mkSlots 247 [(3, .ptr 0 []), (4, .ro 61 (PV.list x4)), (11, .ptr 1 []), (213, .sc (.int .i64 x213))], ohOf [.box 166 (.arr 166 .u32 y0), .box 166 (.arr 166 .u32 y1)]⟩
theorem impl_sha256Of.f_eq (N : Nat) (a0 : PV) : impl_sha256Of.f N [a0] = if a0.toStr.size ≤ 9223372036854775807 then (if (bytesL a0.toStr).length + [(PV.sc (.int .u8 128))].length ≤ 140737488355328 then (impl_sha256Of.l0 N N a0.toStr (PV.agg [(PV.sc (.int .u32 1779033703)), (PV.sc (.int .u32 3144134277)), (PV.sc (.int .u32 1013904242)), (PV.sc (.int .u32 2773480762)), (PV.sc (.int .u32 1359893119)), (PV.sc (.int .u32 2600822924)), (PV.sc (.int .u32 528734635)), (PV.sc (.int .u32 1541459225))]) ((bytesL a0.toStr) ++ [(PV.sc (.int .u8 128))])) else none) else none := by kernel_rfl
theorem impl_sha256Of.l0_eq (N : Nat) (n : Nat) (x0 : ByteArray) (y0 : PV) (y1 : List PV) : impl_sha256Of.l0 N (n + 1) x0 y0 y1 = if 64 = 0 then none else (if (!decide ((Int.tmod (y1.length : Int) 64) = 56)) = true then (if y1.length + [(PV.sc (.int .u8 0))].length ≤ 140737488355328 then (impl_sha256Of.l0 N n x0 y0 (y1 ++ [(PV.sc (.int .u8 0))])) else none) else (impl_sha256Of.l1 N N (IntKind.u64.wrap ((IntKind.u64.wrap (x0.size : Int)) * 8)) 56 y0 y1)) := by kernel_rfl
theorem impl_sha256Of.l1_eq (N : Nat) (n : Nat) (x5 : Int) (x6 : Int) (y0 : PV) (y1 : List PV) : impl_sha256Of.l1 N (n + 1) x5 x6 y0 y1 = if decide (0 ≤ x6) = true then (if 0 ≤ x6 then (if y1.length + [(PV.sc (.int .u8 (IntKind.u8.wrap (shrI .u64 x5 x6))))].length ≤ 140737488355328 then (impl_sha256Of.l1 N n x5 (IntKind.i64.wrap (x6 - 8)) y0 (y1 ++ [(PV.sc (.int .u8 (IntKind.u8.wrap (shrI .u64 x5 x6))))])) else none) else none) else (impl_sha256Of.l2 N N y1 y0) := by kernel_rfl
theorem impl_sha256Of.l2_eq (N : Nat) (n : Nat) (x4 : List PV) (y0 : PV) : impl_sha256Of.l2 N (n + 1) x4 y0 = if decide (0 < (x4.length : Int)) = true then (impl_sha256Of.l3 N n N x4 0 y0 (PV.agg (List.replicate 64 (.sc (.int .u32 0))))) else (impl_sha256Of.l4 N N y0 0 []) := by kernel_rfl
theorem impl_sha256Of.l3_eq (N : Nat) (m0 : Nat) (n : Nat) (x4 : List PV) (x54 : Int) (y0 : PV) (y1 : PV) : impl_sha256Of.l3 N m0 (n + 1) x4 x54 y0 y1 = if decide (x54 < 64) = true then (if decide (x54 < 16) = true then (if 0 ≤ (IntKind.i64.wrap (4 * x54)) then (if (IntKind.i64.wrap (4 * x54)) < (x4.length : Int) then (if 0 ≤ 24 then (if 0 ≤ (IntKind.i64.wrap ((IntKind.i64.wrap (4 * x54)) + 1)) then (if (IntKind.i64.wrap ((IntKind.i64.wrap (4 * x54)) + 1)) < (x4.length : Int) then (if 0 ≤ 16 then (if 0 ≤ (IntKind.i64.wrap ((IntKind.i64.wrap (4 * x54)) + 2)) then (if (IntKind.i64.wrap ((IntKind.i64.wrap (4 * x54)) + 2)) < (x4.length : Int) then (if 0 ≤ 8 then (if 0 ≤ (IntKind.i64.wrap ((IntKind.i64.wrap (4 * x54)) + 3)) then (if (IntKind.i64.wrap ((IntKind.i64.wrap (4 * x54)) + 3)) < (x4.length : Int) then (if 0 ≤ x54 then (if x54 < ((64 : Nat) : Int) then (impl_sha256Of.l3 N m0 n x4 (IntKind.i64.wrap (x54 + 1)) y0 (PV.agg (y1.parts.set x54.toNat (PV.sc (.int .u32 (bOr .u32 (bOr .u32 (bOr .u32 (shlI .u32 (IntKind.u32.wrap (((PV.list x4).elem ((IntKind.i64.wrap (4 * x54)).toNat)).toInt)) 24) (shlI .u32 (IntKind.u32.wrap (((PV.list x4).elem ((IntKind.i64.wrap ((IntKind.i64.wrap (4 * x54)) + 1)).toNat)).toInt)) 16)) (shlI .u32 (IntKind.u32.wrap (((PV.list x4).elem ((IntKind.i64.wrap ((IntKind.i64.wrap (4 * x54)) + 2)).toNat)).toInt)) 8)) (IntKind.u32.wrap (((PV.list x4).elem ((IntKind.i64.wrap ((IntKind.i64.wrap (4 * x54)) + 3)).toNat)).toInt)))))))) else none) else none) else none) else none) else none) else none) else none) else none) else none) else none) else none) else none) else none) else (if 0 ≤ (IntKind.i64.wrap (x54 - 15)) then (if (IntKind.i64.wrap (x54 - 15)) < ((64 : Nat) : Int) then (if 0 ≤ (IntKind.i64.wrap (x54 - 2)) then (if (IntKind.i64.wrap (x54 - 2)) < ((64 : Nat) : Int) then (if 0 ≤ (IntKind.i64.wrap (x54 - 16)) then (if (IntKind.i64.wrap (x54 - 16)) < ((64 : Nat) : Int) then (if 0 ≤ (IntKind.i64.wrap (x54 - 7)) then (if (IntKind.i64.wrap (x54 - 7)) < ((64 : Nat) : Int) then ((impl_rolled.f N [(PV.sc (.int .u32 ((y1.fld ((IntKind.i64.wrap (x54 - 15)).toNat)).toInt))), (PV.sc (.int .i64 7))]).bind fun t1 => (impl_rolled.f N [(PV.sc (.int .u32 ((y1.fld ((IntKind.i64.wrap (x54 - 15)).toNat)).toInt))), (PV.sc (.int .i64 18))]).bind fun t2 => if 0 ≤ 3 then ((impl_rolled.f N [(PV.sc (.int .u32 ((y1.fld ((IntKind.i64.wrap (x54 - 2)).toNat)).toInt))), (PV.sc (.int .i64 17))]).bind fun t3 => (impl_rolled.f N [(PV.sc (.int .u32 ((y1.fld ((IntKind.i64.wrap (x54 - 2)).toNat)).toInt))), (PV.sc (.int .i64 19))]).bind fun t4 => if 0 ≤ 10 then (if 0 ≤ x54 then (if x54 < ((64 : Nat) : Int) then (impl_sha256Of.l3 N m0 n x4 (IntKind.i64.wrap (x54 + 1)) y0 (PV.agg (y1.parts.set x54.toNat (PV.sc (.int .u32 (IntKind.u32.wrap ((IntKind.u32.wrap ((IntKind.u32.wrap (((y1.fld ((IntKind.i64.wrap (x54 - 16)).toNat)).toInt) + ((y1.fld ((IntKind.i64.wrap (x54 - 7)).toNat)).toInt))) + (bXor .u32 (bXor .u32 ((t1.headD default).toInt) ((t2.headD default).toInt)) (shrI .u32 ((y1.fld ((IntKind.i64.wrap (x54 - 15)).toNat)).toInt) 3)))) + (bXor .u32 (bXor .u32 ((t3.headD default).toInt) ((t4.headD default).toInt)) (shrI .u32 ((y1.fld ((IntKind.i64.wrap (x54 - 2)).toNat)).toInt) 10))))))))) else none) else none) else none) else none) else none) else none) else none) else none) else none) else none) else none) else none)) else (impl_sha256Of.l5 N m0 N x4 0 y0 y1 y0) := by kernel_rfl
theorem impl_sha256Of.l4_eq (N : Nat) (n : Nat) (x226 : PV) (x227 : Int) (y0 : List PV) : impl_sha256Of.l4 N (n + 1) x226 x227 y0 = if decide (x227 < 8) = true then (if 0 ≤ x227 then (if x227 < ((8 : Nat) : Int) then (if 0 ≤ 24 then (if 0 ≤ 16 then (if 0 ≤ 8 then (if y0.length + [(PV.sc (.int .u8 (IntKind.u8.wrap (shrI .u32 ((x226.fld x227.toNat).toInt) 24)))), (PV.sc (.int .u8 (IntKind.u8.wrap (shrI .u32 ((x226.fld x227.toNat).toInt) 16)))), (PV.sc (.int .u8 (IntKind.u8.wrap (shrI .u32 ((x226.fld x227.toNat).toInt) 8)))), (PV.sc (.int .u8 (IntKind.u8.wrap ((x226.fld x227.toNat).toInt))))].length ≤ 140737488355328 then (impl_sha256Of.l4 N n x226 (IntKind.i64.wrap (x227 + 1)) (y0 ++ [(PV.sc (.int .u8 (IntKind.u8.wrap (shrI .u32 ((x226.fld x227.toNat).toInt) 24)))), (PV.sc (.int .u8 (IntKind.u8.wrap (shrI .u32 ((x226.fld x227.toNat).toInt) 16)))), (PV.sc (.int .u8 (IntKind.u8.wrap (shrI .u32 ((x226.fld x227.toNat).toInt) 8)))), (PV.sc (.int .u8 (IntKind.u8.wrap ((x226.fld x227.toNat).toInt))))])) else none) else none) else none) else none) else none) else none) else (some [(PV.sc (.string (bytesOfL y0)))]) := by kernel_rfl
theorem impl_sha256Of.l5_eq (N : Nat) (m0 : Nat) (n : Nat) (x4 : List PV) (x133 : Int) (y0 : PV) (y1 : PV) (y2 : PV) : impl_sha256Of.l5 N m0 (n + 1) x4 x133 y0 y1 y2 = if decide (x133 < 64) = true then (if 0 ≤ 4 then (if 4 < ((8 : Nat) : Int) then (if 0 ≤ 0 then (if 0 < ((8 : Nat) : Int) then (if 0 ≤ 7 then (if 7 < ((8 : Nat) : Int) then ((impl_rolled.f N [(PV.sc (.int .u32 ((y2.fld 4).toInt))), (PV.sc (.int .i64 6))]).bind fun t5 => (impl_rolled.f N [(PV.sc (.int .u32 ((y2.fld 4).toInt))), (PV.sc (.int .i64 11))]).bind fun t6 => (impl_rolled.f N [(PV.sc (.int .u32 ((y2.fld 4).toInt))), (PV.sc (.int .i64 25))]).bind fun t7 => if 0 ≤ 5 then (if 5 < ((8 : Nat) : Int) then (if 0 ≤ 6 then (if 6 < ((8 : Nat) : Int) then (if 0 ≤ x133 then (if x133 < ((64 : Nat) : Int) then (if 0 ≤ x133 then (if x133 < ((64 : Nat) : Int) then ((impl_rolled.f N [(PV.sc (.int .u32 ((y2.fld 0).toInt))), (PV.sc (.int .i64 2))]).bind fun t8 => (impl_rolled.f N [(PV.sc (.int .u32 ((y2.fld 0).toInt))), (PV.sc (.int .i64 13))]).bind fun t9 => (impl_rolled.f N [(PV.sc (.int .u32 ((y2.fld 0).toInt))), (PV.sc (.int .i64 22))]).bind fun t10 => if 0 ≤ 1 then (if 1 < ((8 : Nat) : Int) then (if 0 ≤ 2 then (if 2 < ((8 : Nat) : Int) then (if 0 ≤ 1 then (if 1 < ((8 : Nat) : Int) then (if 0 ≤ 2 then (if 2 < ((8 : Nat) : Int) then (if 0 ≤ 1 then (if 1 < ((8 : Nat) : Int) then (if 0 ≤ 2 then (if 2 < ((8 : Nat) : Int) then (if 0 ≤ 3 then (if 3 < ((8 : Nat) : Int) then (if 0 ≤ 5 then (if 5 < ((8 : Nat) : Int) then (if 0 ≤ 6 then (if 6 < ((8 : Nat) : Int) then (impl_sha256Of.l5 N m0 n x4 (IntKind.i64.wrap (x133 + 1)) y0 y1 (PV.agg [(PV.sc (.int .u32 (IntKind.u32.wrap ((IntKind.u32.wrap ((IntKind.u32.wrap ((IntKind.u32.wrap ((IntKind.u32.wrap (((y2.fld 7).toInt) + (bXor .u32 (bXor .u32 ((t5.headD default).toInt) ((t6.headD default).toInt)) ((t7.headD default).toInt)))) + (bXor .u32 (bAnd .u32 ((y2.fld 4).toInt) ((y2.fld 5).toInt)) (bAnd .u32 (bXor .u32 4294967295 ((y2.fld 4).toInt)) ((y2.fld 6).toInt))))) + ((shaStepP.fld x133.toNat).toInt))) + ((y1.fld x133.toNat).toInt))) + (IntKind.u32.wrap ((bXor .u32 (bXor .u32 ((t8.headD default).toInt) ((t9.headD default).toInt)) ((t10.headD default).toInt)) + (bXor .u32 (bXor .u32 (bAnd .u32 ((y2.fld 0).toInt) ((y2.fld 1).toInt)) (bAnd .u32 ((y2.fld 0).toInt) ((y2.fld 2).toInt))) (bAnd .u32 ((y2.fld 1).toInt) ((y2.fld 2).toInt))))))))), (PV.sc (.int .u32 ((y2.fld 0).toInt))), (PV.sc (.int .u32 ((y2.fld 1).toInt))), (PV.sc (.int .u32 ((y2.fld 2).toInt))), (PV.sc (.int .u32 (IntKind.u32.wrap (((y2.fld 3).toInt) + (IntKind.u32.wrap ((IntKind.u32.wrap ((IntKind.u32.wrap ((IntKind.u32.wrap (((y2.fld 7).toInt) + (bXor .u32 (bXor .u32 ((t5.headD default).toInt) ((t6.headD default).toInt)) ((t7.headD default).toInt)))) + (bXor .u32 (bAnd .u32 ((y2.fld 4).toInt) ((y2.fld 5).toInt)) (bAnd .u32 (bXor .u32 4294967295 ((y2.fld 4).toInt)) ((y2.fld 6).toInt))))) + ((shaStepP.fld x133.toNat).toInt))) + ((y1.fld x133.toNat).toInt))))))), (PV.sc (.int .u32 ((y2.fld 4).toInt))), (PV.sc (.int .u32 ((y2.fld 5).toInt))), (PV.sc (.int .u32 ((y2.fld 6).toInt)))])) else none) else none) else none) else none) else none) else none) else none) else none) else none) else none) else none) else none) else none) else none) else none) else none) else none) else none) else none) else none) else none) else none) else none) else none) else none) else none) else none) else none) else none) else none) else none) else none) else (impl_sha256Of.l6 N m0 N x4 0 y0 y2) := by kernel_rfl
theorem impl_sha256Of.l6_eq (N : Nat) (m0 : Nat) (n : Nat) (x4 : List PV) (x213 : Int) (y0 : PV) (y1 : PV) : impl_sha256Of.l6 N m0 (n + 1) x4 x213 y0 y1 = if decide (x213 < 8) = true then (if 0 ≤ x213 then (if x213 < ((8 : Nat) : Int) then (if 0 ≤ x213 then (if x213 < ((8 : Nat) : Int) then (if 0 ≤ x213 then (if x213 < ((8 : Nat) : Int) then (impl_sha256Of.l6 N m0 n x4 (IntKind.i64.wrap (x213 + 1)) (PV.agg (y0.parts.set x213.toNat (PV.sc (.int .u32 (IntKind.u32.wrap (((y0.fld x213.toNat).toInt) + ((y1.fld x213.toNat).toInt))))))) y1) else none) else none) else none) else none) else none) else none) else (if 0 ≤ 64 then (if 64 ≤ (x4.length : Int) then (impl_sha256Of.l2 N m0 ((x4.drop 64).take (x4.length - 64)) y0) else none) else none) := by kernel_rfl
noncomputable def impl_sha256Of.S (N : Nat) : ASpec := ⟨[(9, .ro)], [(9, .val)], impl_sha256Of.f N⟩
theorem impl_sha256Of.ok (N : Nat) : FnOk Tryz.prog 133 (impl_sha256Of.S N) := fnOk_ofz (E := impl_sha256Of.E N) mix Tryz.func133 (by kernel_rfl) (by kernel_rfl) (by kernel_rfl) (lk_ok (all_cons (impl_rolled.ok N) all_nil)) (by kernel_rfl) (fun _ _ h => h)

end Go.Proofs.YtjfigkikhmffpaaGreatDoor.FnExactRingDo
