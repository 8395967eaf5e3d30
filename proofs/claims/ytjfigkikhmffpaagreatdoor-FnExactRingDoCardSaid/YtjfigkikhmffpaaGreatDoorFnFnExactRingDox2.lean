/- What each function that the law FnExactRingDo reaches computes, as trees, part 2: no conditions. -/
import Derived.Test.YtjfigkikhmffpaaGreatDoorLib471112
import Derived.Test.YtjfigkikhmffpaaGreatDoorProg
import Derived.BigCall
import Derived.Deep.RegionHeld3
import Derived.Lib.SliceRun
import Derived.Lib.Small
import Derived.Lib.Walk
import Derived.Shelf.SlSortCmp.NoneTotal
import Derived.Shelf.SlicesQ.IndexFunc
import Derived.WalkKit
import Derived.Test.YtjfigkikhmffpaaGreatDoorFnFnExactRingDox1
set_option maxRecDepth 100000
set_option linter.unusedVariables false
namespace Go.Proofs.YtjfigkikhmffpaaGreatDoor.FnExactRingDo
open Go Go.Proofs.YtjfigkikhmffpaaGreatDoorAm
/-! ### impl_hmacOf: function 115, loop.example/medlar/impl.hmacOf -/
noncomputable def impl_hmacOf.E (N : Nat) : Env := ⟨lk [(133, impl_sha256Of.S N)], nzk [(7, ⟨[0, 2, 3, 4, 7, 8, 9, 10, 11, 12, 13, 14, 15, 16, 17, 18, 19, 20, 21, 24, 25, 26, 27, 28, 29, 30, 31, 32, 33, 34, 35, 36, 37, 38, 39, 40, 41, 42, 43, 44, 45, 46, 47], [], []⟩)], N, [], false⟩
noncomputable def impl_hmacOf.f (N : Nat) (a : List PV) : Option Res := run Tryz.prog (impl_hmacOf.E N) Tryz.f115 [(9, .ro), (9, .ro)] [(9, .val)] a
noncomputable def impl_hmacOf.l0 (N : Nat) (n : Nat) (x1 : ByteArray) (x22 : Int) (x23 : Int) (y0 : List PV) (y1 : List PV) : Option Res := loopAt Tryz.prog (impl_hmacOf.E N) Tryz.f115 [(9, .val)] [1, 1, 1, 1, 1, 0, 1, 0] [] n ⟨mkSlots 48 [(1, .sc (.string x1)), (5, .ref 0 []), (6, .ref 1 []), (22, .sc (.int .i64 x22)), (23, .sc (.int .i64 x23))], ohOf [.row 61 (PV.list y0), .row 61 (PV.list y1)]⟩
theorem impl_hmacOf.f_eq (N : Nat) (a0 : PV) (a1 : PV) : impl_hmacOf.f N [a0, a1] = if decide (64 < (a0.toStr.size : Int)) = true then ((impl_sha256Of.f N [(PV.sc (.string a0.toStr))]).bind fun t1 => if 0 ≤ 64 then (if 64 ≤ 64 then (if 64 ≤ 281474976710656 then (if 0 ≤ 64 then (if 64 ≤ 64 then (if 64 ≤ 281474976710656 then (impl_hmacOf.l0 N N a1.toStr (((bytesL ((t1.headD default).toStr)).take (List.replicate 64 (PV.sc (.int .u8 0))).length ++ (List.replicate 64 (PV.sc (.int .u8 0))).drop ((t1.headD default).toStr).size).length : Int) 0 ((bytesL ((t1.headD default).toStr)).take (List.replicate 64 (PV.sc (.int .u8 0))).length ++ (List.replicate 64 (PV.sc (.int .u8 0))).drop ((t1.headD default).toStr).size) ((bytesL ((t1.headD default).toStr)).take (List.replicate 64 (PV.sc (.int .u8 0))).length ++ (List.replicate 64 (PV.sc (.int .u8 0))).drop ((t1.headD default).toStr).size)) else none) else none) else none) else none) else none) else none) else (if 0 ≤ 64 then (if 64 ≤ 64 then (if 64 ≤ 281474976710656 then (if 0 ≤ 64 then (if 64 ≤ 64 then (if 64 ≤ 281474976710656 then (impl_hmacOf.l0 N N a1.toStr (((bytesL a0.toStr).take (List.replicate 64 (PV.sc (.int .u8 0))).length ++ (List.replicate 64 (PV.sc (.int .u8 0))).drop a0.toStr.size).length : Int) 0 ((bytesL a0.toStr).take (List.replicate 64 (PV.sc (.int .u8 0))).length ++ (List.replicate 64 (PV.sc (.int .u8 0))).drop a0.toStr.size) ((bytesL a0.toStr).take (List.replicate 64 (PV.sc (.int .u8 0))).length ++ (List.replicate 64 (PV.sc (.int .u8 0))).drop a0.toStr.size)) else none) else none) else none) else none) else none) else none) := by kernel_rfl
theorem impl_hmacOf.l0_eq (N : Nat) (n : Nat) (x1 : ByteArray) (x22 : Int) (x23 : Int) (y0 : List PV) (y1 : List PV) : impl_hmacOf.l0 N (n + 1) x1 x22 x23 y0 y1 = if decide (x23 < x22) = true then (if 0 ≤ x23 then (if x23 < (y0.length : Int) then (if 0 ≤ x23 then (if x23 < (y0.length : Int) then (if 0 ≤ x23 then (if x23 < (y1.length : Int) then (if 0 ≤ x23 then (if x23 < (y1.length : Int) then (impl_hmacOf.l0 N n x1 x22 (IntKind.i64.wrap (x23 + 1)) (y0.set x23.toNat (PV.sc (.int .u8 (bXor .u8 (((PV.list y0).elem x23.toNat).toInt) 54)))) (y1.set x23.toNat (PV.sc (.int .u8 (bXor .u8 (((PV.list y1).elem x23.toNat).toInt) 92))))) else none) else none) else none) else none) else none) else none) else none) else none) else (if (bytesOfL y0).size + x1.size ≤ 9223372036854775807 then ((impl_sha256Of.f N [(PV.sc (.string ((bytesOfL y0) ++ x1)))]).bind fun t2 => if (bytesOfL y1).size + ((t2.headD default).toStr).size ≤ 9223372036854775807 then ((impl_sha256Of.f N [(PV.sc (.string ((bytesOfL y1) ++ ((t2.headD default).toStr))))]).bind fun t3 => some [(PV.sc (.string ((t3.headD default).toStr)))]) else none) else none) := by kernel_rfl
noncomputable def impl_hmacOf.S (N : Nat) : ASpec := ⟨[(9, .ro), (9, .ro)], [(9, .val)], impl_hmacOf.f N⟩
theorem impl_hmacOf.ok (N : Nat) : FnOk Tryz.prog 115 (impl_hmacOf.S N) := fnOk_of (E := impl_hmacOf.E N) mix Tryz.func115 (by kernel_rfl) (by kernel_rfl) (by kernel_rfl) (lk_ok (all_cons (impl_sha256Of.ok N) all_nil)) (by kernel_rfl) (fun _ _ h => h)

/-! ### impl_hexOf: function 114, loop.example/medlar/impl.hexOf -/
noncomputable def impl_hexOf.E (N : Nat) : Env := ⟨lk [], nzk [(3, ⟨[1, 2, 5, 6, 7, 8, 9, 10, 11, 12, 13, 14, 15, 16, 17, 18, 19, 20, 21, 22, 23, 24, 25, 26], [(3, 61)], []⟩)], N, [], false⟩
noncomputable def impl_hexOf.f (N : Nat) (a : List PV) : Option Res := run Tryz.prog (impl_hexOf.E N) Tryz.f114 [(9, .ro)] [(9, .val)] a
noncomputable def impl_hexOf.l0 (N : Nat) (n : Nat) (x0 : ByteArray) (x4 : Int) (y0 : List PV) : Option Res := loopAt Tryz.prog (impl_hexOf.E N) Tryz.f114 [(9, .val)] [1, 1, 0, 1, 0] [] n ⟨mkSlots 27 [(0, .sc (.string x0)), (3, .ref 0 []), (4, .sc (.int .i64 x4))], ohOf [.row 61 (PV.list y0)]⟩
theorem impl_hexOf.f_eq (N : Nat) (a0 : PV) : impl_hexOf.f N [a0] = impl_hexOf.l0 N N a0.toStr 0 [] := by kernel_rfl
theorem impl_hexOf.l0_eq (N : Nat) (n : Nat) (x0 : ByteArray) (x4 : Int) (y0 : List PV) : impl_hexOf.l0 N (n + 1) x0 x4 y0 = if decide (x4 < (x0.size : Int)) = true then (if 0 ≤ x4 then (if x4 < (x0.size : Int) then (if 16 = 0 then none else (if 0 ≤ (IntKind.u8.wrap (Int.tdiv ((x0.get! x4.toNat).toNat : Int) 16)) then (if (IntKind.u8.wrap (Int.tdiv ((x0.get! x4.toNat).toNat : Int) 16)) < ((ByteArray.mk #[48, 49, 50, 51, 52, 53, 54, 55, 56, 57, 97, 98, 99, 100, 101, 102]).size : Int) then (if 0 ≤ x4 then (if x4 < (x0.size : Int) then (if 16 = 0 then none else (if 0 ≤ (Int.tmod ((x0.get! x4.toNat).toNat : Int) 16) then (if (Int.tmod ((x0.get! x4.toNat).toNat : Int) 16) < ((ByteArray.mk #[48, 49, 50, 51, 52, 53, 54, 55, 56, 57, 97, 98, 99, 100, 101, 102]).size : Int) then (if y0.length + ([(PV.sc (.int .u8 (((ByteArray.mk #[48, 49, 50, 51, 52, 53, 54, 55, 56, 57, 97, 98, 99, 100, 101, 102]).get! (IntKind.u8.wrap (Int.tdiv ((x0.get! x4.toNat).toNat : Int) 16)).toNat).toNat : Int))), (PV.sc (.int .u8 (((ByteArray.mk #[48, 49, 50, 51, 52, 53, 54, 55, 56, 57, 97, 98, 99, 100, 101, 102]).get! (Int.tmod ((x0.get! x4.toNat).toNat : Int) 16).toNat).toNat : Int)))]).length ≤ 140737488355328 then (impl_hexOf.l0 N n x0 (IntKind.i64.wrap (x4 + 1)) (y0 ++ ([(PV.sc (.int .u8 (((ByteArray.mk #[48, 49, 50, 51, 52, 53, 54, 55, 56, 57, 97, 98, 99, 100, 101, 102]).get! (IntKind.u8.wrap (Int.tdiv ((x0.get! x4.toNat).toNat : Int) 16)).toNat).toNat : Int))), (PV.sc (.int .u8 (((ByteArray.mk #[48, 49, 50, 51, 52, 53, 54, 55, 56, 57, 97, 98, 99, 100, 101, 102]).get! (Int.tmod ((x0.get! x4.toNat).toNat : Int) 16).toNat).toNat : Int)))]))) else none) else none) else none)) else none) else none) else none) else none)) else none) else none) else (some [(PV.sc (.string (bytesOfL y0)))]) := by kernel_rfl
noncomputable def impl_hexOf.S (N : Nat) : ASpec := ⟨[(9, .ro)], [(9, .val)], impl_hexOf.f N⟩
theorem impl_hexOf.ok (N : Nat) : FnOk Tryz.prog 114 (impl_hexOf.S N) := fnOk_of (E := impl_hexOf.E N) mix Tryz.func114 (by kernel_rfl) (by kernel_rfl) (by kernel_rfl) (lk_ok all_nil) (by kernel_rfl) (fun _ _ h => h)

/-! ### impl_SealOf: function 72, loop.example/medlar/impl.SealOf -/
noncomputable def impl_SealOf.E (N : Nat) : Env := ⟨lk [(70, impl_keyOk.S N), (115, impl_hmacOf.S N), (114, impl_hexOf.S N)], nzk [], N, [], false⟩
noncomputable def impl_SealOf.f (N : Nat) (a : List PV) : Option Res := run Tryz.prog (impl_SealOf.E N) Tryz.f72 [(9, .ro), (9, .ro)] [(9, .val)] a
theorem impl_SealOf.f_eq (N : Nat) (a0 : PV) (a1 : PV) : impl_SealOf.f N [a0, a1] = (impl_keyOk.f N [(PV.sc (.string a0.toStr))]).bind fun t1 => if (!((t1.headD default).toBool)) = true then (some [(PV.sc (.string (ByteArray.mk #[])))]) else ((impl_hmacOf.f N [(PV.sc (.string a0.toStr)), (PV.sc (.string a1.toStr))]).bind fun t2 => (impl_hexOf.f N [(PV.sc (.string ((t2.headD default).toStr)))]).bind fun t3 => some [(PV.sc (.string ((t3.headD default).toStr)))]) := by kernel_rfl
noncomputable def impl_SealOf.S (N : Nat) : ASpec := ⟨[(9, .ro), (9, .ro)], [(9, .val)], impl_SealOf.f N⟩
theorem impl_SealOf.ok (N : Nat) : FnOk Tryz.prog 72 (impl_SealOf.S N) := fnOk_of (E := impl_SealOf.E N) mix Tryz.func72 (by kernel_rfl) (by kernel_rfl) (by kernel_rfl) (lk_ok (all_cons (impl_keyOk.ok N) (all_cons (impl_hmacOf.ok N) (all_cons (impl_hexOf.ok N) all_nil)))) (by kernel_rfl) (fun _ _ h => h)

/-! ### impl_ReleaseOk: function 27, loop.example/medlar/impl.ReleaseOk -/
noncomputable def impl_ReleaseOk.E (N : Nat) : Env := ⟨lk [(70, impl_keyOk.S N), (71, impl_Release_wellFormed.S N), (73, impl_Release_text.S N), (72, impl_SealOf.S N)], nzk [], N, [], false⟩
noncomputable def impl_ReleaseOk.f (N : Nat) (a : List PV) : Option Res := run Tryz.prog (impl_ReleaseOk.E N) Tryz.f27 [(9, .ro), (37, .ro)] [(4, .val)] a
theorem impl_ReleaseOk.f_eq (N : Nat) (a0 : PV) (a1 : PV) : impl_ReleaseOk.f N [a0, a1] = (impl_keyOk.f N [(PV.sc (.string a0.toStr))]).bind fun t1 => if (t1.headD default).toBool = true then ((impl_Release_wellFormed.f N [(PV.agg [(PV.sc (.int .i64 ((a1.fld 0).toInt))), (PV.agg [(a1.fld 1).fld 0, (a1.fld 1).fld 1, (PV.sc (.bool (((a1.fld 1).fld 2).toBool))), (a1.fld 1).fld 3]), (PV.sc (.string ((a1.fld 2).toStr))), (PV.sc (.string ((a1.fld 3).toStr)))])]).bind fun t2 => if (t2.headD default).toBool = true then ((impl_Release_text.f N [(PV.agg [(PV.sc (.int .i64 ((a1.fld 0).toInt))), (PV.agg [(a1.fld 1).fld 0, (a1.fld 1).fld 1, (PV.sc (.bool (((a1.fld 1).fld 2).toBool))), (a1.fld 1).fld 3]), (PV.sc (.string ((a1.fld 2).toStr))), (PV.sc (.string ((a1.fld 3).toStr)))])]).bind fun t3 => (impl_SealOf.f N [(PV.sc (.string a0.toStr)), (PV.sc (.string ((t3.headD default).toStr)))]).bind fun t4 => some [(PV.sc (.bool (decide (((a1.fld 3).toStr).toList = ((t4.headD default).toStr).toList))))]) else (some [(PV.sc (.bool false))])) else (some [(PV.sc (.bool false))]) := by kernel_rfl
noncomputable def impl_ReleaseOk.S (N : Nat) : ASpec := ⟨[(9, .ro), (37, .ro)], [(4, .val)], impl_ReleaseOk.f N⟩
theorem impl_ReleaseOk.ok (N : Nat) : FnOk Tryz.prog 27 (impl_ReleaseOk.S N) := fnOk_of (E := impl_ReleaseOk.E N) mix Tryz.func27 (by kernel_rfl) (by kernel_rfl) (by kernel_rfl) (lk_ok (all_cons (impl_keyOk.ok N) (all_cons (impl_Release_wellFormed.ok N) (all_cons (impl_Release_text.ok N) (all_cons (impl_SealOf.ok N) all_nil))))) (by kernel_rfl) (fun _ _ h => h)

/-! ### slices_SortFunc_impl_Entry: function 167, slices.SortFunc[[]loop.example/medlar/impl.Entry,loop.example/medlar/impl.Entry], walked by hand -/
section
open Go.RowKit Go.Proofs Go.Sort
def cmpB (x y : ByteArray) : Int := if Op.bytesLess x.toList y.toList then -1 else if (Op.bytesLess x.toList y.toList || x.toList == y.toList) then 0 else 1
def cmpE (a b : ByteArray × ByteArray) : Int := cmpB a.1 b.1
theorem nanS (x : ByteArray) (w : World) : Calls Tryz.prog 190 #[.string x] w fun e w' => e = .returned (.bool false) ∧ w' = w := by
  go_enter Tryz.func190, Tryz.ntmps190
  go_wp2
  go_ret
  exact ⟨by simp, rfl⟩
theorem run_gtr (x y : ByteArray) (w : World) : Sem.run Tryz.prog (Go.binOp BinOp.gtr 9 (.string x) (.string y)) w = .ok (.bool !(Op.bytesLess x.toList y.toList || x.toList == y.toList)) w := rfl
theorem cmpS (x y : ByteArray) (r : Int) (hr : cmpB x y = r) (w : World) : Calls Tryz.prog 169 #[.string x, .string y] w fun e w' => e = .returned (.int .i64 r) ∧ w' = w := by
  go_enter Tryz.func169, Tryz.ntmps169
  go_wp2_with (go_at_call 190; refine (nanS _ _).mono ?_; rintro e w' ⟨rfl, hw⟩; rw [hw])
  · go_ret
    rename_i h
    subst hr
    exact ⟨by simp [cmpB, h], rfl⟩
  · have h : Op.bytesLess x.toList y.toList = false := by assumption
    rw [run_gtr]
    cases h2 : (x.toList == y.toList)
    · go_wp2
      all_goals (go_ret; subst hr)
      all_goals first | exact ⟨by simp [cmpB, h, h2], rfl⟩ | (simp_all; done)
    · go_wp2
      all_goals (go_ret; subst hr)
      all_goals first | exact ⟨by simp [cmpB, h, h2], rfl⟩ | (simp_all; done)
/-- Draws and blocks behind a world. -/
def More (w w' : World) : Prop := ∃ q os, w' = grow (w.drewN q) os
theorem More.refl (w : World) : More w w := ⟨0, #[], by rw [grow_empty]; rfl⟩
theorem More.drew {w w' : World} (h : More w w') : More w w'.drew := by
  obtain ⟨q, os, rfl⟩ := h; exact ⟨q + 1, os, rfl⟩
theorem More.alloc {w w' : World} (o : Obj) (h : More w w') : More w (w'.alloc o) := by
  obtain ⟨q, os, rfl⟩ := h; exact ⟨q, os ++ #[o], by rw [alloc_eq_grow, grow_grow]⟩
theorem order (a b x y : ByteArray) (w : World) : Calls Tryz.prog 168 #[.agg #[.string a, .string x], .agg #[.string b, .string y]] w fun e w' => e = .returned (.int .i64 (cmpE (a, x) (b, y))) ∧ More w w' := by
  have cS := fun W => cmpS a b _ rfl W
  unfold cmpE
  dsimp only
  generalize cmpB a b = r2 at cS ⊢
  go_enter Tryz.func168, Tryz.ntmps168
  go_wp2_with (go_at_call 169; refine (cS _).mono ?_; rintro e W3 ⟨rfl, rfl⟩)
  go_ret
  exact ⟨rfl, ((More.refl w).alloc _).alloc _⟩
section
open Go.Shelf
def laysSE_ren : Go.Shelf.Ren := ⟨fun | 6 => 167 | 15 => 189 | 14 => 188 | 28 => 209 | 29 => 210 | 20 => 201 | 21 => 202 | 22 => 203 | 23 => 204 | 24 => 205 | 25 => 206 | 26 => 207 | 27 => 208 | 46 => 220 | 47 => 221 | 48 => 222 | 49 => 223 | 50 => 224 | 57 => 231 | n => n, fun | 22 => 32 | 24 => 99 | 25 => 174 | 3 => 3 | 39 => 163 | 0 => 0 | 53 => 159 | 55 => 167 | 4 => 4 | 46 => 207 | 45 => 206 | 50 => 136 | 5 => 5 | 9 => 9 | 66 => 221 | 70 => 225 | 76 => 233 | 77 => 234 | n => n, fun | n => n⟩
theorem laysSE : Go.Proofs.SlLaysF0.n6 Tryz.prog laysSE_ren := {
  mixed := by kernel_rfl
  f6 := ⟨Tryz.f167.name, by decide, Tryz.func167.trans (congrArg some (by kernel_rfl))⟩
  f14 := ⟨Tryz.f188.name, by decide, Tryz.func188.trans (congrArg some (by kernel_rfl))⟩
  f15 := Tryz.func189.trans (congrArg some (by kernel_rfl))
  f20 := ⟨Tryz.f201.name, by decide, Tryz.func201.trans (congrArg some (by kernel_rfl))⟩
  f21 := ⟨Tryz.f202.name, by decide, Tryz.func202.trans (congrArg some (by kernel_rfl))⟩
  f22 := ⟨Tryz.f203.name, by decide, Tryz.func203.trans (congrArg some (by kernel_rfl))⟩
  f23 := ⟨Tryz.f204.name, by decide, Tryz.func204.trans (congrArg some (by kernel_rfl))⟩
  f24 := ⟨Tryz.f205.name, by decide, Tryz.func205.trans (congrArg some (by kernel_rfl))⟩
  f25 := ⟨Tryz.f206.name, by decide, Tryz.func206.trans (congrArg some (by kernel_rfl))⟩
  f26 := ⟨Tryz.f207.name, by decide, Tryz.func207.trans (congrArg some (by kernel_rfl))⟩
  f27 := ⟨Tryz.f208.name, by decide, Tryz.func208.trans (congrArg some (by kernel_rfl))⟩
  f28 := Tryz.func209.trans (congrArg some (by kernel_rfl))
  f29 := Tryz.func210.trans (congrArg some (by kernel_rfl))
  f46 := ⟨Tryz.f220.name, by decide, Tryz.func220.trans (congrArg some (by kernel_rfl))⟩
  f47 := Tryz.func221.trans (congrArg some (by kernel_rfl))
  f48 := Tryz.func222.trans (congrArg some (by kernel_rfl))
  f49 := ⟨Tryz.f223.name, by decide, Tryz.func223.trans (congrArg some (by kernel_rfl))⟩
  f50 := ⟨Tryz.f224.name, by decide, Tryz.func224.trans (congrArg some (by kernel_rfl))⟩
  f57 := ⟨Tryz.f231.name, by decide, Tryz.func231.trans (congrArg some (by kernel_rfl))⟩
  t0 := Tryz.underlying0
  a0 := Tryz.isAgg0
  z0 := Tryz.sizeOf0
  v0 := Tryz.zeroValue0
  t3 := Tryz.underlying3
  a3 := Tryz.isAgg3
  z3 := Tryz.sizeOf3
  v3 := Tryz.zeroValue3
  t4 := Tryz.underlying4
  a4 := Tryz.isAgg4
  z4 := Tryz.sizeOf4
  v4 := Tryz.zeroValue4
  t5 := Tryz.underlying5
  a5 := Tryz.isAgg5
  z5 := Tryz.sizeOf5
  v5 := Tryz.zeroValue5
  t9 := Tryz.underlying9
  a9 := Tryz.isAgg9
  z9 := Tryz.sizeOf9
  v9 := Tryz.zeroValue9
  t22 := Tryz.underlying32
  a22 := Tryz.isAgg32
  z22 := Tryz.sizeOf32
  v22 := Tryz.zeroValue32
  t25 := Tryz.underlying174
  a25 := Tryz.isAgg174
  z25 := Tryz.sizeOf174
  v25 := Tryz.zeroValue174
  t39 := Tryz.underlying163
  a39 := Tryz.isAgg163
  z39 := Tryz.sizeOf163
  v39 := Tryz.zeroValue163
  t45 := Tryz.underlying206
  a45 := Tryz.isAgg206
  z45 := Tryz.sizeOf206
  v45 := Tryz.zeroValue206
  t46 := Tryz.underlying207
  a46 := Tryz.isAgg207
  z46 := Tryz.sizeOf207
  v46 := Tryz.zeroValue207
  t50 := Tryz.underlying136
  a50 := Tryz.isAgg136
  z50 := Tryz.sizeOf136
  v50 := Tryz.zeroValue136
  t53 := Tryz.underlying159
  a53 := Tryz.isAgg159
  z53 := Tryz.sizeOf159
  v53 := Tryz.zeroValue159
  t55 := Tryz.underlying167
  a55 := Tryz.isAgg167
  z55 := Tryz.sizeOf167
  v55 := Tryz.zeroValue167
  t66 := Tryz.underlying221
  a66 := Tryz.isAgg221
  z66 := Tryz.sizeOf221
  v66 := Tryz.zeroValue221
  t70 := Tryz.underlying225
  a70 := Tryz.isAgg225
  z70 := Tryz.sizeOf225
  v70 := Tryz.zeroValue225
  t76 := Tryz.underlying233
  a76 := Tryz.isAgg233
  z76 := Tryz.sizeOf233
  v76 := Tryz.zeroValue233
  t77 := Tryz.underlying234
  a77 := Tryz.isAgg234
  z77 := Tryz.sizeOf234
  v77 := Tryz.zeroValue234 }

end
def ent3P (g : ByteArray × ByteArray) : PV := .agg [strP g.1, strP g.2]
def toEnt3 (p : PV) : ByteArray × ByteArray := ((p.fld 0).toStr, (p.fld 1).toStr)
theorem toEnt3_ent3P (g : ByteArray × ByteArray) : toEnt3 (ent3P g) = g := rfl
def encS (g : ByteArray × ByteArray) : List Value := [.string g.1, .string g.2]
def sortE (l : List (ByteArray × ByteArray)) : List (ByteArray × ByteArray) := l.mergeSort fun x y => !(ltOf cmpE) y x
theorem sortE_len (l : List (ByteArray × ByteArray)) : (sortE l).length = l.length := by simp [sortE]
def isFn (g : Nat) : Value → Bool
  | .func (.func h) a b => decide (h = g ∧ a = #[] ∧ b = #[])
  | _ => false
theorem isFn_eq {g : Nat} {v : Value} (h : isFn g v = true) : v = .func (.func g) #[] #[] := by
  unfold isFn at h
  split at h
  · simp at h; simp [h]
  · cases h
noncomputable def slices_SortFunc_impl_Entry.f (N : Nat) (a : List PV) : Option (List PV) := match a with
  | [.list ps, .sc v] => if isFn 168 v = true ∧ ps.length < 4611686018427387904 ∧ ((ps.map toEnt3).map Prod.fst).Nodup then some [.list ((sortE (ps.map toEnt3)).map ent3P)] else none
  | _ => none
noncomputable def slices_SortFunc_impl_Entry.S (N : Nat) : ASpec := ⟨[(32, .mut), (119, .ro)], [], slices_SortFunc_impl_Entry.f N⟩
/-! the order -/
theorem str_tri (a b : ByteArray) : (a.toList < b.toList ∨ a.toList = b.toList) ∨ b.toList < a.toList := by
  by_cases h : a.toList < b.toList
  · exact .inl (.inl h)
  · by_cases h2 : b.toList < a.toList
    · exact .inr h2
    · exact .inl (.inr (Std.le_antisymm (Std.not_lt.1 h2) (Std.not_lt.1 h)))
theorem inj_of_nodup : ∀ {l : List (ByteArray × ByteArray)}, (l.map Prod.fst).Nodup → ∀ {a b : ByteArray × ByteArray}, a ∈ l → b ∈ l → a.1 = b.1 → a = b
  | [], _, _, _, h, _, _ => by cases h
  | x :: l, hn, a, b, ha, hb, he => by
    rw [List.map_cons, List.nodup_cons] at hn
    rcases List.mem_cons.1 ha with h1 | h1 <;> rcases List.mem_cons.1 hb with h2 | h2
    · rw [h1, h2]
    · exact absurd (show x.1 ∈ l.map Prod.fst by rw [← h1, he]; exact List.mem_map_of_mem h2) hn.1
    · exact absurd (show x.1 ∈ l.map Prod.fst by rw [← h2, ← he]; exact List.mem_map_of_mem h1) hn.1
    · exact inj_of_nodup hn.2 h1 h2 he
theorem lt_cmpE (a b : ByteArray × ByteArray) : ltOf cmpE a b = decide (a.1.toList < b.1.toList) := by
  unfold ltOf cmpE cmpB
  rw [Go.Proofs.bytesLess_eq]
  by_cases h4 : a.1.toList < b.1.toList
  · simp [h4]
  · have hn : ¬ b.1.toList < b.1.toList := Std.lt_irrefl
    by_cases h5 : a.1.toList = b.1.toList <;> simp [h4, h5, hn]
theorem swoE : SWO (ltOf cmpE) where
  irrefl x := by rw [lt_cmpE]; simp [Std.lt_irrefl]
  trans x y z h1 h2 := by
    rw [lt_cmpE] at *
    simp only [decide_eq_true_eq] at *
    exact Std.lt_trans h1 h2
  ntrans x y z h1 h2 := by
    rw [lt_cmpE] at *
    simp only [decide_eq_false_iff_not] at *
    exact Std.not_lt.2 (Std.le_trans (Std.not_lt.1 h2) (Std.not_lt.1 h1))
theorem key_eq {a b : ByteArray} (h1 : ¬ a.toList < b.toList) (h2 : ¬ b.toList < a.toList) : a = b := by
  have h5 : a.toList = b.toList := by rcases str_tri a b with (h | h) | h <;> first | exact absurd h h1 | exact absurd h h2 | exact h
  rw [ByteArray.toList_eq, ByteArray.toList_eq] at h5
  exact ByteArray.ext (Array.ext' h5)
/-- Of different keys there is one order. -/
theorem sortE_of {l d : List (ByteArray × ByteArray)} (hn : (l.map Prod.fst).Nodup) (hp : l.Perm d) (hs : d.Pairwise fun x y => (!(ltOf cmpE) y x) = true) : d = sortE l := by
  have hm : (sortE l).Pairwise fun x y => (!(ltOf cmpE) y x) = true := by
    refine List.pairwise_mergeSort ?_ ?_ l
    · intro a b c h1 h2
      simp only [Bool.not_eq_true'] at *
      exact swoE.ntrans c b a h2 h1
    · intro a b
      rw [lt_cmpE, lt_cmpE]
      by_cases h : b.1.toList < a.1.toList
      · have := Std.not_lt.2 (Std.le_of_lt h)
        simp [h, this]
      · simp [h]
  refine List.Perm.eq_of_pairwise (le := fun x y => (!(ltOf cmpE) y x) = true) ?_ hs hm ((hp.symm).trans (List.mergeSort_perm l _).symm)
  intro a b ha hb h1 h2
  rw [lt_cmpE] at h1 h2
  simp only [Bool.not_eq_true', decide_eq_false_iff_not] at h1 h2
  have hk : a.1 = b.1 := key_eq h2 h1
  have ha' : a ∈ l := hp.symm.subset ha
  have hb' : b ∈ l := (List.mergeSort_perm l _).subset hb
  exact inj_of_nodup hn ha' hb' hk
theorem sort_facts {ns : List (ByteArray × ByteArray)} {d' : Array (ByteArray × ByteArray)} (hP : PermIn 0 ns.toArray.size ns.toArray d') (hSo : SortedIn (ltOf cmpE) 0 ns.toArray.size d') : ns.Perm d'.toList ∧ d'.toList.Pairwise fun x y => (!(ltOf cmpE) y x) = true := by
  obtain ⟨hsz, _, hperm⟩ := hP
  have e1 : d'.extract 0 ns.toArray.size = d' := by rw [← hsz]; exact Array.extract_size
  rw [e1, Array.extract_size] at hperm
  refine ⟨hperm.symm, ?_⟩
  rw [List.pairwise_iff_getElem]
  intro i j hi hj hij
  have hi' : i < d'.size := by simpa using hi
  have hj' : j < d'.size := by simpa using hj
  have := hSo i j (Nat.zero_le _) hij (by omega)
  rw [getElem!_pos d' i hi', getElem!_pos d' j hj'] at this
  simpa using this
/-! rows of entries -/
theorem flat_len : ∀ ns : List (ByteArray × ByteArray), (ns.flatMap encS).length = ns.length * 2
  | [] => rfl
  | x :: ns => by rw [List.flatMap_cons, List.length_append, flat_len ns, List.length_cons]; simp [encS]; omega
theorem flat_get : ∀ (ns : List (ByteArray × ByteArray)) (k : Nat), k < ns.length * 2 → (ns.flatMap encS)[k]? = some ((encS ns[k / 2]!)[k % 2]!)
  | [], k, h => by simp at h
  | x :: ns, 0, h => rfl
  | x :: ns, 1, h => rfl
  | x :: ns, k + 2, h => by
    have h' : k < ns.length * 2 := by simp at h; omega
    have e1 : (k + 2) / 2 = k / 2 + 1 := by omega
    have e2 : (k + 2) % 2 = k % 2 := by omega
    rw [e1, e2, List.flatMap_cons]
    show (Value.string x.1 :: Value.string x.2 :: ns.flatMap encS)[k + 2]? = _
    simpa using flat_get ns k h'
theorem flatK_list (ns : List (ByteArray × ByteArray)) : (flatK encS 2 ns.toArray).toList = ns.flatMap encS := by
  apply List.ext_getElem?
  intro k
  by_cases hk : k < ns.length * 2
  · rw [flat_get ns k hk]
    have := get_flatK encS 2 ns.toArray k (by simpa using hk)
    have hs : k < (flatK encS 2 ns.toArray).size := by simpa using hk
    rw [getElem!_pos _ k hs] at this
    rw [Array.getElem?_toList, Array.getElem?_eq_getElem hs, this]
    simp
  · rw [List.getElem?_eq_none (l := ns.flatMap encS) (by rw [flat_len]; omega), List.getElem?_eq_none (by simp; omega)]
section
variable {w : World} {n : Nat}
theorem entry_seq : ∀ {ps : List PV} {xs : List Value} {F : List Nat}, OwSeq (Ow Tryz.prog w n 99) 2 ps xs F → ∃ ns : List (ByteArray × ByteArray), ps = ns.map ent3P ∧ xs = ns.flatMap encS ∧ F = []
  | [], xs, F, h => ⟨[], rfl, h.1, h.2⟩
  | p :: ps, xs, F, ⟨c, cs', k, F', h1, h2, h3, h4, h5⟩ => by
    obtain ⟨ns, e1, e2, e3⟩ := entry_seq h5
    cases n with
    | zero => exact h4.elim
    | succ n =>
      unfold Ow at h4
      have t35 : tk Tryz.prog 99 = .struct [9, 9] := by kernel_rfl
      simp only [t35] at h4
      obtain ⟨ps', rfl, h6⟩ := h4
      match ps', h6 with
      | [q1, q2], h6 =>
        obtain ⟨c1, c1', f1, f1', rfl, rfl, h7, c2, c2', f2, f2', rfl, rfl, h8, rfl, rfl⟩ := h6
        cases n with
        | zero => exact h7.elim
        | succ n =>
          have t9 : tk Tryz.prog 9 = .str := by kernel_rfl
          unfold Ow at h7 h8
          simp only [t9] at h7 h8
          obtain ⟨⟨s, rfl, rfl⟩, rfl⟩ := h7
          obtain ⟨⟨x, rfl, rfl⟩, rfl⟩ := h8
          exact ⟨(s, x) :: ns, by simp [e1, ent3P, strP], by simp [h1, e2, encS], by simp [h3, e3]⟩
      | [], h6 => exact h6.elim
      | [_], h6 => obtain ⟨_, _, _, _, _, _, _, h6⟩ := h6; exact h6.elim
      | _ :: _ :: _ :: _, h6 => obtain ⟨_, _, _, _, _, _, _, _, _, _, _, _, _, _, h6⟩ := h6; exact h6.elim
theorem entry_seq_of : ∀ ns : List (ByteArray × ByteArray), OwSeq (Ow Tryz.prog w 2 99) 2 (ns.map ent3P) (ns.flatMap encS) []
  | [] => ⟨rfl, rfl⟩
  | x :: ns => ⟨encS x, ns.flatMap encS, [], [], rfl, rfl, rfl, by
      have t35 : tk Tryz.prog 99 = .struct [9, 9] := by kernel_rfl
      have t9 : tk Tryz.prog 9 = .str := by kernel_rfl
      unfold Ow
      simp only [t35]
      refine ⟨_, rfl, [.string x.1], [.string x.2], [], [], rfl, rfl, ?_, [.string x.2], [], [], [], rfl, rfl, ?_, rfl, rfl⟩
      · unfold Ow; simp only [t9]; exact ⟨⟨x.1, rfl, rfl⟩, trivial⟩
      · unfold Ow; simp only [t9]; exact ⟨⟨x.2, rfl, rfl⟩, trivial⟩, entry_seq_of ns⟩
theorem ow_entry {p : PV} {v : Value} {F : List Nat} (h : Ow Tryz.prog w n 32 p [v] F) : ∃ ns : List (ByteArray × ByteArray), p = .list (ns.map ent3P) ∧ F = v.ownBlock.toList ∧
    ((v = .slice none 0 0 ∧ ns = []) ∨ ∃ g cap cur fz, v = .slice (some ⟨g, 0, none⟩) ns.length cap ∧ F = [g] ∧ FzOk cur.size fz ∧ w.heap[g]? = some (.cells cur 99 fz) ∧ ns.length ≤ cap ∧ cap ≤ maxLen ∧ cur.size = cap * 2 ∧ cur.toList.take (ns.length * 2) = ns.flatMap encS) := by
  cases n with
  | zero => exact h.elim
  | succ n =>
    have ht : tk Tryz.prog 32 = .slice 99 := by kernel_rfl
    unfold Ow at h
    simp only [ht] at h
    obtain ⟨v', xs, ps, F', hv, rfl, h1, h2, h3⟩ := h
    simp at hv; subst hv
    have hs : YtjfigkikhmffpaaGreatDoorAm.sizeOf Tryz.prog 99 = 2 := by kernel_rfl
    rw [hs] at h1 h3
    obtain ⟨ns, rfl, rfl, rfl⟩ := entry_seq h3
    refine ⟨ns, rfl, by rw [h2, List.append_nil], ?_⟩
    rcases h1.2 with ⟨rfl, h0⟩ | ⟨g, cap, cur, fz, rfl, h4, h5, h6, h7, h8, h9⟩
    · exact .inl ⟨rfl, List.eq_nil_of_length_eq_zero (by simpa using h0)⟩
    · refine .inr ⟨g, cap, cur, fz, by simp, by rw [h2]; rfl, h4, h5, by simpa using h6, h7, h8, by simpa using h9⟩
theorem ow_entry_of {g cap : Nat} {cur : Array Value} {fz : Nat × Nat} {ns : List (ByteArray × ByteArray)} (h4 : FzOk cur.size fz) (h5 : w.heap[g]? = some (.cells cur 99 fz)) (h6 : ns.length ≤ cap) (h7 : cap ≤ maxLen) (h8 : cur.size = cap * 2) (h9 : cur.toList.take (ns.length * 2) = ns.flatMap encS) :
    Ow Tryz.prog w 3 32 (.list (ns.map ent3P)) [.slice (some ⟨g, 0, none⟩) ns.length cap] [g] := by
  have ht : tk Tryz.prog 32 = .slice 99 := by kernel_rfl
  have hs : YtjfigkikhmffpaaGreatDoorAm.sizeOf Tryz.prog 99 = 2 := by kernel_rfl
  unfold Ow
  simp only [ht]
  refine ⟨_, ns.flatMap encS, ns.map ent3P, [], rfl, rfl, ⟨by rw [hs]; simpa using flat_len ns, .inr ⟨g, cap, cur, fz, by simp, h4, h5, by simpa using h6, h7, by rw [hs, h8], by rw [hs]; simpa using h9⟩⟩, rfl, ?_⟩
  rw [hs]
  exact entry_seq_of ns
theorem holds_entry {g : Nat} {cur : Array Value} {fz : Nat × Nat} {ns : List (ByteArray × ByteArray)} (h4 : FzOk cur.size fz) (h5 : w.heap[g]? = some (.cells cur 99 fz)) (h6 : ns.length * 2 ≤ cur.size) (h9 : cur.toList.take (ns.length * 2) = ns.flatMap encS) :
    HoldsK encS 2 w g 0 ns.toArray := by
  intro j hj
  have hj' : j < ns.length * 2 := by simpa using hj
  have hc : cur[j]? = some ((encS ns[j / 2]!)[j % 2]!) := by
    have : (cur.toList.take (ns.length * 2))[j]? = some ((encS ns[j / 2]!)[j % 2]!) := by rw [h9]; exact flat_get ns j hj'
    rw [List.getElem?_take, if_pos hj'] at this
    simpa using this
  refine ⟨?_, ?_⟩
  · simp only [World.cell?, h5, Nat.zero_add]
    rw [hc]
    have := get_flatK encS 2 ns.toArray j (by simpa using hj')
    rw [this]
    simp
  · simp only [World.frozen?, h5, Nat.zero_add]
    rcases h4 with rfl | h4
    · simp
    · have : ¬ fz.1 ≤ j := by omega
      simp [this]
theorem putK_take {cur : Array Value} (ns : List (ByteArray × ByteArray)) (hl : ns.length * 2 ≤ cur.size) : (Sort.putCells id 0 (flatK encS 2 ns.toArray) cur).toList.take (ns.length * 2) = ns.flatMap encS := by
  apply List.ext_getElem?
  intro k
  rw [List.getElem?_take]
  by_cases hk : k < ns.length * 2
  · have hk2 : k < cur.size := by omega
    have hs : k < (flatK encS 2 ns.toArray).size := by simpa using hk
    rw [if_pos hk, flat_get ns k hk]
    have := get_flatK encS 2 ns.toArray k (by simpa using hk)
    have e : ns.toArray[k / 2]! = ns[k / 2]! := by simp
    rw [e] at this
    simp only [Sort.putCells, Array.getElem?_toList, Array.getElem?_mapIdx, Array.getElem?_eq_getElem hk2, Option.map_some, Nat.zero_le, true_and, Nat.zero_add, Nat.sub_zero, if_pos hs, this, id]
  · rw [if_neg hk, List.getElem?_eq_none (by rw [flat_len]; omega)]
end
theorem slices_SortFunc_impl_Entry.ok (N : Nat) : FnOk Tryz.prog 167 (slices_SortFunc_impl_Entry.S N) := by
  refine ⟨⟨_, Tryz.func167, by kernel_rfl, by kernel_rfl⟩, fun w ok vs ps F L outs hglb ha hnd hok hd => ?_⟩
  match vs, ps, ha with
  | [v, u], [p, q], ha =>
    obtain ⟨r, L', rfl, ⟨hb, hrt⟩, rfl, _, ⟨n, how⟩, hq, rfl, rfl⟩ := ha
    obtain ⟨ns, rfl, hF, hcase⟩ := ow_entry how
    obtain ⟨m, cs, hr, hu⟩ := hq
    cases m with
    | zero => exact hr.elim
    | succ m =>
    have t80 : tk Tryz.prog 119 = .other := by kernel_rfl
    unfold YtjfigkikhmffpaaGreatDoorAm.Rd at hr
    simp only [t80] at hr
    obtain ⟨v, rfl, rfl, -⟩ := hr
    rw [valOf_one (fun fs => by rw [t80]; simp)] at hu
    subst hu
    have hd' : (if isFn 168 u = true ∧ (ns.map ent3P).length < 4611686018427387904 ∧ (((ns.map ent3P).map toEnt3).map Prod.fst).Nodup then some [PV.list ((sortE ((ns.map ent3P).map toEnt3)).map ent3P)] else none) = some outs := hd
    have hid : (ns.map ent3P).map toEnt3 = ns := by simp [Function.comp_def, toEnt3_ent3P]
    rw [hid, List.length_map] at hd'
    split at hd'
    case isFalse => cases hd'
    rename_i hc
    obtain ⟨hfn, hlen, hnk⟩ := hc
    rw [isFn_eq hfn]
    injection hd' with hd'
    subst hd'
    rcases hcase with ⟨hv, rfl⟩ | ⟨g, cap, cur, fz, hv, hFg, h4, h5, h6, h7, h8, h9⟩
    · have hc := AnyF.slices_SortFunc_none laysSE none 0 (.func (.func 168) #[] #[]) w
      change Calls Tryz.prog 167 _ _ _ at hc
      have hvs : ([r.hd, .func (.func 168) #[] #[]] : List Value).toArray = #[.slice none 0 0, .func (.func 168) #[] #[]] := by rw [hv]
      rw [hvs]
      refine Calls.mono hc ?_
      rintro x w' ⟨rfl, rfl⟩
      refine ⟨_, rfl, [], [], [r.ft], rfl, ⟨rfl, rfl⟩, ⟨r.ft, [], rfl, ?_, rfl⟩, ?_, ?_, ?_⟩
      · unfold LentAt1
        rw [hb]
        have e0 : sortE [] = [] := by simp [sortE]
        rw [e0]
        exact ⟨n, hrt ▸ how⟩
      · simpa using hnd
      · intro k hk
        refine .inr ?_
        simpa using hk
      · exact ⟨rfl, rfl, rfl, Nat.le_refl _, fun k hk hn => rfl⟩
    · have hg : g < w.heap.size := (Array.getElem?_eq_some_iff.1 h5).1
      have eg : ∀ args w, (callFunc 168 args).run Tryz.prog w = .ok (.enter 168 args) w := enters_of Tryz.func168 (by kernel_rfl) rfl
      have hcmp : CmpLays Tryz.prog 168 #[] encS 2 cmpE g 0 ns.toArray.size w := fun m os dk _ x y => order x.1 y.1 x.2 y.2 _
      have hc := AnyQ.slices_SortFunc laysSE 2 Tryz.isAgg99 Tryz.sizeOf99 encS (fun _ => rfl) (fun x v hv => by
        rcases List.mem_cons.1 hv with rfl | hv
        · rfl
        · rcases List.mem_cons.1 hv with rfl | hv
          · rfl
          · cases hv) cmpE swoE 168 #[] g 0 cap ns.toArray w eg hcmp (holds_entry h4 h5 (by omega) h9) hg (by simpa using hlen)
      change Calls Tryz.prog 167 _ _ _ at hc
      rw [List.size_toArray] at hc
      have hvs : ([r.hd, .func (.func 168) #[] #[]] : List Value).toArray = #[.slice (some ⟨g, 0, none⟩) ns.length cap, .func (.func 168) #[] #[]] := by rw [hv]
      rw [hvs]
      refine Calls.mono hc ?_
      rintro x w' ⟨rfl, d', m, os, hpm, hso, rfl⟩
      have hse : d' = (sortE ns).toArray := by
        obtain ⟨f1, f2⟩ := sort_facts hpm hso
        have := sortE_of hnk f1 f2
        rw [← this]
      subst hse
      have hlen' : (sortE ns).length = ns.length := sortE_len _
      refine ⟨_, rfl, [], [], [r.ft], rfl, ⟨rfl, rfl⟩, ⟨r.ft, [], rfl, ?_, rfl⟩, ?_, ?_, ?_⟩
      · unfold LentAt1
        rw [hb]
        have hw1 : (sortWorldK encS 2 w g 0 m (sortE ns).toArray os).heap[g]? = some (.cells (Sort.putCells id 0 (flatK encS 2 (sortE ns).toArray) cur) 99 fz) := by
          have h1 : (Sort.putRow id (Sort.ahead w m) g 0 (flatK encS 2 (sortE ns).toArray)).heap[g]? = some (.cells (Sort.putCells id 0 (flatK encS 2 (sortE ns).toArray) cur) 99 fz) := by
            have h5' : (Sort.ahead w m).heap[g]? = some (.cells cur 99 fz) := h5
            simp [Sort.putRow, Sort.mapBlock, Array.getElem?_modify, h5, Sort.ahead, Sort.onCells]
          have hlt := (Array.getElem?_eq_some_iff.1 h1).1
          unfold sortWorldK putRowK
          simp only [Sort.grow]
          rw [Array.getElem?_append_left hlt]
          exact h1
        have hsz : (Sort.putCells id 0 (flatK encS 2 (sortE ns).toArray) cur).size = cur.size := by simp [Sort.putCells]
        have htk := putK_take (cur := cur) (sortE ns) (by rw [hlen']; omega)
        refine ⟨3, ?_⟩
        have := ow_entry_of (cap := cap) (by rw [hsz]; exact h4) hw1 (by rw [hlen']; exact h6) h7 (by rw [hsz]; exact h8) htk
        rw [hlen', ← hv, ← hFg, hrt.symm] at this
        exact this
      · simpa using hnd
      · intro k hk
        refine .inr ?_
        simpa using hk
      · refine ⟨rfl, rfl, rfl, by simp [sortWorldK, putRowK, Sort.grow, Sort.putRow, Sort.mapBlock, Sort.ahead], fun k hk hn => ?_⟩
        have hkg : k ≠ g := fun h => hn (by simp [hFg, h])
        unfold sortWorldK putRowK
        simp only [Sort.grow]
        rw [Array.getElem?_append_left (by simpa [Sort.putRow, Sort.mapBlock, Sort.ahead] using hk)]
        simp [Sort.putRow, Sort.mapBlock, Sort.ahead, Array.getElem?_modify, Ne.symm hkg]
  | [], _, ha => exact absurd ha (by simp [ArgsAt, slices_SortFunc_impl_Entry.S])
  | [_], [], ha => exact absurd ha (by simp [ArgsAt, slices_SortFunc_impl_Entry.S])
  | [_], _ :: _, ha => exact absurd ha (by simp [ArgsAt, slices_SortFunc_impl_Entry.S])
  | _ :: _ :: _, [], ha => exact absurd ha (by simp [ArgsAt, slices_SortFunc_impl_Entry.S])
  | _ :: _ :: _, [_], ha => exact absurd ha (by simp [ArgsAt, slices_SortFunc_impl_Entry.S])
  | [_, _], _ :: _ :: _ :: _, ha => exact absurd ha (by simp [ArgsAt, slices_SortFunc_impl_Entry.S])
  | _ :: _ :: _ :: _, _ :: _ :: _, ha => exact absurd ha (by simp [ArgsAt, slices_SortFunc_impl_Entry.S])

end

-- MODES: 140 loop.example/medlar/impl.sortEntries mut
/-! ### impl_sortEntries: function 140, loop.example/medlar/impl.sortEntries -/
noncomputable def impl_sortEntries.E (N : Nat) : Env := ⟨lk [(167, slices_SortFunc_impl_Entry.S N)], nzk [], N, [(false, 32)], false⟩
noncomputable def impl_sortEntries.f (N : Nat) (a : List PV) : Option Res := run Tryz.prog (impl_sortEntries.E N) Tryz.f140 [(32, .mut)] [] a
theorem impl_sortEntries.f_eq (N : Nat) (a0 : PV) : impl_sortEntries.f N [a0] = (slices_SortFunc_impl_Entry.f N [a0, (PV.sc (.func (.func 168) #[] #[]))]).bind fun t1 => some [(t1.headD default)] := by kernel_rfl
noncomputable def impl_sortEntries.S (N : Nat) : ASpec := ⟨[(32, .mut)], [], impl_sortEntries.f N⟩
theorem impl_sortEntries.ok (N : Nat) : FnOk Tryz.prog 140 (impl_sortEntries.S N) := fnOk_of (E := impl_sortEntries.E N) mix Tryz.func140 (by kernel_rfl) (by kernel_rfl) (by kernel_rfl) (lk_ok (all_cons (slices_SortFunc_impl_Entry.ok N) all_nil)) (by kernel_rfl) (fun _ _ h => h)

/-! ### impl_DeltaDo: function 98, loop.example/medlar/impl.DeltaDo -/
noncomputable def impl_DeltaDo.E (N : Nat) : Env := ⟨lk [(58, impl_BookOk.S N), (112, impl_DeltaOk.S N), (130, impl_entryAt.S N), (59, impl_cloneBook.S N), (86, slices_Contains_string_string.S N), (140, impl_sortEntries.S N)], nzk [(5, ⟨[0, 1, 5, 7, 8, 9, 10, 11, 12, 13, 14, 15, 16, 17, 18, 19, 20, 21, 22, 23, 24, 25, 26, 30, 31, 32, 33, 34, 35, 36, 37, 38, 39, 40, 41, 42, 43, 44, 45, 46, 47, 48, 49, 50, 51, 52, 53, 54, 55, 56, 57, 58, 59, 60, 61, 62, 63, 64, 65, 66, 67, 68, 69, 70, 71, 72, 73, 74, 75, 76, 77, 78, 79, 80, 81, 82, 83, 84, 85, 86, 87, 88, 89, 90], [], []⟩), (11, ⟨[0, 1, 5, 7, 8, 9, 10, 11, 12, 13, 14, 15, 16, 17, 18, 19, 20, 21, 22, 23, 24, 25, 26, 27, 28, 29, 30, 31, 32, 33, 34, 35, 36, 37, 38, 39, 40, 41, 45, 46, 47, 48, 49, 50, 51, 52, 53, 54, 55, 56, 57, 58, 59, 60, 61, 62, 63, 64, 65, 66, 67, 68, 69, 70, 71, 72, 73, 74, 75, 76, 77, 78, 79, 80, 81, 82, 83, 84, 85, 86, 87, 88, 89, 90], [], []⟩)], N, [], false⟩
noncomputable def impl_DeltaDo.f (N : Nat) (a : List PV) : Option Res := run Tryz.prog (impl_DeltaDo.E N) Tryz.f98 [(43, .ro), (35, .ro)] [(43, .own), (4, .val)] a
noncomputable def impl_DeltaDo.l0 (N : Nat) (n : Nat) (x27 : PV) (x28 : Int) (x29 : Int) (y0_0 : PV) (y0_1 : PV) (y1_0 : PV) (y1_1 : PV) (y1_2 : Bool) (y1_3 : PV) (y4 : List PV) (y5 : List PV) : Option Res := loopAt Tryz.prog (impl_DeltaDo.E N) Tryz.f98 [(43, .own), (4, .val)] [1, 1, 1, 0, 1, 0] [] n ⟨mkSlots 91 [(2, .ptr 0 []), (3, .ptr 1 []), (4, .ptr 2 []), (6, .ptr 3 []), (27, .ro 22 x27), (28, .sc (.int .i64 x28)), (29, .sc (.int .i64 x29))], ohOf [.box 43 (.agg 43 [.ro 33 y0_0, .ro 32 y0_1]), .box 35 (.agg 35 [.ro 22 y1_0, .ro 32 y1_1, .sc (.bool y1_2), .ro 33 y1_3]), .box 43 (.agg 43 [.nil, .nil]), .box 43 (.agg 43 [.ref 4 [], .ref 5 []]), .row 33 (PV.list y4), .row 32 (PV.list y5)]⟩
noncomputable def impl_DeltaDo.l1 (N : Nat) (n : Nat) (x42 : PV) (x43 : Int) (x44 : Int) (y0_0 : PV) (y0_1 : PV) (y1_0 : PV) (y1_1 : PV) (y1_2 : Bool) (y1_3 : PV) (y4 : List PV) (y5 : List PV) : Option Res := loopAt Tryz.prog (impl_DeltaDo.E N) Tryz.f98 [(43, .own), (4, .val)] [1, 1, 1, 1, 0, 1, 0] [] n ⟨mkSlots 91 [(2, .ptr 0 []), (3, .ptr 1 []), (4, .ptr 2 []), (6, .ptr 3 []), (42, .ro 32 x42), (43, .sc (.int .i64 x43)), (44, .sc (.int .i64 x44))], ohOf [.box 43 (.agg 43 [.ro 33 y0_0, .ro 32 y0_1]), .box 35 (.agg 35 [.ro 22 y1_0, .ro 32 y1_1, .sc (.bool y1_2), .ro 33 y1_3]), .box 43 (.agg 43 [.nil, .nil]), .box 43 (.agg 43 [.ref 4 [], .ref 5 []]), .row 33 (PV.list y4), .row 32 (PV.list y5)]⟩
theorem impl_DeltaDo.f_eq (N : Nat) (a0 : PV) (a1 : PV) : impl_DeltaDo.f N [a0, a1] = (impl_BookOk.f N [(PV.agg [a0.fld 0, a0.fld 1])]).bind fun t1 => if (!((t1.headD default).toBool)) = false then ((impl_DeltaOk.f N [(PV.agg [a1.fld 0, a1.fld 1, (PV.sc (.bool ((a1.fld 2).toBool))), a1.fld 3])]).bind fun t2 => if (!((t2.headD default).toBool)) = true then (some [(PV.agg [(PV.list []), (PV.list [])]), (PV.sc (.bool false))]) else (if ([] : List PV).length + ((a0.fld 0).items).length ≤ 1954687338268 then (impl_DeltaDo.l0 N N (a1.fld 0) (((a1.fld 0).items).length : Int) 0 (a0.fld 0) (a0.fld 1) (a1.fld 0) (a1.fld 1) ((a1.fld 2).toBool) (a1.fld 3) (([] : List PV) ++ ((a0.fld 0).items)) []) else none)) else (some [(PV.agg [(PV.list []), (PV.list [])]), (PV.sc (.bool false))]) := by kernel_rfl
theorem impl_DeltaDo.l0_eq (N : Nat) (n : Nat) (x27 : PV) (x28 : Int) (x29 : Int) (y0_0 : PV) (y0_1 : PV) (y1_0 : PV) (y1_1 : PV) (y1_2 : Bool) (y1_3 : PV) (y4 : List PV) (y5 : List PV) : impl_DeltaDo.l0 N (n + 1) x27 x28 x29 y0_0 y0_1 y1_0 y1_1 y1_2 y1_3 y4 y5 = if decide (x29 < x28) = true then (if 0 ≤ x29 then (if x29 < (x27.items.length : Int) then ((impl_entryAt.f N [y0_1, (PV.sc (.string ((x27.elem x29.toNat).toStr)))]).bind fun t3 => if decide (((t3.headD default).toInt) < 0) = true then ((impl_cloneBook.f N [(PV.agg [y0_0, y0_1])]).bind fun t4 => some [(PV.agg [(t4.headD default).fld 0, (t4.headD default).fld 1]), (PV.sc (.bool false))]) else (impl_DeltaDo.l0 N n x27 x28 (IntKind.i64.wrap (x29 + 1)) y0_0 y0_1 y1_0 y1_1 y1_2 y1_3 y4 y5)) else none) else none) else (impl_DeltaDo.l1 N N y0_1 (y0_1.items.length : Int) 0 y0_0 y0_1 y1_0 y1_1 y1_2 y1_3 y4 y5) := by kernel_rfl
theorem impl_DeltaDo.l1_eq (N : Nat) (n : Nat) (x42 : PV) (x43 : Int) (x44 : Int) (y0_0 : PV) (y0_1 : PV) (y1_0 : PV) (y1_1 : PV) (y1_2 : Bool) (y1_3 : PV) (y4 : List PV) (y5 : List PV) : impl_DeltaDo.l1 N (n + 1) x42 x43 x44 y0_0 y0_1 y1_0 y1_1 y1_2 y1_3 y4 y5 = if decide (x44 < x43) = true then (if 0 ≤ x44 then (if x44 < (x42.items.length : Int) then ((slices_Contains_string_string.f N [y1_0, (PV.sc (.string (((x42.elem x44.toNat).fld 0).toStr)))]).bind fun t5 => if (!((t5.headD default).toBool)) = true then ((impl_entryAt.f N [y1_1, (PV.sc (.string (((x42.elem x44.toNat).fld 0).toStr)))]).bind fun t6 => if decide (((t6.headD default).toInt) < 0) = true then (if y5.length + ([(PV.agg [(PV.sc (.string (((x42.elem x44.toNat).fld 0).toStr))), (PV.sc (.string (((x42.elem x44.toNat).fld 1).toStr)))])]).length ≤ 4398046511104 then (impl_DeltaDo.l1 N n x42 x43 (IntKind.i64.wrap (x44 + 1)) y0_0 y0_1 y1_0 y1_1 y1_2 y1_3 y4 (y5 ++ ([(PV.agg [(PV.sc (.string (((x42.elem x44.toNat).fld 0).toStr))), (PV.sc (.string (((x42.elem x44.toNat).fld 1).toStr)))])]))) else none) else (impl_DeltaDo.l1 N n x42 x43 (IntKind.i64.wrap (x44 + 1)) y0_0 y0_1 y1_0 y1_1 y1_2 y1_3 y4 y5)) else (impl_DeltaDo.l1 N n x42 x43 (IntKind.i64.wrap (x44 + 1)) y0_0 y0_1 y1_0 y1_1 y1_2 y1_3 y4 y5)) else none) else none) else (if y5.length + y1_1.items.length ≤ 4398046511104 then ((impl_sortEntries.f N [(PV.list (y5 ++ y1_1.items))]).bind fun t7 => if y1_2 = true then (if ([] : List PV).length + y1_3.items.length ≤ 1954687338268 then ((impl_BookOk.f N [(PV.agg [(PV.list (([] : List PV) ++ y1_3.items)), (t7.headD default)])]).bind fun t8 => if (!((t8.headD default).toBool)) = true then ((impl_cloneBook.f N [(PV.agg [y0_0, y0_1])]).bind fun t9 => some [(PV.agg [(t9.headD default).fld 0, (t9.headD default).fld 1]), (PV.sc (.bool false))]) else (some [(PV.agg [(PV.list (([] : List PV) ++ y1_3.items)), (t7.headD default)]), (PV.sc (.bool true))])) else none) else ((impl_BookOk.f N [(PV.agg [(PV.list y4), (t7.headD default)])]).bind fun t10 => if (!((t10.headD default).toBool)) = true then ((impl_cloneBook.f N [(PV.agg [y0_0, y0_1])]).bind fun t11 => some [(PV.agg [(t11.headD default).fld 0, (t11.headD default).fld 1]), (PV.sc (.bool false))]) else (some [(PV.agg [(PV.list y4), (t7.headD default)]), (PV.sc (.bool true))]))) else none) := by kernel_rfl
noncomputable def impl_DeltaDo.S (N : Nat) : ASpec := ⟨[(43, .ro), (35, .ro)], [(43, .own), (4, .val)], impl_DeltaDo.f N⟩
theorem impl_DeltaDo.ok (N : Nat) : FnOk Tryz.prog 98 (impl_DeltaDo.S N) := fnOk_of (E := impl_DeltaDo.E N) mix Tryz.func98 (by kernel_rfl) (by kernel_rfl) (by kernel_rfl) (lk_ok (all_cons (impl_BookOk.ok N) (all_cons (impl_DeltaOk.ok N) (all_cons (impl_entryAt.ok N) (all_cons (impl_cloneBook.ok N) (all_cons (slices_Contains_string_string.ok N) (all_cons (impl_sortEntries.ok N) all_nil))))))) (by kernel_rfl) (fun _ _ h => h)

/-! ### impl_BookPut: function 89, loop.example/medlar/impl.BookPut -/
noncomputable def impl_BookPut.E (N : Nat) : Env := ⟨lk [(58, impl_BookOk.S N), (134, impl_affixLine.S N), (135, impl_entryLine.S N)], nzk [(5, ⟨[0, 2, 4, 5, 6, 7, 8, 9, 10, 11, 15, 16, 17, 18, 19, 20, 21, 22, 23, 24, 25, 26, 27, 28, 29, 30, 31, 32, 33, 34, 35], [], []⟩), (10, ⟨[0, 1, 2, 4, 5, 6, 7, 8, 9, 10, 11, 12, 13, 14, 15, 16, 17, 18, 19, 20, 21, 22, 23, 27, 28, 29, 30, 31, 32, 33, 34, 35], [], []⟩)], N, [], false⟩
noncomputable def impl_BookPut.f (N : Nat) (a : List PV) : Option Res := run Tryz.prog (impl_BookPut.E N) Tryz.f89 [(43, .ro)] [(9, .val)] a
noncomputable def impl_BookPut.l0 (N : Nat) (n : Nat) (x3 : ByteArray) (x12 : PV) (x13 : Int) (x14 : Int) (y0_0 : PV) (y0_1 : PV) : Option Res := loopAt Tryz.prog (impl_BookPut.E N) Tryz.f89 [(9, .val)] [1, 1, 1, 0, 1, 0] [] n ⟨mkSlots 36 [(1, .ptr 0 []), (3, .sc (.string x3)), (12, .ro 33 x12), (13, .sc (.int .i64 x13)), (14, .sc (.int .i64 x14))], ohOf [.box 43 (.agg 43 [.ro 33 y0_0, .ro 32 y0_1])]⟩
noncomputable def impl_BookPut.l1 (N : Nat) (n : Nat) (x3 : ByteArray) (x24 : PV) (x25 : Int) (x26 : Int) : Option Res := loopAt Tryz.prog (impl_BookPut.E N) Tryz.f89 [(9, .val)] [1, 1, 1, 1, 0, 1, 0] [] n ⟨mkSlots 36 [(3, .sc (.string x3)), (24, .ro 32 x24), (25, .sc (.int .i64 x25)), (26, .sc (.int .i64 x26))], ohOf []⟩
theorem impl_BookPut.f_eq (N : Nat) (a0 : PV) : impl_BookPut.f N [a0] = (impl_BookOk.f N [(PV.agg [a0.fld 0, a0.fld 1])]).bind fun t1 => if (!((t1.headD default).toBool)) = true then (some [(PV.sc (.string (ByteArray.mk #[])))]) else (impl_BookPut.l0 N N (ByteArray.mk #[]) (a0.fld 0) (((a0.fld 0).items).length : Int) 0 (a0.fld 0) (a0.fld 1)) := by kernel_rfl
theorem impl_BookPut.l0_eq (N : Nat) (n : Nat) (x3 : ByteArray) (x12 : PV) (x13 : Int) (x14 : Int) (y0_0 : PV) (y0_1 : PV) : impl_BookPut.l0 N (n + 1) x3 x12 x13 x14 y0_0 y0_1 = if decide (x14 < x13) = true then (if 0 ≤ x14 then (if x14 < (x12.items.length : Int) then ((impl_affixLine.f N [(PV.agg [(PV.sc (.string (((x12.elem x14.toNat).fld 0).toStr))), (PV.sc (.bool (((x12.elem x14.toNat).fld 1).toBool))), (PV.sc (.string (((x12.elem x14.toNat).fld 2).toStr))), (PV.sc (.string (((x12.elem x14.toNat).fld 3).toStr))), (PV.sc (.string (((x12.elem x14.toNat).fld 4).toStr)))])]).bind fun t2 => if x3.size + ((t2.headD default).toStr).size ≤ 9223372036854775807 then (impl_BookPut.l0 N n (x3 ++ ((t2.headD default).toStr)) x12 x13 (IntKind.i64.wrap (x14 + 1)) y0_0 y0_1) else none) else none) else none) else (impl_BookPut.l1 N N x3 y0_1 (y0_1.items.length : Int) 0) := by kernel_rfl
theorem impl_BookPut.l1_eq (N : Nat) (n : Nat) (x3 : ByteArray) (x24 : PV) (x25 : Int) (x26 : Int) : impl_BookPut.l1 N (n + 1) x3 x24 x25 x26 = if decide (x26 < x25) = true then (if 0 ≤ x26 then (if x26 < (x24.items.length : Int) then ((impl_entryLine.f N [(PV.agg [(PV.sc (.string (((x24.elem x26.toNat).fld 0).toStr))), (PV.sc (.string (((x24.elem x26.toNat).fld 1).toStr)))])]).bind fun t3 => if x3.size + ((t3.headD default).toStr).size ≤ 9223372036854775807 then (impl_BookPut.l1 N n (x3 ++ ((t3.headD default).toStr)) x24 x25 (IntKind.i64.wrap (x26 + 1))) else none) else none) else none) else (some [(PV.sc (.string x3))]) := by kernel_rfl
noncomputable def impl_BookPut.S (N : Nat) : ASpec := ⟨[(43, .ro)], [(9, .val)], impl_BookPut.f N⟩
theorem impl_BookPut.ok (N : Nat) : FnOk Tryz.prog 89 (impl_BookPut.S N) := fnOk_of (E := impl_BookPut.E N) mix Tryz.func89 (by kernel_rfl) (by kernel_rfl) (by kernel_rfl) (lk_ok (all_cons (impl_BookOk.ok N) (all_cons (impl_affixLine.ok N) (all_cons (impl_entryLine.ok N) all_nil)))) (by kernel_rfl) (fun _ _ h => h)

/-! ### impl_HashSum: function 88, loop.example/medlar/impl.HashSum -/
noncomputable def impl_HashSum.E (N : Nat) : Env := ⟨lk [(133, impl_sha256Of.S N), (114, impl_hexOf.S N)], nzk [], N, [], false⟩
noncomputable def impl_HashSum.f (N : Nat) (a : List PV) : Option Res := run Tryz.prog (impl_HashSum.E N) Tryz.f88 [(9, .ro)] [(9, .val)] a
theorem impl_HashSum.f_eq (N : Nat) (a0 : PV) : impl_HashSum.f N [a0] = (impl_sha256Of.f N [(PV.sc (.string a0.toStr))]).bind fun t1 => (impl_hexOf.f N [(PV.sc (.string ((t1.headD default).toStr)))]).bind fun t2 => some [(PV.sc (.string ((t2.headD default).toStr)))] := by kernel_rfl
noncomputable def impl_HashSum.S (N : Nat) : ASpec := ⟨[(9, .ro)], [(9, .val)], impl_HashSum.f N⟩
theorem impl_HashSum.ok (N : Nat) : FnOk Tryz.prog 88 (impl_HashSum.S N) := fnOk_of (E := impl_HashSum.E N) mix Tryz.func88 (by kernel_rfl) (by kernel_rfl) (by kernel_rfl) (lk_ok (all_cons (impl_sha256Of.ok N) (all_cons (impl_hexOf.ok N) all_nil))) (by kernel_rfl) (fun _ _ h => h)

/-! ### impl_ReleaseDo: function 60, loop.example/medlar/impl.ReleaseDo -/
noncomputable def impl_ReleaseDo.E (N : Nat) : Env := ⟨lk [(58, impl_BookOk.S N), (27, impl_ReleaseOk.S N), (59, impl_cloneBook.S N), (98, impl_DeltaDo.S N), (89, impl_BookPut.S N), (88, impl_HashSum.S N)], nzk [], N, [], false⟩
noncomputable def impl_ReleaseDo.f (N : Nat) (a : List PV) : Option Res := run Tryz.prog (impl_ReleaseDo.E N) Tryz.f60 [(9, .ro), (3, .ro), (43, .ro), (37, .ro)] [(43, .own), (4, .val)] a
theorem impl_ReleaseDo.f_eq (N : Nat) (a0 : PV) (a1 : PV) (a2 : PV) (a3 : PV) : impl_ReleaseDo.f N [a0, a1, a2, a3] = (impl_BookOk.f N [(PV.agg [a2.fld 0, a2.fld 1])]).bind fun t1 => if (!((t1.headD default).toBool)) = true then (some [(PV.agg [(PV.list []), (PV.list [])]), (PV.sc (.bool false))]) else ((impl_ReleaseOk.f N [(PV.sc (.string a0.toStr)), (PV.agg [(PV.sc (.int .i64 ((a3.fld 0).toInt))), (PV.agg [(a3.fld 1).fld 0, (a3.fld 1).fld 1, (PV.sc (.bool (((a3.fld 1).fld 2).toBool))), (a3.fld 1).fld 3]), (PV.sc (.string ((a3.fld 2).toStr))), (PV.sc (.string ((a3.fld 3).toStr)))])]).bind fun t2 => if (!((t2.headD default).toBool)) = false then (if (!decide (a1.toInt = (IntKind.i64.wrap (((a3.fld 0).toInt) - 1)))) = true then ((impl_cloneBook.f N [(PV.agg [a2.fld 0, a2.fld 1])]).bind fun t3 => some [(PV.agg [(t3.headD default).fld 0, (t3.headD default).fld 1]), (PV.sc (.bool false))]) else ((impl_DeltaDo.f N [(PV.agg [a2.fld 0, a2.fld 1]), (PV.agg [(a3.fld 1).fld 0, (a3.fld 1).fld 1, (PV.sc (.bool (((a3.fld 1).fld 2).toBool))), (a3.fld 1).fld 3])]).bind fun t4 => if (!((t4.tail.headD default).toBool)) = false then ((impl_BookPut.f N [(PV.agg [(t4.headD default).fld 0, (t4.headD default).fld 1])]).bind fun t5 => (impl_HashSum.f N [(PV.sc (.string ((t5.headD default).toStr)))]).bind fun t6 => if (!decide (((t6.headD default).toStr).toList = ((a3.fld 2).toStr).toList)) = true then ((impl_cloneBook.f N [(PV.agg [a2.fld 0, a2.fld 1])]).bind fun t7 => some [(PV.agg [(t7.headD default).fld 0, (t7.headD default).fld 1]), (PV.sc (.bool false))]) else (some [(PV.agg [(t4.headD default).fld 0, (t4.headD default).fld 1]), (PV.sc (.bool true))])) else ((impl_cloneBook.f N [(PV.agg [a2.fld 0, a2.fld 1])]).bind fun t8 => some [(PV.agg [(t8.headD default).fld 0, (t8.headD default).fld 1]), (PV.sc (.bool false))]))) else ((impl_cloneBook.f N [(PV.agg [a2.fld 0, a2.fld 1])]).bind fun t9 => some [(PV.agg [(t9.headD default).fld 0, (t9.headD default).fld 1]), (PV.sc (.bool false))])) := by kernel_rfl
noncomputable def impl_ReleaseDo.S (N : Nat) : ASpec := ⟨[(9, .ro), (3, .ro), (43, .ro), (37, .ro)], [(43, .own), (4, .val)], impl_ReleaseDo.f N⟩
theorem impl_ReleaseDo.ok (N : Nat) : FnOk Tryz.prog 60 (impl_ReleaseDo.S N) := fnOk_of (E := impl_ReleaseDo.E N) mix Tryz.func60 (by kernel_rfl) (by kernel_rfl) (by kernel_rfl) (lk_ok (all_cons (impl_BookOk.ok N) (all_cons (impl_ReleaseOk.ok N) (all_cons (impl_cloneBook.ok N) (all_cons (impl_DeltaDo.ok N) (all_cons (impl_BookPut.ok N) (all_cons (impl_HashSum.ok N) all_nil))))))) (by kernel_rfl) (fun _ _ h => h)

/-! ### impl_RingDo: function 22, loop.example/medlar/impl.RingDo -/
noncomputable def impl_RingDo.E (N : Nat) : Env := ⟨lk [(58, impl_BookOk.S N), (40, impl_RingOk.S N), (41, impl_within.S N), (59, impl_cloneBook.S N), (28, impl_RingKey.S N), (60, impl_ReleaseDo.S N)], nzk [], N, [], false⟩
noncomputable def impl_RingDo.f (N : Nat) (a : List PV) : Option Res := run Tryz.prog (impl_RingDo.E N) Tryz.f22 [(40, .ro), (3, .ro), (43, .ro), (37, .ro)] [(43, .own), (4, .val)] a
theorem impl_RingDo.f_eq (N : Nat) (a0 : PV) (a1 : PV) (a2 : PV) (a3 : PV) : impl_RingDo.f N [a0, a1, a2, a3] = (impl_BookOk.f N [(PV.agg [a2.fld 0, a2.fld 1])]).bind fun t1 => if (!((t1.headD default).toBool)) = true then (some [(PV.agg [(PV.list []), (PV.list [])]), (PV.sc (.bool false))]) else ((impl_RingOk.f N [(PV.agg [a0.fld 0, a0.fld 1])]).bind fun t2 => if (!((t2.headD default).toBool)) = false then ((impl_within.f N [(PV.sc (.int .i64 a1.toInt)), (PV.sc (.int .i64 0)), (PV.sc (.int .i64 999998))]).bind fun t3 => if (!((t3.headD default).toBool)) = true then ((impl_cloneBook.f N [(PV.agg [a2.fld 0, a2.fld 1])]).bind fun t4 => some [(PV.agg [(t4.headD default).fld 0, (t4.headD default).fld 1]), (PV.sc (.bool false))]) else ((impl_RingKey.f N [(PV.agg [a0.fld 0, a0.fld 1]), (PV.sc (.int .i64 (IntKind.i64.wrap (a1.toInt + 1))))]).bind fun t5 => (impl_ReleaseDo.f N [(PV.sc (.string ((t5.headD default).toStr))), (PV.sc (.int .i64 a1.toInt)), (PV.agg [a2.fld 0, a2.fld 1]), (PV.agg [(PV.sc (.int .i64 ((a3.fld 0).toInt))), (PV.agg [(a3.fld 1).fld 0, (a3.fld 1).fld 1, (PV.sc (.bool (((a3.fld 1).fld 2).toBool))), (a3.fld 1).fld 3]), (PV.sc (.string ((a3.fld 2).toStr))), (PV.sc (.string ((a3.fld 3).toStr)))])]).bind fun t6 => some [(PV.agg [(t6.headD default).fld 0, (t6.headD default).fld 1]), (PV.sc (.bool ((t6.tail.headD default).toBool)))])) else ((impl_cloneBook.f N [(PV.agg [a2.fld 0, a2.fld 1])]).bind fun t7 => some [(PV.agg [(t7.headD default).fld 0, (t7.headD default).fld 1]), (PV.sc (.bool false))])) := by kernel_rfl
noncomputable def impl_RingDo.S (N : Nat) : ASpec := ⟨[(40, .ro), (3, .ro), (43, .ro), (37, .ro)], [(43, .own), (4, .val)], impl_RingDo.f N⟩
theorem impl_RingDo.ok (N : Nat) : FnOk Tryz.prog 22 (impl_RingDo.S N) := fnOk_of (E := impl_RingDo.E N) mix Tryz.func22 (by kernel_rfl) (by kernel_rfl) (by kernel_rfl) (lk_ok (all_cons (impl_BookOk.ok N) (all_cons (impl_RingOk.ok N) (all_cons (impl_within.ok N) (all_cons (impl_cloneBook.ok N) (all_cons (impl_RingKey.ok N) (all_cons (impl_ReleaseDo.ok N) all_nil))))))) (by kernel_rfl) (fun _ _ h => h)

/-! ### laws_eqAffix: function 90, loop.example/medlar/laws.eqAffix -/
noncomputable def laws_eqAffix.E (N : Nat) : Env := ⟨lk [], nzk [], N, [], false⟩
noncomputable def laws_eqAffix.f (N : Nat) (a : List PV) : Option Res := run Tryz.prog (laws_eqAffix.E N) Tryz.f90 [(97, .ro), (97, .ro)] [(4, .val)] a
theorem laws_eqAffix.f_eq (N : Nat) (a0 : PV) (a1 : PV) : laws_eqAffix.f N [a0, a1] = if (!decide (((a0.fld 0).toStr).toList = ((a1.fld 0).toStr).toList)) = true then (some [(PV.sc (.bool false))]) else (if (((a0.fld 1).toBool) != ((a1.fld 1).toBool)) = true then (some [(PV.sc (.bool false))]) else (if (!decide (((a0.fld 2).toStr).toList = ((a1.fld 2).toStr).toList)) = true then (some [(PV.sc (.bool false))]) else (if (!decide (((a0.fld 3).toStr).toList = ((a1.fld 3).toStr).toList)) = true then (some [(PV.sc (.bool false))]) else (if (!decide (((a0.fld 4).toStr).toList = ((a1.fld 4).toStr).toList)) = true then (some [(PV.sc (.bool false))]) else (some [(PV.sc (.bool true))]))))) := by kernel_rfl
noncomputable def laws_eqAffix.S (N : Nat) : ASpec := ⟨[(97, .ro), (97, .ro)], [(4, .val)], laws_eqAffix.f N⟩
theorem laws_eqAffix.ok (N : Nat) : FnOk Tryz.prog 90 (laws_eqAffix.S N) := fnOk_of (E := laws_eqAffix.E N) mix Tryz.func90 (by kernel_rfl) (by kernel_rfl) (by kernel_rfl) (lk_ok all_nil) (by kernel_rfl) (fun _ _ h => h)

/-! ### laws_eqAffixS: function 46, loop.example/medlar/laws.eqAffixS -/
noncomputable def laws_eqAffixS.E (N : Nat) : Env := ⟨lk [(90, laws_eqAffix.S N)], nzk [(4, ⟨[2, 3, 4, 6, 7, 8, 9, 10, 11, 12, 13, 14, 15, 16, 17, 18, 19, 20, 21, 22, 23, 24, 25, 26], [], []⟩)], N, [], false⟩
noncomputable def laws_eqAffixS.f (N : Nat) (a : List PV) : Option Res := run Tryz.prog (laws_eqAffixS.E N) Tryz.f46 [(33, .ro), (33, .ro)] [(4, .val)] a
noncomputable def laws_eqAffixS.l0 (N : Nat) (n : Nat) (x0 : PV) (x1 : PV) (x5 : Int) : Option Res := loopAt Tryz.prog (laws_eqAffixS.E N) Tryz.f46 [(4, .val)] [1, 1, 0, 1, 0] [] n ⟨mkSlots 27 [(0, .ro 33 x0), (1, .ro 33 x1), (5, .sc (.int .i64 x5))], ohOf []⟩
theorem laws_eqAffixS.f_eq (N : Nat) (a0 : PV) (a1 : PV) : laws_eqAffixS.f N [a0, a1] = if (!decide ((a0.items.length : Int) = (a1.items.length : Int))) = true then (some [(PV.sc (.bool false))]) else (laws_eqAffixS.l0 N N a0 a1 0) := by kernel_rfl
theorem laws_eqAffixS.l0_eq (N : Nat) (n : Nat) (x0 : PV) (x1 : PV) (x5 : Int) : laws_eqAffixS.l0 N (n + 1) x0 x1 x5 = if decide (x5 < (x0.items.length : Int)) = true then (if 0 ≤ x5 then (if x5 < (x0.items.length : Int) then (if 0 ≤ x5 then (if x5 < (x1.items.length : Int) then ((laws_eqAffix.f N [(PV.agg [(PV.sc (.string (((x0.elem x5.toNat).fld 0).toStr))), (PV.sc (.bool (((x0.elem x5.toNat).fld 1).toBool))), (PV.sc (.string (((x0.elem x5.toNat).fld 2).toStr))), (PV.sc (.string (((x0.elem x5.toNat).fld 3).toStr))), (PV.sc (.string (((x0.elem x5.toNat).fld 4).toStr)))]), (PV.agg [(PV.sc (.string (((x1.elem x5.toNat).fld 0).toStr))), (PV.sc (.bool (((x1.elem x5.toNat).fld 1).toBool))), (PV.sc (.string (((x1.elem x5.toNat).fld 2).toStr))), (PV.sc (.string (((x1.elem x5.toNat).fld 3).toStr))), (PV.sc (.string (((x1.elem x5.toNat).fld 4).toStr)))])]).bind fun t1 => if (!((t1.headD default).toBool)) = true then (some [(PV.sc (.bool false))]) else (laws_eqAffixS.l0 N n x0 x1 (IntKind.i64.wrap (x5 + 1)))) else none) else none) else none) else none) else (some [(PV.sc (.bool true))]) := by kernel_rfl
noncomputable def laws_eqAffixS.S (N : Nat) : ASpec := ⟨[(33, .ro), (33, .ro)], [(4, .val)], laws_eqAffixS.f N⟩
theorem laws_eqAffixS.ok (N : Nat) : FnOk Tryz.prog 46 (laws_eqAffixS.S N) := fnOk_of (E := laws_eqAffixS.E N) mix Tryz.func46 (by kernel_rfl) (by kernel_rfl) (by kernel_rfl) (lk_ok (all_cons (laws_eqAffix.ok N) all_nil)) (by kernel_rfl) (fun _ _ h => h)

/-! ### laws_eqEntry: function 91, loop.example/medlar/laws.eqEntry -/
noncomputable def laws_eqEntry.E (N : Nat) : Env := ⟨lk [], nzk [], N, [], false⟩
noncomputable def laws_eqEntry.f (N : Nat) (a : List PV) : Option Res := run Tryz.prog (laws_eqEntry.E N) Tryz.f91 [(99, .ro), (99, .ro)] [(4, .val)] a
theorem laws_eqEntry.f_eq (N : Nat) (a0 : PV) (a1 : PV) : laws_eqEntry.f N [a0, a1] = if (!decide (((a0.fld 0).toStr).toList = ((a1.fld 0).toStr).toList)) = true then (some [(PV.sc (.bool false))]) else (if (!decide (((a0.fld 1).toStr).toList = ((a1.fld 1).toStr).toList)) = true then (some [(PV.sc (.bool false))]) else (some [(PV.sc (.bool true))])) := by kernel_rfl
noncomputable def laws_eqEntry.S (N : Nat) : ASpec := ⟨[(99, .ro), (99, .ro)], [(4, .val)], laws_eqEntry.f N⟩
theorem laws_eqEntry.ok (N : Nat) : FnOk Tryz.prog 91 (laws_eqEntry.S N) := fnOk_of (E := laws_eqEntry.E N) mix Tryz.func91 (by kernel_rfl) (by kernel_rfl) (by kernel_rfl) (lk_ok all_nil) (by kernel_rfl) (fun _ _ h => h)

/-! ### laws_eqEntryS: function 47, loop.example/medlar/laws.eqEntryS -/
noncomputable def laws_eqEntryS.E (N : Nat) : Env := ⟨lk [(91, laws_eqEntry.S N)], nzk [(4, ⟨[2, 3, 4, 6, 7, 8, 9, 10, 11, 12, 13, 14, 15, 16, 17, 18, 19, 20, 21, 22, 23, 24, 25, 26], [], []⟩)], N, [], false⟩
noncomputable def laws_eqEntryS.f (N : Nat) (a : List PV) : Option Res := run Tryz.prog (laws_eqEntryS.E N) Tryz.f47 [(32, .ro), (32, .ro)] [(4, .val)] a
noncomputable def laws_eqEntryS.l0 (N : Nat) (n : Nat) (x0 : PV) (x1 : PV) (x5 : Int) : Option Res := loopAt Tryz.prog (laws_eqEntryS.E N) Tryz.f47 [(4, .val)] [1, 1, 0, 1, 0] [] n ⟨mkSlots 27 [(0, .ro 32 x0), (1, .ro 32 x1), (5, .sc (.int .i64 x5))], ohOf []⟩
theorem laws_eqEntryS.f_eq (N : Nat) (a0 : PV) (a1 : PV) : laws_eqEntryS.f N [a0, a1] = if (!decide ((a0.items.length : Int) = (a1.items.length : Int))) = true then (some [(PV.sc (.bool false))]) else (laws_eqEntryS.l0 N N a0 a1 0) := by kernel_rfl
theorem laws_eqEntryS.l0_eq (N : Nat) (n : Nat) (x0 : PV) (x1 : PV) (x5 : Int) : laws_eqEntryS.l0 N (n + 1) x0 x1 x5 = if decide (x5 < (x0.items.length : Int)) = true then (if 0 ≤ x5 then (if x5 < (x0.items.length : Int) then (if 0 ≤ x5 then (if x5 < (x1.items.length : Int) then ((laws_eqEntry.f N [(PV.agg [(PV.sc (.string (((x0.elem x5.toNat).fld 0).toStr))), (PV.sc (.string (((x0.elem x5.toNat).fld 1).toStr)))]), (PV.agg [(PV.sc (.string (((x1.elem x5.toNat).fld 0).toStr))), (PV.sc (.string (((x1.elem x5.toNat).fld 1).toStr)))])]).bind fun t1 => if (!((t1.headD default).toBool)) = true then (some [(PV.sc (.bool false))]) else (laws_eqEntryS.l0 N n x0 x1 (IntKind.i64.wrap (x5 + 1)))) else none) else none) else none) else none) else (some [(PV.sc (.bool true))]) := by kernel_rfl
noncomputable def laws_eqEntryS.S (N : Nat) : ASpec := ⟨[(32, .ro), (32, .ro)], [(4, .val)], laws_eqEntryS.f N⟩
theorem laws_eqEntryS.ok (N : Nat) : FnOk Tryz.prog 47 (laws_eqEntryS.S N) := fnOk_of (E := laws_eqEntryS.E N) mix Tryz.func47 (by kernel_rfl) (by kernel_rfl) (by kernel_rfl) (lk_ok (all_cons (laws_eqEntry.ok N) all_nil)) (by kernel_rfl) (fun _ _ h => h)

/-! ### laws_eqBook: function 14, loop.example/medlar/laws.eqBook -/
noncomputable def laws_eqBook.E (N : Nat) : Env := ⟨lk [(46, laws_eqAffixS.S N), (47, laws_eqEntryS.S N)], nzk [], N, [], false⟩
noncomputable def laws_eqBook.f (N : Nat) (a : List PV) : Option Res := run Tryz.prog (laws_eqBook.E N) Tryz.f14 [(43, .ro), (43, .ro)] [(4, .val)] a
theorem laws_eqBook.f_eq (N : Nat) (a0 : PV) (a1 : PV) : laws_eqBook.f N [a0, a1] = (laws_eqAffixS.f N [a0.fld 0, a1.fld 0]).bind fun t1 => if (!((t1.headD default).toBool)) = true then (some [(PV.sc (.bool false))]) else ((laws_eqEntryS.f N [a0.fld 1, a1.fld 1]).bind fun t2 => if (!((t2.headD default).toBool)) = true then (some [(PV.sc (.bool false))]) else (some [(PV.sc (.bool true))])) := by kernel_rfl
noncomputable def laws_eqBook.S (N : Nat) : ASpec := ⟨[(43, .ro), (43, .ro)], [(4, .val)], laws_eqBook.f N⟩
theorem laws_eqBook.ok (N : Nat) : FnOk Tryz.prog 14 (laws_eqBook.S N) := fnOk_of (E := laws_eqBook.E N) mix Tryz.func14 (by kernel_rfl) (by kernel_rfl) (by kernel_rfl) (lk_ok (all_cons (laws_eqAffixS.ok N) (all_cons (laws_eqEntryS.ok N) all_nil))) (by kernel_rfl) (fun _ _ h => h)

/-! ### laws_eqStringS: function 44, loop.example/medlar/laws.eqStringS -/
noncomputable def laws_eqStringS.E (N : Nat) : Env := ⟨lk [], nzk [(4, ⟨[2, 3, 4, 6, 7, 8, 9, 10, 11, 12, 13, 14, 15, 16, 17, 18, 19, 20, 21, 22, 23, 24, 25], [], []⟩)], N, [], false⟩
noncomputable def laws_eqStringS.f (N : Nat) (a : List PV) : Option Res := run Tryz.prog (laws_eqStringS.E N) Tryz.f44 [(22, .ro), (22, .ro)] [(4, .val)] a
noncomputable def laws_eqStringS.l0 (N : Nat) (n : Nat) (x0 : PV) (x1 : PV) (x5 : Int) : Option Res := loopAt Tryz.prog (laws_eqStringS.E N) Tryz.f44 [(4, .val)] [1, 1, 0, 1, 0] [] n ⟨mkSlots 26 [(0, .ro 22 x0), (1, .ro 22 x1), (5, .sc (.int .i64 x5))], ohOf []⟩
theorem laws_eqStringS.f_eq (N : Nat) (a0 : PV) (a1 : PV) : laws_eqStringS.f N [a0, a1] = if (!decide ((a0.items.length : Int) = (a1.items.length : Int))) = true then (some [(PV.sc (.bool false))]) else (laws_eqStringS.l0 N N a0 a1 0) := by kernel_rfl
theorem laws_eqStringS.l0_eq (N : Nat) (n : Nat) (x0 : PV) (x1 : PV) (x5 : Int) : laws_eqStringS.l0 N (n + 1) x0 x1 x5 = if decide (x5 < (x0.items.length : Int)) = true then (if 0 ≤ x5 then (if x5 < (x0.items.length : Int) then (if 0 ≤ x5 then (if x5 < (x1.items.length : Int) then (if (!decide (((x0.elem x5.toNat).toStr).toList = ((x1.elem x5.toNat).toStr).toList)) = true then (some [(PV.sc (.bool false))]) else (laws_eqStringS.l0 N n x0 x1 (IntKind.i64.wrap (x5 + 1)))) else none) else none) else none) else none) else (some [(PV.sc (.bool true))]) := by kernel_rfl
noncomputable def laws_eqStringS.S (N : Nat) : ASpec := ⟨[(22, .ro), (22, .ro)], [(4, .val)], laws_eqStringS.f N⟩
theorem laws_eqStringS.ok (N : Nat) : FnOk Tryz.prog 44 (laws_eqStringS.S N) := fnOk_of (E := laws_eqStringS.E N) mix Tryz.func44 (by kernel_rfl) (by kernel_rfl) (by kernel_rfl) (lk_ok all_nil) (by kernel_rfl) (fun _ _ h => h)

/-! ### laws_eqIntS: function 45, loop.example/medlar/laws.eqIntS -/
noncomputable def laws_eqIntS.E (N : Nat) : Env := ⟨lk [], nzk [(4, ⟨[2, 3, 4, 6, 7, 8, 9, 10, 11, 12, 13, 14, 15, 16, 17, 18, 19, 20, 21, 22, 23, 24, 25], [], []⟩)], N, [], false⟩
noncomputable def laws_eqIntS.f (N : Nat) (a : List PV) : Option Res := run Tryz.prog (laws_eqIntS.E N) Tryz.f45 [(23, .ro), (23, .ro)] [(4, .val)] a
noncomputable def laws_eqIntS.l0 (N : Nat) (n : Nat) (x0 : PV) (x1 : PV) (x5 : Int) : Option Res := loopAt Tryz.prog (laws_eqIntS.E N) Tryz.f45 [(4, .val)] [1, 1, 0, 1, 0] [] n ⟨mkSlots 26 [(0, .ro 23 x0), (1, .ro 23 x1), (5, .sc (.int .i64 x5))], ohOf []⟩
theorem laws_eqIntS.f_eq (N : Nat) (a0 : PV) (a1 : PV) : laws_eqIntS.f N [a0, a1] = if (!decide ((a0.items.length : Int) = (a1.items.length : Int))) = true then (some [(PV.sc (.bool false))]) else (laws_eqIntS.l0 N N a0 a1 0) := by kernel_rfl
theorem laws_eqIntS.l0_eq (N : Nat) (n : Nat) (x0 : PV) (x1 : PV) (x5 : Int) : laws_eqIntS.l0 N (n + 1) x0 x1 x5 = if decide (x5 < (x0.items.length : Int)) = true then (if 0 ≤ x5 then (if x5 < (x0.items.length : Int) then (if 0 ≤ x5 then (if x5 < (x1.items.length : Int) then (if (!decide (((x0.elem x5.toNat).toInt) = ((x1.elem x5.toNat).toInt))) = true then (some [(PV.sc (.bool false))]) else (laws_eqIntS.l0 N n x0 x1 (IntKind.i64.wrap (x5 + 1)))) else none) else none) else none) else none) else (some [(PV.sc (.bool true))]) := by kernel_rfl
noncomputable def laws_eqIntS.S (N : Nat) : ASpec := ⟨[(23, .ro), (23, .ro)], [(4, .val)], laws_eqIntS.f N⟩
theorem laws_eqIntS.ok (N : Nat) : FnOk Tryz.prog 45 (laws_eqIntS.S N) := fnOk_of (E := laws_eqIntS.E N) mix Tryz.func45 (by kernel_rfl) (by kernel_rfl) (by kernel_rfl) (lk_ok all_nil) (by kernel_rfl) (fun _ _ h => h)

/-! ### laws_eqRing: function 13, loop.example/medlar/laws.eqRing -/
noncomputable def laws_eqRing.E (N : Nat) : Env := ⟨lk [(44, laws_eqStringS.S N), (45, laws_eqIntS.S N)], nzk [], N, [], false⟩
noncomputable def laws_eqRing.f (N : Nat) (a : List PV) : Option Res := run Tryz.prog (laws_eqRing.E N) Tryz.f13 [(40, .ro), (40, .ro)] [(4, .val)] a
theorem laws_eqRing.f_eq (N : Nat) (a0 : PV) (a1 : PV) : laws_eqRing.f N [a0, a1] = (laws_eqStringS.f N [a0.fld 0, a1.fld 0]).bind fun t1 => if (!((t1.headD default).toBool)) = true then (some [(PV.sc (.bool false))]) else ((laws_eqIntS.f N [a0.fld 1, a1.fld 1]).bind fun t2 => if (!((t2.headD default).toBool)) = true then (some [(PV.sc (.bool false))]) else (some [(PV.sc (.bool true))])) := by kernel_rfl
noncomputable def laws_eqRing.S (N : Nat) : ASpec := ⟨[(40, .ro), (40, .ro)], [(4, .val)], laws_eqRing.f N⟩
theorem laws_eqRing.ok (N : Nat) : FnOk Tryz.prog 13 (laws_eqRing.S N) := fnOk_of (E := laws_eqRing.E N) mix Tryz.func13 (by kernel_rfl) (by kernel_rfl) (by kernel_rfl) (lk_ok (all_cons (laws_eqStringS.ok N) (all_cons (laws_eqIntS.ok N) all_nil))) (by kernel_rfl) (fun _ _ h => h)

/-! ### laws_eqDelta: function 43, loop.example/medlar/laws.eqDelta -/
noncomputable def laws_eqDelta.E (N : Nat) : Env := ⟨lk [(44, laws_eqStringS.S N), (47, laws_eqEntryS.S N), (46, laws_eqAffixS.S N)], nzk [], N, [], false⟩
noncomputable def laws_eqDelta.f (N : Nat) (a : List PV) : Option Res := run Tryz.prog (laws_eqDelta.E N) Tryz.f43 [(35, .ro), (35, .ro)] [(4, .val)] a
theorem laws_eqDelta.f_eq (N : Nat) (a0 : PV) (a1 : PV) : laws_eqDelta.f N [a0, a1] = (laws_eqStringS.f N [a0.fld 0, a1.fld 0]).bind fun t1 => if (!((t1.headD default).toBool)) = true then (some [(PV.sc (.bool false))]) else ((laws_eqEntryS.f N [a0.fld 1, a1.fld 1]).bind fun t2 => if (!((t2.headD default).toBool)) = true then (some [(PV.sc (.bool false))]) else (if (((a0.fld 2).toBool) != ((a1.fld 2).toBool)) = true then (some [(PV.sc (.bool false))]) else ((laws_eqAffixS.f N [a0.fld 3, a1.fld 3]).bind fun t3 => if (!((t3.headD default).toBool)) = true then (some [(PV.sc (.bool false))]) else (some [(PV.sc (.bool true))])))) := by kernel_rfl
noncomputable def laws_eqDelta.S (N : Nat) : ASpec := ⟨[(35, .ro), (35, .ro)], [(4, .val)], laws_eqDelta.f N⟩
theorem laws_eqDelta.ok (N : Nat) : FnOk Tryz.prog 43 (laws_eqDelta.S N) := fnOk_of (E := laws_eqDelta.E N) mix Tryz.func43 (by kernel_rfl) (by kernel_rfl) (by kernel_rfl) (lk_ok (all_cons (laws_eqStringS.ok N) (all_cons (laws_eqEntryS.ok N) (all_cons (laws_eqAffixS.ok N) all_nil)))) (by kernel_rfl) (fun _ _ h => h)

/-! ### laws_eqRelease: function 12, loop.example/medlar/laws.eqRelease -/
noncomputable def laws_eqRelease.E (N : Nat) : Env := ⟨lk [(43, laws_eqDelta.S N)], nzk [], N, [], false⟩
noncomputable def laws_eqRelease.f (N : Nat) (a : List PV) : Option Res := run Tryz.prog (laws_eqRelease.E N) Tryz.f12 [(37, .ro), (37, .ro)] [(4, .val)] a
theorem laws_eqRelease.f_eq (N : Nat) (a0 : PV) (a1 : PV) : laws_eqRelease.f N [a0, a1] = if (!decide (((a0.fld 0).toInt) = ((a1.fld 0).toInt))) = true then (some [(PV.sc (.bool false))]) else ((laws_eqDelta.f N [(PV.agg [(a0.fld 1).fld 0, (a0.fld 1).fld 1, (PV.sc (.bool (((a0.fld 1).fld 2).toBool))), (a0.fld 1).fld 3]), (PV.agg [(a1.fld 1).fld 0, (a1.fld 1).fld 1, (PV.sc (.bool (((a1.fld 1).fld 2).toBool))), (a1.fld 1).fld 3])]).bind fun t1 => if (!((t1.headD default).toBool)) = true then (some [(PV.sc (.bool false))]) else (if (!decide (((a0.fld 2).toStr).toList = ((a1.fld 2).toStr).toList)) = true then (some [(PV.sc (.bool false))]) else (if (!decide (((a0.fld 3).toStr).toList = ((a1.fld 3).toStr).toList)) = true then (some [(PV.sc (.bool false))]) else (some [(PV.sc (.bool true))])))) := by kernel_rfl
noncomputable def laws_eqRelease.S (N : Nat) : ASpec := ⟨[(37, .ro), (37, .ro)], [(4, .val)], laws_eqRelease.f N⟩
theorem laws_eqRelease.ok (N : Nat) : FnOk Tryz.prog 12 (laws_eqRelease.S N) := fnOk_of (E := laws_eqRelease.E N) mix Tryz.func12 (by kernel_rfl) (by kernel_rfl) (by kernel_rfl) (lk_ok (all_cons (laws_eqDelta.ok N) all_nil)) (by kernel_rfl) (fun _ _ h => h)

/-! ### laws_markText: function 92, loop.example/medlar/laws.markText -/
noncomputable def laws_markText.E (N : Nat) : Env := ⟨lk [], nzk [(4, ⟨[1, 2, 4, 5, 6, 7, 8, 9, 10, 11, 12, 13, 14, 15, 16, 17, 18, 19], [], []⟩)], N, [], false⟩
noncomputable def laws_markText.f (N : Nat) (a : List PV) : Option Res := run Tryz.prog (laws_markText.E N) Tryz.f92 [(3, .ro)] [(9, .val)] a
noncomputable def laws_markText.l0 (N : Nat) (n : Nat) (x0 : Int) (x3 : ByteArray) : Option Res := loopAt Tryz.prog (laws_markText.E N) Tryz.f92 [(9, .val)] [1, 1, 1, 0, 0] [] n ⟨mkSlots 20 [(0, .sc (.int .i64 x0)), (3, .sc (.string x3))], ohOf []⟩
theorem laws_markText.f_eq (N : Nat) (a0 : PV) : laws_markText.f N [a0] = if decide (a0.toInt ≤ 0) = true then (some [(PV.sc (.string (ByteArray.mk #[109, 48])))]) else (laws_markText.l0 N N a0.toInt (ByteArray.mk #[])) := by kernel_rfl
theorem laws_markText.l0_eq (N : Nat) (n : Nat) (x0 : Int) (x3 : ByteArray) : laws_markText.l0 N (n + 1) x0 x3 = if decide (0 < x0) = true then (if 10 = 0 then none else (if (bytesOfL [(PV.sc (.int .u8 (IntKind.u8.wrap (IntKind.i64.wrap (48 + (Int.tmod x0 10))))))]).size + x3.size ≤ 9223372036854775807 then (if 10 = 0 then none else (laws_markText.l0 N n (IntKind.i64.wrap (Int.tdiv x0 10)) ((bytesOfL [(PV.sc (.int .u8 (IntKind.u8.wrap (IntKind.i64.wrap (48 + (Int.tmod x0 10))))))]) ++ x3))) else none)) else (if (ByteArray.mk #[109]).size + x3.size ≤ 9223372036854775807 then (some [(PV.sc (.string ((ByteArray.mk #[109]) ++ x3)))]) else none) := by kernel_rfl
noncomputable def laws_markText.S (N : Nat) : ASpec := ⟨[(3, .ro)], [(9, .val)], laws_markText.f N⟩
theorem laws_markText.ok (N : Nat) : FnOk Tryz.prog 92 (laws_markText.S N) := fnOk_of (E := laws_markText.E N) mix Tryz.func92 (by kernel_rfl) (by kernel_rfl) (by kernel_rfl) (lk_ok all_nil) (by kernel_rfl) (fun _ _ h => h)

-- MODES: 48 loop.example/medlar/laws.markStringS mut.ro
/-! ### laws_markStringS: function 48, loop.example/medlar/laws.markStringS -/
noncomputable def laws_markStringS.E (N : Nat) : Env := ⟨lk [(92, laws_markText.S N)], nzk [(2, ⟨[2, 3, 4, 6, 7, 8, 9, 10, 11, 12, 13, 14, 15, 16, 17, 18, 19], [], []⟩)], N, [(false, 22)], false⟩
noncomputable def laws_markStringS.f (N : Nat) (a : List PV) : Option Res := run Tryz.prog (laws_markStringS.E N) Tryz.f48 [(22, .mut), (3, .ro)] [(3, .val)] a
noncomputable def laws_markStringS.l0 (N : Nat) (n : Nat) (x1 : Int) (x5 : Int) (y0 : PV) : Option Res := loopAt Tryz.prog (laws_markStringS.E N) Tryz.f48 [(3, .val)] [1, 0, 1, 0] [] n ⟨mkSlots 20 [(0, .ref 0 []), (1, .sc (.int .i64 x1)), (5, .sc (.int .i64 x5))], ohOf [.row 22 y0]⟩
noncomputable def laws_markStringS.l1 (N : Nat) (n : Nat) (x1 : Int) (x5 : Int) (y0 : List PV) : Option Res := loopAt Tryz.prog (laws_markStringS.E N) Tryz.f48 [(3, .val)] [1, 0, 1, 0] [] n ⟨mkSlots 20 [(0, .ref 0 []), (1, .sc (.int .i64 x1)), (5, .sc (.int .i64 x5))], ohOf [.row 22 (PV.list y0)]⟩
theorem laws_markStringS.f_eq (N : Nat) (a0 : PV) (a1 : PV) : laws_markStringS.f N [a0, a1] = laws_markStringS.l0 N N a1.toInt 0 a0 := by kernel_rfl
theorem laws_markStringS.l0_eq (N : Nat) (n : Nat) (x1 : Int) (x5 : Int) (y0 : PV) : laws_markStringS.l0 N (n + 1) x1 x5 y0 = if decide (x5 < (y0.items.length : Int)) = true then ((laws_markText.f N [(PV.sc (.int .i64 x1))]).bind fun t1 => if 0 ≤ x5 then (if x5 < (y0.items.length : Int) then (laws_markStringS.l1 N n (IntKind.i64.wrap (x1 + 1)) (IntKind.i64.wrap (x5 + 1)) (y0.items.set x5.toNat (PV.sc (.string ((t1.headD default).toStr))))) else none) else none) else (some [(PV.sc (.int .i64 x1)), y0]) := by kernel_rfl
theorem laws_markStringS.l1_eq (N : Nat) (n : Nat) (x1 : Int) (x5 : Int) (y0 : List PV) : laws_markStringS.l1 N (n + 1) x1 x5 y0 = if decide (x5 < (y0.length : Int)) = true then ((laws_markText.f N [(PV.sc (.int .i64 x1))]).bind fun t2 => if 0 ≤ x5 then (if x5 < (y0.length : Int) then (laws_markStringS.l1 N n (IntKind.i64.wrap (x1 + 1)) (IntKind.i64.wrap (x5 + 1)) (y0.set x5.toNat (PV.sc (.string ((t2.headD default).toStr))))) else none) else none) else (some [(PV.sc (.int .i64 x1)), (PV.list y0)]) := by kernel_rfl
noncomputable def laws_markStringS.S (N : Nat) : ASpec := ⟨[(22, .mut), (3, .ro)], [(3, .val)], laws_markStringS.f N⟩
theorem laws_markStringS.ok (N : Nat) : FnOk Tryz.prog 48 (laws_markStringS.S N) := fnOk_of (E := laws_markStringS.E N) mix Tryz.func48 (by kernel_rfl) (by kernel_rfl) (by kernel_rfl) (lk_ok (all_cons (laws_markText.ok N) all_nil)) (by kernel_rfl) (fun _ _ h => h)

-- MODES: 49 loop.example/medlar/laws.markIntS mut.ro
/-! ### laws_markIntS: function 49, loop.example/medlar/laws.markIntS -/
noncomputable def laws_markIntS.E (N : Nat) : Env := ⟨lk [], nzk [(2, ⟨[2, 3, 4, 6, 7, 8, 9, 10, 11, 12, 13, 14, 15, 16, 17, 18], [], []⟩)], N, [(false, 23)], false⟩
noncomputable def laws_markIntS.f (N : Nat) (a : List PV) : Option Res := run Tryz.prog (laws_markIntS.E N) Tryz.f49 [(23, .mut), (3, .ro)] [(3, .val)] a
noncomputable def laws_markIntS.l0 (N : Nat) (n : Nat) (x1 : Int) (x5 : Int) (y0 : PV) : Option Res := loopAt Tryz.prog (laws_markIntS.E N) Tryz.f49 [(3, .val)] [1, 0, 1, 0] [] n ⟨mkSlots 19 [(0, .ref 0 []), (1, .sc (.int .i64 x1)), (5, .sc (.int .i64 x5))], ohOf [.row 23 y0]⟩
noncomputable def laws_markIntS.l1 (N : Nat) (n : Nat) (x1 : Int) (x5 : Int) (y0 : List PV) : Option Res := loopAt Tryz.prog (laws_markIntS.E N) Tryz.f49 [(3, .val)] [1, 0, 1, 0] [] n ⟨mkSlots 19 [(0, .ref 0 []), (1, .sc (.int .i64 x1)), (5, .sc (.int .i64 x5))], ohOf [.row 23 (PV.list y0)]⟩
theorem laws_markIntS.f_eq (N : Nat) (a0 : PV) (a1 : PV) : laws_markIntS.f N [a0, a1] = laws_markIntS.l0 N N a1.toInt 0 a0 := by kernel_rfl
theorem laws_markIntS.l0_eq (N : Nat) (n : Nat) (x1 : Int) (x5 : Int) (y0 : PV) : laws_markIntS.l0 N (n + 1) x1 x5 y0 = if decide (x5 < (y0.items.length : Int)) = true then (if 0 ≤ x5 then (if x5 < (y0.items.length : Int) then (laws_markIntS.l1 N n (IntKind.i64.wrap (x1 + 1)) (IntKind.i64.wrap (x5 + 1)) (y0.items.set x5.toNat (PV.sc (.int .i64 x1)))) else none) else none) else (some [(PV.sc (.int .i64 x1)), y0]) := by kernel_rfl
theorem laws_markIntS.l1_eq (N : Nat) (n : Nat) (x1 : Int) (x5 : Int) (y0 : List PV) : laws_markIntS.l1 N (n + 1) x1 x5 y0 = if decide (x5 < (y0.length : Int)) = true then (if 0 ≤ x5 then (if x5 < (y0.length : Int) then (laws_markIntS.l1 N n (IntKind.i64.wrap (x1 + 1)) (IntKind.i64.wrap (x5 + 1)) (y0.set x5.toNat (PV.sc (.int .i64 x1)))) else none) else none) else (some [(PV.sc (.int .i64 x1)), (PV.list y0)]) := by kernel_rfl
noncomputable def laws_markIntS.S (N : Nat) : ASpec := ⟨[(23, .mut), (3, .ro)], [(3, .val)], laws_markIntS.f N⟩
theorem laws_markIntS.ok (N : Nat) : FnOk Tryz.prog 49 (laws_markIntS.S N) := fnOk_of (E := laws_markIntS.E N) mix Tryz.func49 (by kernel_rfl) (by kernel_rfl) (by kernel_rfl) (lk_ok all_nil) (by kernel_rfl) (fun _ _ h => h)

-- MODES: 15 loop.example/medlar/laws.markRing mut2.ro
/-! ### laws_markRing: function 15, loop.example/medlar/laws.markRing -/
noncomputable def laws_markRing.E (N : Nat) : Env := ⟨lk [(48, laws_markStringS.S N), (49, laws_markIntS.S N)], nzk [], N, [(false, 22), (false, 23)], false⟩
noncomputable def laws_markRing.f (N : Nat) (a : List PV) : Option Res := run Tryz.prog (laws_markRing.E N) Tryz.f15 [(40, .mut2), (3, .ro)] [(3, .val)] a
theorem laws_markRing.f_eq (N : Nat) (a0 : PV) (a1 : PV) : laws_markRing.f N [a0, a1] = (laws_markStringS.f N [a0.fld 0, (PV.sc (.int .i64 a1.toInt))]).bind fun t1 => (laws_markIntS.f N [a0.fld 1, (PV.sc (.int .i64 ((t1.headD default).toInt)))]).bind fun t2 => some [(PV.sc (.int .i64 ((t2.headD default).toInt))), (t1.tail.headD default), (t2.tail.headD default)] := by kernel_rfl
noncomputable def laws_markRing.S (N : Nat) : ASpec := ⟨[(40, .mut2), (3, .ro)], [(3, .val)], laws_markRing.f N⟩
theorem laws_markRing.ok (N : Nat) : FnOk Tryz.prog 15 (laws_markRing.S N) := fnOk_of (E := laws_markRing.E N) mix Tryz.func15 (by kernel_rfl) (by kernel_rfl) (by kernel_rfl) (lk_ok (all_cons (laws_markStringS.ok N) (all_cons (laws_markIntS.ok N) all_nil))) (by kernel_rfl) (fun _ _ h => h)

-- MODES: 50 loop.example/medlar/laws.markAffixS mut.ro
/-! ### laws_markAffixS: function 50, loop.example/medlar/laws.markAffixS -/
noncomputable def laws_markAffixS.E (N : Nat) : Env := ⟨lk [(92, laws_markText.S N)], nzk [(2, ⟨[2, 3, 4, 6, 7, 8, 9, 10, 11, 12, 13, 14, 15, 16, 17, 18, 19, 20, 21, 22, 23, 24, 25, 26, 27, 28, 29, 30, 31, 32, 33, 34, 35, 36, 37, 38, 39, 40, 41, 42, 43, 44, 45, 46, 47, 48, 49, 50, 51, 52, 53], [], []⟩)], N, [(false, 33)], false⟩
noncomputable def laws_markAffixS.f (N : Nat) (a : List PV) : Option Res := run Tryz.prog (laws_markAffixS.E N) Tryz.f50 [(33, .mut), (3, .ro)] [(3, .val)] a
noncomputable def laws_markAffixS.l0 (N : Nat) (n : Nat) (x1 : Int) (x5 : Int) (y0 : PV) : Option Res := loopAt Tryz.prog (laws_markAffixS.E N) Tryz.f50 [(3, .val)] [1, 0, 1, 0] [] n ⟨mkSlots 54 [(0, .ref 0 []), (1, .sc (.int .i64 x1)), (5, .sc (.int .i64 x5))], ohOf [.row 33 y0]⟩
noncomputable def laws_markAffixS.l1 (N : Nat) (n : Nat) (x1 : Int) (x5 : Int) (y0 : List PV) : Option Res := loopAt Tryz.prog (laws_markAffixS.E N) Tryz.f50 [(3, .val)] [1, 0, 1, 0] [] n ⟨mkSlots 54 [(0, .ref 0 []), (1, .sc (.int .i64 x1)), (5, .sc (.int .i64 x5))], ohOf [.row 33 (PV.list y0)]⟩
theorem laws_markAffixS.f_eq (N : Nat) (a0 : PV) (a1 : PV) : laws_markAffixS.f N [a0, a1] = laws_markAffixS.l0 N N a1.toInt 0 a0 := by kernel_rfl
theorem laws_markAffixS.l0_eq (N : Nat) (n : Nat) (x1 : Int) (x5 : Int) (y0 : PV) : laws_markAffixS.l0 N (n + 1) x1 x5 y0 = if decide (x5 < (y0.items.length : Int)) = true then ((laws_markText.f N [(PV.sc (.int .i64 x1))]).bind fun t1 => if 0 ≤ x5 then (if x5 < (y0.items.length : Int) then (if 3 = 0 then none else (if 0 ≤ x5 then (if x5 < ((y0.items.set x5.toNat (PV.agg ((y0.elem x5.toNat).parts.set 0 (PV.sc (.string ((t1.headD default).toStr)))))).length : Int) then ((laws_markText.f N [(PV.sc (.int .i64 (IntKind.i64.wrap ((IntKind.i64.wrap (x1 + 1)) + 1))))]).bind fun t2 => if 0 ≤ x5 then (if x5 < (((y0.items.set x5.toNat (PV.agg ((y0.elem x5.toNat).parts.set 0 (PV.sc (.string ((t1.headD default).toStr)))))).set x5.toNat (PV.agg (((PV.list (y0.items.set x5.toNat (PV.agg ((y0.elem x5.toNat).parts.set 0 (PV.sc (.string ((t1.headD default).toStr))))))).elem x5.toNat).parts.set 1 (PV.sc (.bool (decide ((Int.tmod (IntKind.i64.wrap (x1 + 1)) 3) = 0))))))).length : Int) then ((laws_markText.f N [(PV.sc (.int .i64 (IntKind.i64.wrap ((IntKind.i64.wrap ((IntKind.i64.wrap (x1 + 1)) + 1)) + 1))))]).bind fun t3 => if 0 ≤ x5 then (if x5 < ((((y0.items.set x5.toNat (PV.agg ((y0.elem x5.toNat).parts.set 0 (PV.sc (.string ((t1.headD default).toStr)))))).set x5.toNat (PV.agg (((PV.list (y0.items.set x5.toNat (PV.agg ((y0.elem x5.toNat).parts.set 0 (PV.sc (.string ((t1.headD default).toStr))))))).elem x5.toNat).parts.set 1 (PV.sc (.bool (decide ((Int.tmod (IntKind.i64.wrap (x1 + 1)) 3) = 0))))))).set x5.toNat (PV.agg (((PV.list ((y0.items.set x5.toNat (PV.agg ((y0.elem x5.toNat).parts.set 0 (PV.sc (.string ((t1.headD default).toStr)))))).set x5.toNat (PV.agg (((PV.list (y0.items.set x5.toNat (PV.agg ((y0.elem x5.toNat).parts.set 0 (PV.sc (.string ((t1.headD default).toStr))))))).elem x5.toNat).parts.set 1 (PV.sc (.bool (decide ((Int.tmod (IntKind.i64.wrap (x1 + 1)) 3) = 0)))))))).elem x5.toNat).parts.set 2 (PV.sc (.string ((t2.headD default).toStr)))))).length : Int) then ((laws_markText.f N [(PV.sc (.int .i64 (IntKind.i64.wrap ((IntKind.i64.wrap ((IntKind.i64.wrap ((IntKind.i64.wrap (x1 + 1)) + 1)) + 1)) + 1))))]).bind fun t4 => if 0 ≤ x5 then (if x5 < (((((y0.items.set x5.toNat (PV.agg ((y0.elem x5.toNat).parts.set 0 (PV.sc (.string ((t1.headD default).toStr)))))).set x5.toNat (PV.agg (((PV.list (y0.items.set x5.toNat (PV.agg ((y0.elem x5.toNat).parts.set 0 (PV.sc (.string ((t1.headD default).toStr))))))).elem x5.toNat).parts.set 1 (PV.sc (.bool (decide ((Int.tmod (IntKind.i64.wrap (x1 + 1)) 3) = 0))))))).set x5.toNat (PV.agg (((PV.list ((y0.items.set x5.toNat (PV.agg ((y0.elem x5.toNat).parts.set 0 (PV.sc (.string ((t1.headD default).toStr)))))).set x5.toNat (PV.agg (((PV.list (y0.items.set x5.toNat (PV.agg ((y0.elem x5.toNat).parts.set 0 (PV.sc (.string ((t1.headD default).toStr))))))).elem x5.toNat).parts.set 1 (PV.sc (.bool (decide ((Int.tmod (IntKind.i64.wrap (x1 + 1)) 3) = 0)))))))).elem x5.toNat).parts.set 2 (PV.sc (.string ((t2.headD default).toStr)))))).set x5.toNat (PV.agg (((PV.list (((y0.items.set x5.toNat (PV.agg ((y0.elem x5.toNat).parts.set 0 (PV.sc (.string ((t1.headD default).toStr)))))).set x5.toNat (PV.agg (((PV.list (y0.items.set x5.toNat (PV.agg ((y0.elem x5.toNat).parts.set 0 (PV.sc (.string ((t1.headD default).toStr))))))).elem x5.toNat).parts.set 1 (PV.sc (.bool (decide ((Int.tmod (IntKind.i64.wrap (x1 + 1)) 3) = 0))))))).set x5.toNat (PV.agg (((PV.list ((y0.items.set x5.toNat (PV.agg ((y0.elem x5.toNat).parts.set 0 (PV.sc (.string ((t1.headD default).toStr)))))).set x5.toNat (PV.agg (((PV.list (y0.items.set x5.toNat (PV.agg ((y0.elem x5.toNat).parts.set 0 (PV.sc (.string ((t1.headD default).toStr))))))).elem x5.toNat).parts.set 1 (PV.sc (.bool (decide ((Int.tmod (IntKind.i64.wrap (x1 + 1)) 3) = 0)))))))).elem x5.toNat).parts.set 2 (PV.sc (.string ((t2.headD default).toStr))))))).elem x5.toNat).parts.set 3 (PV.sc (.string ((t3.headD default).toStr)))))).length : Int) then (laws_markAffixS.l1 N n (IntKind.i64.wrap ((IntKind.i64.wrap ((IntKind.i64.wrap ((IntKind.i64.wrap ((IntKind.i64.wrap (x1 + 1)) + 1)) + 1)) + 1)) + 1)) (IntKind.i64.wrap (x5 + 1)) (((((y0.items.set x5.toNat (PV.agg ((y0.elem x5.toNat).parts.set 0 (PV.sc (.string ((t1.headD default).toStr)))))).set x5.toNat (PV.agg (((PV.list (y0.items.set x5.toNat (PV.agg ((y0.elem x5.toNat).parts.set 0 (PV.sc (.string ((t1.headD default).toStr))))))).elem x5.toNat).parts.set 1 (PV.sc (.bool (decide ((Int.tmod (IntKind.i64.wrap (x1 + 1)) 3) = 0))))))).set x5.toNat (PV.agg (((PV.list ((y0.items.set x5.toNat (PV.agg ((y0.elem x5.toNat).parts.set 0 (PV.sc (.string ((t1.headD default).toStr)))))).set x5.toNat (PV.agg (((PV.list (y0.items.set x5.toNat (PV.agg ((y0.elem x5.toNat).parts.set 0 (PV.sc (.string ((t1.headD default).toStr))))))).elem x5.toNat).parts.set 1 (PV.sc (.bool (decide ((Int.tmod (IntKind.i64.wrap (x1 + 1)) 3) = 0)))))))).elem x5.toNat).parts.set 2 (PV.sc (.string ((t2.headD default).toStr)))))).set x5.toNat (PV.agg (((PV.list (((y0.items.set x5.toNat (PV.agg ((y0.elem x5.toNat).parts.set 0 (PV.sc (.string ((t1.headD default).toStr)))))).set x5.toNat (PV.agg (((PV.list (y0.items.set x5.toNat (PV.agg ((y0.elem x5.toNat).parts.set 0 (PV.sc (.string ((t1.headD default).toStr))))))).elem x5.toNat).parts.set 1 (PV.sc (.bool (decide ((Int.tmod (IntKind.i64.wrap (x1 + 1)) 3) = 0))))))).set x5.toNat (PV.agg (((PV.list ((y0.items.set x5.toNat (PV.agg ((y0.elem x5.toNat).parts.set 0 (PV.sc (.string ((t1.headD default).toStr)))))).set x5.toNat (PV.agg (((PV.list (y0.items.set x5.toNat (PV.agg ((y0.elem x5.toNat).parts.set 0 (PV.sc (.string ((t1.headD default).toStr))))))).elem x5.toNat).parts.set 1 (PV.sc (.bool (decide ((Int.tmod (IntKind.i64.wrap (x1 + 1)) 3) = 0)))))))).elem x5.toNat).parts.set 2 (PV.sc (.string ((t2.headD default).toStr))))))).elem x5.toNat).parts.set 3 (PV.sc (.string ((t3.headD default).toStr)))))).set x5.toNat (PV.agg (((PV.list ((((y0.items.set x5.toNat (PV.agg ((y0.elem x5.toNat).parts.set 0 (PV.sc (.string ((t1.headD default).toStr)))))).set x5.toNat (PV.agg (((PV.list (y0.items.set x5.toNat (PV.agg ((y0.elem x5.toNat).parts.set 0 (PV.sc (.string ((t1.headD default).toStr))))))).elem x5.toNat).parts.set 1 (PV.sc (.bool (decide ((Int.tmod (IntKind.i64.wrap (x1 + 1)) 3) = 0))))))).set x5.toNat (PV.agg (((PV.list ((y0.items.set x5.toNat (PV.agg ((y0.elem x5.toNat).parts.set 0 (PV.sc (.string ((t1.headD default).toStr)))))).set x5.toNat (PV.agg (((PV.list (y0.items.set x5.toNat (PV.agg ((y0.elem x5.toNat).parts.set 0 (PV.sc (.string ((t1.headD default).toStr))))))).elem x5.toNat).parts.set 1 (PV.sc (.bool (decide ((Int.tmod (IntKind.i64.wrap (x1 + 1)) 3) = 0)))))))).elem x5.toNat).parts.set 2 (PV.sc (.string ((t2.headD default).toStr)))))).set x5.toNat (PV.agg (((PV.list (((y0.items.set x5.toNat (PV.agg ((y0.elem x5.toNat).parts.set 0 (PV.sc (.string ((t1.headD default).toStr)))))).set x5.toNat (PV.agg (((PV.list (y0.items.set x5.toNat (PV.agg ((y0.elem x5.toNat).parts.set 0 (PV.sc (.string ((t1.headD default).toStr))))))).elem x5.toNat).parts.set 1 (PV.sc (.bool (decide ((Int.tmod (IntKind.i64.wrap (x1 + 1)) 3) = 0))))))).set x5.toNat (PV.agg (((PV.list ((y0.items.set x5.toNat (PV.agg ((y0.elem x5.toNat).parts.set 0 (PV.sc (.string ((t1.headD default).toStr)))))).set x5.toNat (PV.agg (((PV.list (y0.items.set x5.toNat (PV.agg ((y0.elem x5.toNat).parts.set 0 (PV.sc (.string ((t1.headD default).toStr))))))).elem x5.toNat).parts.set 1 (PV.sc (.bool (decide ((Int.tmod (IntKind.i64.wrap (x1 + 1)) 3) = 0)))))))).elem x5.toNat).parts.set 2 (PV.sc (.string ((t2.headD default).toStr))))))).elem x5.toNat).parts.set 3 (PV.sc (.string ((t3.headD default).toStr))))))).elem x5.toNat).parts.set 4 (PV.sc (.string ((t4.headD default).toStr))))))) else none) else none) else none) else none) else none) else none) else none) else none)) else none) else none) else (some [(PV.sc (.int .i64 x1)), y0]) := by kernel_rfl
theorem laws_markAffixS.l1_eq (N : Nat) (n : Nat) (x1 : Int) (x5 : Int) (y0 : List PV) : laws_markAffixS.l1 N (n + 1) x1 x5 y0 = if decide (x5 < (y0.length : Int)) = true then ((laws_markText.f N [(PV.sc (.int .i64 x1))]).bind fun t5 => if 0 ≤ x5 then (if x5 < (y0.length : Int) then (if 3 = 0 then none else (if 0 ≤ x5 then (if x5 < ((y0.set x5.toNat (PV.agg (((PV.list y0).elem x5.toNat).parts.set 0 (PV.sc (.string ((t5.headD default).toStr)))))).length : Int) then ((laws_markText.f N [(PV.sc (.int .i64 (IntKind.i64.wrap ((IntKind.i64.wrap (x1 + 1)) + 1))))]).bind fun t6 => if 0 ≤ x5 then (if x5 < (((y0.set x5.toNat (PV.agg (((PV.list y0).elem x5.toNat).parts.set 0 (PV.sc (.string ((t5.headD default).toStr)))))).set x5.toNat (PV.agg (((PV.list (y0.set x5.toNat (PV.agg (((PV.list y0).elem x5.toNat).parts.set 0 (PV.sc (.string ((t5.headD default).toStr))))))).elem x5.toNat).parts.set 1 (PV.sc (.bool (decide ((Int.tmod (IntKind.i64.wrap (x1 + 1)) 3) = 0))))))).length : Int) then ((laws_markText.f N [(PV.sc (.int .i64 (IntKind.i64.wrap ((IntKind.i64.wrap ((IntKind.i64.wrap (x1 + 1)) + 1)) + 1))))]).bind fun t7 => if 0 ≤ x5 then (if x5 < ((((y0.set x5.toNat (PV.agg (((PV.list y0).elem x5.toNat).parts.set 0 (PV.sc (.string ((t5.headD default).toStr)))))).set x5.toNat (PV.agg (((PV.list (y0.set x5.toNat (PV.agg (((PV.list y0).elem x5.toNat).parts.set 0 (PV.sc (.string ((t5.headD default).toStr))))))).elem x5.toNat).parts.set 1 (PV.sc (.bool (decide ((Int.tmod (IntKind.i64.wrap (x1 + 1)) 3) = 0))))))).set x5.toNat (PV.agg (((PV.list ((y0.set x5.toNat (PV.agg (((PV.list y0).elem x5.toNat).parts.set 0 (PV.sc (.string ((t5.headD default).toStr)))))).set x5.toNat (PV.agg (((PV.list (y0.set x5.toNat (PV.agg (((PV.list y0).elem x5.toNat).parts.set 0 (PV.sc (.string ((t5.headD default).toStr))))))).elem x5.toNat).parts.set 1 (PV.sc (.bool (decide ((Int.tmod (IntKind.i64.wrap (x1 + 1)) 3) = 0)))))))).elem x5.toNat).parts.set 2 (PV.sc (.string ((t6.headD default).toStr)))))).length : Int) then ((laws_markText.f N [(PV.sc (.int .i64 (IntKind.i64.wrap ((IntKind.i64.wrap ((IntKind.i64.wrap ((IntKind.i64.wrap (x1 + 1)) + 1)) + 1)) + 1))))]).bind fun t8 => if 0 ≤ x5 then (if x5 < (((((y0.set x5.toNat (PV.agg (((PV.list y0).elem x5.toNat).parts.set 0 (PV.sc (.string ((t5.headD default).toStr)))))).set x5.toNat (PV.agg (((PV.list (y0.set x5.toNat (PV.agg (((PV.list y0).elem x5.toNat).parts.set 0 (PV.sc (.string ((t5.headD default).toStr))))))).elem x5.toNat).parts.set 1 (PV.sc (.bool (decide ((Int.tmod (IntKind.i64.wrap (x1 + 1)) 3) = 0))))))).set x5.toNat (PV.agg (((PV.list ((y0.set x5.toNat (PV.agg (((PV.list y0).elem x5.toNat).parts.set 0 (PV.sc (.string ((t5.headD default).toStr)))))).set x5.toNat (PV.agg (((PV.list (y0.set x5.toNat (PV.agg (((PV.list y0).elem x5.toNat).parts.set 0 (PV.sc (.string ((t5.headD default).toStr))))))).elem x5.toNat).parts.set 1 (PV.sc (.bool (decide ((Int.tmod (IntKind.i64.wrap (x1 + 1)) 3) = 0)))))))).elem x5.toNat).parts.set 2 (PV.sc (.string ((t6.headD default).toStr)))))).set x5.toNat (PV.agg (((PV.list (((y0.set x5.toNat (PV.agg (((PV.list y0).elem x5.toNat).parts.set 0 (PV.sc (.string ((t5.headD default).toStr)))))).set x5.toNat (PV.agg (((PV.list (y0.set x5.toNat (PV.agg (((PV.list y0).elem x5.toNat).parts.set 0 (PV.sc (.string ((t5.headD default).toStr))))))).elem x5.toNat).parts.set 1 (PV.sc (.bool (decide ((Int.tmod (IntKind.i64.wrap (x1 + 1)) 3) = 0))))))).set x5.toNat (PV.agg (((PV.list ((y0.set x5.toNat (PV.agg (((PV.list y0).elem x5.toNat).parts.set 0 (PV.sc (.string ((t5.headD default).toStr)))))).set x5.toNat (PV.agg (((PV.list (y0.set x5.toNat (PV.agg (((PV.list y0).elem x5.toNat).parts.set 0 (PV.sc (.string ((t5.headD default).toStr))))))).elem x5.toNat).parts.set 1 (PV.sc (.bool (decide ((Int.tmod (IntKind.i64.wrap (x1 + 1)) 3) = 0)))))))).elem x5.toNat).parts.set 2 (PV.sc (.string ((t6.headD default).toStr))))))).elem x5.toNat).parts.set 3 (PV.sc (.string ((t7.headD default).toStr)))))).length : Int) then (laws_markAffixS.l1 N n (IntKind.i64.wrap ((IntKind.i64.wrap ((IntKind.i64.wrap ((IntKind.i64.wrap ((IntKind.i64.wrap (x1 + 1)) + 1)) + 1)) + 1)) + 1)) (IntKind.i64.wrap (x5 + 1)) (((((y0.set x5.toNat (PV.agg (((PV.list y0).elem x5.toNat).parts.set 0 (PV.sc (.string ((t5.headD default).toStr)))))).set x5.toNat (PV.agg (((PV.list (y0.set x5.toNat (PV.agg (((PV.list y0).elem x5.toNat).parts.set 0 (PV.sc (.string ((t5.headD default).toStr))))))).elem x5.toNat).parts.set 1 (PV.sc (.bool (decide ((Int.tmod (IntKind.i64.wrap (x1 + 1)) 3) = 0))))))).set x5.toNat (PV.agg (((PV.list ((y0.set x5.toNat (PV.agg (((PV.list y0).elem x5.toNat).parts.set 0 (PV.sc (.string ((t5.headD default).toStr)))))).set x5.toNat (PV.agg (((PV.list (y0.set x5.toNat (PV.agg (((PV.list y0).elem x5.toNat).parts.set 0 (PV.sc (.string ((t5.headD default).toStr))))))).elem x5.toNat).parts.set 1 (PV.sc (.bool (decide ((Int.tmod (IntKind.i64.wrap (x1 + 1)) 3) = 0)))))))).elem x5.toNat).parts.set 2 (PV.sc (.string ((t6.headD default).toStr)))))).set x5.toNat (PV.agg (((PV.list (((y0.set x5.toNat (PV.agg (((PV.list y0).elem x5.toNat).parts.set 0 (PV.sc (.string ((t5.headD default).toStr)))))).set x5.toNat (PV.agg (((PV.list (y0.set x5.toNat (PV.agg (((PV.list y0).elem x5.toNat).parts.set 0 (PV.sc (.string ((t5.headD default).toStr))))))).elem x5.toNat).parts.set 1 (PV.sc (.bool (decide ((Int.tmod (IntKind.i64.wrap (x1 + 1)) 3) = 0))))))).set x5.toNat (PV.agg (((PV.list ((y0.set x5.toNat (PV.agg (((PV.list y0).elem x5.toNat).parts.set 0 (PV.sc (.string ((t5.headD default).toStr)))))).set x5.toNat (PV.agg (((PV.list (y0.set x5.toNat (PV.agg (((PV.list y0).elem x5.toNat).parts.set 0 (PV.sc (.string ((t5.headD default).toStr))))))).elem x5.toNat).parts.set 1 (PV.sc (.bool (decide ((Int.tmod (IntKind.i64.wrap (x1 + 1)) 3) = 0)))))))).elem x5.toNat).parts.set 2 (PV.sc (.string ((t6.headD default).toStr))))))).elem x5.toNat).parts.set 3 (PV.sc (.string ((t7.headD default).toStr)))))).set x5.toNat (PV.agg (((PV.list ((((y0.set x5.toNat (PV.agg (((PV.list y0).elem x5.toNat).parts.set 0 (PV.sc (.string ((t5.headD default).toStr)))))).set x5.toNat (PV.agg (((PV.list (y0.set x5.toNat (PV.agg (((PV.list y0).elem x5.toNat).parts.set 0 (PV.sc (.string ((t5.headD default).toStr))))))).elem x5.toNat).parts.set 1 (PV.sc (.bool (decide ((Int.tmod (IntKind.i64.wrap (x1 + 1)) 3) = 0))))))).set x5.toNat (PV.agg (((PV.list ((y0.set x5.toNat (PV.agg (((PV.list y0).elem x5.toNat).parts.set 0 (PV.sc (.string ((t5.headD default).toStr)))))).set x5.toNat (PV.agg (((PV.list (y0.set x5.toNat (PV.agg (((PV.list y0).elem x5.toNat).parts.set 0 (PV.sc (.string ((t5.headD default).toStr))))))).elem x5.toNat).parts.set 1 (PV.sc (.bool (decide ((Int.tmod (IntKind.i64.wrap (x1 + 1)) 3) = 0)))))))).elem x5.toNat).parts.set 2 (PV.sc (.string ((t6.headD default).toStr)))))).set x5.toNat (PV.agg (((PV.list (((y0.set x5.toNat (PV.agg (((PV.list y0).elem x5.toNat).parts.set 0 (PV.sc (.string ((t5.headD default).toStr)))))).set x5.toNat (PV.agg (((PV.list (y0.set x5.toNat (PV.agg (((PV.list y0).elem x5.toNat).parts.set 0 (PV.sc (.string ((t5.headD default).toStr))))))).elem x5.toNat).parts.set 1 (PV.sc (.bool (decide ((Int.tmod (IntKind.i64.wrap (x1 + 1)) 3) = 0))))))).set x5.toNat (PV.agg (((PV.list ((y0.set x5.toNat (PV.agg (((PV.list y0).elem x5.toNat).parts.set 0 (PV.sc (.string ((t5.headD default).toStr)))))).set x5.toNat (PV.agg (((PV.list (y0.set x5.toNat (PV.agg (((PV.list y0).elem x5.toNat).parts.set 0 (PV.sc (.string ((t5.headD default).toStr))))))).elem x5.toNat).parts.set 1 (PV.sc (.bool (decide ((Int.tmod (IntKind.i64.wrap (x1 + 1)) 3) = 0)))))))).elem x5.toNat).parts.set 2 (PV.sc (.string ((t6.headD default).toStr))))))).elem x5.toNat).parts.set 3 (PV.sc (.string ((t7.headD default).toStr))))))).elem x5.toNat).parts.set 4 (PV.sc (.string ((t8.headD default).toStr))))))) else none) else none) else none) else none) else none) else none) else none) else none)) else none) else none) else (some [(PV.sc (.int .i64 x1)), (PV.list y0)]) := by kernel_rfl
noncomputable def laws_markAffixS.S (N : Nat) : ASpec := ⟨[(33, .mut), (3, .ro)], [(3, .val)], laws_markAffixS.f N⟩
theorem laws_markAffixS.ok (N : Nat) : FnOk Tryz.prog 50 (laws_markAffixS.S N) := fnOk_of (E := laws_markAffixS.E N) mix Tryz.func50 (by kernel_rfl) (by kernel_rfl) (by kernel_rfl) (lk_ok (all_cons (laws_markText.ok N) all_nil)) (by kernel_rfl) (fun _ _ h => h)

-- MODES: 51 loop.example/medlar/laws.markEntryS mut.ro
/-! ### laws_markEntryS: function 51, loop.example/medlar/laws.markEntryS -/
noncomputable def laws_markEntryS.E (N : Nat) : Env := ⟨lk [(92, laws_markText.S N)], nzk [(2, ⟨[2, 3, 4, 6, 7, 8, 9, 10, 11, 12, 13, 14, 15, 16, 17, 18, 19, 20, 21, 22, 23, 24, 25, 26, 27, 28], [], []⟩)], N, [(false, 32)], false⟩
noncomputable def laws_markEntryS.f (N : Nat) (a : List PV) : Option Res := run Tryz.prog (laws_markEntryS.E N) Tryz.f51 [(32, .mut), (3, .ro)] [(3, .val)] a
noncomputable def laws_markEntryS.l0 (N : Nat) (n : Nat) (x1 : Int) (x5 : Int) (y0 : PV) : Option Res := loopAt Tryz.prog (laws_markEntryS.E N) Tryz.f51 [(3, .val)] [1, 0, 1, 0] [] n ⟨mkSlots 29 [(0, .ref 0 []), (1, .sc (.int .i64 x1)), (5, .sc (.int .i64 x5))], ohOf [.row 32 y0]⟩
noncomputable def laws_markEntryS.l1 (N : Nat) (n : Nat) (x1 : Int) (x5 : Int) (y0 : List PV) : Option Res := loopAt Tryz.prog (laws_markEntryS.E N) Tryz.f51 [(3, .val)] [1, 0, 1, 0] [] n ⟨mkSlots 29 [(0, .ref 0 []), (1, .sc (.int .i64 x1)), (5, .sc (.int .i64 x5))], ohOf [.row 32 (PV.list y0)]⟩
theorem laws_markEntryS.f_eq (N : Nat) (a0 : PV) (a1 : PV) : laws_markEntryS.f N [a0, a1] = laws_markEntryS.l0 N N a1.toInt 0 a0 := by kernel_rfl
theorem laws_markEntryS.l0_eq (N : Nat) (n : Nat) (x1 : Int) (x5 : Int) (y0 : PV) : laws_markEntryS.l0 N (n + 1) x1 x5 y0 = if decide (x5 < (y0.items.length : Int)) = true then ((laws_markText.f N [(PV.sc (.int .i64 x1))]).bind fun t1 => if 0 ≤ x5 then (if x5 < (y0.items.length : Int) then ((laws_markText.f N [(PV.sc (.int .i64 (IntKind.i64.wrap (x1 + 1))))]).bind fun t2 => if 0 ≤ x5 then (if x5 < ((y0.items.set x5.toNat (PV.agg ((y0.elem x5.toNat).parts.set 0 (PV.sc (.string ((t1.headD default).toStr)))))).length : Int) then (laws_markEntryS.l1 N n (IntKind.i64.wrap ((IntKind.i64.wrap (x1 + 1)) + 1)) (IntKind.i64.wrap (x5 + 1)) ((y0.items.set x5.toNat (PV.agg ((y0.elem x5.toNat).parts.set 0 (PV.sc (.string ((t1.headD default).toStr)))))).set x5.toNat (PV.agg (((PV.list (y0.items.set x5.toNat (PV.agg ((y0.elem x5.toNat).parts.set 0 (PV.sc (.string ((t1.headD default).toStr))))))).elem x5.toNat).parts.set 1 (PV.sc (.string ((t2.headD default).toStr))))))) else none) else none) else none) else none) else (some [(PV.sc (.int .i64 x1)), y0]) := by kernel_rfl
theorem laws_markEntryS.l1_eq (N : Nat) (n : Nat) (x1 : Int) (x5 : Int) (y0 : List PV) : laws_markEntryS.l1 N (n + 1) x1 x5 y0 = if decide (x5 < (y0.length : Int)) = true then ((laws_markText.f N [(PV.sc (.int .i64 x1))]).bind fun t3 => if 0 ≤ x5 then (if x5 < (y0.length : Int) then ((laws_markText.f N [(PV.sc (.int .i64 (IntKind.i64.wrap (x1 + 1))))]).bind fun t4 => if 0 ≤ x5 then (if x5 < ((y0.set x5.toNat (PV.agg (((PV.list y0).elem x5.toNat).parts.set 0 (PV.sc (.string ((t3.headD default).toStr)))))).length : Int) then (laws_markEntryS.l1 N n (IntKind.i64.wrap ((IntKind.i64.wrap (x1 + 1)) + 1)) (IntKind.i64.wrap (x5 + 1)) ((y0.set x5.toNat (PV.agg (((PV.list y0).elem x5.toNat).parts.set 0 (PV.sc (.string ((t3.headD default).toStr)))))).set x5.toNat (PV.agg (((PV.list (y0.set x5.toNat (PV.agg (((PV.list y0).elem x5.toNat).parts.set 0 (PV.sc (.string ((t3.headD default).toStr))))))).elem x5.toNat).parts.set 1 (PV.sc (.string ((t4.headD default).toStr))))))) else none) else none) else none) else none) else (some [(PV.sc (.int .i64 x1)), (PV.list y0)]) := by kernel_rfl
noncomputable def laws_markEntryS.S (N : Nat) : ASpec := ⟨[(32, .mut), (3, .ro)], [(3, .val)], laws_markEntryS.f N⟩
theorem laws_markEntryS.ok (N : Nat) : FnOk Tryz.prog 51 (laws_markEntryS.S N) := fnOk_of (E := laws_markEntryS.E N) mix Tryz.func51 (by kernel_rfl) (by kernel_rfl) (by kernel_rfl) (lk_ok (all_cons (laws_markText.ok N) all_nil)) (by kernel_rfl) (fun _ _ h => h)

-- MODES: 16 loop.example/medlar/laws.markBook mut2.ro
/-! ### laws_markBook: function 16, loop.example/medlar/laws.markBook -/
noncomputable def laws_markBook.E (N : Nat) : Env := ⟨lk [(50, laws_markAffixS.S N), (51, laws_markEntryS.S N)], nzk [], N, [(false, 33), (false, 32)], false⟩
noncomputable def laws_markBook.f (N : Nat) (a : List PV) : Option Res := run Tryz.prog (laws_markBook.E N) Tryz.f16 [(43, .mut2), (3, .ro)] [(3, .val)] a
theorem laws_markBook.f_eq (N : Nat) (a0 : PV) (a1 : PV) : laws_markBook.f N [a0, a1] = (laws_markAffixS.f N [a0.fld 0, (PV.sc (.int .i64 a1.toInt))]).bind fun t1 => (laws_markEntryS.f N [a0.fld 1, (PV.sc (.int .i64 ((t1.headD default).toInt)))]).bind fun t2 => some [(PV.sc (.int .i64 ((t2.headD default).toInt))), (t1.tail.headD default), (t2.tail.headD default)] := by kernel_rfl
noncomputable def laws_markBook.S (N : Nat) : ASpec := ⟨[(43, .mut2), (3, .ro)], [(3, .val)], laws_markBook.f N⟩
theorem laws_markBook.ok (N : Nat) : FnOk Tryz.prog 16 (laws_markBook.S N) := fnOk_of (E := laws_markBook.E N) mix Tryz.func16 (by kernel_rfl) (by kernel_rfl) (by kernel_rfl) (lk_ok (all_cons (laws_markAffixS.ok N) (all_cons (laws_markEntryS.ok N) all_nil))) (by kernel_rfl) (fun _ _ h => h)

-- MODES: 52 loop.example/medlar/laws.markDelta own.ro
/-! ### laws_markDelta: function 52, loop.example/medlar/laws.markDelta -/
noncomputable def laws_markDelta.E (N : Nat) : Env := ⟨lk [(48, laws_markStringS.S N), (51, laws_markEntryS.S N), (50, laws_markAffixS.S N)], nzk [], N, [], false⟩
noncomputable def laws_markDelta.f (N : Nat) (a : List PV) : Option Res := run Tryz.prog (laws_markDelta.E N) Tryz.f52 [(35, .own), (3, .ro)] [(3, .val)] a
theorem laws_markDelta.f_eq (N : Nat) (a0 : PV) (a1 : PV) : laws_markDelta.f N [a0, a1] = (laws_markStringS.f N [a0.fld 0, (PV.sc (.int .i64 a1.toInt))]).bind fun t1 => (laws_markEntryS.f N [a0.fld 1, (PV.sc (.int .i64 ((t1.headD default).toInt)))]).bind fun t2 => (laws_markAffixS.f N [a0.fld 3, (PV.sc (.int .i64 ((t2.headD default).toInt)))]).bind fun t3 => some [(PV.sc (.int .i64 ((t3.headD default).toInt)))] := by kernel_rfl
noncomputable def laws_markDelta.S (N : Nat) : ASpec := ⟨[(35, .own), (3, .ro)], [(3, .val)], laws_markDelta.f N⟩
theorem laws_markDelta.ok (N : Nat) : FnOk Tryz.prog 52 (laws_markDelta.S N) := fnOk_of (E := laws_markDelta.E N) mix Tryz.func52 (by kernel_rfl) (by kernel_rfl) (by kernel_rfl) (lk_ok (all_cons (laws_markStringS.ok N) (all_cons (laws_markEntryS.ok N) (all_cons (laws_markAffixS.ok N) all_nil)))) (by kernel_rfl) (fun _ _ h => h)

-- MODES: 17 loop.example/medlar/laws.markRelease own.ro
/-! ### laws_markRelease: function 17, loop.example/medlar/laws.markRelease -/
noncomputable def laws_markRelease.E (N : Nat) : Env := ⟨lk [(52, laws_markDelta.S N)], nzk [], N, [], false⟩
noncomputable def laws_markRelease.f (N : Nat) (a : List PV) : Option Res := run Tryz.prog (laws_markRelease.E N) Tryz.f17 [(37, .own), (3, .ro)] [(3, .val)] a
theorem laws_markRelease.f_eq (N : Nat) (a0 : PV) (a1 : PV) : laws_markRelease.f N [a0, a1] = (laws_markDelta.f N [(PV.agg [(a0.fld 1).fld 0, (a0.fld 1).fld 1, (PV.sc (.bool (((a0.fld 1).fld 2).toBool))), (a0.fld 1).fld 3]), (PV.sc (.int .i64 a1.toInt))]).bind fun t1 => some [(PV.sc (.int .i64 ((t1.headD default).toInt)))] := by kernel_rfl
noncomputable def laws_markRelease.S (N : Nat) : ASpec := ⟨[(37, .own), (3, .ro)], [(3, .val)], laws_markRelease.f N⟩
theorem laws_markRelease.ok (N : Nat) : FnOk Tryz.prog 17 (laws_markRelease.S N) := fnOk_of (E := laws_markRelease.E N) mix Tryz.func17 (by kernel_rfl) (by kernel_rfl) (by kernel_rfl) (lk_ok (all_cons (laws_markDelta.ok N) all_nil)) (by kernel_rfl) (fun _ _ h => h)

/-! ### laws_heldAffixS: function 61, loop.example/medlar/laws.heldAffixS -/
noncomputable def laws_heldAffixS.E (N : Nat) : Env := ⟨lk [(92, laws_markText.S N)], nzk [(2, ⟨[2, 3, 4, 6, 7, 8, 9, 10, 11, 12, 13, 14, 15, 16, 17, 18, 19, 20, 21, 22, 23, 24, 25, 26, 27, 28, 29, 30, 31, 32, 33, 34, 35, 36, 37, 38, 39, 40, 41, 42, 43, 44, 45, 46, 47, 48, 49, 50, 51, 52, 53, 54, 55, 56, 57, 58, 59, 60, 61, 62, 63], [], []⟩)], N, [], false⟩
noncomputable def laws_heldAffixS.f (N : Nat) (a : List PV) : Option Res := run Tryz.prog (laws_heldAffixS.E N) Tryz.f61 [(33, .ro), (3, .ro)] [(3, .val)] a
noncomputable def laws_heldAffixS.l0 (N : Nat) (n : Nat) (x0 : PV) (x1 : Int) (x5 : Int) : Option Res := loopAt Tryz.prog (laws_heldAffixS.E N) Tryz.f61 [(3, .val)] [1, 0, 1, 0] [] n ⟨mkSlots 64 [(0, .ro 33 x0), (1, .sc (.int .i64 x1)), (5, .sc (.int .i64 x5))], ohOf []⟩
theorem laws_heldAffixS.f_eq (N : Nat) (a0 : PV) (a1 : PV) : laws_heldAffixS.f N [a0, a1] = laws_heldAffixS.l0 N N a0 a1.toInt 0 := by kernel_rfl
theorem laws_heldAffixS.l0_eq (N : Nat) (n : Nat) (x0 : PV) (x1 : Int) (x5 : Int) : laws_heldAffixS.l0 N (n + 1) x0 x1 x5 = if decide (x5 < (x0.items.length : Int)) = true then (if 0 ≤ x5 then (if x5 < (x0.items.length : Int) then ((laws_markText.f N [(PV.sc (.int .i64 x1))]).bind fun t1 => if (!decide ((((x0.elem x5.toNat).fld 0).toStr).toList = ((t1.headD default).toStr).toList)) = true then (some [(PV.sc (.int .i64 (-1)))]) else (if 0 ≤ x5 then (if x5 < (x0.items.length : Int) then (if 3 = 0 then none else (if ((((x0.elem x5.toNat).fld 1).toBool) != (decide ((Int.tmod (IntKind.i64.wrap (x1 + 1)) 3) = 0))) = true then (some [(PV.sc (.int .i64 (-1)))]) else (if 0 ≤ x5 then (if x5 < (x0.items.length : Int) then ((laws_markText.f N [(PV.sc (.int .i64 (IntKind.i64.wrap ((IntKind.i64.wrap (x1 + 1)) + 1))))]).bind fun t2 => if (!decide ((((x0.elem x5.toNat).fld 2).toStr).toList = ((t2.headD default).toStr).toList)) = true then (some [(PV.sc (.int .i64 (-1)))]) else (if 0 ≤ x5 then (if x5 < (x0.items.length : Int) then ((laws_markText.f N [(PV.sc (.int .i64 (IntKind.i64.wrap ((IntKind.i64.wrap ((IntKind.i64.wrap (x1 + 1)) + 1)) + 1))))]).bind fun t3 => if (!decide ((((x0.elem x5.toNat).fld 3).toStr).toList = ((t3.headD default).toStr).toList)) = true then (some [(PV.sc (.int .i64 (-1)))]) else (if 0 ≤ x5 then (if x5 < (x0.items.length : Int) then ((laws_markText.f N [(PV.sc (.int .i64 (IntKind.i64.wrap ((IntKind.i64.wrap ((IntKind.i64.wrap ((IntKind.i64.wrap (x1 + 1)) + 1)) + 1)) + 1))))]).bind fun t4 => if (!decide ((((x0.elem x5.toNat).fld 4).toStr).toList = ((t4.headD default).toStr).toList)) = true then (some [(PV.sc (.int .i64 (-1)))]) else (laws_heldAffixS.l0 N n x0 (IntKind.i64.wrap ((IntKind.i64.wrap ((IntKind.i64.wrap ((IntKind.i64.wrap ((IntKind.i64.wrap (x1 + 1)) + 1)) + 1)) + 1)) + 1)) (IntKind.i64.wrap (x5 + 1)))) else none) else none)) else none) else none)) else none) else none))) else none) else none)) else none) else none) else (some [(PV.sc (.int .i64 x1))]) := by kernel_rfl
noncomputable def laws_heldAffixS.S (N : Nat) : ASpec := ⟨[(33, .ro), (3, .ro)], [(3, .val)], laws_heldAffixS.f N⟩
theorem laws_heldAffixS.ok (N : Nat) : FnOk Tryz.prog 61 (laws_heldAffixS.S N) := fnOk_of (E := laws_heldAffixS.E N) mix Tryz.func61 (by kernel_rfl) (by kernel_rfl) (by kernel_rfl) (lk_ok (all_cons (laws_markText.ok N) all_nil)) (by kernel_rfl) (fun _ _ h => h)

/-! ### laws_heldEntryS: function 62, loop.example/medlar/laws.heldEntryS -/
noncomputable def laws_heldEntryS.E (N : Nat) : Env := ⟨lk [(92, laws_markText.S N)], nzk [(2, ⟨[2, 3, 4, 6, 7, 8, 9, 10, 11, 12, 13, 14, 15, 16, 17, 18, 19, 20, 21, 22, 23, 24, 25, 26, 27, 28, 29, 30, 31, 32], [], []⟩)], N, [], false⟩
noncomputable def laws_heldEntryS.f (N : Nat) (a : List PV) : Option Res := run Tryz.prog (laws_heldEntryS.E N) Tryz.f62 [(32, .ro), (3, .ro)] [(3, .val)] a
noncomputable def laws_heldEntryS.l0 (N : Nat) (n : Nat) (x0 : PV) (x1 : Int) (x5 : Int) : Option Res := loopAt Tryz.prog (laws_heldEntryS.E N) Tryz.f62 [(3, .val)] [1, 0, 1, 0] [] n ⟨mkSlots 33 [(0, .ro 32 x0), (1, .sc (.int .i64 x1)), (5, .sc (.int .i64 x5))], ohOf []⟩
theorem laws_heldEntryS.f_eq (N : Nat) (a0 : PV) (a1 : PV) : laws_heldEntryS.f N [a0, a1] = laws_heldEntryS.l0 N N a0 a1.toInt 0 := by kernel_rfl
theorem laws_heldEntryS.l0_eq (N : Nat) (n : Nat) (x0 : PV) (x1 : Int) (x5 : Int) : laws_heldEntryS.l0 N (n + 1) x0 x1 x5 = if decide (x5 < (x0.items.length : Int)) = true then (if 0 ≤ x5 then (if x5 < (x0.items.length : Int) then ((laws_markText.f N [(PV.sc (.int .i64 x1))]).bind fun t1 => if (!decide ((((x0.elem x5.toNat).fld 0).toStr).toList = ((t1.headD default).toStr).toList)) = true then (some [(PV.sc (.int .i64 (-1)))]) else (if 0 ≤ x5 then (if x5 < (x0.items.length : Int) then ((laws_markText.f N [(PV.sc (.int .i64 (IntKind.i64.wrap (x1 + 1))))]).bind fun t2 => if (!decide ((((x0.elem x5.toNat).fld 1).toStr).toList = ((t2.headD default).toStr).toList)) = true then (some [(PV.sc (.int .i64 (-1)))]) else (laws_heldEntryS.l0 N n x0 (IntKind.i64.wrap ((IntKind.i64.wrap (x1 + 1)) + 1)) (IntKind.i64.wrap (x5 + 1)))) else none) else none)) else none) else none) else (some [(PV.sc (.int .i64 x1))]) := by kernel_rfl
noncomputable def laws_heldEntryS.S (N : Nat) : ASpec := ⟨[(32, .ro), (3, .ro)], [(3, .val)], laws_heldEntryS.f N⟩
theorem laws_heldEntryS.ok (N : Nat) : FnOk Tryz.prog 62 (laws_heldEntryS.S N) := fnOk_of (E := laws_heldEntryS.E N) mix Tryz.func62 (by kernel_rfl) (by kernel_rfl) (by kernel_rfl) (lk_ok (all_cons (laws_markText.ok N) all_nil)) (by kernel_rfl) (fun _ _ h => h)

/-! ### laws_heldBook: function 23, loop.example/medlar/laws.heldBook -/
noncomputable def laws_heldBook.E (N : Nat) : Env := ⟨lk [(61, laws_heldAffixS.S N), (62, laws_heldEntryS.S N)], nzk [], N, [], false⟩
noncomputable def laws_heldBook.f (N : Nat) (a : List PV) : Option Res := run Tryz.prog (laws_heldBook.E N) Tryz.f23 [(43, .ro), (3, .ro)] [(3, .val)] a
theorem laws_heldBook.f_eq (N : Nat) (a0 : PV) (a1 : PV) : laws_heldBook.f N [a0, a1] = (laws_heldAffixS.f N [a0.fld 0, (PV.sc (.int .i64 a1.toInt))]).bind fun t1 => if decide (((t1.headD default).toInt) < 0) = true then (some [(PV.sc (.int .i64 (-1)))]) else ((laws_heldEntryS.f N [a0.fld 1, (PV.sc (.int .i64 ((t1.headD default).toInt)))]).bind fun t2 => if decide (((t2.headD default).toInt) < 0) = true then (some [(PV.sc (.int .i64 (-1)))]) else (some [(PV.sc (.int .i64 ((t2.headD default).toInt)))])) := by kernel_rfl
noncomputable def laws_heldBook.S (N : Nat) : ASpec := ⟨[(43, .ro), (3, .ro)], [(3, .val)], laws_heldBook.f N⟩
theorem laws_heldBook.ok (N : Nat) : FnOk Tryz.prog 23 (laws_heldBook.S N) := fnOk_of (E := laws_heldBook.E N) mix Tryz.func23 (by kernel_rfl) (by kernel_rfl) (by kernel_rfl) (lk_ok (all_cons (laws_heldAffixS.ok N) (all_cons (laws_heldEntryS.ok N) all_nil))) (by kernel_rfl) (fun _ _ h => h)

/-! ### laws_FnExactRingDo: function 4, loop.example/medlar/laws.FnExactRingDo -/
noncomputable def laws_FnExactRingDo.E (N : Nat) : Env := ⟨lk [(6, laws_szRing.S N), (7, laws_szBook.S N), (19, laws_szRelease.S N), (9, laws_toRing.S N), (10, laws_toBook.S N), (21, laws_toRelease.S N), (20, spec_RingDo.S N), (22, impl_RingDo.S N), (14, laws_eqBook.S N), (13, laws_eqRing.S N), (12, laws_eqRelease.S N), (15, laws_markRing.S N), (16, laws_markBook.S N), (17, laws_markRelease.S N), (23, laws_heldBook.S N)], nzk [], N, [], false⟩
noncomputable def laws_FnExactRingDo.f (N : Nat) (a : List PV) : Option Res := run Tryz.prog (laws_FnExactRingDo.E N) Tryz.f4 [(25, .ro), (3, .ro), (29, .ro), (55, .ro)] [(4, .val)] a
theorem laws_FnExactRingDo.f_eq (N : Nat) (a0 : PV) (a1 : PV) (a2 : PV) (a3 : PV) : laws_FnExactRingDo.f N [a0, a1, a2, a3] = (laws_szRing.f N [(PV.agg [a0.fld 0, a0.fld 1]), (PV.sc (.int .i64 1048576))]).bind fun t1 => if decide (((t1.headD default).toInt) < 0) = true then (some [(PV.sc (.bool true))]) else ((laws_szBook.f N [(PV.agg [a2.fld 0, a2.fld 1]), (PV.sc (.int .i64 ((t1.headD default).toInt)))]).bind fun t2 => if decide (((t2.headD default).toInt) < 0) = true then (some [(PV.sc (.bool true))]) else ((laws_szRelease.f N [(PV.agg [(PV.sc (.int .i64 ((a3.fld 0).toInt))), (PV.agg [(a3.fld 1).fld 0, (a3.fld 1).fld 1, (PV.sc (.bool (((a3.fld 1).fld 2).toBool))), (a3.fld 1).fld 3]), (PV.sc (.string ((a3.fld 2).toStr))), (PV.sc (.string ((a3.fld 3).toStr)))]), (PV.sc (.int .i64 ((t2.headD default).toInt)))]).bind fun t3 => if decide (((t3.headD default).toInt) < 0) = true then (some [(PV.sc (.bool true))]) else ((laws_toRing.f N [(PV.agg [a0.fld 0, a0.fld 1])]).bind fun t4 => (laws_toBook.f N [(PV.agg [a2.fld 0, a2.fld 1])]).bind fun t5 => (laws_toRelease.f N [(PV.agg [(PV.sc (.int .i64 ((a3.fld 0).toInt))), (PV.agg [(a3.fld 1).fld 0, (a3.fld 1).fld 1, (PV.sc (.bool (((a3.fld 1).fld 2).toBool))), (a3.fld 1).fld 3]), (PV.sc (.string ((a3.fld 2).toStr))), (PV.sc (.string ((a3.fld 3).toStr)))])]).bind fun t6 => (spec_RingDo.f N [(PV.agg [(t4.headD default).fld 0, (t4.headD default).fld 1]), (PV.sc (.int .i64 a1.toInt)), (PV.agg [(t5.headD default).fld 0, (t5.headD default).fld 1]), (PV.agg [(PV.sc (.int .i64 (((t6.headD default).fld 0).toInt))), (PV.agg [((t6.headD default).fld 1).fld 0, ((t6.headD default).fld 1).fld 1, (PV.sc (.bool ((((t6.headD default).fld 1).fld 2).toBool))), ((t6.headD default).fld 1).fld 3]), (PV.sc (.string (((t6.headD default).fld 2).toStr))), (PV.sc (.string (((t6.headD default).fld 3).toStr)))])]).bind fun t7 => (laws_toRing.f N [(PV.agg [a0.fld 0, a0.fld 1])]).bind fun t8 => (laws_toBook.f N [(PV.agg [a2.fld 0, a2.fld 1])]).bind fun t9 => (laws_toRelease.f N [(PV.agg [(PV.sc (.int .i64 ((a3.fld 0).toInt))), (PV.agg [(a3.fld 1).fld 0, (a3.fld 1).fld 1, (PV.sc (.bool (((a3.fld 1).fld 2).toBool))), (a3.fld 1).fld 3]), (PV.sc (.string ((a3.fld 2).toStr))), (PV.sc (.string ((a3.fld 3).toStr)))])]).bind fun t10 => (impl_RingDo.f N [(PV.agg [(t8.headD default).fld 0, (t8.headD default).fld 1]), (PV.sc (.int .i64 a1.toInt)), (PV.agg [(t9.headD default).fld 0, (t9.headD default).fld 1]), (PV.agg [(PV.sc (.int .i64 (((t10.headD default).fld 0).toInt))), (PV.agg [((t10.headD default).fld 1).fld 0, ((t10.headD default).fld 1).fld 1, (PV.sc (.bool ((((t10.headD default).fld 1).fld 2).toBool))), ((t10.headD default).fld 1).fld 3]), (PV.sc (.string (((t10.headD default).fld 2).toStr))), (PV.sc (.string (((t10.headD default).fld 3).toStr)))])]).bind fun t11 => (laws_eqBook.f N [(PV.agg [(t11.headD default).fld 0, (t11.headD default).fld 1]), (PV.agg [(t7.headD default).fld 0, (t7.headD default).fld 1])]).bind fun t12 => if (!((t12.headD default).toBool)) = false then (if (((t11.tail.headD default).toBool) != ((t7.tail.headD default).toBool)) = true then (some [(PV.sc (.bool false))]) else ((laws_toRing.f N [(PV.agg [a0.fld 0, a0.fld 1])]).bind fun t13 => (laws_eqRing.f N [(PV.agg [(t8.headD default).fld 0, (t8.headD default).fld 1]), (PV.agg [(t13.headD default).fld 0, (t13.headD default).fld 1])]).bind fun t14 => if (!((t14.headD default).toBool)) = true then (some [(PV.sc (.bool false))]) else ((laws_toBook.f N [(PV.agg [a2.fld 0, a2.fld 1])]).bind fun t15 => (laws_eqBook.f N [(PV.agg [(t9.headD default).fld 0, (t9.headD default).fld 1]), (PV.agg [(t15.headD default).fld 0, (t15.headD default).fld 1])]).bind fun t16 => if (!((t16.headD default).toBool)) = true then (some [(PV.sc (.bool false))]) else ((laws_toRelease.f N [(PV.agg [(PV.sc (.int .i64 ((a3.fld 0).toInt))), (PV.agg [(a3.fld 1).fld 0, (a3.fld 1).fld 1, (PV.sc (.bool (((a3.fld 1).fld 2).toBool))), (a3.fld 1).fld 3]), (PV.sc (.string ((a3.fld 2).toStr))), (PV.sc (.string ((a3.fld 3).toStr)))])]).bind fun t17 => (laws_eqRelease.f N [(PV.agg [(PV.sc (.int .i64 (((t10.headD default).fld 0).toInt))), (PV.agg [((t10.headD default).fld 1).fld 0, ((t10.headD default).fld 1).fld 1, (PV.sc (.bool ((((t10.headD default).fld 1).fld 2).toBool))), ((t10.headD default).fld 1).fld 3]), (PV.sc (.string (((t10.headD default).fld 2).toStr))), (PV.sc (.string (((t10.headD default).fld 3).toStr)))]), (PV.agg [(PV.sc (.int .i64 (((t17.headD default).fld 0).toInt))), (PV.agg [((t17.headD default).fld 1).fld 0, ((t17.headD default).fld 1).fld 1, (PV.sc (.bool ((((t17.headD default).fld 1).fld 2).toBool))), ((t17.headD default).fld 1).fld 3]), (PV.sc (.string (((t17.headD default).fld 2).toStr))), (PV.sc (.string (((t17.headD default).fld 3).toStr)))])]).bind fun t18 => if (!((t18.headD default).toBool)) = true then (some [(PV.sc (.bool false))]) else ((laws_markRing.f N [(PV.agg [(t8.headD default).fld 0, (t8.headD default).fld 1]), (PV.sc (.int .i64 1))]).bind fun t19 => (laws_markBook.f N [(PV.agg [(t9.headD default).fld 0, (t9.headD default).fld 1]), (PV.sc (.int .i64 ((t19.headD default).toInt)))]).bind fun t20 => (laws_markRelease.f N [(PV.agg [(PV.sc (.int .i64 (((t10.headD default).fld 0).toInt))), (PV.agg [((t10.headD default).fld 1).fld 0, ((t10.headD default).fld 1).fld 1, (PV.sc (.bool ((((t10.headD default).fld 1).fld 2).toBool))), ((t10.headD default).fld 1).fld 3]), (PV.sc (.string (((t10.headD default).fld 2).toStr))), (PV.sc (.string (((t10.headD default).fld 3).toStr)))]), (PV.sc (.int .i64 ((t20.headD default).toInt)))]).bind fun t21 => if decide (((t21.headD default).toInt) < 0) = false then ((laws_eqBook.f N [(PV.agg [(t11.headD default).fld 0, (t11.headD default).fld 1]), (PV.agg [(t7.headD default).fld 0, (t7.headD default).fld 1])]).bind fun t22 => if (!((t22.headD default).toBool)) = false then (if (((t11.tail.headD default).toBool) != ((t7.tail.headD default).toBool)) = true then (some [(PV.sc (.bool false))]) else ((laws_markBook.f N [(PV.agg [(t11.headD default).fld 0, (t11.headD default).fld 1]), (PV.sc (.int .i64 1))]).bind fun t23 => (laws_heldBook.f N [(PV.agg [(t23.tail.headD default), (t23.tail.tail.headD default)]), (PV.sc (.int .i64 1))]).bind fun t24 => if decide (((t24.headD default).toInt) < 0) = true then (some [(PV.sc (.bool false))]) else (if (!decide (((t24.headD default).toInt) = ((t23.headD default).toInt))) = true then (some [(PV.sc (.bool false))]) else ((laws_toRing.f N [(PV.agg [a0.fld 0, a0.fld 1])]).bind fun t25 => (laws_toBook.f N [(PV.agg [a2.fld 0, a2.fld 1])]).bind fun t26 => (laws_toRelease.f N [(PV.agg [(PV.sc (.int .i64 ((a3.fld 0).toInt))), (PV.agg [(a3.fld 1).fld 0, (a3.fld 1).fld 1, (PV.sc (.bool (((a3.fld 1).fld 2).toBool))), (a3.fld 1).fld 3]), (PV.sc (.string ((a3.fld 2).toStr))), (PV.sc (.string ((a3.fld 3).toStr)))])]).bind fun t27 => (impl_RingDo.f N [(PV.agg [(t25.headD default).fld 0, (t25.headD default).fld 1]), (PV.sc (.int .i64 a1.toInt)), (PV.agg [(t26.headD default).fld 0, (t26.headD default).fld 1]), (PV.agg [(PV.sc (.int .i64 (((t27.headD default).fld 0).toInt))), (PV.agg [((t27.headD default).fld 1).fld 0, ((t27.headD default).fld 1).fld 1, (PV.sc (.bool ((((t27.headD default).fld 1).fld 2).toBool))), ((t27.headD default).fld 1).fld 3]), (PV.sc (.string (((t27.headD default).fld 2).toStr))), (PV.sc (.string (((t27.headD default).fld 3).toStr)))])]).bind fun t28 => (laws_eqBook.f N [(PV.agg [(t28.headD default).fld 0, (t28.headD default).fld 1]), (PV.agg [(t7.headD default).fld 0, (t7.headD default).fld 1])]).bind fun t29 => if (!((t29.headD default).toBool)) = false then (if (((t28.tail.headD default).toBool) != ((t7.tail.headD default).toBool)) = true then (some [(PV.sc (.bool false))]) else ((laws_heldBook.f N [(PV.agg [(t23.tail.headD default), (t23.tail.tail.headD default)]), (PV.sc (.int .i64 1))]).bind fun t30 => if decide (((t30.headD default).toInt) < 0) = true then (some [(PV.sc (.bool false))]) else (if (!decide (((t30.headD default).toInt) = ((t23.headD default).toInt))) = true then (some [(PV.sc (.bool false))]) else (some [(PV.sc (.bool true))])))) else (some [(PV.sc (.bool false))]))))) else (some [(PV.sc (.bool false))])) else (some [(PV.sc (.bool false))])))))) else (some [(PV.sc (.bool false))])))) := by kernel_rfl
noncomputable def laws_FnExactRingDo.S (N : Nat) : ASpec := ⟨[(25, .ro), (3, .ro), (29, .ro), (55, .ro)], [(4, .val)], laws_FnExactRingDo.f N⟩
theorem laws_FnExactRingDo.ok (N : Nat) : FnOk Tryz.prog 4 (laws_FnExactRingDo.S N) := fnOk_of (E := laws_FnExactRingDo.E N) mix Tryz.func4 (by kernel_rfl) (by kernel_rfl) (by kernel_rfl) (lk_ok (all_cons (laws_szRing.ok N) (all_cons (laws_szBook.ok N) (all_cons (laws_szRelease.ok N) (all_cons (laws_toRing.ok N) (all_cons (laws_toBook.ok N) (all_cons (laws_toRelease.ok N) (all_cons (spec_RingDo.ok N) (all_cons (impl_RingDo.ok N) (all_cons (laws_eqBook.ok N) (all_cons (laws_eqRing.ok N) (all_cons (laws_eqRelease.ok N) (all_cons (laws_markRing.ok N) (all_cons (laws_markBook.ok N) (all_cons (laws_markRelease.ok N) (all_cons (laws_heldBook.ok N) all_nil)))))))))))))))) (by kernel_rfl) (fun _ _ h => h)

end Go.Proofs.YtjfigkikhmffpaaGreatDoor.FnExactRingDo
