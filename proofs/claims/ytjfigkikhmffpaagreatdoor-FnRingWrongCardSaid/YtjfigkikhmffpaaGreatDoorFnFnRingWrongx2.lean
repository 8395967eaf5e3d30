/- What each function that the law FnRingWrong reaches computes, as trees, part 2: no conditions. -/
import Derived.Test.YtjfigkikhmffpaaGreatDoorLib471112
import Derived.Test.YtjfigkikhmffpaaGreatDoorProg
import Derived.BigCall
import Derived.Deep.RegionHeld3
import Derived.Lib.SliceRun
import Derived.Lib.Small
import Derived.Lib.Walk
import Derived.Shelf.SlSortCmp.NoneTotal
import Derived.Shelf.SlicesQ.IndexFunc
import Derived.WalkKit
import Derived.Test.YtjfigkikhmffpaaGreatDoorFnFnRingWrongx1
set_option maxRecDepth 100000
set_option linter.unusedVariables false
namespace Go.Proofs.YtjfigkikhmffpaaGreatDoor.FnRingWrong
open Go Go.Proofs.YtjfigkikhmffpaaGreatDoorAm
/-! ### impl_entryAt: function 130, loop.example/medlar/impl.entryAt, walked by hand -/
section
open Go.RowKit Go.Proofs Go.Lib
section
open Go.Shelf
def laysIF_ren : Go.Shelf.Ren := ⟨fun | 6 => 155 | n => n, fun | 22 => 32 | 23 => 99 | 25 => 100 | 3 => 3 | 0 => 0 | 4 => 4 | n => n, fun | n => n⟩
theorem laysIF : Go.Proofs.SlLaysH0.n6 Tryz.prog laysIF_ren := {
  mixed := by kernel_rfl
  f6 := ⟨Tryz.f155.name, by decide, Tryz.func155.trans (congrArg some (by kernel_rfl))⟩
  t0 := Tryz.underlying0
  a0 := Tryz.isAgg0
  z0 := Tryz.sizeOf0
  v0 := Tryz.zeroValue0
  t3 := Tryz.underlying3
  a3 := Tryz.isAgg3
  z3 := Tryz.sizeOf3
  v3 := Tryz.zeroValue3
  t4 := Tryz.underlying4
  a4 := Tryz.isAgg4
  z4 := Tryz.sizeOf4
  v4 := Tryz.zeroValue4
  t22 := Tryz.underlying32
  a22 := Tryz.isAgg32
  z22 := Tryz.sizeOf32
  v22 := Tryz.zeroValue32
  t25 := Tryz.underlying100
  a25 := Tryz.isAgg100
  z25 := Tryz.sizeOf100
  v25 := Tryz.zeroValue100 }

end
def encE (x : ByteArray × ByteArray) : List Value := [.string x.1, .string x.2]
def ent2P (x : ByteArray × ByteArray) : PV := .agg [strP x.1, strP x.2]
def toEnt2 (p : PV) : ByteArray × ByteArray := ((p.fld 0).toStr, (p.fld 1).toStr)
theorem toEnt2_ent2P (x : ByteArray × ByteArray) : toEnt2 (ent2P x) = x := rfl
def atE (s : ByteArray) (l : List (ByteArray × ByteArray)) : Int := Lib.idxBy (fun _ y => decide (y.1.toList = s.toList)) l default
theorem rd_entsV {ok : Nat → Prop} {w : World} {p : PV} {v : Value} (h : RdV Tryz.prog ok w 32 p v) :
    ∃ A cap, ∃ ns : List (ByteArray × ByteArray), v = .slice A ns.length cap ∧ p = .list (ns.map ent2P) ∧ (0 < ns.length → ∃ b off, A = some ⟨b, off, none⟩ ∧ b < w.heap.size ∧ ∀ j, j < ns.length → ∀ i u, (encE ns[j]!)[i]? = some u → w.cell? ⟨b, off + j * 2 + i, none⟩ = some u) := by
  have ht : tk Tryz.prog 32 = .slice 99 := by kernel_rfl
  have he : tk Tryz.prog 99 = .struct [9, 9] := by kernel_rfl
  have hs : tk Tryz.prog 9 = .str := by kernel_rfl
  have hz : YtjfigkikhmffpaaGreatDoorAm.sizeOf Tryz.prog 99 = 2 := by kernel_rfl
  obtain ⟨n, cs, h1, h2⟩ := h
  cases n with
  | zero => exact h1.elim
  | succ n =>
    unfold YtjfigkikhmffpaaGreatDoorAm.Rd at h1
    simp only [ht] at h1
    obtain ⟨A, cap, ps, rfl, rfl, hc, hr⟩ := h1
    rw [valOf_one (fun fs => by rw [ht]; simp)] at h2
    rw [hz] at hr
    have hps : 0 < ps.length → ∃ ad, A = some ad ∧ ∀ j q, ps[j]? = some q → ∃ x, q = ent2P x ∧ ∀ i u, (encE x)[i]? = some u → w.cell? (ad.add (j * 2 + i)) = some u := fun h0 => by
      obtain ⟨ad, a1, a2, a3⟩ := hr h0
      refine ⟨ad, a1, fun j q hj => ?_⟩
      obtain ⟨c, c1, c2, c3⟩ := a3 j q hj
      cases n with
      | zero => exact c3.elim
      | succ n =>
        unfold YtjfigkikhmffpaaGreatDoorAm.Rd at c3
        simp only [he] at c3
        obtain ⟨qs, rfl, c4⟩ := c3
        match qs, c4 with
        | [q1, q2], c4 =>
          obtain ⟨d1, d1', rfl, h7, d2, d2', rfl, h8, rfl⟩ := c4
          cases n with
          | zero => exact h7.elim
          | succ n =>
            unfold YtjfigkikhmffpaaGreatDoorAm.Rd at h7 h8
            simp only [hs] at h7 h8
            obtain ⟨a, rfl, rfl⟩ := h7
            obtain ⟨b, rfl, rfl⟩ := h8
            exact ⟨(a, b), rfl, fun i u hu => c2 i u (by simpa [encE] using hu)⟩
        | [], c4 => exact c4.elim
        | [_], c4 => obtain ⟨_, _, _, _, c4⟩ := c4; exact c4.elim
        | _ :: _ :: _ :: _, c4 => obtain ⟨_, _, _, _, _, _, _, _, c4⟩ := c4; exact c4.elim
    have hall : ∀ q ∈ ps, ent2P (toEnt2 q) = q := fun q hq => by
      obtain ⟨j, hj, hjq⟩ := List.getElem_of_mem hq
      obtain ⟨ad, _, h3⟩ := hps (by omega)
      obtain ⟨x, rfl, _⟩ := h3 j q (by rw [List.getElem?_eq_getElem hj, hjq])
      rfl
    have hmap : (ps.map toEnt2).map ent2P = ps := by
      rw [List.map_map]
      conv => rhs; rw [← List.map_id ps]
      exact List.map_congr_left fun q hq => hall q hq
    refine ⟨A, cap, ps.map toEnt2, by rw [h2, List.length_map], by rw [hmap], fun h0 => ?_⟩
    rw [List.length_map] at h0
    obtain ⟨ad, rfl, a3⟩ := hps h0
    have key : ∀ j, j < ps.length → ∀ i u, (encE (ps.map toEnt2)[j]!)[i]? = some u → w.cell? (ad.add (j * 2 + i)) = some u := fun j hj i u hu => by
      obtain ⟨x, hx, h5⟩ := a3 j ps[j] (List.getElem?_eq_getElem hj)
      have : (ps.map toEnt2)[j]! = x := by
        rw [getElem!_pos _ j (by simpa using hj), List.getElem_map, hx]
        rfl
      rw [this] at hu
      exact h5 i u hu
    have h00 := key 0 h0 0 (.string ((ps.map toEnt2)[0]!).1) rfl
    have hsp : ad.spot = none ∧ ad.block < w.heap.size := by
      unfold World.cell? at h00
      split at h00
      · rename_i c _ _ hb
        have hbl := (Array.getElem?_eq_some_iff.1 hb).1
        refine ⟨?_, hbl⟩
        cases hsp : ad.spot with
        | none => rfl
        | some z =>
          have : (ad.add (0 * 2 + 0)).spot.isSome = true := by simp [Addr.add, hsp]
          rw [if_pos this] at h00
          cases h00
      · cases h00
    obtain ⟨b, off, sp⟩ := ad
    obtain ⟨h6, h7⟩ := hsp
    simp only at h6 h7
    subst h6
    refine ⟨b, off, rfl, h7, fun j hj i u hu => ?_⟩
    have := key j (by simpa using hj) i u hu
    rw [Addr.add_lit] at this
    rw [Nat.add_assoc]; exact this
/-- The predicate: the stem. -/
theorem entry_pred (s : ByteArray) (B : Nat) (w : World) (hB : B < w.heap.size) (hcell : w.cell? ⟨B, 0, none⟩ = some (.string s)) :
    PredBelow Tryz.prog 156 #[.pointer (some ⟨B, 0, none⟩)] (fun x => .agg (encE x).toArray) (fun x => decide (x.1.toList = s.toList)) w := fun W x hb => by
  have hc : W.cell? ⟨B, 0, none⟩ = some (.string s) := (hb.cell (p := ⟨B, 0, none⟩) hB).trans hcell
  have hBW : B < W.heap.size := Nat.lt_of_lt_of_le hB hb.size
  have hne : B ≠ W.heap.size := by omega
  show Calls Tryz.prog 156 #[.agg #[.string x.1, .string x.2], .pointer (some ⟨B, 0, none⟩)] W _
  go_enter Tryz.func156, Tryz.ntmps156
  go_wp2
  all_goals (go_ret; exact ⟨by first | (simp_all; done) | (simp_all; rw [Bool.eq_iff_iff]; simp), hb.alloc hb.size _⟩)
theorem idx_none (A : Option Addr) (cap : Nat) (fv : Value) (w : World) : Calls Tryz.prog 155 #[.slice A 0 cap, fv] w fun e w' => e = .returned (.int .i64 (-1)) ∧ w' = w := by
  go_enter Tryz.func155, Tryz.ntmps155
  go_wp2
  refine wp_loop_rounds 1 ?_
  rw [rounds_succ]
  go_wp2
  go_ret
  exact ⟨rfl, rfl⟩
theorem entry_ix (A : Option Addr) (cap : Nat) (ns : List (ByteArray × ByteArray)) (s : ByteArray) (w : World) (hbig : ns.length ≤ 9223372036854775807)
    (hA : 0 < ns.length → ∃ b off, A = some ⟨b, off, none⟩ ∧ b < w.heap.size ∧ ∀ j, j < ns.length → ∀ i u, (encE ns[j]!)[i]? = some u → w.cell? ⟨b, off + j * 2 + i, none⟩ = some u) :
    Calls Tryz.prog 155 #[.slice A ns.length cap, .func (.func 156) #[] #[.pointer (some ⟨w.heap.size, 0, none⟩)]] (w.alloc (.cells #[.string s] 9)) fun e w' => e = .returned (.int .i64 (atE s ns)) ∧ Below w.heap.size w w' := by
  have hb0 : Below w.heap.size w (w.alloc (.cells #[.string s] 9)) := (Below.refl _ w).alloc (Nat.le_refl _) _
  by_cases h0 : 0 < ns.length
  · obtain ⟨b, off, rfl, h1, h2⟩ := hA h0
    have eg : ∀ args w, (callFunc 156 args).run Tryz.prog w = .ok (.enter 156 args) w := enters_of Tryz.func156 (by kernel_rfl) rfl
    have hcon := AnyQ.slices_IndexFunc laysIF 2 Tryz.isAgg99 Tryz.sizeOf99 encE (fun _ => rfl) (fun x => decide (x.1.toList = s.toList)) 156 #[.pointer (some ⟨w.heap.size, 0, none⟩)] eg b off ns.length cap ns (w.alloc (.cells #[.string s] 9))
      (entry_pred s w.heap.size _ (by simp) (by simp)) (Nat.le_refl _) hbig (by simp; omega) (fun j hj i u hu => Lib.cell?_alloc_some _ (h2 j hj i u hu))
    change Calls Tryz.prog 155 _ _ _ at hcon
    refine Calls.mono hcon ?_
    rintro e w' ⟨rfl, hb⟩
    rw [List.take_length]
    exact ⟨rfl, hb0.trans (hb.mono (by simp))⟩
  · have hz : ns = [] := List.eq_nil_of_length_eq_zero (by omega)
    subst hz
    refine Calls.mono (idx_none A cap _ _) ?_
    rintro e w' ⟨rfl, rfl⟩
    exact ⟨rfl, hb0⟩
theorem entry_run (A : Option Addr) (cap : Nat) (ns : List (ByteArray × ByteArray)) (s : ByteArray) (w : World) (hbig : ns.length ≤ 9223372036854775807)
    (hA : 0 < ns.length → ∃ b off, A = some ⟨b, off, none⟩ ∧ b < w.heap.size ∧ ∀ j, j < ns.length → ∀ i u, (encE ns[j]!)[i]? = some u → w.cell? ⟨b, off + j * 2 + i, none⟩ = some u) :
    Calls Tryz.prog 130 #[.slice A ns.length cap, .string s] w fun e w' => e = .returned (.int .i64 (atE s ns)) ∧ Below w.heap.size w w' := by
  have hcon := entry_ix A cap ns s w hbig hA
  clear hA
  generalize atE s ns = r at hcon ⊢
  go_enter Tryz.func130, Tryz.ntmps130
  go_wp2_with (go_at_call 155; refine hcon.mono ?_; rintro e w' ⟨rfl, hb'⟩)
  go_ret
  exact ⟨rfl, hb'⟩
noncomputable def impl_entryAt.f (N : Nat) (a : List PV) : Option (List PV) := match a with
  | [.list ps, .sc (.string s)] => if ps.length ≤ 9223372036854775807 then some [intP (atE s (ps.map toEnt2))] else none
  | _ => none
noncomputable def impl_entryAt.S (N : Nat) : ASpec := ⟨[(32, .ro), (9, .ro)], [(3, .val)], impl_entryAt.f N⟩
theorem impl_entryAt.ok (N : Nat) : FnOk Tryz.prog 130 (impl_entryAt.S N) := by
  refine ⟨⟨_, Tryz.func130, by kernel_rfl, by kernel_rfl⟩, fun w ok vs ps F L outs hglb ha hnd hok hd => ?_⟩
  match vs, ps, ha with
  | [v, u], [p, q], ⟨hr, hq, hF, hL⟩ =>
    subst hF hL
    obtain ⟨A, cap, ns, rfl, rfl, hA⟩ := rd_entsV hr
    obtain ⟨rfl, hk⟩ := rdV_scal (P := Tryz.prog) (t := 9) (by kernel_rfl) hq
    have hk9 : tk Tryz.prog 9 = .str := by kernel_rfl
    unfold kindB at hk
    rw [hk9] at hk
    cases u <;> simp at hk
    rename_i s
    have hd' : (if (ns.map ent2P).length ≤ 9223372036854775807 then some [intP (atE s ((ns.map ent2P).map toEnt2))] else none) = some outs := hd
    have hid : (ns.map ent2P).map toEnt2 = ns := by simp [Function.comp_def, toEnt2_ent2P]
    rw [hid, List.length_map] at hd'
    split at hd'
    case isFalse => cases hd'
    rename_i hlen
    injection hd' with hd'
    subst hd'
    refine Calls.mono (entry_run A cap ns s w hlen hA) ?_
    rintro e w' ⟨rfl, hb⟩
    exact ⟨_, rfl, [.int .i64 (atE s ns)], [], [], rfl, ⟨rdV_of (by kernel_rfl), rfl, rfl⟩, rfl, by simp, by simp, ⟨hb.os, hb.tape, hb.output, hb.size, fun k hk _ => hb.block k hk⟩⟩
  | [], _, ha => exact absurd ha (by simp [ArgsAt, impl_entryAt.S])
  | [_], [], ha => exact absurd ha (by simp [ArgsAt, impl_entryAt.S])
  | [_], _ :: _, ha => exact absurd ha (by simp [ArgsAt, impl_entryAt.S])
  | _ :: _ :: _, [], ha => exact absurd ha (by simp [ArgsAt, impl_entryAt.S])
  | _ :: _ :: _, [_], ha => exact absurd ha (by simp [ArgsAt, impl_entryAt.S])
  | [_, _], _ :: _ :: _ :: _, ha => exact absurd ha (by simp [ArgsAt, impl_entryAt.S])
  | _ :: _ :: _ :: _, _ :: _ :: _, ha => exact absurd ha (by simp [ArgsAt, impl_entryAt.S])

end

/-! ### impl_DeltaOk: function 112, loop.example/medlar/impl.DeltaOk -/
noncomputable def impl_DeltaOk.E (N : Nat) : Env := ⟨lk [(149, impl_wordsOk.S N), (97, impl_entriesOk.S N), (96, impl_affixesOk.S N), (130, impl_entryAt.S N)], nzk [(4, ⟨[0, 2, 3, 4, 5, 6, 7, 8, 9, 10, 11, 12, 13, 14, 15, 16, 17, 18, 19, 20, 21, 22, 23, 24, 25, 26, 27, 28, 29, 30, 31, 32, 36, 37, 38, 39, 40, 41, 42, 43, 44], [], []⟩)], N, [], false⟩
noncomputable def impl_DeltaOk.f (N : Nat) (a : List PV) : Option Res := run Tryz.prog (impl_DeltaOk.E N) Tryz.f112 [(35, .ro)] [(4, .val)] a
noncomputable def impl_DeltaOk.l0 (N : Nat) (n : Nat) (x33 : PV) (x34 : Int) (x35 : Int) (y0_0 : PV) (y0_1 : PV) (y0_2 : Bool) (y0_3 : PV) : Option Res := loopAt Tryz.prog (impl_DeltaOk.E N) Tryz.f112 [(4, .val)] [1, 1, 0, 1, 0] [] n ⟨mkSlots 45 [(1, .ptr 0 []), (33, .ro 22 x33), (34, .sc (.int .i64 x34)), (35, .sc (.int .i64 x35))], ohOf [.box 35 (.agg 35 [.ro 22 y0_0, .ro 32 y0_1, .sc (.bool y0_2), .ro 33 y0_3])]⟩
theorem impl_DeltaOk.f_eq (N : Nat) (a0 : PV) : impl_DeltaOk.f N [a0] = (impl_wordsOk.f N [a0.fld 0, (PV.sc (.int .i64 24))]).bind fun t1 => if (!((t1.headD default).toBool)) = false then ((impl_entriesOk.f N [a0.fld 1]).bind fun t2 => if (!((t2.headD default).toBool)) = false then ((impl_affixesOk.f N [a0.fld 3]).bind fun t3 => if (!((t3.headD default).toBool)) = false then (if (!((a0.fld 2).toBool)) = true then (if decide (0 < (((a0.fld 3).items).length : Int)) = true then (some [(PV.sc (.bool false))]) else (impl_DeltaOk.l0 N N (a0.fld 0) (((a0.fld 0).items).length : Int) 0 (a0.fld 0) (a0.fld 1) ((a0.fld 2).toBool) (a0.fld 3))) else (impl_DeltaOk.l0 N N (a0.fld 0) (((a0.fld 0).items).length : Int) 0 (a0.fld 0) (a0.fld 1) ((a0.fld 2).toBool) (a0.fld 3))) else (some [(PV.sc (.bool false))])) else (some [(PV.sc (.bool false))])) else (some [(PV.sc (.bool false))]) := by kernel_rfl
theorem impl_DeltaOk.l0_eq (N : Nat) (n : Nat) (x33 : PV) (x34 : Int) (x35 : Int) (y0_0 : PV) (y0_1 : PV) (y0_2 : Bool) (y0_3 : PV) : impl_DeltaOk.l0 N (n + 1) x33 x34 x35 y0_0 y0_1 y0_2 y0_3 = if decide (x35 < x34) = true then (if 0 ≤ x35 then (if x35 < (x33.items.length : Int) then ((impl_entryAt.f N [y0_1, (PV.sc (.string ((x33.elem x35.toNat).toStr)))]).bind fun t4 => if decide (0 ≤ ((t4.headD default).toInt)) = true then (some [(PV.sc (.bool false))]) else (impl_DeltaOk.l0 N n x33 x34 (IntKind.i64.wrap (x35 + 1)) y0_0 y0_1 y0_2 y0_3)) else none) else none) else (some [(PV.sc (.bool true))]) := by kernel_rfl
noncomputable def impl_DeltaOk.S (N : Nat) : ASpec := ⟨[(35, .ro)], [(4, .val)], impl_DeltaOk.f N⟩
theorem impl_DeltaOk.ok (N : Nat) : FnOk Tryz.prog 112 (impl_DeltaOk.S N) := fnOk_of (E := impl_DeltaOk.E N) mix Tryz.func112 (by kernel_rfl) (by kernel_rfl) (by kernel_rfl) (lk_ok (all_cons (impl_wordsOk.ok N) (all_cons (impl_entriesOk.ok N) (all_cons (impl_affixesOk.ok N) (all_cons (impl_entryAt.ok N) all_nil))))) (by kernel_rfl) (fun _ _ h => h)

def lays160_ren : Go.Shelf.Ren := ⟨fun | 160 => 150 | 232 => 173 | 231 => 172 | 227 => 174 | 234 => 176 | 233 => 175 | 236 => 178 | 235 => 177 | 228 => 191 | 271 => 194 | 151 => 193 | 197 => 192 | 120 => 213 | 152 => 212 | 260 => 211 | 137 => 225 | 119 => 226 | 224 => 227 | 225 => 228 | 217 => 232 | 266 => 233 | n => n, fun | 9 => 9 | 4 => 4 | 3 => 3 | 5 => 5 | 117 => 179 | 116 => 178 | 0 => 0 | 124 => 182 | 21 => 21 | 105 => 196 | 46 => 163 | 119 => 227 | 139 => 230 | 138 => 229 | n => n, fun | 3 => 2 | 4 => 3 | n => n⟩
theorem lays160 : Go.Proofs.Lays.n160 Tryz.prog lays160_ren := {
  mixed := by kernel_rfl
  f119 := Tryz.func226.trans (congrArg some (by kernel_rfl))
  f120 := Tryz.func213.trans (congrArg some (by kernel_rfl))
  f137 := Tryz.func225.trans (congrArg some (by kernel_rfl))
  f151 := Tryz.func193.trans (congrArg some (by kernel_rfl))
  f152 := Tryz.func212.trans (congrArg some (by kernel_rfl))
  f160 := Tryz.func150.trans (congrArg some (by kernel_rfl))
  f197 := Tryz.func192.trans (congrArg some (by kernel_rfl))
  f217 := Tryz.func232.trans (congrArg some (by kernel_rfl))
  f224 := Tryz.func227.trans (congrArg some (by kernel_rfl))
  f225 := Tryz.func228.trans (congrArg some (by kernel_rfl))
  f227 := Tryz.func174.trans (congrArg some (by kernel_rfl))
  f228 := Tryz.func191.trans (congrArg some (by kernel_rfl))
  f231 := Tryz.func172.trans (congrArg some (by kernel_rfl))
  f232 := Tryz.func173.trans (congrArg some (by kernel_rfl))
  f233 := Tryz.func175.trans (congrArg some (by kernel_rfl))
  f234 := Tryz.func176.trans (congrArg some (by kernel_rfl))
  f235 := Tryz.func177.trans (congrArg some (by kernel_rfl))
  f236 := Tryz.func178.trans (congrArg some (by kernel_rfl))
  f260 := Tryz.func211.trans (congrArg some (by kernel_rfl))
  f266 := Tryz.func233.trans (congrArg some (by kernel_rfl))
  f271 := Tryz.func194.trans (congrArg some (by kernel_rfl))
  t0 := Tryz.underlying0
  a0 := Tryz.isAgg0
  z0 := Tryz.sizeOf0
  v0 := Tryz.zeroValue0
  t3 := Tryz.underlying3
  a3 := Tryz.isAgg3
  z3 := Tryz.sizeOf3
  v3 := Tryz.zeroValue3
  t4 := Tryz.underlying4
  a4 := Tryz.isAgg4
  z4 := Tryz.sizeOf4
  v4 := Tryz.zeroValue4
  t5 := Tryz.underlying5
  a5 := Tryz.isAgg5
  z5 := Tryz.sizeOf5
  v5 := Tryz.zeroValue5
  t9 := Tryz.underlying9
  a9 := Tryz.isAgg9
  z9 := Tryz.sizeOf9
  v9 := Tryz.zeroValue9
  t21 := Tryz.underlying21
  a21 := Tryz.isAgg21
  z21 := Tryz.sizeOf21
  v21 := Tryz.zeroValue21
  t46 := Tryz.underlying163
  a46 := Tryz.isAgg163
  z46 := Tryz.sizeOf163
  v46 := Tryz.zeroValue163
  t105 := Tryz.underlying196
  a105 := Tryz.isAgg196
  z105 := Tryz.sizeOf196
  v105 := Tryz.zeroValue196
  t116 := Tryz.underlying178
  a116 := Tryz.isAgg178
  z116 := Tryz.sizeOf178
  t117 := Tryz.underlying179
  a117 := Tryz.isAgg179
  z117 := Tryz.sizeOf179
  v117 := Tryz.zeroValue179
  t119 := Tryz.underlying227
  a119 := Tryz.isAgg227
  z119 := Tryz.sizeOf227
  t124 := Tryz.underlying182
  a124 := Tryz.isAgg182
  z124 := Tryz.sizeOf182
  v124 := Tryz.zeroValue182
  t138 := Tryz.underlying229
  a138 := Tryz.isAgg229
  z138 := Tryz.sizeOf229
  v138 := Tryz.zeroValue229
  t139 := Tryz.underlying230
  a139 := Tryz.isAgg230
  z139 := Tryz.sizeOf230
  v139 := Tryz.zeroValue230
  g3 := by kernel_rfl
  g4 := by kernel_rfl }

/-! ### strings_Trim: function 150, strings.Trim, by the kit's contract, Lib4 Lib11 -/
noncomputable def strings_Trim.f (N : Nat) (a : List PV) : Option (List PV) := trimBothDen a
noncomputable def strings_Trim.S (N : Nat) : ASpec := ⟨[(9, .ro), (9, .ro)], [(9, .val)], strings_Trim.f N⟩
theorem strings_Trim.ok (N : Nat) : FnOk Tryz.prog 150 (strings_Trim.S N) := fnOk_trimBoth lays160 rfl ⟨_, Tryz.func150, by kernel_rfl, by kernel_rfl⟩ (by kernel_rfl) (by kernel_rfl) (by kernel_rfl)

/-! ### impl_digits: function 113, loop.example/medlar/impl.digits -/
noncomputable def impl_digits.E (N : Nat) : Env := ⟨lk [(150, strings_Trim.S N)], nzk [], N, [], false⟩
noncomputable def impl_digits.f (N : Nat) (a : List PV) : Option Res := run Tryz.prog (impl_digits.E N) Tryz.f113 [(9, .ro)] [(4, .val)] a
theorem impl_digits.f_eq (N : Nat) (a0 : PV) : impl_digits.f N [a0] = if decide ((a0.toStr.size : Int) = 64) = true then ((strings_Trim.f N [(PV.sc (.string a0.toStr)), (PV.sc (.string (ByteArray.mk #[48, 49, 50, 51, 52, 53, 54, 55, 56, 57, 97, 98, 99, 100, 101, 102])))]).bind fun t1 => some [(PV.sc (.bool (decide (((t1.headD default).toStr).toList = (ByteArray.mk #[]).toList))))]) else (some [(PV.sc (.bool false))]) := by kernel_rfl
noncomputable def impl_digits.S (N : Nat) : ASpec := ⟨[(9, .ro)], [(4, .val)], impl_digits.f N⟩
theorem impl_digits.ok (N : Nat) : FnOk Tryz.prog 113 (impl_digits.S N) := fnOk_of (E := impl_digits.E N) mix Tryz.func113 (by kernel_rfl) (by kernel_rfl) (by kernel_rfl) (lk_ok (all_cons (strings_Trim.ok N) all_nil)) (by kernel_rfl) (fun _ _ h => h)

def laysM171_ren : Go.Shelf.Ren := ⟨fun | 171 => 116 | 243 => 151 | 246 => 179 | 283 => 195 | 284 => 196 | 285 => 197 | 286 => 198 | 129 => 210 | 317 => 214 | 318 => 215 | 319 => 216 | 320 => 217 | 337 => 229 | 338 => 230 | n => n, fun | 3 => 3 | 9 => 9 | 2 => 2 | 4 => 4 | 171 => 199 | 0 => 0 | 53 => 167 | 37 => 61 | 5 => 5 | 173 => 202 | 212 => 215 | 51 => 159 | 20 => 20 | 213 => 216 | 46 => 163 | 232 => 236 | 233 => 237 | n => n, fun | 17 => 1 | 18 => 5 | 19 => 6 | n => n⟩
theorem laysM171 : Go.Proofs.LaysM.n171 Tryz.prog laysM171_ren := {
  mixed := by kernel_rfl
  f129 := Tryz.func210.trans (congrArg some (by kernel_rfl))
  f171 := Tryz.func116.trans (congrArg some (by kernel_rfl))
  f243 := Tryz.func151.trans (congrArg some (by kernel_rfl))
  f246 := Tryz.func179.trans (congrArg some (by kernel_rfl))
  f283 := Tryz.func195.trans (congrArg some (by kernel_rfl))
  f284 := Tryz.func196.trans (congrArg some (by kernel_rfl))
  f285 := Tryz.func197.trans (congrArg some (by kernel_rfl))
  f286 := Tryz.func198.trans (congrArg some (by kernel_rfl))
  f317 := Tryz.func214.trans (congrArg some (by kernel_rfl))
  f318 := Tryz.func215.trans (congrArg some (by kernel_rfl))
  f319 := Tryz.func216.trans (congrArg some (by kernel_rfl))
  f320 := Tryz.func217.trans (congrArg some (by kernel_rfl))
  f337 := Tryz.func229.trans (congrArg some (by kernel_rfl))
  f338 := Tryz.func230.trans (congrArg some (by kernel_rfl))
  t0 := Tryz.underlying0
  a0 := Tryz.isAgg0
  z0 := Tryz.sizeOf0
  v0 := Tryz.zeroValue0
  t2 := Tryz.underlying2
  a2 := Tryz.isAgg2
  z2 := Tryz.sizeOf2
  v2 := Tryz.zeroValue2
  t3 := Tryz.underlying3
  a3 := Tryz.isAgg3
  z3 := Tryz.sizeOf3
  v3 := Tryz.zeroValue3
  t4 := Tryz.underlying4
  a4 := Tryz.isAgg4
  z4 := Tryz.sizeOf4
  v4 := Tryz.zeroValue4
  t5 := Tryz.underlying5
  a5 := Tryz.isAgg5
  z5 := Tryz.sizeOf5
  v5 := Tryz.zeroValue5
  t9 := Tryz.underlying9
  a9 := Tryz.isAgg9
  z9 := Tryz.sizeOf9
  v9 := Tryz.zeroValue9
  t20 := Tryz.underlying20
  a20 := Tryz.isAgg20
  z20 := Tryz.sizeOf20
  v20 := Tryz.zeroValue20
  t37 := Tryz.underlying61
  a37 := Tryz.isAgg61
  z37 := Tryz.sizeOf61
  v37 := Tryz.zeroValue61
  t46 := Tryz.underlying163
  a46 := Tryz.isAgg163
  z46 := Tryz.sizeOf163
  v46 := Tryz.zeroValue163
  t51 := Tryz.underlying159
  a51 := Tryz.isAgg159
  z51 := Tryz.sizeOf159
  v51 := Tryz.zeroValue159
  t53 := Tryz.underlying167
  a53 := Tryz.isAgg167
  z53 := Tryz.sizeOf167
  v53 := Tryz.zeroValue167
  t171 := Tryz.underlying199
  a171 := Tryz.isAgg199
  z171 := Tryz.sizeOf199
  v171 := Tryz.zeroValue199
  t173 := Tryz.underlying202
  a173 := Tryz.isAgg202
  z173 := Tryz.sizeOf202
  v173 := Tryz.zeroValue202
  t212 := Tryz.underlying215
  a212 := Tryz.isAgg215
  z212 := Tryz.sizeOf215
  v212 := Tryz.zeroValue215
  t213 := Tryz.underlying216
  a213 := Tryz.isAgg216
  z213 := Tryz.sizeOf216
  t232 := Tryz.underlying236
  a232 := Tryz.isAgg236
  z232 := Tryz.sizeOf236
  v232 := Tryz.zeroValue236
  t233 := Tryz.underlying237
  a233 := Tryz.isAgg237
  z233 := Tryz.sizeOf237
  v233 := Tryz.zeroValue237
  g17 := by kernel_rfl
  g18 := by kernel_rfl
  g19 := by kernel_rfl
  i0 := by kernel_rfl
  i2 := by kernel_rfl
  i3 := by kernel_rfl
  i4 := by kernel_rfl
  i5 := by kernel_rfl
  i9 := by kernel_rfl
  i20 := by kernel_rfl
  i37 := by kernel_rfl
  i46 := by kernel_rfl
  i51 := by kernel_rfl
  i53 := by kernel_rfl
  i171 := by kernel_rfl
  i173 := by kernel_rfl
  i212 := by kernel_rfl
  i232 := by kernel_rfl
  i233 := by kernel_rfl
  m17 := by kernel_rfl
  m18 := by kernel_rfl
  m19 := by kernel_rfl }

/-! ### strconv_Itoa: function 116, strconv.Itoa, by the kit's contract, Lib4 Lib7 -/
noncomputable def strconv_Itoa.f (N : Nat) (a : List PV) : Option (List PV) := itoaDen a
noncomputable def strconv_Itoa.S (N : Nat) : ASpec := ⟨[(3, .ro)], [(9, .val)], strconv_Itoa.f N⟩
theorem strconv_Itoa.ok (N : Nat) : FnOk Tryz.prog 116 (strconv_Itoa.S N) := fnOk_itoa laysM171 rfl ⟨_, Tryz.func116, by kernel_rfl, by kernel_rfl⟩ (fun ok w h => tab_of (g := 1) (by kernel_rfl) h (by simp)) (by kernel_rfl) (by kernel_rfl)

def lays156_ren : Go.Shelf.Ren := ⟨fun | 156 => 159 | 165 => 183 | 166 => 184 | 169 => 185 | 240 => 199 | 241 => 200 | 276 => 218 | 277 => 219 | n => n, fun | 31 => 22 | 9 => 9 | 3 => 3 | 4 => 4 | 0 => 0 | 20 => 20 | 72 => 188 | 76 => 192 | 70 => 186 | 37 => 61 | 75 => 191 | 127 => 204 | 164 => 218 | 5 => 5 | 80 => 105 | n => n, fun | n => n⟩
theorem lays156 : Go.Proofs.Lays.n156 Tryz.prog lays156_ren := {
  mixed := by kernel_rfl
  f156 := Tryz.func159.trans (congrArg some (by kernel_rfl))
  f165 := Tryz.func183.trans (congrArg some (by kernel_rfl))
  f166 := Tryz.func184.trans (congrArg some (by kernel_rfl))
  f169 := Tryz.func185.trans (congrArg some (by kernel_rfl))
  f240 := Tryz.func199.trans (congrArg some (by kernel_rfl))
  f241 := Tryz.func200.trans (congrArg some (by kernel_rfl))
  f276 := Tryz.func218.trans (congrArg some (by kernel_rfl))
  f277 := Tryz.func219.trans (congrArg some (by kernel_rfl))
  t0 := Tryz.underlying0
  a0 := Tryz.isAgg0
  z0 := Tryz.sizeOf0
  v0 := Tryz.zeroValue0
  t3 := Tryz.underlying3
  a3 := Tryz.isAgg3
  z3 := Tryz.sizeOf3
  v3 := Tryz.zeroValue3
  t4 := Tryz.underlying4
  a4 := Tryz.isAgg4
  z4 := Tryz.sizeOf4
  v4 := Tryz.zeroValue4
  t9 := Tryz.underlying9
  a9 := Tryz.isAgg9
  z9 := Tryz.sizeOf9
  v9 := Tryz.zeroValue9
  t20 := Tryz.underlying20
  a20 := Tryz.isAgg20
  z20 := Tryz.sizeOf20
  v20 := Tryz.zeroValue20
  t31 := Tryz.underlying22
  a31 := Tryz.isAgg22
  z31 := Tryz.sizeOf22
  v31 := Tryz.zeroValue22
  t37 := Tryz.underlying61
  a37 := Tryz.isAgg61
  z37 := Tryz.sizeOf61
  v37 := Tryz.zeroValue61
  t70 := Tryz.underlying186
  a70 := Tryz.isAgg186
  z70 := Tryz.sizeOf186
  v70 := Tryz.zeroValue186
  t72 := Tryz.underlying188
  a72 := Tryz.isAgg188
  z72 := Tryz.sizeOf188
  v72 := Tryz.zeroValue188
  t75 := Tryz.underlying191
  a75 := Tryz.isAgg191
  z75 := Tryz.sizeOf191
  v75 := Tryz.zeroValue191
  t76 := Tryz.underlying192
  a76 := Tryz.isAgg192
  z76 := Tryz.sizeOf192
  v76 := Tryz.zeroValue192
  t127 := Tryz.underlying204
  a127 := Tryz.isAgg204
  z127 := Tryz.sizeOf204
  v127 := Tryz.zeroValue204
  t164 := Tryz.underlying218
  a164 := Tryz.isAgg218
  z164 := Tryz.sizeOf218
  v164 := Tryz.zeroValue218 }

theorem Builder_Extra_156 : Builder.Extra Tryz.prog lays156_ren := {
  sizeBuilder := by kernel_rfl
  liesBuilder := by kernel_rfl
  t5 := Tryz.underlying5
  a5 := Tryz.isAgg5
  z5 := Tryz.sizeOf5
  v5 := Tryz.zeroValue5
  infoByte := by kernel_rfl
  cellsByte := by kernel_rfl
  sizeByte := by kernel_rfl
  neB5 := by decide }

/-! ### strings_Join: function 159, strings.Join, by the kit's contract, Lib4 Lib12 -/
noncomputable def strings_Join.f (N : Nat) (a : List PV) : Option (List PV) := joinDen a
noncomputable def strings_Join.S (N : Nat) : ASpec := ⟨[(22, .ro), (9, .ro)], [(9, .val)], strings_Join.f N⟩
theorem strings_Join.ok (N : Nat) : FnOk Tryz.prog 159 (strings_Join.S N) := fnOk_join (e := 9) lays156 Builder_Extra_156 rfl ⟨_, Tryz.func159, by kernel_rfl, by kernel_rfl⟩ (by kernel_rfl) (by kernel_rfl) (by kernel_rfl)

/-! ### impl_affixLine: function 134, loop.example/medlar/impl.affixLine -/
noncomputable def impl_affixLine.E (N : Nat) : Env := ⟨lk [(159, strings_Join.S N)], nzk [], N, [], false⟩
noncomputable def impl_affixLine.f (N : Nat) (a : List PV) : Option Res := run Tryz.prog (impl_affixLine.E N) Tryz.f134 [(97, .ro)] [(9, .val)] a
theorem impl_affixLine.f_eq (N : Nat) (a0 : PV) : impl_affixLine.f N [a0] = if (a0.fld 1).toBool = true then ((strings_Join.f N [(PV.list ([(PV.sc (.string (ByteArray.mk #[102, 114, 111, 110, 116]))), (PV.sc (.string ((a0.fld 0).toStr))), (PV.sc (.string ((a0.fld 2).toStr))), (PV.sc (.string ((a0.fld 3).toStr))), (PV.sc (.string ((a0.fld 4).toStr)))])), (PV.sc (.string (ByteArray.mk #[32])))]).bind fun t1 => if ((t1.headD default).toStr).size + (ByteArray.mk #[10]).size ≤ 9223372036854775807 then (some [(PV.sc (.string (((t1.headD default).toStr) ++ (ByteArray.mk #[10]))))]) else none) else ((strings_Join.f N [(PV.list ([(PV.sc (.string (ByteArray.mk #[101, 110, 100]))), (PV.sc (.string ((a0.fld 0).toStr))), (PV.sc (.string ((a0.fld 2).toStr))), (PV.sc (.string ((a0.fld 3).toStr))), (PV.sc (.string ((a0.fld 4).toStr)))])), (PV.sc (.string (ByteArray.mk #[32])))]).bind fun t2 => if ((t2.headD default).toStr).size + (ByteArray.mk #[10]).size ≤ 9223372036854775807 then (some [(PV.sc (.string (((t2.headD default).toStr) ++ (ByteArray.mk #[10]))))]) else none) := by kernel_rfl
noncomputable def impl_affixLine.S (N : Nat) : ASpec := ⟨[(97, .ro)], [(9, .val)], impl_affixLine.f N⟩
theorem impl_affixLine.ok (N : Nat) : FnOk Tryz.prog 134 (impl_affixLine.S N) := fnOk_of (E := impl_affixLine.E N) mix Tryz.func134 (by kernel_rfl) (by kernel_rfl) (by kernel_rfl) (lk_ok (all_cons (strings_Join.ok N) all_nil)) (by kernel_rfl) (fun _ _ h => h)

/-! ### impl_entryLine: function 135, loop.example/medlar/impl.entryLine -/
noncomputable def impl_entryLine.E (N : Nat) : Env := ⟨lk [], nzk [], N, [], false⟩
noncomputable def impl_entryLine.f (N : Nat) (a : List PV) : Option Res := run Tryz.prog (impl_entryLine.E N) Tryz.f135 [(99, .ro)] [(9, .val)] a
theorem impl_entryLine.f_eq (N : Nat) (a0 : PV) : impl_entryLine.f N [a0] = if decide (((a0.fld 1).toStr).toList = (ByteArray.mk #[]).toList) = true then (if ((a0.fld 0).toStr).size + (ByteArray.mk #[10]).size ≤ 9223372036854775807 then (some [(PV.sc (.string (((a0.fld 0).toStr) ++ (ByteArray.mk #[10]))))]) else none) else (if ((a0.fld 0).toStr).size + (ByteArray.mk #[47]).size ≤ 9223372036854775807 then (if (((a0.fld 0).toStr) ++ (ByteArray.mk #[47])).size + ((a0.fld 1).toStr).size ≤ 9223372036854775807 then (if ((((a0.fld 0).toStr) ++ (ByteArray.mk #[47])) ++ ((a0.fld 1).toStr)).size + (ByteArray.mk #[10]).size ≤ 9223372036854775807 then (some [(PV.sc (.string (((((a0.fld 0).toStr) ++ (ByteArray.mk #[47])) ++ ((a0.fld 1).toStr)) ++ (ByteArray.mk #[10]))))]) else none) else none) else none) := by kernel_rfl
noncomputable def impl_entryLine.S (N : Nat) : ASpec := ⟨[(99, .ro)], [(9, .val)], impl_entryLine.f N⟩
theorem impl_entryLine.ok (N : Nat) : FnOk Tryz.prog 135 (impl_entryLine.S N) := fnOk_of (E := impl_entryLine.E N) mix Tryz.func135 (by kernel_rfl) (by kernel_rfl) (by kernel_rfl) (lk_ok all_nil) (by kernel_rfl) (fun _ _ h => h)

/-! ### impl_DeltaPut: function 117, loop.example/medlar/impl.DeltaPut -/
noncomputable def impl_DeltaPut.E (N : Nat) : Env := ⟨lk [(112, impl_DeltaOk.S N), (134, impl_affixLine.S N), (135, impl_entryLine.S N)], nzk [(7, ⟨[0, 2, 4, 5, 6, 7, 8, 9, 10, 11, 12, 13, 14, 15, 19, 20, 21, 22, 23, 24, 25, 26, 27, 28, 29, 30, 31, 32, 33, 34, 35, 36, 37, 38, 39, 40, 41, 42, 43, 44, 45, 46, 47, 48, 49, 50, 51, 52, 53], [], []⟩), (12, ⟨[0, 2, 4, 5, 6, 7, 8, 9, 10, 11, 12, 13, 14, 15, 16, 17, 18, 19, 20, 21, 22, 23, 24, 25, 26, 27, 31, 32, 33, 34, 35, 36, 37, 38, 39, 40, 41, 42, 43, 44, 45, 46, 47, 48, 49, 50, 51, 52, 53], [], []⟩), (17, ⟨[0, 1, 2, 4, 5, 6, 7, 8, 9, 10, 11, 12, 13, 14, 15, 16, 17, 18, 19, 20, 21, 22, 23, 24, 25, 26, 27, 28, 29, 30, 31, 32, 33, 34, 35, 36, 37, 38, 39, 40, 44, 45, 46, 47, 48, 49, 50, 51, 52, 53], [], []⟩)], N, [], false⟩
noncomputable def impl_DeltaPut.f (N : Nat) (a : List PV) : Option Res := run Tryz.prog (impl_DeltaPut.E N) Tryz.f117 [(35, .ro)] [(9, .val)] a
noncomputable def impl_DeltaPut.l0 (N : Nat) (n : Nat) (x3 : ByteArray) (x16 : PV) (x17 : Int) (x18 : Int) (y0_0 : PV) (y0_1 : PV) (y0_2 : Bool) (y0_3 : PV) : Option Res := loopAt Tryz.prog (impl_DeltaPut.E N) Tryz.f117 [(9, .val)] [1, 1, 1, 1, 0, 1, 0] [] n ⟨mkSlots 54 [(1, .ptr 0 []), (3, .sc (.string x3)), (16, .ro 33 x16), (17, .sc (.int .i64 x17)), (18, .sc (.int .i64 x18))], ohOf [.box 35 (.agg 35 [.ro 22 y0_0, .ro 32 y0_1, .sc (.bool y0_2), .ro 33 y0_3])]⟩
noncomputable def impl_DeltaPut.l1 (N : Nat) (n : Nat) (x3 : ByteArray) (x28 : PV) (x29 : Int) (x30 : Int) (y0_0 : PV) (y0_1 : PV) (y0_2 : Bool) (y0_3 : PV) : Option Res := loopAt Tryz.prog (impl_DeltaPut.E N) Tryz.f117 [(9, .val)] [1, 1, 1, 1, 1, 0, 1, 0] [] n ⟨mkSlots 54 [(1, .ptr 0 []), (3, .sc (.string x3)), (28, .ro 22 x28), (29, .sc (.int .i64 x29)), (30, .sc (.int .i64 x30))], ohOf [.box 35 (.agg 35 [.ro 22 y0_0, .ro 32 y0_1, .sc (.bool y0_2), .ro 33 y0_3])]⟩
noncomputable def impl_DeltaPut.l2 (N : Nat) (n : Nat) (x3 : ByteArray) (x41 : PV) (x42 : Int) (x43 : Int) : Option Res := loopAt Tryz.prog (impl_DeltaPut.E N) Tryz.f117 [(9, .val)] [1, 1, 1, 1, 1, 1, 0, 1, 0] [] n ⟨mkSlots 54 [(3, .sc (.string x3)), (41, .ro 32 x41), (42, .sc (.int .i64 x42)), (43, .sc (.int .i64 x43))], ohOf []⟩
theorem impl_DeltaPut.f_eq (N : Nat) (a0 : PV) : impl_DeltaPut.f N [a0] = (impl_DeltaOk.f N [(PV.agg [a0.fld 0, a0.fld 1, (PV.sc (.bool ((a0.fld 2).toBool))), a0.fld 3])]).bind fun t1 => if (!((t1.headD default).toBool)) = true then (some [(PV.sc (.string (ByteArray.mk #[])))]) else (if (a0.fld 2).toBool = true then (impl_DeltaPut.l0 N N (ByteArray.mk #[97, 102, 102, 105, 120, 101, 115, 10]) (a0.fld 3) (((a0.fld 3).items).length : Int) 0 (a0.fld 0) (a0.fld 1) ((a0.fld 2).toBool) (a0.fld 3)) else (impl_DeltaPut.l0 N N (ByteArray.mk #[]) (a0.fld 3) (((a0.fld 3).items).length : Int) 0 (a0.fld 0) (a0.fld 1) ((a0.fld 2).toBool) (a0.fld 3))) := by kernel_rfl
theorem impl_DeltaPut.l0_eq (N : Nat) (n : Nat) (x3 : ByteArray) (x16 : PV) (x17 : Int) (x18 : Int) (y0_0 : PV) (y0_1 : PV) (y0_2 : Bool) (y0_3 : PV) : impl_DeltaPut.l0 N (n + 1) x3 x16 x17 x18 y0_0 y0_1 y0_2 y0_3 = if decide (x18 < x17) = true then (if 0 ≤ x18 then (if x18 < (x16.items.length : Int) then ((impl_affixLine.f N [(PV.agg [(PV.sc (.string (((x16.elem x18.toNat).fld 0).toStr))), (PV.sc (.bool (((x16.elem x18.toNat).fld 1).toBool))), (PV.sc (.string (((x16.elem x18.toNat).fld 2).toStr))), (PV.sc (.string (((x16.elem x18.toNat).fld 3).toStr))), (PV.sc (.string (((x16.elem x18.toNat).fld 4).toStr)))])]).bind fun t2 => if x3.size + ((t2.headD default).toStr).size ≤ 9223372036854775807 then (impl_DeltaPut.l0 N n (x3 ++ ((t2.headD default).toStr)) x16 x17 (IntKind.i64.wrap (x18 + 1)) y0_0 y0_1 y0_2 y0_3) else none) else none) else none) else (impl_DeltaPut.l1 N N x3 y0_0 (y0_0.items.length : Int) 0 y0_0 y0_1 y0_2 y0_3) := by kernel_rfl
theorem impl_DeltaPut.l1_eq (N : Nat) (n : Nat) (x3 : ByteArray) (x28 : PV) (x29 : Int) (x30 : Int) (y0_0 : PV) (y0_1 : PV) (y0_2 : Bool) (y0_3 : PV) : impl_DeltaPut.l1 N (n + 1) x3 x28 x29 x30 y0_0 y0_1 y0_2 y0_3 = if decide (x30 < x29) = true then (if 0 ≤ x30 then (if x30 < (x28.items.length : Int) then (if (ByteArray.mk #[45]).size + ((x28.elem x30.toNat).toStr).size ≤ 9223372036854775807 then (if ((ByteArray.mk #[45]) ++ ((x28.elem x30.toNat).toStr)).size + (ByteArray.mk #[10]).size ≤ 9223372036854775807 then (if x3.size + (((ByteArray.mk #[45]) ++ ((x28.elem x30.toNat).toStr)) ++ (ByteArray.mk #[10])).size ≤ 9223372036854775807 then (impl_DeltaPut.l1 N n (x3 ++ (((ByteArray.mk #[45]) ++ ((x28.elem x30.toNat).toStr)) ++ (ByteArray.mk #[10]))) x28 x29 (IntKind.i64.wrap (x30 + 1)) y0_0 y0_1 y0_2 y0_3) else none) else none) else none) else none) else none) else (impl_DeltaPut.l2 N N x3 y0_1 (y0_1.items.length : Int) 0) := by kernel_rfl
theorem impl_DeltaPut.l2_eq (N : Nat) (n : Nat) (x3 : ByteArray) (x41 : PV) (x42 : Int) (x43 : Int) : impl_DeltaPut.l2 N (n + 1) x3 x41 x42 x43 = if decide (x43 < x42) = true then (if 0 ≤ x43 then (if x43 < (x41.items.length : Int) then ((impl_entryLine.f N [(PV.agg [(PV.sc (.string (((x41.elem x43.toNat).fld 0).toStr))), (PV.sc (.string (((x41.elem x43.toNat).fld 1).toStr)))])]).bind fun t3 => if (ByteArray.mk #[43]).size + ((t3.headD default).toStr).size ≤ 9223372036854775807 then (if x3.size + ((ByteArray.mk #[43]) ++ ((t3.headD default).toStr)).size ≤ 9223372036854775807 then (impl_DeltaPut.l2 N n (x3 ++ ((ByteArray.mk #[43]) ++ ((t3.headD default).toStr))) x41 x42 (IntKind.i64.wrap (x43 + 1))) else none) else none) else none) else none) else (some [(PV.sc (.string x3))]) := by kernel_rfl
noncomputable def impl_DeltaPut.S (N : Nat) : ASpec := ⟨[(35, .ro)], [(9, .val)], impl_DeltaPut.f N⟩
theorem impl_DeltaPut.ok (N : Nat) : FnOk Tryz.prog 117 (impl_DeltaPut.S N) := fnOk_of (E := impl_DeltaPut.E N) mix Tryz.func117 (by kernel_rfl) (by kernel_rfl) (by kernel_rfl) (lk_ok (all_cons (impl_DeltaOk.ok N) (all_cons (impl_affixLine.ok N) (all_cons (impl_entryLine.ok N) all_nil)))) (by kernel_rfl) (fun _ _ h => h)

/-! ### impl_Release_text: function 73, (loop.example/medlar/impl.Release).text -/
noncomputable def impl_Release_text.E (N : Nat) : Env := ⟨lk [(116, strconv_Itoa.S N), (117, impl_DeltaPut.S N)], nzk [], N, [], false⟩
noncomputable def impl_Release_text.f (N : Nat) (a : List PV) : Option Res := run Tryz.prog (impl_Release_text.E N) Tryz.f73 [(37, .ro)] [(9, .val)] a
theorem impl_Release_text.f_eq (N : Nat) (a0 : PV) : impl_Release_text.f N [a0] = (strconv_Itoa.f N [(PV.sc (.int .i64 ((a0.fld 0).toInt)))]).bind fun t1 => if (ByteArray.mk #[114, 101, 108, 101, 97, 115, 101, 32]).size + ((t1.headD default).toStr).size ≤ 9223372036854775807 then (if ((ByteArray.mk #[114, 101, 108, 101, 97, 115, 101, 32]) ++ ((t1.headD default).toStr)).size + (ByteArray.mk #[32]).size ≤ 9223372036854775807 then (if (((ByteArray.mk #[114, 101, 108, 101, 97, 115, 101, 32]) ++ ((t1.headD default).toStr)) ++ (ByteArray.mk #[32])).size + ((a0.fld 2).toStr).size ≤ 9223372036854775807 then (if ((((ByteArray.mk #[114, 101, 108, 101, 97, 115, 101, 32]) ++ ((t1.headD default).toStr)) ++ (ByteArray.mk #[32])) ++ ((a0.fld 2).toStr)).size + (ByteArray.mk #[10]).size ≤ 9223372036854775807 then ((impl_DeltaPut.f N [(PV.agg [(a0.fld 1).fld 0, (a0.fld 1).fld 1, (PV.sc (.bool (((a0.fld 1).fld 2).toBool))), (a0.fld 1).fld 3])]).bind fun t2 => if (((((ByteArray.mk #[114, 101, 108, 101, 97, 115, 101, 32]) ++ ((t1.headD default).toStr)) ++ (ByteArray.mk #[32])) ++ ((a0.fld 2).toStr)) ++ (ByteArray.mk #[10])).size + ((t2.headD default).toStr).size ≤ 9223372036854775807 then (some [(PV.sc (.string ((((((ByteArray.mk #[114, 101, 108, 101, 97, 115, 101, 32]) ++ ((t1.headD default).toStr)) ++ (ByteArray.mk #[32])) ++ ((a0.fld 2).toStr)) ++ (ByteArray.mk #[10])) ++ ((t2.headD default).toStr))))]) else none) else none) else none) else none) else none := by kernel_rfl
noncomputable def impl_Release_text.S (N : Nat) : ASpec := ⟨[(37, .ro)], [(9, .val)], impl_Release_text.f N⟩
theorem impl_Release_text.ok (N : Nat) : FnOk Tryz.prog 73 (impl_Release_text.S N) := fnOk_of (E := impl_Release_text.E N) mix Tryz.func73 (by kernel_rfl) (by kernel_rfl) (by kernel_rfl) (lk_ok (all_cons (strconv_Itoa.ok N) (all_cons (impl_DeltaPut.ok N) all_nil))) (by kernel_rfl) (fun _ _ h => h)

/-! ### impl_Release_wellFormed: function 71, (loop.example/medlar/impl.Release).wellFormed -/
noncomputable def impl_Release_wellFormed.E (N : Nat) : Env := ⟨lk [(41, impl_within.S N), (112, impl_DeltaOk.S N), (113, impl_digits.S N), (73, impl_Release_text.S N)], nzk [], N, [], false⟩
noncomputable def impl_Release_wellFormed.f (N : Nat) (a : List PV) : Option Res := run Tryz.prog (impl_Release_wellFormed.E N) Tryz.f71 [(37, .ro)] [(4, .val)] a
theorem impl_Release_wellFormed.f_eq (N : Nat) (a0 : PV) : impl_Release_wellFormed.f N [a0] = (impl_within.f N [(PV.sc (.int .i64 ((a0.fld 0).toInt))), (PV.sc (.int .i64 1)), (PV.sc (.int .i64 999999))]).bind fun t1 => if (t1.headD default).toBool = true then ((impl_DeltaOk.f N [(PV.agg [(a0.fld 1).fld 0, (a0.fld 1).fld 1, (PV.sc (.bool (((a0.fld 1).fld 2).toBool))), (a0.fld 1).fld 3])]).bind fun t2 => if (t2.headD default).toBool = true then ((impl_digits.f N [(PV.sc (.string ((a0.fld 2).toStr)))]).bind fun t3 => if (t3.headD default).toBool = true then ((impl_digits.f N [(PV.sc (.string ((a0.fld 3).toStr)))]).bind fun t4 => if (t4.headD default).toBool = true then ((impl_Release_text.f N [(PV.agg [(PV.sc (.int .i64 ((a0.fld 0).toInt))), (PV.agg [(a0.fld 1).fld 0, (a0.fld 1).fld 1, (PV.sc (.bool (((a0.fld 1).fld 2).toBool))), (a0.fld 1).fld 3]), (PV.sc (.string ((a0.fld 2).toStr))), (PV.sc (.string ((a0.fld 3).toStr)))])]).bind fun t5 => some [(PV.sc (.bool (decide ((((t5.headD default).toStr).size : Int) ≤ 1200))))]) else (some [(PV.sc (.bool false))])) else (some [(PV.sc (.bool false))])) else (some [(PV.sc (.bool false))])) else (some [(PV.sc (.bool false))]) := by kernel_rfl
noncomputable def impl_Release_wellFormed.S (N : Nat) : ASpec := ⟨[(37, .ro)], [(4, .val)], impl_Release_wellFormed.f N⟩
theorem impl_Release_wellFormed.ok (N : Nat) : FnOk Tryz.prog 71 (impl_Release_wellFormed.S N) := fnOk_of (E := impl_Release_wellFormed.E N) mix Tryz.func71 (by kernel_rfl) (by kernel_rfl) (by kernel_rfl) (lk_ok (all_cons (impl_within.ok N) (all_cons (impl_DeltaOk.ok N) (all_cons (impl_digits.ok N) (all_cons (impl_Release_text.ok N) all_nil))))) (by kernel_rfl) (fun _ _ h => h)

/-! ### impl_rolled: function 158, loop.example/medlar/impl.rolled -/
noncomputable def impl_rolled.E (N : Nat) : Env := ⟨lk [], nzk [], N, [], false⟩
noncomputable def impl_rolled.f (N : Nat) (a : List PV) : Option Res := run Tryz.prog (impl_rolled.E N) Tryz.f158 [(159, .ro), (3, .ro)] [(159, .val)] a
theorem impl_rolled.f_eq (N : Nat) (a0 : PV) (a1 : PV) : impl_rolled.f N [a0, a1] = if 0 ≤ a1.toInt then (if 0 ≤ (IntKind.i64.wrap (32 - a1.toInt)) then (some [(PV.sc (.int .u32 (bOr .u32 (shrI .u32 a0.toInt a1.toInt) (shlI .u32 a0.toInt (IntKind.i64.wrap (32 - a1.toInt))))))]) else none) else none := by kernel_rfl
noncomputable def impl_rolled.S (N : Nat) : ASpec := ⟨[(159, .ro), (3, .ro)], [(159, .val)], impl_rolled.f N⟩
theorem impl_rolled.ok (N : Nat) : FnOk Tryz.prog 158 (impl_rolled.S N) := fnOk_of (E := impl_rolled.E N) mix Tryz.func158 (by kernel_rfl) (by kernel_rfl) (by kernel_rfl) (lk_ok all_nil) (by kernel_rfl) (fun _ _ h => h)

/-! ### impl_sha256Of: function 133, loop.example/medlar/impl.sha256Of -/
noncomputable def impl_sha256Of.E (N : Nat) : Env := ⟨lk [(158, impl_rolled.S N)], nzk [(3, ⟨[1, 2, 5, 6, 7, 8, 9, 10, 11, 12, 13, 14, 15, 16, 17, 18, 19, 20, 21, 22, 23, 24, 25, 26, 27, 28, 29, 30, 31, 32, 33, 34, 35, 36, 37, 38, 39, 40, 41, 42, 43, 44, 45, 46, 47, 48, 49, 50, 51, 52, 53, 54, 55, 56, 57, 58, 59, 60, 61, 62, 63, 64, 65, 66, 67, 68, 69, 70, 71, 72, 73, 74, 75, 76, 77, 78, 79, 80, 81, 82, 83, 84, 85, 86, 87, 88, 89, 90, 91, 92, 93, 94, 95, 96, 97, 98, 99, 100, 101, 102, 103, 104, 105, 106, 107, 108, 109, 110, 111, 112, 113, 114, 115, 116, 117, 118, 119, 120, 121, 122, 123, 124, 125, 126, 127, 128, 129, 130, 131, 132, 133, 134, 135, 136, 137, 138, 139, 140, 141, 142, 143, 144, 145, 146, 147, 148, 149, 150, 151, 152, 153, 154, 155, 156, 157, 158, 159, 160, 161, 162, 163, 164, 165, 166, 167, 168, 169, 170, 171, 172, 173, 174, 175, 176, 177, 178, 179, 180, 181, 182, 183, 184, 185, 186, 187, 188, 189, 190, 191, 192, 193, 194, 195, 196, 197, 198, 199, 200, 201, 202, 203, 204, 205, 206, 207, 208, 209, 210, 211, 212, 213, 214, 215, 216, 217, 218, 219, 220, 221, 222, 223, 224, 225, 226, 227, 228, 229, 230, 231, 232, 233, 234, 235, 236, 237, 238, 239, 240, 241, 242, 243, 244, 245, 246], [(4, 61)], []⟩), (7, ⟨[0, 1, 2, 7, 8, 9, 10, 11, 12, 13, 14, 15, 16, 17, 18, 19, 20, 21, 22, 23, 24, 25, 26, 27, 28, 29, 30, 31, 32, 33, 34, 35, 36, 37, 38, 39, 40, 41, 42, 43, 44, 45, 46, 47, 48, 49, 50, 51, 52, 53, 54, 55, 56, 57, 58, 59, 60, 61, 62, 63, 64, 65, 66, 67, 68, 69, 70, 71, 72, 73, 74, 75, 76, 77, 78, 79, 80, 81, 82, 83, 84, 85, 86, 87, 88, 89, 90, 91, 92, 93, 94, 95, 96, 97, 98, 99, 100, 101, 102, 103, 104, 105, 106, 107, 108, 109, 110, 111, 112, 113, 114, 115, 116, 117, 118, 119, 120, 121, 122, 123, 124, 125, 126, 127, 128, 129, 130, 131, 132, 133, 134, 135, 136, 137, 138, 139, 140, 141, 142, 143, 144, 145, 146, 147, 148, 149, 150, 151, 152, 153, 154, 155, 156, 157, 158, 159, 160, 161, 162, 163, 164, 165, 166, 167, 168, 169, 170, 171, 172, 173, 174, 175, 176, 177, 178, 179, 180, 181, 182, 183, 184, 185, 186, 187, 188, 189, 190, 191, 192, 193, 194, 195, 196, 197, 198, 199, 200, 201, 202, 203, 204, 205, 206, 207, 208, 209, 210, 211, 212, 213, 214, 215, 216, 217, 218, 219, 220, 221, 222, 223, 224, 225, 226, 227, 228, 229, 230, 231, 232, 233, 234, 235, 236, 237, 238, 239, 240, 241, 242, 243, 244, 245, 246], [(4, 61)], []⟩), (10, ⟨[0, 1, 2, 5, 6, 7, 8, 9, 10, 11, 12, 13, 14, 15, 16, 17, 18, 19, 20, 21, 22, 23, 24, 25, 26, 27, 28, 29, 30, 31, 32, 33, 34, 35, 36, 37, 38, 39, 40, 41, 42, 43, 44, 45, 46, 47, 48, 49, 50, 51, 52, 53, 54, 55, 56, 57, 58, 59, 60, 61, 62, 63, 64, 65, 66, 67, 68, 69, 70, 71, 72, 73, 74, 75, 76, 77, 78, 79, 80, 81, 82, 83, 84, 85, 86, 87, 88, 89, 90, 91, 92, 93, 94, 95, 96, 97, 98, 99, 100, 101, 102, 103, 104, 105, 106, 107, 108, 109, 110, 111, 112, 113, 114, 115, 116, 117, 118, 119, 120, 121, 122, 123, 124, 125, 126, 127, 128, 129, 130, 131, 132, 133, 134, 135, 136, 137, 138, 139, 140, 141, 142, 143, 144, 145, 146, 147, 148, 149, 150, 151, 152, 153, 154, 155, 156, 157, 158, 159, 160, 161, 162, 163, 164, 165, 166, 167, 168, 169, 170, 171, 172, 173, 174, 175, 176, 177, 178, 179, 180, 181, 182, 183, 184, 185, 186, 187, 188, 189, 190, 191, 192, 193, 194, 195, 196, 197, 198, 199, 200, 201, 202, 203, 204, 205, 206, 207, 208, 209, 210, 211, 212, 213, 214, 215, 216, 217, 218, 219, 220, 221, 222, 223, 224, 225, 226, 227, 228, 229, 230, 231, 232, 233, 234, 235, 236, 237, 238, 239, 240, 241, 242, 243, 244, 245, 246], [(4, 61)], [(4, 61)]⟩), (14, ⟨[0, 1, 2, 5, 6, 8, 9, 10, 11, 12, 13, 14, 15, 16, 17, 18, 19, 20, 21, 22, 23, 24, 25, 26, 27, 28, 29, 30, 31, 32, 33, 34, 35, 36, 37, 38, 39, 40, 41, 42, 43, 44, 45, 46, 47, 48, 49, 50, 51, 52, 53, 55, 56, 57, 58, 59, 60, 61, 62, 63, 64, 65, 66, 67, 68, 69, 70, 71, 72, 73, 74, 75, 76, 77, 78, 79, 80, 81, 82, 83, 84, 85, 86, 87, 88, 89, 90, 91, 92, 93, 94, 95, 96, 97, 98, 99, 100, 101, 102, 103, 104, 105, 106, 107, 108, 109, 110, 111, 112, 113, 114, 115, 116, 117, 118, 119, 120, 121, 122, 123, 124, 125, 126, 127, 128, 129, 130, 131, 132, 133, 134, 135, 136, 137, 138, 139, 140, 141, 142, 143, 144, 145, 146, 147, 148, 149, 150, 151, 152, 153, 154, 155, 156, 157, 158, 159, 160, 161, 162, 163, 164, 165, 166, 167, 168, 169, 170, 171, 172, 173, 174, 175, 176, 177, 178, 179, 180, 181, 182, 183, 184, 185, 186, 187, 188, 189, 190, 191, 192, 193, 194, 195, 196, 197, 198, 199, 200, 201, 202, 203, 204, 205, 206, 207, 208, 209, 210, 211, 212, 213, 214, 215, 216, 217, 218, 219, 220, 221, 222, 223, 224, 225, 226, 227, 228, 229, 230, 231, 232, 233, 234, 235, 236, 237, 238, 239, 240, 241, 242, 243, 244, 245, 246], [(4, 61)], []⟩), (37, ⟨[0, 1, 2, 3, 4, 5, 6, 7, 8, 9, 10, 11, 12, 13, 14, 15, 16, 17, 19, 20, 21, 22, 23, 24, 25, 26, 27, 28, 29, 30, 31, 32, 33, 34, 35, 36, 37, 38, 39, 40, 41, 42, 43, 44, 45, 46, 47, 48, 49, 50, 51, 52, 53, 54, 55, 56, 57, 58, 59, 60, 61, 62, 63, 64, 65, 66, 67, 68, 69, 70, 71, 72, 73, 74, 75, 76, 77, 78, 79, 80, 81, 82, 83, 84, 85, 86, 87, 88, 89, 90, 91, 92, 93, 94, 95, 96, 97, 98, 99, 100, 101, 102, 103, 104, 105, 106, 107, 108, 109, 110, 111, 112, 113, 114, 115, 116, 117, 118, 119, 120, 121, 122, 123, 124, 125, 126, 127, 128, 129, 130, 131, 132, 133, 134, 135, 136, 137, 138, 139, 140, 141, 142, 143, 144, 145, 146, 147, 148, 149, 150, 151, 152, 153, 154, 155, 156, 157, 158, 159, 160, 161, 162, 163, 164, 165, 166, 167, 168, 169, 170, 171, 172, 173, 174, 175, 176, 177, 178, 179, 180, 181, 182, 183, 184, 185, 186, 187, 188, 189, 190, 191, 192, 193, 194, 195, 196, 197, 198, 199, 200, 201, 202, 203, 204, 205, 206, 207, 208, 209, 210, 211, 212, 213, 214, 215, 216, 217, 218, 219, 220, 221, 222, 223, 224, 225, 228, 229, 230, 231, 232, 233, 234, 235, 236, 237, 238, 239, 240, 241, 242, 243, 244, 245, 246], [(18, 61)], []⟩), (23, ⟨[0, 1, 2, 5, 6, 8, 9, 10, 12, 13, 14, 15, 16, 17, 18, 19, 20, 21, 22, 23, 24, 25, 26, 27, 28, 29, 30, 31, 32, 33, 34, 35, 36, 37, 38, 39, 40, 41, 42, 43, 44, 45, 46, 47, 48, 49, 50, 51, 52, 53, 54, 55, 56, 57, 58, 59, 60, 61, 62, 63, 64, 65, 66, 67, 68, 69, 70, 71, 72, 73, 74, 75, 76, 77, 78, 79, 80, 81, 82, 83, 84, 85, 86, 87, 88, 89, 90, 91, 92, 93, 94, 95, 96, 97, 98, 99, 100, 101, 102, 103, 104, 105, 106, 107, 108, 109, 110, 111, 112, 113, 114, 115, 116, 117, 118, 119, 120, 121, 122, 123, 124, 125, 126, 127, 128, 129, 130, 131, 132, 134, 135, 136, 137, 138, 139, 140, 141, 142, 143, 144, 145, 146, 147, 148, 149, 150, 151, 152, 153, 154, 155, 156, 157, 158, 159, 160, 161, 162, 163, 164, 165, 166, 167, 168, 169, 170, 171, 172, 173, 174, 175, 176, 177, 178, 179, 180, 181, 182, 183, 184, 185, 186, 187, 188, 189, 190, 191, 192, 193, 194, 195, 196, 197, 198, 199, 200, 201, 202, 203, 204, 205, 206, 207, 208, 209, 210, 211, 212, 213, 214, 215, 216, 217, 218, 219, 220, 221, 222, 223, 224, 225, 226, 227, 228, 229, 230, 231, 232, 233, 234, 235, 236, 237, 238, 239, 240, 241, 242, 243, 244, 245, 246], [(4, 61)], []⟩), (31, ⟨[0, 1, 2, 5, 6, 7, 8, 9, 10, 12, 13, 14, 15, 16, 17, 18, 19, 20, 21, 22, 23, 24, 25, 26, 27, 28, 29, 30, 31, 32, 33, 34, 35, 36, 37, 38, 39, 40, 41, 42, 43, 44, 45, 46, 47, 48, 49, 50, 51, 52, 53, 54, 55, 56, 57, 58, 59, 60, 61, 62, 63, 64, 65, 66, 67, 68, 69, 70, 71, 72, 73, 74, 75, 76, 77, 78, 79, 80, 81, 82, 83, 84, 85, 86, 87, 88, 89, 90, 91, 92, 93, 94, 95, 96, 97, 98, 99, 100, 101, 102, 103, 104, 105, 106, 107, 108, 109, 110, 111, 112, 113, 114, 115, 116, 117, 118, 119, 120, 121, 122, 123, 124, 125, 126, 127, 128, 129, 130, 131, 132, 133, 134, 135, 136, 137, 138, 139, 140, 141, 142, 143, 144, 145, 146, 147, 148, 149, 150, 151, 152, 153, 154, 155, 156, 157, 158, 159, 160, 161, 162, 163, 164, 165, 166, 167, 168, 169, 170, 171, 172, 173, 174, 175, 176, 177, 178, 179, 180, 181, 182, 183, 184, 185, 186, 187, 188, 189, 190, 191, 192, 193, 194, 195, 196, 197, 198, 199, 200, 201, 202, 203, 204, 205, 206, 207, 208, 209, 210, 211, 212, 214, 215, 216, 217, 218, 219, 220, 221, 222, 223, 224, 225, 226, 227, 228, 229, 230, 231, 232, 233, 234, 235, 236, 237, 238, 239, 240, 241, 242, 243, 244, 245, 246], [(4, 61)], []⟩)], N, [], true⟩
noncomputable def impl_sha256Of.f (N : Nat) (a : List PV) : Option Res := run Tryz.prog (impl_sha256Of.E N) Tryz.f133 [(9, .ro)] [(9, .val)] a
noncomputable def impl_sha256Of.l0 (N : Nat) (n : Nat) (x0 : ByteArray) (y0 : PV) (y1 : List PV) : Option Res := loopAt Tryz.prog (impl_sha256Of.E N) Tryz.f133 [(9, .val)] [1, 1, 1, 0, 0] [] n ⟨mkSlots 247 [(0, .sc (.string x0)), (3, .ptr 0 []), (4, .ref 1 [])], ohOf [.box 166 (.arr 166 .u32 y0), .row 61 (PV.list y1)]⟩
noncomputable def impl_sha256Of.l1 (N : Nat) (n : Nat) (x5 : Int) (x6 : Int) (y0 : PV) (y1 : List PV) : Option Res := loopAt Tryz.prog (impl_sha256Of.E N) Tryz.f133 [(9, .val)] [1, 1, 1, 1, 1, 0, 1, 0] [] n ⟨mkSlots 247 [(3, .ptr 0 []), (4, .ref 1 []), (5, .sc (.int .u64 x5)), (6, .sc (.int .i64 x6))], ohOf [.box 166 (.arr 166 .u32 y0), .row 61 (PV.list y1)]⟩
noncomputable def impl_sha256Of.l2 (N : Nat) (n : Nat) (x4 : List PV) (y0 : PV) : Option Res := loopAt Tryz.prog (impl_sha256Of.E N) Tryz.f133 [(9, .val)] [1, 1, 1, 1, 1, 1, 0, 0] [] n ⟨mkSlots 247 [(3, .ptr 0 []), (4, .ro 61 (PV.list x4))], ohOf [.box 166 (.arr 166 .u32 y0)]⟩
noncomputable def impl_sha256Of.l3 (N : Nat) (m0 : Nat) (n : Nat) (x4 : List PV) (x54 : Int) (y0 : PV) (y1 : PV) : Option Res := loopAt Tryz.prog (impl_sha256Of.E N) Tryz.f133 [(9, .val)] [1, 1, 1, 1, 1, 1, 0, 0, 0, 1, 0, 0, 1, 0, 1, 0] [m0] n ⟨mkSlots 247 [(3, .ptr 0 []), (4, .ro 61 (PV.list x4)), (7, .ptr 1 []), (54, .sc (.int .i64 x54))], ohOf [.box 166 (.arr 166 .u32 y0), .box 168 (.arr 168 .u32 y1)]⟩
noncomputable def impl_sha256Of.l4 (N : Nat) (n : Nat) (x226 : PV) (x227 : Int) (y0 : List PV) : Option Res := loopAt Tryz.prog (impl_sha256Of.E N) Tryz.f133 [(9, .val)] [1, 1, 1, 1, 1, 1, 1, 1, 0, 1, 0] [] n ⟨mkSlots 247 [(18, .ref 0 []), (226, .arr 166 .u32 x226), (227, .sc (.int .i64 x227))], ohOf [.row 61 (PV.list y0)]⟩
noncomputable def impl_sha256Of.l5 (N : Nat) (m0 : Nat) (n : Nat) (x4 : List PV) (x133 : Int) (y0 : PV) (y1 : PV) (y2 : PV) : Option Res := loopAt Tryz.prog (impl_sha256Of.E N) Tryz.f133 [(9, .val)] [1, 1, 1, 1, 1, 1, 0, 0, 0, 1, 0, 0, 1, 1, 1, 0, 1, 0] [m0] n ⟨mkSlots 247 [(3, .ptr 0 []), (4, .ro 61 (PV.list x4)), (7, .ptr 1 []), (11, .ptr 2 []), (133, .sc (.int .i64 x133))], ohOf [.box 166 (.arr 166 .u32 y0), .box 168 (.arr 168 .u32 y1), .box 166 (.arr 166 .u32 y2)]⟩
noncomputable def impl_sha256Of.l6 (N : Nat) (m0 : Nat) (n : Nat) (x4 : List PV) (x213 : Int) (y0 : PV) (y1 : PV) : Option Res := loopAt Tryz.prog (impl_sha256Of.E N) Tryz.f133 [(9, .val)] [1, 1, 1, 1, 1, 1, 0, 0, 0, 1, 0, 0, 1, 1, 1, 1, 1, 0] [m0] n ⟨mkSlots 247 [(3, .ptr 0 []), (4, .ro 61 (PV.list x4)), (11, .ptr 1 []), (213, .sc (.int .i64 x213))], ohOf [.box 166 (.arr 166 .u32 y0), .box 166 (.arr 166 .u32 y1)]⟩
theorem impl_sha256Of.f_eq (N : Nat) (a0 : PV) : impl_sha256Of.f N [a0] = if a0.toStr.size ≤ 9223372036854775807 then (if (bytesL a0.toStr).length + [(PV.sc (.int .u8 128))].length ≤ 140737488355328 then (impl_sha256Of.l0 N N a0.toStr (PV.agg [(PV.sc (.int .u32 1779033703)), (PV.sc (.int .u32 3144134277)), (PV.sc (.int .u32 1013904242)), (PV.sc (.int .u32 2773480762)), (PV.sc (.int .u32 1359893119)), (PV.sc (.int .u32 2600822924)), (PV.sc (.int .u32 528734635)), (PV.sc (.int .u32 1541459225))]) ((bytesL a0.toStr) ++ [(PV.sc (.int .u8 128))])) else none) else none := by kernel_rfl
theorem impl_sha256Of.l0_eq (N : Nat) (n : Nat) (x0 : ByteArray) (y0 : PV) (y1 : List PV) : impl_sha256Of.l0 N (n + 1) x0 y0 y1 = if 64 = 0 then none else (if (!decide ((Int.tmod (y1.length : Int) 64) = 56)) = true then (if y1.length + [(PV.sc (.int .u8 0))].length ≤ 140737488355328 then (impl_sha256Of.l0 N n x0 y0 (y1 ++ [(PV.sc (.int .u8 0))])) else none) else (impl_sha256Of.l1 N N (IntKind.u64.wrap ((IntKind.u64.wrap (x0.size : Int)) * 8)) 56 y0 y1)) := by kernel_rfl
theorem impl_sha256Of.l1_eq (N : Nat) (n : Nat) (x5 : Int) (x6 : Int) (y0 : PV) (y1 : List PV) : impl_sha256Of.l1 N (n + 1) x5 x6 y0 y1 = if decide (0 ≤ x6) = true then (if 0 ≤ x6 then (if y1.length + [(PV.sc (.int .u8 (IntKind.u8.wrap (shrI .u64 x5 x6))))].length ≤ 140737488355328 then (impl_sha256Of.l1 N n x5 (IntKind.i64.wrap (x6 - 8)) y0 (y1 ++ [(PV.sc (.int .u8 (IntKind.u8.wrap (shrI .u64 x5 x6))))])) else none) else none) else (impl_sha256Of.l2 N N y1 y0) := by kernel_rfl
theorem impl_sha256Of.l2_eq (N : Nat) (n : Nat) (x4 : List PV) (y0 : PV) : impl_sha256Of.l2 N (n + 1) x4 y0 = if decide (0 < (x4.length : Int)) = true then (impl_sha256Of.l3 N n N x4 0 y0 (PV.agg (List.replicate 64 (.sc (.int .u32 0))))) else (impl_sha256Of.l4 N N y0 0 []) := by kernel_rfl
theorem impl_sha256Of.l3_eq (N : Nat) (m0 : Nat) (n : Nat) (x4 : List PV) (x54 : Int) (y0 : PV) (y1 : PV) : impl_sha256Of.l3 N m0 (n + 1) x4 x54 y0 y1 = if decide (x54 < 64) = true then (if decide (x54 < 16) = true then (if 0 ≤ (IntKind.i64.wrap (4 * x54)) then (if (IntKind.i64.wrap (4 * x54)) < (x4.length : Int) then (if 0 ≤ 24 then (if 0 ≤ (IntKind.i64.wrap ((IntKind.i64.wrap (4 * x54)) + 1)) then (if (IntKind.i64.wrap ((IntKind.i64.wrap (4 * x54)) + 1)) < (x4.length : Int) then (if 0 ≤ 16 then (if 0 ≤ (IntKind.i64.wrap ((IntKind.i64.wrap (4 * x54)) + 2)) then (if (IntKind.i64.wrap ((IntKind.i64.wrap (4 * x54)) + 2)) < (x4.length : Int) then (if 0 ≤ 8 then (if 0 ≤ (IntKind.i64.wrap ((IntKind.i64.wrap (4 * x54)) + 3)) then (if (IntKind.i64.wrap ((IntKind.i64.wrap (4 * x54)) + 3)) < (x4.length : Int) then (if 0 ≤ x54 then (if x54 < ((64 : Nat) : Int) then (impl_sha256Of.l3 N m0 n x4 (IntKind.i64.wrap (x54 + 1)) y0 (PV.agg (y1.parts.set x54.toNat (PV.sc (.int .u32 (bOr .u32 (bOr .u32 (bOr .u32 (shlI .u32 (IntKind.u32.wrap (((PV.list x4).elem ((IntKind.i64.wrap (4 * x54)).toNat)).toInt)) 24) (shlI .u32 (IntKind.u32.wrap (((PV.list x4).elem ((IntKind.i64.wrap ((IntKind.i64.wrap (4 * x54)) + 1)).toNat)).toInt)) 16)) (shlI .u32 (IntKind.u32.wrap (((PV.list x4).elem ((IntKind.i64.wrap ((IntKind.i64.wrap (4 * x54)) + 2)).toNat)).toInt)) 8)) (IntKind.u32.wrap (((PV.list x4).elem ((IntKind.i64.wrap ((IntKind.i64.wrap (4 * x54)) + 3)).toNat)).toInt)))))))) else none) else none) else none) else none) else none) else none) else none) else none) else none) else none) else none) else none) else none) else (if 0 ≤ (IntKind.i64.wrap (x54 - 15)) then (if (IntKind.i64.wrap (x54 - 15)) < ((64 : Nat) : Int) then (if 0 ≤ (IntKind.i64.wrap (x54 - 2)) then (if (IntKind.i64.wrap (x54 - 2)) < ((64 : Nat) : Int) then (if 0 ≤ (IntKind.i64.wrap (x54 - 16)) then (if (IntKind.i64.wrap (x54 - 16)) < ((64 : Nat) : Int) then (if 0 ≤ (IntKind.i64.wrap (x54 - 7)) then (if (IntKind.i64.wrap (x54 - 7)) < ((64 : Nat) : Int) then ((impl_rolled.f N [(PV.sc (.int .u32 ((y1.fld ((IntKind.i64.wrap (x54 - 15)).toNat)).toInt))), (PV.sc (.int .i64 7))]).bind fun t1 => (impl_rolled.f N [(PV.sc (.int .u32 ((y1.fld ((IntKind.i64.wrap (x54 - 15)).toNat)).toInt))), (PV.sc (.int .i64 18))]).bind fun t2 => if 0 ≤ 3 then ((impl_rolled.f N [(PV.sc (.int .u32 ((y1.fld ((IntKind.i64.wrap (x54 - 2)).toNat)).toInt))), (PV.sc (.int .i64 17))]).bind fun t3 => (impl_rolled.f N [(PV.sc (.int .u32 ((y1.fld ((IntKind.i64.wrap (x54 - 2)).toNat)).toInt))), (PV.sc (.int .i64 19))]).bind fun t4 => if 0 ≤ 10 then (if 0 ≤ x54 then (if x54 < ((64 : Nat) : Int) then (impl_sha256Of.l3 N m0 n x4 (IntKind.i64.wrap (x54 + 1)) y0 (PV.agg (y1.parts.set x54.toNat (PV.sc (.int .u32 (IntKind.u32.wrap ((IntKind.u32.wrap ((IntKind.u32.wrap (((y1.fld ((IntKind.i64.wrap (x54 - 16)).toNat)).toInt) + ((y1.fld ((IntKind.i64.wrap (x54 - 7)).toNat)).toInt))) + (bXor .u32 (bXor .u32 ((t1.headD default).toInt) ((t2.headD default).toInt)) (shrI .u32 ((y1.fld ((IntKind.i64.wrap (x54 - 15)).toNat)).toInt) 3)))) + (bXor .u32 (bXor .u32 ((t3.headD default).toInt) ((t4.headD default).toInt)) (shrI .u32 ((y1.fld ((IntKind.i64.wrap (x54 - 2)).toNat)).toInt) 10))))))))) else none) else none) else none) else none) else none) else none) else none) else none) else none) else none) else none) else none)) else (impl_sha256Of.l5 N m0 N x4 0 y0 y1 y0) := by kernel_rfl
theorem impl_sha256Of.l4_eq (N : Nat) (n : Nat) (x226 : PV) (x227 : Int) (y0 : List PV) : impl_sha256Of.l4 N (n + 1) x226 x227 y0 = if decide (x227 < 8) = true then (if 0 ≤ x227 then (if x227 < ((8 : Nat) : Int) then (if 0 ≤ 24 then (if 0 ≤ 16 then (if 0 ≤ 8 then (if y0.length + [(PV.sc (.int .u8 (IntKind.u8.wrap (shrI .u32 ((x226.fld x227.toNat).toInt) 24)))), (PV.sc (.int .u8 (IntKind.u8.wrap (shrI .u32 ((x226.fld x227.toNat).toInt) 16)))), (PV.sc (.int .u8 (IntKind.u8.wrap (shrI .u32 ((x226.fld x227.toNat).toInt) 8)))), (PV.sc (.int .u8 (IntKind.u8.wrap ((x226.fld x227.toNat).toInt))))].length ≤ 140737488355328 then (impl_sha256Of.l4 N n x226 (IntKind.i64.wrap (x227 + 1)) (y0 ++ [(PV.sc (.int .u8 (IntKind.u8.wrap (shrI .u32 ((x226.fld x227.toNat).toInt) 24)))), (PV.sc (.int .u8 (IntKind.u8.wrap (shrI .u32 ((x226.fld x227.toNat).toInt) 16)))), (PV.sc (.int .u8 (IntKind.u8.wrap (shrI .u32 ((x226.fld x227.toNat).toInt) 8)))), (PV.sc (.int .u8 (IntKind.u8.wrap ((x226.fld x227.toNat).toInt))))])) else none) else none) else none) else none) else none) else none) else (some [(PV.sc (.string (bytesOfL y0)))]) := by kernel_rfl
theorem impl_sha256Of.l5_eq (N : Nat) (m0 : Nat) (n : Nat) (x4 : List PV) (x133 : Int) (y0 : PV) (y1 : PV) (y2 : PV) : impl_sha256Of.l5 N m0 (n + 1) x4 x133 y0 y1 y2 = if decide (x133 < 64) = true then (if 0 ≤ 4 then (if 4 < ((8 : Nat) : Int) then (if 0 ≤ 0 then (if 0 < ((8 : Nat) : Int) then (if 0 ≤ 7 then (if 7 < ((8 : Nat) : Int) then ((impl_rolled.f N [(PV.sc (.int .u32 ((y2.fld 4).toInt))), (PV.sc (.int .i64 6))]).bind fun t5 => (impl_rolled.f N [(PV.sc (.int .u32 ((y2.fld 4).toInt))), (PV.sc (.int .i64 11))]).bind fun t6 => (impl_rolled.f N [(PV.sc (.int .u32 ((y2.fld 4).toInt))), (PV.sc (.int .i64 25))]).bind fun t7 => if 0 ≤ 5 then (if 5 < ((8 : Nat) : Int) then (if 0 ≤ 6 then (if 6 < ((8 : Nat) : Int) then (if 0 ≤ x133 then (if x133 < ((64 : Nat) : Int) then (if 0 ≤ x133 then (if x133 < ((64 : Nat) : Int) then ((impl_rolled.f N [(PV.sc (.int .u32 ((y2.fld 0).toInt))), (PV.sc (.int .i64 2))]).bind fun t8 => (impl_rolled.f N [(PV.sc (.int .u32 ((y2.fld 0).toInt))), (PV.sc (.int .i64 13))]).bind fun t9 => (impl_rolled.f N [(PV.sc (.int .u32 ((y2.fld 0).toInt))), (PV.sc (.int .i64 22))]).bind fun t10 => if 0 ≤ 1 then (if 1 < ((8 : Nat) : Int) then (if 0 ≤ 2 then (if 2 < ((8 : Nat) : Int) then (if 0 ≤ 1 then (if 1 < ((8 : Nat) : Int) then (if 0 ≤ 2 then (if 2 < ((8 : Nat) : Int) then (if 0 ≤ 1 then (if 1 < ((8 : Nat) : Int) then (if 0 ≤ 2 then (if 2 < ((8 : Nat) : Int) then (if 0 ≤ 3 then (if 3 < ((8 : Nat) : Int) then (if 0 ≤ 5 then (if 5 < ((8 : Nat) : Int) then (if 0 ≤ 6 then (if 6 < ((8 : Nat) : Int) then (impl_sha256Of.l5 N m0 n x4 (IntKind.i64.wrap (x133 + 1)) y0 y1 (PV.agg [(PV.sc (.int .u32 (IntKind.u32.wrap ((IntKind.u32.wrap ((IntKind.u32.wrap ((IntKind.u32.wrap ((IntKind.u32.wrap (((y2.fld 7).toInt) + (bXor .u32 (bXor .u32 ((t5.headD default).toInt) ((t6.headD default).toInt)) ((t7.headD default).toInt)))) + (bXor .u32 (bAnd .u32 ((y2.fld 4).toInt) ((y2.fld 5).toInt)) (bAnd .u32 (bXor .u32 4294967295 ((y2.fld 4).toInt)) ((y2.fld 6).toInt))))) + ((shaStepP.fld x133.toNat).toInt))) + ((y1.fld x133.toNat).toInt))) + (IntKind.u32.wrap ((bXor .u32 (bXor .u32 ((t8.headD default).toInt) ((t9.headD default).toInt)) ((t10.headD default).toInt)) + (bXor .u32 (bXor .u32 (bAnd .u32 ((y2.fld 0).toInt) ((y2.fld 1).toInt)) (bAnd .u32 ((y2.fld 0).toInt) ((y2.fld 2).toInt))) (bAnd .u32 ((y2.fld 1).toInt) ((y2.fld 2).toInt))))))))), (PV.sc (.int .u32 ((y2.fld 0).toInt))), (PV.sc (.int .u32 ((y2.fld 1).toInt))), (PV.sc (.int .u32 ((y2.fld 2).toInt))), (PV.sc (.int .u32 (IntKind.u32.wrap (((y2.fld 3).toInt) + (IntKind.u32.wrap ((IntKind.u32.wrap ((IntKind.u32.wrap ((IntKind.u32.wrap (((y2.fld 7).toInt) + (bXor .u32 (bXor .u32 ((t5.headD default).toInt) ((t6.headD default).toInt)) ((t7.headD default).toInt)))) + (bXor .u32 (bAnd .u32 ((y2.fld 4).toInt) ((y2.fld 5).toInt)) (bAnd .u32 (bXor .u32 4294967295 ((y2.fld 4).toInt)) ((y2.fld 6).toInt))))) + ((shaStepP.fld x133.toNat).toInt))) + ((y1.fld x133.toNat).toInt))))))), (PV.sc (.int .u32 ((y2.fld 4).toInt))), (PV.sc (.int .u32 ((y2.fld 5).toInt))), (PV.sc (.int .u32 ((y2.fld 6).toInt)))])) else none) else none) else none) else none) else none) else none) else none) else none) else none) else none) else none) else none) else none) else none) else none) else none) else none) else none) else none) else none) else none) else none) else none) else none) else none) else none) else none) else none) else none) else none) else none) else none) else (impl_sha256Of.l6 N m0 N x4 0 y0 y2) := by kernel_rfl
theorem impl_sha256Of.l6_eq (N : Nat) (m0 : Nat) (n : Nat) (x4 : List PV) (x213 : Int) (y0 : PV) (y1 : PV) : impl_sha256Of.l6 N m0 (n + 1) x4 x213 y0 y1 = if decide (x213 < 8) = true then (if 0 ≤ x213 then (if x213 < ((8 : Nat) : Int) then (if 0 ≤ x213 then (if x213 < ((8 : Nat) : Int) then (if 0 ≤ x213 then (if x213 < ((8 : Nat) : Int) then (impl_sha256Of.l6 N m0 n x4 (IntKind.i64.wrap (x213 + 1)) (PV.agg (y0.parts.set x213.toNat (PV.sc (.int .u32 (IntKind.u32.wrap (((y0.fld x213.toNat).toInt) + ((y1.fld x213.toNat).toInt))))))) y1) else none) else none) else none) else none) else none) else none) else (if 0 ≤ 64 then (if 64 ≤ (x4.length : Int) then (impl_sha256Of.l2 N m0 ((x4.drop 64).take (x4.length - 64)) y0) else none) else none) := by kernel_rfl
noncomputable def impl_sha256Of.S (N : Nat) : ASpec := ⟨[(9, .ro)], [(9, .val)], impl_sha256Of.f N⟩
theorem impl_sha256Of.ok (N : Nat) : FnOk Tryz.prog 133 (impl_sha256Of.S N) := fnOk_ofz (E := impl_sha256Of.E N) mix Tryz.func133 (by kernel_rfl) (by kernel_rfl) (by kernel_rfl) (lk_ok (all_cons (impl_rolled.ok N) all_nil)) (by kernel_rfl) (fun _ _ h => h)

/-! ### impl_hmacOf: function 115, loop.example/medlar/impl.hmacOf -/
noncomputable def impl_hmacOf.E (N : Nat) : Env := ⟨lk [(133, impl_sha256Of.S N)], nzk [(7, ⟨[0, 2, 3, 4, 7, 8, 9, 10, 11, 12, 13, 14, 15, 16, 17, 18, 19, 20, 21, 24, 25, 26, 27, 28, 29, 30, 31, 32, 33, 34, 35, 36, 37, 38, 39, 40, 41, 42, 43, 44, 45, 46, 47], [], []⟩)], N, [], false⟩
noncomputable def impl_hmacOf.f (N : Nat) (a : List PV) : Option Res := run Tryz.prog (impl_hmacOf.E N) Tryz.f115 [(9, .ro), (9, .ro)] [(9, .val)] a
noncomputable def impl_hmacOf.l0 (N : Nat) (n : Nat) (x1 : ByteArray) (x22 : Int) (x23 : Int) (y0 : List PV) (y1 : List PV) : Option Res := loopAt Tryz.prog (impl_hmacOf.E N) Tryz.f115 [(9, .val)] [1, 1, 1, 1, 1, 0, 1, 0] [] n ⟨mkSlots 48 [(1, .sc (.string x1)), (5, .ref 0 []), (6, .ref 1 []), (22, .sc (.int .i64 x22)), (23, .sc (.int .i64 x23))], ohOf [.row 61 (PV.list y0), .row 61 (PV.list y1)]⟩
theorem impl_hmacOf.f_eq (N : Nat) (a0 : PV) (a1 : PV) : impl_hmacOf.f N [a0, a1] = if decide (64 < (a0.toStr.size : Int)) = true then ((impl_sha256Of.f N [(PV.sc (.string a0.toStr))]).bind fun t1 => if 0 ≤ 64 then (if 64 ≤ 64 then (if 64 ≤ 281474976710656 then (if 0 ≤ 64 then (if 64 ≤ 64 then (if 64 ≤ 281474976710656 then (impl_hmacOf.l0 N N a1.toStr (((bytesL ((t1.headD default).toStr)).take (List.replicate 64 (PV.sc (.int .u8 0))).length ++ (List.replicate 64 (PV.sc (.int .u8 0))).drop ((t1.headD default).toStr).size).length : Int) 0 ((bytesL ((t1.headD default).toStr)).take (List.replicate 64 (PV.sc (.int .u8 0))).length ++ (List.replicate 64 (PV.sc (.int .u8 0))).drop ((t1.headD default).toStr).size) ((bytesL ((t1.headD default).toStr)).take (List.replicate 64 (PV.sc (.int .u8 0))).length ++ (List.replicate 64 (PV.sc (.int .u8 0))).drop ((t1.headD default).toStr).size)) else none) else none) else none) else none) else none) else none) else (if 0 ≤ 64 then (if 64 ≤ 64 then (if 64 ≤ 281474976710656 then (if 0 ≤ 64 then (if 64 ≤ 64 then (if 64 ≤ 281474976710656 then (impl_hmacOf.l0 N N a1.toStr (((bytesL a0.toStr).take (List.replicate 64 (PV.sc (.int .u8 0))).length ++ (List.replicate 64 (PV.sc (.int .u8 0))).drop a0.toStr.size).length : Int) 0 ((bytesL a0.toStr).take (List.replicate 64 (PV.sc (.int .u8 0))).length ++ (List.replicate 64 (PV.sc (.int .u8 0))).drop a0.toStr.size) ((bytesL a0.toStr).take (List.replicate 64 (PV.sc (.int .u8 0))).length ++ (List.replicate 64 (PV.sc (.int .u8 0))).drop a0.toStr.size)) else none) else none) else none) else none) else none) else none) := by kernel_rfl
theorem impl_hmacOf.l0_eq (N : Nat) (n : Nat) (x1 : ByteArray) (x22 : Int) (x23 : Int) (y0 : List PV) (y1 : List PV) : impl_hmacOf.l0 N (n + 1) x1 x22 x23 y0 y1 = if decide (x23 < x22) = true then (if 0 ≤ x23 then (if x23 < (y0.length : Int) then (if 0 ≤ x23 then (if x23 < (y0.length : Int) then (if 0 ≤ x23 then (if x23 < (y1.length : Int) then (if 0 ≤ x23 then (if x23 < (y1.length : Int) then (impl_hmacOf.l0 N n x1 x22 (IntKind.i64.wrap (x23 + 1)) (y0.set x23.toNat (PV.sc (.int .u8 (bXor .u8 (((PV.list y0).elem x23.toNat).toInt) 54)))) (y1.set x23.toNat (PV.sc (.int .u8 (bXor .u8 (((PV.list y1).elem x23.toNat).toInt) 92))))) else none) else none) else none) else none) else none) else none) else none) else none) else (if (bytesOfL y0).size + x1.size ≤ 9223372036854775807 then ((impl_sha256Of.f N [(PV.sc (.string ((bytesOfL y0) ++ x1)))]).bind fun t2 => if (bytesOfL y1).size + ((t2.headD default).toStr).size ≤ 9223372036854775807 then ((impl_sha256Of.f N [(PV.sc (.string ((bytesOfL y1) ++ ((t2.headD default).toStr))))]).bind fun t3 => some [(PV.sc (.string ((t3.headD default).toStr)))]) else none) else none) := by kernel_rfl
noncomputable def impl_hmacOf.S (N : Nat) : ASpec := ⟨[(9, .ro), (9, .ro)], [(9, .val)], impl_hmacOf.f N⟩
theorem impl_hmacOf.ok (N : Nat) : FnOk Tryz.prog 115 (impl_hmacOf.S N) := fnOk_of (E := impl_hmacOf.E N) mix Tryz.func115 (by kernel_rfl) (by kernel_rfl) (by kernel_rfl) (lk_ok (all_cons (impl_sha256Of.ok N) all_nil)) (by kernel_rfl) (fun _ _ h => h)

/-! ### impl_hexOf: function 114, loop.example/medlar/impl.hexOf -/
noncomputable def impl_hexOf.E (N : Nat) : Env := ⟨lk [], nzk [(3, ⟨[1, 2, 5, 6, 7, 8, 9, 10, 11, 12, 13, 14, 15, 16, 17, 18, 19, 20, 21, 22, 23, 24, 25, 26], [(3, 61)], []⟩)], N, [], false⟩
noncomputable def impl_hexOf.f (N : Nat) (a : List PV) : Option Res := run Tryz.prog (impl_hexOf.E N) Tryz.f114 [(9, .ro)] [(9, .val)] a
noncomputable def impl_hexOf.l0 (N : Nat) (n : Nat) (x0 : ByteArray) (x4 : Int) (y0 : List PV) : Option Res := loopAt Tryz.prog (impl_hexOf.E N) Tryz.f114 [(9, .val)] [1, 1, 0, 1, 0] [] n ⟨mkSlots 27 [(0, .sc (.string x0)), (3, .ref 0 []), (4, .sc (.int .i64 x4))], ohOf [.row 61 (PV.list y0)]⟩
theorem impl_hexOf.f_eq (N : Nat) (a0 : PV) : impl_hexOf.f N [a0] = impl_hexOf.l0 N N a0.toStr 0 [] := by kernel_rfl
theorem impl_hexOf.l0_eq (N : Nat) (n : Nat) (x0 : ByteArray) (x4 : Int) (y0 : List PV) : impl_hexOf.l0 N (n + 1) x0 x4 y0 = if decide (x4 < (x0.size : Int)) = true then (if 0 ≤ x4 then (if x4 < (x0.size : Int) then (if 16 = 0 then none else (if 0 ≤ (IntKind.u8.wrap (Int.tdiv ((x0.get! x4.toNat).toNat : Int) 16)) then (if (IntKind.u8.wrap (Int.tdiv ((x0.get! x4.toNat).toNat : Int) 16)) < ((ByteArray.mk #[48, 49, 50, 51, 52, 53, 54, 55, 56, 57, 97, 98, 99, 100, 101, 102]).size : Int) then (if 0 ≤ x4 then (if x4 < (x0.size : Int) then (if 16 = 0 then none else (if 0 ≤ (Int.tmod ((x0.get! x4.toNat).toNat : Int) 16) then (if (Int.tmod ((x0.get! x4.toNat).toNat : Int) 16) < ((ByteArray.mk #[48, 49, 50, 51, 52, 53, 54, 55, 56, 57, 97, 98, 99, 100, 101, 102]).size : Int) then (if y0.length + ([(PV.sc (.int .u8 (((ByteArray.mk #[48, 49, 50, 51, 52, 53, 54, 55, 56, 57, 97, 98, 99, 100, 101, 102]).get! (IntKind.u8.wrap (Int.tdiv ((x0.get! x4.toNat).toNat : Int) 16)).toNat).toNat : Int))), (PV.sc (.int .u8 (((ByteArray.mk #[48, 49, 50, 51, 52, 53, 54, 55, 56, 57, 97, 98, 99, 100, 101, 102]).get! (Int.tmod ((x0.get! x4.toNat).toNat : Int) 16).toNat).toNat : Int)))]).length ≤ 140737488355328 then (impl_hexOf.l0 N n x0 (IntKind.i64.wrap (x4 + 1)) (y0 ++ ([(PV.sc (.int .u8 (((ByteArray.mk #[48, 49, 50, 51, 52, 53, 54, 55, 56, 57, 97, 98, 99, 100, 101, 102]).get! (IntKind.u8.wrap (Int.tdiv ((x0.get! x4.toNat).toNat : Int) 16)).toNat).toNat : Int))), (PV.sc (.int .u8 (((ByteArray.mk #[48, 49, 50, 51, 52, 53, 54, 55, 56, 57, 97, 98, 99, 100, 101, 102]).get! (Int.tmod ((x0.get! x4.toNat).toNat : Int) 16).toNat).toNat : Int)))]))) else none) else none) else none)) else none) else none) else none) else none)) else none) else none) else (some [(PV.sc (.string (bytesOfL y0)))]) := by kernel_rfl
noncomputable def impl_hexOf.S (N : Nat) : ASpec := ⟨[(9, .ro)], [(9, .val)], impl_hexOf.f N⟩
theorem impl_hexOf.ok (N : Nat) : FnOk Tryz.prog 114 (impl_hexOf.S N) := fnOk_of (E := impl_hexOf.E N) mix Tryz.func114 (by kernel_rfl) (by kernel_rfl) (by kernel_rfl) (lk_ok all_nil) (by kernel_rfl) (fun _ _ h => h)

/-! ### impl_SealOf: function 72, loop.example/medlar/impl.SealOf -/
noncomputable def impl_SealOf.E (N : Nat) : Env := ⟨lk [(70, impl_keyOk.S N), (115, impl_hmacOf.S N), (114, impl_hexOf.S N)], nzk [], N, [], false⟩
noncomputable def impl_SealOf.f (N : Nat) (a : List PV) : Option Res := run Tryz.prog (impl_SealOf.E N) Tryz.f72 [(9, .ro), (9, .ro)] [(9, .val)] a
theorem impl_SealOf.f_eq (N : Nat) (a0 : PV) (a1 : PV) : impl_SealOf.f N [a0, a1] = (impl_keyOk.f N [(PV.sc (.string a0.toStr))]).bind fun t1 => if (!((t1.headD default).toBool)) = true then (some [(PV.sc (.string (ByteArray.mk #[])))]) else ((impl_hmacOf.f N [(PV.sc (.string a0.toStr)), (PV.sc (.string a1.toStr))]).bind fun t2 => (impl_hexOf.f N [(PV.sc (.string ((t2.headD default).toStr)))]).bind fun t3 => some [(PV.sc (.string ((t3.headD default).toStr)))]) := by kernel_rfl
noncomputable def impl_SealOf.S (N : Nat) : ASpec := ⟨[(9, .ro), (9, .ro)], [(9, .val)], impl_SealOf.f N⟩
theorem impl_SealOf.ok (N : Nat) : FnOk Tryz.prog 72 (impl_SealOf.S N) := fnOk_of (E := impl_SealOf.E N) mix Tryz.func72 (by kernel_rfl) (by kernel_rfl) (by kernel_rfl) (lk_ok (all_cons (impl_keyOk.ok N) (all_cons (impl_hmacOf.ok N) (all_cons (impl_hexOf.ok N) all_nil)))) (by kernel_rfl) (fun _ _ h => h)

/-! ### impl_ReleaseOk: function 27, loop.example/medlar/impl.ReleaseOk -/
noncomputable def impl_ReleaseOk.E (N : Nat) : Env := ⟨lk [(70, impl_keyOk.S N), (71, impl_Release_wellFormed.S N), (73, impl_Release_text.S N), (72, impl_SealOf.S N)], nzk [], N, [], false⟩
noncomputable def impl_ReleaseOk.f (N : Nat) (a : List PV) : Option Res := run Tryz.prog (impl_ReleaseOk.E N) Tryz.f27 [(9, .ro), (37, .ro)] [(4, .val)] a
theorem impl_ReleaseOk.f_eq (N : Nat) (a0 : PV) (a1 : PV) : impl_ReleaseOk.f N [a0, a1] = (impl_keyOk.f N [(PV.sc (.string a0.toStr))]).bind fun t1 => if (t1.headD default).toBool = true then ((impl_Release_wellFormed.f N [(PV.agg [(PV.sc (.int .i64 ((a1.fld 0).toInt))), (PV.agg [(a1.fld 1).fld 0, (a1.fld 1).fld 1, (PV.sc (.bool (((a1.fld 1).fld 2).toBool))), (a1.fld 1).fld 3]), (PV.sc (.string ((a1.fld 2).toStr))), (PV.sc (.string ((a1.fld 3).toStr)))])]).bind fun t2 => if (t2.headD default).toBool = true then ((impl_Release_text.f N [(PV.agg [(PV.sc (.int .i64 ((a1.fld 0).toInt))), (PV.agg [(a1.fld 1).fld 0, (a1.fld 1).fld 1, (PV.sc (.bool (((a1.fld 1).fld 2).toBool))), (a1.fld 1).fld 3]), (PV.sc (.string ((a1.fld 2).toStr))), (PV.sc (.string ((a1.fld 3).toStr)))])]).bind fun t3 => (impl_SealOf.f N [(PV.sc (.string a0.toStr)), (PV.sc (.string ((t3.headD default).toStr)))]).bind fun t4 => some [(PV.sc (.bool (decide (((a1.fld 3).toStr).toList = ((t4.headD default).toStr).toList))))]) else (some [(PV.sc (.bool false))])) else (some [(PV.sc (.bool false))]) := by kernel_rfl
noncomputable def impl_ReleaseOk.S (N : Nat) : ASpec := ⟨[(9, .ro), (37, .ro)], [(4, .val)], impl_ReleaseOk.f N⟩
theorem impl_ReleaseOk.ok (N : Nat) : FnOk Tryz.prog 27 (impl_ReleaseOk.S N) := fnOk_of (E := impl_ReleaseOk.E N) mix Tryz.func27 (by kernel_rfl) (by kernel_rfl) (by kernel_rfl) (lk_ok (all_cons (impl_keyOk.ok N) (all_cons (impl_Release_wellFormed.ok N) (all_cons (impl_Release_text.ok N) (all_cons (impl_SealOf.ok N) all_nil))))) (by kernel_rfl) (fun _ _ h => h)

/-! ### slices_SortFunc_impl_Entry: function 167, slices.SortFunc[[]loop.example/medlar/impl.Entry,loop.example/medlar/impl.Entry], walked by hand -/
section
open Go.RowKit Go.Proofs Go.Sort
def cmpB (x y : ByteArray) : Int := if Op.bytesLess x.toList y.toList then -1 else if (Op.bytesLess x.toList y.toList || x.toList == y.toList) then 0 else 1
def cmpE (a b : ByteArray × ByteArray) : Int := cmpB a.1 b.1
theorem nanS (x : ByteArray) (w : World) : Calls Tryz.prog 190 #[.string x] w fun e w' => e = .returned (.bool false) ∧ w' = w := by
  go_enter Tryz.func190, Tryz.ntmps190
  go_wp2
  go_ret
  exact ⟨by simp, rfl⟩
theorem run_gtr (x y : ByteArray) (w : World) : Sem.run Tryz.prog (Go.binOp BinOp.gtr 9 (.string x) (.string y)) w = .ok (.bool !(Op.bytesLess x.toList y.toList || x.toList == y.toList)) w := rfl
theorem cmpS (x y : ByteArray) (r : Int) (hr : cmpB x y = r) (w : World) : Calls Tryz.prog 169 #[.string x, .string y] w fun e w' => e = .returned (.int .i64 r) ∧ w' = w := by
  go_enter Tryz.func169, Tryz.ntmps169
  go_wp2_with (go_at_call 190; refine (nanS _ _).mono ?_; rintro e w' ⟨rfl, hw⟩; rw [hw])
  · go_ret
    rename_i h
    subst hr
    exact ⟨by simp [cmpB, h], rfl⟩
  · have h : Op.bytesLess x.toList y.toList = false := by assumption
    rw [run_gtr]
    cases h2 : (x.toList == y.toList)
    · go_wp2
      all_goals (go_ret; subst hr)
      all_goals first | exact ⟨by simp [cmpB, h, h2], rfl⟩ | (simp_all; done)
    · go_wp2
      all_goals (go_ret; subst hr)
      all_goals first | exact ⟨by simp [cmpB, h, h2], rfl⟩ | (simp_all; done)
/-- Draws and blocks behind a world. -/
def More (w w' : World) : Prop := ∃ q os, w' = grow (w.drewN q) os
theorem More.refl (w : World) : More w w := ⟨0, #[], by rw [grow_empty]; rfl⟩
theorem More.drew {w w' : World} (h : More w w') : More w w'.drew := by
  obtain ⟨q, os, rfl⟩ := h; exact ⟨q + 1, os, rfl⟩
theorem More.alloc {w w' : World} (o : Obj) (h : More w w') : More w (w'.alloc o) := by
  obtain ⟨q, os, rfl⟩ := h; exact ⟨q, os ++ #[o], by rw [alloc_eq_grow, grow_grow]⟩
theorem order (a b x y : ByteArray) (w : World) : Calls Tryz.prog 168 #[.agg #[.string a, .string x], .agg #[.string b, .string y]] w fun e w' => e = .returned (.int .i64 (cmpE (a, x) (b, y))) ∧ More w w' := by
  have cS := fun W => cmpS a b _ rfl W
  unfold cmpE
  dsimp only
  generalize cmpB a b = r2 at cS ⊢
  go_enter Tryz.func168, Tryz.ntmps168
  go_wp2_with (go_at_call 169; refine (cS _).mono ?_; rintro e W3 ⟨rfl, rfl⟩)
  go_ret
  exact ⟨rfl, ((More.refl w).alloc _).alloc _⟩
section
open Go.Shelf
def laysSE_ren : Go.Shelf.Ren := ⟨fun | 6 => 167 | 15 => 189 | 14 => 188 | 28 => 209 | 29 => 210 | 20 => 201 | 21 => 202 | 22 => 203 | 23 => 204 | 24 => 205 | 25 => 206 | 26 => 207 | 27 => 208 | 46 => 220 | 47 => 221 | 48 => 222 | 49 => 223 | 50 => 224 | 57 => 231 | n => n, fun | 22 => 32 | 24 => 99 | 25 => 174 | 3 => 3 | 39 => 163 | 0 => 0 | 53 => 159 | 55 => 167 | 4 => 4 | 46 => 207 | 45 => 206 | 50 => 136 | 5 => 5 | 9 => 9 | 66 => 221 | 70 => 225 | 76 => 233 | 77 => 234 | n => n, fun | n => n⟩
theorem laysSE : Go.Proofs.SlLaysF0.n6 Tryz.prog laysSE_ren := {
  mixed := by kernel_rfl
  f6 := ⟨Tryz.f167.name, by decide, Tryz.func167.trans (congrArg some (by kernel_rfl))⟩
  f14 := ⟨Tryz.f188.name, by decide, Tryz.func188.trans (congrArg some (by kernel_rfl))⟩
  f15 := Tryz.func189.trans (congrArg some (by kernel_rfl))
  f20 := ⟨Tryz.f201.name, by decide, Tryz.func201.trans (congrArg some (by kernel_rfl))⟩
  f21 := ⟨Tryz.f202.name, by decide, Tryz.func202.trans (congrArg some (by kernel_rfl))⟩
  f22 := ⟨Tryz.f203.name, by decide, Tryz.func203.trans (congrArg some (by kernel_rfl))⟩
  f23 := ⟨Tryz.f204.name, by decide, Tryz.func204.trans (congrArg some (by kernel_rfl))⟩
  f24 := ⟨Tryz.f205.name, by decide, Tryz.func205.trans (congrArg some (by kernel_rfl))⟩
  f25 := ⟨Tryz.f206.name, by decide, Tryz.func206.trans (congrArg some (by kernel_rfl))⟩
  f26 := ⟨Tryz.f207.name, by decide, Tryz.func207.trans (congrArg some (by kernel_rfl))⟩
  f27 := ⟨Tryz.f208.name, by decide, Tryz.func208.trans (congrArg some (by kernel_rfl))⟩
  f28 := Tryz.func209.trans (congrArg some (by kernel_rfl))
  f29 := Tryz.func210.trans (congrArg some (by kernel_rfl))
  f46 := ⟨Tryz.f220.name, by decide, Tryz.func220.trans (congrArg some (by kernel_rfl))⟩
  f47 := Tryz.func221.trans (congrArg some (by kernel_rfl))
  f48 := Tryz.func222.trans (congrArg some (by kernel_rfl))
  f49 := ⟨Tryz.f223.name, by decide, Tryz.func223.trans (congrArg some (by kernel_rfl))⟩
  f50 := ⟨Tryz.f224.name, by decide, Tryz.func224.trans (congrArg some (by kernel_rfl))⟩
  f57 := ⟨Tryz.f231.name, by decide, Tryz.func231.trans (congrArg some (by kernel_rfl))⟩
  t0 := Tryz.underlying0
  a0 := Tryz.isAgg0
  z0 := Tryz.sizeOf0
  v0 := Tryz.zeroValue0
  t3 := Tryz.underlying3
  a3 := Tryz.isAgg3
  z3 := Tryz.sizeOf3
  v3 := Tryz.zeroValue3
  t4 := Tryz.underlying4
  a4 := Tryz.isAgg4
  z4 := Tryz.sizeOf4
  v4 := Tryz.zeroValue4
  t5 := Tryz.underlying5
  a5 := Tryz.isAgg5
  z5 := Tryz.sizeOf5
  v5 := Tryz.zeroValue5
  t9 := Tryz.underlying9
  a9 := Tryz.isAgg9
  z9 := Tryz.sizeOf9
  v9 := Tryz.zeroValue9
  t22 := Tryz.underlying32
  a22 := Tryz.isAgg32
  z22 := Tryz.sizeOf32
  v22 := Tryz.zeroValue32
  t25 := Tryz.underlying174
  a25 := Tryz.isAgg174
  z25 := Tryz.sizeOf174
  v25 := Tryz.zeroValue174
  t39 := Tryz.underlying163
  a39 := Tryz.isAgg163
  z39 := Tryz.sizeOf163
  v39 := Tryz.zeroValue163
  t45 := Tryz.underlying206
  a45 := Tryz.isAgg206
  z45 := Tryz.sizeOf206
  v45 := Tryz.zeroValue206
  t46 := Tryz.underlying207
  a46 := Tryz.isAgg207
  z46 := Tryz.sizeOf207
  v46 := Tryz.zeroValue207
  t50 := Tryz.underlying136
  a50 := Tryz.isAgg136
  z50 := Tryz.sizeOf136
  v50 := Tryz.zeroValue136
  t53 := Tryz.underlying159
  a53 := Tryz.isAgg159
  z53 := Tryz.sizeOf159
  v53 := Tryz.zeroValue159
  t55 := Tryz.underlying167
  a55 := Tryz.isAgg167
  z55 := Tryz.sizeOf167
  v55 := Tryz.zeroValue167
  t66 := Tryz.underlying221
  a66 := Tryz.isAgg221
  z66 := Tryz.sizeOf221
  v66 := Tryz.zeroValue221
  t70 := Tryz.underlying225
  a70 := Tryz.isAgg225
  z70 := Tryz.sizeOf225
  v70 := Tryz.zeroValue225
  t76 := Tryz.underlying233
  a76 := Tryz.isAgg233
  z76 := Tryz.sizeOf233
  v76 := Tryz.zeroValue233
  t77 := Tryz.underlying234
  a77 := Tryz.isAgg234
  z77 := Tryz.sizeOf234
  v77 := Tryz.zeroValue234 }

end
def ent3P (g : ByteArray × ByteArray) : PV := .agg [strP g.1, strP g.2]
def toEnt3 (p : PV) : ByteArray × ByteArray := ((p.fld 0).toStr, (p.fld 1).toStr)
theorem toEnt3_ent3P (g : ByteArray × ByteArray) : toEnt3 (ent3P g) = g := rfl
def encS (g : ByteArray × ByteArray) : List Value := [.string g.1, .string g.2]
def sortE (l : List (ByteArray × ByteArray)) : List (ByteArray × ByteArray) := l.mergeSort fun x y => !(ltOf cmpE) y x
theorem sortE_len (l : List (ByteArray × ByteArray)) : (sortE l).length = l.length := by simp [sortE]
def isFn (g : Nat) : Value → Bool
  | .func (.func h) a b => decide (h = g ∧ a = #[] ∧ b = #[])
  | _ => false
theorem isFn_eq {g : Nat} {v : Value} (h : isFn g v = true) : v = .func (.func g) #[] #[] := by
  unfold isFn at h
  split at h
  · simp at h; simp [h]
  · cases h
noncomputable def slices_SortFunc_impl_Entry.f (N : Nat) (a : List PV) : Option (List PV) := match a with
  | [.list ps, .sc v] => if isFn 168 v = true ∧ ps.length < 4611686018427387904 ∧ ((ps.map toEnt3).map Prod.fst).Nodup then some [.list ((sortE (ps.map toEnt3)).map ent3P)] else none
  | _ => none
noncomputable def slices_SortFunc_impl_Entry.S (N : Nat) : ASpec := ⟨[(32, .mut), (119, .ro)], [], slices_SortFunc_impl_Entry.f N⟩
/-! the order -/
theorem str_tri (a b : ByteArray) : (a.toList < b.toList ∨ a.toList = b.toList) ∨ b.toList < a.toList := by
  by_cases h : a.toList < b.toList
  · exact .inl (.inl h)
  · by_cases h2 : b.toList < a.toList
    · exact .inr h2
    · exact .inl (.inr (Std.le_antisymm (Std.not_lt.1 h2) (Std.not_lt.1 h)))
theorem inj_of_nodup : ∀ {l : List (ByteArray × ByteArray)}, (l.map Prod.fst).Nodup → ∀ {a b : ByteArray × ByteArray}, a ∈ l → b ∈ l → a.1 = b.1 → a = b
  | [], _, _, _, h, _, _ => by cases h
  | x :: l, hn, a, b, ha, hb, he => by
    rw [List.map_cons, List.nodup_cons] at hn
    rcases List.mem_cons.1 ha with h1 | h1 <;> rcases List.mem_cons.1 hb with h2 | h2
    · rw [h1, h2]
    · exact absurd (show x.1 ∈ l.map Prod.fst by rw [← h1, he]; exact List.mem_map_of_mem h2) hn.1
    · exact absurd (show x.1 ∈ l.map Prod.fst by rw [← h2, ← he]; exact List.mem_map_of_mem h1) hn.1
    · exact inj_of_nodup hn.2 h1 h2 he
theorem lt_cmpE (a b : ByteArray × ByteArray) : ltOf cmpE a b = decide (a.1.toList < b.1.toList) := by
  unfold ltOf cmpE cmpB
  rw [Go.Proofs.bytesLess_eq]
  by_cases h4 : a.1.toList < b.1.toList
  · simp [h4]
  · have hn : ¬ b.1.toList < b.1.toList := Std.lt_irrefl
    by_cases h5 : a.1.toList = b.1.toList <;> simp [h4, h5, hn]
theorem swoE : SWO (ltOf cmpE) where
  irrefl x := by rw [lt_cmpE]; simp [Std.lt_irrefl]
  trans x y z h1 h2 := by
    rw [lt_cmpE] at *
    simp only [decide_eq_true_eq] at *
    exact Std.lt_trans h1 h2
  ntrans x y z h1 h2 := by
    rw [lt_cmpE] at *
    simp only [decide_eq_false_iff_not] at *
    exact Std.not_lt.2 (Std.le_trans (Std.not_lt.1 h2) (Std.not_lt.1 h1))
theorem key_eq {a b : ByteArray} (h1 : ¬ a.toList < b.toList) (h2 : ¬ b.toList < a.toList) : a = b := by
  have h5 : a.toList = b.toList := by rcases str_tri a b with (h | h) | h <;> first | exact absurd h h1 | exact absurd h h2 | exact h
  rw [ByteArray.toList_eq, ByteArray.toList_eq] at h5
  exact ByteArray.ext (Array.ext' h5)
/-- Of different keys there is one order. -/
theorem sortE_of {l d : List (ByteArray × ByteArray)} (hn : (l.map Prod.fst).Nodup) (hp : l.Perm d) (hs : d.Pairwise fun x y => (!(ltOf cmpE) y x) = true) : d = sortE l := by
  have hm : (sortE l).Pairwise fun x y => (!(ltOf cmpE) y x) = true := by
    refine List.pairwise_mergeSort ?_ ?_ l
    · intro a b c h1 h2
      simp only [Bool.not_eq_true'] at *
      exact swoE.ntrans c b a h2 h1
    · intro a b
      rw [lt_cmpE, lt_cmpE]
      by_cases h : b.1.toList < a.1.toList
      · have := Std.not_lt.2 (Std.le_of_lt h)
        simp [h, this]
      · simp [h]
  refine List.Perm.eq_of_pairwise (le := fun x y => (!(ltOf cmpE) y x) = true) ?_ hs hm ((hp.symm).trans (List.mergeSort_perm l _).symm)
  intro a b ha hb h1 h2
  rw [lt_cmpE] at h1 h2
  simp only [Bool.not_eq_true', decide_eq_false_iff_not] at h1 h2
  have hk : a.1 = b.1 := key_eq h2 h1
  have ha' : a ∈ l := hp.symm.subset ha
  have hb' : b ∈ l := (List.mergeSort_perm l _).subset hb
  exact inj_of_nodup hn ha' hb' hk
theorem sort_facts {ns : List (ByteArray × ByteArray)} {d' : Array (ByteArray × ByteArray)} (hP : PermIn 0 ns.toArray.size ns.toArray d') (hSo : SortedIn (ltOf cmpE) 0 ns.toArray.size d') : ns.Perm d'.toList ∧ d'.toList.Pairwise fun x y => (!(ltOf cmpE) y x) = true := by
  obtain ⟨hsz, _, hperm⟩ := hP
  have e1 : d'.extract 0 ns.toArray.size = d' := by rw [← hsz]; exact Array.extract_size
  rw [e1, Array.extract_size] at hperm
  refine ⟨hperm.symm, ?_⟩
  rw [List.pairwise_iff_getElem]
  intro i j hi hj hij
  have hi' : i < d'.size := by simpa using hi
  have hj' : j < d'.size := by simpa using hj
  have := hSo i j (Nat.zero_le _) hij (by omega)
  rw [getElem!_pos d' i hi', getElem!_pos d' j hj'] at this
  simpa using this
/-! rows of entries -/
theorem flat_len : ∀ ns : List (ByteArray × ByteArray), (ns.flatMap encS).length = ns.length * 2
  | [] => rfl
  | x :: ns => by rw [List.flatMap_cons, List.length_append, flat_len ns, List.length_cons]; simp [encS]; omega
theorem flat_get : ∀ (ns : List (ByteArray × ByteArray)) (k : Nat), k < ns.length * 2 → (ns.flatMap encS)[k]? = some ((encS ns[k / 2]!)[k % 2]!)
  | [], k, h => by simp at h
  | x :: ns, 0, h => rfl
  | x :: ns, 1, h => rfl
  | x :: ns, k + 2, h => by
    have h' : k < ns.length * 2 := by simp at h; omega
    have e1 : (k + 2) / 2 = k / 2 + 1 := by omega
    have e2 : (k + 2) % 2 = k % 2 := by omega
    rw [e1, e2, List.flatMap_cons]
    show (Value.string x.1 :: Value.string x.2 :: ns.flatMap encS)[k + 2]? = _
    simpa using flat_get ns k h'
theorem flatK_list (ns : List (ByteArray × ByteArray)) : (flatK encS 2 ns.toArray).toList = ns.flatMap encS := by
  apply List.ext_getElem?
  intro k
  by_cases hk : k < ns.length * 2
  · rw [flat_get ns k hk]
    have := get_flatK encS 2 ns.toArray k (by simpa using hk)
    have hs : k < (flatK encS 2 ns.toArray).size := by simpa using hk
    rw [getElem!_pos _ k hs] at this
    rw [Array.getElem?_toList, Array.getElem?_eq_getElem hs, this]
    simp
  · rw [List.getElem?_eq_none (l := ns.flatMap encS) (by rw [flat_len]; omega), List.getElem?_eq_none (by simp; omega)]
section
variable {w : World} {n : Nat}
theorem entry_seq : ∀ {ps : List PV} {xs : List Value} {F : List Nat}, OwSeq (Ow Tryz.prog w n 99) 2 ps xs F → ∃ ns : List (ByteArray × ByteArray), ps = ns.map ent3P ∧ xs = ns.flatMap encS ∧ F = []
  | [], xs, F, h => ⟨[], rfl, h.1, h.2⟩
  | p :: ps, xs, F, ⟨c, cs', k, F', h1, h2, h3, h4, h5⟩ => by
    obtain ⟨ns, e1, e2, e3⟩ := entry_seq h5
    cases n with
    | zero => exact h4.elim
    | succ n =>
      unfold Ow at h4
      have t35 : tk Tryz.prog 99 = .struct [9, 9] := by kernel_rfl
      simp only [t35] at h4
      obtain ⟨ps', rfl, h6⟩ := h4
      match ps', h6 with
      | [q1, q2], h6 =>
        obtain ⟨c1, c1', f1, f1', rfl, rfl, h7, c2, c2', f2, f2', rfl, rfl, h8, rfl, rfl⟩ := h6
        cases n with
        | zero => exact h7.elim
        | succ n =>
          have t9 : tk Tryz.prog 9 = .str := by kernel_rfl
          unfold Ow at h7 h8
          simp only [t9] at h7 h8
          obtain ⟨⟨s, rfl, rfl⟩, rfl⟩ := h7
          obtain ⟨⟨x, rfl, rfl⟩, rfl⟩ := h8
          exact ⟨(s, x) :: ns, by simp [e1, ent3P, strP], by simp [h1, e2, encS], by simp [h3, e3]⟩
      | [], h6 => exact h6.elim
      | [_], h6 => obtain ⟨_, _, _, _, _, _, _, h6⟩ := h6; exact h6.elim
      | _ :: _ :: _ :: _, h6 => obtain ⟨_, _, _, _, _, _, _, _, _, _, _, _, _, _, h6⟩ := h6; exact h6.elim
theorem entry_seq_of : ∀ ns : List (ByteArray × ByteArray), OwSeq (Ow Tryz.prog w 2 99) 2 (ns.map ent3P) (ns.flatMap encS) []
  | [] => ⟨rfl, rfl⟩
  | x :: ns => ⟨encS x, ns.flatMap encS, [], [], rfl, rfl, rfl, by
      have t35 : tk Tryz.prog 99 = .struct [9, 9] := by kernel_rfl
      have t9 : tk Tryz.prog 9 = .str := by kernel_rfl
      unfold Ow
      simp only [t35]
      refine ⟨_, rfl, [.string x.1], [.string x.2], [], [], rfl, rfl, ?_, [.string x.2], [], [], [], rfl, rfl, ?_, rfl, rfl⟩
      · unfold Ow; simp only [t9]; exact ⟨⟨x.1, rfl, rfl⟩, trivial⟩
      · unfold Ow; simp only [t9]; exact ⟨⟨x.2, rfl, rfl⟩, trivial⟩, entry_seq_of ns⟩
theorem ow_entry {p : PV} {v : Value} {F : List Nat} (h : Ow Tryz.prog w n 32 p [v] F) : ∃ ns : List (ByteArray × ByteArray), p = .list (ns.map ent3P) ∧ F = v.ownBlock.toList ∧
    ((v = .slice none 0 0 ∧ ns = []) ∨ ∃ g cap cur fz, v = .slice (some ⟨g, 0, none⟩) ns.length cap ∧ F = [g] ∧ FzOk cur.size fz ∧ w.heap[g]? = some (.cells cur 99 fz) ∧ ns.length ≤ cap ∧ cap ≤ maxLen ∧ cur.size = cap * 2 ∧ cur.toList.take (ns.length * 2) = ns.flatMap encS) := by
  cases n with
  | zero => exact h.elim
  | succ n =>
    have ht : tk Tryz.prog 32 = .slice 99 := by kernel_rfl
    unfold Ow at h
    simp only [ht] at h
    obtain ⟨v', xs, ps, F', hv, rfl, h1, h2, h3⟩ := h
    simp at hv; subst hv
    have hs : YtjfigkikhmffpaaGreatDoorAm.sizeOf Tryz.prog 99 = 2 := by kernel_rfl
    rw [hs] at h1 h3
    obtain ⟨ns, rfl, rfl, rfl⟩ := entry_seq h3
    refine ⟨ns, rfl, by rw [h2, List.append_nil], ?_⟩
    rcases h1.2 with ⟨rfl, h0⟩ | ⟨g, cap, cur, fz, rfl, h4, h5, h6, h7, h8, h9⟩
    · exact .inl ⟨rfl, List.eq_nil_of_length_eq_zero (by simpa using h0)⟩
    · refine .inr ⟨g, cap, cur, fz, by simp, by rw [h2]; rfl, h4, h5, by simpa using h6, h7, h8, by simpa using h9⟩
theorem ow_entry_of {g cap : Nat} {cur : Array Value} {fz : Nat × Nat} {ns : List (ByteArray × ByteArray)} (h4 : FzOk cur.size fz) (h5 : w.heap[g]? = some (.cells cur 99 fz)) (h6 : ns.length ≤ cap) (h7 : cap ≤ maxLen) (h8 : cur.size = cap * 2) (h9 : cur.toList.take (ns.length * 2) = ns.flatMap encS) :
    Ow Tryz.prog w 3 32 (.list (ns.map ent3P)) [.slice (some ⟨g, 0, none⟩) ns.length cap] [g] := by
  have ht : tk Tryz.prog 32 = .slice 99 := by kernel_rfl
  have hs : YtjfigkikhmffpaaGreatDoorAm.sizeOf Tryz.prog 99 = 2 := by kernel_rfl
  unfold Ow
  simp only [ht]
  refine ⟨_, ns.flatMap encS, ns.map ent3P, [], rfl, rfl, ⟨by rw [hs]; simpa using flat_len ns, .inr ⟨g, cap, cur, fz, by simp, h4, h5, by simpa using h6, h7, by rw [hs, h8], by rw [hs]; simpa using h9⟩⟩, rfl, ?_⟩
  rw [hs]
  exact entry_seq_of ns
theorem holds_entry {g : Nat} {cur : Array Value} {fz : Nat × Nat} {ns : List (ByteArray × ByteArray)} (h4 : FzOk cur.size fz) (h5 : w.heap[g]? = some (.cells cur 99 fz)) (h6 : ns.length * 2 ≤ cur.size) (h9 : cur.toList.take (ns.length * 2) = ns.flatMap encS) :
    HoldsK encS 2 w g 0 ns.toArray := by
  intro j hj
  have hj' : j < ns.length * 2 := by simpa using hj
  have hc : cur[j]? = some ((encS ns[j / 2]!)[j % 2]!) := by
    have : (cur.toList.take (ns.length * 2))[j]? = some ((encS ns[j / 2]!)[j % 2]!) := by rw [h9]; exact flat_get ns j hj'
    rw [List.getElem?_take, if_pos hj'] at this
    simpa using this
  refine ⟨?_, ?_⟩
  · simp only [World.cell?, h5, Nat.zero_add]
    rw [hc]
    have := get_flatK encS 2 ns.toArray j (by simpa using hj')
    rw [this]
    simp
  · simp only [World.frozen?, h5, Nat.zero_add]
    rcases h4 with rfl | h4
    · simp
    · have : ¬ fz.1 ≤ j := by omega
      simp [this]
theorem putK_take {cur : Array Value} (ns : List (ByteArray × ByteArray)) (hl : ns.length * 2 ≤ cur.size) : (Sort.putCells id 0 (flatK encS 2 ns.toArray) cur).toList.take (ns.length * 2) = ns.flatMap encS := by
  apply List.ext_getElem?
  intro k
  rw [List.getElem?_take]
  by_cases hk : k < ns.length * 2
  · have hk2 : k < cur.size := by omega
    have hs : k < (flatK encS 2 ns.toArray).size := by simpa using hk
    rw [if_pos hk, flat_get ns k hk]
    have := get_flatK encS 2 ns.toArray k (by simpa using hk)
    have e : ns.toArray[k / 2]! = ns[k / 2]! := by simp
    rw [e] at this
    simp only [Sort.putCells, Array.getElem?_toList, Array.getElem?_mapIdx, Array.getElem?_eq_getElem hk2, Option.map_some, Nat.zero_le, true_and, Nat.zero_add, Nat.sub_zero, if_pos hs, this, id]
  · rw [if_neg hk, List.getElem?_eq_none (by rw [flat_len]; omega)]
end
theorem slices_SortFunc_impl_Entry.ok (N : Nat) : FnOk Tryz.prog 167 (slices_SortFunc_impl_Entry.S N) := by
  refine ⟨⟨_, Tryz.func167, by kernel_rfl, by kernel_rfl⟩, fun w ok vs ps F L outs hglb ha hnd hok hd => ?_⟩
  match vs, ps, ha with
  | [v, u], [p, q], ha =>
    obtain ⟨r, L', rfl, ⟨hb, hrt⟩, rfl, _, ⟨n, how⟩, hq, rfl, rfl⟩ := ha
    obtain ⟨ns, rfl, hF, hcase⟩ := ow_entry how
    obtain ⟨m, cs, hr, hu⟩ := hq
    cases m with
    | zero => exact hr.elim
    | succ m =>
    have t80 : tk Tryz.prog 119 = .other := by kernel_rfl
    unfold YtjfigkikhmffpaaGreatDoorAm.Rd at hr
    simp only [t80] at hr
    obtain ⟨v, rfl, rfl, -⟩ := hr
    rw [valOf_one (fun fs => by rw [t80]; simp)] at hu
    subst hu
    have hd' : (if isFn 168 u = true ∧ (ns.map ent3P).length < 4611686018427387904 ∧ (((ns.map ent3P).map toEnt3).map Prod.fst).Nodup then some [PV.list ((sortE ((ns.map ent3P).map toEnt3)).map ent3P)] else none) = some outs := hd
    have hid : (ns.map ent3P).map toEnt3 = ns := by simp [Function.comp_def, toEnt3_ent3P]
    rw [hid, List.length_map] at hd'
    split at hd'
    case isFalse => cases hd'
    rename_i hc
    obtain ⟨hfn, hlen, hnk⟩ := hc
    rw [isFn_eq hfn]
    injection hd' with hd'
    subst hd'
    rcases hcase with ⟨hv, rfl⟩ | ⟨g, cap, cur, fz, hv, hFg, h4, h5, h6, h7, h8, h9⟩
    · have hc := AnyF.slices_SortFunc_none laysSE none 0 (.func (.func 168) #[] #[]) w
      change Calls Tryz.prog 167 _ _ _ at hc
      have hvs : ([r.hd, .func (.func 168) #[] #[]] : List Value).toArray = #[.slice none 0 0, .func (.func 168) #[] #[]] := by rw [hv]
      rw [hvs]
      refine Calls.mono hc ?_
      rintro x w' ⟨rfl, rfl⟩
      refine ⟨_, rfl, [], [], [r.ft], rfl, ⟨rfl, rfl⟩, ⟨r.ft, [], rfl, ?_, rfl⟩, ?_, ?_, ?_⟩
      · unfold LentAt1
        rw [hb]
        have e0 : sortE [] = [] := by simp [sortE]
        rw [e0]
        exact ⟨n, hrt ▸ how⟩
      · simpa using hnd
      · intro k hk
        refine .inr ?_
        simpa using hk
      · exact ⟨rfl, rfl, rfl, Nat.le_refl _, fun k hk hn => rfl⟩
    · have hg : g < w.heap.size := (Array.getElem?_eq_some_iff.1 h5).1
      have eg : ∀ args w, (callFunc 168 args).run Tryz.prog w = .ok (.enter 168 args) w := enters_of Tryz.func168 (by kernel_rfl) rfl
      have hcmp : CmpLays Tryz.prog 168 #[] encS 2 cmpE g 0 ns.toArray.size w := fun m os dk _ x y => order x.1 y.1 x.2 y.2 _
      have hc := AnyQ.slices_SortFunc laysSE 2 Tryz.isAgg99 Tryz.sizeOf99 encS (fun _ => rfl) (fun x v hv => by
        rcases List.mem_cons.1 hv with rfl | hv
        · rfl
        · rcases List.mem_cons.1 hv with rfl | hv
          · rfl
          · cases hv) cmpE swoE 168 #[] g 0 cap ns.toArray w eg hcmp (holds_entry h4 h5 (by omega) h9) hg (by simpa using hlen)
      change Calls Tryz.prog 167 _ _ _ at hc
      rw [List.size_toArray] at hc
      have hvs : ([r.hd, .func (.func 168) #[] #[]] : List Value).toArray = #[.slice (some ⟨g, 0, none⟩) ns.length cap, .func (.func 168) #[] #[]] := by rw [hv]
      rw [hvs]
      refine Calls.mono hc ?_
      rintro x w' ⟨rfl, d', m, os, hpm, hso, rfl⟩
      have hse : d' = (sortE ns).toArray := by
        obtain ⟨f1, f2⟩ := sort_facts hpm hso
        have := sortE_of hnk f1 f2
        rw [← this]
      subst hse
      have hlen' : (sortE ns).length = ns.length := sortE_len _
      refine ⟨_, rfl, [], [], [r.ft], rfl, ⟨rfl, rfl⟩, ⟨r.ft, [], rfl, ?_, rfl⟩, ?_, ?_, ?_⟩
      · unfold LentAt1
        rw [hb]
        have hw1 : (sortWorldK encS 2 w g 0 m (sortE ns).toArray os).heap[g]? = some (.cells (Sort.putCells id 0 (flatK encS 2 (sortE ns).toArray) cur) 99 fz) := by
          have h1 : (Sort.putRow id (Sort.ahead w m) g 0 (flatK encS 2 (sortE ns).toArray)).heap[g]? = some (.cells (Sort.putCells id 0 (flatK encS 2 (sortE ns).toArray) cur) 99 fz) := by
            have h5' : (Sort.ahead w m).heap[g]? = some (.cells cur 99 fz) := h5
            simp [Sort.putRow, Sort.mapBlock, Array.getElem?_modify, h5, Sort.ahead, Sort.onCells]
          have hlt := (Array.getElem?_eq_some_iff.1 h1).1
          unfold sortWorldK putRowK
          simp only [Sort.grow]
          rw [Array.getElem?_append_left hlt]
          exact h1
        have hsz : (Sort.putCells id 0 (flatK encS 2 (sortE ns).toArray) cur).size = cur.size := by simp [Sort.putCells]
        have htk := putK_take (cur := cur) (sortE ns) (by rw [hlen']; omega)
        refine ⟨3, ?_⟩
        have := ow_entry_of (cap := cap) (by rw [hsz]; exact h4) hw1 (by rw [hlen']; exact h6) h7 (by rw [hsz]; exact h8) htk
        rw [hlen', ← hv, ← hFg, hrt.symm] at this
        exact this
      · simpa using hnd
      · intro k hk
        refine .inr ?_
        simpa using hk
      · refine ⟨rfl, rfl, rfl, by simp [sortWorldK, putRowK, Sort.grow, Sort.putRow, Sort.mapBlock, Sort.ahead], fun k hk hn => ?_⟩
        have hkg : k ≠ g := fun h => hn (by simp [hFg, h])
        unfold sortWorldK putRowK
        simp only [Sort.grow]
        rw [Array.getElem?_append_left (by simpa [Sort.putRow, Sort.mapBlock, Sort.ahead] using hk)]
        simp [Sort.putRow, Sort.mapBlock, Sort.ahead, Array.getElem?_modify, Ne.symm hkg]
  | [], _, ha => exact absurd ha (by simp [ArgsAt, slices_SortFunc_impl_Entry.S])
  | [_], [], ha => exact absurd ha (by simp [ArgsAt, slices_SortFunc_impl_Entry.S])
  | [_], _ :: _, ha => exact absurd ha (by simp [ArgsAt, slices_SortFunc_impl_Entry.S])
  | _ :: _ :: _, [], ha => exact absurd ha (by simp [ArgsAt, slices_SortFunc_impl_Entry.S])
  | _ :: _ :: _, [_], ha => exact absurd ha (by simp [ArgsAt, slices_SortFunc_impl_Entry.S])
  | [_, _], _ :: _ :: _ :: _, ha => exact absurd ha (by simp [ArgsAt, slices_SortFunc_impl_Entry.S])
  | _ :: _ :: _ :: _, _ :: _ :: _, ha => exact absurd ha (by simp [ArgsAt, slices_SortFunc_impl_Entry.S])

end

-- MODES: 140 loop.example/medlar/impl.sortEntries mut
/-! ### impl_sortEntries: function 140, loop.example/medlar/impl.sortEntries -/
noncomputable def impl_sortEntries.E (N : Nat) : Env := ⟨lk [(167, slices_SortFunc_impl_Entry.S N)], nzk [], N, [(false, 32)], false⟩
noncomputable def impl_sortEntries.f (N : Nat) (a : List PV) : Option Res := run Tryz.prog (impl_sortEntries.E N) Tryz.f140 [(32, .mut)] [] a
theorem impl_sortEntries.f_eq (N : Nat) (a0 : PV) : impl_sortEntries.f N [a0] = (slices_SortFunc_impl_Entry.f N [a0, (PV.sc (.func (.func 168) #[] #[]))]).bind fun t1 => some [(t1.headD default)] := by kernel_rfl
noncomputable def impl_sortEntries.S (N : Nat) : ASpec := ⟨[(32, .mut)], [], impl_sortEntries.f N⟩
theorem impl_sortEntries.ok (N : Nat) : FnOk Tryz.prog 140 (impl_sortEntries.S N) := fnOk_of (E := impl_sortEntries.E N) mix Tryz.func140 (by kernel_rfl) (by kernel_rfl) (by kernel_rfl) (lk_ok (all_cons (slices_SortFunc_impl_Entry.ok N) all_nil)) (by kernel_rfl) (fun _ _ h => h)

/-! ### impl_DeltaDo: function 98, loop.example/medlar/impl.DeltaDo -/
noncomputable def impl_DeltaDo.E (N : Nat) : Env := ⟨lk [(58, impl_BookOk.S N), (112, impl_DeltaOk.S N), (130, impl_entryAt.S N), (59, impl_cloneBook.S N), (86, slices_Contains_string_string.S N), (140, impl_sortEntries.S N)], nzk [(5, ⟨[0, 1, 5, 7, 8, 9, 10, 11, 12, 13, 14, 15, 16, 17, 18, 19, 20, 21, 22, 23, 24, 25, 26, 30, 31, 32, 33, 34, 35, 36, 37, 38, 39, 40, 41, 42, 43, 44, 45, 46, 47, 48, 49, 50, 51, 52, 53, 54, 55, 56, 57, 58, 59, 60, 61, 62, 63, 64, 65, 66, 67, 68, 69, 70, 71, 72, 73, 74, 75, 76, 77, 78, 79, 80, 81, 82, 83, 84, 85, 86, 87, 88, 89, 90], [], []⟩), (11, ⟨[0, 1, 5, 7, 8, 9, 10, 11, 12, 13, 14, 15, 16, 17, 18, 19, 20, 21, 22, 23, 24, 25, 26, 27, 28, 29, 30, 31, 32, 33, 34, 35, 36, 37, 38, 39, 40, 41, 45, 46, 47, 48, 49, 50, 51, 52, 53, 54, 55, 56, 57, 58, 59, 60, 61, 62, 63, 64, 65, 66, 67, 68, 69, 70, 71, 72, 73, 74, 75, 76, 77, 78, 79, 80, 81, 82, 83, 84, 85, 86, 87, 88, 89, 90], [], []⟩)], N, [], false⟩
noncomputable def impl_DeltaDo.f (N : Nat) (a : List PV) : Option Res := run Tryz.prog (impl_DeltaDo.E N) Tryz.f98 [(43, .ro), (35, .ro)] [(43, .own), (4, .val)] a
noncomputable def impl_DeltaDo.l0 (N : Nat) (n : Nat) (x27 : PV) (x28 : Int) (x29 : Int) (y0_0 : PV) (y0_1 : PV) (y1_0 : PV) (y1_1 : PV) (y1_2 : Bool) (y1_3 : PV) (y4 : List PV) (y5 : List PV) : Option Res := loopAt Tryz.prog (impl_DeltaDo.E N) Tryz.f98 [(43, .own), (4, .val)] [1, 1, 1, 0, 1, 0] [] n ⟨mkSlots 91 [(2, .ptr 0 []), (3, .ptr 1 []), (4, .ptr 2 []), (6, .ptr 3 []), (27, .ro 22 x27), (28, .sc (.int .i64 x28)), (29, .sc (.int .i64 x29))], ohOf [.box 43 (.agg 43 [.ro 33 y0_0, .ro 32 y0_1]), .box 35 (.agg 35 [.ro 22 y1_0, .ro 32 y1_1, .sc (.bool y1_2), .ro 33 y1_3]), .box 43 (.agg 43 [.nil, .nil]), .box 43 (.agg 43 [.ref 4 [], .ref 5 []]), .row 33 (PV.list y4), .row 32 (PV.list y5)]⟩
noncomputable def impl_DeltaDo.l1 (N : Nat) (n : Nat) (x42 : PV) (x43 : Int) (x44 : Int) (y0_0 : PV) (y0_1 : PV) (y1_0 : PV) (y1_1 : PV) (y1_2 : Bool) (y1_3 : PV) (y4 : List PV) (y5 : List PV) : Option Res := loopAt Tryz.prog (impl_DeltaDo.E N) Tryz.f98 [(43, .own), (4, .val)] [1, 1, 1, 1, 0, 1, 0] [] n ⟨mkSlots 91 [(2, .ptr 0 []), (3, .ptr 1 []), (4, .ptr 2 []), (6, .ptr 3 []), (42, .ro 32 x42), (43, .sc (.int .i64 x43)), (44, .sc (.int .i64 x44))], ohOf [.box 43 (.agg 43 [.ro 33 y0_0, .ro 32 y0_1]), .box 35 (.agg 35 [.ro 22 y1_0, .ro 32 y1_1, .sc (.bool y1_2), .ro 33 y1_3]), .box 43 (.agg 43 [.nil, .nil]), .box 43 (.agg 43 [.ref 4 [], .ref 5 []]), .row 33 (PV.list y4), .row 32 (PV.list y5)]⟩
theorem impl_DeltaDo.f_eq (N : Nat) (a0 : PV) (a1 : PV) : impl_DeltaDo.f N [a0, a1] = (impl_BookOk.f N [(PV.agg [a0.fld 0, a0.fld 1])]).bind fun t1 => if (!((t1.headD default).toBool)) = false then ((impl_DeltaOk.f N [(PV.agg [a1.fld 0, a1.fld 1, (PV.sc (.bool ((a1.fld 2).toBool))), a1.fld 3])]).bind fun t2 => if (!((t2.headD default).toBool)) = true then (some [(PV.agg [(PV.list []), (PV.list [])]), (PV.sc (.bool false))]) else (if ([] : List PV).length + ((a0.fld 0).items).length ≤ 1954687338268 then (impl_DeltaDo.l0 N N (a1.fld 0) (((a1.fld 0).items).length : Int) 0 (a0.fld 0) (a0.fld 1) (a1.fld 0) (a1.fld 1) ((a1.fld 2).toBool) (a1.fld 3) (([] : List PV) ++ ((a0.fld 0).items)) []) else none)) else (some [(PV.agg [(PV.list []), (PV.list [])]), (PV.sc (.bool false))]) := by kernel_rfl
theorem impl_DeltaDo.l0_eq (N : Nat) (n : Nat) (x27 : PV) (x28 : Int) (x29 : Int) (y0_0 : PV) (y0_1 : PV) (y1_0 : PV) (y1_1 : PV) (y1_2 : Bool) (y1_3 : PV) (y4 : List PV) (y5 : List PV) : impl_DeltaDo.l0 N (n + 1) x27 x28 x29 y0_0 y0_1 y1_0 y1_1 y1_2 y1_3 y4 y5 = if decide (x29 < x28) = true then (if 0 ≤ x29 then (if x29 < (x27.items.length : Int) then ((impl_entryAt.f N [y0_1, (PV.sc (.string ((x27.elem x29.toNat).toStr)))]).bind fun t3 => if decide (((t3.headD default).toInt) < 0) = true then ((impl_cloneBook.f N [(PV.agg [y0_0, y0_1])]).bind fun t4 => some [(PV.agg [(t4.headD default).fld 0, (t4.headD default).fld 1]), (PV.sc (.bool false))]) else (impl_DeltaDo.l0 N n x27 x28 (IntKind.i64.wrap (x29 + 1)) y0_0 y0_1 y1_0 y1_1 y1_2 y1_3 y4 y5)) else none) else none) else (impl_DeltaDo.l1 N N y0_1 (y0_1.items.length : Int) 0 y0_0 y0_1 y1_0 y1_1 y1_2 y1_3 y4 y5) := by kernel_rfl
theorem impl_DeltaDo.l1_eq (N : Nat) (n : Nat) (x42 : PV) (x43 : Int) (x44 : Int) (y0_0 : PV) (y0_1 : PV) (y1_0 : PV) (y1_1 : PV) (y1_2 : Bool) (y1_3 : PV) (y4 : List PV) (y5 : List PV) : impl_DeltaDo.l1 N (n + 1) x42 x43 x44 y0_0 y0_1 y1_0 y1_1 y1_2 y1_3 y4 y5 = if decide (x44 < x43) = true then (if 0 ≤ x44 then (if x44 < (x42.items.length : Int) then ((slices_Contains_string_string.f N [y1_0, (PV.sc (.string (((x42.elem x44.toNat).fld 0).toStr)))]).bind fun t5 => if (!((t5.headD default).toBool)) = true then ((impl_entryAt.f N [y1_1, (PV.sc (.string (((x42.elem x44.toNat).fld 0).toStr)))]).bind fun t6 => if decide (((t6.headD default).toInt) < 0) = true then (if y5.length + ([(PV.agg [(PV.sc (.string (((x42.elem x44.toNat).fld 0).toStr))), (PV.sc (.string (((x42.elem x44.toNat).fld 1).toStr)))])]).length ≤ 4398046511104 then (impl_DeltaDo.l1 N n x42 x43 (IntKind.i64.wrap (x44 + 1)) y0_0 y0_1 y1_0 y1_1 y1_2 y1_3 y4 (y5 ++ ([(PV.agg [(PV.sc (.string (((x42.elem x44.toNat).fld 0).toStr))), (PV.sc (.string (((x42.elem x44.toNat).fld 1).toStr)))])]))) else none) else (impl_DeltaDo.l1 N n x42 x43 (IntKind.i64.wrap (x44 + 1)) y0_0 y0_1 y1_0 y1_1 y1_2 y1_3 y4 y5)) else (impl_DeltaDo.l1 N n x42 x43 (IntKind.i64.wrap (x44 + 1)) y0_0 y0_1 y1_0 y1_1 y1_2 y1_3 y4 y5)) else none) else none) else (if y5.length + y1_1.items.length ≤ 4398046511104 then ((impl_sortEntries.f N [(PV.list (y5 ++ y1_1.items))]).bind fun t7 => if y1_2 = true then (if ([] : List PV).length + y1_3.items.length ≤ 1954687338268 then ((impl_BookOk.f N [(PV.agg [(PV.list (([] : List PV) ++ y1_3.items)), (t7.headD default)])]).bind fun t8 => if (!((t8.headD default).toBool)) = true then ((impl_cloneBook.f N [(PV.agg [y0_0, y0_1])]).bind fun t9 => some [(PV.agg [(t9.headD default).fld 0, (t9.headD default).fld 1]), (PV.sc (.bool false))]) else (some [(PV.agg [(PV.list (([] : List PV) ++ y1_3.items)), (t7.headD default)]), (PV.sc (.bool true))])) else none) else ((impl_BookOk.f N [(PV.agg [(PV.list y4), (t7.headD default)])]).bind fun t10 => if (!((t10.headD default).toBool)) = true then ((impl_cloneBook.f N [(PV.agg [y0_0, y0_1])]).bind fun t11 => some [(PV.agg [(t11.headD default).fld 0, (t11.headD default).fld 1]), (PV.sc (.bool false))]) else (some [(PV.agg [(PV.list y4), (t7.headD default)]), (PV.sc (.bool true))]))) else none) := by kernel_rfl
noncomputable def impl_DeltaDo.S (N : Nat) : ASpec := ⟨[(43, .ro), (35, .ro)], [(43, .own), (4, .val)], impl_DeltaDo.f N⟩
theorem impl_DeltaDo.ok (N : Nat) : FnOk Tryz.prog 98 (impl_DeltaDo.S N) := fnOk_of (E := impl_DeltaDo.E N) mix Tryz.func98 (by kernel_rfl) (by kernel_rfl) (by kernel_rfl) (lk_ok (all_cons (impl_BookOk.ok N) (all_cons (impl_DeltaOk.ok N) (all_cons (impl_entryAt.ok N) (all_cons (impl_cloneBook.ok N) (all_cons (slices_Contains_string_string.ok N) (all_cons (impl_sortEntries.ok N) all_nil))))))) (by kernel_rfl) (fun _ _ h => h)

/-! ### impl_BookPut: function 89, loop.example/medlar/impl.BookPut -/
noncomputable def impl_BookPut.E (N : Nat) : Env := ⟨lk [(58, impl_BookOk.S N), (134, impl_affixLine.S N), (135, impl_entryLine.S N)], nzk [(5, ⟨[0, 2, 4, 5, 6, 7, 8, 9, 10, 11, 15, 16, 17, 18, 19, 20, 21, 22, 23, 24, 25, 26, 27, 28, 29, 30, 31, 32, 33, 34, 35], [], []⟩), (10, ⟨[0, 1, 2, 4, 5, 6, 7, 8, 9, 10, 11, 12, 13, 14, 15, 16, 17, 18, 19, 20, 21, 22, 23, 27, 28, 29, 30, 31, 32, 33, 34, 35], [], []⟩)], N, [], false⟩
noncomputable def impl_BookPut.f (N : Nat) (a : List PV) : Option Res := run Tryz.prog (impl_BookPut.E N) Tryz.f89 [(43, .ro)] [(9, .val)] a
noncomputable def impl_BookPut.l0 (N : Nat) (n : Nat) (x3 : ByteArray) (x12 : PV) (x13 : Int) (x14 : Int) (y0_0 : PV) (y0_1 : PV) : Option Res := loopAt Tryz.prog (impl_BookPut.E N) Tryz.f89 [(9, .val)] [1, 1, 1, 0, 1, 0] [] n ⟨mkSlots 36 [(1, .ptr 0 []), (3, .sc (.string x3)), (12, .ro 33 x12), (13, .sc (.int .i64 x13)), (14, .sc (.int .i64 x14))], ohOf [.box 43 (.agg 43 [.ro 33 y0_0, .ro 32 y0_1])]⟩
noncomputable def impl_BookPut.l1 (N : Nat) (n : Nat) (x3 : ByteArray) (x24 : PV) (x25 : Int) (x26 : Int) : Option Res := loopAt Tryz.prog (impl_BookPut.E N) Tryz.f89 [(9, .val)] [1, 1, 1, 1, 0, 1, 0] [] n ⟨mkSlots 36 [(3, .sc (.string x3)), (24, .ro 32 x24), (25, .sc (.int .i64 x25)), (26, .sc (.int .i64 x26))], ohOf []⟩
theorem impl_BookPut.f_eq (N : Nat) (a0 : PV) : impl_BookPut.f N [a0] = (impl_BookOk.f N [(PV.agg [a0.fld 0, a0.fld 1])]).bind fun t1 => if (!((t1.headD default).toBool)) = true then (some [(PV.sc (.string (ByteArray.mk #[])))]) else (impl_BookPut.l0 N N (ByteArray.mk #[]) (a0.fld 0) (((a0.fld 0).items).length : Int) 0 (a0.fld 0) (a0.fld 1)) := by kernel_rfl
theorem impl_BookPut.l0_eq (N : Nat) (n : Nat) (x3 : ByteArray) (x12 : PV) (x13 : Int) (x14 : Int) (y0_0 : PV) (y0_1 : PV) : impl_BookPut.l0 N (n + 1) x3 x12 x13 x14 y0_0 y0_1 = if decide (x14 < x13) = true then (if 0 ≤ x14 then (if x14 < (x12.items.length : Int) then ((impl_affixLine.f N [(PV.agg [(PV.sc (.string (((x12.elem x14.toNat).fld 0).toStr))), (PV.sc (.bool (((x12.elem x14.toNat).fld 1).toBool))), (PV.sc (.string (((x12.elem x14.toNat).fld 2).toStr))), (PV.sc (.string (((x12.elem x14.toNat).fld 3).toStr))), (PV.sc (.string (((x12.elem x14.toNat).fld 4).toStr)))])]).bind fun t2 => if x3.size + ((t2.headD default).toStr).size ≤ 9223372036854775807 then (impl_BookPut.l0 N n (x3 ++ ((t2.headD default).toStr)) x12 x13 (IntKind.i64.wrap (x14 + 1)) y0_0 y0_1) else none) else none) else none) else (impl_BookPut.l1 N N x3 y0_1 (y0_1.items.length : Int) 0) := by kernel_rfl
theorem impl_BookPut.l1_eq (N : Nat) (n : Nat) (x3 : ByteArray) (x24 : PV) (x25 : Int) (x26 : Int) : impl_BookPut.l1 N (n + 1) x3 x24 x25 x26 = if decide (x26 < x25) = true then (if 0 ≤ x26 then (if x26 < (x24.items.length : Int) then ((impl_entryLine.f N [(PV.agg [(PV.sc (.string (((x24.elem x26.toNat).fld 0).toStr))), (PV.sc (.string (((x24.elem x26.toNat).fld 1).toStr)))])]).bind fun t3 => if x3.size + ((t3.headD default).toStr).size ≤ 9223372036854775807 then (impl_BookPut.l1 N n (x3 ++ ((t3.headD default).toStr)) x24 x25 (IntKind.i64.wrap (x26 + 1))) else none) else none) else none) else (some [(PV.sc (.string x3))]) := by kernel_rfl
noncomputable def impl_BookPut.S (N : Nat) : ASpec := ⟨[(43, .ro)], [(9, .val)], impl_BookPut.f N⟩
theorem impl_BookPut.ok (N : Nat) : FnOk Tryz.prog 89 (impl_BookPut.S N) := fnOk_of (E := impl_BookPut.E N) mix Tryz.func89 (by kernel_rfl) (by kernel_rfl) (by kernel_rfl) (lk_ok (all_cons (impl_BookOk.ok N) (all_cons (impl_affixLine.ok N) (all_cons (impl_entryLine.ok N) all_nil)))) (by kernel_rfl) (fun _ _ h => h)

/-! ### impl_HashSum: function 88, loop.example/medlar/impl.HashSum -/
noncomputable def impl_HashSum.E (N : Nat) : Env := ⟨lk [(133, impl_sha256Of.S N), (114, impl_hexOf.S N)], nzk [], N, [], false⟩
noncomputable def impl_HashSum.f (N : Nat) (a : List PV) : Option Res := run Tryz.prog (impl_HashSum.E N) Tryz.f88 [(9, .ro)] [(9, .val)] a
theorem impl_HashSum.f_eq (N : Nat) (a0 : PV) : impl_HashSum.f N [a0] = (impl_sha256Of.f N [(PV.sc (.string a0.toStr))]).bind fun t1 => (impl_hexOf.f N [(PV.sc (.string ((t1.headD default).toStr)))]).bind fun t2 => some [(PV.sc (.string ((t2.headD default).toStr)))] := by kernel_rfl
noncomputable def impl_HashSum.S (N : Nat) : ASpec := ⟨[(9, .ro)], [(9, .val)], impl_HashSum.f N⟩
theorem impl_HashSum.ok (N : Nat) : FnOk Tryz.prog 88 (impl_HashSum.S N) := fnOk_of (E := impl_HashSum.E N) mix Tryz.func88 (by kernel_rfl) (by kernel_rfl) (by kernel_rfl) (lk_ok (all_cons (impl_sha256Of.ok N) (all_cons (impl_hexOf.ok N) all_nil))) (by kernel_rfl) (fun _ _ h => h)

/-! ### impl_ReleaseDo: function 60, loop.example/medlar/impl.ReleaseDo -/
noncomputable def impl_ReleaseDo.E (N : Nat) : Env := ⟨lk [(58, impl_BookOk.S N), (27, impl_ReleaseOk.S N), (59, impl_cloneBook.S N), (98, impl_DeltaDo.S N), (89, impl_BookPut.S N), (88, impl_HashSum.S N)], nzk [], N, [], false⟩
noncomputable def impl_ReleaseDo.f (N : Nat) (a : List PV) : Option Res := run Tryz.prog (impl_ReleaseDo.E N) Tryz.f60 [(9, .ro), (3, .ro), (43, .ro), (37, .ro)] [(43, .own), (4, .val)] a
theorem impl_ReleaseDo.f_eq (N : Nat) (a0 : PV) (a1 : PV) (a2 : PV) (a3 : PV) : impl_ReleaseDo.f N [a0, a1, a2, a3] = (impl_BookOk.f N [(PV.agg [a2.fld 0, a2.fld 1])]).bind fun t1 => if (!((t1.headD default).toBool)) = true then (some [(PV.agg [(PV.list []), (PV.list [])]), (PV.sc (.bool false))]) else ((impl_ReleaseOk.f N [(PV.sc (.string a0.toStr)), (PV.agg [(PV.sc (.int .i64 ((a3.fld 0).toInt))), (PV.agg [(a3.fld 1).fld 0, (a3.fld 1).fld 1, (PV.sc (.bool (((a3.fld 1).fld 2).toBool))), (a3.fld 1).fld 3]), (PV.sc (.string ((a3.fld 2).toStr))), (PV.sc (.string ((a3.fld 3).toStr)))])]).bind fun t2 => if (!((t2.headD default).toBool)) = false then (if (!decide (a1.toInt = (IntKind.i64.wrap (((a3.fld 0).toInt) - 1)))) = true then ((impl_cloneBook.f N [(PV.agg [a2.fld 0, a2.fld 1])]).bind fun t3 => some [(PV.agg [(t3.headD default).fld 0, (t3.headD default).fld 1]), (PV.sc (.bool false))]) else ((impl_DeltaDo.f N [(PV.agg [a2.fld 0, a2.fld 1]), (PV.agg [(a3.fld 1).fld 0, (a3.fld 1).fld 1, (PV.sc (.bool (((a3.fld 1).fld 2).toBool))), (a3.fld 1).fld 3])]).bind fun t4 => if (!((t4.tail.headD default).toBool)) = false then ((impl_BookPut.f N [(PV.agg [(t4.headD default).fld 0, (t4.headD default).fld 1])]).bind fun t5 => (impl_HashSum.f N [(PV.sc (.string ((t5.headD default).toStr)))]).bind fun t6 => if (!decide (((t6.headD default).toStr).toList = ((a3.fld 2).toStr).toList)) = true then ((impl_cloneBook.f N [(PV.agg [a2.fld 0, a2.fld 1])]).bind fun t7 => some [(PV.agg [(t7.headD default).fld 0, (t7.headD default).fld 1]), (PV.sc (.bool false))]) else (some [(PV.agg [(t4.headD default).fld 0, (t4.headD default).fld 1]), (PV.sc (.bool true))])) else ((impl_cloneBook.f N [(PV.agg [a2.fld 0, a2.fld 1])]).bind fun t8 => some [(PV.agg [(t8.headD default).fld 0, (t8.headD default).fld 1]), (PV.sc (.bool false))]))) else ((impl_cloneBook.f N [(PV.agg [a2.fld 0, a2.fld 1])]).bind fun t9 => some [(PV.agg [(t9.headD default).fld 0, (t9.headD default).fld 1]), (PV.sc (.bool false))])) := by kernel_rfl
noncomputable def impl_ReleaseDo.S (N : Nat) : ASpec := ⟨[(9, .ro), (3, .ro), (43, .ro), (37, .ro)], [(43, .own), (4, .val)], impl_ReleaseDo.f N⟩
theorem impl_ReleaseDo.ok (N : Nat) : FnOk Tryz.prog 60 (impl_ReleaseDo.S N) := fnOk_of (E := impl_ReleaseDo.E N) mix Tryz.func60 (by kernel_rfl) (by kernel_rfl) (by kernel_rfl) (lk_ok (all_cons (impl_BookOk.ok N) (all_cons (impl_ReleaseOk.ok N) (all_cons (impl_cloneBook.ok N) (all_cons (impl_DeltaDo.ok N) (all_cons (impl_BookPut.ok N) (all_cons (impl_HashSum.ok N) all_nil))))))) (by kernel_rfl) (fun _ _ h => h)

/-! ### impl_RingDo: function 22, loop.example/medlar/impl.RingDo -/
noncomputable def impl_RingDo.E (N : Nat) : Env := ⟨lk [(58, impl_BookOk.S N), (40, impl_RingOk.S N), (41, impl_within.S N), (59, impl_cloneBook.S N), (28, impl_RingKey.S N), (60, impl_ReleaseDo.S N)], nzk [], N, [], false⟩
noncomputable def impl_RingDo.f (N : Nat) (a : List PV) : Option Res := run Tryz.prog (impl_RingDo.E N) Tryz.f22 [(40, .ro), (3, .ro), (43, .ro), (37, .ro)] [(43, .own), (4, .val)] a
theorem impl_RingDo.f_eq (N : Nat) (a0 : PV) (a1 : PV) (a2 : PV) (a3 : PV) : impl_RingDo.f N [a0, a1, a2, a3] = (impl_BookOk.f N [(PV.agg [a2.fld 0, a2.fld 1])]).bind fun t1 => if (!((t1.headD default).toBool)) = true then (some [(PV.agg [(PV.list []), (PV.list [])]), (PV.sc (.bool false))]) else ((impl_RingOk.f N [(PV.agg [a0.fld 0, a0.fld 1])]).bind fun t2 => if (!((t2.headD default).toBool)) = false then ((impl_within.f N [(PV.sc (.int .i64 a1.toInt)), (PV.sc (.int .i64 0)), (PV.sc (.int .i64 999998))]).bind fun t3 => if (!((t3.headD default).toBool)) = true then ((impl_cloneBook.f N [(PV.agg [a2.fld 0, a2.fld 1])]).bind fun t4 => some [(PV.agg [(t4.headD default).fld 0, (t4.headD default).fld 1]), (PV.sc (.bool false))]) else ((impl_RingKey.f N [(PV.agg [a0.fld 0, a0.fld 1]), (PV.sc (.int .i64 (IntKind.i64.wrap (a1.toInt + 1))))]).bind fun t5 => (impl_ReleaseDo.f N [(PV.sc (.string ((t5.headD default).toStr))), (PV.sc (.int .i64 a1.toInt)), (PV.agg [a2.fld 0, a2.fld 1]), (PV.agg [(PV.sc (.int .i64 ((a3.fld 0).toInt))), (PV.agg [(a3.fld 1).fld 0, (a3.fld 1).fld 1, (PV.sc (.bool (((a3.fld 1).fld 2).toBool))), (a3.fld 1).fld 3]), (PV.sc (.string ((a3.fld 2).toStr))), (PV.sc (.string ((a3.fld 3).toStr)))])]).bind fun t6 => some [(PV.agg [(t6.headD default).fld 0, (t6.headD default).fld 1]), (PV.sc (.bool ((t6.tail.headD default).toBool)))])) else ((impl_cloneBook.f N [(PV.agg [a2.fld 0, a2.fld 1])]).bind fun t7 => some [(PV.agg [(t7.headD default).fld 0, (t7.headD default).fld 1]), (PV.sc (.bool false))])) := by kernel_rfl
noncomputable def impl_RingDo.S (N : Nat) : ASpec := ⟨[(40, .ro), (3, .ro), (43, .ro), (37, .ro)], [(43, .own), (4, .val)], impl_RingDo.f N⟩
theorem impl_RingDo.ok (N : Nat) : FnOk Tryz.prog 22 (impl_RingDo.S N) := fnOk_of (E := impl_RingDo.E N) mix Tryz.func22 (by kernel_rfl) (by kernel_rfl) (by kernel_rfl) (lk_ok (all_cons (impl_BookOk.ok N) (all_cons (impl_RingOk.ok N) (all_cons (impl_within.ok N) (all_cons (impl_cloneBook.ok N) (all_cons (impl_RingKey.ok N) (all_cons (impl_ReleaseDo.ok N) all_nil))))))) (by kernel_rfl) (fun _ _ h => h)

/-! ### spec_l5Book: function 55, loop.example/medlar/spec.l5Book -/
noncomputable def spec_l5Book.E (N : Nat) : Env := ⟨lk [], nzk [], N, [], false⟩
noncomputable def spec_l5Book.f (N : Nat) (a : List PV) : Option Res := run Tryz.prog (spec_l5Book.E N) Tryz.f55 [(43, .ro)] [(43, .own)] a
theorem spec_l5Book.f_eq (N : Nat) (a0 : PV) : spec_l5Book.f N [a0] = if ([] : List PV).length + ((a0.fld 0).items).length ≤ 1954687338268 then (if ([] : List PV).length + ((a0.fld 1).items).length ≤ 4398046511104 then (some [(PV.agg [(PV.list (([] : List PV) ++ ((a0.fld 0).items))), (PV.list (([] : List PV) ++ ((a0.fld 1).items)))])]) else none) else none := by kernel_rfl
noncomputable def spec_l5Book.S (N : Nat) : ASpec := ⟨[(43, .ro)], [(43, .own)], spec_l5Book.f N⟩
theorem spec_l5Book.ok (N : Nat) : FnOk Tryz.prog 55 (spec_l5Book.S N) := fnOk_of (E := spec_l5Book.E N) mix Tryz.func55 (by kernel_rfl) (by kernel_rfl) (by kernel_rfl) (lk_ok all_nil) (by kernel_rfl) (fun _ _ h => h)

/-! ### spec_ReleaseOk: function 94, loop.example/medlar/spec.ReleaseOk -/
noncomputable def spec_ReleaseOk.E (N : Nat) : Env := ⟨lk [(76, spec_l6Key.S N), (83, spec_l6Form.S N), (82, spec_l6Text.S N), (81, spec_SealOf.S N)], nzk [], N, [], false⟩
noncomputable def spec_ReleaseOk.f (N : Nat) (a : List PV) : Option Res := run Tryz.prog (spec_ReleaseOk.E N) Tryz.f94 [(9, .ro), (37, .ro)] [(4, .val)] a
theorem spec_ReleaseOk.f_eq (N : Nat) (a0 : PV) (a1 : PV) : spec_ReleaseOk.f N [a0, a1] = (spec_l6Key.f N [(PV.sc (.string a0.toStr))]).bind fun t1 => if (t1.headD default).toBool = true then ((spec_l6Form.f N [(PV.agg [(PV.sc (.int .i64 ((a1.fld 0).toInt))), (PV.agg [(a1.fld 1).fld 0, (a1.fld 1).fld 1, (PV.sc (.bool (((a1.fld 1).fld 2).toBool))), (a1.fld 1).fld 3]), (PV.sc (.string ((a1.fld 2).toStr))), (PV.sc (.string ((a1.fld 3).toStr)))])]).bind fun t2 => if (t2.headD default).toBool = true then ((spec_l6Text.f N [(PV.agg [(PV.sc (.int .i64 ((a1.fld 0).toInt))), (PV.agg [(a1.fld 1).fld 0, (a1.fld 1).fld 1, (PV.sc (.bool (((a1.fld 1).fld 2).toBool))), (a1.fld 1).fld 3]), (PV.sc (.string ((a1.fld 2).toStr))), (PV.sc (.string ((a1.fld 3).toStr)))])]).bind fun t3 => (spec_SealOf.f N [(PV.sc (.string a0.toStr)), (PV.sc (.string ((t3.headD default).toStr)))]).bind fun t4 => some [(PV.sc (.bool (decide (((t4.headD default).toStr).toList = ((a1.fld 3).toStr).toList))))]) else (some [(PV.sc (.bool false))])) else (some [(PV.sc (.bool false))]) := by kernel_rfl
noncomputable def spec_ReleaseOk.S (N : Nat) : ASpec := ⟨[(9, .ro), (37, .ro)], [(4, .val)], spec_ReleaseOk.f N⟩
theorem spec_ReleaseOk.ok (N : Nat) : FnOk Tryz.prog 94 (spec_ReleaseOk.S N) := fnOk_of (E := spec_ReleaseOk.E N) mix Tryz.func94 (by kernel_rfl) (by kernel_rfl) (by kernel_rfl) (lk_ok (all_cons (spec_l6Key.ok N) (all_cons (spec_l6Form.ok N) (all_cons (spec_l6Text.ok N) (all_cons (spec_SealOf.ok N) all_nil))))) (by kernel_rfl) (fun _ _ h => h)

/-! ### spec_l2In: function 160, loop.example/medlar/spec.l2In -/
noncomputable def spec_l2In.E (N : Nat) : Env := ⟨lk [], nzk [(2, ⟨[2, 3, 4, 6, 7, 8, 9, 10, 11, 12, 13, 14, 15, 16, 17], [], []⟩)], N, [], false⟩
noncomputable def spec_l2In.f (N : Nat) (a : List PV) : Option Res := run Tryz.prog (spec_l2In.E N) Tryz.f160 [(22, .ro), (9, .ro)] [(4, .val)] a
noncomputable def spec_l2In.l0 (N : Nat) (n : Nat) (x0 : PV) (x1 : ByteArray) (x5 : Int) : Option Res := loopAt Tryz.prog (spec_l2In.E N) Tryz.f160 [(4, .val)] [1, 0, 1, 0] [] n ⟨mkSlots 18 [(0, .ro 22 x0), (1, .sc (.string x1)), (5, .sc (.int .i64 x5))], ohOf []⟩
theorem spec_l2In.f_eq (N : Nat) (a0 : PV) (a1 : PV) : spec_l2In.f N [a0, a1] = spec_l2In.l0 N N a0 a1.toStr 0 := by kernel_rfl
theorem spec_l2In.l0_eq (N : Nat) (n : Nat) (x0 : PV) (x1 : ByteArray) (x5 : Int) : spec_l2In.l0 N (n + 1) x0 x1 x5 = if decide (x5 < (x0.items.length : Int)) = true then (if 0 ≤ x5 then (if x5 < (x0.items.length : Int) then (if decide (((x0.elem x5.toNat).toStr).toList = x1.toList) = true then (some [(PV.sc (.bool true))]) else (spec_l2In.l0 N n x0 x1 (IntKind.i64.wrap (x5 + 1)))) else none) else none) else (some [(PV.sc (.bool false))]) := by kernel_rfl
noncomputable def spec_l2In.S (N : Nat) : ASpec := ⟨[(22, .ro), (9, .ro)], [(4, .val)], spec_l2In.f N⟩
theorem spec_l2In.ok (N : Nat) : FnOk Tryz.prog 160 (spec_l2In.S N) := fnOk_of (E := spec_l2In.E N) mix Tryz.func160 (by kernel_rfl) (by kernel_rfl) (by kernel_rfl) (lk_ok all_nil) (by kernel_rfl) (fun _ _ h => h)

/-! ### spec_l5Do: function 136, loop.example/medlar/spec.l5Do -/
noncomputable def spec_l5Do.E (N : Nat) : Env := ⟨lk [(55, spec_l5Book.S N), (118, spec_l5At.S N), (160, spec_l2In.S N)], nzk [(4, ⟨[0, 1, 8, 9, 10, 11, 12, 13, 14, 15, 16, 17, 18, 19, 20, 21, 22, 23, 24, 25, 26, 27, 28, 29, 30, 31, 32, 33, 34, 35, 36, 37, 38, 39, 40, 41, 42, 43, 44, 45, 46, 47, 48, 49, 50, 51, 52, 53, 54, 55, 56, 57, 58, 59, 60, 61, 62, 63, 64, 65, 66, 67, 68, 69, 70, 71, 72, 73, 74, 75, 76, 77, 78, 79, 80, 81, 82, 83, 84, 85, 86, 87, 88, 89, 90, 91, 92, 93, 94, 95, 96, 97, 98, 99, 100], [(6, 32)], []⟩), (10, ⟨[0, 1, 2, 7, 8, 9, 11, 12, 13, 14, 15, 16, 17, 18, 19, 20, 21, 22, 23, 24, 25, 26, 27, 28, 29, 30, 31, 32, 33, 34, 35, 36, 37, 38, 39, 40, 41, 42, 43, 44, 45, 46, 47, 48, 49, 50, 51, 52, 53, 54, 55, 56, 57, 58, 59, 60, 61, 62, 63, 64, 65, 66, 67, 68, 69, 70, 71, 72, 73, 74, 75, 76, 77, 78, 79, 80, 81, 82, 83, 84, 85, 86, 87, 88, 89, 90, 91, 92, 93, 94, 95, 96, 97, 98, 99, 100], [(6, 32)], []⟩)], N, [], false⟩
noncomputable def spec_l5Do.f (N : Nat) (a : List PV) : Option Res := run Tryz.prog (spec_l5Do.E N) Tryz.f136 [(43, .ro), (35, .ro)] [(43, .own)] a
noncomputable def spec_l5Do.l0 (N : Nat) (n : Nat) (x7 : Int) (y0_0 : PV) (y0_1 : PV) (y1_0 : PV) (y1_1 : PV) (y1_2 : Bool) (y1_3 : PV) (y4 : List PV) (y5 : PV) (y6 : PV) : Option Res := loopAt Tryz.prog (spec_l5Do.E N) Tryz.f136 [(43, .own)] [1, 1, 1, 0, 1, 0] [] n ⟨mkSlots 101 [(2, .ptr 0 []), (3, .ptr 1 []), (4, .ptr 2 []), (5, .ptr 3 []), (6, .ref 4 []), (7, .sc (.int .i64 x7))], ohOf [.box 43 (.agg 43 [.ro 33 y0_0, .ro 32 y0_1]), .box 35 (.agg 35 [.ro 22 y1_0, .ro 32 y1_1, .sc (.bool y1_2), .ro 33 y1_3]), .box 43 (.agg 43 [.nil, .nil]), .box 43 (.agg 43 [.ref 5 [], .ref 6 []]), .row 32 (PV.list y4), .row 33 y5, .row 32 y6]⟩
noncomputable def spec_l5Do.l1 (N : Nat) (n : Nat) (x10 : Int) (y0_0 : PV) (y0_1 : PV) (y0_2 : Bool) (y0_3 : PV) (y3 : List PV) (y4 : PV) (y5 : PV) : Option Res := loopAt Tryz.prog (spec_l5Do.E N) Tryz.f136 [(43, .own)] [1, 1, 1, 1, 0, 1, 0] [] n ⟨mkSlots 101 [(3, .ptr 0 []), (4, .ptr 1 []), (5, .ptr 2 []), (6, .ref 3 []), (10, .sc (.int .i64 x10))], ohOf [.box 35 (.agg 35 [.ro 22 y0_0, .ro 32 y0_1, .sc (.bool y0_2), .ro 33 y0_3]), .box 43 (.agg 43 [.nil, .nil]), .box 43 (.agg 43 [.ref 4 [], .ref 5 []]), .row 32 (PV.list y3), .row 33 y4, .row 32 y5]⟩
theorem spec_l5Do.f_eq (N : Nat) (a0 : PV) (a1 : PV) : spec_l5Do.f N [a0, a1] = (spec_l5Book.f N [(PV.agg [a0.fld 0, a0.fld 1])]).bind fun t1 => spec_l5Do.l0 N N 0 (a0.fld 0) (a0.fld 1) (a1.fld 0) (a1.fld 1) ((a1.fld 2).toBool) (a1.fld 3) [] ((t1.headD default).fld 0) ((t1.headD default).fld 1) := by kernel_rfl
theorem spec_l5Do.l0_eq (N : Nat) (n : Nat) (x7 : Int) (y0_0 : PV) (y0_1 : PV) (y1_0 : PV) (y1_1 : PV) (y1_2 : Bool) (y1_3 : PV) (y4 : List PV) (y5 : PV) (y6 : PV) : spec_l5Do.l0 N (n + 1) x7 y0_0 y0_1 y1_0 y1_1 y1_2 y1_3 y4 y5 y6 = if decide (x7 < (y0_1.items.length : Int)) = true then (if 0 ≤ x7 then (if x7 < (y0_1.items.length : Int) then ((spec_l5At.f N [y1_1, (PV.sc (.string (((y0_1.elem x7.toNat).fld 0).toStr)))]).bind fun t2 => if (!((t2.tail.headD default).toBool)) = true then (if 0 ≤ x7 then (if x7 < (y0_1.items.length : Int) then ((spec_l2In.f N [y1_0, (PV.sc (.string (((y0_1.elem x7.toNat).fld 0).toStr)))]).bind fun t3 => if (!((t3.headD default).toBool)) = true then (if 0 ≤ x7 then (if x7 < (y0_1.items.length : Int) then (if y4.length + ([(PV.agg [(PV.sc (.string (((y0_1.elem x7.toNat).fld 0).toStr))), (PV.sc (.string (((y0_1.elem x7.toNat).fld 1).toStr)))])]).length ≤ 4398046511104 then (spec_l5Do.l0 N n (IntKind.i64.wrap (x7 + 1)) y0_0 y0_1 y1_0 y1_1 y1_2 y1_3 (y4 ++ ([(PV.agg [(PV.sc (.string (((y0_1.elem x7.toNat).fld 0).toStr))), (PV.sc (.string (((y0_1.elem x7.toNat).fld 1).toStr)))])])) y5 y6) else none) else none) else none) else (spec_l5Do.l0 N n (IntKind.i64.wrap (x7 + 1)) y0_0 y0_1 y1_0 y1_1 y1_2 y1_3 y4 y5 y6)) else none) else none) else (spec_l5Do.l0 N n (IntKind.i64.wrap (x7 + 1)) y0_0 y0_1 y1_0 y1_1 y1_2 y1_3 y4 y5 y6)) else none) else none) else (spec_l5Do.l1 N N 0 y1_0 y1_1 y1_2 y1_3 y4 y5 y6) := by kernel_rfl
theorem spec_l5Do.l1_eq (N : Nat) (n : Nat) (x10 : Int) (y0_0 : PV) (y0_1 : PV) (y0_2 : Bool) (y0_3 : PV) (y3 : List PV) (y4 : PV) (y5 : PV) : spec_l5Do.l1 N (n + 1) x10 y0_0 y0_1 y0_2 y0_3 y3 y4 y5 = if decide (x10 < (y0_1.items.length : Int)) = true then (if 0 ≤ x10 then (if x10 < (y0_1.items.length : Int) then ((spec_l5At.f N [(PV.list y3), (PV.sc (.string (((y0_1.elem x10.toNat).fld 0).toStr)))]).bind fun t4 => if 0 ≤ ((t4.headD default).toInt) then (if ((t4.headD default).toInt) ≤ (y3.length : Int) then (if ([] : List PV).length + ((y3.drop 0).take ((((t4.headD default).toInt).toNat) - 0)).length ≤ 4398046511104 then (if 0 ≤ x10 then (if x10 < (y0_1.items.length : Int) then (if (([] : List PV) ++ ((y3.drop 0).take ((((t4.headD default).toInt).toNat) - 0))).length + ([(PV.agg [(PV.sc (.string (((y0_1.elem x10.toNat).fld 0).toStr))), (PV.sc (.string (((y0_1.elem x10.toNat).fld 1).toStr)))])]).length ≤ 4398046511104 then (if 0 ≤ ((t4.headD default).toInt) then (if ((t4.headD default).toInt) ≤ (y3.length : Int) then (if ((([] : List PV) ++ ((y3.drop 0).take ((((t4.headD default).toInt).toNat) - 0))) ++ ([(PV.agg [(PV.sc (.string (((y0_1.elem x10.toNat).fld 0).toStr))), (PV.sc (.string (((y0_1.elem x10.toNat).fld 1).toStr)))])])).length + ((y3.drop (((t4.headD default).toInt).toNat)).take (y3.length - (((t4.headD default).toInt).toNat))).length ≤ 4398046511104 then (spec_l5Do.l1 N n (IntKind.i64.wrap (x10 + 1)) y0_0 y0_1 y0_2 y0_3 (((([] : List PV) ++ ((y3.drop 0).take ((((t4.headD default).toInt).toNat) - 0))) ++ ([(PV.agg [(PV.sc (.string (((y0_1.elem x10.toNat).fld 0).toStr))), (PV.sc (.string (((y0_1.elem x10.toNat).fld 1).toStr)))])])) ++ ((y3.drop (((t4.headD default).toInt).toNat)).take (y3.length - (((t4.headD default).toInt).toNat)))) y4 y5) else none) else none) else none) else none) else none) else none) else none) else none) else none) else none) else none) else (if y0_2 = true then (if ([] : List PV).length + y0_3.items.length ≤ 1954687338268 then (some [(PV.agg [(PV.list (([] : List PV) ++ y0_3.items)), (PV.list y3)])]) else none) else (some [(PV.agg [y4, (PV.list y3)])])) := by kernel_rfl
noncomputable def spec_l5Do.S (N : Nat) : ASpec := ⟨[(43, .ro), (35, .ro)], [(43, .own)], spec_l5Do.f N⟩
theorem spec_l5Do.ok (N : Nat) : FnOk Tryz.prog 136 (spec_l5Do.S N) := fnOk_of (E := spec_l5Do.E N) mix Tryz.func136 (by kernel_rfl) (by kernel_rfl) (by kernel_rfl) (lk_ok (all_cons (spec_l5Book.ok N) (all_cons (spec_l5At.ok N) (all_cons (spec_l2In.ok N) all_nil)))) (by kernel_rfl) (fun _ _ h => h)

/-! ### spec_DeltaDo: function 95, loop.example/medlar/spec.DeltaDo -/
noncomputable def spec_DeltaDo.E (N : Nat) : Env := ⟨lk [(26, spec_BookOk.S N), (127, spec_DeltaOk.S N), (118, spec_l5At.S N), (55, spec_l5Book.S N), (136, spec_l5Do.S N)], nzk [(4, ⟨[0, 1, 5, 7, 8, 9, 10, 11, 12, 13, 14, 15, 16, 17, 18, 19, 20, 21, 22, 23, 24, 25, 26, 27, 28, 29, 30, 31, 32, 33, 34, 35, 36, 37, 38, 39, 40, 41, 42, 43, 44, 45, 46, 47, 48, 49], [], []⟩)], N, [], false⟩
noncomputable def spec_DeltaDo.f (N : Nat) (a : List PV) : Option Res := run Tryz.prog (spec_DeltaDo.E N) Tryz.f95 [(43, .ro), (35, .ro)] [(43, .own), (4, .val)] a
noncomputable def spec_DeltaDo.l0 (N : Nat) (n : Nat) (x6 : Int) (y0_0 : PV) (y0_1 : PV) (y1_0 : PV) (y1_1 : PV) (y1_2 : Bool) (y1_3 : PV) : Option Res := loopAt Tryz.prog (spec_DeltaDo.E N) Tryz.f95 [(43, .own), (4, .val)] [1, 1, 0, 1, 0] [] n ⟨mkSlots 50 [(2, .ptr 0 []), (3, .ptr 1 []), (4, .ptr 2 []), (6, .sc (.int .i64 x6))], ohOf [.box 43 (.agg 43 [.ro 33 y0_0, .ro 32 y0_1]), .box 35 (.agg 35 [.ro 22 y1_0, .ro 32 y1_1, .sc (.bool y1_2), .ro 33 y1_3]), .box 43 (.agg 43 [.nil, .nil])]⟩
theorem spec_DeltaDo.f_eq (N : Nat) (a0 : PV) (a1 : PV) : spec_DeltaDo.f N [a0, a1] = (spec_BookOk.f N [(PV.agg [a0.fld 0, a0.fld 1])]).bind fun t1 => if (!((t1.headD default).toBool)) = false then ((spec_DeltaOk.f N [(PV.agg [a1.fld 0, a1.fld 1, (PV.sc (.bool ((a1.fld 2).toBool))), a1.fld 3])]).bind fun t2 => if (!((t2.headD default).toBool)) = true then (some [(PV.agg [(PV.list []), (PV.list [])]), (PV.sc (.bool false))]) else (spec_DeltaDo.l0 N N 0 (a0.fld 0) (a0.fld 1) (a1.fld 0) (a1.fld 1) ((a1.fld 2).toBool) (a1.fld 3))) else (some [(PV.agg [(PV.list []), (PV.list [])]), (PV.sc (.bool false))]) := by kernel_rfl
theorem spec_DeltaDo.l0_eq (N : Nat) (n : Nat) (x6 : Int) (y0_0 : PV) (y0_1 : PV) (y1_0 : PV) (y1_1 : PV) (y1_2 : Bool) (y1_3 : PV) : spec_DeltaDo.l0 N (n + 1) x6 y0_0 y0_1 y1_0 y1_1 y1_2 y1_3 = if decide (x6 < (y1_0.items.length : Int)) = true then (if 0 ≤ x6 then (if x6 < (y1_0.items.length : Int) then ((spec_l5At.f N [y0_1, (PV.sc (.string ((y1_0.elem x6.toNat).toStr)))]).bind fun t3 => if (!((t3.tail.headD default).toBool)) = true then ((spec_l5Book.f N [(PV.agg [y0_0, y0_1])]).bind fun t4 => some [(PV.agg [(t4.headD default).fld 0, (t4.headD default).fld 1]), (PV.sc (.bool false))]) else (spec_DeltaDo.l0 N n (IntKind.i64.wrap (x6 + 1)) y0_0 y0_1 y1_0 y1_1 y1_2 y1_3)) else none) else none) else ((spec_l5Do.f N [(PV.agg [y0_0, y0_1]), (PV.agg [y1_0, y1_1, (PV.sc (.bool y1_2)), y1_3])]).bind fun t5 => (spec_BookOk.f N [(PV.agg [(t5.headD default).fld 0, (t5.headD default).fld 1])]).bind fun t6 => if (!((t6.headD default).toBool)) = true then ((spec_l5Book.f N [(PV.agg [y0_0, y0_1])]).bind fun t7 => some [(PV.agg [(t7.headD default).fld 0, (t7.headD default).fld 1]), (PV.sc (.bool false))]) else (some [(PV.agg [(t5.headD default).fld 0, (t5.headD default).fld 1]), (PV.sc (.bool true))])) := by kernel_rfl
noncomputable def spec_DeltaDo.S (N : Nat) : ASpec := ⟨[(43, .ro), (35, .ro)], [(43, .own), (4, .val)], spec_DeltaDo.f N⟩
theorem spec_DeltaDo.ok (N : Nat) : FnOk Tryz.prog 95 (spec_DeltaDo.S N) := fnOk_of (E := spec_DeltaDo.E N) mix Tryz.func95 (by kernel_rfl) (by kernel_rfl) (by kernel_rfl) (lk_ok (all_cons (spec_BookOk.ok N) (all_cons (spec_DeltaOk.ok N) (all_cons (spec_l5At.ok N) (all_cons (spec_l5Book.ok N) (all_cons (spec_l5Do.ok N) all_nil)))))) (by kernel_rfl) (fun _ _ h => h)

/-! ### spec_ReleaseDo: function 56, loop.example/medlar/spec.ReleaseDo -/
noncomputable def spec_ReleaseDo.E (N : Nat) : Env := ⟨lk [(26, spec_BookOk.S N), (94, spec_ReleaseOk.S N), (55, spec_l5Book.S N), (95, spec_DeltaDo.S N), (80, spec_l2Put.S N), (79, spec_HashSum.S N)], nzk [], N, [], false⟩
noncomputable def spec_ReleaseDo.f (N : Nat) (a : List PV) : Option Res := run Tryz.prog (spec_ReleaseDo.E N) Tryz.f56 [(9, .ro), (3, .ro), (43, .ro), (37, .ro)] [(43, .own), (4, .val)] a
theorem spec_ReleaseDo.f_eq (N : Nat) (a0 : PV) (a1 : PV) (a2 : PV) (a3 : PV) : spec_ReleaseDo.f N [a0, a1, a2, a3] = (spec_BookOk.f N [(PV.agg [a2.fld 0, a2.fld 1])]).bind fun t1 => if (!((t1.headD default).toBool)) = true then (some [(PV.agg [(PV.list []), (PV.list [])]), (PV.sc (.bool false))]) else ((spec_ReleaseOk.f N [(PV.sc (.string a0.toStr)), (PV.agg [(PV.sc (.int .i64 ((a3.fld 0).toInt))), (PV.agg [(a3.fld 1).fld 0, (a3.fld 1).fld 1, (PV.sc (.bool (((a3.fld 1).fld 2).toBool))), (a3.fld 1).fld 3]), (PV.sc (.string ((a3.fld 2).toStr))), (PV.sc (.string ((a3.fld 3).toStr)))])]).bind fun t2 => if (!((t2.headD default).toBool)) = false then (if (!decide (((a3.fld 0).toInt) = (IntKind.i64.wrap (a1.toInt + 1)))) = true then ((spec_l5Book.f N [(PV.agg [a2.fld 0, a2.fld 1])]).bind fun t3 => some [(PV.agg [(t3.headD default).fld 0, (t3.headD default).fld 1]), (PV.sc (.bool false))]) else ((spec_DeltaDo.f N [(PV.agg [a2.fld 0, a2.fld 1]), (PV.agg [(a3.fld 1).fld 0, (a3.fld 1).fld 1, (PV.sc (.bool (((a3.fld 1).fld 2).toBool))), (a3.fld 1).fld 3])]).bind fun t4 => if (!((t4.tail.headD default).toBool)) = false then ((spec_l2Put.f N [(PV.agg [(t4.headD default).fld 0, (t4.headD default).fld 1])]).bind fun t5 => (spec_HashSum.f N [(PV.sc (.string ((t5.headD default).toStr)))]).bind fun t6 => if (!decide (((t6.headD default).toStr).toList = ((a3.fld 2).toStr).toList)) = true then ((spec_l5Book.f N [(PV.agg [a2.fld 0, a2.fld 1])]).bind fun t7 => some [(PV.agg [(t7.headD default).fld 0, (t7.headD default).fld 1]), (PV.sc (.bool false))]) else (some [(PV.agg [(t4.headD default).fld 0, (t4.headD default).fld 1]), (PV.sc (.bool true))])) else ((spec_l5Book.f N [(PV.agg [a2.fld 0, a2.fld 1])]).bind fun t8 => some [(PV.agg [(t8.headD default).fld 0, (t8.headD default).fld 1]), (PV.sc (.bool false))]))) else ((spec_l5Book.f N [(PV.agg [a2.fld 0, a2.fld 1])]).bind fun t9 => some [(PV.agg [(t9.headD default).fld 0, (t9.headD default).fld 1]), (PV.sc (.bool false))])) := by kernel_rfl
noncomputable def spec_ReleaseDo.S (N : Nat) : ASpec := ⟨[(9, .ro), (3, .ro), (43, .ro), (37, .ro)], [(43, .own), (4, .val)], spec_ReleaseDo.f N⟩
theorem spec_ReleaseDo.ok (N : Nat) : FnOk Tryz.prog 56 (spec_ReleaseDo.S N) := fnOk_of (E := spec_ReleaseDo.E N) mix Tryz.func56 (by kernel_rfl) (by kernel_rfl) (by kernel_rfl) (lk_ok (all_cons (spec_BookOk.ok N) (all_cons (spec_ReleaseOk.ok N) (all_cons (spec_l5Book.ok N) (all_cons (spec_DeltaDo.ok N) (all_cons (spec_l2Put.ok N) (all_cons (spec_HashSum.ok N) all_nil))))))) (by kernel_rfl) (fun _ _ h => h)

/-! ### spec_RingDo: function 20, loop.example/medlar/spec.RingDo -/
noncomputable def spec_RingDo.E (N : Nat) : Env := ⟨lk [(33, spec_RingOk.S N), (26, spec_BookOk.S N), (55, spec_l5Book.S N), (35, spec_l11Key.S N), (56, spec_ReleaseDo.S N)], nzk [], N, [], false⟩
noncomputable def spec_RingDo.f (N : Nat) (a : List PV) : Option Res := run Tryz.prog (spec_RingDo.E N) Tryz.f20 [(40, .ro), (3, .ro), (43, .ro), (37, .ro)] [(43, .own), (4, .val)] a
theorem spec_RingDo.f_eq (N : Nat) (a0 : PV) (a1 : PV) (a2 : PV) (a3 : PV) : spec_RingDo.f N [a0, a1, a2, a3] = (spec_RingOk.f N [(PV.agg [a0.fld 0, a0.fld 1])]).bind fun t1 => if (!((t1.headD default).toBool)) = true then ((spec_BookOk.f N [(PV.agg [a2.fld 0, a2.fld 1])]).bind fun t2 => if (t2.headD default).toBool = true then ((spec_l5Book.f N [(PV.agg [a2.fld 0, a2.fld 1])]).bind fun t3 => some [(PV.agg [(t3.headD default).fld 0, (t3.headD default).fld 1]), (PV.sc (.bool false))]) else (some [(PV.agg [(PV.list []), (PV.list [])]), (PV.sc (.bool false))])) else ((spec_l11Key.f N [(PV.agg [a0.fld 0, a0.fld 1]), (PV.sc (.int .i64 (IntKind.i64.wrap (a1.toInt + 1))))]).bind fun t4 => (spec_ReleaseDo.f N [(PV.sc (.string ((t4.headD default).toStr))), (PV.sc (.int .i64 a1.toInt)), (PV.agg [a2.fld 0, a2.fld 1]), (PV.agg [(PV.sc (.int .i64 ((a3.fld 0).toInt))), (PV.agg [(a3.fld 1).fld 0, (a3.fld 1).fld 1, (PV.sc (.bool (((a3.fld 1).fld 2).toBool))), (a3.fld 1).fld 3]), (PV.sc (.string ((a3.fld 2).toStr))), (PV.sc (.string ((a3.fld 3).toStr)))])]).bind fun t5 => some [(PV.agg [(t5.headD default).fld 0, (t5.headD default).fld 1]), (PV.sc (.bool ((t5.tail.headD default).toBool)))]) := by kernel_rfl
noncomputable def spec_RingDo.S (N : Nat) : ASpec := ⟨[(40, .ro), (3, .ro), (43, .ro), (37, .ro)], [(43, .own), (4, .val)], spec_RingDo.f N⟩
theorem spec_RingDo.ok (N : Nat) : FnOk Tryz.prog 20 (spec_RingDo.S N) := fnOk_of (E := spec_RingDo.E N) mix Tryz.func20 (by kernel_rfl) (by kernel_rfl) (by kernel_rfl) (lk_ok (all_cons (spec_RingOk.ok N) (all_cons (spec_BookOk.ok N) (all_cons (spec_l5Book.ok N) (all_cons (spec_l11Key.ok N) (all_cons (spec_ReleaseDo.ok N) all_nil)))))) (by kernel_rfl) (fun _ _ h => h)

/-! ### laws_mdBook: function 25, loop.example/medlar/laws.mdBook -/
noncomputable def laws_mdBook.E (N : Nat) : Env := ⟨lk [], nzk [(4, ⟨[0, 1, 4, 6, 7, 8, 9, 10, 11, 12, 13, 14, 15, 16, 17, 18, 19, 20, 21, 22, 23, 24, 25, 26, 27, 28, 29, 30, 31, 32, 33, 34, 35, 36, 37, 38, 39, 40, 41, 42, 43, 44, 45, 46, 47, 48, 49, 50, 51, 52, 53, 54, 55, 56, 57, 58], [], []⟩), (9, ⟨[0, 1, 4, 5, 7, 8, 9, 10, 11, 12, 13, 14, 15, 16, 17, 18, 19, 20, 21, 22, 23, 24, 25, 26, 27, 28, 29, 30, 31, 32, 33, 34, 35, 36, 37, 38, 39, 40, 41, 42, 43, 44, 45, 46, 47, 48, 49, 50, 51, 52, 53, 54, 55, 56, 57, 58], [], []⟩)], N, [], false⟩
noncomputable def laws_mdBook.f (N : Nat) (a : List PV) : Option Res := run Tryz.prog (laws_mdBook.E N) Tryz.f25 [(43, .ro), (43, .ro)] [(4, .val)] a
noncomputable def laws_mdBook.l0 (N : Nat) (n : Nat) (x5 : Int) (y0_0 : PV) (y0_1 : PV) (y1_0 : PV) (y1_1 : PV) : Option Res := loopAt Tryz.prog (laws_mdBook.E N) Tryz.f25 [(4, .val)] [1, 1, 0, 1, 0] [] n ⟨mkSlots 59 [(2, .ptr 0 []), (3, .ptr 1 []), (5, .sc (.int .i64 x5))], ohOf [.box 43 (.agg 43 [.ro 33 y0_0, .ro 32 y0_1]), .box 43 (.agg 43 [.ro 33 y1_0, .ro 32 y1_1])]⟩
noncomputable def laws_mdBook.l1 (N : Nat) (n : Nat) (x6 : Int) (y0_0 : PV) (y0_1 : PV) (y1_0 : PV) (y1_1 : PV) : Option Res := loopAt Tryz.prog (laws_mdBook.E N) Tryz.f25 [(4, .val)] [1, 1, 1, 0, 1, 0] [] n ⟨mkSlots 59 [(2, .ptr 0 []), (3, .ptr 1 []), (6, .sc (.int .i64 x6))], ohOf [.box 43 (.agg 43 [.ro 33 y0_0, .ro 32 y0_1]), .box 43 (.agg 43 [.ro 33 y1_0, .ro 32 y1_1])]⟩
theorem laws_mdBook.f_eq (N : Nat) (a0 : PV) (a1 : PV) : laws_mdBook.f N [a0, a1] = if (!decide ((((a0.fld 0).items).length : Int) = (((a1.fld 0).items).length : Int))) = false then (if (!decide ((((a0.fld 1).items).length : Int) = (((a1.fld 1).items).length : Int))) = true then (some [(PV.sc (.bool false))]) else (laws_mdBook.l0 N N 0 (a0.fld 0) (a0.fld 1) (a1.fld 0) (a1.fld 1))) else (some [(PV.sc (.bool false))]) := by kernel_rfl
theorem laws_mdBook.l0_eq (N : Nat) (n : Nat) (x5 : Int) (y0_0 : PV) (y0_1 : PV) (y1_0 : PV) (y1_1 : PV) : laws_mdBook.l0 N (n + 1) x5 y0_0 y0_1 y1_0 y1_1 = if decide (x5 < (y0_0.items.length : Int)) = true then (if 0 ≤ x5 then (if x5 < (y0_0.items.length : Int) then (if 0 ≤ x5 then (if x5 < (y1_0.items.length : Int) then (if (!(decide ((((y0_0.elem x5.toNat).fld 0).toStr).toList = (((y1_0.elem x5.toNat).fld 0).toStr).toList) && (((((y0_0.elem x5.toNat).fld 1).toBool) == (((y1_0.elem x5.toNat).fld 1).toBool)) && (decide ((((y0_0.elem x5.toNat).fld 2).toStr).toList = (((y1_0.elem x5.toNat).fld 2).toStr).toList) && (decide ((((y0_0.elem x5.toNat).fld 3).toStr).toList = (((y1_0.elem x5.toNat).fld 3).toStr).toList) && (decide ((((y0_0.elem x5.toNat).fld 4).toStr).toList = (((y1_0.elem x5.toNat).fld 4).toStr).toList) && true)))))) = true then (some [(PV.sc (.bool false))]) else (laws_mdBook.l0 N n (IntKind.i64.wrap (x5 + 1)) y0_0 y0_1 y1_0 y1_1)) else none) else none) else none) else none) else (laws_mdBook.l1 N N 0 y0_0 y0_1 y1_0 y1_1) := by kernel_rfl
theorem laws_mdBook.l1_eq (N : Nat) (n : Nat) (x6 : Int) (y0_0 : PV) (y0_1 : PV) (y1_0 : PV) (y1_1 : PV) : laws_mdBook.l1 N (n + 1) x6 y0_0 y0_1 y1_0 y1_1 = if decide (x6 < (y0_1.items.length : Int)) = true then (if 0 ≤ x6 then (if x6 < (y0_1.items.length : Int) then (if 0 ≤ x6 then (if x6 < (y1_1.items.length : Int) then (if (!(decide ((((y0_1.elem x6.toNat).fld 0).toStr).toList = (((y1_1.elem x6.toNat).fld 0).toStr).toList) && (decide ((((y0_1.elem x6.toNat).fld 1).toStr).toList = (((y1_1.elem x6.toNat).fld 1).toStr).toList) && true))) = true then (some [(PV.sc (.bool false))]) else (laws_mdBook.l1 N n (IntKind.i64.wrap (x6 + 1)) y0_0 y0_1 y1_0 y1_1)) else none) else none) else none) else none) else (some [(PV.sc (.bool true))]) := by kernel_rfl
noncomputable def laws_mdBook.S (N : Nat) : ASpec := ⟨[(43, .ro), (43, .ro)], [(4, .val)], laws_mdBook.f N⟩
theorem laws_mdBook.ok (N : Nat) : FnOk Tryz.prog 25 (laws_mdBook.S N) := fnOk_of (E := laws_mdBook.E N) mix Tryz.func25 (by kernel_rfl) (by kernel_rfl) (by kernel_rfl) (lk_ok all_nil) (by kernel_rfl) (fun _ _ h => h)

/-! ### laws_FnRingWrong: function 5, loop.example/medlar/laws.FnRingWrong -/
noncomputable def laws_FnRingWrong.E (N : Nat) : Env := ⟨lk [(24, spec_DrawRingDo.S N), (22, impl_RingDo.S N), (20, spec_RingDo.S N), (25, laws_mdBook.S N), (26, spec_BookOk.S N), (28, impl_RingKey.S N), (27, impl_ReleaseOk.S N)], nzk [], N, [], false⟩
noncomputable def laws_FnRingWrong.f (N : Nat) (a : List PV) : Option Res := run Tryz.prog (laws_FnRingWrong.E N) Tryz.f5 [(61, .ro)] [(4, .val)] a
theorem laws_FnRingWrong.f_eq (N : Nat) (a0 : PV) : laws_FnRingWrong.f N [a0] = if decide (1048576 < (a0.items.length : Int)) = true then (some [(PV.sc (.bool true))]) else ((spec_DrawRingDo.f N [a0]).bind fun t1 => (impl_RingDo.f N [(PV.agg [(t1.headD default).fld 0, (t1.headD default).fld 1]), (PV.sc (.int .i64 ((t1.tail.headD default).toInt))), (PV.agg [(t1.tail.tail.headD default).fld 0, (t1.tail.tail.headD default).fld 1]), (PV.agg [(PV.sc (.int .i64 (((t1.tail.tail.tail.headD default).fld 0).toInt))), (PV.agg [((t1.tail.tail.tail.headD default).fld 1).fld 0, ((t1.tail.tail.tail.headD default).fld 1).fld 1, (PV.sc (.bool ((((t1.tail.tail.tail.headD default).fld 1).fld 2).toBool))), ((t1.tail.tail.tail.headD default).fld 1).fld 3]), (PV.sc (.string (((t1.tail.tail.tail.headD default).fld 2).toStr))), (PV.sc (.string (((t1.tail.tail.tail.headD default).fld 3).toStr)))])]).bind fun t2 => (spec_RingDo.f N [(PV.agg [(t1.headD default).fld 0, (t1.headD default).fld 1]), (PV.sc (.int .i64 ((t1.tail.headD default).toInt))), (PV.agg [(t1.tail.tail.headD default).fld 0, (t1.tail.tail.headD default).fld 1]), (PV.agg [(PV.sc (.int .i64 (((t1.tail.tail.tail.headD default).fld 0).toInt))), (PV.agg [((t1.tail.tail.tail.headD default).fld 1).fld 0, ((t1.tail.tail.tail.headD default).fld 1).fld 1, (PV.sc (.bool ((((t1.tail.tail.tail.headD default).fld 1).fld 2).toBool))), ((t1.tail.tail.tail.headD default).fld 1).fld 3]), (PV.sc (.string (((t1.tail.tail.tail.headD default).fld 2).toStr))), (PV.sc (.string (((t1.tail.tail.tail.headD default).fld 3).toStr)))])]).bind fun t3 => if (((t2.tail.headD default).toBool) != ((t3.tail.headD default).toBool)) = false then ((laws_mdBook.f N [(PV.agg [(t2.headD default).fld 0, (t2.headD default).fld 1]), (PV.agg [(t3.headD default).fld 0, (t3.headD default).fld 1])]).bind fun t4 => if (!((t4.headD default).toBool)) = false then ((spec_BookOk.f N [(PV.agg [(t1.tail.tail.headD default).fld 0, (t1.tail.tail.headD default).fld 1])]).bind fun t5 => if (!((t5.headD default).toBool)) = true then (if (((t2.tail.headD default).toBool) == ((t3.tail.headD default).toBool)) = true then ((laws_mdBook.f N [(PV.agg [(t2.headD default).fld 0, (t2.headD default).fld 1]), (PV.agg [(t3.headD default).fld 0, (t3.headD default).fld 1])]).bind fun t6 => some [(PV.sc (.bool ((t6.headD default).toBool)))]) else (some [(PV.sc (.bool false))])) else (if (!((t2.tail.headD default).toBool)) = true then ((laws_mdBook.f N [(PV.agg [(t2.headD default).fld 0, (t2.headD default).fld 1]), (PV.agg [(t1.tail.tail.headD default).fld 0, (t1.tail.tail.headD default).fld 1])]).bind fun t7 => some [(PV.sc (.bool ((t7.headD default).toBool)))]) else ((impl_RingKey.f N [(PV.agg [(t1.headD default).fld 0, (t1.headD default).fld 1]), (PV.sc (.int .i64 (IntKind.i64.wrap (((t1.tail.headD default).toInt) + 1))))]).bind fun t8 => (impl_ReleaseOk.f N [(PV.sc (.string ((t8.headD default).toStr))), (PV.agg [(PV.sc (.int .i64 (((t1.tail.tail.tail.headD default).fld 0).toInt))), (PV.agg [((t1.tail.tail.tail.headD default).fld 1).fld 0, ((t1.tail.tail.tail.headD default).fld 1).fld 1, (PV.sc (.bool ((((t1.tail.tail.tail.headD default).fld 1).fld 2).toBool))), ((t1.tail.tail.tail.headD default).fld 1).fld 3]), (PV.sc (.string (((t1.tail.tail.tail.headD default).fld 2).toStr))), (PV.sc (.string (((t1.tail.tail.tail.headD default).fld 3).toStr)))])]).bind fun t9 => if (t9.headD default).toBool = true then (some [(PV.sc (.bool (decide ((((t1.tail.tail.tail.headD default).fld 0).toInt) = (IntKind.i64.wrap (((t1.tail.headD default).toInt) + 1))))))]) else (some [(PV.sc (.bool false))])))) else (if (((t2.tail.headD default).toBool) == ((t3.tail.headD default).toBool)) = true then ((laws_mdBook.f N [(PV.agg [(t2.headD default).fld 0, (t2.headD default).fld 1]), (PV.agg [(t3.headD default).fld 0, (t3.headD default).fld 1])]).bind fun t10 => some [(PV.sc (.bool ((t10.headD default).toBool)))]) else (some [(PV.sc (.bool false))]))) else (if (((t2.tail.headD default).toBool) == ((t3.tail.headD default).toBool)) = true then ((laws_mdBook.f N [(PV.agg [(t2.headD default).fld 0, (t2.headD default).fld 1]), (PV.agg [(t3.headD default).fld 0, (t3.headD default).fld 1])]).bind fun t11 => some [(PV.sc (.bool ((t11.headD default).toBool)))]) else (some [(PV.sc (.bool false))]))) := by kernel_rfl
noncomputable def laws_FnRingWrong.S (N : Nat) : ASpec := ⟨[(61, .ro)], [(4, .val)], laws_FnRingWrong.f N⟩
theorem laws_FnRingWrong.ok (N : Nat) : FnOk Tryz.prog 5 (laws_FnRingWrong.S N) := fnOk_of (E := laws_FnRingWrong.E N) mix Tryz.func5 (by kernel_rfl) (by kernel_rfl) (by kernel_rfl) (lk_ok (all_cons (spec_DrawRingDo.ok N) (all_cons (impl_RingDo.ok N) (all_cons (spec_RingDo.ok N) (all_cons (laws_mdBook.ok N) (all_cons (spec_BookOk.ok N) (all_cons (impl_RingKey.ok N) (all_cons (impl_ReleaseOk.ok N) all_nil)))))))) (by kernel_rfl) (fun _ _ h => h)

end Go.Proofs.YtjfigkikhmffpaaGreatDoor.FnRingWrong
