/- What each function that the law FnFixText reaches computes, as trees, part 2: no conditions. -/
import Derived.Test.YtoiigoflkhmjnaaGreatDoorLib123410
import Derived.Test.YtoiigoflkhmjnaaGreatDoorProg
import Derived.BigCall
import Derived.Deep.RegionHeld3
import Derived.Lib.Small
import Derived.Lib.Walk
import Derived.Shelf.SlSortCmp.NoneTotal
import Derived.WalkKit
import Derived.Test.YtoiigoflkhmjnaaGreatDoorFnFnFixTextx1
set_option maxRecDepth 100000
set_option linter.unusedVariables false
namespace Go.Proofs.YtoiigoflkhmjnaaGreatDoor.FnFixText
open Go Go.Proofs.YtoiigoflkhmjnaaGreatDoorAm
/-! ### slices_SortFunc_impl_Guess: function 61, slices.SortFunc[[]loop.example/medlar/impl.Guess,loop.example/medlar/impl.Guess], walked by hand -/
section
open Go.RowKit Go.Proofs Go.Sort
def cmpB (x y : ByteArray) : Int := if Op.bytesLess x.toList y.toList then -1 else if (Op.bytesLess x.toList y.toList || x.toList == y.toList) then 0 else 1
def cmpG (a b : ByteArray × Int) : Int := if Lib.compareInt a.2 b.2 = 0 then cmpB a.1 b.1 else Lib.compareInt a.2 b.2
theorem nanI (x : Int) (w : World) : Calls Tryz.prog 152 #[.int .i64 x] w fun e w' => e = .returned (.bool false) ∧ w' = w := by
  go_enter Tryz.func152, Tryz.ntmps152
  go_wp2
  go_ret
  exact ⟨by simp, rfl⟩
theorem nanS (x : ByteArray) (w : World) : Calls Tryz.prog 153 #[.string x] w fun e w' => e = .returned (.bool false) ∧ w' = w := by
  go_enter Tryz.func153, Tryz.ntmps153
  go_wp2
  go_ret
  exact ⟨by simp, rfl⟩
theorem cmpI (x y : Int) (w : World) : Calls Tryz.prog 111 #[.int .i64 x, .int .i64 y] w fun e w' => e = .returned (.int .i64 (Lib.compareInt x y)) ∧ w' = w := by
  go_enter Tryz.func111, Tryz.ntmps111
  go_wp2_with (go_at_call 152; refine (nanI _ _).mono ?_; rintro e w' ⟨rfl, hw⟩; rw [hw])
  all_goals (go_ret; refine ⟨?_, rfl⟩; unfold Lib.compareInt; (repeat' split) <;> first | rfl | (exfalso; omega))
theorem run_gtr (x y : ByteArray) (w : World) : Sem.run Tryz.prog (Go.binOp BinOp.gtr 9 (.string x) (.string y)) w = .ok (.bool !(Op.bytesLess x.toList y.toList || x.toList == y.toList)) w := rfl
theorem cmpS (x y : ByteArray) (r : Int) (hr : cmpB x y = r) (w : World) : Calls Tryz.prog 112 #[.string x, .string y] w fun e w' => e = .returned (.int .i64 r) ∧ w' = w := by
  go_enter Tryz.func112, Tryz.ntmps112
  go_wp2_with (go_at_call 153; refine (nanS _ _).mono ?_; rintro e w' ⟨rfl, hw⟩; rw [hw])
  · go_ret
    rename_i h
    subst hr
    exact ⟨by simp [cmpB, h], rfl⟩
  · have h : Op.bytesLess x.toList y.toList = false := by assumption
    rw [run_gtr]
    cases h2 : (x.toList == y.toList)
    · go_wp2
      all_goals (go_ret; subst hr)
      all_goals first | exact ⟨by simp [cmpB, h, h2], rfl⟩ | (simp_all; done)
    · go_wp2
      all_goals (go_ret; subst hr)
      all_goals first | exact ⟨by simp [cmpB, h, h2], rfl⟩ | (simp_all; done)
theorem orI (b : Nat) (x y r : Int) (hr : (if x = 0 then y else x) = r) (w : World) (h0 : w.cell? ⟨b, 0, none⟩ = some (.int .i64 x)) (h1 : w.cell? ⟨b, 1, none⟩ = some (.int .i64 y)) :
    Calls Tryz.prog 110 #[.slice (some ⟨b, 0, none⟩) 2 2] w fun e w' => e = .returned (.int .i64 r) ∧ w' = w := by
  go_enter Tryz.func110, Tryz.ntmps110
  go_wp2
  refine wp_loop_rounds 3 ?_
  rw [rounds_succ]
  go_wp2
  · go_ret
    subst hr
    have h : x ≠ 0 := fun h => by simp_all
    exact ⟨by simp [h], rfl⟩
  · have hx : x = 0 := by simp_all
    rw [rounds_succ]
    go_wp2
    · go_ret
      subst hr
      exact ⟨by simp [hx], rfl⟩
    · rw [rounds_succ]
      go_wp2
      go_ret
      subst hr
      exact ⟨by simp_all, rfl⟩
/-- Draws and blocks behind a world. -/
def More (w w' : World) : Prop := ∃ q os, w' = grow (w.drewN q) os
theorem More.refl (w : World) : More w w := ⟨0, #[], by rw [grow_empty]; rfl⟩
theorem More.drew {w w' : World} (h : More w w') : More w w'.drew := by
  obtain ⟨q, os, rfl⟩ := h; exact ⟨q + 1, os, rfl⟩
theorem More.alloc {w w' : World} (o : Obj) (h : More w w') : More w (w'.alloc o) := by
  obtain ⟨q, os, rfl⟩ := h; exact ⟨q, os ++ #[o], by rw [alloc_eq_grow, grow_grow]⟩
/-- .. and the two that are compared lie there. -/
def Two (w0 : World) (n : Nat) (a b : ByteArray) (x y : Int) (w : World) : Prop := More w0 w ∧ w.cell? ⟨n, 0, none⟩ = some (.string a) ∧ w.cell? ⟨n, 1, none⟩ = some (.int .i64 x) ∧ w.cell? ⟨n + 1, 0, none⟩ = some (.string b) ∧ w.cell? ⟨n + 1, 1, none⟩ = some (.int .i64 y) ∧ n + 1 < w.heap.size
theorem Two.drew {w0 w : World} {n : Nat} {a b : ByteArray} {x y : Int} (h : Two w0 n a b x y w) : Two w0 n a b x y w.drew := ⟨h.1.drew, h.2⟩
theorem cell_alloc {w : World} {o : Obj} {k j : Nat} (h : k < w.heap.size) : (w.alloc o).cell? ⟨k, j, none⟩ = w.cell? ⟨k, j, none⟩ := by
  exact World.cell?_alloc_past (w := w) (o := o) (n := k) (i := j) (hn := h)
theorem Two.alloc {w0 w : World} {n : Nat} {a b : ByteArray} {x y : Int} (o : Obj) (h : Two w0 n a b x y w) : Two w0 n a b x y (w.alloc o) := by
  obtain ⟨h1, h2, h3, h4, h5, h6⟩ := h
  refine ⟨h1.alloc o, ?_, ?_, ?_, ?_, ?_⟩
  · rw [cell_alloc (by omega)]; exact h2
  · rw [cell_alloc (by omega)]; exact h3
  · rw [cell_alloc h6]; exact h4
  · rw [cell_alloc h6]; exact h5
  · rw [World.size_alloc]; omega
theorem order (a b : ByteArray) (x y : Int) (w : World) : Calls Tryz.prog 62 #[.agg #[.string a, .int .i64 x], .agg #[.string b, .int .i64 y]] w fun e w' => e = .returned (.int .i64 (cmpG (a, x) (b, y))) ∧ More w w' := by
  have cI := fun W => cmpI x y W
  have cS := fun W => cmpS a b _ rfl W
  unfold cmpG
  dsimp only
  generalize Lib.compareInt x y = r1 at cI ⊢
  generalize cmpB a b = r2 at cS ⊢
  generalize hr : (if r1 = 0 then r2 else r1) = r
  go_enter Tryz.func62, Tryz.ntmps62
  go_wp2
  generalize hW : (w.alloc (Obj.cells #[Value.string a, Value.int IntKind.i64 x] 35)).alloc (Obj.cells #[Value.string b, Value.int IntKind.i64 y] 35) = W1
  have hT : Two w w.heap.size a b x y W1 := by
    subst hW
    refine ⟨(More.refl w).alloc _ |>.alloc _, ?_, ?_, ?_, ?_, ?_⟩
    · rw [cell_alloc (by simp), World.cell?_alloc_at _ _ _ _ rfl]; rfl
    · rw [cell_alloc (by simp), World.cell?_alloc_at _ _ _ _ rfl]; rfl
    · rw [World.cell?_alloc_at _ _ _ _ (by simp)]; rfl
    · rw [World.cell?_alloc_at _ _ _ _ (by simp)]; rfl
    · simp
  clear hW
  generalize w.heap.size = n at hT ⊢
  have r10 : ∀ W, Two w n a b x y W → W.cell? ⟨n, 0, none⟩ = some (.string a) := fun W h => h.2.1
  have r11 : ∀ W, Two w n a b x y W → W.cell? ⟨n, 1, none⟩ = some (.int .i64 x) := fun W h => h.2.2.1
  have r12 : ∀ W, Two w n a b x y W → W.cell? ⟨n + 1, 0, none⟩ = some (.string b) := fun W h => h.2.2.2.1
  have r13 : ∀ W, Two w n a b x y W → W.cell? ⟨n + 1, 1, none⟩ = some (.int .i64 y) := fun W h => h.2.2.2.2.1
  go_region_held3 (fun W => Two w n a b x y W) (first | assumption | exact Two.drew (by assumption) | exact Two.alloc _ (by assumption)) (first | (go_at_call 111; refine (cI _).mono ?_; rintro e W3 ⟨rfl, rfl⟩) | (go_at_call 112; refine (cS _).mono ?_; rintro e W3 ⟨rfl, rfl⟩) | (go_at_call 110; refine (orI _ _ _ _ hr _ (World.cell?_alloc_at _ _ _ _ rfl) (World.cell?_alloc_at _ _ _ _ rfl)).mono ?_; rintro e W3 ⟨rfl, rfl⟩))
  go_wp2
  go_ret
  rename_i hH
  exact ⟨rfl, hH.1⟩

section
open Go.Shelf
def laysSF_ren : Go.Shelf.Ren := ⟨fun | 6 => 61 | 15 => 109 | 14 => 108 | 28 => 150 | 29 => 151 | 20 => 142 | 21 => 143 | 22 => 144 | 23 => 145 | 24 => 146 | 25 => 147 | 26 => 148 | 27 => 149 | 46 => 176 | 47 => 177 | 48 => 178 | 49 => 179 | 50 => 180 | 57 => 198 | n => n, fun | 22 => 30 | 24 => 35 | 25 => 80 | 3 => 3 | 39 => 128 | 0 => 0 | 53 => 163 | 55 => 165 | 4 => 4 | 46 => 156 | 45 => 155 | 50 => 160 | 5 => 5 | 9 => 9 | 66 => 180 | 70 => 184 | 76 => 198 | 77 => 133 | n => n, fun | n => n⟩
theorem laysSF : Go.Proofs.SlLaysF0.n6 Tryz.prog laysSF_ren := {
  mixed := by kernel_rfl
  f6 := ⟨Tryz.f61.name, by decide, Tryz.func61.trans (congrArg some (by kernel_rfl))⟩
  f14 := ⟨Tryz.f108.name, by decide, Tryz.func108.trans (congrArg some (by kernel_rfl))⟩
  f15 := Tryz.func109.trans (congrArg some (by kernel_rfl))
  f20 := ⟨Tryz.f142.name, by decide, Tryz.func142.trans (congrArg some (by kernel_rfl))⟩
  f21 := ⟨Tryz.f143.name, by decide, Tryz.func143.trans (congrArg some (by kernel_rfl))⟩
  f22 := ⟨Tryz.f144.name, by decide, Tryz.func144.trans (congrArg some (by kernel_rfl))⟩
  f23 := ⟨Tryz.f145.name, by decide, Tryz.func145.trans (congrArg some (by kernel_rfl))⟩
  f24 := ⟨Tryz.f146.name, by decide, Tryz.func146.trans (congrArg some (by kernel_rfl))⟩
  f25 := ⟨Tryz.f147.name, by decide, Tryz.func147.trans (congrArg some (by kernel_rfl))⟩
  f26 := ⟨Tryz.f148.name, by decide, Tryz.func148.trans (congrArg some (by kernel_rfl))⟩
  f27 := ⟨Tryz.f149.name, by decide, Tryz.func149.trans (congrArg some (by kernel_rfl))⟩
  f28 := Tryz.func150.trans (congrArg some (by kernel_rfl))
  f29 := Tryz.func151.trans (congrArg some (by kernel_rfl))
  f46 := ⟨Tryz.f176.name, by decide, Tryz.func176.trans (congrArg some (by kernel_rfl))⟩
  f47 := Tryz.func177.trans (congrArg some (by kernel_rfl))
  f48 := Tryz.func178.trans (congrArg some (by kernel_rfl))
  f49 := ⟨Tryz.f179.name, by decide, Tryz.func179.trans (congrArg some (by kernel_rfl))⟩
  f50 := ⟨Tryz.f180.name, by decide, Tryz.func180.trans (congrArg some (by kernel_rfl))⟩
  f57 := ⟨Tryz.f198.name, by decide, Tryz.func198.trans (congrArg some (by kernel_rfl))⟩
  t0 := Tryz.underlying0
  a0 := Tryz.isAgg0
  z0 := Tryz.sizeOf0
  v0 := Tryz.zeroValue0
  t3 := Tryz.underlying3
  a3 := Tryz.isAgg3
  z3 := Tryz.sizeOf3
  v3 := Tryz.zeroValue3
  t4 := Tryz.underlying4
  a4 := Tryz.isAgg4
  z4 := Tryz.sizeOf4
  v4 := Tryz.zeroValue4
  t5 := Tryz.underlying5
  a5 := Tryz.isAgg5
  z5 := Tryz.sizeOf5
  v5 := Tryz.zeroValue5
  t9 := Tryz.underlying9
  a9 := Tryz.isAgg9
  z9 := Tryz.sizeOf9
  v9 := Tryz.zeroValue9
  t22 := Tryz.underlying30
  a22 := Tryz.isAgg30
  z22 := Tryz.sizeOf30
  v22 := Tryz.zeroValue30
  t25 := Tryz.underlying80
  a25 := Tryz.isAgg80
  z25 := Tryz.sizeOf80
  v25 := Tryz.zeroValue80
  t39 := Tryz.underlying128
  a39 := Tryz.isAgg128
  z39 := Tryz.sizeOf128
  v39 := Tryz.zeroValue128
  t45 := Tryz.underlying155
  a45 := Tryz.isAgg155
  z45 := Tryz.sizeOf155
  v45 := Tryz.zeroValue155
  t46 := Tryz.underlying156
  a46 := Tryz.isAgg156
  z46 := Tryz.sizeOf156
  v46 := Tryz.zeroValue156
  t50 := Tryz.underlying160
  a50 := Tryz.isAgg160
  z50 := Tryz.sizeOf160
  v50 := Tryz.zeroValue160
  t53 := Tryz.underlying163
  a53 := Tryz.isAgg163
  z53 := Tryz.sizeOf163
  v53 := Tryz.zeroValue163
  t55 := Tryz.underlying165
  a55 := Tryz.isAgg165
  z55 := Tryz.sizeOf165
  v55 := Tryz.zeroValue165
  t66 := Tryz.underlying180
  a66 := Tryz.isAgg180
  z66 := Tryz.sizeOf180
  v66 := Tryz.zeroValue180
  t70 := Tryz.underlying184
  a70 := Tryz.isAgg184
  z70 := Tryz.sizeOf184
  v70 := Tryz.zeroValue184
  t76 := Tryz.underlying198
  a76 := Tryz.isAgg198
  z76 := Tryz.sizeOf198
  v76 := Tryz.zeroValue198
  t77 := Tryz.underlying133
  a77 := Tryz.isAgg133
  z77 := Tryz.sizeOf133
  v77 := Tryz.zeroValue133 }

end
def guessP (g : ByteArray × Int) : PV := .agg [strP g.1, intP g.2]
def toGuess (p : PV) : ByteArray × Int := ((p.fld 0).toStr, (p.fld 1).toInt)
theorem toGuess_guessP (g : ByteArray × Int) : toGuess (guessP g) = g := rfl
def encG (g : ByteArray × Int) : List Value := [.string g.1, .int .i64 g.2]
def sortG (l : List (ByteArray × Int)) : List (ByteArray × Int) := l.mergeSort fun x y => !(ltOf cmpG) y x
theorem sortG_len (l : List (ByteArray × Int)) : (sortG l).length = l.length := by simp [sortG]
def isFn (g : Nat) : Value → Bool
  | .func (.func h) a b => decide (h = g ∧ a = #[] ∧ b = #[])
  | _ => false
theorem isFn_eq {g : Nat} {v : Value} (h : isFn g v = true) : v = .func (.func g) #[] #[] := by
  unfold isFn at h
  split at h
  · simp at h; simp [h]
  · cases h
noncomputable def slices_SortFunc_impl_Guess.f (N : Nat) (a : List PV) : Option (List PV) := match a with
  | [.list ps, .sc v] => if isFn 62 v = true ∧ ps.length < 4611686018427387904 then some [.list ((sortG (ps.map toGuess)).map guessP)] else none
  | _ => none
noncomputable def slices_SortFunc_impl_Guess.S (N : Nat) : ASpec := ⟨[(30, .mut), (73, .ro)], [], slices_SortFunc_impl_Guess.f N⟩
/-! the order -/
theorem str_tri (a b : ByteArray) : (a.toList < b.toList ∨ a.toList = b.toList) ∨ b.toList < a.toList := by
  by_cases h : a.toList < b.toList
  · exact .inl (.inl h)
  · by_cases h2 : b.toList < a.toList
    · exact .inr h2
    · exact .inl (.inr (Std.le_antisymm (Std.not_lt.1 h2) (Std.not_lt.1 h)))
theorem lt_cmpG (a b : ByteArray × Int) : ltOf cmpG a b = decide (a.2 < b.2 ∨ (a.2 = b.2 ∧ a.1.toList < b.1.toList)) := by
  unfold ltOf cmpG Lib.compareInt cmpB
  rw [Go.Proofs.bytesLess_eq]
  by_cases h1 : a.2 < b.2
  · simp [h1]
  · by_cases h2 : a.2 > b.2
    · have : ¬ a.2 = b.2 := by omega
      simp [h1, h2, this]
    · have h3 : a.2 = b.2 := by omega
      by_cases h4 : a.1.toList < b.1.toList
      · simp [h3, h4]
      · have hn : ¬ b.1.toList < b.1.toList := Std.lt_irrefl
        by_cases h5 : a.1.toList = b.1.toList <;> simp [h3, h4, h5, hn]
theorem swoG : SWO (ltOf cmpG) where
  irrefl x := by rw [lt_cmpG]; simp
  trans x y z h1 h2 := by
    rw [lt_cmpG] at *
    simp only [decide_eq_true_eq] at *
    rcases h1 with h1 | ⟨h1, h3⟩ <;> rcases h2 with h2 | ⟨h2, h4⟩
    · left; omega
    · left; omega
    · left; omega
    · right; exact ⟨by omega, Std.lt_trans h3 h4⟩
  ntrans x y z h1 h2 := by
    rw [lt_cmpG] at *
    simp only [decide_eq_false_iff_not, not_or, not_and] at *
    refine ⟨by omega, fun h3 h4 => ?_⟩
    have e1 : x.2 = y.2 := by omega
    have e2 : y.2 = z.2 := by omega
    have h5 := h1.2 e1
    have h6 := h2.2 e2
    exact absurd h4 (Std.not_lt.2 (Std.le_trans (Std.not_lt.1 h6) (Std.not_lt.1 h5)))
theorem totG (x y : ByteArray × Int) (h1 : ltOf cmpG x y = false) (h2 : ltOf cmpG y x = false) : x = y := by
  rw [lt_cmpG] at *
  simp only [decide_eq_false_iff_not, not_or, not_and] at *
  have e : x.2 = y.2 := by omega
  have h3 := h1.2 e
  have h4 := h2.2 e.symm
  have h5 : x.1.toList = y.1.toList := by rcases str_tri x.1 y.1 with (h | h) | h <;> first | exact absurd h h3 | exact absurd h h4 | exact h
  have h6 : x.1 = y.1 := by
    rw [ByteArray.toList_eq, ByteArray.toList_eq] at h5
    exact ByteArray.ext (Array.ext' h5)
  exact Prod.ext h6 e
/-! rows of guesses -/
theorem flat_len : ∀ ns : List (ByteArray × Int), (ns.flatMap encG).length = ns.length * 2
  | [] => rfl
  | x :: ns => by rw [List.flatMap_cons, List.length_append, flat_len ns, List.length_cons]; simp [encG]; omega
theorem flat_get : ∀ (ns : List (ByteArray × Int)) (k : Nat), k < ns.length * 2 → (ns.flatMap encG)[k]? = some ((encG ns[k / 2]!)[k % 2]!)
  | [], k, h => by simp at h
  | x :: ns, 0, h => rfl
  | x :: ns, 1, h => rfl
  | x :: ns, k + 2, h => by
    have h' : k < ns.length * 2 := by simp at h; omega
    have e1 : (k + 2) / 2 = k / 2 + 1 := by omega
    have e2 : (k + 2) % 2 = k % 2 := by omega
    rw [e1, e2, List.flatMap_cons]
    show (Value.string x.1 :: Value.int .i64 x.2 :: ns.flatMap encG)[k + 2]? = _
    simpa using flat_get ns k h'
theorem flatK_list (ns : List (ByteArray × Int)) : (flatK encG 2 ns.toArray).toList = ns.flatMap encG := by
  apply List.ext_getElem?
  intro k
  by_cases hk : k < ns.length * 2
  · rw [flat_get ns k hk]
    have := get_flatK encG 2 ns.toArray k (by simpa using hk)
    have hs : k < (flatK encG 2 ns.toArray).size := by simpa using hk
    rw [getElem!_pos _ k hs] at this
    rw [Array.getElem?_toList, Array.getElem?_eq_getElem hs, this]
    simp
  · rw [List.getElem?_eq_none (l := ns.flatMap encG) (by rw [flat_len]; omega), List.getElem?_eq_none (by simp; omega)]
section
variable {w : World} {n : Nat}
theorem guess_seq : ∀ {ps : List PV} {xs : List Value} {F : List Nat}, OwSeq (Ow Tryz.prog w n 35) 2 ps xs F → ∃ ns : List (ByteArray × Int), ps = ns.map guessP ∧ xs = ns.flatMap encG ∧ F = []
  | [], xs, F, h => ⟨[], rfl, h.1, h.2⟩
  | p :: ps, xs, F, ⟨c, cs', k, F', h1, h2, h3, h4, h5⟩ => by
    obtain ⟨ns, e1, e2, e3⟩ := guess_seq h5
    cases n with
    | zero => exact h4.elim
    | succ n =>
      unfold Ow at h4
      have t35 : tk Tryz.prog 35 = .struct [9, 3] := by kernel_rfl
      simp only [t35] at h4
      obtain ⟨ps', rfl, h6⟩ := h4
      match ps', h6 with
      | [q1, q2], h6 =>
        obtain ⟨c1, c1', f1, f1', rfl, rfl, h7, c2, c2', f2, f2', rfl, rfl, h8, rfl, rfl⟩ := h6
        cases n with
        | zero => exact h7.elim
        | succ n =>
          have t9 : tk Tryz.prog 9 = .str := by kernel_rfl
          have t3 : tk Tryz.prog 3 = .int .i64 := by kernel_rfl
          unfold Ow at h7 h8
          simp only [t9] at h7
          simp only [t3] at h8
          obtain ⟨⟨s, rfl, rfl⟩, rfl⟩ := h7
          obtain ⟨⟨x, rfl, rfl⟩, rfl⟩ := h8
          exact ⟨(s, x) :: ns, by simp [e1, guessP, strP, intP], by simp [h1, e2, encG], by simp [h3, e3]⟩
      | [], h6 => exact h6.elim
      | [_], h6 => obtain ⟨_, _, _, _, _, _, _, h6⟩ := h6; exact h6.elim
      | _ :: _ :: _ :: _, h6 => obtain ⟨_, _, _, _, _, _, _, _, _, _, _, _, _, _, h6⟩ := h6; exact h6.elim
theorem guess_seq_of : ∀ ns : List (ByteArray × Int), OwSeq (Ow Tryz.prog w 2 35) 2 (ns.map guessP) (ns.flatMap encG) []
  | [] => ⟨rfl, rfl⟩
  | x :: ns => ⟨encG x, ns.flatMap encG, [], [], rfl, rfl, rfl, by
      have t35 : tk Tryz.prog 35 = .struct [9, 3] := by kernel_rfl
      have t9 : tk Tryz.prog 9 = .str := by kernel_rfl
      have t3 : tk Tryz.prog 3 = .int .i64 := by kernel_rfl
      unfold Ow
      simp only [t35]
      refine ⟨_, rfl, [.string x.1], [.int .i64 x.2], [], [], rfl, rfl, ?_, [.int .i64 x.2], [], [], [], rfl, rfl, ?_, rfl, rfl⟩
      · unfold Ow; simp only [t9]; exact ⟨⟨x.1, rfl, rfl⟩, trivial⟩
      · unfold Ow; simp only [t3]; exact ⟨⟨x.2, rfl, rfl⟩, trivial⟩, guess_seq_of ns⟩
theorem ow_guess {p : PV} {v : Value} {F : List Nat} (h : Ow Tryz.prog w n 30 p [v] F) : ∃ ns : List (ByteArray × Int), p = .list (ns.map guessP) ∧ F = v.ownBlock.toList ∧
    ((v = .slice none 0 0 ∧ ns = []) ∨ ∃ g cap cur fz, v = .slice (some ⟨g, 0, none⟩) ns.length cap ∧ F = [g] ∧ FzOk cur.size fz ∧ w.heap[g]? = some (.cells cur 35 fz) ∧ ns.length ≤ cap ∧ cap ≤ maxLen ∧ cur.size = cap * 2 ∧ cur.toList.take (ns.length * 2) = ns.flatMap encG) := by
  cases n with
  | zero => exact h.elim
  | succ n =>
    have ht : tk Tryz.prog 30 = .slice 35 := by kernel_rfl
    unfold Ow at h
    simp only [ht] at h
    obtain ⟨v', xs, ps, F', hv, rfl, h1, h2, h3⟩ := h
    simp at hv; subst hv
    have hs : YtoiigoflkhmjnaaGreatDoorAm.sizeOf Tryz.prog 35 = 2 := by kernel_rfl
    rw [hs] at h1 h3
    obtain ⟨ns, rfl, rfl, rfl⟩ := guess_seq h3
    refine ⟨ns, rfl, by rw [h2, List.append_nil], ?_⟩
    rcases h1.2 with ⟨rfl, h0⟩ | ⟨g, cap, cur, fz, rfl, h4, h5, h6, h7, h8, h9⟩
    · exact .inl ⟨rfl, List.eq_nil_of_length_eq_zero (by simpa using h0)⟩
    · refine .inr ⟨g, cap, cur, fz, by simp, by rw [h2]; rfl, h4, h5, by simpa using h6, h7, h8, by simpa using h9⟩
theorem ow_guess_of {g cap : Nat} {cur : Array Value} {fz : Nat × Nat} {ns : List (ByteArray × Int)} (h4 : FzOk cur.size fz) (h5 : w.heap[g]? = some (.cells cur 35 fz)) (h6 : ns.length ≤ cap) (h7 : cap ≤ maxLen) (h8 : cur.size = cap * 2) (h9 : cur.toList.take (ns.length * 2) = ns.flatMap encG) :
    Ow Tryz.prog w 3 30 (.list (ns.map guessP)) [.slice (some ⟨g, 0, none⟩) ns.length cap] [g] := by
  have ht : tk Tryz.prog 30 = .slice 35 := by kernel_rfl
  have hs : YtoiigoflkhmjnaaGreatDoorAm.sizeOf Tryz.prog 35 = 2 := by kernel_rfl
  unfold Ow
  simp only [ht]
  refine ⟨_, ns.flatMap encG, ns.map guessP, [], rfl, rfl, ⟨by rw [hs]; simpa using flat_len ns, .inr ⟨g, cap, cur, fz, by simp, h4, h5, by simpa using h6, h7, by rw [hs, h8], by rw [hs]; simpa using h9⟩⟩, rfl, ?_⟩
  rw [hs]
  exact guess_seq_of ns
theorem holds_guess {g : Nat} {cur : Array Value} {fz : Nat × Nat} {ns : List (ByteArray × Int)} (h4 : FzOk cur.size fz) (h5 : w.heap[g]? = some (.cells cur 35 fz)) (h6 : ns.length * 2 ≤ cur.size) (h9 : cur.toList.take (ns.length * 2) = ns.flatMap encG) :
    HoldsK encG 2 w g 0 ns.toArray := by
  intro j hj
  have hj' : j < ns.length * 2 := by simpa using hj
  have hc : cur[j]? = some ((encG ns[j / 2]!)[j % 2]!) := by
    have : (cur.toList.take (ns.length * 2))[j]? = some ((encG ns[j / 2]!)[j % 2]!) := by rw [h9]; exact flat_get ns j hj'
    rw [List.getElem?_take, if_pos hj'] at this
    simpa using this
  refine ⟨?_, ?_⟩
  · simp only [World.cell?, h5, Nat.zero_add]
    rw [hc]
    have := get_flatK encG 2 ns.toArray j (by simpa using hj')
    rw [this]
    simp
  · simp only [World.frozen?, h5, Nat.zero_add]
    rcases h4 with rfl | h4
    · simp
    · have : ¬ fz.1 ≤ j := by omega
      simp [this]
theorem putK_take {cur : Array Value} (ns : List (ByteArray × Int)) (hl : ns.length * 2 ≤ cur.size) : (Sort.putCells id 0 (flatK encG 2 ns.toArray) cur).toList.take (ns.length * 2) = ns.flatMap encG := by
  apply List.ext_getElem?
  intro k
  rw [List.getElem?_take]
  by_cases hk : k < ns.length * 2
  · have hk2 : k < cur.size := by omega
    have hs : k < (flatK encG 2 ns.toArray).size := by simpa using hk
    rw [if_pos hk, flat_get ns k hk]
    have := get_flatK encG 2 ns.toArray k (by simpa using hk)
    have e : ns.toArray[k / 2]! = ns[k / 2]! := by simp
    rw [e] at this
    simp only [Sort.putCells, Array.getElem?_toList, Array.getElem?_mapIdx, Array.getElem?_eq_getElem hk2, Option.map_some, Nat.zero_le, true_and, Nat.zero_add, Nat.sub_zero, if_pos hs, this, id]
  · rw [if_neg hk, List.getElem?_eq_none (by rw [flat_len]; omega)]
end
theorem slices_SortFunc_impl_Guess.ok (N : Nat) : FnOk Tryz.prog 61 (slices_SortFunc_impl_Guess.S N) := by
  refine ⟨⟨_, Tryz.func61, by kernel_rfl, by kernel_rfl⟩, fun w ok vs ps F L outs hglb ha hnd hok hd => ?_⟩
  match vs, ps, ha with
  | [v, u], [p, q], ha =>
    obtain ⟨r, L', rfl, ⟨hb, hrt⟩, rfl, _, ⟨n, how⟩, hq, rfl, rfl⟩ := ha
    obtain ⟨ns, rfl, hF, hcase⟩ := ow_guess how
    obtain ⟨m, cs, hr, hu⟩ := hq
    cases m with
    | zero => exact hr.elim
    | succ m =>
    have t80 : tk Tryz.prog 73 = .other := by kernel_rfl
    unfold YtoiigoflkhmjnaaGreatDoorAm.Rd at hr
    simp only [t80] at hr
    obtain ⟨v, rfl, rfl, -⟩ := hr
    rw [valOf_one (fun fs => by rw [t80]; simp)] at hu
    subst hu
    have hd' : (if isFn 62 u = true ∧ (ns.map guessP).length < 4611686018427387904 then some [PV.list ((sortG ((ns.map guessP).map toGuess)).map guessP)] else none) = some outs := hd
    have hid : (ns.map guessP).map toGuess = ns := by simp [Function.comp_def, toGuess_guessP]
    rw [hid, List.length_map] at hd'
    split at hd'
    case isFalse => cases hd'
    rename_i hc
    obtain ⟨hfn, hlen⟩ := hc
    rw [isFn_eq hfn]
    injection hd' with hd'
    subst hd'
    rcases hcase with ⟨hv, rfl⟩ | ⟨g, cap, cur, fz, hv, hFg, h4, h5, h6, h7, h8, h9⟩
    · have hc := AnyF.slices_SortFunc_none laysSF none 0 (.func (.func 62) #[] #[]) w
      change Calls Tryz.prog 61 _ _ _ at hc
      have hvs : ([r.hd, .func (.func 62) #[] #[]] : List Value).toArray = #[.slice none 0 0, .func (.func 62) #[] #[]] := by rw [hv]
      rw [hvs]
      refine Calls.mono hc ?_
      rintro x w' ⟨rfl, rfl⟩
      refine ⟨_, rfl, [], [], [r.ft], rfl, ⟨rfl, rfl⟩, ⟨r.ft, [], rfl, ?_, rfl⟩, ?_, ?_, ?_⟩
      · unfold LentAt1
        rw [hb]
        have e0 : sortG [] = [] := by simp [sortG]
        rw [e0]
        exact ⟨n, hrt ▸ how⟩
      · simpa using hnd
      · intro k hk
        refine .inr ?_
        simpa using hk
      · exact ⟨rfl, rfl, rfl, Nat.le_refl _, fun k hk hn => rfl⟩
    · have hg : g < w.heap.size := (Array.getElem?_eq_some_iff.1 h5).1
      have eg : ∀ args w, (callFunc 62 args).run Tryz.prog w = .ok (.enter 62 args) w := enters_of Tryz.func62 (by kernel_rfl) rfl
      have hcmp : CmpLays Tryz.prog 62 #[] encG 2 cmpG g 0 ns.toArray.size w := fun m os dk _ x y => order x.1 y.1 x.2 y.2 _
      have hc := AnyQ.slices_SortFunc_total laysSF 2 Tryz.isAgg35 Tryz.sizeOf35 encG (fun _ => rfl) (fun x v hv => by
        rcases List.mem_cons.1 hv with rfl | hv
        · rfl
        · rcases List.mem_cons.1 hv with rfl | hv
          · rfl
          · cases hv) cmpG swoG 62 #[] g 0 cap ns.toArray w eg hcmp (holds_guess h4 h5 (by omega) h9) hg (by simpa using hlen) totG
      change Calls Tryz.prog 61 _ _ _ at hc
      rw [List.size_toArray] at hc
      have hvs : ([r.hd, .func (.func 62) #[] #[]] : List Value).toArray = #[.slice (some ⟨g, 0, none⟩) ns.length cap, .func (.func 62) #[] #[]] := by rw [hv]
      rw [hvs]
      refine Calls.mono hc ?_
      rintro x w' ⟨rfl, m, os, rfl⟩
      have hse : (ns.toArray.toList.mergeSort fun x y => !(ltOf cmpG) y x) = sortG ns := rfl
      rw [hse]
      have hlen' : (sortG ns).length = ns.length := sortG_len _
      refine ⟨_, rfl, [], [], [r.ft], rfl, ⟨rfl, rfl⟩, ⟨r.ft, [], rfl, ?_, rfl⟩, ?_, ?_, ?_⟩
      · unfold LentAt1
        rw [hb]
        have hw1 : (sortWorldK encG 2 w g 0 m (sortG ns).toArray os).heap[g]? = some (.cells (Sort.putCells id 0 (flatK encG 2 (sortG ns).toArray) cur) 35 fz) := by
          have h1 : (Sort.putRow id (Sort.ahead w m) g 0 (flatK encG 2 (sortG ns).toArray)).heap[g]? = some (.cells (Sort.putCells id 0 (flatK encG 2 (sortG ns).toArray) cur) 35 fz) := by
            have h5' : (Sort.ahead w m).heap[g]? = some (.cells cur 35 fz) := h5
            simp [Sort.putRow, Sort.mapBlock, Array.getElem?_modify, h5, Sort.ahead, Sort.onCells]
          have hlt := (Array.getElem?_eq_some_iff.1 h1).1
          unfold sortWorldK putRowK
          simp only [Sort.grow]
          rw [Array.getElem?_append_left hlt]
          exact h1
        have hsz : (Sort.putCells id 0 (flatK encG 2 (sortG ns).toArray) cur).size = cur.size := by simp [Sort.putCells]
        have htk := putK_take (cur := cur) (sortG ns) (by rw [hlen']; omega)
        refine ⟨3, ?_⟩
        have := ow_guess_of (cap := cap) (by rw [hsz]; exact h4) hw1 (by rw [hlen']; exact h6) h7 (by rw [hsz]; exact h8) htk
        rw [hlen', ← hv, ← hFg, hrt.symm] at this
        exact this
      · simpa using hnd
      · intro k hk
        refine .inr ?_
        simpa using hk
      · refine ⟨rfl, rfl, rfl, by simp [sortWorldK, putRowK, Sort.grow, Sort.putRow, Sort.mapBlock, Sort.ahead], fun k hk hn => ?_⟩
        have hkg : k ≠ g := fun h => hn (by simp [hFg, h])
        unfold sortWorldK putRowK
        simp only [Sort.grow]
        rw [Array.getElem?_append_left (by simpa [Sort.putRow, Sort.mapBlock, Sort.ahead] using hk)]
        simp [Sort.putRow, Sort.mapBlock, Sort.ahead, Array.getElem?_modify, Ne.symm hkg]
  | [], _, ha => exact absurd ha (by simp [ArgsAt, slices_SortFunc_impl_Guess.S])
  | [_], [], ha => exact absurd ha (by simp [ArgsAt, slices_SortFunc_impl_Guess.S])
  | [_], _ :: _, ha => exact absurd ha (by simp [ArgsAt, slices_SortFunc_impl_Guess.S])
  | _ :: _ :: _, [], ha => exact absurd ha (by simp [ArgsAt, slices_SortFunc_impl_Guess.S])
  | _ :: _ :: _, [_], ha => exact absurd ha (by simp [ArgsAt, slices_SortFunc_impl_Guess.S])
  | [_, _], _ :: _ :: _ :: _, ha => exact absurd ha (by simp [ArgsAt, slices_SortFunc_impl_Guess.S])
  | _ :: _ :: _ :: _, _ :: _ :: _, ha => exact absurd ha (by simp [ArgsAt, slices_SortFunc_impl_Guess.S])

end

/-! ### impl_guesses: function 67, loop.example/medlar/impl.guesses -/
noncomputable def impl_guesses.E (N : Nat) : Env := ⟨lk [(116, impl_Within.S N), (117, impl_Far.S N), (61, slices_SortFunc_impl_Guess.S N)], nzk [(3, ⟨[0, 3, 4, 5, 6, 8, 9, 10, 14, 15, 16, 17, 18, 19, 20, 21, 22, 23, 24, 25, 26, 27, 28, 29, 30, 31, 32, 33, 34, 35, 36, 37, 38], [(7, 30)], []⟩)], N, [], false⟩
noncomputable def impl_guesses.f (N : Nat) (a : List PV) : Option Res := run Tryz.prog (impl_guesses.E N) Tryz.f67 [(27, .ro), (9, .ro), (3, .ro)] [(30, .own)] a
noncomputable def impl_guesses.l0 (N : Nat) (n : Nat) (x1 : ByteArray) (x2 : Int) (x11 : PV) (x12 : Int) (x13 : Int) (y0 : List PV) : Option Res := loopAt Tryz.prog (impl_guesses.E N) Tryz.f67 [(30, .own)] [1, 1, 0, 1, 0] [] n ⟨mkSlots 39 [(1, .sc (.string x1)), (2, .sc (.int .i64 x2)), (7, .ref 0 []), (11, .ro 27 x11), (12, .sc (.int .i64 x12)), (13, .sc (.int .i64 x13))], ohOf [.row 30 (PV.list y0)]⟩
theorem impl_guesses.f_eq (N : Nat) (a0 : PV) (a1 : PV) (a2 : PV) : impl_guesses.f N [a0, a1, a2] = impl_guesses.l0 N N a1.toStr a2.toInt a0 (a0.items.length : Int) 0 [] := by kernel_rfl
theorem impl_guesses.l0_eq (N : Nat) (n : Nat) (x1 : ByteArray) (x2 : Int) (x11 : PV) (x12 : Int) (x13 : Int) (y0 : List PV) : impl_guesses.l0 N (n + 1) x1 x2 x11 x12 x13 y0 = if decide (x13 < x12) = true then (if 0 ≤ x13 then (if x13 < (x11.items.length : Int) then ((impl_Within.f N [(PV.sc (.string ((x11.elem x13.toNat).toStr))), (PV.sc (.string x1)), (PV.sc (.int .i64 x2))]).bind fun t1 => if (t1.headD default).toBool = true then ((impl_Far.f N [(PV.sc (.string ((x11.elem x13.toNat).toStr))), (PV.sc (.string x1))]).bind fun t2 => if y0.length + ([(PV.agg [(PV.sc (.string ((x11.elem x13.toNat).toStr))), (PV.sc (.int .i64 ((t2.headD default).toInt)))])]).length ≤ 5864062014805 then (impl_guesses.l0 N n x1 x2 x11 x12 (IntKind.i64.wrap (x13 + 1)) (y0 ++ ([(PV.agg [(PV.sc (.string ((x11.elem x13.toNat).toStr))), (PV.sc (.int .i64 ((t2.headD default).toInt)))])]))) else none) else (impl_guesses.l0 N n x1 x2 x11 x12 (IntKind.i64.wrap (x13 + 1)) y0)) else none) else none) else ((slices_SortFunc_impl_Guess.f N [(PV.list y0), (PV.sc (.func (.func 62) #[] #[]))]).bind fun t3 => if 0 ≤ (minI (((t3.headD default).items).length : Int) 10) then (if (minI (((t3.headD default).items).length : Int) 10) ≤ (((t3.headD default).items).length : Int) then (if ([] : List PV).length + ((((t3.headD default).items).drop 0).take (((minI (((t3.headD default).items).length : Int) 10).toNat) - 0)).length ≤ 5864062014805 then (some [(PV.list (([] : List PV) ++ ((((t3.headD default).items).drop 0).take (((minI (((t3.headD default).items).length : Int) 10).toNat) - 0))))]) else none) else none) else none) := by kernel_rfl
noncomputable def impl_guesses.S (N : Nat) : ASpec := ⟨[(27, .ro), (9, .ro), (3, .ro)], [(30, .own)], impl_guesses.f N⟩
theorem impl_guesses.ok (N : Nat) : FnOk Tryz.prog 67 (impl_guesses.S N) := fnOk_of (E := impl_guesses.E N) mix Tryz.func67 (by kernel_rfl) (by kernel_rfl) (by kernel_rfl) (lk_ok (all_cons (impl_Within.ok N) (all_cons (impl_Far.ok N) (all_cons (slices_SortFunc_impl_Guess.ok N) all_nil)))) (by kernel_rfl) (fun _ _ h => h)

/-! ### impl_BookGuesses: function 28, loop.example/medlar/impl.BookGuesses -/
noncomputable def impl_BookGuesses.E (N : Nat) : Env := ⟨lk [(44, impl_BookOk.S N), (48, impl_WordOk.S N), (66, impl_BookKnows.S N), (45, impl_Book_words.S N), (67, impl_guesses.S N)], nzk [(5, ⟨[0, 1, 2, 3, 4, 6, 7, 8, 9, 10, 11, 12, 13, 14, 15, 16, 17, 18, 19, 20, 21, 22, 23, 24, 25, 29, 30, 31, 32, 33, 34, 35, 36, 37, 38, 39, 40, 41, 42, 43, 44, 45, 46, 47, 48, 49], [(5, 30)], []⟩)], N, [], false⟩
noncomputable def impl_BookGuesses.f (N : Nat) (a : List PV) : Option Res := run Tryz.prog (impl_BookGuesses.E N) Tryz.f28 [(26, .ro), (9, .ro)] [(30, .own)] a
noncomputable def impl_BookGuesses.l0 (N : Nat) (n : Nat) (x27 : Int) (x28 : Int) (y0 : List PV) (y1 : PV) : Option Res := loopAt Tryz.prog (impl_BookGuesses.E N) Tryz.f28 [(30, .own)] [1, 1, 1, 0, 1, 0] [] n ⟨mkSlots 50 [(5, .ref 0 []), (26, .ref 1 []), (27, .sc (.int .i64 x27)), (28, .sc (.int .i64 x28))], ohOf [.row 30 (PV.list y0), .row 30 y1]⟩
theorem impl_BookGuesses.f_eq (N : Nat) (a0 : PV) (a1 : PV) : impl_BookGuesses.f N [a0, a1] = (impl_BookOk.f N [(PV.agg [a0.fld 0, a0.fld 1])]).bind fun t1 => if (!((t1.headD default).toBool)) = false then ((impl_WordOk.f N [(PV.sc (.string a1.toStr))]).bind fun t2 => if (!((t2.headD default).toBool)) = false then ((impl_BookKnows.f N [(PV.agg [a0.fld 0, a0.fld 1]), (PV.sc (.string a1.toStr))]).bind fun t3 => if (t3.headD default).toBool = true then (some [(PV.list [])]) else ((impl_Book_words.f N [(PV.agg [a0.fld 0, a0.fld 1])]).bind fun t4 => (impl_guesses.f N [(t4.headD default), (PV.sc (.string a1.toStr)), (PV.sc (.int .i64 2))]).bind fun t5 => impl_BookGuesses.l0 N N (((t5.headD default).items).length : Int) 0 [] (t5.headD default))) else (some [(PV.list [])])) else (some [(PV.list [])]) := by kernel_rfl
theorem impl_BookGuesses.l0_eq (N : Nat) (n : Nat) (x27 : Int) (x28 : Int) (y0 : List PV) (y1 : PV) : impl_BookGuesses.l0 N (n + 1) x27 x28 y0 y1 = if decide (x28 < x27) = true then (if 0 ≤ x28 then (if x28 < (y1.items.length : Int) then (if decide (0 < (y0.length : Int)) = true then (if 0 ≤ 0 then (if 0 < (y0.length : Int) then (if (!decide ((((y1.elem x28.toNat).fld 1).toInt) = ((((PV.list y0).elem 0).fld 1).toInt))) = true then (some [(PV.list y0)]) else (if y0.length + ([(PV.agg [(PV.sc (.string (((y1.elem x28.toNat).fld 0).toStr))), (PV.sc (.int .i64 (((y1.elem x28.toNat).fld 1).toInt)))])]).length ≤ 5864062014805 then (impl_BookGuesses.l0 N n x27 (IntKind.i64.wrap (x28 + 1)) (y0 ++ ([(PV.agg [(PV.sc (.string (((y1.elem x28.toNat).fld 0).toStr))), (PV.sc (.int .i64 (((y1.elem x28.toNat).fld 1).toInt)))])])) y1) else none)) else none) else none) else (if y0.length + ([(PV.agg [(PV.sc (.string (((y1.elem x28.toNat).fld 0).toStr))), (PV.sc (.int .i64 (((y1.elem x28.toNat).fld 1).toInt)))])]).length ≤ 5864062014805 then (impl_BookGuesses.l0 N n x27 (IntKind.i64.wrap (x28 + 1)) (y0 ++ ([(PV.agg [(PV.sc (.string (((y1.elem x28.toNat).fld 0).toStr))), (PV.sc (.int .i64 (((y1.elem x28.toNat).fld 1).toInt)))])])) y1) else none)) else none) else none) else (some [(PV.list y0)]) := by kernel_rfl
noncomputable def impl_BookGuesses.S (N : Nat) : ASpec := ⟨[(26, .ro), (9, .ro)], [(30, .own)], impl_BookGuesses.f N⟩
theorem impl_BookGuesses.ok (N : Nat) : FnOk Tryz.prog 28 (impl_BookGuesses.S N) := fnOk_of (E := impl_BookGuesses.E N) mix Tryz.func28 (by kernel_rfl) (by kernel_rfl) (by kernel_rfl) (lk_ok (all_cons (impl_BookOk.ok N) (all_cons (impl_WordOk.ok N) (all_cons (impl_BookKnows.ok N) (all_cons (impl_Book_words.ok N) (all_cons (impl_guesses.ok N) all_nil)))))) (by kernel_rfl) (fun _ _ h => h)

/-! ### impl_CaseOf: function 122, loop.example/medlar/impl.CaseOf -/
noncomputable def impl_CaseOf.E (N : Nat) : Env := ⟨lk [(46, impl_letter.S N), (93, impl_upper.S N)], nzk [(5, ⟨[1, 2, 4, 5, 6, 7, 10, 11, 12, 13, 14, 15, 16, 17, 18, 19, 20, 21, 22, 23, 24, 25, 26, 27, 28, 29, 30, 31, 32, 33, 34, 35, 36, 37, 38, 39], [], []⟩)], N, [], false⟩
noncomputable def impl_CaseOf.f (N : Nat) (a : List PV) : Option Res := run Tryz.prog (impl_CaseOf.E N) Tryz.f122 [(9, .ro)] [(3, .val)] a
noncomputable def impl_CaseOf.l0 (N : Nat) (n : Nat) (x0 : ByteArray) (x3 : Int) (x8 : Int) (x9 : Int) : Option Res := loopAt Tryz.prog (impl_CaseOf.E N) Tryz.f122 [(3, .val)] [1, 1, 1, 0, 1, 0] [] n ⟨mkSlots 40 [(0, .sc (.string x0)), (3, .sc (.int .i64 x3)), (8, .sc (.int .i64 x8)), (9, .sc (.int .i64 x9))], ohOf []⟩
theorem impl_CaseOf.f_eq (N : Nat) (a0 : PV) : impl_CaseOf.f N [a0] = if decide (a0.toStr.toList = (ByteArray.mk #[]).toList) = true then (some [(PV.sc (.int .i64 0))]) else (impl_CaseOf.l0 N N a0.toStr 0 (a0.toStr.size : Int) 0) := by kernel_rfl
theorem impl_CaseOf.l0_eq (N : Nat) (n : Nat) (x0 : ByteArray) (x3 : Int) (x8 : Int) (x9 : Int) : impl_CaseOf.l0 N (n + 1) x0 x3 x8 x9 = if decide (x9 < x8) = true then (if 0 ≤ x9 then (if x9 < (x0.size : Int) then ((impl_letter.f N [(PV.sc (.int .u8 ((x0.get! x9.toNat).toNat : Int)))]).bind fun t1 => if (!((t1.headD default).toBool)) = true then (some [(PV.sc (.int .i64 0))]) else (if 0 ≤ x9 then (if x9 < (x0.size : Int) then ((impl_upper.f N [(PV.sc (.int .u8 ((x0.get! x9.toNat).toNat : Int)))]).bind fun t2 => if (t2.headD default).toBool = true then (impl_CaseOf.l0 N n x0 (IntKind.i64.wrap (x3 + 1)) x8 (IntKind.i64.wrap (x9 + 1))) else (impl_CaseOf.l0 N n x0 x3 x8 (IntKind.i64.wrap (x9 + 1)))) else none) else none)) else none) else none) else (if decide (x3 = 0) = true then (some [(PV.sc (.int .i64 1))]) else (if decide (x3 = 1) = true then (if 0 ≤ 0 then (if 0 < (x0.size : Int) then ((impl_upper.f N [(PV.sc (.int .u8 ((x0.get! 0).toNat : Int)))]).bind fun t3 => if (t3.headD default).toBool = true then (some [(PV.sc (.int .i64 2))]) else (if decide (x3 = (x0.size : Int)) = true then (some [(PV.sc (.int .i64 3))]) else (some [(PV.sc (.int .i64 4))]))) else none) else none) else (if decide (x3 = (x0.size : Int)) = true then (some [(PV.sc (.int .i64 3))]) else (some [(PV.sc (.int .i64 4))])))) := by kernel_rfl
noncomputable def impl_CaseOf.S (N : Nat) : ASpec := ⟨[(9, .ro)], [(3, .val)], impl_CaseOf.f N⟩
theorem impl_CaseOf.ok (N : Nat) : FnOk Tryz.prog 122 (impl_CaseOf.S N) := fnOk_of (E := impl_CaseOf.E N) mix Tryz.func122 (by kernel_rfl) (by kernel_rfl) (by kernel_rfl) (lk_ok (all_cons (impl_letter.ok N) (all_cons (impl_upper.ok N) all_nil))) (by kernel_rfl) (fun _ _ h => h)

def lays158_ren : Go.Shelf.Ren := ⟨fun | 158 => 123 | 165 => 94 | 166 => 95 | 167 => 96 | 169 => 97 | 230 => 98 | 203 => 162 | 240 => 135 | 241 => 136 | 197 => 137 | 118 => 138 | 168 => 139 | 270 => 140 | 262 => 141 | 276 => 171 | 277 => 172 | 260 => 173 | 242 => 174 | 313 => 175 | 278 => 195 | 274 => 196 | 275 => 197 | n => n, fun | 9 => 9 | 4 => 4 | 3 => 3 | 5 => 5 | 72 => 105 | 0 => 0 | 76 => 109 | 75 => 108 | 107 => 114 | 70 => 103 | 20 => 20 | 37 => 22 | 127 => 147 | 21 => 21 | 105 => 148 | 164 => 173 | 162 => 179 | 203 => 177 | 119 => 191 | 46 => 128 | 139 => 194 | 138 => 193 | 51 => 163 | 160 => 195 | 208 => 206 | 206 => 204 | 80 => 112 | n => n, fun | 13 => 1 | 3 => 3 | 4 => 4 | n => n⟩
theorem lays158 : Go.Proofs.Lays.n158 Tryz.prog lays158_ren := {
  mixed := by kernel_rfl
  f118 := Tryz.func138.trans (congrArg some (by kernel_rfl))
  f158 := Tryz.func123.trans (congrArg some (by kernel_rfl))
  f165 := Tryz.func94.trans (congrArg some (by kernel_rfl))
  f166 := Tryz.func95.trans (congrArg some (by kernel_rfl))
  f167 := Tryz.func96.trans (congrArg some (by kernel_rfl))
  f168 := Tryz.func139.trans (congrArg some (by kernel_rfl))
  f169 := Tryz.func97.trans (congrArg some (by kernel_rfl))
  f197 := Tryz.func137.trans (congrArg some (by kernel_rfl))
  f203 := Tryz.func162.trans (congrArg some (by kernel_rfl))
  f230 := Tryz.func98.trans (congrArg some (by kernel_rfl))
  f240 := Tryz.func135.trans (congrArg some (by kernel_rfl))
  f241 := Tryz.func136.trans (congrArg some (by kernel_rfl))
  f242 := Tryz.func174.trans (congrArg some (by kernel_rfl))
  f260 := Tryz.func173.trans (congrArg some (by kernel_rfl))
  f262 := Tryz.func141.trans (congrArg some (by kernel_rfl))
  f270 := Tryz.func140.trans (congrArg some (by kernel_rfl))
  f274 := Tryz.func196.trans (congrArg some (by kernel_rfl))
  f275 := Tryz.func197.trans (congrArg some (by kernel_rfl))
  f276 := Tryz.func171.trans (congrArg some (by kernel_rfl))
  f277 := Tryz.func172.trans (congrArg some (by kernel_rfl))
  f278 := Tryz.func195.trans (congrArg some (by kernel_rfl))
  f313 := Tryz.func175.trans (congrArg some (by kernel_rfl))
  t0 := Tryz.underlying0
  a0 := Tryz.isAgg0
  z0 := Tryz.sizeOf0
  v0 := Tryz.zeroValue0
  t3 := Tryz.underlying3
  a3 := Tryz.isAgg3
  z3 := Tryz.sizeOf3
  v3 := Tryz.zeroValue3
  t4 := Tryz.underlying4
  a4 := Tryz.isAgg4
  z4 := Tryz.sizeOf4
  v4 := Tryz.zeroValue4
  t5 := Tryz.underlying5
  a5 := Tryz.isAgg5
  z5 := Tryz.sizeOf5
  v5 := Tryz.zeroValue5
  t9 := Tryz.underlying9
  a9 := Tryz.isAgg9
  z9 := Tryz.sizeOf9
  v9 := Tryz.zeroValue9
  t20 := Tryz.underlying20
  a20 := Tryz.isAgg20
  z20 := Tryz.sizeOf20
  v20 := Tryz.zeroValue20
  t21 := Tryz.underlying21
  a21 := Tryz.isAgg21
  z21 := Tryz.sizeOf21
  v21 := Tryz.zeroValue21
  t37 := Tryz.underlying22
  a37 := Tryz.isAgg22
  z37 := Tryz.sizeOf22
  v37 := Tryz.zeroValue22
  t46 := Tryz.underlying128
  a46 := Tryz.isAgg128
  z46 := Tryz.sizeOf128
  v46 := Tryz.zeroValue128
  t51 := Tryz.underlying163
  a51 := Tryz.isAgg163
  z51 := Tryz.sizeOf163
  v51 := Tryz.zeroValue163
  t70 := Tryz.underlying103
  a70 := Tryz.isAgg103
  z70 := Tryz.sizeOf103
  v70 := Tryz.zeroValue103
  t72 := Tryz.underlying105
  a72 := Tryz.isAgg105
  z72 := Tryz.sizeOf105
  v72 := Tryz.zeroValue105
  t75 := Tryz.underlying108
  a75 := Tryz.isAgg108
  z75 := Tryz.sizeOf108
  v75 := Tryz.zeroValue108
  t76 := Tryz.underlying109
  a76 := Tryz.isAgg109
  z76 := Tryz.sizeOf109
  v76 := Tryz.zeroValue109
  t105 := Tryz.underlying148
  a105 := Tryz.isAgg148
  z105 := Tryz.sizeOf148
  v105 := Tryz.zeroValue148
  t107 := Tryz.underlying114
  a107 := Tryz.isAgg114
  z107 := Tryz.sizeOf114
  v107 := Tryz.zeroValue114
  t119 := Tryz.underlying191
  a119 := Tryz.isAgg191
  z119 := Tryz.sizeOf191
  t127 := Tryz.underlying147
  a127 := Tryz.isAgg147
  z127 := Tryz.sizeOf147
  v127 := Tryz.zeroValue147
  t138 := Tryz.underlying193
  a138 := Tryz.isAgg193
  z138 := Tryz.sizeOf193
  v138 := Tryz.zeroValue193
  t139 := Tryz.underlying194
  a139 := Tryz.isAgg194
  z139 := Tryz.sizeOf194
  v139 := Tryz.zeroValue194
  t160 := Tryz.underlying195
  a160 := Tryz.isAgg195
  z160 := Tryz.sizeOf195
  v160 := Tryz.zeroValue195
  t162 := Tryz.underlying179
  a162 := Tryz.isAgg179
  z162 := Tryz.sizeOf179
  v162 := Tryz.zeroValue179
  t164 := Tryz.underlying173
  a164 := Tryz.isAgg173
  z164 := Tryz.sizeOf173
  v164 := Tryz.zeroValue173
  t203 := Tryz.underlying177
  a203 := Tryz.isAgg177
  z203 := Tryz.sizeOf177
  v203 := Tryz.zeroValue177
  t206 := Tryz.underlying204
  a206 := Tryz.isAgg204
  z206 := Tryz.sizeOf204
  v206 := Tryz.zeroValue204
  t208 := Tryz.underlying206
  a208 := Tryz.isAgg206
  z208 := Tryz.sizeOf206
  v208 := Tryz.zeroValue206
  g3 := by kernel_rfl
  g4 := by kernel_rfl
  g13 := by kernel_rfl }

theorem Builder_Extra_158 : Builder.Extra Tryz.prog lays158_ren := {
  sizeBuilder := by kernel_rfl
  liesBuilder := by kernel_rfl
  t5 := Tryz.underlying5
  a5 := Tryz.isAgg5
  z5 := Tryz.sizeOf5
  v5 := Tryz.zeroValue5
  infoByte := by kernel_rfl
  cellsByte := by kernel_rfl
  sizeByte := by kernel_rfl
  neB5 := by decide }

/-! ### strings_ToUpper: function 123, strings.ToUpper, by the kit's contract, Lib3 -/
noncomputable def strings_ToUpper.f (N : Nat) (a : List PV) : Option (List PV) := upperDen a
noncomputable def strings_ToUpper.S (N : Nat) : ASpec := ⟨[(9, .ro)], [(9, .val)], strings_ToUpper.f N⟩
theorem strings_ToUpper.ok (N : Nat) : FnOk Tryz.prog 123 (strings_ToUpper.S N) := fnOk_upper lays158 Builder_Extra_158 rfl ⟨_, Tryz.func123, by kernel_rfl, by kernel_rfl⟩ (by kernel_rfl) (by kernel_rfl)

/-! ### impl_CaseLike: function 76, loop.example/medlar/impl.CaseLike -/
noncomputable def impl_CaseLike.E (N : Nat) : Env := ⟨lk [(48, impl_WordOk.S N), (122, impl_CaseOf.S N), (123, strings_ToUpper.S N)], nzk [], N, [], false⟩
noncomputable def impl_CaseLike.f (N : Nat) (a : List PV) : Option Res := run Tryz.prog (impl_CaseLike.E N) Tryz.f76 [(9, .ro), (9, .ro)] [(9, .val)] a
theorem impl_CaseLike.f_eq (N : Nat) (a0 : PV) (a1 : PV) : impl_CaseLike.f N [a0, a1] = (impl_WordOk.f N [(PV.sc (.string a0.toStr))]).bind fun t1 => if (!((t1.headD default).toBool)) = true then (some [(PV.sc (.string (ByteArray.mk #[])))]) else ((impl_CaseOf.f N [(PV.sc (.string a1.toStr))]).bind fun t2 => if decide (((t2.headD default).toInt) = 2) = true then (if 0 ≤ 1 then (if 1 ≤ (a0.toStr.size : Int) then ((strings_ToUpper.f N [(PV.sc (.string (a0.toStr.extract 0 1)))]).bind fun t3 => if 0 ≤ 1 then (if 1 ≤ (a0.toStr.size : Int) then (if ((t3.headD default).toStr).size + (a0.toStr.extract 1 a0.toStr.size).size ≤ 9223372036854775807 then (some [(PV.sc (.string (((t3.headD default).toStr) ++ (a0.toStr.extract 1 a0.toStr.size))))]) else none) else none) else none) else none) else none) else (if decide (((t2.headD default).toInt) = 3) = true then ((strings_ToUpper.f N [(PV.sc (.string a0.toStr))]).bind fun t4 => some [(PV.sc (.string ((t4.headD default).toStr)))]) else (some [(PV.sc (.string a0.toStr))]))) := by kernel_rfl
noncomputable def impl_CaseLike.S (N : Nat) : ASpec := ⟨[(9, .ro), (9, .ro)], [(9, .val)], impl_CaseLike.f N⟩
theorem impl_CaseLike.ok (N : Nat) : FnOk Tryz.prog 76 (impl_CaseLike.S N) := fnOk_of (E := impl_CaseLike.E N) mix Tryz.func76 (by kernel_rfl) (by kernel_rfl) (by kernel_rfl) (lk_ok (all_cons (impl_WordOk.ok N) (all_cons (impl_CaseOf.ok N) (all_cons (strings_ToUpper.ok N) all_nil)))) (by kernel_rfl) (fun _ _ h => h)

/-! ### impl_FixText: function 31, loop.example/medlar/impl.FixText -/
noncomputable def impl_FixText.E (N : Nat) : Env := ⟨lk [(8, impl_UserCheck.S N), (28, impl_BookGuesses.S N), (76, impl_CaseLike.S N)], nzk [(3, ⟨[0, 1, 4, 5, 6, 9, 10, 11, 12, 13, 14, 15, 16, 17, 18, 19, 20, 21, 22, 23, 24, 25, 26, 27, 28, 29, 30, 31, 32, 33, 34, 35, 36, 37, 38, 39, 40, 41, 42, 43, 44, 45, 46, 47, 48, 49, 50, 51, 52, 53, 54, 55, 56, 57, 58, 59, 60, 61, 62, 63], [], []⟩)], N, [], false⟩
noncomputable def impl_FixText.f (N : Nat) (a : List PV) : Option Res := run Tryz.prog (impl_FixText.E N) Tryz.f31 [(26, .ro), (27, .ro), (9, .ro)] [(9, .val)] a
noncomputable def impl_FixText.l0 (N : Nat) (n : Nat) (x2 : ByteArray) (x8 : Int) (y0_0 : PV) (y0_1 : PV) (y1 : PV) : Option Res := loopAt Tryz.prog (impl_FixText.E N) Tryz.f31 [(9, .val)] [1, 1, 0, 1, 0] [] n ⟨mkSlots 64 [(2, .sc (.string x2)), (3, .ptr 0 []), (7, .ref 1 []), (8, .sc (.int .i64 x8))], ohOf [.box 26 (.agg 26 [.ro 23 y0_0, .ro 24 y0_1]), .row 30 y1]⟩
theorem impl_FixText.f_eq (N : Nat) (a0 : PV) (a1 : PV) (a2 : PV) : impl_FixText.f N [a0, a1, a2] = (impl_UserCheck.f N [(PV.agg [a0.fld 0, a0.fld 1]), a1, (PV.sc (.string a2.toStr))]).bind fun t1 => impl_FixText.l0 N N a2.toStr (IntKind.i64.wrap ((((t1.headD default).items).length : Int) - 1)) (a0.fld 0) (a0.fld 1) (t1.headD default) := by kernel_rfl
theorem impl_FixText.l0_eq (N : Nat) (n : Nat) (x2 : ByteArray) (x8 : Int) (y0_0 : PV) (y0_1 : PV) (y1 : PV) : impl_FixText.l0 N (n + 1) x2 x8 y0_0 y0_1 y1 = if decide (0 ≤ x8) = true then (if 0 ≤ x8 then (if x8 < (y1.items.length : Int) then (if 0 ≤ x8 then (if x8 < (y1.items.length : Int) then (if 0 ≤ x8 then (if x8 < (y1.items.length : Int) then ((impl_BookGuesses.f N [(PV.agg [y0_0, y0_1]), (PV.sc (.string (((y1.elem x8.toNat).fld 0).toStr)))]).bind fun t2 => if decide ((((t2.headD default).items).length : Int) = 1) = true then (if 0 ≤ (((y1.elem x8.toNat).fld 1).toInt) then (if (((y1.elem x8.toNat).fld 1).toInt) ≤ (x2.size : Int) then (if 0 ≤ 0 then (if 0 < (((t2.headD default).items).length : Int) then (if 0 ≤ (((y1.elem x8.toNat).fld 1).toInt) then (if (((y1.elem x8.toNat).fld 1).toInt) ≤ (IntKind.i64.wrap ((((y1.elem x8.toNat).fld 1).toInt) + ((((y1.elem x8.toNat).fld 0).toStr).size : Int))) then (if (IntKind.i64.wrap ((((y1.elem x8.toNat).fld 1).toInt) + ((((y1.elem x8.toNat).fld 0).toStr).size : Int))) ≤ (x2.size : Int) then ((impl_CaseLike.f N [(PV.sc (.string ((((t2.headD default).elem 0).fld 0).toStr))), (PV.sc (.string (x2.extract ((((y1.elem x8.toNat).fld 1).toInt).toNat) ((IntKind.i64.wrap ((((y1.elem x8.toNat).fld 1).toInt) + ((((y1.elem x8.toNat).fld 0).toStr).size : Int))).toNat))))]).bind fun t3 => if (x2.extract 0 ((((y1.elem x8.toNat).fld 1).toInt).toNat)).size + ((t3.headD default).toStr).size ≤ 9223372036854775807 then (if 0 ≤ (IntKind.i64.wrap ((((y1.elem x8.toNat).fld 1).toInt) + ((((y1.elem x8.toNat).fld 0).toStr).size : Int))) then (if (IntKind.i64.wrap ((((y1.elem x8.toNat).fld 1).toInt) + ((((y1.elem x8.toNat).fld 0).toStr).size : Int))) ≤ (x2.size : Int) then (if ((x2.extract 0 ((((y1.elem x8.toNat).fld 1).toInt).toNat)) ++ ((t3.headD default).toStr)).size + (x2.extract ((IntKind.i64.wrap ((((y1.elem x8.toNat).fld 1).toInt) + ((((y1.elem x8.toNat).fld 0).toStr).size : Int))).toNat) x2.size).size ≤ 9223372036854775807 then (impl_FixText.l0 N n (((x2.extract 0 ((((y1.elem x8.toNat).fld 1).toInt).toNat)) ++ ((t3.headD default).toStr)) ++ (x2.extract ((IntKind.i64.wrap ((((y1.elem x8.toNat).fld 1).toInt) + ((((y1.elem x8.toNat).fld 0).toStr).size : Int))).toNat) x2.size)) (IntKind.i64.wrap (x8 - 1)) y0_0 y0_1 y1) else none) else none) else none) else none) else none) else none) else none) else none) else none) else none) else none) else (impl_FixText.l0 N n x2 (IntKind.i64.wrap (x8 - 1)) y0_0 y0_1 y1)) else none) else none) else none) else none) else none) else none) else (some [(PV.sc (.string x2))]) := by kernel_rfl
noncomputable def impl_FixText.S (N : Nat) : ASpec := ⟨[(26, .ro), (27, .ro), (9, .ro)], [(9, .val)], impl_FixText.f N⟩
theorem impl_FixText.ok (N : Nat) : FnOk Tryz.prog 31 (impl_FixText.S N) := fnOk_of (E := impl_FixText.E N) mix Tryz.func31 (by kernel_rfl) (by kernel_rfl) (by kernel_rfl) (lk_ok (all_cons (impl_UserCheck.ok N) (all_cons (impl_BookGuesses.ok N) (all_cons (impl_CaseLike.ok N) all_nil)))) (by kernel_rfl) (fun _ _ h => h)

/-! ### spec_l4Letter: function 83, loop.example/medlar/spec.l4Letter -/
noncomputable def spec_l4Letter.E (N : Nat) : Env := ⟨lk [], nzk [], N, [], false⟩
noncomputable def spec_l4Letter.f (N : Nat) (a : List PV) : Option Res := run Tryz.prog (spec_l4Letter.E N) Tryz.f83 [(5, .ro)] [(4, .val)] a
theorem spec_l4Letter.f_eq (N : Nat) (a0 : PV) : spec_l4Letter.f N [a0] = if decide (97 ≤ a0.toInt) = true then (if decide (a0.toInt ≤ 122) = false then (if decide (65 ≤ a0.toInt) = true then (some [(PV.sc (.bool (decide (a0.toInt ≤ 90))))]) else (some [(PV.sc (.bool false))])) else (some [(PV.sc (.bool true))])) else (if decide (65 ≤ a0.toInt) = true then (some [(PV.sc (.bool (decide (a0.toInt ≤ 90))))]) else (some [(PV.sc (.bool false))])) := by kernel_rfl
noncomputable def spec_l4Letter.S (N : Nat) : ASpec := ⟨[(5, .ro)], [(4, .val)], spec_l4Letter.f N⟩
theorem spec_l4Letter.ok (N : Nat) : FnOk Tryz.prog 83 (spec_l4Letter.S N) := fnOk_of (E := spec_l4Letter.E N) mix Tryz.func83 (by kernel_rfl) (by kernel_rfl) (by kernel_rfl) (lk_ok all_nil) (by kernel_rfl) (fun _ _ h => h)

/-! ### spec_l4Small: function 84, loop.example/medlar/spec.l4Small -/
noncomputable def spec_l4Small.E (N : Nat) : Env := ⟨lk [], nzk [(3, ⟨[0, 1, 2, 5, 6, 7, 8, 9, 10, 11, 12, 13, 14, 15, 16, 17, 18, 19, 20, 21, 22, 23, 24, 25, 26, 27, 28, 29, 30, 31, 32, 33, 34], [], []⟩)], N, [], false⟩
noncomputable def spec_l4Small.f (N : Nat) (a : List PV) : Option Res := run Tryz.prog (spec_l4Small.E N) Tryz.f84 [(9, .ro)] [(9, .val)] a
noncomputable def spec_l4Small.l0 (N : Nat) (n : Nat) (x4 : Int) (y0 : List PV) : Option Res := loopAt Tryz.prog (spec_l4Small.E N) Tryz.f84 [(9, .val)] [1, 1, 0, 1, 0] [] n ⟨mkSlots 35 [(3, .ref 0 []), (4, .sc (.int .i64 x4))], ohOf [.row 22 (PV.list y0)]⟩
theorem spec_l4Small.f_eq (N : Nat) (a0 : PV) : spec_l4Small.f N [a0] = if a0.toStr.size ≤ 9223372036854775807 then (spec_l4Small.l0 N N 0 (bytesL a0.toStr)) else none := by kernel_rfl
theorem spec_l4Small.l0_eq (N : Nat) (n : Nat) (x4 : Int) (y0 : List PV) : spec_l4Small.l0 N (n + 1) x4 y0 = if decide (x4 < (y0.length : Int)) = true then (if 0 ≤ x4 then (if x4 < (y0.length : Int) then (if decide (65 ≤ (((PV.list y0).elem x4.toNat).toInt)) = true then (if 0 ≤ x4 then (if x4 < (y0.length : Int) then (if decide ((((PV.list y0).elem x4.toNat).toInt) ≤ 90) = true then (if 0 ≤ x4 then (if x4 < (y0.length : Int) then (if 0 ≤ x4 then (if x4 < (y0.length : Int) then (spec_l4Small.l0 N n (IntKind.i64.wrap (x4 + 1)) (y0.set x4.toNat (PV.sc (.int .u8 (IntKind.u8.wrap ((((PV.list y0).elem x4.toNat).toInt) + 32)))))) else none) else none) else none) else none) else (spec_l4Small.l0 N n (IntKind.i64.wrap (x4 + 1)) y0)) else none) else none) else (spec_l4Small.l0 N n (IntKind.i64.wrap (x4 + 1)) y0)) else none) else none) else (some [(PV.sc (.string (bytesOfL y0)))]) := by kernel_rfl
noncomputable def spec_l4Small.S (N : Nat) : ASpec := ⟨[(9, .ro)], [(9, .val)], spec_l4Small.f N⟩
theorem spec_l4Small.ok (N : Nat) : FnOk Tryz.prog 84 (spec_l4Small.S N) := fnOk_of (E := spec_l4Small.E N) mix Tryz.func84 (by kernel_rfl) (by kernel_rfl) (by kernel_rfl) (lk_ok all_nil) (by kernel_rfl) (fun _ _ h => h)

/-! ### spec_l2In: function 41, loop.example/medlar/spec.l2In -/
noncomputable def spec_l2In.E (N : Nat) : Env := ⟨lk [], nzk [(2, ⟨[2, 3, 4, 6, 7, 8, 9, 10, 11, 12, 13, 14, 15, 16, 17], [], []⟩)], N, [], false⟩
noncomputable def spec_l2In.f (N : Nat) (a : List PV) : Option Res := run Tryz.prog (spec_l2In.E N) Tryz.f41 [(27, .ro), (9, .ro)] [(4, .val)] a
noncomputable def spec_l2In.l0 (N : Nat) (n : Nat) (x0 : PV) (x1 : ByteArray) (x5 : Int) : Option Res := loopAt Tryz.prog (spec_l2In.E N) Tryz.f41 [(4, .val)] [1, 0, 1, 0] [] n ⟨mkSlots 18 [(0, .ro 27 x0), (1, .sc (.string x1)), (5, .sc (.int .i64 x5))], ohOf []⟩
theorem spec_l2In.f_eq (N : Nat) (a0 : PV) (a1 : PV) : spec_l2In.f N [a0, a1] = spec_l2In.l0 N N a0 a1.toStr 0 := by kernel_rfl
theorem spec_l2In.l0_eq (N : Nat) (n : Nat) (x0 : PV) (x1 : ByteArray) (x5 : Int) : spec_l2In.l0 N (n + 1) x0 x1 x5 = if decide (x5 < (x0.items.length : Int)) = true then (if 0 ≤ x5 then (if x5 < (x0.items.length : Int) then (if decide (((x0.elem x5.toNat).toStr).toList = x1.toList) = true then (some [(PV.sc (.bool true))]) else (spec_l2In.l0 N n x0 x1 (IntKind.i64.wrap (x5 + 1)))) else none) else none) else (some [(PV.sc (.bool false))]) := by kernel_rfl
noncomputable def spec_l2In.S (N : Nat) : ASpec := ⟨[(27, .ro), (9, .ro)], [(4, .val)], spec_l2In.f N⟩
theorem spec_l2In.ok (N : Nat) : FnOk Tryz.prog 41 (spec_l2In.S N) := fnOk_of (E := spec_l2In.E N) mix Tryz.func41 (by kernel_rfl) (by kernel_rfl) (by kernel_rfl) (lk_ok all_nil) (by kernel_rfl) (fun _ _ h => h)

/-! ### spec_Check: function 38, loop.example/medlar/spec.Check -/
noncomputable def spec_Check.E (N : Nat) : Env := ⟨lk [(82, spec_BookOk.S N), (40, spec_l2Words.S N), (83, spec_l4Letter.S N), (84, spec_l4Small.S N), (41, spec_l2In.S N)], nzk [(6, ⟨[0, 2, 3, 4, 8, 9, 10, 11, 12, 13, 14, 15, 16, 17, 18, 19, 20, 21, 22, 23, 24, 25, 26, 27, 28, 29, 30, 31, 32, 33, 34, 35, 36, 37, 38, 39, 40, 41, 42, 43, 44, 45, 46, 47, 48, 49, 50, 51, 52, 53, 54, 55, 56, 57, 58, 59, 60, 61, 62, 63, 64, 65, 66, 67, 68, 69, 70, 71, 72], [(5, 30)], []⟩), (10, ⟨[0, 2, 3, 4, 9, 10, 11, 12, 13, 14, 15, 16, 17, 18, 19, 20, 21, 22, 23, 24, 25, 26, 27, 28, 29, 30, 31, 32, 33, 34, 35, 36, 37, 38, 39, 40, 41, 42, 43, 44, 45, 46, 47, 48, 49, 50, 51, 52, 53, 54, 55, 56, 57, 58, 59, 60, 61, 62, 63, 64, 65, 66, 67, 68, 69, 70, 71, 72], [(5, 30)], []⟩)], N, [], false⟩
noncomputable def spec_Check.f (N : Nat) (a : List PV) : Option Res := run Tryz.prog (spec_Check.E N) Tryz.f38 [(26, .ro), (9, .ro)] [(30, .own)] a
noncomputable def spec_Check.l0 (N : Nat) (n : Nat) (x1 : ByteArray) (x7 : Int) (y0 : List PV) (y1 : PV) : Option Res := loopAt Tryz.prog (spec_Check.E N) Tryz.f38 [(30, .own)] [1, 1, 1, 1, 0, 1, 0] [] n ⟨mkSlots 73 [(1, .sc (.string x1)), (5, .ref 0 []), (6, .ref 1 []), (7, .sc (.int .i64 x7))], ohOf [.row 30 (PV.list y0), .row 27 y1]⟩
noncomputable def spec_Check.l1 (N : Nat) (m0 : Nat) (n : Nat) (x1 : ByteArray) (x7 : Int) (x8 : Int) (y0 : List PV) (y1 : PV) : Option Res := loopAt Tryz.prog (spec_Check.E N) Tryz.f38 [(30, .own)] [1, 1, 1, 1, 0, 1, 0, 0, 1, 0, 0, 1, 1, 0, 0] [m0] n ⟨mkSlots 73 [(1, .sc (.string x1)), (5, .ref 0 []), (6, .ref 1 []), (7, .sc (.int .i64 x7)), (8, .sc (.int .i64 x8))], ohOf [.row 30 (PV.list y0), .row 27 y1]⟩
theorem spec_Check.f_eq (N : Nat) (a0 : PV) (a1 : PV) : spec_Check.f N [a0, a1] = (spec_BookOk.f N [(PV.agg [a0.fld 0, a0.fld 1])]).bind fun t1 => if (!((t1.headD default).toBool)) = false then (if decide (300 < (a1.toStr.size : Int)) = true then (some [(PV.list [])]) else ((spec_l2Words.f N [(PV.agg [a0.fld 0, a0.fld 1])]).bind fun t2 => spec_Check.l0 N N a1.toStr 0 [] (t2.headD default))) else (some [(PV.list [])]) := by kernel_rfl
theorem spec_Check.l0_eq (N : Nat) (n : Nat) (x1 : ByteArray) (x7 : Int) (y0 : List PV) (y1 : PV) : spec_Check.l0 N (n + 1) x1 x7 y0 y1 = if decide (x7 < (x1.size : Int)) = true then (if 0 ≤ x7 then (if x7 < (x1.size : Int) then ((spec_l4Letter.f N [(PV.sc (.int .u8 ((x1.get! x7.toNat).toNat : Int)))]).bind fun t3 => if (!((t3.headD default).toBool)) = false then (if decide (0 < x7) = true then (if 0 ≤ (IntKind.i64.wrap (x7 - 1)) then (if (IntKind.i64.wrap (x7 - 1)) < (x1.size : Int) then ((spec_l4Letter.f N [(PV.sc (.int .u8 ((x1.get! (IntKind.i64.wrap (x7 - 1)).toNat).toNat : Int)))]).bind fun t4 => if (t4.headD default).toBool = true then (spec_Check.l0 N n x1 (IntKind.i64.wrap (x7 + 1)) y0 y1) else (spec_Check.l1 N n N x1 x7 x7 y0 y1)) else none) else none) else (spec_Check.l1 N n N x1 x7 x7 y0 y1)) else (spec_Check.l0 N n x1 (IntKind.i64.wrap (x7 + 1)) y0 y1)) else none) else none) else (some [(PV.list y0)]) := by kernel_rfl
theorem spec_Check.l1_eq (N : Nat) (m0 : Nat) (n : Nat) (x1 : ByteArray) (x7 : Int) (x8 : Int) (y0 : List PV) (y1 : PV) : spec_Check.l1 N m0 (n + 1) x1 x7 x8 y0 y1 = if decide (x8 < (x1.size : Int)) = true then (if 0 ≤ x8 then (if x8 < (x1.size : Int) then ((spec_l4Letter.f N [(PV.sc (.int .u8 ((x1.get! x8.toNat).toNat : Int)))]).bind fun t5 => if (t5.headD default).toBool = true then (spec_Check.l1 N m0 n x1 x7 (IntKind.i64.wrap (x8 + 1)) y0 y1) else (if 0 ≤ x7 then (if x7 ≤ x8 then (if x8 ≤ (x1.size : Int) then ((spec_l4Small.f N [(PV.sc (.string (x1.extract x7.toNat x8.toNat)))]).bind fun t6 => (spec_l2In.f N [y1, (PV.sc (.string ((t6.headD default).toStr)))]).bind fun t7 => if (!((t7.headD default).toBool)) = true then (if y0.length + ([(PV.agg [(PV.sc (.string ((t6.headD default).toStr))), (PV.sc (.int .i64 x7))])]).length ≤ 5864062014805 then (spec_Check.l0 N m0 x1 (IntKind.i64.wrap (x7 + 1)) (y0 ++ ([(PV.agg [(PV.sc (.string ((t6.headD default).toStr))), (PV.sc (.int .i64 x7))])])) y1) else none) else (spec_Check.l0 N m0 x1 (IntKind.i64.wrap (x7 + 1)) y0 y1)) else none) else none) else none)) else none) else none) else (if 0 ≤ x7 then (if x7 ≤ x8 then (if x8 ≤ (x1.size : Int) then ((spec_l4Small.f N [(PV.sc (.string (x1.extract x7.toNat x8.toNat)))]).bind fun t8 => (spec_l2In.f N [y1, (PV.sc (.string ((t8.headD default).toStr)))]).bind fun t9 => if (!((t9.headD default).toBool)) = true then (if y0.length + ([(PV.agg [(PV.sc (.string ((t8.headD default).toStr))), (PV.sc (.int .i64 x7))])]).length ≤ 5864062014805 then (spec_Check.l0 N m0 x1 (IntKind.i64.wrap (x7 + 1)) (y0 ++ ([(PV.agg [(PV.sc (.string ((t8.headD default).toStr))), (PV.sc (.int .i64 x7))])])) y1) else none) else (spec_Check.l0 N m0 x1 (IntKind.i64.wrap (x7 + 1)) y0 y1)) else none) else none) else none) := by kernel_rfl
noncomputable def spec_Check.S (N : Nat) : ASpec := ⟨[(26, .ro), (9, .ro)], [(30, .own)], spec_Check.f N⟩
theorem spec_Check.ok (N : Nat) : FnOk Tryz.prog 38 (spec_Check.S N) := fnOk_of (E := spec_Check.E N) mix Tryz.func38 (by kernel_rfl) (by kernel_rfl) (by kernel_rfl) (lk_ok (all_cons (spec_BookOk.ok N) (all_cons (spec_l2Words.ok N) (all_cons (spec_l4Letter.ok N) (all_cons (spec_l4Small.ok N) (all_cons (spec_l2In.ok N) all_nil)))))) (by kernel_rfl) (fun _ _ h => h)

/-! ### spec_l3Words: function 85, loop.example/medlar/spec.l3Words -/
noncomputable def spec_l3Words.E (N : Nat) : Env := ⟨lk [(42, spec_l1Word.S N)], nzk [(2, ⟨[1, 2, 4, 5, 6, 7, 8, 9, 10, 11, 12, 13, 14, 15, 16, 17, 18, 19, 20, 21, 22, 23, 24, 25, 26, 27, 28, 29, 30, 31, 32, 33, 34], [], []⟩)], N, [], false⟩
noncomputable def spec_l3Words.f (N : Nat) (a : List PV) : Option Res := run Tryz.prog (spec_l3Words.E N) Tryz.f85 [(27, .ro)] [(4, .val)] a
noncomputable def spec_l3Words.l0 (N : Nat) (n : Nat) (x0 : PV) (x3 : Int) : Option Res := loopAt Tryz.prog (spec_l3Words.E N) Tryz.f85 [(4, .val)] [1, 0, 1, 0] [] n ⟨mkSlots 35 [(0, .ro 27 x0), (3, .sc (.int .i64 x3))], ohOf []⟩
theorem spec_l3Words.f_eq (N : Nat) (a0 : PV) : spec_l3Words.f N [a0] = spec_l3Words.l0 N N a0 0 := by kernel_rfl
theorem spec_l3Words.l0_eq (N : Nat) (n : Nat) (x0 : PV) (x3 : Int) : spec_l3Words.l0 N (n + 1) x0 x3 = if decide (x3 < (x0.items.length : Int)) = true then (if 0 ≤ x3 then (if x3 < (x0.items.length : Int) then ((spec_l1Word.f N [(PV.sc (.string ((x0.elem x3.toNat).toStr)))]).bind fun t1 => if (!((t1.headD default).toBool)) = false then (if decide (0 < x3) = true then (if 0 ≤ (IntKind.i64.wrap (x3 - 1)) then (if (IntKind.i64.wrap (x3 - 1)) < (x0.items.length : Int) then (if 0 ≤ x3 then (if x3 < (x0.items.length : Int) then (if (!Op.bytesLess ((x0.elem ((IntKind.i64.wrap (x3 - 1)).toNat)).toStr).toList ((x0.elem x3.toNat).toStr).toList) = true then (some [(PV.sc (.bool false))]) else (spec_l3Words.l0 N n x0 (IntKind.i64.wrap (x3 + 1)))) else none) else none) else none) else none) else (spec_l3Words.l0 N n x0 (IntKind.i64.wrap (x3 + 1)))) else (some [(PV.sc (.bool false))])) else none) else none) else (some [(PV.sc (.bool (decide ((x0.items.length : Int) ≤ 300))))]) := by kernel_rfl
noncomputable def spec_l3Words.S (N : Nat) : ASpec := ⟨[(27, .ro)], [(4, .val)], spec_l3Words.f N⟩
theorem spec_l3Words.ok (N : Nat) : FnOk Tryz.prog 85 (spec_l3Words.S N) := fnOk_of (E := spec_l3Words.E N) mix Tryz.func85 (by kernel_rfl) (by kernel_rfl) (by kernel_rfl) (lk_ok (all_cons (spec_l1Word.ok N) all_nil)) (by kernel_rfl) (fun _ _ h => h)

/-! ### spec_l10Own: function 39, loop.example/medlar/spec.l10Own -/
noncomputable def spec_l10Own.E (N : Nat) : Env := ⟨lk [(85, spec_l3Words.S N)], nzk [], N, [], false⟩
noncomputable def spec_l10Own.f (N : Nat) (a : List PV) : Option Res := run Tryz.prog (spec_l10Own.E N) Tryz.f39 [(27, .ro)] [(4, .val)] a
theorem spec_l10Own.f_eq (N : Nat) (a0 : PV) : spec_l10Own.f N [a0] = (spec_l3Words.f N [a0]).bind fun t1 => if (t1.headD default).toBool = true then (some [(PV.sc (.bool (decide ((a0.items.length : Int) ≤ 10))))]) else (some [(PV.sc (.bool false))]) := by kernel_rfl
noncomputable def spec_l10Own.S (N : Nat) : ASpec := ⟨[(27, .ro)], [(4, .val)], spec_l10Own.f N⟩
theorem spec_l10Own.ok (N : Nat) : FnOk Tryz.prog 39 (spec_l10Own.S N) := fnOk_of (E := spec_l10Own.E N) mix Tryz.func39 (by kernel_rfl) (by kernel_rfl) (by kernel_rfl) (lk_ok (all_cons (spec_l3Words.ok N) all_nil)) (by kernel_rfl) (fun _ _ h => h)

/-! ### spec_l10Parts: function 88, loop.example/medlar/spec.l10Parts -/
noncomputable def spec_l10Parts.E (N : Nat) (self : List PV → Option Res) : Env := ⟨lk [(41, spec_l2In.S N), (88, ⟨[(27, .ro), (9, .ro), (3, .ro)], [(27, .own)], self⟩)], nzk [(6, ⟨[3, 4, 5, 6, 8, 9, 10, 11, 12, 13, 14, 15, 16, 17, 18, 19, 20, 21, 22, 23, 24, 25, 26, 27, 28, 29, 30, 31, 32, 33, 34, 35, 36, 37, 38, 39, 40, 41, 42, 43, 44, 45, 46], [], []⟩)], N, [], false⟩
noncomputable def spec_l10Parts.g (N : Nat) (d : Nat) : List PV → Option Res := Nat.rec (fun _ => none) (fun _ ih a => run Tryz.prog (spec_l10Parts.E N ih) Tryz.f88 [(27, .ro), (9, .ro), (3, .ro)] [(27, .own)] a) d
noncomputable def spec_l10Parts.f (N : Nat) (a : List PV) : Option Res := spec_l10Parts.g N N a
noncomputable def spec_l10Parts.l0 (N : Nat) (d : Nat) (n : Nat) (x0 : PV) (x1 : ByteArray) (x2 : Int) (x7 : Int) : Option Res := loopAt Tryz.prog (spec_l10Parts.E N (spec_l10Parts.g N d)) Tryz.f88 [(27, .own)] [1, 1, 0, 1, 0] [] n ⟨mkSlots 47 [(0, .ro 27 x0), (1, .sc (.string x1)), (2, .sc (.int .i64 x2)), (7, .sc (.int .i64 x7))], ohOf []⟩
theorem spec_l10Parts.f_eq (N : Nat) (a : List PV) : spec_l10Parts.f N a = spec_l10Parts.g N N a := rfl
theorem spec_l10Parts.g_eq (N : Nat) (d : Nat) (a0 : PV) (a1 : PV) (a2 : PV) : spec_l10Parts.g N (d + 1) [a0, a1, a2] = if decide (a2.toInt = 1) = true then ((spec_l2In.f N [a0, (PV.sc (.string a1.toStr))]).bind fun t1 => if (t1.headD default).toBool = true then (some [(PV.list [(PV.sc (.string a1.toStr))])]) else (some [(PV.list [])])) else (spec_l10Parts.l0 N d N a0 a1.toStr a2.toInt 3) := by kernel_rfl
theorem spec_l10Parts.l0_eq (N : Nat) (d : Nat) (n : Nat) (x0 : PV) (x1 : ByteArray) (x2 : Int) (x7 : Int) : spec_l10Parts.l0 N d (n + 1) x0 x1 x2 x7 = if decide ((IntKind.i64.wrap (x7 + 3)) ≤ (x1.size : Int)) = true then (if 0 ≤ x7 then (if x7 ≤ (x1.size : Int) then ((spec_l2In.f N [x0, (PV.sc (.string (x1.extract 0 x7.toNat)))]).bind fun t2 => if (!((t2.headD default).toBool)) = true then (spec_l10Parts.l0 N d n x0 x1 x2 (IntKind.i64.wrap (x7 + 1))) else (if 0 ≤ x7 then (if x7 ≤ (x1.size : Int) then ((spec_l10Parts.g N d [x0, (PV.sc (.string (x1.extract x7.toNat x1.size))), (PV.sc (.int .i64 (IntKind.i64.wrap (x2 - 1))))]).bind fun t3 => if decide (0 < (((t3.headD default).items).length : Int)) = true then (if 0 ≤ x7 then (if x7 ≤ (x1.size : Int) then (if [(PV.sc (.string (x1.extract 0 x7.toNat)))].length + ((t3.headD default).items).length ≤ 8796093022208 then (some [(PV.list ([(PV.sc (.string (x1.extract 0 x7.toNat)))] ++ ((t3.headD default).items)))]) else none) else none) else none) else (spec_l10Parts.l0 N d n x0 x1 x2 (IntKind.i64.wrap (x7 + 1)))) else none) else none)) else none) else none) else (some [(PV.list [])]) := by kernel_rfl
noncomputable def spec_l10Parts.S (N : Nat) : ASpec := ⟨[(27, .ro), (9, .ro), (3, .ro)], [(27, .own)], spec_l10Parts.f N⟩
theorem spec_l10Parts.g_ok (N : Nat) : ∀ d, FnOk Tryz.prog 88 ⟨[(27, .ro), (9, .ro), (3, .ro)], [(27, .own)], spec_l10Parts.g N d⟩ := fnOk_rec mix Tryz.func88 (by kernel_rfl) (by kernel_rfl) (by kernel_rfl) (spec_l10Parts.g N) (fun d => spec_l10Parts.E N (spec_l10Parts.g N d)) (fun _ => rfl) (fun d ih => lk_ok (all_cons (spec_l2In.ok N) (all_cons ih all_nil))) (fun _ => rfl) (fun _ _ _ h => h)
theorem spec_l10Parts.ok (N : Nat) : FnOk Tryz.prog 88 (spec_l10Parts.S N) := spec_l10Parts.g_ok N N

/-! ### spec_l10Of: function 43, loop.example/medlar/spec.l10Of -/
noncomputable def spec_l10Of.E (N : Nat) : Env := ⟨lk [(88, spec_l10Parts.S N)], nzk [], N, [], false⟩
noncomputable def spec_l10Of.f (N : Nat) (a : List PV) : Option Res := run Tryz.prog (spec_l10Of.E N) Tryz.f43 [(27, .ro), (9, .ro)] [(27, .own)] a
theorem spec_l10Of.f_eq (N : Nat) (a0 : PV) (a1 : PV) : spec_l10Of.f N [a0, a1] = (spec_l10Parts.f N [a0, (PV.sc (.string a1.toStr)), (PV.sc (.int .i64 2))]).bind fun t1 => if decide (0 < (((t1.headD default).items).length : Int)) = true then (some [(t1.headD default)]) else ((spec_l10Parts.f N [a0, (PV.sc (.string a1.toStr)), (PV.sc (.int .i64 3))]).bind fun t2 => some [(t2.headD default)]) := by kernel_rfl
noncomputable def spec_l10Of.S (N : Nat) : ASpec := ⟨[(27, .ro), (9, .ro)], [(27, .own)], spec_l10Of.f N⟩
theorem spec_l10Of.ok (N : Nat) : FnOk Tryz.prog 43 (spec_l10Of.S N) := fnOk_of (E := spec_l10Of.E N) mix Tryz.func43 (by kernel_rfl) (by kernel_rfl) (by kernel_rfl) (lk_ok (all_cons (spec_l10Parts.ok N) all_nil)) (by kernel_rfl) (fun _ _ h => h)

/-! ### spec_UserCheck: function 10, loop.example/medlar/spec.UserCheck -/
noncomputable def spec_UserCheck.E (N : Nat) : Env := ⟨lk [(38, spec_Check.S N), (39, spec_l10Own.S N), (40, spec_l2Words.S N), (41, spec_l2In.S N), (42, spec_l1Word.S N), (43, spec_l10Of.S N)], nzk [(7, ⟨[0, 2, 3, 4, 5, 6, 11, 12, 13, 14, 15, 16, 17, 18, 19, 20, 21, 22, 23, 24, 25, 26, 27, 28, 29, 30, 31, 32, 33, 34, 35, 36, 37, 38, 39, 40, 41, 42, 43, 44, 45, 46, 47, 48, 49, 50, 51, 52, 53, 54, 55, 56, 57, 58, 59, 60, 61, 62, 63, 64, 65, 66, 67], [(7, 30)], []⟩)], N, [], false⟩
noncomputable def spec_UserCheck.f (N : Nat) (a : List PV) : Option Res := run Tryz.prog (spec_UserCheck.E N) Tryz.f10 [(26, .ro), (27, .ro), (9, .ro)] [(30, .own)] a
noncomputable def spec_UserCheck.l0 (N : Nat) (n : Nat) (x1 : PV) (x10 : Int) (y0 : List PV) (y1 : PV) (y2 : PV) : Option Res := loopAt Tryz.prog (spec_UserCheck.E N) Tryz.f10 [(30, .own)] [1, 1, 1, 1, 1, 0, 1, 0] [] n ⟨mkSlots 68 [(1, .ro 27 x1), (7, .ref 0 []), (8, .ref 1 []), (9, .ref 2 []), (10, .sc (.int .i64 x10))], ohOf [.row 30 (PV.list y0), .row 30 y1, .row 27 y2]⟩
theorem spec_UserCheck.f_eq (N : Nat) (a0 : PV) (a1 : PV) (a2 : PV) : spec_UserCheck.f N [a0, a1, a2] = (spec_Check.f N [(PV.agg [a0.fld 0, a0.fld 1]), (PV.sc (.string a2.toStr))]).bind fun t1 => if decide ((((t1.headD default).items).length : Int) = 0) = false then ((spec_l10Own.f N [a1]).bind fun t2 => if (!((t2.headD default).toBool)) = true then (some [(PV.list [])]) else ((spec_l2Words.f N [(PV.agg [a0.fld 0, a0.fld 1])]).bind fun t3 => spec_UserCheck.l0 N N a1 0 [] (t1.headD default) (t3.headD default))) else (some [(PV.list [])]) := by kernel_rfl
theorem spec_UserCheck.l0_eq (N : Nat) (n : Nat) (x1 : PV) (x10 : Int) (y0 : List PV) (y1 : PV) (y2 : PV) : spec_UserCheck.l0 N (n + 1) x1 x10 y0 y1 y2 = if decide (x10 < (y1.items.length : Int)) = true then (if 0 ≤ x10 then (if x10 < (y1.items.length : Int) then ((spec_l2In.f N [x1, (PV.sc (.string (((y1.elem x10.toNat).fld 0).toStr)))]).bind fun t4 => if (!((t4.headD default).toBool)) = true then (if 0 ≤ x10 then (if x10 < (y1.items.length : Int) then ((spec_l1Word.f N [(PV.sc (.string (((y1.elem x10.toNat).fld 0).toStr)))]).bind fun t5 => if (t5.headD default).toBool = true then (if 0 ≤ x10 then (if x10 < (y1.items.length : Int) then ((spec_l10Of.f N [y2, (PV.sc (.string (((y1.elem x10.toNat).fld 0).toStr)))]).bind fun t6 => if (!(decide (0 < (((t6.headD default).items).length : Int)))) = true then (if 0 ≤ x10 then (if x10 < (y1.items.length : Int) then (if y0.length + ([(PV.agg [(PV.sc (.string (((y1.elem x10.toNat).fld 0).toStr))), (PV.sc (.int .i64 (((y1.elem x10.toNat).fld 1).toInt)))])]).length ≤ 5864062014805 then (spec_UserCheck.l0 N n x1 (IntKind.i64.wrap (x10 + 1)) (y0 ++ ([(PV.agg [(PV.sc (.string (((y1.elem x10.toNat).fld 0).toStr))), (PV.sc (.int .i64 (((y1.elem x10.toNat).fld 1).toInt)))])])) y1 y2) else none) else none) else none) else (spec_UserCheck.l0 N n x1 (IntKind.i64.wrap (x10 + 1)) y0 y1 y2)) else none) else none) else (if 0 ≤ x10 then (if x10 < (y1.items.length : Int) then (if y0.length + ([(PV.agg [(PV.sc (.string (((y1.elem x10.toNat).fld 0).toStr))), (PV.sc (.int .i64 (((y1.elem x10.toNat).fld 1).toInt)))])]).length ≤ 5864062014805 then (spec_UserCheck.l0 N n x1 (IntKind.i64.wrap (x10 + 1)) (y0 ++ ([(PV.agg [(PV.sc (.string (((y1.elem x10.toNat).fld 0).toStr))), (PV.sc (.int .i64 (((y1.elem x10.toNat).fld 1).toInt)))])])) y1 y2) else none) else none) else none)) else none) else none) else (spec_UserCheck.l0 N n x1 (IntKind.i64.wrap (x10 + 1)) y0 y1 y2)) else none) else none) else (some [(PV.list y0)]) := by kernel_rfl
noncomputable def spec_UserCheck.S (N : Nat) : ASpec := ⟨[(26, .ro), (27, .ro), (9, .ro)], [(30, .own)], spec_UserCheck.f N⟩
theorem spec_UserCheck.ok (N : Nat) : FnOk Tryz.prog 10 (spec_UserCheck.S N) := fnOk_of (E := spec_UserCheck.E N) mix Tryz.func10 (by kernel_rfl) (by kernel_rfl) (by kernel_rfl) (lk_ok (all_cons (spec_Check.ok N) (all_cons (spec_l10Own.ok N) (all_cons (spec_l2Words.ok N) (all_cons (spec_l2In.ok N) (all_cons (spec_l1Word.ok N) (all_cons (spec_l10Of.ok N) all_nil))))))) (by kernel_rfl) (fun _ _ h => h)

/-! ### spec_l1Far: function 154, loop.example/medlar/spec.l1Far -/
noncomputable def spec_l1Far.E (N : Nat) : Env := ⟨lk [(115, spec_l1Least.S N)], nzk [(3, ⟨[2, 3, 4, 7, 8, 9, 10, 11, 12, 13, 14, 15, 16, 17, 18, 19, 20, 21, 22, 23, 24, 25, 26, 27, 28, 29, 30, 31, 32, 33, 34, 35, 36, 37, 38, 39, 40, 41, 42, 43, 44, 45, 46, 47, 48, 49, 50, 51, 52, 53, 54, 55, 56, 57, 58, 59, 60, 61, 62, 63, 64, 65, 66, 67, 68, 69, 70, 71, 72, 73, 74, 75, 76, 77, 78, 79, 80, 81, 82, 83, 84, 85, 86, 87, 88, 89, 90, 91, 92, 93, 94, 95, 96, 97, 98, 99, 100, 101, 102, 103, 104, 105, 106, 107, 108, 109, 110, 111, 112, 113, 114, 115, 116, 117, 118, 119, 120, 121, 122, 123, 124, 125, 126, 127, 128, 129, 130, 131, 132], [(5, 84)], []⟩), (7, ⟨[2, 3, 4, 9, 10, 11, 12, 13, 14, 15, 16, 17, 18, 19, 20, 21, 22, 23, 24, 25, 26, 27, 28, 29, 30, 31, 32, 33, 34, 35, 36, 37, 38, 39, 40, 41, 42, 43, 44, 45, 46, 47, 48, 49, 50, 51, 52, 53, 54, 55, 56, 57, 58, 59, 60, 61, 62, 63, 64, 65, 66, 67, 68, 69, 70, 71, 72, 73, 74, 75, 76, 77, 78, 79, 80, 81, 82, 83, 84, 85, 86, 87, 88, 89, 90, 91, 92, 93, 94, 95, 96, 97, 98, 99, 100, 101, 102, 103, 104, 105, 106, 107, 108, 109, 110, 111, 112, 113, 114, 115, 116, 117, 118, 119, 120, 121, 122, 123, 124, 125, 126, 127, 128, 129, 130, 131, 132], [(5, 84), (7, 85)], []⟩)], N, [], false⟩
noncomputable def spec_l1Far.f (N : Nat) (a : List PV) : Option Res := run Tryz.prog (spec_l1Far.E N) Tryz.f154 [(9, .ro), (9, .ro)] [(3, .val)] a
noncomputable def spec_l1Far.l0 (N : Nat) (n : Nat) (x0 : ByteArray) (x1 : ByteArray) (x6 : Int) (y0 : List PV) : Option Res := loopAt Tryz.prog (spec_l1Far.E N) Tryz.f154 [(3, .val)] [1, 1, 0, 1, 0] [] n ⟨mkSlots 133 [(0, .sc (.string x0)), (1, .sc (.string x1)), (5, .ref 0 []), (6, .sc (.int .i64 x6))], ohOf [.row 84 (PV.list y0)]⟩
noncomputable def spec_l1Far.l1 (N : Nat) (m0 : Nat) (n : Nat) (x0 : ByteArray) (x1 : ByteArray) (x6 : Int) (x8 : Int) (y0 : List PV) (y1 : List PV) : Option Res := loopAt Tryz.prog (spec_l1Far.E N) Tryz.f154 [(3, .val)] [1, 1, 0, 1, 0, 0, 1, 0, 0, 1, 0, 1, 0] [m0] n ⟨mkSlots 133 [(0, .sc (.string x0)), (1, .sc (.string x1)), (5, .ref 0 []), (6, .sc (.int .i64 x6)), (7, .ref 1 []), (8, .sc (.int .i64 x8))], ohOf [.row 84 (PV.list y0), .row 85 (PV.list y1)]⟩
theorem spec_l1Far.f_eq (N : Nat) (a0 : PV) (a1 : PV) : spec_l1Far.f N [a0, a1] = spec_l1Far.l0 N N a0.toStr a1.toStr 0 [] := by kernel_rfl
theorem spec_l1Far.l0_eq (N : Nat) (n : Nat) (x0 : ByteArray) (x1 : ByteArray) (x6 : Int) (y0 : List PV) : spec_l1Far.l0 N (n + 1) x0 x1 x6 y0 = if decide (x6 ≤ (x0.size : Int)) = true then (spec_l1Far.l1 N n N x0 x1 x6 0 y0 []) else (if 0 ≤ (x0.size : Int) then (if (x0.size : Int) < (y0.length : Int) then (if 0 ≤ (x1.size : Int) then (if (x1.size : Int) < ((((PV.list y0).elem x0.size).items).length : Int) then (some [(PV.sc (.int .i64 ((((PV.list y0).elem x0.size).elem x1.size).toInt)))]) else none) else none) else none) else none) := by kernel_rfl
theorem spec_l1Far.l1_eq (N : Nat) (m0 : Nat) (n : Nat) (x0 : ByteArray) (x1 : ByteArray) (x6 : Int) (x8 : Int) (y0 : List PV) (y1 : List PV) : spec_l1Far.l1 N m0 (n + 1) x0 x1 x6 x8 y0 y1 = if decide (x8 ≤ (x1.size : Int)) = true then (if decide (x6 = 0) = true then (if y1.length + [(PV.sc (.int .i64 x8))].length ≤ 17592186044416 then (spec_l1Far.l1 N m0 n x0 x1 x6 (IntKind.i64.wrap (x8 + 1)) y0 (y1 ++ [(PV.sc (.int .i64 x8))])) else none) else (if decide (x8 = 0) = true then (if y1.length + [(PV.sc (.int .i64 x6))].length ≤ 17592186044416 then (spec_l1Far.l1 N m0 n x0 x1 x6 (IntKind.i64.wrap (x8 + 1)) y0 (y1 ++ [(PV.sc (.int .i64 x6))])) else none) else (if 0 ≤ (IntKind.i64.wrap (x6 - 1)) then (if (IntKind.i64.wrap (x6 - 1)) < (y0.length : Int) then (if 0 ≤ (IntKind.i64.wrap (x8 - 1)) then (if (IntKind.i64.wrap (x8 - 1)) < ((((PV.list y0).elem ((IntKind.i64.wrap (x6 - 1)).toNat)).items).length : Int) then (if 0 ≤ (IntKind.i64.wrap (x6 - 1)) then (if (IntKind.i64.wrap (x6 - 1)) < (x0.size : Int) then (if 0 ≤ (IntKind.i64.wrap (x8 - 1)) then (if (IntKind.i64.wrap (x8 - 1)) < (x1.size : Int) then (if (!decide (((x0.get! (IntKind.i64.wrap (x6 - 1)).toNat).toNat : Int) = ((x1.get! (IntKind.i64.wrap (x8 - 1)).toNat).toNat : Int))) = true then (if 0 ≤ (IntKind.i64.wrap (x6 - 1)) then (if (IntKind.i64.wrap (x6 - 1)) < (y0.length : Int) then (if 0 ≤ x8 then (if x8 < ((((PV.list y0).elem ((IntKind.i64.wrap (x6 - 1)).toNat)).items).length : Int) then (if 0 ≤ (IntKind.i64.wrap (x8 - 1)) then (if (IntKind.i64.wrap (x8 - 1)) < (y1.length : Int) then ((spec_l1Least.f N [(PV.sc (.int .i64 (IntKind.i64.wrap (((((PV.list y0).elem ((IntKind.i64.wrap (x6 - 1)).toNat)).elem x8.toNat).toInt) + 1)))), (PV.sc (.int .i64 (IntKind.i64.wrap ((((PV.list y1).elem ((IntKind.i64.wrap (x8 - 1)).toNat)).toInt) + 1))))]).bind fun t1 => (spec_l1Least.f N [(PV.sc (.int .i64 (IntKind.i64.wrap (((((PV.list y0).elem ((IntKind.i64.wrap (x6 - 1)).toNat)).elem ((IntKind.i64.wrap (x8 - 1)).toNat)).toInt) + 1)))), (PV.sc (.int .i64 ((t1.headD default).toInt)))]).bind fun t2 => if decide (1 < x6) = true then (if decide (1 < x8) = true then (if 0 ≤ (IntKind.i64.wrap (x6 - 1)) then (if (IntKind.i64.wrap (x6 - 1)) < (x0.size : Int) then (if 0 ≤ (IntKind.i64.wrap (x8 - 2)) then (if (IntKind.i64.wrap (x8 - 2)) < (x1.size : Int) then (if decide (((x0.get! (IntKind.i64.wrap (x6 - 1)).toNat).toNat : Int) = ((x1.get! (IntKind.i64.wrap (x8 - 2)).toNat).toNat : Int)) = true then (if 0 ≤ (IntKind.i64.wrap (x6 - 2)) then (if (IntKind.i64.wrap (x6 - 2)) < (x0.size : Int) then (if 0 ≤ (IntKind.i64.wrap (x8 - 1)) then (if (IntKind.i64.wrap (x8 - 1)) < (x1.size : Int) then (if decide (((x0.get! (IntKind.i64.wrap (x6 - 2)).toNat).toNat : Int) = ((x1.get! (IntKind.i64.wrap (x8 - 1)).toNat).toNat : Int)) = true then (if 0 ≤ (IntKind.i64.wrap (x6 - 2)) then (if (IntKind.i64.wrap (x6 - 2)) < (y0.length : Int) then (if 0 ≤ (IntKind.i64.wrap (x8 - 2)) then (if (IntKind.i64.wrap (x8 - 2)) < ((((PV.list y0).elem ((IntKind.i64.wrap (x6 - 2)).toNat)).items).length : Int) then ((spec_l1Least.f N [(PV.sc (.int .i64 ((t2.headD default).toInt))), (PV.sc (.int .i64 (IntKind.i64.wrap (((((PV.list y0).elem ((IntKind.i64.wrap (x6 - 2)).toNat)).elem ((IntKind.i64.wrap (x8 - 2)).toNat)).toInt) + 1))))]).bind fun t3 => if y1.length + [(PV.sc (.int .i64 ((t3.headD default).toInt)))].length ≤ 17592186044416 then (spec_l1Far.l1 N m0 n x0 x1 x6 (IntKind.i64.wrap (x8 + 1)) y0 (y1 ++ [(PV.sc (.int .i64 ((t3.headD default).toInt)))])) else none) else none) else none) else none) else none) else (if y1.length + [(PV.sc (.int .i64 ((t2.headD default).toInt)))].length ≤ 17592186044416 then (spec_l1Far.l1 N m0 n x0 x1 x6 (IntKind.i64.wrap (x8 + 1)) y0 (y1 ++ [(PV.sc (.int .i64 ((t2.headD default).toInt)))])) else none)) else none) else none) else none) else none) else (if y1.length + [(PV.sc (.int .i64 ((t2.headD default).toInt)))].length ≤ 17592186044416 then (spec_l1Far.l1 N m0 n x0 x1 x6 (IntKind.i64.wrap (x8 + 1)) y0 (y1 ++ [(PV.sc (.int .i64 ((t2.headD default).toInt)))])) else none)) else none) else none) else none) else none) else (if y1.length + [(PV.sc (.int .i64 ((t2.headD default).toInt)))].length ≤ 17592186044416 then (spec_l1Far.l1 N m0 n x0 x1 x6 (IntKind.i64.wrap (x8 + 1)) y0 (y1 ++ [(PV.sc (.int .i64 ((t2.headD default).toInt)))])) else none)) else (if y1.length + [(PV.sc (.int .i64 ((t2.headD default).toInt)))].length ≤ 17592186044416 then (spec_l1Far.l1 N m0 n x0 x1 x6 (IntKind.i64.wrap (x8 + 1)) y0 (y1 ++ [(PV.sc (.int .i64 ((t2.headD default).toInt)))])) else none)) else none) else none) else none) else none) else none) else none) else (if 0 ≤ (IntKind.i64.wrap (x6 - 1)) then (if (IntKind.i64.wrap (x6 - 1)) < (y0.length : Int) then (if 0 ≤ x8 then (if x8 < ((((PV.list y0).elem ((IntKind.i64.wrap (x6 - 1)).toNat)).items).length : Int) then (if 0 ≤ (IntKind.i64.wrap (x8 - 1)) then (if (IntKind.i64.wrap (x8 - 1)) < (y1.length : Int) then ((spec_l1Least.f N [(PV.sc (.int .i64 (IntKind.i64.wrap (((((PV.list y0).elem ((IntKind.i64.wrap (x6 - 1)).toNat)).elem x8.toNat).toInt) + 1)))), (PV.sc (.int .i64 (IntKind.i64.wrap ((((PV.list y1).elem ((IntKind.i64.wrap (x8 - 1)).toNat)).toInt) + 1))))]).bind fun t4 => (spec_l1Least.f N [(PV.sc (.int .i64 ((((PV.list y0).elem ((IntKind.i64.wrap (x6 - 1)).toNat)).elem ((IntKind.i64.wrap (x8 - 1)).toNat)).toInt))), (PV.sc (.int .i64 ((t4.headD default).toInt)))]).bind fun t5 => if decide (1 < x6) = true then (if decide (1 < x8) = true then (if 0 ≤ (IntKind.i64.wrap (x6 - 1)) then (if (IntKind.i64.wrap (x6 - 1)) < (x0.size : Int) then (if 0 ≤ (IntKind.i64.wrap (x8 - 2)) then (if (IntKind.i64.wrap (x8 - 2)) < (x1.size : Int) then (if decide (((x0.get! (IntKind.i64.wrap (x6 - 1)).toNat).toNat : Int) = ((x1.get! (IntKind.i64.wrap (x8 - 2)).toNat).toNat : Int)) = true then (if 0 ≤ (IntKind.i64.wrap (x6 - 2)) then (if (IntKind.i64.wrap (x6 - 2)) < (x0.size : Int) then (if 0 ≤ (IntKind.i64.wrap (x8 - 1)) then (if (IntKind.i64.wrap (x8 - 1)) < (x1.size : Int) then (if decide (((x0.get! (IntKind.i64.wrap (x6 - 2)).toNat).toNat : Int) = ((x1.get! (IntKind.i64.wrap (x8 - 1)).toNat).toNat : Int)) = true then (if 0 ≤ (IntKind.i64.wrap (x6 - 2)) then (if (IntKind.i64.wrap (x6 - 2)) < (y0.length : Int) then (if 0 ≤ (IntKind.i64.wrap (x8 - 2)) then (if (IntKind.i64.wrap (x8 - 2)) < ((((PV.list y0).elem ((IntKind.i64.wrap (x6 - 2)).toNat)).items).length : Int) then ((spec_l1Least.f N [(PV.sc (.int .i64 ((t5.headD default).toInt))), (PV.sc (.int .i64 (IntKind.i64.wrap (((((PV.list y0).elem ((IntKind.i64.wrap (x6 - 2)).toNat)).elem ((IntKind.i64.wrap (x8 - 2)).toNat)).toInt) + 1))))]).bind fun t6 => if y1.length + [(PV.sc (.int .i64 ((t6.headD default).toInt)))].length ≤ 17592186044416 then (spec_l1Far.l1 N m0 n x0 x1 x6 (IntKind.i64.wrap (x8 + 1)) y0 (y1 ++ [(PV.sc (.int .i64 ((t6.headD default).toInt)))])) else none) else none) else none) else none) else none) else (if y1.length + [(PV.sc (.int .i64 ((t5.headD default).toInt)))].length ≤ 17592186044416 then (spec_l1Far.l1 N m0 n x0 x1 x6 (IntKind.i64.wrap (x8 + 1)) y0 (y1 ++ [(PV.sc (.int .i64 ((t5.headD default).toInt)))])) else none)) else none) else none) else none) else none) else (if y1.length + [(PV.sc (.int .i64 ((t5.headD default).toInt)))].length ≤ 17592186044416 then (spec_l1Far.l1 N m0 n x0 x1 x6 (IntKind.i64.wrap (x8 + 1)) y0 (y1 ++ [(PV.sc (.int .i64 ((t5.headD default).toInt)))])) else none)) else none) else none) else none) else none) else (if y1.length + [(PV.sc (.int .i64 ((t5.headD default).toInt)))].length ≤ 17592186044416 then (spec_l1Far.l1 N m0 n x0 x1 x6 (IntKind.i64.wrap (x8 + 1)) y0 (y1 ++ [(PV.sc (.int .i64 ((t5.headD default).toInt)))])) else none)) else (if y1.length + [(PV.sc (.int .i64 ((t5.headD default).toInt)))].length ≤ 17592186044416 then (spec_l1Far.l1 N m0 n x0 x1 x6 (IntKind.i64.wrap (x8 + 1)) y0 (y1 ++ [(PV.sc (.int .i64 ((t5.headD default).toInt)))])) else none)) else none) else none) else none) else none) else none) else none)) else none) else none) else none) else none) else none) else none) else none) else none))) else (if y0.length + [(PV.list y1)].length ≤ 5864062014805 then (spec_l1Far.l0 N m0 x0 x1 (IntKind.i64.wrap (x6 + 1)) (y0 ++ [(PV.list y1)])) else none) := by kernel_rfl
noncomputable def spec_l1Far.S (N : Nat) : ASpec := ⟨[(9, .ro), (9, .ro)], [(3, .val)], spec_l1Far.f N⟩
theorem spec_l1Far.ok (N : Nat) : FnOk Tryz.prog 154 (spec_l1Far.S N) := fnOk_of (E := spec_l1Far.E N) mix Tryz.func154 (by kernel_rfl) (by kernel_rfl) (by kernel_rfl) (lk_ok (all_cons (spec_l1Least.ok N) all_nil)) (by kernel_rfl) (fun _ _ h => h)

/-! ### spec_l4Put: function 64, loop.example/medlar/spec.l4Put -/
noncomputable def spec_l4Put.E (N : Nat) : Env := ⟨lk [], nzk [(2, ⟨[1, 2, 4, 6, 7, 8, 9, 10, 11, 12, 13, 14, 15, 16, 17, 18, 19, 20, 21, 22, 23, 24, 25, 26, 27, 28, 29, 30, 31, 32, 33, 34, 35, 36, 37, 38, 39, 40, 41, 42, 43, 44, 45, 46, 47, 48, 49, 50, 51, 52, 53], [], []⟩)], N, [], false⟩
noncomputable def spec_l4Put.f (N : Nat) (a : List PV) : Option Res := run Tryz.prog (spec_l4Put.E N) Tryz.f64 [(30, .ro), (35, .ro)] [(30, .own)] a
noncomputable def spec_l4Put.l0 (N : Nat) (n : Nat) (x0 : PV) (x5 : Int) (y0_0 : ByteArray) (y0_1 : Int) : Option Res := loopAt Tryz.prog (spec_l4Put.E N) Tryz.f64 [(30, .own)] [1, 1, 0, 0] [] n ⟨mkSlots 54 [(0, .ro 30 x0), (3, .ptr 0 []), (5, .sc (.int .i64 x5))], ohOf [.box 35 (.agg 35 [.sc (.string y0_0), .sc (.int .i64 y0_1)])]⟩
theorem spec_l4Put.f_eq (N : Nat) (a0 : PV) (a1 : PV) : spec_l4Put.f N [a0, a1] = spec_l4Put.l0 N N a0 0 ((a1.fld 0).toStr) ((a1.fld 1).toInt) := by kernel_rfl
theorem spec_l4Put.l0_eq (N : Nat) (n : Nat) (x0 : PV) (x5 : Int) (y0_0 : ByteArray) (y0_1 : Int) : spec_l4Put.l0 N (n + 1) x0 x5 y0_0 y0_1 = if decide (x5 < (x0.items.length : Int)) = true then (if 0 ≤ x5 then (if x5 < (x0.items.length : Int) then (if decide ((((x0.elem x5.toNat).fld 1).toInt) < y0_1) = false then (if 0 ≤ x5 then (if x5 < (x0.items.length : Int) then (if decide ((((x0.elem x5.toNat).fld 1).toInt) = y0_1) = true then (if 0 ≤ x5 then (if x5 < (x0.items.length : Int) then (if Op.bytesLess (((x0.elem x5.toNat).fld 0).toStr).toList y0_0.toList = true then (spec_l4Put.l0 N n x0 (IntKind.i64.wrap (x5 + 1)) y0_0 y0_1) else (if 0 ≤ x5 then (if x5 ≤ (x0.items.length : Int) then (if ([] : List PV).length + ((x0.items.drop 0).take (x5.toNat - 0)).length ≤ 5864062014805 then (if (([] : List PV) ++ ((x0.items.drop 0).take (x5.toNat - 0))).length + ([(PV.agg [(PV.sc (.string y0_0)), (PV.sc (.int .i64 y0_1))])]).length ≤ 5864062014805 then (if 0 ≤ x5 then (if x5 ≤ (x0.items.length : Int) then (if ((([] : List PV) ++ ((x0.items.drop 0).take (x5.toNat - 0))) ++ ([(PV.agg [(PV.sc (.string y0_0)), (PV.sc (.int .i64 y0_1))])])).length + ((x0.items.drop x5.toNat).take (x0.items.length - x5.toNat)).length ≤ 5864062014805 then (some [(PV.list (((([] : List PV) ++ ((x0.items.drop 0).take (x5.toNat - 0))) ++ ([(PV.agg [(PV.sc (.string y0_0)), (PV.sc (.int .i64 y0_1))])])) ++ ((x0.items.drop x5.toNat).take (x0.items.length - x5.toNat))))]) else none) else none) else none) else none) else none) else none) else none)) else none) else none) else (if 0 ≤ x5 then (if x5 ≤ (x0.items.length : Int) then (if ([] : List PV).length + ((x0.items.drop 0).take (x5.toNat - 0)).length ≤ 5864062014805 then (if (([] : List PV) ++ ((x0.items.drop 0).take (x5.toNat - 0))).length + ([(PV.agg [(PV.sc (.string y0_0)), (PV.sc (.int .i64 y0_1))])]).length ≤ 5864062014805 then (if 0 ≤ x5 then (if x5 ≤ (x0.items.length : Int) then (if ((([] : List PV) ++ ((x0.items.drop 0).take (x5.toNat - 0))) ++ ([(PV.agg [(PV.sc (.string y0_0)), (PV.sc (.int .i64 y0_1))])])).length + ((x0.items.drop x5.toNat).take (x0.items.length - x5.toNat)).length ≤ 5864062014805 then (some [(PV.list (((([] : List PV) ++ ((x0.items.drop 0).take (x5.toNat - 0))) ++ ([(PV.agg [(PV.sc (.string y0_0)), (PV.sc (.int .i64 y0_1))])])) ++ ((x0.items.drop x5.toNat).take (x0.items.length - x5.toNat))))]) else none) else none) else none) else none) else none) else none) else none)) else none) else none) else (spec_l4Put.l0 N n x0 (IntKind.i64.wrap (x5 + 1)) y0_0 y0_1)) else none) else none) else (if 0 ≤ x5 then (if x5 ≤ (x0.items.length : Int) then (if ([] : List PV).length + ((x0.items.drop 0).take (x5.toNat - 0)).length ≤ 5864062014805 then (if (([] : List PV) ++ ((x0.items.drop 0).take (x5.toNat - 0))).length + ([(PV.agg [(PV.sc (.string y0_0)), (PV.sc (.int .i64 y0_1))])]).length ≤ 5864062014805 then (if 0 ≤ x5 then (if x5 ≤ (x0.items.length : Int) then (if ((([] : List PV) ++ ((x0.items.drop 0).take (x5.toNat - 0))) ++ ([(PV.agg [(PV.sc (.string y0_0)), (PV.sc (.int .i64 y0_1))])])).length + ((x0.items.drop x5.toNat).take (x0.items.length - x5.toNat)).length ≤ 5864062014805 then (some [(PV.list (((([] : List PV) ++ ((x0.items.drop 0).take (x5.toNat - 0))) ++ ([(PV.agg [(PV.sc (.string y0_0)), (PV.sc (.int .i64 y0_1))])])) ++ ((x0.items.drop x5.toNat).take (x0.items.length - x5.toNat))))]) else none) else none) else none) else none) else none) else none) else none) := by kernel_rfl
noncomputable def spec_l4Put.S (N : Nat) : ASpec := ⟨[(30, .ro), (35, .ro)], [(30, .own)], spec_l4Put.f N⟩
theorem spec_l4Put.ok (N : Nat) : FnOk Tryz.prog 64 (spec_l4Put.S N) := fnOk_of (E := spec_l4Put.E N) mix Tryz.func64 (by kernel_rfl) (by kernel_rfl) (by kernel_rfl) (lk_ok all_nil) (by kernel_rfl) (fun _ _ h => h)

/-! ### spec_l4Guesses: function 113, loop.example/medlar/spec.l4Guesses -/
noncomputable def spec_l4Guesses.E (N : Nat) : Env := ⟨lk [(154, spec_l1Far.S N), (64, spec_l4Put.S N)], nzk [(3, ⟨[3, 4, 5, 6, 9, 10, 11, 12, 13, 14, 15, 16, 17, 18, 19, 20, 21, 22, 23, 24, 25, 26, 27, 28, 29, 30, 31, 32, 33, 34, 35, 36, 37, 38, 39], [], []⟩)], N, [], false⟩
noncomputable def spec_l4Guesses.f (N : Nat) (a : List PV) : Option Res := run Tryz.prog (spec_l4Guesses.E N) Tryz.f113 [(27, .ro), (9, .ro), (3, .ro)] [(30, .own)] a
noncomputable def spec_l4Guesses.l0 (N : Nat) (n : Nat) (x0 : PV) (x1 : ByteArray) (x2 : Int) (x8 : Int) (y0 : List PV) : Option Res := loopAt Tryz.prog (spec_l4Guesses.E N) Tryz.f113 [(30, .own)] [1, 1, 0, 1, 0] [] n ⟨mkSlots 40 [(0, .ro 27 x0), (1, .sc (.string x1)), (2, .sc (.int .i64 x2)), (7, .ref 0 []), (8, .sc (.int .i64 x8))], ohOf [.row 30 (PV.list y0)]⟩
noncomputable def spec_l4Guesses.l1 (N : Nat) (n : Nat) (x0 : PV) (x1 : ByteArray) (x2 : Int) (x8 : Int) (y0 : PV) : Option Res := loopAt Tryz.prog (spec_l4Guesses.E N) Tryz.f113 [(30, .own)] [1, 1, 0, 1, 0] [] n ⟨mkSlots 40 [(0, .ro 27 x0), (1, .sc (.string x1)), (2, .sc (.int .i64 x2)), (7, .ref 0 []), (8, .sc (.int .i64 x8))], ohOf [.row 30 y0]⟩
theorem spec_l4Guesses.f_eq (N : Nat) (a0 : PV) (a1 : PV) (a2 : PV) : spec_l4Guesses.f N [a0, a1, a2] = spec_l4Guesses.l0 N N a0 a1.toStr a2.toInt 0 [] := by kernel_rfl
theorem spec_l4Guesses.l0_eq (N : Nat) (n : Nat) (x0 : PV) (x1 : ByteArray) (x2 : Int) (x8 : Int) (y0 : List PV) : spec_l4Guesses.l0 N (n + 1) x0 x1 x2 x8 y0 = if decide (x8 < (x0.items.length : Int)) = true then (if 0 ≤ x8 then (if x8 < (x0.items.length : Int) then ((spec_l1Far.f N [(PV.sc (.string ((x0.elem x8.toNat).toStr))), (PV.sc (.string x1))]).bind fun t1 => if decide (((t1.headD default).toInt) ≤ x2) = true then (if 0 ≤ x8 then (if x8 < (x0.items.length : Int) then ((spec_l4Put.f N [(PV.list y0), (PV.agg [(PV.sc (.string ((x0.elem x8.toNat).toStr))), (PV.sc (.int .i64 ((t1.headD default).toInt)))])]).bind fun t2 => spec_l4Guesses.l1 N n x0 x1 x2 (IntKind.i64.wrap (x8 + 1)) (t2.headD default)) else none) else none) else (spec_l4Guesses.l0 N n x0 x1 x2 (IntKind.i64.wrap (x8 + 1)) y0)) else none) else none) else (if decide (10 < (y0.length : Int)) = true then (if 0 ≤ 10 then (if 10 ≤ (y0.length : Int) then (some [(PV.list (y0.take 10))]) else none) else none) else (some [(PV.list y0)])) := by kernel_rfl
theorem spec_l4Guesses.l1_eq (N : Nat) (n : Nat) (x0 : PV) (x1 : ByteArray) (x2 : Int) (x8 : Int) (y0 : PV) : spec_l4Guesses.l1 N (n + 1) x0 x1 x2 x8 y0 = if decide (x8 < (x0.items.length : Int)) = true then (if 0 ≤ x8 then (if x8 < (x0.items.length : Int) then ((spec_l1Far.f N [(PV.sc (.string ((x0.elem x8.toNat).toStr))), (PV.sc (.string x1))]).bind fun t3 => if decide (((t3.headD default).toInt) ≤ x2) = true then (if 0 ≤ x8 then (if x8 < (x0.items.length : Int) then ((spec_l4Put.f N [y0, (PV.agg [(PV.sc (.string ((x0.elem x8.toNat).toStr))), (PV.sc (.int .i64 ((t3.headD default).toInt)))])]).bind fun t4 => spec_l4Guesses.l1 N n x0 x1 x2 (IntKind.i64.wrap (x8 + 1)) (t4.headD default)) else none) else none) else (spec_l4Guesses.l1 N n x0 x1 x2 (IntKind.i64.wrap (x8 + 1)) y0)) else none) else none) else (if decide (10 < (y0.items.length : Int)) = true then (if 0 ≤ 10 then (if 10 ≤ (y0.items.length : Int) then (some [(PV.list (y0.items.take 10))]) else none) else none) else (some [y0])) := by kernel_rfl
noncomputable def spec_l4Guesses.S (N : Nat) : ASpec := ⟨[(27, .ro), (9, .ro), (3, .ro)], [(30, .own)], spec_l4Guesses.f N⟩
theorem spec_l4Guesses.ok (N : Nat) : FnOk Tryz.prog 113 (spec_l4Guesses.S N) := fnOk_of (E := spec_l4Guesses.E N) mix Tryz.func113 (by kernel_rfl) (by kernel_rfl) (by kernel_rfl) (lk_ok (all_cons (spec_l1Far.ok N) (all_cons (spec_l4Put.ok N) all_nil))) (by kernel_rfl) (fun _ _ h => h)

/-! ### spec_BookGuesses: function 63, loop.example/medlar/spec.BookGuesses -/
noncomputable def spec_BookGuesses.E (N : Nat) : Env := ⟨lk [(82, spec_BookOk.S N), (42, spec_l1Word.S N), (40, spec_l2Words.S N), (41, spec_l2In.S N), (113, spec_l4Guesses.S N)], nzk [(6, ⟨[0, 1, 2, 3, 4, 8, 9, 10, 11, 12, 13, 14, 15, 16, 17, 18, 19, 20, 21, 22, 23, 24, 25, 26, 27, 28, 29, 30, 31, 32, 33, 34, 35, 36, 37, 38, 39, 40, 41, 42, 43, 44, 45, 46, 47, 48, 49, 50, 51, 52, 53], [(5, 30)], []⟩)], N, [], false⟩
noncomputable def spec_BookGuesses.f (N : Nat) (a : List PV) : Option Res := run Tryz.prog (spec_BookGuesses.E N) Tryz.f63 [(26, .ro), (9, .ro)] [(30, .own)] a
noncomputable def spec_BookGuesses.l0 (N : Nat) (n : Nat) (x7 : Int) (y0 : List PV) (y1 : PV) : Option Res := loopAt Tryz.prog (spec_BookGuesses.E N) Tryz.f63 [(30, .own)] [1, 1, 1, 1, 0, 1, 0] [] n ⟨mkSlots 54 [(5, .ref 0 []), (6, .ref 1 []), (7, .sc (.int .i64 x7))], ohOf [.row 30 (PV.list y0), .row 30 y1]⟩
theorem spec_BookGuesses.f_eq (N : Nat) (a0 : PV) (a1 : PV) : spec_BookGuesses.f N [a0, a1] = (spec_BookOk.f N [(PV.agg [a0.fld 0, a0.fld 1])]).bind fun t1 => if (!((t1.headD default).toBool)) = false then ((spec_l1Word.f N [(PV.sc (.string a1.toStr))]).bind fun t2 => if (!((t2.headD default).toBool)) = false then ((spec_l2Words.f N [(PV.agg [a0.fld 0, a0.fld 1])]).bind fun t3 => (spec_l2In.f N [(t3.headD default), (PV.sc (.string a1.toStr))]).bind fun t4 => if (t4.headD default).toBool = true then (some [(PV.list [])]) else ((spec_l2Words.f N [(PV.agg [a0.fld 0, a0.fld 1])]).bind fun t5 => (spec_l4Guesses.f N [(t5.headD default), (PV.sc (.string a1.toStr)), (PV.sc (.int .i64 2))]).bind fun t6 => spec_BookGuesses.l0 N N 0 [] (t6.headD default))) else (some [(PV.list [])])) else (some [(PV.list [])]) := by kernel_rfl
theorem spec_BookGuesses.l0_eq (N : Nat) (n : Nat) (x7 : Int) (y0 : List PV) (y1 : PV) : spec_BookGuesses.l0 N (n + 1) x7 y0 y1 = if decide (x7 < (y1.items.length : Int)) = true then (if 0 ≤ x7 then (if x7 < (y1.items.length : Int) then (if 0 ≤ 0 then (if 0 < (y1.items.length : Int) then (if decide ((((y1.elem x7.toNat).fld 1).toInt) = (((y1.elem 0).fld 1).toInt)) = true then (if 0 ≤ x7 then (if x7 < (y1.items.length : Int) then (if y0.length + ([(PV.agg [(PV.sc (.string (((y1.elem x7.toNat).fld 0).toStr))), (PV.sc (.int .i64 (((y1.elem x7.toNat).fld 1).toInt)))])]).length ≤ 5864062014805 then (spec_BookGuesses.l0 N n (IntKind.i64.wrap (x7 + 1)) (y0 ++ ([(PV.agg [(PV.sc (.string (((y1.elem x7.toNat).fld 0).toStr))), (PV.sc (.int .i64 (((y1.elem x7.toNat).fld 1).toInt)))])])) y1) else none) else none) else none) else (some [(PV.list y0)])) else none) else none) else none) else none) else (some [(PV.list y0)]) := by kernel_rfl
noncomputable def spec_BookGuesses.S (N : Nat) : ASpec := ⟨[(26, .ro), (9, .ro)], [(30, .own)], spec_BookGuesses.f N⟩
theorem spec_BookGuesses.ok (N : Nat) : FnOk Tryz.prog 63 (spec_BookGuesses.S N) := fnOk_of (E := spec_BookGuesses.E N) mix Tryz.func63 (by kernel_rfl) (by kernel_rfl) (by kernel_rfl) (lk_ok (all_cons (spec_BookOk.ok N) (all_cons (spec_l1Word.ok N) (all_cons (spec_l2Words.ok N) (all_cons (spec_l2In.ok N) (all_cons (spec_l4Guesses.ok N) all_nil)))))) (by kernel_rfl) (fun _ _ h => h)

/-! ### spec_CaseOf: function 124, loop.example/medlar/spec.CaseOf -/
noncomputable def spec_CaseOf.E (N : Nat) : Env := ⟨lk [], nzk [(4, ⟨[1, 2, 6, 7, 8, 9, 10, 11, 12, 13, 14, 15, 16, 17, 18, 19, 20, 21, 22, 23, 24, 25, 26, 27, 28, 29, 30, 31, 32, 33, 34, 35, 36, 37, 38, 39, 40, 41, 42, 43, 44, 45, 46, 47, 48, 49, 50, 51, 52, 53, 54, 55], [], []⟩)], N, [], false⟩
noncomputable def spec_CaseOf.f (N : Nat) (a : List PV) : Option Res := run Tryz.prog (spec_CaseOf.E N) Tryz.f124 [(9, .ro)] [(3, .val)] a
noncomputable def spec_CaseOf.l0 (N : Nat) (n : Nat) (x0 : ByteArray) (x3 : Int) (x4 : Int) (x5 : Int) : Option Res := loopAt Tryz.prog (spec_CaseOf.E N) Tryz.f124 [(3, .val)] [1, 1, 1, 0, 1, 0] [] n ⟨mkSlots 56 [(0, .sc (.string x0)), (3, .sc (.int .i64 x3)), (4, .sc (.int .i64 x4)), (5, .sc (.int .i64 x5))], ohOf []⟩
theorem spec_CaseOf.f_eq (N : Nat) (a0 : PV) : spec_CaseOf.f N [a0] = spec_CaseOf.l0 N N a0.toStr 0 0 0 := by kernel_rfl
theorem spec_CaseOf.l0_eq (N : Nat) (n : Nat) (x0 : ByteArray) (x3 : Int) (x4 : Int) (x5 : Int) : spec_CaseOf.l0 N (n + 1) x0 x3 x4 x5 = if decide (x5 < (x0.size : Int)) = true then (if 0 ≤ x5 then (if x5 < (x0.size : Int) then (if decide (97 ≤ ((x0.get! x5.toNat).toNat : Int)) = true then (if 0 ≤ x5 then (if x5 < (x0.size : Int) then (if decide (((x0.get! x5.toNat).toNat : Int) ≤ 122) = true then (spec_CaseOf.l0 N n x0 (IntKind.i64.wrap (x3 + 1)) x4 (IntKind.i64.wrap (x5 + 1))) else (if 0 ≤ x5 then (if x5 < (x0.size : Int) then (if decide (65 ≤ ((x0.get! x5.toNat).toNat : Int)) = true then (if 0 ≤ x5 then (if x5 < (x0.size : Int) then (if decide (((x0.get! x5.toNat).toNat : Int) ≤ 90) = true then (spec_CaseOf.l0 N n x0 x3 (IntKind.i64.wrap (x4 + 1)) (IntKind.i64.wrap (x5 + 1))) else (some [(PV.sc (.int .i64 0))])) else none) else none) else (some [(PV.sc (.int .i64 0))])) else none) else none)) else none) else none) else (if 0 ≤ x5 then (if x5 < (x0.size : Int) then (if decide (65 ≤ ((x0.get! x5.toNat).toNat : Int)) = true then (if 0 ≤ x5 then (if x5 < (x0.size : Int) then (if decide (((x0.get! x5.toNat).toNat : Int) ≤ 90) = true then (spec_CaseOf.l0 N n x0 x3 (IntKind.i64.wrap (x4 + 1)) (IntKind.i64.wrap (x5 + 1))) else (some [(PV.sc (.int .i64 0))])) else none) else none) else (some [(PV.sc (.int .i64 0))])) else none) else none)) else none) else none) else (if decide ((x0.size : Int) = 0) = true then (some [(PV.sc (.int .i64 0))]) else (if decide (x4 = 0) = true then (some [(PV.sc (.int .i64 1))]) else (if decide (x4 = 1) = true then (if 0 ≤ 0 then (if 0 < (x0.size : Int) then (if decide (((x0.get! 0).toNat : Int) ≤ 90) = true then (some [(PV.sc (.int .i64 2))]) else (if decide (x3 = 0) = true then (some [(PV.sc (.int .i64 3))]) else (some [(PV.sc (.int .i64 4))]))) else none) else none) else (if decide (x3 = 0) = true then (some [(PV.sc (.int .i64 3))]) else (some [(PV.sc (.int .i64 4))]))))) := by kernel_rfl
noncomputable def spec_CaseOf.S (N : Nat) : ASpec := ⟨[(9, .ro)], [(3, .val)], spec_CaseOf.f N⟩
theorem spec_CaseOf.ok (N : Nat) : FnOk Tryz.prog 124 (spec_CaseOf.S N) := fnOk_of (E := spec_CaseOf.E N) mix Tryz.func124 (by kernel_rfl) (by kernel_rfl) (by kernel_rfl) (lk_ok all_nil) (by kernel_rfl) (fun _ _ h => h)

/-! ### spec_CaseLike: function 77, loop.example/medlar/spec.CaseLike -/
noncomputable def spec_CaseLike.E (N : Nat) : Env := ⟨lk [(42, spec_l1Word.S N), (124, spec_CaseOf.S N), (74, spec_l10Upper.S N)], nzk [], N, [], false⟩
noncomputable def spec_CaseLike.f (N : Nat) (a : List PV) : Option Res := run Tryz.prog (spec_CaseLike.E N) Tryz.f77 [(9, .ro), (9, .ro)] [(9, .val)] a
theorem spec_CaseLike.f_eq (N : Nat) (a0 : PV) (a1 : PV) : spec_CaseLike.f N [a0, a1] = (spec_l1Word.f N [(PV.sc (.string a0.toStr))]).bind fun t1 => if (!((t1.headD default).toBool)) = true then (some [(PV.sc (.string (ByteArray.mk #[])))]) else ((spec_CaseOf.f N [(PV.sc (.string a1.toStr))]).bind fun t2 => if decide (((t2.headD default).toInt) = 2) = true then (if 0 ≤ 1 then (if 1 ≤ (a0.toStr.size : Int) then ((spec_l10Upper.f N [(PV.sc (.string (a0.toStr.extract 0 1)))]).bind fun t3 => if 0 ≤ 1 then (if 1 ≤ (a0.toStr.size : Int) then (if ((t3.headD default).toStr).size + (a0.toStr.extract 1 a0.toStr.size).size ≤ 9223372036854775807 then (some [(PV.sc (.string (((t3.headD default).toStr) ++ (a0.toStr.extract 1 a0.toStr.size))))]) else none) else none) else none) else none) else none) else (if decide (((t2.headD default).toInt) = 3) = true then ((spec_l10Upper.f N [(PV.sc (.string a0.toStr))]).bind fun t4 => some [(PV.sc (.string ((t4.headD default).toStr)))]) else (some [(PV.sc (.string a0.toStr))]))) := by kernel_rfl
noncomputable def spec_CaseLike.S (N : Nat) : ASpec := ⟨[(9, .ro), (9, .ro)], [(9, .val)], spec_CaseLike.f N⟩
theorem spec_CaseLike.ok (N : Nat) : FnOk Tryz.prog 77 (spec_CaseLike.S N) := fnOk_of (E := spec_CaseLike.E N) mix Tryz.func77 (by kernel_rfl) (by kernel_rfl) (by kernel_rfl) (lk_ok (all_cons (spec_l1Word.ok N) (all_cons (spec_CaseOf.ok N) (all_cons (spec_l10Upper.ok N) all_nil)))) (by kernel_rfl) (fun _ _ h => h)

/-! ### spec_FixText: function 32, loop.example/medlar/spec.FixText -/
noncomputable def spec_FixText.E (N : Nat) : Env := ⟨lk [(10, spec_UserCheck.S N), (63, spec_BookGuesses.S N), (77, spec_CaseLike.S N)], nzk [(5, ⟨[0, 1, 4, 5, 6, 11, 12, 13, 14, 15, 16, 17, 18, 19, 20, 21, 22, 23, 24, 25, 26, 27, 28, 29, 30, 31, 32, 33, 34, 35, 36, 37, 38, 39, 40, 41, 42, 43, 44, 45, 46, 47, 48, 49, 50, 51, 52, 53, 54, 55, 56, 57, 58, 59, 60, 61, 62, 63, 64, 65, 66, 67, 68], [], []⟩)], N, [], false⟩
noncomputable def spec_FixText.f (N : Nat) (a : List PV) : Option Res := run Tryz.prog (spec_FixText.E N) Tryz.f32 [(26, .ro), (27, .ro), (9, .ro)] [(9, .val)] a
noncomputable def spec_FixText.l0 (N : Nat) (n : Nat) (x2 : ByteArray) (x8 : ByteArray) (x9 : Int) (x10 : Int) (y0_0 : PV) (y0_1 : PV) (y1 : PV) : Option Res := loopAt Tryz.prog (spec_FixText.E N) Tryz.f32 [(9, .val)] [1, 1, 1, 1, 0, 1, 0] [] n ⟨mkSlots 69 [(2, .sc (.string x2)), (3, .ptr 0 []), (7, .ref 1 []), (8, .sc (.string x8)), (9, .sc (.int .i64 x9)), (10, .sc (.int .i64 x10))], ohOf [.box 26 (.agg 26 [.ro 23 y0_0, .ro 24 y0_1]), .row 30 y1]⟩
theorem spec_FixText.f_eq (N : Nat) (a0 : PV) (a1 : PV) (a2 : PV) : spec_FixText.f N [a0, a1, a2] = (spec_UserCheck.f N [(PV.agg [a0.fld 0, a0.fld 1]), a1, (PV.sc (.string a2.toStr))]).bind fun t1 => spec_FixText.l0 N N a2.toStr (ByteArray.mk #[]) 0 0 (a0.fld 0) (a0.fld 1) (t1.headD default) := by kernel_rfl
theorem spec_FixText.l0_eq (N : Nat) (n : Nat) (x2 : ByteArray) (x8 : ByteArray) (x9 : Int) (x10 : Int) (y0_0 : PV) (y0_1 : PV) (y1 : PV) : spec_FixText.l0 N (n + 1) x2 x8 x9 x10 y0_0 y0_1 y1 = if decide (x10 < (y1.items.length : Int)) = true then (if 0 ≤ x10 then (if x10 < (y1.items.length : Int) then ((spec_BookGuesses.f N [(PV.agg [y0_0, y0_1]), (PV.sc (.string (((y1.elem x10.toNat).fld 0).toStr)))]).bind fun t2 => if (!decide ((((t2.headD default).items).length : Int) = 1)) = true then (spec_FixText.l0 N n x2 x8 x9 (IntKind.i64.wrap (x10 + 1)) y0_0 y0_1 y1) else (if 0 ≤ x10 then (if x10 < (y1.items.length : Int) then (if 0 ≤ x10 then (if x10 < (y1.items.length : Int) then (if 0 ≤ x9 then (if x9 ≤ (((y1.elem x10.toNat).fld 1).toInt) then (if (((y1.elem x10.toNat).fld 1).toInt) ≤ (x2.size : Int) then (if x8.size + (x2.extract x9.toNat ((((y1.elem x10.toNat).fld 1).toInt).toNat)).size ≤ 9223372036854775807 then (if 0 ≤ 0 then (if 0 < (((t2.headD default).items).length : Int) then (if 0 ≤ (((y1.elem x10.toNat).fld 1).toInt) then (if (((y1.elem x10.toNat).fld 1).toInt) ≤ (IntKind.i64.wrap ((((y1.elem x10.toNat).fld 1).toInt) + ((((y1.elem x10.toNat).fld 0).toStr).size : Int))) then (if (IntKind.i64.wrap ((((y1.elem x10.toNat).fld 1).toInt) + ((((y1.elem x10.toNat).fld 0).toStr).size : Int))) ≤ (x2.size : Int) then ((spec_CaseLike.f N [(PV.sc (.string ((((t2.headD default).elem 0).fld 0).toStr))), (PV.sc (.string (x2.extract ((((y1.elem x10.toNat).fld 1).toInt).toNat) ((IntKind.i64.wrap ((((y1.elem x10.toNat).fld 1).toInt) + ((((y1.elem x10.toNat).fld 0).toStr).size : Int))).toNat))))]).bind fun t3 => if (x8 ++ (x2.extract x9.toNat ((((y1.elem x10.toNat).fld 1).toInt).toNat))).size + ((t3.headD default).toStr).size ≤ 9223372036854775807 then (spec_FixText.l0 N n x2 ((x8 ++ (x2.extract x9.toNat ((((y1.elem x10.toNat).fld 1).toInt).toNat))) ++ ((t3.headD default).toStr)) (IntKind.i64.wrap ((((y1.elem x10.toNat).fld 1).toInt) + ((((y1.elem x10.toNat).fld 0).toStr).size : Int))) (IntKind.i64.wrap (x10 + 1)) y0_0 y0_1 y1) else none) else none) else none) else none) else none) else none) else none) else none) else none) else none) else none) else none) else none) else none)) else none) else none) else (if 0 ≤ x9 then (if x9 ≤ (x2.size : Int) then (if x8.size + (x2.extract x9.toNat x2.size).size ≤ 9223372036854775807 then (some [(PV.sc (.string (x8 ++ (x2.extract x9.toNat x2.size))))]) else none) else none) else none) := by kernel_rfl
noncomputable def spec_FixText.S (N : Nat) : ASpec := ⟨[(26, .ro), (27, .ro), (9, .ro)], [(9, .val)], spec_FixText.f N⟩
theorem spec_FixText.ok (N : Nat) : FnOk Tryz.prog 32 (spec_FixText.S N) := fnOk_of (E := spec_FixText.E N) mix Tryz.func32 (by kernel_rfl) (by kernel_rfl) (by kernel_rfl) (lk_ok (all_cons (spec_UserCheck.ok N) (all_cons (spec_BookGuesses.ok N) (all_cons (spec_CaseLike.ok N) all_nil)))) (by kernel_rfl) (fun _ _ h => h)

/-! ### laws_FnFixText: function 6, loop.example/medlar/laws.FnFixText -/
noncomputable def laws_FnFixText.E (N : Nat) : Env := ⟨lk [(30, spec_DrawFixText.S N), (31, impl_FixText.S N), (32, spec_FixText.S N), (8, impl_UserCheck.S N), (28, impl_BookGuesses.S N)], nzk [(13, ⟨[0, 1, 2, 4, 11, 12, 13, 14, 15, 16, 17, 18, 19, 20, 21, 22, 23, 24, 25, 26, 27, 28, 29, 30, 31, 32, 33, 34, 35, 36, 37, 38, 39, 40, 41, 42, 43, 44, 45, 46, 47, 48, 49, 50, 51, 52, 53, 54, 55, 56, 57, 58, 59, 60, 61, 62, 63, 64, 65, 66, 67, 68, 69, 70, 71, 72, 73, 74, 75, 76, 77, 78, 79, 80, 81, 82, 83, 84, 85, 86, 87, 88, 89, 90, 91, 92, 93, 94, 95, 96, 97, 98, 99, 100, 101], [], []⟩)], N, [], false⟩
noncomputable def laws_FnFixText.f (N : Nat) (a : List PV) : Option Res := run Tryz.prog (laws_FnFixText.E N) Tryz.f6 [(22, .ro)] [(4, .val)] a
noncomputable def laws_FnFixText.l0 (N : Nat) (n : Nat) (x5 : ByteArray) (x6 : ByteArray) (x8 : Int) (x9 : Int) (x10 : Int) (y1 : PV) (y2 : PV) (y3 : PV) : Option Res := loopAt Tryz.prog (laws_FnFixText.E N) Tryz.f6 [(4, .val)] [1, 1, 1, 1, 1, 1, 1, 1, 1, 0, 1, 0] [] n ⟨mkSlots 102 [(3, .ptr 0 []), (5, .sc (.string x5)), (6, .sc (.string x6)), (7, .ref 1 []), (8, .sc (.int .i64 x8)), (9, .sc (.int .i64 x9)), (10, .sc (.int .i64 x10))], ohOf [.box 26 (.agg 26 [.ref 2 [], .ref 3 []]), .row 30 y1, .row 23 y2, .row 24 y3]⟩
theorem laws_FnFixText.f_eq (N : Nat) (a0 : PV) : laws_FnFixText.f N [a0] = if decide (1048576 < (a0.items.length : Int)) = true then (some [(PV.sc (.bool true))]) else ((spec_DrawFixText.f N [a0]).bind fun t1 => (impl_FixText.f N [(PV.agg [(t1.headD default).fld 0, (t1.headD default).fld 1]), (t1.tail.headD default), (PV.sc (.string ((t1.tail.tail.headD default).toStr)))]).bind fun t2 => (spec_FixText.f N [(PV.agg [(t1.headD default).fld 0, (t1.headD default).fld 1]), (t1.tail.headD default), (PV.sc (.string ((t1.tail.tail.headD default).toStr)))]).bind fun t3 => if (!decide (((t2.headD default).toStr).toList = ((t3.headD default).toStr).toList)) = true then (some [(PV.sc (.bool false))]) else ((impl_UserCheck.f N [(PV.agg [(t1.headD default).fld 0, (t1.headD default).fld 1]), (t1.tail.headD default), (PV.sc (.string ((t1.tail.tail.headD default).toStr)))]).bind fun t4 => if decide ((((t4.headD default).items).length : Int) = 0) = true then (some [(PV.sc (.bool (decide (((t2.headD default).toStr).toList = ((t1.tail.tail.headD default).toStr).toList))))]) else (laws_FnFixText.l0 N N ((t1.tail.tail.headD default).toStr) ((t2.headD default).toStr) 0 0 0 (t4.headD default) ((t1.headD default).fld 0) ((t1.headD default).fld 1)))) := by kernel_rfl
theorem laws_FnFixText.l0_eq (N : Nat) (n : Nat) (x5 : ByteArray) (x6 : ByteArray) (x8 : Int) (x9 : Int) (x10 : Int) (y1 : PV) (y2 : PV) (y3 : PV) : laws_FnFixText.l0 N (n + 1) x5 x6 x8 x9 x10 y1 y2 y3 = if decide (x10 < (y1.items.length : Int)) = true then (if 0 ≤ x10 then (if x10 < (y1.items.length : Int) then ((impl_BookGuesses.f N [(PV.agg [y2, y3]), (PV.sc (.string (((y1.elem x10.toNat).fld 0).toStr)))]).bind fun t5 => if decide ((((t5.headD default).items).length : Int) = 1) = true then (if 0 ≤ 0 then (if 0 < (((t5.headD default).items).length : Int) then (if 0 ≤ x10 then (if x10 < (y1.items.length : Int) then (if 0 ≤ x10 then (if x10 < (y1.items.length : Int) then (laws_FnFixText.l0 N n x5 x6 (IntKind.i64.wrap ((IntKind.i64.wrap (x8 + (((((t5.headD default).elem 0).fld 0).toStr).size : Int))) - ((((y1.elem x10.toNat).fld 0).toStr).size : Int))) (((y1.elem x10.toNat).fld 1).toInt) (IntKind.i64.wrap (x10 + 1)) y1 y2 y3) else none) else none) else none) else none) else none) else none) else (if 0 ≤ x10 then (if x10 < (y1.items.length : Int) then (laws_FnFixText.l0 N n x5 x6 x8 (((y1.elem x10.toNat).fld 1).toInt) (IntKind.i64.wrap (x10 + 1)) y1 y2 y3) else none) else none)) else none) else none) else (if decide ((x6.size : Int) = (IntKind.i64.wrap ((x5.size : Int) + x8))) = true then (if decide (0 ≤ x9) = true then (if 0 ≤ 0 then (if 0 < (y1.items.length : Int) then (if 0 ≤ (((y1.elem 0).fld 1).toInt) then (if (((y1.elem 0).fld 1).toInt) ≤ (x6.size : Int) then (if 0 ≤ 0 then (if 0 < (y1.items.length : Int) then (if 0 ≤ (((y1.elem 0).fld 1).toInt) then (if (((y1.elem 0).fld 1).toInt) ≤ (x5.size : Int) then (some [(PV.sc (.bool (decide ((x6.extract 0 ((((y1.elem 0).fld 1).toInt).toNat)).toList = (x5.extract 0 ((((y1.elem 0).fld 1).toInt).toNat)).toList))))]) else none) else none) else none) else none) else none) else none) else none) else none) else (some [(PV.sc (.bool false))])) else (some [(PV.sc (.bool false))])) := by kernel_rfl
noncomputable def laws_FnFixText.S (N : Nat) : ASpec := ⟨[(22, .ro)], [(4, .val)], laws_FnFixText.f N⟩
theorem laws_FnFixText.ok (N : Nat) : FnOk Tryz.prog 6 (laws_FnFixText.S N) := fnOk_of (E := laws_FnFixText.E N) mix Tryz.func6 (by kernel_rfl) (by kernel_rfl) (by kernel_rfl) (lk_ok (all_cons (spec_DrawFixText.ok N) (all_cons (impl_FixText.ok N) (all_cons (spec_FixText.ok N) (all_cons (impl_UserCheck.ok N) (all_cons (impl_BookGuesses.ok N) all_nil)))))) (by kernel_rfl) (fun _ _ h => h)

end Go.Proofs.YtoiigoflkhmjnaaGreatDoor.FnFixText
