/- The law FnExactCaseLike, over the trees that its functions compute: it answers true, for all arguments of the bounds that the row grants. -/
import Derived.Test.YtoejdiplkaphfaaDoorFnFnExactCaseLikex1
set_option linter.unusedVariables false
set_option linter.unusedSimpArgs false
set_option maxRecDepth 10000
namespace Go.Proofs.YtoejdiplkaphfaaDoor.FnExactCaseLike
open Go Go.Proofs.YtoejdiplkaphfaaDoorAm
/-! #### words -/
def isWord (s : ByteArray) : Bool := decide (1 ≤ s.size ∧ s.size ≤ 12) && (bytesOf s).all fun c => decide (97 ≤ c ∧ c ≤ 122)
def lowB (l : List Int) : Bool := l.all fun c => decide (97 ≤ c ∧ c ≤ 122)
theorem lowB_cons (c : Int) (l : List Int) : lowB (c :: l) = (decide (97 ≤ c ∧ c ≤ 122) && lowB l) := by simp [lowB]
def bLess (a b : ByteArray) : Bool := Op.bytesLess a.toList b.toList
theorem bLess_eq (a b : ByteArray) : Op.bytesLess a.toList b.toList = bLess a b := rfl
/-- Words, ascending, behind one (or none). -/
def ascW : Option ByteArray → List ByteArray → Bool
  | _, [] => true
  | none, c :: rest => isWord c && ascW (some c) rest
  | some q, c :: rest => isWord c && bLess q c && ascW (some c) rest
def wordsM (l : List ByteArray) (most : Int) : Bool := ascW none l && decide ((l.length : Int) ≤ most)
/-- What stands ahead of a place. -/
def Ahead (pre : List ByteArray) (p : Option ByteArray) : Prop := (pre = [] ∧ p = none) ∨ ∃ pre' q, pre = pre' ++ [q] ∧ p = some q
theorem Ahead.next (pre : List ByteArray) (c : ByteArray) : Ahead (pre ++ [c]) (some c) := .inr ⟨pre, c, rfl, rfl⟩
theorem at_prev {xs pre' rest : List ByteArray} {q : ByteArray} (hp : xs = (pre' ++ [q]) ++ rest) (hx : xs.length ≤ 9223372036854775807) :
    IntKind.i64.wrap (((pre' ++ [q]).length : Int) - 1) = (pre'.length : Int) ∧ (pre'.length : Int) < (xs.length : Int) ∧ xs.getD pre'.length ByteArray.empty = q ∧ (0 : Int) < ((pre' ++ [q]).length : Int) := by
  subst hp
  simp only [List.length_append, List.length_cons, List.length_nil] at hx ⊢
  refine ⟨?_, by omega, ?_, by omega⟩
  · rw [wrap_id (by omega) (by omega)]; omega
  · simp
theorem implWithin_val (a b c : Int) (N : Nat) : impl_within.f N [.sc (.int .i64 a), .sc (.int .i64 b), .sc (.int .i64 c)] = some [boolP (decide (b ≤ a ∧ a ≤ c))] := by
  simp only [impl_within.f_eq, strs_len, strs_elem, ints_len, ints_elem, items_list, fld_agg, elem_list, toStr_sc, toInt_sc, toBool_sc, headD_one, nat_int, get_bt, decide_eq_true_eq, decide_eq_false_iff_not, decide_true, decide_false, if_true, if_false, ite_self, Bool.not_true, Bool.not_false, Bool.false_eq_true, Bool.true_eq_false, Bool.true_and, Bool.false_and, Bool.and_true, Bool.and_false, not_true, not_false_iff, Option.bind_some, nn, toList_inj, Bool.not_eq_true', Bool.not_eq_false', Int.le_refl, and_self, true_and, and_true, false_and, and_false, bne_self_eq_false, beq_self_eq_true, Int.reduceEq, Nat.reduceEqDiff, List.length_singleton, List.tail_cons, Int.reduceLE, Int.reduceLT, decide_eq_true_eq]
  by_cases h1 : b ≤ a <;> by_cases h2 : a ≤ c <;> simp only [h1, h2, strs_len, strs_elem, ints_len, ints_elem, items_list, fld_agg, elem_list, toStr_sc, toInt_sc, toBool_sc, headD_one, nat_int, get_bt, decide_eq_true_eq, decide_eq_false_iff_not, decide_true, decide_false, if_true, if_false, ite_self, Bool.not_true, Bool.not_false, Bool.false_eq_true, Bool.true_eq_false, Bool.true_and, Bool.false_and, Bool.and_true, Bool.and_false, not_true, not_false_iff, Option.bind_some, nn, toList_inj, Bool.not_eq_true', Bool.not_eq_false', Int.le_refl, and_self, true_and, and_true, false_and, and_false, bne_self_eq_false, beq_self_eq_true, Int.reduceEq, Nat.reduceEqDiff, List.length_singleton, List.tail_cons, Int.reduceLE, Int.reduceLT, decide_eq_true_eq]
theorem implLower_loop (s : ByteArray) (hs : s.size ≤ 9223372036854775807) : ∀ rest pre : List Int, bytesOf s = pre ++ rest → Ev2 (fun N n => impl_lower.l0 N n s (s.size : Int) (pre.length : Int)) [boolP (lowB rest)] := by
  intro rest
  induction rest with
  | nil =>
    intro pre hp
    refine Ev2.succ ?_
    simp only [impl_lower.l0_eq, at_sizeE hp, strs_len, strs_elem, ints_len, ints_elem, items_list, fld_agg, elem_list, toStr_sc, toInt_sc, toBool_sc, headD_one, nat_int, get_bt, decide_eq_true_eq, decide_eq_false_iff_not, decide_true, decide_false, if_true, if_false, ite_self, Bool.not_true, Bool.not_false, Bool.false_eq_true, Bool.true_eq_false, Bool.true_and, Bool.false_and, Bool.and_true, Bool.and_false, not_true, not_false_iff, Option.bind_some, nn, toList_inj, Bool.not_eq_true', Bool.not_eq_false', Int.le_refl, and_self, true_and, and_true, false_and, and_false, bne_self_eq_false, beq_self_eq_true, Int.reduceEq, Nat.reduceEqDiff, List.length_singleton, List.tail_cons, Int.reduceLE, Int.reduceLT, decide_eq_true_eq]
    exact Ev2.now _
  | cons c rest ih =>
    intro pre hp
    refine Ev2.succ ?_
    simp only [impl_lower.l0_eq, strs_len, strs_elem, ints_len, ints_elem, items_list, fld_agg, elem_list, toStr_sc, toInt_sc, toBool_sc, headD_one, nat_int, get_bt, decide_eq_true_eq, decide_eq_false_iff_not, decide_true, decide_false, if_true, if_false, ite_self, Bool.not_true, Bool.not_false, Bool.false_eq_true, Bool.true_eq_false, Bool.true_and, Bool.false_and, Bool.and_true, Bool.and_false, not_true, not_false_iff, Option.bind_some, nn, toList_inj, Bool.not_eq_true', Bool.not_eq_false', Int.le_refl, and_self, true_and, and_true, false_and, and_false, bne_self_eq_false, beq_self_eq_true, Int.reduceEq, Nat.reduceEqDiff, List.length_singleton, List.tail_cons, Int.reduceLE, Int.reduceLT, decide_eq_true_eq, at_size hp, at_bt hp, at_next hp (by rw [bytesOf_len]; omega)]
    rw [lowB_cons]
    by_cases h1 : c < 97
    · simp only [h1, eq_false (show ¬ (97 ≤ c ∧ c ≤ 122) by omega), strs_len, strs_elem, ints_len, ints_elem, items_list, fld_agg, elem_list, toStr_sc, toInt_sc, toBool_sc, headD_one, nat_int, get_bt, decide_eq_true_eq, decide_eq_false_iff_not, decide_true, decide_false, if_true, if_false, ite_self, Bool.not_true, Bool.not_false, Bool.false_eq_true, Bool.true_eq_false, Bool.true_and, Bool.false_and, Bool.and_true, Bool.and_false, not_true, not_false_iff, Option.bind_some, nn, toList_inj, Bool.not_eq_true', Bool.not_eq_false', Int.le_refl, and_self, true_and, and_true, false_and, and_false, bne_self_eq_false, beq_self_eq_true, Int.reduceEq, Nat.reduceEqDiff, List.length_singleton, List.tail_cons, Int.reduceLE, Int.reduceLT, decide_eq_true_eq]; exact Ev2.now _
    by_cases h2 : 122 < c
    · simp only [h1, h2, eq_false (show ¬ (97 ≤ c ∧ c ≤ 122) by omega), strs_len, strs_elem, ints_len, ints_elem, items_list, fld_agg, elem_list, toStr_sc, toInt_sc, toBool_sc, headD_one, nat_int, get_bt, decide_eq_true_eq, decide_eq_false_iff_not, decide_true, decide_false, if_true, if_false, ite_self, Bool.not_true, Bool.not_false, Bool.false_eq_true, Bool.true_eq_false, Bool.true_and, Bool.false_and, Bool.and_true, Bool.and_false, not_true, not_false_iff, Option.bind_some, nn, toList_inj, Bool.not_eq_true', Bool.not_eq_false', Int.le_refl, and_self, true_and, and_true, false_and, and_false, bne_self_eq_false, beq_self_eq_true, Int.reduceEq, Nat.reduceEqDiff, List.length_singleton, List.tail_cons, Int.reduceLE, Int.reduceLT, decide_eq_true_eq]; exact Ev2.now _
    simp only [h1, h2, eq_true (show (97 ≤ c ∧ c ≤ 122) by omega), strs_len, strs_elem, ints_len, ints_elem, items_list, fld_agg, elem_list, toStr_sc, toInt_sc, toBool_sc, headD_one, nat_int, get_bt, decide_eq_true_eq, decide_eq_false_iff_not, decide_true, decide_false, if_true, if_false, ite_self, Bool.not_true, Bool.not_false, Bool.false_eq_true, Bool.true_eq_false, Bool.true_and, Bool.false_and, Bool.and_true, Bool.and_false, not_true, not_false_iff, Option.bind_some, nn, toList_inj, Bool.not_eq_true', Bool.not_eq_false', Int.le_refl, and_self, true_and, and_true, false_and, and_false, bne_self_eq_false, beq_self_eq_true, Int.reduceEq, Nat.reduceEqDiff, List.length_singleton, List.tail_cons, Int.reduceLE, Int.reduceLT, decide_eq_true_eq]
    exact ih _ (at_step hp)
theorem implLower_ev (s : ByteArray) (hs : s.size ≤ 9223372036854775807) : Ev (fun N => impl_lower.f N [strP s]) [boolP (lowB (bytesOf s))] := by
  simp only [impl_lower.f_eq, strs_len, strs_elem, ints_len, ints_elem, items_list, fld_agg, elem_list, toStr_sc, toInt_sc, toBool_sc, headD_one, nat_int, get_bt, decide_eq_true_eq, decide_eq_false_iff_not, decide_true, decide_false, if_true, if_false, ite_self, Bool.not_true, Bool.not_false, Bool.false_eq_true, Bool.true_eq_false, Bool.true_and, Bool.false_and, Bool.and_true, Bool.and_false, not_true, not_false_iff, Option.bind_some, nn, toList_inj, Bool.not_eq_true', Bool.not_eq_false', Int.le_refl, and_self, true_and, and_true, false_and, and_false, bne_self_eq_false, beq_self_eq_true, Int.reduceEq, Nat.reduceEqDiff, List.length_singleton, List.tail_cons, Int.reduceLE, Int.reduceLT, decide_eq_true_eq]
  exact (implLower_loop s hs (bytesOf s) [] rfl).diag
theorem implWord_ev (s : ByteArray) (hs : s.size ≤ 9223372036854775807) : Ev (fun N => impl_WordOk.f N [strP s]) [boolP (isWord s)] := by
  simp only [impl_WordOk.f_eq, implWithin_val, strs_len, strs_elem, ints_len, ints_elem, items_list, fld_agg, elem_list, toStr_sc, toInt_sc, toBool_sc, headD_one, nat_int, get_bt, decide_eq_true_eq, decide_eq_false_iff_not, decide_true, decide_false, if_true, if_false, ite_self, Bool.not_true, Bool.not_false, Bool.false_eq_true, Bool.true_eq_false, Bool.true_and, Bool.false_and, Bool.and_true, Bool.and_false, not_true, not_false_iff, Option.bind_some, nn, toList_inj, Bool.not_eq_true', Bool.not_eq_false', Int.le_refl, and_self, true_and, and_true, false_and, and_false, bne_self_eq_false, beq_self_eq_true, Int.reduceEq, Nat.reduceEqDiff, List.length_singleton, List.tail_cons, Int.reduceLE, Int.reduceLT, decide_eq_true_eq]
  by_cases h : 1 ≤ s.size ∧ s.size ≤ 12
  · simp only [eq_true (show (1 : Int) ≤ s.size ∧ (s.size : Int) ≤ 12 by omega), strs_len, strs_elem, ints_len, ints_elem, items_list, fld_agg, elem_list, toStr_sc, toInt_sc, toBool_sc, headD_one, nat_int, get_bt, decide_eq_true_eq, decide_eq_false_iff_not, decide_true, decide_false, if_true, if_false, ite_self, Bool.not_true, Bool.not_false, Bool.false_eq_true, Bool.true_eq_false, Bool.true_and, Bool.false_and, Bool.and_true, Bool.and_false, not_true, not_false_iff, Option.bind_some, nn, toList_inj, Bool.not_eq_true', Bool.not_eq_false', Int.le_refl, and_self, true_and, and_true, false_and, and_false, bne_self_eq_false, beq_self_eq_true, Int.reduceEq, Nat.reduceEqDiff, List.length_singleton, List.tail_cons, Int.reduceLE, Int.reduceLT, decide_eq_true_eq]
    refine Ev.bind (implLower_ev s hs) ?_
    refine Ev.ext (Ev.now _) ?_
    unfold isWord
    rw [decide_eq_true h, Bool.true_and]
    rfl
  · simp only [eq_false (show ¬ ((1 : Int) ≤ s.size ∧ (s.size : Int) ≤ 12) by omega), strs_len, strs_elem, ints_len, ints_elem, items_list, fld_agg, elem_list, toStr_sc, toInt_sc, toBool_sc, headD_one, nat_int, get_bt, decide_eq_true_eq, decide_eq_false_iff_not, decide_true, decide_false, if_true, if_false, ite_self, Bool.not_true, Bool.not_false, Bool.false_eq_true, Bool.true_eq_false, Bool.true_and, Bool.false_and, Bool.and_true, Bool.and_false, not_true, not_false_iff, Option.bind_some, nn, toList_inj, Bool.not_eq_true', Bool.not_eq_false', Int.le_refl, and_self, true_and, and_true, false_and, and_false, bne_self_eq_false, beq_self_eq_true, Int.reduceEq, Nat.reduceEqDiff, List.length_singleton, List.tail_cons, Int.reduceLE, Int.reduceLT, decide_eq_true_eq]
    refine Ev.ext (Ev.now _) ?_
    unfold isWord
    rw [decide_eq_false h, Bool.false_and]
theorem specLetters_loop (s : ByteArray) (hs : s.size ≤ 9223372036854775807) (m : Int) : ∀ rest pre : List Int, bytesOf s = pre ++ rest → Ev2 (fun N n => spec_l1Letters.l0 N n s m (pre.length : Int)) [boolP (lowB rest && decide ((s.size : Int) ≤ m))] := by
  intro rest
  induction rest with
  | nil =>
    intro pre hp
    refine Ev2.succ ?_
    simp only [spec_l1Letters.l0_eq, at_sizeE hp, lowB, List.all_nil, strs_len, strs_elem, ints_len, ints_elem, items_list, fld_agg, elem_list, toStr_sc, toInt_sc, toBool_sc, headD_one, nat_int, get_bt, decide_eq_true_eq, decide_eq_false_iff_not, decide_true, decide_false, if_true, if_false, ite_self, Bool.not_true, Bool.not_false, Bool.false_eq_true, Bool.true_eq_false, Bool.true_and, Bool.false_and, Bool.and_true, Bool.and_false, not_true, not_false_iff, Option.bind_some, nn, toList_inj, Bool.not_eq_true', Bool.not_eq_false', Int.le_refl, and_self, true_and, and_true, false_and, and_false, bne_self_eq_false, beq_self_eq_true, Int.reduceEq, Nat.reduceEqDiff, List.length_singleton, List.tail_cons, Int.reduceLE, Int.reduceLT, decide_eq_true_eq]
    exact Ev2.now _
  | cons c rest ih =>
    intro pre hp
    refine Ev2.succ ?_
    simp only [spec_l1Letters.l0_eq, strs_len, strs_elem, ints_len, ints_elem, items_list, fld_agg, elem_list, toStr_sc, toInt_sc, toBool_sc, headD_one, nat_int, get_bt, decide_eq_true_eq, decide_eq_false_iff_not, decide_true, decide_false, if_true, if_false, ite_self, Bool.not_true, Bool.not_false, Bool.false_eq_true, Bool.true_eq_false, Bool.true_and, Bool.false_and, Bool.and_true, Bool.and_false, not_true, not_false_iff, Option.bind_some, nn, toList_inj, Bool.not_eq_true', Bool.not_eq_false', Int.le_refl, and_self, true_and, and_true, false_and, and_false, bne_self_eq_false, beq_self_eq_true, Int.reduceEq, Nat.reduceEqDiff, List.length_singleton, List.tail_cons, Int.reduceLE, Int.reduceLT, decide_eq_true_eq, at_size hp, at_bt hp, at_next hp (by rw [bytesOf_len]; omega)]
    rw [lowB_cons]
    by_cases h1 : c < 97
    · simp only [h1, eq_false (show ¬ (97 ≤ c ∧ c ≤ 122) by omega), strs_len, strs_elem, ints_len, ints_elem, items_list, fld_agg, elem_list, toStr_sc, toInt_sc, toBool_sc, headD_one, nat_int, get_bt, decide_eq_true_eq, decide_eq_false_iff_not, decide_true, decide_false, if_true, if_false, ite_self, Bool.not_true, Bool.not_false, Bool.false_eq_true, Bool.true_eq_false, Bool.true_and, Bool.false_and, Bool.and_true, Bool.and_false, not_true, not_false_iff, Option.bind_some, nn, toList_inj, Bool.not_eq_true', Bool.not_eq_false', Int.le_refl, and_self, true_and, and_true, false_and, and_false, bne_self_eq_false, beq_self_eq_true, Int.reduceEq, Nat.reduceEqDiff, List.length_singleton, List.tail_cons, Int.reduceLE, Int.reduceLT, decide_eq_true_eq]; exact Ev2.now _
    by_cases h2 : 122 < c
    · simp only [h1, h2, eq_false (show ¬ (97 ≤ c ∧ c ≤ 122) by omega), strs_len, strs_elem, ints_len, ints_elem, items_list, fld_agg, elem_list, toStr_sc, toInt_sc, toBool_sc, headD_one, nat_int, get_bt, decide_eq_true_eq, decide_eq_false_iff_not, decide_true, decide_false, if_true, if_false, ite_self, Bool.not_true, Bool.not_false, Bool.false_eq_true, Bool.true_eq_false, Bool.true_and, Bool.false_and, Bool.and_true, Bool.and_false, not_true, not_false_iff, Option.bind_some, nn, toList_inj, Bool.not_eq_true', Bool.not_eq_false', Int.le_refl, and_self, true_and, and_true, false_and, and_false, bne_self_eq_false, beq_self_eq_true, Int.reduceEq, Nat.reduceEqDiff, List.length_singleton, List.tail_cons, Int.reduceLE, Int.reduceLT, decide_eq_true_eq]; exact Ev2.now _
    simp only [h1, h2, eq_true (show (97 ≤ c ∧ c ≤ 122) by omega), strs_len, strs_elem, ints_len, ints_elem, items_list, fld_agg, elem_list, toStr_sc, toInt_sc, toBool_sc, headD_one, nat_int, get_bt, decide_eq_true_eq, decide_eq_false_iff_not, decide_true, decide_false, if_true, if_false, ite_self, Bool.not_true, Bool.not_false, Bool.false_eq_true, Bool.true_eq_false, Bool.true_and, Bool.false_and, Bool.and_true, Bool.and_false, not_true, not_false_iff, Option.bind_some, nn, toList_inj, Bool.not_eq_true', Bool.not_eq_false', Int.le_refl, and_self, true_and, and_true, false_and, and_false, bne_self_eq_false, beq_self_eq_true, Int.reduceEq, Nat.reduceEqDiff, List.length_singleton, List.tail_cons, Int.reduceLE, Int.reduceLT, decide_eq_true_eq]
    exact ih _ (at_step hp)
theorem specLetters_ev (s : ByteArray) (hs : s.size ≤ 9223372036854775807) (m : Int) : Ev (fun N => spec_l1Letters.f N [strP s, intP m]) [boolP (lowB (bytesOf s) && decide ((s.size : Int) ≤ m))] := by
  simp only [spec_l1Letters.f_eq, strs_len, strs_elem, ints_len, ints_elem, items_list, fld_agg, elem_list, toStr_sc, toInt_sc, toBool_sc, headD_one, nat_int, get_bt, decide_eq_true_eq, decide_eq_false_iff_not, decide_true, decide_false, if_true, if_false, ite_self, Bool.not_true, Bool.not_false, Bool.false_eq_true, Bool.true_eq_false, Bool.true_and, Bool.false_and, Bool.and_true, Bool.and_false, not_true, not_false_iff, Option.bind_some, nn, toList_inj, Bool.not_eq_true', Bool.not_eq_false', Int.le_refl, and_self, true_and, and_true, false_and, and_false, bne_self_eq_false, beq_self_eq_true, Int.reduceEq, Nat.reduceEqDiff, List.length_singleton, List.tail_cons, Int.reduceLE, Int.reduceLT, decide_eq_true_eq]
  exact (specLetters_loop s hs m (bytesOf s) [] rfl).diag
theorem specWord_ev (s : ByteArray) (hs : s.size ≤ 9223372036854775807) : Ev (fun N => spec_l1Word.f N [strP s]) [boolP (isWord s)] := by
  simp only [spec_l1Word.f_eq, strs_len, strs_elem, ints_len, ints_elem, items_list, fld_agg, elem_list, toStr_sc, toInt_sc, toBool_sc, headD_one, nat_int, get_bt, decide_eq_true_eq, decide_eq_false_iff_not, decide_true, decide_false, if_true, if_false, ite_self, Bool.not_true, Bool.not_false, Bool.false_eq_true, Bool.true_eq_false, Bool.true_and, Bool.false_and, Bool.and_true, Bool.and_false, not_true, not_false_iff, Option.bind_some, nn, toList_inj, Bool.not_eq_true', Bool.not_eq_false', Int.le_refl, and_self, true_and, and_true, false_and, and_false, bne_self_eq_false, beq_self_eq_true, Int.reduceEq, Nat.reduceEqDiff, List.length_singleton, List.tail_cons, Int.reduceLE, Int.reduceLT, decide_eq_true_eq]
  by_cases h : (0 : Int) < (s.size : Int)
  · simp only [h, strs_len, strs_elem, ints_len, ints_elem, items_list, fld_agg, elem_list, toStr_sc, toInt_sc, toBool_sc, headD_one, nat_int, get_bt, decide_eq_true_eq, decide_eq_false_iff_not, decide_true, decide_false, if_true, if_false, ite_self, Bool.not_true, Bool.not_false, Bool.false_eq_true, Bool.true_eq_false, Bool.true_and, Bool.false_and, Bool.and_true, Bool.and_false, not_true, not_false_iff, Option.bind_some, nn, toList_inj, Bool.not_eq_true', Bool.not_eq_false', Int.le_refl, and_self, true_and, and_true, false_and, and_false, bne_self_eq_false, beq_self_eq_true, Int.reduceEq, Nat.reduceEqDiff, List.length_singleton, List.tail_cons, Int.reduceLE, Int.reduceLT, decide_eq_true_eq]
    refine Ev.bind (specLetters_ev s hs 12) ?_
    refine Ev.ext (Ev.now _) ?_
    simp only [strs_len, strs_elem, ints_len, ints_elem, items_list, fld_agg, elem_list, toStr_sc, toInt_sc, toBool_sc, headD_one, nat_int, get_bt, decide_eq_true_eq, decide_eq_false_iff_not, decide_true, decide_false, if_true, if_false, ite_self, Bool.not_true, Bool.not_false, Bool.false_eq_true, Bool.true_eq_false, Bool.true_and, Bool.false_and, Bool.and_true, Bool.and_false, not_true, not_false_iff, Option.bind_some, nn, toList_inj, Bool.not_eq_true', Bool.not_eq_false', Int.le_refl, and_self, true_and, and_true, false_and, and_false, bne_self_eq_false, beq_self_eq_true, Int.reduceEq, Nat.reduceEqDiff, List.length_singleton, List.tail_cons, Int.reduceLE, Int.reduceLT, decide_eq_true_eq]
    unfold isWord
    rw [Bool.and_comm]
    show [boolP (_ && lowB _)] = [boolP (decide _ && lowB _)]
    have : decide ((s.size : Int) ≤ 12) = decide (1 ≤ s.size ∧ s.size ≤ 12) := decide_eq_decide.2 (by omega)
    rw [this]
  · simp only [h, strs_len, strs_elem, ints_len, ints_elem, items_list, fld_agg, elem_list, toStr_sc, toInt_sc, toBool_sc, headD_one, nat_int, get_bt, decide_eq_true_eq, decide_eq_false_iff_not, decide_true, decide_false, if_true, if_false, ite_self, Bool.not_true, Bool.not_false, Bool.false_eq_true, Bool.true_eq_false, Bool.true_and, Bool.false_and, Bool.and_true, Bool.and_false, not_true, not_false_iff, Option.bind_some, nn, toList_inj, Bool.not_eq_true', Bool.not_eq_false', Int.le_refl, and_self, true_and, and_true, false_and, and_false, bne_self_eq_false, beq_self_eq_true, Int.reduceEq, Nat.reduceEqDiff, List.length_singleton, List.tail_cons, Int.reduceLE, Int.reduceLT, decide_eq_true_eq]
    refine Ev.ext (Ev.now _) ?_
    unfold isWord
    rw [decide_eq_false (show ¬ (1 ≤ s.size ∧ s.size ≤ 12) by omega), Bool.false_and]
/-! #### the case of a text -/
def isLow (c : Int) : Prop := 97 ≤ c ∧ c ≤ 122
instance (c : Int) : Decidable (isLow c) := inferInstanceAs (Decidable (_ ∧ _))
def isUp (c : Int) : Prop := 65 ≤ c ∧ c ≤ 90
instance (c : Int) : Decidable (isUp c) := inferInstanceAs (Decidable (_ ∧ _))
def lows (l : List Int) : Nat := (l.filter fun c => decide (isLow c)).length
def ups (l : List Int) : Nat := (l.filter fun c => decide (isUp c)).length
def letters (l : List Int) : Bool := l.all fun c => decide (isLow c ∨ isUp c)
def caseM (l : List Int) : Int :=
  if letters l = false then 0 else if l = [] then 0 else if ups l = 0 then 1 else if ups l = 1 ∧ isUp (l.getD 0 0) then 2 else if ups l = l.length then 3 else 4
theorem lows_cons (c : Int) (l : List Int) : lows (c :: l) = (if isLow c then 1 else 0) + lows l := by
  unfold lows
  by_cases h : isLow c <;> simp [List.filter_cons, h]
  omega
theorem ups_cons (c : Int) (l : List Int) : ups (c :: l) = (if isUp c then 1 else 0) + ups l := by
  unfold ups
  by_cases h : isUp c <;> simp [List.filter_cons, h]
  omega
theorem letters_cons (c : Int) (l : List Int) : letters (c :: l) = (decide (isLow c ∨ isUp c) && letters l) := by simp [letters]
theorem counts_len (l : List Int) (h : letters l = true) : lows l + ups l = l.length := by
  induction l with
  | nil => rfl
  | cons c l ih =>
    rw [letters_cons, Bool.and_eq_true, decide_eq_true_eq] at h
    have := ih h.2
    rw [lows_cons, ups_cons, List.length_cons]
    have hx : ¬ (isLow c ∧ isUp c) := by unfold isLow isUp; omega
    rcases h.1 with h1 | h1
    · rw [if_pos h1, if_neg (fun h2 => hx ⟨h1, h2⟩)]; omega
    · rw [if_neg (fun h2 => hx ⟨h2, h1⟩), if_pos h1]; omega
theorem implUpper_val (k : IntKind) (c : Int) (N : Nat) : impl_upper.f N [.sc (.int k c)] = some [boolP (decide (isUp c))] := by
  simp only [impl_upper.f_eq, strs_len, strs_elem, ints_len, ints_elem, items_list, fld_agg, elem_list, toStr_sc, toInt_sc, toBool_sc, headD_one, nat_int, get_bt, decide_eq_true_eq, decide_eq_false_iff_not, decide_true, decide_false, if_true, if_false, ite_self, Bool.not_true, Bool.not_false, Bool.false_eq_true, Bool.true_eq_false, Bool.true_and, Bool.false_and, Bool.and_true, Bool.and_false, not_true, not_false_iff, Option.bind_some, nn, toList_inj, Bool.not_eq_true', Bool.not_eq_false', Int.le_refl, and_self, true_and, and_true, false_and, and_false, bne_self_eq_false, beq_self_eq_true, Int.reduceEq, Nat.reduceEqDiff, List.length_singleton, List.tail_cons, Int.reduceLE, Int.reduceLT, decide_eq_true_eq]
  by_cases h1 : 65 ≤ c <;> by_cases h2 : c ≤ 90 <;> simp [h1, h2, isUp]
theorem implLetter_val (k : IntKind) (c : Int) (N : Nat) : impl_letter.f N [.sc (.int k c)] = some [boolP (decide (isLow c ∨ isUp c))] := by
  simp only [impl_letter.f_eq, implUpper_val, strs_len, strs_elem, ints_len, ints_elem, items_list, fld_agg, elem_list, toStr_sc, toInt_sc, toBool_sc, headD_one, nat_int, get_bt, decide_eq_true_eq, decide_eq_false_iff_not, decide_true, decide_false, if_true, if_false, ite_self, Bool.not_true, Bool.not_false, Bool.false_eq_true, Bool.true_eq_false, Bool.true_and, Bool.false_and, Bool.and_true, Bool.and_false, not_true, not_false_iff, Option.bind_some, nn, toList_inj, Bool.not_eq_true', Bool.not_eq_false', Int.le_refl, and_self, true_and, and_true, false_and, and_false, bne_self_eq_false, beq_self_eq_true, Int.reduceEq, Nat.reduceEqDiff, List.length_singleton, List.tail_cons, Int.reduceLE, Int.reduceLT, decide_eq_true_eq]
  by_cases h1 : 97 ≤ c <;> by_cases h2 : c ≤ 122 <;> simp [h1, h2, isLow, boolP, PV.toBool, List.headD]
theorem add_one {n m : Nat} (h : n ≤ m) (hm : m < 9223372036854775807) : IntKind.i64.wrap ((n : Int) + 1) = ((n + 1 : Nat) : Int) := by
  rw [wrap_id (by omega) (by omega)]; omega
theorem specCase_loop (s : ByteArray) (hs : s.size ≤ 9223372036854775807) : ∀ (rest pre : List Int), bytesOf s = pre ++ rest →
    ∀ lo up : Nat, lo ≤ pre.length → up ≤ pre.length →
    Ev2 (fun N n => spec_CaseOf.l0 N n s (lo : Int) (up : Int) (pre.length : Int)) [intP (if letters rest = false then 0 else if s.size = 0 then 0 else if up + ups rest = 0 then 1 else if up + ups rest = 1 ∧ bt s 0 ≤ 90 then 2 else if lo + lows rest = 0 then 3 else 4)] := by
  intro rest
  induction rest with
  | nil =>
    intro pre hp lo up h1 h2
    have hl : pre.length = s.size := by have := congrArg List.length hp; rw [bytesOf_len] at this; simp at this; omega
    have e1 : ups [] = 0 := rfl
    have e2 : lows [] = 0 := rfl
    have e3 : letters [] = true := rfl
    refine Ev2.succ ?_
    simp only [spec_CaseOf.l0_eq, at_sizeE hp, e1, e2, e3, strs_len, strs_elem, ints_len, ints_elem, items_list, fld_agg, elem_list, toStr_sc, toInt_sc, toBool_sc, headD_one, nat_int, get_bt, decide_eq_true_eq, decide_eq_false_iff_not, decide_true, decide_false, if_true, if_false, ite_self, Bool.not_true, Bool.not_false, Bool.false_eq_true, Bool.true_eq_false, Bool.true_and, Bool.false_and, Bool.and_true, Bool.and_false, not_true, not_false_iff, Option.bind_some, nn, toList_inj, Bool.not_eq_true', Bool.not_eq_false', Int.le_refl, and_self, true_and, and_true, false_and, and_false, bne_self_eq_false, beq_self_eq_true, Int.reduceEq, Nat.reduceEqDiff, List.length_singleton, List.tail_cons, Int.reduceLE, Int.reduceLT, decide_eq_true_eq, Nat.add_zero]
    by_cases c0 : s.size = 0
    · have c0' : (s.size : Int) = 0 := by omega
      simp only [c0, c0', strs_len, strs_elem, ints_len, ints_elem, items_list, fld_agg, elem_list, toStr_sc, toInt_sc, toBool_sc, headD_one, nat_int, get_bt, decide_eq_true_eq, decide_eq_false_iff_not, decide_true, decide_false, if_true, if_false, ite_self, Bool.not_true, Bool.not_false, Bool.false_eq_true, Bool.true_eq_false, Bool.true_and, Bool.false_and, Bool.and_true, Bool.and_false, not_true, not_false_iff, Option.bind_some, nn, toList_inj, Bool.not_eq_true', Bool.not_eq_false', Int.le_refl, and_self, true_and, and_true, false_and, and_false, bne_self_eq_false, beq_self_eq_true, Int.reduceEq, Nat.reduceEqDiff, List.length_singleton, List.tail_cons, Int.reduceLE, Int.reduceLT, decide_eq_true_eq]; exact Ev2.now _
    have c0' : ¬ (s.size : Int) = 0 := by omega
    have cp : (0 : Int) < s.size := by omega
    by_cases c1 : up = 0
    · have c1' : (up : Int) = 0 := by omega
      simp only [c0, c0', c1, c1', strs_len, strs_elem, ints_len, ints_elem, items_list, fld_agg, elem_list, toStr_sc, toInt_sc, toBool_sc, headD_one, nat_int, get_bt, decide_eq_true_eq, decide_eq_false_iff_not, decide_true, decide_false, if_true, if_false, ite_self, Bool.not_true, Bool.not_false, Bool.false_eq_true, Bool.true_eq_false, Bool.true_and, Bool.false_and, Bool.and_true, Bool.and_false, not_true, not_false_iff, Option.bind_some, nn, toList_inj, Bool.not_eq_true', Bool.not_eq_false', Int.le_refl, and_self, true_and, and_true, false_and, and_false, bne_self_eq_false, beq_self_eq_true, Int.reduceEq, Nat.reduceEqDiff, List.length_singleton, List.tail_cons, Int.reduceLE, Int.reduceLT, decide_eq_true_eq]; exact Ev2.now _
    have c1' : ¬ (up : Int) = 0 := by omega
    by_cases c4 : lo = 0
    · have c4' : (lo : Int) = 0 := by omega
      by_cases c2 : up = 1
      · have c2' : (up : Int) = 1 := by omega
        by_cases c3 : bt s 0 ≤ 90
        · simp only [c0, c0', cp, c1, c1', c2, c2', c3, c4, c4', strs_len, strs_elem, ints_len, ints_elem, items_list, fld_agg, elem_list, toStr_sc, toInt_sc, toBool_sc, headD_one, nat_int, get_bt, decide_eq_true_eq, decide_eq_false_iff_not, decide_true, decide_false, if_true, if_false, ite_self, Bool.not_true, Bool.not_false, Bool.false_eq_true, Bool.true_eq_false, Bool.true_and, Bool.false_and, Bool.and_true, Bool.and_false, not_true, not_false_iff, Option.bind_some, nn, toList_inj, Bool.not_eq_true', Bool.not_eq_false', Int.le_refl, and_self, true_and, and_true, false_and, and_false, bne_self_eq_false, beq_self_eq_true, Int.reduceEq, Nat.reduceEqDiff, List.length_singleton, List.tail_cons, Int.reduceLE, Int.reduceLT, decide_eq_true_eq]; exact Ev2.now _
        · simp only [c0, c0', cp, c1, c1', c2, c2', c3, c4, c4', strs_len, strs_elem, ints_len, ints_elem, items_list, fld_agg, elem_list, toStr_sc, toInt_sc, toBool_sc, headD_one, nat_int, get_bt, decide_eq_true_eq, decide_eq_false_iff_not, decide_true, decide_false, if_true, if_false, ite_self, Bool.not_true, Bool.not_false, Bool.false_eq_true, Bool.true_eq_false, Bool.true_and, Bool.false_and, Bool.and_true, Bool.and_false, not_true, not_false_iff, Option.bind_some, nn, toList_inj, Bool.not_eq_true', Bool.not_eq_false', Int.le_refl, and_self, true_and, and_true, false_and, and_false, bne_self_eq_false, beq_self_eq_true, Int.reduceEq, Nat.reduceEqDiff, List.length_singleton, List.tail_cons, Int.reduceLE, Int.reduceLT, decide_eq_true_eq]; exact Ev2.now _
      · have c2' : ¬ (up : Int) = 1 := by omega
        simp only [c0, c0', cp, c1, c1', c2, c2', c4, c4', strs_len, strs_elem, ints_len, ints_elem, items_list, fld_agg, elem_list, toStr_sc, toInt_sc, toBool_sc, headD_one, nat_int, get_bt, decide_eq_true_eq, decide_eq_false_iff_not, decide_true, decide_false, if_true, if_false, ite_self, Bool.not_true, Bool.not_false, Bool.false_eq_true, Bool.true_eq_false, Bool.true_and, Bool.false_and, Bool.and_true, Bool.and_false, not_true, not_false_iff, Option.bind_some, nn, toList_inj, Bool.not_eq_true', Bool.not_eq_false', Int.le_refl, and_self, true_and, and_true, false_and, and_false, bne_self_eq_false, beq_self_eq_true, Int.reduceEq, Nat.reduceEqDiff, List.length_singleton, List.tail_cons, Int.reduceLE, Int.reduceLT, decide_eq_true_eq]; exact Ev2.now _
    · have c4' : ¬ (lo : Int) = 0 := by omega
      by_cases c2 : up = 1
      · have c2' : (up : Int) = 1 := by omega
        by_cases c3 : bt s 0 ≤ 90
        · simp only [c0, c0', cp, c1, c1', c2, c2', c3, c4, c4', strs_len, strs_elem, ints_len, ints_elem, items_list, fld_agg, elem_list, toStr_sc, toInt_sc, toBool_sc, headD_one, nat_int, get_bt, decide_eq_true_eq, decide_eq_false_iff_not, decide_true, decide_false, if_true, if_false, ite_self, Bool.not_true, Bool.not_false, Bool.false_eq_true, Bool.true_eq_false, Bool.true_and, Bool.false_and, Bool.and_true, Bool.and_false, not_true, not_false_iff, Option.bind_some, nn, toList_inj, Bool.not_eq_true', Bool.not_eq_false', Int.le_refl, and_self, true_and, and_true, false_and, and_false, bne_self_eq_false, beq_self_eq_true, Int.reduceEq, Nat.reduceEqDiff, List.length_singleton, List.tail_cons, Int.reduceLE, Int.reduceLT, decide_eq_true_eq]; exact Ev2.now _
        · simp only [c0, c0', cp, c1, c1', c2, c2', c3, c4, c4', strs_len, strs_elem, ints_len, ints_elem, items_list, fld_agg, elem_list, toStr_sc, toInt_sc, toBool_sc, headD_one, nat_int, get_bt, decide_eq_true_eq, decide_eq_false_iff_not, decide_true, decide_false, if_true, if_false, ite_self, Bool.not_true, Bool.not_false, Bool.false_eq_true, Bool.true_eq_false, Bool.true_and, Bool.false_and, Bool.and_true, Bool.and_false, not_true, not_false_iff, Option.bind_some, nn, toList_inj, Bool.not_eq_true', Bool.not_eq_false', Int.le_refl, and_self, true_and, and_true, false_and, and_false, bne_self_eq_false, beq_self_eq_true, Int.reduceEq, Nat.reduceEqDiff, List.length_singleton, List.tail_cons, Int.reduceLE, Int.reduceLT, decide_eq_true_eq]; exact Ev2.now _
      · have c2' : ¬ (up : Int) = 1 := by omega
        simp only [c0, c0', cp, c1, c1', c2, c2', c4, c4', strs_len, strs_elem, ints_len, ints_elem, items_list, fld_agg, elem_list, toStr_sc, toInt_sc, toBool_sc, headD_one, nat_int, get_bt, decide_eq_true_eq, decide_eq_false_iff_not, decide_true, decide_false, if_true, if_false, ite_self, Bool.not_true, Bool.not_false, Bool.false_eq_true, Bool.true_eq_false, Bool.true_and, Bool.false_and, Bool.and_true, Bool.and_false, not_true, not_false_iff, Option.bind_some, nn, toList_inj, Bool.not_eq_true', Bool.not_eq_false', Int.le_refl, and_self, true_and, and_true, false_and, and_false, bne_self_eq_false, beq_self_eq_true, Int.reduceEq, Nat.reduceEqDiff, List.length_singleton, List.tail_cons, Int.reduceLE, Int.reduceLT, decide_eq_true_eq]; exact Ev2.now _
  | cons c rest ih =>
    intro pre hp lo up h1 h2
    have hlt := at_size hp
    have hn : (pre ++ [c]).length = pre.length + 1 := by simp
    refine Ev2.succ ?_
    simp only [spec_CaseOf.l0_eq, strs_len, strs_elem, ints_len, ints_elem, items_list, fld_agg, elem_list, toStr_sc, toInt_sc, toBool_sc, headD_one, nat_int, get_bt, decide_eq_true_eq, decide_eq_false_iff_not, decide_true, decide_false, if_true, if_false, ite_self, Bool.not_true, Bool.not_false, Bool.false_eq_true, Bool.true_eq_false, Bool.true_and, Bool.false_and, Bool.and_true, Bool.and_false, not_true, not_false_iff, Option.bind_some, nn, toList_inj, Bool.not_eq_true', Bool.not_eq_false', Int.le_refl, and_self, true_and, and_true, false_and, and_false, bne_self_eq_false, beq_self_eq_true, Int.reduceEq, Nat.reduceEqDiff, List.length_singleton, List.tail_cons, Int.reduceLE, Int.reduceLT, decide_eq_true_eq, hlt, at_bt hp, at_next hp (by rw [bytesOf_len]; omega), add_one h1 (show pre.length < 9223372036854775807 by omega), add_one h2 (show pre.length < 9223372036854775807 by omega)]
    rw [letters_cons, lows_cons, ups_cons]
    by_cases b : isLow c
    · have hup : ¬ isUp c := by unfold isLow isUp at *; omega
      simp only [b.1, b.2, strs_len, strs_elem, ints_len, ints_elem, items_list, fld_agg, elem_list, toStr_sc, toInt_sc, toBool_sc, headD_one, nat_int, get_bt, decide_eq_true_eq, decide_eq_false_iff_not, decide_true, decide_false, if_true, if_false, ite_self, Bool.not_true, Bool.not_false, Bool.false_eq_true, Bool.true_eq_false, Bool.true_and, Bool.false_and, Bool.and_true, Bool.and_false, not_true, not_false_iff, Option.bind_some, nn, toList_inj, Bool.not_eq_true', Bool.not_eq_false', Int.le_refl, and_self, true_and, and_true, false_and, and_false, bne_self_eq_false, beq_self_eq_true, Int.reduceEq, Nat.reduceEqDiff, List.length_singleton, List.tail_cons, Int.reduceLE, Int.reduceLT, decide_eq_true_eq]
      refine Ev2.ext (ih (pre ++ [c]) (at_step hp) (lo + 1) up (by omega) (by omega)) ?_
      simp only [b, hup, if_true, if_false, true_or, decide_true, Bool.true_and, Nat.zero_add, Nat.add_assoc]
    · by_cases u : isUp c
      · have hb : ∀ (x y z : Option Res), (if 97 ≤ c then if c ≤ 122 then x else y else y) = y := by
          intro x y z
          by_cases h3 : 97 ≤ c
          · have h4 : ¬ c ≤ 122 := fun h => b ⟨h3, h⟩
            rw [if_pos h3, if_neg h4]
          · rw [if_neg h3]
        have g1 : ¬ 97 ≤ c := by unfold isUp at u; omega
        simp only [g1, u.1, u.2, strs_len, strs_elem, ints_len, ints_elem, items_list, fld_agg, elem_list, toStr_sc, toInt_sc, toBool_sc, headD_one, nat_int, get_bt, decide_eq_true_eq, decide_eq_false_iff_not, decide_true, decide_false, if_true, if_false, ite_self, Bool.not_true, Bool.not_false, Bool.false_eq_true, Bool.true_eq_false, Bool.true_and, Bool.false_and, Bool.and_true, Bool.and_false, not_true, not_false_iff, Option.bind_some, nn, toList_inj, Bool.not_eq_true', Bool.not_eq_false', Int.le_refl, and_self, true_and, and_true, false_and, and_false, bne_self_eq_false, beq_self_eq_true, Int.reduceEq, Nat.reduceEqDiff, List.length_singleton, List.tail_cons, Int.reduceLE, Int.reduceLT, decide_eq_true_eq]
        refine Ev2.ext (ih (pre ++ [c]) (at_step hp) lo (up + 1) (by omega) (by omega)) ?_
        simp only [b, u, if_true, if_false, or_true, decide_true, Bool.true_and, Nat.zero_add, Nat.add_assoc]
      · by_cases h3 : 97 ≤ c
        · have h4 : ¬ c ≤ 122 := fun h => b ⟨h3, h⟩
          have h5 : 65 ≤ c := by omega
          have h6 : ¬ c ≤ 90 := by omega
          simp only [h3, h4, h5, h6, b, u, or_self, Bool.false_and, strs_len, strs_elem, ints_len, ints_elem, items_list, fld_agg, elem_list, toStr_sc, toInt_sc, toBool_sc, headD_one, nat_int, get_bt, decide_eq_true_eq, decide_eq_false_iff_not, decide_true, decide_false, if_true, if_false, ite_self, Bool.not_true, Bool.not_false, Bool.false_eq_true, Bool.true_eq_false, Bool.true_and, Bool.false_and, Bool.and_true, Bool.and_false, not_true, not_false_iff, Option.bind_some, nn, toList_inj, Bool.not_eq_true', Bool.not_eq_false', Int.le_refl, and_self, true_and, and_true, false_and, and_false, bne_self_eq_false, beq_self_eq_true, Int.reduceEq, Nat.reduceEqDiff, List.length_singleton, List.tail_cons, Int.reduceLE, Int.reduceLT, decide_eq_true_eq]; exact Ev2.now _
        · by_cases h5 : 65 ≤ c
          · have h6 : ¬ c ≤ 90 := fun h => u ⟨h5, h⟩
            simp only [h3, h5, h6, b, u, or_self, Bool.false_and, strs_len, strs_elem, ints_len, ints_elem, items_list, fld_agg, elem_list, toStr_sc, toInt_sc, toBool_sc, headD_one, nat_int, get_bt, decide_eq_true_eq, decide_eq_false_iff_not, decide_true, decide_false, if_true, if_false, ite_self, Bool.not_true, Bool.not_false, Bool.false_eq_true, Bool.true_eq_false, Bool.true_and, Bool.false_and, Bool.and_true, Bool.and_false, not_true, not_false_iff, Option.bind_some, nn, toList_inj, Bool.not_eq_true', Bool.not_eq_false', Int.le_refl, and_self, true_and, and_true, false_and, and_false, bne_self_eq_false, beq_self_eq_true, Int.reduceEq, Nat.reduceEqDiff, List.length_singleton, List.tail_cons, Int.reduceLE, Int.reduceLT, decide_eq_true_eq]; exact Ev2.now _
          · simp only [h3, h5, b, u, or_self, Bool.false_and, strs_len, strs_elem, ints_len, ints_elem, items_list, fld_agg, elem_list, toStr_sc, toInt_sc, toBool_sc, headD_one, nat_int, get_bt, decide_eq_true_eq, decide_eq_false_iff_not, decide_true, decide_false, if_true, if_false, ite_self, Bool.not_true, Bool.not_false, Bool.false_eq_true, Bool.true_eq_false, Bool.true_and, Bool.false_and, Bool.and_true, Bool.and_false, not_true, not_false_iff, Option.bind_some, nn, toList_inj, Bool.not_eq_true', Bool.not_eq_false', Int.le_refl, and_self, true_and, and_true, false_and, and_false, bne_self_eq_false, beq_self_eq_true, Int.reduceEq, Nat.reduceEqDiff, List.length_singleton, List.tail_cons, Int.reduceLE, Int.reduceLT, decide_eq_true_eq]; exact Ev2.now _
theorem implCase_loop (s : ByteArray) (hs : s.size ≤ 9223372036854775807) (hne : 0 < s.size) : ∀ (rest pre : List Int), bytesOf s = pre ++ rest →
    ∀ up : Nat, up ≤ pre.length →
    Ev2 (fun N n => impl_CaseOf.l0 N n s (up : Int) (s.size : Int) (pre.length : Int)) [intP (if letters rest = false then 0 else if up + ups rest = 0 then 1 else if up + ups rest = 1 ∧ isUp (bt s 0) then 2 else if up + ups rest = s.size then 3 else 4)] := by
  intro rest
  induction rest with
  | nil =>
    intro pre hp up h2
    have e1 : ups [] = 0 := rfl
    have e3 : letters [] = true := rfl
    have cp : (0 : Int) < s.size := by omega
    refine Ev2.succ ?_
    simp only [impl_CaseOf.l0_eq, at_sizeE hp, e1, e3, implUpper_val, strs_len, strs_elem, ints_len, ints_elem, items_list, fld_agg, elem_list, toStr_sc, toInt_sc, toBool_sc, headD_one, nat_int, get_bt, decide_eq_true_eq, decide_eq_false_iff_not, decide_true, decide_false, if_true, if_false, ite_self, Bool.not_true, Bool.not_false, Bool.false_eq_true, Bool.true_eq_false, Bool.true_and, Bool.false_and, Bool.and_true, Bool.and_false, not_true, not_false_iff, Option.bind_some, nn, toList_inj, Bool.not_eq_true', Bool.not_eq_false', Int.le_refl, and_self, true_and, and_true, false_and, and_false, bne_self_eq_false, beq_self_eq_true, Int.reduceEq, Nat.reduceEqDiff, List.length_singleton, List.tail_cons, Int.reduceLE, Int.reduceLT, decide_eq_true_eq, Nat.add_zero]
    by_cases c1 : up = 0
    · have c1' : (up : Int) = 0 := by omega
      simp only [c1, c1', strs_len, strs_elem, ints_len, ints_elem, items_list, fld_agg, elem_list, toStr_sc, toInt_sc, toBool_sc, headD_one, nat_int, get_bt, decide_eq_true_eq, decide_eq_false_iff_not, decide_true, decide_false, if_true, if_false, ite_self, Bool.not_true, Bool.not_false, Bool.false_eq_true, Bool.true_eq_false, Bool.true_and, Bool.false_and, Bool.and_true, Bool.and_false, not_true, not_false_iff, Option.bind_some, nn, toList_inj, Bool.not_eq_true', Bool.not_eq_false', Int.le_refl, and_self, true_and, and_true, false_and, and_false, bne_self_eq_false, beq_self_eq_true, Int.reduceEq, Nat.reduceEqDiff, List.length_singleton, List.tail_cons, Int.reduceLE, Int.reduceLT, decide_eq_true_eq]; exact Ev2.now _
    have c1' : ¬ (up : Int) = 0 := by omega
    by_cases c2 : up = 1
    · have c2' : (up : Int) = 1 := by omega
      by_cases c3 : isUp (bt s 0)
      · simp only [c1', c2', c2, cp, c3, strs_len, strs_elem, ints_len, ints_elem, items_list, fld_agg, elem_list, toStr_sc, toInt_sc, toBool_sc, headD_one, nat_int, get_bt, decide_eq_true_eq, decide_eq_false_iff_not, decide_true, decide_false, if_true, if_false, ite_self, Bool.not_true, Bool.not_false, Bool.false_eq_true, Bool.true_eq_false, Bool.true_and, Bool.false_and, Bool.and_true, Bool.and_false, not_true, not_false_iff, Option.bind_some, nn, toList_inj, Bool.not_eq_true', Bool.not_eq_false', Int.le_refl, and_self, true_and, and_true, false_and, and_false, bne_self_eq_false, beq_self_eq_true, Int.reduceEq, Nat.reduceEqDiff, List.length_singleton, List.tail_cons, Int.reduceLE, Int.reduceLT, decide_eq_true_eq]; exact Ev2.now _
      · have c2e : (up = 1) = True := eq_true c2
        by_cases c5 : up = s.size
        · have c6 : ((up : Int) = (s.size : Int)) = True := eq_true (by omega)
          have c7 : (up = s.size) = True := eq_true c5
          have c8 : ((up : Int) = 1) = True := eq_true c2'
          simp only [c1', c2e, c8, c1, cp, c3, c6, c7, strs_len, strs_elem, ints_len, ints_elem, items_list, fld_agg, elem_list, toStr_sc, toInt_sc, toBool_sc, headD_one, nat_int, get_bt, decide_eq_true_eq, decide_eq_false_iff_not, decide_true, decide_false, if_true, if_false, ite_self, Bool.not_true, Bool.not_false, Bool.false_eq_true, Bool.true_eq_false, Bool.true_and, Bool.false_and, Bool.and_true, Bool.and_false, not_true, not_false_iff, Option.bind_some, nn, toList_inj, Bool.not_eq_true', Bool.not_eq_false', Int.le_refl, and_self, true_and, and_true, false_and, and_false, bne_self_eq_false, beq_self_eq_true, Int.reduceEq, Nat.reduceEqDiff, List.length_singleton, List.tail_cons, Int.reduceLE, Int.reduceLT, decide_eq_true_eq]; exact Ev2.now _
        · have c6 : ((up : Int) = (s.size : Int)) = False := eq_false (by omega)
          have c7 : (up = s.size) = False := eq_false c5
          have c8 : ((up : Int) = 1) = True := eq_true c2'
          simp only [c1', c2e, c8, c1, cp, c3, c6, c7, strs_len, strs_elem, ints_len, ints_elem, items_list, fld_agg, elem_list, toStr_sc, toInt_sc, toBool_sc, headD_one, nat_int, get_bt, decide_eq_true_eq, decide_eq_false_iff_not, decide_true, decide_false, if_true, if_false, ite_self, Bool.not_true, Bool.not_false, Bool.false_eq_true, Bool.true_eq_false, Bool.true_and, Bool.false_and, Bool.and_true, Bool.and_false, not_true, not_false_iff, Option.bind_some, nn, toList_inj, Bool.not_eq_true', Bool.not_eq_false', Int.le_refl, and_self, true_and, and_true, false_and, and_false, bne_self_eq_false, beq_self_eq_true, Int.reduceEq, Nat.reduceEqDiff, List.length_singleton, List.tail_cons, Int.reduceLE, Int.reduceLT, decide_eq_true_eq]; exact Ev2.now _
    · have c2' : ¬ (up : Int) = 1 := by omega
      by_cases c5 : up = s.size
      · have c6 : ((up : Int) = (s.size : Int)) = True := eq_true (by omega)
        have c7 : (up = s.size) = True := eq_true c5
        simp only [c1, c1', c2', c2, c6, c7, strs_len, strs_elem, ints_len, ints_elem, items_list, fld_agg, elem_list, toStr_sc, toInt_sc, toBool_sc, headD_one, nat_int, get_bt, decide_eq_true_eq, decide_eq_false_iff_not, decide_true, decide_false, if_true, if_false, ite_self, Bool.not_true, Bool.not_false, Bool.false_eq_true, Bool.true_eq_false, Bool.true_and, Bool.false_and, Bool.and_true, Bool.and_false, not_true, not_false_iff, Option.bind_some, nn, toList_inj, Bool.not_eq_true', Bool.not_eq_false', Int.le_refl, and_self, true_and, and_true, false_and, and_false, bne_self_eq_false, beq_self_eq_true, Int.reduceEq, Nat.reduceEqDiff, List.length_singleton, List.tail_cons, Int.reduceLE, Int.reduceLT, decide_eq_true_eq]; exact Ev2.now _
      · have c6 : ¬ (up : Int) = (s.size : Int) := by omega
        simp only [c1, c1', c2', c2, c6, c5, strs_len, strs_elem, ints_len, ints_elem, items_list, fld_agg, elem_list, toStr_sc, toInt_sc, toBool_sc, headD_one, nat_int, get_bt, decide_eq_true_eq, decide_eq_false_iff_not, decide_true, decide_false, if_true, if_false, ite_self, Bool.not_true, Bool.not_false, Bool.false_eq_true, Bool.true_eq_false, Bool.true_and, Bool.false_and, Bool.and_true, Bool.and_false, not_true, not_false_iff, Option.bind_some, nn, toList_inj, Bool.not_eq_true', Bool.not_eq_false', Int.le_refl, and_self, true_and, and_true, false_and, and_false, bne_self_eq_false, beq_self_eq_true, Int.reduceEq, Nat.reduceEqDiff, List.length_singleton, List.tail_cons, Int.reduceLE, Int.reduceLT, decide_eq_true_eq]; exact Ev2.now _
  | cons c rest ih =>
    intro pre hp up h2
    have hlt := at_size hp
    have hn : (pre ++ [c]).length = pre.length + 1 := by simp
    refine Ev2.succ ?_
    simp only [impl_CaseOf.l0_eq, strs_len, strs_elem, ints_len, ints_elem, items_list, fld_agg, elem_list, toStr_sc, toInt_sc, toBool_sc, headD_one, nat_int, get_bt, decide_eq_true_eq, decide_eq_false_iff_not, decide_true, decide_false, if_true, if_false, ite_self, Bool.not_true, Bool.not_false, Bool.false_eq_true, Bool.true_eq_false, Bool.true_and, Bool.false_and, Bool.and_true, Bool.and_false, not_true, not_false_iff, Option.bind_some, nn, toList_inj, Bool.not_eq_true', Bool.not_eq_false', Int.le_refl, and_self, true_and, and_true, false_and, and_false, bne_self_eq_false, beq_self_eq_true, Int.reduceEq, Nat.reduceEqDiff, List.length_singleton, List.tail_cons, Int.reduceLE, Int.reduceLT, decide_eq_true_eq, hlt, at_bt hp, implLetter_val, implUpper_val, at_next hp (by rw [bytesOf_len]; omega), add_one h2 (show pre.length < 9223372036854775807 by omega)]
    rw [letters_cons, ups_cons]
    by_cases b : isLow c ∨ isUp c
    · by_cases u : isUp c
      · simp only [b, u, or_true, strs_len, strs_elem, ints_len, ints_elem, items_list, fld_agg, elem_list, toStr_sc, toInt_sc, toBool_sc, headD_one, nat_int, get_bt, decide_eq_true_eq, decide_eq_false_iff_not, decide_true, decide_false, if_true, if_false, ite_self, Bool.not_true, Bool.not_false, Bool.false_eq_true, Bool.true_eq_false, Bool.true_and, Bool.false_and, Bool.and_true, Bool.and_false, not_true, not_false_iff, Option.bind_some, nn, toList_inj, Bool.not_eq_true', Bool.not_eq_false', Int.le_refl, and_self, true_and, and_true, false_and, and_false, bne_self_eq_false, beq_self_eq_true, Int.reduceEq, Nat.reduceEqDiff, List.length_singleton, List.tail_cons, Int.reduceLE, Int.reduceLT, decide_eq_true_eq]
        refine Ev2.ext (ih (pre ++ [c]) (at_step hp) (up + 1) (by omega)) ?_
        simp only [Nat.add_assoc]
      · have bl : isLow c := b.resolve_right u
        simp only [bl, u, or_false, strs_len, strs_elem, ints_len, ints_elem, items_list, fld_agg, elem_list, toStr_sc, toInt_sc, toBool_sc, headD_one, nat_int, get_bt, decide_eq_true_eq, decide_eq_false_iff_not, decide_true, decide_false, if_true, if_false, ite_self, Bool.not_true, Bool.not_false, Bool.false_eq_true, Bool.true_eq_false, Bool.true_and, Bool.false_and, Bool.and_true, Bool.and_false, not_true, not_false_iff, Option.bind_some, nn, toList_inj, Bool.not_eq_true', Bool.not_eq_false', Int.le_refl, and_self, true_and, and_true, false_and, and_false, bne_self_eq_false, beq_self_eq_true, Int.reduceEq, Nat.reduceEqDiff, List.length_singleton, List.tail_cons, Int.reduceLE, Int.reduceLT, decide_eq_true_eq]
        refine Ev2.ext (ih (pre ++ [c]) (at_step hp) up (by omega)) ?_
        simp only [Nat.zero_add]
    · simp only [b, strs_len, strs_elem, ints_len, ints_elem, items_list, fld_agg, elem_list, toStr_sc, toInt_sc, toBool_sc, headD_one, nat_int, get_bt, decide_eq_true_eq, decide_eq_false_iff_not, decide_true, decide_false, if_true, if_false, ite_self, Bool.not_true, Bool.not_false, Bool.false_eq_true, Bool.true_eq_false, Bool.true_and, Bool.false_and, Bool.and_true, Bool.and_false, not_true, not_false_iff, Option.bind_some, nn, toList_inj, Bool.not_eq_true', Bool.not_eq_false', Int.le_refl, and_self, true_and, and_true, false_and, and_false, bne_self_eq_false, beq_self_eq_true, Int.reduceEq, Nat.reduceEqDiff, List.length_singleton, List.tail_cons, Int.reduceLE, Int.reduceLT, decide_eq_true_eq]; exact Ev2.now _
theorem specCase_ev (s : ByteArray) (hs : s.size ≤ 9223372036854775807) : Ev (fun N => spec_CaseOf.f N [strP s]) [intP (caseM (bytesOf s))] := by
  simp only [spec_CaseOf.f_eq, strs_len, strs_elem, ints_len, ints_elem, items_list, fld_agg, elem_list, toStr_sc, toInt_sc, toBool_sc, headD_one, nat_int, get_bt, decide_eq_true_eq, decide_eq_false_iff_not, decide_true, decide_false, if_true, if_false, ite_self, Bool.not_true, Bool.not_false, Bool.false_eq_true, Bool.true_eq_false, Bool.true_and, Bool.false_and, Bool.and_true, Bool.and_false, not_true, not_false_iff, Option.bind_some, nn, toList_inj, Bool.not_eq_true', Bool.not_eq_false', Int.le_refl, and_self, true_and, and_true, false_and, and_false, bne_self_eq_false, beq_self_eq_true, Int.reduceEq, Nat.reduceEqDiff, List.length_singleton, List.tail_cons, Int.reduceLE, Int.reduceLT, decide_eq_true_eq]
  refine Ev.ext (specCase_loop s hs (bytesOf s) [] rfl 0 0 (Nat.le_refl _) (Nat.le_refl _)).diag ?_
  refine congrArg (fun x => [intP x]) ?_
  unfold caseM
  have hlen := bytesOf_len s
  by_cases hl : letters (bytesOf s) = false
  · rw [if_pos hl, if_pos hl]
  rw [if_neg hl, if_neg hl]
  by_cases h0 : bytesOf s = []
  · rw [if_pos h0, if_pos (by rw [h0] at hlen; simp at hlen; omega)]
  have hpos : 0 < s.size := by
    rw [← hlen]
    exact List.length_pos_iff.2 h0
  have hcl := counts_len _ (by simpa using hl)
  rw [if_neg h0, if_neg (by omega), Nat.zero_add, Nat.zero_add]
  have hb : (ups (bytesOf s) = 1 ∧ bt s 0 ≤ 90) ↔ (ups (bytesOf s) = 1 ∧ isUp ((bytesOf s).getD 0 0)) := by
    have hlt : letters (bytesOf s) = true := by simpa using hl
    obtain ⟨c, r, hcr⟩ := List.exists_cons_of_ne_nil h0
    rw [hcr] at hlt
    rw [bt_bytes, hcr]
    rw [letters_cons, Bool.and_eq_true, decide_eq_true_eq] at hlt
    have e : (c :: r).getD 0 0 = c := rfl
    rw [e]
    have : c ≤ 90 ↔ isUp c := by
      rcases hlt.1 with h | h
      · unfold isLow isUp at *; omega
      · unfold isUp at *; omega
    rw [this]
  simp only [hb]
  by_cases c1 : ups (bytesOf s) = 0
  · rw [if_pos c1, if_pos c1]
  rw [if_neg c1, if_neg c1]
  split
  · rfl
  · have : lows (bytesOf s) = 0 ↔ ups (bytesOf s) = (bytesOf s).length := by omega
    simp only [this]
theorem empty_str (s : ByteArray) : s = ByteArray.mk #[] ↔ s.size = 0 := by
  constructor
  · rintro rfl; rfl
  · intro h
    refine bytesOf_inj (List.eq_nil_of_length_eq_zero ?_)
    rw [bytesOf_len]; exact h
theorem implCase_ev (s : ByteArray) (hs : s.size ≤ 9223372036854775807) : Ev (fun N => impl_CaseOf.f N [strP s]) [intP (caseM (bytesOf s))] := by
  have hlen := bytesOf_len s
  simp only [impl_CaseOf.f_eq, empty_str, strs_len, strs_elem, ints_len, ints_elem, items_list, fld_agg, elem_list, toStr_sc, toInt_sc, toBool_sc, headD_one, nat_int, get_bt, decide_eq_true_eq, decide_eq_false_iff_not, decide_true, decide_false, if_true, if_false, ite_self, Bool.not_true, Bool.not_false, Bool.false_eq_true, Bool.true_eq_false, Bool.true_and, Bool.false_and, Bool.and_true, Bool.and_false, not_true, not_false_iff, Option.bind_some, nn, toList_inj, Bool.not_eq_true', Bool.not_eq_false', Int.le_refl, and_self, true_and, and_true, false_and, and_false, bne_self_eq_false, beq_self_eq_true, Int.reduceEq, Nat.reduceEqDiff, List.length_singleton, List.tail_cons, Int.reduceLE, Int.reduceLT, decide_eq_true_eq]
  by_cases h0 : s.size = 0
  · have : bytesOf s = [] := List.eq_nil_of_length_eq_zero (by omega)
    simp only [h0, this, strs_len, strs_elem, ints_len, ints_elem, items_list, fld_agg, elem_list, toStr_sc, toInt_sc, toBool_sc, headD_one, nat_int, get_bt, decide_eq_true_eq, decide_eq_false_iff_not, decide_true, decide_false, if_true, if_false, ite_self, Bool.not_true, Bool.not_false, Bool.false_eq_true, Bool.true_eq_false, Bool.true_and, Bool.false_and, Bool.and_true, Bool.and_false, not_true, not_false_iff, Option.bind_some, nn, toList_inj, Bool.not_eq_true', Bool.not_eq_false', Int.le_refl, and_self, true_and, and_true, false_and, and_false, bne_self_eq_false, beq_self_eq_true, Int.reduceEq, Nat.reduceEqDiff, List.length_singleton, List.tail_cons, Int.reduceLE, Int.reduceLT, decide_eq_true_eq]
    exact Ev.now _
  · simp only [h0, strs_len, strs_elem, ints_len, ints_elem, items_list, fld_agg, elem_list, toStr_sc, toInt_sc, toBool_sc, headD_one, nat_int, get_bt, decide_eq_true_eq, decide_eq_false_iff_not, decide_true, decide_false, if_true, if_false, ite_self, Bool.not_true, Bool.not_false, Bool.false_eq_true, Bool.true_eq_false, Bool.true_and, Bool.false_and, Bool.and_true, Bool.and_false, not_true, not_false_iff, Option.bind_some, nn, toList_inj, Bool.not_eq_true', Bool.not_eq_false', Int.le_refl, and_self, true_and, and_true, false_and, and_false, bne_self_eq_false, beq_self_eq_true, Int.reduceEq, Nat.reduceEqDiff, List.length_singleton, List.tail_cons, Int.reduceLE, Int.reduceLT, decide_eq_true_eq]
    refine Ev.ext (implCase_loop s hs (by omega) (bytesOf s) [] rfl 0 (Nat.le_refl _)).diag ?_
    refine congrArg (fun x => [intP x]) ?_
    unfold caseM
    have hne : bytesOf s ≠ [] := fun h => by rw [h] at hlen; simp at hlen; omega
    rw [if_neg hne, Nat.zero_add, bt_bytes, hlen]
theorem case_range (l : List Int) : 0 ≤ caseM l ∧ caseM l ≤ 4 := by
  unfold caseM
  repeat' split
  all_goals omega
theorem case_digit (l : List Int) : caseM (l ++ [49]) = 0 := by
  unfold caseM
  have : letters (l ++ [49]) = false := by simp [letters, isLow, isUp]
  rw [if_pos this]
theorem ups_zero : ∀ {l : List Int}, letters l = true → ups l = 0 → (l.all fun c => decide (97 ≤ c ∧ c ≤ 122)) = true
  | [], _, _ => rfl
  | c :: l, h, h0 => by
    rw [letters_cons, Bool.and_eq_true, decide_eq_true_eq] at h
    rw [ups_cons] at h0
    have hu : ¬ isUp c := fun hu => by rw [if_pos hu] at h0; omega
    rw [List.all_cons, Bool.and_eq_true, decide_eq_true_eq]
    exact ⟨h.1.resolve_right hu, ups_zero h.2 (by omega)⟩
theorem case_one {l : List Int} (h : caseM l = 1) : l ≠ [] ∧ (l.all fun c => decide (97 ≤ c ∧ c ≤ 122)) = true := by
  unfold caseM at h
  by_cases c1 : letters l = false
  · rw [if_pos c1] at h; omega
  rw [if_neg c1] at h
  by_cases c2 : l = []
  · rw [if_pos c2] at h; omega
  rw [if_neg c2] at h
  by_cases c3 : ups l = 0
  · exact ⟨c2, ups_zero (by simpa using c1) c3⟩
  · rw [if_neg c3] at h
    repeat' split at h
    all_goals omega
/-! #### great letters -/
def upI (c : Int) : Int := if 97 ≤ c ∧ c ≤ 122 then c - 32 else c
abbrev u8P (n : Int) : PV := .sc (.int .u8 n)
theorem u8_id {n : Int} (h0 : 0 ≤ n) (h1 : n ≤ 255) : IntKind.u8.wrap n = n := by
  have : IntKind.u8.wrap n = n % 256 := by simp [IntKind.wrap, IntKind.signed, IntKind.bits]
  rw [this]; omega
theorem bytesOf_range (s : ByteArray) : ∀ c ∈ bytesOf s, 0 ≤ c ∧ c ≤ 255 := by
  intro c hc
  obtain ⟨b, _, rfl⟩ := List.mem_map.1 hc
  have := b.toNat_lt
  omega
theorem bytesL_eq (s : ByteArray) : bytesL s = (bytesOf s).map u8P := by simp [bytesL, bytesOf]
theorem bytesOf_ofL {l : List Int} (h : ∀ c ∈ l, 0 ≤ c ∧ c ≤ 255) : bytesOf (bytesOfL (l.map u8P)) = l := by
  simp only [bytesOf, bytesOfL, List.map_map]
  have : ∀ c ∈ l, ((fun b : UInt8 => (b.toNat : Int)) ∘ (fun p : PV => UInt8.ofNat p.toInt.toNat) ∘ u8P) c = c := fun c hc => by
    have := h c hc
    simp only [Function.comp_apply, u8P, PV.toInt, UInt8.toNat_ofNat']
    omega
  exact (List.map_congr_left this).trans (List.map_id l)
theorem upperM_bytes (s : ByteArray) : bytesOf (upperM s) = (bytesOf s).map upI := by
  simp only [bytesOf, upperM, Lib.toUpperA, List.map_map]
  refine List.map_congr_left fun b _ => ?_
  have key : ∀ n : Fin 256, (((Lib.upperB (UInt8.ofNat n.val)).toNat : Nat) : Int) = (if 97 ≤ (n.val : Int) ∧ (n.val : Int) ≤ 122 then (n.val : Int) - 32 else (n.val : Int)) := by decide
  have h := key ⟨b.toNat, b.toNat_lt⟩
  simp only [UInt8.ofNat_toNat] at h
  exact h
theorem upper_loop2 : ∀ (rest pre : List Int), (∀ c ∈ pre ++ rest, 0 ≤ c ∧ c ≤ 255) → (pre ++ rest).length < 9223372036854775807 →
    ∃ r : ByteArray, bytesOf r = pre ++ rest.map upI ∧ Ev2 (fun N n => spec_l10Upper.l0 N n (pre.length : Int) ((pre ++ rest).map u8P)) [strP r] := by
  intro rest
  induction rest with
  | nil =>
    intro pre hr hl
    refine ⟨bytesOfL ((pre ++ []).map u8P), by rw [bytesOf_ofL hr]; simp, Ev2.succ ?_⟩
    have h0 : ¬ (pre.length : Int) < (((pre ++ []).map u8P).length : Int) := by simp
    simp only [spec_l10Upper.l0_eq, h0, strs_len, strs_elem, ints_len, ints_elem, items_list, fld_agg, elem_list, toStr_sc, toInt_sc, toBool_sc, headD_one, nat_int, get_bt, decide_eq_true_eq, decide_eq_false_iff_not, decide_true, decide_false, if_true, if_false, ite_self, Bool.not_true, Bool.not_false, Bool.false_eq_true, Bool.true_eq_false, Bool.true_and, Bool.false_and, Bool.and_true, Bool.and_false, not_true, not_false_iff, Option.bind_some, nn, toList_inj, Bool.not_eq_true', Bool.not_eq_false', Int.le_refl, and_self, true_and, and_true, false_and, and_false, bne_self_eq_false, beq_self_eq_true, Int.reduceEq, Nat.reduceEqDiff, List.length_singleton, List.tail_cons, Int.reduceLE, Int.reduceLT, decide_eq_true_eq]
    exact Ev2.now _
  | cons c rest ih =>
    intro pre hr hl
    have hc := hr c (by simp)
    have h0 : (pre.length : Int) < (((pre ++ c :: rest).map u8P).length : Int) := by simp; omega
    have he : ((PV.list ((pre ++ c :: rest).map u8P)).elem pre.length).toInt = c := by simp [PV.elem, PV.items, List.getD_eq_getElem?_getD, PV.toInt]
    have hw : IntKind.i64.wrap ((pre.length : Int) + 1) = ((pre.length + 1 : Nat) : Int) := by
      rw [wrap_id (by omega) (by simp at hl; omega)]; omega
    by_cases h : 97 ≤ c ∧ c ≤ 122
    · have hup : upI c = c - 32 := by unfold upI; rw [if_pos h]
      have hset : ((pre ++ c :: rest).map u8P).set pre.length (PV.sc (.int .u8 (c - 32))) = ((pre ++ [upI c]) ++ rest).map u8P := by
        have := set_mid (pre.map u8P) (u8P c) (u8P (c - 32)) (rest.map u8P)
        rw [List.length_map] at this
        rw [List.map_append, List.map_cons, this, hup]; simp
      have hu : IntKind.u8.wrap (c - 32) = c - 32 := u8_id (by omega) (by omega)
      obtain ⟨r, hr2, hv⟩ := ih (pre ++ [upI c]) (fun x hx => by
        simp only [List.mem_append, List.mem_singleton] at hx
        rcases hx with (hx | rfl) | hx
        · exact hr x (by simp [hx])
        · rw [hup]; omega
        · exact hr x (by simp [hx])) (by simp at hl ⊢; omega)
      refine ⟨r, by rw [hr2]; simp, Ev2.succ ?_⟩
      have hll : (pre ++ [upI c]).length = pre.length + 1 := by simp
      rw [hll] at hv
      simp only [spec_l10Upper.l0_eq, h0, he, hw, hu, hset, h.1, h.2, nat_int, nn, decide_true, if_true]
      exact hv
    · have hup : upI c = c := by unfold upI; rw [if_neg h]
      obtain ⟨r, hr2, hv⟩ := ih (pre ++ [c]) (fun x hx => hr x (by simpa using hx)) (by simp at hl ⊢; omega)
      refine ⟨r, by rw [hr2]; simp [hup], Ev2.succ ?_⟩
      have hll : (pre ++ [c]).length = pre.length + 1 := by simp
      have hap : (pre ++ [c]) ++ rest = pre ++ c :: rest := by simp
      rw [hll, hap] at hv
      by_cases h1 : 97 ≤ c
      · have h2 : ¬ c ≤ 122 := fun h2 => h ⟨h1, h2⟩
        simp only [spec_l10Upper.l0_eq, h0, he, hw, h1, h2, nat_int, nn, decide_true, decide_false, if_true, if_false, Bool.false_eq_true]
        exact hv
      · simp only [spec_l10Upper.l0_eq, h0, he, hw, h1, nat_int, nn, decide_true, decide_false, if_true, if_false, Bool.false_eq_true]
        exact hv
theorem specUpper_ev (s : ByteArray) (hs : s.size < 9223372036854775807) : Ev (fun N => spec_l10Upper.f N [strP s]) [strP (upperM s)] := by
  obtain ⟨r, hr, hv⟩ := upper_loop2 (bytesOf s) [] (by simpa using bytesOf_range s) (by simpa [bytesOf_len] using hs)
  have e : r = upperM s := bytesOf_inj (by rw [hr, upperM_bytes]; simp)
  have h1 : s.size ≤ 9223372036854775807 := by omega
  simp only [spec_l10Upper.f_eq, h1, bytesL_eq, strs_len, strs_elem, ints_len, ints_elem, items_list, fld_agg, elem_list, toStr_sc, toInt_sc, toBool_sc, headD_one, nat_int, get_bt, decide_eq_true_eq, decide_eq_false_iff_not, decide_true, decide_false, if_true, if_false, ite_self, Bool.not_true, Bool.not_false, Bool.false_eq_true, Bool.true_eq_false, Bool.true_and, Bool.false_and, Bool.and_true, Bool.and_false, not_true, not_false_iff, Option.bind_some, nn, toList_inj, Bool.not_eq_true', Bool.not_eq_false', Int.le_refl, and_self, true_and, and_true, false_and, and_false, bne_self_eq_false, beq_self_eq_true, Int.reduceEq, Nat.reduceEqDiff, List.length_singleton, List.tail_cons, Int.reduceLE, Int.reduceLT, decide_eq_true_eq]
  rw [← e]
  exact hv.diag
theorem implUpper2_val (s : ByteArray) (hs : s.size ≤ 140737488355328) (ha : ∀ c ∈ bytesOf s, c < 128) (N : Nat) : strings_ToUpper.f N [strP s] = some [strP (upperM s)] := by
  have hasc : asciiB s = true := List.all_eq_true.2 fun b hb => by
    have := ha (b.toNat : Int) (List.mem_map.2 ⟨b, hb, rfl⟩)
    simp; omega
  show upperDen [strP s] = _
  simp only [upperDen, hasc, hs, if_true]
/-! #### CaseLike -/
theorem isWord_low {w : ByteArray} (h : isWord w = true) : 1 ≤ w.size ∧ w.size ≤ 12 ∧ ∀ c ∈ bytesOf w, 97 ≤ c ∧ c ≤ 122 := by
  unfold isWord at h
  rw [Bool.and_eq_true, decide_eq_true_eq, List.all_eq_true] at h
  exact ⟨h.1.1, h.1.2, fun c hc => by simpa using h.2 c hc⟩
theorem bytesOf_app (a b : ByteArray) : bytesOf (a ++ b) = bytesOf a ++ bytesOf b := by simp [bytesOf, ByteArray.data_append]
theorem bytesOf_ext (s : ByteArray) (i j : Nat) : bytesOf (s.extract i j) = ((bytesOf s).drop i).take (j - i) := by
  simp [bytesOf, ByteArray.data_extract, List.map_take, List.map_drop, List.extract_eq_take_drop]
def firstM (w : ByteArray) : ByteArray := upperM (w.extract 0 1) ++ w.extract 1 w.size
def likeM (w like : ByteArray) : ByteArray := if isWord w = true then (if caseM (bytesOf like) = 2 then firstM w else if caseM (bytesOf like) = 3 then upperM w else w) else ⟨#[]⟩
theorem upperM_size (s : ByteArray) : (upperM s).size = s.size := by rw [← bytesOf_len, upperM_bytes, List.length_map, bytesOf_len]
theorem low_ext {w : ByteArray} (h : ∀ c ∈ bytesOf w, 97 ≤ c ∧ c ≤ 122) (i j : Nat) : ∀ c ∈ bytesOf (w.extract i j), c < 128 := fun c hc => by
  rw [bytesOf_ext] at hc
  have := h c (List.mem_of_mem_drop (List.mem_of_mem_take hc))
  omega
theorem implLike_ev (w like : ByteArray) (hw : w.size ≤ 9223372036854775807) (hl : like.size ≤ 9223372036854775807) : Ev (fun N => impl_CaseLike.f N [strP w, strP like]) [strP (likeM w like)] := by
  simp only [impl_CaseLike.f_eq, strs_len, strs_elem, ints_len, ints_elem, items_list, fld_agg, elem_list, toStr_sc, toInt_sc, toBool_sc, headD_one, nat_int, get_bt, decide_eq_true_eq, decide_eq_false_iff_not, decide_true, decide_false, if_true, if_false, ite_self, Bool.not_true, Bool.not_false, Bool.false_eq_true, Bool.true_eq_false, Bool.true_and, Bool.false_and, Bool.and_true, Bool.and_false, not_true, not_false_iff, Option.bind_some, nn, toList_inj, Bool.not_eq_true', Bool.not_eq_false', Int.le_refl, and_self, true_and, and_true, false_and, and_false, bne_self_eq_false, beq_self_eq_true, Int.reduceEq, Nat.reduceEqDiff, List.length_singleton, List.tail_cons, Int.reduceLE, Int.reduceLT, decide_eq_true_eq]
  refine Ev.bind (implWord_ev w hw) ?_
  unfold likeM
  cases hi : isWord w with
  | false => simp only [strs_len, strs_elem, ints_len, ints_elem, items_list, fld_agg, elem_list, toStr_sc, toInt_sc, toBool_sc, headD_one, nat_int, get_bt, decide_eq_true_eq, decide_eq_false_iff_not, decide_true, decide_false, if_true, if_false, ite_self, Bool.not_true, Bool.not_false, Bool.false_eq_true, Bool.true_eq_false, Bool.true_and, Bool.false_and, Bool.and_true, Bool.and_false, not_true, not_false_iff, Option.bind_some, nn, toList_inj, Bool.not_eq_true', Bool.not_eq_false', Int.le_refl, and_self, true_and, and_true, false_and, and_false, bne_self_eq_false, beq_self_eq_true, Int.reduceEq, Nat.reduceEqDiff, List.length_singleton, List.tail_cons, Int.reduceLE, Int.reduceLT, decide_eq_true_eq]; exact Ev.now _
  | true =>
    obtain ⟨h1, h2, h3⟩ := isWord_low hi
    simp only [strs_len, strs_elem, ints_len, ints_elem, items_list, fld_agg, elem_list, toStr_sc, toInt_sc, toBool_sc, headD_one, nat_int, get_bt, decide_eq_true_eq, decide_eq_false_iff_not, decide_true, decide_false, if_true, if_false, ite_self, Bool.not_true, Bool.not_false, Bool.false_eq_true, Bool.true_eq_false, Bool.true_and, Bool.false_and, Bool.and_true, Bool.and_false, not_true, not_false_iff, Option.bind_some, nn, toList_inj, Bool.not_eq_true', Bool.not_eq_false', Int.le_refl, and_self, true_and, and_true, false_and, and_false, bne_self_eq_false, beq_self_eq_true, Int.reduceEq, Nat.reduceEqDiff, List.length_singleton, List.tail_cons, Int.reduceLE, Int.reduceLT, decide_eq_true_eq]
    refine Ev.bind (implCase_ev like hl) ?_
    by_cases c2 : caseM (bytesOf like) = 2
    · have e1 : (w.extract 0 1).size = 1 := by rw [ByteArray.size_extract]; omega
      have c1 : (1 : Int) ≤ (w.size : Int) := by omega
      have hv := implUpper2_val (w.extract 0 1) (by omega) (low_ext h3 0 1)
      have c3 : (upperM (w.extract 0 1)).size + (w.extract 1 w.size).size ≤ 9223372036854775807 := by rw [upperM_size, e1, ByteArray.size_extract]; omega
      simp only [c2, c1, hv, c3, strs_len, strs_elem, ints_len, ints_elem, items_list, fld_agg, elem_list, toStr_sc, toInt_sc, toBool_sc, headD_one, nat_int, get_bt, decide_eq_true_eq, decide_eq_false_iff_not, decide_true, decide_false, if_true, if_false, ite_self, Bool.not_true, Bool.not_false, Bool.false_eq_true, Bool.true_eq_false, Bool.true_and, Bool.false_and, Bool.and_true, Bool.and_false, not_true, not_false_iff, Option.bind_some, nn, toList_inj, Bool.not_eq_true', Bool.not_eq_false', Int.le_refl, and_self, true_and, and_true, false_and, and_false, bne_self_eq_false, beq_self_eq_true, Int.reduceEq, Nat.reduceEqDiff, List.length_singleton, List.tail_cons, Int.reduceLE, Int.reduceLT, decide_eq_true_eq]
      exact Ev.now _
    · by_cases c3 : caseM (bytesOf like) = 3
      · have hv := implUpper2_val w (by omega) (fun c hc => by have := h3 c hc; omega)
        have z : ((3 : Int) = 2) = False := by simp
        simp only [c3, z, hv, strs_len, strs_elem, ints_len, ints_elem, items_list, fld_agg, elem_list, toStr_sc, toInt_sc, toBool_sc, headD_one, nat_int, get_bt, decide_eq_true_eq, decide_eq_false_iff_not, decide_true, decide_false, if_true, if_false, ite_self, Bool.not_true, Bool.not_false, Bool.false_eq_true, Bool.true_eq_false, Bool.true_and, Bool.false_and, Bool.and_true, Bool.and_false, not_true, not_false_iff, Option.bind_some, nn, toList_inj, Bool.not_eq_true', Bool.not_eq_false', Int.le_refl, and_self, true_and, and_true, false_and, and_false, bne_self_eq_false, beq_self_eq_true, Int.reduceEq, Nat.reduceEqDiff, List.length_singleton, List.tail_cons, Int.reduceLE, Int.reduceLT, decide_eq_true_eq]
        exact Ev.now _
      · simp only [c2, c3, strs_len, strs_elem, ints_len, ints_elem, items_list, fld_agg, elem_list, toStr_sc, toInt_sc, toBool_sc, headD_one, nat_int, get_bt, decide_eq_true_eq, decide_eq_false_iff_not, decide_true, decide_false, if_true, if_false, ite_self, Bool.not_true, Bool.not_false, Bool.false_eq_true, Bool.true_eq_false, Bool.true_and, Bool.false_and, Bool.and_true, Bool.and_false, not_true, not_false_iff, Option.bind_some, nn, toList_inj, Bool.not_eq_true', Bool.not_eq_false', Int.le_refl, and_self, true_and, and_true, false_and, and_false, bne_self_eq_false, beq_self_eq_true, Int.reduceEq, Nat.reduceEqDiff, List.length_singleton, List.tail_cons, Int.reduceLE, Int.reduceLT, decide_eq_true_eq]
        exact Ev.now _
theorem specLike_ev (w like : ByteArray) (hw : w.size ≤ 9223372036854775807) (hl : like.size ≤ 9223372036854775807) : Ev (fun N => spec_CaseLike.f N [strP w, strP like]) [strP (likeM w like)] := by
  simp only [spec_CaseLike.f_eq, strs_len, strs_elem, ints_len, ints_elem, items_list, fld_agg, elem_list, toStr_sc, toInt_sc, toBool_sc, headD_one, nat_int, get_bt, decide_eq_true_eq, decide_eq_false_iff_not, decide_true, decide_false, if_true, if_false, ite_self, Bool.not_true, Bool.not_false, Bool.false_eq_true, Bool.true_eq_false, Bool.true_and, Bool.false_and, Bool.and_true, Bool.and_false, not_true, not_false_iff, Option.bind_some, nn, toList_inj, Bool.not_eq_true', Bool.not_eq_false', Int.le_refl, and_self, true_and, and_true, false_and, and_false, bne_self_eq_false, beq_self_eq_true, Int.reduceEq, Nat.reduceEqDiff, List.length_singleton, List.tail_cons, Int.reduceLE, Int.reduceLT, decide_eq_true_eq]
  refine Ev.bind (specWord_ev w hw) ?_
  unfold likeM
  cases hi : isWord w with
  | false => simp only [strs_len, strs_elem, ints_len, ints_elem, items_list, fld_agg, elem_list, toStr_sc, toInt_sc, toBool_sc, headD_one, nat_int, get_bt, decide_eq_true_eq, decide_eq_false_iff_not, decide_true, decide_false, if_true, if_false, ite_self, Bool.not_true, Bool.not_false, Bool.false_eq_true, Bool.true_eq_false, Bool.true_and, Bool.false_and, Bool.and_true, Bool.and_false, not_true, not_false_iff, Option.bind_some, nn, toList_inj, Bool.not_eq_true', Bool.not_eq_false', Int.le_refl, and_self, true_and, and_true, false_and, and_false, bne_self_eq_false, beq_self_eq_true, Int.reduceEq, Nat.reduceEqDiff, List.length_singleton, List.tail_cons, Int.reduceLE, Int.reduceLT, decide_eq_true_eq]; exact Ev.now _
  | true =>
    obtain ⟨h1, h2, h3⟩ := isWord_low hi
    simp only [strs_len, strs_elem, ints_len, ints_elem, items_list, fld_agg, elem_list, toStr_sc, toInt_sc, toBool_sc, headD_one, nat_int, get_bt, decide_eq_true_eq, decide_eq_false_iff_not, decide_true, decide_false, if_true, if_false, ite_self, Bool.not_true, Bool.not_false, Bool.false_eq_true, Bool.true_eq_false, Bool.true_and, Bool.false_and, Bool.and_true, Bool.and_false, not_true, not_false_iff, Option.bind_some, nn, toList_inj, Bool.not_eq_true', Bool.not_eq_false', Int.le_refl, and_self, true_and, and_true, false_and, and_false, bne_self_eq_false, beq_self_eq_true, Int.reduceEq, Nat.reduceEqDiff, List.length_singleton, List.tail_cons, Int.reduceLE, Int.reduceLT, decide_eq_true_eq]
    refine Ev.bind (specCase_ev like hl) ?_
    by_cases c2 : caseM (bytesOf like) = 2
    · have e1 : (w.extract 0 1).size = 1 := by rw [ByteArray.size_extract]; omega
      have c1 : (1 : Int) ≤ (w.size : Int) := by omega
      have c3 : (upperM (w.extract 0 1)).size + (w.extract 1 w.size).size ≤ 9223372036854775807 := by rw [upperM_size, e1, ByteArray.size_extract]; omega
      simp only [c2, c1, strs_len, strs_elem, ints_len, ints_elem, items_list, fld_agg, elem_list, toStr_sc, toInt_sc, toBool_sc, headD_one, nat_int, get_bt, decide_eq_true_eq, decide_eq_false_iff_not, decide_true, decide_false, if_true, if_false, ite_self, Bool.not_true, Bool.not_false, Bool.false_eq_true, Bool.true_eq_false, Bool.true_and, Bool.false_and, Bool.and_true, Bool.and_false, not_true, not_false_iff, Option.bind_some, nn, toList_inj, Bool.not_eq_true', Bool.not_eq_false', Int.le_refl, and_self, true_and, and_true, false_and, and_false, bne_self_eq_false, beq_self_eq_true, Int.reduceEq, Nat.reduceEqDiff, List.length_singleton, List.tail_cons, Int.reduceLE, Int.reduceLT, decide_eq_true_eq]
      refine Ev.bind (specUpper_ev (w.extract 0 1) (by omega)) ?_
      simp only [c1, c3, strs_len, strs_elem, ints_len, ints_elem, items_list, fld_agg, elem_list, toStr_sc, toInt_sc, toBool_sc, headD_one, nat_int, get_bt, decide_eq_true_eq, decide_eq_false_iff_not, decide_true, decide_false, if_true, if_false, ite_self, Bool.not_true, Bool.not_false, Bool.false_eq_true, Bool.true_eq_false, Bool.true_and, Bool.false_and, Bool.and_true, Bool.and_false, not_true, not_false_iff, Option.bind_some, nn, toList_inj, Bool.not_eq_true', Bool.not_eq_false', Int.le_refl, and_self, true_and, and_true, false_and, and_false, bne_self_eq_false, beq_self_eq_true, Int.reduceEq, Nat.reduceEqDiff, List.length_singleton, List.tail_cons, Int.reduceLE, Int.reduceLT, decide_eq_true_eq]
      exact Ev.now _
    · by_cases c3 : caseM (bytesOf like) = 3
      · have z : ((3 : Int) = 2) = False := by simp
        simp only [c3, z, strs_len, strs_elem, ints_len, ints_elem, items_list, fld_agg, elem_list, toStr_sc, toInt_sc, toBool_sc, headD_one, nat_int, get_bt, decide_eq_true_eq, decide_eq_false_iff_not, decide_true, decide_false, if_true, if_false, ite_self, Bool.not_true, Bool.not_false, Bool.false_eq_true, Bool.true_eq_false, Bool.true_and, Bool.false_and, Bool.and_true, Bool.and_false, not_true, not_false_iff, Option.bind_some, nn, toList_inj, Bool.not_eq_true', Bool.not_eq_false', Int.le_refl, and_self, true_and, and_true, false_and, and_false, bne_self_eq_false, beq_self_eq_true, Int.reduceEq, Nat.reduceEqDiff, List.length_singleton, List.tail_cons, Int.reduceLE, Int.reduceLT, decide_eq_true_eq]
        refine Ev.bind (specUpper_ev w (by omega)) ?_
        exact Ev.now _
      · simp only [c2, c3, strs_len, strs_elem, ints_len, ints_elem, items_list, fld_agg, elem_list, toStr_sc, toInt_sc, toBool_sc, headD_one, nat_int, get_bt, decide_eq_true_eq, decide_eq_false_iff_not, decide_true, decide_false, if_true, if_false, ite_self, Bool.not_true, Bool.not_false, Bool.false_eq_true, Bool.true_eq_false, Bool.true_and, Bool.false_and, Bool.and_true, Bool.and_false, not_true, not_false_iff, Option.bind_some, nn, toList_inj, Bool.not_eq_true', Bool.not_eq_false', Int.le_refl, and_self, true_and, and_true, false_and, and_false, bne_self_eq_false, beq_self_eq_true, Int.reduceEq, Nat.reduceEqDiff, List.length_singleton, List.tail_cons, Int.reduceLE, Int.reduceLT, decide_eq_true_eq]
        exact Ev.now _
/-- The law's own function answers true. -/
theorem law (ps : List PV) (h : PvOkL (PvOk Tryd.prog 8) [9, 9] ps) : ∃ N, laws_FnExactCaseLike.f N ps = some [boolP true] := by
  obtain ⟨p, q, rfl, h1, h2⟩ := pvOkL2 h
  obtain ⟨w, rfl, hw⟩ := pvOk_str (P := Tryd.prog) (t := 9) (by kernel_rfl) h1
  obtain ⟨l, rfl, hl⟩ := pvOk_str (P := Tryd.prog) (t := 9) (by kernel_rfl) h2
  have hm : reachBytes = 140737488351232 := rfl
  rw [hm] at hw hl
  refine Ev.some ?_
  simp only [laws_FnExactCaseLike.f_eq, strs_len, strs_elem, ints_len, ints_elem, items_list, fld_agg, elem_list, toStr_sc, toInt_sc, toBool_sc, headD_one, nat_int, get_bt, decide_eq_true_eq, decide_eq_false_iff_not, decide_true, decide_false, if_true, if_false, ite_self, Bool.not_true, Bool.not_false, Bool.false_eq_true, Bool.true_eq_false, Bool.true_and, Bool.false_and, Bool.and_true, Bool.and_false, not_true, not_false_iff, Option.bind_some, nn, toList_inj, Bool.not_eq_true', Bool.not_eq_false', Int.le_refl, and_self, true_and, and_true, false_and, and_false, bne_self_eq_false, beq_self_eq_true, Int.reduceEq, Nat.reduceEqDiff, List.length_singleton, List.tail_cons, Int.reduceLE, Int.reduceLT, decide_eq_true_eq]
  by_cases h : (1048576 : Int) < (w.size : Int)
  · simp only [h, strs_len, strs_elem, ints_len, ints_elem, items_list, fld_agg, elem_list, toStr_sc, toInt_sc, toBool_sc, headD_one, nat_int, get_bt, decide_eq_true_eq, decide_eq_false_iff_not, decide_true, decide_false, if_true, if_false, ite_self, Bool.not_true, Bool.not_false, Bool.false_eq_true, Bool.true_eq_false, Bool.true_and, Bool.false_and, Bool.and_true, Bool.and_false, not_true, not_false_iff, Option.bind_some, nn, toList_inj, Bool.not_eq_true', Bool.not_eq_false', Int.le_refl, and_self, true_and, and_true, false_and, and_false, bne_self_eq_false, beq_self_eq_true, Int.reduceEq, Nat.reduceEqDiff, List.length_singleton, List.tail_cons, Int.reduceLE, Int.reduceLT, decide_eq_true_eq]; exact Ev.now _
  by_cases h' : (1048576 : Int) < (l.size : Int)
  · simp only [h, h', strs_len, strs_elem, ints_len, ints_elem, items_list, fld_agg, elem_list, toStr_sc, toInt_sc, toBool_sc, headD_one, nat_int, get_bt, decide_eq_true_eq, decide_eq_false_iff_not, decide_true, decide_false, if_true, if_false, ite_self, Bool.not_true, Bool.not_false, Bool.false_eq_true, Bool.true_eq_false, Bool.true_and, Bool.false_and, Bool.and_true, Bool.and_false, not_true, not_false_iff, Option.bind_some, nn, toList_inj, Bool.not_eq_true', Bool.not_eq_false', Int.le_refl, and_self, true_and, and_true, false_and, and_false, bne_self_eq_false, beq_self_eq_true, Int.reduceEq, Nat.reduceEqDiff, List.length_singleton, List.tail_cons, Int.reduceLE, Int.reduceLT, decide_eq_true_eq]; exact Ev.now _
  simp only [h, h', strs_len, strs_elem, ints_len, ints_elem, items_list, fld_agg, elem_list, toStr_sc, toInt_sc, toBool_sc, headD_one, nat_int, get_bt, decide_eq_true_eq, decide_eq_false_iff_not, decide_true, decide_false, if_true, if_false, ite_self, Bool.not_true, Bool.not_false, Bool.false_eq_true, Bool.true_eq_false, Bool.true_and, Bool.false_and, Bool.and_true, Bool.and_false, not_true, not_false_iff, Option.bind_some, nn, toList_inj, Bool.not_eq_true', Bool.not_eq_false', Int.le_refl, and_self, true_and, and_true, false_and, and_false, bne_self_eq_false, beq_self_eq_true, Int.reduceEq, Nat.reduceEqDiff, List.length_singleton, List.tail_cons, Int.reduceLE, Int.reduceLT, decide_eq_true_eq]
  refine Ev.bind (specLike_ev w l (by omega) (by omega)) ?_
  refine Ev.bind (implLike_ev w l (by omega) (by omega)) ?_
  simp only [strs_len, strs_elem, ints_len, ints_elem, items_list, fld_agg, elem_list, toStr_sc, toInt_sc, toBool_sc, headD_one, nat_int, get_bt, decide_eq_true_eq, decide_eq_false_iff_not, decide_true, decide_false, if_true, if_false, ite_self, Bool.not_true, Bool.not_false, Bool.false_eq_true, Bool.true_eq_false, Bool.true_and, Bool.false_and, Bool.and_true, Bool.and_false, not_true, not_false_iff, Option.bind_some, nn, toList_inj, Bool.not_eq_true', Bool.not_eq_false', Int.le_refl, and_self, true_and, and_true, false_and, and_false, bne_self_eq_false, beq_self_eq_true, Int.reduceEq, Nat.reduceEqDiff, List.length_singleton, List.tail_cons, Int.reduceLE, Int.reduceLT, decide_eq_true_eq]
  exact Ev.now _
end Go.Proofs.YtoejdiplkaphfaaDoor.FnExactCaseLike
