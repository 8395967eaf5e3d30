/- The law FnExactWeighFar, over the trees that its functions compute: it answers true, for all arguments of the bounds that the row grants. -/
import Derived.Test.YtgahfbbhnkcnfaaDoorFnFnExactWeighFarx1
set_option linter.unusedVariables false
set_option linter.unusedSimpArgs false
set_option maxRecDepth 10000
namespace Go.Proofs.YtgahfbbhnkcnfaaDoor.FnExactWeighFar
open Go Go.Proofs.YtgahfbbhnkcnfaaDoorAm
/-! #### words -/
def isWord (s : ByteArray) : Bool := decide (1 ≤ s.size ∧ s.size ≤ 12) && (bytesOf s).all fun c => decide (97 ≤ c ∧ c ≤ 122)
def lowB (l : List Int) : Bool := l.all fun c => decide (97 ≤ c ∧ c ≤ 122)
theorem lowB_cons (c : Int) (l : List Int) : lowB (c :: l) = (decide (97 ≤ c ∧ c ≤ 122) && lowB l) := by simp [lowB]
def bLess (a b : ByteArray) : Bool := Op.bytesLess a.toList b.toList
theorem bLess_eq (a b : ByteArray) : Op.bytesLess a.toList b.toList = bLess a b := rfl
/-- Words, ascending, behind one (or none). -/
def ascW : Option ByteArray → List ByteArray → Bool
  | _, [] => true
  | none, c :: rest => isWord c && ascW (some c) rest
  | some q, c :: rest => isWord c && bLess q c && ascW (some c) rest
def wordsM (l : List ByteArray) (most : Int) : Bool := ascW none l && decide ((l.length : Int) ≤ most)
/-- What stands ahead of a place. -/
def Ahead (pre : List ByteArray) (p : Option ByteArray) : Prop := (pre = [] ∧ p = none) ∨ ∃ pre' q, pre = pre' ++ [q] ∧ p = some q
theorem Ahead.next (pre : List ByteArray) (c : ByteArray) : Ahead (pre ++ [c]) (some c) := .inr ⟨pre, c, rfl, rfl⟩
theorem at_prev {xs pre' rest : List ByteArray} {q : ByteArray} (hp : xs = (pre' ++ [q]) ++ rest) (hx : xs.length ≤ 9223372036854775807) :
    IntKind.i64.wrap (((pre' ++ [q]).length : Int) - 1) = (pre'.length : Int) ∧ (pre'.length : Int) < (xs.length : Int) ∧ xs.getD pre'.length ByteArray.empty = q ∧ (0 : Int) < ((pre' ++ [q]).length : Int) := by
  subst hp
  simp only [List.length_append, List.length_cons, List.length_nil] at hx ⊢
  refine ⟨?_, by omega, ?_, by omega⟩
  · rw [wrap_id (by omega) (by omega)]; omega
  · simp
theorem implWithin_val (a b c : Int) (N : Nat) : impl_within.f N [.sc (.int .i64 a), .sc (.int .i64 b), .sc (.int .i64 c)] = some [boolP (decide (b ≤ a ∧ a ≤ c))] := by
  simp only [impl_within.f_eq, strs_len, strs_elem, ints_len, ints_elem, items_list, fld_agg, elem_list, toStr_sc, toInt_sc, toBool_sc, headD_one, nat_int, get_bt, decide_eq_true_eq, decide_eq_false_iff_not, decide_true, decide_false, if_true, if_false, ite_self, Bool.not_true, Bool.not_false, Bool.false_eq_true, Bool.true_eq_false, Bool.true_and, Bool.false_and, Bool.and_true, Bool.and_false, not_true, not_false_iff, Option.bind_some, nn, toList_inj, Bool.not_eq_true', Bool.not_eq_false', Int.le_refl, and_self, true_and, and_true, false_and, and_false, bne_self_eq_false, beq_self_eq_true, Int.reduceEq, Nat.reduceEqDiff, List.length_singleton, List.tail_cons, Int.reduceLE, Int.reduceLT, decide_eq_true_eq]
  by_cases h1 : b ≤ a <;> by_cases h2 : a ≤ c <;> simp only [h1, h2, strs_len, strs_elem, ints_len, ints_elem, items_list, fld_agg, elem_list, toStr_sc, toInt_sc, toBool_sc, headD_one, nat_int, get_bt, decide_eq_true_eq, decide_eq_false_iff_not, decide_true, decide_false, if_true, if_false, ite_self, Bool.not_true, Bool.not_false, Bool.false_eq_true, Bool.true_eq_false, Bool.true_and, Bool.false_and, Bool.and_true, Bool.and_false, not_true, not_false_iff, Option.bind_some, nn, toList_inj, Bool.not_eq_true', Bool.not_eq_false', Int.le_refl, and_self, true_and, and_true, false_and, and_false, bne_self_eq_false, beq_self_eq_true, Int.reduceEq, Nat.reduceEqDiff, List.length_singleton, List.tail_cons, Int.reduceLE, Int.reduceLT, decide_eq_true_eq]
theorem implLower_loop (s : ByteArray) (hs : s.size ≤ 9223372036854775807) : ∀ rest pre : List Int, bytesOf s = pre ++ rest → Ev2 (fun N n => impl_lower.l0 N n s (s.size : Int) (pre.length : Int)) [boolP (lowB rest)] := by
  intro rest
  induction rest with
  | nil =>
    intro pre hp
    refine Ev2.succ ?_
    simp only [impl_lower.l0_eq, at_sizeE hp, strs_len, strs_elem, ints_len, ints_elem, items_list, fld_agg, elem_list, toStr_sc, toInt_sc, toBool_sc, headD_one, nat_int, get_bt, decide_eq_true_eq, decide_eq_false_iff_not, decide_true, decide_false, if_true, if_false, ite_self, Bool.not_true, Bool.not_false, Bool.false_eq_true, Bool.true_eq_false, Bool.true_and, Bool.false_and, Bool.and_true, Bool.and_false, not_true, not_false_iff, Option.bind_some, nn, toList_inj, Bool.not_eq_true', Bool.not_eq_false', Int.le_refl, and_self, true_and, and_true, false_and, and_false, bne_self_eq_false, beq_self_eq_true, Int.reduceEq, Nat.reduceEqDiff, List.length_singleton, List.tail_cons, Int.reduceLE, Int.reduceLT, decide_eq_true_eq]
    exact Ev2.now _
  | cons c rest ih =>
    intro pre hp
    refine Ev2.succ ?_
    simp only [impl_lower.l0_eq, strs_len, strs_elem, ints_len, ints_elem, items_list, fld_agg, elem_list, toStr_sc, toInt_sc, toBool_sc, headD_one, nat_int, get_bt, decide_eq_true_eq, decide_eq_false_iff_not, decide_true, decide_false, if_true, if_false, ite_self, Bool.not_true, Bool.not_false, Bool.false_eq_true, Bool.true_eq_false, Bool.true_and, Bool.false_and, Bool.and_true, Bool.and_false, not_true, not_false_iff, Option.bind_some, nn, toList_inj, Bool.not_eq_true', Bool.not_eq_false', Int.le_refl, and_self, true_and, and_true, false_and, and_false, bne_self_eq_false, beq_self_eq_true, Int.reduceEq, Nat.reduceEqDiff, List.length_singleton, List.tail_cons, Int.reduceLE, Int.reduceLT, decide_eq_true_eq, at_size hp, at_bt hp, at_next hp (by rw [bytesOf_len]; omega)]
    rw [lowB_cons]
    by_cases h1 : c < 97
    · simp only [h1, eq_false (show ¬ (97 ≤ c ∧ c ≤ 122) by omega), strs_len, strs_elem, ints_len, ints_elem, items_list, fld_agg, elem_list, toStr_sc, toInt_sc, toBool_sc, headD_one, nat_int, get_bt, decide_eq_true_eq, decide_eq_false_iff_not, decide_true, decide_false, if_true, if_false, ite_self, Bool.not_true, Bool.not_false, Bool.false_eq_true, Bool.true_eq_false, Bool.true_and, Bool.false_and, Bool.and_true, Bool.and_false, not_true, not_false_iff, Option.bind_some, nn, toList_inj, Bool.not_eq_true', Bool.not_eq_false', Int.le_refl, and_self, true_and, and_true, false_and, and_false, bne_self_eq_false, beq_self_eq_true, Int.reduceEq, Nat.reduceEqDiff, List.length_singleton, List.tail_cons, Int.reduceLE, Int.reduceLT, decide_eq_true_eq]; exact Ev2.now _
    by_cases h2 : 122 < c
    · simp only [h1, h2, eq_false (show ¬ (97 ≤ c ∧ c ≤ 122) by omega), strs_len, strs_elem, ints_len, ints_elem, items_list, fld_agg, elem_list, toStr_sc, toInt_sc, toBool_sc, headD_one, nat_int, get_bt, decide_eq_true_eq, decide_eq_false_iff_not, decide_true, decide_false, if_true, if_false, ite_self, Bool.not_true, Bool.not_false, Bool.false_eq_true, Bool.true_eq_false, Bool.true_and, Bool.false_and, Bool.and_true, Bool.and_false, not_true, not_false_iff, Option.bind_some, nn, toList_inj, Bool.not_eq_true', Bool.not_eq_false', Int.le_refl, and_self, true_and, and_true, false_and, and_false, bne_self_eq_false, beq_self_eq_true, Int.reduceEq, Nat.reduceEqDiff, List.length_singleton, List.tail_cons, Int.reduceLE, Int.reduceLT, decide_eq_true_eq]; exact Ev2.now _
    simp only [h1, h2, eq_true (show (97 ≤ c ∧ c ≤ 122) by omega), strs_len, strs_elem, ints_len, ints_elem, items_list, fld_agg, elem_list, toStr_sc, toInt_sc, toBool_sc, headD_one, nat_int, get_bt, decide_eq_true_eq, decide_eq_false_iff_not, decide_true, decide_false, if_true, if_false, ite_self, Bool.not_true, Bool.not_false, Bool.false_eq_true, Bool.true_eq_false, Bool.true_and, Bool.false_and, Bool.and_true, Bool.and_false, not_true, not_false_iff, Option.bind_some, nn, toList_inj, Bool.not_eq_true', Bool.not_eq_false', Int.le_refl, and_self, true_and, and_true, false_and, and_false, bne_self_eq_false, beq_self_eq_true, Int.reduceEq, Nat.reduceEqDiff, List.length_singleton, List.tail_cons, Int.reduceLE, Int.reduceLT, decide_eq_true_eq]
    exact ih _ (at_step hp)
theorem implLower_ev (s : ByteArray) (hs : s.size ≤ 9223372036854775807) : Ev (fun N => impl_lower.f N [strP s]) [boolP (lowB (bytesOf s))] := by
  simp only [impl_lower.f_eq, strs_len, strs_elem, ints_len, ints_elem, items_list, fld_agg, elem_list, toStr_sc, toInt_sc, toBool_sc, headD_one, nat_int, get_bt, decide_eq_true_eq, decide_eq_false_iff_not, decide_true, decide_false, if_true, if_false, ite_self, Bool.not_true, Bool.not_false, Bool.false_eq_true, Bool.true_eq_false, Bool.true_and, Bool.false_and, Bool.and_true, Bool.and_false, not_true, not_false_iff, Option.bind_some, nn, toList_inj, Bool.not_eq_true', Bool.not_eq_false', Int.le_refl, and_self, true_and, and_true, false_and, and_false, bne_self_eq_false, beq_self_eq_true, Int.reduceEq, Nat.reduceEqDiff, List.length_singleton, List.tail_cons, Int.reduceLE, Int.reduceLT, decide_eq_true_eq]
  exact (implLower_loop s hs (bytesOf s) [] rfl).diag
theorem implWord_ev (s : ByteArray) (hs : s.size ≤ 9223372036854775807) : Ev (fun N => impl_WordOk.f N [strP s]) [boolP (isWord s)] := by
  simp only [impl_WordOk.f_eq, implWithin_val, strs_len, strs_elem, ints_len, ints_elem, items_list, fld_agg, elem_list, toStr_sc, toInt_sc, toBool_sc, headD_one, nat_int, get_bt, decide_eq_true_eq, decide_eq_false_iff_not, decide_true, decide_false, if_true, if_false, ite_self, Bool.not_true, Bool.not_false, Bool.false_eq_true, Bool.true_eq_false, Bool.true_and, Bool.false_and, Bool.and_true, Bool.and_false, not_true, not_false_iff, Option.bind_some, nn, toList_inj, Bool.not_eq_true', Bool.not_eq_false', Int.le_refl, and_self, true_and, and_true, false_and, and_false, bne_self_eq_false, beq_self_eq_true, Int.reduceEq, Nat.reduceEqDiff, List.length_singleton, List.tail_cons, Int.reduceLE, Int.reduceLT, decide_eq_true_eq]
  by_cases h : 1 ≤ s.size ∧ s.size ≤ 12
  · simp only [eq_true (show (1 : Int) ≤ s.size ∧ (s.size : Int) ≤ 12 by omega), strs_len, strs_elem, ints_len, ints_elem, items_list, fld_agg, elem_list, toStr_sc, toInt_sc, toBool_sc, headD_one, nat_int, get_bt, decide_eq_true_eq, decide_eq_false_iff_not, decide_true, decide_false, if_true, if_false, ite_self, Bool.not_true, Bool.not_false, Bool.false_eq_true, Bool.true_eq_false, Bool.true_and, Bool.false_and, Bool.and_true, Bool.and_false, not_true, not_false_iff, Option.bind_some, nn, toList_inj, Bool.not_eq_true', Bool.not_eq_false', Int.le_refl, and_self, true_and, and_true, false_and, and_false, bne_self_eq_false, beq_self_eq_true, Int.reduceEq, Nat.reduceEqDiff, List.length_singleton, List.tail_cons, Int.reduceLE, Int.reduceLT, decide_eq_true_eq]
    refine Ev.bind (implLower_ev s hs) ?_
    refine Ev.ext (Ev.now _) ?_
    unfold isWord
    rw [decide_eq_true h, Bool.true_and]
    rfl
  · simp only [eq_false (show ¬ ((1 : Int) ≤ s.size ∧ (s.size : Int) ≤ 12) by omega), strs_len, strs_elem, ints_len, ints_elem, items_list, fld_agg, elem_list, toStr_sc, toInt_sc, toBool_sc, headD_one, nat_int, get_bt, decide_eq_true_eq, decide_eq_false_iff_not, decide_true, decide_false, if_true, if_false, ite_self, Bool.not_true, Bool.not_false, Bool.false_eq_true, Bool.true_eq_false, Bool.true_and, Bool.false_and, Bool.and_true, Bool.and_false, not_true, not_false_iff, Option.bind_some, nn, toList_inj, Bool.not_eq_true', Bool.not_eq_false', Int.le_refl, and_self, true_and, and_true, false_and, and_false, bne_self_eq_false, beq_self_eq_true, Int.reduceEq, Nat.reduceEqDiff, List.length_singleton, List.tail_cons, Int.reduceLE, Int.reduceLT, decide_eq_true_eq]
    refine Ev.ext (Ev.now _) ?_
    unfold isWord
    rw [decide_eq_false h, Bool.false_and]
theorem specLetters_loop (s : ByteArray) (hs : s.size ≤ 9223372036854775807) (m : Int) : ∀ rest pre : List Int, bytesOf s = pre ++ rest → Ev2 (fun N n => spec_l1Letters.l0 N n s m (pre.length : Int)) [boolP (lowB rest && decide ((s.size : Int) ≤ m))] := by
  intro rest
  induction rest with
  | nil =>
    intro pre hp
    refine Ev2.succ ?_
    simp only [spec_l1Letters.l0_eq, at_sizeE hp, lowB, List.all_nil, strs_len, strs_elem, ints_len, ints_elem, items_list, fld_agg, elem_list, toStr_sc, toInt_sc, toBool_sc, headD_one, nat_int, get_bt, decide_eq_true_eq, decide_eq_false_iff_not, decide_true, decide_false, if_true, if_false, ite_self, Bool.not_true, Bool.not_false, Bool.false_eq_true, Bool.true_eq_false, Bool.true_and, Bool.false_and, Bool.and_true, Bool.and_false, not_true, not_false_iff, Option.bind_some, nn, toList_inj, Bool.not_eq_true', Bool.not_eq_false', Int.le_refl, and_self, true_and, and_true, false_and, and_false, bne_self_eq_false, beq_self_eq_true, Int.reduceEq, Nat.reduceEqDiff, List.length_singleton, List.tail_cons, Int.reduceLE, Int.reduceLT, decide_eq_true_eq]
    exact Ev2.now _
  | cons c rest ih =>
    intro pre hp
    refine Ev2.succ ?_
    simp only [spec_l1Letters.l0_eq, strs_len, strs_elem, ints_len, ints_elem, items_list, fld_agg, elem_list, toStr_sc, toInt_sc, toBool_sc, headD_one, nat_int, get_bt, decide_eq_true_eq, decide_eq_false_iff_not, decide_true, decide_false, if_true, if_false, ite_self, Bool.not_true, Bool.not_false, Bool.false_eq_true, Bool.true_eq_false, Bool.true_and, Bool.false_and, Bool.and_true, Bool.and_false, not_true, not_false_iff, Option.bind_some, nn, toList_inj, Bool.not_eq_true', Bool.not_eq_false', Int.le_refl, and_self, true_and, and_true, false_and, and_false, bne_self_eq_false, beq_self_eq_true, Int.reduceEq, Nat.reduceEqDiff, List.length_singleton, List.tail_cons, Int.reduceLE, Int.reduceLT, decide_eq_true_eq, at_size hp, at_bt hp, at_next hp (by rw [bytesOf_len]; omega)]
    rw [lowB_cons]
    by_cases h1 : c < 97
    · simp only [h1, eq_false (show ¬ (97 ≤ c ∧ c ≤ 122) by omega), strs_len, strs_elem, ints_len, ints_elem, items_list, fld_agg, elem_list, toStr_sc, toInt_sc, toBool_sc, headD_one, nat_int, get_bt, decide_eq_true_eq, decide_eq_false_iff_not, decide_true, decide_false, if_true, if_false, ite_self, Bool.not_true, Bool.not_false, Bool.false_eq_true, Bool.true_eq_false, Bool.true_and, Bool.false_and, Bool.and_true, Bool.and_false, not_true, not_false_iff, Option.bind_some, nn, toList_inj, Bool.not_eq_true', Bool.not_eq_false', Int.le_refl, and_self, true_and, and_true, false_and, and_false, bne_self_eq_false, beq_self_eq_true, Int.reduceEq, Nat.reduceEqDiff, List.length_singleton, List.tail_cons, Int.reduceLE, Int.reduceLT, decide_eq_true_eq]; exact Ev2.now _
    by_cases h2 : 122 < c
    · simp only [h1, h2, eq_false (show ¬ (97 ≤ c ∧ c ≤ 122) by omega), strs_len, strs_elem, ints_len, ints_elem, items_list, fld_agg, elem_list, toStr_sc, toInt_sc, toBool_sc, headD_one, nat_int, get_bt, decide_eq_true_eq, decide_eq_false_iff_not, decide_true, decide_false, if_true, if_false, ite_self, Bool.not_true, Bool.not_false, Bool.false_eq_true, Bool.true_eq_false, Bool.true_and, Bool.false_and, Bool.and_true, Bool.and_false, not_true, not_false_iff, Option.bind_some, nn, toList_inj, Bool.not_eq_true', Bool.not_eq_false', Int.le_refl, and_self, true_and, and_true, false_and, and_false, bne_self_eq_false, beq_self_eq_true, Int.reduceEq, Nat.reduceEqDiff, List.length_singleton, List.tail_cons, Int.reduceLE, Int.reduceLT, decide_eq_true_eq]; exact Ev2.now _
    simp only [h1, h2, eq_true (show (97 ≤ c ∧ c ≤ 122) by omega), strs_len, strs_elem, ints_len, ints_elem, items_list, fld_agg, elem_list, toStr_sc, toInt_sc, toBool_sc, headD_one, nat_int, get_bt, decide_eq_true_eq, decide_eq_false_iff_not, decide_true, decide_false, if_true, if_false, ite_self, Bool.not_true, Bool.not_false, Bool.false_eq_true, Bool.true_eq_false, Bool.true_and, Bool.false_and, Bool.and_true, Bool.and_false, not_true, not_false_iff, Option.bind_some, nn, toList_inj, Bool.not_eq_true', Bool.not_eq_false', Int.le_refl, and_self, true_and, and_true, false_and, and_false, bne_self_eq_false, beq_self_eq_true, Int.reduceEq, Nat.reduceEqDiff, List.length_singleton, List.tail_cons, Int.reduceLE, Int.reduceLT, decide_eq_true_eq]
    exact ih _ (at_step hp)
theorem specLetters_ev (s : ByteArray) (hs : s.size ≤ 9223372036854775807) (m : Int) : Ev (fun N => spec_l1Letters.f N [strP s, intP m]) [boolP (lowB (bytesOf s) && decide ((s.size : Int) ≤ m))] := by
  simp only [spec_l1Letters.f_eq, strs_len, strs_elem, ints_len, ints_elem, items_list, fld_agg, elem_list, toStr_sc, toInt_sc, toBool_sc, headD_one, nat_int, get_bt, decide_eq_true_eq, decide_eq_false_iff_not, decide_true, decide_false, if_true, if_false, ite_self, Bool.not_true, Bool.not_false, Bool.false_eq_true, Bool.true_eq_false, Bool.true_and, Bool.false_and, Bool.and_true, Bool.and_false, not_true, not_false_iff, Option.bind_some, nn, toList_inj, Bool.not_eq_true', Bool.not_eq_false', Int.le_refl, and_self, true_and, and_true, false_and, and_false, bne_self_eq_false, beq_self_eq_true, Int.reduceEq, Nat.reduceEqDiff, List.length_singleton, List.tail_cons, Int.reduceLE, Int.reduceLT, decide_eq_true_eq]
  exact (specLetters_loop s hs m (bytesOf s) [] rfl).diag
theorem specWord_ev (s : ByteArray) (hs : s.size ≤ 9223372036854775807) : Ev (fun N => spec_l1Word.f N [strP s]) [boolP (isWord s)] := by
  simp only [spec_l1Word.f_eq, strs_len, strs_elem, ints_len, ints_elem, items_list, fld_agg, elem_list, toStr_sc, toInt_sc, toBool_sc, headD_one, nat_int, get_bt, decide_eq_true_eq, decide_eq_false_iff_not, decide_true, decide_false, if_true, if_false, ite_self, Bool.not_true, Bool.not_false, Bool.false_eq_true, Bool.true_eq_false, Bool.true_and, Bool.false_and, Bool.and_true, Bool.and_false, not_true, not_false_iff, Option.bind_some, nn, toList_inj, Bool.not_eq_true', Bool.not_eq_false', Int.le_refl, and_self, true_and, and_true, false_and, and_false, bne_self_eq_false, beq_self_eq_true, Int.reduceEq, Nat.reduceEqDiff, List.length_singleton, List.tail_cons, Int.reduceLE, Int.reduceLT, decide_eq_true_eq]
  by_cases h : (0 : Int) < (s.size : Int)
  · simp only [h, strs_len, strs_elem, ints_len, ints_elem, items_list, fld_agg, elem_list, toStr_sc, toInt_sc, toBool_sc, headD_one, nat_int, get_bt, decide_eq_true_eq, decide_eq_false_iff_not, decide_true, decide_false, if_true, if_false, ite_self, Bool.not_true, Bool.not_false, Bool.false_eq_true, Bool.true_eq_false, Bool.true_and, Bool.false_and, Bool.and_true, Bool.and_false, not_true, not_false_iff, Option.bind_some, nn, toList_inj, Bool.not_eq_true', Bool.not_eq_false', Int.le_refl, and_self, true_and, and_true, false_and, and_false, bne_self_eq_false, beq_self_eq_true, Int.reduceEq, Nat.reduceEqDiff, List.length_singleton, List.tail_cons, Int.reduceLE, Int.reduceLT, decide_eq_true_eq]
    refine Ev.bind (specLetters_ev s hs 12) ?_
    refine Ev.ext (Ev.now _) ?_
    simp only [strs_len, strs_elem, ints_len, ints_elem, items_list, fld_agg, elem_list, toStr_sc, toInt_sc, toBool_sc, headD_one, nat_int, get_bt, decide_eq_true_eq, decide_eq_false_iff_not, decide_true, decide_false, if_true, if_false, ite_self, Bool.not_true, Bool.not_false, Bool.false_eq_true, Bool.true_eq_false, Bool.true_and, Bool.false_and, Bool.and_true, Bool.and_false, not_true, not_false_iff, Option.bind_some, nn, toList_inj, Bool.not_eq_true', Bool.not_eq_false', Int.le_refl, and_self, true_and, and_true, false_and, and_false, bne_self_eq_false, beq_self_eq_true, Int.reduceEq, Nat.reduceEqDiff, List.length_singleton, List.tail_cons, Int.reduceLE, Int.reduceLT, decide_eq_true_eq]
    unfold isWord
    rw [Bool.and_comm]
    show [boolP (_ && lowB _)] = [boolP (decide _ && lowB _)]
    have : decide ((s.size : Int) ≤ 12) = decide (1 ≤ s.size ∧ s.size ≤ 12) := decide_eq_decide.2 (by omega)
    rw [this]
  · simp only [h, strs_len, strs_elem, ints_len, ints_elem, items_list, fld_agg, elem_list, toStr_sc, toInt_sc, toBool_sc, headD_one, nat_int, get_bt, decide_eq_true_eq, decide_eq_false_iff_not, decide_true, decide_false, if_true, if_false, ite_self, Bool.not_true, Bool.not_false, Bool.false_eq_true, Bool.true_eq_false, Bool.true_and, Bool.false_and, Bool.and_true, Bool.and_false, not_true, not_false_iff, Option.bind_some, nn, toList_inj, Bool.not_eq_true', Bool.not_eq_false', Int.le_refl, and_self, true_and, and_true, false_and, and_false, bne_self_eq_false, beq_self_eq_true, Int.reduceEq, Nat.reduceEqDiff, List.length_singleton, List.tail_cons, Int.reduceLE, Int.reduceLT, decide_eq_true_eq]
    refine Ev.ext (Ev.now _) ?_
    unfold isWord
    rw [decide_eq_false (show ¬ (1 ≤ s.size ∧ s.size ≤ 12) by omega), Bool.false_and]
theorem least_val (a b : Int) (N : Nat) : spec_l1Least.f N [intP a, intP b] = some [intP (if a < b then a else b)] := by
  simp only [spec_l1Least.f_eq, strs_len, strs_elem, ints_len, ints_elem, items_list, fld_agg, elem_list, toStr_sc, toInt_sc, toBool_sc, headD_one, nat_int, get_bt, decide_eq_true_eq, decide_eq_false_iff_not, decide_true, decide_false, if_true, if_false, ite_self, Bool.not_true, Bool.not_false, Bool.false_eq_true, Bool.true_eq_false, Bool.true_and, Bool.false_and, Bool.and_true, Bool.and_false, not_true, not_false_iff, Option.bind_some, nn, toList_inj, Bool.not_eq_true', Bool.not_eq_false', Int.le_refl, and_self, true_and, and_true, false_and, and_false, bne_self_eq_false, beq_self_eq_true, Int.reduceEq, Nat.reduceEqDiff, List.length_singleton, List.tail_cons, Int.reduceLE, Int.reduceLT, decide_eq_true_eq]
  by_cases h : a < b <;> simp only [h, strs_len, strs_elem, ints_len, ints_elem, items_list, fld_agg, elem_list, toStr_sc, toInt_sc, toBool_sc, headD_one, nat_int, get_bt, decide_eq_true_eq, decide_eq_false_iff_not, decide_true, decide_false, if_true, if_false, ite_self, Bool.not_true, Bool.not_false, Bool.false_eq_true, Bool.true_eq_false, Bool.true_and, Bool.false_and, Bool.and_true, Bool.and_false, not_true, not_false_iff, Option.bind_some, nn, toList_inj, Bool.not_eq_true', Bool.not_eq_false', Int.le_refl, and_self, true_and, and_true, false_and, and_false, bne_self_eq_false, beq_self_eq_true, Int.reduceEq, Nat.reduceEqDiff, List.length_singleton, List.tail_cons, Int.reduceLE, Int.reduceLT, decide_eq_true_eq]
/-! #### the keyboard -/
def idxL : List Int → Int → Int
  | [], _ => -1
  | b :: l, c => if b = c then 0 else if idxL l c = -1 then -1 else idxL l c + 1
theorem idxL_ge : ∀ (l : List Int) (c : Int), -1 ≤ idxL l c ∧ idxL l c < l.length
  | [], _ => by simp [idxL]
  | b :: l, c => by
    have := idxL_ge l c
    unfold idxL
    simp only [List.length_cons]
    split
    · omega
    · split <;> omega
theorem idx_byte : ∀ (l : List UInt8) (b : UInt8), Lib.indexByte l b = idxL (l.map fun x => (x.toNat : Int)) (b.toNat : Int)
  | [], _ => rfl
  | x :: l, b => by
    rw [Lib.indexByte, List.map_cons, idxL, idx_byte l b]
    have : ((x == b) = true) ↔ ((x.toNat : Int) = (b.toNat : Int)) := by
      rw [beq_iff_eq, ← UInt8.toNat_inj]; omega
    by_cases h : (x.toNat : Int) = (b.toNat : Int)
    · rw [if_pos (this.2 h), if_pos h]
    · rw [if_neg (fun hx => h (this.1 hx)), if_neg h]
      simp only [beq_iff_eq]
def kb0 : ByteArray := ByteArray.mk #[113, 119, 101, 114, 116, 121, 117, 105, 111, 112]
def kb1 : ByteArray := ByteArray.mk #[97, 115, 100, 102, 103, 104, 106, 107, 108]
def kb2 : ByteArray := ByteArray.mk #[122, 120, 99, 118, 98, 110, 109]
def kr0 : List Int := [113, 119, 101, 114, 116, 121, 117, 105, 111, 112]
def kr1 : List Int := [97, 115, 100, 102, 103, 104, 106, 107, 108]
def kr2 : List Int := [122, 120, 99, 118, 98, 110, 109]
theorem kb0_b : bytesOf kb0 = kr0 := rfl
theorem kb1_b : bytesOf kb1 = kr1 := rfl
theorem kb2_b : bytesOf kb2 = kr2 := rfl
def keyRow (c : Int) : Int × Int := if 0 ≤ idxL kr0 c then (0, idxL kr0 c) else if 0 ≤ idxL kr1 c then (1, idxL kr1 c) else if 0 ≤ idxL kr2 c then (2, idxL kr2 c) else (-1, -1)
theorem keyRow_in (c : Int) : -1 ≤ (keyRow c).1 ∧ (keyRow c).1 ≤ 2 ∧ -1 ≤ (keyRow c).2 ∧ (keyRow c).2 ≤ 10 := by
  have h0 := idxL_ge kr0 c; have h1 := idxL_ge kr1 c; have h2 := idxL_ge kr2 c
  have l0 : kr0.length = 10 := rfl
  have l1 : kr1.length = 9 := rfl
  have l2 : kr2.length = 7 := rfl
  unfold keyRow
  split
  · simp only []; omega
  · split
    · simp only []; omega
    · split
      · simp only []; omega
      · simp
theorem index_one (t s : ByteArray) (hs : s.size = 1) (N : Nat) : strings_Index.f N [strP t, strP s] = some [intP (idxL (bytesOf t) (bt s 0))] := by
  show indexDen _ = _
  simp only [indexDen, hs, if_true]
  rw [idx_byte]; rfl
theorem keyRowsP_eq : keyRowsP = strsP [kb0, kb1, kb2] := rfl
theorem keyAt_ev (s : ByteArray) (hs : s.size = 1) : Ev (fun N => impl_keyAt.f N [strP s]) [intP (keyRow (bt s 0)).1, intP (keyRow (bt s 0)).2] := by
  simp only [impl_keyAt.f_eq, keyRowsP_eq, strs_len, strs_len, strs_elem, ints_len, ints_elem, items_list, fld_agg, elem_list, toStr_sc, toInt_sc, toBool_sc, headD_one, nat_int, get_bt, decide_eq_true_eq, decide_eq_false_iff_not, decide_true, decide_false, if_true, if_false, ite_self, Bool.not_true, Bool.not_false, Bool.false_eq_true, Bool.true_eq_false, Bool.true_and, Bool.false_and, Bool.and_true, Bool.and_false, not_true, not_false_iff, Option.bind_some, nn, toList_inj, Bool.not_eq_true', Bool.not_eq_false', Int.le_refl, and_self, true_and, and_true, false_and, and_false, bne_self_eq_false, beq_self_eq_true, Int.reduceEq, Nat.reduceEqDiff, List.length_singleton, List.tail_cons, Int.reduceLE, Int.reduceLT, decide_eq_true_eq]
  have key : Ev2 (fun N n => impl_keyAt.l0 N n s (strsP [kb0, kb1, kb2]) (([kb0, kb1, kb2] : List ByteArray).length : Int) 0) [intP (keyRow (bt s 0)).1, intP (keyRow (bt s 0)).2] := by
    have w0 : IntKind.i64.wrap (0 + 1) = 1 := wrap_id (by omega) (by omega)
    have w1 : IntKind.i64.wrap (1 + 1) = 2 := wrap_id (by omega) (by omega)
    have w2 : IntKind.i64.wrap (2 + 1) = 3 := wrap_id (by omega) (by omega)
    have hl : (([kb0, kb1, kb2] : List ByteArray).length : Int) = 3 := rfl
    have i0 : ((0 : Int) < 3) = True := eq_true (by omega)
    have i1 : ((1 : Int) < 3) = True := eq_true (by omega)
    have i2 : ((2 : Int) < 3) = True := eq_true (by omega)
    have i3 : ((3 : Int) < 3) = False := eq_false (by omega)
    have j1 : ((0 : Int) ≤ 1) = True := eq_true (by omega)
    have j2 : ((0 : Int) ≤ 2) = True := eq_true (by omega)
    have t0 : ([kb0, kb1, kb2] : List ByteArray).getD (0 : Int).toNat ByteArray.empty = kb0 := rfl
    have t1 : ([kb0, kb1, kb2] : List ByteArray).getD (1 : Int).toNat ByteArray.empty = kb1 := rfl
    have t2 : ([kb0, kb1, kb2] : List ByteArray).getD (2 : Int).toNat ByteArray.empty = kb2 := rfl
    unfold keyRow
    refine Ev2.succ ?_
    simp only [impl_keyAt.l0_eq, strs_len, hl, i0, strs_elem, t0, index_one _ s hs, kb0_b, w0, strs_len, strs_elem, ints_len, ints_elem, items_list, fld_agg, elem_list, toStr_sc, toInt_sc, toBool_sc, headD_one, nat_int, get_bt, decide_eq_true_eq, decide_eq_false_iff_not, decide_true, decide_false, if_true, if_false, ite_self, Bool.not_true, Bool.not_false, Bool.false_eq_true, Bool.true_eq_false, Bool.true_and, Bool.false_and, Bool.and_true, Bool.and_false, not_true, not_false_iff, Option.bind_some, nn, toList_inj, Bool.not_eq_true', Bool.not_eq_false', Int.le_refl, and_self, true_and, and_true, false_and, and_false, bne_self_eq_false, beq_self_eq_true, Int.reduceEq, Nat.reduceEqDiff, List.length_singleton, List.tail_cons, Int.reduceLE, Int.reduceLT, decide_eq_true_eq]
    by_cases h0 : 0 ≤ idxL kr0 (bt s 0)
    · simp only [h0, strs_len, strs_elem, ints_len, ints_elem, items_list, fld_agg, elem_list, toStr_sc, toInt_sc, toBool_sc, headD_one, nat_int, get_bt, decide_eq_true_eq, decide_eq_false_iff_not, decide_true, decide_false, if_true, if_false, ite_self, Bool.not_true, Bool.not_false, Bool.false_eq_true, Bool.true_eq_false, Bool.true_and, Bool.false_and, Bool.and_true, Bool.and_false, not_true, not_false_iff, Option.bind_some, nn, toList_inj, Bool.not_eq_true', Bool.not_eq_false', Int.le_refl, and_self, true_and, and_true, false_and, and_false, bne_self_eq_false, beq_self_eq_true, Int.reduceEq, Nat.reduceEqDiff, List.length_singleton, List.tail_cons, Int.reduceLE, Int.reduceLT, decide_eq_true_eq]; exact Ev2.now _
    simp only [h0, strs_len, strs_elem, ints_len, ints_elem, items_list, fld_agg, elem_list, toStr_sc, toInt_sc, toBool_sc, headD_one, nat_int, get_bt, decide_eq_true_eq, decide_eq_false_iff_not, decide_true, decide_false, if_true, if_false, ite_self, Bool.not_true, Bool.not_false, Bool.false_eq_true, Bool.true_eq_false, Bool.true_and, Bool.false_and, Bool.and_true, Bool.and_false, not_true, not_false_iff, Option.bind_some, nn, toList_inj, Bool.not_eq_true', Bool.not_eq_false', Int.le_refl, and_self, true_and, and_true, false_and, and_false, bne_self_eq_false, beq_self_eq_true, Int.reduceEq, Nat.reduceEqDiff, List.length_singleton, List.tail_cons, Int.reduceLE, Int.reduceLT, decide_eq_true_eq]
    refine Ev2.succ ?_
    simp only [impl_keyAt.l0_eq, strs_len, hl, i1, j1, strs_elem, t1, index_one _ s hs, kb1_b, w1, strs_len, strs_elem, ints_len, ints_elem, items_list, fld_agg, elem_list, toStr_sc, toInt_sc, toBool_sc, headD_one, nat_int, get_bt, decide_eq_true_eq, decide_eq_false_iff_not, decide_true, decide_false, if_true, if_false, ite_self, Bool.not_true, Bool.not_false, Bool.false_eq_true, Bool.true_eq_false, Bool.true_and, Bool.false_and, Bool.and_true, Bool.and_false, not_true, not_false_iff, Option.bind_some, nn, toList_inj, Bool.not_eq_true', Bool.not_eq_false', Int.le_refl, and_self, true_and, and_true, false_and, and_false, bne_self_eq_false, beq_self_eq_true, Int.reduceEq, Nat.reduceEqDiff, List.length_singleton, List.tail_cons, Int.reduceLE, Int.reduceLT, decide_eq_true_eq]
    by_cases h1 : 0 ≤ idxL kr1 (bt s 0)
    · simp only [h1, strs_len, strs_elem, ints_len, ints_elem, items_list, fld_agg, elem_list, toStr_sc, toInt_sc, toBool_sc, headD_one, nat_int, get_bt, decide_eq_true_eq, decide_eq_false_iff_not, decide_true, decide_false, if_true, if_false, ite_self, Bool.not_true, Bool.not_false, Bool.false_eq_true, Bool.true_eq_false, Bool.true_and, Bool.false_and, Bool.and_true, Bool.and_false, not_true, not_false_iff, Option.bind_some, nn, toList_inj, Bool.not_eq_true', Bool.not_eq_false', Int.le_refl, and_self, true_and, and_true, false_and, and_false, bne_self_eq_false, beq_self_eq_true, Int.reduceEq, Nat.reduceEqDiff, List.length_singleton, List.tail_cons, Int.reduceLE, Int.reduceLT, decide_eq_true_eq]; exact Ev2.now _
    simp only [h1, strs_len, strs_elem, ints_len, ints_elem, items_list, fld_agg, elem_list, toStr_sc, toInt_sc, toBool_sc, headD_one, nat_int, get_bt, decide_eq_true_eq, decide_eq_false_iff_not, decide_true, decide_false, if_true, if_false, ite_self, Bool.not_true, Bool.not_false, Bool.false_eq_true, Bool.true_eq_false, Bool.true_and, Bool.false_and, Bool.and_true, Bool.and_false, not_true, not_false_iff, Option.bind_some, nn, toList_inj, Bool.not_eq_true', Bool.not_eq_false', Int.le_refl, and_self, true_and, and_true, false_and, and_false, bne_self_eq_false, beq_self_eq_true, Int.reduceEq, Nat.reduceEqDiff, List.length_singleton, List.tail_cons, Int.reduceLE, Int.reduceLT, decide_eq_true_eq]
    refine Ev2.succ ?_
    simp only [impl_keyAt.l0_eq, strs_len, hl, i2, j2, strs_elem, t2, index_one _ s hs, kb2_b, w2, strs_len, strs_elem, ints_len, ints_elem, items_list, fld_agg, elem_list, toStr_sc, toInt_sc, toBool_sc, headD_one, nat_int, get_bt, decide_eq_true_eq, decide_eq_false_iff_not, decide_true, decide_false, if_true, if_false, ite_self, Bool.not_true, Bool.not_false, Bool.false_eq_true, Bool.true_eq_false, Bool.true_and, Bool.false_and, Bool.and_true, Bool.and_false, not_true, not_false_iff, Option.bind_some, nn, toList_inj, Bool.not_eq_true', Bool.not_eq_false', Int.le_refl, and_self, true_and, and_true, false_and, and_false, bne_self_eq_false, beq_self_eq_true, Int.reduceEq, Nat.reduceEqDiff, List.length_singleton, List.tail_cons, Int.reduceLE, Int.reduceLT, decide_eq_true_eq]
    by_cases h2 : 0 ≤ idxL kr2 (bt s 0)
    · simp only [h2, strs_len, strs_elem, ints_len, ints_elem, items_list, fld_agg, elem_list, toStr_sc, toInt_sc, toBool_sc, headD_one, nat_int, get_bt, decide_eq_true_eq, decide_eq_false_iff_not, decide_true, decide_false, if_true, if_false, ite_self, Bool.not_true, Bool.not_false, Bool.false_eq_true, Bool.true_eq_false, Bool.true_and, Bool.false_and, Bool.and_true, Bool.and_false, not_true, not_false_iff, Option.bind_some, nn, toList_inj, Bool.not_eq_true', Bool.not_eq_false', Int.le_refl, and_self, true_and, and_true, false_and, and_false, bne_self_eq_false, beq_self_eq_true, Int.reduceEq, Nat.reduceEqDiff, List.length_singleton, List.tail_cons, Int.reduceLE, Int.reduceLT, decide_eq_true_eq]; exact Ev2.now _
    simp only [h2, strs_len, strs_elem, ints_len, ints_elem, items_list, fld_agg, elem_list, toStr_sc, toInt_sc, toBool_sc, headD_one, nat_int, get_bt, decide_eq_true_eq, decide_eq_false_iff_not, decide_true, decide_false, if_true, if_false, ite_self, Bool.not_true, Bool.not_false, Bool.false_eq_true, Bool.true_eq_false, Bool.true_and, Bool.false_and, Bool.and_true, Bool.and_false, not_true, not_false_iff, Option.bind_some, nn, toList_inj, Bool.not_eq_true', Bool.not_eq_false', Int.le_refl, and_self, true_and, and_true, false_and, and_false, bne_self_eq_false, beq_self_eq_true, Int.reduceEq, Nat.reduceEqDiff, List.length_singleton, List.tail_cons, Int.reduceLE, Int.reduceLT, decide_eq_true_eq]
    refine Ev2.succ ?_
    simp only [impl_keyAt.l0_eq, i3, hl, strs_len, strs_elem, ints_len, ints_elem, items_list, fld_agg, elem_list, toStr_sc, toInt_sc, toBool_sc, headD_one, nat_int, get_bt, decide_eq_true_eq, decide_eq_false_iff_not, decide_true, decide_false, if_true, if_false, ite_self, Bool.not_true, Bool.not_false, Bool.false_eq_true, Bool.true_eq_false, Bool.true_and, Bool.false_and, Bool.and_true, Bool.and_false, not_true, not_false_iff, Option.bind_some, nn, toList_inj, Bool.not_eq_true', Bool.not_eq_false', Int.le_refl, and_self, true_and, and_true, false_and, and_false, bne_self_eq_false, beq_self_eq_true, Int.reduceEq, Nat.reduceEqDiff, List.length_singleton, List.tail_cons, Int.reduceLE, Int.reduceLT, decide_eq_true_eq]
    exact Ev2.now _
  exact key.diag
theorem row_l1 (c : Int) (rows : List ByteArray) (hr : rows.length ≤ 3) {pr rest : List ByteArray} {t : ByteArray} (hp : rows = pr ++ t :: rest) (ht : t.size ≤ 100) (R : List PV) : ∀ (l pre : List Int), bytesOf t = pre ++ l →
    (0 ≤ idxL l c → R = [intP (pr.length : Int), intP ((pre.length : Int) + idxL l c)]) → (idxL l c = -1 → Ev2 (fun N n => spec_l10Row.l0 N n c ((pr ++ [t]).length : Int) (rows.map strP)) R) →
    Ev3 (fun N m n => spec_l10Row.l1 N m n c (pr.length : Int) (pre.length : Int) (rows.map strP)) R := by
  have hel : ((rows.map strP).getD pr.length default).toStr = t := by
    have := strs_elem rows pr.length
    simp only [strsP, elem_list] at this
    rw [this]; exact at_getD hp
  have hln : (rows.map strP).length = rows.length := by simp
  intro l
  induction l with
  | nil =>
    intro pre hl h1 h2
    refine Ev3.succ ?_
    simp only [spec_l10Row.l1_eq, hln, at_lt hp, nat_int, hel, at_sizeE hl, at_next hp (by omega), strs_len, strs_elem, ints_len, ints_elem, items_list, fld_agg, elem_list, toStr_sc, toInt_sc, toBool_sc, headD_one, nat_int, get_bt, decide_eq_true_eq, decide_eq_false_iff_not, decide_true, decide_false, if_true, if_false, ite_self, Bool.not_true, Bool.not_false, Bool.false_eq_true, Bool.true_eq_false, Bool.true_and, Bool.false_and, Bool.and_true, Bool.and_false, not_true, not_false_iff, Option.bind_some, nn, toList_inj, Bool.not_eq_true', Bool.not_eq_false', Int.le_refl, and_self, true_and, and_true, false_and, and_false, bne_self_eq_false, beq_self_eq_true, Int.reduceEq, Nat.reduceEqDiff, List.length_singleton, List.tail_cons, Int.reduceLE, Int.reduceLT, decide_eq_true_eq]
    exact (h2 rfl).outer
  | cons b l ih =>
    intro pre hl h1 h2
    have hge := idxL_ge l c
    refine Ev3.succ ?_
    simp only [spec_l10Row.l1_eq, hln, at_lt hp, nat_int, hel, at_size hl, get_bt, at_bt hl, at_next hl (by rw [bytesOf_len]; omega), strs_len, strs_elem, ints_len, ints_elem, items_list, fld_agg, elem_list, toStr_sc, toInt_sc, toBool_sc, headD_one, nat_int, get_bt, decide_eq_true_eq, decide_eq_false_iff_not, decide_true, decide_false, if_true, if_false, ite_self, Bool.not_true, Bool.not_false, Bool.false_eq_true, Bool.true_eq_false, Bool.true_and, Bool.false_and, Bool.and_true, Bool.and_false, not_true, not_false_iff, Option.bind_some, nn, toList_inj, Bool.not_eq_true', Bool.not_eq_false', Int.le_refl, and_self, true_and, and_true, false_and, and_false, bne_self_eq_false, beq_self_eq_true, Int.reduceEq, Nat.reduceEqDiff, List.length_singleton, List.tail_cons, Int.reduceLE, Int.reduceLT, decide_eq_true_eq]
    rw [idxL] at h1 h2
    by_cases hb : b = c
    · rw [if_pos hb] at h1
      rw [h1 (by omega)]
      simp only [hb, Int.add_zero, strs_len, strs_elem, ints_len, ints_elem, items_list, fld_agg, elem_list, toStr_sc, toInt_sc, toBool_sc, headD_one, nat_int, get_bt, decide_eq_true_eq, decide_eq_false_iff_not, decide_true, decide_false, if_true, if_false, ite_self, Bool.not_true, Bool.not_false, Bool.false_eq_true, Bool.true_eq_false, Bool.true_and, Bool.false_and, Bool.and_true, Bool.and_false, not_true, not_false_iff, Option.bind_some, nn, toList_inj, Bool.not_eq_true', Bool.not_eq_false', Int.le_refl, and_self, true_and, and_true, false_and, and_false, bne_self_eq_false, beq_self_eq_true, Int.reduceEq, Nat.reduceEqDiff, List.length_singleton, List.tail_cons, Int.reduceLE, Int.reduceLT, decide_eq_true_eq]
      exact Ev3.now _
    · simp only [hb, strs_len, strs_elem, ints_len, ints_elem, items_list, fld_agg, elem_list, toStr_sc, toInt_sc, toBool_sc, headD_one, nat_int, get_bt, decide_eq_true_eq, decide_eq_false_iff_not, decide_true, decide_false, if_true, if_false, ite_self, Bool.not_true, Bool.not_false, Bool.false_eq_true, Bool.true_eq_false, Bool.true_and, Bool.false_and, Bool.and_true, Bool.and_false, not_true, not_false_iff, Option.bind_some, nn, toList_inj, Bool.not_eq_true', Bool.not_eq_false', Int.le_refl, and_self, true_and, and_true, false_and, and_false, bne_self_eq_false, beq_self_eq_true, Int.reduceEq, Nat.reduceEqDiff, List.length_singleton, List.tail_cons, Int.reduceLE, Int.reduceLT, decide_eq_true_eq]
      rw [if_neg hb] at h1 h2
      refine ih (pre ++ [b]) (at_step hl) (fun h => ?_) (fun h => ?_)
      · rw [if_neg (by omega)] at h1
        rw [h1 (by omega)]; simp; omega
      · rw [if_pos h] at h2; exact h2 rfl
theorem specRow_ev (c : Int) : Ev (fun N => spec_l10Row.f N [.sc (.int .u8 c)]) [intP (keyRow c).1, intP (keyRow c).2] := by
  have e : ([PV.sc (.string (ByteArray.mk #[113, 119, 101, 114, 116, 121, 117, 105, 111, 112])), PV.sc (.string (ByteArray.mk #[97, 115, 100, 102, 103, 104, 106, 107, 108])), PV.sc (.string (ByteArray.mk #[122, 120, 99, 118, 98, 110, 109]))] : List PV) = [kb0, kb1, kb2].map strP := rfl
  simp only [spec_l10Row.f_eq, e, strs_len, strs_elem, ints_len, ints_elem, items_list, fld_agg, elem_list, toStr_sc, toInt_sc, toBool_sc, headD_one, nat_int, get_bt, decide_eq_true_eq, decide_eq_false_iff_not, decide_true, decide_false, if_true, if_false, ite_self, Bool.not_true, Bool.not_false, Bool.false_eq_true, Bool.true_eq_false, Bool.true_and, Bool.false_and, Bool.and_true, Bool.and_false, not_true, not_false_iff, Option.bind_some, nn, toList_inj, Bool.not_eq_true', Bool.not_eq_false', Int.le_refl, and_self, true_and, and_true, false_and, and_false, bne_self_eq_false, beq_self_eq_true, Int.reduceEq, Nat.reduceEqDiff, List.length_singleton, List.tail_cons, Int.reduceLE, Int.reduceLT, decide_eq_true_eq]
  have h3 : Ev2 (fun N n => spec_l10Row.l0 N n c ((([kb0, kb1] ++ [kb2] : List ByteArray)).length : Int) ([kb0, kb1, kb2].map strP)) [intP (-1), intP (-1)] := by
    refine Ev2.succ ?_
    have z : ((((([kb0, kb1] ++ [kb2] : List ByteArray)).length : Int) < ((([kb0, kb1, kb2].map strP).length : Nat) : Int))) = False := eq_false (by simp)
    simp only [spec_l10Row.l0_eq, z, strs_len, strs_elem, ints_len, ints_elem, items_list, fld_agg, elem_list, toStr_sc, toInt_sc, toBool_sc, headD_one, nat_int, get_bt, decide_eq_true_eq, decide_eq_false_iff_not, decide_true, decide_false, if_true, if_false, ite_self, Bool.not_true, Bool.not_false, Bool.false_eq_true, Bool.true_eq_false, Bool.true_and, Bool.false_and, Bool.and_true, Bool.and_false, not_true, not_false_iff, Option.bind_some, nn, toList_inj, Bool.not_eq_true', Bool.not_eq_false', Int.le_refl, and_self, true_and, and_true, false_and, and_false, bne_self_eq_false, beq_self_eq_true, Int.reduceEq, Nat.reduceEqDiff, List.length_singleton, List.tail_cons, Int.reduceLE, Int.reduceLT, decide_eq_true_eq]
    exact Ev2.now _
  unfold keyRow
  refine Ev2.diag (g := fun N n => spec_l10Row.l0 N n c 0 ([kb0, kb1, kb2].map strP)) ?_
  have s0 : ((0 : Int) < ((([kb0, kb1, kb2].map strP).length : Nat) : Int)) = True := eq_true (by simp)
  have s1 : (((([kb0] : List ByteArray).length : Int) < ((([kb0, kb1, kb2].map strP).length : Nat) : Int))) = True := eq_true (by simp)
  have s2 : (((([kb0, kb1] : List ByteArray).length : Int) < ((([kb0, kb1, kb2].map strP).length : Nat) : Int))) = True := eq_true (by simp)
  have g0 := idxL_ge kr0 c; have g1 := idxL_ge kr1 c; have g2 := idxL_ge kr2 c
  refine Ev2.succ ?_
  simp only [spec_l10Row.l0_eq, s0, strs_len, strs_elem, ints_len, ints_elem, items_list, fld_agg, elem_list, toStr_sc, toInt_sc, toBool_sc, headD_one, nat_int, get_bt, decide_eq_true_eq, decide_eq_false_iff_not, decide_true, decide_false, if_true, if_false, ite_self, Bool.not_true, Bool.not_false, Bool.false_eq_true, Bool.true_eq_false, Bool.true_and, Bool.false_and, Bool.and_true, Bool.and_false, not_true, not_false_iff, Option.bind_some, nn, toList_inj, Bool.not_eq_true', Bool.not_eq_false', Int.le_refl, and_self, true_and, and_true, false_and, and_false, bne_self_eq_false, beq_self_eq_true, Int.reduceEq, Nat.reduceEqDiff, List.length_singleton, List.tail_cons, Int.reduceLE, Int.reduceLT, decide_eq_true_eq]
  refine Ev3.start (row_l1 c [kb0, kb1, kb2] (by simp) (pr := []) (t := kb0) (rest := [kb1, kb2]) rfl (by decide) _ kr0 [] kb0_b (fun h => ?_) (fun h => ?_))
  · rw [if_pos h]; simp
  rw [if_neg (by omega)]
  refine Ev2.succ ?_
  simp only [spec_l10Row.l0_eq, List.nil_append, s1, strs_len, strs_elem, ints_len, ints_elem, items_list, fld_agg, elem_list, toStr_sc, toInt_sc, toBool_sc, headD_one, nat_int, get_bt, decide_eq_true_eq, decide_eq_false_iff_not, decide_true, decide_false, if_true, if_false, ite_self, Bool.not_true, Bool.not_false, Bool.false_eq_true, Bool.true_eq_false, Bool.true_and, Bool.false_and, Bool.and_true, Bool.and_false, not_true, not_false_iff, Option.bind_some, nn, toList_inj, Bool.not_eq_true', Bool.not_eq_false', Int.le_refl, and_self, true_and, and_true, false_and, and_false, bne_self_eq_false, beq_self_eq_true, Int.reduceEq, Nat.reduceEqDiff, List.length_singleton, List.tail_cons, Int.reduceLE, Int.reduceLT, decide_eq_true_eq]
  refine Ev3.start (row_l1 c [kb0, kb1, kb2] (by simp) (pr := [kb0]) (t := kb1) (rest := [kb2]) rfl (by decide) _ kr1 [] kb1_b (fun h => ?_) (fun h => ?_))
  · rw [if_pos h]; simp
  rw [if_neg (by omega)]
  refine Ev2.succ ?_
  simp only [spec_l10Row.l0_eq, List.cons_append, List.nil_append, s2, strs_len, strs_elem, ints_len, ints_elem, items_list, fld_agg, elem_list, toStr_sc, toInt_sc, toBool_sc, headD_one, nat_int, get_bt, decide_eq_true_eq, decide_eq_false_iff_not, decide_true, decide_false, if_true, if_false, ite_self, Bool.not_true, Bool.not_false, Bool.false_eq_true, Bool.true_eq_false, Bool.true_and, Bool.false_and, Bool.and_true, Bool.and_false, not_true, not_false_iff, Option.bind_some, nn, toList_inj, Bool.not_eq_true', Bool.not_eq_false', Int.le_refl, and_self, true_and, and_true, false_and, and_false, bne_self_eq_false, beq_self_eq_true, Int.reduceEq, Nat.reduceEqDiff, List.length_singleton, List.tail_cons, Int.reduceLE, Int.reduceLT, decide_eq_true_eq]
  refine Ev3.start (row_l1 c [kb0, kb1, kb2] (by simp) (pr := [kb0, kb1]) (t := kb2) (rest := []) rfl (by decide) _ kr2 [] kb2_b (fun h => ?_) (fun h => ?_))
  · rw [if_pos h]; simp
  rw [if_neg (by omega)]
  exact h3
theorem apart_val (a b : Int) (ha : -1 ≤ a ∧ a ≤ 10) (hb : -1 ≤ b ∧ b ≤ 10) (N : Nat) : spec_l10Apart.f N [intP a, intP b] = some [intP (if a < b then b - a else a - b)] := by
  have w1 : IntKind.i64.wrap (b - a) = b - a := wrap_id (by omega) (by omega)
  have w2 : IntKind.i64.wrap (a - b) = a - b := wrap_id (by omega) (by omega)
  simp only [spec_l10Apart.f_eq, w1, w2, strs_len, strs_elem, ints_len, ints_elem, items_list, fld_agg, elem_list, toStr_sc, toInt_sc, toBool_sc, headD_one, nat_int, get_bt, decide_eq_true_eq, decide_eq_false_iff_not, decide_true, decide_false, if_true, if_false, ite_self, Bool.not_true, Bool.not_false, Bool.false_eq_true, Bool.true_eq_false, Bool.true_and, Bool.false_and, Bool.and_true, Bool.and_false, not_true, not_false_iff, Option.bind_some, nn, toList_inj, Bool.not_eq_true', Bool.not_eq_false', Int.le_refl, and_self, true_and, and_true, false_and, and_false, bne_self_eq_false, beq_self_eq_true, Int.reduceEq, Nat.reduceEqDiff, List.length_singleton, List.tail_cons, Int.reduceLE, Int.reduceLT, decide_eq_true_eq]
  by_cases h : a < b <;> simp only [h, strs_len, strs_elem, ints_len, ints_elem, items_list, fld_agg, elem_list, toStr_sc, toInt_sc, toBool_sc, headD_one, nat_int, get_bt, decide_eq_true_eq, decide_eq_false_iff_not, decide_true, decide_false, if_true, if_false, ite_self, Bool.not_true, Bool.not_false, Bool.false_eq_true, Bool.true_eq_false, Bool.true_and, Bool.false_and, Bool.and_true, Bool.and_false, not_true, not_false_iff, Option.bind_some, nn, toList_inj, Bool.not_eq_true', Bool.not_eq_false', Int.le_refl, and_self, true_and, and_true, false_and, and_false, bne_self_eq_false, beq_self_eq_true, Int.reduceEq, Nat.reduceEqDiff, List.length_singleton, List.tail_cons, Int.reduceLE, Int.reduceLT, decide_eq_true_eq]
theorem far_eq (r s x y : Int) : minI (maxI (maxI (maxI (r - s) (s - r)) (x - y)) (y - x)) 4 =
    (if (if (if r < s then s - r else r - s) < (if x < y then y - x else x - y) then (if x < y then y - x else x - y) else (if r < s then s - r else r - s)) < 4 then (if (if r < s then s - r else r - s) < (if x < y then y - x else x - y) then (if x < y then y - x else x - y) else (if r < s then s - r else r - s)) else 4) := by
  simp only [minI, maxI]
  repeat' split
  all_goals omega
/-- How far two letters are. -/
def farK (a b : Int) : Int := minI (maxI (maxI (maxI ((keyRow a).1 - (keyRow b).1) ((keyRow b).1 - (keyRow a).1)) ((keyRow a).2 - (keyRow b).2)) ((keyRow b).2 - (keyRow a).2)) 4
theorem specKey_far (a b : Int) : Ev (fun N => spec_l10Key.f N [.sc (.int .u8 a), .sc (.int .u8 b)]) [intP (farK a b)] := by
  have ha := keyRow_in a; have hb := keyRow_in b
  simp only [spec_l10Key.f_eq, toInt_sc]
  refine Ev.bind (specRow_ev a) ?_
  refine Ev.bind (specRow_ev b) ?_
  simp only [headD_one, List.tail_cons, toInt_sc, apart_val _ _ ⟨ha.1, by omega⟩ ⟨hb.1, by omega⟩, apart_val _ _ ha.2.2 hb.2.2, Option.bind_some, least_val]
  have e := far_eq (keyRow a).1 (keyRow b).1 (keyRow a).2 (keyRow b).2
  by_cases h : (if (keyRow a).1 < (keyRow b).1 then (keyRow b).1 - (keyRow a).1 else (keyRow a).1 - (keyRow b).1) < (if (keyRow a).2 < (keyRow b).2 then (keyRow b).2 - (keyRow a).2 else (keyRow a).2 - (keyRow b).2)
  · rw [if_pos h] at e
    simp only [h, decide_true, if_true]
    unfold farK
    rw [e]; exact Ev.now _
  · rw [if_neg h] at e
    simp only [h, decide_false, if_false, Bool.false_eq_true]
    unfold farK
    rw [e]; exact Ev.now _
def keyFar (a b : ByteArray) : Int := if a.size = 1 ∧ b.size = 1 ∧ lowB (bytesOf a) = true ∧ lowB (bytesOf b) = true then farK (bt a 0) (bt b 0) else -1
theorem size_one {s : ByteArray} : (((s.size : Nat) : Int) = 1) = (s.size = 1) := propext ⟨fun h => by omega, fun h => by omega⟩
theorem implKeyFar_ev (a b : ByteArray) (ha : a.size ≤ 9223372036854775807) (hb : b.size ≤ 9223372036854775807) : Ev (fun N => impl_KeyFar.f N [strP a, strP b]) [intP (keyFar a b)] := by
  simp only [impl_KeyFar.f_eq, toStr_sc, size_one]
  unfold keyFar
  by_cases h1 : a.size = 1
  · by_cases h2 : b.size = 1
    · simp only [h1, h2, strs_len, strs_elem, ints_len, ints_elem, items_list, fld_agg, elem_list, toStr_sc, toInt_sc, toBool_sc, headD_one, nat_int, get_bt, decide_eq_true_eq, decide_eq_false_iff_not, decide_true, decide_false, if_true, if_false, ite_self, Bool.not_true, Bool.not_false, Bool.false_eq_true, Bool.true_eq_false, Bool.true_and, Bool.false_and, Bool.and_true, Bool.and_false, not_true, not_false_iff, Option.bind_some, nn, toList_inj, Bool.not_eq_true', Bool.not_eq_false', Int.le_refl, and_self, true_and, and_true, false_and, and_false, bne_self_eq_false, beq_self_eq_true, Int.reduceEq, Nat.reduceEqDiff, List.length_singleton, List.tail_cons, Int.reduceLE, Int.reduceLT, decide_eq_true_eq]
      refine Ev.bind (implLower_ev a ha) ?_
      by_cases l1 : lowB (bytesOf a) = true
      · simp only [l1, strs_len, strs_elem, ints_len, ints_elem, items_list, fld_agg, elem_list, toStr_sc, toInt_sc, toBool_sc, headD_one, nat_int, get_bt, decide_eq_true_eq, decide_eq_false_iff_not, decide_true, decide_false, if_true, if_false, ite_self, Bool.not_true, Bool.not_false, Bool.false_eq_true, Bool.true_eq_false, Bool.true_and, Bool.false_and, Bool.and_true, Bool.and_false, not_true, not_false_iff, Option.bind_some, nn, toList_inj, Bool.not_eq_true', Bool.not_eq_false', Int.le_refl, and_self, true_and, and_true, false_and, and_false, bne_self_eq_false, beq_self_eq_true, Int.reduceEq, Nat.reduceEqDiff, List.length_singleton, List.tail_cons, Int.reduceLE, Int.reduceLT, decide_eq_true_eq]
        refine Ev.bind (implLower_ev b hb) ?_
        by_cases l2 : lowB (bytesOf b) = true
        · simp only [l2, strs_len, strs_elem, ints_len, ints_elem, items_list, fld_agg, elem_list, toStr_sc, toInt_sc, toBool_sc, headD_one, nat_int, get_bt, decide_eq_true_eq, decide_eq_false_iff_not, decide_true, decide_false, if_true, if_false, ite_self, Bool.not_true, Bool.not_false, Bool.false_eq_true, Bool.true_eq_false, Bool.true_and, Bool.false_and, Bool.and_true, Bool.and_false, not_true, not_false_iff, Option.bind_some, nn, toList_inj, Bool.not_eq_true', Bool.not_eq_false', Int.le_refl, and_self, true_and, and_true, false_and, and_false, bne_self_eq_false, beq_self_eq_true, Int.reduceEq, Nat.reduceEqDiff, List.length_singleton, List.tail_cons, Int.reduceLE, Int.reduceLT, decide_eq_true_eq]
          refine Ev.bind (keyAt_ev a h1) ?_
          refine Ev.bind (keyAt_ev b h2) ?_
          have ka := keyRow_in (bt a 0); have kb := keyRow_in (bt b 0)
          have w1 : IntKind.i64.wrap ((keyRow (bt a 0)).1 - (keyRow (bt b 0)).1) = (keyRow (bt a 0)).1 - (keyRow (bt b 0)).1 := wrap_id (by omega) (by omega)
          have w2 : IntKind.i64.wrap ((keyRow (bt b 0)).1 - (keyRow (bt a 0)).1) = (keyRow (bt b 0)).1 - (keyRow (bt a 0)).1 := wrap_id (by omega) (by omega)
          have w3 : IntKind.i64.wrap ((keyRow (bt a 0)).2 - (keyRow (bt b 0)).2) = (keyRow (bt a 0)).2 - (keyRow (bt b 0)).2 := wrap_id (by omega) (by omega)
          have w4 : IntKind.i64.wrap ((keyRow (bt b 0)).2 - (keyRow (bt a 0)).2) = (keyRow (bt b 0)).2 - (keyRow (bt a 0)).2 := wrap_id (by omega) (by omega)
          simp only [List.tail_cons, w1, w2, w3, w4, strs_len, strs_elem, ints_len, ints_elem, items_list, fld_agg, elem_list, toStr_sc, toInt_sc, toBool_sc, headD_one, nat_int, get_bt, decide_eq_true_eq, decide_eq_false_iff_not, decide_true, decide_false, if_true, if_false, ite_self, Bool.not_true, Bool.not_false, Bool.false_eq_true, Bool.true_eq_false, Bool.true_and, Bool.false_and, Bool.and_true, Bool.and_false, not_true, not_false_iff, Option.bind_some, nn, toList_inj, Bool.not_eq_true', Bool.not_eq_false', Int.le_refl, and_self, true_and, and_true, false_and, and_false, bne_self_eq_false, beq_self_eq_true, Int.reduceEq, Nat.reduceEqDiff, List.length_singleton, List.tail_cons, Int.reduceLE, Int.reduceLT, decide_eq_true_eq]
          exact Ev.now _
        · simp only [Bool.not_eq_true] at l2
          simp only [l2, strs_len, strs_elem, ints_len, ints_elem, items_list, fld_agg, elem_list, toStr_sc, toInt_sc, toBool_sc, headD_one, nat_int, get_bt, decide_eq_true_eq, decide_eq_false_iff_not, decide_true, decide_false, if_true, if_false, ite_self, Bool.not_true, Bool.not_false, Bool.false_eq_true, Bool.true_eq_false, Bool.true_and, Bool.false_and, Bool.and_true, Bool.and_false, not_true, not_false_iff, Option.bind_some, nn, toList_inj, Bool.not_eq_true', Bool.not_eq_false', Int.le_refl, and_self, true_and, and_true, false_and, and_false, bne_self_eq_false, beq_self_eq_true, Int.reduceEq, Nat.reduceEqDiff, List.length_singleton, List.tail_cons, Int.reduceLE, Int.reduceLT, decide_eq_true_eq]; exact Ev.now _
      · simp only [Bool.not_eq_true] at l1
        simp only [l1, strs_len, strs_elem, ints_len, ints_elem, items_list, fld_agg, elem_list, toStr_sc, toInt_sc, toBool_sc, headD_one, nat_int, get_bt, decide_eq_true_eq, decide_eq_false_iff_not, decide_true, decide_false, if_true, if_false, ite_self, Bool.not_true, Bool.not_false, Bool.false_eq_true, Bool.true_eq_false, Bool.true_and, Bool.false_and, Bool.and_true, Bool.and_false, not_true, not_false_iff, Option.bind_some, nn, toList_inj, Bool.not_eq_true', Bool.not_eq_false', Int.le_refl, and_self, true_and, and_true, false_and, and_false, bne_self_eq_false, beq_self_eq_true, Int.reduceEq, Nat.reduceEqDiff, List.length_singleton, List.tail_cons, Int.reduceLE, Int.reduceLT, decide_eq_true_eq]; exact Ev.now _
    · simp only [h1, h2, strs_len, strs_elem, ints_len, ints_elem, items_list, fld_agg, elem_list, toStr_sc, toInt_sc, toBool_sc, headD_one, nat_int, get_bt, decide_eq_true_eq, decide_eq_false_iff_not, decide_true, decide_false, if_true, if_false, ite_self, Bool.not_true, Bool.not_false, Bool.false_eq_true, Bool.true_eq_false, Bool.true_and, Bool.false_and, Bool.and_true, Bool.and_false, not_true, not_false_iff, Option.bind_some, nn, toList_inj, Bool.not_eq_true', Bool.not_eq_false', Int.le_refl, and_self, true_and, and_true, false_and, and_false, bne_self_eq_false, beq_self_eq_true, Int.reduceEq, Nat.reduceEqDiff, List.length_singleton, List.tail_cons, Int.reduceLE, Int.reduceLT, decide_eq_true_eq]; exact Ev.now _
  · simp only [h1, strs_len, strs_elem, ints_len, ints_elem, items_list, fld_agg, elem_list, toStr_sc, toInt_sc, toBool_sc, headD_one, nat_int, get_bt, decide_eq_true_eq, decide_eq_false_iff_not, decide_true, decide_false, if_true, if_false, ite_self, Bool.not_true, Bool.not_false, Bool.false_eq_true, Bool.true_eq_false, Bool.true_and, Bool.false_and, Bool.and_true, Bool.and_false, not_true, not_false_iff, Option.bind_some, nn, toList_inj, Bool.not_eq_true', Bool.not_eq_false', Int.le_refl, and_self, true_and, and_true, false_and, and_false, bne_self_eq_false, beq_self_eq_true, Int.reduceEq, Nat.reduceEqDiff, List.length_singleton, List.tail_cons, Int.reduceLE, Int.reduceLT, decide_eq_true_eq]; exact Ev.now _
theorem isWord_one {s : ByteArray} (h : s.size = 1) : isWord s = lowB (bytesOf s) := by
  unfold isWord lowB; rw [h]; simp
theorem farK_sym (a b : Int) : farK a b = farK b a := by
  unfold farK
  generalize (keyRow a).1 = r; generalize (keyRow b).1 = s; generalize (keyRow a).2 = x; generalize (keyRow b).2 = y
  simp only [minI, maxI]
  repeat' split
  all_goals omega
theorem farK_in (a b : Int) : 0 ≤ farK a b ∧ farK a b ≤ 4 := by
  unfold farK
  generalize (keyRow a).1 = r; generalize (keyRow b).1 = s; generalize (keyRow a).2 = x; generalize (keyRow b).2 = y
  simp only [minI, maxI]
  repeat' split
  all_goals omega
theorem farK_zero {a b : Int} : farK a b = 0 ↔ keyRow a = keyRow b := by
  constructor
  · intro h
    apply Prod.ext
    · revert h
      unfold farK
      generalize (keyRow a).1 = r; generalize (keyRow b).1 = s; generalize (keyRow a).2 = x; generalize (keyRow b).2 = y
      simp only [minI, maxI]
      repeat' split
      all_goals omega
    · revert h
      unfold farK
      generalize (keyRow a).1 = r; generalize (keyRow b).1 = s; generalize (keyRow a).2 = x; generalize (keyRow b).2 = y
      simp only [minI, maxI]
      repeat' split
      all_goals omega
  · intro h
    unfold farK
    rw [h]
    generalize (keyRow b).1 = s; generalize (keyRow b).2 = y
    simp only [minI, maxI, Int.sub_self]
    rfl
theorem keyRow_inj {a b : Int} (ha : 97 ≤ a ∧ a ≤ 122) (hb : 97 ≤ b ∧ b ≤ 122) (h : keyRow a = keyRow b) : a = b := by
  have key : ∀ i j : Fin 26, keyRow (97 + (i.val : Int)) = keyRow (97 + (j.val : Int)) → i = j := by decide +kernel
  have h1 := key ⟨(a - 97).toNat, by omega⟩ ⟨(b - 97).toNat, by omega⟩
  simp only [Fin.mk.injEq] at h1
  have e1 : 97 + (((a - 97).toNat : Nat) : Int) = a := by omega
  have e2 : 97 + (((b - 97).toNat : Nat) : Int) = b := by omega
  rw [e1, e2] at h1
  have := h1 h
  omega
theorem one_low {s : ByteArray} (h : s.size = 1) (hl : lowB (bytesOf s) = true) : 97 ≤ bt s 0 ∧ bt s 0 ≤ 122 ∧ bytesOf s = [bt s 0] := by
  have hb : (bytesOf s).length = 1 := by rw [bytesOf_len]; exact h
  rw [bt_bytes]
  match hs : bytesOf s, hb with
  | [c], _ =>
    rw [hs] at hl
    simp [lowB] at hl
    exact ⟨hl.1, hl.2, rfl⟩
theorem keyFar_sym (a b : ByteArray) : keyFar a b = keyFar b a := by
  unfold keyFar
  by_cases h : a.size = 1 ∧ b.size = 1 ∧ lowB (bytesOf a) = true ∧ lowB (bytesOf b) = true
  · rw [if_pos h, if_pos ⟨h.2.1, h.1, h.2.2.2, h.2.2.1⟩, farK_sym]
  · rw [if_neg h, if_neg (fun h' => h ⟨h'.2.1, h'.1, h'.2.2.2, h'.2.2.1⟩)]
theorem keyFar_zero {a b : ByteArray} (h : 0 ≤ keyFar a b) : keyFar a b ≤ 4 ∧ (keyFar a b = 0 ↔ a = b) := by
  unfold keyFar at h ⊢
  by_cases hc : a.size = 1 ∧ b.size = 1 ∧ lowB (bytesOf a) = true ∧ lowB (bytesOf b) = true
  · rw [if_pos hc]
    obtain ⟨a1, a2, a3⟩ := one_low hc.1 hc.2.2.1
    obtain ⟨b1, b2, b3⟩ := one_low hc.2.1 hc.2.2.2
    refine ⟨(farK_in _ _).2, farK_zero.trans ⟨fun h => ?_, fun h => by rw [h]⟩⟩
    have := keyRow_inj ⟨a1, a2⟩ ⟨b1, b2⟩ h
    exact bytesOf_inj (by rw [a3, b3, this])
  · rw [if_neg hc] at h; omega
/-! #### what it costs -/
def wf (f : Nat → Nat → Int) : Nat → Nat → Int
  | 0, k => 4 * (k : Int)
  | i + 1, 0 => 4 * ((i : Int) + 1)
  | i + 1, k + 1 => minI (minI (wf f i k + f i k) (wf f i (k + 1) + 4)) (wf f (i + 1) k + 4)
theorem wf_zero (f : Nat → Nat → Int) (i : Nat) : wf f i 0 = 4 * (i : Int) := by
  cases i with
  | zero => simp [wf]
  | succ i => rw [wf]; omega
theorem wf_in {f : Nat → Nat → Int} (hf : ∀ i k, 0 ≤ f i k ∧ f i k ≤ 4) : ∀ i k : Nat, 0 ≤ wf f i k ∧ wf f i k ≤ 4 * (max i k : Nat)
  | 0, k => by rw [wf]; omega
  | i + 1, 0 => by rw [wf]; omega
  | i + 1, k + 1 => by
    have h1 := wf_in hf i k; have h2 := wf_in hf i (k + 1); have h3 := wf_in hf (i + 1) k
    have h4 := hf i k
    rw [wf]
    simp only [minI]
    repeat' split
    all_goals omega
theorem wf_sym {f g : Nat → Nat → Int} (h : ∀ i k, f i k = g k i) : ∀ i k : Nat, wf f i k = wf g k i
  | 0, k => by rw [wf_zero, wf]
  | i + 1, 0 => by rw [wf_zero, wf]
  | i + 1, k + 1 => by
    rw [wf, wf, wf_sym h i k, wf_sym h i (k + 1), wf_sym h (i + 1) k, h i k]
    simp only [minI]
    repeat' split
    all_goals omega
theorem wf_nil {f : Nat → Nat → Int} (hf : ∀ i k, 0 ≤ f i k ∧ f i k ≤ 4) : ∀ i k : Nat, wf f i k = 0 → i = k ∧ ∀ j, j < i → f j j = 0
  | 0, k => by rw [wf]; intro h; exact ⟨by omega, fun j hj => by omega⟩
  | i + 1, 0 => by rw [wf]; intro h; omega
  | i + 1, k + 1 => by
    have h1 := wf_in hf i k; have h2 := wf_in hf i (k + 1); have h3 := wf_in hf (i + 1) k
    have h4 := hf i k
    intro h
    rw [wf] at h
    simp only [minI] at h
    have h5 : wf f i k = 0 ∧ f i k = 0 := by
      revert h
      repeat' split
      all_goals intro h
      all_goals omega
    obtain ⟨h6, h7⟩ := wf_nil hf i k h5.1
    subst h6
    refine ⟨rfl, fun j hj => ?_⟩
    by_cases hj' : j = i
    · subst hj'; exact h5.2
    · exact h7 j (by omega)
theorem wf_same {f : Nat → Nat → Int} (hf : ∀ i k, 0 ≤ f i k ∧ f i k ≤ 4) : ∀ i : Nat, (∀ j, j < i → f j j = 0) → wf f i i = 0
  | 0, _ => by rw [wf]; rfl
  | i + 1, h => by
    have h1 := wf_same hf i (fun j hj => h j (by omega))
    have h2 := wf_in hf i (i + 1); have h3 := wf_in hf (i + 1) i
    rw [wf, h1, h i (by omega)]
    simp only [minI]
    repeat' split
    all_goals omega
/-! A table of numbers. -/
def matL (n m : Nat) (g : Nat → Nat → Int) : List PV := (List.range n).map fun i => intsP ((List.range m).map (g i))
theorem matL_len (n m : Nat) (g : Nat → Nat → Int) : (matL n m g).length = n := by simp [matL]
theorem matL_row {n m : Nat} {g : Nat → Nat → Int} {i : Nat} (hi : i < n) : (PV.list (matL n m g)).elem i = intsP ((List.range m).map (g i)) := by
  simp [matL, PV.elem, PV.items, List.getD_eq_getElem?_getD, hi]
theorem range_len (m : Nat) (g : Nat → Int) : ((intsP ((List.range m).map g)).items).length = m := by rw [ints_len]; simp
theorem range_at {m k : Nat} {g : Nat → Int} (hk : k < m) : ((intsP ((List.range m).map g)).elem k).toInt = g k := by
  rw [ints_elem, List.getD_eq_getElem?_getD]; simp [hk]
def updM (g : Nat → Nat → Int) (i k : Nat) (v : Int) : Nat → Nat → Int := fun i' k' => if i' = i ∧ k' = k then v else g i' k'
theorem range_set {m k : Nat} {g : Nat → Int} (v : Int) : ((intsP ((List.range m).map g)).items).set k (intP v) = ((List.range m).map (fun k' => if k' = k then v else g k')).map intP := by
  apply List.ext_getElem?
  intro j
  simp only [intsP, PV.items, List.getElem?_set, List.getElem?_map, List.length_map, List.length_range]
  by_cases hj : k = j
  · subst hj
    by_cases hk : k < m
    · simp [hk]
    · simp [hk]
  · have hj' : ¬ j = k := fun h => hj h.symm
    rw [if_neg hj]
    by_cases hjm : j < m
    · simp [hjm, hj']
    · simp [hjm]
theorem matL_set {n m : Nat} {g : Nat → Nat → Int} {i k : Nat} (hi : i < n) (v : Int) : (matL n m g).set i (PV.list (((intsP ((List.range m).map (g i))).items).set k (intP v))) = matL n m (updM g i k v) := by
  rw [range_set]
  apply List.ext_getElem?
  intro j
  simp only [matL, List.getElem?_set, List.getElem?_map, List.length_map, List.length_range]
  by_cases hj : i = j
  · subst hj
    simp [hi, intsP, updM]
  · have hj' : ¬ j = i := fun h => hj h.symm
    rw [if_neg hj]
    by_cases hjm : j < n
    · simp [hjm, hj', intsP, updM]
    · simp [hjm]
theorem matL_congr {n m : Nat} {g g' : Nat → Nat → Int} (h : ∀ i k, i < n → k < m → g i k = g' i k) : matL n m g = matL n m g' := by
  unfold matL
  refine List.map_congr_left (fun i hi => ?_)
  refine congrArg intsP (List.map_congr_left (fun k hk => ?_))
  exact h i k (by simpa using hi) (by simpa using hk)
theorem ext_one (s : ByteArray) (i : Nat) (hi : i < s.size) : (s.extract i (i + 1)).size = 1 ∧ bytesOf (s.extract i (i + 1)) = [bt s i] := by
  have hb : bytesOf (s.extract i (i + 1)) = ((bytesOf s).drop i).take 1 := by
    unfold bytesOf
    rw [ByteArray.data_extract]
    simp [List.map_take, List.map_drop]
  have hl : i < (bytesOf s).length := by rw [bytesOf_len]; exact hi
  have h2 : ((bytesOf s).drop i).take 1 = [bt s i] := by
    rw [bt_bytes, List.getD_eq_getElem?_getD]
    rw [List.drop_eq_getElem_cons hl]
    simp only [List.take_succ_cons, List.take_zero, List.getElem?_eq_getElem hl, Option.getD_some]
  rw [h2] at hb
  refine ⟨?_, hb⟩
  rw [← bytesOf_len, hb]; rfl
def fW (a b : ByteArray) (i k : Nat) : Int := farK (bt a i) (bt b k)
theorem keyFar_at {a b : ByteArray} (ha : lowB (bytesOf a) = true) (hb : lowB (bytesOf b) = true) {i k : Nat} (hi : i < a.size) (hk : k < b.size) : keyFar (a.extract i (i + 1)) (b.extract k (k + 1)) = fW a b i k := by
  obtain ⟨a1, a2⟩ := ext_one a i hi
  obtain ⟨b1, b2⟩ := ext_one b k hk
  have la : lowB (bytesOf (a.extract i (i + 1))) = true := by
    rw [a2]
    have := List.all_eq_true.1 ha (bt a i) (by rw [bt_bytes, List.getD_eq_getElem?_getD]; have hl : i < (bytesOf a).length := by rw [bytesOf_len]; exact hi
                                               rw [List.getElem?_eq_getElem hl]; exact List.getElem_mem hl)
    simp [lowB]; simpa using this
  have lb : lowB (bytesOf (b.extract k (k + 1))) = true := by
    rw [b2]
    have := List.all_eq_true.1 hb (bt b k) (by rw [bt_bytes, List.getD_eq_getElem?_getD]; have hl : k < (bytesOf b).length := by rw [bytesOf_len]; exact hk
                                               rw [List.getElem?_eq_getElem hl]; exact List.getElem_mem hl)
    simp [lowB]; simpa using this
  unfold keyFar
  rw [if_pos ⟨a1, b1, la, lb⟩]
  unfold fW
  rw [bt_bytes (a.extract i (i + 1)), bt_bytes (b.extract k (k + 1)), a2, b2]
  rfl
theorem fW_in (a b : ByteArray) (i k : Nat) : 0 ≤ fW a b i k ∧ fW a b i k ≤ 4 := farK_in _ _
theorem word_size {s : ByteArray} (h : isWord s = true) : 1 ≤ s.size ∧ s.size ≤ 12 ∧ lowB (bytesOf s) = true := by
  unfold isWord at h
  simp only [Bool.and_eq_true, decide_eq_true_eq] at h
  exact ⟨h.1.1, h.1.2, h.2⟩
theorem cast1 (i : Nat) : ((i + 1 : Nat) : Int) - 1 = (i : Int) := by omega
def ga (f : Nat → Nat → Int) (k : Nat) : Nat → Nat → Int := fun i' k' => if k' = 0 ∨ (i' = 0 ∧ k' < k) then wf f i' k' else 0
def g0 (f : Nat → Nat → Int) : Nat → Nat → Int := fun i' k' => if k' = 0 then wf f i' k' else 0
/-- The table while a place is at hand. -/
def curM (f : Nat → Nat → Int) (i k : Nat) : Nat → Nat → Int := fun i' k' => if i' = 0 ∨ k' = 0 ∨ i' < i ∨ (i' = i ∧ k' < k) then wf f i' k' else 0
theorem weigh_l3 (a b : ByteArray) (ha : isWord a = true) (hb : isWord b = true) (i : Nat) (hi : i < a.size) (R : List PV)
    (hR : Ev2 (fun N n => impl_WeighFar.l2 N n a b ((i + 1 + 1 : Nat) : Int) (matL (a.size + 1) (b.size + 1) (curM (fW a b) (i + 1 + 1) 1))) R) : ∀ (c k : Nat), k + c = b.size →
    Ev3 (fun N m0 n => impl_WeighFar.l3 N m0 n a b ((i + 1 : Nat) : Int) ((k + 1 : Nat) : Int) (matL (a.size + 1) (b.size + 1) (curM (fW a b) (i + 1) (k + 1)))) R := by
  obtain ⟨a1, a2, a3⟩ := word_size ha
  obtain ⟨b1, b2, b3⟩ := word_size hb
  intro c
  induction c with
  | zero =>
    intro k hk
    refine Ev3.succ ?_
    have z : ¬ ((k + 1 : Nat) : Int) ≤ (b.size : Int) := by omega
    have wi : IntKind.i64.wrap (((i + 1 : Nat) : Int) + 1) = ((i + 1 + 1 : Nat) : Int) := by rw [wrap_id (by omega) (by omega)]; omega
    have hm : matL (a.size + 1) (b.size + 1) (curM (fW a b) (i + 1) (k + 1)) = matL (a.size + 1) (b.size + 1) (curM (fW a b) (i + 1 + 1) 1) := matL_congr (fun i' k' h1 h2 => by
      unfold curM
      by_cases h : i' = 0 ∨ k' = 0 ∨ i' < i + 1 ∨ (i' = i + 1 ∧ k' < k + 1)
      · rw [if_pos h, if_pos (by omega)]
      · rw [if_neg h, if_neg (by omega)])
    simp only [impl_WeighFar.l3_eq, z, decide_false, Bool.false_eq_true, if_false, wi, hm]
    exact hR.outer
  | succ c ih =>
    intro k hk
    have hkb : k < b.size := by omega
    refine Ev3.succ ?_
    have z : ((k + 1 : Nat) : Int) ≤ (b.size : Int) := by omega
    have wi : IntKind.i64.wrap (((i + 1 : Nat) : Int) - 1) = (i : Int) := by rw [cast1, wrap_id (by omega) (by omega)]
    have wk : IntKind.i64.wrap (((k + 1 : Nat) : Int) - 1) = (k : Int) := by rw [cast1, wrap_id (by omega) (by omega)]
    have wk2 : IntKind.i64.wrap (((k + 1 : Nat) : Int) + 1) = ((k + 1 + 1 : Nat) : Int) := by rw [wrap_id (by omega) (by omega)]; omega
    have q1 : (i : Int) < (((matL (a.size + 1) (b.size + 1) (curM (fW a b) (i + 1) (k + 1))).length : Nat) : Int) := by rw [matL_len]; omega
    have q2 : ((i + 1 : Nat) : Int) < (((matL (a.size + 1) (b.size + 1) (curM (fW a b) (i + 1) (k + 1))).length : Nat) : Int) := by rw [matL_len]; omega
    have r1 := matL_row (n := a.size + 1) (m := b.size + 1) (g := curM (fW a b) (i + 1) (k + 1)) (show i < a.size + 1 by omega)
    have r2 := matL_row (n := a.size + 1) (m := b.size + 1) (g := curM (fW a b) (i + 1) (k + 1)) (show i + 1 < a.size + 1 by omega)
    have q3 : (k : Int) < ((b.size + 1 : Nat) : Int) := by omega
    have q4 : ((k + 1 : Nat) : Int) < ((b.size + 1 : Nat) : Int) := by omega
    have q5 : (i : Int) ≤ ((i + 1 : Nat) : Int) := by omega
    have q6 : ((i + 1 : Nat) : Int) ≤ (a.size : Int) := by omega
    have q7 : (k : Int) ≤ ((k + 1 : Nat) : Int) := by omega
    have t1 : curM (fW a b) (i + 1) (k + 1) i k = wf (fW a b) i k := by unfold curM; rw [if_pos (by omega)]
    have t2 : curM (fW a b) (i + 1) (k + 1) i (k + 1) = wf (fW a b) i (k + 1) := by unfold curM; rw [if_pos (by omega)]
    have t3 : curM (fW a b) (i + 1) (k + 1) (i + 1) k = wf (fW a b) (i + 1) k := by unfold curM; rw [if_pos (by omega)]
    have h1 := wf_in (fW_in a b) i k; have h2 := wf_in (fW_in a b) i (k + 1); have h3 := wf_in (fW_in a b) (i + 1) k
    have h4 := fW_in a b i k
    have w1 : IntKind.i64.wrap (wf (fW a b) i k + fW a b i k) = wf (fW a b) i k + fW a b i k := wrap_id (by omega) (by omega)
    have w2 : IntKind.i64.wrap (wf (fW a b) i (k + 1) + 4) = wf (fW a b) i (k + 1) + 4 := wrap_id (by omega) (by omega)
    have w3 : IntKind.i64.wrap (wf (fW a b) (i + 1) k + 4) = wf (fW a b) (i + 1) k + 4 := wrap_id (by omega) (by omega)
    have hw : minI (minI (wf (fW a b) i k + fW a b i k) (wf (fW a b) i (k + 1) + 4)) (wf (fW a b) (i + 1) k + 4) = wf (fW a b) (i + 1) (k + 1) := by rw [wf]
    have hset := matL_set (n := a.size + 1) (m := b.size + 1) (g := curM (fW a b) (i + 1) (k + 1)) (i := i + 1) (k := k + 1) (by omega) (wf (fW a b) (i + 1) (k + 1))
    have hm : matL (a.size + 1) (b.size + 1) (updM (curM (fW a b) (i + 1) (k + 1)) (i + 1) (k + 1) (wf (fW a b) (i + 1) (k + 1))) = matL (a.size + 1) (b.size + 1) (curM (fW a b) (i + 1) (k + 1 + 1)) := matL_congr (fun i' k' h1 h2 => by
      unfold updM curM
      by_cases he : i' = i + 1 ∧ k' = k + 1
      · rw [if_pos he, if_pos (by omega), he.1, he.2]
      · rw [if_neg he]
        by_cases h : i' = 0 ∨ k' = 0 ∨ i' < i + 1 ∨ (i' = i + 1 ∧ k' < k + 1)
        · rw [if_pos h, if_pos (by omega)]
        · rw [if_neg h, if_neg (by omega)])
    have hkf := implKeyFar_ev (a.extract i (i + 1)) (b.extract k (k + 1)) (by rw [(ext_one a i hi).1]; omega) (by rw [(ext_one b k hkb).1]; omega)
    rw [keyFar_at a3 b3 hi hkb] at hkf
    simp only [impl_WeighFar.l3_eq, z, wi, wk, wk2, q1, q2, r1, r2, range_len, q3, q4, q5, q6, q7, nn, nat_int, decide_true, if_true]
    refine Ev3.bind hkf ?_
    simp only [headD_one, toInt_sc, range_at (show k < b.size + 1 by omega), range_at (show k + 1 < b.size + 1 by omega), t1, t2, t3, w1, w2, w3, hw, hset, hm]
    exact ih (k + 1) (by omega)
theorem weigh_l2 (a b : ByteArray) (ha : isWord a = true) (hb : isWord b = true) : ∀ (c i : Nat), i + c = a.size →
    Ev2 (fun N n => impl_WeighFar.l2 N n a b ((i + 1 : Nat) : Int) (matL (a.size + 1) (b.size + 1) (curM (fW a b) (i + 1) 1))) [intP (wf (fW a b) a.size b.size)] := by
  obtain ⟨a1, a2, a3⟩ := word_size ha
  obtain ⟨b1, b2, b3⟩ := word_size hb
  intro c
  induction c with
  | zero =>
    intro i hi
    refine Ev2.succ ?_
    have z : ¬ ((i + 1 : Nat) : Int) ≤ (a.size : Int) := by omega
    have q1 : (a.size : Int) < (((matL (a.size + 1) (b.size + 1) (curM (fW a b) (i + 1) 1)).length : Nat) : Int) := by rw [matL_len]; omega
    have r1 := matL_row (n := a.size + 1) (m := b.size + 1) (g := curM (fW a b) (i + 1) 1) (show a.size < a.size + 1 by omega)
    have q3 : (b.size : Int) < ((b.size + 1 : Nat) : Int) := by omega
    have t1 : curM (fW a b) (i + 1) 1 a.size b.size = wf (fW a b) a.size b.size := by unfold curM; rw [if_pos (by omega)]
    simp only [impl_WeighFar.l2_eq, z, decide_false, Bool.false_eq_true, if_false, q1, r1, range_len, q3, range_at (show b.size < b.size + 1 by omega), t1, nn, if_true]
    exact Ev2.now _
  | succ c ih =>
    intro i hi
    refine Ev2.succ ?_
    have z : ((i + 1 : Nat) : Int) ≤ (a.size : Int) := by omega
    have h := weigh_l3 a b ha hb i (by omega) _ (ih (i + 1) (by omega)) b.size 0 (by omega)
    simp only [impl_WeighFar.l2_eq, z, decide_true, if_true]
    exact h.start
theorem weigh_l1 (a b : ByteArray) (ha : isWord a = true) (hb : isWord b = true) : ∀ (c k : Nat), k + c = b.size + 1 →
    Ev2 (fun N n => impl_WeighFar.l1 N n a b ((b.size + 1 : Nat) : Int) (k : Int) (matL (a.size + 1) (b.size + 1) (ga (fW a b) k))) [intP (wf (fW a b) a.size b.size)] := by
  obtain ⟨a1, a2, a3⟩ := word_size ha
  obtain ⟨b1, b2, b3⟩ := word_size hb
  intro c
  induction c with
  | zero =>
    intro k hk
    refine Ev2.succ ?_
    have z : ¬ (k : Int) < ((b.size + 1 : Nat) : Int) := by omega
    have hm : matL (a.size + 1) (b.size + 1) (ga (fW a b) k) = matL (a.size + 1) (b.size + 1) (curM (fW a b) (0 + 1) 1) := matL_congr (fun i' k' h1 h2 => by
      unfold curM ga
      by_cases h : k' = 0 ∨ (i' = 0 ∧ k' < k)
      · rw [if_pos h, if_pos (by omega)]
      · rw [if_neg h, if_neg (by omega)])
    simp only [impl_WeighFar.l1_eq, z, decide_false, Bool.false_eq_true, if_false, hm]
    exact (weigh_l2 a b ha hb a.size 0 (by omega)).after
  | succ c ih =>
    intro k hk
    refine Ev2.succ ?_
    have z : (k : Int) < ((b.size + 1 : Nat) : Int) := by omega
    have q1 : (0 : Int) < (((matL (a.size + 1) (b.size + 1) (ga (fW a b) k)).length : Nat) : Int) := by rw [matL_len]; omega
    have r1 := matL_row (n := a.size + 1) (m := b.size + 1) (g := ga (fW a b) k) (show 0 < a.size + 1 by omega)
    have w1 : IntKind.i64.wrap (4 * (k : Int)) = wf (fW a b) 0 k := by rw [wf]; exact wrap_id (by omega) (by omega)
    have wk : IntKind.i64.wrap ((k : Int) + 1) = ((k + 1 : Nat) : Int) := by rw [wrap_id (by omega) (by omega)]; omega
    have hset := matL_set (n := a.size + 1) (m := b.size + 1) (g := ga (fW a b) k) (i := 0) (k := k) (by omega) (wf (fW a b) 0 k)
    have hm : matL (a.size + 1) (b.size + 1) (updM (ga (fW a b) k) 0 k (wf (fW a b) 0 k)) = matL (a.size + 1) (b.size + 1) (ga (fW a b) (k + 1)) := matL_congr (fun i' k' h1 h2 => by
      unfold updM ga
      by_cases he : i' = 0 ∧ k' = k
      · rw [if_pos he, if_pos (by omega), he.1, he.2]
      · rw [if_neg he]
        by_cases h : k' = 0 ∨ (i' = 0 ∧ k' < k)
        · rw [if_pos h, if_pos (by omega)]
        · rw [if_neg h, if_neg (by omega)])
    simp only [impl_WeighFar.l1_eq, z, q1, r1, range_len, w1, wk, hset, hm, nn, nat_int, decide_true, if_true, Int.le_refl, Int.reduceLE, Nat.le_refl]
    exact ih (k + 1) (by omega)
theorem weigh_l0 (a b : ByteArray) (ha : isWord a = true) (hb : isWord b = true) : ∀ (c i : Nat), i + c = a.size + 1 →
    Ev2 (fun N n => impl_WeighFar.l0 N n a b ((a.size + 1 : Nat) : Int) (i : Int) ((matL i (b.size + 1) (g0 (fW a b))) ++ List.replicate c (PV.list []))) [intP (wf (fW a b) a.size b.size)] := by
  obtain ⟨a1, a2, a3⟩ := word_size ha
  obtain ⟨b1, b2, b3⟩ := word_size hb
  intro c
  induction c with
  | zero =>
    intro i hi
    have hi' : i = a.size + 1 := by omega
    subst hi'
    refine Ev2.succ ?_
    have z : ¬ ((a.size + 1 : Nat) : Int) < ((a.size + 1 : Nat) : Int) := by omega
    have q1 : (0 : Int) < (((matL (a.size + 1) (b.size + 1) (g0 (fW a b))).length : Nat) : Int) := by rw [matL_len]; omega
    have r1 := matL_row (n := a.size + 1) (m := b.size + 1) (g := g0 (fW a b)) (show 0 < a.size + 1 by omega)
    have hm : matL (a.size + 1) (b.size + 1) (g0 (fW a b)) = matL (a.size + 1) (b.size + 1) (ga (fW a b) 0) := matL_congr (fun i' k' h1 h2 => by
      unfold ga g0
      by_cases h : k' = 0
      · rw [if_pos h, if_pos (by omega)]
      · rw [if_neg h, if_neg (by omega)])
    have h := (weigh_l1 a b ha hb (b.size + 1) 0 (by omega)).after
    rw [← hm] at h
    simp only [impl_WeighFar.l0_eq, List.replicate_zero, List.append_nil, z, q1, r1, range_len, decide_false, Bool.false_eq_true, if_false, if_true, Int.le_refl, Int.reduceLE, Nat.le_refl]
    exact h
  | succ c ih =>
    intro i hi
    refine Ev2.succ ?_
    have z : (i : Int) < ((a.size + 1 : Nat) : Int) := by omega
    have wb : IntKind.i64.wrap ((b.size : Int) + 1) = ((b.size + 1 : Nat) : Int) := by rw [wrap_id (by omega) (by omega)]; omega
    have w1 : IntKind.i64.wrap (4 * (i : Int)) = 4 * (i : Int) := wrap_id (by omega) (by omega)
    have wi : IntKind.i64.wrap ((i : Int) + 1) = ((i + 1 : Nat) : Int) := by rw [wrap_id (by omega) (by omega)]; omega
    have c1 : b.size + 1 ≤ 35184372088832 := by omega
    have hlen := matL_len i (b.size + 1) (g0 (fW a b))
    have hset : ∀ x : PV, (matL i (b.size + 1) (g0 (fW a b)) ++ PV.list [] :: List.replicate c (PV.list [])).set i x = matL i (b.size + 1) (g0 (fW a b)) ++ x :: List.replicate c (PV.list []) := fun x => by
      have := set_mid (matL i (b.size + 1) (g0 (fW a b))) (PV.list []) x (List.replicate c (PV.list []))
      rwa [hlen] at this
    have hset2 : ∀ x y : PV, (matL i (b.size + 1) (g0 (fW a b)) ++ x :: List.replicate c (PV.list [])).set i y = matL i (b.size + 1) (g0 (fW a b)) ++ y :: List.replicate c (PV.list []) := fun x y => by
      have := set_mid (matL i (b.size + 1) (g0 (fW a b))) x y (List.replicate c (PV.list []))
      rwa [hlen] at this
    have hel : ∀ x : PV, (PV.list (matL i (b.size + 1) (g0 (fW a b)) ++ x :: List.replicate c (PV.list []))).elem i = x := fun x => by
      simp [PV.elem, PV.items, List.getD_eq_getElem?_getD, hlen]
    have q1 : ∀ x : PV, (i : Int) < (((matL i (b.size + 1) (g0 (fW a b)) ++ x :: List.replicate c (PV.list [])).length : Nat) : Int) := fun x => by simp [hlen]; omega
    have hz : PV.list (List.replicate (b.size + 1) (PV.sc (.int .i64 0))) = intsP ((List.range (b.size + 1)).map fun _ => (0 : Int)) := by simp [intsP, List.map_const']
    have q2 : (0 : Int) < ((b.size + 1 : Nat) : Int) := by omega
    have hrow : (((intsP ((List.range (b.size + 1)).map fun _ => (0 : Int))).items).set 0 (intP (4 * (i : Int)))) = ((List.range (b.size + 1)).map (fun k' => if k' = 0 then 4 * (i : Int) else 0)).map intP := range_set _
    have hfin : matL i (b.size + 1) (g0 (fW a b)) ++ PV.list (((List.range (b.size + 1)).map (fun k' => if k' = 0 then 4 * (i : Int) else 0)).map intP) :: List.replicate c (PV.list []) = matL (i + 1) (b.size + 1) (g0 (fW a b)) ++ List.replicate c (PV.list []) := by
      have : matL (i + 1) (b.size + 1) (g0 (fW a b)) = matL i (b.size + 1) (g0 (fW a b)) ++ [PV.list (((List.range (b.size + 1)).map (fun k' => if k' = 0 then 4 * (i : Int) else 0)).map intP)] := by
        have hr : (List.range (b.size + 1)).map (g0 (fW a b) i) = (List.range (b.size + 1)).map (fun k' => if k' = 0 then 4 * (i : Int) else 0) := List.map_congr_left (fun k' _ => by
          unfold g0
          split
          · rename_i h; subst h; rw [wf_zero]
          · rfl)
        unfold matL
        rw [List.range_succ (n := i), List.map_append, List.map_cons, List.map_nil, hr]
        rfl
      rw [this]; simp
    have hrep : List.replicate (c + 1) (PV.list []) = PV.list [] :: List.replicate c (PV.list []) := List.replicate_succ
    simp only [impl_WeighFar.l0_eq, hrep, z, wb, w1, wi, nn, nat_int, c1, hz, hset, hset2, hel, q1, range_len, q2, hrow, hfin, decide_true, if_true, Int.le_refl, Int.reduceLE, Nat.le_refl]
    exact ih (i + 1) (by omega)
def weighM (a b : ByteArray) : Int := if isWord a = true ∧ isWord b = true then wf (fW a b) a.size b.size else -1
theorem implWeigh_ev (a b : ByteArray) (hsa : a.size ≤ 9223372036854775807) (hsb : b.size ≤ 9223372036854775807) : Ev (fun N => impl_WeighFar.f N [strP a, strP b]) [intP (weighM a b)] := by
  simp only [impl_WeighFar.f_eq, toStr_sc]
  refine Ev.bind (implWord_ev a hsa) ?_
  unfold weighM
  by_cases ha : isWord a = true
  · simp only [ha, strs_len, strs_elem, ints_len, ints_elem, items_list, fld_agg, elem_list, toStr_sc, toInt_sc, toBool_sc, headD_one, nat_int, get_bt, decide_eq_true_eq, decide_eq_false_iff_not, decide_true, decide_false, if_true, if_false, ite_self, Bool.not_true, Bool.not_false, Bool.false_eq_true, Bool.true_eq_false, Bool.true_and, Bool.false_and, Bool.and_true, Bool.and_false, not_true, not_false_iff, Option.bind_some, nn, toList_inj, Bool.not_eq_true', Bool.not_eq_false', Int.le_refl, and_self, true_and, and_true, false_and, and_false, bne_self_eq_false, beq_self_eq_true, Int.reduceEq, Nat.reduceEqDiff, List.length_singleton, List.tail_cons, Int.reduceLE, Int.reduceLT, decide_eq_true_eq]
    refine Ev.bind (implWord_ev b hsb) ?_
    by_cases hb : isWord b = true
    · obtain ⟨a1, a2, a3⟩ := word_size ha
      have wa : IntKind.i64.wrap ((a.size : Int) + 1) = ((a.size + 1 : Nat) : Int) := by rw [wrap_id (by omega) (by omega)]; omega
      have c1 : a.size + 1 ≤ 11728124029610 := by omega
      have h := (weigh_l0 a b ha hb (a.size + 1) 0 (by omega)).diag
      have e : matL 0 (b.size + 1) (g0 (fW a b)) = [] := rfl
      rw [e, List.nil_append] at h
      simp only [hb, wa, nn, nat_int, c1, headD_one, toBool_sc, Bool.not_true, Bool.false_eq_true, if_false, if_true, Int.le_refl, List.length_replicate, and_self]
      exact h
    · simp only [Bool.not_eq_true] at hb
      simp only [hb, strs_len, strs_elem, ints_len, ints_elem, items_list, fld_agg, elem_list, toStr_sc, toInt_sc, toBool_sc, headD_one, nat_int, get_bt, decide_eq_true_eq, decide_eq_false_iff_not, decide_true, decide_false, if_true, if_false, ite_self, Bool.not_true, Bool.not_false, Bool.false_eq_true, Bool.true_eq_false, Bool.true_and, Bool.false_and, Bool.and_true, Bool.and_false, not_true, not_false_iff, Option.bind_some, nn, toList_inj, Bool.not_eq_true', Bool.not_eq_false', Int.le_refl, and_self, true_and, and_true, false_and, and_false, bne_self_eq_false, beq_self_eq_true, Int.reduceEq, Nat.reduceEqDiff, List.length_singleton, List.tail_cons, Int.reduceLE, Int.reduceLT, decide_eq_true_eq]; exact Ev.now _
  · simp only [Bool.not_eq_true] at ha
    simp only [ha, strs_len, strs_elem, ints_len, ints_elem, items_list, fld_agg, elem_list, toStr_sc, toInt_sc, toBool_sc, headD_one, nat_int, get_bt, decide_eq_true_eq, decide_eq_false_iff_not, decide_true, decide_false, if_true, if_false, ite_self, Bool.not_true, Bool.not_false, Bool.false_eq_true, Bool.true_eq_false, Bool.true_and, Bool.false_and, Bool.and_true, Bool.and_false, not_true, not_false_iff, Option.bind_some, nn, toList_inj, Bool.not_eq_true', Bool.not_eq_false', Int.le_refl, and_self, true_and, and_true, false_and, and_false, bne_self_eq_false, beq_self_eq_true, Int.reduceEq, Nat.reduceEqDiff, List.length_singleton, List.tail_cons, Int.reduceLE, Int.reduceLT, decide_eq_true_eq]; exact Ev.now _
/-! #### the reference's distance -/
theorem matL_more (n m : Nat) (g : Nat → Nat → Int) : matL n m g ++ [PV.list (((List.range m).map (g n)).map intP)] = matL (n + 1) m g := by
  simp [matL, List.range_succ, intsP]
theorem rowL_more (m : Nat) (g : Nat → Int) : ((List.range m).map g).map intP ++ [intP (g m)] = ((List.range (m + 1)).map g).map intP := by
  simp [List.range_succ]
theorem specW_l1 (a b : ByteArray) (ha : isWord a = true) (hb : isWord b = true) (i : Nat) (hi : i ≤ a.size) (R : List PV)
    (hR : Ev2 (fun N n => spec_l10Weigh.l0 N n a b ((i + 1 : Nat) : Int) (matL (i + 1) (b.size + 1) (wf (fW a b)))) R) : ∀ (c k : Nat), k + c = b.size + 1 →
    Ev3 (fun N m0 n => spec_l10Weigh.l1 N m0 n a b (i : Int) (k : Int) (matL i (b.size + 1) (wf (fW a b))) (((List.range k).map (wf (fW a b) i)).map intP)) R := by
  obtain ⟨a1, a2, a3⟩ := word_size ha
  obtain ⟨b1, b2, b3⟩ := word_size hb
  intro c
  induction c with
  | zero =>
    intro k hk
    have hk' : k = b.size + 1 := by omega
    subst hk'
    refine Ev3.succ ?_
    have z : ¬ ((b.size + 1 : Nat) : Int) ≤ (b.size : Int) := by omega
    have wi : IntKind.i64.wrap ((i : Int) + 1) = ((i + 1 : Nat) : Int) := by rw [wrap_id (by omega) (by omega)]; omega
    have c1 : i + 1 ≤ 5864062014805 := by omega
    have hl := matL_len i (b.size + 1) (wf (fW a b))
    have l1 : ∀ x : PV, [x].length = 1 := fun _ => rfl
    simp only [spec_l10Weigh.l1_eq, z, wi, hl, l1, c1, matL_more, decide_false, Bool.false_eq_true, if_false, if_true]
    exact hR.outer
  | succ c ih =>
    intro k hk
    have hkb : k ≤ b.size := by omega
    refine Ev3.succ ?_
    have z : (k : Int) ≤ (b.size : Int) := by omega
    have wk1 : IntKind.i64.wrap ((k : Int) + 1) = ((k + 1 : Nat) : Int) := by rw [wrap_id (by omega) (by omega)]; omega
    have hl1 : (((List.range k).map (wf (fW a b) i)).map intP).length = k := by simp
    have l1 : ∀ x : PV, [x].length = 1 := fun _ => rfl
    have c1 : k + 1 ≤ 17592186044416 := by omega
    have hnext := ih (k + 1) (by omega)
    rw [← rowL_more] at hnext
    cases i with
    | zero =>
      have w1 : IntKind.i64.wrap (4 * (k : Int)) = wf (fW a b) 0 k := by rw [wf]; exact wrap_id (by omega) (by omega)
      have zz : ((0 : Nat) : Int) = 0 := rfl
      simp only [zz] at hnext ⊢
      simp only [spec_l10Weigh.l1_eq, z, wk1, w1, hl1, l1, c1, decide_true, if_true]
      exact hnext
    | succ i =>
      have y0 : ¬ (((i + 1 : Nat) : Int) = 0) := by omega
      cases k with
      | zero =>
        have w1 : IntKind.i64.wrap (4 * ((i + 1 : Nat) : Int)) = wf (fW a b) (i + 1) 0 := by rw [wf_zero]; exact wrap_id (by omega) (by omega)
        have zz : ((0 : Nat) : Int) = 0 := rfl
        simp only [zz] at hnext wk1 z ⊢
        simp only [spec_l10Weigh.l1_eq, z, wk1, w1, hl1, l1, c1, y0, decide_true, decide_false, Bool.false_eq_true, if_false, if_true]
        exact hnext
      | succ k =>
        have y1 : ¬ (((k + 1 : Nat) : Int) = 0) := by omega
        have wi : IntKind.i64.wrap (((i + 1 : Nat) : Int) - 1) = (i : Int) := by rw [cast1, wrap_id (by omega) (by omega)]
        have wk : IntKind.i64.wrap (((k + 1 : Nat) : Int) - 1) = (k : Int) := by rw [cast1, wrap_id (by omega) (by omega)]
        have hl := matL_len (i + 1) (b.size + 1) (wf (fW a b))
        have q1 : (i : Int) < ((i + 1 : Nat) : Int) := by omega
        have r1 := matL_row (n := i + 1) (m := b.size + 1) (g := wf (fW a b)) (show i < i + 1 by omega)
        have q3 : (k : Int) < ((b.size + 1 : Nat) : Int) := by omega
        have q4 : ((k + 1 : Nat) : Int) < ((b.size + 1 : Nat) : Int) := by omega
        have q5 : (i : Int) < (a.size : Int) := by omega
        have q6 : (k : Int) < (b.size : Int) := by omega
        have q7 : (k : Int) < ((k + 1 : Nat) : Int) := by omega
        have h1 := wf_in (fW_in a b) i k; have h2 := wf_in (fW_in a b) i (k + 1); have h3 := wf_in (fW_in a b) (i + 1) k
        have h4 := fW_in a b i k
        have w1 : IntKind.i64.wrap (wf (fW a b) i k + fW a b i k) = wf (fW a b) i k + fW a b i k := wrap_id (by omega) (by omega)
        have w2 : IntKind.i64.wrap (wf (fW a b) i (k + 1) + 4) = wf (fW a b) i (k + 1) + 4 := wrap_id (by omega) (by omega)
        have w3 : IntKind.i64.wrap (wf (fW a b) (i + 1) k + 4) = wf (fW a b) (i + 1) k + 4 := wrap_id (by omega) (by omega)
        have hle : ∀ x y : Int, (if x < y then x else y) = minI x y := fun x y => by
          simp only [minI]; repeat' split
          all_goals omega
        have hw : minI (wf (fW a b) i k + fW a b i k) (minI (wf (fW a b) i (k + 1) + 4) (wf (fW a b) (i + 1) k + 4)) = wf (fW a b) (i + 1) (k + 1) := by
          rw [wf]; simp only [minI]; repeat' split
          all_goals omega
        have he : ((PV.list (((List.range (k + 1)).map (wf (fW a b) (i + 1))).map intP)).elem k).toInt = wf (fW a b) (i + 1) k := range_at (by omega)
        have hf : Ev (fun N => spec_l10Key.f N [.sc (.int .u8 ((a.get! i).toNat : Int)), .sc (.int .u8 ((b.get! k).toNat : Int))]) [intP (fW a b i k)] := by
          have := specKey_far (bt a i) (bt b k)
          rw [get_bt, get_bt]; exact this
        simp only [spec_l10Weigh.l1_eq, z, y0, y1, wi, wk, wk1, hl, hl1, l1, c1, q1, q3, q4, q5, q6, q7, r1, range_len, nn, nat_int, decide_true, decide_false, Bool.false_eq_true, if_false, if_true]
        refine Ev3.bind hf ?_
        simp only [headD_one, toInt_sc, range_at (show k < b.size + 1 by omega), range_at (show k + 1 < b.size + 1 by omega), he, w1, w2, w3, least_val, hle, hw, Option.bind_some]
        exact hnext
theorem specW_l0 (a b : ByteArray) (ha : isWord a = true) (hb : isWord b = true) : ∀ (c i : Nat), i + c = a.size + 1 →
    Ev2 (fun N n => spec_l10Weigh.l0 N n a b (i : Int) (matL i (b.size + 1) (wf (fW a b)))) [intP (wf (fW a b) a.size b.size)] := by
  obtain ⟨a1, a2, a3⟩ := word_size ha
  obtain ⟨b1, b2, b3⟩ := word_size hb
  intro c
  induction c with
  | zero =>
    intro i hi
    have hi' : i = a.size + 1 := by omega
    subst hi'
    refine Ev2.succ ?_
    have z : ¬ ((a.size + 1 : Nat) : Int) ≤ (a.size : Int) := by omega
    have hl := matL_len (a.size + 1) (b.size + 1) (wf (fW a b))
    have q1 : (a.size : Int) < ((a.size + 1 : Nat) : Int) := by omega
    have q2 : (b.size : Int) < ((b.size + 1 : Nat) : Int) := by omega
    have r1 := matL_row (n := a.size + 1) (m := b.size + 1) (g := wf (fW a b)) (show a.size < a.size + 1 by omega)
    simp only [spec_l10Weigh.l0_eq, z, hl, q1, q2, r1, range_len, range_at (show b.size < b.size + 1 by omega), nn, decide_false, Bool.false_eq_true, if_false, if_true]
    exact Ev2.now _
  | succ c ih =>
    intro i hi
    refine Ev2.succ ?_
    have z : (i : Int) ≤ (a.size : Int) := by omega
    have h := specW_l1 a b ha hb i (by omega) _ (ih (i + 1) (by omega)) (b.size + 1) 0 (by omega)
    simp only [spec_l10Weigh.l0_eq, z, decide_true, if_true]
    exact h.start
theorem specWeigh_ev (a b : ByteArray) (hsa : a.size ≤ 9223372036854775807) (hsb : b.size ≤ 9223372036854775807) : Ev (fun N => spec_WeighFar.f N [strP a, strP b]) [intP (weighM a b)] := by
  simp only [spec_WeighFar.f_eq, toStr_sc]
  refine Ev.bind (specWord_ev a hsa) ?_
  unfold weighM
  by_cases ha : isWord a = true
  · simp only [ha, strs_len, strs_elem, ints_len, ints_elem, items_list, fld_agg, elem_list, toStr_sc, toInt_sc, toBool_sc, headD_one, nat_int, get_bt, decide_eq_true_eq, decide_eq_false_iff_not, decide_true, decide_false, if_true, if_false, ite_self, Bool.not_true, Bool.not_false, Bool.false_eq_true, Bool.true_eq_false, Bool.true_and, Bool.false_and, Bool.and_true, Bool.and_false, not_true, not_false_iff, Option.bind_some, nn, toList_inj, Bool.not_eq_true', Bool.not_eq_false', Int.le_refl, and_self, true_and, and_true, false_and, and_false, bne_self_eq_false, beq_self_eq_true, Int.reduceEq, Nat.reduceEqDiff, List.length_singleton, List.tail_cons, Int.reduceLE, Int.reduceLT, decide_eq_true_eq]
    refine Ev.bind (specWord_ev b hsb) ?_
    by_cases hb : isWord b = true
    · simp only [hb, strs_len, strs_elem, ints_len, ints_elem, items_list, fld_agg, elem_list, toStr_sc, toInt_sc, toBool_sc, headD_one, nat_int, get_bt, decide_eq_true_eq, decide_eq_false_iff_not, decide_true, decide_false, if_true, if_false, ite_self, Bool.not_true, Bool.not_false, Bool.false_eq_true, Bool.true_eq_false, Bool.true_and, Bool.false_and, Bool.and_true, Bool.and_false, not_true, not_false_iff, Option.bind_some, nn, toList_inj, Bool.not_eq_true', Bool.not_eq_false', Int.le_refl, and_self, true_and, and_true, false_and, and_false, bne_self_eq_false, beq_self_eq_true, Int.reduceEq, Nat.reduceEqDiff, List.length_singleton, List.tail_cons, Int.reduceLE, Int.reduceLT, decide_eq_true_eq]
      have h := (specW_l0 a b ha hb (a.size + 1) 0 (by omega)).diag
      have h2 : Ev (fun N => spec_l10Weigh.f N [strP a, strP b]) [intP (wf (fW a b) a.size b.size)] := by
        simp only [spec_l10Weigh.f_eq, strs_len, strs_elem, ints_len, ints_elem, items_list, fld_agg, elem_list, toStr_sc, toInt_sc, toBool_sc, headD_one, nat_int, get_bt, decide_eq_true_eq, decide_eq_false_iff_not, decide_true, decide_false, if_true, if_false, ite_self, Bool.not_true, Bool.not_false, Bool.false_eq_true, Bool.true_eq_false, Bool.true_and, Bool.false_and, Bool.and_true, Bool.and_false, not_true, not_false_iff, Option.bind_some, nn, toList_inj, Bool.not_eq_true', Bool.not_eq_false', Int.le_refl, and_self, true_and, and_true, false_and, and_false, bne_self_eq_false, beq_self_eq_true, Int.reduceEq, Nat.reduceEqDiff, List.length_singleton, List.tail_cons, Int.reduceLE, Int.reduceLT, decide_eq_true_eq]; exact h
      refine Ev.bind h2 ?_
      simp only [strs_len, strs_elem, ints_len, ints_elem, items_list, fld_agg, elem_list, toStr_sc, toInt_sc, toBool_sc, headD_one, nat_int, get_bt, decide_eq_true_eq, decide_eq_false_iff_not, decide_true, decide_false, if_true, if_false, ite_self, Bool.not_true, Bool.not_false, Bool.false_eq_true, Bool.true_eq_false, Bool.true_and, Bool.false_and, Bool.and_true, Bool.and_false, not_true, not_false_iff, Option.bind_some, nn, toList_inj, Bool.not_eq_true', Bool.not_eq_false', Int.le_refl, and_self, true_and, and_true, false_and, and_false, bne_self_eq_false, beq_self_eq_true, Int.reduceEq, Nat.reduceEqDiff, List.length_singleton, List.tail_cons, Int.reduceLE, Int.reduceLT, decide_eq_true_eq]; exact Ev.now _
    · simp only [Bool.not_eq_true] at hb
      simp only [hb, strs_len, strs_elem, ints_len, ints_elem, items_list, fld_agg, elem_list, toStr_sc, toInt_sc, toBool_sc, headD_one, nat_int, get_bt, decide_eq_true_eq, decide_eq_false_iff_not, decide_true, decide_false, if_true, if_false, ite_self, Bool.not_true, Bool.not_false, Bool.false_eq_true, Bool.true_eq_false, Bool.true_and, Bool.false_and, Bool.and_true, Bool.and_false, not_true, not_false_iff, Option.bind_some, nn, toList_inj, Bool.not_eq_true', Bool.not_eq_false', Int.le_refl, and_self, true_and, and_true, false_and, and_false, bne_self_eq_false, beq_self_eq_true, Int.reduceEq, Nat.reduceEqDiff, List.length_singleton, List.tail_cons, Int.reduceLE, Int.reduceLT, decide_eq_true_eq]; exact Ev.now _
  · simp only [Bool.not_eq_true] at ha
    simp only [ha, strs_len, strs_elem, ints_len, ints_elem, items_list, fld_agg, elem_list, toStr_sc, toInt_sc, toBool_sc, headD_one, nat_int, get_bt, decide_eq_true_eq, decide_eq_false_iff_not, decide_true, decide_false, if_true, if_false, ite_self, Bool.not_true, Bool.not_false, Bool.false_eq_true, Bool.true_eq_false, Bool.true_and, Bool.false_and, Bool.and_true, Bool.and_false, not_true, not_false_iff, Option.bind_some, nn, toList_inj, Bool.not_eq_true', Bool.not_eq_false', Int.le_refl, and_self, true_and, and_true, false_and, and_false, bne_self_eq_false, beq_self_eq_true, Int.reduceEq, Nat.reduceEqDiff, List.length_singleton, List.tail_cons, Int.reduceLE, Int.reduceLT, decide_eq_true_eq]; exact Ev.now _
/-- The law's own function answers true. -/
theorem law (ps : List PV) (h : PvOkL (PvOk Tryd.prog 8) [9, 9] ps) : ∃ N, laws_FnExactWeighFar.f N ps = some [boolP true] := by
  obtain ⟨p, q, rfl, h1, h2⟩ := pvOkL2 h
  obtain ⟨a, rfl, ha⟩ := pvOk_str (P := Tryd.prog) (t := 9) (by kernel_rfl) h1
  obtain ⟨b, rfl, hb⟩ := pvOk_str (P := Tryd.prog) (t := 9) (by kernel_rfl) h2
  simp only [reachBytes] at ha hb
  refine Ev.some ?_
  simp only [laws_FnExactWeighFar.f_eq, strs_len, strs_elem, ints_len, ints_elem, items_list, fld_agg, elem_list, toStr_sc, toInt_sc, toBool_sc, headD_one, nat_int, get_bt, decide_eq_true_eq, decide_eq_false_iff_not, decide_true, decide_false, if_true, if_false, ite_self, Bool.not_true, Bool.not_false, Bool.false_eq_true, Bool.true_eq_false, Bool.true_and, Bool.false_and, Bool.and_true, Bool.and_false, not_true, not_false_iff, Option.bind_some, nn, toList_inj, Bool.not_eq_true', Bool.not_eq_false', Int.le_refl, and_self, true_and, and_true, false_and, and_false, bne_self_eq_false, beq_self_eq_true, Int.reduceEq, Nat.reduceEqDiff, List.length_singleton, List.tail_cons, Int.reduceLE, Int.reduceLT, decide_eq_true_eq]
  by_cases h1 : (1048576 : Int) < (a.size : Int)
  · simp only [h1, strs_len, strs_elem, ints_len, ints_elem, items_list, fld_agg, elem_list, toStr_sc, toInt_sc, toBool_sc, headD_one, nat_int, get_bt, decide_eq_true_eq, decide_eq_false_iff_not, decide_true, decide_false, if_true, if_false, ite_self, Bool.not_true, Bool.not_false, Bool.false_eq_true, Bool.true_eq_false, Bool.true_and, Bool.false_and, Bool.and_true, Bool.and_false, not_true, not_false_iff, Option.bind_some, nn, toList_inj, Bool.not_eq_true', Bool.not_eq_false', Int.le_refl, and_self, true_and, and_true, false_and, and_false, bne_self_eq_false, beq_self_eq_true, Int.reduceEq, Nat.reduceEqDiff, List.length_singleton, List.tail_cons, Int.reduceLE, Int.reduceLT, decide_eq_true_eq]; exact Ev.now _
  by_cases h2 : (1048576 : Int) < (b.size : Int)
  · simp only [h1, h2, strs_len, strs_elem, ints_len, ints_elem, items_list, fld_agg, elem_list, toStr_sc, toInt_sc, toBool_sc, headD_one, nat_int, get_bt, decide_eq_true_eq, decide_eq_false_iff_not, decide_true, decide_false, if_true, if_false, ite_self, Bool.not_true, Bool.not_false, Bool.false_eq_true, Bool.true_eq_false, Bool.true_and, Bool.false_and, Bool.and_true, Bool.and_false, not_true, not_false_iff, Option.bind_some, nn, toList_inj, Bool.not_eq_true', Bool.not_eq_false', Int.le_refl, and_self, true_and, and_true, false_and, and_false, bne_self_eq_false, beq_self_eq_true, Int.reduceEq, Nat.reduceEqDiff, List.length_singleton, List.tail_cons, Int.reduceLE, Int.reduceLT, decide_eq_true_eq]; exact Ev.now _
  simp only [h1, h2, strs_len, strs_elem, ints_len, ints_elem, items_list, fld_agg, elem_list, toStr_sc, toInt_sc, toBool_sc, headD_one, nat_int, get_bt, decide_eq_true_eq, decide_eq_false_iff_not, decide_true, decide_false, if_true, if_false, ite_self, Bool.not_true, Bool.not_false, Bool.false_eq_true, Bool.true_eq_false, Bool.true_and, Bool.false_and, Bool.and_true, Bool.and_false, not_true, not_false_iff, Option.bind_some, nn, toList_inj, Bool.not_eq_true', Bool.not_eq_false', Int.le_refl, and_self, true_and, and_true, false_and, and_false, bne_self_eq_false, beq_self_eq_true, Int.reduceEq, Nat.reduceEqDiff, List.length_singleton, List.tail_cons, Int.reduceLE, Int.reduceLT, decide_eq_true_eq]
  refine Ev.bind (specWeigh_ev a b (by omega) (by omega)) ?_
  refine Ev.bind (implWeigh_ev a b (by omega) (by omega)) ?_
  simp only [strs_len, strs_elem, ints_len, ints_elem, items_list, fld_agg, elem_list, toStr_sc, toInt_sc, toBool_sc, headD_one, nat_int, get_bt, decide_eq_true_eq, decide_eq_false_iff_not, decide_true, decide_false, if_true, if_false, ite_self, Bool.not_true, Bool.not_false, Bool.false_eq_true, Bool.true_eq_false, Bool.true_and, Bool.false_and, Bool.and_true, Bool.and_false, not_true, not_false_iff, Option.bind_some, nn, toList_inj, Bool.not_eq_true', Bool.not_eq_false', Int.le_refl, and_self, true_and, and_true, false_and, and_false, bne_self_eq_false, beq_self_eq_true, Int.reduceEq, Nat.reduceEqDiff, List.length_singleton, List.tail_cons, Int.reduceLE, Int.reduceLT, decide_eq_true_eq]
  exact Ev.now _
end Go.Proofs.YtgahfbbhnkcnfaaDoor.FnExactWeighFar
