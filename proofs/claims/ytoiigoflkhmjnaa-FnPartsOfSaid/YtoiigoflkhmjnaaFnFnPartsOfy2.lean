/- The plain laws that FnPartsOf leans on, part 2. -/
import Derived.Test.YtoiigoflkhmjnaaFnFnPartsOfy1
set_option linter.unusedVariables false
set_option linter.unusedSimpArgs false
set_option maxRecDepth 10000
namespace Go.Proofs.Ytoiigoflkhmjnaa.FnPartsOf
open Go Go.Proofs.YtoiigoflkhmjnaaAm
/-! #### a book that is ok, and its words: the program -/
theorem implUp_val (k : IntKind) (c : Int) (N : Nat) : impl_upper.f N [.sc (.int k c)] = some [boolP (decide (65 ≤ c) && decide (c ≤ 90))] := by
  by_cases h : 65 ≤ c
  · simp only [impl_upper.f_eq, h, strs_len, strs_elem, ints_len, ints_elem, items_list, fld_agg, elem_list, toStr_sc, toInt_sc, toBool_sc, headD_one, nat_int, get_bt, decide_eq_true_eq, decide_eq_false_iff_not, decide_true, decide_false, if_true, if_false, ite_self, Bool.not_true, Bool.not_false, Bool.false_eq_true, Bool.true_eq_false, Bool.true_and, Bool.false_and, Bool.and_true, Bool.and_false, not_true, not_false_iff, Option.bind_some, nn, toList_inj, Bool.not_eq_true', Bool.not_eq_false', Int.le_refl, and_self, true_and, and_true, false_and, and_false, bne_self_eq_false, beq_self_eq_true, Int.reduceEq, Nat.reduceEqDiff, List.length_singleton, List.tail_cons, Int.reduceLE, Int.reduceLT, decide_eq_true_eq]; rfl
  · simp only [impl_upper.f_eq, h, strs_len, strs_elem, ints_len, ints_elem, items_list, fld_agg, elem_list, toStr_sc, toInt_sc, toBool_sc, headD_one, nat_int, get_bt, decide_eq_true_eq, decide_eq_false_iff_not, decide_true, decide_false, if_true, if_false, ite_self, Bool.not_true, Bool.not_false, Bool.false_eq_true, Bool.true_eq_false, Bool.true_and, Bool.false_and, Bool.and_true, Bool.and_false, not_true, not_false_iff, Option.bind_some, nn, toList_inj, Bool.not_eq_true', Bool.not_eq_false', Int.le_refl, and_self, true_and, and_true, false_and, and_false, bne_self_eq_false, beq_self_eq_true, Int.reduceEq, Nat.reduceEqDiff, List.length_singleton, List.tail_cons, Int.reduceLE, Int.reduceLT, decide_eq_true_eq]
theorem hasPre_val (s p : ByteArray) (N : Nat) : strings_HasPrefix.f N [PV.sc (.string s), PV.sc (.string p)] = some [boolP (begB s p)] := by
  by_cases h : p.size ≤ s.size
  · have h1 : ((p.size : Int) ≤ (s.size : Int)) = True := tru (by omega)
    simp only [strings_HasPrefix.f_eq, stringslite_HasPrefix.f_eq, h1, begB, h, nn, strs_len, strs_elem, ints_len, ints_elem, items_list, fld_agg, elem_list, toStr_sc, toInt_sc, toBool_sc, headD_one, nat_int, get_bt, decide_eq_true_eq, decide_eq_false_iff_not, decide_true, decide_false, if_true, if_false, ite_self, Bool.not_true, Bool.not_false, Bool.false_eq_true, Bool.true_eq_false, Bool.true_and, Bool.false_and, Bool.and_true, Bool.and_false, not_true, not_false_iff, Option.bind_some, nn, toList_inj, Bool.not_eq_true', Bool.not_eq_false', Int.le_refl, and_self, true_and, and_true, false_and, and_false, bne_self_eq_false, beq_self_eq_true, Int.reduceEq, Nat.reduceEqDiff, List.length_singleton, List.tail_cons, Int.reduceLE, Int.reduceLT, decide_eq_true_eq]
  · have h1 : ((p.size : Int) ≤ (s.size : Int)) = False := fls (by omega)
    simp only [strings_HasPrefix.f_eq, stringslite_HasPrefix.f_eq, h1, begB, h, strs_len, strs_elem, ints_len, ints_elem, items_list, fld_agg, elem_list, toStr_sc, toInt_sc, toBool_sc, headD_one, nat_int, get_bt, decide_eq_true_eq, decide_eq_false_iff_not, decide_true, decide_false, if_true, if_false, ite_self, Bool.not_true, Bool.not_false, Bool.false_eq_true, Bool.true_eq_false, Bool.true_and, Bool.false_and, Bool.and_true, Bool.and_false, not_true, not_false_iff, Option.bind_some, nn, toList_inj, Bool.not_eq_true', Bool.not_eq_false', Int.le_refl, and_self, true_and, and_true, false_and, and_false, bne_self_eq_false, beq_self_eq_true, Int.reduceEq, Nat.reduceEqDiff, List.length_singleton, List.tail_cons, Int.reduceLE, Int.reduceLT, decide_eq_true_eq]
theorem hasSuf_val (s p : ByteArray) (hs : s.size ≤ 9223372036854775807) (N : Nat) : strings_HasSuffix.f N [PV.sc (.string s), PV.sc (.string p)] = some [boolP (endB s p)] := by
  by_cases h : p.size ≤ s.size
  · have h1 : ((p.size : Int) ≤ (s.size : Int)) = True := tru (by omega)
    have w1 : IntKind.i64.wrap ((s.size : Int) - (p.size : Int)) = ((s.size - p.size : Nat) : Int) := nat_wrap (by omega) (by omega)
    have h2 : (((s.size - p.size : Nat) : Int) ≤ (s.size : Int)) = True := tru (by omega)
    simp only [strings_HasSuffix.f_eq, stringslite_HasSuffix.f_eq, h1, h2, w1, endB, h, nn, strs_len, strs_elem, ints_len, ints_elem, items_list, fld_agg, elem_list, toStr_sc, toInt_sc, toBool_sc, headD_one, nat_int, get_bt, decide_eq_true_eq, decide_eq_false_iff_not, decide_true, decide_false, if_true, if_false, ite_self, Bool.not_true, Bool.not_false, Bool.false_eq_true, Bool.true_eq_false, Bool.true_and, Bool.false_and, Bool.and_true, Bool.and_false, not_true, not_false_iff, Option.bind_some, nn, toList_inj, Bool.not_eq_true', Bool.not_eq_false', Int.le_refl, and_self, true_and, and_true, false_and, and_false, bne_self_eq_false, beq_self_eq_true, Int.reduceEq, Nat.reduceEqDiff, List.length_singleton, List.tail_cons, Int.reduceLE, Int.reduceLT, decide_eq_true_eq]
  · have h1 : ((p.size : Int) ≤ (s.size : Int)) = False := fls (by omega)
    simp only [strings_HasSuffix.f_eq, stringslite_HasSuffix.f_eq, h1, endB, h, strs_len, strs_elem, ints_len, ints_elem, items_list, fld_agg, elem_list, toStr_sc, toInt_sc, toBool_sc, headD_one, nat_int, get_bt, decide_eq_true_eq, decide_eq_false_iff_not, decide_true, decide_false, if_true, if_false, ite_self, Bool.not_true, Bool.not_false, Bool.false_eq_true, Bool.true_eq_false, Bool.true_and, Bool.false_and, Bool.and_true, Bool.and_false, not_true, not_false_iff, Option.bind_some, nn, toList_inj, Bool.not_eq_true', Bool.not_eq_false', Int.le_refl, and_self, true_and, and_true, false_and, and_false, bne_self_eq_false, beq_self_eq_true, Int.reduceEq, Nat.reduceEqDiff, List.length_singleton, List.tail_cons, Int.reduceLE, Int.reduceLT, decide_eq_true_eq]
def partsOkL : List ByteArray → Bool
  | [] => true
  | s :: r => partOk s && partsOkL r
theorem affix_l0 (a : Aff) (hs : AffS a) : ∀ (rest pre : List ByteArray), [a.strip, a.add, a.cond] = pre ++ rest →
    Ev2 (fun N n => impl_AffixOk.l0 N n 3 (pre.length : Int) a.flag a.front a.strip a.add a.cond [strP a.strip, strP a.add, strP a.cond]) [boolP (partsOkL rest && (if a.front = true then begB a.cond a.strip else endB a.cond a.strip))] := by
  have z1 := hs.strip; have z2 := hs.add; have z3 := hs.cond
  have hall : ∀ x ∈ [a.strip, a.add, a.cond], x.size ≤ 1000000000 := by
    intro x hx
    simp only [List.mem_cons, List.not_mem_nil, or_false] at hx
    rcases hx with rfl | rfl | rfl <;> assumption
  have el : PV.list [strP a.strip, strP a.add, strP a.cond] = strsP [a.strip, a.add, a.cond] := rfl
  have hl3 : ([strP a.strip, strP a.add, strP a.cond] : List PV).length = [a.strip, a.add, a.cond].length := rfl
  intro rest
  induction rest with
  | nil =>
    intro pre hp
    have hz : pre.length = 3 := by have := congrArg List.length hp; simp at this; omega
    have h0 : ((pre.length : Int) < 3) = False := fls (by omega)
    refine Ev2.succ ?_
    have e2 := hasSuf_val a.cond a.strip (by omega)
    rcases Bool.eq_false_or_eq_true a.front with hf | hf
    · simp only [impl_AffixOk.l0_eq, h0, hf, hasPre_val, partsOkL, strs_len, strs_elem, ints_len, ints_elem, items_list, fld_agg, elem_list, toStr_sc, toInt_sc, toBool_sc, headD_one, nat_int, get_bt, decide_eq_true_eq, decide_eq_false_iff_not, decide_true, decide_false, if_true, if_false, ite_self, Bool.not_true, Bool.not_false, Bool.false_eq_true, Bool.true_eq_false, Bool.true_and, Bool.false_and, Bool.and_true, Bool.and_false, not_true, not_false_iff, Option.bind_some, nn, toList_inj, Bool.not_eq_true', Bool.not_eq_false', Int.le_refl, and_self, true_and, and_true, false_and, and_false, bne_self_eq_false, beq_self_eq_true, Int.reduceEq, Nat.reduceEqDiff, List.length_singleton, List.tail_cons, Int.reduceLE, Int.reduceLT, decide_eq_true_eq]; exact Ev2.now _
    · simp only [impl_AffixOk.l0_eq, h0, hf, e2, partsOkL, strs_len, strs_elem, ints_len, ints_elem, items_list, fld_agg, elem_list, toStr_sc, toInt_sc, toBool_sc, headD_one, nat_int, get_bt, decide_eq_true_eq, decide_eq_false_iff_not, decide_true, decide_false, if_true, if_false, ite_self, Bool.not_true, Bool.not_false, Bool.false_eq_true, Bool.true_eq_false, Bool.true_and, Bool.false_and, Bool.and_true, Bool.and_false, not_true, not_false_iff, Option.bind_some, nn, toList_inj, Bool.not_eq_true', Bool.not_eq_false', Int.le_refl, and_self, true_and, and_true, false_and, and_false, bne_self_eq_false, beq_self_eq_true, Int.reduceEq, Nat.reduceEqDiff, List.length_singleton, List.tail_cons, Int.reduceLE, Int.reduceLT, decide_eq_true_eq]; exact Ev2.now _
  | cons x rest ih =>
    intro pre hp
    have hz : pre.length < 3 := by have := congrArg List.length hp; simp at this; omega
    have h0 : ((pre.length : Int) < 3) = True := tru (by omega)
    have hx := hall x (by rw [hp]; simp)
    have hlo := implLower_ev x (by omega)
    simp only [strP] at hlo
    have hlen : ([a.strip, a.add, a.cond] : List ByteArray).length ≤ 9223372036854775807 := by simp
    refine Ev2.succ ?_
    by_cases h4 : (x.size : Int) ≤ 4
    · have c4 : ((4 : Int) < (x.size : Int)) = False := fls (by omega)
      simp only [impl_AffixOk.l0_eq, h0, hl3, el, strs_elem, at_lt hp, at_getD hp, c4, partsOkL, partOk, h4, strs_len, strs_elem, ints_len, ints_elem, items_list, fld_agg, elem_list, toStr_sc, toInt_sc, toBool_sc, headD_one, nat_int, get_bt, decide_eq_true_eq, decide_eq_false_iff_not, decide_true, decide_false, if_true, if_false, ite_self, Bool.not_true, Bool.not_false, Bool.false_eq_true, Bool.true_eq_false, Bool.true_and, Bool.false_and, Bool.and_true, Bool.and_false, not_true, not_false_iff, Option.bind_some, nn, toList_inj, Bool.not_eq_true', Bool.not_eq_false', Int.le_refl, and_self, true_and, and_true, false_and, and_false, bne_self_eq_false, beq_self_eq_true, Int.reduceEq, Nat.reduceEqDiff, List.length_singleton, List.tail_cons, Int.reduceLE, Int.reduceLT, decide_eq_true_eq]
      refine Ev2.bind hlo ?_
      cases hl : lowB (bytesOf x) with
      | false => simp only [strs_len, strs_elem, ints_len, ints_elem, items_list, fld_agg, elem_list, toStr_sc, toInt_sc, toBool_sc, headD_one, nat_int, get_bt, decide_eq_true_eq, decide_eq_false_iff_not, decide_true, decide_false, if_true, if_false, ite_self, Bool.not_true, Bool.not_false, Bool.false_eq_true, Bool.true_eq_false, Bool.true_and, Bool.false_and, Bool.and_true, Bool.and_false, not_true, not_false_iff, Option.bind_some, nn, toList_inj, Bool.not_eq_true', Bool.not_eq_false', Int.le_refl, and_self, true_and, and_true, false_and, and_false, bne_self_eq_false, beq_self_eq_true, Int.reduceEq, Nat.reduceEqDiff, List.length_singleton, List.tail_cons, Int.reduceLE, Int.reduceLT, decide_eq_true_eq]; exact Ev2.now _
      | true =>
        simp only [at_next hp hlen, strs_len, strs_elem, ints_len, ints_elem, items_list, fld_agg, elem_list, toStr_sc, toInt_sc, toBool_sc, headD_one, nat_int, get_bt, decide_eq_true_eq, decide_eq_false_iff_not, decide_true, decide_false, if_true, if_false, ite_self, Bool.not_true, Bool.not_false, Bool.false_eq_true, Bool.true_eq_false, Bool.true_and, Bool.false_and, Bool.and_true, Bool.and_false, not_true, not_false_iff, Option.bind_some, nn, toList_inj, Bool.not_eq_true', Bool.not_eq_false', Int.le_refl, and_self, true_and, and_true, false_and, and_false, bne_self_eq_false, beq_self_eq_true, Int.reduceEq, Nat.reduceEqDiff, List.length_singleton, List.tail_cons, Int.reduceLE, Int.reduceLT, decide_eq_true_eq]
        exact ih _ (at_step hp)
    · have c4 : ((4 : Int) < (x.size : Int)) = True := tru (by omega)
      simp only [impl_AffixOk.l0_eq, h0, hl3, el, strs_elem, at_lt hp, at_getD hp, c4, partsOkL, partOk, h4, strs_len, strs_elem, ints_len, ints_elem, items_list, fld_agg, elem_list, toStr_sc, toInt_sc, toBool_sc, headD_one, nat_int, get_bt, decide_eq_true_eq, decide_eq_false_iff_not, decide_true, decide_false, if_true, if_false, ite_self, Bool.not_true, Bool.not_false, Bool.false_eq_true, Bool.true_eq_false, Bool.true_and, Bool.false_and, Bool.and_true, Bool.and_false, not_true, not_false_iff, Option.bind_some, nn, toList_inj, Bool.not_eq_true', Bool.not_eq_false', Int.le_refl, and_self, true_and, and_true, false_and, and_false, bne_self_eq_false, beq_self_eq_true, Int.reduceEq, Nat.reduceEqDiff, List.length_singleton, List.tail_cons, Int.reduceLE, Int.reduceLT, decide_eq_true_eq]
      exact Ev2.now _
theorem implAffixOk_ev (a : Aff) (hs : AffS a) : Ev (fun N => impl_AffixOk.f N [affP a]) [boolP (affB a)] := by
  have h0 := affix_l0 a hs [a.strip, a.add, a.cond] [] rfl
  have e3 : (([strP a.strip, strP a.add, strP a.cond] : List PV).length : Int) = 3 := rfl
  simp only [strP] at e3 h0
  by_cases h : (a.flag.size : Int) = 1
  · cases hu : (decide (65 ≤ bt a.flag 0) && decide (bt a.flag 0 ≤ 90)) with
    | false =>
      simp only [impl_AffixOk.f_eq, aff_f0, aff_f1, aff_f2, aff_f3, aff_f4, h, implUp_val, affB, flagB, hu, Nat.le_refl, strs_len, strs_elem, ints_len, ints_elem, items_list, fld_agg, elem_list, toStr_sc, toInt_sc, toBool_sc, headD_one, nat_int, get_bt, decide_eq_true_eq, decide_eq_false_iff_not, decide_true, decide_false, if_true, if_false, ite_self, Bool.not_true, Bool.not_false, Bool.false_eq_true, Bool.true_eq_false, Bool.true_and, Bool.false_and, Bool.and_true, Bool.and_false, not_true, not_false_iff, Option.bind_some, nn, toList_inj, Bool.not_eq_true', Bool.not_eq_false', Int.le_refl, and_self, true_and, and_true, false_and, and_false, bne_self_eq_false, beq_self_eq_true, Int.reduceEq, Nat.reduceEqDiff, List.length_singleton, List.tail_cons, Int.reduceLE, Int.reduceLT, decide_eq_true_eq]
      exact Ev.now _
    | true =>
      simp only [impl_AffixOk.f_eq, aff_f0, aff_f1, aff_f2, aff_f3, aff_f4, h, implUp_val, affB, flagB, hu, e3, Nat.le_refl, strs_len, strs_elem, ints_len, ints_elem, items_list, fld_agg, elem_list, toStr_sc, toInt_sc, toBool_sc, headD_one, nat_int, get_bt, decide_eq_true_eq, decide_eq_false_iff_not, decide_true, decide_false, if_true, if_false, ite_self, Bool.not_true, Bool.not_false, Bool.false_eq_true, Bool.true_eq_false, Bool.true_and, Bool.false_and, Bool.and_true, Bool.and_false, not_true, not_false_iff, Option.bind_some, nn, toList_inj, Bool.not_eq_true', Bool.not_eq_false', Int.le_refl, and_self, true_and, and_true, false_and, and_false, bne_self_eq_false, beq_self_eq_true, Int.reduceEq, Nat.reduceEqDiff, List.length_singleton, List.tail_cons, Int.reduceLE, Int.reduceLT, decide_eq_true_eq]
      refine Ev.ext h0.diag ?_
      simp only [partsOkL, Bool.and_true, Bool.and_assoc]
  · simp only [impl_AffixOk.f_eq, aff_f0, aff_f1, aff_f2, aff_f3, aff_f4, h, affB, flagB, strs_len, strs_elem, ints_len, ints_elem, items_list, fld_agg, elem_list, toStr_sc, toInt_sc, toBool_sc, headD_one, nat_int, get_bt, decide_eq_true_eq, decide_eq_false_iff_not, decide_true, decide_false, if_true, if_false, ite_self, Bool.not_true, Bool.not_false, Bool.false_eq_true, Bool.true_eq_false, Bool.true_and, Bool.false_and, Bool.and_true, Bool.and_false, not_true, not_false_iff, Option.bind_some, nn, toList_inj, Bool.not_eq_true', Bool.not_eq_false', Int.le_refl, and_self, true_and, and_true, false_and, and_false, bne_self_eq_false, beq_self_eq_true, Int.reduceEq, Nat.reduceEqDiff, List.length_singleton, List.tail_cons, Int.reduceLE, Int.reduceLT, decide_eq_true_eq]
    exact Ev.now _
theorem affIndex_loop {l : List Aff} (hl : l.length ≤ 1000000000) (a : Aff) : ∀ (rest pre : List Aff), l = pre ++ rest →
    ∃ r : Int, Ev2 (fun N n => slices_Index_impl_Affix.l0 N n (affsP l) (l.length : Int) (pre.length : Int) a.flag a.front a.strip a.add a.cond) [intP r] ∧ decide (0 ≤ r) = hasA rest a := by
  intro rest
  induction rest with
  | nil =>
    intro pre hp
    refine ⟨-1, Ev2.succ ?_, rfl⟩
    simp only [slices_Index_impl_Affix.l0_eq, at_end hp, strs_len, strs_elem, ints_len, ints_elem, items_list, fld_agg, elem_list, toStr_sc, toInt_sc, toBool_sc, headD_one, nat_int, get_bt, decide_eq_true_eq, decide_eq_false_iff_not, decide_true, decide_false, if_true, if_false, ite_self, Bool.not_true, Bool.not_false, Bool.false_eq_true, Bool.true_eq_false, Bool.true_and, Bool.false_and, Bool.and_true, Bool.and_false, not_true, not_false_iff, Option.bind_some, nn, toList_inj, Bool.not_eq_true', Bool.not_eq_false', Int.le_refl, and_self, true_and, and_true, false_and, and_false, bne_self_eq_false, beq_self_eq_true, Int.reduceEq, Nat.reduceEqDiff, List.length_singleton, List.tail_cons, Int.reduceLE, Int.reduceLT, decide_eq_true_eq]
    exact Ev2.now _
  | cons x rest ih =>
    intro pre hp
    cases he : eqA a x with
    | true =>
      refine ⟨pre.length, Ev2.succ ?_, by rw [hasA, eqA_symm, he]; simp⟩
      simp only [slices_Index_impl_Affix.l0_eq, affs_len, affs_elem hp, at_lt hp, aff_f0, aff_f1, aff_f2, aff_f3, aff_f4, strs_len, strs_elem, ints_len, ints_elem, items_list, fld_agg, elem_list, toStr_sc, toInt_sc, toBool_sc, headD_one, nat_int, get_bt, decide_eq_true_eq, decide_eq_false_iff_not, decide_true, decide_false, if_true, if_false, ite_self, Bool.not_true, Bool.not_false, Bool.false_eq_true, Bool.true_eq_false, Bool.true_and, Bool.false_and, Bool.and_true, Bool.and_false, not_true, not_false_iff, Option.bind_some, nn, toList_inj, Bool.not_eq_true', Bool.not_eq_false', Int.le_refl, and_self, true_and, and_true, false_and, and_false, bne_self_eq_false, beq_self_eq_true, Int.reduceEq, Nat.reduceEqDiff, List.length_singleton, List.tail_cons, Int.reduceLE, Int.reduceLT, decide_eq_true_eq]
      simp only [eqA_fold, he, strs_len, strs_elem, ints_len, ints_elem, items_list, fld_agg, elem_list, toStr_sc, toInt_sc, toBool_sc, headD_one, nat_int, get_bt, decide_eq_true_eq, decide_eq_false_iff_not, decide_true, decide_false, if_true, if_false, ite_self, Bool.not_true, Bool.not_false, Bool.false_eq_true, Bool.true_eq_false, Bool.true_and, Bool.false_and, Bool.and_true, Bool.and_false, not_true, not_false_iff, Option.bind_some, nn, toList_inj, Bool.not_eq_true', Bool.not_eq_false', Int.le_refl, and_self, true_and, and_true, false_and, and_false, bne_self_eq_false, beq_self_eq_true, Int.reduceEq, Nat.reduceEqDiff, List.length_singleton, List.tail_cons, Int.reduceLE, Int.reduceLT, decide_eq_true_eq]
      exact Ev2.now _
    | false =>
      obtain ⟨r, h1, h2⟩ := ih _ (at_step hp)
      refine ⟨r, Ev2.succ ?_, by rw [hasA, eqA_symm, he, h2]; rfl⟩
      simp only [slices_Index_impl_Affix.l0_eq, affs_len, affs_elem hp, at_lt hp, aff_f0, aff_f1, aff_f2, aff_f3, aff_f4, strs_len, strs_elem, ints_len, ints_elem, items_list, fld_agg, elem_list, toStr_sc, toInt_sc, toBool_sc, headD_one, nat_int, get_bt, decide_eq_true_eq, decide_eq_false_iff_not, decide_true, decide_false, if_true, if_false, ite_self, Bool.not_true, Bool.not_false, Bool.false_eq_true, Bool.true_eq_false, Bool.true_and, Bool.false_and, Bool.and_true, Bool.and_false, not_true, not_false_iff, Option.bind_some, nn, toList_inj, Bool.not_eq_true', Bool.not_eq_false', Int.le_refl, and_self, true_and, and_true, false_and, and_false, bne_self_eq_false, beq_self_eq_true, Int.reduceEq, Nat.reduceEqDiff, List.length_singleton, List.tail_cons, Int.reduceLE, Int.reduceLT, decide_eq_true_eq]
      simp only [eqA_fold, he, at_next hp (by omega), strs_len, strs_elem, ints_len, ints_elem, items_list, fld_agg, elem_list, toStr_sc, toInt_sc, toBool_sc, headD_one, nat_int, get_bt, decide_eq_true_eq, decide_eq_false_iff_not, decide_true, decide_false, if_true, if_false, ite_self, Bool.not_true, Bool.not_false, Bool.false_eq_true, Bool.true_eq_false, Bool.true_and, Bool.false_and, Bool.and_true, Bool.and_false, not_true, not_false_iff, Option.bind_some, nn, toList_inj, Bool.not_eq_true', Bool.not_eq_false', Int.le_refl, and_self, true_and, and_true, false_and, and_false, bne_self_eq_false, beq_self_eq_true, Int.reduceEq, Nat.reduceEqDiff, List.length_singleton, List.tail_cons, Int.reduceLE, Int.reduceLT, decide_eq_true_eq]
      exact h1
theorem affContains_ev {l : List Aff} (hl : l.length ≤ 1000000000) (a : Aff) : Ev (fun N => slices_Contains_impl_Affix.f N [affsP l, affP a]) [boolP (hasA l a)] := by
  obtain ⟨r, h1, h2⟩ := affIndex_loop hl a l [] rfl
  simp only [slices_Contains_impl_Affix.f_eq, slices_Index_impl_Affix.f_eq, affs_len, aff_f0, aff_f1, aff_f2, aff_f3, aff_f4, aff_agg, strs_len, strs_elem, ints_len, ints_elem, items_list, fld_agg, elem_list, toStr_sc, toInt_sc, toBool_sc, headD_one, nat_int, get_bt, decide_eq_true_eq, decide_eq_false_iff_not, decide_true, decide_false, if_true, if_false, ite_self, Bool.not_true, Bool.not_false, Bool.false_eq_true, Bool.true_eq_false, Bool.true_and, Bool.false_and, Bool.and_true, Bool.and_false, not_true, not_false_iff, Option.bind_some, nn, toList_inj, Bool.not_eq_true', Bool.not_eq_false', Int.le_refl, and_self, true_and, and_true, false_and, and_false, bne_self_eq_false, beq_self_eq_true, Int.reduceEq, Nat.reduceEqDiff, List.length_singleton, List.tail_cons, Int.reduceLE, Int.reduceLT, decide_eq_true_eq]
  refine Ev.bind h1.diag ?_
  exact Ev.ext (Ev.now _) (congrArg (fun b => [boolP b]) h2)
theorem implAffs_loop {af : List Aff} (hal : af.length ≤ 1000000000) (hs : ∀ a ∈ af, AffS a) : ∀ (ra pre : List Aff), af = pre ++ ra →
    Ev2 (fun N n => impl_affixesOk.l0 N n (affsP af) (affsP af) (af.length : Int) (pre.length : Int)) [boolP (affsL pre ra && decide ((af.length : Int) ≤ 8))] := by
  intro ra
  induction ra with
  | nil =>
    intro pre ha
    refine Ev2.succ ?_
    simp only [impl_affixesOk.l0_eq, affs_len, at_end ha, affsL, strs_len, strs_elem, ints_len, ints_elem, items_list, fld_agg, elem_list, toStr_sc, toInt_sc, toBool_sc, headD_one, nat_int, get_bt, decide_eq_true_eq, decide_eq_false_iff_not, decide_true, decide_false, if_true, if_false, ite_self, Bool.not_true, Bool.not_false, Bool.false_eq_true, Bool.true_eq_false, Bool.true_and, Bool.false_and, Bool.and_true, Bool.and_false, not_true, not_false_iff, Option.bind_some, nn, toList_inj, Bool.not_eq_true', Bool.not_eq_false', Int.le_refl, and_self, true_and, and_true, false_and, and_false, bne_self_eq_false, beq_self_eq_true, Int.reduceEq, Nat.reduceEqDiff, List.length_singleton, List.tail_cons, Int.reduceLE, Int.reduceLT, decide_eq_true_eq]
    exact Ev2.now _
  | cons a ra ih =>
    intro pre ha
    have hpl : pre.length ≤ af.length := by have := congrArg List.length ha; simp at this; omega
    have c1 : ((pre.length : Int) ≤ (af.length : Int)) = True := tru (by omega)
    have et : PV.list (((affsP af).items.drop 0).take (pre.length - 0)) = affsP pre := by rw [ha]; simp [affsP, PV.items]
    refine Ev2.succ ?_
    simp only [impl_affixesOk.l0_eq, affs_len, affs_elem ha, at_lt ha, aff_f0, aff_f1, aff_f2, aff_f3, aff_f4, aff_agg, et, c1, strs_len, strs_elem, ints_len, ints_elem, items_list, fld_agg, elem_list, toStr_sc, toInt_sc, toBool_sc, headD_one, nat_int, get_bt, decide_eq_true_eq, decide_eq_false_iff_not, decide_true, decide_false, if_true, if_false, ite_self, Bool.not_true, Bool.not_false, Bool.false_eq_true, Bool.true_eq_false, Bool.true_and, Bool.false_and, Bool.and_true, Bool.and_false, not_true, not_false_iff, Option.bind_some, nn, toList_inj, Bool.not_eq_true', Bool.not_eq_false', Int.le_refl, and_self, true_and, and_true, false_and, and_false, bne_self_eq_false, beq_self_eq_true, Int.reduceEq, Nat.reduceEqDiff, List.length_singleton, List.tail_cons, Int.reduceLE, Int.reduceLT, decide_eq_true_eq]
    refine Ev2.bind (implAffixOk_ev a (hs a (by rw [ha]; simp))) ?_
    cases h0 : affB a with
    | false => simp only [affsL, h0, strs_len, strs_elem, ints_len, ints_elem, items_list, fld_agg, elem_list, toStr_sc, toInt_sc, toBool_sc, headD_one, nat_int, get_bt, decide_eq_true_eq, decide_eq_false_iff_not, decide_true, decide_false, if_true, if_false, ite_self, Bool.not_true, Bool.not_false, Bool.false_eq_true, Bool.true_eq_false, Bool.true_and, Bool.false_and, Bool.and_true, Bool.and_false, not_true, not_false_iff, Option.bind_some, nn, toList_inj, Bool.not_eq_true', Bool.not_eq_false', Int.le_refl, and_self, true_and, and_true, false_and, and_false, bne_self_eq_false, beq_self_eq_true, Int.reduceEq, Nat.reduceEqDiff, List.length_singleton, List.tail_cons, Int.reduceLE, Int.reduceLT, decide_eq_true_eq]; exact Ev2.now _
    | true =>
      simp only [affsL, h0, strs_len, strs_elem, ints_len, ints_elem, items_list, fld_agg, elem_list, toStr_sc, toInt_sc, toBool_sc, headD_one, nat_int, get_bt, decide_eq_true_eq, decide_eq_false_iff_not, decide_true, decide_false, if_true, if_false, ite_self, Bool.not_true, Bool.not_false, Bool.false_eq_true, Bool.true_eq_false, Bool.true_and, Bool.false_and, Bool.and_true, Bool.and_false, not_true, not_false_iff, Option.bind_some, nn, toList_inj, Bool.not_eq_true', Bool.not_eq_false', Int.le_refl, and_self, true_and, and_true, false_and, and_false, bne_self_eq_false, beq_self_eq_true, Int.reduceEq, Nat.reduceEqDiff, List.length_singleton, List.tail_cons, Int.reduceLE, Int.reduceLT, decide_eq_true_eq]
      refine Ev2.bind (affContains_ev (by omega) a) ?_
      cases h1 : hasA pre a with
      | true => simp only [strs_len, strs_elem, ints_len, ints_elem, items_list, fld_agg, elem_list, toStr_sc, toInt_sc, toBool_sc, headD_one, nat_int, get_bt, decide_eq_true_eq, decide_eq_false_iff_not, decide_true, decide_false, if_true, if_false, ite_self, Bool.not_true, Bool.not_false, Bool.false_eq_true, Bool.true_eq_false, Bool.true_and, Bool.false_and, Bool.and_true, Bool.and_false, not_true, not_false_iff, Option.bind_some, nn, toList_inj, Bool.not_eq_true', Bool.not_eq_false', Int.le_refl, and_self, true_and, and_true, false_and, and_false, bne_self_eq_false, beq_self_eq_true, Int.reduceEq, Nat.reduceEqDiff, List.length_singleton, List.tail_cons, Int.reduceLE, Int.reduceLT, decide_eq_true_eq]; exact Ev2.now _
      | false =>
        simp only [at_next ha (by omega), strs_len, strs_elem, ints_len, ints_elem, items_list, fld_agg, elem_list, toStr_sc, toInt_sc, toBool_sc, headD_one, nat_int, get_bt, decide_eq_true_eq, decide_eq_false_iff_not, decide_true, decide_false, if_true, if_false, ite_self, Bool.not_true, Bool.not_false, Bool.false_eq_true, Bool.true_eq_false, Bool.true_and, Bool.false_and, Bool.and_true, Bool.and_false, not_true, not_false_iff, Option.bind_some, nn, toList_inj, Bool.not_eq_true', Bool.not_eq_false', Int.le_refl, and_self, true_and, and_true, false_and, and_false, bne_self_eq_false, beq_self_eq_true, Int.reduceEq, Nat.reduceEqDiff, List.length_singleton, List.tail_cons, Int.reduceLE, Int.reduceLT, decide_eq_true_eq]
        exact ih _ (at_step ha)
theorem implAffs_ev (af : List Aff) (hal : af.length ≤ 1000000000) (hs : ∀ a ∈ af, AffS a) : Ev (fun N => impl_affixesOk.f N [affsP af]) [boolP (affsB af)] := by
  simp only [impl_affixesOk.f_eq, affs_len]
  exact (implAffs_loop hal hs af [] rfl).diag
theorem implEntry_loop (e : Ent) (hs : EntS e) : ∀ (rest pre : List Int) (p : Option Int), bytesOf e.flags = pre ++ rest → AheadJ pre p →
    Ev2 (fun N n => impl_entryOk.l0 N n (e.flags.size : Int) (pre.length : Int) e.stem e.flags) [boolP (upL p rest && (isWord e.stem && decide ((e.flags.size : Int) ≤ 4)))] := by
  have z1 := hs.stem; have z2 := hs.flags
  have hw := implWord_ev e.stem (by omega)
  simp only [strP] at hw
  intro rest
  induction rest with
  | nil =>
    intro pre p hp _
    refine Ev2.succ ?_
    simp only [impl_entryOk.l0_eq, at_sizeE hp, strs_len, strs_elem, ints_len, ints_elem, items_list, fld_agg, elem_list, toStr_sc, toInt_sc, toBool_sc, headD_one, nat_int, get_bt, decide_eq_true_eq, decide_eq_false_iff_not, decide_true, decide_false, if_true, if_false, ite_self, Bool.not_true, Bool.not_false, Bool.false_eq_true, Bool.true_eq_false, Bool.true_and, Bool.false_and, Bool.and_true, Bool.and_false, not_true, not_false_iff, Option.bind_some, nn, toList_inj, Bool.not_eq_true', Bool.not_eq_false', Int.le_refl, and_self, true_and, and_true, false_and, and_false, bne_self_eq_false, beq_self_eq_true, Int.reduceEq, Nat.reduceEqDiff, List.length_singleton, List.tail_cons, Int.reduceLE, Int.reduceLT, decide_eq_true_eq]
    refine Ev2.bind hw ?_
    cases h : isWord e.stem <;> cases p <;> simp only [upL, strs_len, strs_elem, ints_len, ints_elem, items_list, fld_agg, elem_list, toStr_sc, toInt_sc, toBool_sc, headD_one, nat_int, get_bt, decide_eq_true_eq, decide_eq_false_iff_not, decide_true, decide_false, if_true, if_false, ite_self, Bool.not_true, Bool.not_false, Bool.false_eq_true, Bool.true_eq_false, Bool.true_and, Bool.false_and, Bool.and_true, Bool.and_false, not_true, not_false_iff, Option.bind_some, nn, toList_inj, Bool.not_eq_true', Bool.not_eq_false', Int.le_refl, and_self, true_and, and_true, false_and, and_false, bne_self_eq_false, beq_self_eq_true, Int.reduceEq, Nat.reduceEqDiff, List.length_singleton, List.tail_cons, Int.reduceLE, Int.reduceLT, decide_eq_true_eq] <;> exact Ev2.now _
  | cons c rest ih =>
    intro pre p hp hA
    have hn := at_next hp (by rw [bytesOf_len]; omega)
    have hnext := ih (pre ++ [c]) (some c) (at_step hp) (.inr ⟨pre, c, rfl, rfl⟩)
    refine Ev2.succ ?_
    cases hu : (decide (65 ≤ c) && decide (c ≤ 90)) with
    | false =>
      have hv : upL p (c :: rest) = false := by cases p <;> simp only [upL, hu, Bool.false_and]
      simp only [impl_entryOk.l0_eq, at_size hp, at_bt hp, implUp_val, hu, hv, strs_len, strs_elem, ints_len, ints_elem, items_list, fld_agg, elem_list, toStr_sc, toInt_sc, toBool_sc, headD_one, nat_int, get_bt, decide_eq_true_eq, decide_eq_false_iff_not, decide_true, decide_false, if_true, if_false, ite_self, Bool.not_true, Bool.not_false, Bool.false_eq_true, Bool.true_eq_false, Bool.true_and, Bool.false_and, Bool.and_true, Bool.and_false, not_true, not_false_iff, Option.bind_some, nn, toList_inj, Bool.not_eq_true', Bool.not_eq_false', Int.le_refl, and_self, true_and, and_true, false_and, and_false, bne_self_eq_false, beq_self_eq_true, Int.reduceEq, Nat.reduceEqDiff, List.length_singleton, List.tail_cons, Int.reduceLE, Int.reduceLT, decide_eq_true_eq]
      exact Ev2.now _
    | true =>
      rcases hA with ⟨rfl, rfl⟩ | ⟨pre', q, rfl, rfl⟩
      · have c3 : ((0 : Int) < (([] : List Int).length : Int)) = False := fls (by simp)
        simp only [impl_entryOk.l0_eq, at_size hp, at_bt hp, hn, implUp_val, hu, c3, upL, strs_len, strs_elem, ints_len, ints_elem, items_list, fld_agg, elem_list, toStr_sc, toInt_sc, toBool_sc, headD_one, nat_int, get_bt, decide_eq_true_eq, decide_eq_false_iff_not, decide_true, decide_false, if_true, if_false, ite_self, Bool.not_true, Bool.not_false, Bool.false_eq_true, Bool.true_eq_false, Bool.true_and, Bool.false_and, Bool.and_true, Bool.and_false, not_true, not_false_iff, Option.bind_some, nn, toList_inj, Bool.not_eq_true', Bool.not_eq_false', Int.le_refl, and_self, true_and, and_true, false_and, and_false, bne_self_eq_false, beq_self_eq_true, Int.reduceEq, Nat.reduceEqDiff, List.length_singleton, List.tail_cons, Int.reduceLE, Int.reduceLT, decide_eq_true_eq]
        exact hnext
      · obtain ⟨h1, h2, h3, h4⟩ := prev_bytes hp z2
        by_cases hq : q < c
        · have c5 : (c ≤ q) = False := fls (by omega)
          simp only [impl_entryOk.l0_eq, at_size hp, at_bt hp, hn, implUp_val, hu, h1, h2, h3, h4, hq, c5, upL, strs_len, strs_elem, ints_len, ints_elem, items_list, fld_agg, elem_list, toStr_sc, toInt_sc, toBool_sc, headD_one, nat_int, get_bt, decide_eq_true_eq, decide_eq_false_iff_not, decide_true, decide_false, if_true, if_false, ite_self, Bool.not_true, Bool.not_false, Bool.false_eq_true, Bool.true_eq_false, Bool.true_and, Bool.false_and, Bool.and_true, Bool.and_false, not_true, not_false_iff, Option.bind_some, nn, toList_inj, Bool.not_eq_true', Bool.not_eq_false', Int.le_refl, and_self, true_and, and_true, false_and, and_false, bne_self_eq_false, beq_self_eq_true, Int.reduceEq, Nat.reduceEqDiff, List.length_singleton, List.tail_cons, Int.reduceLE, Int.reduceLT, decide_eq_true_eq]
          exact hnext
        · have c5 : (c ≤ q) = True := tru (by omega)
          simp only [impl_entryOk.l0_eq, at_size hp, at_bt hp, hn, implUp_val, hu, h1, h2, h3, h4, hq, c5, upL, strs_len, strs_elem, ints_len, ints_elem, items_list, fld_agg, elem_list, toStr_sc, toInt_sc, toBool_sc, headD_one, nat_int, get_bt, decide_eq_true_eq, decide_eq_false_iff_not, decide_true, decide_false, if_true, if_false, ite_self, Bool.not_true, Bool.not_false, Bool.false_eq_true, Bool.true_eq_false, Bool.true_and, Bool.false_and, Bool.and_true, Bool.and_false, not_true, not_false_iff, Option.bind_some, nn, toList_inj, Bool.not_eq_true', Bool.not_eq_false', Int.le_refl, and_self, true_and, and_true, false_and, and_false, bne_self_eq_false, beq_self_eq_true, Int.reduceEq, Nat.reduceEqDiff, List.length_singleton, List.tail_cons, Int.reduceLE, Int.reduceLT, decide_eq_true_eq]
          exact Ev2.now _
theorem implEntry_ev (e : Ent) (hs : EntS e) : Ev (fun N => impl_entryOk.f N [entP e]) [boolP (entB e)] := by
  simp only [impl_entryOk.f_eq, ent_f0, ent_f1, strs_len, strs_elem, ints_len, ints_elem, items_list, fld_agg, elem_list, toStr_sc, toInt_sc, toBool_sc, headD_one, nat_int, get_bt, decide_eq_true_eq, decide_eq_false_iff_not, decide_true, decide_false, if_true, if_false, ite_self, Bool.not_true, Bool.not_false, Bool.false_eq_true, Bool.true_eq_false, Bool.true_and, Bool.false_and, Bool.and_true, Bool.and_false, not_true, not_false_iff, Option.bind_some, nn, toList_inj, Bool.not_eq_true', Bool.not_eq_false', Int.le_refl, and_self, true_and, and_true, false_and, and_false, bne_self_eq_false, beq_self_eq_true, Int.reduceEq, Nat.reduceEqDiff, List.length_singleton, List.tail_cons, Int.reduceLE, Int.reduceLT, decide_eq_true_eq]
  exact (implEntry_loop e hs (bytesOf e.flags) [] none rfl (.inl ⟨rfl, rfl⟩)).diag
theorem implEnts_loop {es : List Ent} (hel : es.length ≤ 1000000000) (hs : ∀ e ∈ es, EntS e) : ∀ (rest pre : List Ent) (p : Option ByteArray), es = pre ++ rest → AheadE pre p →
    Ev2 (fun N n => impl_entriesOk.l0 N n (entsP es) (entsP es) (es.length : Int) (pre.length : Int)) [boolP (entsL p rest && decide ((es.length : Int) ≤ 24))] := by
  intro rest
  induction rest with
  | nil =>
    intro pre p hp _
    refine Ev2.succ ?_
    simp only [impl_entriesOk.l0_eq, ents_len, at_end hp, strs_len, strs_elem, ints_len, ints_elem, items_list, fld_agg, elem_list, toStr_sc, toInt_sc, toBool_sc, headD_one, nat_int, get_bt, decide_eq_true_eq, decide_eq_false_iff_not, decide_true, decide_false, if_true, if_false, ite_self, Bool.not_true, Bool.not_false, Bool.false_eq_true, Bool.true_eq_false, Bool.true_and, Bool.false_and, Bool.and_true, Bool.and_false, not_true, not_false_iff, Option.bind_some, nn, toList_inj, Bool.not_eq_true', Bool.not_eq_false', Int.le_refl, and_self, true_and, and_true, false_and, and_false, bne_self_eq_false, beq_self_eq_true, Int.reduceEq, Nat.reduceEqDiff, List.length_singleton, List.tail_cons, Int.reduceLE, Int.reduceLT, decide_eq_true_eq]
    cases p <;> simp only [entsL, strs_len, strs_elem, ints_len, ints_elem, items_list, fld_agg, elem_list, toStr_sc, toInt_sc, toBool_sc, headD_one, nat_int, get_bt, decide_eq_true_eq, decide_eq_false_iff_not, decide_true, decide_false, if_true, if_false, ite_self, Bool.not_true, Bool.not_false, Bool.false_eq_true, Bool.true_eq_false, Bool.true_and, Bool.false_and, Bool.and_true, Bool.and_false, not_true, not_false_iff, Option.bind_some, nn, toList_inj, Bool.not_eq_true', Bool.not_eq_false', Int.le_refl, and_self, true_and, and_true, false_and, and_false, bne_self_eq_false, beq_self_eq_true, Int.reduceEq, Nat.reduceEqDiff, List.length_singleton, List.tail_cons, Int.reduceLE, Int.reduceLT, decide_eq_true_eq] <;> exact Ev2.now _
  | cons e rest ih =>
    intro pre p hp hA
    have hnext := ih (pre ++ [e]) (some e.stem) (at_step hp) (.inr ⟨pre, e, rfl, rfl⟩)
    refine Ev2.succ ?_
    simp only [impl_entriesOk.l0_eq, ents_len, ents_elem hp, at_lt hp, ent_f0, ent_f1, ent_agg, strs_len, strs_elem, ints_len, ints_elem, items_list, fld_agg, elem_list, toStr_sc, toInt_sc, toBool_sc, headD_one, nat_int, get_bt, decide_eq_true_eq, decide_eq_false_iff_not, decide_true, decide_false, if_true, if_false, ite_self, Bool.not_true, Bool.not_false, Bool.false_eq_true, Bool.true_eq_false, Bool.true_and, Bool.false_and, Bool.and_true, Bool.and_false, not_true, not_false_iff, Option.bind_some, nn, toList_inj, Bool.not_eq_true', Bool.not_eq_false', Int.le_refl, and_self, true_and, and_true, false_and, and_false, bne_self_eq_false, beq_self_eq_true, Int.reduceEq, Nat.reduceEqDiff, List.length_singleton, List.tail_cons, Int.reduceLE, Int.reduceLT, decide_eq_true_eq]
    refine Ev2.bind (implEntry_ev e (hs e (by rw [hp]; simp))) ?_
    cases hu : entB e with
    | false =>
      have hv : entsL p (e :: rest) = false := by cases p <;> simp only [entsL, hu, Bool.false_and]
      simp only [hv, strs_len, strs_elem, ints_len, ints_elem, items_list, fld_agg, elem_list, toStr_sc, toInt_sc, toBool_sc, headD_one, nat_int, get_bt, decide_eq_true_eq, decide_eq_false_iff_not, decide_true, decide_false, if_true, if_false, ite_self, Bool.not_true, Bool.not_false, Bool.false_eq_true, Bool.true_eq_false, Bool.true_and, Bool.false_and, Bool.and_true, Bool.and_false, not_true, not_false_iff, Option.bind_some, nn, toList_inj, Bool.not_eq_true', Bool.not_eq_false', Int.le_refl, and_self, true_and, and_true, false_and, and_false, bne_self_eq_false, beq_self_eq_true, Int.reduceEq, Nat.reduceEqDiff, List.length_singleton, List.tail_cons, Int.reduceLE, Int.reduceLT, decide_eq_true_eq]
      exact Ev2.now _
    | true =>
      rcases hA with ⟨rfl, rfl⟩ | ⟨pre', q, rfl, rfl⟩
      · have c3 : ((0 : Int) < (([] : List Ent).length : Int)) = False := fls (by simp)
        simp only [c3, at_next hp (by omega), entsL, hu, strs_len, strs_elem, ints_len, ints_elem, items_list, fld_agg, elem_list, toStr_sc, toInt_sc, toBool_sc, headD_one, nat_int, get_bt, decide_eq_true_eq, decide_eq_false_iff_not, decide_true, decide_false, if_true, if_false, ite_self, Bool.not_true, Bool.not_false, Bool.false_eq_true, Bool.true_eq_false, Bool.true_and, Bool.false_and, Bool.and_true, Bool.and_false, not_true, not_false_iff, Option.bind_some, nn, toList_inj, Bool.not_eq_true', Bool.not_eq_false', Int.le_refl, and_self, true_and, and_true, false_and, and_false, bne_self_eq_false, beq_self_eq_true, Int.reduceEq, Nat.reduceEqDiff, List.length_singleton, List.tail_cons, Int.reduceLE, Int.reduceLT, decide_eq_true_eq]
        exact hnext
      · obtain ⟨h1, h2, h3, h4⟩ := prev_ents hp hel
        cases hq : bLess q.stem e.stem with
        | true =>
          simp only [h1, h2, h3, h4, ent_f0, bLess_eq, hq, at_next hp (by omega), entsL, hu, strs_len, strs_elem, ints_len, ints_elem, items_list, fld_agg, elem_list, toStr_sc, toInt_sc, toBool_sc, headD_one, nat_int, get_bt, decide_eq_true_eq, decide_eq_false_iff_not, decide_true, decide_false, if_true, if_false, ite_self, Bool.not_true, Bool.not_false, Bool.false_eq_true, Bool.true_eq_false, Bool.true_and, Bool.false_and, Bool.and_true, Bool.and_false, not_true, not_false_iff, Option.bind_some, nn, toList_inj, Bool.not_eq_true', Bool.not_eq_false', Int.le_refl, and_self, true_and, and_true, false_and, and_false, bne_self_eq_false, beq_self_eq_true, Int.reduceEq, Nat.reduceEqDiff, List.length_singleton, List.tail_cons, Int.reduceLE, Int.reduceLT, decide_eq_true_eq]
          exact hnext
        | false =>
          simp only [h1, h2, h3, h4, ent_f0, bLess_eq, hq, entsL, hu, strs_len, strs_elem, ints_len, ints_elem, items_list, fld_agg, elem_list, toStr_sc, toInt_sc, toBool_sc, headD_one, nat_int, get_bt, decide_eq_true_eq, decide_eq_false_iff_not, decide_true, decide_false, if_true, if_false, ite_self, Bool.not_true, Bool.not_false, Bool.false_eq_true, Bool.true_eq_false, Bool.true_and, Bool.false_and, Bool.and_true, Bool.and_false, not_true, not_false_iff, Option.bind_some, nn, toList_inj, Bool.not_eq_true', Bool.not_eq_false', Int.le_refl, and_self, true_and, and_true, false_and, and_false, bne_self_eq_false, beq_self_eq_true, Int.reduceEq, Nat.reduceEqDiff, List.length_singleton, List.tail_cons, Int.reduceLE, Int.reduceLT, decide_eq_true_eq]
          exact Ev2.now _
theorem implBookOk_ev {af : List Aff} {es : List Ent} (hs : BookS af es) : Ev (fun N => impl_BookOk.f N [bookP af es]) [boolP (bookB af es)] := by
  have h1 := implAffs_ev af hs.al hs.a
  have h2 := (implEnts_loop hs.el hs.e es [] none rfl (.inl ⟨rfl, rfl⟩)).diag
  simp only [impl_BookOk.f_eq, book_f0, book_f1]
  refine Ev.bind h1 ?_
  cases h : affsB af with
  | false =>
    simp only [bookB, h, strs_len, strs_elem, ints_len, ints_elem, items_list, fld_agg, elem_list, toStr_sc, toInt_sc, toBool_sc, headD_one, nat_int, get_bt, decide_eq_true_eq, decide_eq_false_iff_not, decide_true, decide_false, if_true, if_false, ite_self, Bool.not_true, Bool.not_false, Bool.false_eq_true, Bool.true_eq_false, Bool.true_and, Bool.false_and, Bool.and_true, Bool.and_false, not_true, not_false_iff, Option.bind_some, nn, toList_inj, Bool.not_eq_true', Bool.not_eq_false', Int.le_refl, and_self, true_and, and_true, false_and, and_false, bne_self_eq_false, beq_self_eq_true, Int.reduceEq, Nat.reduceEqDiff, List.length_singleton, List.tail_cons, Int.reduceLE, Int.reduceLT, decide_eq_true_eq]
    exact Ev.now _
  | true =>
    simp only [impl_entriesOk.f_eq, ents_len, bookB, h, strs_len, strs_elem, ints_len, ints_elem, items_list, fld_agg, elem_list, toStr_sc, toInt_sc, toBool_sc, headD_one, nat_int, get_bt, decide_eq_true_eq, decide_eq_false_iff_not, decide_true, decide_false, if_true, if_false, ite_self, Bool.not_true, Bool.not_false, Bool.false_eq_true, Bool.true_eq_false, Bool.true_and, Bool.false_and, Bool.and_true, Bool.and_false, not_true, not_false_iff, Option.bind_some, nn, toList_inj, Bool.not_eq_true', Bool.not_eq_false', Int.le_refl, and_self, true_and, and_true, false_and, and_false, bne_self_eq_false, beq_self_eq_true, Int.reduceEq, Nat.reduceEqDiff, List.length_singleton, List.tail_cons, Int.reduceLE, Int.reduceLT, decide_eq_true_eq]
    refine Ev.bind h2 ?_
    simp only [strs_len, strs_elem, ints_len, ints_elem, items_list, fld_agg, elem_list, toStr_sc, toInt_sc, toBool_sc, headD_one, nat_int, get_bt, decide_eq_true_eq, decide_eq_false_iff_not, decide_true, decide_false, if_true, if_false, ite_self, Bool.not_true, Bool.not_false, Bool.false_eq_true, Bool.true_eq_false, Bool.true_and, Bool.false_and, Bool.and_true, Bool.and_false, not_true, not_false_iff, Option.bind_some, nn, toList_inj, Bool.not_eq_true', Bool.not_eq_false', Int.le_refl, and_self, true_and, and_true, false_and, and_false, bne_self_eq_false, beq_self_eq_true, Int.reduceEq, Nat.reduceEqDiff, List.length_singleton, List.tail_cons, Int.reduceLE, Int.reduceLT, decide_eq_true_eq]
    exact Ev.now _
/-! #### UserAdd -/
theorem sort_val (l : List ByteArray) (h2 : l.length ≤ 1000000000) (N : Nat) : slices_Sort_string_string.f N [strsP l] = some [strsP (sortM l)] := by
  show sortDen [strsP l] = _
  simp only [strsP, sortDen, List.length_map, toStr_strs]
  rw [if_pos (by omega)]
theorem compact_val (l : List ByteArray) (h2 : l.length ≤ 1000000000) (N : Nat) : slices_Compact_string_string.f N [strsP l] = some [strsP (compactM l)] := by
  show compactDen [strsP l] = _
  simp only [strsP, compactDen, List.length_map]
  rw [toStr_strs, if_pos (by omega)]
theorem sorted_val (l : List ByteArray) (h2 : l.length ≤ 1000000000) (N : Nat) : impl_sorted.f N [strsP l] = some [strsP (compactM (sortM l))] := by
  have c1 : l.length ≤ 8796093022208 := by omega
  have hl := compactM_len (sortM l)
  rw [sortM_len] at hl
  have c2 : (compactM (sortM l)).length ≤ 8796093022208 := by omega
  have hc := compact_val (sortM l) (by rw [sortM_len]; exact h2)
  simp only [impl_sorted.f_eq, strs_len, strs_full, List.length_nil, Nat.zero_add, c1, c2, sort_val l h2, hc, headD_one, Option.bind_some, if_true]
/-! #### the words of a book: the program -/
theorem has01 (c : UInt8) : ∀ l : List UInt8, decide (0 ≤ Lib.indexByte l c) = l.contains c
  | [] => rfl
  | b :: l => by
    have ih := has01 c l
    have hg := Lib.indexByte_ge l c
    rw [Lib.indexByte, List.contains_cons]
    by_cases hb : b = c
    · subst hb; simp
    · have h1 : (b == c) = false := by simp [hb]
      have h2 : (c == b) = false := by simp [Ne.symm hb]
      rw [h1, h2, Bool.false_or, ← ih]
      by_cases h3 : Lib.indexByte l c = -1
      · simp [h3]
      · have h4 : (Lib.indexByte l c == -1) = false := by simp [h3]
        simp only [h4, Bool.false_eq_true, if_false]
        exact decide_eq_decide.2 (by omega)
theorem ext_one (s : ByteArray) {i : Nat} (h : i < s.size) : s.extract i (i + 1) = ⟨#[s.data.toList[i]'(by rw [Array.length_toList]; exact h)]⟩ := by
  have hi : ∀ a b : ByteArray, a.data.toList = b.data.toList → a = b := fun a b h => by cases a; cases b; simp at h; simp [h]
  apply hi
  have hl : i < s.data.toList.length := by rw [Array.length_toList]; exact h
  rw [ByteArray.data_extract]
  simp only [Array.toList_extract, List.extract]
  rw [List.drop_eq_getElem_cons hl]
  simp
theorem hasFrom_contains (s : ByteArray) (b : UInt8) : ∀ d i : Nat, i + d = s.size → hasFrom s ⟨#[b]⟩ d i = (s.data.toList.drop i).contains b
  | 0, i, h => by
    rw [List.drop_of_length_le (by rw [Array.length_toList]; show s.size ≤ i; omega)]; rfl
  | d + 1, i, h => by
    have hl : i < s.data.toList.length := by rw [Array.length_toList]; show i < s.size; omega
    rw [hasFrom, ext_one s (by omega), List.drop_eq_getElem_cons hl, List.contains_cons, hasFrom_contains s b d (i + 1) (by omega)]
    congr 1
    by_cases he : s.data.toList[i] = b
    · simp [he]
    · have : ¬ (ByteArray.mk #[s.data.toList[i]] = ⟨#[b]⟩) := fun h => he (by injection h with h; injection h with h; injection h)
      have h2 : (b == s.data.toList[i]) = false := beq_false_of_ne (fun h => he h.symm)
      rw [h2]
      exact decide_eq_false this
theorem contains_flag (s p : ByteArray) (hp : p.size = 1) (N : Nat) : strings_Contains.f N [PV.sc (.string s), PV.sc (.string p)] = some [boolP (hasB s p)] := by
  have hi : strings_Index.f N [PV.sc (.string s), PV.sc (.string p)] = some [intP (Lib.indexByte s.data.toList (p.get! 0))] := by
    show indexDen [strP s, strP p] = _
    have : (if p.size = 1 then some [intP (Lib.indexByte s.data.toList (p.get! 0))] else none) = some [intP (Lib.indexByte s.data.toList (p.get! 0))] := if_pos hp
    exact this
  have e : hasB s p = decide (0 ≤ Lib.indexByte s.data.toList (p.get! 0)) := by
    rw [has01]
    unfold hasB
    conv => lhs; rw [one_bytes p hp]
    rw [hasFrom_contains s _ s.size 0 (by omega), List.drop_zero]
  rw [e]
  simp only [strings_Contains.f_eq, hi, strs_len, strs_elem, ints_len, ints_elem, items_list, fld_agg, elem_list, toStr_sc, toInt_sc, toBool_sc, headD_one, nat_int, get_bt, decide_eq_true_eq, decide_eq_false_iff_not, decide_true, decide_false, if_true, if_false, ite_self, Bool.not_true, Bool.not_false, Bool.false_eq_true, Bool.true_eq_false, Bool.true_and, Bool.false_and, Bool.and_true, Bool.and_false, not_true, not_false_iff, Option.bind_some, nn, toList_inj, Bool.not_eq_true', Bool.not_eq_false', Int.le_refl, and_self, true_and, and_true, false_and, and_false, bne_self_eq_false, beq_self_eq_true, Int.reduceEq, Nat.reduceEqDiff, List.length_singleton, List.tail_cons, Int.reduceLE, Int.reduceLT, decide_eq_true_eq]
  rfl
def doI (a : Aff) (s : ByteArray) : List PV := match doB a s with
  | some x => [strP x, boolP true]
  | none => [strP ⟨#[]⟩, boolP false]
theorem implDo_ev {a : Aff} (ha : affB a = true) {s : ByteArray} (hw : isWord s = true) : Ev (fun N => impl_AffixDo.f N [affP a, strP s]) (doI a s) := by
  obtain ⟨⟨g1, g2⟩, g3, g4, g5, g6⟩ := affB_facts ha
  have hs := word_size hw
  have hok := implAffixOk_ev a ⟨by omega, by omega, by omega, by omega⟩
  have hwo := implWord_ev s (by omega)
  have hE := hasSuf_val s a.cond (by omega)
  have hB := hasPre_val s a.cond
  rw [ha] at hok
  rw [hw] at hwo
  simp only [strP] at hwo
  have nil0 : PV.sc (.string (ByteArray.mk #[])) = strP ⟨#[]⟩ := rfl
  unfold doI doB
  simp only [impl_AffixDo.f_eq, aff_f0, aff_f1, aff_f2, aff_f3, aff_f4, aff_agg, strs_len, strs_elem, ints_len, ints_elem, items_list, fld_agg, elem_list, toStr_sc, toInt_sc, toBool_sc, headD_one, nat_int, get_bt, decide_eq_true_eq, decide_eq_false_iff_not, decide_true, decide_false, if_true, if_false, ite_self, Bool.not_true, Bool.not_false, Bool.false_eq_true, Bool.true_eq_false, Bool.true_and, Bool.false_and, Bool.and_true, Bool.and_false, not_true, not_false_iff, Option.bind_some, nn, toList_inj, Bool.not_eq_true', Bool.not_eq_false', Int.le_refl, and_self, true_and, and_true, false_and, and_false, bne_self_eq_false, beq_self_eq_true, Int.reduceEq, Nat.reduceEqDiff, List.length_singleton, List.tail_cons, Int.reduceLE, Int.reduceLT, decide_eq_true_eq]
  refine Ev.bind hok ?_
  simp only [strs_len, strs_elem, ints_len, ints_elem, items_list, fld_agg, elem_list, toStr_sc, toInt_sc, toBool_sc, headD_one, nat_int, get_bt, decide_eq_true_eq, decide_eq_false_iff_not, decide_true, decide_false, if_true, if_false, ite_self, Bool.not_true, Bool.not_false, Bool.false_eq_true, Bool.true_eq_false, Bool.true_and, Bool.false_and, Bool.and_true, Bool.and_false, not_true, not_false_iff, Option.bind_some, nn, toList_inj, Bool.not_eq_true', Bool.not_eq_false', Int.le_refl, and_self, true_and, and_true, false_and, and_false, bne_self_eq_false, beq_self_eq_true, Int.reduceEq, Nat.reduceEqDiff, List.length_singleton, List.tail_cons, Int.reduceLE, Int.reduceLT, decide_eq_true_eq]
  refine Ev.bind hwo ?_
  rcases Bool.eq_false_or_eq_true a.front with hf | hf
  · have e1 : fitB a s = begB s a.cond := by simp [fitB, hf]
    have e2 : formB a s = a.add ++ s.extract a.strip.size s.size := by simp [formB, hf]
    rw [e1, e2]
    cases hb : begB s a.cond with
    | false => simp only [hf, hB, hb, strs_len, strs_elem, ints_len, ints_elem, items_list, fld_agg, elem_list, toStr_sc, toInt_sc, toBool_sc, headD_one, nat_int, get_bt, decide_eq_true_eq, decide_eq_false_iff_not, decide_true, decide_false, if_true, if_false, ite_self, Bool.not_true, Bool.not_false, Bool.false_eq_true, Bool.true_eq_false, Bool.true_and, Bool.false_and, Bool.and_true, Bool.and_false, not_true, not_false_iff, Option.bind_some, nn, toList_inj, Bool.not_eq_true', Bool.not_eq_false', Int.le_refl, and_self, true_and, and_true, false_and, and_false, bne_self_eq_false, beq_self_eq_true, Int.reduceEq, Nat.reduceEqDiff, List.length_singleton, List.tail_cons, Int.reduceLE, Int.reduceLT, decide_eq_true_eq]; exact Ev.now _
    | true =>
      have hz : a.cond.size ≤ s.size := by
        simp only [begB, Bool.and_eq_true, decide_eq_true_eq] at hb; exact hb.1
      have c1 : ((a.strip.size : Int) ≤ (s.size : Int)) = True := tru (by omega)
      have c2 : (a.add.size + (s.extract a.strip.size s.size).size ≤ 9223372036854775807) = True := tru (by rw [ByteArray.size_extract]; omega)
      have hw2 := implWord_ev (a.add ++ s.extract a.strip.size s.size) (by rw [ByteArray.size_append, ByteArray.size_extract]; omega)
      simp only [strP] at hw2
      simp only [hf, hB, hb, c1, c2, nn, strs_len, strs_elem, ints_len, ints_elem, items_list, fld_agg, elem_list, toStr_sc, toInt_sc, toBool_sc, headD_one, nat_int, get_bt, decide_eq_true_eq, decide_eq_false_iff_not, decide_true, decide_false, if_true, if_false, ite_self, Bool.not_true, Bool.not_false, Bool.false_eq_true, Bool.true_eq_false, Bool.true_and, Bool.false_and, Bool.and_true, Bool.and_false, not_true, not_false_iff, Option.bind_some, nn, toList_inj, Bool.not_eq_true', Bool.not_eq_false', Int.le_refl, and_self, true_and, and_true, false_and, and_false, bne_self_eq_false, beq_self_eq_true, Int.reduceEq, Nat.reduceEqDiff, List.length_singleton, List.tail_cons, Int.reduceLE, Int.reduceLT, decide_eq_true_eq]
      refine Ev.bind hw2 ?_
      cases hi : isWord (a.add ++ s.extract a.strip.size s.size) with
      | false => simp only [strs_len, strs_elem, ints_len, ints_elem, items_list, fld_agg, elem_list, toStr_sc, toInt_sc, toBool_sc, headD_one, nat_int, get_bt, decide_eq_true_eq, decide_eq_false_iff_not, decide_true, decide_false, if_true, if_false, ite_self, Bool.not_true, Bool.not_false, Bool.false_eq_true, Bool.true_eq_false, Bool.true_and, Bool.false_and, Bool.and_true, Bool.and_false, not_true, not_false_iff, Option.bind_some, nn, toList_inj, Bool.not_eq_true', Bool.not_eq_false', Int.le_refl, and_self, true_and, and_true, false_and, and_false, bne_self_eq_false, beq_self_eq_true, Int.reduceEq, Nat.reduceEqDiff, List.length_singleton, List.tail_cons, Int.reduceLE, Int.reduceLT, decide_eq_true_eq]; exact Ev.now _
      | true => simp only [strs_len, strs_elem, ints_len, ints_elem, items_list, fld_agg, elem_list, toStr_sc, toInt_sc, toBool_sc, headD_one, nat_int, get_bt, decide_eq_true_eq, decide_eq_false_iff_not, decide_true, decide_false, if_true, if_false, ite_self, Bool.not_true, Bool.not_false, Bool.false_eq_true, Bool.true_eq_false, Bool.true_and, Bool.false_and, Bool.and_true, Bool.and_false, not_true, not_false_iff, Option.bind_some, nn, toList_inj, Bool.not_eq_true', Bool.not_eq_false', Int.le_refl, and_self, true_and, and_true, false_and, and_false, bne_self_eq_false, beq_self_eq_true, Int.reduceEq, Nat.reduceEqDiff, List.length_singleton, List.tail_cons, Int.reduceLE, Int.reduceLT, decide_eq_true_eq]; exact Ev.now _
  · have e1 : fitB a s = endB s a.cond := by simp [fitB, hf]
    have e2 : formB a s = s.extract 0 (s.size - a.strip.size) ++ a.add := by simp [formB, hf]
    rw [e1, e2]
    cases hb : endB s a.cond with
    | false => simp only [hf, hE, hb, strs_len, strs_elem, ints_len, ints_elem, items_list, fld_agg, elem_list, toStr_sc, toInt_sc, toBool_sc, headD_one, nat_int, get_bt, decide_eq_true_eq, decide_eq_false_iff_not, decide_true, decide_false, if_true, if_false, ite_self, Bool.not_true, Bool.not_false, Bool.false_eq_true, Bool.true_eq_false, Bool.true_and, Bool.false_and, Bool.and_true, Bool.and_false, not_true, not_false_iff, Option.bind_some, nn, toList_inj, Bool.not_eq_true', Bool.not_eq_false', Int.le_refl, and_self, true_and, and_true, false_and, and_false, bne_self_eq_false, beq_self_eq_true, Int.reduceEq, Nat.reduceEqDiff, List.length_singleton, List.tail_cons, Int.reduceLE, Int.reduceLT, decide_eq_true_eq]; exact Ev.now _
    | true =>
      have hz : a.cond.size ≤ s.size := by
        simp only [endB, Bool.and_eq_true, decide_eq_true_eq] at hb; exact hb.1
      have w1 : IntKind.i64.wrap ((s.size : Int) - (a.strip.size : Int)) = ((s.size - a.strip.size : Nat) : Int) := nat_wrap (by omega) (by omega)
      have c1 : (((s.size - a.strip.size : Nat) : Int) ≤ (s.size : Int)) = True := tru (by omega)
      have c2 : ((s.extract 0 (s.size - a.strip.size)).size + a.add.size ≤ 9223372036854775807) = True := tru (by rw [ByteArray.size_extract]; omega)
      have hw2 := implWord_ev (s.extract 0 (s.size - a.strip.size) ++ a.add) (by rw [ByteArray.size_append, ByteArray.size_extract]; omega)
      simp only [strP] at hw2
      simp only [hf, hE, hb, w1, c1, c2, nn, strs_len, strs_elem, ints_len, ints_elem, items_list, fld_agg, elem_list, toStr_sc, toInt_sc, toBool_sc, headD_one, nat_int, get_bt, decide_eq_true_eq, decide_eq_false_iff_not, decide_true, decide_false, if_true, if_false, ite_self, Bool.not_true, Bool.not_false, Bool.false_eq_true, Bool.true_eq_false, Bool.true_and, Bool.false_and, Bool.and_true, Bool.and_false, not_true, not_false_iff, Option.bind_some, nn, toList_inj, Bool.not_eq_true', Bool.not_eq_false', Int.le_refl, and_self, true_and, and_true, false_and, and_false, bne_self_eq_false, beq_self_eq_true, Int.reduceEq, Nat.reduceEqDiff, List.length_singleton, List.tail_cons, Int.reduceLE, Int.reduceLT, decide_eq_true_eq]
      refine Ev.bind hw2 ?_
      cases hi : isWord (s.extract 0 (s.size - a.strip.size) ++ a.add) with
      | false => simp only [strs_len, strs_elem, ints_len, ints_elem, items_list, fld_agg, elem_list, toStr_sc, toInt_sc, toBool_sc, headD_one, nat_int, get_bt, decide_eq_true_eq, decide_eq_false_iff_not, decide_true, decide_false, if_true, if_false, ite_self, Bool.not_true, Bool.not_false, Bool.false_eq_true, Bool.true_eq_false, Bool.true_and, Bool.false_and, Bool.and_true, Bool.and_false, not_true, not_false_iff, Option.bind_some, nn, toList_inj, Bool.not_eq_true', Bool.not_eq_false', Int.le_refl, and_self, true_and, and_true, false_and, and_false, bne_self_eq_false, beq_self_eq_true, Int.reduceEq, Nat.reduceEqDiff, List.length_singleton, List.tail_cons, Int.reduceLE, Int.reduceLT, decide_eq_true_eq]; exact Ev.now _
      | true => simp only [strs_len, strs_elem, ints_len, ints_elem, items_list, fld_agg, elem_list, toStr_sc, toInt_sc, toBool_sc, headD_one, nat_int, get_bt, decide_eq_true_eq, decide_eq_false_iff_not, decide_true, decide_false, if_true, if_false, ite_self, Bool.not_true, Bool.not_false, Bool.false_eq_true, Bool.true_eq_false, Bool.true_and, Bool.false_and, Bool.and_true, Bool.and_false, not_true, not_false_iff, Option.bind_some, nn, toList_inj, Bool.not_eq_true', Bool.not_eq_false', Int.le_refl, and_self, true_and, and_true, false_and, and_false, bne_self_eq_false, beq_self_eq_true, Int.reduceEq, Nat.reduceEqDiff, List.length_singleton, List.tail_cons, Int.reduceLE, Int.reduceLT, decide_eq_true_eq]; exact Ev.now _
def addO (o : Option ByteArray) (out : List ByteArray) : List ByteArray := match o with
  | some x => out ++ [x]
  | none => out
def goB (flags stem : ByteArray) (front : Bool) (w : ByteArray) (a : Aff) : Bool := decide (a.front = front) && (hasB flags a.flag && (front || decide (w = stem)))
def addL (flags stem : ByteArray) (front : Bool) (w : ByteArray) : List Aff → List ByteArray → List ByteArray
  | [], out => out
  | a :: r, out => addL flags stem front w r (if goB flags stem front w a = true then addO (doB a w) out else out)
def addW (af : List Aff) (flags stem : ByteArray) (front : Bool) : List ByteArray → List ByteArray → List ByteArray
  | [], out => out
  | w :: r, out => addW af flags stem front r (addL flags stem front w af out)
theorem addO_len (o : Option ByteArray) (out : List ByteArray) : (addO o out).length ≤ out.length + 1 := by cases o <;> simp [addO]
theorem addL_len (flags stem : ByteArray) (front : Bool) (w : ByteArray) : ∀ (af : List Aff) (out : List ByteArray), (addL flags stem front w af out).length ≤ out.length + af.length
  | [], out => by simp [addL]
  | a :: r, out => by
    rw [addL, List.length_cons]
    split
    · have h1 := addL_len flags stem front w r (addO (doB a w) out); have h2 := addO_len (doB a w) out; omega
    · have h1 := addL_len flags stem front w r out; omega
theorem addW_len (af : List Aff) (flags stem : ByteArray) (front : Bool) : ∀ (ws out : List ByteArray), (addW af flags stem front ws out).length ≤ out.length + ws.length * af.length
  | [], out => by simp [addW]
  | w :: r, out => by
    have h1 := addW_len af flags stem front r (addL flags stem front w af out)
    have h2 := addL_len flags stem front w af out
    rw [addW, List.length_cons, Nat.add_mul, Nat.one_mul]; omega
theorem addL_mem (flags stem : ByteArray) (front : Bool) (w : ByteArray) : ∀ (af : List Aff) (out : List ByteArray) (x : ByteArray), x ∈ addL flags stem front w af out ↔ x ∈ out ∨ ∃ a ∈ af, goB flags stem front w a = true ∧ doB a w = some x
  | [], out, x => by simp [addL]
  | a :: r, out, x => by
    have ho : x ∈ addO (doB a w) out ↔ x ∈ out ∨ doB a w = some x := by
      cases hd : doB a w with
      | none => simp [addO]
      | some y => simp [addO, eq_comm]
    rw [addL, addL_mem flags stem front w r]
    split
    · rename_i hc
      rw [ho]
      constructor
      · rintro ((h | h) | ⟨b, hb, h⟩)
        · exact .inl h
        · exact .inr ⟨a, by simp, hc, h⟩
        · exact .inr ⟨b, by simp [hb], h⟩
      · rintro (h | ⟨b, hb, h1, h2⟩)
        · exact .inl (.inl h)
        · rcases List.mem_cons.1 hb with rfl | hb
          · exact .inl (.inr h2)
          · exact .inr ⟨b, hb, h1, h2⟩
    · rename_i hc
      constructor
      · rintro (h | ⟨b, hb, h⟩)
        · exact .inl h
        · exact .inr ⟨b, by simp [hb], h⟩
      · rintro (h | ⟨b, hb, h1, h2⟩)
        · exact .inl h
        · rcases List.mem_cons.1 hb with rfl | hb
          · exact absurd h1 hc
          · exact .inr ⟨b, hb, h1, h2⟩
theorem addW_mem (af : List Aff) (flags stem : ByteArray) (front : Bool) : ∀ (ws out : List ByteArray) (x : ByteArray), x ∈ addW af flags stem front ws out ↔ x ∈ out ∨ ∃ w ∈ ws, ∃ a ∈ af, goB flags stem front w a = true ∧ doB a w = some x
  | [], out, x => by simp [addW]
  | w :: r, out, x => by
    rw [addW, addW_mem af flags stem front r, addL_mem]
    constructor
    · rintro ((h | h) | ⟨v, hv, h⟩)
      · exact .inl h
      · exact .inr ⟨w, by simp, h⟩
      · exact .inr ⟨v, by simp [hv], h⟩
    · rintro (h | ⟨v, hv, h⟩)
      · exact .inl (.inl h)
      · rcases List.mem_cons.1 hv with rfl | hv
        · exact .inl (.inr h)
        · exact .inr ⟨v, hv, h⟩
theorem map_add (out : List ByteArray) (x : ByteArray) : out.map strP ++ [PV.sc (.string x)] = (out ++ [x]).map strP := by simp [strP]
def frontsL : List PV := [PV.sc (.bool false), PV.sc (.bool true)]
theorem forms_l2 {af : List Aff} (hg : ∀ a ∈ af, affB a = true) (hal : af.length ≤ 1000) {stem flags w : ByteArray} {front : Bool} (hw : isWord w = true) {k j l : Int} {y3 : List PV} {r : List PV} :
    ∀ (rest pre : List Aff) (out : List ByteArray), af = pre ++ rest → out.length + rest.length ≤ 100000000 →
    Ev3 (fun N m n => impl_Forms.l1 N m n (affsP af) front 2 k l (IntKind.i64.wrap (j + 1)) stem flags ((addL flags stem front w rest out).map strP) frontsL y3) r →
    Ev4 (fun N m0 m1 n => impl_Forms.l2 N m0 m1 n (affsP af) front w 2 k l j (affsP af) (af.length : Int) (pre.length : Int) stem flags (out.map strP) frontsL y3) r := by
  intro rest
  induction rest with
  | nil =>
    intro pre out hp hl hc
    refine Ev4.succ ?_
    simp only [impl_Forms.l2_eq, at_end hp, strs_len, strs_elem, ints_len, ints_elem, items_list, fld_agg, elem_list, toStr_sc, toInt_sc, toBool_sc, headD_one, nat_int, get_bt, decide_eq_true_eq, decide_eq_false_iff_not, decide_true, decide_false, if_true, if_false, ite_self, Bool.not_true, Bool.not_false, Bool.false_eq_true, Bool.true_eq_false, Bool.true_and, Bool.false_and, Bool.and_true, Bool.and_false, not_true, not_false_iff, Option.bind_some, nn, toList_inj, Bool.not_eq_true', Bool.not_eq_false', Int.le_refl, and_self, true_and, and_true, false_and, and_false, bne_self_eq_false, beq_self_eq_true, Int.reduceEq, Nat.reduceEqDiff, List.length_singleton, List.tail_cons, Int.reduceLE, Int.reduceLT, decide_eq_true_eq]
    exact hc.outer
  | cons a rest ih =>
    intro pre out hp hl hc
    have ha := hg a (by rw [hp]; simp)
    obtain ⟨_, hfs, _⟩ := affB_facts ha
    have hd := implDo_ev ha hw
    simp only [strP] at hd
    rw [List.length_cons] at hl
    have c1 : (out.length + 1 ≤ 8796093022208) = True := tru (by omega)
    rw [addL] at hc
    refine Ev4.succ ?_
    by_cases hf : a.front = front
    · cases hh : hasB flags a.flag with
      | false =>
        have hgo : goB flags stem front w a = false := by unfold goB; rw [hh]; simp
        rw [hgo] at hc
        simp only [impl_Forms.l2_eq, affs_len, affs_elem hp, at_lt hp, aff_f0, aff_f1, hf, contains_flag flags a.flag hfs, hh, at_next hp (by omega), strs_len, strs_elem, ints_len, ints_elem, items_list, fld_agg, elem_list, toStr_sc, toInt_sc, toBool_sc, headD_one, nat_int, get_bt, decide_eq_true_eq, decide_eq_false_iff_not, decide_true, decide_false, if_true, if_false, ite_self, Bool.not_true, Bool.not_false, Bool.false_eq_true, Bool.true_eq_false, Bool.true_and, Bool.false_and, Bool.and_true, Bool.and_false, not_true, not_false_iff, Option.bind_some, nn, toList_inj, Bool.not_eq_true', Bool.not_eq_false', Int.le_refl, and_self, true_and, and_true, false_and, and_false, bne_self_eq_false, beq_self_eq_true, Int.reduceEq, Nat.reduceEqDiff, List.length_singleton, List.tail_cons, Int.reduceLE, Int.reduceLT, decide_eq_true_eq]
        exact ih _ out (at_step hp) (by omega) hc
      | true =>
        cases hfr : front with
        | true =>
          subst hfr
          have hgo : goB flags stem true w a = true := by unfold goB; rw [hh, hf]; simp
          rw [hgo, if_pos rfl] at hc
          simp only [impl_Forms.l2_eq, affs_len, affs_elem hp, at_lt hp, aff_f0, aff_f1, aff_f2, aff_f3, aff_f4, hf, contains_flag flags a.flag hfs, hh, strs_len, strs_elem, ints_len, ints_elem, items_list, fld_agg, elem_list, toStr_sc, toInt_sc, toBool_sc, headD_one, nat_int, get_bt, decide_eq_true_eq, decide_eq_false_iff_not, decide_true, decide_false, if_true, if_false, ite_self, Bool.not_true, Bool.not_false, Bool.false_eq_true, Bool.true_eq_false, Bool.true_and, Bool.false_and, Bool.and_true, Bool.and_false, not_true, not_false_iff, Option.bind_some, nn, toList_inj, Bool.not_eq_true', Bool.not_eq_false', Int.le_refl, and_self, true_and, and_true, false_and, and_false, bne_self_eq_false, beq_self_eq_true, Int.reduceEq, Nat.reduceEqDiff, List.length_singleton, List.tail_cons, Int.reduceLE, Int.reduceLT, decide_eq_true_eq]
          have e : PV.agg [PV.sc (.string a.flag), PV.sc (.bool true), PV.sc (.string a.strip), PV.sc (.string a.add), PV.sc (.string a.cond)] = affP a := by rw [← aff_agg, hf]
          rw [e]
          refine Ev4.bind hd ?_
          unfold doI
          cases hdo : doB a w with
          | none =>
            rw [hdo] at hc
            simp only [at_next hp (by omega), strs_len, strs_elem, ints_len, ints_elem, items_list, fld_agg, elem_list, toStr_sc, toInt_sc, toBool_sc, headD_one, nat_int, get_bt, decide_eq_true_eq, decide_eq_false_iff_not, decide_true, decide_false, if_true, if_false, ite_self, Bool.not_true, Bool.not_false, Bool.false_eq_true, Bool.true_eq_false, Bool.true_and, Bool.false_and, Bool.and_true, Bool.and_false, not_true, not_false_iff, Option.bind_some, nn, toList_inj, Bool.not_eq_true', Bool.not_eq_false', Int.le_refl, and_self, true_and, and_true, false_and, and_false, bne_self_eq_false, beq_self_eq_true, Int.reduceEq, Nat.reduceEqDiff, List.length_singleton, List.tail_cons, Int.reduceLE, Int.reduceLT, decide_eq_true_eq]
            exact ih _ out (at_step hp) (by omega) hc
          | some x =>
            rw [hdo] at hc
            simp only [at_next hp (by omega), List.length_map, c1, map_add, strs_len, strs_elem, ints_len, ints_elem, items_list, fld_agg, elem_list, toStr_sc, toInt_sc, toBool_sc, headD_one, nat_int, get_bt, decide_eq_true_eq, decide_eq_false_iff_not, decide_true, decide_false, if_true, if_false, ite_self, Bool.not_true, Bool.not_false, Bool.false_eq_true, Bool.true_eq_false, Bool.true_and, Bool.false_and, Bool.and_true, Bool.and_false, not_true, not_false_iff, Option.bind_some, nn, toList_inj, Bool.not_eq_true', Bool.not_eq_false', Int.le_refl, and_self, true_and, and_true, false_and, and_false, bne_self_eq_false, beq_self_eq_true, Int.reduceEq, Nat.reduceEqDiff, List.length_singleton, List.tail_cons, Int.reduceLE, Int.reduceLT, decide_eq_true_eq]
            exact ih _ (out ++ [x]) (at_step hp) (by simp; omega) hc
        | false =>
          subst hfr
          by_cases hws : w = stem
          · have hgo : goB flags stem false w a = true := by unfold goB; rw [hh, hf, hws]; simp
            rw [hgo, if_pos rfl] at hc
            simp only [impl_Forms.l2_eq, affs_len, affs_elem hp, at_lt hp, aff_f0, aff_f1, aff_f2, aff_f3, aff_f4, hf, contains_flag flags a.flag hfs, hh, hws, strs_len, strs_elem, ints_len, ints_elem, items_list, fld_agg, elem_list, toStr_sc, toInt_sc, toBool_sc, headD_one, nat_int, get_bt, decide_eq_true_eq, decide_eq_false_iff_not, decide_true, decide_false, if_true, if_false, ite_self, Bool.not_true, Bool.not_false, Bool.false_eq_true, Bool.true_eq_false, Bool.true_and, Bool.false_and, Bool.and_true, Bool.and_false, not_true, not_false_iff, Option.bind_some, nn, toList_inj, Bool.not_eq_true', Bool.not_eq_false', Int.le_refl, and_self, true_and, and_true, false_and, and_false, bne_self_eq_false, beq_self_eq_true, Int.reduceEq, Nat.reduceEqDiff, List.length_singleton, List.tail_cons, Int.reduceLE, Int.reduceLT, decide_eq_true_eq]
            have e : PV.agg [PV.sc (.string a.flag), PV.sc (.bool false), PV.sc (.string a.strip), PV.sc (.string a.add), PV.sc (.string a.cond)] = affP a := by rw [← aff_agg, hf]
            rw [e]
            rw [hws] at hd hc ih
            refine Ev4.bind hd ?_
            unfold doI
            cases hdo : doB a stem with
            | none =>
              rw [hdo] at hc
              simp only [at_next hp (by omega), strs_len, strs_elem, ints_len, ints_elem, items_list, fld_agg, elem_list, toStr_sc, toInt_sc, toBool_sc, headD_one, nat_int, get_bt, decide_eq_true_eq, decide_eq_false_iff_not, decide_true, decide_false, if_true, if_false, ite_self, Bool.not_true, Bool.not_false, Bool.false_eq_true, Bool.true_eq_false, Bool.true_and, Bool.false_and, Bool.and_true, Bool.and_false, not_true, not_false_iff, Option.bind_some, nn, toList_inj, Bool.not_eq_true', Bool.not_eq_false', Int.le_refl, and_self, true_and, and_true, false_and, and_false, bne_self_eq_false, beq_self_eq_true, Int.reduceEq, Nat.reduceEqDiff, List.length_singleton, List.tail_cons, Int.reduceLE, Int.reduceLT, decide_eq_true_eq]
              exact ih _ out (at_step hp) (by omega) hc
            | some x =>
              rw [hdo] at hc
              simp only [at_next hp (by omega), List.length_map, c1, map_add, strs_len, strs_elem, ints_len, ints_elem, items_list, fld_agg, elem_list, toStr_sc, toInt_sc, toBool_sc, headD_one, nat_int, get_bt, decide_eq_true_eq, decide_eq_false_iff_not, decide_true, decide_false, if_true, if_false, ite_self, Bool.not_true, Bool.not_false, Bool.false_eq_true, Bool.true_eq_false, Bool.true_and, Bool.false_and, Bool.and_true, Bool.and_false, not_true, not_false_iff, Option.bind_some, nn, toList_inj, Bool.not_eq_true', Bool.not_eq_false', Int.le_refl, and_self, true_and, and_true, false_and, and_false, bne_self_eq_false, beq_self_eq_true, Int.reduceEq, Nat.reduceEqDiff, List.length_singleton, List.tail_cons, Int.reduceLE, Int.reduceLT, decide_eq_true_eq]
              exact ih _ (out ++ [x]) (at_step hp) (by simp; omega) hc
          · have hgo : goB flags stem false w a = false := by unfold goB; simp [hws]
            rw [hgo] at hc
            simp only [impl_Forms.l2_eq, affs_len, affs_elem hp, at_lt hp, aff_f0, aff_f1, hf, contains_flag flags a.flag hfs, hh, hws, at_next hp (by omega), strs_len, strs_elem, ints_len, ints_elem, items_list, fld_agg, elem_list, toStr_sc, toInt_sc, toBool_sc, headD_one, nat_int, get_bt, decide_eq_true_eq, decide_eq_false_iff_not, decide_true, decide_false, if_true, if_false, ite_self, Bool.not_true, Bool.not_false, Bool.false_eq_true, Bool.true_eq_false, Bool.true_and, Bool.false_and, Bool.and_true, Bool.and_false, not_true, not_false_iff, Option.bind_some, nn, toList_inj, Bool.not_eq_true', Bool.not_eq_false', Int.le_refl, and_self, true_and, and_true, false_and, and_false, bne_self_eq_false, beq_self_eq_true, Int.reduceEq, Nat.reduceEqDiff, List.length_singleton, List.tail_cons, Int.reduceLE, Int.reduceLT, decide_eq_true_eq]
            exact ih _ out (at_step hp) (by omega) hc
    · have hne : (a.front != front) = true := by simp [hf]
      have hgo : goB flags stem front w a = false := by unfold goB; simp [hf]
      rw [hgo] at hc
      simp only [impl_Forms.l2_eq, affs_len, affs_elem hp, at_lt hp, aff_f0, aff_f1, hne, at_next hp (by omega), strs_len, strs_elem, ints_len, ints_elem, items_list, fld_agg, elem_list, toStr_sc, toInt_sc, toBool_sc, headD_one, nat_int, get_bt, decide_eq_true_eq, decide_eq_false_iff_not, decide_true, decide_false, if_true, if_false, ite_self, Bool.not_true, Bool.not_false, Bool.false_eq_true, Bool.true_eq_false, Bool.true_and, Bool.false_and, Bool.and_true, Bool.and_false, not_true, not_false_iff, Option.bind_some, nn, toList_inj, Bool.not_eq_true', Bool.not_eq_false', Int.le_refl, and_self, true_and, and_true, false_and, and_false, bne_self_eq_false, beq_self_eq_true, Int.reduceEq, Nat.reduceEqDiff, List.length_singleton, List.tail_cons, Int.reduceLE, Int.reduceLT, decide_eq_true_eq]
      exact ih _ out (at_step hp) (by omega) hc
theorem forms_l1 {af : List Aff} (hg : ∀ a ∈ af, affB a = true) (hal : af.length ≤ 1000) {stem flags : ByteArray} {front : Bool} {ws : List ByteArray} (hws : ∀ x ∈ ws, isWord x = true) (hwl : ws.length ≤ 10000) {k : Int} {r : List PV} :
    ∀ (rest pre : List ByteArray) (out : List ByteArray), ws = pre ++ rest → out.length + rest.length * af.length ≤ 50000000 →
    Ev2 (fun N m => impl_Forms.l0 N m (affsP af) 2 (IntKind.i64.wrap (k + 1)) stem flags ((addW af flags stem front rest out).map strP) frontsL) r →
    Ev3 (fun N m n => impl_Forms.l1 N m n (affsP af) front 2 k (ws.length : Int) (pre.length : Int) stem flags (out.map strP) frontsL (ws.map strP)) r := by
  intro rest
  induction rest with
  | nil =>
    intro pre out hp hl hc
    refine Ev3.succ ?_
    simp only [impl_Forms.l1_eq, at_end hp, strs_len, strs_elem, ints_len, ints_elem, items_list, fld_agg, elem_list, toStr_sc, toInt_sc, toBool_sc, headD_one, nat_int, get_bt, decide_eq_true_eq, decide_eq_false_iff_not, decide_true, decide_false, if_true, if_false, ite_self, Bool.not_true, Bool.not_false, Bool.false_eq_true, Bool.true_eq_false, Bool.true_and, Bool.false_and, Bool.and_true, Bool.and_false, not_true, not_false_iff, Option.bind_some, nn, toList_inj, Bool.not_eq_true', Bool.not_eq_false', Int.le_refl, and_self, true_and, and_true, false_and, and_false, bne_self_eq_false, beq_self_eq_true, Int.reduceEq, Nat.reduceEqDiff, List.length_singleton, List.tail_cons, Int.reduceLE, Int.reduceLT, decide_eq_true_eq]
    exact hc.outer
  | cons w rest ih =>
    intro pre out hp hl hc
    have hw := hws w (by rw [hp]; simp)
    have h2 := addL_len flags stem front w af out
    rw [List.length_cons, Nat.add_mul, Nat.one_mul] at hl
    have hnext := ih (pre ++ [w]) (addL flags stem front w af out) (at_step hp) (by omega) hc
    rw [← at_next hp (by omega)] at hnext
    have eA : ([] : List PV) ++ ws.map strP = ws.map strP := rfl
    refine Ev3.succ ?_
    simp only [impl_Forms.l1_eq, at_lt hp, List.length_map, strs_mapL, strs_elem, at_getD hp, affs_len, strs_len, strs_elem, ints_len, ints_elem, items_list, fld_agg, elem_list, toStr_sc, toInt_sc, toBool_sc, headD_one, nat_int, get_bt, decide_eq_true_eq, decide_eq_false_iff_not, decide_true, decide_false, if_true, if_false, ite_self, Bool.not_true, Bool.not_false, Bool.false_eq_true, Bool.true_eq_false, Bool.true_and, Bool.false_and, Bool.and_true, Bool.and_false, not_true, not_false_iff, Option.bind_some, nn, toList_inj, Bool.not_eq_true', Bool.not_eq_false', Int.le_refl, and_self, true_and, and_true, false_and, and_false, bne_self_eq_false, beq_self_eq_true, Int.reduceEq, Nat.reduceEqDiff, List.length_singleton, List.tail_cons, Int.reduceLE, Int.reduceLT, decide_eq_true_eq]
    exact (forms_l2 hg hal hw af [] out rfl (by omega) hnext).start
theorem goB_front (flags stem w : ByteArray) (a : Aff) : goB flags stem true w a = true ↔ a.front = true ∧ hasB flags a.flag = true := by
  unfold goB; simp
theorem goB_back (flags stem w : ByteArray) (a : Aff) : goB flags stem false w a = true ↔ (a.front = false ∧ hasB flags a.flag = true) ∧ w = stem := by
  unfold goB; simp [and_assoc]
def out1 (af : List Aff) (e : Ent) : List ByteArray := addW af e.flags e.stem false [e.stem] [e.stem]
def out2 (af : List Aff) (e : Ent) : List ByteArray := addW af e.flags e.stem true (out1 af e) (out1 af e)
theorem out1_mem (af : List Aff) (e : Ent) (x : ByteArray) : x ∈ out1 af e ↔ x ∈ oneA e.flags false [e.stem] af [e.stem] := by
  unfold out1
  rw [addW_mem, oneA_mem]
  constructor
  · rintro (h | ⟨w, hw, a, ha, hg, hd⟩)
    · exact .inl h
    · rw [goB_back] at hg
      exact .inr ⟨a, ha, hg.1, w, hw, hd⟩
  · rintro (h | ⟨a, ha, hg, w, hw, hd⟩)
    · exact .inl h
    · exact .inr ⟨w, hw, a, ha, (goB_back _ _ _ _).2 ⟨hg, List.mem_singleton.1 hw⟩, hd⟩
theorem out2_mem (af : List Aff) (e : Ent) (x : ByteArray) : x ∈ out2 af e ↔ x ∈ formsB af e := by
  unfold out2 formsB
  rw [addW_mem, oneA_mem, out1_mem]
  constructor
  · rintro (h | ⟨w, hw, a, ha, hg, hd⟩)
    · exact .inl h
    · rw [goB_front] at hg
      exact .inr ⟨a, ha, hg, w, (out1_mem af e w).1 hw, hd⟩
  · rintro (h | ⟨a, ha, hg, w, hw, hd⟩)
    · exact .inl h
    · exact .inr ⟨w, (out1_mem af e w).2 hw, a, ha, (goB_front _ _ _ _).2 hg, hd⟩
theorem out1_facts {af : List Aff} {e : Ent} (he : entB e = true) (hal : af.length ≤ 8) : (out1 af e).length ≤ 9 ∧ ∀ x ∈ out1 af e, isWord x = true := by
  have h1 := addW_len af e.flags e.stem false [e.stem] [e.stem]
  simp only [List.length_singleton, Nat.one_mul] at h1
  refine ⟨by unfold out1; omega, fun x hx => ?_⟩
  unfold out1 at hx
  rw [addW_mem] at hx
  rcases hx with hx | ⟨w, _, a, _, _, hd⟩
  · rw [List.mem_singleton.1 hx]; exact (entB_facts he).1
  · exact doB_word hd
theorem out2_len {af : List Aff} {e : Ent} (he : entB e = true) (hal : af.length ≤ 8) : (out2 af e).length ≤ 100 := by
  have h0 := (out1_facts he hal).1
  have h1 := addW_len af e.flags e.stem true (out1 af e) (out1 af e)
  have h2 : (out1 af e).length * af.length ≤ 9 * 8 := Nat.mul_le_mul h0 hal
  unfold out2; omega
theorem implForms_ev {af : List Aff} (hB : affsB af = true) (hg : ∀ a ∈ af, affB a = true) (hal : af.length ≤ 8) {e : Ent} (he : entB e = true) :
    Ev (fun N => impl_Forms.f N [affsP af, entP e]) [strsP (formsB af e)] := by
  obtain ⟨f1, f2⟩ := out1_facts (af := af) he hal
  obtain ⟨s1, s2, s3⟩ := entB_facts he
  have hok := implAffs_ev af (by omega) (fun a ha => by obtain ⟨_, _, _, _, _⟩ := affB_facts (hg a ha); exact ⟨by omega, by omega, by omega, by omega⟩)
  have hen := implEntry_ev e ⟨by omega, by omega⟩
  have hsv := sorted_val (out2 af e) (by have := out2_len (af := af) he hal; omega)
  rw [sorted_eq (formsB_asc af e) (out2_mem af e)] at hsv
  rw [hB] at hok
  rw [he] at hen
  have e2 : ((frontsL.length : Nat) : Int) = 2 := rfl
  have efr : [PV.sc (.bool false), PV.sc (.bool true)] = frontsL := rfl
  have w1 : IntKind.i64.wrap ((0 : Int) + 1) = 1 := rfl
  have w2 : IntKind.i64.wrap ((1 : Int) + 1) = 2 := rfl
  have eapp : ∀ l : List ByteArray, ([] : List PV) ++ l.map strP = l.map strP := fun _ => rfl
  have l2 : Ev2 (fun N m => impl_Forms.l0 N m (affsP af) 2 2 e.stem e.flags ((out2 af e).map strP) frontsL) [strsP (formsB af e)] := by
    refine Ev2.succ ?_
    simp only [impl_Forms.l0_eq, strs_mapL, hsv, Int.lt_irrefl, strs_len, strs_elem, ints_len, ints_elem, items_list, fld_agg, elem_list, toStr_sc, toInt_sc, toBool_sc, headD_one, nat_int, get_bt, decide_eq_true_eq, decide_eq_false_iff_not, decide_true, decide_false, if_true, if_false, ite_self, Bool.not_true, Bool.not_false, Bool.false_eq_true, Bool.true_eq_false, Bool.true_and, Bool.false_and, Bool.and_true, Bool.and_false, not_true, not_false_iff, Option.bind_some, nn, toList_inj, Bool.not_eq_true', Bool.not_eq_false', Int.le_refl, and_self, true_and, and_true, false_and, and_false, bne_self_eq_false, beq_self_eq_true, Int.reduceEq, Nat.reduceEqDiff, List.length_singleton, List.tail_cons, Int.reduceLE, Int.reduceLT, decide_eq_true_eq]
    exact Ev2.now _
  have el1 : ((PV.list frontsL).elem (1 : Int).toNat).toBool = true := rfl
  have el0 : ((PV.list frontsL).elem (0 : Int).toNat).toBool = false := rfl
  have c1 : (([] : List PV).length + (out1 af e).length ≤ 8796093022208) = True := tru (by simp; omega)
  have hm := Nat.mul_le_mul f1 hal
  have l1 : Ev2 (fun N m => impl_Forms.l0 N m (affsP af) 2 1 e.stem e.flags ((out1 af e).map strP) frontsL) [strsP (formsB af e)] := by
    have h := (forms_l1 hg (by omega) (stem := e.stem) (flags := e.flags) (front := true) (k := 1) f2 (by omega) (out1 af e) [] (out1 af e) rfl (by omega) l2).start
    refine Ev2.succ ?_
    simp only [impl_Forms.l0_eq, el1, e2, List.length_map, c1, eapp, Int.reduceLT, Int.reduceLE, if_true, decide_true]
    exact h
  have l0 : Ev2 (fun N m => impl_Forms.l0 N m (affsP af) 2 0 e.stem e.flags ([e.stem].map strP) frontsL) [strsP (formsB af e)] := by
    have h := (forms_l1 hg (by omega) (stem := e.stem) (flags := e.flags) (front := false) (k := 0) (ws := [e.stem]) (by simpa using s1) (by simp) [e.stem] [] [e.stem] rfl (by simp; omega) l1).start
    have c2 : (([] : List PV).length + ([e.stem] : List ByteArray).length ≤ 8796093022208) = True := tru (by simp)
    refine Ev2.succ ?_
    simp only [impl_Forms.l0_eq, el0, e2, List.length_map, c2, eapp, Int.reduceLT, Int.reduceLE, Int.le_refl, if_true, decide_true]
    exact h
  have es : [PV.sc (.string e.stem)] = [e.stem].map strP := rfl
  simp only [impl_Forms.f_eq, ent_f0, ent_f1, ent_agg, es, efr, e2]
  refine Ev.bind hok ?_
  simp only [strs_len, strs_elem, ints_len, ints_elem, items_list, fld_agg, elem_list, toStr_sc, toInt_sc, toBool_sc, headD_one, nat_int, get_bt, decide_eq_true_eq, decide_eq_false_iff_not, decide_true, decide_false, if_true, if_false, ite_self, Bool.not_true, Bool.not_false, Bool.false_eq_true, Bool.true_eq_false, Bool.true_and, Bool.false_and, Bool.and_true, Bool.and_false, not_true, not_false_iff, Option.bind_some, nn, toList_inj, Bool.not_eq_true', Bool.not_eq_false', Int.le_refl, and_self, true_and, and_true, false_and, and_false, bne_self_eq_false, beq_self_eq_true, Int.reduceEq, Nat.reduceEqDiff, List.length_singleton, List.tail_cons, Int.reduceLE, Int.reduceLT, decide_eq_true_eq, ent_agg]
  refine Ev.bind hen ?_
  simp only [strs_len, strs_elem, ints_len, ints_elem, items_list, fld_agg, elem_list, toStr_sc, toInt_sc, toBool_sc, headD_one, nat_int, get_bt, decide_eq_true_eq, decide_eq_false_iff_not, decide_true, decide_false, if_true, if_false, ite_self, Bool.not_true, Bool.not_false, Bool.false_eq_true, Bool.true_eq_false, Bool.true_and, Bool.false_and, Bool.and_true, Bool.and_false, not_true, not_false_iff, Option.bind_some, nn, toList_inj, Bool.not_eq_true', Bool.not_eq_false', Int.le_refl, and_self, true_and, and_true, false_and, and_false, bne_self_eq_false, beq_self_eq_true, Int.reduceEq, Nat.reduceEqDiff, List.length_singleton, List.tail_cons, Int.reduceLE, Int.reduceLT, decide_eq_true_eq]
  exact l0.diag
def catW (af : List Aff) : List Ent → List ByteArray
  | [] => []
  | e :: r => formsB af e ++ catW af r
theorem catW_mem (af : List Aff) : ∀ (es : List Ent) (x : ByteArray), x ∈ catW af es ↔ ∃ e ∈ es, x ∈ formsB af e
  | [], x => by simp [catW]
  | e :: r, x => by rw [catW, List.mem_append, catW_mem af r]; simp
theorem implBookW_loop {af : List Aff} {es : List Ent} (h : BookOkF af es) : ∀ (rest pre : List Ent) (out : List ByteArray), es = pre ++ rest → (∀ x, x ∈ out ++ catW af rest ↔ ∃ e ∈ es, x ∈ formsB af e) → out.length ≤ 100 * pre.length →
    Ev2 (fun N n => impl_Book_words.l0 N n (entsP es) (es.length : Int) (pre.length : Int) (affsP af) (entsP es) (out.map strP)) [strsP (bookW af es)] := by
  have hel := h.el; have hal := h.al
  intro rest
  induction rest with
  | nil =>
    intro pre out hp hm hl
    have hpl : pre.length = es.length := by rw [hp]; simp
    have hsv := sorted_val out (by omega)
    rw [sorted_eq (bookW_asc af es) (fun x => by rw [bookW_mem, ← hm x]; simp [catW])] at hsv
    refine Ev2.succ ?_
    simp only [impl_Book_words.l0_eq, at_end hp, strs_mapL, hsv, strs_len, strs_elem, ints_len, ints_elem, items_list, fld_agg, elem_list, toStr_sc, toInt_sc, toBool_sc, headD_one, nat_int, get_bt, decide_eq_true_eq, decide_eq_false_iff_not, decide_true, decide_false, if_true, if_false, ite_self, Bool.not_true, Bool.not_false, Bool.false_eq_true, Bool.true_eq_false, Bool.true_and, Bool.false_and, Bool.and_true, Bool.and_false, not_true, not_false_iff, Option.bind_some, nn, toList_inj, Bool.not_eq_true', Bool.not_eq_false', Int.le_refl, and_self, true_and, and_true, false_and, and_false, bne_self_eq_false, beq_self_eq_true, Int.reduceEq, Nat.reduceEqDiff, List.length_singleton, List.tail_cons, Int.reduceLE, Int.reduceLT, decide_eq_true_eq]
    exact Ev2.now _
  | cons e rest ih =>
    intro pre out hp hm hl
    have hpl := at_ltN hp
    have he := h.ent e (by rw [hp]; simp)
    have hf := implForms_ev h.affs h.good hal he
    have hfl := formsB_len af e
    have hfl2 : (1 + af.length) * (1 + af.length) ≤ 9 * 9 := Nat.mul_le_mul (by omega) (by omega)
    have c1 : (out.length + (formsB af e).length ≤ 8796093022208) = True := tru (by omega)
    have ea : out.map strP ++ (strsP (formsB af e)).items = (out ++ formsB af e).map strP := by simp [strsP, PV.items]
    refine Ev2.succ ?_
    simp only [impl_Book_words.l0_eq, ents_len, ents_elem hp, at_lt hp, ent_f0, ent_f1, ent_agg, strs_len, strs_elem, ints_len, ints_elem, items_list, fld_agg, elem_list, toStr_sc, toInt_sc, toBool_sc, headD_one, nat_int, get_bt, decide_eq_true_eq, decide_eq_false_iff_not, decide_true, decide_false, if_true, if_false, ite_self, Bool.not_true, Bool.not_false, Bool.false_eq_true, Bool.true_eq_false, Bool.true_and, Bool.false_and, Bool.and_true, Bool.and_false, not_true, not_false_iff, Option.bind_some, nn, toList_inj, Bool.not_eq_true', Bool.not_eq_false', Int.le_refl, and_self, true_and, and_true, false_and, and_false, bne_self_eq_false, beq_self_eq_true, Int.reduceEq, Nat.reduceEqDiff, List.length_singleton, List.tail_cons, Int.reduceLE, Int.reduceLT, decide_eq_true_eq]
    refine Ev2.bind hf ?_
    simp only [List.length_map, c1, ea, at_next hp (by omega), strs_len, strs_elem, ints_len, ints_elem, items_list, fld_agg, elem_list, toStr_sc, toInt_sc, toBool_sc, headD_one, nat_int, get_bt, decide_eq_true_eq, decide_eq_false_iff_not, decide_true, decide_false, if_true, if_false, ite_self, Bool.not_true, Bool.not_false, Bool.false_eq_true, Bool.true_eq_false, Bool.true_and, Bool.false_and, Bool.and_true, Bool.and_false, not_true, not_false_iff, Option.bind_some, nn, toList_inj, Bool.not_eq_true', Bool.not_eq_false', Int.le_refl, and_self, true_and, and_true, false_and, and_false, bne_self_eq_false, beq_self_eq_true, Int.reduceEq, Nat.reduceEqDiff, List.length_singleton, List.tail_cons, Int.reduceLE, Int.reduceLT, decide_eq_true_eq]
    exact ih _ (out ++ formsB af e) (at_step hp) (fun x => by rw [← hm x, catW, List.append_assoc]) (by simp; omega)
theorem implBookW_ev {af : List Aff} {es : List Ent} (h : BookOkF af es) : Ev (fun N => impl_Book_words.f N [bookP af es]) [strsP (bookW af es)] := by
  simp only [impl_Book_words.f_eq, book_f0, book_f1, ents_len]
  exact (implBookW_loop h es [] [] rfl (fun x => by simp [catW_mem]) (by simp)).diag
theorem index_loop (a : List ByteArray) (c : ByteArray) (ha : a.length ≤ 9223372036854775807) : ∀ (rest pre : List ByteArray), a = pre ++ rest →
    ∃ r : Int, Ev2 (fun N n => slices_Index_string_string.l0 N n (strsP a) c (a.length : Int) (pre.length : Int)) [intP r] ∧ (0 ≤ r ↔ c ∈ rest) := by
  intro rest
  induction rest with
  | nil =>
    intro pre hp
    refine ⟨-1, Ev2.succ ?_, by simp⟩
    simp only [slices_Index_string_string.l0_eq, at_end hp, strs_len, strs_elem, ints_len, ints_elem, items_list, fld_agg, elem_list, toStr_sc, toInt_sc, toBool_sc, headD_one, nat_int, get_bt, decide_eq_true_eq, decide_eq_false_iff_not, decide_true, decide_false, if_true, if_false, ite_self, Bool.not_true, Bool.not_false, Bool.false_eq_true, Bool.true_eq_false, Bool.true_and, Bool.false_and, Bool.and_true, Bool.and_false, not_true, not_false_iff, Option.bind_some, nn, toList_inj, Bool.not_eq_true', Bool.not_eq_false', Int.le_refl, and_self, true_and, and_true, false_and, and_false, bne_self_eq_false, beq_self_eq_true, Int.reduceEq, Nat.reduceEqDiff, List.length_singleton, List.tail_cons, Int.reduceLE, Int.reduceLT, decide_eq_true_eq]
    exact Ev2.now _
  | cons x rest ih =>
    intro pre hp
    by_cases e : c = x
    · refine ⟨pre.length, Ev2.succ ?_, by simp [e]⟩
      simp only [slices_Index_string_string.l0_eq, at_lt hp, at_getD hp, e, strs_len, strs_elem, ints_len, ints_elem, items_list, fld_agg, elem_list, toStr_sc, toInt_sc, toBool_sc, headD_one, nat_int, get_bt, decide_eq_true_eq, decide_eq_false_iff_not, decide_true, decide_false, if_true, if_false, ite_self, Bool.not_true, Bool.not_false, Bool.false_eq_true, Bool.true_eq_false, Bool.true_and, Bool.false_and, Bool.and_true, Bool.and_false, not_true, not_false_iff, Option.bind_some, nn, toList_inj, Bool.not_eq_true', Bool.not_eq_false', Int.le_refl, and_self, true_and, and_true, false_and, and_false, bne_self_eq_false, beq_self_eq_true, Int.reduceEq, Nat.reduceEqDiff, List.length_singleton, List.tail_cons, Int.reduceLE, Int.reduceLT, decide_eq_true_eq]
      exact Ev2.now _
    · obtain ⟨r, hr, hv⟩ := ih _ (at_step hp)
      refine ⟨r, Ev2.succ ?_, by rw [hv]; simp [e]⟩
      simp only [slices_Index_string_string.l0_eq, at_lt hp, at_getD hp, e, at_next hp ha, strs_len, strs_elem, ints_len, ints_elem, items_list, fld_agg, elem_list, toStr_sc, toInt_sc, toBool_sc, headD_one, nat_int, get_bt, decide_eq_true_eq, decide_eq_false_iff_not, decide_true, decide_false, if_true, if_false, ite_self, Bool.not_true, Bool.not_false, Bool.false_eq_true, Bool.true_eq_false, Bool.true_and, Bool.false_and, Bool.and_true, Bool.and_false, not_true, not_false_iff, Option.bind_some, nn, toList_inj, Bool.not_eq_true', Bool.not_eq_false', Int.le_refl, and_self, true_and, and_true, false_and, and_false, bne_self_eq_false, beq_self_eq_true, Int.reduceEq, Nat.reduceEqDiff, List.length_singleton, List.tail_cons, Int.reduceLE, Int.reduceLT, decide_eq_true_eq]
      exact hr
theorem contains_ev (a : List ByteArray) (c : ByteArray) (ha : a.length ≤ 9223372036854775807) : Ev (fun N => slices_Contains_string_string.f N [strsP a, strP c]) [boolP (decide (c ∈ a))] := by
  obtain ⟨r, hr, hv⟩ := index_loop a c ha a [] rfl
  simp only [slices_Contains_string_string.f_eq, slices_Index_string_string.f_eq, strs_len, strs_elem, ints_len, ints_elem, items_list, fld_agg, elem_list, toStr_sc, toInt_sc, toBool_sc, headD_one, nat_int, get_bt, decide_eq_true_eq, decide_eq_false_iff_not, decide_true, decide_false, if_true, if_false, ite_self, Bool.not_true, Bool.not_false, Bool.false_eq_true, Bool.true_eq_false, Bool.true_and, Bool.false_and, Bool.and_true, Bool.and_false, not_true, not_false_iff, Option.bind_some, nn, toList_inj, Bool.not_eq_true', Bool.not_eq_false', Int.le_refl, and_self, true_and, and_true, false_and, and_false, bne_self_eq_false, beq_self_eq_true, Int.reduceEq, Nat.reduceEqDiff, List.length_singleton, List.tail_cons, Int.reduceLE, Int.reduceLT, decide_eq_true_eq]
  refine Ev.bind hr.diag ?_
  refine Ev.ext (Ev.now _) ?_
  simp only [strs_len, strs_elem, ints_len, ints_elem, items_list, fld_agg, elem_list, toStr_sc, toInt_sc, toBool_sc, headD_one, nat_int, get_bt, decide_eq_true_eq, decide_eq_false_iff_not, decide_true, decide_false, if_true, if_false, ite_self, Bool.not_true, Bool.not_false, Bool.false_eq_true, Bool.true_eq_false, Bool.true_and, Bool.false_and, Bool.and_true, Bool.and_false, not_true, not_false_iff, Option.bind_some, nn, toList_inj, Bool.not_eq_true', Bool.not_eq_false', Int.le_refl, and_self, true_and, and_true, false_and, and_false, bne_self_eq_false, beq_self_eq_true, Int.reduceEq, Nat.reduceEqDiff, List.length_singleton, List.tail_cons, Int.reduceLE, Int.reduceLT, decide_eq_true_eq]
  exact congrArg (fun b => [boolP b]) (decide_eq_decide.2 hv)
/-! #### a word's parts: the program and the reference -/
theorem Ev3.row {α : Type} {r : α} {g : Nat → Nat → Nat → Option α} (h : Ev3 g r) : Ev2 (fun N d => g N d N) r := by obtain ⟨k, hk⟩ := h; exact ⟨k, fun N d hN hd => hk N d N hN hd hN⟩
theorem Ev3.bind2 {α β : Type} {r : α} {s : β} {g : Nat → Nat → Option β} {f : Nat → Nat → Nat → β → Option α} (h : Ev2 g s) (k : Ev3 (fun N m n => f N m n s) r) : Ev3 (fun N m n => (g N m).bind (f N m n)) r := by
  obtain ⟨k1, h1⟩ := h; obtain ⟨k2, h2⟩ := k
  exact ⟨max k1 k2, fun N m n hN hm hn => by
    show (g N m).bind (f N m n) = _
    rw [h1 N m (by omega) (by omega), Option.bind_some]; exact h2 N m n (by omega) (by omega) (by omega)⟩
theorem Ev2.succR {α : Type} {r : α} {g : Nat → Nat → Option α} (h : Ev2 (fun N n => g N (n + 1)) r) : Ev2 g r := h.succ
theorem nilC_nil {α : Type} (a : α) (b : PV → List PV → α) : nilC (strsP []).items a b = a := rfl
theorem nilC_cons {α : Type} (x : ByteArray) (r : List ByteArray) (a : α) (b : PV → List PV → α) : nilC (strsP (x :: r)).items a b = b (strP x) (r.map strP) := rfl
theorem parts_join (y x : ByteArray) (r : List ByteArray) : PV.list ([PV.sc (.string y)] ++ (strP x :: r.map strP)) = strsP (y :: x :: r) := rfl
theorem div_l0 {ws : List ByteArray} (hwl : ws.length ≤ 1000000) {w : ByteArray} (hw : w.size ≤ 1000000) {M : Nat} (hM : M ≤ 10)
    (hrec : ∀ v, 3 ≤ v.size → v.size ≤ 1000000 → Ev2 (fun N d => impl_divided.g N d [strsP ws, strP v, intP ((M + 1 : Nat) : Int)]) [strsP (partsM ws M v)]) :
    ∀ d0 k : Nat, (1 ≤ d0 → k + d0 + 2 = w.size) → (d0 = 0 → w.size < k + 3) → 3 ≤ k →
    Ev3 (fun N d n => impl_divided.l0 N d n (strsP ws) w ((M + 2 : Nat) : Int) (k : Int)) [strsP (partsAt ws (partsM ws M) w d0 k)] := by
  have w1 : IntKind.i64.wrap ((w.size : Int) - 3) = (w.size : Int) - 3 := wrap_id (by omega) (by omega)
  have w2 : IntKind.i64.wrap (((M + 2 : Nat) : Int) - 1) = ((M + 1 : Nat) : Int) := nat_wrap (by omega) (by omega)
  intro d0
  induction d0 with
  | zero =>
    intro k _ h0 h3
    have c0 : ((k : Int) ≤ (w.size : Int) - 3) = False := fls (by have := h0 rfl; omega)
    refine Ev3.succ ?_
    simp only [impl_divided.l0_eq, w1, c0, strs_len, strs_elem, ints_len, ints_elem, items_list, fld_agg, elem_list, toStr_sc, toInt_sc, toBool_sc, headD_one, nat_int, get_bt, decide_eq_true_eq, decide_eq_false_iff_not, decide_true, decide_false, if_true, if_false, ite_self, Bool.not_true, Bool.not_false, Bool.false_eq_true, Bool.true_eq_false, Bool.true_and, Bool.false_and, Bool.and_true, Bool.and_false, not_true, not_false_iff, Option.bind_some, nn, toList_inj, Bool.not_eq_true', Bool.not_eq_false', Int.le_refl, and_self, true_and, and_true, false_and, and_false, bne_self_eq_false, beq_self_eq_true, Int.reduceEq, Nat.reduceEqDiff, List.length_singleton, List.tail_cons, Int.reduceLE, Int.reduceLT, decide_eq_true_eq]
    exact Ev3.now _
  | succ d0 ih =>
    intro k hk _ h3
    have hk' := hk (by omega)
    have c0 : ((k : Int) ≤ (w.size : Int) - 3) = True := tru (by omega)
    have c1 : ((k : Int) ≤ (w.size : Int)) = True := tru (by omega)
    have wn : IntKind.i64.wrap ((k : Int) + 1) = ((k + 1 : Nat) : Int) := nat_wrap (by omega) (by omega)
    have hnext := ih (k + 1) (fun _ => by omega) (fun h => by omega) (by omega)
    have hct := contains_ev ws (w.extract 0 k) (by omega)
    simp only [strP] at hct
    refine Ev3.succ ?_
    simp only [impl_divided.l0_eq, w1, c0, c1, nn, strs_len, strs_elem, ints_len, ints_elem, items_list, fld_agg, elem_list, toStr_sc, toInt_sc, toBool_sc, headD_one, nat_int, get_bt, decide_eq_true_eq, decide_eq_false_iff_not, decide_true, decide_false, if_true, if_false, ite_self, Bool.not_true, Bool.not_false, Bool.false_eq_true, Bool.true_eq_false, Bool.true_and, Bool.false_and, Bool.and_true, Bool.and_false, not_true, not_false_iff, Option.bind_some, nn, toList_inj, Bool.not_eq_true', Bool.not_eq_false', Int.le_refl, and_self, true_and, and_true, false_and, and_false, bne_self_eq_false, beq_self_eq_true, Int.reduceEq, Nat.reduceEqDiff, List.length_singleton, List.tail_cons, Int.reduceLE, Int.reduceLT, decide_eq_true_eq]
    refine Ev3.bind hct ?_
    rw [partsAt]
    by_cases hm : w.extract 0 k ∈ ws
    · have hz : (w.extract k w.size).size = w.size - k := by rw [ByteArray.size_extract]; omega
      have hr := hrec (w.extract k w.size) (by omega) (by omega)
      simp only [strP] at hr
      simp only [hm, w2, strs_len, strs_elem, ints_len, ints_elem, items_list, fld_agg, elem_list, toStr_sc, toInt_sc, toBool_sc, headD_one, nat_int, get_bt, decide_eq_true_eq, decide_eq_false_iff_not, decide_true, decide_false, if_true, if_false, ite_self, Bool.not_true, Bool.not_false, Bool.false_eq_true, Bool.true_eq_false, Bool.true_and, Bool.false_and, Bool.and_true, Bool.and_false, not_true, not_false_iff, Option.bind_some, nn, toList_inj, Bool.not_eq_true', Bool.not_eq_false', Int.le_refl, and_self, true_and, and_true, false_and, and_false, bne_self_eq_false, beq_self_eq_true, Int.reduceEq, Nat.reduceEqDiff, List.length_singleton, List.tail_cons, Int.reduceLE, Int.reduceLT, decide_eq_true_eq]
      refine Ev3.bind2 hr ?_
      cases hp : partsM ws M (w.extract k w.size) with
      | nil =>
        simp only [nilC_nil, wn, strs_len, strs_elem, ints_len, ints_elem, items_list, fld_agg, elem_list, toStr_sc, toInt_sc, toBool_sc, headD_one, nat_int, get_bt, decide_eq_true_eq, decide_eq_false_iff_not, decide_true, decide_false, if_true, if_false, ite_self, Bool.not_true, Bool.not_false, Bool.false_eq_true, Bool.true_eq_false, Bool.true_and, Bool.false_and, Bool.and_true, Bool.and_false, not_true, not_false_iff, Option.bind_some, nn, toList_inj, Bool.not_eq_true', Bool.not_eq_false', Int.le_refl, and_self, true_and, and_true, false_and, and_false, bne_self_eq_false, beq_self_eq_true, Int.reduceEq, Nat.reduceEqDiff, List.length_singleton, List.tail_cons, Int.reduceLE, Int.reduceLT, decide_eq_true_eq]
        exact hnext
      | cons x r =>
        have hl := (partsM_ok ws M (w.extract k w.size) (by omega) (by rw [hp]; simp)).len
        rw [hp, List.length_cons] at hl
        have c2 : (1 + (strP x :: r.map strP).length ≤ 8796093022208) = True := tru (by simp; omega)
        simp only [nilC_cons, headD_one, List.length_singleton, c2, parts_join, if_true]
        exact Ev3.now _
    · simp only [hm, wn, strs_len, strs_elem, ints_len, ints_elem, items_list, fld_agg, elem_list, toStr_sc, toInt_sc, toBool_sc, headD_one, nat_int, get_bt, decide_eq_true_eq, decide_eq_false_iff_not, decide_true, decide_false, if_true, if_false, ite_self, Bool.not_true, Bool.not_false, Bool.false_eq_true, Bool.true_eq_false, Bool.true_and, Bool.false_and, Bool.and_true, Bool.and_false, not_true, not_false_iff, Option.bind_some, nn, toList_inj, Bool.not_eq_true', Bool.not_eq_false', Int.le_refl, and_self, true_and, and_true, false_and, and_false, bne_self_eq_false, beq_self_eq_true, Int.reduceEq, Nat.reduceEqDiff, List.length_singleton, List.tail_cons, Int.reduceLE, Int.reduceLT, decide_eq_true_eq]
      exact hnext
theorem div_g {ws : List ByteArray} (hwl : ws.length ≤ 1000000) : ∀ (M : Nat) (w : ByteArray), M ≤ 10 → (M = 0 → 3 ≤ w.size) → w.size ≤ 1000000 →
    Ev2 (fun N d => impl_divided.g N d [strsP ws, strP w, intP ((M + 1 : Nat) : Int)]) [strsP (partsM ws M w)] := by
  intro M
  induction M with
  | zero =>
    intro w _ h3 hw
    have c0 : (((0 + 1 : Nat) : Int) = 1) = True := tru rfl
    have c3 : ((3 : Int) ≤ (w.size : Int)) = True := tru (by have := h3 rfl; omega)
    have hct := contains_ev ws w (by omega)
    simp only [strP] at hct
    refine Ev2.succ ?_
    simp only [impl_divided.g_eq, c0, c3, strs_len, strs_elem, ints_len, ints_elem, items_list, fld_agg, elem_list, toStr_sc, toInt_sc, toBool_sc, headD_one, nat_int, get_bt, decide_eq_true_eq, decide_eq_false_iff_not, decide_true, decide_false, if_true, if_false, ite_self, Bool.not_true, Bool.not_false, Bool.false_eq_true, Bool.true_eq_false, Bool.true_and, Bool.false_and, Bool.and_true, Bool.and_false, not_true, not_false_iff, Option.bind_some, nn, toList_inj, Bool.not_eq_true', Bool.not_eq_false', Int.le_refl, and_self, true_and, and_true, false_and, and_false, bne_self_eq_false, beq_self_eq_true, Int.reduceEq, Nat.reduceEqDiff, List.length_singleton, List.tail_cons, Int.reduceLE, Int.reduceLT, decide_eq_true_eq]
    refine Ev2.bind hct ?_
    unfold partsM
    by_cases hm : w ∈ ws
    · simp only [hm, strs_len, strs_elem, ints_len, ints_elem, items_list, fld_agg, elem_list, toStr_sc, toInt_sc, toBool_sc, headD_one, nat_int, get_bt, decide_eq_true_eq, decide_eq_false_iff_not, decide_true, decide_false, if_true, if_false, ite_self, Bool.not_true, Bool.not_false, Bool.false_eq_true, Bool.true_eq_false, Bool.true_and, Bool.false_and, Bool.and_true, Bool.and_false, not_true, not_false_iff, Option.bind_some, nn, toList_inj, Bool.not_eq_true', Bool.not_eq_false', Int.le_refl, and_self, true_and, and_true, false_and, and_false, bne_self_eq_false, beq_self_eq_true, Int.reduceEq, Nat.reduceEqDiff, List.length_singleton, List.tail_cons, Int.reduceLE, Int.reduceLT, decide_eq_true_eq]; exact Ev2.now _
    · simp only [hm, strs_len, strs_elem, ints_len, ints_elem, items_list, fld_agg, elem_list, toStr_sc, toInt_sc, toBool_sc, headD_one, nat_int, get_bt, decide_eq_true_eq, decide_eq_false_iff_not, decide_true, decide_false, if_true, if_false, ite_self, Bool.not_true, Bool.not_false, Bool.false_eq_true, Bool.true_eq_false, Bool.true_and, Bool.false_and, Bool.and_true, Bool.and_false, not_true, not_false_iff, Option.bind_some, nn, toList_inj, Bool.not_eq_true', Bool.not_eq_false', Int.le_refl, and_self, true_and, and_true, false_and, and_false, bne_self_eq_false, beq_self_eq_true, Int.reduceEq, Nat.reduceEqDiff, List.length_singleton, List.tail_cons, Int.reduceLE, Int.reduceLT, decide_eq_true_eq]; exact Ev2.now _
  | succ M ih =>
    intro w hM _ hw
    have c0 : (((M + 1 + 1 : Nat) : Int) = 1) = False := fls (by omega)
    have h := Ev3.row (div_l0 hwl hw (by omega : M ≤ 10) (fun v h3 hv => ih v (by omega) (fun _ => h3) hv) (w.size - 5) 3 (fun _ => by omega) (fun _ => by omega) (Nat.le_refl _))
    refine Ev2.succ ?_
    simp only [impl_divided.g_eq, c0, strs_len, strs_elem, ints_len, ints_elem, items_list, fld_agg, elem_list, toStr_sc, toInt_sc, toBool_sc, headD_one, nat_int, get_bt, decide_eq_true_eq, decide_eq_false_iff_not, decide_true, decide_false, if_true, if_false, ite_self, Bool.not_true, Bool.not_false, Bool.false_eq_true, Bool.true_eq_false, Bool.true_and, Bool.false_and, Bool.and_true, Bool.and_false, not_true, not_false_iff, Option.bind_some, nn, toList_inj, Bool.not_eq_true', Bool.not_eq_false', Int.le_refl, and_self, true_and, and_true, false_and, and_false, bne_self_eq_false, beq_self_eq_true, Int.reduceEq, Nat.reduceEqDiff, List.length_singleton, List.tail_cons, Int.reduceLE, Int.reduceLT, decide_eq_true_eq]
    exact h
theorem div_ev {ws : List ByteArray} (hwl : ws.length ≤ 1000000) (M : Nat) (w : ByteArray) (hM : 1 ≤ M ∧ M ≤ 10) (hw : w.size ≤ 1000000) :
    Ev (fun N => impl_divided.f N [strsP ws, strP w, intP ((M + 1 : Nat) : Int)]) [strsP (partsM ws M w)] := by
  simp only [impl_divided.f_eq]
  exact (div_g hwl M w hM.2 (fun h => by omega) hw).diag
def partsR (af : List Aff) (es : List Ent) (w : ByteArray) : List ByteArray := if bookB af es = true ∧ isWord w = true then partsB (bookW af es) w else []
theorem bookW_len {af : List Aff} {es : List Ent} (h : BookOkF af es) : (bookW af es).length ≤ 2000 := by
  have h1 := wordsL2_len af es []
  have h2 := h.al
  have h3 := h.el
  have h4 : (1 + af.length) * (1 + af.length) ≤ 9 * 9 := Nat.mul_le_mul (by omega) (by omega)
  have h5 : es.length * ((1 + af.length) * (1 + af.length)) ≤ 24 * 81 := Nat.mul_le_mul h3 h4
  unfold bookW; simp only [List.length_nil] at h1; omega
theorem implParts_ev {af : List Aff} {es : List Ent} (hs : BookS af es) (w : ByteArray) (hw : w.size ≤ 1000000000) : Ev (fun N => impl_PartsOf.f N [bookP af es, strP w]) [strsP (partsR af es w)] := by
  have hwo := implWord_ev w (by omega)
  simp only [strP] at hwo
  have ne : PV.list [] = strsP [] := rfl
  simp only [impl_PartsOf.f_eq, book_f0, book_f1, book_agg, strs_len, strs_elem, ints_len, ints_elem, items_list, fld_agg, elem_list, toStr_sc, toInt_sc, toBool_sc, headD_one, nat_int, get_bt, decide_eq_true_eq, decide_eq_false_iff_not, decide_true, decide_false, if_true, if_false, ite_self, Bool.not_true, Bool.not_false, Bool.false_eq_true, Bool.true_eq_false, Bool.true_and, Bool.false_and, Bool.and_true, Bool.and_false, not_true, not_false_iff, Option.bind_some, nn, toList_inj, Bool.not_eq_true', Bool.not_eq_false', Int.le_refl, and_self, true_and, and_true, false_and, and_false, bne_self_eq_false, beq_self_eq_true, Int.reduceEq, Nat.reduceEqDiff, List.length_singleton, List.tail_cons, Int.reduceLE, Int.reduceLT, decide_eq_true_eq]
  refine Ev.bind (implBookOk_ev hs) ?_
  cases hb : bookB af es with
  | false =>
    simp only [partsR, hb, ne, strs_len, strs_elem, ints_len, ints_elem, items_list, fld_agg, elem_list, toStr_sc, toInt_sc, toBool_sc, headD_one, nat_int, get_bt, decide_eq_true_eq, decide_eq_false_iff_not, decide_true, decide_false, if_true, if_false, ite_self, Bool.not_true, Bool.not_false, Bool.false_eq_true, Bool.true_eq_false, Bool.true_and, Bool.false_and, Bool.and_true, Bool.and_false, not_true, not_false_iff, Option.bind_some, nn, toList_inj, Bool.not_eq_true', Bool.not_eq_false', Int.le_refl, and_self, true_and, and_true, false_and, and_false, bne_self_eq_false, beq_self_eq_true, Int.reduceEq, Nat.reduceEqDiff, List.length_singleton, List.tail_cons, Int.reduceLE, Int.reduceLT, decide_eq_true_eq]
    exact Ev.now _
  | true =>
    simp only [strs_len, strs_elem, ints_len, ints_elem, items_list, fld_agg, elem_list, toStr_sc, toInt_sc, toBool_sc, headD_one, nat_int, get_bt, decide_eq_true_eq, decide_eq_false_iff_not, decide_true, decide_false, if_true, if_false, ite_self, Bool.not_true, Bool.not_false, Bool.false_eq_true, Bool.true_eq_false, Bool.true_and, Bool.false_and, Bool.and_true, Bool.and_false, not_true, not_false_iff, Option.bind_some, nn, toList_inj, Bool.not_eq_true', Bool.not_eq_false', Int.le_refl, and_self, true_and, and_true, false_and, and_false, bne_self_eq_false, beq_self_eq_true, Int.reduceEq, Nat.reduceEqDiff, List.length_singleton, List.tail_cons, Int.reduceLE, Int.reduceLT, decide_eq_true_eq]
    refine Ev.bind hwo ?_
    cases hi : isWord w with
    | false =>
      simp only [partsR, hb, hi, ne, strs_len, strs_elem, ints_len, ints_elem, items_list, fld_agg, elem_list, toStr_sc, toInt_sc, toBool_sc, headD_one, nat_int, get_bt, decide_eq_true_eq, decide_eq_false_iff_not, decide_true, decide_false, if_true, if_false, ite_self, Bool.not_true, Bool.not_false, Bool.false_eq_true, Bool.true_eq_false, Bool.true_and, Bool.false_and, Bool.and_true, Bool.and_false, not_true, not_false_iff, Option.bind_some, nn, toList_inj, Bool.not_eq_true', Bool.not_eq_false', Int.le_refl, and_self, true_and, and_true, false_and, and_false, bne_self_eq_false, beq_self_eq_true, Int.reduceEq, Nat.reduceEqDiff, List.length_singleton, List.tail_cons, Int.reduceLE, Int.reduceLT, decide_eq_true_eq]
      exact Ev.now _
    | true =>
      have hF := bookB_facts hb
      have hlen := bookW_len hF
      have hsz := word_size hi
      have d1 := div_ev (ws := bookW af es) (by omega) 1 w (by omega) (by omega)
      have d2 := div_ev (ws := bookW af es) (by omega) 2 w (by omega) (by omega)
      have e1 : (((1 + 1 : Nat)) : Int) = 2 := rfl
      have e2 : (((2 + 1 : Nat)) : Int) = 3 := rfl
      rw [e1] at d1
      rw [e2] at d2
      simp only [strP, intP] at d1 d2
      have w1 : IntKind.i64.wrap ((2 : Int) + 1) = 3 := rfl
      have w2 : IntKind.i64.wrap ((3 : Int) + 1) = 4 := rfl
      simp only [strs_len, strs_elem, ints_len, ints_elem, items_list, fld_agg, elem_list, toStr_sc, toInt_sc, toBool_sc, headD_one, nat_int, get_bt, decide_eq_true_eq, decide_eq_false_iff_not, decide_true, decide_false, if_true, if_false, ite_self, Bool.not_true, Bool.not_false, Bool.false_eq_true, Bool.true_eq_false, Bool.true_and, Bool.false_and, Bool.and_true, Bool.and_false, not_true, not_false_iff, Option.bind_some, nn, toList_inj, Bool.not_eq_true', Bool.not_eq_false', Int.le_refl, and_self, true_and, and_true, false_and, and_false, bne_self_eq_false, beq_self_eq_true, Int.reduceEq, Nat.reduceEqDiff, List.length_singleton, List.tail_cons, Int.reduceLE, Int.reduceLT, decide_eq_true_eq]
      refine Ev.bind (implBookW_ev hF) ?_
      simp only [partsR, hb, hi, partsB, strs_len, strs_elem, ints_len, ints_elem, items_list, fld_agg, elem_list, toStr_sc, toInt_sc, toBool_sc, headD_one, nat_int, get_bt, decide_eq_true_eq, decide_eq_false_iff_not, decide_true, decide_false, if_true, if_false, ite_self, Bool.not_true, Bool.not_false, Bool.false_eq_true, Bool.true_eq_false, Bool.true_and, Bool.false_and, Bool.and_true, Bool.and_false, not_true, not_false_iff, Option.bind_some, nn, toList_inj, Bool.not_eq_true', Bool.not_eq_false', Int.le_refl, and_self, true_and, and_true, false_and, and_false, bne_self_eq_false, beq_self_eq_true, Int.reduceEq, Nat.reduceEqDiff, List.length_singleton, List.tail_cons, Int.reduceLE, Int.reduceLT, decide_eq_true_eq]
      refine Ev2.diag (g := fun N n => impl_PartsOf.l0 N n w 2 (strsP (bookW af es))) (Ev2.succ ?_)
      simp only [impl_PartsOf.l0_eq, strs_len, strs_elem, ints_len, ints_elem, items_list, fld_agg, elem_list, toStr_sc, toInt_sc, toBool_sc, headD_one, nat_int, get_bt, decide_eq_true_eq, decide_eq_false_iff_not, decide_true, decide_false, if_true, if_false, ite_self, Bool.not_true, Bool.not_false, Bool.false_eq_true, Bool.true_eq_false, Bool.true_and, Bool.false_and, Bool.and_true, Bool.and_false, not_true, not_false_iff, Option.bind_some, nn, toList_inj, Bool.not_eq_true', Bool.not_eq_false', Int.le_refl, and_self, true_and, and_true, false_and, and_false, bne_self_eq_false, beq_self_eq_true, Int.reduceEq, Nat.reduceEqDiff, List.length_singleton, List.tail_cons, Int.reduceLE, Int.reduceLT, decide_eq_true_eq]
      refine Ev2.bind d1 ?_
      cases h1 : partsM (bookW af es) 1 w with
      | cons x r =>
        simp only [nilC_cons, headD_one, strs_len, strs_elem, ints_len, ints_elem, items_list, fld_agg, elem_list, toStr_sc, toInt_sc, toBool_sc, headD_one, nat_int, get_bt, decide_eq_true_eq, decide_eq_false_iff_not, decide_true, decide_false, if_true, if_false, ite_self, Bool.not_true, Bool.not_false, Bool.false_eq_true, Bool.true_eq_false, Bool.true_and, Bool.false_and, Bool.and_true, Bool.and_false, not_true, not_false_iff, Option.bind_some, nn, toList_inj, Bool.not_eq_true', Bool.not_eq_false', Int.le_refl, and_self, true_and, and_true, false_and, and_false, bne_self_eq_false, beq_self_eq_true, Int.reduceEq, Nat.reduceEqDiff, List.length_singleton, List.tail_cons, Int.reduceLE, Int.reduceLT, decide_eq_true_eq]
        exact Ev2.now _
      | nil =>
        simp only [nilC_nil, headD_one, w1, strs_len, strs_elem, ints_len, ints_elem, items_list, fld_agg, elem_list, toStr_sc, toInt_sc, toBool_sc, headD_one, nat_int, get_bt, decide_eq_true_eq, decide_eq_false_iff_not, decide_true, decide_false, if_true, if_false, ite_self, Bool.not_true, Bool.not_false, Bool.false_eq_true, Bool.true_eq_false, Bool.true_and, Bool.false_and, Bool.and_true, Bool.and_false, not_true, not_false_iff, Option.bind_some, nn, toList_inj, Bool.not_eq_true', Bool.not_eq_false', Int.le_refl, and_self, true_and, and_true, false_and, and_false, bne_self_eq_false, beq_self_eq_true, Int.reduceEq, Nat.reduceEqDiff, List.length_singleton, List.tail_cons, Int.reduceLE, Int.reduceLT, decide_eq_true_eq]
        refine Ev2.succ ?_
        simp only [impl_PartsOf.l0_eq, strs_len, strs_elem, ints_len, ints_elem, items_list, fld_agg, elem_list, toStr_sc, toInt_sc, toBool_sc, headD_one, nat_int, get_bt, decide_eq_true_eq, decide_eq_false_iff_not, decide_true, decide_false, if_true, if_false, ite_self, Bool.not_true, Bool.not_false, Bool.false_eq_true, Bool.true_eq_false, Bool.true_and, Bool.false_and, Bool.and_true, Bool.and_false, not_true, not_false_iff, Option.bind_some, nn, toList_inj, Bool.not_eq_true', Bool.not_eq_false', Int.le_refl, and_self, true_and, and_true, false_and, and_false, bne_self_eq_false, beq_self_eq_true, Int.reduceEq, Nat.reduceEqDiff, List.length_singleton, List.tail_cons, Int.reduceLE, Int.reduceLT, decide_eq_true_eq]
        refine Ev2.bind d2 ?_
        cases h2 : partsM (bookW af es) 2 w with
        | cons x r =>
          simp only [nilC_cons, headD_one, strs_len, strs_elem, ints_len, ints_elem, items_list, fld_agg, elem_list, toStr_sc, toInt_sc, toBool_sc, headD_one, nat_int, get_bt, decide_eq_true_eq, decide_eq_false_iff_not, decide_true, decide_false, if_true, if_false, ite_self, Bool.not_true, Bool.not_false, Bool.false_eq_true, Bool.true_eq_false, Bool.true_and, Bool.false_and, Bool.and_true, Bool.and_false, not_true, not_false_iff, Option.bind_some, nn, toList_inj, Bool.not_eq_true', Bool.not_eq_false', Int.le_refl, and_self, true_and, and_true, false_and, and_false, bne_self_eq_false, beq_self_eq_true, Int.reduceEq, Nat.reduceEqDiff, List.length_singleton, List.tail_cons, Int.reduceLE, Int.reduceLT, decide_eq_true_eq]
          exact Ev2.now _
        | nil =>
          simp only [nilC_nil, headD_one, w2, strs_len, strs_elem, ints_len, ints_elem, items_list, fld_agg, elem_list, toStr_sc, toInt_sc, toBool_sc, headD_one, nat_int, get_bt, decide_eq_true_eq, decide_eq_false_iff_not, decide_true, decide_false, if_true, if_false, ite_self, Bool.not_true, Bool.not_false, Bool.false_eq_true, Bool.true_eq_false, Bool.true_and, Bool.false_and, Bool.and_true, Bool.and_false, not_true, not_false_iff, Option.bind_some, nn, toList_inj, Bool.not_eq_true', Bool.not_eq_false', Int.le_refl, and_self, true_and, and_true, false_and, and_false, bne_self_eq_false, beq_self_eq_true, Int.reduceEq, Nat.reduceEqDiff, List.length_singleton, List.tail_cons, Int.reduceLE, Int.reduceLT, decide_eq_true_eq]
          refine Ev2.succ ?_
          simp only [impl_PartsOf.l0_eq, ne, strs_len, strs_elem, ints_len, ints_elem, items_list, fld_agg, elem_list, toStr_sc, toInt_sc, toBool_sc, headD_one, nat_int, get_bt, decide_eq_true_eq, decide_eq_false_iff_not, decide_true, decide_false, if_true, if_false, ite_self, Bool.not_true, Bool.not_false, Bool.false_eq_true, Bool.true_eq_false, Bool.true_and, Bool.false_and, Bool.and_true, Bool.and_false, not_true, not_false_iff, Option.bind_some, nn, toList_inj, Bool.not_eq_true', Bool.not_eq_false', Int.le_refl, and_self, true_and, and_true, false_and, and_false, bne_self_eq_false, beq_self_eq_true, Int.reduceEq, Nat.reduceEqDiff, List.length_singleton, List.tail_cons, Int.reduceLE, Int.reduceLT, decide_eq_true_eq]
          exact Ev2.now _
/-! the reference -/
theorem l2In_loop {ws : List ByteArray} (hwl : ws.length ≤ 9223372036854775807) (s : ByteArray) : ∀ rest pre : List ByteArray, ws = pre ++ rest → Ev2 (fun N n => spec_l2In.l0 N n (strsP ws) s (pre.length : Int)) [boolP (decide (s ∈ rest))] := by
  intro rest
  induction rest with
  | nil =>
    intro pre hp
    refine Ev2.succ ?_
    simp only [spec_l2In.l0_eq, at_end hp, strs_len, strs_elem, ints_len, ints_elem, items_list, fld_agg, elem_list, toStr_sc, toInt_sc, toBool_sc, headD_one, nat_int, get_bt, decide_eq_true_eq, decide_eq_false_iff_not, decide_true, decide_false, if_true, if_false, ite_self, Bool.not_true, Bool.not_false, Bool.false_eq_true, Bool.true_eq_false, Bool.true_and, Bool.false_and, Bool.and_true, Bool.and_false, not_true, not_false_iff, Option.bind_some, nn, toList_inj, Bool.not_eq_true', Bool.not_eq_false', Int.le_refl, and_self, true_and, and_true, false_and, and_false, bne_self_eq_false, beq_self_eq_true, Int.reduceEq, Nat.reduceEqDiff, List.length_singleton, List.tail_cons, Int.reduceLE, Int.reduceLT, decide_eq_true_eq]
    exact Ev2.ext (Ev2.now _) (by simp)
  | cons c rest ih =>
    intro pre hp
    refine Ev2.succ ?_
    by_cases hc : c = s
    · simp only [spec_l2In.l0_eq, at_lt hp, at_getD hp, hc, strs_len, strs_elem, ints_len, ints_elem, items_list, fld_agg, elem_list, toStr_sc, toInt_sc, toBool_sc, headD_one, nat_int, get_bt, decide_eq_true_eq, decide_eq_false_iff_not, decide_true, decide_false, if_true, if_false, ite_self, Bool.not_true, Bool.not_false, Bool.false_eq_true, Bool.true_eq_false, Bool.true_and, Bool.false_and, Bool.and_true, Bool.and_false, not_true, not_false_iff, Option.bind_some, nn, toList_inj, Bool.not_eq_true', Bool.not_eq_false', Int.le_refl, and_self, true_and, and_true, false_and, and_false, bne_self_eq_false, beq_self_eq_true, Int.reduceEq, Nat.reduceEqDiff, List.length_singleton, List.tail_cons, Int.reduceLE, Int.reduceLT, decide_eq_true_eq]
      exact Ev2.ext (Ev2.now _) (by simp)
    · have hd : decide (s ∈ c :: rest) = decide (s ∈ rest) := by simp [Ne.symm hc]
      simp only [spec_l2In.l0_eq, at_lt hp, at_getD hp, hc, at_next hp hwl, hd, strs_len, strs_elem, ints_len, ints_elem, items_list, fld_agg, elem_list, toStr_sc, toInt_sc, toBool_sc, headD_one, nat_int, get_bt, decide_eq_true_eq, decide_eq_false_iff_not, decide_true, decide_false, if_true, if_false, ite_self, Bool.not_true, Bool.not_false, Bool.false_eq_true, Bool.true_eq_false, Bool.true_and, Bool.false_and, Bool.and_true, Bool.and_false, not_true, not_false_iff, Option.bind_some, nn, toList_inj, Bool.not_eq_true', Bool.not_eq_false', Int.le_refl, and_self, true_and, and_true, false_and, and_false, bne_self_eq_false, beq_self_eq_true, Int.reduceEq, Nat.reduceEqDiff, List.length_singleton, List.tail_cons, Int.reduceLE, Int.reduceLT, decide_eq_true_eq]
      exact ih _ (at_step hp)
theorem l2In_ev {ws : List ByteArray} (hwl : ws.length ≤ 9223372036854775807) (s : ByteArray) : Ev (fun N => spec_l2In.f N [strsP ws, PV.sc (.string s)]) [boolP (decide (s ∈ ws))] := by
  simp only [spec_l2In.f_eq, strs_len, strs_elem, ints_len, ints_elem, items_list, fld_agg, elem_list, toStr_sc, toInt_sc, toBool_sc, headD_one, nat_int, get_bt, decide_eq_true_eq, decide_eq_false_iff_not, decide_true, decide_false, if_true, if_false, ite_self, Bool.not_true, Bool.not_false, Bool.false_eq_true, Bool.true_eq_false, Bool.true_and, Bool.false_and, Bool.and_true, Bool.and_false, not_true, not_false_iff, Option.bind_some, nn, toList_inj, Bool.not_eq_true', Bool.not_eq_false', Int.le_refl, and_self, true_and, and_true, false_and, and_false, bne_self_eq_false, beq_self_eq_true, Int.reduceEq, Nat.reduceEqDiff, List.length_singleton, List.tail_cons, Int.reduceLE, Int.reduceLT, decide_eq_true_eq]
  exact (l2In_loop hwl s ws [] rfl).diag
theorem parts_l0 {ws : List ByteArray} (hwl : ws.length ≤ 1000000) {w : ByteArray} (hw : w.size ≤ 1000000) {M : Nat} (hM : M ≤ 10)
    (hrec : ∀ v, 3 ≤ v.size → v.size ≤ 1000000 → Ev2 (fun N d => spec_l10Parts.g N d [strsP ws, strP v, intP ((M + 1 : Nat) : Int)]) [strsP (partsM ws M v)]) :
    ∀ d0 k : Nat, (1 ≤ d0 → k + d0 + 2 = w.size) → (d0 = 0 → w.size < k + 3) → 3 ≤ k → k ≤ w.size + 3 →
    Ev3 (fun N d n => spec_l10Parts.l0 N d n (strsP ws) w ((M + 2 : Nat) : Int) (k : Int)) [strsP (partsAt ws (partsM ws M) w d0 k)] := by
  have w2 : IntKind.i64.wrap (((M + 2 : Nat) : Int) - 1) = ((M + 1 : Nat) : Int) := nat_wrap (by omega) (by omega)
  intro d0
  induction d0 with
  | zero =>
    intro k _ h0 h3 hk3
    have h0' := h0 rfl
    have w1 : IntKind.i64.wrap ((k : Int) + 3) = ((k + 3 : Nat) : Int) := nat_wrap (by omega) (by omega)
    have c0 : (((k + 3 : Nat) : Int) ≤ (w.size : Int)) = False := fls (by omega)
    refine Ev3.succ ?_
    simp only [spec_l10Parts.l0_eq, w1, c0, strs_len, strs_elem, ints_len, ints_elem, items_list, fld_agg, elem_list, toStr_sc, toInt_sc, toBool_sc, headD_one, nat_int, get_bt, decide_eq_true_eq, decide_eq_false_iff_not, decide_true, decide_false, if_true, if_false, ite_self, Bool.not_true, Bool.not_false, Bool.false_eq_true, Bool.true_eq_false, Bool.true_and, Bool.false_and, Bool.and_true, Bool.and_false, not_true, not_false_iff, Option.bind_some, nn, toList_inj, Bool.not_eq_true', Bool.not_eq_false', Int.le_refl, and_self, true_and, and_true, false_and, and_false, bne_self_eq_false, beq_self_eq_true, Int.reduceEq, Nat.reduceEqDiff, List.length_singleton, List.tail_cons, Int.reduceLE, Int.reduceLT, decide_eq_true_eq]
    exact Ev3.now _
  | succ d0 ih =>
    intro k hk _ h3 _
    have hk' := hk (by omega)
    have w1 : IntKind.i64.wrap ((k : Int) + 3) = ((k + 3 : Nat) : Int) := nat_wrap (by omega) (by omega)
    have c0 : (((k + 3 : Nat) : Int) ≤ (w.size : Int)) = True := tru (by omega)
    have c1 : ((k : Int) ≤ (w.size : Int)) = True := tru (by omega)
    have wn : IntKind.i64.wrap ((k : Int) + 1) = ((k + 1 : Nat) : Int) := nat_wrap (by omega) (by omega)
    have hnext := ih (k + 1) (fun _ => by omega) (fun h => by omega) (by omega) (by omega)
    refine Ev3.succ ?_
    simp only [spec_l10Parts.l0_eq, w1, c0, c1, nn, strs_len, strs_elem, ints_len, ints_elem, items_list, fld_agg, elem_list, toStr_sc, toInt_sc, toBool_sc, headD_one, nat_int, get_bt, decide_eq_true_eq, decide_eq_false_iff_not, decide_true, decide_false, if_true, if_false, ite_self, Bool.not_true, Bool.not_false, Bool.false_eq_true, Bool.true_eq_false, Bool.true_and, Bool.false_and, Bool.and_true, Bool.and_false, not_true, not_false_iff, Option.bind_some, nn, toList_inj, Bool.not_eq_true', Bool.not_eq_false', Int.le_refl, and_self, true_and, and_true, false_and, and_false, bne_self_eq_false, beq_self_eq_true, Int.reduceEq, Nat.reduceEqDiff, List.length_singleton, List.tail_cons, Int.reduceLE, Int.reduceLT, decide_eq_true_eq]
    refine Ev3.bind (l2In_ev (by omega) _) ?_
    rw [partsAt]
    by_cases hm : w.extract 0 k ∈ ws
    · have hz : (w.extract k w.size).size = w.size - k := by rw [ByteArray.size_extract]; omega
      have hr := hrec (w.extract k w.size) (by omega) (by omega)
      simp only [strP] at hr
      simp only [hm, w2, strs_len, strs_elem, ints_len, ints_elem, items_list, fld_agg, elem_list, toStr_sc, toInt_sc, toBool_sc, headD_one, nat_int, get_bt, decide_eq_true_eq, decide_eq_false_iff_not, decide_true, decide_false, if_true, if_false, ite_self, Bool.not_true, Bool.not_false, Bool.false_eq_true, Bool.true_eq_false, Bool.true_and, Bool.false_and, Bool.and_true, Bool.and_false, not_true, not_false_iff, Option.bind_some, nn, toList_inj, Bool.not_eq_true', Bool.not_eq_false', Int.le_refl, and_self, true_and, and_true, false_and, and_false, bne_self_eq_false, beq_self_eq_true, Int.reduceEq, Nat.reduceEqDiff, List.length_singleton, List.tail_cons, Int.reduceLE, Int.reduceLT, decide_eq_true_eq]
      refine Ev3.bind2 hr ?_
      cases hp : partsM ws M (w.extract k w.size) with
      | nil =>
        have c3 : ((0 : Int) < (([] : List ByteArray).length : Int)) = False := fls (by simp)
        simp only [headD_one, strs_len, c3, wn, strs_len, strs_elem, ints_len, ints_elem, items_list, fld_agg, elem_list, toStr_sc, toInt_sc, toBool_sc, headD_one, nat_int, get_bt, decide_eq_true_eq, decide_eq_false_iff_not, decide_true, decide_false, if_true, if_false, ite_self, Bool.not_true, Bool.not_false, Bool.false_eq_true, Bool.true_eq_false, Bool.true_and, Bool.false_and, Bool.and_true, Bool.and_false, not_true, not_false_iff, Option.bind_some, nn, toList_inj, Bool.not_eq_true', Bool.not_eq_false', Int.le_refl, and_self, true_and, and_true, false_and, and_false, bne_self_eq_false, beq_self_eq_true, Int.reduceEq, Nat.reduceEqDiff, List.length_singleton, List.tail_cons, Int.reduceLE, Int.reduceLT, decide_eq_true_eq]
        exact hnext
      | cons x r =>
        have hl := (partsM_ok ws M (w.extract k w.size) (by omega) (by rw [hp]; simp)).len
        rw [hp, List.length_cons] at hl
        have c3 : ((0 : Int) < ((x :: r).length : Int)) = True := tru (by simp)
        have c2 : (1 + (x :: r).length ≤ 8796093022208) = True := tru (by simp; omega)
        have ej : PV.list ([PV.sc (.string (w.extract 0 k))] ++ (strsP (x :: r)).items) = strsP (w.extract 0 k :: x :: r) := rfl
        simp only [headD_one, strs_len, List.length_singleton, c3, c2, ej, if_true, decide_true]
        exact Ev3.now _
    · simp only [hm, wn, strs_len, strs_elem, ints_len, ints_elem, items_list, fld_agg, elem_list, toStr_sc, toInt_sc, toBool_sc, headD_one, nat_int, get_bt, decide_eq_true_eq, decide_eq_false_iff_not, decide_true, decide_false, if_true, if_false, ite_self, Bool.not_true, Bool.not_false, Bool.false_eq_true, Bool.true_eq_false, Bool.true_and, Bool.false_and, Bool.and_true, Bool.and_false, not_true, not_false_iff, Option.bind_some, nn, toList_inj, Bool.not_eq_true', Bool.not_eq_false', Int.le_refl, and_self, true_and, and_true, false_and, and_false, bne_self_eq_false, beq_self_eq_true, Int.reduceEq, Nat.reduceEqDiff, List.length_singleton, List.tail_cons, Int.reduceLE, Int.reduceLT, decide_eq_true_eq]
      exact hnext
theorem parts_g {ws : List ByteArray} (hwl : ws.length ≤ 1000000) : ∀ (M : Nat) (w : ByteArray), M ≤ 10 → w.size ≤ 1000000 →
    Ev2 (fun N d => spec_l10Parts.g N d [strsP ws, strP w, intP ((M + 1 : Nat) : Int)]) [strsP (partsM ws M w)] := by
  intro M
  induction M with
  | zero =>
    intro w _ hw
    have c0 : (((0 + 1 : Nat) : Int) = 1) = True := tru rfl
    refine Ev2.succ ?_
    simp only [spec_l10Parts.g_eq, c0, strs_len, strs_elem, ints_len, ints_elem, items_list, fld_agg, elem_list, toStr_sc, toInt_sc, toBool_sc, headD_one, nat_int, get_bt, decide_eq_true_eq, decide_eq_false_iff_not, decide_true, decide_false, if_true, if_false, ite_self, Bool.not_true, Bool.not_false, Bool.false_eq_true, Bool.true_eq_false, Bool.true_and, Bool.false_and, Bool.and_true, Bool.and_false, not_true, not_false_iff, Option.bind_some, nn, toList_inj, Bool.not_eq_true', Bool.not_eq_false', Int.le_refl, and_self, true_and, and_true, false_and, and_false, bne_self_eq_false, beq_self_eq_true, Int.reduceEq, Nat.reduceEqDiff, List.length_singleton, List.tail_cons, Int.reduceLE, Int.reduceLT, decide_eq_true_eq]
    refine Ev2.bind (l2In_ev (by omega) w) ?_
    unfold partsM
    by_cases hm : w ∈ ws
    · simp only [hm, strs_len, strs_elem, ints_len, ints_elem, items_list, fld_agg, elem_list, toStr_sc, toInt_sc, toBool_sc, headD_one, nat_int, get_bt, decide_eq_true_eq, decide_eq_false_iff_not, decide_true, decide_false, if_true, if_false, ite_self, Bool.not_true, Bool.not_false, Bool.false_eq_true, Bool.true_eq_false, Bool.true_and, Bool.false_and, Bool.and_true, Bool.and_false, not_true, not_false_iff, Option.bind_some, nn, toList_inj, Bool.not_eq_true', Bool.not_eq_false', Int.le_refl, and_self, true_and, and_true, false_and, and_false, bne_self_eq_false, beq_self_eq_true, Int.reduceEq, Nat.reduceEqDiff, List.length_singleton, List.tail_cons, Int.reduceLE, Int.reduceLT, decide_eq_true_eq]; exact Ev2.now _
    · simp only [hm, strs_len, strs_elem, ints_len, ints_elem, items_list, fld_agg, elem_list, toStr_sc, toInt_sc, toBool_sc, headD_one, nat_int, get_bt, decide_eq_true_eq, decide_eq_false_iff_not, decide_true, decide_false, if_true, if_false, ite_self, Bool.not_true, Bool.not_false, Bool.false_eq_true, Bool.true_eq_false, Bool.true_and, Bool.false_and, Bool.and_true, Bool.and_false, not_true, not_false_iff, Option.bind_some, nn, toList_inj, Bool.not_eq_true', Bool.not_eq_false', Int.le_refl, and_self, true_and, and_true, false_and, and_false, bne_self_eq_false, beq_self_eq_true, Int.reduceEq, Nat.reduceEqDiff, List.length_singleton, List.tail_cons, Int.reduceLE, Int.reduceLT, decide_eq_true_eq]; exact Ev2.now _
  | succ M ih =>
    intro w hM hw
    have c0 : (((M + 1 + 1 : Nat) : Int) = 1) = False := fls (by omega)
    have h := Ev3.row (parts_l0 hwl hw (by omega : M ≤ 10) (fun v h3 hv => ih v (by omega) hv) (w.size - 5) 3 (fun _ => by omega) (fun _ => by omega) (Nat.le_refl _) (by omega))
    refine Ev2.succ ?_
    simp only [spec_l10Parts.g_eq, c0, strs_len, strs_elem, ints_len, ints_elem, items_list, fld_agg, elem_list, toStr_sc, toInt_sc, toBool_sc, headD_one, nat_int, get_bt, decide_eq_true_eq, decide_eq_false_iff_not, decide_true, decide_false, if_true, if_false, ite_self, Bool.not_true, Bool.not_false, Bool.false_eq_true, Bool.true_eq_false, Bool.true_and, Bool.false_and, Bool.and_true, Bool.and_false, not_true, not_false_iff, Option.bind_some, nn, toList_inj, Bool.not_eq_true', Bool.not_eq_false', Int.le_refl, and_self, true_and, and_true, false_and, and_false, bne_self_eq_false, beq_self_eq_true, Int.reduceEq, Nat.reduceEqDiff, List.length_singleton, List.tail_cons, Int.reduceLE, Int.reduceLT, decide_eq_true_eq]
    exact h
theorem l10Of_ev {ws : List ByteArray} (hwl : ws.length ≤ 1000000) (w : ByteArray) (hw : w.size ≤ 1000000) : Ev (fun N => spec_l10Of.f N [strsP ws, PV.sc (.string w)]) [strsP (partsB ws w)] := by
  have d1 := parts_g (ws := ws) hwl 1 w (by omega) hw
  have d2 := parts_g (ws := ws) hwl 2 w (by omega) hw
  have e1 : (((1 + 1 : Nat)) : Int) = 2 := rfl
  have e2 : (((2 + 1 : Nat)) : Int) = 3 := rfl
  rw [e1] at d1
  rw [e2] at d2
  simp only [strP, intP] at d1 d2
  simp only [spec_l10Of.f_eq, spec_l10Parts.f_eq, strs_len, strs_elem, ints_len, ints_elem, items_list, fld_agg, elem_list, toStr_sc, toInt_sc, toBool_sc, headD_one, nat_int, get_bt, decide_eq_true_eq, decide_eq_false_iff_not, decide_true, decide_false, if_true, if_false, ite_self, Bool.not_true, Bool.not_false, Bool.false_eq_true, Bool.true_eq_false, Bool.true_and, Bool.false_and, Bool.and_true, Bool.and_false, not_true, not_false_iff, Option.bind_some, nn, toList_inj, Bool.not_eq_true', Bool.not_eq_false', Int.le_refl, and_self, true_and, and_true, false_and, and_false, bne_self_eq_false, beq_self_eq_true, Int.reduceEq, Nat.reduceEqDiff, List.length_singleton, List.tail_cons, Int.reduceLE, Int.reduceLT, decide_eq_true_eq]
  refine Ev.bind d1.diag ?_
  unfold partsB
  cases h1 : partsM ws 1 w with
  | cons x r =>
    have c3 : ((0 : Int) < ((x :: r).length : Int)) = True := tru (by simp)
    simp only [c3, strs_len, strs_elem, ints_len, ints_elem, items_list, fld_agg, elem_list, toStr_sc, toInt_sc, toBool_sc, headD_one, nat_int, get_bt, decide_eq_true_eq, decide_eq_false_iff_not, decide_true, decide_false, if_true, if_false, ite_self, Bool.not_true, Bool.not_false, Bool.false_eq_true, Bool.true_eq_false, Bool.true_and, Bool.false_and, Bool.and_true, Bool.and_false, not_true, not_false_iff, Option.bind_some, nn, toList_inj, Bool.not_eq_true', Bool.not_eq_false', Int.le_refl, and_self, true_and, and_true, false_and, and_false, bne_self_eq_false, beq_self_eq_true, Int.reduceEq, Nat.reduceEqDiff, List.length_singleton, List.tail_cons, Int.reduceLE, Int.reduceLT, decide_eq_true_eq]
    exact Ev.now _
  | nil =>
    have c3 : ((0 : Int) < (([] : List ByteArray).length : Int)) = False := fls (by simp)
    simp only [c3, strs_len, strs_elem, ints_len, ints_elem, items_list, fld_agg, elem_list, toStr_sc, toInt_sc, toBool_sc, headD_one, nat_int, get_bt, decide_eq_true_eq, decide_eq_false_iff_not, decide_true, decide_false, if_true, if_false, ite_self, Bool.not_true, Bool.not_false, Bool.false_eq_true, Bool.true_eq_false, Bool.true_and, Bool.false_and, Bool.and_true, Bool.and_false, not_true, not_false_iff, Option.bind_some, nn, toList_inj, Bool.not_eq_true', Bool.not_eq_false', Int.le_refl, and_self, true_and, and_true, false_and, and_false, bne_self_eq_false, beq_self_eq_true, Int.reduceEq, Nat.reduceEqDiff, List.length_singleton, List.tail_cons, Int.reduceLE, Int.reduceLT, decide_eq_true_eq]
    refine Ev.bind d2.diag ?_
    simp only [strs_len, strs_elem, ints_len, ints_elem, items_list, fld_agg, elem_list, toStr_sc, toInt_sc, toBool_sc, headD_one, nat_int, get_bt, decide_eq_true_eq, decide_eq_false_iff_not, decide_true, decide_false, if_true, if_false, ite_self, Bool.not_true, Bool.not_false, Bool.false_eq_true, Bool.true_eq_false, Bool.true_and, Bool.false_and, Bool.and_true, Bool.and_false, not_true, not_false_iff, Option.bind_some, nn, toList_inj, Bool.not_eq_true', Bool.not_eq_false', Int.le_refl, and_self, true_and, and_true, false_and, and_false, bne_self_eq_false, beq_self_eq_true, Int.reduceEq, Nat.reduceEqDiff, List.length_singleton, List.tail_cons, Int.reduceLE, Int.reduceLT, decide_eq_true_eq]
    exact Ev.now _
theorem specParts_ev {af : List Aff} {es : List Ent} (hs : BookS af es) (w : ByteArray) (hw : w.size ≤ 1000000000) : Ev (fun N => spec_PartsOf.f N [bookP af es, strP w]) [strsP (partsR af es w)] := by
  have hwo := specWord_ev w (by omega)
  simp only [strP] at hwo
  have ne : PV.list [] = strsP [] := rfl
  simp only [spec_PartsOf.f_eq, book_f0, book_f1, book_agg, strs_len, strs_elem, ints_len, ints_elem, items_list, fld_agg, elem_list, toStr_sc, toInt_sc, toBool_sc, headD_one, nat_int, get_bt, decide_eq_true_eq, decide_eq_false_iff_not, decide_true, decide_false, if_true, if_false, ite_self, Bool.not_true, Bool.not_false, Bool.false_eq_true, Bool.true_eq_false, Bool.true_and, Bool.false_and, Bool.and_true, Bool.and_false, not_true, not_false_iff, Option.bind_some, nn, toList_inj, Bool.not_eq_true', Bool.not_eq_false', Int.le_refl, and_self, true_and, and_true, false_and, and_false, bne_self_eq_false, beq_self_eq_true, Int.reduceEq, Nat.reduceEqDiff, List.length_singleton, List.tail_cons, Int.reduceLE, Int.reduceLT, decide_eq_true_eq]
  refine Ev.bind (specBookOk_ev hs) ?_
  cases hb : bookB af es with
  | false =>
    simp only [partsR, hb, ne, strs_len, strs_elem, ints_len, ints_elem, items_list, fld_agg, elem_list, toStr_sc, toInt_sc, toBool_sc, headD_one, nat_int, get_bt, decide_eq_true_eq, decide_eq_false_iff_not, decide_true, decide_false, if_true, if_false, ite_self, Bool.not_true, Bool.not_false, Bool.false_eq_true, Bool.true_eq_false, Bool.true_and, Bool.false_and, Bool.and_true, Bool.and_false, not_true, not_false_iff, Option.bind_some, nn, toList_inj, Bool.not_eq_true', Bool.not_eq_false', Int.le_refl, and_self, true_and, and_true, false_and, and_false, bne_self_eq_false, beq_self_eq_true, Int.reduceEq, Nat.reduceEqDiff, List.length_singleton, List.tail_cons, Int.reduceLE, Int.reduceLT, decide_eq_true_eq]
    exact Ev.now _
  | true =>
    simp only [strs_len, strs_elem, ints_len, ints_elem, items_list, fld_agg, elem_list, toStr_sc, toInt_sc, toBool_sc, headD_one, nat_int, get_bt, decide_eq_true_eq, decide_eq_false_iff_not, decide_true, decide_false, if_true, if_false, ite_self, Bool.not_true, Bool.not_false, Bool.false_eq_true, Bool.true_eq_false, Bool.true_and, Bool.false_and, Bool.and_true, Bool.and_false, not_true, not_false_iff, Option.bind_some, nn, toList_inj, Bool.not_eq_true', Bool.not_eq_false', Int.le_refl, and_self, true_and, and_true, false_and, and_false, bne_self_eq_false, beq_self_eq_true, Int.reduceEq, Nat.reduceEqDiff, List.length_singleton, List.tail_cons, Int.reduceLE, Int.reduceLT, decide_eq_true_eq]
    refine Ev.bind hwo ?_
    cases hi : isWord w with
    | false =>
      simp only [partsR, hb, hi, ne, strs_len, strs_elem, ints_len, ints_elem, items_list, fld_agg, elem_list, toStr_sc, toInt_sc, toBool_sc, headD_one, nat_int, get_bt, decide_eq_true_eq, decide_eq_false_iff_not, decide_true, decide_false, if_true, if_false, ite_self, Bool.not_true, Bool.not_false, Bool.false_eq_true, Bool.true_eq_false, Bool.true_and, Bool.false_and, Bool.and_true, Bool.and_false, not_true, not_false_iff, Option.bind_some, nn, toList_inj, Bool.not_eq_true', Bool.not_eq_false', Int.le_refl, and_self, true_and, and_true, false_and, and_false, bne_self_eq_false, beq_self_eq_true, Int.reduceEq, Nat.reduceEqDiff, List.length_singleton, List.tail_cons, Int.reduceLE, Int.reduceLT, decide_eq_true_eq]
      exact Ev.now _
    | true =>
      have hF := bookB_facts hb
      have hlen := bookW_len hF
      have hsz := word_size hi
      simp only [strs_len, strs_elem, ints_len, ints_elem, items_list, fld_agg, elem_list, toStr_sc, toInt_sc, toBool_sc, headD_one, nat_int, get_bt, decide_eq_true_eq, decide_eq_false_iff_not, decide_true, decide_false, if_true, if_false, ite_self, Bool.not_true, Bool.not_false, Bool.false_eq_true, Bool.true_eq_false, Bool.true_and, Bool.false_and, Bool.and_true, Bool.and_false, not_true, not_false_iff, Option.bind_some, nn, toList_inj, Bool.not_eq_true', Bool.not_eq_false', Int.le_refl, and_self, true_and, and_true, false_and, and_false, bne_self_eq_false, beq_self_eq_true, Int.reduceEq, Nat.reduceEqDiff, List.length_singleton, List.tail_cons, Int.reduceLE, Int.reduceLT, decide_eq_true_eq]
      refine Ev.bind (bookW_ok hF) ?_
      simp only [partsR, hb, hi, strs_len, strs_elem, ints_len, ints_elem, items_list, fld_agg, elem_list, toStr_sc, toInt_sc, toBool_sc, headD_one, nat_int, get_bt, decide_eq_true_eq, decide_eq_false_iff_not, decide_true, decide_false, if_true, if_false, ite_self, Bool.not_true, Bool.not_false, Bool.false_eq_true, Bool.true_eq_false, Bool.true_and, Bool.false_and, Bool.and_true, Bool.and_false, not_true, not_false_iff, Option.bind_some, nn, toList_inj, Bool.not_eq_true', Bool.not_eq_false', Int.le_refl, and_self, true_and, and_true, false_and, and_false, bne_self_eq_false, beq_self_eq_true, Int.reduceEq, Nat.reduceEqDiff, List.length_singleton, List.tail_cons, Int.reduceLE, Int.reduceLT, decide_eq_true_eq]
      refine Ev.bind (l10Of_ev (by omega) w (by omega)) ?_
      simp only [strs_len, strs_elem, ints_len, ints_elem, items_list, fld_agg, elem_list, toStr_sc, toInt_sc, toBool_sc, headD_one, nat_int, get_bt, decide_eq_true_eq, decide_eq_false_iff_not, decide_true, decide_false, if_true, if_false, ite_self, Bool.not_true, Bool.not_false, Bool.false_eq_true, Bool.true_eq_false, Bool.true_and, Bool.false_and, Bool.and_true, Bool.and_false, not_true, not_false_iff, Option.bind_some, nn, toList_inj, Bool.not_eq_true', Bool.not_eq_false', Int.le_refl, and_self, true_and, and_true, false_and, and_false, bne_self_eq_false, beq_self_eq_true, Int.reduceEq, Nat.reduceEqDiff, List.length_singleton, List.tail_cons, Int.reduceLE, Int.reduceLT, decide_eq_true_eq]
      exact Ev.now _
theorem implKnows_ev {af : List Aff} {es : List Ent} (hs : BookS af es) (hb : bookB af es = true) (w : ByteArray) : Ev (fun N => impl_BookKnows.f N [bookP af es, strP w]) [boolP (decide (w ∈ bookW af es))] := by
  have hF := bookB_facts hb
  have hlen := bookW_len hF
  have hct := contains_ev (bookW af es) w (by omega)
  simp only [strP] at hct
  have hok := implBookOk_ev hs
  rw [hb] at hok
  simp only [impl_BookKnows.f_eq, book_f0, book_f1, book_agg, strs_len, strs_elem, ints_len, ints_elem, items_list, fld_agg, elem_list, toStr_sc, toInt_sc, toBool_sc, headD_one, nat_int, get_bt, decide_eq_true_eq, decide_eq_false_iff_not, decide_true, decide_false, if_true, if_false, ite_self, Bool.not_true, Bool.not_false, Bool.false_eq_true, Bool.true_eq_false, Bool.true_and, Bool.false_and, Bool.and_true, Bool.and_false, not_true, not_false_iff, Option.bind_some, nn, toList_inj, Bool.not_eq_true', Bool.not_eq_false', Int.le_refl, and_self, true_and, and_true, false_and, and_false, bne_self_eq_false, beq_self_eq_true, Int.reduceEq, Nat.reduceEqDiff, List.length_singleton, List.tail_cons, Int.reduceLE, Int.reduceLT, decide_eq_true_eq]
  refine Ev.bind hok ?_
  simp only [strs_len, strs_elem, ints_len, ints_elem, items_list, fld_agg, elem_list, toStr_sc, toInt_sc, toBool_sc, headD_one, nat_int, get_bt, decide_eq_true_eq, decide_eq_false_iff_not, decide_true, decide_false, if_true, if_false, ite_self, Bool.not_true, Bool.not_false, Bool.false_eq_true, Bool.true_eq_false, Bool.true_and, Bool.false_and, Bool.and_true, Bool.and_false, not_true, not_false_iff, Option.bind_some, nn, toList_inj, Bool.not_eq_true', Bool.not_eq_false', Int.le_refl, and_self, true_and, and_true, false_and, and_false, bne_self_eq_false, beq_self_eq_true, Int.reduceEq, Nat.reduceEqDiff, List.length_singleton, List.tail_cons, Int.reduceLE, Int.reduceLT, decide_eq_true_eq]
  refine Ev.bind (implBookW_ev hF) ?_
  simp only [strs_len, strs_elem, ints_len, ints_elem, items_list, fld_agg, elem_list, toStr_sc, toInt_sc, toBool_sc, headD_one, nat_int, get_bt, decide_eq_true_eq, decide_eq_false_iff_not, decide_true, decide_false, if_true, if_false, ite_self, Bool.not_true, Bool.not_false, Bool.false_eq_true, Bool.true_eq_false, Bool.true_and, Bool.false_and, Bool.and_true, Bool.and_false, not_true, not_false_iff, Option.bind_some, nn, toList_inj, Bool.not_eq_true', Bool.not_eq_false', Int.le_refl, and_self, true_and, and_true, false_and, and_false, bne_self_eq_false, beq_self_eq_true, Int.reduceEq, Nat.reduceEqDiff, List.length_singleton, List.tail_cons, Int.reduceLE, Int.reduceLT, decide_eq_true_eq]
  refine Ev.bind hct ?_
  simp only [strs_len, strs_elem, ints_len, ints_elem, items_list, fld_agg, elem_list, toStr_sc, toInt_sc, toBool_sc, headD_one, nat_int, get_bt, decide_eq_true_eq, decide_eq_false_iff_not, decide_true, decide_false, if_true, if_false, ite_self, Bool.not_true, Bool.not_false, Bool.false_eq_true, Bool.true_eq_false, Bool.true_and, Bool.false_and, Bool.and_true, Bool.and_false, not_true, not_false_iff, Option.bind_some, nn, toList_inj, Bool.not_eq_true', Bool.not_eq_false', Int.le_refl, and_self, true_and, and_true, false_and, and_false, bne_self_eq_false, beq_self_eq_true, Int.reduceEq, Nat.reduceEqDiff, List.length_singleton, List.tail_cons, Int.reduceLE, Int.reduceLT, decide_eq_true_eq]
  exact Ev.now _
theorem mdTexts_loop (a : List ByteArray) (ha : a.length ≤ 9223372036854775807) : ∀ rest pre : List ByteArray, a = pre ++ rest → Ev2 (fun N n => laws_mdTexts.l0 N n (strsP a) (strsP a) (pre.length : Int)) [boolP true] := by
  intro rest
  induction rest with
  | nil =>
    intro pre hp
    refine Ev2.succ ?_
    simp only [laws_mdTexts.l0_eq, at_end hp, strs_len, strs_elem, ints_len, ints_elem, items_list, fld_agg, elem_list, toStr_sc, toInt_sc, toBool_sc, headD_one, nat_int, get_bt, decide_eq_true_eq, decide_eq_false_iff_not, decide_true, decide_false, if_true, if_false, ite_self, Bool.not_true, Bool.not_false, Bool.false_eq_true, Bool.true_eq_false, Bool.true_and, Bool.false_and, Bool.and_true, Bool.and_false, not_true, not_false_iff, Option.bind_some, nn, toList_inj, Bool.not_eq_true', Bool.not_eq_false', Int.le_refl, and_self, true_and, and_true, false_and, and_false, bne_self_eq_false, beq_self_eq_true, Int.reduceEq, Nat.reduceEqDiff, List.length_singleton, List.tail_cons, Int.reduceLE, Int.reduceLT, decide_eq_true_eq]
    exact Ev2.now _
  | cons c rest ih =>
    intro pre hp
    refine Ev2.succ ?_
    simp only [laws_mdTexts.l0_eq, at_lt hp, at_next hp ha, strs_len, strs_elem, ints_len, ints_elem, items_list, fld_agg, elem_list, toStr_sc, toInt_sc, toBool_sc, headD_one, nat_int, get_bt, decide_eq_true_eq, decide_eq_false_iff_not, decide_true, decide_false, if_true, if_false, ite_self, Bool.not_true, Bool.not_false, Bool.false_eq_true, Bool.true_eq_false, Bool.true_and, Bool.false_and, Bool.and_true, Bool.and_false, not_true, not_false_iff, Option.bind_some, nn, toList_inj, Bool.not_eq_true', Bool.not_eq_false', Int.le_refl, and_self, true_and, and_true, false_and, and_false, bne_self_eq_false, beq_self_eq_true, Int.reduceEq, Nat.reduceEqDiff, List.length_singleton, List.tail_cons, Int.reduceLE, Int.reduceLT, decide_eq_true_eq]
    exact ih _ (at_step hp)
theorem mdTexts_ev (a : List ByteArray) (ha : a.length ≤ 9223372036854775807) : Ev (fun N => laws_mdTexts.f N [strsP a, strsP a]) [boolP true] := by
  simp only [laws_mdTexts.f_eq, strs_len, strs_elem, ints_len, ints_elem, items_list, fld_agg, elem_list, toStr_sc, toInt_sc, toBool_sc, headD_one, nat_int, get_bt, decide_eq_true_eq, decide_eq_false_iff_not, decide_true, decide_false, if_true, if_false, ite_self, Bool.not_true, Bool.not_false, Bool.false_eq_true, Bool.true_eq_false, Bool.true_and, Bool.false_and, Bool.and_true, Bool.and_false, not_true, not_false_iff, Option.bind_some, nn, toList_inj, Bool.not_eq_true', Bool.not_eq_false', Int.le_refl, and_self, true_and, and_true, false_and, and_false, bne_self_eq_false, beq_self_eq_true, Int.reduceEq, Nat.reduceEqDiff, List.length_singleton, List.tail_cons, Int.reduceLE, Int.reduceLT, decide_eq_true_eq]
  exact (mdTexts_loop a ha a [] rfl).diag
/-! #### a book, drawn: words without a w, and a few more -/
def noW (s : ByteArray) : Bool := s.data.toList.all fun c => c != 119
theorem noW_app {a b : ByteArray} (ha : noW a = true) (hb : noW b = true) : noW (a ++ b) = true := by
  unfold noW at *
  rw [ByteArray.data_append, Array.toList_append, List.all_append, ha, hb]; rfl
theorem noW_in {l : List ByteArray} (h : l.all noW = true) {s : ByteArray} (hs : s ∈ l) : noW s = true := List.all_eq_true.1 h s hs
theorem wordX_loop {b : PV} (hb : Code1 b) : ∀ (c p : Nat) (x : ByteArray), p + c < 1000000000 → x.size + 2 * c ≤ 12 → (1 ≤ c ∨ 1 ≤ x.size) → noW x = true → ∃ (r : ByteArray) (q : Nat), q ≤ p + c ∧ 1 ≤ r.size ∧ r.size ≤ 12 ∧ noW r = true ∧ Ev2 (fun N n => spec_l13Word.l0 N n x (c : Int) b (p : Int)) [strP r, rdP b (q : Int)] := by
  intro c
  induction c with
  | zero =>
    intro p x hp hx h1 hno
    refine ⟨x, p, by omega, by omega, by omega, hno, Ev2.succ ?_⟩
    have h0 : ¬ (0 : Int) < ((0 : Nat) : Int) := by omega
    have hm : (if (x.size : Int) < 12 then (x.size : Int) else 12) = (x.size : Int) := by split <;> omega
    simp only [spec_l13Word.l0_eq, h0, least_val, hm, strs_len, strs_elem, ints_len, ints_elem, items_list, fld_agg, elem_list, toStr_sc, toInt_sc, toBool_sc, headD_one, nat_int, get_bt, decide_eq_true_eq, decide_eq_false_iff_not, decide_true, decide_false, if_true, if_false, ite_self, Bool.not_true, Bool.not_false, Bool.false_eq_true, Bool.true_eq_false, Bool.true_and, Bool.false_and, Bool.and_true, Bool.and_false, not_true, not_false_iff, Option.bind_some, nn, toList_inj, Bool.not_eq_true', Bool.not_eq_false', Int.le_refl, and_self, true_and, and_true, false_and, and_false, bne_self_eq_false, beq_self_eq_true, Int.reduceEq, Nat.reduceEqDiff, List.length_singleton, List.tail_cons, Int.reduceLE, Int.reduceLT, decide_eq_true_eq, extract_all, rd_agg]
    exact Ev2.now _
  | succ c ih =>
    intro p x hp hx h1 hno
    obtain ⟨s, hs, hf⟩ := of_ev hb (p := (p : Int)) (by omega) [ByteArray.mk #[97], ByteArray.mk #[98], ByteArray.mk #[99], ByteArray.mk #[97, 98], ByteArray.mk #[116]] (by simp)
    have hsz : 1 ≤ s.size ∧ s.size ≤ 2 := by
      have ha : ∀ s ∈ [ByteArray.mk #[97], ByteArray.mk #[98], ByteArray.mk #[99], ByteArray.mk #[97, 98], ByteArray.mk #[116]], 1 ≤ s.size ∧ s.size ≤ 2 := szs_in rfl
      exact ha s hs
    have hsn : noW s = true := noW_in (l := [ByteArray.mk #[97], ByteArray.mk #[98], ByteArray.mk #[99], ByteArray.mk #[97, 98], ByteArray.mk #[116]]) (by decide) hs
    obtain ⟨r, q, h2, h3, h4, h6, h5⟩ := ih (p + 1) (x ++ s) (by omega) (by rw [ByteArray.size_append]; omega) (.inr (by rw [ByteArray.size_append]; omega)) (noW_app hno hsn)
    refine ⟨r, q, by omega, h3, h4, h6, Ev2.succ ?_⟩
    have h0 : (0 : Int) < ((c + 1 : Nat) : Int) := by omega
    have hw : IntKind.i64.wrap (((c + 1 : Nat) : Int) - 1) = (c : Int) := by rw [wrap_id (by omega) (by omega)]; omega
    have hl : x.size + s.size ≤ 9223372036854775807 := by omega
    have hp1 : ((p : Int) + 1) = ((p + 1 : Nat) : Int) := by omega
    have e : PV.list [PV.sc (.string (ByteArray.mk #[97])), PV.sc (.string (ByteArray.mk #[98])), PV.sc (.string (ByteArray.mk #[99])), PV.sc (.string (ByteArray.mk #[97, 98])), PV.sc (.string (ByteArray.mk #[116]))] = strsP [ByteArray.mk #[97], ByteArray.mk #[98], ByteArray.mk #[99], ByteArray.mk #[97, 98], ByteArray.mk #[116]] := rfl
    simp only [spec_l13Word.l0_eq, h0, hw, hl, e, rd_agg, hf, rd_f0, rd_f1, hp1, strs_len, strs_elem, ints_len, ints_elem, items_list, fld_agg, elem_list, toStr_sc, toInt_sc, toBool_sc, headD_one, nat_int, get_bt, decide_eq_true_eq, decide_eq_false_iff_not, decide_true, decide_false, if_true, if_false, ite_self, Bool.not_true, Bool.not_false, Bool.false_eq_true, Bool.true_eq_false, Bool.true_and, Bool.false_and, Bool.and_true, Bool.and_false, not_true, not_false_iff, Option.bind_some, nn, toList_inj, Bool.not_eq_true', Bool.not_eq_false', Int.le_refl, and_self, true_and, and_true, false_and, and_false, bne_self_eq_false, beq_self_eq_true, Int.reduceEq, Nat.reduceEqDiff, List.length_singleton, List.tail_cons, Int.reduceLE, Int.reduceLT, decide_eq_true_eq]
    exact h5
theorem wordX_ev {b : PV} (hb : Code1 b) (p : Nat) (hp : p < 900000000) : ∃ (r : ByteArray) (q : Nat), q ≤ p + 10 ∧ 1 ≤ r.size ∧ r.size ≤ 12 ∧ noW r = true ∧ Ev (fun N => spec_l13Word.f N [rdP b (p : Int)]) [strP r, rdP b (q : Int)] := by
  obtain ⟨k, hk, hf⟩ := pick_ev hb (p := (p : Int)) (n := 3) (by omega) (by omega)
  by_cases h0 : k = 0
  · obtain ⟨k2, hk2, hf2⟩ := pick_ev hb (p := (p : Int) + 1) (n := 5) (by omega) (by omega)
    obtain ⟨j, rfl⟩ := Int.eq_ofNat_of_zero_le hk2.1
    obtain ⟨r, q, h2, h3, h4, h6, h5⟩ := wordX_loop hb (1 + j) (p + 2) ⟨#[]⟩ (by omega) (by have : (ByteArray.mk #[]).size = 0 := rfl; omega) (.inl (by omega)) rfl
    refine ⟨r, q, by omega, h3, h4, h6, ?_⟩
    have hw : IntKind.i64.wrap (1 + (j : Int)) = ((1 + j : Nat) : Int) := by rw [wrap_id (by omega) (by omega)]; omega
    have hp1 : ((p : Int) + 1 + 1) = ((p + 2 : Nat) : Int) := by omega
    simp only [spec_l13Word.f_eq, rd_f0, rd_f1, rd_agg, hf, h0, hf2, hw, hp1, strs_len, strs_elem, ints_len, ints_elem, items_list, fld_agg, elem_list, toStr_sc, toInt_sc, toBool_sc, headD_one, nat_int, get_bt, decide_eq_true_eq, decide_eq_false_iff_not, decide_true, decide_false, if_true, if_false, ite_self, Bool.not_true, Bool.not_false, Bool.false_eq_true, Bool.true_eq_false, Bool.true_and, Bool.false_and, Bool.and_true, Bool.and_false, not_true, not_false_iff, Option.bind_some, nn, toList_inj, Bool.not_eq_true', Bool.not_eq_false', Int.le_refl, and_self, true_and, and_true, false_and, and_false, bne_self_eq_false, beq_self_eq_true, Int.reduceEq, Nat.reduceEqDiff, List.length_singleton, List.tail_cons, Int.reduceLE, Int.reduceLT, decide_eq_true_eq]
    exact h5.diag
  · obtain ⟨s, hs, hf2⟩ := of_ev hb (p := (p : Int) + 1) (by omega) wordsL (by simp [wordsL])
    have ha : ∀ s ∈ wordsL, 1 ≤ s.size ∧ s.size ≤ 12 := szs_in rfl
    refine ⟨s, p + 2, by omega, (ha s hs).1, (ha s hs).2, noW_in (l := wordsL) (by decide) hs, ?_⟩
    have hp1 : ((p : Int) + 1 + 1) = ((p + 2 : Nat) : Int) := by omega
    have e : PV.list [PV.sc (.string (ByteArray.mk #[99, 97, 116])), PV.sc (.string (ByteArray.mk #[99, 97, 116, 115])), PV.sc (.string (ByteArray.mk #[97, 99, 116])), PV.sc (.string (ByteArray.mk #[100, 111])), PV.sc (.string (ByteArray.mk #[100, 111, 105, 110, 103])), PV.sc (.string (ByteArray.mk #[103, 111])), PV.sc (.string (ByteArray.mk #[117, 110, 100, 111])), PV.sc (.string (ByteArray.mk #[116, 114, 121])), PV.sc (.string (ByteArray.mk #[116, 114, 105, 101, 115])), PV.sc (.string (ByteArray.mk #[97])), PV.sc (.string (ByteArray.mk #[98, 97, 107, 101])), PV.sc (.string (ByteArray.mk #[98, 97, 107, 105, 110, 103])), PV.sc (.string (ByteArray.mk #[116, 97, 99, 116])), PV.sc (.string (ByteArray.mk #[99, 97, 114, 116])), PV.sc (.string (ByteArray.mk #[97, 98, 99, 97, 98, 99, 97, 98, 99, 97, 98, 99]))] = strsP wordsL := rfl
    simp only [spec_l13Word.f_eq, rd_f0, rd_f1, rd_agg, hf, h0, e, hf2, hp1, strs_len, strs_elem, ints_len, ints_elem, items_list, fld_agg, elem_list, toStr_sc, toInt_sc, toBool_sc, headD_one, nat_int, get_bt, decide_eq_true_eq, decide_eq_false_iff_not, decide_true, decide_false, if_true, if_false, ite_self, Bool.not_true, Bool.not_false, Bool.false_eq_true, Bool.true_eq_false, Bool.true_and, Bool.false_and, Bool.and_true, Bool.and_false, not_true, not_false_iff, Option.bind_some, nn, toList_inj, Bool.not_eq_true', Bool.not_eq_false', Int.le_refl, and_self, true_and, and_true, false_and, and_false, bne_self_eq_false, beq_self_eq_true, Int.reduceEq, Nat.reduceEqDiff, List.length_singleton, List.tail_cons, Int.reduceLE, Int.reduceLT, decide_eq_true_eq]
    exact Ev.now _
def affLL : List Aff := [⟨⟨#[83]⟩, false, ⟨#[]⟩, ⟨#[115]⟩, ⟨#[]⟩⟩, ⟨⟨#[83]⟩, false, ⟨#[121]⟩, ⟨#[105, 101, 115]⟩, ⟨#[121]⟩⟩, ⟨⟨#[71]⟩, false, ⟨#[]⟩, ⟨#[105, 110, 103]⟩, ⟨#[]⟩⟩, ⟨⟨#[71]⟩, false, ⟨#[101]⟩, ⟨#[105, 110, 103]⟩, ⟨#[101]⟩⟩, ⟨⟨#[85]⟩, true, ⟨#[]⟩, ⟨#[117, 110]⟩, ⟨#[]⟩⟩, ⟨⟨#[82]⟩, true, ⟨#[97]⟩, ⟨#[98]⟩, ⟨#[97]⟩⟩, ⟨⟨#[84]⟩, false, ⟨#[]⟩, ⟨#[116]⟩, ⟨#[97, 99]⟩⟩, ⟨⟨#[67]⟩, false, ⟨#[]⟩, ⟨#[97, 98, 99]⟩, ⟨#[]⟩⟩]
theorem affLL_good : ∀ a ∈ affLL, AffG a := fun a ha => by
  have h : (affLL.all fun a => decide (a.strip.size ≤ a.cond.size ∧ a.add.size ≤ 1000000)) = true := rfl
  have := of_decide_eq_true (List.all_eq_true.1 h a ha)
  exact ⟨this.1, this.2⟩
theorem affix_ev {b : PV} (hb : Code1 b) (p : Nat) (hp : p < 900000000) : ∃ a ∈ affLL, ∀ N, spec_l13Affix.f N [rdP b (p : Int)] = some [affP a, rdP b ((p + 1 : Nat) : Int)] := by
  obtain ⟨k, hk, hf⟩ := pick_ev hb (p := (p : Int)) (n := (8 : Int)) (by omega) (by omega)
  obtain ⟨j, rfl⟩ := Int.eq_ofNat_of_zero_le hk.1
  have hj : j < affLL.length := by have : affLL.length = 8 := rfl; omega
  have hj8 : ((j : Int) < 8) = True := eq_true (by omega)
  have hp1 : (p : Int) + 1 = ((p + 1 : Nat) : Int) := by omega
  rw [hp1] at hf
  obtain ⟨pre, rest, hpr, hpl⟩ : ∃ pre rest, affLL = pre ++ affLL[j] :: rest ∧ pre.length = j := ⟨affLL.take j, affLL.drop (j + 1), by rw [← List.drop_eq_getElem_cons hj, List.take_append_drop], by rw [List.length_take]; omega⟩
  have he := affs_elem hpr
  rw [hpl] at he
  refine ⟨affLL[j], List.getElem_mem hj, fun N => ?_⟩
  have e8 : ((affLL.map affP).length : Int) = 8 := rfl
  have hall : spec_l13Affix.f N [rdP b (p : Int)] = (spec_l1Rd_pick.f N [rdP b (p : Int), intP ((affLL.map affP).length : Int)]).bind fun t1 => if 0 ≤ ((t1.headD default).toInt) then (if ((t1.headD default).toInt) < ((affLL.map affP).length : Int) then (some [(PV.agg [(PV.sc (.string ((((affsP affLL).elem (((t1.headD default).toInt).toNat)).fld 0).toStr))), (PV.sc (.bool ((((affsP affLL).elem (((t1.headD default).toInt).toNat)).fld 1).toBool))), (PV.sc (.string ((((affsP affLL).elem (((t1.headD default).toInt).toNat)).fld 2).toStr))), (PV.sc (.string ((((affsP affLL).elem (((t1.headD default).toInt).toNat)).fld 3).toStr))), (PV.sc (.string ((((affsP affLL).elem (((t1.headD default).toInt).toNat)).fld 4).toStr)))]), (PV.agg [(rdP b (p : Int)).fld 0, (PV.sc (.int .i64 (((t1.tail.headD default).fld 1).toInt)))])]) else none) else none := spec_l13Affix.f_eq N _
  rw [hall, e8, hf]
  simp only [hj8, nn, he, aff_f0, aff_f1, aff_f2, aff_f3, aff_f4, aff_agg, rd_f0, rd_f1, rd_agg, strs_len, strs_elem, ints_len, ints_elem, items_list, fld_agg, elem_list, toStr_sc, toInt_sc, toBool_sc, headD_one, nat_int, get_bt, decide_eq_true_eq, decide_eq_false_iff_not, decide_true, decide_false, if_true, if_false, ite_self, Bool.not_true, Bool.not_false, Bool.false_eq_true, Bool.true_eq_false, Bool.true_and, Bool.false_and, Bool.and_true, Bool.and_false, not_true, not_false_iff, Option.bind_some, nn, toList_inj, Bool.not_eq_true', Bool.not_eq_false', Int.le_refl, and_self, true_and, and_true, false_and, and_false, bne_self_eq_false, beq_self_eq_true, Int.reduceEq, Nat.reduceEqDiff, List.length_singleton, List.tail_cons, Int.reduceLE, Int.reduceLT, decide_eq_true_eq]
structure AffsB (l : List Aff) (n : Nat) : Prop where
  n : l.length ≤ n
  s : ∀ a ∈ l, a ∈ affLL
theorem affs_snoc (l : List Aff) (a : Aff) : l.map affP ++ [affP a] = (l ++ [a]).map affP := by simp
theorem affixes_l1 {b : PV} (l : List Aff) (hl : l.length ≤ 100) (a : Aff) (c q : Nat) (hc : c < 100) {Q : List Aff → List PV → Prop}
    (hnext : ∀ l', l' = l ∨ l' = l ++ [a] → ∃ r, Q l' r ∧ Ev2 (fun N m => spec_l13Affixes.l0 N m (c : Int) b (q : Int) (l'.map affP)) r) :
    ∀ (rest pre : List Aff) (known : Bool), l = pre ++ rest → ∃ l', (l' = l ∨ l' = l ++ [a]) ∧ ∃ r, Q l' r ∧ Ev3 (fun N m n => spec_l13Affixes.l1 N m n ((c + 1 : Nat) : Int) known (pre.length : Int) b (q : Int) (l.map affP) a.flag a.front a.strip a.add a.cond) r := by
  have w1 : IntKind.i64.wrap (((c + 1 : Nat) : Int) - 1) = (c : Int) := nat_wrap (by omega) (by omega)
  have c1 : (l.length + 1 ≤ 1954687338268) = True := eq_true (by omega)
  intro rest
  induction rest with
  | nil =>
    intro pre known hp
    cases known with
    | true =>
      obtain ⟨r, hq, hv⟩ := hnext l (.inl rfl)
      refine ⟨l, .inl rfl, r, hq, Ev3.succ ?_⟩
      simp only [spec_l13Affixes.l1_eq, List.length_map, at_end hp, w1, strs_len, strs_elem, ints_len, ints_elem, items_list, fld_agg, elem_list, toStr_sc, toInt_sc, toBool_sc, headD_one, nat_int, get_bt, decide_eq_true_eq, decide_eq_false_iff_not, decide_true, decide_false, if_true, if_false, ite_self, Bool.not_true, Bool.not_false, Bool.false_eq_true, Bool.true_eq_false, Bool.true_and, Bool.false_and, Bool.and_true, Bool.and_false, not_true, not_false_iff, Option.bind_some, nn, toList_inj, Bool.not_eq_true', Bool.not_eq_false', Int.le_refl, and_self, true_and, and_true, false_and, and_false, bne_self_eq_false, beq_self_eq_true, Int.reduceEq, Nat.reduceEqDiff, List.length_singleton, List.tail_cons, Int.reduceLE, Int.reduceLT, decide_eq_true_eq]
      exact hv.outer
    | false =>
      obtain ⟨r, hq, hv⟩ := hnext (l ++ [a]) (.inr rfl)
      refine ⟨l ++ [a], .inr rfl, r, hq, Ev3.succ ?_⟩
      simp only [spec_l13Affixes.l1_eq, List.length_map, at_end hp, w1, c1, aff_agg, affs_snoc, strs_len, strs_elem, ints_len, ints_elem, items_list, fld_agg, elem_list, toStr_sc, toInt_sc, toBool_sc, headD_one, nat_int, get_bt, decide_eq_true_eq, decide_eq_false_iff_not, decide_true, decide_false, if_true, if_false, ite_self, Bool.not_true, Bool.not_false, Bool.false_eq_true, Bool.true_eq_false, Bool.true_and, Bool.false_and, Bool.and_true, Bool.and_false, not_true, not_false_iff, Option.bind_some, nn, toList_inj, Bool.not_eq_true', Bool.not_eq_false', Int.le_refl, and_self, true_and, and_true, false_and, and_false, bne_self_eq_false, beq_self_eq_true, Int.reduceEq, Nat.reduceEqDiff, List.length_singleton, List.tail_cons, Int.reduceLE, Int.reduceLT, decide_eq_true_eq]
      exact hv.outer
  | cons x rest ih =>
    intro pre known hp
    cases known with
    | true =>
      obtain ⟨l', h1, r, h2, h3⟩ := ih _ true (at_step hp)
      refine ⟨l', h1, r, h2, Ev3.succ ?_⟩
      simp only [spec_l13Affixes.l1_eq, List.length_map, at_lt hp, at_next hp (by omega), strs_len, strs_elem, ints_len, ints_elem, items_list, fld_agg, elem_list, toStr_sc, toInt_sc, toBool_sc, headD_one, nat_int, get_bt, decide_eq_true_eq, decide_eq_false_iff_not, decide_true, decide_false, if_true, if_false, ite_self, Bool.not_true, Bool.not_false, Bool.false_eq_true, Bool.true_eq_false, Bool.true_and, Bool.false_and, Bool.and_true, Bool.and_false, not_true, not_false_iff, Option.bind_some, nn, toList_inj, Bool.not_eq_true', Bool.not_eq_false', Int.le_refl, and_self, true_and, and_true, false_and, and_false, bne_self_eq_false, beq_self_eq_true, Int.reduceEq, Nat.reduceEqDiff, List.length_singleton, List.tail_cons, Int.reduceLE, Int.reduceLT, decide_eq_true_eq]
      exact h3
    | false =>
      have e : PV.list (l.map affP) = affsP l := rfl
      obtain ⟨kn, hkn⟩ : ∃ kn : Bool, kn = ((decide ((((affP x).fld 0).toStr).toList = a.flag.toList) && ((((affP x).fld 1).toBool == a.front) && (decide ((((affP x).fld 2).toStr).toList = a.strip.toList) && (decide ((((affP x).fld 3).toStr).toList = a.add.toList) && (decide ((((affP x).fld 4).toStr).toList = a.cond.toList) && true)))))) := ⟨_, rfl⟩
      obtain ⟨l', h1, r, h2, h3⟩ := ih _ kn (at_step hp)
      refine ⟨l', h1, r, h2, Ev3.succ ?_⟩
      simp only [spec_l13Affixes.l1_eq, List.length_map, at_lt hp, at_next hp (by omega), e, nat_int, affs_elem hp, ← hkn, nn, if_true, if_false, decide_true, decide_false, Bool.false_eq_true, Bool.true_eq_false]
      exact h3
theorem affixes_l0 {b : PV} (hb : Code1 b) : ∀ (c p : Nat) (l : List Aff), p + c < 800000000 → c < 100 → AffsB l (100 - c) → ∃ (r : List Aff) (q : Nat), q ≤ p + c ∧ AffsB r 100 ∧ r.length ≤ l.length + c ∧ Ev2 (fun N n => spec_l13Affixes.l0 N n (c : Int) b (p : Int) (l.map affP)) [affsP r, rdP b (q : Int)] := by
  intro c
  induction c with
  | zero =>
    intro p l hp hc hl
    refine ⟨l, p, by omega, ⟨by have := hl.n; omega, hl.s⟩, by omega, Ev2.succ ?_⟩
    have h0 : ¬ (0 : Int) < ((0 : Nat) : Int) := by omega
    have e : PV.list (l.map affP) = affsP l := rfl
    simp only [spec_l13Affixes.l0_eq, h0, e, rd_agg, strs_len, strs_elem, ints_len, ints_elem, items_list, fld_agg, elem_list, toStr_sc, toInt_sc, toBool_sc, headD_one, nat_int, get_bt, decide_eq_true_eq, decide_eq_false_iff_not, decide_true, decide_false, if_true, if_false, ite_self, Bool.not_true, Bool.not_false, Bool.false_eq_true, Bool.true_eq_false, Bool.true_and, Bool.false_and, Bool.and_true, Bool.and_false, not_true, not_false_iff, Option.bind_some, nn, toList_inj, Bool.not_eq_true', Bool.not_eq_false', Int.le_refl, and_self, true_and, and_true, false_and, and_false, bne_self_eq_false, beq_self_eq_true, Int.reduceEq, Nat.reduceEqDiff, List.length_singleton, List.tail_cons, Int.reduceLE, Int.reduceLT, decide_eq_true_eq]
    exact Ev2.now _
  | succ c ih =>
    intro p l hp hc hl
    have h0 : (0 : Int) < ((c + 1 : Nat) : Int) := by omega
    have hln := hl.n
    obtain ⟨a, ha, hf⟩ := affix_ev hb p (by omega)
    obtain ⟨l', hl', r, ⟨r', q, h1, h2, h3, h4⟩, hv⟩ := affixes_l1 (b := b) l (by omega) a c (p + 1) (by omega) (Q := fun l' r => ∃ r' q, q ≤ p + 1 + c ∧ AffsB r' 100 ∧ r'.length ≤ l.length + 1 + c ∧ r = [affsP r', rdP b ((q : Nat) : Int)])
      (fun l' hl' => by
        have hB : AffsB l' (100 - c) ∧ l'.length ≤ l.length + 1 := by
          rcases hl' with rfl | rfl
          · exact ⟨⟨by omega, hl.s⟩, by omega⟩
          · refine ⟨⟨by rw [List.length_append, List.length_singleton]; omega, all_snoc hl.s ha⟩, by rw [List.length_append, List.length_singleton]; omega⟩
        obtain ⟨r', q, h1, h2, h3, h4⟩ := ih (p + 1) l' (by omega) (by omega) hB.1
        exact ⟨_, ⟨r', q, h1, h2, by have := hB.2; omega, rfl⟩, h4⟩) l [] false rfl
    refine ⟨r', q, by omega, h2, by omega, Ev2.succ ?_⟩
    rw [h4] at hv
    simp only [spec_l13Affixes.l0_eq, h0, rd_agg, hf, rd_f1, aff_f0, aff_f1, aff_f2, aff_f3, aff_f4, strs_len, strs_elem, ints_len, ints_elem, items_list, fld_agg, elem_list, toStr_sc, toInt_sc, toBool_sc, headD_one, nat_int, get_bt, decide_eq_true_eq, decide_eq_false_iff_not, decide_true, decide_false, if_true, if_false, ite_self, Bool.not_true, Bool.not_false, Bool.false_eq_true, Bool.true_eq_false, Bool.true_and, Bool.false_and, Bool.and_true, Bool.and_false, not_true, not_false_iff, Option.bind_some, nn, toList_inj, Bool.not_eq_true', Bool.not_eq_false', Int.le_refl, and_self, true_and, and_true, false_and, and_false, bne_self_eq_false, beq_self_eq_true, Int.reduceEq, Nat.reduceEqDiff, List.length_singleton, List.tail_cons, Int.reduceLE, Int.reduceLT, decide_eq_true_eq]
    exact hv.start
theorem affixes_ev {b : PV} (hb : Code1 b) (p : Nat) (hp : p < 700000000) : ∃ (r : List Aff) (q : Nat), q ≤ p + 10 ∧ AffsB r 4 ∧ Ev (fun N => spec_l13Affixes.f N [rdP b (p : Int)]) [affsP r, rdP b (q : Int)] := by
  obtain ⟨c, hc, hf⟩ := pick_ev hb (p := (p : Int)) (n := 5) (by omega) (by omega)
  obtain ⟨c, rfl⟩ := Int.eq_ofNat_of_zero_le hc.1
  have hp1 : (p : Int) + 1 = ((p + 1 : Nat) : Int) := by omega
  rw [hp1] at hf
  obtain ⟨r, q, h1, h2, h3, h4⟩ := affixes_l0 hb c (p + 1) [] (by omega) (by omega) ⟨by simp, by simp⟩
  refine ⟨r, q, by omega, ⟨by simp at h3; omega, h2.s⟩, ?_⟩
  simp only [spec_l13Affixes.f_eq, rd_f0, rd_f1, rd_agg, hf, strs_len, strs_elem, ints_len, ints_elem, items_list, fld_agg, elem_list, toStr_sc, toInt_sc, toBool_sc, headD_one, nat_int, get_bt, decide_eq_true_eq, decide_eq_false_iff_not, decide_true, decide_false, if_true, if_false, ite_self, Bool.not_true, Bool.not_false, Bool.false_eq_true, Bool.true_eq_false, Bool.true_and, Bool.false_and, Bool.and_true, Bool.and_false, not_true, not_false_iff, Option.bind_some, nn, toList_inj, Bool.not_eq_true', Bool.not_eq_false', Int.le_refl, and_self, true_and, and_true, false_and, and_false, bne_self_eq_false, beq_self_eq_true, Int.reduceEq, Nat.reduceEqDiff, List.length_singleton, List.tail_cons, Int.reduceLE, Int.reduceLT, decide_eq_true_eq]
  exact h4.diag
def flagsL : List ByteArray := [⟨#[]⟩, ⟨#[]⟩, ⟨#[83]⟩, ⟨#[71, 83]⟩, ⟨#[85]⟩, ⟨#[71, 85]⟩, ⟨#[82]⟩, ⟨#[84]⟩, ⟨#[67, 82, 83, 85]⟩]
theorem flags_size {s : ByteArray} (h : s ∈ flagsL) : s.size ≤ 4 := (szs_in (l := flagsL) (a := 0) (b := 4) rfl s h).2
theorem entry_ev {b : PV} (hb : Code1 b) (p : Nat) (hp : p < 900000000) (s : ByteArray) : ∃ f ∈ flagsL, ∀ N, spec_l13Entry.f N [rdP b (p : Int), strP s] = some [entP ⟨s, f⟩, rdP b ((p + 1 : Nat) : Int)] := by
  obtain ⟨f, hm, hf⟩ := of_ev hb (p := (p : Int)) (by omega) flagsL (by simp [flagsL])
  have e : PV.list [PV.sc (.string (ByteArray.mk #[])), PV.sc (.string (ByteArray.mk #[])), PV.sc (.string (ByteArray.mk #[83])), PV.sc (.string (ByteArray.mk #[71, 83])), PV.sc (.string (ByteArray.mk #[85])), PV.sc (.string (ByteArray.mk #[71, 85])), PV.sc (.string (ByteArray.mk #[82])), PV.sc (.string (ByteArray.mk #[84])), PV.sc (.string (ByteArray.mk #[67, 82, 83, 85]))] = strsP flagsL := rfl
  have hp1 : (p : Int) + 1 = ((p + 1 : Nat) : Int) := by omega
  rw [hp1] at hf
  have e2 : PV.agg [PV.sc (.string s), PV.sc (.string f)] = entP ⟨s, f⟩ := rfl
  refine ⟨f, hm, fun N => ?_⟩
  simp only [spec_l13Entry.f_eq, rd_f0, rd_f1, rd_agg, e, hf, e2, strs_len, strs_elem, ints_len, ints_elem, items_list, fld_agg, elem_list, toStr_sc, toInt_sc, toBool_sc, headD_one, nat_int, get_bt, decide_eq_true_eq, decide_eq_false_iff_not, decide_true, decide_false, if_true, if_false, ite_self, Bool.not_true, Bool.not_false, Bool.false_eq_true, Bool.true_eq_false, Bool.true_and, Bool.false_and, Bool.and_true, Bool.and_false, not_true, not_false_iff, Option.bind_some, nn, toList_inj, Bool.not_eq_true', Bool.not_eq_false', Int.le_refl, and_self, true_and, and_true, false_and, and_false, bne_self_eq_false, beq_self_eq_true, Int.reduceEq, Nat.reduceEqDiff, List.length_singleton, List.tail_cons, Int.reduceLE, Int.reduceLT, decide_eq_true_eq]
structure BookB (af : List Aff) (es : List Ent) : Prop where
  a : AffsB af 4
  n : es.length ≤ 24
  s : ∀ e ∈ es, e.stem.size ≤ 12 ∧ e.flags ∈ flagsL
theorem ents_snoc (l : List Ent) (e : Ent) : l.map entP ++ [entP e] = (l ++ [e]).map entP := by simp
theorem book_l7 {b : PV} (hb : Code1 b) (af : List Aff) (ws : List ByteArray) (hwl : ws.length ≤ 100) (hws : ∀ x ∈ ws, x.size ≤ 12) : ∀ (rest pre : List ByteArray) (es : List Ent) (p : Nat), ws = pre ++ rest → p + rest.length < 900000000 → es.length = pre.length → (∀ e ∈ es, e.stem.size ≤ 12 ∧ e.flags ∈ flagsL) →
    ∃ (r : List Ent) (q : Nat), q ≤ p + rest.length ∧ r.length = ws.length ∧ (∀ e ∈ r, e.stem.size ≤ 12 ∧ e.flags ∈ flagsL) ∧ Ev2 (fun N n => spec_l13Book.l7 N n (pre.length : Int) b (p : Int) (strsP ws) (affsP af) (es.map entP)) [bookP af r, rdP b (q : Int)] := by
  intro rest
  induction rest with
  | nil =>
    intro pre es p hp hpb hl hes
    refine ⟨es, p, by omega, by rw [hp, hl]; simp, hes, Ev2.succ ?_⟩
    have e : PV.agg [affsP af, PV.list (es.map entP)] = bookP af es := rfl
    simp only [spec_l13Book.l7_eq, at_end hp, e, rd_agg, strs_len, strs_elem, ints_len, ints_elem, items_list, fld_agg, elem_list, toStr_sc, toInt_sc, toBool_sc, headD_one, nat_int, get_bt, decide_eq_true_eq, decide_eq_false_iff_not, decide_true, decide_false, if_true, if_false, ite_self, Bool.not_true, Bool.not_false, Bool.false_eq_true, Bool.true_eq_false, Bool.true_and, Bool.false_and, Bool.and_true, Bool.and_false, not_true, not_false_iff, Option.bind_some, nn, toList_inj, Bool.not_eq_true', Bool.not_eq_false', Int.le_refl, and_self, true_and, and_true, false_and, and_false, bne_self_eq_false, beq_self_eq_true, Int.reduceEq, Nat.reduceEqDiff, List.length_singleton, List.tail_cons, Int.reduceLE, Int.reduceLT, decide_eq_true_eq]
    exact Ev2.now _
  | cons w rest ih =>
    intro pre es p hp hpb hl hes
    rw [List.length_cons] at hpb
    have hw := hws w (by rw [hp]; simp)
    obtain ⟨f, hm, hf⟩ := entry_ev hb p (by omega) w
    simp only [strP] at hf
    have hln := at_ltN hp
    have c1 : (es.length + 1 ≤ 4398046511104) = True := eq_true (by omega)
    obtain ⟨r, q, h1, h2, h3, h4⟩ := ih _ (es ++ [⟨w, f⟩]) (p + 1) (at_step hp) (by omega) (by simp [hl]) (all_snoc hes ⟨hw, hm⟩)
    refine ⟨r, q, by rw [List.length_cons]; omega, h2, h3, Ev2.succ ?_⟩
    simp only [spec_l13Book.l7_eq, at_lt hp, at_getD hp, at_next hp (by omega), hf, rd_agg, rd_f1, ent_f0, ent_f1, List.length_map, c1, strs_len, strs_elem, ints_len, ints_elem, items_list, fld_agg, elem_list, toStr_sc, toInt_sc, toBool_sc, headD_one, nat_int, get_bt, decide_eq_true_eq, decide_eq_false_iff_not, decide_true, decide_false, if_true, if_false, ite_self, Bool.not_true, Bool.not_false, Bool.false_eq_true, Bool.true_eq_false, Bool.true_and, Bool.false_and, Bool.and_true, Bool.and_false, not_true, not_false_iff, Option.bind_some, nn, toList_inj, Bool.not_eq_true', Bool.not_eq_false', Int.le_refl, and_self, true_and, and_true, false_and, and_false, bne_self_eq_false, beq_self_eq_true, Int.reduceEq, Nat.reduceEqDiff, List.length_singleton, List.tail_cons, Int.reduceLE, Int.reduceLT, decide_eq_true_eq]
    rw [ent_agg ⟨w, f⟩, ents_snoc]
    exact h4
theorem book_l5 {b : PV} (hb : Code1 b) (af : List Aff) (ws : List ByteArray) (hwl : ws.length ≤ 100) (hws : ∀ x ∈ ws, x.size ≤ 12) (p : Nat) (hpb : p < 800000000) :
    ∃ (r : List Ent) (q : Nat), q ≤ p + ws.length ∧ r.length = ws.length ∧ (∀ e ∈ r, e.stem.size ≤ 12 ∧ e.flags ∈ flagsL) ∧ Ev2 (fun N n => spec_l13Book.l5 N n 0 b (p : Int) (strsP ws) (affsP af)) [bookP af r, rdP b (q : Int)] := by
  cases ws with
  | nil =>
    have e : PV.agg [affsP af, PV.list []] = bookP af [] := rfl
    have h0 : ((0 : Int) < (([] : List ByteArray).length : Int)) = False := eq_false (by simp)
    refine ⟨[], p, by omega, rfl, by simp, Ev2.succ ?_⟩
    simp only [spec_l13Book.l5_eq, strs_len, h0, e, rd_agg, strs_len, strs_elem, ints_len, ints_elem, items_list, fld_agg, elem_list, toStr_sc, toInt_sc, toBool_sc, headD_one, nat_int, get_bt, decide_eq_true_eq, decide_eq_false_iff_not, decide_true, decide_false, if_true, if_false, ite_self, Bool.not_true, Bool.not_false, Bool.false_eq_true, Bool.true_eq_false, Bool.true_and, Bool.false_and, Bool.and_true, Bool.and_false, not_true, not_false_iff, Option.bind_some, nn, toList_inj, Bool.not_eq_true', Bool.not_eq_false', Int.le_refl, and_self, true_and, and_true, false_and, and_false, bne_self_eq_false, beq_self_eq_true, Int.reduceEq, Nat.reduceEqDiff, List.length_singleton, List.tail_cons, Int.reduceLE, Int.reduceLT, decide_eq_true_eq]
    exact Ev2.now _
  | cons w rest =>
    have hw := hws w (by simp)
    have hp : w :: rest = [] ++ w :: rest := rfl
    have e0 : (0 : Int) = (([] : List ByteArray).length : Int) := rfl
    rw [List.length_cons] at hwl
    obtain ⟨f, hm, hf⟩ := entry_ev hb p (by omega) w
    simp only [strP] at hf
    obtain ⟨r, q, h1, h2, h3, h4⟩ := book_l7 hb af (w :: rest) (by rw [List.length_cons]; omega) hws rest [w] [⟨w, f⟩] (p + 1) rfl (by omega) rfl (by simpa using ⟨hw, hm⟩)
    refine ⟨r, q, by rw [List.length_cons]; omega, h2, h3, Ev2.succ ?_⟩
    have c1 : (([] : List PV).length + 1 ≤ 4398046511104) = True := eq_true (by simp)
    rw [e0]
    simp only [spec_l13Book.l5_eq, at_lt hp, at_getD hp, at_next hp (by rw [List.length_cons]; omega), hf, rd_agg, rd_f1, ent_f0, ent_f1, c1, List.nil_append, strs_len, strs_elem, ints_len, ints_elem, items_list, fld_agg, elem_list, toStr_sc, toInt_sc, toBool_sc, headD_one, nat_int, get_bt, decide_eq_true_eq, decide_eq_false_iff_not, decide_true, decide_false, if_true, if_false, ite_self, Bool.not_true, Bool.not_false, Bool.false_eq_true, Bool.true_eq_false, Bool.true_and, Bool.false_and, Bool.and_true, Bool.and_false, not_true, not_false_iff, Option.bind_some, nn, toList_inj, Bool.not_eq_true', Bool.not_eq_false', Int.le_refl, and_self, true_and, and_true, false_and, and_false, bne_self_eq_false, beq_self_eq_true, Int.reduceEq, Nat.reduceEqDiff, List.length_singleton, List.tail_cons, Int.reduceLE, Int.reduceLT, decide_eq_true_eq]
    rw [ent_agg ⟨w, f⟩]
    exact h4
def wB (k : Nat) : ByteArray := (ByteArray.mk #[119]) ++ (bytesOfL [(PV.sc (.int .u8 (IntKind.u8.wrap (IntKind.i64.wrap (97 + (k : Int))))))])
theorem wB_data {k : Nat} (hk : k < 100) : (wB k).data.toList = [119, UInt8.ofNat (97 + k)] := by
  have e1 : IntKind.i64.wrap (97 + (k : Int)) = ((97 + k : Nat) : Int) := nat_wrap (by omega) (by omega)
  have e2 : IntKind.u8.wrap ((97 + k : Nat) : Int) = ((97 + k : Nat) : Int) := by simp [IntKind.wrap, IntKind.signed, IntKind.bits]; omega
  unfold wB
  rw [e1, e2, ByteArray.data_append, Array.toList_append]
  rfl
theorem wB_size (k : Nat) : (wB k).size = 2 := by
  unfold wB
  rw [ByteArray.size_append]
  have : ∀ l : List PV, (bytesOfL l).size = l.length := fun l => by simp [bytesOfL, ByteArray.size]
  rw [this]; rfl
theorem wB_noW {k : Nat} (hk : k < 100) : noW (wB k) = false := by
  unfold noW
  rw [wB_data hk]; rfl
theorem wB_inj {j k : Nat} (hj : j < 100) (hk : k < 100) (h : wB j = wB k) : j = k := by
  have h1 := congrArg (fun s : ByteArray => s.data.toList) h
  simp only [wB_data hj, wB_data hk] at h1
  injection h1 with _ h1
  injection h1 with h1 _
  have h2 := congrArg UInt8.toNat h1
  simp only [UInt8.toNat_ofNat'] at h2
  omega
theorem insM_new (s : ByteArray) : ∀ {l : List ByteArray}, s ∉ l → (insM s l).length = l.length + 1
  | [], _ => by simp [insM]
  | c :: r, h => by
    rw [List.mem_cons, not_or] at h
    unfold insM
    split
    · rw [List.length_cons, insM_new s h.2, List.length_cons]
    · rw [if_neg (fun e => h.1 e.symm)]; simp
def WInv (ws : List ByteArray) (k : Nat) : Prop := ∀ x ∈ ws, x.size ≤ 12 ∧ (noW x = true ∨ ∃ j, j < k ∧ x = wB j)
theorem book_l4 {b : PV} (hb : Code1 b) (af : List Aff) (p : Nat) (hpb : p < 700000000) : ∀ (d k : Nat) (ws : List ByteArray), ws.length + d = 24 → k + d ≤ 24 → WInv ws k →
    ∃ (r : List Ent) (q : Nat), q ≤ p + 24 ∧ r.length ≤ 24 ∧ (∀ e ∈ r, e.stem.size ≤ 12 ∧ e.flags ∈ flagsL) ∧ Ev2 (fun N n => spec_l13Book.l4 N n (k : Int) b (p : Int) (strsP ws) (affsP af)) [bookP af r, rdP b (q : Int)] := by
  intro d
  induction d with
  | zero =>
    intro k ws hl hk hi
    obtain ⟨r, q, h1, h2, h3, h4⟩ := book_l5 hb af ws (by omega) (fun x hx => (hi x hx).1) p (by omega)
    have h0 : ((ws.length : Int) < 24) = False := eq_false (by omega)
    refine ⟨r, q, by omega, by omega, h3, Ev2.succ ?_⟩
    simp only [spec_l13Book.l4_eq, strs_len, h0, strs_len, strs_elem, ints_len, ints_elem, items_list, fld_agg, elem_list, toStr_sc, toInt_sc, toBool_sc, headD_one, nat_int, get_bt, decide_eq_true_eq, decide_eq_false_iff_not, decide_true, decide_false, if_true, if_false, ite_self, Bool.not_true, Bool.not_false, Bool.false_eq_true, Bool.true_eq_false, Bool.true_and, Bool.false_and, Bool.and_true, Bool.and_false, not_true, not_false_iff, Option.bind_some, nn, toList_inj, Bool.not_eq_true', Bool.not_eq_false', Int.le_refl, and_self, true_and, and_true, false_and, and_false, bne_self_eq_false, beq_self_eq_true, Int.reduceEq, Nat.reduceEqDiff, List.length_singleton, List.tail_cons, Int.reduceLE, Int.reduceLT, decide_eq_true_eq]
    exact h4.after
  | succ d ih =>
    intro k ws hl hk hi
    have h0 : ((ws.length : Int) < 24) = True := eq_true (by omega)
    have hnot : wB k ∉ ws := fun hm => by
      rcases (hi _ hm).2 with h | ⟨j, hj, h⟩
      · rw [wB_noW (by omega)] at h; cases h
      · have := wB_inj (by omega) (by omega) h; omega
    obtain ⟨r, q, h1, h2, h3, h4⟩ := ih (k + 1) (insM (wB k) ws) (by rw [insM_new _ hnot]; omega) (by omega) (fun x hx => by
      rcases (insM_mem _ ws x).1 hx with rfl | hx
      · exact ⟨by rw [wB_size]; omega, .inr ⟨k, by omega, rfl⟩⟩
      · obtain ⟨z, h⟩ := hi x hx
        exact ⟨z, h.imp id (fun ⟨j, hj, e⟩ => ⟨j, by omega, e⟩)⟩)
    have w1 : IntKind.i64.wrap ((k : Int) + 1) = ((k + 1 : Nat) : Int) := nat_wrap (by omega) (by omega)
    have hz := wB_size k
    unfold wB at hz
    rw [ByteArray.size_append] at hz
    have c1 : ((ByteArray.mk #[119]).size + (bytesOfL [(PV.sc (.int .u8 (IntKind.u8.wrap (IntKind.i64.wrap (97 + (k : Int))))))]).size ≤ 9223372036854775807) = True := eq_true (by omega)
    refine ⟨r, q, h1, h2, h3, Ev2.succ ?_⟩
    simp only [spec_l13Book.l4_eq, strs_len, h0, c1, if_true, decide_true]
    refine Ev2.bind (put_ev ws (wB k) (by omega)) ?_
    simp only [w1, strs_len, strs_elem, ints_len, ints_elem, items_list, fld_agg, elem_list, toStr_sc, toInt_sc, toBool_sc, headD_one, nat_int, get_bt, decide_eq_true_eq, decide_eq_false_iff_not, decide_true, decide_false, if_true, if_false, ite_self, Bool.not_true, Bool.not_false, Bool.false_eq_true, Bool.true_eq_false, Bool.true_and, Bool.false_and, Bool.and_true, Bool.and_false, not_true, not_false_iff, Option.bind_some, nn, toList_inj, Bool.not_eq_true', Bool.not_eq_false', Int.le_refl, and_self, true_and, and_true, false_and, and_false, bne_self_eq_false, beq_self_eq_true, Int.reduceEq, Nat.reduceEqDiff, List.length_singleton, List.tail_cons, Int.reduceLE, Int.reduceLT, decide_eq_true_eq]
    exact h4
theorem book_l1 {b : PV} (hb : Code1 b) (af : List Aff) : ∀ (c p : Nat) (ws : List ByteArray), p + 20 * c < 600000000 → ws.length + c ≤ 20 → WInv ws 0 →
    ∃ (r : List Ent) (q : Nat), q ≤ p + 20 * c + 50 ∧ r.length ≤ 24 ∧ (∀ e ∈ r, e.stem.size ≤ 12 ∧ e.flags ∈ flagsL) ∧ Ev2 (fun N n => spec_l13Book.l1 N n (c : Int) b (p : Int) (strsP ws) (affsP af)) [bookP af r, rdP b (q : Int)] := by
  intro c
  induction c with
  | zero =>
    intro p ws hp hl hi
    have h0 : ¬ (0 : Int) < ((0 : Nat) : Int) := by omega
    obtain ⟨k, hk, hf⟩ := pick_ev hb (p := (p : Int)) (n := 30) (by omega) (by omega)
    have hp1 : (p : Int) + 1 = ((p + 1 : Nat) : Int) := by omega
    rw [hp1] at hf
    by_cases k0 : k = 0
    · obtain ⟨r, q, h1, h2, h3, h4⟩ := book_l4 hb af (p + 1) (by omega) (24 - ws.length) 0 ws (by omega) (by omega) hi
      refine ⟨r, q, by omega, h2, h3, Ev2.succ ?_⟩
      simp only [spec_l13Book.l1_eq, h0, rd_agg, rd_f1, hf, k0, strs_len, strs_elem, ints_len, ints_elem, items_list, fld_agg, elem_list, toStr_sc, toInt_sc, toBool_sc, headD_one, nat_int, get_bt, decide_eq_true_eq, decide_eq_false_iff_not, decide_true, decide_false, if_true, if_false, ite_self, Bool.not_true, Bool.not_false, Bool.false_eq_true, Bool.true_eq_false, Bool.true_and, Bool.false_and, Bool.and_true, Bool.and_false, not_true, not_false_iff, Option.bind_some, nn, toList_inj, Bool.not_eq_true', Bool.not_eq_false', Int.le_refl, and_self, true_and, and_true, false_and, and_false, bne_self_eq_false, beq_self_eq_true, Int.reduceEq, Nat.reduceEqDiff, List.length_singleton, List.tail_cons, Int.reduceLE, Int.reduceLT, decide_eq_true_eq]
      exact h4.after
    · obtain ⟨r, q, h1, h2, h3, h4⟩ := book_l5 hb af ws (by omega) (fun x hx => (hi x hx).1) (p + 1) (by omega)
      refine ⟨r, q, by omega, by omega, h3, Ev2.succ ?_⟩
      simp only [spec_l13Book.l1_eq, h0, rd_agg, rd_f1, hf, k0, strs_len, strs_elem, ints_len, ints_elem, items_list, fld_agg, elem_list, toStr_sc, toInt_sc, toBool_sc, headD_one, nat_int, get_bt, decide_eq_true_eq, decide_eq_false_iff_not, decide_true, decide_false, if_true, if_false, ite_self, Bool.not_true, Bool.not_false, Bool.false_eq_true, Bool.true_eq_false, Bool.true_and, Bool.false_and, Bool.and_true, Bool.and_false, not_true, not_false_iff, Option.bind_some, nn, toList_inj, Bool.not_eq_true', Bool.not_eq_false', Int.le_refl, and_self, true_and, and_true, false_and, and_false, bne_self_eq_false, beq_self_eq_true, Int.reduceEq, Nat.reduceEqDiff, List.length_singleton, List.tail_cons, Int.reduceLE, Int.reduceLT, decide_eq_true_eq]
      exact h4.after
  | succ c ih =>
    intro p ws hp hl hi
    have h0 : (0 : Int) < ((c + 1 : Nat) : Int) := by omega
    obtain ⟨w, q, h2, h3, h4, hno, h5⟩ := wordX_ev hb p (by omega)
    have hil := insM_len w ws
    obtain ⟨r, q2, a1, a2, a3, a4⟩ := ih q (insM w ws) (by omega) (by omega) (fun x hx => by
      rcases (insM_mem w ws x).1 hx with rfl | hx
      · exact ⟨h4, .inl hno⟩
      · exact hi x hx)
    refine ⟨r, q2, by omega, a2, a3, Ev2.succ ?_⟩
    have w1 : IntKind.i64.wrap (((c + 1 : Nat) : Int) - 1) = (c : Int) := nat_wrap (by omega) (by omega)
    simp only [spec_l13Book.l1_eq, h0, rd_agg, strs_len, strs_elem, ints_len, ints_elem, items_list, fld_agg, elem_list, toStr_sc, toInt_sc, toBool_sc, headD_one, nat_int, get_bt, decide_eq_true_eq, decide_eq_false_iff_not, decide_true, decide_false, if_true, if_false, ite_self, Bool.not_true, Bool.not_false, Bool.false_eq_true, Bool.true_eq_false, Bool.true_and, Bool.false_and, Bool.and_true, Bool.and_false, not_true, not_false_iff, Option.bind_some, nn, toList_inj, Bool.not_eq_true', Bool.not_eq_false', Int.le_refl, and_self, true_and, and_true, false_and, and_false, bne_self_eq_false, beq_self_eq_true, Int.reduceEq, Nat.reduceEqDiff, List.length_singleton, List.tail_cons, Int.reduceLE, Int.reduceLT, decide_eq_true_eq]
    refine Ev2.bind h5 ?_
    simp only [strs_len, strs_elem, ints_len, ints_elem, items_list, fld_agg, elem_list, toStr_sc, toInt_sc, toBool_sc, headD_one, nat_int, get_bt, decide_eq_true_eq, decide_eq_false_iff_not, decide_true, decide_false, if_true, if_false, ite_self, Bool.not_true, Bool.not_false, Bool.false_eq_true, Bool.true_eq_false, Bool.true_and, Bool.false_and, Bool.and_true, Bool.and_false, not_true, not_false_iff, Option.bind_some, nn, toList_inj, Bool.not_eq_true', Bool.not_eq_false', Int.le_refl, and_self, true_and, and_true, false_and, and_false, bne_self_eq_false, beq_self_eq_true, Int.reduceEq, Nat.reduceEqDiff, List.length_singleton, List.tail_cons, Int.reduceLE, Int.reduceLT, decide_eq_true_eq]
    refine Ev2.bind (put_ev ws w (by omega)) ?_
    simp only [w1, rd_f1, strs_len, strs_elem, ints_len, ints_elem, items_list, fld_agg, elem_list, toStr_sc, toInt_sc, toBool_sc, headD_one, nat_int, get_bt, decide_eq_true_eq, decide_eq_false_iff_not, decide_true, decide_false, if_true, if_false, ite_self, Bool.not_true, Bool.not_false, Bool.false_eq_true, Bool.true_eq_false, Bool.true_and, Bool.false_and, Bool.and_true, Bool.and_false, not_true, not_false_iff, Option.bind_some, nn, toList_inj, Bool.not_eq_true', Bool.not_eq_false', Int.le_refl, and_self, true_and, and_true, false_and, and_false, bne_self_eq_false, beq_self_eq_true, Int.reduceEq, Nat.reduceEqDiff, List.length_singleton, List.tail_cons, Int.reduceLE, Int.reduceLT, decide_eq_true_eq]
    exact a4
theorem book_ev {b : PV} (hb : Code1 b) (p : Nat) (hp : p < 500000000) : ∃ (af : List Aff) (es : List Ent) (q : Nat), q ≤ p + 250 ∧ BookB af es ∧ Ev (fun N => spec_l13Book.f N [rdP b (p : Int)]) [bookP af es, rdP b (q : Int)] := by
  obtain ⟨af, q0, b1, b2, b3⟩ := affixes_ev hb p (by omega)
  obtain ⟨c, hc, hf⟩ := pick_ev hb (p := (q0 : Int)) (n := 7) (by omega) (by omega)
  obtain ⟨c, rfl⟩ := Int.eq_ofNat_of_zero_le hc.1
  have hp1 : (q0 : Int) + 1 = ((q0 + 1 : Nat) : Int) := by omega
  rw [hp1] at hf
  have hnil : PV.list [] = strsP [] := rfl
  obtain ⟨r, q, h1, h2, h3, h4⟩ : ∃ (r : List Ent) (q : Nat), q ≤ q0 + 240 ∧ r.length ≤ 24 ∧ (∀ e ∈ r, e.stem.size ≤ 12 ∧ e.flags ∈ flagsL) ∧ Ev2 (fun N n => spec_l13Book.l0 N n (c : Int) b ((q0 + 1 : Nat) : Int) [] (affsP af)) [bookP af r, rdP b (q : Int)] := by
    cases c with
    | succ c =>
      have h0 : (0 : Int) < ((c + 1 : Nat) : Int) := by omega
      obtain ⟨w, q, h2, h3, h4, hno, h5⟩ := wordX_ev hb (q0 + 1) (by omega)
      have hil := insM_len w []
      obtain ⟨r, q2, a1, a2, a3, a4⟩ := book_l1 hb af c q (insM w []) (by omega) (by simp at hil; omega) (fun x hx => by
        rcases (insM_mem w [] x).1 hx with rfl | hx
        · exact ⟨h4, .inl hno⟩
        · cases hx)
      refine ⟨r, q2, by omega, a2, a3, Ev2.succ ?_⟩
      have w1 : IntKind.i64.wrap (((c + 1 : Nat) : Int) - 1) = (c : Int) := nat_wrap (by omega) (by omega)
      simp only [spec_l13Book.l0_eq, h0, rd_agg, hnil, strs_len, strs_elem, ints_len, ints_elem, items_list, fld_agg, elem_list, toStr_sc, toInt_sc, toBool_sc, headD_one, nat_int, get_bt, decide_eq_true_eq, decide_eq_false_iff_not, decide_true, decide_false, if_true, if_false, ite_self, Bool.not_true, Bool.not_false, Bool.false_eq_true, Bool.true_eq_false, Bool.true_and, Bool.false_and, Bool.and_true, Bool.and_false, not_true, not_false_iff, Option.bind_some, nn, toList_inj, Bool.not_eq_true', Bool.not_eq_false', Int.le_refl, and_self, true_and, and_true, false_and, and_false, bne_self_eq_false, beq_self_eq_true, Int.reduceEq, Nat.reduceEqDiff, List.length_singleton, List.tail_cons, Int.reduceLE, Int.reduceLT, decide_eq_true_eq]
      refine Ev2.bind h5 ?_
      simp only [strs_len, strs_elem, ints_len, ints_elem, items_list, fld_agg, elem_list, toStr_sc, toInt_sc, toBool_sc, headD_one, nat_int, get_bt, decide_eq_true_eq, decide_eq_false_iff_not, decide_true, decide_false, if_true, if_false, ite_self, Bool.not_true, Bool.not_false, Bool.false_eq_true, Bool.true_eq_false, Bool.true_and, Bool.false_and, Bool.and_true, Bool.and_false, not_true, not_false_iff, Option.bind_some, nn, toList_inj, Bool.not_eq_true', Bool.not_eq_false', Int.le_refl, and_self, true_and, and_true, false_and, and_false, bne_self_eq_false, beq_self_eq_true, Int.reduceEq, Nat.reduceEqDiff, List.length_singleton, List.tail_cons, Int.reduceLE, Int.reduceLT, decide_eq_true_eq]
      refine Ev2.bind (put_ev [] w (by simp)) ?_
      simp only [w1, rd_f1, strs_len, strs_elem, ints_len, ints_elem, items_list, fld_agg, elem_list, toStr_sc, toInt_sc, toBool_sc, headD_one, nat_int, get_bt, decide_eq_true_eq, decide_eq_false_iff_not, decide_true, decide_false, if_true, if_false, ite_self, Bool.not_true, Bool.not_false, Bool.false_eq_true, Bool.true_eq_false, Bool.true_and, Bool.false_and, Bool.and_true, Bool.and_false, not_true, not_false_iff, Option.bind_some, nn, toList_inj, Bool.not_eq_true', Bool.not_eq_false', Int.le_refl, and_self, true_and, and_true, false_and, and_false, bne_self_eq_false, beq_self_eq_true, Int.reduceEq, Nat.reduceEqDiff, List.length_singleton, List.tail_cons, Int.reduceLE, Int.reduceLT, decide_eq_true_eq]
      exact a4
    | zero =>
      have h0 : ¬ (0 : Int) < ((0 : Nat) : Int) := by omega
      obtain ⟨k, hk, hf⟩ := pick_ev hb (p := ((q0 + 1 : Nat) : Int)) (n := 30) (by omega) (by omega)
      have hp1 : ((q0 + 1 : Nat) : Int) + 1 = ((q0 + 2 : Nat) : Int) := by omega
      rw [hp1] at hf
      by_cases k0 : k = 0
      · have w1 : IntKind.i64.wrap ((0 : Int) + 1) = ((1 : Nat) : Int) := nat_wrap (by omega) (by omega)
        obtain ⟨r, q, h1, h2, h3, h4⟩ := book_l4 hb af (q0 + 2) (by omega) 23 1 (insM (wB 0) []) rfl (by omega) (fun x hx => by
          rcases (insM_mem _ [] x).1 hx with rfl | hx
          · exact ⟨by rw [wB_size]; omega, .inr ⟨0, by omega, rfl⟩⟩
          · cases hx)
        refine ⟨r, q, by omega, h2, h3, Ev2.succ ?_⟩
        simp only [spec_l13Book.l0_eq, h0, rd_agg, rd_f1, hf, k0, strs_len, strs_elem, ints_len, ints_elem, items_list, fld_agg, elem_list, toStr_sc, toInt_sc, toBool_sc, headD_one, nat_int, get_bt, decide_eq_true_eq, decide_eq_false_iff_not, decide_true, decide_false, if_true, if_false, ite_self, Bool.not_true, Bool.not_false, Bool.false_eq_true, Bool.true_eq_false, Bool.true_and, Bool.false_and, Bool.and_true, Bool.and_false, not_true, not_false_iff, Option.bind_some, nn, toList_inj, Bool.not_eq_true', Bool.not_eq_false', Int.le_refl, and_self, true_and, and_true, false_and, and_false, bne_self_eq_false, beq_self_eq_true, Int.reduceEq, Nat.reduceEqDiff, List.length_singleton, List.tail_cons, Int.reduceLE, Int.reduceLT, decide_eq_true_eq]
        refine Ev2.after (g := fun N n => spec_l13Book.l2 N n 0 b ((q0 + 2 : Nat) : Int) [] (affsP af)) (Ev2.succ ?_)
        have hz := wB_size 0
        unfold wB at hz
        rw [ByteArray.size_append] at hz
        have c1 : ((ByteArray.mk #[119]).size + (bytesOfL [(PV.sc (.int .u8 (IntKind.u8.wrap (IntKind.i64.wrap (97 + (0 : Int))))))]).size ≤ 9223372036854775807) = True := eq_true (by
          have : (((0 : Nat) : Int)) = 0 := rfl
          rw [this] at hz; omega)
        have c0 : ((([] : List PV).length : Int) < 24) = True := eq_true (by simp)
        simp only [spec_l13Book.l2_eq, c0, c1, hnil, if_true, decide_true]
        refine Ev2.bind (put_ev [] (wB 0) (by simp)) ?_
        simp only [w1, strs_len, strs_elem, ints_len, ints_elem, items_list, fld_agg, elem_list, toStr_sc, toInt_sc, toBool_sc, headD_one, nat_int, get_bt, decide_eq_true_eq, decide_eq_false_iff_not, decide_true, decide_false, if_true, if_false, ite_self, Bool.not_true, Bool.not_false, Bool.false_eq_true, Bool.true_eq_false, Bool.true_and, Bool.false_and, Bool.and_true, Bool.and_false, not_true, not_false_iff, Option.bind_some, nn, toList_inj, Bool.not_eq_true', Bool.not_eq_false', Int.le_refl, and_self, true_and, and_true, false_and, and_false, bne_self_eq_false, beq_self_eq_true, Int.reduceEq, Nat.reduceEqDiff, List.length_singleton, List.tail_cons, Int.reduceLE, Int.reduceLT, decide_eq_true_eq]
        exact h4
      · refine ⟨[], q0 + 2, by omega, by simp, by simp, Ev2.succ ?_⟩
        simp only [spec_l13Book.l0_eq, h0, rd_agg, rd_f1, hf, k0, strs_len, strs_elem, ints_len, ints_elem, items_list, fld_agg, elem_list, toStr_sc, toInt_sc, toBool_sc, headD_one, nat_int, get_bt, decide_eq_true_eq, decide_eq_false_iff_not, decide_true, decide_false, if_true, if_false, ite_self, Bool.not_true, Bool.not_false, Bool.false_eq_true, Bool.true_eq_false, Bool.true_and, Bool.false_and, Bool.and_true, Bool.and_false, not_true, not_false_iff, Option.bind_some, nn, toList_inj, Bool.not_eq_true', Bool.not_eq_false', Int.le_refl, and_self, true_and, and_true, false_and, and_false, bne_self_eq_false, beq_self_eq_true, Int.reduceEq, Nat.reduceEqDiff, List.length_singleton, List.tail_cons, Int.reduceLE, Int.reduceLT, decide_eq_true_eq]
        refine Ev2.after (g := fun N n => spec_l13Book.l3 N n 0 b ((q0 + 2 : Nat) : Int) [] (affsP af)) (Ev2.succ ?_)
        have c0 : ((0 : Int) < (([] : List PV).length : Int)) = False := eq_false (by simp)
        have e : PV.agg [affsP af, PV.list []] = bookP af [] := rfl
        simp only [spec_l13Book.l3_eq, c0, e, rd_agg, strs_len, strs_elem, ints_len, ints_elem, items_list, fld_agg, elem_list, toStr_sc, toInt_sc, toBool_sc, headD_one, nat_int, get_bt, decide_eq_true_eq, decide_eq_false_iff_not, decide_true, decide_false, if_true, if_false, ite_self, Bool.not_true, Bool.not_false, Bool.false_eq_true, Bool.true_eq_false, Bool.true_and, Bool.false_and, Bool.and_true, Bool.and_false, not_true, not_false_iff, Option.bind_some, nn, toList_inj, Bool.not_eq_true', Bool.not_eq_false', Int.le_refl, and_self, true_and, and_true, false_and, and_false, bne_self_eq_false, beq_self_eq_true, Int.reduceEq, Nat.reduceEqDiff, List.length_singleton, List.tail_cons, Int.reduceLE, Int.reduceLT, decide_eq_true_eq]
        exact Ev2.now _
  refine ⟨af, r, q, by omega, ⟨b2, h2, h3⟩, ?_⟩
  simp only [spec_l13Book.f_eq, rd_f0, rd_f1, rd_agg, strs_len, strs_elem, ints_len, ints_elem, items_list, fld_agg, elem_list, toStr_sc, toInt_sc, toBool_sc, headD_one, nat_int, get_bt, decide_eq_true_eq, decide_eq_false_iff_not, decide_true, decide_false, if_true, if_false, ite_self, Bool.not_true, Bool.not_false, Bool.false_eq_true, Bool.true_eq_false, Bool.true_and, Bool.false_and, Bool.and_true, Bool.and_false, not_true, not_false_iff, Option.bind_some, nn, toList_inj, Bool.not_eq_true', Bool.not_eq_false', Int.le_refl, and_self, true_and, and_true, false_and, and_false, bne_self_eq_false, beq_self_eq_true, Int.reduceEq, Nat.reduceEqDiff, List.length_singleton, List.tail_cons, Int.reduceLE, Int.reduceLT, decide_eq_true_eq]
  refine Ev.bind b3 ?_
  simp only [rd_f1, rd_agg, hf, strs_len, strs_elem, ints_len, ints_elem, items_list, fld_agg, elem_list, toStr_sc, toInt_sc, toBool_sc, headD_one, nat_int, get_bt, decide_eq_true_eq, decide_eq_false_iff_not, decide_true, decide_false, if_true, if_false, ite_self, Bool.not_true, Bool.not_false, Bool.false_eq_true, Bool.true_eq_false, Bool.true_and, Bool.false_and, Bool.and_true, Bool.and_false, not_true, not_false_iff, Option.bind_some, nn, toList_inj, Bool.not_eq_true', Bool.not_eq_false', Int.le_refl, and_self, true_and, and_true, false_and, and_false, bne_self_eq_false, beq_self_eq_true, Int.reduceEq, Nat.reduceEqDiff, List.length_singleton, List.tail_cons, Int.reduceLE, Int.reduceLT, decide_eq_true_eq]
  exact h4.diag
theorem bookW_b {af : List Aff} {es : List Ent} (h : BookB af es) : (bookW af es).length ≤ 600 ∧ ∀ x ∈ bookW af es, x.size ≤ 12 := by
  have h1 := wordsL2_len af es []
  have h2 := h.n
  have h3 := h.a.n
  have h4 : (1 + af.length) * (1 + af.length) ≤ 5 * 5 := Nat.mul_le_mul (by omega) (by omega)
  have h5 : es.length * ((1 + af.length) * (1 + af.length)) ≤ 24 * 25 := Nat.mul_le_mul h2 h4
  refine ⟨by unfold bookW; simp only [List.length_nil] at h1; omega, fun x hx => ?_⟩
  unfold bookW at hx
  rw [wordsL2_mem] at hx
  rcases hx with hx | ⟨e, he, hx⟩
  · cases hx
  · rcases formsB_mem hx with rfl | hw
    · exact (h.s e he).1
    · exact word_size hw
theorem bookW_draw {af : List Aff} {es : List Ent} (h : BookB af es) : Ev (fun N => spec_l2Words.f N [bookP af es]) [strsP (bookW af es)] :=
  bookW_ev (fun a ha => affLL_good a (h.a.s a ha)) (by have := h.a.n; omega) (fun e he => ⟨by have := (h.s e he).1; omega, by have := flags_size (h.s e he).2; omega⟩) (by have := h.n; omega)
/-! #### texts, drawn -/
structure WordsD (l : List ByteArray) (n : Nat) : Prop where
  n : l.length ≤ n
  s : ∀ x ∈ l, x.size ≤ 13
end Go.Proofs.Ytoiigoflkhmjnaa.FnPartsOf
