import Derived.Test.YtoiigoflkhmjnaaGreatDoorFnFnUserChecky1
set_option linter.unusedVariables false
set_option linter.unusedSimpArgs false
set_option maxRecDepth 10000
namespace Go.Proofs.YtoiigoflkhmjnaaGreatDoor.FnUserCheck
open Go Go.Proofs.YtoiigoflkhmjnaaGreatDoorAm
def partsAt (ws : List ByteArray) (deep : ByteArray → List ByteArray) (word : ByteArray) : Nat → Nat → List ByteArray
  | 0, _ => []
  | d + 1, k => if word.extract 0 k ∈ ws then (match deep (word.extract k word.size) with
    | [] => partsAt ws deep word d (k + 1)
    | x :: r => word.extract 0 k :: x :: r) else partsAt ws deep word d (k + 1)
def partsM (ws : List ByteArray) : Nat → ByteArray → List ByteArray
  | 0, w => if w ∈ ws then [w] else []
  | m + 1, w => partsAt ws (partsM ws m) w (w.size - 5) 3
def partsB (ws : List ByteArray) (w : ByteArray) : List ByteArray := match partsM ws 1 w with
  | [] => partsM ws 2 w
  | x :: r => x :: r
def catF : ByteArray → List ByteArray → ByteArray
  | acc, [] => acc
  | acc, x :: r => catF (acc ++ x) r
structure PartsOk (ws : List ByteArray) (w : ByteArray) (l : List ByteArray) (n : Nat) : Prop where
  mem : ∀ x ∈ l, x ∈ ws ∧ 3 ≤ x.size ∧ x.size ≤ w.size
  cat : ∀ acc, catF acc l = acc ++ w
  len : l.length = n
theorem ext_join (w : ByteArray) {k : Nat} (hk : k ≤ w.size) : w.extract 0 k ++ w.extract k w.size = w := by
  have hi : ∀ a b : ByteArray, a.data.toList = b.data.toList → a = b := fun a b h => by cases a; cases b; simp at h; simp [h]
  apply hi
  have hl : w.data.toList.length = w.size := Array.length_toList (xs := w.data)
  rw [ByteArray.data_append, Array.toList_append, ByteArray.data_extract, ByteArray.data_extract]
  simp only [Array.toList_extract, List.extract, List.drop_zero, Nat.sub_zero]
  rw [List.take_of_length_le (l := w.data.toList.drop k) (by rw [List.length_drop, hl]; omega), List.take_append_drop]
theorem ba_assoc (a b c : ByteArray) : (a ++ b) ++ c = a ++ (b ++ c) := by
  have hi : ∀ a b : ByteArray, a.data.toList = b.data.toList → a = b := fun a b h => by cases a; cases b; simp at h; simp [h]
  apply hi
  simp [ByteArray.data_append]
theorem partsM_ok (ws : List ByteArray) : ∀ (m : Nat) (w : ByteArray), 3 ≤ w.size → partsM ws m w ≠ [] → PartsOk ws w (partsM ws m w) (m + 1) := by
  intro m
  induction m with
  | zero =>
    intro w hw hne
    unfold partsM at hne ⊢
    split
    · rename_i hm
      exact ⟨fun x hx => by rw [List.mem_singleton.1 hx]; exact ⟨hm, hw, Nat.le_refl _⟩, fun acc => rfl, rfl⟩
    · rename_i hm
      rw [if_neg hm] at hne; exact absurd rfl hne
  | succ m ih =>
    intro w hw hne
    have key : ∀ d k, (1 ≤ d → k + d + 2 = w.size) → 3 ≤ k → partsAt ws (partsM ws m) w d k ≠ [] → PartsOk ws w (partsAt ws (partsM ws m) w d k) (m + 2) := by
      intro d
      induction d with
      | zero => intro k _ _ h; exact absurd rfl h
      | succ d ihd =>
        intro k hk h3 h
        have hk' := hk (by omega)
        unfold partsAt at h ⊢
        split
        · rename_i hm
          rw [if_pos hm] at h
          cases hr : partsM ws m (w.extract k w.size) with
          | nil =>
            rw [hr] at h
            exact ihd (k + 1) (fun _ => by omega) (by omega) h
          | cons x r =>
            have hsz : (w.extract k w.size).size = w.size - k := by rw [ByteArray.size_extract]; omega
            have hs0 : (w.extract 0 k).size = k := by rw [ByteArray.size_extract]; omega
            obtain ⟨g1, g2, g3⟩ := ih (w.extract k w.size) (by omega) (by rw [hr]; simp)
            rw [hr] at g1 g2 g3
            refine ⟨fun y hy => ?_, fun acc => ?_, by rw [List.length_cons, g3]⟩
            · rcases List.mem_cons.1 hy with rfl | hy
              · exact ⟨hm, by omega, by omega⟩
              · obtain ⟨a1, a2, a3⟩ := g1 y hy
                exact ⟨a1, a2, by omega⟩
            · show catF (acc ++ w.extract 0 k) (x :: r) = acc ++ w
              rw [g2, ba_assoc, ext_join w (by omega)]
        · rename_i hm
          rw [if_neg hm] at h
          exact ihd (k + 1) (fun _ => by omega) (by omega) h
    unfold partsM at hne ⊢
    exact key _ 3 (fun _ => by omega) (Nat.le_refl _) hne
theorem implUp_val (k : IntKind) (c : Int) (N : Nat) : impl_upper.f N [.sc (.int k c)] = some [boolP (decide (65 ≤ c) && decide (c ≤ 90))] := by
  by_cases h : 65 ≤ c
  · simp only [impl_upper.f_eq, h, strs_len, strs_elem, ints_len, ints_elem, items_list, fld_agg, elem_list, toStr_sc, toInt_sc, toBool_sc, headD_one, nat_int, get_bt, decide_eq_true_eq, decide_eq_false_iff_not, decide_true, decide_false, if_true, if_false, ite_self, Bool.not_true, Bool.not_false, Bool.false_eq_true, Bool.true_eq_false, Bool.true_and, Bool.false_and, Bool.and_true, Bool.and_false, not_true, not_false_iff, Option.bind_some, nn, toList_inj, Bool.not_eq_true', Bool.not_eq_false', Int.le_refl, and_self, true_and, and_true, false_and, and_false, bne_self_eq_false, beq_self_eq_true, Int.reduceEq, Nat.reduceEqDiff, List.length_singleton, List.tail_cons, Int.reduceLE, Int.reduceLT, decide_eq_true_eq]; rfl
  · simp only [impl_upper.f_eq, h, strs_len, strs_elem, ints_len, ints_elem, items_list, fld_agg, elem_list, toStr_sc, toInt_sc, toBool_sc, headD_one, nat_int, get_bt, decide_eq_true_eq, decide_eq_false_iff_not, decide_true, decide_false, if_true, if_false, ite_self, Bool.not_true, Bool.not_false, Bool.false_eq_true, Bool.true_eq_false, Bool.true_and, Bool.false_and, Bool.and_true, Bool.and_false, not_true, not_false_iff, Option.bind_some, nn, toList_inj, Bool.not_eq_true', Bool.not_eq_false', Int.le_refl, and_self, true_and, and_true, false_and, and_false, bne_self_eq_false, beq_self_eq_true, Int.reduceEq, Nat.reduceEqDiff, List.length_singleton, List.tail_cons, Int.reduceLE, Int.reduceLT, decide_eq_true_eq]
theorem hasPre_val (s p : ByteArray) (N : Nat) : strings_HasPrefix.f N [PV.sc (.string s), PV.sc (.string p)] = some [boolP (begB s p)] := by
  by_cases h : p.size ≤ s.size
  · have h1 : ((p.size : Int) ≤ (s.size : Int)) = True := tru (by omega)
    simp only [strings_HasPrefix.f_eq, stringslite_HasPrefix.f_eq, h1, begB, h, nn, strs_len, strs_elem, ints_len, ints_elem, items_list, fld_agg, elem_list, toStr_sc, toInt_sc, toBool_sc, headD_one, nat_int, get_bt, decide_eq_true_eq, decide_eq_false_iff_not, decide_true, decide_false, if_true, if_false, ite_self, Bool.not_true, Bool.not_false, Bool.false_eq_true, Bool.true_eq_false, Bool.true_and, Bool.false_and, Bool.and_true, Bool.and_false, not_true, not_false_iff, Option.bind_some, nn, toList_inj, Bool.not_eq_true', Bool.not_eq_false', Int.le_refl, and_self, true_and, and_true, false_and, and_false, bne_self_eq_false, beq_self_eq_true, Int.reduceEq, Nat.reduceEqDiff, List.length_singleton, List.tail_cons, Int.reduceLE, Int.reduceLT, decide_eq_true_eq]
  · have h1 : ((p.size : Int) ≤ (s.size : Int)) = False := fls (by omega)
    simp only [strings_HasPrefix.f_eq, stringslite_HasPrefix.f_eq, h1, begB, h, strs_len, strs_elem, ints_len, ints_elem, items_list, fld_agg, elem_list, toStr_sc, toInt_sc, toBool_sc, headD_one, nat_int, get_bt, decide_eq_true_eq, decide_eq_false_iff_not, decide_true, decide_false, if_true, if_false, ite_self, Bool.not_true, Bool.not_false, Bool.false_eq_true, Bool.true_eq_false, Bool.true_and, Bool.false_and, Bool.and_true, Bool.and_false, not_true, not_false_iff, Option.bind_some, nn, toList_inj, Bool.not_eq_true', Bool.not_eq_false', Int.le_refl, and_self, true_and, and_true, false_and, and_false, bne_self_eq_false, beq_self_eq_true, Int.reduceEq, Nat.reduceEqDiff, List.length_singleton, List.tail_cons, Int.reduceLE, Int.reduceLT, decide_eq_true_eq]
theorem hasSuf_val (s p : ByteArray) (hs : s.size ≤ 9223372036854775807) (N : Nat) : strings_HasSuffix.f N [PV.sc (.string s), PV.sc (.string p)] = some [boolP (endB s p)] := by
  by_cases h : p.size ≤ s.size
  · have h1 : ((p.size : Int) ≤ (s.size : Int)) = True := tru (by omega)
    have w1 : IntKind.i64.wrap ((s.size : Int) - (p.size : Int)) = ((s.size - p.size : Nat) : Int) := nat_wrap (by omega) (by omega)
    have h2 : (((s.size - p.size : Nat) : Int) ≤ (s.size : Int)) = True := tru (by omega)
    simp only [strings_HasSuffix.f_eq, stringslite_HasSuffix.f_eq, h1, h2, w1, endB, h, nn, strs_len, strs_elem, ints_len, ints_elem, items_list, fld_agg, elem_list, toStr_sc, toInt_sc, toBool_sc, headD_one, nat_int, get_bt, decide_eq_true_eq, decide_eq_false_iff_not, decide_true, decide_false, if_true, if_false, ite_self, Bool.not_true, Bool.not_false, Bool.false_eq_true, Bool.true_eq_false, Bool.true_and, Bool.false_and, Bool.and_true, Bool.and_false, not_true, not_false_iff, Option.bind_some, nn, toList_inj, Bool.not_eq_true', Bool.not_eq_false', Int.le_refl, and_self, true_and, and_true, false_and, and_false, bne_self_eq_false, beq_self_eq_true, Int.reduceEq, Nat.reduceEqDiff, List.length_singleton, List.tail_cons, Int.reduceLE, Int.reduceLT, decide_eq_true_eq]
  · have h1 : ((p.size : Int) ≤ (s.size : Int)) = False := fls (by omega)
    simp only [strings_HasSuffix.f_eq, stringslite_HasSuffix.f_eq, h1, endB, h, strs_len, strs_elem, ints_len, ints_elem, items_list, fld_agg, elem_list, toStr_sc, toInt_sc, toBool_sc, headD_one, nat_int, get_bt, decide_eq_true_eq, decide_eq_false_iff_not, decide_true, decide_false, if_true, if_false, ite_self, Bool.not_true, Bool.not_false, Bool.false_eq_true, Bool.true_eq_false, Bool.true_and, Bool.false_and, Bool.and_true, Bool.and_false, not_true, not_false_iff, Option.bind_some, nn, toList_inj, Bool.not_eq_true', Bool.not_eq_false', Int.le_refl, and_self, true_and, and_true, false_and, and_false, bne_self_eq_false, beq_self_eq_true, Int.reduceEq, Nat.reduceEqDiff, List.length_singleton, List.tail_cons, Int.reduceLE, Int.reduceLT, decide_eq_true_eq]
def partsOkL : List ByteArray → Bool
  | [] => true
  | s :: r => partOk s && partsOkL r
theorem affix_l0 (a : Aff) (hs : AffS a) : ∀ (rest pre : List ByteArray), [a.strip, a.add, a.cond] = pre ++ rest →
    Ev2 (fun N n => impl_AffixOk.l0 N n 3 (pre.length : Int) a.flag a.front a.strip a.add a.cond [strP a.strip, strP a.add, strP a.cond]) [boolP (partsOkL rest && (if a.front = true then begB a.cond a.strip else endB a.cond a.strip))] := by
  have z1 := hs.strip; have z2 := hs.add; have z3 := hs.cond
  have hall : ∀ x ∈ [a.strip, a.add, a.cond], x.size ≤ 1000000000 := by
    intro x hx
    simp only [List.mem_cons, List.not_mem_nil, or_false] at hx
    rcases hx with rfl | rfl | rfl <;> assumption
  have el : PV.list [strP a.strip, strP a.add, strP a.cond] = strsP [a.strip, a.add, a.cond] := rfl
  have hl3 : ([strP a.strip, strP a.add, strP a.cond] : List PV).length = [a.strip, a.add, a.cond].length := rfl
  intro rest
  induction rest with
  | nil =>
    intro pre hp
    have hz : pre.length = 3 := by have := congrArg List.length hp; simp at this; omega
    have h0 : ((pre.length : Int) < 3) = False := fls (by omega)
    refine Ev2.succ ?_
    have e2 := hasSuf_val a.cond a.strip (by omega)
    rcases Bool.eq_false_or_eq_true a.front with hf | hf
    · simp only [impl_AffixOk.l0_eq, h0, hf, hasPre_val, partsOkL, strs_len, strs_elem, ints_len, ints_elem, items_list, fld_agg, elem_list, toStr_sc, toInt_sc, toBool_sc, headD_one, nat_int, get_bt, decide_eq_true_eq, decide_eq_false_iff_not, decide_true, decide_false, if_true, if_false, ite_self, Bool.not_true, Bool.not_false, Bool.false_eq_true, Bool.true_eq_false, Bool.true_and, Bool.false_and, Bool.and_true, Bool.and_false, not_true, not_false_iff, Option.bind_some, nn, toList_inj, Bool.not_eq_true', Bool.not_eq_false', Int.le_refl, and_self, true_and, and_true, false_and, and_false, bne_self_eq_false, beq_self_eq_true, Int.reduceEq, Nat.reduceEqDiff, List.length_singleton, List.tail_cons, Int.reduceLE, Int.reduceLT, decide_eq_true_eq]; exact Ev2.now _
    · simp only [impl_AffixOk.l0_eq, h0, hf, e2, partsOkL, strs_len, strs_elem, ints_len, ints_elem, items_list, fld_agg, elem_list, toStr_sc, toInt_sc, toBool_sc, headD_one, nat_int, get_bt, decide_eq_true_eq, decide_eq_false_iff_not, decide_true, decide_false, if_true, if_false, ite_self, Bool.not_true, Bool.not_false, Bool.false_eq_true, Bool.true_eq_false, Bool.true_and, Bool.false_and, Bool.and_true, Bool.and_false, not_true, not_false_iff, Option.bind_some, nn, toList_inj, Bool.not_eq_true', Bool.not_eq_false', Int.le_refl, and_self, true_and, and_true, false_and, and_false, bne_self_eq_false, beq_self_eq_true, Int.reduceEq, Nat.reduceEqDiff, List.length_singleton, List.tail_cons, Int.reduceLE, Int.reduceLT, decide_eq_true_eq]; exact Ev2.now _
  | cons x rest ih =>
    intro pre hp
    have hz : pre.length < 3 := by have := congrArg List.length hp; simp at this; omega
    have h0 : ((pre.length : Int) < 3) = True := tru (by omega)
    have hx := hall x (by rw [hp]; simp)
    have hlo := implLower_ev x (by omega)
    simp only [strP] at hlo
    have hlen : ([a.strip, a.add, a.cond] : List ByteArray).length ≤ 9223372036854775807 := by simp
    refine Ev2.succ ?_
    by_cases h4 : (x.size : Int) ≤ 4
    · have c4 : ((4 : Int) < (x.size : Int)) = False := fls (by omega)
      simp only [impl_AffixOk.l0_eq, h0, hl3, el, strs_elem, at_lt hp, at_getD hp, c4, partsOkL, partOk, h4, strs_len, strs_elem, ints_len, ints_elem, items_list, fld_agg, elem_list, toStr_sc, toInt_sc, toBool_sc, headD_one, nat_int, get_bt, decide_eq_true_eq, decide_eq_false_iff_not, decide_true, decide_false, if_true, if_false, ite_self, Bool.not_true, Bool.not_false, Bool.false_eq_true, Bool.true_eq_false, Bool.true_and, Bool.false_and, Bool.and_true, Bool.and_false, not_true, not_false_iff, Option.bind_some, nn, toList_inj, Bool.not_eq_true', Bool.not_eq_false', Int.le_refl, and_self, true_and, and_true, false_and, and_false, bne_self_eq_false, beq_self_eq_true, Int.reduceEq, Nat.reduceEqDiff, List.length_singleton, List.tail_cons, Int.reduceLE, Int.reduceLT, decide_eq_true_eq]
      refine Ev2.bind hlo ?_
      cases hl : lowB (bytesOf x) with
      | false => simp only [strs_len, strs_elem, ints_len, ints_elem, items_list, fld_agg, elem_list, toStr_sc, toInt_sc, toBool_sc, headD_one, nat_int, get_bt, decide_eq_true_eq, decide_eq_false_iff_not, decide_true, decide_false, if_true, if_false, ite_self, Bool.not_true, Bool.not_false, Bool.false_eq_true, Bool.true_eq_false, Bool.true_and, Bool.false_and, Bool.and_true, Bool.and_false, not_true, not_false_iff, Option.bind_some, nn, toList_inj, Bool.not_eq_true', Bool.not_eq_false', Int.le_refl, and_self, true_and, and_true, false_and, and_false, bne_self_eq_false, beq_self_eq_true, Int.reduceEq, Nat.reduceEqDiff, List.length_singleton, List.tail_cons, Int.reduceLE, Int.reduceLT, decide_eq_true_eq]; exact Ev2.now _
      | true =>
        simp only [at_next hp hlen, strs_len, strs_elem, ints_len, ints_elem, items_list, fld_agg, elem_list, toStr_sc, toInt_sc, toBool_sc, headD_one, nat_int, get_bt, decide_eq_true_eq, decide_eq_false_iff_not, decide_true, decide_false, if_true, if_false, ite_self, Bool.not_true, Bool.not_false, Bool.false_eq_true, Bool.true_eq_false, Bool.true_and, Bool.false_and, Bool.and_true, Bool.and_false, not_true, not_false_iff, Option.bind_some, nn, toList_inj, Bool.not_eq_true', Bool.not_eq_false', Int.le_refl, and_self, true_and, and_true, false_and, and_false, bne_self_eq_false, beq_self_eq_true, Int.reduceEq, Nat.reduceEqDiff, List.length_singleton, List.tail_cons, Int.reduceLE, Int.reduceLT, decide_eq_true_eq]
        exact ih _ (at_step hp)
    · have c4 : ((4 : Int) < (x.size : Int)) = True := tru (by omega)
      simp only [impl_AffixOk.l0_eq, h0, hl3, el, strs_elem, at_lt hp, at_getD hp, c4, partsOkL, partOk, h4, strs_len, strs_elem, ints_len, ints_elem, items_list, fld_agg, elem_list, toStr_sc, toInt_sc, toBool_sc, headD_one, nat_int, get_bt, decide_eq_true_eq, decide_eq_false_iff_not, decide_true, decide_false, if_true, if_false, ite_self, Bool.not_true, Bool.not_false, Bool.false_eq_true, Bool.true_eq_false, Bool.true_and, Bool.false_and, Bool.and_true, Bool.and_false, not_true, not_false_iff, Option.bind_some, nn, toList_inj, Bool.not_eq_true', Bool.not_eq_false', Int.le_refl, and_self, true_and, and_true, false_and, and_false, bne_self_eq_false, beq_self_eq_true, Int.reduceEq, Nat.reduceEqDiff, List.length_singleton, List.tail_cons, Int.reduceLE, Int.reduceLT, decide_eq_true_eq]
      exact Ev2.now _
theorem implAffixOk_ev (a : Aff) (hs : AffS a) : Ev (fun N => impl_AffixOk.f N [affP a]) [boolP (affB a)] := by
  have h0 := affix_l0 a hs [a.strip, a.add, a.cond] [] rfl
  have e3 : (([strP a.strip, strP a.add, strP a.cond] : List PV).length : Int) = 3 := rfl
  simp only [strP] at e3 h0
  by_cases h : (a.flag.size : Int) = 1
  · cases hu : (decide (65 ≤ bt a.flag 0) && decide (bt a.flag 0 ≤ 90)) with
    | false =>
      simp only [impl_AffixOk.f_eq, aff_f0, aff_f1, aff_f2, aff_f3, aff_f4, h, implUp_val, affB, flagB, hu, Nat.le_refl, strs_len, strs_elem, ints_len, ints_elem, items_list, fld_agg, elem_list, toStr_sc, toInt_sc, toBool_sc, headD_one, nat_int, get_bt, decide_eq_true_eq, decide_eq_false_iff_not, decide_true, decide_false, if_true, if_false, ite_self, Bool.not_true, Bool.not_false, Bool.false_eq_true, Bool.true_eq_false, Bool.true_and, Bool.false_and, Bool.and_true, Bool.and_false, not_true, not_false_iff, Option.bind_some, nn, toList_inj, Bool.not_eq_true', Bool.not_eq_false', Int.le_refl, and_self, true_and, and_true, false_and, and_false, bne_self_eq_false, beq_self_eq_true, Int.reduceEq, Nat.reduceEqDiff, List.length_singleton, List.tail_cons, Int.reduceLE, Int.reduceLT, decide_eq_true_eq]
      exact Ev.now _
    | true =>
      simp only [impl_AffixOk.f_eq, aff_f0, aff_f1, aff_f2, aff_f3, aff_f4, h, implUp_val, affB, flagB, hu, e3, Nat.le_refl, strs_len, strs_elem, ints_len, ints_elem, items_list, fld_agg, elem_list, toStr_sc, toInt_sc, toBool_sc, headD_one, nat_int, get_bt, decide_eq_true_eq, decide_eq_false_iff_not, decide_true, decide_false, if_true, if_false, ite_self, Bool.not_true, Bool.not_false, Bool.false_eq_true, Bool.true_eq_false, Bool.true_and, Bool.false_and, Bool.and_true, Bool.and_false, not_true, not_false_iff, Option.bind_some, nn, toList_inj, Bool.not_eq_true', Bool.not_eq_false', Int.le_refl, and_self, true_and, and_true, false_and, and_false, bne_self_eq_false, beq_self_eq_true, Int.reduceEq, Nat.reduceEqDiff, List.length_singleton, List.tail_cons, Int.reduceLE, Int.reduceLT, decide_eq_true_eq]
      refine Ev.ext h0.diag ?_
      simp only [partsOkL, Bool.and_true, Bool.and_assoc]
  · simp only [impl_AffixOk.f_eq, aff_f0, aff_f1, aff_f2, aff_f3, aff_f4, h, affB, flagB, strs_len, strs_elem, ints_len, ints_elem, items_list, fld_agg, elem_list, toStr_sc, toInt_sc, toBool_sc, headD_one, nat_int, get_bt, decide_eq_true_eq, decide_eq_false_iff_not, decide_true, decide_false, if_true, if_false, ite_self, Bool.not_true, Bool.not_false, Bool.false_eq_true, Bool.true_eq_false, Bool.true_and, Bool.false_and, Bool.and_true, Bool.and_false, not_true, not_false_iff, Option.bind_some, nn, toList_inj, Bool.not_eq_true', Bool.not_eq_false', Int.le_refl, and_self, true_and, and_true, false_and, and_false, bne_self_eq_false, beq_self_eq_true, Int.reduceEq, Nat.reduceEqDiff, List.length_singleton, List.tail_cons, Int.reduceLE, Int.reduceLT, decide_eq_true_eq]
    exact Ev.now _
theorem affIndex_loop {l : List Aff} (hl : l.length ≤ 1000000000) (a : Aff) : ∀ (rest pre : List Aff), l = pre ++ rest →
    ∃ r : Int, Ev2 (fun N n => slices_Index_impl_Affix.l0 N n (affsP l) (l.length : Int) (pre.length : Int) a.flag a.front a.strip a.add a.cond) [intP r] ∧ decide (0 ≤ r) = hasA rest a := by
  intro rest
  induction rest with
  | nil =>
    intro pre hp
    refine ⟨-1, Ev2.succ ?_, rfl⟩
    simp only [slices_Index_impl_Affix.l0_eq, at_end hp, strs_len, strs_elem, ints_len, ints_elem, items_list, fld_agg, elem_list, toStr_sc, toInt_sc, toBool_sc, headD_one, nat_int, get_bt, decide_eq_true_eq, decide_eq_false_iff_not, decide_true, decide_false, if_true, if_false, ite_self, Bool.not_true, Bool.not_false, Bool.false_eq_true, Bool.true_eq_false, Bool.true_and, Bool.false_and, Bool.and_true, Bool.and_false, not_true, not_false_iff, Option.bind_some, nn, toList_inj, Bool.not_eq_true', Bool.not_eq_false', Int.le_refl, and_self, true_and, and_true, false_and, and_false, bne_self_eq_false, beq_self_eq_true, Int.reduceEq, Nat.reduceEqDiff, List.length_singleton, List.tail_cons, Int.reduceLE, Int.reduceLT, decide_eq_true_eq]
    exact Ev2.now _
  | cons x rest ih =>
    intro pre hp
    cases he : eqA a x with
    | true =>
      refine ⟨pre.length, Ev2.succ ?_, by rw [hasA, eqA_symm, he]; simp⟩
      simp only [slices_Index_impl_Affix.l0_eq, affs_len, affs_elem hp, at_lt hp, aff_f0, aff_f1, aff_f2, aff_f3, aff_f4, strs_len, strs_elem, ints_len, ints_elem, items_list, fld_agg, elem_list, toStr_sc, toInt_sc, toBool_sc, headD_one, nat_int, get_bt, decide_eq_true_eq, decide_eq_false_iff_not, decide_true, decide_false, if_true, if_false, ite_self, Bool.not_true, Bool.not_false, Bool.false_eq_true, Bool.true_eq_false, Bool.true_and, Bool.false_and, Bool.and_true, Bool.and_false, not_true, not_false_iff, Option.bind_some, nn, toList_inj, Bool.not_eq_true', Bool.not_eq_false', Int.le_refl, and_self, true_and, and_true, false_and, and_false, bne_self_eq_false, beq_self_eq_true, Int.reduceEq, Nat.reduceEqDiff, List.length_singleton, List.tail_cons, Int.reduceLE, Int.reduceLT, decide_eq_true_eq]
      simp only [eqA_fold, he, strs_len, strs_elem, ints_len, ints_elem, items_list, fld_agg, elem_list, toStr_sc, toInt_sc, toBool_sc, headD_one, nat_int, get_bt, decide_eq_true_eq, decide_eq_false_iff_not, decide_true, decide_false, if_true, if_false, ite_self, Bool.not_true, Bool.not_false, Bool.false_eq_true, Bool.true_eq_false, Bool.true_and, Bool.false_and, Bool.and_true, Bool.and_false, not_true, not_false_iff, Option.bind_some, nn, toList_inj, Bool.not_eq_true', Bool.not_eq_false', Int.le_refl, and_self, true_and, and_true, false_and, and_false, bne_self_eq_false, beq_self_eq_true, Int.reduceEq, Nat.reduceEqDiff, List.length_singleton, List.tail_cons, Int.reduceLE, Int.reduceLT, decide_eq_true_eq]
      exact Ev2.now _
    | false =>
      obtain ⟨r, h1, h2⟩ := ih _ (at_step hp)
      refine ⟨r, Ev2.succ ?_, by rw [hasA, eqA_symm, he, h2]; rfl⟩
      simp only [slices_Index_impl_Affix.l0_eq, affs_len, affs_elem hp, at_lt hp, aff_f0, aff_f1, aff_f2, aff_f3, aff_f4, strs_len, strs_elem, ints_len, ints_elem, items_list, fld_agg, elem_list, toStr_sc, toInt_sc, toBool_sc, headD_one, nat_int, get_bt, decide_eq_true_eq, decide_eq_false_iff_not, decide_true, decide_false, if_true, if_false, ite_self, Bool.not_true, Bool.not_false, Bool.false_eq_true, Bool.true_eq_false, Bool.true_and, Bool.false_and, Bool.and_true, Bool.and_false, not_true, not_false_iff, Option.bind_some, nn, toList_inj, Bool.not_eq_true', Bool.not_eq_false', Int.le_refl, and_self, true_and, and_true, false_and, and_false, bne_self_eq_false, beq_self_eq_true, Int.reduceEq, Nat.reduceEqDiff, List.length_singleton, List.tail_cons, Int.reduceLE, Int.reduceLT, decide_eq_true_eq]
      simp only [eqA_fold, he, at_next hp (by omega), strs_len, strs_elem, ints_len, ints_elem, items_list, fld_agg, elem_list, toStr_sc, toInt_sc, toBool_sc, headD_one, nat_int, get_bt, decide_eq_true_eq, decide_eq_false_iff_not, decide_true, decide_false, if_true, if_false, ite_self, Bool.not_true, Bool.not_false, Bool.false_eq_true, Bool.true_eq_false, Bool.true_and, Bool.false_and, Bool.and_true, Bool.and_false, not_true, not_false_iff, Option.bind_some, nn, toList_inj, Bool.not_eq_true', Bool.not_eq_false', Int.le_refl, and_self, true_and, and_true, false_and, and_false, bne_self_eq_false, beq_self_eq_true, Int.reduceEq, Nat.reduceEqDiff, List.length_singleton, List.tail_cons, Int.reduceLE, Int.reduceLT, decide_eq_true_eq]
      exact h1
theorem affContains_ev {l : List Aff} (hl : l.length ≤ 1000000000) (a : Aff) : Ev (fun N => slices_Contains_impl_Affix.f N [affsP l, affP a]) [boolP (hasA l a)] := by
  obtain ⟨r, h1, h2⟩ := affIndex_loop hl a l [] rfl
  simp only [slices_Contains_impl_Affix.f_eq, slices_Index_impl_Affix.f_eq, affs_len, aff_f0, aff_f1, aff_f2, aff_f3, aff_f4, aff_agg, strs_len, strs_elem, ints_len, ints_elem, items_list, fld_agg, elem_list, toStr_sc, toInt_sc, toBool_sc, headD_one, nat_int, get_bt, decide_eq_true_eq, decide_eq_false_iff_not, decide_true, decide_false, if_true, if_false, ite_self, Bool.not_true, Bool.not_false, Bool.false_eq_true, Bool.true_eq_false, Bool.true_and, Bool.false_and, Bool.and_true, Bool.and_false, not_true, not_false_iff, Option.bind_some, nn, toList_inj, Bool.not_eq_true', Bool.not_eq_false', Int.le_refl, and_self, true_and, and_true, false_and, and_false, bne_self_eq_false, beq_self_eq_true, Int.reduceEq, Nat.reduceEqDiff, List.length_singleton, List.tail_cons, Int.reduceLE, Int.reduceLT, decide_eq_true_eq]
  refine Ev.bind h1.diag ?_
  exact Ev.ext (Ev.now _) (congrArg (fun b => [boolP b]) h2)
theorem implAffs_loop {af : List Aff} (hal : af.length ≤ 1000000000) (hs : ∀ a ∈ af, AffS a) : ∀ (ra pre : List Aff), af = pre ++ ra →
    Ev2 (fun N n => impl_affixesOk.l0 N n (affsP af) (affsP af) (af.length : Int) (pre.length : Int)) [boolP (affsL pre ra && decide ((af.length : Int) ≤ 8))] := by
  intro ra
  induction ra with
  | nil =>
    intro pre ha
    refine Ev2.succ ?_
    simp only [impl_affixesOk.l0_eq, affs_len, at_end ha, affsL, strs_len, strs_elem, ints_len, ints_elem, items_list, fld_agg, elem_list, toStr_sc, toInt_sc, toBool_sc, headD_one, nat_int, get_bt, decide_eq_true_eq, decide_eq_false_iff_not, decide_true, decide_false, if_true, if_false, ite_self, Bool.not_true, Bool.not_false, Bool.false_eq_true, Bool.true_eq_false, Bool.true_and, Bool.false_and, Bool.and_true, Bool.and_false, not_true, not_false_iff, Option.bind_some, nn, toList_inj, Bool.not_eq_true', Bool.not_eq_false', Int.le_refl, and_self, true_and, and_true, false_and, and_false, bne_self_eq_false, beq_self_eq_true, Int.reduceEq, Nat.reduceEqDiff, List.length_singleton, List.tail_cons, Int.reduceLE, Int.reduceLT, decide_eq_true_eq]
    exact Ev2.now _
  | cons a ra ih =>
    intro pre ha
    have hpl : pre.length ≤ af.length := by have := congrArg List.length ha; simp at this; omega
    have c1 : ((pre.length : Int) ≤ (af.length : Int)) = True := tru (by omega)
    have et : PV.list (((affsP af).items.drop 0).take (pre.length - 0)) = affsP pre := by rw [ha]; simp [affsP, PV.items]
    refine Ev2.succ ?_
    simp only [impl_affixesOk.l0_eq, affs_len, affs_elem ha, at_lt ha, aff_f0, aff_f1, aff_f2, aff_f3, aff_f4, aff_agg, et, c1, strs_len, strs_elem, ints_len, ints_elem, items_list, fld_agg, elem_list, toStr_sc, toInt_sc, toBool_sc, headD_one, nat_int, get_bt, decide_eq_true_eq, decide_eq_false_iff_not, decide_true, decide_false, if_true, if_false, ite_self, Bool.not_true, Bool.not_false, Bool.false_eq_true, Bool.true_eq_false, Bool.true_and, Bool.false_and, Bool.and_true, Bool.and_false, not_true, not_false_iff, Option.bind_some, nn, toList_inj, Bool.not_eq_true', Bool.not_eq_false', Int.le_refl, and_self, true_and, and_true, false_and, and_false, bne_self_eq_false, beq_self_eq_true, Int.reduceEq, Nat.reduceEqDiff, List.length_singleton, List.tail_cons, Int.reduceLE, Int.reduceLT, decide_eq_true_eq]
    refine Ev2.bind (implAffixOk_ev a (hs a (by rw [ha]; simp))) ?_
    cases h0 : affB a with
    | false => simp only [affsL, h0, strs_len, strs_elem, ints_len, ints_elem, items_list, fld_agg, elem_list, toStr_sc, toInt_sc, toBool_sc, headD_one, nat_int, get_bt, decide_eq_true_eq, decide_eq_false_iff_not, decide_true, decide_false, if_true, if_false, ite_self, Bool.not_true, Bool.not_false, Bool.false_eq_true, Bool.true_eq_false, Bool.true_and, Bool.false_and, Bool.and_true, Bool.and_false, not_true, not_false_iff, Option.bind_some, nn, toList_inj, Bool.not_eq_true', Bool.not_eq_false', Int.le_refl, and_self, true_and, and_true, false_and, and_false, bne_self_eq_false, beq_self_eq_true, Int.reduceEq, Nat.reduceEqDiff, List.length_singleton, List.tail_cons, Int.reduceLE, Int.reduceLT, decide_eq_true_eq]; exact Ev2.now _
    | true =>
      simp only [affsL, h0, strs_len, strs_elem, ints_len, ints_elem, items_list, fld_agg, elem_list, toStr_sc, toInt_sc, toBool_sc, headD_one, nat_int, get_bt, decide_eq_true_eq, decide_eq_false_iff_not, decide_true, decide_false, if_true, if_false, ite_self, Bool.not_true, Bool.not_false, Bool.false_eq_true, Bool.true_eq_false, Bool.true_and, Bool.false_and, Bool.and_true, Bool.and_false, not_true, not_false_iff, Option.bind_some, nn, toList_inj, Bool.not_eq_true', Bool.not_eq_false', Int.le_refl, and_self, true_and, and_true, false_and, and_false, bne_self_eq_false, beq_self_eq_true, Int.reduceEq, Nat.reduceEqDiff, List.length_singleton, List.tail_cons, Int.reduceLE, Int.reduceLT, decide_eq_true_eq]
      refine Ev2.bind (affContains_ev (by omega) a) ?_
      cases h1 : hasA pre a with
      | true => simp only [strs_len, strs_elem, ints_len, ints_elem, items_list, fld_agg, elem_list, toStr_sc, toInt_sc, toBool_sc, headD_one, nat_int, get_bt, decide_eq_true_eq, decide_eq_false_iff_not, decide_true, decide_false, if_true, if_false, ite_self, Bool.not_true, Bool.not_false, Bool.false_eq_true, Bool.true_eq_false, Bool.true_and, Bool.false_and, Bool.and_true, Bool.and_false, not_true, not_false_iff, Option.bind_some, nn, toList_inj, Bool.not_eq_true', Bool.not_eq_false', Int.le_refl, and_self, true_and, and_true, false_and, and_false, bne_self_eq_false, beq_self_eq_true, Int.reduceEq, Nat.reduceEqDiff, List.length_singleton, List.tail_cons, Int.reduceLE, Int.reduceLT, decide_eq_true_eq]; exact Ev2.now _
      | false =>
        simp only [at_next ha (by omega), strs_len, strs_elem, ints_len, ints_elem, items_list, fld_agg, elem_list, toStr_sc, toInt_sc, toBool_sc, headD_one, nat_int, get_bt, decide_eq_true_eq, decide_eq_false_iff_not, decide_true, decide_false, if_true, if_false, ite_self, Bool.not_true, Bool.not_false, Bool.false_eq_true, Bool.true_eq_false, Bool.true_and, Bool.false_and, Bool.and_true, Bool.and_false, not_true, not_false_iff, Option.bind_some, nn, toList_inj, Bool.not_eq_true', Bool.not_eq_false', Int.le_refl, and_self, true_and, and_true, false_and, and_false, bne_self_eq_false, beq_self_eq_true, Int.reduceEq, Nat.reduceEqDiff, List.length_singleton, List.tail_cons, Int.reduceLE, Int.reduceLT, decide_eq_true_eq]
        exact ih _ (at_step ha)
theorem implAffs_ev (af : List Aff) (hal : af.length ≤ 1000000000) (hs : ∀ a ∈ af, AffS a) : Ev (fun N => impl_affixesOk.f N [affsP af]) [boolP (affsB af)] := by
  simp only [impl_affixesOk.f_eq, affs_len]
  exact (implAffs_loop hal hs af [] rfl).diag
theorem implEntry_loop (e : Ent) (hs : EntS e) : ∀ (rest pre : List Int) (p : Option Int), bytesOf e.flags = pre ++ rest → AheadJ pre p →
    Ev2 (fun N n => impl_entryOk.l0 N n (e.flags.size : Int) (pre.length : Int) e.stem e.flags) [boolP (upL p rest && (isWord e.stem && decide ((e.flags.size : Int) ≤ 4)))] := by
  have z1 := hs.stem; have z2 := hs.flags
  have hw := implWord_ev e.stem (by omega)
  simp only [strP] at hw
  intro rest
  induction rest with
  | nil =>
    intro pre p hp _
    refine Ev2.succ ?_
    simp only [impl_entryOk.l0_eq, at_sizeE hp, strs_len, strs_elem, ints_len, ints_elem, items_list, fld_agg, elem_list, toStr_sc, toInt_sc, toBool_sc, headD_one, nat_int, get_bt, decide_eq_true_eq, decide_eq_false_iff_not, decide_true, decide_false, if_true, if_false, ite_self, Bool.not_true, Bool.not_false, Bool.false_eq_true, Bool.true_eq_false, Bool.true_and, Bool.false_and, Bool.and_true, Bool.and_false, not_true, not_false_iff, Option.bind_some, nn, toList_inj, Bool.not_eq_true', Bool.not_eq_false', Int.le_refl, and_self, true_and, and_true, false_and, and_false, bne_self_eq_false, beq_self_eq_true, Int.reduceEq, Nat.reduceEqDiff, List.length_singleton, List.tail_cons, Int.reduceLE, Int.reduceLT, decide_eq_true_eq]
    refine Ev2.bind hw ?_
    cases h : isWord e.stem <;> cases p <;> simp only [upL, strs_len, strs_elem, ints_len, ints_elem, items_list, fld_agg, elem_list, toStr_sc, toInt_sc, toBool_sc, headD_one, nat_int, get_bt, decide_eq_true_eq, decide_eq_false_iff_not, decide_true, decide_false, if_true, if_false, ite_self, Bool.not_true, Bool.not_false, Bool.false_eq_true, Bool.true_eq_false, Bool.true_and, Bool.false_and, Bool.and_true, Bool.and_false, not_true, not_false_iff, Option.bind_some, nn, toList_inj, Bool.not_eq_true', Bool.not_eq_false', Int.le_refl, and_self, true_and, and_true, false_and, and_false, bne_self_eq_false, beq_self_eq_true, Int.reduceEq, Nat.reduceEqDiff, List.length_singleton, List.tail_cons, Int.reduceLE, Int.reduceLT, decide_eq_true_eq] <;> exact Ev2.now _
  | cons c rest ih =>
    intro pre p hp hA
    have hn := at_next hp (by rw [bytesOf_len]; omega)
    have hnext := ih (pre ++ [c]) (some c) (at_step hp) (.inr ⟨pre, c, rfl, rfl⟩)
    refine Ev2.succ ?_
    cases hu : (decide (65 ≤ c) && decide (c ≤ 90)) with
    | false =>
      have hv : upL p (c :: rest) = false := by cases p <;> simp only [upL, hu, Bool.false_and]
      simp only [impl_entryOk.l0_eq, at_size hp, at_bt hp, implUp_val, hu, hv, strs_len, strs_elem, ints_len, ints_elem, items_list, fld_agg, elem_list, toStr_sc, toInt_sc, toBool_sc, headD_one, nat_int, get_bt, decide_eq_true_eq, decide_eq_false_iff_not, decide_true, decide_false, if_true, if_false, ite_self, Bool.not_true, Bool.not_false, Bool.false_eq_true, Bool.true_eq_false, Bool.true_and, Bool.false_and, Bool.and_true, Bool.and_false, not_true, not_false_iff, Option.bind_some, nn, toList_inj, Bool.not_eq_true', Bool.not_eq_false', Int.le_refl, and_self, true_and, and_true, false_and, and_false, bne_self_eq_false, beq_self_eq_true, Int.reduceEq, Nat.reduceEqDiff, List.length_singleton, List.tail_cons, Int.reduceLE, Int.reduceLT, decide_eq_true_eq]
      exact Ev2.now _
    | true =>
      rcases hA with ⟨rfl, rfl⟩ | ⟨pre', q, rfl, rfl⟩
      · have c3 : ((0 : Int) < (([] : List Int).length : Int)) = False := fls (by simp)
        simp only [impl_entryOk.l0_eq, at_size hp, at_bt hp, hn, implUp_val, hu, c3, upL, strs_len, strs_elem, ints_len, ints_elem, items_list, fld_agg, elem_list, toStr_sc, toInt_sc, toBool_sc, headD_one, nat_int, get_bt, decide_eq_true_eq, decide_eq_false_iff_not, decide_true, decide_false, if_true, if_false, ite_self, Bool.not_true, Bool.not_false, Bool.false_eq_true, Bool.true_eq_false, Bool.true_and, Bool.false_and, Bool.and_true, Bool.and_false, not_true, not_false_iff, Option.bind_some, nn, toList_inj, Bool.not_eq_true', Bool.not_eq_false', Int.le_refl, and_self, true_and, and_true, false_and, and_false, bne_self_eq_false, beq_self_eq_true, Int.reduceEq, Nat.reduceEqDiff, List.length_singleton, List.tail_cons, Int.reduceLE, Int.reduceLT, decide_eq_true_eq]
        exact hnext
      · obtain ⟨h1, h2, h3, h4⟩ := prev_bytes hp z2
        by_cases hq : q < c
        · have c5 : (c ≤ q) = False := fls (by omega)
          simp only [impl_entryOk.l0_eq, at_size hp, at_bt hp, hn, implUp_val, hu, h1, h2, h3, h4, hq, c5, upL, strs_len, strs_elem, ints_len, ints_elem, items_list, fld_agg, elem_list, toStr_sc, toInt_sc, toBool_sc, headD_one, nat_int, get_bt, decide_eq_true_eq, decide_eq_false_iff_not, decide_true, decide_false, if_true, if_false, ite_self, Bool.not_true, Bool.not_false, Bool.false_eq_true, Bool.true_eq_false, Bool.true_and, Bool.false_and, Bool.and_true, Bool.and_false, not_true, not_false_iff, Option.bind_some, nn, toList_inj, Bool.not_eq_true', Bool.not_eq_false', Int.le_refl, and_self, true_and, and_true, false_and, and_false, bne_self_eq_false, beq_self_eq_true, Int.reduceEq, Nat.reduceEqDiff, List.length_singleton, List.tail_cons, Int.reduceLE, Int.reduceLT, decide_eq_true_eq]
          exact hnext
        · have c5 : (c ≤ q) = True := tru (by omega)
          simp only [impl_entryOk.l0_eq, at_size hp, at_bt hp, hn, implUp_val, hu, h1, h2, h3, h4, hq, c5, upL, strs_len, strs_elem, ints_len, ints_elem, items_list, fld_agg, elem_list, toStr_sc, toInt_sc, toBool_sc, headD_one, nat_int, get_bt, decide_eq_true_eq, decide_eq_false_iff_not, decide_true, decide_false, if_true, if_false, ite_self, Bool.not_true, Bool.not_false, Bool.false_eq_true, Bool.true_eq_false, Bool.true_and, Bool.false_and, Bool.and_true, Bool.and_false, not_true, not_false_iff, Option.bind_some, nn, toList_inj, Bool.not_eq_true', Bool.not_eq_false', Int.le_refl, and_self, true_and, and_true, false_and, and_false, bne_self_eq_false, beq_self_eq_true, Int.reduceEq, Nat.reduceEqDiff, List.length_singleton, List.tail_cons, Int.reduceLE, Int.reduceLT, decide_eq_true_eq]
          exact Ev2.now _
theorem implEntry_ev (e : Ent) (hs : EntS e) : Ev (fun N => impl_entryOk.f N [entP e]) [boolP (entB e)] := by
  simp only [impl_entryOk.f_eq, ent_f0, ent_f1, strs_len, strs_elem, ints_len, ints_elem, items_list, fld_agg, elem_list, toStr_sc, toInt_sc, toBool_sc, headD_one, nat_int, get_bt, decide_eq_true_eq, decide_eq_false_iff_not, decide_true, decide_false, if_true, if_false, ite_self, Bool.not_true, Bool.not_false, Bool.false_eq_true, Bool.true_eq_false, Bool.true_and, Bool.false_and, Bool.and_true, Bool.and_false, not_true, not_false_iff, Option.bind_some, nn, toList_inj, Bool.not_eq_true', Bool.not_eq_false', Int.le_refl, and_self, true_and, and_true, false_and, and_false, bne_self_eq_false, beq_self_eq_true, Int.reduceEq, Nat.reduceEqDiff, List.length_singleton, List.tail_cons, Int.reduceLE, Int.reduceLT, decide_eq_true_eq]
  exact (implEntry_loop e hs (bytesOf e.flags) [] none rfl (.inl ⟨rfl, rfl⟩)).diag
theorem implEnts_loop {es : List Ent} (hel : es.length ≤ 1000000000) (hs : ∀ e ∈ es, EntS e) : ∀ (rest pre : List Ent) (p : Option ByteArray), es = pre ++ rest → AheadE pre p →
    Ev2 (fun N n => impl_entriesOk.l0 N n (entsP es) (entsP es) (es.length : Int) (pre.length : Int)) [boolP (entsL p rest && decide ((es.length : Int) ≤ 24))] := by
  intro rest
  induction rest with
  | nil =>
    intro pre p hp _
    refine Ev2.succ ?_
    simp only [impl_entriesOk.l0_eq, ents_len, at_end hp, strs_len, strs_elem, ints_len, ints_elem, items_list, fld_agg, elem_list, toStr_sc, toInt_sc, toBool_sc, headD_one, nat_int, get_bt, decide_eq_true_eq, decide_eq_false_iff_not, decide_true, decide_false, if_true, if_false, ite_self, Bool.not_true, Bool.not_false, Bool.false_eq_true, Bool.true_eq_false, Bool.true_and, Bool.false_and, Bool.and_true, Bool.and_false, not_true, not_false_iff, Option.bind_some, nn, toList_inj, Bool.not_eq_true', Bool.not_eq_false', Int.le_refl, and_self, true_and, and_true, false_and, and_false, bne_self_eq_false, beq_self_eq_true, Int.reduceEq, Nat.reduceEqDiff, List.length_singleton, List.tail_cons, Int.reduceLE, Int.reduceLT, decide_eq_true_eq]
    cases p <;> simp only [entsL, strs_len, strs_elem, ints_len, ints_elem, items_list, fld_agg, elem_list, toStr_sc, toInt_sc, toBool_sc, headD_one, nat_int, get_bt, decide_eq_true_eq, decide_eq_false_iff_not, decide_true, decide_false, if_true, if_false, ite_self, Bool.not_true, Bool.not_false, Bool.false_eq_true, Bool.true_eq_false, Bool.true_and, Bool.false_and, Bool.and_true, Bool.and_false, not_true, not_false_iff, Option.bind_some, nn, toList_inj, Bool.not_eq_true', Bool.not_eq_false', Int.le_refl, and_self, true_and, and_true, false_and, and_false, bne_self_eq_false, beq_self_eq_true, Int.reduceEq, Nat.reduceEqDiff, List.length_singleton, List.tail_cons, Int.reduceLE, Int.reduceLT, decide_eq_true_eq] <;> exact Ev2.now _
  | cons e rest ih =>
    intro pre p hp hA
    have hnext := ih (pre ++ [e]) (some e.stem) (at_step hp) (.inr ⟨pre, e, rfl, rfl⟩)
    refine Ev2.succ ?_
    simp only [impl_entriesOk.l0_eq, ents_len, ents_elem hp, at_lt hp, ent_f0, ent_f1, ent_agg, strs_len, strs_elem, ints_len, ints_elem, items_list, fld_agg, elem_list, toStr_sc, toInt_sc, toBool_sc, headD_one, nat_int, get_bt, decide_eq_true_eq, decide_eq_false_iff_not, decide_true, decide_false, if_true, if_false, ite_self, Bool.not_true, Bool.not_false, Bool.false_eq_true, Bool.true_eq_false, Bool.true_and, Bool.false_and, Bool.and_true, Bool.and_false, not_true, not_false_iff, Option.bind_some, nn, toList_inj, Bool.not_eq_true', Bool.not_eq_false', Int.le_refl, and_self, true_and, and_true, false_and, and_false, bne_self_eq_false, beq_self_eq_true, Int.reduceEq, Nat.reduceEqDiff, List.length_singleton, List.tail_cons, Int.reduceLE, Int.reduceLT, decide_eq_true_eq]
    refine Ev2.bind (implEntry_ev e (hs e (by rw [hp]; simp))) ?_
    cases hu : entB e with
    | false =>
      have hv : entsL p (e :: rest) = false := by cases p <;> simp only [entsL, hu, Bool.false_and]
      simp only [hv, strs_len, strs_elem, ints_len, ints_elem, items_list, fld_agg, elem_list, toStr_sc, toInt_sc, toBool_sc, headD_one, nat_int, get_bt, decide_eq_true_eq, decide_eq_false_iff_not, decide_true, decide_false, if_true, if_false, ite_self, Bool.not_true, Bool.not_false, Bool.false_eq_true, Bool.true_eq_false, Bool.true_and, Bool.false_and, Bool.and_true, Bool.and_false, not_true, not_false_iff, Option.bind_some, nn, toList_inj, Bool.not_eq_true', Bool.not_eq_false', Int.le_refl, and_self, true_and, and_true, false_and, and_false, bne_self_eq_false, beq_self_eq_true, Int.reduceEq, Nat.reduceEqDiff, List.length_singleton, List.tail_cons, Int.reduceLE, Int.reduceLT, decide_eq_true_eq]
      exact Ev2.now _
    | true =>
      rcases hA with ⟨rfl, rfl⟩ | ⟨pre', q, rfl, rfl⟩
      · have c3 : ((0 : Int) < (([] : List Ent).length : Int)) = False := fls (by simp)
        simp only [c3, at_next hp (by omega), entsL, hu, strs_len, strs_elem, ints_len, ints_elem, items_list, fld_agg, elem_list, toStr_sc, toInt_sc, toBool_sc, headD_one, nat_int, get_bt, decide_eq_true_eq, decide_eq_false_iff_not, decide_true, decide_false, if_true, if_false, ite_self, Bool.not_true, Bool.not_false, Bool.false_eq_true, Bool.true_eq_false, Bool.true_and, Bool.false_and, Bool.and_true, Bool.and_false, not_true, not_false_iff, Option.bind_some, nn, toList_inj, Bool.not_eq_true', Bool.not_eq_false', Int.le_refl, and_self, true_and, and_true, false_and, and_false, bne_self_eq_false, beq_self_eq_true, Int.reduceEq, Nat.reduceEqDiff, List.length_singleton, List.tail_cons, Int.reduceLE, Int.reduceLT, decide_eq_true_eq]
        exact hnext
      · obtain ⟨h1, h2, h3, h4⟩ := prev_ents hp hel
        cases hq : bLess q.stem e.stem with
        | true =>
          simp only [h1, h2, h3, h4, ent_f0, bLess_eq, hq, at_next hp (by omega), entsL, hu, strs_len, strs_elem, ints_len, ints_elem, items_list, fld_agg, elem_list, toStr_sc, toInt_sc, toBool_sc, headD_one, nat_int, get_bt, decide_eq_true_eq, decide_eq_false_iff_not, decide_true, decide_false, if_true, if_false, ite_self, Bool.not_true, Bool.not_false, Bool.false_eq_true, Bool.true_eq_false, Bool.true_and, Bool.false_and, Bool.and_true, Bool.and_false, not_true, not_false_iff, Option.bind_some, nn, toList_inj, Bool.not_eq_true', Bool.not_eq_false', Int.le_refl, and_self, true_and, and_true, false_and, and_false, bne_self_eq_false, beq_self_eq_true, Int.reduceEq, Nat.reduceEqDiff, List.length_singleton, List.tail_cons, Int.reduceLE, Int.reduceLT, decide_eq_true_eq]
          exact hnext
        | false =>
          simp only [h1, h2, h3, h4, ent_f0, bLess_eq, hq, entsL, hu, strs_len, strs_elem, ints_len, ints_elem, items_list, fld_agg, elem_list, toStr_sc, toInt_sc, toBool_sc, headD_one, nat_int, get_bt, decide_eq_true_eq, decide_eq_false_iff_not, decide_true, decide_false, if_true, if_false, ite_self, Bool.not_true, Bool.not_false, Bool.false_eq_true, Bool.true_eq_false, Bool.true_and, Bool.false_and, Bool.and_true, Bool.and_false, not_true, not_false_iff, Option.bind_some, nn, toList_inj, Bool.not_eq_true', Bool.not_eq_false', Int.le_refl, and_self, true_and, and_true, false_and, and_false, bne_self_eq_false, beq_self_eq_true, Int.reduceEq, Nat.reduceEqDiff, List.length_singleton, List.tail_cons, Int.reduceLE, Int.reduceLT, decide_eq_true_eq]
          exact Ev2.now _
theorem implBookOk_ev {af : List Aff} {es : List Ent} (hs : BookS af es) : Ev (fun N => impl_BookOk.f N [bookP af es]) [boolP (bookB af es)] := by
  have h1 := implAffs_ev af hs.al hs.a
  have h2 := (implEnts_loop hs.el hs.e es [] none rfl (.inl ⟨rfl, rfl⟩)).diag
  simp only [impl_BookOk.f_eq, book_f0, book_f1]
  refine Ev.bind h1 ?_
  cases h : affsB af with
  | false =>
    simp only [bookB, h, strs_len, strs_elem, ints_len, ints_elem, items_list, fld_agg, elem_list, toStr_sc, toInt_sc, toBool_sc, headD_one, nat_int, get_bt, decide_eq_true_eq, decide_eq_false_iff_not, decide_true, decide_false, if_true, if_false, ite_self, Bool.not_true, Bool.not_false, Bool.false_eq_true, Bool.true_eq_false, Bool.true_and, Bool.false_and, Bool.and_true, Bool.and_false, not_true, not_false_iff, Option.bind_some, nn, toList_inj, Bool.not_eq_true', Bool.not_eq_false', Int.le_refl, and_self, true_and, and_true, false_and, and_false, bne_self_eq_false, beq_self_eq_true, Int.reduceEq, Nat.reduceEqDiff, List.length_singleton, List.tail_cons, Int.reduceLE, Int.reduceLT, decide_eq_true_eq]
    exact Ev.now _
  | true =>
    simp only [impl_entriesOk.f_eq, ents_len, bookB, h, strs_len, strs_elem, ints_len, ints_elem, items_list, fld_agg, elem_list, toStr_sc, toInt_sc, toBool_sc, headD_one, nat_int, get_bt, decide_eq_true_eq, decide_eq_false_iff_not, decide_true, decide_false, if_true, if_false, ite_self, Bool.not_true, Bool.not_false, Bool.false_eq_true, Bool.true_eq_false, Bool.true_and, Bool.false_and, Bool.and_true, Bool.and_false, not_true, not_false_iff, Option.bind_some, nn, toList_inj, Bool.not_eq_true', Bool.not_eq_false', Int.le_refl, and_self, true_and, and_true, false_and, and_false, bne_self_eq_false, beq_self_eq_true, Int.reduceEq, Nat.reduceEqDiff, List.length_singleton, List.tail_cons, Int.reduceLE, Int.reduceLT, decide_eq_true_eq]
    refine Ev.bind h2 ?_
    simp only [strs_len, strs_elem, ints_len, ints_elem, items_list, fld_agg, elem_list, toStr_sc, toInt_sc, toBool_sc, headD_one, nat_int, get_bt, decide_eq_true_eq, decide_eq_false_iff_not, decide_true, decide_false, if_true, if_false, ite_self, Bool.not_true, Bool.not_false, Bool.false_eq_true, Bool.true_eq_false, Bool.true_and, Bool.false_and, Bool.and_true, Bool.and_false, not_true, not_false_iff, Option.bind_some, nn, toList_inj, Bool.not_eq_true', Bool.not_eq_false', Int.le_refl, and_self, true_and, and_true, false_and, and_false, bne_self_eq_false, beq_self_eq_true, Int.reduceEq, Nat.reduceEqDiff, List.length_singleton, List.tail_cons, Int.reduceLE, Int.reduceLT, decide_eq_true_eq]
    exact Ev.now _
theorem sort_val (l : List ByteArray) (h2 : l.length ≤ 1000000000) (N : Nat) : slices_Sort_string_string.f N [strsP l] = some [strsP (sortM l)] := by
  show sortDen [strsP l] = _
  simp only [strsP, sortDen, List.length_map, toStr_strs]
  rw [if_pos (by omega)]
theorem compact_val (l : List ByteArray) (h2 : l.length ≤ 1000000000) (N : Nat) : slices_Compact_string_string.f N [strsP l] = some [strsP (compactM l)] := by
  show compactDen [strsP l] = _
  simp only [strsP, compactDen, List.length_map]
  rw [toStr_strs, if_pos (by omega)]
theorem sorted_val (l : List ByteArray) (h2 : l.length ≤ 1000000000) (N : Nat) : impl_sorted.f N [strsP l] = some [strsP (compactM (sortM l))] := by
  have c1 : l.length ≤ 8796093022208 := by omega
  have hl := compactM_len (sortM l)
  rw [sortM_len] at hl
  have c2 : (compactM (sortM l)).length ≤ 8796093022208 := by omega
  have hc := compact_val (sortM l) (by rw [sortM_len]; exact h2)
  simp only [impl_sorted.f_eq, strs_len, strs_full, List.length_nil, Nat.zero_add, c1, c2, sort_val l h2, hc, headD_one, Option.bind_some, if_true]
theorem has01 (c : UInt8) : ∀ l : List UInt8, decide (0 ≤ Lib.indexByte l c) = l.contains c
  | [] => rfl
  | b :: l => by
    have ih := has01 c l
    have hg := Lib.indexByte_ge l c
    rw [Lib.indexByte, List.contains_cons]
    by_cases hb : b = c
    · subst hb; simp
    · have h1 : (b == c) = false := by simp [hb]
      have h2 : (c == b) = false := by simp [Ne.symm hb]
      rw [h1, h2, Bool.false_or, ← ih]
      by_cases h3 : Lib.indexByte l c = -1
      · simp [h3]
      · have h4 : (Lib.indexByte l c == -1) = false := by simp [h3]
        simp only [h4, Bool.false_eq_true, if_false]
        exact decide_eq_decide.2 (by omega)
theorem ext_one (s : ByteArray) {i : Nat} (h : i < s.size) : s.extract i (i + 1) = ⟨#[s.data.toList[i]'(by rw [Array.length_toList]; exact h)]⟩ := by
  have hi : ∀ a b : ByteArray, a.data.toList = b.data.toList → a = b := fun a b h => by cases a; cases b; simp at h; simp [h]
  apply hi
  have hl : i < s.data.toList.length := by rw [Array.length_toList]; exact h
  rw [ByteArray.data_extract]
  simp only [Array.toList_extract, List.extract]
  rw [List.drop_eq_getElem_cons hl]
  simp
theorem hasFrom_contains (s : ByteArray) (b : UInt8) : ∀ d i : Nat, i + d = s.size → hasFrom s ⟨#[b]⟩ d i = (s.data.toList.drop i).contains b
  | 0, i, h => by
    rw [List.drop_of_length_le (by rw [Array.length_toList]; show s.size ≤ i; omega)]; rfl
  | d + 1, i, h => by
    have hl : i < s.data.toList.length := by rw [Array.length_toList]; show i < s.size; omega
    rw [hasFrom, ext_one s (by omega), List.drop_eq_getElem_cons hl, List.contains_cons, hasFrom_contains s b d (i + 1) (by omega)]
    congr 1
    by_cases he : s.data.toList[i] = b
    · simp [he]
    · have : ¬ (ByteArray.mk #[s.data.toList[i]] = ⟨#[b]⟩) := fun h => he (by injection h with h; injection h with h; injection h)
      have h2 : (b == s.data.toList[i]) = false := beq_false_of_ne (fun h => he h.symm)
      rw [h2]
      exact decide_eq_false this
theorem contains_flag (s p : ByteArray) (hp : p.size = 1) (N : Nat) : strings_Contains.f N [PV.sc (.string s), PV.sc (.string p)] = some [boolP (hasB s p)] := by
  have hi : strings_Index.f N [PV.sc (.string s), PV.sc (.string p)] = some [intP (Lib.indexByte s.data.toList (p.get! 0))] := by
    show indexDen [strP s, strP p] = _
    have : (if p.size = 1 then some [intP (Lib.indexByte s.data.toList (p.get! 0))] else none) = some [intP (Lib.indexByte s.data.toList (p.get! 0))] := if_pos hp
    exact this
  have e : hasB s p = decide (0 ≤ Lib.indexByte s.data.toList (p.get! 0)) := by
    rw [has01]
    unfold hasB
    conv => lhs; rw [one_bytes p hp]
    rw [hasFrom_contains s _ s.size 0 (by omega), List.drop_zero]
  rw [e]
  simp only [strings_Contains.f_eq, hi, strs_len, strs_elem, ints_len, ints_elem, items_list, fld_agg, elem_list, toStr_sc, toInt_sc, toBool_sc, headD_one, nat_int, get_bt, decide_eq_true_eq, decide_eq_false_iff_not, decide_true, decide_false, if_true, if_false, ite_self, Bool.not_true, Bool.not_false, Bool.false_eq_true, Bool.true_eq_false, Bool.true_and, Bool.false_and, Bool.and_true, Bool.and_false, not_true, not_false_iff, Option.bind_some, nn, toList_inj, Bool.not_eq_true', Bool.not_eq_false', Int.le_refl, and_self, true_and, and_true, false_and, and_false, bne_self_eq_false, beq_self_eq_true, Int.reduceEq, Nat.reduceEqDiff, List.length_singleton, List.tail_cons, Int.reduceLE, Int.reduceLT, decide_eq_true_eq]
  rfl
def doI (a : Aff) (s : ByteArray) : List PV := match doB a s with
  | some x => [strP x, boolP true]
  | none => [strP ⟨#[]⟩, boolP false]
theorem implDo_ev {a : Aff} (ha : affB a = true) {s : ByteArray} (hw : isWord s = true) : Ev (fun N => impl_AffixDo.f N [affP a, strP s]) (doI a s) := by
  obtain ⟨⟨g1, g2⟩, g3, g4, g5, g6⟩ := affB_facts ha
  have hs := word_size hw
  have hok := implAffixOk_ev a ⟨by omega, by omega, by omega, by omega⟩
  have hwo := implWord_ev s (by omega)
  have hE := hasSuf_val s a.cond (by omega)
  have hB := hasPre_val s a.cond
  rw [ha] at hok
  rw [hw] at hwo
  simp only [strP] at hwo
  have nil0 : PV.sc (.string (ByteArray.mk #[])) = strP ⟨#[]⟩ := rfl
  unfold doI doB
  simp only [impl_AffixDo.f_eq, aff_f0, aff_f1, aff_f2, aff_f3, aff_f4, aff_agg, strs_len, strs_elem, ints_len, ints_elem, items_list, fld_agg, elem_list, toStr_sc, toInt_sc, toBool_sc, headD_one, nat_int, get_bt, decide_eq_true_eq, decide_eq_false_iff_not, decide_true, decide_false, if_true, if_false, ite_self, Bool.not_true, Bool.not_false, Bool.false_eq_true, Bool.true_eq_false, Bool.true_and, Bool.false_and, Bool.and_true, Bool.and_false, not_true, not_false_iff, Option.bind_some, nn, toList_inj, Bool.not_eq_true', Bool.not_eq_false', Int.le_refl, and_self, true_and, and_true, false_and, and_false, bne_self_eq_false, beq_self_eq_true, Int.reduceEq, Nat.reduceEqDiff, List.length_singleton, List.tail_cons, Int.reduceLE, Int.reduceLT, decide_eq_true_eq]
  refine Ev.bind hok ?_
  simp only [strs_len, strs_elem, ints_len, ints_elem, items_list, fld_agg, elem_list, toStr_sc, toInt_sc, toBool_sc, headD_one, nat_int, get_bt, decide_eq_true_eq, decide_eq_false_iff_not, decide_true, decide_false, if_true, if_false, ite_self, Bool.not_true, Bool.not_false, Bool.false_eq_true, Bool.true_eq_false, Bool.true_and, Bool.false_and, Bool.and_true, Bool.and_false, not_true, not_false_iff, Option.bind_some, nn, toList_inj, Bool.not_eq_true', Bool.not_eq_false', Int.le_refl, and_self, true_and, and_true, false_and, and_false, bne_self_eq_false, beq_self_eq_true, Int.reduceEq, Nat.reduceEqDiff, List.length_singleton, List.tail_cons, Int.reduceLE, Int.reduceLT, decide_eq_true_eq]
  refine Ev.bind hwo ?_
  rcases Bool.eq_false_or_eq_true a.front with hf | hf
  · have e1 : fitB a s = begB s a.cond := by simp [fitB, hf]
    have e2 : formB a s = a.add ++ s.extract a.strip.size s.size := by simp [formB, hf]
    rw [e1, e2]
    cases hb : begB s a.cond with
    | false => simp only [hf, hB, hb, strs_len, strs_elem, ints_len, ints_elem, items_list, fld_agg, elem_list, toStr_sc, toInt_sc, toBool_sc, headD_one, nat_int, get_bt, decide_eq_true_eq, decide_eq_false_iff_not, decide_true, decide_false, if_true, if_false, ite_self, Bool.not_true, Bool.not_false, Bool.false_eq_true, Bool.true_eq_false, Bool.true_and, Bool.false_and, Bool.and_true, Bool.and_false, not_true, not_false_iff, Option.bind_some, nn, toList_inj, Bool.not_eq_true', Bool.not_eq_false', Int.le_refl, and_self, true_and, and_true, false_and, and_false, bne_self_eq_false, beq_self_eq_true, Int.reduceEq, Nat.reduceEqDiff, List.length_singleton, List.tail_cons, Int.reduceLE, Int.reduceLT, decide_eq_true_eq]; exact Ev.now _
    | true =>
      have hz : a.cond.size ≤ s.size := by
        simp only [begB, Bool.and_eq_true, decide_eq_true_eq] at hb; exact hb.1
      have c1 : ((a.strip.size : Int) ≤ (s.size : Int)) = True := tru (by omega)
      have c2 : (a.add.size + (s.extract a.strip.size s.size).size ≤ 9223372036854775807) = True := tru (by rw [ByteArray.size_extract]; omega)
      have hw2 := implWord_ev (a.add ++ s.extract a.strip.size s.size) (by rw [ByteArray.size_append, ByteArray.size_extract]; omega)
      simp only [strP] at hw2
      simp only [hf, hB, hb, c1, c2, nn, strs_len, strs_elem, ints_len, ints_elem, items_list, fld_agg, elem_list, toStr_sc, toInt_sc, toBool_sc, headD_one, nat_int, get_bt, decide_eq_true_eq, decide_eq_false_iff_not, decide_true, decide_false, if_true, if_false, ite_self, Bool.not_true, Bool.not_false, Bool.false_eq_true, Bool.true_eq_false, Bool.true_and, Bool.false_and, Bool.and_true, Bool.and_false, not_true, not_false_iff, Option.bind_some, nn, toList_inj, Bool.not_eq_true', Bool.not_eq_false', Int.le_refl, and_self, true_and, and_true, false_and, and_false, bne_self_eq_false, beq_self_eq_true, Int.reduceEq, Nat.reduceEqDiff, List.length_singleton, List.tail_cons, Int.reduceLE, Int.reduceLT, decide_eq_true_eq]
      refine Ev.bind hw2 ?_
      cases hi : isWord (a.add ++ s.extract a.strip.size s.size) with
      | false => simp only [strs_len, strs_elem, ints_len, ints_elem, items_list, fld_agg, elem_list, toStr_sc, toInt_sc, toBool_sc, headD_one, nat_int, get_bt, decide_eq_true_eq, decide_eq_false_iff_not, decide_true, decide_false, if_true, if_false, ite_self, Bool.not_true, Bool.not_false, Bool.false_eq_true, Bool.true_eq_false, Bool.true_and, Bool.false_and, Bool.and_true, Bool.and_false, not_true, not_false_iff, Option.bind_some, nn, toList_inj, Bool.not_eq_true', Bool.not_eq_false', Int.le_refl, and_self, true_and, and_true, false_and, and_false, bne_self_eq_false, beq_self_eq_true, Int.reduceEq, Nat.reduceEqDiff, List.length_singleton, List.tail_cons, Int.reduceLE, Int.reduceLT, decide_eq_true_eq]; exact Ev.now _
      | true => simp only [strs_len, strs_elem, ints_len, ints_elem, items_list, fld_agg, elem_list, toStr_sc, toInt_sc, toBool_sc, headD_one, nat_int, get_bt, decide_eq_true_eq, decide_eq_false_iff_not, decide_true, decide_false, if_true, if_false, ite_self, Bool.not_true, Bool.not_false, Bool.false_eq_true, Bool.true_eq_false, Bool.true_and, Bool.false_and, Bool.and_true, Bool.and_false, not_true, not_false_iff, Option.bind_some, nn, toList_inj, Bool.not_eq_true', Bool.not_eq_false', Int.le_refl, and_self, true_and, and_true, false_and, and_false, bne_self_eq_false, beq_self_eq_true, Int.reduceEq, Nat.reduceEqDiff, List.length_singleton, List.tail_cons, Int.reduceLE, Int.reduceLT, decide_eq_true_eq]; exact Ev.now _
  · have e1 : fitB a s = endB s a.cond := by simp [fitB, hf]
    have e2 : formB a s = s.extract 0 (s.size - a.strip.size) ++ a.add := by simp [formB, hf]
    rw [e1, e2]
    cases hb : endB s a.cond with
    | false => simp only [hf, hE, hb, strs_len, strs_elem, ints_len, ints_elem, items_list, fld_agg, elem_list, toStr_sc, toInt_sc, toBool_sc, headD_one, nat_int, get_bt, decide_eq_true_eq, decide_eq_false_iff_not, decide_true, decide_false, if_true, if_false, ite_self, Bool.not_true, Bool.not_false, Bool.false_eq_true, Bool.true_eq_false, Bool.true_and, Bool.false_and, Bool.and_true, Bool.and_false, not_true, not_false_iff, Option.bind_some, nn, toList_inj, Bool.not_eq_true', Bool.not_eq_false', Int.le_refl, and_self, true_and, and_true, false_and, and_false, bne_self_eq_false, beq_self_eq_true, Int.reduceEq, Nat.reduceEqDiff, List.length_singleton, List.tail_cons, Int.reduceLE, Int.reduceLT, decide_eq_true_eq]; exact Ev.now _
    | true =>
      have hz : a.cond.size ≤ s.size := by
        simp only [endB, Bool.and_eq_true, decide_eq_true_eq] at hb; exact hb.1
      have w1 : IntKind.i64.wrap ((s.size : Int) - (a.strip.size : Int)) = ((s.size - a.strip.size : Nat) : Int) := nat_wrap (by omega) (by omega)
      have c1 : (((s.size - a.strip.size : Nat) : Int) ≤ (s.size : Int)) = True := tru (by omega)
      have c2 : ((s.extract 0 (s.size - a.strip.size)).size + a.add.size ≤ 9223372036854775807) = True := tru (by rw [ByteArray.size_extract]; omega)
      have hw2 := implWord_ev (s.extract 0 (s.size - a.strip.size) ++ a.add) (by rw [ByteArray.size_append, ByteArray.size_extract]; omega)
      simp only [strP] at hw2
      simp only [hf, hE, hb, w1, c1, c2, nn, strs_len, strs_elem, ints_len, ints_elem, items_list, fld_agg, elem_list, toStr_sc, toInt_sc, toBool_sc, headD_one, nat_int, get_bt, decide_eq_true_eq, decide_eq_false_iff_not, decide_true, decide_false, if_true, if_false, ite_self, Bool.not_true, Bool.not_false, Bool.false_eq_true, Bool.true_eq_false, Bool.true_and, Bool.false_and, Bool.and_true, Bool.and_false, not_true, not_false_iff, Option.bind_some, nn, toList_inj, Bool.not_eq_true', Bool.not_eq_false', Int.le_refl, and_self, true_and, and_true, false_and, and_false, bne_self_eq_false, beq_self_eq_true, Int.reduceEq, Nat.reduceEqDiff, List.length_singleton, List.tail_cons, Int.reduceLE, Int.reduceLT, decide_eq_true_eq]
      refine Ev.bind hw2 ?_
      cases hi : isWord (s.extract 0 (s.size - a.strip.size) ++ a.add) with
      | false => simp only [strs_len, strs_elem, ints_len, ints_elem, items_list, fld_agg, elem_list, toStr_sc, toInt_sc, toBool_sc, headD_one, nat_int, get_bt, decide_eq_true_eq, decide_eq_false_iff_not, decide_true, decide_false, if_true, if_false, ite_self, Bool.not_true, Bool.not_false, Bool.false_eq_true, Bool.true_eq_false, Bool.true_and, Bool.false_and, Bool.and_true, Bool.and_false, not_true, not_false_iff, Option.bind_some, nn, toList_inj, Bool.not_eq_true', Bool.not_eq_false', Int.le_refl, and_self, true_and, and_true, false_and, and_false, bne_self_eq_false, beq_self_eq_true, Int.reduceEq, Nat.reduceEqDiff, List.length_singleton, List.tail_cons, Int.reduceLE, Int.reduceLT, decide_eq_true_eq]; exact Ev.now _
      | true => simp only [strs_len, strs_elem, ints_len, ints_elem, items_list, fld_agg, elem_list, toStr_sc, toInt_sc, toBool_sc, headD_one, nat_int, get_bt, decide_eq_true_eq, decide_eq_false_iff_not, decide_true, decide_false, if_true, if_false, ite_self, Bool.not_true, Bool.not_false, Bool.false_eq_true, Bool.true_eq_false, Bool.true_and, Bool.false_and, Bool.and_true, Bool.and_false, not_true, not_false_iff, Option.bind_some, nn, toList_inj, Bool.not_eq_true', Bool.not_eq_false', Int.le_refl, and_self, true_and, and_true, false_and, and_false, bne_self_eq_false, beq_self_eq_true, Int.reduceEq, Nat.reduceEqDiff, List.length_singleton, List.tail_cons, Int.reduceLE, Int.reduceLT, decide_eq_true_eq]; exact Ev.now _
def addO (o : Option ByteArray) (out : List ByteArray) : List ByteArray := match o with
  | some x => out ++ [x]
  | none => out
def goB (flags stem : ByteArray) (front : Bool) (w : ByteArray) (a : Aff) : Bool := decide (a.front = front) && (hasB flags a.flag && (front || decide (w = stem)))
def addL (flags stem : ByteArray) (front : Bool) (w : ByteArray) : List Aff → List ByteArray → List ByteArray
  | [], out => out
  | a :: r, out => addL flags stem front w r (if goB flags stem front w a = true then addO (doB a w) out else out)
def addW (af : List Aff) (flags stem : ByteArray) (front : Bool) : List ByteArray → List ByteArray → List ByteArray
  | [], out => out
  | w :: r, out => addW af flags stem front r (addL flags stem front w af out)
theorem addO_len (o : Option ByteArray) (out : List ByteArray) : (addO o out).length ≤ out.length + 1 := by cases o <;> simp [addO]
theorem addL_len (flags stem : ByteArray) (front : Bool) (w : ByteArray) : ∀ (af : List Aff) (out : List ByteArray), (addL flags stem front w af out).length ≤ out.length + af.length
  | [], out => by simp [addL]
  | a :: r, out => by
    rw [addL, List.length_cons]
    split
    · have h1 := addL_len flags stem front w r (addO (doB a w) out); have h2 := addO_len (doB a w) out; omega
    · have h1 := addL_len flags stem front w r out; omega
theorem addW_len (af : List Aff) (flags stem : ByteArray) (front : Bool) : ∀ (ws out : List ByteArray), (addW af flags stem front ws out).length ≤ out.length + ws.length * af.length
  | [], out => by simp [addW]
  | w :: r, out => by
    have h1 := addW_len af flags stem front r (addL flags stem front w af out)
    have h2 := addL_len flags stem front w af out
    rw [addW, List.length_cons, Nat.add_mul, Nat.one_mul]; omega
theorem addL_mem (flags stem : ByteArray) (front : Bool) (w : ByteArray) : ∀ (af : List Aff) (out : List ByteArray) (x : ByteArray), x ∈ addL flags stem front w af out ↔ x ∈ out ∨ ∃ a ∈ af, goB flags stem front w a = true ∧ doB a w = some x
  | [], out, x => by simp [addL]
  | a :: r, out, x => by
    have ho : x ∈ addO (doB a w) out ↔ x ∈ out ∨ doB a w = some x := by
      cases hd : doB a w with
      | none => simp [addO]
      | some y => simp [addO, eq_comm]
    rw [addL, addL_mem flags stem front w r]
    split
    · rename_i hc
      rw [ho]
      constructor
      · rintro ((h | h) | ⟨b, hb, h⟩)
        · exact .inl h
        · exact .inr ⟨a, by simp, hc, h⟩
        · exact .inr ⟨b, by simp [hb], h⟩
      · rintro (h | ⟨b, hb, h1, h2⟩)
        · exact .inl (.inl h)
        · rcases List.mem_cons.1 hb with rfl | hb
          · exact .inl (.inr h2)
          · exact .inr ⟨b, hb, h1, h2⟩
    · rename_i hc
      constructor
      · rintro (h | ⟨b, hb, h⟩)
        · exact .inl h
        · exact .inr ⟨b, by simp [hb], h⟩
      · rintro (h | ⟨b, hb, h1, h2⟩)
        · exact .inl h
        · rcases List.mem_cons.1 hb with rfl | hb
          · exact absurd h1 hc
          · exact .inr ⟨b, hb, h1, h2⟩
theorem addW_mem (af : List Aff) (flags stem : ByteArray) (front : Bool) : ∀ (ws out : List ByteArray) (x : ByteArray), x ∈ addW af flags stem front ws out ↔ x ∈ out ∨ ∃ w ∈ ws, ∃ a ∈ af, goB flags stem front w a = true ∧ doB a w = some x
  | [], out, x => by simp [addW]
  | w :: r, out, x => by
    rw [addW, addW_mem af flags stem front r, addL_mem]
    constructor
    · rintro ((h | h) | ⟨v, hv, h⟩)
      · exact .inl h
      · exact .inr ⟨w, by simp, h⟩
      · exact .inr ⟨v, by simp [hv], h⟩
    · rintro (h | ⟨v, hv, h⟩)
      · exact .inl (.inl h)
      · rcases List.mem_cons.1 hv with rfl | hv
        · exact .inl (.inr h)
        · exact .inr ⟨v, hv, h⟩
theorem map_add (out : List ByteArray) (x : ByteArray) : out.map strP ++ [PV.sc (.string x)] = (out ++ [x]).map strP := by simp [strP]
def frontsL : List PV := [PV.sc (.bool false), PV.sc (.bool true)]
theorem forms_l2 {af : List Aff} (hg : ∀ a ∈ af, affB a = true) (hal : af.length ≤ 1000) {stem flags w : ByteArray} {front : Bool} (hw : isWord w = true) {k j l : Int} {y3 : List PV} {r : List PV} :
    ∀ (rest pre : List Aff) (out : List ByteArray), af = pre ++ rest → out.length + rest.length ≤ 100000000 →
    Ev3 (fun N m n => impl_Forms.l1 N m n (affsP af) front 2 k l (IntKind.i64.wrap (j + 1)) stem flags ((addL flags stem front w rest out).map strP) frontsL y3) r →
    Ev4 (fun N m0 m1 n => impl_Forms.l2 N m0 m1 n (affsP af) front w 2 k l j (affsP af) (af.length : Int) (pre.length : Int) stem flags (out.map strP) frontsL y3) r := by
  intro rest
  induction rest with
  | nil =>
    intro pre out hp hl hc
    refine Ev4.succ ?_
    simp only [impl_Forms.l2_eq, at_end hp, strs_len, strs_elem, ints_len, ints_elem, items_list, fld_agg, elem_list, toStr_sc, toInt_sc, toBool_sc, headD_one, nat_int, get_bt, decide_eq_true_eq, decide_eq_false_iff_not, decide_true, decide_false, if_true, if_false, ite_self, Bool.not_true, Bool.not_false, Bool.false_eq_true, Bool.true_eq_false, Bool.true_and, Bool.false_and, Bool.and_true, Bool.and_false, not_true, not_false_iff, Option.bind_some, nn, toList_inj, Bool.not_eq_true', Bool.not_eq_false', Int.le_refl, and_self, true_and, and_true, false_and, and_false, bne_self_eq_false, beq_self_eq_true, Int.reduceEq, Nat.reduceEqDiff, List.length_singleton, List.tail_cons, Int.reduceLE, Int.reduceLT, decide_eq_true_eq]
    exact hc.outer
  | cons a rest ih =>
    intro pre out hp hl hc
    have ha := hg a (by rw [hp]; simp)
    obtain ⟨_, hfs, _⟩ := affB_facts ha
    have hd := implDo_ev ha hw
    simp only [strP] at hd
    rw [List.length_cons] at hl
    have c1 : (out.length + 1 ≤ 8796093022208) = True := tru (by omega)
    rw [addL] at hc
    refine Ev4.succ ?_
    by_cases hf : a.front = front
    · cases hh : hasB flags a.flag with
      | false =>
        have hgo : goB flags stem front w a = false := by unfold goB; rw [hh]; simp
        rw [hgo] at hc
        simp only [impl_Forms.l2_eq, affs_len, affs_elem hp, at_lt hp, aff_f0, aff_f1, hf, contains_flag flags a.flag hfs, hh, at_next hp (by omega), strs_len, strs_elem, ints_len, ints_elem, items_list, fld_agg, elem_list, toStr_sc, toInt_sc, toBool_sc, headD_one, nat_int, get_bt, decide_eq_true_eq, decide_eq_false_iff_not, decide_true, decide_false, if_true, if_false, ite_self, Bool.not_true, Bool.not_false, Bool.false_eq_true, Bool.true_eq_false, Bool.true_and, Bool.false_and, Bool.and_true, Bool.and_false, not_true, not_false_iff, Option.bind_some, nn, toList_inj, Bool.not_eq_true', Bool.not_eq_false', Int.le_refl, and_self, true_and, and_true, false_and, and_false, bne_self_eq_false, beq_self_eq_true, Int.reduceEq, Nat.reduceEqDiff, List.length_singleton, List.tail_cons, Int.reduceLE, Int.reduceLT, decide_eq_true_eq]
        exact ih _ out (at_step hp) (by omega) hc
      | true =>
        cases hfr : front with
        | true =>
          subst hfr
          have hgo : goB flags stem true w a = true := by unfold goB; rw [hh, hf]; simp
          rw [hgo, if_pos rfl] at hc
          simp only [impl_Forms.l2_eq, affs_len, affs_elem hp, at_lt hp, aff_f0, aff_f1, aff_f2, aff_f3, aff_f4, hf, contains_flag flags a.flag hfs, hh, strs_len, strs_elem, ints_len, ints_elem, items_list, fld_agg, elem_list, toStr_sc, toInt_sc, toBool_sc, headD_one, nat_int, get_bt, decide_eq_true_eq, decide_eq_false_iff_not, decide_true, decide_false, if_true, if_false, ite_self, Bool.not_true, Bool.not_false, Bool.false_eq_true, Bool.true_eq_false, Bool.true_and, Bool.false_and, Bool.and_true, Bool.and_false, not_true, not_false_iff, Option.bind_some, nn, toList_inj, Bool.not_eq_true', Bool.not_eq_false', Int.le_refl, and_self, true_and, and_true, false_and, and_false, bne_self_eq_false, beq_self_eq_true, Int.reduceEq, Nat.reduceEqDiff, List.length_singleton, List.tail_cons, Int.reduceLE, Int.reduceLT, decide_eq_true_eq]
          have e : PV.agg [PV.sc (.string a.flag), PV.sc (.bool true), PV.sc (.string a.strip), PV.sc (.string a.add), PV.sc (.string a.cond)] = affP a := by rw [← aff_agg, hf]
          rw [e]
          refine Ev4.bind hd ?_
          unfold doI
          cases hdo : doB a w with
          | none =>
            rw [hdo] at hc
            simp only [at_next hp (by omega), strs_len, strs_elem, ints_len, ints_elem, items_list, fld_agg, elem_list, toStr_sc, toInt_sc, toBool_sc, headD_one, nat_int, get_bt, decide_eq_true_eq, decide_eq_false_iff_not, decide_true, decide_false, if_true, if_false, ite_self, Bool.not_true, Bool.not_false, Bool.false_eq_true, Bool.true_eq_false, Bool.true_and, Bool.false_and, Bool.and_true, Bool.and_false, not_true, not_false_iff, Option.bind_some, nn, toList_inj, Bool.not_eq_true', Bool.not_eq_false', Int.le_refl, and_self, true_and, and_true, false_and, and_false, bne_self_eq_false, beq_self_eq_true, Int.reduceEq, Nat.reduceEqDiff, List.length_singleton, List.tail_cons, Int.reduceLE, Int.reduceLT, decide_eq_true_eq]
            exact ih _ out (at_step hp) (by omega) hc
          | some x =>
            rw [hdo] at hc
            simp only [at_next hp (by omega), List.length_map, c1, map_add, strs_len, strs_elem, ints_len, ints_elem, items_list, fld_agg, elem_list, toStr_sc, toInt_sc, toBool_sc, headD_one, nat_int, get_bt, decide_eq_true_eq, decide_eq_false_iff_not, decide_true, decide_false, if_true, if_false, ite_self, Bool.not_true, Bool.not_false, Bool.false_eq_true, Bool.true_eq_false, Bool.true_and, Bool.false_and, Bool.and_true, Bool.and_false, not_true, not_false_iff, Option.bind_some, nn, toList_inj, Bool.not_eq_true', Bool.not_eq_false', Int.le_refl, and_self, true_and, and_true, false_and, and_false, bne_self_eq_false, beq_self_eq_true, Int.reduceEq, Nat.reduceEqDiff, List.length_singleton, List.tail_cons, Int.reduceLE, Int.reduceLT, decide_eq_true_eq]
            exact ih _ (out ++ [x]) (at_step hp) (by simp; omega) hc
        | false =>
          subst hfr
          by_cases hws : w = stem
          · have hgo : goB flags stem false w a = true := by unfold goB; rw [hh, hf, hws]; simp
            rw [hgo, if_pos rfl] at hc
            simp only [impl_Forms.l2_eq, affs_len, affs_elem hp, at_lt hp, aff_f0, aff_f1, aff_f2, aff_f3, aff_f4, hf, contains_flag flags a.flag hfs, hh, hws, strs_len, strs_elem, ints_len, ints_elem, items_list, fld_agg, elem_list, toStr_sc, toInt_sc, toBool_sc, headD_one, nat_int, get_bt, decide_eq_true_eq, decide_eq_false_iff_not, decide_true, decide_false, if_true, if_false, ite_self, Bool.not_true, Bool.not_false, Bool.false_eq_true, Bool.true_eq_false, Bool.true_and, Bool.false_and, Bool.and_true, Bool.and_false, not_true, not_false_iff, Option.bind_some, nn, toList_inj, Bool.not_eq_true', Bool.not_eq_false', Int.le_refl, and_self, true_and, and_true, false_and, and_false, bne_self_eq_false, beq_self_eq_true, Int.reduceEq, Nat.reduceEqDiff, List.length_singleton, List.tail_cons, Int.reduceLE, Int.reduceLT, decide_eq_true_eq]
            have e : PV.agg [PV.sc (.string a.flag), PV.sc (.bool false), PV.sc (.string a.strip), PV.sc (.string a.add), PV.sc (.string a.cond)] = affP a := by rw [← aff_agg, hf]
            rw [e]
            rw [hws] at hd hc ih
            refine Ev4.bind hd ?_
            unfold doI
            cases hdo : doB a stem with
            | none =>
              rw [hdo] at hc
              simp only [at_next hp (by omega), strs_len, strs_elem, ints_len, ints_elem, items_list, fld_agg, elem_list, toStr_sc, toInt_sc, toBool_sc, headD_one, nat_int, get_bt, decide_eq_true_eq, decide_eq_false_iff_not, decide_true, decide_false, if_true, if_false, ite_self, Bool.not_true, Bool.not_false, Bool.false_eq_true, Bool.true_eq_false, Bool.true_and, Bool.false_and, Bool.and_true, Bool.and_false, not_true, not_false_iff, Option.bind_some, nn, toList_inj, Bool.not_eq_true', Bool.not_eq_false', Int.le_refl, and_self, true_and, and_true, false_and, and_false, bne_self_eq_false, beq_self_eq_true, Int.reduceEq, Nat.reduceEqDiff, List.length_singleton, List.tail_cons, Int.reduceLE, Int.reduceLT, decide_eq_true_eq]
              exact ih _ out (at_step hp) (by omega) hc
            | some x =>
              rw [hdo] at hc
              simp only [at_next hp (by omega), List.length_map, c1, map_add, strs_len, strs_elem, ints_len, ints_elem, items_list, fld_agg, elem_list, toStr_sc, toInt_sc, toBool_sc, headD_one, nat_int, get_bt, decide_eq_true_eq, decide_eq_false_iff_not, decide_true, decide_false, if_true, if_false, ite_self, Bool.not_true, Bool.not_false, Bool.false_eq_true, Bool.true_eq_false, Bool.true_and, Bool.false_and, Bool.and_true, Bool.and_false, not_true, not_false_iff, Option.bind_some, nn, toList_inj, Bool.not_eq_true', Bool.not_eq_false', Int.le_refl, and_self, true_and, and_true, false_and, and_false, bne_self_eq_false, beq_self_eq_true, Int.reduceEq, Nat.reduceEqDiff, List.length_singleton, List.tail_cons, Int.reduceLE, Int.reduceLT, decide_eq_true_eq]
              exact ih _ (out ++ [x]) (at_step hp) (by simp; omega) hc
          · have hgo : goB flags stem false w a = false := by unfold goB; simp [hws]
            rw [hgo] at hc
            simp only [impl_Forms.l2_eq, affs_len, affs_elem hp, at_lt hp, aff_f0, aff_f1, hf, contains_flag flags a.flag hfs, hh, hws, at_next hp (by omega), strs_len, strs_elem, ints_len, ints_elem, items_list, fld_agg, elem_list, toStr_sc, toInt_sc, toBool_sc, headD_one, nat_int, get_bt, decide_eq_true_eq, decide_eq_false_iff_not, decide_true, decide_false, if_true, if_false, ite_self, Bool.not_true, Bool.not_false, Bool.false_eq_true, Bool.true_eq_false, Bool.true_and, Bool.false_and, Bool.and_true, Bool.and_false, not_true, not_false_iff, Option.bind_some, nn, toList_inj, Bool.not_eq_true', Bool.not_eq_false', Int.le_refl, and_self, true_and, and_true, false_and, and_false, bne_self_eq_false, beq_self_eq_true, Int.reduceEq, Nat.reduceEqDiff, List.length_singleton, List.tail_cons, Int.reduceLE, Int.reduceLT, decide_eq_true_eq]
            exact ih _ out (at_step hp) (by omega) hc
    · have hne : (a.front != front) = true := by simp [hf]
      have hgo : goB flags stem front w a = false := by unfold goB; simp [hf]
      rw [hgo] at hc
      simp only [impl_Forms.l2_eq, affs_len, affs_elem hp, at_lt hp, aff_f0, aff_f1, hne, at_next hp (by omega), strs_len, strs_elem, ints_len, ints_elem, items_list, fld_agg, elem_list, toStr_sc, toInt_sc, toBool_sc, headD_one, nat_int, get_bt, decide_eq_true_eq, decide_eq_false_iff_not, decide_true, decide_false, if_true, if_false, ite_self, Bool.not_true, Bool.not_false, Bool.false_eq_true, Bool.true_eq_false, Bool.true_and, Bool.false_and, Bool.and_true, Bool.and_false, not_true, not_false_iff, Option.bind_some, nn, toList_inj, Bool.not_eq_true', Bool.not_eq_false', Int.le_refl, and_self, true_and, and_true, false_and, and_false, bne_self_eq_false, beq_self_eq_true, Int.reduceEq, Nat.reduceEqDiff, List.length_singleton, List.tail_cons, Int.reduceLE, Int.reduceLT, decide_eq_true_eq]
      exact ih _ out (at_step hp) (by omega) hc
theorem forms_l1 {af : List Aff} (hg : ∀ a ∈ af, affB a = true) (hal : af.length ≤ 1000) {stem flags : ByteArray} {front : Bool} {ws : List ByteArray} (hws : ∀ x ∈ ws, isWord x = true) (hwl : ws.length ≤ 10000) {k : Int} {r : List PV} :
    ∀ (rest pre : List ByteArray) (out : List ByteArray), ws = pre ++ rest → out.length + rest.length * af.length ≤ 50000000 →
    Ev2 (fun N m => impl_Forms.l0 N m (affsP af) 2 (IntKind.i64.wrap (k + 1)) stem flags ((addW af flags stem front rest out).map strP) frontsL) r →
    Ev3 (fun N m n => impl_Forms.l1 N m n (affsP af) front 2 k (ws.length : Int) (pre.length : Int) stem flags (out.map strP) frontsL (ws.map strP)) r := by
  intro rest
  induction rest with
  | nil =>
    intro pre out hp hl hc
    refine Ev3.succ ?_
    simp only [impl_Forms.l1_eq, at_end hp, strs_len, strs_elem, ints_len, ints_elem, items_list, fld_agg, elem_list, toStr_sc, toInt_sc, toBool_sc, headD_one, nat_int, get_bt, decide_eq_true_eq, decide_eq_false_iff_not, decide_true, decide_false, if_true, if_false, ite_self, Bool.not_true, Bool.not_false, Bool.false_eq_true, Bool.true_eq_false, Bool.true_and, Bool.false_and, Bool.and_true, Bool.and_false, not_true, not_false_iff, Option.bind_some, nn, toList_inj, Bool.not_eq_true', Bool.not_eq_false', Int.le_refl, and_self, true_and, and_true, false_and, and_false, bne_self_eq_false, beq_self_eq_true, Int.reduceEq, Nat.reduceEqDiff, List.length_singleton, List.tail_cons, Int.reduceLE, Int.reduceLT, decide_eq_true_eq]
    exact hc.outer
  | cons w rest ih =>
    intro pre out hp hl hc
    have hw := hws w (by rw [hp]; simp)
    have h2 := addL_len flags stem front w af out
    rw [List.length_cons, Nat.add_mul, Nat.one_mul] at hl
    have hnext := ih (pre ++ [w]) (addL flags stem front w af out) (at_step hp) (by omega) hc
    rw [← at_next hp (by omega)] at hnext
    have eA : ([] : List PV) ++ ws.map strP = ws.map strP := rfl
    refine Ev3.succ ?_
    simp only [impl_Forms.l1_eq, at_lt hp, List.length_map, strs_mapL, strs_elem, at_getD hp, affs_len, strs_len, strs_elem, ints_len, ints_elem, items_list, fld_agg, elem_list, toStr_sc, toInt_sc, toBool_sc, headD_one, nat_int, get_bt, decide_eq_true_eq, decide_eq_false_iff_not, decide_true, decide_false, if_true, if_false, ite_self, Bool.not_true, Bool.not_false, Bool.false_eq_true, Bool.true_eq_false, Bool.true_and, Bool.false_and, Bool.and_true, Bool.and_false, not_true, not_false_iff, Option.bind_some, nn, toList_inj, Bool.not_eq_true', Bool.not_eq_false', Int.le_refl, and_self, true_and, and_true, false_and, and_false, bne_self_eq_false, beq_self_eq_true, Int.reduceEq, Nat.reduceEqDiff, List.length_singleton, List.tail_cons, Int.reduceLE, Int.reduceLT, decide_eq_true_eq]
    exact (forms_l2 hg hal hw af [] out rfl (by omega) hnext).start
theorem goB_front (flags stem w : ByteArray) (a : Aff) : goB flags stem true w a = true ↔ a.front = true ∧ hasB flags a.flag = true := by
  unfold goB; simp
theorem goB_back (flags stem w : ByteArray) (a : Aff) : goB flags stem false w a = true ↔ (a.front = false ∧ hasB flags a.flag = true) ∧ w = stem := by
  unfold goB; simp [and_assoc]
def out1 (af : List Aff) (e : Ent) : List ByteArray := addW af e.flags e.stem false [e.stem] [e.stem]
def out2 (af : List Aff) (e : Ent) : List ByteArray := addW af e.flags e.stem true (out1 af e) (out1 af e)
theorem out1_mem (af : List Aff) (e : Ent) (x : ByteArray) : x ∈ out1 af e ↔ x ∈ oneA e.flags false [e.stem] af [e.stem] := by
  unfold out1
  rw [addW_mem, oneA_mem]
  constructor
  · rintro (h | ⟨w, hw, a, ha, hg, hd⟩)
    · exact .inl h
    · rw [goB_back] at hg
      exact .inr ⟨a, ha, hg.1, w, hw, hd⟩
  · rintro (h | ⟨a, ha, hg, w, hw, hd⟩)
    · exact .inl h
    · exact .inr ⟨w, hw, a, ha, (goB_back _ _ _ _).2 ⟨hg, List.mem_singleton.1 hw⟩, hd⟩
theorem out2_mem (af : List Aff) (e : Ent) (x : ByteArray) : x ∈ out2 af e ↔ x ∈ formsB af e := by
  unfold out2 formsB
  rw [addW_mem, oneA_mem, out1_mem]
  constructor
  · rintro (h | ⟨w, hw, a, ha, hg, hd⟩)
    · exact .inl h
    · rw [goB_front] at hg
      exact .inr ⟨a, ha, hg, w, (out1_mem af e w).1 hw, hd⟩
  · rintro (h | ⟨a, ha, hg, w, hw, hd⟩)
    · exact .inl h
    · exact .inr ⟨w, (out1_mem af e w).2 hw, a, ha, (goB_front _ _ _ _).2 hg, hd⟩
theorem out1_facts {af : List Aff} {e : Ent} (he : entB e = true) (hal : af.length ≤ 8) : (out1 af e).length ≤ 9 ∧ ∀ x ∈ out1 af e, isWord x = true := by
  have h1 := addW_len af e.flags e.stem false [e.stem] [e.stem]
  simp only [List.length_singleton, Nat.one_mul] at h1
  refine ⟨by unfold out1; omega, fun x hx => ?_⟩
  unfold out1 at hx
  rw [addW_mem] at hx
  rcases hx with hx | ⟨w, _, a, _, _, hd⟩
  · rw [List.mem_singleton.1 hx]; exact (entB_facts he).1
  · exact doB_word hd
theorem out2_len {af : List Aff} {e : Ent} (he : entB e = true) (hal : af.length ≤ 8) : (out2 af e).length ≤ 100 := by
  have h0 := (out1_facts he hal).1
  have h1 := addW_len af e.flags e.stem true (out1 af e) (out1 af e)
  have h2 : (out1 af e).length * af.length ≤ 9 * 8 := Nat.mul_le_mul h0 hal
  unfold out2; omega
theorem implForms_ev {af : List Aff} (hB : affsB af = true) (hg : ∀ a ∈ af, affB a = true) (hal : af.length ≤ 8) {e : Ent} (he : entB e = true) :
    Ev (fun N => impl_Forms.f N [affsP af, entP e]) [strsP (formsB af e)] := by
  obtain ⟨f1, f2⟩ := out1_facts (af := af) he hal
  obtain ⟨s1, s2, s3⟩ := entB_facts he
  have hok := implAffs_ev af (by omega) (fun a ha => by obtain ⟨_, _, _, _, _⟩ := affB_facts (hg a ha); exact ⟨by omega, by omega, by omega, by omega⟩)
  have hen := implEntry_ev e ⟨by omega, by omega⟩
  have hsv := sorted_val (out2 af e) (by have := out2_len (af := af) he hal; omega)
  rw [sorted_eq (formsB_asc af e) (out2_mem af e)] at hsv
  rw [hB] at hok
  rw [he] at hen
  have e2 : ((frontsL.length : Nat) : Int) = 2 := rfl
  have efr : [PV.sc (.bool false), PV.sc (.bool true)] = frontsL := rfl
  have w1 : IntKind.i64.wrap ((0 : Int) + 1) = 1 := rfl
  have w2 : IntKind.i64.wrap ((1 : Int) + 1) = 2 := rfl
  have eapp : ∀ l : List ByteArray, ([] : List PV) ++ l.map strP = l.map strP := fun _ => rfl
  have l2 : Ev2 (fun N m => impl_Forms.l0 N m (affsP af) 2 2 e.stem e.flags ((out2 af e).map strP) frontsL) [strsP (formsB af e)] := by
    refine Ev2.succ ?_
    simp only [impl_Forms.l0_eq, strs_mapL, hsv, Int.lt_irrefl, strs_len, strs_elem, ints_len, ints_elem, items_list, fld_agg, elem_list, toStr_sc, toInt_sc, toBool_sc, headD_one, nat_int, get_bt, decide_eq_true_eq, decide_eq_false_iff_not, decide_true, decide_false, if_true, if_false, ite_self, Bool.not_true, Bool.not_false, Bool.false_eq_true, Bool.true_eq_false, Bool.true_and, Bool.false_and, Bool.and_true, Bool.and_false, not_true, not_false_iff, Option.bind_some, nn, toList_inj, Bool.not_eq_true', Bool.not_eq_false', Int.le_refl, and_self, true_and, and_true, false_and, and_false, bne_self_eq_false, beq_self_eq_true, Int.reduceEq, Nat.reduceEqDiff, List.length_singleton, List.tail_cons, Int.reduceLE, Int.reduceLT, decide_eq_true_eq]
    exact Ev2.now _
  have el1 : ((PV.list frontsL).elem (1 : Int).toNat).toBool = true := rfl
  have el0 : ((PV.list frontsL).elem (0 : Int).toNat).toBool = false := rfl
  have c1 : (([] : List PV).length + (out1 af e).length ≤ 8796093022208) = True := tru (by simp; omega)
  have hm := Nat.mul_le_mul f1 hal
  have l1 : Ev2 (fun N m => impl_Forms.l0 N m (affsP af) 2 1 e.stem e.flags ((out1 af e).map strP) frontsL) [strsP (formsB af e)] := by
    have h := (forms_l1 hg (by omega) (stem := e.stem) (flags := e.flags) (front := true) (k := 1) f2 (by omega) (out1 af e) [] (out1 af e) rfl (by omega) l2).start
    refine Ev2.succ ?_
    simp only [impl_Forms.l0_eq, el1, e2, List.length_map, c1, eapp, Int.reduceLT, Int.reduceLE, if_true, decide_true]
    exact h
  have l0 : Ev2 (fun N m => impl_Forms.l0 N m (affsP af) 2 0 e.stem e.flags ([e.stem].map strP) frontsL) [strsP (formsB af e)] := by
    have h := (forms_l1 hg (by omega) (stem := e.stem) (flags := e.flags) (front := false) (k := 0) (ws := [e.stem]) (by simpa using s1) (by simp) [e.stem] [] [e.stem] rfl (by simp; omega) l1).start
    have c2 : (([] : List PV).length + ([e.stem] : List ByteArray).length ≤ 8796093022208) = True := tru (by simp)
    refine Ev2.succ ?_
    simp only [impl_Forms.l0_eq, el0, e2, List.length_map, c2, eapp, Int.reduceLT, Int.reduceLE, Int.le_refl, if_true, decide_true]
    exact h
  have es : [PV.sc (.string e.stem)] = [e.stem].map strP := rfl
  simp only [impl_Forms.f_eq, ent_f0, ent_f1, ent_agg, es, efr, e2]
  refine Ev.bind hok ?_
  simp only [strs_len, strs_elem, ints_len, ints_elem, items_list, fld_agg, elem_list, toStr_sc, toInt_sc, toBool_sc, headD_one, nat_int, get_bt, decide_eq_true_eq, decide_eq_false_iff_not, decide_true, decide_false, if_true, if_false, ite_self, Bool.not_true, Bool.not_false, Bool.false_eq_true, Bool.true_eq_false, Bool.true_and, Bool.false_and, Bool.and_true, Bool.and_false, not_true, not_false_iff, Option.bind_some, nn, toList_inj, Bool.not_eq_true', Bool.not_eq_false', Int.le_refl, and_self, true_and, and_true, false_and, and_false, bne_self_eq_false, beq_self_eq_true, Int.reduceEq, Nat.reduceEqDiff, List.length_singleton, List.tail_cons, Int.reduceLE, Int.reduceLT, decide_eq_true_eq, ent_agg]
  refine Ev.bind hen ?_
  simp only [strs_len, strs_elem, ints_len, ints_elem, items_list, fld_agg, elem_list, toStr_sc, toInt_sc, toBool_sc, headD_one, nat_int, get_bt, decide_eq_true_eq, decide_eq_false_iff_not, decide_true, decide_false, if_true, if_false, ite_self, Bool.not_true, Bool.not_false, Bool.false_eq_true, Bool.true_eq_false, Bool.true_and, Bool.false_and, Bool.and_true, Bool.and_false, not_true, not_false_iff, Option.bind_some, nn, toList_inj, Bool.not_eq_true', Bool.not_eq_false', Int.le_refl, and_self, true_and, and_true, false_and, and_false, bne_self_eq_false, beq_self_eq_true, Int.reduceEq, Nat.reduceEqDiff, List.length_singleton, List.tail_cons, Int.reduceLE, Int.reduceLT, decide_eq_true_eq]
  exact l0.diag
def catW (af : List Aff) : List Ent → List ByteArray
  | [] => []
  | e :: r => formsB af e ++ catW af r
theorem catW_mem (af : List Aff) : ∀ (es : List Ent) (x : ByteArray), x ∈ catW af es ↔ ∃ e ∈ es, x ∈ formsB af e
  | [], x => by simp [catW]
  | e :: r, x => by rw [catW, List.mem_append, catW_mem af r]; simp
theorem implBookW_loop {af : List Aff} {es : List Ent} (h : BookOkF af es) : ∀ (rest pre : List Ent) (out : List ByteArray), es = pre ++ rest → (∀ x, x ∈ out ++ catW af rest ↔ ∃ e ∈ es, x ∈ formsB af e) → out.length ≤ 100 * pre.length →
    Ev2 (fun N n => impl_Book_words.l0 N n (entsP es) (es.length : Int) (pre.length : Int) (affsP af) (entsP es) (out.map strP)) [strsP (bookW af es)] := by
  have hel := h.el; have hal := h.al
  intro rest
  induction rest with
  | nil =>
    intro pre out hp hm hl
    have hpl : pre.length = es.length := by rw [hp]; simp
    have hsv := sorted_val out (by omega)
    rw [sorted_eq (bookW_asc af es) (fun x => by rw [bookW_mem, ← hm x]; simp [catW])] at hsv
    refine Ev2.succ ?_
    simp only [impl_Book_words.l0_eq, at_end hp, strs_mapL, hsv, strs_len, strs_elem, ints_len, ints_elem, items_list, fld_agg, elem_list, toStr_sc, toInt_sc, toBool_sc, headD_one, nat_int, get_bt, decide_eq_true_eq, decide_eq_false_iff_not, decide_true, decide_false, if_true, if_false, ite_self, Bool.not_true, Bool.not_false, Bool.false_eq_true, Bool.true_eq_false, Bool.true_and, Bool.false_and, Bool.and_true, Bool.and_false, not_true, not_false_iff, Option.bind_some, nn, toList_inj, Bool.not_eq_true', Bool.not_eq_false', Int.le_refl, and_self, true_and, and_true, false_and, and_false, bne_self_eq_false, beq_self_eq_true, Int.reduceEq, Nat.reduceEqDiff, List.length_singleton, List.tail_cons, Int.reduceLE, Int.reduceLT, decide_eq_true_eq]
    exact Ev2.now _
  | cons e rest ih =>
    intro pre out hp hm hl
    have hpl := at_ltN hp
    have he := h.ent e (by rw [hp]; simp)
    have hf := implForms_ev h.affs h.good hal he
    have hfl := formsB_len af e
    have hfl2 : (1 + af.length) * (1 + af.length) ≤ 9 * 9 := Nat.mul_le_mul (by omega) (by omega)
    have c1 : (out.length + (formsB af e).length ≤ 8796093022208) = True := tru (by omega)
    have ea : out.map strP ++ (strsP (formsB af e)).items = (out ++ formsB af e).map strP := by simp [strsP, PV.items]
    refine Ev2.succ ?_
    simp only [impl_Book_words.l0_eq, ents_len, ents_elem hp, at_lt hp, ent_f0, ent_f1, ent_agg, strs_len, strs_elem, ints_len, ints_elem, items_list, fld_agg, elem_list, toStr_sc, toInt_sc, toBool_sc, headD_one, nat_int, get_bt, decide_eq_true_eq, decide_eq_false_iff_not, decide_true, decide_false, if_true, if_false, ite_self, Bool.not_true, Bool.not_false, Bool.false_eq_true, Bool.true_eq_false, Bool.true_and, Bool.false_and, Bool.and_true, Bool.and_false, not_true, not_false_iff, Option.bind_some, nn, toList_inj, Bool.not_eq_true', Bool.not_eq_false', Int.le_refl, and_self, true_and, and_true, false_and, and_false, bne_self_eq_false, beq_self_eq_true, Int.reduceEq, Nat.reduceEqDiff, List.length_singleton, List.tail_cons, Int.reduceLE, Int.reduceLT, decide_eq_true_eq]
    refine Ev2.bind hf ?_
    simp only [List.length_map, c1, ea, at_next hp (by omega), strs_len, strs_elem, ints_len, ints_elem, items_list, fld_agg, elem_list, toStr_sc, toInt_sc, toBool_sc, headD_one, nat_int, get_bt, decide_eq_true_eq, decide_eq_false_iff_not, decide_true, decide_false, if_true, if_false, ite_self, Bool.not_true, Bool.not_false, Bool.false_eq_true, Bool.true_eq_false, Bool.true_and, Bool.false_and, Bool.and_true, Bool.and_false, not_true, not_false_iff, Option.bind_some, nn, toList_inj, Bool.not_eq_true', Bool.not_eq_false', Int.le_refl, and_self, true_and, and_true, false_and, and_false, bne_self_eq_false, beq_self_eq_true, Int.reduceEq, Nat.reduceEqDiff, List.length_singleton, List.tail_cons, Int.reduceLE, Int.reduceLT, decide_eq_true_eq]
    exact ih _ (out ++ formsB af e) (at_step hp) (fun x => by rw [← hm x, catW, List.append_assoc]) (by simp; omega)
theorem implBookW_ev {af : List Aff} {es : List Ent} (h : BookOkF af es) : Ev (fun N => impl_Book_words.f N [bookP af es]) [strsP (bookW af es)] := by
  simp only [impl_Book_words.f_eq, book_f0, book_f1, ents_len]
  exact (implBookW_loop h es [] [] rfl (fun x => by simp [catW_mem]) (by simp)).diag
theorem index_loop (a : List ByteArray) (c : ByteArray) (ha : a.length ≤ 9223372036854775807) : ∀ (rest pre : List ByteArray), a = pre ++ rest →
    ∃ r : Int, Ev2 (fun N n => slices_Index_string_string.l0 N n (strsP a) c (a.length : Int) (pre.length : Int)) [intP r] ∧ (0 ≤ r ↔ c ∈ rest) := by
  intro rest
  induction rest with
  | nil =>
    intro pre hp
    refine ⟨-1, Ev2.succ ?_, by simp⟩
    simp only [slices_Index_string_string.l0_eq, at_end hp, strs_len, strs_elem, ints_len, ints_elem, items_list, fld_agg, elem_list, toStr_sc, toInt_sc, toBool_sc, headD_one, nat_int, get_bt, decide_eq_true_eq, decide_eq_false_iff_not, decide_true, decide_false, if_true, if_false, ite_self, Bool.not_true, Bool.not_false, Bool.false_eq_true, Bool.true_eq_false, Bool.true_and, Bool.false_and, Bool.and_true, Bool.and_false, not_true, not_false_iff, Option.bind_some, nn, toList_inj, Bool.not_eq_true', Bool.not_eq_false', Int.le_refl, and_self, true_and, and_true, false_and, and_false, bne_self_eq_false, beq_self_eq_true, Int.reduceEq, Nat.reduceEqDiff, List.length_singleton, List.tail_cons, Int.reduceLE, Int.reduceLT, decide_eq_true_eq]
    exact Ev2.now _
  | cons x rest ih =>
    intro pre hp
    by_cases e : c = x
    · refine ⟨pre.length, Ev2.succ ?_, by simp [e]⟩
      simp only [slices_Index_string_string.l0_eq, at_lt hp, at_getD hp, e, strs_len, strs_elem, ints_len, ints_elem, items_list, fld_agg, elem_list, toStr_sc, toInt_sc, toBool_sc, headD_one, nat_int, get_bt, decide_eq_true_eq, decide_eq_false_iff_not, decide_true, decide_false, if_true, if_false, ite_self, Bool.not_true, Bool.not_false, Bool.false_eq_true, Bool.true_eq_false, Bool.true_and, Bool.false_and, Bool.and_true, Bool.and_false, not_true, not_false_iff, Option.bind_some, nn, toList_inj, Bool.not_eq_true', Bool.not_eq_false', Int.le_refl, and_self, true_and, and_true, false_and, and_false, bne_self_eq_false, beq_self_eq_true, Int.reduceEq, Nat.reduceEqDiff, List.length_singleton, List.tail_cons, Int.reduceLE, Int.reduceLT, decide_eq_true_eq]
      exact Ev2.now _
    · obtain ⟨r, hr, hv⟩ := ih _ (at_step hp)
      refine ⟨r, Ev2.succ ?_, by rw [hv]; simp [e]⟩
      simp only [slices_Index_string_string.l0_eq, at_lt hp, at_getD hp, e, at_next hp ha, strs_len, strs_elem, ints_len, ints_elem, items_list, fld_agg, elem_list, toStr_sc, toInt_sc, toBool_sc, headD_one, nat_int, get_bt, decide_eq_true_eq, decide_eq_false_iff_not, decide_true, decide_false, if_true, if_false, ite_self, Bool.not_true, Bool.not_false, Bool.false_eq_true, Bool.true_eq_false, Bool.true_and, Bool.false_and, Bool.and_true, Bool.and_false, not_true, not_false_iff, Option.bind_some, nn, toList_inj, Bool.not_eq_true', Bool.not_eq_false', Int.le_refl, and_self, true_and, and_true, false_and, and_false, bne_self_eq_false, beq_self_eq_true, Int.reduceEq, Nat.reduceEqDiff, List.length_singleton, List.tail_cons, Int.reduceLE, Int.reduceLT, decide_eq_true_eq]
      exact hr
theorem contains_ev (a : List ByteArray) (c : ByteArray) (ha : a.length ≤ 9223372036854775807) : Ev (fun N => slices_Contains_string_string.f N [strsP a, strP c]) [boolP (decide (c ∈ a))] := by
  obtain ⟨r, hr, hv⟩ := index_loop a c ha a [] rfl
  simp only [slices_Contains_string_string.f_eq, slices_Index_string_string.f_eq, strs_len, strs_elem, ints_len, ints_elem, items_list, fld_agg, elem_list, toStr_sc, toInt_sc, toBool_sc, headD_one, nat_int, get_bt, decide_eq_true_eq, decide_eq_false_iff_not, decide_true, decide_false, if_true, if_false, ite_self, Bool.not_true, Bool.not_false, Bool.false_eq_true, Bool.true_eq_false, Bool.true_and, Bool.false_and, Bool.and_true, Bool.and_false, not_true, not_false_iff, Option.bind_some, nn, toList_inj, Bool.not_eq_true', Bool.not_eq_false', Int.le_refl, and_self, true_and, and_true, false_and, and_false, bne_self_eq_false, beq_self_eq_true, Int.reduceEq, Nat.reduceEqDiff, List.length_singleton, List.tail_cons, Int.reduceLE, Int.reduceLT, decide_eq_true_eq]
  refine Ev.bind hr.diag ?_
  refine Ev.ext (Ev.now _) ?_
  simp only [strs_len, strs_elem, ints_len, ints_elem, items_list, fld_agg, elem_list, toStr_sc, toInt_sc, toBool_sc, headD_one, nat_int, get_bt, decide_eq_true_eq, decide_eq_false_iff_not, decide_true, decide_false, if_true, if_false, ite_self, Bool.not_true, Bool.not_false, Bool.false_eq_true, Bool.true_eq_false, Bool.true_and, Bool.false_and, Bool.and_true, Bool.and_false, not_true, not_false_iff, Option.bind_some, nn, toList_inj, Bool.not_eq_true', Bool.not_eq_false', Int.le_refl, and_self, true_and, and_true, false_and, and_false, bne_self_eq_false, beq_self_eq_true, Int.reduceEq, Nat.reduceEqDiff, List.length_singleton, List.tail_cons, Int.reduceLE, Int.reduceLT, decide_eq_true_eq]
  exact congrArg (fun b => [boolP b]) (decide_eq_decide.2 hv)
theorem Ev3.row {α : Type} {r : α} {g : Nat → Nat → Nat → Option α} (h : Ev3 g r) : Ev2 (fun N d => g N d N) r := by obtain ⟨k, hk⟩ := h; exact ⟨k, fun N d hN hd => hk N d N hN hd hN⟩
theorem Ev3.bind2 {α β : Type} {r : α} {s : β} {g : Nat → Nat → Option β} {f : Nat → Nat → Nat → β → Option α} (h : Ev2 g s) (k : Ev3 (fun N m n => f N m n s) r) : Ev3 (fun N m n => (g N m).bind (f N m n)) r := by
  obtain ⟨k1, h1⟩ := h; obtain ⟨k2, h2⟩ := k
  exact ⟨max k1 k2, fun N m n hN hm hn => by
    show (g N m).bind (f N m n) = _
    rw [h1 N m (by omega) (by omega), Option.bind_some]; exact h2 N m n (by omega) (by omega) (by omega)⟩
theorem nilC_nil {α : Type} (a : α) (b : PV → List PV → α) : nilC (strsP []).items a b = a := rfl
theorem nilC_cons {α : Type} (x : ByteArray) (r : List ByteArray) (a : α) (b : PV → List PV → α) : nilC (strsP (x :: r)).items a b = b (strP x) (r.map strP) := rfl
theorem parts_join (y x : ByteArray) (r : List ByteArray) : PV.list ([PV.sc (.string y)] ++ (strP x :: r.map strP)) = strsP (y :: x :: r) := rfl
theorem div_l0 {ws : List ByteArray} (hwl : ws.length ≤ 1000000) {w : ByteArray} (hw : w.size ≤ 1000000) {M : Nat} (hM : M ≤ 10)
    (hrec : ∀ v, 3 ≤ v.size → v.size ≤ 1000000 → Ev2 (fun N d => impl_divided.g N d [strsP ws, strP v, intP ((M + 1 : Nat) : Int)]) [strsP (partsM ws M v)]) :
    ∀ d0 k : Nat, (1 ≤ d0 → k + d0 + 2 = w.size) → (d0 = 0 → w.size < k + 3) → 3 ≤ k →
    Ev3 (fun N d n => impl_divided.l0 N d n (strsP ws) w ((M + 2 : Nat) : Int) (k : Int)) [strsP (partsAt ws (partsM ws M) w d0 k)] := by
  have w1 : IntKind.i64.wrap ((w.size : Int) - 3) = (w.size : Int) - 3 := wrap_id (by omega) (by omega)
  have w2 : IntKind.i64.wrap (((M + 2 : Nat) : Int) - 1) = ((M + 1 : Nat) : Int) := nat_wrap (by omega) (by omega)
  intro d0
  induction d0 with
  | zero =>
    intro k _ h0 h3
    have c0 : ((k : Int) ≤ (w.size : Int) - 3) = False := fls (by have := h0 rfl; omega)
    refine Ev3.succ ?_
    simp only [impl_divided.l0_eq, w1, c0, strs_len, strs_elem, ints_len, ints_elem, items_list, fld_agg, elem_list, toStr_sc, toInt_sc, toBool_sc, headD_one, nat_int, get_bt, decide_eq_true_eq, decide_eq_false_iff_not, decide_true, decide_false, if_true, if_false, ite_self, Bool.not_true, Bool.not_false, Bool.false_eq_true, Bool.true_eq_false, Bool.true_and, Bool.false_and, Bool.and_true, Bool.and_false, not_true, not_false_iff, Option.bind_some, nn, toList_inj, Bool.not_eq_true', Bool.not_eq_false', Int.le_refl, and_self, true_and, and_true, false_and, and_false, bne_self_eq_false, beq_self_eq_true, Int.reduceEq, Nat.reduceEqDiff, List.length_singleton, List.tail_cons, Int.reduceLE, Int.reduceLT, decide_eq_true_eq]
    exact Ev3.now _
  | succ d0 ih =>
    intro k hk _ h3
    have hk' := hk (by omega)
    have c0 : ((k : Int) ≤ (w.size : Int) - 3) = True := tru (by omega)
    have c1 : ((k : Int) ≤ (w.size : Int)) = True := tru (by omega)
    have wn : IntKind.i64.wrap ((k : Int) + 1) = ((k + 1 : Nat) : Int) := nat_wrap (by omega) (by omega)
    have hnext := ih (k + 1) (fun _ => by omega) (fun h => by omega) (by omega)
    have hct := contains_ev ws (w.extract 0 k) (by omega)
    simp only [strP] at hct
    refine Ev3.succ ?_
    simp only [impl_divided.l0_eq, w1, c0, c1, nn, strs_len, strs_elem, ints_len, ints_elem, items_list, fld_agg, elem_list, toStr_sc, toInt_sc, toBool_sc, headD_one, nat_int, get_bt, decide_eq_true_eq, decide_eq_false_iff_not, decide_true, decide_false, if_true, if_false, ite_self, Bool.not_true, Bool.not_false, Bool.false_eq_true, Bool.true_eq_false, Bool.true_and, Bool.false_and, Bool.and_true, Bool.and_false, not_true, not_false_iff, Option.bind_some, nn, toList_inj, Bool.not_eq_true', Bool.not_eq_false', Int.le_refl, and_self, true_and, and_true, false_and, and_false, bne_self_eq_false, beq_self_eq_true, Int.reduceEq, Nat.reduceEqDiff, List.length_singleton, List.tail_cons, Int.reduceLE, Int.reduceLT, decide_eq_true_eq]
    refine Ev3.bind hct ?_
    rw [partsAt]
    by_cases hm : w.extract 0 k ∈ ws
    · have hz : (w.extract k w.size).size = w.size - k := by rw [ByteArray.size_extract]; omega
      have hr := hrec (w.extract k w.size) (by omega) (by omega)
      simp only [strP] at hr
      simp only [hm, w2, strs_len, strs_elem, ints_len, ints_elem, items_list, fld_agg, elem_list, toStr_sc, toInt_sc, toBool_sc, headD_one, nat_int, get_bt, decide_eq_true_eq, decide_eq_false_iff_not, decide_true, decide_false, if_true, if_false, ite_self, Bool.not_true, Bool.not_false, Bool.false_eq_true, Bool.true_eq_false, Bool.true_and, Bool.false_and, Bool.and_true, Bool.and_false, not_true, not_false_iff, Option.bind_some, nn, toList_inj, Bool.not_eq_true', Bool.not_eq_false', Int.le_refl, and_self, true_and, and_true, false_and, and_false, bne_self_eq_false, beq_self_eq_true, Int.reduceEq, Nat.reduceEqDiff, List.length_singleton, List.tail_cons, Int.reduceLE, Int.reduceLT, decide_eq_true_eq]
      refine Ev3.bind2 hr ?_
      cases hp : partsM ws M (w.extract k w.size) with
      | nil =>
        simp only [nilC_nil, wn, strs_len, strs_elem, ints_len, ints_elem, items_list, fld_agg, elem_list, toStr_sc, toInt_sc, toBool_sc, headD_one, nat_int, get_bt, decide_eq_true_eq, decide_eq_false_iff_not, decide_true, decide_false, if_true, if_false, ite_self, Bool.not_true, Bool.not_false, Bool.false_eq_true, Bool.true_eq_false, Bool.true_and, Bool.false_and, Bool.and_true, Bool.and_false, not_true, not_false_iff, Option.bind_some, nn, toList_inj, Bool.not_eq_true', Bool.not_eq_false', Int.le_refl, and_self, true_and, and_true, false_and, and_false, bne_self_eq_false, beq_self_eq_true, Int.reduceEq, Nat.reduceEqDiff, List.length_singleton, List.tail_cons, Int.reduceLE, Int.reduceLT, decide_eq_true_eq]
        exact hnext
      | cons x r =>
        have hl := (partsM_ok ws M (w.extract k w.size) (by omega) (by rw [hp]; simp)).len
        rw [hp, List.length_cons] at hl
        have c2 : (1 + (strP x :: r.map strP).length ≤ 8796093022208) = True := tru (by simp; omega)
        simp only [nilC_cons, headD_one, List.length_singleton, c2, parts_join, if_true]
        exact Ev3.now _
    · simp only [hm, wn, strs_len, strs_elem, ints_len, ints_elem, items_list, fld_agg, elem_list, toStr_sc, toInt_sc, toBool_sc, headD_one, nat_int, get_bt, decide_eq_true_eq, decide_eq_false_iff_not, decide_true, decide_false, if_true, if_false, ite_self, Bool.not_true, Bool.not_false, Bool.false_eq_true, Bool.true_eq_false, Bool.true_and, Bool.false_and, Bool.and_true, Bool.and_false, not_true, not_false_iff, Option.bind_some, nn, toList_inj, Bool.not_eq_true', Bool.not_eq_false', Int.le_refl, and_self, true_and, and_true, false_and, and_false, bne_self_eq_false, beq_self_eq_true, Int.reduceEq, Nat.reduceEqDiff, List.length_singleton, List.tail_cons, Int.reduceLE, Int.reduceLT, decide_eq_true_eq]
      exact hnext
theorem div_g {ws : List ByteArray} (hwl : ws.length ≤ 1000000) : ∀ (M : Nat) (w : ByteArray), M ≤ 10 → (M = 0 → 3 ≤ w.size) → w.size ≤ 1000000 →
    Ev2 (fun N d => impl_divided.g N d [strsP ws, strP w, intP ((M + 1 : Nat) : Int)]) [strsP (partsM ws M w)] := by
  intro M
  induction M with
  | zero =>
    intro w _ h3 hw
    have c0 : (((0 + 1 : Nat) : Int) = 1) = True := tru rfl
    have c3 : ((3 : Int) ≤ (w.size : Int)) = True := tru (by have := h3 rfl; omega)
    have hct := contains_ev ws w (by omega)
    simp only [strP] at hct
    refine Ev2.succ ?_
    simp only [impl_divided.g_eq, c0, c3, strs_len, strs_elem, ints_len, ints_elem, items_list, fld_agg, elem_list, toStr_sc, toInt_sc, toBool_sc, headD_one, nat_int, get_bt, decide_eq_true_eq, decide_eq_false_iff_not, decide_true, decide_false, if_true, if_false, ite_self, Bool.not_true, Bool.not_false, Bool.false_eq_true, Bool.true_eq_false, Bool.true_and, Bool.false_and, Bool.and_true, Bool.and_false, not_true, not_false_iff, Option.bind_some, nn, toList_inj, Bool.not_eq_true', Bool.not_eq_false', Int.le_refl, and_self, true_and, and_true, false_and, and_false, bne_self_eq_false, beq_self_eq_true, Int.reduceEq, Nat.reduceEqDiff, List.length_singleton, List.tail_cons, Int.reduceLE, Int.reduceLT, decide_eq_true_eq]
    refine Ev2.bind hct ?_
    unfold partsM
    by_cases hm : w ∈ ws
    · simp only [hm, strs_len, strs_elem, ints_len, ints_elem, items_list, fld_agg, elem_list, toStr_sc, toInt_sc, toBool_sc, headD_one, nat_int, get_bt, decide_eq_true_eq, decide_eq_false_iff_not, decide_true, decide_false, if_true, if_false, ite_self, Bool.not_true, Bool.not_false, Bool.false_eq_true, Bool.true_eq_false, Bool.true_and, Bool.false_and, Bool.and_true, Bool.and_false, not_true, not_false_iff, Option.bind_some, nn, toList_inj, Bool.not_eq_true', Bool.not_eq_false', Int.le_refl, and_self, true_and, and_true, false_and, and_false, bne_self_eq_false, beq_self_eq_true, Int.reduceEq, Nat.reduceEqDiff, List.length_singleton, List.tail_cons, Int.reduceLE, Int.reduceLT, decide_eq_true_eq]; exact Ev2.now _
    · simp only [hm, strs_len, strs_elem, ints_len, ints_elem, items_list, fld_agg, elem_list, toStr_sc, toInt_sc, toBool_sc, headD_one, nat_int, get_bt, decide_eq_true_eq, decide_eq_false_iff_not, decide_true, decide_false, if_true, if_false, ite_self, Bool.not_true, Bool.not_false, Bool.false_eq_true, Bool.true_eq_false, Bool.true_and, Bool.false_and, Bool.and_true, Bool.and_false, not_true, not_false_iff, Option.bind_some, nn, toList_inj, Bool.not_eq_true', Bool.not_eq_false', Int.le_refl, and_self, true_and, and_true, false_and, and_false, bne_self_eq_false, beq_self_eq_true, Int.reduceEq, Nat.reduceEqDiff, List.length_singleton, List.tail_cons, Int.reduceLE, Int.reduceLT, decide_eq_true_eq]; exact Ev2.now _
  | succ M ih =>
    intro w hM _ hw
    have c0 : (((M + 1 + 1 : Nat) : Int) = 1) = False := fls (by omega)
    have h := Ev3.row (div_l0 hwl hw (by omega : M ≤ 10) (fun v h3 hv => ih v (by omega) (fun _ => h3) hv) (w.size - 5) 3 (fun _ => by omega) (fun _ => by omega) (Nat.le_refl _))
    refine Ev2.succ ?_
    simp only [impl_divided.g_eq, c0, strs_len, strs_elem, ints_len, ints_elem, items_list, fld_agg, elem_list, toStr_sc, toInt_sc, toBool_sc, headD_one, nat_int, get_bt, decide_eq_true_eq, decide_eq_false_iff_not, decide_true, decide_false, if_true, if_false, ite_self, Bool.not_true, Bool.not_false, Bool.false_eq_true, Bool.true_eq_false, Bool.true_and, Bool.false_and, Bool.and_true, Bool.and_false, not_true, not_false_iff, Option.bind_some, nn, toList_inj, Bool.not_eq_true', Bool.not_eq_false', Int.le_refl, and_self, true_and, and_true, false_and, and_false, bne_self_eq_false, beq_self_eq_true, Int.reduceEq, Nat.reduceEqDiff, List.length_singleton, List.tail_cons, Int.reduceLE, Int.reduceLT, decide_eq_true_eq]
    exact h
theorem div_ev {ws : List ByteArray} (hwl : ws.length ≤ 1000000) (M : Nat) (w : ByteArray) (hM : 1 ≤ M ∧ M ≤ 10) (hw : w.size ≤ 1000000) :
    Ev (fun N => impl_divided.f N [strsP ws, strP w, intP ((M + 1 : Nat) : Int)]) [strsP (partsM ws M w)] := by
  simp only [impl_divided.f_eq]
  exact (div_g hwl M w hM.2 (fun h => by omega) hw).diag
def partsR (af : List Aff) (es : List Ent) (w : ByteArray) : List ByteArray := if bookB af es = true ∧ isWord w = true then partsB (bookW af es) w else []
theorem bookW_len {af : List Aff} {es : List Ent} (h : BookOkF af es) : (bookW af es).length ≤ 2000 := by
  have h1 := wordsL2_len af es []
  have h2 := h.al
  have h3 := h.el
  have h4 : (1 + af.length) * (1 + af.length) ≤ 9 * 9 := Nat.mul_le_mul (by omega) (by omega)
  have h5 : es.length * ((1 + af.length) * (1 + af.length)) ≤ 24 * 81 := Nat.mul_le_mul h3 h4
  unfold bookW; simp only [List.length_nil] at h1; omega
theorem implParts_ev {af : List Aff} {es : List Ent} (hs : BookS af es) (w : ByteArray) (hw : w.size ≤ 1000000000) : Ev (fun N => impl_PartsOf.f N [bookP af es, strP w]) [strsP (partsR af es w)] := by
  have hwo := implWord_ev w (by omega)
  simp only [strP] at hwo
  have ne : PV.list [] = strsP [] := rfl
  simp only [impl_PartsOf.f_eq, book_f0, book_f1, book_agg, strs_len, strs_elem, ints_len, ints_elem, items_list, fld_agg, elem_list, toStr_sc, toInt_sc, toBool_sc, headD_one, nat_int, get_bt, decide_eq_true_eq, decide_eq_false_iff_not, decide_true, decide_false, if_true, if_false, ite_self, Bool.not_true, Bool.not_false, Bool.false_eq_true, Bool.true_eq_false, Bool.true_and, Bool.false_and, Bool.and_true, Bool.and_false, not_true, not_false_iff, Option.bind_some, nn, toList_inj, Bool.not_eq_true', Bool.not_eq_false', Int.le_refl, and_self, true_and, and_true, false_and, and_false, bne_self_eq_false, beq_self_eq_true, Int.reduceEq, Nat.reduceEqDiff, List.length_singleton, List.tail_cons, Int.reduceLE, Int.reduceLT, decide_eq_true_eq]
  refine Ev.bind (implBookOk_ev hs) ?_
  cases hb : bookB af es with
  | false =>
    simp only [partsR, hb, ne, strs_len, strs_elem, ints_len, ints_elem, items_list, fld_agg, elem_list, toStr_sc, toInt_sc, toBool_sc, headD_one, nat_int, get_bt, decide_eq_true_eq, decide_eq_false_iff_not, decide_true, decide_false, if_true, if_false, ite_self, Bool.not_true, Bool.not_false, Bool.false_eq_true, Bool.true_eq_false, Bool.true_and, Bool.false_and, Bool.and_true, Bool.and_false, not_true, not_false_iff, Option.bind_some, nn, toList_inj, Bool.not_eq_true', Bool.not_eq_false', Int.le_refl, and_self, true_and, and_true, false_and, and_false, bne_self_eq_false, beq_self_eq_true, Int.reduceEq, Nat.reduceEqDiff, List.length_singleton, List.tail_cons, Int.reduceLE, Int.reduceLT, decide_eq_true_eq]
    exact Ev.now _
  | true =>
    simp only [strs_len, strs_elem, ints_len, ints_elem, items_list, fld_agg, elem_list, toStr_sc, toInt_sc, toBool_sc, headD_one, nat_int, get_bt, decide_eq_true_eq, decide_eq_false_iff_not, decide_true, decide_false, if_true, if_false, ite_self, Bool.not_true, Bool.not_false, Bool.false_eq_true, Bool.true_eq_false, Bool.true_and, Bool.false_and, Bool.and_true, Bool.and_false, not_true, not_false_iff, Option.bind_some, nn, toList_inj, Bool.not_eq_true', Bool.not_eq_false', Int.le_refl, and_self, true_and, and_true, false_and, and_false, bne_self_eq_false, beq_self_eq_true, Int.reduceEq, Nat.reduceEqDiff, List.length_singleton, List.tail_cons, Int.reduceLE, Int.reduceLT, decide_eq_true_eq]
    refine Ev.bind hwo ?_
    cases hi : isWord w with
    | false =>
      simp only [partsR, hb, hi, ne, strs_len, strs_elem, ints_len, ints_elem, items_list, fld_agg, elem_list, toStr_sc, toInt_sc, toBool_sc, headD_one, nat_int, get_bt, decide_eq_true_eq, decide_eq_false_iff_not, decide_true, decide_false, if_true, if_false, ite_self, Bool.not_true, Bool.not_false, Bool.false_eq_true, Bool.true_eq_false, Bool.true_and, Bool.false_and, Bool.and_true, Bool.and_false, not_true, not_false_iff, Option.bind_some, nn, toList_inj, Bool.not_eq_true', Bool.not_eq_false', Int.le_refl, and_self, true_and, and_true, false_and, and_false, bne_self_eq_false, beq_self_eq_true, Int.reduceEq, Nat.reduceEqDiff, List.length_singleton, List.tail_cons, Int.reduceLE, Int.reduceLT, decide_eq_true_eq]
      exact Ev.now _
    | true =>
      have hF := bookB_facts hb
      have hlen := bookW_len hF
      have hsz := word_size hi
      have d1 := div_ev (ws := bookW af es) (by omega) 1 w (by omega) (by omega)
      have d2 := div_ev (ws := bookW af es) (by omega) 2 w (by omega) (by omega)
      have e1 : (((1 + 1 : Nat)) : Int) = 2 := rfl
      have e2 : (((2 + 1 : Nat)) : Int) = 3 := rfl
      rw [e1] at d1
      rw [e2] at d2
      simp only [strP, intP] at d1 d2
      have w1 : IntKind.i64.wrap ((2 : Int) + 1) = 3 := rfl
      have w2 : IntKind.i64.wrap ((3 : Int) + 1) = 4 := rfl
      simp only [strs_len, strs_elem, ints_len, ints_elem, items_list, fld_agg, elem_list, toStr_sc, toInt_sc, toBool_sc, headD_one, nat_int, get_bt, decide_eq_true_eq, decide_eq_false_iff_not, decide_true, decide_false, if_true, if_false, ite_self, Bool.not_true, Bool.not_false, Bool.false_eq_true, Bool.true_eq_false, Bool.true_and, Bool.false_and, Bool.and_true, Bool.and_false, not_true, not_false_iff, Option.bind_some, nn, toList_inj, Bool.not_eq_true', Bool.not_eq_false', Int.le_refl, and_self, true_and, and_true, false_and, and_false, bne_self_eq_false, beq_self_eq_true, Int.reduceEq, Nat.reduceEqDiff, List.length_singleton, List.tail_cons, Int.reduceLE, Int.reduceLT, decide_eq_true_eq]
      refine Ev.bind (implBookW_ev hF) ?_
      simp only [partsR, hb, hi, partsB, strs_len, strs_elem, ints_len, ints_elem, items_list, fld_agg, elem_list, toStr_sc, toInt_sc, toBool_sc, headD_one, nat_int, get_bt, decide_eq_true_eq, decide_eq_false_iff_not, decide_true, decide_false, if_true, if_false, ite_self, Bool.not_true, Bool.not_false, Bool.false_eq_true, Bool.true_eq_false, Bool.true_and, Bool.false_and, Bool.and_true, Bool.and_false, not_true, not_false_iff, Option.bind_some, nn, toList_inj, Bool.not_eq_true', Bool.not_eq_false', Int.le_refl, and_self, true_and, and_true, false_and, and_false, bne_self_eq_false, beq_self_eq_true, Int.reduceEq, Nat.reduceEqDiff, List.length_singleton, List.tail_cons, Int.reduceLE, Int.reduceLT, decide_eq_true_eq]
      refine Ev2.diag (g := fun N n => impl_PartsOf.l0 N n w 2 (strsP (bookW af es))) (Ev2.succ ?_)
      simp only [impl_PartsOf.l0_eq, strs_len, strs_elem, ints_len, ints_elem, items_list, fld_agg, elem_list, toStr_sc, toInt_sc, toBool_sc, headD_one, nat_int, get_bt, decide_eq_true_eq, decide_eq_false_iff_not, decide_true, decide_false, if_true, if_false, ite_self, Bool.not_true, Bool.not_false, Bool.false_eq_true, Bool.true_eq_false, Bool.true_and, Bool.false_and, Bool.and_true, Bool.and_false, not_true, not_false_iff, Option.bind_some, nn, toList_inj, Bool.not_eq_true', Bool.not_eq_false', Int.le_refl, and_self, true_and, and_true, false_and, and_false, bne_self_eq_false, beq_self_eq_true, Int.reduceEq, Nat.reduceEqDiff, List.length_singleton, List.tail_cons, Int.reduceLE, Int.reduceLT, decide_eq_true_eq]
      refine Ev2.bind d1 ?_
      cases h1 : partsM (bookW af es) 1 w with
      | cons x r =>
        simp only [nilC_cons, headD_one, strs_len, strs_elem, ints_len, ints_elem, items_list, fld_agg, elem_list, toStr_sc, toInt_sc, toBool_sc, headD_one, nat_int, get_bt, decide_eq_true_eq, decide_eq_false_iff_not, decide_true, decide_false, if_true, if_false, ite_self, Bool.not_true, Bool.not_false, Bool.false_eq_true, Bool.true_eq_false, Bool.true_and, Bool.false_and, Bool.and_true, Bool.and_false, not_true, not_false_iff, Option.bind_some, nn, toList_inj, Bool.not_eq_true', Bool.not_eq_false', Int.le_refl, and_self, true_and, and_true, false_and, and_false, bne_self_eq_false, beq_self_eq_true, Int.reduceEq, Nat.reduceEqDiff, List.length_singleton, List.tail_cons, Int.reduceLE, Int.reduceLT, decide_eq_true_eq]
        exact Ev2.now _
      | nil =>
        simp only [nilC_nil, headD_one, w1, strs_len, strs_elem, ints_len, ints_elem, items_list, fld_agg, elem_list, toStr_sc, toInt_sc, toBool_sc, headD_one, nat_int, get_bt, decide_eq_true_eq, decide_eq_false_iff_not, decide_true, decide_false, if_true, if_false, ite_self, Bool.not_true, Bool.not_false, Bool.false_eq_true, Bool.true_eq_false, Bool.true_and, Bool.false_and, Bool.and_true, Bool.and_false, not_true, not_false_iff, Option.bind_some, nn, toList_inj, Bool.not_eq_true', Bool.not_eq_false', Int.le_refl, and_self, true_and, and_true, false_and, and_false, bne_self_eq_false, beq_self_eq_true, Int.reduceEq, Nat.reduceEqDiff, List.length_singleton, List.tail_cons, Int.reduceLE, Int.reduceLT, decide_eq_true_eq]
        refine Ev2.succ ?_
        simp only [impl_PartsOf.l0_eq, strs_len, strs_elem, ints_len, ints_elem, items_list, fld_agg, elem_list, toStr_sc, toInt_sc, toBool_sc, headD_one, nat_int, get_bt, decide_eq_true_eq, decide_eq_false_iff_not, decide_true, decide_false, if_true, if_false, ite_self, Bool.not_true, Bool.not_false, Bool.false_eq_true, Bool.true_eq_false, Bool.true_and, Bool.false_and, Bool.and_true, Bool.and_false, not_true, not_false_iff, Option.bind_some, nn, toList_inj, Bool.not_eq_true', Bool.not_eq_false', Int.le_refl, and_self, true_and, and_true, false_and, and_false, bne_self_eq_false, beq_self_eq_true, Int.reduceEq, Nat.reduceEqDiff, List.length_singleton, List.tail_cons, Int.reduceLE, Int.reduceLT, decide_eq_true_eq]
        refine Ev2.bind d2 ?_
        cases h2 : partsM (bookW af es) 2 w with
        | cons x r =>
          simp only [nilC_cons, headD_one, strs_len, strs_elem, ints_len, ints_elem, items_list, fld_agg, elem_list, toStr_sc, toInt_sc, toBool_sc, headD_one, nat_int, get_bt, decide_eq_true_eq, decide_eq_false_iff_not, decide_true, decide_false, if_true, if_false, ite_self, Bool.not_true, Bool.not_false, Bool.false_eq_true, Bool.true_eq_false, Bool.true_and, Bool.false_and, Bool.and_true, Bool.and_false, not_true, not_false_iff, Option.bind_some, nn, toList_inj, Bool.not_eq_true', Bool.not_eq_false', Int.le_refl, and_self, true_and, and_true, false_and, and_false, bne_self_eq_false, beq_self_eq_true, Int.reduceEq, Nat.reduceEqDiff, List.length_singleton, List.tail_cons, Int.reduceLE, Int.reduceLT, decide_eq_true_eq]
          exact Ev2.now _
        | nil =>
          simp only [nilC_nil, headD_one, w2, strs_len, strs_elem, ints_len, ints_elem, items_list, fld_agg, elem_list, toStr_sc, toInt_sc, toBool_sc, headD_one, nat_int, get_bt, decide_eq_true_eq, decide_eq_false_iff_not, decide_true, decide_false, if_true, if_false, ite_self, Bool.not_true, Bool.not_false, Bool.false_eq_true, Bool.true_eq_false, Bool.true_and, Bool.false_and, Bool.and_true, Bool.and_false, not_true, not_false_iff, Option.bind_some, nn, toList_inj, Bool.not_eq_true', Bool.not_eq_false', Int.le_refl, and_self, true_and, and_true, false_and, and_false, bne_self_eq_false, beq_self_eq_true, Int.reduceEq, Nat.reduceEqDiff, List.length_singleton, List.tail_cons, Int.reduceLE, Int.reduceLT, decide_eq_true_eq]
          refine Ev2.succ ?_
          simp only [impl_PartsOf.l0_eq, ne, strs_len, strs_elem, ints_len, ints_elem, items_list, fld_agg, elem_list, toStr_sc, toInt_sc, toBool_sc, headD_one, nat_int, get_bt, decide_eq_true_eq, decide_eq_false_iff_not, decide_true, decide_false, if_true, if_false, ite_self, Bool.not_true, Bool.not_false, Bool.false_eq_true, Bool.true_eq_false, Bool.true_and, Bool.false_and, Bool.and_true, Bool.and_false, not_true, not_false_iff, Option.bind_some, nn, toList_inj, Bool.not_eq_true', Bool.not_eq_false', Int.le_refl, and_self, true_and, and_true, false_and, and_false, bne_self_eq_false, beq_self_eq_true, Int.reduceEq, Nat.reduceEqDiff, List.length_singleton, List.tail_cons, Int.reduceLE, Int.reduceLT, decide_eq_true_eq]
          exact Ev2.now _
theorem l2In_loop {ws : List ByteArray} (hwl : ws.length ≤ 9223372036854775807) (s : ByteArray) : ∀ rest pre : List ByteArray, ws = pre ++ rest → Ev2 (fun N n => spec_l2In.l0 N n (strsP ws) s (pre.length : Int)) [boolP (decide (s ∈ rest))] := by
  intro rest
  induction rest with
  | nil =>
    intro pre hp
    refine Ev2.succ ?_
    simp only [spec_l2In.l0_eq, at_end hp, strs_len, strs_elem, ints_len, ints_elem, items_list, fld_agg, elem_list, toStr_sc, toInt_sc, toBool_sc, headD_one, nat_int, get_bt, decide_eq_true_eq, decide_eq_false_iff_not, decide_true, decide_false, if_true, if_false, ite_self, Bool.not_true, Bool.not_false, Bool.false_eq_true, Bool.true_eq_false, Bool.true_and, Bool.false_and, Bool.and_true, Bool.and_false, not_true, not_false_iff, Option.bind_some, nn, toList_inj, Bool.not_eq_true', Bool.not_eq_false', Int.le_refl, and_self, true_and, and_true, false_and, and_false, bne_self_eq_false, beq_self_eq_true, Int.reduceEq, Nat.reduceEqDiff, List.length_singleton, List.tail_cons, Int.reduceLE, Int.reduceLT, decide_eq_true_eq]
    exact Ev2.ext (Ev2.now _) (by simp)
  | cons c rest ih =>
    intro pre hp
    refine Ev2.succ ?_
    by_cases hc : c = s
    · simp only [spec_l2In.l0_eq, at_lt hp, at_getD hp, hc, strs_len, strs_elem, ints_len, ints_elem, items_list, fld_agg, elem_list, toStr_sc, toInt_sc, toBool_sc, headD_one, nat_int, get_bt, decide_eq_true_eq, decide_eq_false_iff_not, decide_true, decide_false, if_true, if_false, ite_self, Bool.not_true, Bool.not_false, Bool.false_eq_true, Bool.true_eq_false, Bool.true_and, Bool.false_and, Bool.and_true, Bool.and_false, not_true, not_false_iff, Option.bind_some, nn, toList_inj, Bool.not_eq_true', Bool.not_eq_false', Int.le_refl, and_self, true_and, and_true, false_and, and_false, bne_self_eq_false, beq_self_eq_true, Int.reduceEq, Nat.reduceEqDiff, List.length_singleton, List.tail_cons, Int.reduceLE, Int.reduceLT, decide_eq_true_eq]
      exact Ev2.ext (Ev2.now _) (by simp)
    · have hd : decide (s ∈ c :: rest) = decide (s ∈ rest) := by simp [Ne.symm hc]
      simp only [spec_l2In.l0_eq, at_lt hp, at_getD hp, hc, at_next hp hwl, hd, strs_len, strs_elem, ints_len, ints_elem, items_list, fld_agg, elem_list, toStr_sc, toInt_sc, toBool_sc, headD_one, nat_int, get_bt, decide_eq_true_eq, decide_eq_false_iff_not, decide_true, decide_false, if_true, if_false, ite_self, Bool.not_true, Bool.not_false, Bool.false_eq_true, Bool.true_eq_false, Bool.true_and, Bool.false_and, Bool.and_true, Bool.and_false, not_true, not_false_iff, Option.bind_some, nn, toList_inj, Bool.not_eq_true', Bool.not_eq_false', Int.le_refl, and_self, true_and, and_true, false_and, and_false, bne_self_eq_false, beq_self_eq_true, Int.reduceEq, Nat.reduceEqDiff, List.length_singleton, List.tail_cons, Int.reduceLE, Int.reduceLT, decide_eq_true_eq]
      exact ih _ (at_step hp)
theorem l2In_ev {ws : List ByteArray} (hwl : ws.length ≤ 9223372036854775807) (s : ByteArray) : Ev (fun N => spec_l2In.f N [strsP ws, PV.sc (.string s)]) [boolP (decide (s ∈ ws))] := by
  simp only [spec_l2In.f_eq, strs_len, strs_elem, ints_len, ints_elem, items_list, fld_agg, elem_list, toStr_sc, toInt_sc, toBool_sc, headD_one, nat_int, get_bt, decide_eq_true_eq, decide_eq_false_iff_not, decide_true, decide_false, if_true, if_false, ite_self, Bool.not_true, Bool.not_false, Bool.false_eq_true, Bool.true_eq_false, Bool.true_and, Bool.false_and, Bool.and_true, Bool.and_false, not_true, not_false_iff, Option.bind_some, nn, toList_inj, Bool.not_eq_true', Bool.not_eq_false', Int.le_refl, and_self, true_and, and_true, false_and, and_false, bne_self_eq_false, beq_self_eq_true, Int.reduceEq, Nat.reduceEqDiff, List.length_singleton, List.tail_cons, Int.reduceLE, Int.reduceLT, decide_eq_true_eq]
  exact (l2In_loop hwl s ws [] rfl).diag
theorem parts_l0 {ws : List ByteArray} (hwl : ws.length ≤ 1000000) {w : ByteArray} (hw : w.size ≤ 1000000) {M : Nat} (hM : M ≤ 10)
    (hrec : ∀ v, 3 ≤ v.size → v.size ≤ 1000000 → Ev2 (fun N d => spec_l10Parts.g N d [strsP ws, strP v, intP ((M + 1 : Nat) : Int)]) [strsP (partsM ws M v)]) :
    ∀ d0 k : Nat, (1 ≤ d0 → k + d0 + 2 = w.size) → (d0 = 0 → w.size < k + 3) → 3 ≤ k → k ≤ w.size + 3 →
    Ev3 (fun N d n => spec_l10Parts.l0 N d n (strsP ws) w ((M + 2 : Nat) : Int) (k : Int)) [strsP (partsAt ws (partsM ws M) w d0 k)] := by
  have w2 : IntKind.i64.wrap (((M + 2 : Nat) : Int) - 1) = ((M + 1 : Nat) : Int) := nat_wrap (by omega) (by omega)
  intro d0
  induction d0 with
  | zero =>
    intro k _ h0 h3 hk3
    have h0' := h0 rfl
    have w1 : IntKind.i64.wrap ((k : Int) + 3) = ((k + 3 : Nat) : Int) := nat_wrap (by omega) (by omega)
    have c0 : (((k + 3 : Nat) : Int) ≤ (w.size : Int)) = False := fls (by omega)
    refine Ev3.succ ?_
    simp only [spec_l10Parts.l0_eq, w1, c0, strs_len, strs_elem, ints_len, ints_elem, items_list, fld_agg, elem_list, toStr_sc, toInt_sc, toBool_sc, headD_one, nat_int, get_bt, decide_eq_true_eq, decide_eq_false_iff_not, decide_true, decide_false, if_true, if_false, ite_self, Bool.not_true, Bool.not_false, Bool.false_eq_true, Bool.true_eq_false, Bool.true_and, Bool.false_and, Bool.and_true, Bool.and_false, not_true, not_false_iff, Option.bind_some, nn, toList_inj, Bool.not_eq_true', Bool.not_eq_false', Int.le_refl, and_self, true_and, and_true, false_and, and_false, bne_self_eq_false, beq_self_eq_true, Int.reduceEq, Nat.reduceEqDiff, List.length_singleton, List.tail_cons, Int.reduceLE, Int.reduceLT, decide_eq_true_eq]
    exact Ev3.now _
  | succ d0 ih =>
    intro k hk _ h3 _
    have hk' := hk (by omega)
    have w1 : IntKind.i64.wrap ((k : Int) + 3) = ((k + 3 : Nat) : Int) := nat_wrap (by omega) (by omega)
    have c0 : (((k + 3 : Nat) : Int) ≤ (w.size : Int)) = True := tru (by omega)
    have c1 : ((k : Int) ≤ (w.size : Int)) = True := tru (by omega)
    have wn : IntKind.i64.wrap ((k : Int) + 1) = ((k + 1 : Nat) : Int) := nat_wrap (by omega) (by omega)
    have hnext := ih (k + 1) (fun _ => by omega) (fun h => by omega) (by omega) (by omega)
    refine Ev3.succ ?_
    simp only [spec_l10Parts.l0_eq, w1, c0, c1, nn, strs_len, strs_elem, ints_len, ints_elem, items_list, fld_agg, elem_list, toStr_sc, toInt_sc, toBool_sc, headD_one, nat_int, get_bt, decide_eq_true_eq, decide_eq_false_iff_not, decide_true, decide_false, if_true, if_false, ite_self, Bool.not_true, Bool.not_false, Bool.false_eq_true, Bool.true_eq_false, Bool.true_and, Bool.false_and, Bool.and_true, Bool.and_false, not_true, not_false_iff, Option.bind_some, nn, toList_inj, Bool.not_eq_true', Bool.not_eq_false', Int.le_refl, and_self, true_and, and_true, false_and, and_false, bne_self_eq_false, beq_self_eq_true, Int.reduceEq, Nat.reduceEqDiff, List.length_singleton, List.tail_cons, Int.reduceLE, Int.reduceLT, decide_eq_true_eq]
    refine Ev3.bind (l2In_ev (by omega) _) ?_
    rw [partsAt]
    by_cases hm : w.extract 0 k ∈ ws
    · have hz : (w.extract k w.size).size = w.size - k := by rw [ByteArray.size_extract]; omega
      have hr := hrec (w.extract k w.size) (by omega) (by omega)
      simp only [strP] at hr
      simp only [hm, w2, strs_len, strs_elem, ints_len, ints_elem, items_list, fld_agg, elem_list, toStr_sc, toInt_sc, toBool_sc, headD_one, nat_int, get_bt, decide_eq_true_eq, decide_eq_false_iff_not, decide_true, decide_false, if_true, if_false, ite_self, Bool.not_true, Bool.not_false, Bool.false_eq_true, Bool.true_eq_false, Bool.true_and, Bool.false_and, Bool.and_true, Bool.and_false, not_true, not_false_iff, Option.bind_some, nn, toList_inj, Bool.not_eq_true', Bool.not_eq_false', Int.le_refl, and_self, true_and, and_true, false_and, and_false, bne_self_eq_false, beq_self_eq_true, Int.reduceEq, Nat.reduceEqDiff, List.length_singleton, List.tail_cons, Int.reduceLE, Int.reduceLT, decide_eq_true_eq]
      refine Ev3.bind2 hr ?_
      cases hp : partsM ws M (w.extract k w.size) with
      | nil =>
        have c3 : ((0 : Int) < (([] : List ByteArray).length : Int)) = False := fls (by simp)
        simp only [headD_one, strs_len, c3, wn, strs_len, strs_elem, ints_len, ints_elem, items_list, fld_agg, elem_list, toStr_sc, toInt_sc, toBool_sc, headD_one, nat_int, get_bt, decide_eq_true_eq, decide_eq_false_iff_not, decide_true, decide_false, if_true, if_false, ite_self, Bool.not_true, Bool.not_false, Bool.false_eq_true, Bool.true_eq_false, Bool.true_and, Bool.false_and, Bool.and_true, Bool.and_false, not_true, not_false_iff, Option.bind_some, nn, toList_inj, Bool.not_eq_true', Bool.not_eq_false', Int.le_refl, and_self, true_and, and_true, false_and, and_false, bne_self_eq_false, beq_self_eq_true, Int.reduceEq, Nat.reduceEqDiff, List.length_singleton, List.tail_cons, Int.reduceLE, Int.reduceLT, decide_eq_true_eq]
        exact hnext
      | cons x r =>
        have hl := (partsM_ok ws M (w.extract k w.size) (by omega) (by rw [hp]; simp)).len
        rw [hp, List.length_cons] at hl
        have c3 : ((0 : Int) < ((x :: r).length : Int)) = True := tru (by simp)
        have c2 : (1 + (x :: r).length ≤ 8796093022208) = True := tru (by simp; omega)
        have ej : PV.list ([PV.sc (.string (w.extract 0 k))] ++ (strsP (x :: r)).items) = strsP (w.extract 0 k :: x :: r) := rfl
        simp only [headD_one, strs_len, List.length_singleton, c3, c2, ej, if_true, decide_true]
        exact Ev3.now _
    · simp only [hm, wn, strs_len, strs_elem, ints_len, ints_elem, items_list, fld_agg, elem_list, toStr_sc, toInt_sc, toBool_sc, headD_one, nat_int, get_bt, decide_eq_true_eq, decide_eq_false_iff_not, decide_true, decide_false, if_true, if_false, ite_self, Bool.not_true, Bool.not_false, Bool.false_eq_true, Bool.true_eq_false, Bool.true_and, Bool.false_and, Bool.and_true, Bool.and_false, not_true, not_false_iff, Option.bind_some, nn, toList_inj, Bool.not_eq_true', Bool.not_eq_false', Int.le_refl, and_self, true_and, and_true, false_and, and_false, bne_self_eq_false, beq_self_eq_true, Int.reduceEq, Nat.reduceEqDiff, List.length_singleton, List.tail_cons, Int.reduceLE, Int.reduceLT, decide_eq_true_eq]
      exact hnext
theorem parts_g {ws : List ByteArray} (hwl : ws.length ≤ 1000000) : ∀ (M : Nat) (w : ByteArray), M ≤ 10 → w.size ≤ 1000000 →
    Ev2 (fun N d => spec_l10Parts.g N d [strsP ws, strP w, intP ((M + 1 : Nat) : Int)]) [strsP (partsM ws M w)] := by
  intro M
  induction M with
  | zero =>
    intro w _ hw
    have c0 : (((0 + 1 : Nat) : Int) = 1) = True := tru rfl
    refine Ev2.succ ?_
    simp only [spec_l10Parts.g_eq, c0, strs_len, strs_elem, ints_len, ints_elem, items_list, fld_agg, elem_list, toStr_sc, toInt_sc, toBool_sc, headD_one, nat_int, get_bt, decide_eq_true_eq, decide_eq_false_iff_not, decide_true, decide_false, if_true, if_false, ite_self, Bool.not_true, Bool.not_false, Bool.false_eq_true, Bool.true_eq_false, Bool.true_and, Bool.false_and, Bool.and_true, Bool.and_false, not_true, not_false_iff, Option.bind_some, nn, toList_inj, Bool.not_eq_true', Bool.not_eq_false', Int.le_refl, and_self, true_and, and_true, false_and, and_false, bne_self_eq_false, beq_self_eq_true, Int.reduceEq, Nat.reduceEqDiff, List.length_singleton, List.tail_cons, Int.reduceLE, Int.reduceLT, decide_eq_true_eq]
    refine Ev2.bind (l2In_ev (by omega) w) ?_
    unfold partsM
    by_cases hm : w ∈ ws
    · simp only [hm, strs_len, strs_elem, ints_len, ints_elem, items_list, fld_agg, elem_list, toStr_sc, toInt_sc, toBool_sc, headD_one, nat_int, get_bt, decide_eq_true_eq, decide_eq_false_iff_not, decide_true, decide_false, if_true, if_false, ite_self, Bool.not_true, Bool.not_false, Bool.false_eq_true, Bool.true_eq_false, Bool.true_and, Bool.false_and, Bool.and_true, Bool.and_false, not_true, not_false_iff, Option.bind_some, nn, toList_inj, Bool.not_eq_true', Bool.not_eq_false', Int.le_refl, and_self, true_and, and_true, false_and, and_false, bne_self_eq_false, beq_self_eq_true, Int.reduceEq, Nat.reduceEqDiff, List.length_singleton, List.tail_cons, Int.reduceLE, Int.reduceLT, decide_eq_true_eq]; exact Ev2.now _
    · simp only [hm, strs_len, strs_elem, ints_len, ints_elem, items_list, fld_agg, elem_list, toStr_sc, toInt_sc, toBool_sc, headD_one, nat_int, get_bt, decide_eq_true_eq, decide_eq_false_iff_not, decide_true, decide_false, if_true, if_false, ite_self, Bool.not_true, Bool.not_false, Bool.false_eq_true, Bool.true_eq_false, Bool.true_and, Bool.false_and, Bool.and_true, Bool.and_false, not_true, not_false_iff, Option.bind_some, nn, toList_inj, Bool.not_eq_true', Bool.not_eq_false', Int.le_refl, and_self, true_and, and_true, false_and, and_false, bne_self_eq_false, beq_self_eq_true, Int.reduceEq, Nat.reduceEqDiff, List.length_singleton, List.tail_cons, Int.reduceLE, Int.reduceLT, decide_eq_true_eq]; exact Ev2.now _
  | succ M ih =>
    intro w hM hw
    have c0 : (((M + 1 + 1 : Nat) : Int) = 1) = False := fls (by omega)
    have h := Ev3.row (parts_l0 hwl hw (by omega : M ≤ 10) (fun v h3 hv => ih v (by omega) hv) (w.size - 5) 3 (fun _ => by omega) (fun _ => by omega) (Nat.le_refl _) (by omega))
    refine Ev2.succ ?_
    simp only [spec_l10Parts.g_eq, c0, strs_len, strs_elem, ints_len, ints_elem, items_list, fld_agg, elem_list, toStr_sc, toInt_sc, toBool_sc, headD_one, nat_int, get_bt, decide_eq_true_eq, decide_eq_false_iff_not, decide_true, decide_false, if_true, if_false, ite_self, Bool.not_true, Bool.not_false, Bool.false_eq_true, Bool.true_eq_false, Bool.true_and, Bool.false_and, Bool.and_true, Bool.and_false, not_true, not_false_iff, Option.bind_some, nn, toList_inj, Bool.not_eq_true', Bool.not_eq_false', Int.le_refl, and_self, true_and, and_true, false_and, and_false, bne_self_eq_false, beq_self_eq_true, Int.reduceEq, Nat.reduceEqDiff, List.length_singleton, List.tail_cons, Int.reduceLE, Int.reduceLT, decide_eq_true_eq]
    exact h
theorem l10Of_ev {ws : List ByteArray} (hwl : ws.length ≤ 1000000) (w : ByteArray) (hw : w.size ≤ 1000000) : Ev (fun N => spec_l10Of.f N [strsP ws, PV.sc (.string w)]) [strsP (partsB ws w)] := by
  have d1 := parts_g (ws := ws) hwl 1 w (by omega) hw
  have d2 := parts_g (ws := ws) hwl 2 w (by omega) hw
  have e1 : (((1 + 1 : Nat)) : Int) = 2 := rfl
  have e2 : (((2 + 1 : Nat)) : Int) = 3 := rfl
  rw [e1] at d1
  rw [e2] at d2
  simp only [strP, intP] at d1 d2
  simp only [spec_l10Of.f_eq, spec_l10Parts.f_eq, strs_len, strs_elem, ints_len, ints_elem, items_list, fld_agg, elem_list, toStr_sc, toInt_sc, toBool_sc, headD_one, nat_int, get_bt, decide_eq_true_eq, decide_eq_false_iff_not, decide_true, decide_false, if_true, if_false, ite_self, Bool.not_true, Bool.not_false, Bool.false_eq_true, Bool.true_eq_false, Bool.true_and, Bool.false_and, Bool.and_true, Bool.and_false, not_true, not_false_iff, Option.bind_some, nn, toList_inj, Bool.not_eq_true', Bool.not_eq_false', Int.le_refl, and_self, true_and, and_true, false_and, and_false, bne_self_eq_false, beq_self_eq_true, Int.reduceEq, Nat.reduceEqDiff, List.length_singleton, List.tail_cons, Int.reduceLE, Int.reduceLT, decide_eq_true_eq]
  refine Ev.bind d1.diag ?_
  unfold partsB
  cases h1 : partsM ws 1 w with
  | cons x r =>
    have c3 : ((0 : Int) < ((x :: r).length : Int)) = True := tru (by simp)
    simp only [c3, strs_len, strs_elem, ints_len, ints_elem, items_list, fld_agg, elem_list, toStr_sc, toInt_sc, toBool_sc, headD_one, nat_int, get_bt, decide_eq_true_eq, decide_eq_false_iff_not, decide_true, decide_false, if_true, if_false, ite_self, Bool.not_true, Bool.not_false, Bool.false_eq_true, Bool.true_eq_false, Bool.true_and, Bool.false_and, Bool.and_true, Bool.and_false, not_true, not_false_iff, Option.bind_some, nn, toList_inj, Bool.not_eq_true', Bool.not_eq_false', Int.le_refl, and_self, true_and, and_true, false_and, and_false, bne_self_eq_false, beq_self_eq_true, Int.reduceEq, Nat.reduceEqDiff, List.length_singleton, List.tail_cons, Int.reduceLE, Int.reduceLT, decide_eq_true_eq]
    exact Ev.now _
  | nil =>
    have c3 : ((0 : Int) < (([] : List ByteArray).length : Int)) = False := fls (by simp)
    simp only [c3, strs_len, strs_elem, ints_len, ints_elem, items_list, fld_agg, elem_list, toStr_sc, toInt_sc, toBool_sc, headD_one, nat_int, get_bt, decide_eq_true_eq, decide_eq_false_iff_not, decide_true, decide_false, if_true, if_false, ite_self, Bool.not_true, Bool.not_false, Bool.false_eq_true, Bool.true_eq_false, Bool.true_and, Bool.false_and, Bool.and_true, Bool.and_false, not_true, not_false_iff, Option.bind_some, nn, toList_inj, Bool.not_eq_true', Bool.not_eq_false', Int.le_refl, and_self, true_and, and_true, false_and, and_false, bne_self_eq_false, beq_self_eq_true, Int.reduceEq, Nat.reduceEqDiff, List.length_singleton, List.tail_cons, Int.reduceLE, Int.reduceLT, decide_eq_true_eq]
    refine Ev.bind d2.diag ?_
    simp only [strs_len, strs_elem, ints_len, ints_elem, items_list, fld_agg, elem_list, toStr_sc, toInt_sc, toBool_sc, headD_one, nat_int, get_bt, decide_eq_true_eq, decide_eq_false_iff_not, decide_true, decide_false, if_true, if_false, ite_self, Bool.not_true, Bool.not_false, Bool.false_eq_true, Bool.true_eq_false, Bool.true_and, Bool.false_and, Bool.and_true, Bool.and_false, not_true, not_false_iff, Option.bind_some, nn, toList_inj, Bool.not_eq_true', Bool.not_eq_false', Int.le_refl, and_self, true_and, and_true, false_and, and_false, bne_self_eq_false, beq_self_eq_true, Int.reduceEq, Nat.reduceEqDiff, List.length_singleton, List.tail_cons, Int.reduceLE, Int.reduceLT, decide_eq_true_eq]
    exact Ev.now _
def lowI (c : Int) : Int := if 65 ≤ c ∧ c ≤ 90 then c + 32 else c
abbrev u8P (n : Int) : PV := .sc (.int .u8 n)
theorem u8_id {n : Int} (h0 : 0 ≤ n) (h1 : n ≤ 255) : IntKind.u8.wrap n = n := by
  have : IntKind.u8.wrap n = n % 256 := by simp [IntKind.wrap, IntKind.signed, IntKind.bits]
  rw [this]; omega
theorem bytesOf_range (s : ByteArray) : ∀ c ∈ bytesOf s, 0 ≤ c ∧ c ≤ 255 := by
  intro c hc
  obtain ⟨b, _, rfl⟩ := List.mem_map.1 hc
  have := b.toNat_lt
  omega
theorem bytesL_eq (s : ByteArray) : bytesL s = (bytesOf s).map u8P := by simp [bytesL, bytesOf]
theorem bytesOf_ofL {l : List Int} (h : ∀ c ∈ l, 0 ≤ c ∧ c ≤ 255) : bytesOf (bytesOfL (l.map u8P)) = l := by
  simp only [bytesOf, bytesOfL, List.map_map]
  have : ∀ c ∈ l, ((fun b : UInt8 => (b.toNat : Int)) ∘ (fun p : PV => UInt8.ofNat p.toInt.toNat) ∘ u8P) c = c := fun c hc => by
    have := h c hc
    simp only [Function.comp_apply, u8P, PV.toInt, UInt8.toNat_ofNat']
    omega
  exact (List.map_congr_left this).trans (List.map_id l)
theorem lowerM_bytes (s : ByteArray) : bytesOf (lowerM s) = (bytesOf s).map lowI := by
  simp only [bytesOf, lowerM, Lib.toLowerA, List.map_map]
  refine List.map_congr_left fun b _ => ?_
  have key : ∀ n : Fin 256, (((Lib.lowerB (UInt8.ofNat n.val)).toNat : Nat) : Int) = (if 65 ≤ (n.val : Int) ∧ (n.val : Int) ≤ 90 then (n.val : Int) + 32 else (n.val : Int)) := by decide
  have h := key ⟨b.toNat, b.toNat_lt⟩
  simp only [UInt8.ofNat_toNat] at h
  exact h
theorem lower_loop2 : ∀ (rest pre : List Int), (∀ c ∈ pre ++ rest, 0 ≤ c ∧ c ≤ 255) → (pre ++ rest).length < 9223372036854775807 →
    ∃ r : ByteArray, bytesOf r = pre ++ rest.map lowI ∧ Ev2 (fun N n => spec_l4Small.l0 N n (pre.length : Int) ((pre ++ rest).map u8P)) [strP r] := by
  intro rest
  induction rest with
  | nil =>
    intro pre hr hl
    refine ⟨bytesOfL ((pre ++ []).map u8P), by rw [bytesOf_ofL hr]; simp, Ev2.succ ?_⟩
    have h0 : ¬ (pre.length : Int) < (((pre ++ []).map u8P).length : Int) := by simp
    simp only [spec_l4Small.l0_eq, h0, strs_len, strs_elem, ints_len, ints_elem, items_list, fld_agg, elem_list, toStr_sc, toInt_sc, toBool_sc, headD_one, nat_int, get_bt, decide_eq_true_eq, decide_eq_false_iff_not, decide_true, decide_false, if_true, if_false, ite_self, Bool.not_true, Bool.not_false, Bool.false_eq_true, Bool.true_eq_false, Bool.true_and, Bool.false_and, Bool.and_true, Bool.and_false, not_true, not_false_iff, Option.bind_some, nn, toList_inj, Bool.not_eq_true', Bool.not_eq_false', Int.le_refl, and_self, true_and, and_true, false_and, and_false, bne_self_eq_false, beq_self_eq_true, Int.reduceEq, Nat.reduceEqDiff, List.length_singleton, List.tail_cons, Int.reduceLE, Int.reduceLT, decide_eq_true_eq]
    exact Ev2.now _
  | cons c rest ih =>
    intro pre hr hl
    have hc := hr c (by simp)
    have h0 : (pre.length : Int) < (((pre ++ c :: rest).map u8P).length : Int) := by simp; omega
    have he : ((PV.list ((pre ++ c :: rest).map u8P)).elem pre.length).toInt = c := by simp [PV.elem, PV.items, List.getD_eq_getElem?_getD, PV.toInt]
    have hw : IntKind.i64.wrap ((pre.length : Int) + 1) = ((pre.length + 1 : Nat) : Int) := by
      rw [wrap_id (by omega) (by simp at hl; omega)]; omega
    by_cases h : 65 ≤ c ∧ c ≤ 90
    · have hup : lowI c = c + 32 := by unfold lowI; rw [if_pos h]
      have hset : ((pre ++ c :: rest).map u8P).set pre.length (PV.sc (.int .u8 (c + 32))) = ((pre ++ [lowI c]) ++ rest).map u8P := by
        have := set_mid (pre.map u8P) (u8P c) (u8P (c + 32)) (rest.map u8P)
        rw [List.length_map] at this
        rw [List.map_append, List.map_cons, this, hup]; simp
      have hu : IntKind.u8.wrap (c + 32) = c + 32 := u8_id (by omega) (by omega)
      obtain ⟨r, hr2, hv⟩ := ih (pre ++ [lowI c]) (fun x hx => by
        simp only [List.mem_append, List.mem_singleton] at hx
        rcases hx with (hx | rfl) | hx
        · exact hr x (by simp [hx])
        · rw [hup]; omega
        · exact hr x (by simp [hx])) (by simp at hl ⊢; omega)
      refine ⟨r, by rw [hr2]; simp, Ev2.succ ?_⟩
      have hll : (pre ++ [lowI c]).length = pre.length + 1 := by simp
      rw [hll] at hv
      simp only [spec_l4Small.l0_eq, h0, he, hw, hu, hset, h.1, h.2, nat_int, nn, decide_true, if_true]
      exact hv
    · have hup : lowI c = c := by unfold lowI; rw [if_neg h]
      obtain ⟨r, hr2, hv⟩ := ih (pre ++ [c]) (fun x hx => hr x (by simpa using hx)) (by simp at hl ⊢; omega)
      refine ⟨r, by rw [hr2]; simp [hup], Ev2.succ ?_⟩
      have hll : (pre ++ [c]).length = pre.length + 1 := by simp
      have hap : (pre ++ [c]) ++ rest = pre ++ c :: rest := by simp
      rw [hll, hap] at hv
      by_cases h1 : 65 ≤ c
      · have h2 : ¬ c ≤ 90 := fun h2 => h ⟨h1, h2⟩
        simp only [spec_l4Small.l0_eq, h0, he, hw, h1, h2, nat_int, nn, decide_true, decide_false, if_true, if_false, Bool.false_eq_true]
        exact hv
      · simp only [spec_l4Small.l0_eq, h0, he, hw, h1, nat_int, nn, decide_true, decide_false, if_true, if_false, Bool.false_eq_true]
        exact hv
theorem specSmall_ev (s : ByteArray) (hs : s.size < 9223372036854775807) : Ev (fun N => spec_l4Small.f N [strP s]) [strP (lowerM s)] := by
  obtain ⟨r, hr, hv⟩ := lower_loop2 (bytesOf s) [] (by simpa using bytesOf_range s) (by simpa [bytesOf_len] using hs)
  have e : r = lowerM s := bytesOf_inj (by rw [hr, lowerM_bytes]; simp)
  have h1 : s.size ≤ 9223372036854775807 := by omega
  simp only [spec_l4Small.f_eq, h1, bytesL_eq, strs_len, strs_elem, ints_len, ints_elem, items_list, fld_agg, elem_list, toStr_sc, toInt_sc, toBool_sc, headD_one, nat_int, get_bt, decide_eq_true_eq, decide_eq_false_iff_not, decide_true, decide_false, if_true, if_false, ite_self, Bool.not_true, Bool.not_false, Bool.false_eq_true, Bool.true_eq_false, Bool.true_and, Bool.false_and, Bool.and_true, Bool.and_false, not_true, not_false_iff, Option.bind_some, nn, toList_inj, Bool.not_eq_true', Bool.not_eq_false', Int.le_refl, and_self, true_and, and_true, false_and, and_false, bne_self_eq_false, beq_self_eq_true, Int.reduceEq, Nat.reduceEqDiff, List.length_singleton, List.tail_cons, Int.reduceLE, Int.reduceLT, decide_eq_true_eq]
  rw [← e]
  exact hv.diag
theorem implLow_val (s : ByteArray) (hs : s.size ≤ 140737488355328) (ha : ∀ c ∈ bytesOf s, c < 128) (N : Nat) : strings_ToLower.f N [strP s] = some [strP (lowerM s)] := by
  have hasc : asciiB s = true := List.all_eq_true.2 fun b hb => by
    have := ha (b.toNat : Int) (List.mem_map.2 ⟨b, hb, rfl⟩)
    simp; omega
  show lowerDen [strP s] = _
  simp only [lowerDen, hasc, hs, if_true]
def isLet (c : Int) : Bool := (decide (97 ≤ c) && decide (c ≤ 122)) || (decide (65 ≤ c) && decide (c ≤ 90))
theorem implLet_val (k : IntKind) (c : Int) (N : Nat) : impl_letter.f N [.sc (.int k c)] = some [boolP (isLet c)] := by
  have hu := implUp_val .u8 c N
  by_cases h1 : 97 ≤ c
  · by_cases h2 : c ≤ 122
    · simp only [impl_letter.f_eq, h1, h2, isLet, Bool.true_or, strs_len, strs_elem, ints_len, ints_elem, items_list, fld_agg, elem_list, toStr_sc, toInt_sc, toBool_sc, headD_one, nat_int, get_bt, decide_eq_true_eq, decide_eq_false_iff_not, decide_true, decide_false, if_true, if_false, ite_self, Bool.not_true, Bool.not_false, Bool.false_eq_true, Bool.true_eq_false, Bool.true_and, Bool.false_and, Bool.and_true, Bool.and_false, not_true, not_false_iff, Option.bind_some, nn, toList_inj, Bool.not_eq_true', Bool.not_eq_false', Int.le_refl, and_self, true_and, and_true, false_and, and_false, bne_self_eq_false, beq_self_eq_true, Int.reduceEq, Nat.reduceEqDiff, List.length_singleton, List.tail_cons, Int.reduceLE, Int.reduceLT, decide_eq_true_eq]
    · simp only [impl_letter.f_eq, h1, h2, hu, isLet, Bool.false_or, strs_len, strs_elem, ints_len, ints_elem, items_list, fld_agg, elem_list, toStr_sc, toInt_sc, toBool_sc, headD_one, nat_int, get_bt, decide_eq_true_eq, decide_eq_false_iff_not, decide_true, decide_false, if_true, if_false, ite_self, Bool.not_true, Bool.not_false, Bool.false_eq_true, Bool.true_eq_false, Bool.true_and, Bool.false_and, Bool.and_true, Bool.and_false, not_true, not_false_iff, Option.bind_some, nn, toList_inj, Bool.not_eq_true', Bool.not_eq_false', Int.le_refl, and_self, true_and, and_true, false_and, and_false, bne_self_eq_false, beq_self_eq_true, Int.reduceEq, Nat.reduceEqDiff, List.length_singleton, List.tail_cons, Int.reduceLE, Int.reduceLT, decide_eq_true_eq]
  · simp only [impl_letter.f_eq, h1, hu, isLet, Bool.false_or, strs_len, strs_elem, ints_len, ints_elem, items_list, fld_agg, elem_list, toStr_sc, toInt_sc, toBool_sc, headD_one, nat_int, get_bt, decide_eq_true_eq, decide_eq_false_iff_not, decide_true, decide_false, if_true, if_false, ite_self, Bool.not_true, Bool.not_false, Bool.false_eq_true, Bool.true_eq_false, Bool.true_and, Bool.false_and, Bool.and_true, Bool.and_false, not_true, not_false_iff, Option.bind_some, nn, toList_inj, Bool.not_eq_true', Bool.not_eq_false', Int.le_refl, and_self, true_and, and_true, false_and, and_false, bne_self_eq_false, beq_self_eq_true, Int.reduceEq, Nat.reduceEqDiff, List.length_singleton, List.tail_cons, Int.reduceLE, Int.reduceLT, decide_eq_true_eq]
theorem specLet_val (k : IntKind) (c : Int) (N : Nat) : spec_l4Letter.f N [.sc (.int k c)] = some [boolP (isLet c)] := by
  by_cases h1 : 97 ≤ c
  · by_cases h2 : c ≤ 122
    · simp only [spec_l4Letter.f_eq, h1, h2, isLet, Bool.true_or, strs_len, strs_elem, ints_len, ints_elem, items_list, fld_agg, elem_list, toStr_sc, toInt_sc, toBool_sc, headD_one, nat_int, get_bt, decide_eq_true_eq, decide_eq_false_iff_not, decide_true, decide_false, if_true, if_false, ite_self, Bool.not_true, Bool.not_false, Bool.false_eq_true, Bool.true_eq_false, Bool.true_and, Bool.false_and, Bool.and_true, Bool.and_false, not_true, not_false_iff, Option.bind_some, nn, toList_inj, Bool.not_eq_true', Bool.not_eq_false', Int.le_refl, and_self, true_and, and_true, false_and, and_false, bne_self_eq_false, beq_self_eq_true, Int.reduceEq, Nat.reduceEqDiff, List.length_singleton, List.tail_cons, Int.reduceLE, Int.reduceLT, decide_eq_true_eq]
    · by_cases h3 : 65 ≤ c
      · simp only [spec_l4Letter.f_eq, h1, h2, h3, isLet, Bool.false_or, strs_len, strs_elem, ints_len, ints_elem, items_list, fld_agg, elem_list, toStr_sc, toInt_sc, toBool_sc, headD_one, nat_int, get_bt, decide_eq_true_eq, decide_eq_false_iff_not, decide_true, decide_false, if_true, if_false, ite_self, Bool.not_true, Bool.not_false, Bool.false_eq_true, Bool.true_eq_false, Bool.true_and, Bool.false_and, Bool.and_true, Bool.and_false, not_true, not_false_iff, Option.bind_some, nn, toList_inj, Bool.not_eq_true', Bool.not_eq_false', Int.le_refl, and_self, true_and, and_true, false_and, and_false, bne_self_eq_false, beq_self_eq_true, Int.reduceEq, Nat.reduceEqDiff, List.length_singleton, List.tail_cons, Int.reduceLE, Int.reduceLT, decide_eq_true_eq]; rfl
      · simp only [spec_l4Letter.f_eq, h1, h2, h3, isLet, Bool.false_or, strs_len, strs_elem, ints_len, ints_elem, items_list, fld_agg, elem_list, toStr_sc, toInt_sc, toBool_sc, headD_one, nat_int, get_bt, decide_eq_true_eq, decide_eq_false_iff_not, decide_true, decide_false, if_true, if_false, ite_self, Bool.not_true, Bool.not_false, Bool.false_eq_true, Bool.true_eq_false, Bool.true_and, Bool.false_and, Bool.and_true, Bool.and_false, not_true, not_false_iff, Option.bind_some, nn, toList_inj, Bool.not_eq_true', Bool.not_eq_false', Int.le_refl, and_self, true_and, and_true, false_and, and_false, bne_self_eq_false, beq_self_eq_true, Int.reduceEq, Nat.reduceEqDiff, List.length_singleton, List.tail_cons, Int.reduceLE, Int.reduceLT, decide_eq_true_eq]
  · by_cases h3 : 65 ≤ c
    · simp only [spec_l4Letter.f_eq, h1, h3, isLet, Bool.false_or, strs_len, strs_elem, ints_len, ints_elem, items_list, fld_agg, elem_list, toStr_sc, toInt_sc, toBool_sc, headD_one, nat_int, get_bt, decide_eq_true_eq, decide_eq_false_iff_not, decide_true, decide_false, if_true, if_false, ite_self, Bool.not_true, Bool.not_false, Bool.false_eq_true, Bool.true_eq_false, Bool.true_and, Bool.false_and, Bool.and_true, Bool.and_false, not_true, not_false_iff, Option.bind_some, nn, toList_inj, Bool.not_eq_true', Bool.not_eq_false', Int.le_refl, and_self, true_and, and_true, false_and, and_false, bne_self_eq_false, beq_self_eq_true, Int.reduceEq, Nat.reduceEqDiff, List.length_singleton, List.tail_cons, Int.reduceLE, Int.reduceLT, decide_eq_true_eq]; rfl
    · simp only [spec_l4Letter.f_eq, h1, h3, isLet, Bool.false_or, strs_len, strs_elem, ints_len, ints_elem, items_list, fld_agg, elem_list, toStr_sc, toInt_sc, toBool_sc, headD_one, nat_int, get_bt, decide_eq_true_eq, decide_eq_false_iff_not, decide_true, decide_false, if_true, if_false, ite_self, Bool.not_true, Bool.not_false, Bool.false_eq_true, Bool.true_eq_false, Bool.true_and, Bool.false_and, Bool.and_true, Bool.and_false, not_true, not_false_iff, Option.bind_some, nn, toList_inj, Bool.not_eq_true', Bool.not_eq_false', Int.le_refl, and_self, true_and, and_true, false_and, and_false, bne_self_eq_false, beq_self_eq_true, Int.reduceEq, Nat.reduceEqDiff, List.length_singleton, List.tail_cons, Int.reduceLE, Int.reduceLT, decide_eq_true_eq]
def runLen : List Int → Nat
  | [] => 0
  | c :: r => if isLet c = true then runLen r + 1 else 0
theorem runLen_le : ∀ l : List Int, runLen l ≤ l.length
  | [] => Nat.le_refl _
  | c :: r => by
    have := runLen_le r
    rw [runLen]; split <;> simp; omega
abbrev Gs := ByteArray × Nat
def gP (g : Gs) : PV := .agg [strP g.1, intP (g.2 : Int)]
def gsP (l : List Gs) : PV := .list (l.map gP)
theorem g_f0 (g : Gs) : (gP g).fld 0 = strP g.1 := rfl
theorem g_f1 (g : Gs) : (gP g).fld 1 = intP (g.2 : Int) := rfl
theorem g_agg (g : Gs) : PV.agg [PV.sc (.string g.1), PV.sc (.int .i64 (g.2 : Int))] = gP g := rfl
theorem g_mk (s : ByteArray) (n : Nat) : PV.agg [PV.sc (.string s), PV.sc (.int .i64 (n : Int))] = gP (s, n) := rfl
theorem gs_len (l : List Gs) : (gsP l).items.length = l.length := by simp [gsP, PV.items]
theorem gs_elem {l pre rest : List Gs} {g : Gs} (h : l = pre ++ g :: rest) : (gsP l).elem pre.length = gP g := by
  subst h
  simp [gsP, PV.elem, PV.items, List.getD_eq_getElem?_getD]
theorem gs_snoc (l : List Gs) (g : Gs) : l.map gP ++ [gP g] = (l ++ [g]).map gP := by simp
theorem gs_list (l : List Gs) : PV.list (l.map gP) = gsP l := rfl
def itemM (W : List ByteArray) (s : ByteArray) (a e : Nat) : List Gs := if lowerM (s.extract a e) ∈ W then [] else [(lowerM (s.extract a e), a)]
def chkM (W : List ByteArray) (s : ByteArray) : List Int → Nat → Bool → List Gs
  | [], _, _ => []
  | c :: r, i, prev => if isLet c = true then (if prev = true then chkM W s r (i + 1) true else itemM W s i (i + 1 + runLen r) ++ chkM W s r (i + 1) true) else chkM W s r (i + 1) false
theorem item_len (W : List ByteArray) (s : ByteArray) (a e : Nat) : (itemM W s a e).length ≤ 1 := by unfold itemM; split <;> simp
theorem chk_len (W : List ByteArray) (s : ByteArray) : ∀ (l : List Int) (i : Nat) (p : Bool), (chkM W s l i p).length ≤ l.length
  | [], _, _ => Nat.le_refl _
  | c :: r, i, p => by
    have h1 := chk_len W s r (i + 1) true
    have h2 := chk_len W s r (i + 1) false
    have h3 := item_len W s i (i + 1 + runLen r)
    rw [chkM]
    split
    · split
      · simp; omega
      · simp; omega
    · simp; omega
theorem chk_skip (W : List ByteArray) (s : ByteArray) : ∀ (l : List Int) (i : Nat), chkM W s l i true = chkM W s (l.drop (runLen l)) (i + runLen l) false
  | [], i => rfl
  | c :: r, i => by
    rw [chkM, runLen]
    by_cases h : isLet c = true
    · rw [if_pos h, if_pos rfl, if_pos h, chk_skip W s r (i + 1), List.drop_succ_cons]
      congr 1; omega
    · rw [if_neg h, if_neg h, List.drop_zero, chkM, if_neg h]
theorem let_ascii {c : Int} (h : isLet c = true) : c < 128 := by
  simp only [isLet, Bool.or_eq_true, Bool.and_eq_true, decide_eq_true_eq] at h
  omega
theorem implChk_l1 {W : List ByteArray} (hW : W.length ≤ 1000000) {s : ByteArray} (hs : s.size ≤ 1000000) {a : Nat} {out : List Gs} (hout : out.length ≤ 2000000) {r : List PV} : ∀ (rest pre : List Int), bytesOf s = pre ++ rest → a ≤ pre.length → (∀ c ∈ pre.drop a, isLet c = true) →
    Ev2 (fun N m => impl_Check.l0 N m s ((pre.length + runLen rest : Nat) : Int) ((out ++ itemM W s a (pre.length + runLen rest)).map gP) (strsP W)) r →
    Ev3 (fun N m n => impl_Check.l1 N m n s (a : Int) (pre.length : Int) (out.map gP) (strsP W)) r := by
  have body : ∀ (pre rest : List Int), bytesOf s = pre ++ rest → a ≤ pre.length → (∀ c ∈ pre.drop a, isLet c = true) →
      (((a : Int) ≤ (pre.length : Int)) = True ∧ ((pre.length : Int) ≤ (s.size : Int)) = True) ∧ (∀ N, strings_ToLower.f N [PV.sc (.string (s.extract a pre.length))] = some [strP (lowerM (s.extract a pre.length))]) := by
    intro pre rest hp ha hl
    have hz : pre.length ≤ s.size := by have := congrArg List.length hp; rw [bytesOf_len] at this; simp at this; omega
    refine ⟨⟨tru (by omega), tru (by omega)⟩, fun N => implLow_val _ (by rw [ByteArray.size_extract]; omega) (fun c hc => ?_) N⟩
    rw [bytes_ext, hp, List.drop_append_of_le_length ha] at hc
    rw [List.take_append_of_le_length (by rw [List.length_drop]; omega), List.take_of_length_le (by rw [List.length_drop]; omega)] at hc
    exact let_ascii (hl c hc)
  intro rest
  induction rest with
  | nil =>
    intro pre hp ha hl hc
    obtain ⟨⟨c1, c2⟩, hlow⟩ := body pre [] hp ha hl
    have hct := contains_ev W (lowerM (s.extract a pre.length)) (by omega)
    simp only [strP] at hct
    have hap : (out.length + 1 ≤ 5864062014805) = True := tru (by omega)
    simp only [runLen, Nat.add_zero] at hc
    refine Ev3.succ ?_
    simp only [impl_Check.l1_eq, at_sizeE hp, c1, c2, nn, hlow, strs_len, strs_elem, ints_len, ints_elem, items_list, fld_agg, elem_list, toStr_sc, toInt_sc, toBool_sc, headD_one, nat_int, get_bt, decide_eq_true_eq, decide_eq_false_iff_not, decide_true, decide_false, if_true, if_false, ite_self, Bool.not_true, Bool.not_false, Bool.false_eq_true, Bool.true_eq_false, Bool.true_and, Bool.false_and, Bool.and_true, Bool.and_false, not_true, not_false_iff, Option.bind_some, nn, toList_inj, Bool.not_eq_true', Bool.not_eq_false', Int.le_refl, and_self, true_and, and_true, false_and, and_false, bne_self_eq_false, beq_self_eq_true, Int.reduceEq, Nat.reduceEqDiff, List.length_singleton, List.tail_cons, Int.reduceLE, Int.reduceLT, decide_eq_true_eq]
    refine Ev3.bind hct ?_
    unfold itemM at hc
    by_cases hm : lowerM (s.extract a pre.length) ∈ W
    · rw [if_pos hm, List.append_nil] at hc
      simp only [hm, strs_len, strs_elem, ints_len, ints_elem, items_list, fld_agg, elem_list, toStr_sc, toInt_sc, toBool_sc, headD_one, nat_int, get_bt, decide_eq_true_eq, decide_eq_false_iff_not, decide_true, decide_false, if_true, if_false, ite_self, Bool.not_true, Bool.not_false, Bool.false_eq_true, Bool.true_eq_false, Bool.true_and, Bool.false_and, Bool.and_true, Bool.and_false, not_true, not_false_iff, Option.bind_some, nn, toList_inj, Bool.not_eq_true', Bool.not_eq_false', Int.le_refl, and_self, true_and, and_true, false_and, and_false, bne_self_eq_false, beq_self_eq_true, Int.reduceEq, Nat.reduceEqDiff, List.length_singleton, List.tail_cons, Int.reduceLE, Int.reduceLT, decide_eq_true_eq]
      exact hc.outer
    · rw [if_neg hm] at hc
      simp only [hm, List.length_map, hap, g_mk, gs_snoc, strs_len, strs_elem, ints_len, ints_elem, items_list, fld_agg, elem_list, toStr_sc, toInt_sc, toBool_sc, headD_one, nat_int, get_bt, decide_eq_true_eq, decide_eq_false_iff_not, decide_true, decide_false, if_true, if_false, ite_self, Bool.not_true, Bool.not_false, Bool.false_eq_true, Bool.true_eq_false, Bool.true_and, Bool.false_and, Bool.and_true, Bool.and_false, not_true, not_false_iff, Option.bind_some, nn, toList_inj, Bool.not_eq_true', Bool.not_eq_false', Int.le_refl, and_self, true_and, and_true, false_and, and_false, bne_self_eq_false, beq_self_eq_true, Int.reduceEq, Nat.reduceEqDiff, List.length_singleton, List.tail_cons, Int.reduceLE, Int.reduceLT, decide_eq_true_eq]
      exact hc.outer
  | cons c rest ih =>
    intro pre hp ha hl hc
    cases hlc : isLet c with
    | true =>
      have e : pre.length + runLen (c :: rest) = (pre ++ [c]).length + runLen rest := by rw [runLen, if_pos hlc]; simp; omega
      rw [e] at hc
      refine Ev3.succ ?_
      simp only [impl_Check.l1_eq, at_size hp, at_bt hp, implLet_val, hlc, at_next hp (by rw [bytesOf_len]; omega), strs_len, strs_elem, ints_len, ints_elem, items_list, fld_agg, elem_list, toStr_sc, toInt_sc, toBool_sc, headD_one, nat_int, get_bt, decide_eq_true_eq, decide_eq_false_iff_not, decide_true, decide_false, if_true, if_false, ite_self, Bool.not_true, Bool.not_false, Bool.false_eq_true, Bool.true_eq_false, Bool.true_and, Bool.false_and, Bool.and_true, Bool.and_false, not_true, not_false_iff, Option.bind_some, nn, toList_inj, Bool.not_eq_true', Bool.not_eq_false', Int.le_refl, and_self, true_and, and_true, false_and, and_false, bne_self_eq_false, beq_self_eq_true, Int.reduceEq, Nat.reduceEqDiff, List.length_singleton, List.tail_cons, Int.reduceLE, Int.reduceLT, decide_eq_true_eq]
      refine ih _ (at_step hp) (by simp; omega) (fun x hx => ?_) hc
      rw [List.drop_append_of_le_length ha] at hx
      rcases List.mem_append.1 hx with hx | hx
      · exact hl x hx
      · rw [List.mem_singleton.1 hx]; exact hlc
    | false =>
      have hn : ¬ (isLet c = true) := by rw [hlc]; simp
      have e : pre.length + runLen (c :: rest) = pre.length := by rw [runLen, if_neg hn]; rfl
      rw [e] at hc
      obtain ⟨⟨c1, c2⟩, hlow⟩ := body pre (c :: rest) hp ha hl
      have hct := contains_ev W (lowerM (s.extract a pre.length)) (by omega)
      simp only [strP] at hct
      have hap : (out.length + 1 ≤ 5864062014805) = True := tru (by omega)
      refine Ev3.succ ?_
      simp only [impl_Check.l1_eq, at_size hp, at_bt hp, implLet_val, hlc, c1, c2, nn, hlow, strs_len, strs_elem, ints_len, ints_elem, items_list, fld_agg, elem_list, toStr_sc, toInt_sc, toBool_sc, headD_one, nat_int, get_bt, decide_eq_true_eq, decide_eq_false_iff_not, decide_true, decide_false, if_true, if_false, ite_self, Bool.not_true, Bool.not_false, Bool.false_eq_true, Bool.true_eq_false, Bool.true_and, Bool.false_and, Bool.and_true, Bool.and_false, not_true, not_false_iff, Option.bind_some, nn, toList_inj, Bool.not_eq_true', Bool.not_eq_false', Int.le_refl, and_self, true_and, and_true, false_and, and_false, bne_self_eq_false, beq_self_eq_true, Int.reduceEq, Nat.reduceEqDiff, List.length_singleton, List.tail_cons, Int.reduceLE, Int.reduceLT, decide_eq_true_eq]
      refine Ev3.bind hct ?_
      unfold itemM at hc
      by_cases hm : lowerM (s.extract a pre.length) ∈ W
      · rw [if_pos hm, List.append_nil] at hc
        simp only [hm, strs_len, strs_elem, ints_len, ints_elem, items_list, fld_agg, elem_list, toStr_sc, toInt_sc, toBool_sc, headD_one, nat_int, get_bt, decide_eq_true_eq, decide_eq_false_iff_not, decide_true, decide_false, if_true, if_false, ite_self, Bool.not_true, Bool.not_false, Bool.false_eq_true, Bool.true_eq_false, Bool.true_and, Bool.false_and, Bool.and_true, Bool.and_false, not_true, not_false_iff, Option.bind_some, nn, toList_inj, Bool.not_eq_true', Bool.not_eq_false', Int.le_refl, and_self, true_and, and_true, false_and, and_false, bne_self_eq_false, beq_self_eq_true, Int.reduceEq, Nat.reduceEqDiff, List.length_singleton, List.tail_cons, Int.reduceLE, Int.reduceLT, decide_eq_true_eq]
        exact hc.outer
      · rw [if_neg hm] at hc
        simp only [hm, List.length_map, hap, g_mk, gs_snoc, strs_len, strs_elem, ints_len, ints_elem, items_list, fld_agg, elem_list, toStr_sc, toInt_sc, toBool_sc, headD_one, nat_int, get_bt, decide_eq_true_eq, decide_eq_false_iff_not, decide_true, decide_false, if_true, if_false, ite_self, Bool.not_true, Bool.not_false, Bool.false_eq_true, Bool.true_eq_false, Bool.true_and, Bool.false_and, Bool.and_true, Bool.and_false, not_true, not_false_iff, Option.bind_some, nn, toList_inj, Bool.not_eq_true', Bool.not_eq_false', Int.le_refl, and_self, true_and, and_true, false_and, and_false, bne_self_eq_false, beq_self_eq_true, Int.reduceEq, Nat.reduceEqDiff, List.length_singleton, List.tail_cons, Int.reduceLE, Int.reduceLT, decide_eq_true_eq]
        exact hc.outer
theorem implChk_l0 {W : List ByteArray} (hW : W.length ≤ 1000000) {s : ByteArray} (hs : s.size ≤ 1000000) : ∀ (n : Nat) (rest pre : List Int) (out : List Gs), rest.length ≤ n → bytesOf s = pre ++ rest → out.length ≤ pre.length →
    Ev2 (fun N n => impl_Check.l0 N n s (pre.length : Int) (out.map gP) (strsP W)) [gsP (out ++ chkM W s rest pre.length false)] := by
  intro n
  induction n with
  | zero =>
    intro rest pre out hr hp ho
    obtain rfl : rest = [] := List.eq_nil_of_length_eq_zero (by omega)
    refine Ev2.succ ?_
    simp only [impl_Check.l0_eq, at_sizeE hp, chkM, List.append_nil, gs_list, strs_len, strs_elem, ints_len, ints_elem, items_list, fld_agg, elem_list, toStr_sc, toInt_sc, toBool_sc, headD_one, nat_int, get_bt, decide_eq_true_eq, decide_eq_false_iff_not, decide_true, decide_false, if_true, if_false, ite_self, Bool.not_true, Bool.not_false, Bool.false_eq_true, Bool.true_eq_false, Bool.true_and, Bool.false_and, Bool.and_true, Bool.and_false, not_true, not_false_iff, Option.bind_some, nn, toList_inj, Bool.not_eq_true', Bool.not_eq_false', Int.le_refl, and_self, true_and, and_true, false_and, and_false, bne_self_eq_false, beq_self_eq_true, Int.reduceEq, Nat.reduceEqDiff, List.length_singleton, List.tail_cons, Int.reduceLE, Int.reduceLT, decide_eq_true_eq]
    exact Ev2.now _
  | succ n ih =>
    intro rest pre out hr hp ho
    cases rest with
    | nil =>
      refine Ev2.succ ?_
      simp only [impl_Check.l0_eq, at_sizeE hp, chkM, List.append_nil, gs_list, strs_len, strs_elem, ints_len, ints_elem, items_list, fld_agg, elem_list, toStr_sc, toInt_sc, toBool_sc, headD_one, nat_int, get_bt, decide_eq_true_eq, decide_eq_false_iff_not, decide_true, decide_false, if_true, if_false, ite_self, Bool.not_true, Bool.not_false, Bool.false_eq_true, Bool.true_eq_false, Bool.true_and, Bool.false_and, Bool.and_true, Bool.and_false, not_true, not_false_iff, Option.bind_some, nn, toList_inj, Bool.not_eq_true', Bool.not_eq_false', Int.le_refl, and_self, true_and, and_true, false_and, and_false, bne_self_eq_false, beq_self_eq_true, Int.reduceEq, Nat.reduceEqDiff, List.length_singleton, List.tail_cons, Int.reduceLE, Int.reduceLT, decide_eq_true_eq]
      exact Ev2.now _
    | cons c rest =>
      have hz : pre.length + rest.length + 1 = s.size := by have := congrArg List.length hp; rw [bytesOf_len] at this; simp at this; omega
      rw [List.length_cons] at hr
      rw [chkM]
      cases hlc : isLet c with
      | false =>
        have hn : ¬ (isLet c = true) := by rw [hlc]; simp
        have := ih rest (pre ++ [c]) out (by omega) (at_step hp) (by simp; omega)
        have hl1 : (pre ++ [c]).length = pre.length + 1 := by simp
        rw [hl1] at this
        have hnx := at_next hp (by rw [bytesOf_len]; omega)
        rw [hl1] at hnx
        refine Ev2.succ ?_
        simp only [impl_Check.l0_eq, at_size hp, at_bt hp, implLet_val, hlc, hnx, strs_len, strs_elem, ints_len, ints_elem, items_list, fld_agg, elem_list, toStr_sc, toInt_sc, toBool_sc, headD_one, nat_int, get_bt, decide_eq_true_eq, decide_eq_false_iff_not, decide_true, decide_false, if_true, if_false, ite_self, Bool.not_true, Bool.not_false, Bool.false_eq_true, Bool.true_eq_false, Bool.true_and, Bool.false_and, Bool.and_true, Bool.and_false, not_true, not_false_iff, Option.bind_some, nn, toList_inj, Bool.not_eq_true', Bool.not_eq_false', Int.le_refl, and_self, true_and, and_true, false_and, and_false, bne_self_eq_false, beq_self_eq_true, Int.reduceEq, Nat.reduceEqDiff, List.length_singleton, List.tail_cons, Int.reduceLE, Int.reduceLT, decide_eq_true_eq]
        exact this
      | true =>
        have hrl := runLen_le rest
        have hrun : runLen (c :: rest) = runLen rest + 1 := by rw [runLen, if_pos hlc]
        have hsp : bytesOf s = (pre ++ c :: rest.take (runLen rest)) ++ rest.drop (runLen rest) := by rw [hp]; simp
        have hil := item_len W s pre.length (pre.length + 1 + runLen rest)
        have hln : (pre ++ c :: rest.take (runLen rest)).length = pre.length + 1 + runLen rest := by simp [List.length_take]; omega
        have key := ih (rest.drop (runLen rest)) (pre ++ c :: rest.take (runLen rest)) (out ++ itemM W s pre.length (pre.length + 1 + runLen rest)) (by rw [List.length_drop]; omega) hsp (by rw [hln, List.length_append]; omega)
        rw [hln] at key
        have eC : out ++ itemM W s pre.length (pre.length + 1 + runLen rest) ++ chkM W s (rest.drop (runLen rest)) (pre.length + 1 + runLen rest) false = out ++ (itemM W s pre.length (pre.length + 1 + runLen rest) ++ chkM W s rest (pre.length + 1) true) := by
          rw [chk_skip W s rest (pre.length + 1), List.append_assoc]
        rw [eC] at key
        have eP : pre.length + runLen (c :: rest) = pre.length + 1 + runLen rest := by rw [hrun]; omega
        have h1 := (implChk_l1 hW hs (a := pre.length) (out := out) (by omega) (c :: rest) pre hp (Nat.le_refl _) (by simp) (by rw [eP]; exact key)).start
        refine Ev2.succ ?_
        simp only [impl_Check.l0_eq, at_size hp, at_bt hp, implLet_val, hlc, strs_len, strs_elem, ints_len, ints_elem, items_list, fld_agg, elem_list, toStr_sc, toInt_sc, toBool_sc, headD_one, nat_int, get_bt, decide_eq_true_eq, decide_eq_false_iff_not, decide_true, decide_false, if_true, if_false, ite_self, Bool.not_true, Bool.not_false, Bool.false_eq_true, Bool.true_eq_false, Bool.true_and, Bool.false_and, Bool.and_true, Bool.and_false, not_true, not_false_iff, Option.bind_some, nn, toList_inj, Bool.not_eq_true', Bool.not_eq_false', Int.le_refl, and_self, true_and, and_true, false_and, and_false, bne_self_eq_false, beq_self_eq_true, Int.reduceEq, Nat.reduceEqDiff, List.length_singleton, List.tail_cons, Int.reduceLE, Int.reduceLT, decide_eq_true_eq]
        exact h1
theorem specChk_l1 {W : List ByteArray} (hW : W.length ≤ 1000000) {s : ByteArray} (hs : s.size ≤ 1000000) {a : Nat} {out : List Gs} (hout : out.length ≤ 2000000) {r : List PV} : ∀ (rest pre : List Int), bytesOf s = pre ++ rest → a ≤ pre.length →
    Ev2 (fun N m => spec_Check.l0 N m s (IntKind.i64.wrap ((a : Int) + 1)) ((out ++ itemM W s a (pre.length + runLen rest)).map gP) (strsP W)) r →
    Ev3 (fun N m n => spec_Check.l1 N m n s (a : Int) (pre.length : Int) (out.map gP) (strsP W)) r := by
  have body : ∀ (pre rest : List Int), bytesOf s = pre ++ rest → a ≤ pre.length → (((a : Int) ≤ (pre.length : Int)) = True ∧ ((pre.length : Int) ≤ (s.size : Int)) = True) ∧ Ev (fun N => spec_l4Small.f N [PV.sc (.string (s.extract a pre.length))]) [strP (lowerM (s.extract a pre.length))] := by
    intro pre rest hp ha
    have hz : pre.length ≤ s.size := by have := congrArg List.length hp; rw [bytesOf_len] at this; simp at this; omega
    exact ⟨⟨tru (by omega), tru (by omega)⟩, specSmall_ev _ (by rw [ByteArray.size_extract]; omega)⟩
  intro rest
  induction rest with
  | nil =>
    intro pre hp ha hc
    obtain ⟨⟨c1, c2⟩, hlow⟩ := body pre [] hp ha
    have hap : (out.length + 1 ≤ 5864062014805) = True := tru (by omega)
    simp only [runLen, Nat.add_zero] at hc
    refine Ev3.succ ?_
    simp only [spec_Check.l1_eq, at_sizeE hp, c1, c2, nn, strs_len, strs_elem, ints_len, ints_elem, items_list, fld_agg, elem_list, toStr_sc, toInt_sc, toBool_sc, headD_one, nat_int, get_bt, decide_eq_true_eq, decide_eq_false_iff_not, decide_true, decide_false, if_true, if_false, ite_self, Bool.not_true, Bool.not_false, Bool.false_eq_true, Bool.true_eq_false, Bool.true_and, Bool.false_and, Bool.and_true, Bool.and_false, not_true, not_false_iff, Option.bind_some, nn, toList_inj, Bool.not_eq_true', Bool.not_eq_false', Int.le_refl, and_self, true_and, and_true, false_and, and_false, bne_self_eq_false, beq_self_eq_true, Int.reduceEq, Nat.reduceEqDiff, List.length_singleton, List.tail_cons, Int.reduceLE, Int.reduceLT, decide_eq_true_eq]
    refine Ev3.bind hlow ?_
    simp only [strs_len, strs_elem, ints_len, ints_elem, items_list, fld_agg, elem_list, toStr_sc, toInt_sc, toBool_sc, headD_one, nat_int, get_bt, decide_eq_true_eq, decide_eq_false_iff_not, decide_true, decide_false, if_true, if_false, ite_self, Bool.not_true, Bool.not_false, Bool.false_eq_true, Bool.true_eq_false, Bool.true_and, Bool.false_and, Bool.and_true, Bool.and_false, not_true, not_false_iff, Option.bind_some, nn, toList_inj, Bool.not_eq_true', Bool.not_eq_false', Int.le_refl, and_self, true_and, and_true, false_and, and_false, bne_self_eq_false, beq_self_eq_true, Int.reduceEq, Nat.reduceEqDiff, List.length_singleton, List.tail_cons, Int.reduceLE, Int.reduceLT, decide_eq_true_eq]
    refine Ev3.bind (l2In_ev (by omega) _) ?_
    unfold itemM at hc
    by_cases hm : lowerM (s.extract a pre.length) ∈ W
    · rw [if_pos hm, List.append_nil] at hc
      simp only [hm, strs_len, strs_elem, ints_len, ints_elem, items_list, fld_agg, elem_list, toStr_sc, toInt_sc, toBool_sc, headD_one, nat_int, get_bt, decide_eq_true_eq, decide_eq_false_iff_not, decide_true, decide_false, if_true, if_false, ite_self, Bool.not_true, Bool.not_false, Bool.false_eq_true, Bool.true_eq_false, Bool.true_and, Bool.false_and, Bool.and_true, Bool.and_false, not_true, not_false_iff, Option.bind_some, nn, toList_inj, Bool.not_eq_true', Bool.not_eq_false', Int.le_refl, and_self, true_and, and_true, false_and, and_false, bne_self_eq_false, beq_self_eq_true, Int.reduceEq, Nat.reduceEqDiff, List.length_singleton, List.tail_cons, Int.reduceLE, Int.reduceLT, decide_eq_true_eq]
      exact hc.outer
    · rw [if_neg hm] at hc
      simp only [hm, List.length_map, hap, g_mk, gs_snoc, strs_len, strs_elem, ints_len, ints_elem, items_list, fld_agg, elem_list, toStr_sc, toInt_sc, toBool_sc, headD_one, nat_int, get_bt, decide_eq_true_eq, decide_eq_false_iff_not, decide_true, decide_false, if_true, if_false, ite_self, Bool.not_true, Bool.not_false, Bool.false_eq_true, Bool.true_eq_false, Bool.true_and, Bool.false_and, Bool.and_true, Bool.and_false, not_true, not_false_iff, Option.bind_some, nn, toList_inj, Bool.not_eq_true', Bool.not_eq_false', Int.le_refl, and_self, true_and, and_true, false_and, and_false, bne_self_eq_false, beq_self_eq_true, Int.reduceEq, Nat.reduceEqDiff, List.length_singleton, List.tail_cons, Int.reduceLE, Int.reduceLT, decide_eq_true_eq]
      exact hc.outer
  | cons c rest ih =>
    intro pre hp ha hc
    cases hlc : isLet c with
    | true =>
      have e : pre.length + runLen (c :: rest) = (pre ++ [c]).length + runLen rest := by rw [runLen, if_pos hlc]; simp; omega
      rw [e] at hc
      refine Ev3.succ ?_
      simp only [spec_Check.l1_eq, at_size hp, at_bt hp, specLet_val, hlc, at_next hp (by rw [bytesOf_len]; omega), strs_len, strs_elem, ints_len, ints_elem, items_list, fld_agg, elem_list, toStr_sc, toInt_sc, toBool_sc, headD_one, nat_int, get_bt, decide_eq_true_eq, decide_eq_false_iff_not, decide_true, decide_false, if_true, if_false, ite_self, Bool.not_true, Bool.not_false, Bool.false_eq_true, Bool.true_eq_false, Bool.true_and, Bool.false_and, Bool.and_true, Bool.and_false, not_true, not_false_iff, Option.bind_some, nn, toList_inj, Bool.not_eq_true', Bool.not_eq_false', Int.le_refl, and_self, true_and, and_true, false_and, and_false, bne_self_eq_false, beq_self_eq_true, Int.reduceEq, Nat.reduceEqDiff, List.length_singleton, List.tail_cons, Int.reduceLE, Int.reduceLT, decide_eq_true_eq]
      exact ih _ (at_step hp) (by simp; omega) hc
    | false =>
      have hn : ¬ (isLet c = true) := by rw [hlc]; simp
      have e : pre.length + runLen (c :: rest) = pre.length := by rw [runLen, if_neg hn]; rfl
      rw [e] at hc
      obtain ⟨⟨c1, c2⟩, hlow⟩ := body pre (c :: rest) hp ha
      have hap : (out.length + 1 ≤ 5864062014805) = True := tru (by omega)
      refine Ev3.succ ?_
      simp only [spec_Check.l1_eq, at_size hp, at_bt hp, specLet_val, hlc, c1, c2, nn, strs_len, strs_elem, ints_len, ints_elem, items_list, fld_agg, elem_list, toStr_sc, toInt_sc, toBool_sc, headD_one, nat_int, get_bt, decide_eq_true_eq, decide_eq_false_iff_not, decide_true, decide_false, if_true, if_false, ite_self, Bool.not_true, Bool.not_false, Bool.false_eq_true, Bool.true_eq_false, Bool.true_and, Bool.false_and, Bool.and_true, Bool.and_false, not_true, not_false_iff, Option.bind_some, nn, toList_inj, Bool.not_eq_true', Bool.not_eq_false', Int.le_refl, and_self, true_and, and_true, false_and, and_false, bne_self_eq_false, beq_self_eq_true, Int.reduceEq, Nat.reduceEqDiff, List.length_singleton, List.tail_cons, Int.reduceLE, Int.reduceLT, decide_eq_true_eq]
      refine Ev3.bind hlow ?_
      simp only [strs_len, strs_elem, ints_len, ints_elem, items_list, fld_agg, elem_list, toStr_sc, toInt_sc, toBool_sc, headD_one, nat_int, get_bt, decide_eq_true_eq, decide_eq_false_iff_not, decide_true, decide_false, if_true, if_false, ite_self, Bool.not_true, Bool.not_false, Bool.false_eq_true, Bool.true_eq_false, Bool.true_and, Bool.false_and, Bool.and_true, Bool.and_false, not_true, not_false_iff, Option.bind_some, nn, toList_inj, Bool.not_eq_true', Bool.not_eq_false', Int.le_refl, and_self, true_and, and_true, false_and, and_false, bne_self_eq_false, beq_self_eq_true, Int.reduceEq, Nat.reduceEqDiff, List.length_singleton, List.tail_cons, Int.reduceLE, Int.reduceLT, decide_eq_true_eq]
      refine Ev3.bind (l2In_ev (by omega) _) ?_
      unfold itemM at hc
      by_cases hm : lowerM (s.extract a pre.length) ∈ W
      · rw [if_pos hm, List.append_nil] at hc
        simp only [hm, strs_len, strs_elem, ints_len, ints_elem, items_list, fld_agg, elem_list, toStr_sc, toInt_sc, toBool_sc, headD_one, nat_int, get_bt, decide_eq_true_eq, decide_eq_false_iff_not, decide_true, decide_false, if_true, if_false, ite_self, Bool.not_true, Bool.not_false, Bool.false_eq_true, Bool.true_eq_false, Bool.true_and, Bool.false_and, Bool.and_true, Bool.and_false, not_true, not_false_iff, Option.bind_some, nn, toList_inj, Bool.not_eq_true', Bool.not_eq_false', Int.le_refl, and_self, true_and, and_true, false_and, and_false, bne_self_eq_false, beq_self_eq_true, Int.reduceEq, Nat.reduceEqDiff, List.length_singleton, List.tail_cons, Int.reduceLE, Int.reduceLT, decide_eq_true_eq]
        exact hc.outer
      · rw [if_neg hm] at hc
        simp only [hm, List.length_map, hap, g_mk, gs_snoc, strs_len, strs_elem, ints_len, ints_elem, items_list, fld_agg, elem_list, toStr_sc, toInt_sc, toBool_sc, headD_one, nat_int, get_bt, decide_eq_true_eq, decide_eq_false_iff_not, decide_true, decide_false, if_true, if_false, ite_self, Bool.not_true, Bool.not_false, Bool.false_eq_true, Bool.true_eq_false, Bool.true_and, Bool.false_and, Bool.and_true, Bool.and_false, not_true, not_false_iff, Option.bind_some, nn, toList_inj, Bool.not_eq_true', Bool.not_eq_false', Int.le_refl, and_self, true_and, and_true, false_and, and_false, bne_self_eq_false, beq_self_eq_true, Int.reduceEq, Nat.reduceEqDiff, List.length_singleton, List.tail_cons, Int.reduceLE, Int.reduceLT, decide_eq_true_eq]
        exact hc.outer
theorem specChk_l0 {W : List ByteArray} (hW : W.length ≤ 1000000) {s : ByteArray} (hs : s.size ≤ 1000000) : ∀ (rest pre : List Int) (out : List Gs) (prev : Bool), bytesOf s = pre ++ rest → out.length ≤ pre.length → ((pre = [] ∧ prev = false) ∨ ∃ pre' q, pre = pre' ++ [q] ∧ prev = isLet q) →
    Ev2 (fun N n => spec_Check.l0 N n s (pre.length : Int) (out.map gP) (strsP W)) [gsP (out ++ chkM W s rest pre.length prev)] := by
  intro rest
  induction rest with
  | nil =>
    intro pre out prev hp ho _
    refine Ev2.succ ?_
    simp only [spec_Check.l0_eq, at_sizeE hp, chkM, List.append_nil, gs_list, strs_len, strs_elem, ints_len, ints_elem, items_list, fld_agg, elem_list, toStr_sc, toInt_sc, toBool_sc, headD_one, nat_int, get_bt, decide_eq_true_eq, decide_eq_false_iff_not, decide_true, decide_false, if_true, if_false, ite_self, Bool.not_true, Bool.not_false, Bool.false_eq_true, Bool.true_eq_false, Bool.true_and, Bool.false_and, Bool.and_true, Bool.and_false, not_true, not_false_iff, Option.bind_some, nn, toList_inj, Bool.not_eq_true', Bool.not_eq_false', Int.le_refl, and_self, true_and, and_true, false_and, and_false, bne_self_eq_false, beq_self_eq_true, Int.reduceEq, Nat.reduceEqDiff, List.length_singleton, List.tail_cons, Int.reduceLE, Int.reduceLT, decide_eq_true_eq]
    exact Ev2.now _
  | cons c rest ih =>
    intro pre out prev hp ho hpv
    have hz : pre.length + rest.length + 1 = s.size := by have := congrArg List.length hp; rw [bytesOf_len] at this; simp at this; omega
    have hl1 : (pre ++ [c]).length = pre.length + 1 := by simp
    have hnx := at_next hp (by rw [bytesOf_len]; omega)
    rw [hl1] at hnx
    have hnext := fun out' ho' => ih (pre ++ [c]) out' (isLet c) (at_step hp) ho' (.inr ⟨pre, c, rfl, rfl⟩)
    simp only [hl1] at hnext
    rw [chkM]
    cases hlc : isLet c with
    | false =>
      rw [hlc] at hnext
      have hk := hnext out (by omega)
      refine Ev2.succ ?_
      simp only [spec_Check.l0_eq, at_size hp, at_bt hp, specLet_val, hlc, hnx, strs_len, strs_elem, ints_len, ints_elem, items_list, fld_agg, elem_list, toStr_sc, toInt_sc, toBool_sc, headD_one, nat_int, get_bt, decide_eq_true_eq, decide_eq_false_iff_not, decide_true, decide_false, if_true, if_false, ite_self, Bool.not_true, Bool.not_false, Bool.false_eq_true, Bool.true_eq_false, Bool.true_and, Bool.false_and, Bool.and_true, Bool.and_false, not_true, not_false_iff, Option.bind_some, nn, toList_inj, Bool.not_eq_true', Bool.not_eq_false', Int.le_refl, and_self, true_and, and_true, false_and, and_false, bne_self_eq_false, beq_self_eq_true, Int.reduceEq, Nat.reduceEqDiff, List.length_singleton, List.tail_cons, Int.reduceLE, Int.reduceLT, decide_eq_true_eq]
      exact hk
    | true =>
      rw [hlc] at hnext
      have eP : pre.length + runLen (c :: rest) = pre.length + 1 + runLen rest := by rw [runLen, if_pos hlc]; omega
      have hil := item_len W s pre.length (pre.length + 1 + runLen rest)
      have mark : prev = false → Ev3 (fun N m n => spec_Check.l1 N m n s (pre.length : Int) (pre.length : Int) (out.map gP) (strsP W)) [gsP (out ++ (itemM W s pre.length (pre.length + 1 + runLen rest) ++ chkM W s rest (pre.length + 1) true))] := fun _ => by
        refine specChk_l1 hW hs (a := pre.length) (out := out) (by omega) (c :: rest) pre hp (Nat.le_refl _) ?_
        have := hnext (out ++ itemM W s pre.length (pre.length + 1 + runLen rest)) (by rw [List.length_append]; omega)
        rw [eP, hnx, ← List.append_assoc]
        exact this
      rcases hpv with ⟨rfl, rfl⟩ | ⟨pre', q, rfl, hq⟩
      · have c3 : ((0 : Int) < (([] : List Int).length : Int)) = False := fls (by simp)
        have hm := (mark rfl).start
        refine Ev2.succ ?_
        simp only [spec_Check.l0_eq, at_size hp, at_bt hp, specLet_val, hlc, c3, strs_len, strs_elem, ints_len, ints_elem, items_list, fld_agg, elem_list, toStr_sc, toInt_sc, toBool_sc, headD_one, nat_int, get_bt, decide_eq_true_eq, decide_eq_false_iff_not, decide_true, decide_false, if_true, if_false, ite_self, Bool.not_true, Bool.not_false, Bool.false_eq_true, Bool.true_eq_false, Bool.true_and, Bool.false_and, Bool.and_true, Bool.and_false, not_true, not_false_iff, Option.bind_some, nn, toList_inj, Bool.not_eq_true', Bool.not_eq_false', Int.le_refl, and_self, true_and, and_true, false_and, and_false, bne_self_eq_false, beq_self_eq_true, Int.reduceEq, Nat.reduceEqDiff, List.length_singleton, List.tail_cons, Int.reduceLE, Int.reduceLT, decide_eq_true_eq]
        exact hm
      · obtain ⟨h1, h2, h3, h4⟩ := prev_bytes hp (by omega)
        cases hlq : isLet q with
        | true =>
          rw [hlq] at hq
          subst hq
          have hk := hnext out (by omega)
          refine Ev2.succ ?_
          simp only [spec_Check.l0_eq, at_size hp, at_bt hp, specLet_val, hlc, h1, h2, h3, h4, hlq, hnx, strs_len, strs_elem, ints_len, ints_elem, items_list, fld_agg, elem_list, toStr_sc, toInt_sc, toBool_sc, headD_one, nat_int, get_bt, decide_eq_true_eq, decide_eq_false_iff_not, decide_true, decide_false, if_true, if_false, ite_self, Bool.not_true, Bool.not_false, Bool.false_eq_true, Bool.true_eq_false, Bool.true_and, Bool.false_and, Bool.and_true, Bool.and_false, not_true, not_false_iff, Option.bind_some, nn, toList_inj, Bool.not_eq_true', Bool.not_eq_false', Int.le_refl, and_self, true_and, and_true, false_and, and_false, bne_self_eq_false, beq_self_eq_true, Int.reduceEq, Nat.reduceEqDiff, List.length_singleton, List.tail_cons, Int.reduceLE, Int.reduceLT, decide_eq_true_eq]
          exact hk
        | false =>
          rw [hlq] at hq
          subst hq
          have hm := (mark rfl).start
          refine Ev2.succ ?_
          simp only [spec_Check.l0_eq, at_size hp, at_bt hp, specLet_val, hlc, h1, h2, h3, h4, hlq, Bool.false_eq_true, strs_len, strs_elem, ints_len, ints_elem, items_list, fld_agg, elem_list, toStr_sc, toInt_sc, toBool_sc, headD_one, nat_int, get_bt, decide_eq_true_eq, decide_eq_false_iff_not, decide_true, decide_false, if_true, if_false, ite_self, Bool.not_true, Bool.not_false, Bool.false_eq_true, Bool.true_eq_false, Bool.true_and, Bool.false_and, Bool.and_true, Bool.and_false, not_true, not_false_iff, Option.bind_some, nn, toList_inj, Bool.not_eq_true', Bool.not_eq_false', Int.le_refl, and_self, true_and, and_true, false_and, and_false, bne_self_eq_false, beq_self_eq_true, Int.reduceEq, Nat.reduceEqDiff, List.length_singleton, List.tail_cons, Int.reduceLE, Int.reduceLT, decide_eq_true_eq]
          exact hm
def checkR (af : List Aff) (es : List Ent) (s : ByteArray) : List Gs := if bookB af es = true ∧ s.size ≤ 300 then chkM (bookW af es) s (bytesOf s) 0 false else []
theorem checkR_len (af : List Aff) (es : List Ent) (s : ByteArray) : (checkR af es s).length ≤ 300 := by
  unfold checkR
  split
  · rename_i h
    have := chk_len (bookW af es) s (bytesOf s) 0 false
    rw [bytesOf_len] at this; omega
  · simp
theorem implCheck_ev {af : List Aff} {es : List Ent} (hS : BookS af es) (s : ByteArray) : Ev (fun N => impl_Check.f N [bookP af es, PV.sc (.string s)]) [gsP (checkR af es s)] := by
  have ne : PV.list [] = gsP [] := rfl
  simp only [impl_Check.f_eq, book_f0, book_f1, book_agg, strs_len, strs_elem, ints_len, ints_elem, items_list, fld_agg, elem_list, toStr_sc, toInt_sc, toBool_sc, headD_one, nat_int, get_bt, decide_eq_true_eq, decide_eq_false_iff_not, decide_true, decide_false, if_true, if_false, ite_self, Bool.not_true, Bool.not_false, Bool.false_eq_true, Bool.true_eq_false, Bool.true_and, Bool.false_and, Bool.and_true, Bool.and_false, not_true, not_false_iff, Option.bind_some, nn, toList_inj, Bool.not_eq_true', Bool.not_eq_false', Int.le_refl, and_self, true_and, and_true, false_and, and_false, bne_self_eq_false, beq_self_eq_true, Int.reduceEq, Nat.reduceEqDiff, List.length_singleton, List.tail_cons, Int.reduceLE, Int.reduceLT, decide_eq_true_eq]
  refine Ev.bind (implBookOk_ev hS) ?_
  cases hb : bookB af es with
  | false =>
    simp only [checkR, hb, ne, strs_len, strs_elem, ints_len, ints_elem, items_list, fld_agg, elem_list, toStr_sc, toInt_sc, toBool_sc, headD_one, nat_int, get_bt, decide_eq_true_eq, decide_eq_false_iff_not, decide_true, decide_false, if_true, if_false, ite_self, Bool.not_true, Bool.not_false, Bool.false_eq_true, Bool.true_eq_false, Bool.true_and, Bool.false_and, Bool.and_true, Bool.and_false, not_true, not_false_iff, Option.bind_some, nn, toList_inj, Bool.not_eq_true', Bool.not_eq_false', Int.le_refl, and_self, true_and, and_true, false_and, and_false, bne_self_eq_false, beq_self_eq_true, Int.reduceEq, Nat.reduceEqDiff, List.length_singleton, List.tail_cons, Int.reduceLE, Int.reduceLT, decide_eq_true_eq]
    exact Ev.now _
  | true =>
    have hF := bookB_facts hb
    have hlen := bookW_len hF
    by_cases h3 : s.size ≤ 300
    · have c1 : ((300 : Int) < (s.size : Int)) = False := fls (by omega)
      simp only [checkR, hb, h3, c1, strs_len, strs_elem, ints_len, ints_elem, items_list, fld_agg, elem_list, toStr_sc, toInt_sc, toBool_sc, headD_one, nat_int, get_bt, decide_eq_true_eq, decide_eq_false_iff_not, decide_true, decide_false, if_true, if_false, ite_self, Bool.not_true, Bool.not_false, Bool.false_eq_true, Bool.true_eq_false, Bool.true_and, Bool.false_and, Bool.and_true, Bool.and_false, not_true, not_false_iff, Option.bind_some, nn, toList_inj, Bool.not_eq_true', Bool.not_eq_false', Int.le_refl, and_self, true_and, and_true, false_and, and_false, bne_self_eq_false, beq_self_eq_true, Int.reduceEq, Nat.reduceEqDiff, List.length_singleton, List.tail_cons, Int.reduceLE, Int.reduceLT, decide_eq_true_eq]
      refine Ev.bind (implBookW_ev hF) ?_
      simp only [strs_len, strs_elem, ints_len, ints_elem, items_list, fld_agg, elem_list, toStr_sc, toInt_sc, toBool_sc, headD_one, nat_int, get_bt, decide_eq_true_eq, decide_eq_false_iff_not, decide_true, decide_false, if_true, if_false, ite_self, Bool.not_true, Bool.not_false, Bool.false_eq_true, Bool.true_eq_false, Bool.true_and, Bool.false_and, Bool.and_true, Bool.and_false, not_true, not_false_iff, Option.bind_some, nn, toList_inj, Bool.not_eq_true', Bool.not_eq_false', Int.le_refl, and_self, true_and, and_true, false_and, and_false, bne_self_eq_false, beq_self_eq_true, Int.reduceEq, Nat.reduceEqDiff, List.length_singleton, List.tail_cons, Int.reduceLE, Int.reduceLT, decide_eq_true_eq]
      exact (implChk_l0 (W := bookW af es) (by omega) (s := s) (by omega) s.size (bytesOf s) [] [] (by rw [bytesOf_len]; omega) rfl (by simp)).diag
    · have c1 : ((300 : Int) < (s.size : Int)) = True := tru (by omega)
      simp only [checkR, hb, h3, c1, ne, strs_len, strs_elem, ints_len, ints_elem, items_list, fld_agg, elem_list, toStr_sc, toInt_sc, toBool_sc, headD_one, nat_int, get_bt, decide_eq_true_eq, decide_eq_false_iff_not, decide_true, decide_false, if_true, if_false, ite_self, Bool.not_true, Bool.not_false, Bool.false_eq_true, Bool.true_eq_false, Bool.true_and, Bool.false_and, Bool.and_true, Bool.and_false, not_true, not_false_iff, Option.bind_some, nn, toList_inj, Bool.not_eq_true', Bool.not_eq_false', Int.le_refl, and_self, true_and, and_true, false_and, and_false, bne_self_eq_false, beq_self_eq_true, Int.reduceEq, Nat.reduceEqDiff, List.length_singleton, List.tail_cons, Int.reduceLE, Int.reduceLT, decide_eq_true_eq]
      exact Ev.now _
theorem specCheck_ev {af : List Aff} {es : List Ent} (hS : BookS af es) (s : ByteArray) : Ev (fun N => spec_Check.f N [bookP af es, PV.sc (.string s)]) [gsP (checkR af es s)] := by
  have ne : PV.list [] = gsP [] := rfl
  simp only [spec_Check.f_eq, book_f0, book_f1, book_agg, strs_len, strs_elem, ints_len, ints_elem, items_list, fld_agg, elem_list, toStr_sc, toInt_sc, toBool_sc, headD_one, nat_int, get_bt, decide_eq_true_eq, decide_eq_false_iff_not, decide_true, decide_false, if_true, if_false, ite_self, Bool.not_true, Bool.not_false, Bool.false_eq_true, Bool.true_eq_false, Bool.true_and, Bool.false_and, Bool.and_true, Bool.and_false, not_true, not_false_iff, Option.bind_some, nn, toList_inj, Bool.not_eq_true', Bool.not_eq_false', Int.le_refl, and_self, true_and, and_true, false_and, and_false, bne_self_eq_false, beq_self_eq_true, Int.reduceEq, Nat.reduceEqDiff, List.length_singleton, List.tail_cons, Int.reduceLE, Int.reduceLT, decide_eq_true_eq]
  refine Ev.bind (specBookOk_ev hS) ?_
  cases hb : bookB af es with
  | false =>
    simp only [checkR, hb, ne, strs_len, strs_elem, ints_len, ints_elem, items_list, fld_agg, elem_list, toStr_sc, toInt_sc, toBool_sc, headD_one, nat_int, get_bt, decide_eq_true_eq, decide_eq_false_iff_not, decide_true, decide_false, if_true, if_false, ite_self, Bool.not_true, Bool.not_false, Bool.false_eq_true, Bool.true_eq_false, Bool.true_and, Bool.false_and, Bool.and_true, Bool.and_false, not_true, not_false_iff, Option.bind_some, nn, toList_inj, Bool.not_eq_true', Bool.not_eq_false', Int.le_refl, and_self, true_and, and_true, false_and, and_false, bne_self_eq_false, beq_self_eq_true, Int.reduceEq, Nat.reduceEqDiff, List.length_singleton, List.tail_cons, Int.reduceLE, Int.reduceLT, decide_eq_true_eq]
    exact Ev.now _
  | true =>
    have hF := bookB_facts hb
    have hlen := bookW_len hF
    by_cases h3 : s.size ≤ 300
    · have c1 : ((300 : Int) < (s.size : Int)) = False := fls (by omega)
      simp only [checkR, hb, h3, c1, strs_len, strs_elem, ints_len, ints_elem, items_list, fld_agg, elem_list, toStr_sc, toInt_sc, toBool_sc, headD_one, nat_int, get_bt, decide_eq_true_eq, decide_eq_false_iff_not, decide_true, decide_false, if_true, if_false, ite_self, Bool.not_true, Bool.not_false, Bool.false_eq_true, Bool.true_eq_false, Bool.true_and, Bool.false_and, Bool.and_true, Bool.and_false, not_true, not_false_iff, Option.bind_some, nn, toList_inj, Bool.not_eq_true', Bool.not_eq_false', Int.le_refl, and_self, true_and, and_true, false_and, and_false, bne_self_eq_false, beq_self_eq_true, Int.reduceEq, Nat.reduceEqDiff, List.length_singleton, List.tail_cons, Int.reduceLE, Int.reduceLT, decide_eq_true_eq]
      refine Ev.bind (bookW_ok hF) ?_
      simp only [strs_len, strs_elem, ints_len, ints_elem, items_list, fld_agg, elem_list, toStr_sc, toInt_sc, toBool_sc, headD_one, nat_int, get_bt, decide_eq_true_eq, decide_eq_false_iff_not, decide_true, decide_false, if_true, if_false, ite_self, Bool.not_true, Bool.not_false, Bool.false_eq_true, Bool.true_eq_false, Bool.true_and, Bool.false_and, Bool.and_true, Bool.and_false, not_true, not_false_iff, Option.bind_some, nn, toList_inj, Bool.not_eq_true', Bool.not_eq_false', Int.le_refl, and_self, true_and, and_true, false_and, and_false, bne_self_eq_false, beq_self_eq_true, Int.reduceEq, Nat.reduceEqDiff, List.length_singleton, List.tail_cons, Int.reduceLE, Int.reduceLT, decide_eq_true_eq]
      exact (specChk_l0 (W := bookW af es) (by omega) (s := s) (by omega) (bytesOf s) [] [] false rfl (by simp) (.inl ⟨rfl, rfl⟩)).diag
    · have c1 : ((300 : Int) < (s.size : Int)) = True := tru (by omega)
      simp only [checkR, hb, h3, c1, ne, strs_len, strs_elem, ints_len, ints_elem, items_list, fld_agg, elem_list, toStr_sc, toInt_sc, toBool_sc, headD_one, nat_int, get_bt, decide_eq_true_eq, decide_eq_false_iff_not, decide_true, decide_false, if_true, if_false, ite_self, Bool.not_true, Bool.not_false, Bool.false_eq_true, Bool.true_eq_false, Bool.true_and, Bool.false_and, Bool.and_true, Bool.and_false, not_true, not_false_iff, Option.bind_some, nn, toList_inj, Bool.not_eq_true', Bool.not_eq_false', Int.le_refl, and_self, true_and, and_true, false_and, and_false, bne_self_eq_false, beq_self_eq_true, Int.reduceEq, Nat.reduceEqDiff, List.length_singleton, List.tail_cons, Int.reduceLE, Int.reduceLT, decide_eq_true_eq]
      exact Ev.now _
def keepG (own : List ByteArray) (af : List Aff) (es : List Ent) (g : Gs) : Bool := !decide (g.1 ∈ own) && decide (partsR af es g.1 = [])
def userR (own : List ByteArray) (af : List Aff) (es : List Ent) (s : ByteArray) : List Gs := if wordsM own 10 = true then (checkR af es s).filter (keepG own af es) else []
theorem userR_len (own : List ByteArray) (af : List Aff) (es : List Ent) (s : ByteArray) : (userR own af es s).length ≤ 300 := by
  unfold userR
  split
  · exact Nat.le_trans (List.length_filter_le _ _) (checkR_len af es s)
  · simp
theorem checkR_size {af : List Aff} {es : List Ent} {s : ByteArray} : ∀ g ∈ checkR af es s, g.1.size ≤ 1000 ∧ g.2 ≤ 1000 := by
  have key : ∀ (l : List Int) (i : Nat) (p : Bool), ∀ g ∈ chkM (bookW af es) s l i p, g.1.size ≤ s.size ∧ g.2 ≤ i + l.length := by
    have item : ∀ (a e : Nat), ∀ g ∈ itemM (bookW af es) s a e, g.1.size ≤ s.size ∧ g.2 = a := by
      intro a e g hg
      unfold itemM at hg
      split at hg
      · cases hg
      · rw [List.mem_singleton.1 hg]
        refine ⟨?_, rfl⟩
        have h1 := congrArg List.length (lowerM_bytes (s.extract a e))
        rw [List.length_map, bytesOf_len, bytesOf_len, ByteArray.size_extract] at h1
        show (lowerM (s.extract a e)).size ≤ s.size
        omega
    intro l
    induction l with
    | nil => intro i p g hg; cases hg
    | cons c r ih =>
      intro i p g hg
      rw [chkM] at hg
      split at hg
      · split at hg
        · obtain ⟨h1, h2⟩ := ih (i + 1) true g hg
          exact ⟨h1, by simp; omega⟩
        · rcases List.mem_append.1 hg with hg | hg
          · obtain ⟨h1, h2⟩ := item _ _ g hg
            exact ⟨h1, by simp; omega⟩
          · obtain ⟨h1, h2⟩ := ih (i + 1) true g hg
            exact ⟨h1, by simp; omega⟩
      · obtain ⟨h1, h2⟩ := ih (i + 1) false g hg
        exact ⟨h1, by simp; omega⟩
  intro g hg
  unfold checkR at hg
  split at hg
  · rename_i h
    obtain ⟨h1, h2⟩ := key (bytesOf s) 0 false g hg
    rw [bytesOf_len] at h2
    exact ⟨by omega, by omega⟩
  · cases hg
theorem implUser_ev {own : List ByteArray} (hol : own.length ≤ 1000000000) (hos : ∀ x ∈ own, x.size ≤ 1000000000) {af : List Aff} {es : List Ent} (hS : BookS af es) (s : ByteArray) : Ev (fun N => impl_UserCheck.f N [bookP af es, strsP own, PV.sc (.string s)]) [gsP (userR own af es s)] := by
  have ne : PV.list [] = gsP [] := rfl
  have hw := implWords_ev own 10 (by omega) (fun x hx => by have := hos x hx; omega)
  have hcl := checkR_len af es s
  obtain ⟨L, hL⟩ : ∃ L, L = checkR af es s := ⟨_, rfl⟩
  have hsz : ∀ g ∈ L, g.1.size ≤ 1000 ∧ g.2 ≤ 1000 := by rw [hL]; exact checkR_size
  have hck := implCheck_ev hS s
  unfold userR
  rw [← hL] at hck hcl ⊢
  clear hL
  have key : ∀ (rest pre : List Gs) (out : List Gs), L = pre ++ rest → out.length ≤ pre.length → Ev2 (fun N n => impl_UserCheck.l0 N n (strsP own) (L.length : Int) (pre.length : Int) (affsP af) (entsP es) (out.map gP) (gsP L)) [gsP (out ++ rest.filter (keepG own af es))] := by
    intro rest
    induction rest with
    | nil =>
      intro pre out hp ho
      refine Ev2.succ ?_
      simp only [impl_UserCheck.l0_eq, at_end hp, List.filter_nil, List.append_nil, gs_list, strs_len, strs_elem, ints_len, ints_elem, items_list, fld_agg, elem_list, toStr_sc, toInt_sc, toBool_sc, headD_one, nat_int, get_bt, decide_eq_true_eq, decide_eq_false_iff_not, decide_true, decide_false, if_true, if_false, ite_self, Bool.not_true, Bool.not_false, Bool.false_eq_true, Bool.true_eq_false, Bool.true_and, Bool.false_and, Bool.and_true, Bool.and_false, not_true, not_false_iff, Option.bind_some, nn, toList_inj, Bool.not_eq_true', Bool.not_eq_false', Int.le_refl, and_self, true_and, and_true, false_and, and_false, bne_self_eq_false, beq_self_eq_true, Int.reduceEq, Nat.reduceEqDiff, List.length_singleton, List.tail_cons, Int.reduceLE, Int.reduceLT, decide_eq_true_eq]
      exact Ev2.now _
    | cons g rest ih =>
      intro pre out hp ho
      have hpl := at_ltN hp
      have hgs := (hsz g (by rw [hp]; simp)).1
      have hct := contains_ev own g.1 (by omega)
      have hpa := implParts_ev hS g.1 (by omega)
      simp only [strP] at hct hpa
      have hap : (out.length + 1 ≤ 5864062014805) = True := tru (by omega)
      refine Ev2.succ ?_
      simp only [impl_UserCheck.l0_eq, gs_len, gs_elem hp, at_lt hp, g_f0, g_f1, g_agg, book_agg, strs_len, strs_elem, ints_len, ints_elem, items_list, fld_agg, elem_list, toStr_sc, toInt_sc, toBool_sc, headD_one, nat_int, get_bt, decide_eq_true_eq, decide_eq_false_iff_not, decide_true, decide_false, if_true, if_false, ite_self, Bool.not_true, Bool.not_false, Bool.false_eq_true, Bool.true_eq_false, Bool.true_and, Bool.false_and, Bool.and_true, Bool.and_false, not_true, not_false_iff, Option.bind_some, nn, toList_inj, Bool.not_eq_true', Bool.not_eq_false', Int.le_refl, and_self, true_and, and_true, false_and, and_false, bne_self_eq_false, beq_self_eq_true, Int.reduceEq, Nat.reduceEqDiff, List.length_singleton, List.tail_cons, Int.reduceLE, Int.reduceLT, decide_eq_true_eq]
      refine Ev2.bind hct ?_
      by_cases hm : g.1 ∈ own
      · have hk : keepG own af es g = false := by unfold keepG; simp [hm]
        rw [List.filter_cons_of_neg (by rw [hk]; simp)]
        simp only [hm, at_next hp (by omega), strs_len, strs_elem, ints_len, ints_elem, items_list, fld_agg, elem_list, toStr_sc, toInt_sc, toBool_sc, headD_one, nat_int, get_bt, decide_eq_true_eq, decide_eq_false_iff_not, decide_true, decide_false, if_true, if_false, ite_self, Bool.not_true, Bool.not_false, Bool.false_eq_true, Bool.true_eq_false, Bool.true_and, Bool.false_and, Bool.and_true, Bool.and_false, not_true, not_false_iff, Option.bind_some, nn, toList_inj, Bool.not_eq_true', Bool.not_eq_false', Int.le_refl, and_self, true_and, and_true, false_and, and_false, bne_self_eq_false, beq_self_eq_true, Int.reduceEq, Nat.reduceEqDiff, List.length_singleton, List.tail_cons, Int.reduceLE, Int.reduceLT, decide_eq_true_eq]
        exact ih _ out (at_step hp) (by simp; omega)
      · simp only [hm, strs_len, strs_elem, ints_len, ints_elem, items_list, fld_agg, elem_list, toStr_sc, toInt_sc, toBool_sc, headD_one, nat_int, get_bt, decide_eq_true_eq, decide_eq_false_iff_not, decide_true, decide_false, if_true, if_false, ite_self, Bool.not_true, Bool.not_false, Bool.false_eq_true, Bool.true_eq_false, Bool.true_and, Bool.false_and, Bool.and_true, Bool.and_false, not_true, not_false_iff, Option.bind_some, nn, toList_inj, Bool.not_eq_true', Bool.not_eq_false', Int.le_refl, and_self, true_and, and_true, false_and, and_false, bne_self_eq_false, beq_self_eq_true, Int.reduceEq, Nat.reduceEqDiff, List.length_singleton, List.tail_cons, Int.reduceLE, Int.reduceLT, decide_eq_true_eq]
        refine Ev2.bind hpa ?_
        cases hpp : partsR af es g.1 with
        | nil =>
          have hk : keepG own af es g = true := by unfold keepG; simp [hm, hpp]
          have c0 : ((([] : List ByteArray).length : Int) = 0) = True := tru rfl
          rw [List.filter_cons_of_pos hk]
          simp only [c0, List.length_map, hap, gs_snoc, at_next hp (by omega), strs_len, strs_elem, ints_len, ints_elem, items_list, fld_agg, elem_list, toStr_sc, toInt_sc, toBool_sc, headD_one, nat_int, get_bt, decide_eq_true_eq, decide_eq_false_iff_not, decide_true, decide_false, if_true, if_false, ite_self, Bool.not_true, Bool.not_false, Bool.false_eq_true, Bool.true_eq_false, Bool.true_and, Bool.false_and, Bool.and_true, Bool.and_false, not_true, not_false_iff, Option.bind_some, nn, toList_inj, Bool.not_eq_true', Bool.not_eq_false', Int.le_refl, and_self, true_and, and_true, false_and, and_false, bne_self_eq_false, beq_self_eq_true, Int.reduceEq, Nat.reduceEqDiff, List.length_singleton, List.tail_cons, Int.reduceLE, Int.reduceLT, decide_eq_true_eq]
          refine Ev2.ext (ih _ (out ++ [g]) (at_step hp) (by simp; omega)) ?_
          simp
        | cons x xs =>
          have hk : keepG own af es g = false := by unfold keepG; simp [hpp]
          have c0 : (((x :: xs).length : Int) = 0) = False := fls (by simp; omega)
          rw [List.filter_cons_of_neg (by rw [hk]; simp)]
          simp only [c0, at_next hp (by omega), strs_len, strs_elem, ints_len, ints_elem, items_list, fld_agg, elem_list, toStr_sc, toInt_sc, toBool_sc, headD_one, nat_int, get_bt, decide_eq_true_eq, decide_eq_false_iff_not, decide_true, decide_false, if_true, if_false, ite_self, Bool.not_true, Bool.not_false, Bool.false_eq_true, Bool.true_eq_false, Bool.true_and, Bool.false_and, Bool.and_true, Bool.and_false, not_true, not_false_iff, Option.bind_some, nn, toList_inj, Bool.not_eq_true', Bool.not_eq_false', Int.le_refl, and_self, true_and, and_true, false_and, and_false, bne_self_eq_false, beq_self_eq_true, Int.reduceEq, Nat.reduceEqDiff, List.length_singleton, List.tail_cons, Int.reduceLE, Int.reduceLT, decide_eq_true_eq]
          exact ih _ out (at_step hp) (by simp; omega)
  simp only [impl_UserCheck.f_eq, book_f0, book_f1, book_agg, strs_len, strs_elem, ints_len, ints_elem, items_list, fld_agg, elem_list, toStr_sc, toInt_sc, toBool_sc, headD_one, nat_int, get_bt, decide_eq_true_eq, decide_eq_false_iff_not, decide_true, decide_false, if_true, if_false, ite_self, Bool.not_true, Bool.not_false, Bool.false_eq_true, Bool.true_eq_false, Bool.true_and, Bool.false_and, Bool.and_true, Bool.and_false, not_true, not_false_iff, Option.bind_some, nn, toList_inj, Bool.not_eq_true', Bool.not_eq_false', Int.le_refl, and_self, true_and, and_true, false_and, and_false, bne_self_eq_false, beq_self_eq_true, Int.reduceEq, Nat.reduceEqDiff, List.length_singleton, List.tail_cons, Int.reduceLE, Int.reduceLT, decide_eq_true_eq]
  refine Ev.bind hw ?_
  cases hwo : wordsM own 10 with
  | false =>
    simp only [ne, strs_len, strs_elem, ints_len, ints_elem, items_list, fld_agg, elem_list, toStr_sc, toInt_sc, toBool_sc, headD_one, nat_int, get_bt, decide_eq_true_eq, decide_eq_false_iff_not, decide_true, decide_false, if_true, if_false, ite_self, Bool.not_true, Bool.not_false, Bool.false_eq_true, Bool.true_eq_false, Bool.true_and, Bool.false_and, Bool.and_true, Bool.and_false, not_true, not_false_iff, Option.bind_some, nn, toList_inj, Bool.not_eq_true', Bool.not_eq_false', Int.le_refl, and_self, true_and, and_true, false_and, and_false, bne_self_eq_false, beq_self_eq_true, Int.reduceEq, Nat.reduceEqDiff, List.length_singleton, List.tail_cons, Int.reduceLE, Int.reduceLT, decide_eq_true_eq]
    exact Ev.now _
  | true =>
    simp only [strs_len, strs_elem, ints_len, ints_elem, items_list, fld_agg, elem_list, toStr_sc, toInt_sc, toBool_sc, headD_one, nat_int, get_bt, decide_eq_true_eq, decide_eq_false_iff_not, decide_true, decide_false, if_true, if_false, ite_self, Bool.not_true, Bool.not_false, Bool.false_eq_true, Bool.true_eq_false, Bool.true_and, Bool.false_and, Bool.and_true, Bool.and_false, not_true, not_false_iff, Option.bind_some, nn, toList_inj, Bool.not_eq_true', Bool.not_eq_false', Int.le_refl, and_self, true_and, and_true, false_and, and_false, bne_self_eq_false, beq_self_eq_true, Int.reduceEq, Nat.reduceEqDiff, List.length_singleton, List.tail_cons, Int.reduceLE, Int.reduceLT, decide_eq_true_eq]
    refine Ev.bind hck ?_
    simp only [gs_len, strs_len, strs_elem, ints_len, ints_elem, items_list, fld_agg, elem_list, toStr_sc, toInt_sc, toBool_sc, headD_one, nat_int, get_bt, decide_eq_true_eq, decide_eq_false_iff_not, decide_true, decide_false, if_true, if_false, ite_self, Bool.not_true, Bool.not_false, Bool.false_eq_true, Bool.true_eq_false, Bool.true_and, Bool.false_and, Bool.and_true, Bool.and_false, not_true, not_false_iff, Option.bind_some, nn, toList_inj, Bool.not_eq_true', Bool.not_eq_false', Int.le_refl, and_self, true_and, and_true, false_and, and_false, bne_self_eq_false, beq_self_eq_true, Int.reduceEq, Nat.reduceEqDiff, List.length_singleton, List.tail_cons, Int.reduceLE, Int.reduceLT, decide_eq_true_eq]
    exact (key L [] [] rfl (by simp)).diag
theorem specUser_ev {own : List ByteArray} (hol : own.length ≤ 1000000000) (hos : ∀ x ∈ own, x.size ≤ 1000000000) {af : List Aff} {es : List Ent} (hS : BookS af es) (s : ByteArray) : Ev (fun N => spec_UserCheck.f N [bookP af es, strsP own, PV.sc (.string s)]) [gsP (userR own af es s)] := by
  have ne : PV.list [] = gsP [] := rfl
  have hw := specOwn_ev own (by omega) (fun x hx => by have := hos x hx; omega)
  have hcl := checkR_len af es s
  have hB : checkR af es s ≠ [] → bookB af es = true := fun h => by
    unfold checkR at h
    split at h
    · rename_i hc; exact hc.1
    · exact absurd rfl h
  obtain ⟨L, hL⟩ : ∃ L, L = checkR af es s := ⟨_, rfl⟩
  have hsz : ∀ g ∈ L, g.1.size ≤ 1000 ∧ g.2 ≤ 1000 := by rw [hL]; exact checkR_size
  have hck := specCheck_ev hS s
  unfold userR
  rw [← hL] at hck hcl hB ⊢
  clear hL
  simp only [spec_UserCheck.f_eq, book_f0, book_f1, book_agg, strs_len, strs_elem, ints_len, ints_elem, items_list, fld_agg, elem_list, toStr_sc, toInt_sc, toBool_sc, headD_one, nat_int, get_bt, decide_eq_true_eq, decide_eq_false_iff_not, decide_true, decide_false, if_true, if_false, ite_self, Bool.not_true, Bool.not_false, Bool.false_eq_true, Bool.true_eq_false, Bool.true_and, Bool.false_and, Bool.and_true, Bool.and_false, not_true, not_false_iff, Option.bind_some, nn, toList_inj, Bool.not_eq_true', Bool.not_eq_false', Int.le_refl, and_self, true_and, and_true, false_and, and_false, bne_self_eq_false, beq_self_eq_true, Int.reduceEq, Nat.reduceEqDiff, List.length_singleton, List.tail_cons, Int.reduceLE, Int.reduceLT, decide_eq_true_eq]
  refine Ev.bind hck ?_
  by_cases h0 : L = []
  · subst h0
    have c0 : ((([] : List Gs).length : Int) = 0) = True := tru rfl
    simp only [gs_len, c0, ne, List.filter_nil, ite_self, strs_len, strs_elem, ints_len, ints_elem, items_list, fld_agg, elem_list, toStr_sc, toInt_sc, toBool_sc, headD_one, nat_int, get_bt, decide_eq_true_eq, decide_eq_false_iff_not, decide_true, decide_false, if_true, if_false, ite_self, Bool.not_true, Bool.not_false, Bool.false_eq_true, Bool.true_eq_false, Bool.true_and, Bool.false_and, Bool.and_true, Bool.and_false, not_true, not_false_iff, Option.bind_some, nn, toList_inj, Bool.not_eq_true', Bool.not_eq_false', Int.le_refl, and_self, true_and, and_true, false_and, and_false, bne_self_eq_false, beq_self_eq_true, Int.reduceEq, Nat.reduceEqDiff, List.length_singleton, List.tail_cons, Int.reduceLE, Int.reduceLT, decide_eq_true_eq]
    exact Ev.now _
  have c0 : ((L.length : Int) = 0) = False := fls (by
    have := List.length_pos_iff.2 h0; omega)
  have hb := hB h0
  have hF := bookB_facts hb
  have hlen := bookW_len hF
  simp only [gs_len, c0, strs_len, strs_elem, ints_len, ints_elem, items_list, fld_agg, elem_list, toStr_sc, toInt_sc, toBool_sc, headD_one, nat_int, get_bt, decide_eq_true_eq, decide_eq_false_iff_not, decide_true, decide_false, if_true, if_false, ite_self, Bool.not_true, Bool.not_false, Bool.false_eq_true, Bool.true_eq_false, Bool.true_and, Bool.false_and, Bool.and_true, Bool.and_false, not_true, not_false_iff, Option.bind_some, nn, toList_inj, Bool.not_eq_true', Bool.not_eq_false', Int.le_refl, and_self, true_and, and_true, false_and, and_false, bne_self_eq_false, beq_self_eq_true, Int.reduceEq, Nat.reduceEqDiff, List.length_singleton, List.tail_cons, Int.reduceLE, Int.reduceLT, decide_eq_true_eq]
  refine Ev.bind hw ?_
  cases hwo : wordsM own 10 with
  | false =>
    simp only [ne, strs_len, strs_elem, ints_len, ints_elem, items_list, fld_agg, elem_list, toStr_sc, toInt_sc, toBool_sc, headD_one, nat_int, get_bt, decide_eq_true_eq, decide_eq_false_iff_not, decide_true, decide_false, if_true, if_false, ite_self, Bool.not_true, Bool.not_false, Bool.false_eq_true, Bool.true_eq_false, Bool.true_and, Bool.false_and, Bool.and_true, Bool.and_false, not_true, not_false_iff, Option.bind_some, nn, toList_inj, Bool.not_eq_true', Bool.not_eq_false', Int.le_refl, and_self, true_and, and_true, false_and, and_false, bne_self_eq_false, beq_self_eq_true, Int.reduceEq, Nat.reduceEqDiff, List.length_singleton, List.tail_cons, Int.reduceLE, Int.reduceLT, decide_eq_true_eq]
    exact Ev.now _
  | true =>
    have key : ∀ (rest pre : List Gs) (out : List Gs), L = pre ++ rest → out.length ≤ pre.length → Ev2 (fun N n => spec_UserCheck.l0 N n (strsP own) (pre.length : Int) (out.map gP) (gsP L) (strsP (bookW af es))) [gsP (out ++ rest.filter (keepG own af es))] := by
      intro rest
      induction rest with
      | nil =>
        intro pre out hp ho
        refine Ev2.succ ?_
        simp only [spec_UserCheck.l0_eq, gs_len, at_end hp, List.filter_nil, List.append_nil, gs_list, strs_len, strs_elem, ints_len, ints_elem, items_list, fld_agg, elem_list, toStr_sc, toInt_sc, toBool_sc, headD_one, nat_int, get_bt, decide_eq_true_eq, decide_eq_false_iff_not, decide_true, decide_false, if_true, if_false, ite_self, Bool.not_true, Bool.not_false, Bool.false_eq_true, Bool.true_eq_false, Bool.true_and, Bool.false_and, Bool.and_true, Bool.and_false, not_true, not_false_iff, Option.bind_some, nn, toList_inj, Bool.not_eq_true', Bool.not_eq_false', Int.le_refl, and_self, true_and, and_true, false_and, and_false, bne_self_eq_false, beq_self_eq_true, Int.reduceEq, Nat.reduceEqDiff, List.length_singleton, List.tail_cons, Int.reduceLE, Int.reduceLT, decide_eq_true_eq]
        exact Ev2.now _
      | cons g rest ih =>
        intro pre out hp ho
        have hpl := at_ltN hp
        have hgs := (hsz g (by rw [hp]; simp)).1
        have hwd := specWord_ev g.1 (by omega)
        simp only [strP] at hwd
        have hap : (out.length + 1 ≤ 5864062014805) = True := tru (by omega)
        refine Ev2.succ ?_
        simp only [spec_UserCheck.l0_eq, gs_len, gs_elem hp, at_lt hp, g_f0, g_f1, g_agg, strs_len, strs_elem, ints_len, ints_elem, items_list, fld_agg, elem_list, toStr_sc, toInt_sc, toBool_sc, headD_one, nat_int, get_bt, decide_eq_true_eq, decide_eq_false_iff_not, decide_true, decide_false, if_true, if_false, ite_self, Bool.not_true, Bool.not_false, Bool.false_eq_true, Bool.true_eq_false, Bool.true_and, Bool.false_and, Bool.and_true, Bool.and_false, not_true, not_false_iff, Option.bind_some, nn, toList_inj, Bool.not_eq_true', Bool.not_eq_false', Int.le_refl, and_self, true_and, and_true, false_and, and_false, bne_self_eq_false, beq_self_eq_true, Int.reduceEq, Nat.reduceEqDiff, List.length_singleton, List.tail_cons, Int.reduceLE, Int.reduceLT, decide_eq_true_eq]
        refine Ev2.bind (l2In_ev (by omega) g.1) ?_
        by_cases hm : g.1 ∈ own
        · have hk : keepG own af es g = false := by unfold keepG; simp [hm]
          rw [List.filter_cons_of_neg (by rw [hk]; simp)]
          simp only [hm, at_next hp (by omega), strs_len, strs_elem, ints_len, ints_elem, items_list, fld_agg, elem_list, toStr_sc, toInt_sc, toBool_sc, headD_one, nat_int, get_bt, decide_eq_true_eq, decide_eq_false_iff_not, decide_true, decide_false, if_true, if_false, ite_self, Bool.not_true, Bool.not_false, Bool.false_eq_true, Bool.true_eq_false, Bool.true_and, Bool.false_and, Bool.and_true, Bool.and_false, not_true, not_false_iff, Option.bind_some, nn, toList_inj, Bool.not_eq_true', Bool.not_eq_false', Int.le_refl, and_self, true_and, and_true, false_and, and_false, bne_self_eq_false, beq_self_eq_true, Int.reduceEq, Nat.reduceEqDiff, List.length_singleton, List.tail_cons, Int.reduceLE, Int.reduceLT, decide_eq_true_eq]
          exact ih _ out (at_step hp) (by simp; omega)
        · simp only [hm, strs_len, strs_elem, ints_len, ints_elem, items_list, fld_agg, elem_list, toStr_sc, toInt_sc, toBool_sc, headD_one, nat_int, get_bt, decide_eq_true_eq, decide_eq_false_iff_not, decide_true, decide_false, if_true, if_false, ite_self, Bool.not_true, Bool.not_false, Bool.false_eq_true, Bool.true_eq_false, Bool.true_and, Bool.false_and, Bool.and_true, Bool.and_false, not_true, not_false_iff, Option.bind_some, nn, toList_inj, Bool.not_eq_true', Bool.not_eq_false', Int.le_refl, and_self, true_and, and_true, false_and, and_false, bne_self_eq_false, beq_self_eq_true, Int.reduceEq, Nat.reduceEqDiff, List.length_singleton, List.tail_cons, Int.reduceLE, Int.reduceLT, decide_eq_true_eq]
          refine Ev2.bind hwd ?_
          cases hiw : isWord g.1 with
          | false =>
            have hpp : partsR af es g.1 = [] := by unfold partsR; simp [hiw]
            have hk : keepG own af es g = true := by unfold keepG; simp [hm, hpp]
            rw [List.filter_cons_of_pos hk]
            simp only [List.length_map, hap, gs_snoc, at_next hp (by omega), strs_len, strs_elem, ints_len, ints_elem, items_list, fld_agg, elem_list, toStr_sc, toInt_sc, toBool_sc, headD_one, nat_int, get_bt, decide_eq_true_eq, decide_eq_false_iff_not, decide_true, decide_false, if_true, if_false, ite_self, Bool.not_true, Bool.not_false, Bool.false_eq_true, Bool.true_eq_false, Bool.true_and, Bool.false_and, Bool.and_true, Bool.and_false, not_true, not_false_iff, Option.bind_some, nn, toList_inj, Bool.not_eq_true', Bool.not_eq_false', Int.le_refl, and_self, true_and, and_true, false_and, and_false, bne_self_eq_false, beq_self_eq_true, Int.reduceEq, Nat.reduceEqDiff, List.length_singleton, List.tail_cons, Int.reduceLE, Int.reduceLT, decide_eq_true_eq]
            refine Ev2.ext (ih _ (out ++ [g]) (at_step hp) (by simp; omega)) ?_
            simp
          | true =>
            have hpe : partsR af es g.1 = partsB (bookW af es) g.1 := by unfold partsR; simp [hiw, hb]
            simp only [strs_len, strs_elem, ints_len, ints_elem, items_list, fld_agg, elem_list, toStr_sc, toInt_sc, toBool_sc, headD_one, nat_int, get_bt, decide_eq_true_eq, decide_eq_false_iff_not, decide_true, decide_false, if_true, if_false, ite_self, Bool.not_true, Bool.not_false, Bool.false_eq_true, Bool.true_eq_false, Bool.true_and, Bool.false_and, Bool.and_true, Bool.and_false, not_true, not_false_iff, Option.bind_some, nn, toList_inj, Bool.not_eq_true', Bool.not_eq_false', Int.le_refl, and_self, true_and, and_true, false_and, and_false, bne_self_eq_false, beq_self_eq_true, Int.reduceEq, Nat.reduceEqDiff, List.length_singleton, List.tail_cons, Int.reduceLE, Int.reduceLT, decide_eq_true_eq]
            refine Ev2.bind (l10Of_ev (by omega) g.1 (by omega)) ?_
            cases hpp : partsB (bookW af es) g.1 with
            | nil =>
              have hk : keepG own af es g = true := by unfold keepG; simp [hm, hpe, hpp]
              have c1 : ((0 : Int) < (([] : List ByteArray).length : Int)) = False := fls (by simp)
              rw [List.filter_cons_of_pos hk]
              simp only [c1, List.length_map, hap, gs_snoc, at_next hp (by omega), strs_len, strs_elem, ints_len, ints_elem, items_list, fld_agg, elem_list, toStr_sc, toInt_sc, toBool_sc, headD_one, nat_int, get_bt, decide_eq_true_eq, decide_eq_false_iff_not, decide_true, decide_false, if_true, if_false, ite_self, Bool.not_true, Bool.not_false, Bool.false_eq_true, Bool.true_eq_false, Bool.true_and, Bool.false_and, Bool.and_true, Bool.and_false, not_true, not_false_iff, Option.bind_some, nn, toList_inj, Bool.not_eq_true', Bool.not_eq_false', Int.le_refl, and_self, true_and, and_true, false_and, and_false, bne_self_eq_false, beq_self_eq_true, Int.reduceEq, Nat.reduceEqDiff, List.length_singleton, List.tail_cons, Int.reduceLE, Int.reduceLT, decide_eq_true_eq]
              refine Ev2.ext (ih _ (out ++ [g]) (at_step hp) (by simp; omega)) ?_
              simp
            | cons x xs =>
              have hk : keepG own af es g = false := by unfold keepG; simp [hpe, hpp]
              have c1 : ((0 : Int) < ((x :: xs).length : Int)) = True := tru (by simp <;> omega)
              rw [List.filter_cons_of_neg (by rw [hk]; simp)]
              simp only [c1, at_next hp (by omega), strs_len, strs_elem, ints_len, ints_elem, items_list, fld_agg, elem_list, toStr_sc, toInt_sc, toBool_sc, headD_one, nat_int, get_bt, decide_eq_true_eq, decide_eq_false_iff_not, decide_true, decide_false, if_true, if_false, ite_self, Bool.not_true, Bool.not_false, Bool.false_eq_true, Bool.true_eq_false, Bool.true_and, Bool.false_and, Bool.and_true, Bool.and_false, not_true, not_false_iff, Option.bind_some, nn, toList_inj, Bool.not_eq_true', Bool.not_eq_false', Int.le_refl, and_self, true_and, and_true, false_and, and_false, bne_self_eq_false, beq_self_eq_true, Int.reduceEq, Nat.reduceEqDiff, List.length_singleton, List.tail_cons, Int.reduceLE, Int.reduceLT, decide_eq_true_eq]
              exact ih _ out (at_step hp) (by simp; omega)
    simp only [strs_len, strs_elem, ints_len, ints_elem, items_list, fld_agg, elem_list, toStr_sc, toInt_sc, toBool_sc, headD_one, nat_int, get_bt, decide_eq_true_eq, decide_eq_false_iff_not, decide_true, decide_false, if_true, if_false, ite_self, Bool.not_true, Bool.not_false, Bool.false_eq_true, Bool.true_eq_false, Bool.true_and, Bool.false_and, Bool.and_true, Bool.and_false, not_true, not_false_iff, Option.bind_some, nn, toList_inj, Bool.not_eq_true', Bool.not_eq_false', Int.le_refl, and_self, true_and, and_true, false_and, and_false, bne_self_eq_false, beq_self_eq_true, Int.reduceEq, Nat.reduceEqDiff, List.length_singleton, List.tail_cons, Int.reduceLE, Int.reduceLT, decide_eq_true_eq]
    refine Ev.bind (bookW_ok hF) ?_
    simp only [strs_len, strs_elem, ints_len, ints_elem, items_list, fld_agg, elem_list, toStr_sc, toInt_sc, toBool_sc, headD_one, nat_int, get_bt, decide_eq_true_eq, decide_eq_false_iff_not, decide_true, decide_false, if_true, if_false, ite_self, Bool.not_true, Bool.not_false, Bool.false_eq_true, Bool.true_eq_false, Bool.true_and, Bool.false_and, Bool.and_true, Bool.and_false, not_true, not_false_iff, Option.bind_some, nn, toList_inj, Bool.not_eq_true', Bool.not_eq_false', Int.le_refl, and_self, true_and, and_true, false_and, and_false, bne_self_eq_false, beq_self_eq_true, Int.reduceEq, Nat.reduceEqDiff, List.length_singleton, List.tail_cons, Int.reduceLE, Int.reduceLT, decide_eq_true_eq]
    exact (key L [] [] rfl (by simp)).diag
end Go.Proofs.YtoiigoflkhmjnaaGreatDoor.FnUserCheck
