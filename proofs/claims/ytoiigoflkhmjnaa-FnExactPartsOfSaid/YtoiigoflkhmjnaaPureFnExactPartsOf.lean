/- The law FnExactPartsOf, over the trees that its functions compute: it answers true, for all arguments of the bounds that the row grants. -/
import Derived.Test.YtoiigoflkhmjnaaFnFnExactPartsOfy1
set_option linter.unusedVariables false
set_option linter.unusedSimpArgs false
set_option maxRecDepth 10000
namespace Go.Proofs.Ytoiigoflkhmjnaa.FnExactPartsOf
open Go Go.Proofs.YtoiigoflkhmjnaaAm
/-! #### the words of a book: the program -/
theorem has01 (c : UInt8) : ∀ l : List UInt8, decide (0 ≤ Lib.indexByte l c) = l.contains c
  | [] => rfl
  | b :: l => by
    have ih := has01 c l
    have hg := Lib.indexByte_ge l c
    rw [Lib.indexByte, List.contains_cons]
    by_cases hb : b = c
    · subst hb; simp
    · have h1 : (b == c) = false := by simp [hb]
      have h2 : (c == b) = false := by simp [Ne.symm hb]
      rw [h1, h2, Bool.false_or, ← ih]
      by_cases h3 : Lib.indexByte l c = -1
      · simp [h3]
      · have h4 : (Lib.indexByte l c == -1) = false := by simp [h3]
        simp only [h4, Bool.false_eq_true, if_false]
        exact decide_eq_decide.2 (by omega)
theorem ext_one (s : ByteArray) {i : Nat} (h : i < s.size) : s.extract i (i + 1) = ⟨#[s.data.toList[i]'(by rw [Array.length_toList]; exact h)]⟩ := by
  have hi : ∀ a b : ByteArray, a.data.toList = b.data.toList → a = b := fun a b h => by cases a; cases b; simp at h; simp [h]
  apply hi
  have hl : i < s.data.toList.length := by rw [Array.length_toList]; exact h
  rw [ByteArray.data_extract]
  simp only [Array.toList_extract, List.extract]
  rw [List.drop_eq_getElem_cons hl]
  simp
theorem hasFrom_contains (s : ByteArray) (b : UInt8) : ∀ d i : Nat, i + d = s.size → hasFrom s ⟨#[b]⟩ d i = (s.data.toList.drop i).contains b
  | 0, i, h => by
    rw [List.drop_of_length_le (by rw [Array.length_toList]; show s.size ≤ i; omega)]; rfl
  | d + 1, i, h => by
    have hl : i < s.data.toList.length := by rw [Array.length_toList]; show i < s.size; omega
    rw [hasFrom, ext_one s (by omega), List.drop_eq_getElem_cons hl, List.contains_cons, hasFrom_contains s b d (i + 1) (by omega)]
    congr 1
    by_cases he : s.data.toList[i] = b
    · simp [he]
    · have : ¬ (ByteArray.mk #[s.data.toList[i]] = ⟨#[b]⟩) := fun h => he (by injection h with h; injection h with h; injection h)
      have h2 : (b == s.data.toList[i]) = false := beq_false_of_ne (fun h => he h.symm)
      rw [h2]
      exact decide_eq_false this
theorem contains_flag (s p : ByteArray) (hp : p.size = 1) (N : Nat) : strings_Contains.f N [PV.sc (.string s), PV.sc (.string p)] = some [boolP (hasB s p)] := by
  have hi : strings_Index.f N [PV.sc (.string s), PV.sc (.string p)] = some [intP (Lib.indexByte s.data.toList (p.get! 0))] := by
    show indexDen [strP s, strP p] = _
    have : (if p.size = 1 then some [intP (Lib.indexByte s.data.toList (p.get! 0))] else none) = some [intP (Lib.indexByte s.data.toList (p.get! 0))] := if_pos hp
    exact this
  have e : hasB s p = decide (0 ≤ Lib.indexByte s.data.toList (p.get! 0)) := by
    rw [has01]
    unfold hasB
    conv => lhs; rw [one_bytes p hp]
    rw [hasFrom_contains s _ s.size 0 (by omega), List.drop_zero]
  rw [e]
  simp only [strings_Contains.f_eq, hi, strs_len, strs_elem, ints_len, ints_elem, items_list, fld_agg, elem_list, toStr_sc, toInt_sc, toBool_sc, headD_one, nat_int, get_bt, decide_eq_true_eq, decide_eq_false_iff_not, decide_true, decide_false, if_true, if_false, ite_self, Bool.not_true, Bool.not_false, Bool.false_eq_true, Bool.true_eq_false, Bool.true_and, Bool.false_and, Bool.and_true, Bool.and_false, not_true, not_false_iff, Option.bind_some, nn, toList_inj, Bool.not_eq_true', Bool.not_eq_false', Int.le_refl, and_self, true_and, and_true, false_and, and_false, bne_self_eq_false, beq_self_eq_true, Int.reduceEq, Nat.reduceEqDiff, List.length_singleton, List.tail_cons, Int.reduceLE, Int.reduceLT, decide_eq_true_eq]
  rfl
def doI (a : Aff) (s : ByteArray) : List PV := match doB a s with
  | some x => [strP x, boolP true]
  | none => [strP ⟨#[]⟩, boolP false]
theorem implDo_ev {a : Aff} (ha : affB a = true) {s : ByteArray} (hw : isWord s = true) : Ev (fun N => impl_AffixDo.f N [affP a, strP s]) (doI a s) := by
  obtain ⟨⟨g1, g2⟩, g3, g4, g5, g6⟩ := affB_facts ha
  have hs := word_size hw
  have hok := implAffixOk_ev a ⟨by omega, by omega, by omega, by omega⟩
  have hwo := implWord_ev s (by omega)
  have hE := hasSuf_val s a.cond (by omega)
  have hB := hasPre_val s a.cond
  rw [ha] at hok
  rw [hw] at hwo
  simp only [strP] at hwo
  have nil0 : PV.sc (.string (ByteArray.mk #[])) = strP ⟨#[]⟩ := rfl
  unfold doI doB
  simp only [impl_AffixDo.f_eq, aff_f0, aff_f1, aff_f2, aff_f3, aff_f4, aff_agg, strs_len, strs_elem, ints_len, ints_elem, items_list, fld_agg, elem_list, toStr_sc, toInt_sc, toBool_sc, headD_one, nat_int, get_bt, decide_eq_true_eq, decide_eq_false_iff_not, decide_true, decide_false, if_true, if_false, ite_self, Bool.not_true, Bool.not_false, Bool.false_eq_true, Bool.true_eq_false, Bool.true_and, Bool.false_and, Bool.and_true, Bool.and_false, not_true, not_false_iff, Option.bind_some, nn, toList_inj, Bool.not_eq_true', Bool.not_eq_false', Int.le_refl, and_self, true_and, and_true, false_and, and_false, bne_self_eq_false, beq_self_eq_true, Int.reduceEq, Nat.reduceEqDiff, List.length_singleton, List.tail_cons, Int.reduceLE, Int.reduceLT, decide_eq_true_eq]
  refine Ev.bind hok ?_
  simp only [strs_len, strs_elem, ints_len, ints_elem, items_list, fld_agg, elem_list, toStr_sc, toInt_sc, toBool_sc, headD_one, nat_int, get_bt, decide_eq_true_eq, decide_eq_false_iff_not, decide_true, decide_false, if_true, if_false, ite_self, Bool.not_true, Bool.not_false, Bool.false_eq_true, Bool.true_eq_false, Bool.true_and, Bool.false_and, Bool.and_true, Bool.and_false, not_true, not_false_iff, Option.bind_some, nn, toList_inj, Bool.not_eq_true', Bool.not_eq_false', Int.le_refl, and_self, true_and, and_true, false_and, and_false, bne_self_eq_false, beq_self_eq_true, Int.reduceEq, Nat.reduceEqDiff, List.length_singleton, List.tail_cons, Int.reduceLE, Int.reduceLT, decide_eq_true_eq]
  refine Ev.bind hwo ?_
  rcases Bool.eq_false_or_eq_true a.front with hf | hf
  · have e1 : fitB a s = begB s a.cond := by simp [fitB, hf]
    have e2 : formB a s = a.add ++ s.extract a.strip.size s.size := by simp [formB, hf]
    rw [e1, e2]
    cases hb : begB s a.cond with
    | false => simp only [hf, hB, hb, strs_len, strs_elem, ints_len, ints_elem, items_list, fld_agg, elem_list, toStr_sc, toInt_sc, toBool_sc, headD_one, nat_int, get_bt, decide_eq_true_eq, decide_eq_false_iff_not, decide_true, decide_false, if_true, if_false, ite_self, Bool.not_true, Bool.not_false, Bool.false_eq_true, Bool.true_eq_false, Bool.true_and, Bool.false_and, Bool.and_true, Bool.and_false, not_true, not_false_iff, Option.bind_some, nn, toList_inj, Bool.not_eq_true', Bool.not_eq_false', Int.le_refl, and_self, true_and, and_true, false_and, and_false, bne_self_eq_false, beq_self_eq_true, Int.reduceEq, Nat.reduceEqDiff, List.length_singleton, List.tail_cons, Int.reduceLE, Int.reduceLT, decide_eq_true_eq]; exact Ev.now _
    | true =>
      have hz : a.cond.size ≤ s.size := by
        simp only [begB, Bool.and_eq_true, decide_eq_true_eq] at hb; exact hb.1
      have c1 : ((a.strip.size : Int) ≤ (s.size : Int)) = True := tru (by omega)
      have c2 : (a.add.size + (s.extract a.strip.size s.size).size ≤ 9223372036854775807) = True := tru (by rw [ByteArray.size_extract]; omega)
      have hw2 := implWord_ev (a.add ++ s.extract a.strip.size s.size) (by rw [ByteArray.size_append, ByteArray.size_extract]; omega)
      simp only [strP] at hw2
      simp only [hf, hB, hb, c1, c2, nn, strs_len, strs_elem, ints_len, ints_elem, items_list, fld_agg, elem_list, toStr_sc, toInt_sc, toBool_sc, headD_one, nat_int, get_bt, decide_eq_true_eq, decide_eq_false_iff_not, decide_true, decide_false, if_true, if_false, ite_self, Bool.not_true, Bool.not_false, Bool.false_eq_true, Bool.true_eq_false, Bool.true_and, Bool.false_and, Bool.and_true, Bool.and_false, not_true, not_false_iff, Option.bind_some, nn, toList_inj, Bool.not_eq_true', Bool.not_eq_false', Int.le_refl, and_self, true_and, and_true, false_and, and_false, bne_self_eq_false, beq_self_eq_true, Int.reduceEq, Nat.reduceEqDiff, List.length_singleton, List.tail_cons, Int.reduceLE, Int.reduceLT, decide_eq_true_eq]
      refine Ev.bind hw2 ?_
      cases hi : isWord (a.add ++ s.extract a.strip.size s.size) with
      | false => simp only [strs_len, strs_elem, ints_len, ints_elem, items_list, fld_agg, elem_list, toStr_sc, toInt_sc, toBool_sc, headD_one, nat_int, get_bt, decide_eq_true_eq, decide_eq_false_iff_not, decide_true, decide_false, if_true, if_false, ite_self, Bool.not_true, Bool.not_false, Bool.false_eq_true, Bool.true_eq_false, Bool.true_and, Bool.false_and, Bool.and_true, Bool.and_false, not_true, not_false_iff, Option.bind_some, nn, toList_inj, Bool.not_eq_true', Bool.not_eq_false', Int.le_refl, and_self, true_and, and_true, false_and, and_false, bne_self_eq_false, beq_self_eq_true, Int.reduceEq, Nat.reduceEqDiff, List.length_singleton, List.tail_cons, Int.reduceLE, Int.reduceLT, decide_eq_true_eq]; exact Ev.now _
      | true => simp only [strs_len, strs_elem, ints_len, ints_elem, items_list, fld_agg, elem_list, toStr_sc, toInt_sc, toBool_sc, headD_one, nat_int, get_bt, decide_eq_true_eq, decide_eq_false_iff_not, decide_true, decide_false, if_true, if_false, ite_self, Bool.not_true, Bool.not_false, Bool.false_eq_true, Bool.true_eq_false, Bool.true_and, Bool.false_and, Bool.and_true, Bool.and_false, not_true, not_false_iff, Option.bind_some, nn, toList_inj, Bool.not_eq_true', Bool.not_eq_false', Int.le_refl, and_self, true_and, and_true, false_and, and_false, bne_self_eq_false, beq_self_eq_true, Int.reduceEq, Nat.reduceEqDiff, List.length_singleton, List.tail_cons, Int.reduceLE, Int.reduceLT, decide_eq_true_eq]; exact Ev.now _
  · have e1 : fitB a s = endB s a.cond := by simp [fitB, hf]
    have e2 : formB a s = s.extract 0 (s.size - a.strip.size) ++ a.add := by simp [formB, hf]
    rw [e1, e2]
    cases hb : endB s a.cond with
    | false => simp only [hf, hE, hb, strs_len, strs_elem, ints_len, ints_elem, items_list, fld_agg, elem_list, toStr_sc, toInt_sc, toBool_sc, headD_one, nat_int, get_bt, decide_eq_true_eq, decide_eq_false_iff_not, decide_true, decide_false, if_true, if_false, ite_self, Bool.not_true, Bool.not_false, Bool.false_eq_true, Bool.true_eq_false, Bool.true_and, Bool.false_and, Bool.and_true, Bool.and_false, not_true, not_false_iff, Option.bind_some, nn, toList_inj, Bool.not_eq_true', Bool.not_eq_false', Int.le_refl, and_self, true_and, and_true, false_and, and_false, bne_self_eq_false, beq_self_eq_true, Int.reduceEq, Nat.reduceEqDiff, List.length_singleton, List.tail_cons, Int.reduceLE, Int.reduceLT, decide_eq_true_eq]; exact Ev.now _
    | true =>
      have hz : a.cond.size ≤ s.size := by
        simp only [endB, Bool.and_eq_true, decide_eq_true_eq] at hb; exact hb.1
      have w1 : IntKind.i64.wrap ((s.size : Int) - (a.strip.size : Int)) = ((s.size - a.strip.size : Nat) : Int) := nat_wrap (by omega) (by omega)
      have c1 : (((s.size - a.strip.size : Nat) : Int) ≤ (s.size : Int)) = True := tru (by omega)
      have c2 : ((s.extract 0 (s.size - a.strip.size)).size + a.add.size ≤ 9223372036854775807) = True := tru (by rw [ByteArray.size_extract]; omega)
      have hw2 := implWord_ev (s.extract 0 (s.size - a.strip.size) ++ a.add) (by rw [ByteArray.size_append, ByteArray.size_extract]; omega)
      simp only [strP] at hw2
      simp only [hf, hE, hb, w1, c1, c2, nn, strs_len, strs_elem, ints_len, ints_elem, items_list, fld_agg, elem_list, toStr_sc, toInt_sc, toBool_sc, headD_one, nat_int, get_bt, decide_eq_true_eq, decide_eq_false_iff_not, decide_true, decide_false, if_true, if_false, ite_self, Bool.not_true, Bool.not_false, Bool.false_eq_true, Bool.true_eq_false, Bool.true_and, Bool.false_and, Bool.and_true, Bool.and_false, not_true, not_false_iff, Option.bind_some, nn, toList_inj, Bool.not_eq_true', Bool.not_eq_false', Int.le_refl, and_self, true_and, and_true, false_and, and_false, bne_self_eq_false, beq_self_eq_true, Int.reduceEq, Nat.reduceEqDiff, List.length_singleton, List.tail_cons, Int.reduceLE, Int.reduceLT, decide_eq_true_eq]
      refine Ev.bind hw2 ?_
      cases hi : isWord (s.extract 0 (s.size - a.strip.size) ++ a.add) with
      | false => simp only [strs_len, strs_elem, ints_len, ints_elem, items_list, fld_agg, elem_list, toStr_sc, toInt_sc, toBool_sc, headD_one, nat_int, get_bt, decide_eq_true_eq, decide_eq_false_iff_not, decide_true, decide_false, if_true, if_false, ite_self, Bool.not_true, Bool.not_false, Bool.false_eq_true, Bool.true_eq_false, Bool.true_and, Bool.false_and, Bool.and_true, Bool.and_false, not_true, not_false_iff, Option.bind_some, nn, toList_inj, Bool.not_eq_true', Bool.not_eq_false', Int.le_refl, and_self, true_and, and_true, false_and, and_false, bne_self_eq_false, beq_self_eq_true, Int.reduceEq, Nat.reduceEqDiff, List.length_singleton, List.tail_cons, Int.reduceLE, Int.reduceLT, decide_eq_true_eq]; exact Ev.now _
      | true => simp only [strs_len, strs_elem, ints_len, ints_elem, items_list, fld_agg, elem_list, toStr_sc, toInt_sc, toBool_sc, headD_one, nat_int, get_bt, decide_eq_true_eq, decide_eq_false_iff_not, decide_true, decide_false, if_true, if_false, ite_self, Bool.not_true, Bool.not_false, Bool.false_eq_true, Bool.true_eq_false, Bool.true_and, Bool.false_and, Bool.and_true, Bool.and_false, not_true, not_false_iff, Option.bind_some, nn, toList_inj, Bool.not_eq_true', Bool.not_eq_false', Int.le_refl, and_self, true_and, and_true, false_and, and_false, bne_self_eq_false, beq_self_eq_true, Int.reduceEq, Nat.reduceEqDiff, List.length_singleton, List.tail_cons, Int.reduceLE, Int.reduceLT, decide_eq_true_eq]; exact Ev.now _
def addO (o : Option ByteArray) (out : List ByteArray) : List ByteArray := match o with
  | some x => out ++ [x]
  | none => out
def goB (flags stem : ByteArray) (front : Bool) (w : ByteArray) (a : Aff) : Bool := decide (a.front = front) && (hasB flags a.flag && (front || decide (w = stem)))
def addL (flags stem : ByteArray) (front : Bool) (w : ByteArray) : List Aff → List ByteArray → List ByteArray
  | [], out => out
  | a :: r, out => addL flags stem front w r (if goB flags stem front w a = true then addO (doB a w) out else out)
def addW (af : List Aff) (flags stem : ByteArray) (front : Bool) : List ByteArray → List ByteArray → List ByteArray
  | [], out => out
  | w :: r, out => addW af flags stem front r (addL flags stem front w af out)
theorem addO_len (o : Option ByteArray) (out : List ByteArray) : (addO o out).length ≤ out.length + 1 := by cases o <;> simp [addO]
theorem addL_len (flags stem : ByteArray) (front : Bool) (w : ByteArray) : ∀ (af : List Aff) (out : List ByteArray), (addL flags stem front w af out).length ≤ out.length + af.length
  | [], out => by simp [addL]
  | a :: r, out => by
    rw [addL, List.length_cons]
    split
    · have h1 := addL_len flags stem front w r (addO (doB a w) out); have h2 := addO_len (doB a w) out; omega
    · have h1 := addL_len flags stem front w r out; omega
theorem addW_len (af : List Aff) (flags stem : ByteArray) (front : Bool) : ∀ (ws out : List ByteArray), (addW af flags stem front ws out).length ≤ out.length + ws.length * af.length
  | [], out => by simp [addW]
  | w :: r, out => by
    have h1 := addW_len af flags stem front r (addL flags stem front w af out)
    have h2 := addL_len flags stem front w af out
    rw [addW, List.length_cons, Nat.add_mul, Nat.one_mul]; omega
theorem addL_mem (flags stem : ByteArray) (front : Bool) (w : ByteArray) : ∀ (af : List Aff) (out : List ByteArray) (x : ByteArray), x ∈ addL flags stem front w af out ↔ x ∈ out ∨ ∃ a ∈ af, goB flags stem front w a = true ∧ doB a w = some x
  | [], out, x => by simp [addL]
  | a :: r, out, x => by
    have ho : x ∈ addO (doB a w) out ↔ x ∈ out ∨ doB a w = some x := by
      cases hd : doB a w with
      | none => simp [addO]
      | some y => simp [addO, eq_comm]
    rw [addL, addL_mem flags stem front w r]
    split
    · rename_i hc
      rw [ho]
      constructor
      · rintro ((h | h) | ⟨b, hb, h⟩)
        · exact .inl h
        · exact .inr ⟨a, by simp, hc, h⟩
        · exact .inr ⟨b, by simp [hb], h⟩
      · rintro (h | ⟨b, hb, h1, h2⟩)
        · exact .inl (.inl h)
        · rcases List.mem_cons.1 hb with rfl | hb
          · exact .inl (.inr h2)
          · exact .inr ⟨b, hb, h1, h2⟩
    · rename_i hc
      constructor
      · rintro (h | ⟨b, hb, h⟩)
        · exact .inl h
        · exact .inr ⟨b, by simp [hb], h⟩
      · rintro (h | ⟨b, hb, h1, h2⟩)
        · exact .inl h
        · rcases List.mem_cons.1 hb with rfl | hb
          · exact absurd h1 hc
          · exact .inr ⟨b, hb, h1, h2⟩
theorem addW_mem (af : List Aff) (flags stem : ByteArray) (front : Bool) : ∀ (ws out : List ByteArray) (x : ByteArray), x ∈ addW af flags stem front ws out ↔ x ∈ out ∨ ∃ w ∈ ws, ∃ a ∈ af, goB flags stem front w a = true ∧ doB a w = some x
  | [], out, x => by simp [addW]
  | w :: r, out, x => by
    rw [addW, addW_mem af flags stem front r, addL_mem]
    constructor
    · rintro ((h | h) | ⟨v, hv, h⟩)
      · exact .inl h
      · exact .inr ⟨w, by simp, h⟩
      · exact .inr ⟨v, by simp [hv], h⟩
    · rintro (h | ⟨v, hv, h⟩)
      · exact .inl (.inl h)
      · rcases List.mem_cons.1 hv with rfl | hv
        · exact .inl (.inr h)
        · exact .inr ⟨v, hv, h⟩
theorem map_add (out : List ByteArray) (x : ByteArray) : out.map strP ++ [PV.sc (.string x)] = (out ++ [x]).map strP := by simp [strP]
def frontsL : List PV := [PV.sc (.bool false), PV.sc (.bool true)]
theorem forms_l2 {af : List Aff} (hg : ∀ a ∈ af, affB a = true) (hal : af.length ≤ 1000) {stem flags w : ByteArray} {front : Bool} (hw : isWord w = true) {k j l : Int} {y3 : List PV} {r : List PV} :
    ∀ (rest pre : List Aff) (out : List ByteArray), af = pre ++ rest → out.length + rest.length ≤ 100000000 →
    Ev3 (fun N m n => impl_Forms.l1 N m n (affsP af) front 2 k l (IntKind.i64.wrap (j + 1)) stem flags ((addL flags stem front w rest out).map strP) frontsL y3) r →
    Ev4 (fun N m0 m1 n => impl_Forms.l2 N m0 m1 n (affsP af) front w 2 k l j (affsP af) (af.length : Int) (pre.length : Int) stem flags (out.map strP) frontsL y3) r := by
  intro rest
  induction rest with
  | nil =>
    intro pre out hp hl hc
    refine Ev4.succ ?_
    simp only [impl_Forms.l2_eq, at_end hp, strs_len, strs_elem, ints_len, ints_elem, items_list, fld_agg, elem_list, toStr_sc, toInt_sc, toBool_sc, headD_one, nat_int, get_bt, decide_eq_true_eq, decide_eq_false_iff_not, decide_true, decide_false, if_true, if_false, ite_self, Bool.not_true, Bool.not_false, Bool.false_eq_true, Bool.true_eq_false, Bool.true_and, Bool.false_and, Bool.and_true, Bool.and_false, not_true, not_false_iff, Option.bind_some, nn, toList_inj, Bool.not_eq_true', Bool.not_eq_false', Int.le_refl, and_self, true_and, and_true, false_and, and_false, bne_self_eq_false, beq_self_eq_true, Int.reduceEq, Nat.reduceEqDiff, List.length_singleton, List.tail_cons, Int.reduceLE, Int.reduceLT, decide_eq_true_eq]
    exact hc.outer
  | cons a rest ih =>
    intro pre out hp hl hc
    have ha := hg a (by rw [hp]; simp)
    obtain ⟨_, hfs, _⟩ := affB_facts ha
    have hd := implDo_ev ha hw
    simp only [strP] at hd
    rw [List.length_cons] at hl
    have c1 : (out.length + 1 ≤ 8796093022208) = True := tru (by omega)
    rw [addL] at hc
    refine Ev4.succ ?_
    by_cases hf : a.front = front
    · cases hh : hasB flags a.flag with
      | false =>
        have hgo : goB flags stem front w a = false := by unfold goB; rw [hh]; simp
        rw [hgo] at hc
        simp only [impl_Forms.l2_eq, affs_len, affs_elem hp, at_lt hp, aff_f0, aff_f1, hf, contains_flag flags a.flag hfs, hh, at_next hp (by omega), strs_len, strs_elem, ints_len, ints_elem, items_list, fld_agg, elem_list, toStr_sc, toInt_sc, toBool_sc, headD_one, nat_int, get_bt, decide_eq_true_eq, decide_eq_false_iff_not, decide_true, decide_false, if_true, if_false, ite_self, Bool.not_true, Bool.not_false, Bool.false_eq_true, Bool.true_eq_false, Bool.true_and, Bool.false_and, Bool.and_true, Bool.and_false, not_true, not_false_iff, Option.bind_some, nn, toList_inj, Bool.not_eq_true', Bool.not_eq_false', Int.le_refl, and_self, true_and, and_true, false_and, and_false, bne_self_eq_false, beq_self_eq_true, Int.reduceEq, Nat.reduceEqDiff, List.length_singleton, List.tail_cons, Int.reduceLE, Int.reduceLT, decide_eq_true_eq]
        exact ih _ out (at_step hp) (by omega) hc
      | true =>
        cases hfr : front with
        | true =>
          subst hfr
          have hgo : goB flags stem true w a = true := by unfold goB; rw [hh, hf]; simp
          rw [hgo, if_pos rfl] at hc
          simp only [impl_Forms.l2_eq, affs_len, affs_elem hp, at_lt hp, aff_f0, aff_f1, aff_f2, aff_f3, aff_f4, hf, contains_flag flags a.flag hfs, hh, strs_len, strs_elem, ints_len, ints_elem, items_list, fld_agg, elem_list, toStr_sc, toInt_sc, toBool_sc, headD_one, nat_int, get_bt, decide_eq_true_eq, decide_eq_false_iff_not, decide_true, decide_false, if_true, if_false, ite_self, Bool.not_true, Bool.not_false, Bool.false_eq_true, Bool.true_eq_false, Bool.true_and, Bool.false_and, Bool.and_true, Bool.and_false, not_true, not_false_iff, Option.bind_some, nn, toList_inj, Bool.not_eq_true', Bool.not_eq_false', Int.le_refl, and_self, true_and, and_true, false_and, and_false, bne_self_eq_false, beq_self_eq_true, Int.reduceEq, Nat.reduceEqDiff, List.length_singleton, List.tail_cons, Int.reduceLE, Int.reduceLT, decide_eq_true_eq]
          have e : PV.agg [PV.sc (.string a.flag), PV.sc (.bool true), PV.sc (.string a.strip), PV.sc (.string a.add), PV.sc (.string a.cond)] = affP a := by rw [← aff_agg, hf]
          rw [e]
          refine Ev4.bind hd ?_
          unfold doI
          cases hdo : doB a w with
          | none =>
            rw [hdo] at hc
            simp only [at_next hp (by omega), strs_len, strs_elem, ints_len, ints_elem, items_list, fld_agg, elem_list, toStr_sc, toInt_sc, toBool_sc, headD_one, nat_int, get_bt, decide_eq_true_eq, decide_eq_false_iff_not, decide_true, decide_false, if_true, if_false, ite_self, Bool.not_true, Bool.not_false, Bool.false_eq_true, Bool.true_eq_false, Bool.true_and, Bool.false_and, Bool.and_true, Bool.and_false, not_true, not_false_iff, Option.bind_some, nn, toList_inj, Bool.not_eq_true', Bool.not_eq_false', Int.le_refl, and_self, true_and, and_true, false_and, and_false, bne_self_eq_false, beq_self_eq_true, Int.reduceEq, Nat.reduceEqDiff, List.length_singleton, List.tail_cons, Int.reduceLE, Int.reduceLT, decide_eq_true_eq]
            exact ih _ out (at_step hp) (by omega) hc
          | some x =>
            rw [hdo] at hc
            simp only [at_next hp (by omega), List.length_map, c1, map_add, strs_len, strs_elem, ints_len, ints_elem, items_list, fld_agg, elem_list, toStr_sc, toInt_sc, toBool_sc, headD_one, nat_int, get_bt, decide_eq_true_eq, decide_eq_false_iff_not, decide_true, decide_false, if_true, if_false, ite_self, Bool.not_true, Bool.not_false, Bool.false_eq_true, Bool.true_eq_false, Bool.true_and, Bool.false_and, Bool.and_true, Bool.and_false, not_true, not_false_iff, Option.bind_some, nn, toList_inj, Bool.not_eq_true', Bool.not_eq_false', Int.le_refl, and_self, true_and, and_true, false_and, and_false, bne_self_eq_false, beq_self_eq_true, Int.reduceEq, Nat.reduceEqDiff, List.length_singleton, List.tail_cons, Int.reduceLE, Int.reduceLT, decide_eq_true_eq]
            exact ih _ (out ++ [x]) (at_step hp) (by simp; omega) hc
        | false =>
          subst hfr
          by_cases hws : w = stem
          · have hgo : goB flags stem false w a = true := by unfold goB; rw [hh, hf, hws]; simp
            rw [hgo, if_pos rfl] at hc
            simp only [impl_Forms.l2_eq, affs_len, affs_elem hp, at_lt hp, aff_f0, aff_f1, aff_f2, aff_f3, aff_f4, hf, contains_flag flags a.flag hfs, hh, hws, strs_len, strs_elem, ints_len, ints_elem, items_list, fld_agg, elem_list, toStr_sc, toInt_sc, toBool_sc, headD_one, nat_int, get_bt, decide_eq_true_eq, decide_eq_false_iff_not, decide_true, decide_false, if_true, if_false, ite_self, Bool.not_true, Bool.not_false, Bool.false_eq_true, Bool.true_eq_false, Bool.true_and, Bool.false_and, Bool.and_true, Bool.and_false, not_true, not_false_iff, Option.bind_some, nn, toList_inj, Bool.not_eq_true', Bool.not_eq_false', Int.le_refl, and_self, true_and, and_true, false_and, and_false, bne_self_eq_false, beq_self_eq_true, Int.reduceEq, Nat.reduceEqDiff, List.length_singleton, List.tail_cons, Int.reduceLE, Int.reduceLT, decide_eq_true_eq]
            have e : PV.agg [PV.sc (.string a.flag), PV.sc (.bool false), PV.sc (.string a.strip), PV.sc (.string a.add), PV.sc (.string a.cond)] = affP a := by rw [← aff_agg, hf]
            rw [e]
            rw [hws] at hd hc ih
            refine Ev4.bind hd ?_
            unfold doI
            cases hdo : doB a stem with
            | none =>
              rw [hdo] at hc
              simp only [at_next hp (by omega), strs_len, strs_elem, ints_len, ints_elem, items_list, fld_agg, elem_list, toStr_sc, toInt_sc, toBool_sc, headD_one, nat_int, get_bt, decide_eq_true_eq, decide_eq_false_iff_not, decide_true, decide_false, if_true, if_false, ite_self, Bool.not_true, Bool.not_false, Bool.false_eq_true, Bool.true_eq_false, Bool.true_and, Bool.false_and, Bool.and_true, Bool.and_false, not_true, not_false_iff, Option.bind_some, nn, toList_inj, Bool.not_eq_true', Bool.not_eq_false', Int.le_refl, and_self, true_and, and_true, false_and, and_false, bne_self_eq_false, beq_self_eq_true, Int.reduceEq, Nat.reduceEqDiff, List.length_singleton, List.tail_cons, Int.reduceLE, Int.reduceLT, decide_eq_true_eq]
              exact ih _ out (at_step hp) (by omega) hc
            | some x =>
              rw [hdo] at hc
              simp only [at_next hp (by omega), List.length_map, c1, map_add, strs_len, strs_elem, ints_len, ints_elem, items_list, fld_agg, elem_list, toStr_sc, toInt_sc, toBool_sc, headD_one, nat_int, get_bt, decide_eq_true_eq, decide_eq_false_iff_not, decide_true, decide_false, if_true, if_false, ite_self, Bool.not_true, Bool.not_false, Bool.false_eq_true, Bool.true_eq_false, Bool.true_and, Bool.false_and, Bool.and_true, Bool.and_false, not_true, not_false_iff, Option.bind_some, nn, toList_inj, Bool.not_eq_true', Bool.not_eq_false', Int.le_refl, and_self, true_and, and_true, false_and, and_false, bne_self_eq_false, beq_self_eq_true, Int.reduceEq, Nat.reduceEqDiff, List.length_singleton, List.tail_cons, Int.reduceLE, Int.reduceLT, decide_eq_true_eq]
              exact ih _ (out ++ [x]) (at_step hp) (by simp; omega) hc
          · have hgo : goB flags stem false w a = false := by unfold goB; simp [hws]
            rw [hgo] at hc
            simp only [impl_Forms.l2_eq, affs_len, affs_elem hp, at_lt hp, aff_f0, aff_f1, hf, contains_flag flags a.flag hfs, hh, hws, at_next hp (by omega), strs_len, strs_elem, ints_len, ints_elem, items_list, fld_agg, elem_list, toStr_sc, toInt_sc, toBool_sc, headD_one, nat_int, get_bt, decide_eq_true_eq, decide_eq_false_iff_not, decide_true, decide_false, if_true, if_false, ite_self, Bool.not_true, Bool.not_false, Bool.false_eq_true, Bool.true_eq_false, Bool.true_and, Bool.false_and, Bool.and_true, Bool.and_false, not_true, not_false_iff, Option.bind_some, nn, toList_inj, Bool.not_eq_true', Bool.not_eq_false', Int.le_refl, and_self, true_and, and_true, false_and, and_false, bne_self_eq_false, beq_self_eq_true, Int.reduceEq, Nat.reduceEqDiff, List.length_singleton, List.tail_cons, Int.reduceLE, Int.reduceLT, decide_eq_true_eq]
            exact ih _ out (at_step hp) (by omega) hc
    · have hne : (a.front != front) = true := by simp [hf]
      have hgo : goB flags stem front w a = false := by unfold goB; simp [hf]
      rw [hgo] at hc
      simp only [impl_Forms.l2_eq, affs_len, affs_elem hp, at_lt hp, aff_f0, aff_f1, hne, at_next hp (by omega), strs_len, strs_elem, ints_len, ints_elem, items_list, fld_agg, elem_list, toStr_sc, toInt_sc, toBool_sc, headD_one, nat_int, get_bt, decide_eq_true_eq, decide_eq_false_iff_not, decide_true, decide_false, if_true, if_false, ite_self, Bool.not_true, Bool.not_false, Bool.false_eq_true, Bool.true_eq_false, Bool.true_and, Bool.false_and, Bool.and_true, Bool.and_false, not_true, not_false_iff, Option.bind_some, nn, toList_inj, Bool.not_eq_true', Bool.not_eq_false', Int.le_refl, and_self, true_and, and_true, false_and, and_false, bne_self_eq_false, beq_self_eq_true, Int.reduceEq, Nat.reduceEqDiff, List.length_singleton, List.tail_cons, Int.reduceLE, Int.reduceLT, decide_eq_true_eq]
      exact ih _ out (at_step hp) (by omega) hc
theorem forms_l1 {af : List Aff} (hg : ∀ a ∈ af, affB a = true) (hal : af.length ≤ 1000) {stem flags : ByteArray} {front : Bool} {ws : List ByteArray} (hws : ∀ x ∈ ws, isWord x = true) (hwl : ws.length ≤ 10000) {k : Int} {r : List PV} :
    ∀ (rest pre : List ByteArray) (out : List ByteArray), ws = pre ++ rest → out.length + rest.length * af.length ≤ 50000000 →
    Ev2 (fun N m => impl_Forms.l0 N m (affsP af) 2 (IntKind.i64.wrap (k + 1)) stem flags ((addW af flags stem front rest out).map strP) frontsL) r →
    Ev3 (fun N m n => impl_Forms.l1 N m n (affsP af) front 2 k (ws.length : Int) (pre.length : Int) stem flags (out.map strP) frontsL (ws.map strP)) r := by
  intro rest
  induction rest with
  | nil =>
    intro pre out hp hl hc
    refine Ev3.succ ?_
    simp only [impl_Forms.l1_eq, at_end hp, strs_len, strs_elem, ints_len, ints_elem, items_list, fld_agg, elem_list, toStr_sc, toInt_sc, toBool_sc, headD_one, nat_int, get_bt, decide_eq_true_eq, decide_eq_false_iff_not, decide_true, decide_false, if_true, if_false, ite_self, Bool.not_true, Bool.not_false, Bool.false_eq_true, Bool.true_eq_false, Bool.true_and, Bool.false_and, Bool.and_true, Bool.and_false, not_true, not_false_iff, Option.bind_some, nn, toList_inj, Bool.not_eq_true', Bool.not_eq_false', Int.le_refl, and_self, true_and, and_true, false_and, and_false, bne_self_eq_false, beq_self_eq_true, Int.reduceEq, Nat.reduceEqDiff, List.length_singleton, List.tail_cons, Int.reduceLE, Int.reduceLT, decide_eq_true_eq]
    exact hc.outer
  | cons w rest ih =>
    intro pre out hp hl hc
    have hw := hws w (by rw [hp]; simp)
    have h2 := addL_len flags stem front w af out
    rw [List.length_cons, Nat.add_mul, Nat.one_mul] at hl
    have hnext := ih (pre ++ [w]) (addL flags stem front w af out) (at_step hp) (by omega) hc
    rw [← at_next hp (by omega)] at hnext
    have eA : ([] : List PV) ++ ws.map strP = ws.map strP := rfl
    refine Ev3.succ ?_
    simp only [impl_Forms.l1_eq, at_lt hp, List.length_map, strs_mapL, strs_elem, at_getD hp, affs_len, strs_len, strs_elem, ints_len, ints_elem, items_list, fld_agg, elem_list, toStr_sc, toInt_sc, toBool_sc, headD_one, nat_int, get_bt, decide_eq_true_eq, decide_eq_false_iff_not, decide_true, decide_false, if_true, if_false, ite_self, Bool.not_true, Bool.not_false, Bool.false_eq_true, Bool.true_eq_false, Bool.true_and, Bool.false_and, Bool.and_true, Bool.and_false, not_true, not_false_iff, Option.bind_some, nn, toList_inj, Bool.not_eq_true', Bool.not_eq_false', Int.le_refl, and_self, true_and, and_true, false_and, and_false, bne_self_eq_false, beq_self_eq_true, Int.reduceEq, Nat.reduceEqDiff, List.length_singleton, List.tail_cons, Int.reduceLE, Int.reduceLT, decide_eq_true_eq]
    exact (forms_l2 hg hal hw af [] out rfl (by omega) hnext).start
theorem goB_front (flags stem w : ByteArray) (a : Aff) : goB flags stem true w a = true ↔ a.front = true ∧ hasB flags a.flag = true := by
  unfold goB; simp
theorem goB_back (flags stem w : ByteArray) (a : Aff) : goB flags stem false w a = true ↔ (a.front = false ∧ hasB flags a.flag = true) ∧ w = stem := by
  unfold goB; simp [and_assoc]
def out1 (af : List Aff) (e : Ent) : List ByteArray := addW af e.flags e.stem false [e.stem] [e.stem]
def out2 (af : List Aff) (e : Ent) : List ByteArray := addW af e.flags e.stem true (out1 af e) (out1 af e)
theorem out1_mem (af : List Aff) (e : Ent) (x : ByteArray) : x ∈ out1 af e ↔ x ∈ oneA e.flags false [e.stem] af [e.stem] := by
  unfold out1
  rw [addW_mem, oneA_mem]
  constructor
  · rintro (h | ⟨w, hw, a, ha, hg, hd⟩)
    · exact .inl h
    · rw [goB_back] at hg
      exact .inr ⟨a, ha, hg.1, w, hw, hd⟩
  · rintro (h | ⟨a, ha, hg, w, hw, hd⟩)
    · exact .inl h
    · exact .inr ⟨w, hw, a, ha, (goB_back _ _ _ _).2 ⟨hg, List.mem_singleton.1 hw⟩, hd⟩
theorem out2_mem (af : List Aff) (e : Ent) (x : ByteArray) : x ∈ out2 af e ↔ x ∈ formsB af e := by
  unfold out2 formsB
  rw [addW_mem, oneA_mem, out1_mem]
  constructor
  · rintro (h | ⟨w, hw, a, ha, hg, hd⟩)
    · exact .inl h
    · rw [goB_front] at hg
      exact .inr ⟨a, ha, hg, w, (out1_mem af e w).1 hw, hd⟩
  · rintro (h | ⟨a, ha, hg, w, hw, hd⟩)
    · exact .inl h
    · exact .inr ⟨w, (out1_mem af e w).2 hw, a, ha, (goB_front _ _ _ _).2 hg, hd⟩
theorem out1_facts {af : List Aff} {e : Ent} (he : entB e = true) (hal : af.length ≤ 8) : (out1 af e).length ≤ 9 ∧ ∀ x ∈ out1 af e, isWord x = true := by
  have h1 := addW_len af e.flags e.stem false [e.stem] [e.stem]
  simp only [List.length_singleton, Nat.one_mul] at h1
  refine ⟨by unfold out1; omega, fun x hx => ?_⟩
  unfold out1 at hx
  rw [addW_mem] at hx
  rcases hx with hx | ⟨w, _, a, _, _, hd⟩
  · rw [List.mem_singleton.1 hx]; exact (entB_facts he).1
  · exact doB_word hd
theorem out2_len {af : List Aff} {e : Ent} (he : entB e = true) (hal : af.length ≤ 8) : (out2 af e).length ≤ 100 := by
  have h0 := (out1_facts he hal).1
  have h1 := addW_len af e.flags e.stem true (out1 af e) (out1 af e)
  have h2 : (out1 af e).length * af.length ≤ 9 * 8 := Nat.mul_le_mul h0 hal
  unfold out2; omega
theorem implForms_ev {af : List Aff} (hB : affsB af = true) (hg : ∀ a ∈ af, affB a = true) (hal : af.length ≤ 8) {e : Ent} (he : entB e = true) :
    Ev (fun N => impl_Forms.f N [affsP af, entP e]) [strsP (formsB af e)] := by
  obtain ⟨f1, f2⟩ := out1_facts (af := af) he hal
  obtain ⟨s1, s2, s3⟩ := entB_facts he
  have hok := implAffs_ev af (by omega) (fun a ha => by obtain ⟨_, _, _, _, _⟩ := affB_facts (hg a ha); exact ⟨by omega, by omega, by omega, by omega⟩)
  have hen := implEntry_ev e ⟨by omega, by omega⟩
  have hsv := sorted_val (out2 af e) (by have := out2_len (af := af) he hal; omega)
  rw [sorted_eq (formsB_asc af e) (out2_mem af e)] at hsv
  rw [hB] at hok
  rw [he] at hen
  have e2 : ((frontsL.length : Nat) : Int) = 2 := rfl
  have efr : [PV.sc (.bool false), PV.sc (.bool true)] = frontsL := rfl
  have w1 : IntKind.i64.wrap ((0 : Int) + 1) = 1 := rfl
  have w2 : IntKind.i64.wrap ((1 : Int) + 1) = 2 := rfl
  have eapp : ∀ l : List ByteArray, ([] : List PV) ++ l.map strP = l.map strP := fun _ => rfl
  have l2 : Ev2 (fun N m => impl_Forms.l0 N m (affsP af) 2 2 e.stem e.flags ((out2 af e).map strP) frontsL) [strsP (formsB af e)] := by
    refine Ev2.succ ?_
    simp only [impl_Forms.l0_eq, strs_mapL, hsv, Int.lt_irrefl, strs_len, strs_elem, ints_len, ints_elem, items_list, fld_agg, elem_list, toStr_sc, toInt_sc, toBool_sc, headD_one, nat_int, get_bt, decide_eq_true_eq, decide_eq_false_iff_not, decide_true, decide_false, if_true, if_false, ite_self, Bool.not_true, Bool.not_false, Bool.false_eq_true, Bool.true_eq_false, Bool.true_and, Bool.false_and, Bool.and_true, Bool.and_false, not_true, not_false_iff, Option.bind_some, nn, toList_inj, Bool.not_eq_true', Bool.not_eq_false', Int.le_refl, and_self, true_and, and_true, false_and, and_false, bne_self_eq_false, beq_self_eq_true, Int.reduceEq, Nat.reduceEqDiff, List.length_singleton, List.tail_cons, Int.reduceLE, Int.reduceLT, decide_eq_true_eq]
    exact Ev2.now _
  have el1 : ((PV.list frontsL).elem (1 : Int).toNat).toBool = true := rfl
  have el0 : ((PV.list frontsL).elem (0 : Int).toNat).toBool = false := rfl
  have c1 : (([] : List PV).length + (out1 af e).length ≤ 8796093022208) = True := tru (by simp; omega)
  have hm := Nat.mul_le_mul f1 hal
  have l1 : Ev2 (fun N m => impl_Forms.l0 N m (affsP af) 2 1 e.stem e.flags ((out1 af e).map strP) frontsL) [strsP (formsB af e)] := by
    have h := (forms_l1 hg (by omega) (stem := e.stem) (flags := e.flags) (front := true) (k := 1) f2 (by omega) (out1 af e) [] (out1 af e) rfl (by omega) l2).start
    refine Ev2.succ ?_
    simp only [impl_Forms.l0_eq, el1, e2, List.length_map, c1, eapp, Int.reduceLT, Int.reduceLE, if_true, decide_true]
    exact h
  have l0 : Ev2 (fun N m => impl_Forms.l0 N m (affsP af) 2 0 e.stem e.flags ([e.stem].map strP) frontsL) [strsP (formsB af e)] := by
    have h := (forms_l1 hg (by omega) (stem := e.stem) (flags := e.flags) (front := false) (k := 0) (ws := [e.stem]) (by simpa using s1) (by simp) [e.stem] [] [e.stem] rfl (by simp; omega) l1).start
    have c2 : (([] : List PV).length + ([e.stem] : List ByteArray).length ≤ 8796093022208) = True := tru (by simp)
    refine Ev2.succ ?_
    simp only [impl_Forms.l0_eq, el0, e2, List.length_map, c2, eapp, Int.reduceLT, Int.reduceLE, Int.le_refl, if_true, decide_true]
    exact h
  have es : [PV.sc (.string e.stem)] = [e.stem].map strP := rfl
  simp only [impl_Forms.f_eq, ent_f0, ent_f1, ent_agg, es, efr, e2]
  refine Ev.bind hok ?_
  simp only [strs_len, strs_elem, ints_len, ints_elem, items_list, fld_agg, elem_list, toStr_sc, toInt_sc, toBool_sc, headD_one, nat_int, get_bt, decide_eq_true_eq, decide_eq_false_iff_not, decide_true, decide_false, if_true, if_false, ite_self, Bool.not_true, Bool.not_false, Bool.false_eq_true, Bool.true_eq_false, Bool.true_and, Bool.false_and, Bool.and_true, Bool.and_false, not_true, not_false_iff, Option.bind_some, nn, toList_inj, Bool.not_eq_true', Bool.not_eq_false', Int.le_refl, and_self, true_and, and_true, false_and, and_false, bne_self_eq_false, beq_self_eq_true, Int.reduceEq, Nat.reduceEqDiff, List.length_singleton, List.tail_cons, Int.reduceLE, Int.reduceLT, decide_eq_true_eq, ent_agg]
  refine Ev.bind hen ?_
  simp only [strs_len, strs_elem, ints_len, ints_elem, items_list, fld_agg, elem_list, toStr_sc, toInt_sc, toBool_sc, headD_one, nat_int, get_bt, decide_eq_true_eq, decide_eq_false_iff_not, decide_true, decide_false, if_true, if_false, ite_self, Bool.not_true, Bool.not_false, Bool.false_eq_true, Bool.true_eq_false, Bool.true_and, Bool.false_and, Bool.and_true, Bool.and_false, not_true, not_false_iff, Option.bind_some, nn, toList_inj, Bool.not_eq_true', Bool.not_eq_false', Int.le_refl, and_self, true_and, and_true, false_and, and_false, bne_self_eq_false, beq_self_eq_true, Int.reduceEq, Nat.reduceEqDiff, List.length_singleton, List.tail_cons, Int.reduceLE, Int.reduceLT, decide_eq_true_eq]
  exact l0.diag
def catW (af : List Aff) : List Ent → List ByteArray
  | [] => []
  | e :: r => formsB af e ++ catW af r
theorem catW_mem (af : List Aff) : ∀ (es : List Ent) (x : ByteArray), x ∈ catW af es ↔ ∃ e ∈ es, x ∈ formsB af e
  | [], x => by simp [catW]
  | e :: r, x => by rw [catW, List.mem_append, catW_mem af r]; simp
theorem implBookW_loop {af : List Aff} {es : List Ent} (h : BookOkF af es) : ∀ (rest pre : List Ent) (out : List ByteArray), es = pre ++ rest → (∀ x, x ∈ out ++ catW af rest ↔ ∃ e ∈ es, x ∈ formsB af e) → out.length ≤ 100 * pre.length →
    Ev2 (fun N n => impl_Book_words.l0 N n (entsP es) (es.length : Int) (pre.length : Int) (affsP af) (entsP es) (out.map strP)) [strsP (bookW af es)] := by
  have hel := h.el; have hal := h.al
  intro rest
  induction rest with
  | nil =>
    intro pre out hp hm hl
    have hpl : pre.length = es.length := by rw [hp]; simp
    have hsv := sorted_val out (by omega)
    rw [sorted_eq (bookW_asc af es) (fun x => by rw [bookW_mem, ← hm x]; simp [catW])] at hsv
    refine Ev2.succ ?_
    simp only [impl_Book_words.l0_eq, at_end hp, strs_mapL, hsv, strs_len, strs_elem, ints_len, ints_elem, items_list, fld_agg, elem_list, toStr_sc, toInt_sc, toBool_sc, headD_one, nat_int, get_bt, decide_eq_true_eq, decide_eq_false_iff_not, decide_true, decide_false, if_true, if_false, ite_self, Bool.not_true, Bool.not_false, Bool.false_eq_true, Bool.true_eq_false, Bool.true_and, Bool.false_and, Bool.and_true, Bool.and_false, not_true, not_false_iff, Option.bind_some, nn, toList_inj, Bool.not_eq_true', Bool.not_eq_false', Int.le_refl, and_self, true_and, and_true, false_and, and_false, bne_self_eq_false, beq_self_eq_true, Int.reduceEq, Nat.reduceEqDiff, List.length_singleton, List.tail_cons, Int.reduceLE, Int.reduceLT, decide_eq_true_eq]
    exact Ev2.now _
  | cons e rest ih =>
    intro pre out hp hm hl
    have hpl := at_ltN hp
    have he := h.ent e (by rw [hp]; simp)
    have hf := implForms_ev h.affs h.good hal he
    have hfl := formsB_len af e
    have hfl2 : (1 + af.length) * (1 + af.length) ≤ 9 * 9 := Nat.mul_le_mul (by omega) (by omega)
    have c1 : (out.length + (formsB af e).length ≤ 8796093022208) = True := tru (by omega)
    have ea : out.map strP ++ (strsP (formsB af e)).items = (out ++ formsB af e).map strP := by simp [strsP, PV.items]
    refine Ev2.succ ?_
    simp only [impl_Book_words.l0_eq, ents_len, ents_elem hp, at_lt hp, ent_f0, ent_f1, ent_agg, strs_len, strs_elem, ints_len, ints_elem, items_list, fld_agg, elem_list, toStr_sc, toInt_sc, toBool_sc, headD_one, nat_int, get_bt, decide_eq_true_eq, decide_eq_false_iff_not, decide_true, decide_false, if_true, if_false, ite_self, Bool.not_true, Bool.not_false, Bool.false_eq_true, Bool.true_eq_false, Bool.true_and, Bool.false_and, Bool.and_true, Bool.and_false, not_true, not_false_iff, Option.bind_some, nn, toList_inj, Bool.not_eq_true', Bool.not_eq_false', Int.le_refl, and_self, true_and, and_true, false_and, and_false, bne_self_eq_false, beq_self_eq_true, Int.reduceEq, Nat.reduceEqDiff, List.length_singleton, List.tail_cons, Int.reduceLE, Int.reduceLT, decide_eq_true_eq]
    refine Ev2.bind hf ?_
    simp only [List.length_map, c1, ea, at_next hp (by omega), strs_len, strs_elem, ints_len, ints_elem, items_list, fld_agg, elem_list, toStr_sc, toInt_sc, toBool_sc, headD_one, nat_int, get_bt, decide_eq_true_eq, decide_eq_false_iff_not, decide_true, decide_false, if_true, if_false, ite_self, Bool.not_true, Bool.not_false, Bool.false_eq_true, Bool.true_eq_false, Bool.true_and, Bool.false_and, Bool.and_true, Bool.and_false, not_true, not_false_iff, Option.bind_some, nn, toList_inj, Bool.not_eq_true', Bool.not_eq_false', Int.le_refl, and_self, true_and, and_true, false_and, and_false, bne_self_eq_false, beq_self_eq_true, Int.reduceEq, Nat.reduceEqDiff, List.length_singleton, List.tail_cons, Int.reduceLE, Int.reduceLT, decide_eq_true_eq]
    exact ih _ (out ++ formsB af e) (at_step hp) (fun x => by rw [← hm x, catW, List.append_assoc]) (by simp; omega)
theorem implBookW_ev {af : List Aff} {es : List Ent} (h : BookOkF af es) : Ev (fun N => impl_Book_words.f N [bookP af es]) [strsP (bookW af es)] := by
  simp only [impl_Book_words.f_eq, book_f0, book_f1, ents_len]
  exact (implBookW_loop h es [] [] rfl (fun x => by simp [catW_mem]) (by simp)).diag
theorem index_loop (a : List ByteArray) (c : ByteArray) (ha : a.length ≤ 9223372036854775807) : ∀ (rest pre : List ByteArray), a = pre ++ rest →
    ∃ r : Int, Ev2 (fun N n => slices_Index_string_string.l0 N n (strsP a) c (a.length : Int) (pre.length : Int)) [intP r] ∧ (0 ≤ r ↔ c ∈ rest) := by
  intro rest
  induction rest with
  | nil =>
    intro pre hp
    refine ⟨-1, Ev2.succ ?_, by simp⟩
    simp only [slices_Index_string_string.l0_eq, at_end hp, strs_len, strs_elem, ints_len, ints_elem, items_list, fld_agg, elem_list, toStr_sc, toInt_sc, toBool_sc, headD_one, nat_int, get_bt, decide_eq_true_eq, decide_eq_false_iff_not, decide_true, decide_false, if_true, if_false, ite_self, Bool.not_true, Bool.not_false, Bool.false_eq_true, Bool.true_eq_false, Bool.true_and, Bool.false_and, Bool.and_true, Bool.and_false, not_true, not_false_iff, Option.bind_some, nn, toList_inj, Bool.not_eq_true', Bool.not_eq_false', Int.le_refl, and_self, true_and, and_true, false_and, and_false, bne_self_eq_false, beq_self_eq_true, Int.reduceEq, Nat.reduceEqDiff, List.length_singleton, List.tail_cons, Int.reduceLE, Int.reduceLT, decide_eq_true_eq]
    exact Ev2.now _
  | cons x rest ih =>
    intro pre hp
    by_cases e : c = x
    · refine ⟨pre.length, Ev2.succ ?_, by simp [e]⟩
      simp only [slices_Index_string_string.l0_eq, at_lt hp, at_getD hp, e, strs_len, strs_elem, ints_len, ints_elem, items_list, fld_agg, elem_list, toStr_sc, toInt_sc, toBool_sc, headD_one, nat_int, get_bt, decide_eq_true_eq, decide_eq_false_iff_not, decide_true, decide_false, if_true, if_false, ite_self, Bool.not_true, Bool.not_false, Bool.false_eq_true, Bool.true_eq_false, Bool.true_and, Bool.false_and, Bool.and_true, Bool.and_false, not_true, not_false_iff, Option.bind_some, nn, toList_inj, Bool.not_eq_true', Bool.not_eq_false', Int.le_refl, and_self, true_and, and_true, false_and, and_false, bne_self_eq_false, beq_self_eq_true, Int.reduceEq, Nat.reduceEqDiff, List.length_singleton, List.tail_cons, Int.reduceLE, Int.reduceLT, decide_eq_true_eq]
      exact Ev2.now _
    · obtain ⟨r, hr, hv⟩ := ih _ (at_step hp)
      refine ⟨r, Ev2.succ ?_, by rw [hv]; simp [e]⟩
      simp only [slices_Index_string_string.l0_eq, at_lt hp, at_getD hp, e, at_next hp ha, strs_len, strs_elem, ints_len, ints_elem, items_list, fld_agg, elem_list, toStr_sc, toInt_sc, toBool_sc, headD_one, nat_int, get_bt, decide_eq_true_eq, decide_eq_false_iff_not, decide_true, decide_false, if_true, if_false, ite_self, Bool.not_true, Bool.not_false, Bool.false_eq_true, Bool.true_eq_false, Bool.true_and, Bool.false_and, Bool.and_true, Bool.and_false, not_true, not_false_iff, Option.bind_some, nn, toList_inj, Bool.not_eq_true', Bool.not_eq_false', Int.le_refl, and_self, true_and, and_true, false_and, and_false, bne_self_eq_false, beq_self_eq_true, Int.reduceEq, Nat.reduceEqDiff, List.length_singleton, List.tail_cons, Int.reduceLE, Int.reduceLT, decide_eq_true_eq]
      exact hr
theorem contains_ev (a : List ByteArray) (c : ByteArray) (ha : a.length ≤ 9223372036854775807) : Ev (fun N => slices_Contains_string_string.f N [strsP a, strP c]) [boolP (decide (c ∈ a))] := by
  obtain ⟨r, hr, hv⟩ := index_loop a c ha a [] rfl
  simp only [slices_Contains_string_string.f_eq, slices_Index_string_string.f_eq, strs_len, strs_elem, ints_len, ints_elem, items_list, fld_agg, elem_list, toStr_sc, toInt_sc, toBool_sc, headD_one, nat_int, get_bt, decide_eq_true_eq, decide_eq_false_iff_not, decide_true, decide_false, if_true, if_false, ite_self, Bool.not_true, Bool.not_false, Bool.false_eq_true, Bool.true_eq_false, Bool.true_and, Bool.false_and, Bool.and_true, Bool.and_false, not_true, not_false_iff, Option.bind_some, nn, toList_inj, Bool.not_eq_true', Bool.not_eq_false', Int.le_refl, and_self, true_and, and_true, false_and, and_false, bne_self_eq_false, beq_self_eq_true, Int.reduceEq, Nat.reduceEqDiff, List.length_singleton, List.tail_cons, Int.reduceLE, Int.reduceLT, decide_eq_true_eq]
  refine Ev.bind hr.diag ?_
  refine Ev.ext (Ev.now _) ?_
  simp only [strs_len, strs_elem, ints_len, ints_elem, items_list, fld_agg, elem_list, toStr_sc, toInt_sc, toBool_sc, headD_one, nat_int, get_bt, decide_eq_true_eq, decide_eq_false_iff_not, decide_true, decide_false, if_true, if_false, ite_self, Bool.not_true, Bool.not_false, Bool.false_eq_true, Bool.true_eq_false, Bool.true_and, Bool.false_and, Bool.and_true, Bool.and_false, not_true, not_false_iff, Option.bind_some, nn, toList_inj, Bool.not_eq_true', Bool.not_eq_false', Int.le_refl, and_self, true_and, and_true, false_and, and_false, bne_self_eq_false, beq_self_eq_true, Int.reduceEq, Nat.reduceEqDiff, List.length_singleton, List.tail_cons, Int.reduceLE, Int.reduceLT, decide_eq_true_eq]
  exact congrArg (fun b => [boolP b]) (decide_eq_decide.2 hv)
/-! #### a word's parts: the program and the reference -/
theorem Ev3.row {α : Type} {r : α} {g : Nat → Nat → Nat → Option α} (h : Ev3 g r) : Ev2 (fun N d => g N d N) r := by obtain ⟨k, hk⟩ := h; exact ⟨k, fun N d hN hd => hk N d N hN hd hN⟩
theorem Ev3.bind2 {α β : Type} {r : α} {s : β} {g : Nat → Nat → Option β} {f : Nat → Nat → Nat → β → Option α} (h : Ev2 g s) (k : Ev3 (fun N m n => f N m n s) r) : Ev3 (fun N m n => (g N m).bind (f N m n)) r := by
  obtain ⟨k1, h1⟩ := h; obtain ⟨k2, h2⟩ := k
  exact ⟨max k1 k2, fun N m n hN hm hn => by
    show (g N m).bind (f N m n) = _
    rw [h1 N m (by omega) (by omega), Option.bind_some]; exact h2 N m n (by omega) (by omega) (by omega)⟩
theorem Ev2.succR {α : Type} {r : α} {g : Nat → Nat → Option α} (h : Ev2 (fun N n => g N (n + 1)) r) : Ev2 g r := h.succ
theorem nilC_nil {α : Type} (a : α) (b : PV → List PV → α) : nilC (strsP []).items a b = a := rfl
theorem nilC_cons {α : Type} (x : ByteArray) (r : List ByteArray) (a : α) (b : PV → List PV → α) : nilC (strsP (x :: r)).items a b = b (strP x) (r.map strP) := rfl
theorem parts_join (y x : ByteArray) (r : List ByteArray) : PV.list ([PV.sc (.string y)] ++ (strP x :: r.map strP)) = strsP (y :: x :: r) := rfl
theorem div_l0 {ws : List ByteArray} (hwl : ws.length ≤ 1000000) {w : ByteArray} (hw : w.size ≤ 1000000) {M : Nat} (hM : M ≤ 10)
    (hrec : ∀ v, 3 ≤ v.size → v.size ≤ 1000000 → Ev2 (fun N d => impl_divided.g N d [strsP ws, strP v, intP ((M + 1 : Nat) : Int)]) [strsP (partsM ws M v)]) :
    ∀ d0 k : Nat, (1 ≤ d0 → k + d0 + 2 = w.size) → (d0 = 0 → w.size < k + 3) → 3 ≤ k →
    Ev3 (fun N d n => impl_divided.l0 N d n (strsP ws) w ((M + 2 : Nat) : Int) (k : Int)) [strsP (partsAt ws (partsM ws M) w d0 k)] := by
  have w1 : IntKind.i64.wrap ((w.size : Int) - 3) = (w.size : Int) - 3 := wrap_id (by omega) (by omega)
  have w2 : IntKind.i64.wrap (((M + 2 : Nat) : Int) - 1) = ((M + 1 : Nat) : Int) := nat_wrap (by omega) (by omega)
  intro d0
  induction d0 with
  | zero =>
    intro k _ h0 h3
    have c0 : ((k : Int) ≤ (w.size : Int) - 3) = False := fls (by have := h0 rfl; omega)
    refine Ev3.succ ?_
    simp only [impl_divided.l0_eq, w1, c0, strs_len, strs_elem, ints_len, ints_elem, items_list, fld_agg, elem_list, toStr_sc, toInt_sc, toBool_sc, headD_one, nat_int, get_bt, decide_eq_true_eq, decide_eq_false_iff_not, decide_true, decide_false, if_true, if_false, ite_self, Bool.not_true, Bool.not_false, Bool.false_eq_true, Bool.true_eq_false, Bool.true_and, Bool.false_and, Bool.and_true, Bool.and_false, not_true, not_false_iff, Option.bind_some, nn, toList_inj, Bool.not_eq_true', Bool.not_eq_false', Int.le_refl, and_self, true_and, and_true, false_and, and_false, bne_self_eq_false, beq_self_eq_true, Int.reduceEq, Nat.reduceEqDiff, List.length_singleton, List.tail_cons, Int.reduceLE, Int.reduceLT, decide_eq_true_eq]
    exact Ev3.now _
  | succ d0 ih =>
    intro k hk _ h3
    have hk' := hk (by omega)
    have c0 : ((k : Int) ≤ (w.size : Int) - 3) = True := tru (by omega)
    have c1 : ((k : Int) ≤ (w.size : Int)) = True := tru (by omega)
    have wn : IntKind.i64.wrap ((k : Int) + 1) = ((k + 1 : Nat) : Int) := nat_wrap (by omega) (by omega)
    have hnext := ih (k + 1) (fun _ => by omega) (fun h => by omega) (by omega)
    have hct := contains_ev ws (w.extract 0 k) (by omega)
    simp only [strP] at hct
    refine Ev3.succ ?_
    simp only [impl_divided.l0_eq, w1, c0, c1, nn, strs_len, strs_elem, ints_len, ints_elem, items_list, fld_agg, elem_list, toStr_sc, toInt_sc, toBool_sc, headD_one, nat_int, get_bt, decide_eq_true_eq, decide_eq_false_iff_not, decide_true, decide_false, if_true, if_false, ite_self, Bool.not_true, Bool.not_false, Bool.false_eq_true, Bool.true_eq_false, Bool.true_and, Bool.false_and, Bool.and_true, Bool.and_false, not_true, not_false_iff, Option.bind_some, nn, toList_inj, Bool.not_eq_true', Bool.not_eq_false', Int.le_refl, and_self, true_and, and_true, false_and, and_false, bne_self_eq_false, beq_self_eq_true, Int.reduceEq, Nat.reduceEqDiff, List.length_singleton, List.tail_cons, Int.reduceLE, Int.reduceLT, decide_eq_true_eq]
    refine Ev3.bind hct ?_
    rw [partsAt]
    by_cases hm : w.extract 0 k ∈ ws
    · have hz : (w.extract k w.size).size = w.size - k := by rw [ByteArray.size_extract]; omega
      have hr := hrec (w.extract k w.size) (by omega) (by omega)
      simp only [strP] at hr
      simp only [hm, w2, strs_len, strs_elem, ints_len, ints_elem, items_list, fld_agg, elem_list, toStr_sc, toInt_sc, toBool_sc, headD_one, nat_int, get_bt, decide_eq_true_eq, decide_eq_false_iff_not, decide_true, decide_false, if_true, if_false, ite_self, Bool.not_true, Bool.not_false, Bool.false_eq_true, Bool.true_eq_false, Bool.true_and, Bool.false_and, Bool.and_true, Bool.and_false, not_true, not_false_iff, Option.bind_some, nn, toList_inj, Bool.not_eq_true', Bool.not_eq_false', Int.le_refl, and_self, true_and, and_true, false_and, and_false, bne_self_eq_false, beq_self_eq_true, Int.reduceEq, Nat.reduceEqDiff, List.length_singleton, List.tail_cons, Int.reduceLE, Int.reduceLT, decide_eq_true_eq]
      refine Ev3.bind2 hr ?_
      cases hp : partsM ws M (w.extract k w.size) with
      | nil =>
        simp only [nilC_nil, wn, strs_len, strs_elem, ints_len, ints_elem, items_list, fld_agg, elem_list, toStr_sc, toInt_sc, toBool_sc, headD_one, nat_int, get_bt, decide_eq_true_eq, decide_eq_false_iff_not, decide_true, decide_false, if_true, if_false, ite_self, Bool.not_true, Bool.not_false, Bool.false_eq_true, Bool.true_eq_false, Bool.true_and, Bool.false_and, Bool.and_true, Bool.and_false, not_true, not_false_iff, Option.bind_some, nn, toList_inj, Bool.not_eq_true', Bool.not_eq_false', Int.le_refl, and_self, true_and, and_true, false_and, and_false, bne_self_eq_false, beq_self_eq_true, Int.reduceEq, Nat.reduceEqDiff, List.length_singleton, List.tail_cons, Int.reduceLE, Int.reduceLT, decide_eq_true_eq]
        exact hnext
      | cons x r =>
        have hl := (partsM_ok ws M (w.extract k w.size) (by omega) (by rw [hp]; simp)).len
        rw [hp, List.length_cons] at hl
        have c2 : (1 + (strP x :: r.map strP).length ≤ 8796093022208) = True := tru (by simp; omega)
        simp only [nilC_cons, headD_one, List.length_singleton, c2, parts_join, if_true]
        exact Ev3.now _
    · simp only [hm, wn, strs_len, strs_elem, ints_len, ints_elem, items_list, fld_agg, elem_list, toStr_sc, toInt_sc, toBool_sc, headD_one, nat_int, get_bt, decide_eq_true_eq, decide_eq_false_iff_not, decide_true, decide_false, if_true, if_false, ite_self, Bool.not_true, Bool.not_false, Bool.false_eq_true, Bool.true_eq_false, Bool.true_and, Bool.false_and, Bool.and_true, Bool.and_false, not_true, not_false_iff, Option.bind_some, nn, toList_inj, Bool.not_eq_true', Bool.not_eq_false', Int.le_refl, and_self, true_and, and_true, false_and, and_false, bne_self_eq_false, beq_self_eq_true, Int.reduceEq, Nat.reduceEqDiff, List.length_singleton, List.tail_cons, Int.reduceLE, Int.reduceLT, decide_eq_true_eq]
      exact hnext
theorem div_g {ws : List ByteArray} (hwl : ws.length ≤ 1000000) : ∀ (M : Nat) (w : ByteArray), M ≤ 10 → (M = 0 → 3 ≤ w.size) → w.size ≤ 1000000 →
    Ev2 (fun N d => impl_divided.g N d [strsP ws, strP w, intP ((M + 1 : Nat) : Int)]) [strsP (partsM ws M w)] := by
  intro M
  induction M with
  | zero =>
    intro w _ h3 hw
    have c0 : (((0 + 1 : Nat) : Int) = 1) = True := tru rfl
    have c3 : ((3 : Int) ≤ (w.size : Int)) = True := tru (by have := h3 rfl; omega)
    have hct := contains_ev ws w (by omega)
    simp only [strP] at hct
    refine Ev2.succ ?_
    simp only [impl_divided.g_eq, c0, c3, strs_len, strs_elem, ints_len, ints_elem, items_list, fld_agg, elem_list, toStr_sc, toInt_sc, toBool_sc, headD_one, nat_int, get_bt, decide_eq_true_eq, decide_eq_false_iff_not, decide_true, decide_false, if_true, if_false, ite_self, Bool.not_true, Bool.not_false, Bool.false_eq_true, Bool.true_eq_false, Bool.true_and, Bool.false_and, Bool.and_true, Bool.and_false, not_true, not_false_iff, Option.bind_some, nn, toList_inj, Bool.not_eq_true', Bool.not_eq_false', Int.le_refl, and_self, true_and, and_true, false_and, and_false, bne_self_eq_false, beq_self_eq_true, Int.reduceEq, Nat.reduceEqDiff, List.length_singleton, List.tail_cons, Int.reduceLE, Int.reduceLT, decide_eq_true_eq]
    refine Ev2.bind hct ?_
    unfold partsM
    by_cases hm : w ∈ ws
    · simp only [hm, strs_len, strs_elem, ints_len, ints_elem, items_list, fld_agg, elem_list, toStr_sc, toInt_sc, toBool_sc, headD_one, nat_int, get_bt, decide_eq_true_eq, decide_eq_false_iff_not, decide_true, decide_false, if_true, if_false, ite_self, Bool.not_true, Bool.not_false, Bool.false_eq_true, Bool.true_eq_false, Bool.true_and, Bool.false_and, Bool.and_true, Bool.and_false, not_true, not_false_iff, Option.bind_some, nn, toList_inj, Bool.not_eq_true', Bool.not_eq_false', Int.le_refl, and_self, true_and, and_true, false_and, and_false, bne_self_eq_false, beq_self_eq_true, Int.reduceEq, Nat.reduceEqDiff, List.length_singleton, List.tail_cons, Int.reduceLE, Int.reduceLT, decide_eq_true_eq]; exact Ev2.now _
    · simp only [hm, strs_len, strs_elem, ints_len, ints_elem, items_list, fld_agg, elem_list, toStr_sc, toInt_sc, toBool_sc, headD_one, nat_int, get_bt, decide_eq_true_eq, decide_eq_false_iff_not, decide_true, decide_false, if_true, if_false, ite_self, Bool.not_true, Bool.not_false, Bool.false_eq_true, Bool.true_eq_false, Bool.true_and, Bool.false_and, Bool.and_true, Bool.and_false, not_true, not_false_iff, Option.bind_some, nn, toList_inj, Bool.not_eq_true', Bool.not_eq_false', Int.le_refl, and_self, true_and, and_true, false_and, and_false, bne_self_eq_false, beq_self_eq_true, Int.reduceEq, Nat.reduceEqDiff, List.length_singleton, List.tail_cons, Int.reduceLE, Int.reduceLT, decide_eq_true_eq]; exact Ev2.now _
  | succ M ih =>
    intro w hM _ hw
    have c0 : (((M + 1 + 1 : Nat) : Int) = 1) = False := fls (by omega)
    have h := Ev3.row (div_l0 hwl hw (by omega : M ≤ 10) (fun v h3 hv => ih v (by omega) (fun _ => h3) hv) (w.size - 5) 3 (fun _ => by omega) (fun _ => by omega) (Nat.le_refl _))
    refine Ev2.succ ?_
    simp only [impl_divided.g_eq, c0, strs_len, strs_elem, ints_len, ints_elem, items_list, fld_agg, elem_list, toStr_sc, toInt_sc, toBool_sc, headD_one, nat_int, get_bt, decide_eq_true_eq, decide_eq_false_iff_not, decide_true, decide_false, if_true, if_false, ite_self, Bool.not_true, Bool.not_false, Bool.false_eq_true, Bool.true_eq_false, Bool.true_and, Bool.false_and, Bool.and_true, Bool.and_false, not_true, not_false_iff, Option.bind_some, nn, toList_inj, Bool.not_eq_true', Bool.not_eq_false', Int.le_refl, and_self, true_and, and_true, false_and, and_false, bne_self_eq_false, beq_self_eq_true, Int.reduceEq, Nat.reduceEqDiff, List.length_singleton, List.tail_cons, Int.reduceLE, Int.reduceLT, decide_eq_true_eq]
    exact h
theorem div_ev {ws : List ByteArray} (hwl : ws.length ≤ 1000000) (M : Nat) (w : ByteArray) (hM : 1 ≤ M ∧ M ≤ 10) (hw : w.size ≤ 1000000) :
    Ev (fun N => impl_divided.f N [strsP ws, strP w, intP ((M + 1 : Nat) : Int)]) [strsP (partsM ws M w)] := by
  simp only [impl_divided.f_eq]
  exact (div_g hwl M w hM.2 (fun h => by omega) hw).diag
def partsR (af : List Aff) (es : List Ent) (w : ByteArray) : List ByteArray := if bookB af es = true ∧ isWord w = true then partsB (bookW af es) w else []
theorem bookW_len {af : List Aff} {es : List Ent} (h : BookOkF af es) : (bookW af es).length ≤ 2000 := by
  have h1 := wordsL2_len af es []
  have h2 := h.al
  have h3 := h.el
  have h4 : (1 + af.length) * (1 + af.length) ≤ 9 * 9 := Nat.mul_le_mul (by omega) (by omega)
  have h5 : es.length * ((1 + af.length) * (1 + af.length)) ≤ 24 * 81 := Nat.mul_le_mul h3 h4
  unfold bookW; simp only [List.length_nil] at h1; omega
theorem implParts_ev {af : List Aff} {es : List Ent} (hs : BookS af es) (w : ByteArray) (hw : w.size ≤ 1000000000) : Ev (fun N => impl_PartsOf.f N [bookP af es, strP w]) [strsP (partsR af es w)] := by
  have hwo := implWord_ev w (by omega)
  simp only [strP] at hwo
  have ne : PV.list [] = strsP [] := rfl
  simp only [impl_PartsOf.f_eq, book_f0, book_f1, book_agg, strs_len, strs_elem, ints_len, ints_elem, items_list, fld_agg, elem_list, toStr_sc, toInt_sc, toBool_sc, headD_one, nat_int, get_bt, decide_eq_true_eq, decide_eq_false_iff_not, decide_true, decide_false, if_true, if_false, ite_self, Bool.not_true, Bool.not_false, Bool.false_eq_true, Bool.true_eq_false, Bool.true_and, Bool.false_and, Bool.and_true, Bool.and_false, not_true, not_false_iff, Option.bind_some, nn, toList_inj, Bool.not_eq_true', Bool.not_eq_false', Int.le_refl, and_self, true_and, and_true, false_and, and_false, bne_self_eq_false, beq_self_eq_true, Int.reduceEq, Nat.reduceEqDiff, List.length_singleton, List.tail_cons, Int.reduceLE, Int.reduceLT, decide_eq_true_eq]
  refine Ev.bind (implBookOk_ev hs) ?_
  cases hb : bookB af es with
  | false =>
    simp only [partsR, hb, ne, strs_len, strs_elem, ints_len, ints_elem, items_list, fld_agg, elem_list, toStr_sc, toInt_sc, toBool_sc, headD_one, nat_int, get_bt, decide_eq_true_eq, decide_eq_false_iff_not, decide_true, decide_false, if_true, if_false, ite_self, Bool.not_true, Bool.not_false, Bool.false_eq_true, Bool.true_eq_false, Bool.true_and, Bool.false_and, Bool.and_true, Bool.and_false, not_true, not_false_iff, Option.bind_some, nn, toList_inj, Bool.not_eq_true', Bool.not_eq_false', Int.le_refl, and_self, true_and, and_true, false_and, and_false, bne_self_eq_false, beq_self_eq_true, Int.reduceEq, Nat.reduceEqDiff, List.length_singleton, List.tail_cons, Int.reduceLE, Int.reduceLT, decide_eq_true_eq]
    exact Ev.now _
  | true =>
    simp only [strs_len, strs_elem, ints_len, ints_elem, items_list, fld_agg, elem_list, toStr_sc, toInt_sc, toBool_sc, headD_one, nat_int, get_bt, decide_eq_true_eq, decide_eq_false_iff_not, decide_true, decide_false, if_true, if_false, ite_self, Bool.not_true, Bool.not_false, Bool.false_eq_true, Bool.true_eq_false, Bool.true_and, Bool.false_and, Bool.and_true, Bool.and_false, not_true, not_false_iff, Option.bind_some, nn, toList_inj, Bool.not_eq_true', Bool.not_eq_false', Int.le_refl, and_self, true_and, and_true, false_and, and_false, bne_self_eq_false, beq_self_eq_true, Int.reduceEq, Nat.reduceEqDiff, List.length_singleton, List.tail_cons, Int.reduceLE, Int.reduceLT, decide_eq_true_eq]
    refine Ev.bind hwo ?_
    cases hi : isWord w with
    | false =>
      simp only [partsR, hb, hi, ne, strs_len, strs_elem, ints_len, ints_elem, items_list, fld_agg, elem_list, toStr_sc, toInt_sc, toBool_sc, headD_one, nat_int, get_bt, decide_eq_true_eq, decide_eq_false_iff_not, decide_true, decide_false, if_true, if_false, ite_self, Bool.not_true, Bool.not_false, Bool.false_eq_true, Bool.true_eq_false, Bool.true_and, Bool.false_and, Bool.and_true, Bool.and_false, not_true, not_false_iff, Option.bind_some, nn, toList_inj, Bool.not_eq_true', Bool.not_eq_false', Int.le_refl, and_self, true_and, and_true, false_and, and_false, bne_self_eq_false, beq_self_eq_true, Int.reduceEq, Nat.reduceEqDiff, List.length_singleton, List.tail_cons, Int.reduceLE, Int.reduceLT, decide_eq_true_eq]
      exact Ev.now _
    | true =>
      have hF := bookB_facts hb
      have hlen := bookW_len hF
      have hsz := word_size hi
      have d1 := div_ev (ws := bookW af es) (by omega) 1 w (by omega) (by omega)
      have d2 := div_ev (ws := bookW af es) (by omega) 2 w (by omega) (by omega)
      have e1 : (((1 + 1 : Nat)) : Int) = 2 := rfl
      have e2 : (((2 + 1 : Nat)) : Int) = 3 := rfl
      rw [e1] at d1
      rw [e2] at d2
      simp only [strP, intP] at d1 d2
      have w1 : IntKind.i64.wrap ((2 : Int) + 1) = 3 := rfl
      have w2 : IntKind.i64.wrap ((3 : Int) + 1) = 4 := rfl
      simp only [strs_len, strs_elem, ints_len, ints_elem, items_list, fld_agg, elem_list, toStr_sc, toInt_sc, toBool_sc, headD_one, nat_int, get_bt, decide_eq_true_eq, decide_eq_false_iff_not, decide_true, decide_false, if_true, if_false, ite_self, Bool.not_true, Bool.not_false, Bool.false_eq_true, Bool.true_eq_false, Bool.true_and, Bool.false_and, Bool.and_true, Bool.and_false, not_true, not_false_iff, Option.bind_some, nn, toList_inj, Bool.not_eq_true', Bool.not_eq_false', Int.le_refl, and_self, true_and, and_true, false_and, and_false, bne_self_eq_false, beq_self_eq_true, Int.reduceEq, Nat.reduceEqDiff, List.length_singleton, List.tail_cons, Int.reduceLE, Int.reduceLT, decide_eq_true_eq]
      refine Ev.bind (implBookW_ev hF) ?_
      simp only [partsR, hb, hi, partsB, strs_len, strs_elem, ints_len, ints_elem, items_list, fld_agg, elem_list, toStr_sc, toInt_sc, toBool_sc, headD_one, nat_int, get_bt, decide_eq_true_eq, decide_eq_false_iff_not, decide_true, decide_false, if_true, if_false, ite_self, Bool.not_true, Bool.not_false, Bool.false_eq_true, Bool.true_eq_false, Bool.true_and, Bool.false_and, Bool.and_true, Bool.and_false, not_true, not_false_iff, Option.bind_some, nn, toList_inj, Bool.not_eq_true', Bool.not_eq_false', Int.le_refl, and_self, true_and, and_true, false_and, and_false, bne_self_eq_false, beq_self_eq_true, Int.reduceEq, Nat.reduceEqDiff, List.length_singleton, List.tail_cons, Int.reduceLE, Int.reduceLT, decide_eq_true_eq]
      refine Ev2.diag (g := fun N n => impl_PartsOf.l0 N n w 2 (strsP (bookW af es))) (Ev2.succ ?_)
      simp only [impl_PartsOf.l0_eq, strs_len, strs_elem, ints_len, ints_elem, items_list, fld_agg, elem_list, toStr_sc, toInt_sc, toBool_sc, headD_one, nat_int, get_bt, decide_eq_true_eq, decide_eq_false_iff_not, decide_true, decide_false, if_true, if_false, ite_self, Bool.not_true, Bool.not_false, Bool.false_eq_true, Bool.true_eq_false, Bool.true_and, Bool.false_and, Bool.and_true, Bool.and_false, not_true, not_false_iff, Option.bind_some, nn, toList_inj, Bool.not_eq_true', Bool.not_eq_false', Int.le_refl, and_self, true_and, and_true, false_and, and_false, bne_self_eq_false, beq_self_eq_true, Int.reduceEq, Nat.reduceEqDiff, List.length_singleton, List.tail_cons, Int.reduceLE, Int.reduceLT, decide_eq_true_eq]
      refine Ev2.bind d1 ?_
      cases h1 : partsM (bookW af es) 1 w with
      | cons x r =>
        simp only [nilC_cons, headD_one, strs_len, strs_elem, ints_len, ints_elem, items_list, fld_agg, elem_list, toStr_sc, toInt_sc, toBool_sc, headD_one, nat_int, get_bt, decide_eq_true_eq, decide_eq_false_iff_not, decide_true, decide_false, if_true, if_false, ite_self, Bool.not_true, Bool.not_false, Bool.false_eq_true, Bool.true_eq_false, Bool.true_and, Bool.false_and, Bool.and_true, Bool.and_false, not_true, not_false_iff, Option.bind_some, nn, toList_inj, Bool.not_eq_true', Bool.not_eq_false', Int.le_refl, and_self, true_and, and_true, false_and, and_false, bne_self_eq_false, beq_self_eq_true, Int.reduceEq, Nat.reduceEqDiff, List.length_singleton, List.tail_cons, Int.reduceLE, Int.reduceLT, decide_eq_true_eq]
        exact Ev2.now _
      | nil =>
        simp only [nilC_nil, headD_one, w1, strs_len, strs_elem, ints_len, ints_elem, items_list, fld_agg, elem_list, toStr_sc, toInt_sc, toBool_sc, headD_one, nat_int, get_bt, decide_eq_true_eq, decide_eq_false_iff_not, decide_true, decide_false, if_true, if_false, ite_self, Bool.not_true, Bool.not_false, Bool.false_eq_true, Bool.true_eq_false, Bool.true_and, Bool.false_and, Bool.and_true, Bool.and_false, not_true, not_false_iff, Option.bind_some, nn, toList_inj, Bool.not_eq_true', Bool.not_eq_false', Int.le_refl, and_self, true_and, and_true, false_and, and_false, bne_self_eq_false, beq_self_eq_true, Int.reduceEq, Nat.reduceEqDiff, List.length_singleton, List.tail_cons, Int.reduceLE, Int.reduceLT, decide_eq_true_eq]
        refine Ev2.succ ?_
        simp only [impl_PartsOf.l0_eq, strs_len, strs_elem, ints_len, ints_elem, items_list, fld_agg, elem_list, toStr_sc, toInt_sc, toBool_sc, headD_one, nat_int, get_bt, decide_eq_true_eq, decide_eq_false_iff_not, decide_true, decide_false, if_true, if_false, ite_self, Bool.not_true, Bool.not_false, Bool.false_eq_true, Bool.true_eq_false, Bool.true_and, Bool.false_and, Bool.and_true, Bool.and_false, not_true, not_false_iff, Option.bind_some, nn, toList_inj, Bool.not_eq_true', Bool.not_eq_false', Int.le_refl, and_self, true_and, and_true, false_and, and_false, bne_self_eq_false, beq_self_eq_true, Int.reduceEq, Nat.reduceEqDiff, List.length_singleton, List.tail_cons, Int.reduceLE, Int.reduceLT, decide_eq_true_eq]
        refine Ev2.bind d2 ?_
        cases h2 : partsM (bookW af es) 2 w with
        | cons x r =>
          simp only [nilC_cons, headD_one, strs_len, strs_elem, ints_len, ints_elem, items_list, fld_agg, elem_list, toStr_sc, toInt_sc, toBool_sc, headD_one, nat_int, get_bt, decide_eq_true_eq, decide_eq_false_iff_not, decide_true, decide_false, if_true, if_false, ite_self, Bool.not_true, Bool.not_false, Bool.false_eq_true, Bool.true_eq_false, Bool.true_and, Bool.false_and, Bool.and_true, Bool.and_false, not_true, not_false_iff, Option.bind_some, nn, toList_inj, Bool.not_eq_true', Bool.not_eq_false', Int.le_refl, and_self, true_and, and_true, false_and, and_false, bne_self_eq_false, beq_self_eq_true, Int.reduceEq, Nat.reduceEqDiff, List.length_singleton, List.tail_cons, Int.reduceLE, Int.reduceLT, decide_eq_true_eq]
          exact Ev2.now _
        | nil =>
          simp only [nilC_nil, headD_one, w2, strs_len, strs_elem, ints_len, ints_elem, items_list, fld_agg, elem_list, toStr_sc, toInt_sc, toBool_sc, headD_one, nat_int, get_bt, decide_eq_true_eq, decide_eq_false_iff_not, decide_true, decide_false, if_true, if_false, ite_self, Bool.not_true, Bool.not_false, Bool.false_eq_true, Bool.true_eq_false, Bool.true_and, Bool.false_and, Bool.and_true, Bool.and_false, not_true, not_false_iff, Option.bind_some, nn, toList_inj, Bool.not_eq_true', Bool.not_eq_false', Int.le_refl, and_self, true_and, and_true, false_and, and_false, bne_self_eq_false, beq_self_eq_true, Int.reduceEq, Nat.reduceEqDiff, List.length_singleton, List.tail_cons, Int.reduceLE, Int.reduceLT, decide_eq_true_eq]
          refine Ev2.succ ?_
          simp only [impl_PartsOf.l0_eq, ne, strs_len, strs_elem, ints_len, ints_elem, items_list, fld_agg, elem_list, toStr_sc, toInt_sc, toBool_sc, headD_one, nat_int, get_bt, decide_eq_true_eq, decide_eq_false_iff_not, decide_true, decide_false, if_true, if_false, ite_self, Bool.not_true, Bool.not_false, Bool.false_eq_true, Bool.true_eq_false, Bool.true_and, Bool.false_and, Bool.and_true, Bool.and_false, not_true, not_false_iff, Option.bind_some, nn, toList_inj, Bool.not_eq_true', Bool.not_eq_false', Int.le_refl, and_self, true_and, and_true, false_and, and_false, bne_self_eq_false, beq_self_eq_true, Int.reduceEq, Nat.reduceEqDiff, List.length_singleton, List.tail_cons, Int.reduceLE, Int.reduceLT, decide_eq_true_eq]
          exact Ev2.now _
/-! the reference -/
theorem l2In_loop {ws : List ByteArray} (hwl : ws.length ≤ 9223372036854775807) (s : ByteArray) : ∀ rest pre : List ByteArray, ws = pre ++ rest → Ev2 (fun N n => spec_l2In.l0 N n (strsP ws) s (pre.length : Int)) [boolP (decide (s ∈ rest))] := by
  intro rest
  induction rest with
  | nil =>
    intro pre hp
    refine Ev2.succ ?_
    simp only [spec_l2In.l0_eq, at_end hp, strs_len, strs_elem, ints_len, ints_elem, items_list, fld_agg, elem_list, toStr_sc, toInt_sc, toBool_sc, headD_one, nat_int, get_bt, decide_eq_true_eq, decide_eq_false_iff_not, decide_true, decide_false, if_true, if_false, ite_self, Bool.not_true, Bool.not_false, Bool.false_eq_true, Bool.true_eq_false, Bool.true_and, Bool.false_and, Bool.and_true, Bool.and_false, not_true, not_false_iff, Option.bind_some, nn, toList_inj, Bool.not_eq_true', Bool.not_eq_false', Int.le_refl, and_self, true_and, and_true, false_and, and_false, bne_self_eq_false, beq_self_eq_true, Int.reduceEq, Nat.reduceEqDiff, List.length_singleton, List.tail_cons, Int.reduceLE, Int.reduceLT, decide_eq_true_eq]
    exact Ev2.ext (Ev2.now _) (by simp)
  | cons c rest ih =>
    intro pre hp
    refine Ev2.succ ?_
    by_cases hc : c = s
    · simp only [spec_l2In.l0_eq, at_lt hp, at_getD hp, hc, strs_len, strs_elem, ints_len, ints_elem, items_list, fld_agg, elem_list, toStr_sc, toInt_sc, toBool_sc, headD_one, nat_int, get_bt, decide_eq_true_eq, decide_eq_false_iff_not, decide_true, decide_false, if_true, if_false, ite_self, Bool.not_true, Bool.not_false, Bool.false_eq_true, Bool.true_eq_false, Bool.true_and, Bool.false_and, Bool.and_true, Bool.and_false, not_true, not_false_iff, Option.bind_some, nn, toList_inj, Bool.not_eq_true', Bool.not_eq_false', Int.le_refl, and_self, true_and, and_true, false_and, and_false, bne_self_eq_false, beq_self_eq_true, Int.reduceEq, Nat.reduceEqDiff, List.length_singleton, List.tail_cons, Int.reduceLE, Int.reduceLT, decide_eq_true_eq]
      exact Ev2.ext (Ev2.now _) (by simp)
    · have hd : decide (s ∈ c :: rest) = decide (s ∈ rest) := by simp [Ne.symm hc]
      simp only [spec_l2In.l0_eq, at_lt hp, at_getD hp, hc, at_next hp hwl, hd, strs_len, strs_elem, ints_len, ints_elem, items_list, fld_agg, elem_list, toStr_sc, toInt_sc, toBool_sc, headD_one, nat_int, get_bt, decide_eq_true_eq, decide_eq_false_iff_not, decide_true, decide_false, if_true, if_false, ite_self, Bool.not_true, Bool.not_false, Bool.false_eq_true, Bool.true_eq_false, Bool.true_and, Bool.false_and, Bool.and_true, Bool.and_false, not_true, not_false_iff, Option.bind_some, nn, toList_inj, Bool.not_eq_true', Bool.not_eq_false', Int.le_refl, and_self, true_and, and_true, false_and, and_false, bne_self_eq_false, beq_self_eq_true, Int.reduceEq, Nat.reduceEqDiff, List.length_singleton, List.tail_cons, Int.reduceLE, Int.reduceLT, decide_eq_true_eq]
      exact ih _ (at_step hp)
theorem l2In_ev {ws : List ByteArray} (hwl : ws.length ≤ 9223372036854775807) (s : ByteArray) : Ev (fun N => spec_l2In.f N [strsP ws, PV.sc (.string s)]) [boolP (decide (s ∈ ws))] := by
  simp only [spec_l2In.f_eq, strs_len, strs_elem, ints_len, ints_elem, items_list, fld_agg, elem_list, toStr_sc, toInt_sc, toBool_sc, headD_one, nat_int, get_bt, decide_eq_true_eq, decide_eq_false_iff_not, decide_true, decide_false, if_true, if_false, ite_self, Bool.not_true, Bool.not_false, Bool.false_eq_true, Bool.true_eq_false, Bool.true_and, Bool.false_and, Bool.and_true, Bool.and_false, not_true, not_false_iff, Option.bind_some, nn, toList_inj, Bool.not_eq_true', Bool.not_eq_false', Int.le_refl, and_self, true_and, and_true, false_and, and_false, bne_self_eq_false, beq_self_eq_true, Int.reduceEq, Nat.reduceEqDiff, List.length_singleton, List.tail_cons, Int.reduceLE, Int.reduceLT, decide_eq_true_eq]
  exact (l2In_loop hwl s ws [] rfl).diag
theorem parts_l0 {ws : List ByteArray} (hwl : ws.length ≤ 1000000) {w : ByteArray} (hw : w.size ≤ 1000000) {M : Nat} (hM : M ≤ 10)
    (hrec : ∀ v, 3 ≤ v.size → v.size ≤ 1000000 → Ev2 (fun N d => spec_l10Parts.g N d [strsP ws, strP v, intP ((M + 1 : Nat) : Int)]) [strsP (partsM ws M v)]) :
    ∀ d0 k : Nat, (1 ≤ d0 → k + d0 + 2 = w.size) → (d0 = 0 → w.size < k + 3) → 3 ≤ k → k ≤ w.size + 3 →
    Ev3 (fun N d n => spec_l10Parts.l0 N d n (strsP ws) w ((M + 2 : Nat) : Int) (k : Int)) [strsP (partsAt ws (partsM ws M) w d0 k)] := by
  have w2 : IntKind.i64.wrap (((M + 2 : Nat) : Int) - 1) = ((M + 1 : Nat) : Int) := nat_wrap (by omega) (by omega)
  intro d0
  induction d0 with
  | zero =>
    intro k _ h0 h3 hk3
    have h0' := h0 rfl
    have w1 : IntKind.i64.wrap ((k : Int) + 3) = ((k + 3 : Nat) : Int) := nat_wrap (by omega) (by omega)
    have c0 : (((k + 3 : Nat) : Int) ≤ (w.size : Int)) = False := fls (by omega)
    refine Ev3.succ ?_
    simp only [spec_l10Parts.l0_eq, w1, c0, strs_len, strs_elem, ints_len, ints_elem, items_list, fld_agg, elem_list, toStr_sc, toInt_sc, toBool_sc, headD_one, nat_int, get_bt, decide_eq_true_eq, decide_eq_false_iff_not, decide_true, decide_false, if_true, if_false, ite_self, Bool.not_true, Bool.not_false, Bool.false_eq_true, Bool.true_eq_false, Bool.true_and, Bool.false_and, Bool.and_true, Bool.and_false, not_true, not_false_iff, Option.bind_some, nn, toList_inj, Bool.not_eq_true', Bool.not_eq_false', Int.le_refl, and_self, true_and, and_true, false_and, and_false, bne_self_eq_false, beq_self_eq_true, Int.reduceEq, Nat.reduceEqDiff, List.length_singleton, List.tail_cons, Int.reduceLE, Int.reduceLT, decide_eq_true_eq]
    exact Ev3.now _
  | succ d0 ih =>
    intro k hk _ h3 _
    have hk' := hk (by omega)
    have w1 : IntKind.i64.wrap ((k : Int) + 3) = ((k + 3 : Nat) : Int) := nat_wrap (by omega) (by omega)
    have c0 : (((k + 3 : Nat) : Int) ≤ (w.size : Int)) = True := tru (by omega)
    have c1 : ((k : Int) ≤ (w.size : Int)) = True := tru (by omega)
    have wn : IntKind.i64.wrap ((k : Int) + 1) = ((k + 1 : Nat) : Int) := nat_wrap (by omega) (by omega)
    have hnext := ih (k + 1) (fun _ => by omega) (fun h => by omega) (by omega) (by omega)
    refine Ev3.succ ?_
    simp only [spec_l10Parts.l0_eq, w1, c0, c1, nn, strs_len, strs_elem, ints_len, ints_elem, items_list, fld_agg, elem_list, toStr_sc, toInt_sc, toBool_sc, headD_one, nat_int, get_bt, decide_eq_true_eq, decide_eq_false_iff_not, decide_true, decide_false, if_true, if_false, ite_self, Bool.not_true, Bool.not_false, Bool.false_eq_true, Bool.true_eq_false, Bool.true_and, Bool.false_and, Bool.and_true, Bool.and_false, not_true, not_false_iff, Option.bind_some, nn, toList_inj, Bool.not_eq_true', Bool.not_eq_false', Int.le_refl, and_self, true_and, and_true, false_and, and_false, bne_self_eq_false, beq_self_eq_true, Int.reduceEq, Nat.reduceEqDiff, List.length_singleton, List.tail_cons, Int.reduceLE, Int.reduceLT, decide_eq_true_eq]
    refine Ev3.bind (l2In_ev (by omega) _) ?_
    rw [partsAt]
    by_cases hm : w.extract 0 k ∈ ws
    · have hz : (w.extract k w.size).size = w.size - k := by rw [ByteArray.size_extract]; omega
      have hr := hrec (w.extract k w.size) (by omega) (by omega)
      simp only [strP] at hr
      simp only [hm, w2, strs_len, strs_elem, ints_len, ints_elem, items_list, fld_agg, elem_list, toStr_sc, toInt_sc, toBool_sc, headD_one, nat_int, get_bt, decide_eq_true_eq, decide_eq_false_iff_not, decide_true, decide_false, if_true, if_false, ite_self, Bool.not_true, Bool.not_false, Bool.false_eq_true, Bool.true_eq_false, Bool.true_and, Bool.false_and, Bool.and_true, Bool.and_false, not_true, not_false_iff, Option.bind_some, nn, toList_inj, Bool.not_eq_true', Bool.not_eq_false', Int.le_refl, and_self, true_and, and_true, false_and, and_false, bne_self_eq_false, beq_self_eq_true, Int.reduceEq, Nat.reduceEqDiff, List.length_singleton, List.tail_cons, Int.reduceLE, Int.reduceLT, decide_eq_true_eq]
      refine Ev3.bind2 hr ?_
      cases hp : partsM ws M (w.extract k w.size) with
      | nil =>
        have c3 : ((0 : Int) < (([] : List ByteArray).length : Int)) = False := fls (by simp)
        simp only [headD_one, strs_len, c3, wn, strs_len, strs_elem, ints_len, ints_elem, items_list, fld_agg, elem_list, toStr_sc, toInt_sc, toBool_sc, headD_one, nat_int, get_bt, decide_eq_true_eq, decide_eq_false_iff_not, decide_true, decide_false, if_true, if_false, ite_self, Bool.not_true, Bool.not_false, Bool.false_eq_true, Bool.true_eq_false, Bool.true_and, Bool.false_and, Bool.and_true, Bool.and_false, not_true, not_false_iff, Option.bind_some, nn, toList_inj, Bool.not_eq_true', Bool.not_eq_false', Int.le_refl, and_self, true_and, and_true, false_and, and_false, bne_self_eq_false, beq_self_eq_true, Int.reduceEq, Nat.reduceEqDiff, List.length_singleton, List.tail_cons, Int.reduceLE, Int.reduceLT, decide_eq_true_eq]
        exact hnext
      | cons x r =>
        have hl := (partsM_ok ws M (w.extract k w.size) (by omega) (by rw [hp]; simp)).len
        rw [hp, List.length_cons] at hl
        have c3 : ((0 : Int) < ((x :: r).length : Int)) = True := tru (by simp)
        have c2 : (1 + (x :: r).length ≤ 8796093022208) = True := tru (by simp; omega)
        have ej : PV.list ([PV.sc (.string (w.extract 0 k))] ++ (strsP (x :: r)).items) = strsP (w.extract 0 k :: x :: r) := rfl
        simp only [headD_one, strs_len, List.length_singleton, c3, c2, ej, if_true, decide_true]
        exact Ev3.now _
    · simp only [hm, wn, strs_len, strs_elem, ints_len, ints_elem, items_list, fld_agg, elem_list, toStr_sc, toInt_sc, toBool_sc, headD_one, nat_int, get_bt, decide_eq_true_eq, decide_eq_false_iff_not, decide_true, decide_false, if_true, if_false, ite_self, Bool.not_true, Bool.not_false, Bool.false_eq_true, Bool.true_eq_false, Bool.true_and, Bool.false_and, Bool.and_true, Bool.and_false, not_true, not_false_iff, Option.bind_some, nn, toList_inj, Bool.not_eq_true', Bool.not_eq_false', Int.le_refl, and_self, true_and, and_true, false_and, and_false, bne_self_eq_false, beq_self_eq_true, Int.reduceEq, Nat.reduceEqDiff, List.length_singleton, List.tail_cons, Int.reduceLE, Int.reduceLT, decide_eq_true_eq]
      exact hnext
theorem parts_g {ws : List ByteArray} (hwl : ws.length ≤ 1000000) : ∀ (M : Nat) (w : ByteArray), M ≤ 10 → w.size ≤ 1000000 →
    Ev2 (fun N d => spec_l10Parts.g N d [strsP ws, strP w, intP ((M + 1 : Nat) : Int)]) [strsP (partsM ws M w)] := by
  intro M
  induction M with
  | zero =>
    intro w _ hw
    have c0 : (((0 + 1 : Nat) : Int) = 1) = True := tru rfl
    refine Ev2.succ ?_
    simp only [spec_l10Parts.g_eq, c0, strs_len, strs_elem, ints_len, ints_elem, items_list, fld_agg, elem_list, toStr_sc, toInt_sc, toBool_sc, headD_one, nat_int, get_bt, decide_eq_true_eq, decide_eq_false_iff_not, decide_true, decide_false, if_true, if_false, ite_self, Bool.not_true, Bool.not_false, Bool.false_eq_true, Bool.true_eq_false, Bool.true_and, Bool.false_and, Bool.and_true, Bool.and_false, not_true, not_false_iff, Option.bind_some, nn, toList_inj, Bool.not_eq_true', Bool.not_eq_false', Int.le_refl, and_self, true_and, and_true, false_and, and_false, bne_self_eq_false, beq_self_eq_true, Int.reduceEq, Nat.reduceEqDiff, List.length_singleton, List.tail_cons, Int.reduceLE, Int.reduceLT, decide_eq_true_eq]
    refine Ev2.bind (l2In_ev (by omega) w) ?_
    unfold partsM
    by_cases hm : w ∈ ws
    · simp only [hm, strs_len, strs_elem, ints_len, ints_elem, items_list, fld_agg, elem_list, toStr_sc, toInt_sc, toBool_sc, headD_one, nat_int, get_bt, decide_eq_true_eq, decide_eq_false_iff_not, decide_true, decide_false, if_true, if_false, ite_self, Bool.not_true, Bool.not_false, Bool.false_eq_true, Bool.true_eq_false, Bool.true_and, Bool.false_and, Bool.and_true, Bool.and_false, not_true, not_false_iff, Option.bind_some, nn, toList_inj, Bool.not_eq_true', Bool.not_eq_false', Int.le_refl, and_self, true_and, and_true, false_and, and_false, bne_self_eq_false, beq_self_eq_true, Int.reduceEq, Nat.reduceEqDiff, List.length_singleton, List.tail_cons, Int.reduceLE, Int.reduceLT, decide_eq_true_eq]; exact Ev2.now _
    · simp only [hm, strs_len, strs_elem, ints_len, ints_elem, items_list, fld_agg, elem_list, toStr_sc, toInt_sc, toBool_sc, headD_one, nat_int, get_bt, decide_eq_true_eq, decide_eq_false_iff_not, decide_true, decide_false, if_true, if_false, ite_self, Bool.not_true, Bool.not_false, Bool.false_eq_true, Bool.true_eq_false, Bool.true_and, Bool.false_and, Bool.and_true, Bool.and_false, not_true, not_false_iff, Option.bind_some, nn, toList_inj, Bool.not_eq_true', Bool.not_eq_false', Int.le_refl, and_self, true_and, and_true, false_and, and_false, bne_self_eq_false, beq_self_eq_true, Int.reduceEq, Nat.reduceEqDiff, List.length_singleton, List.tail_cons, Int.reduceLE, Int.reduceLT, decide_eq_true_eq]; exact Ev2.now _
  | succ M ih =>
    intro w hM hw
    have c0 : (((M + 1 + 1 : Nat) : Int) = 1) = False := fls (by omega)
    have h := Ev3.row (parts_l0 hwl hw (by omega : M ≤ 10) (fun v h3 hv => ih v (by omega) hv) (w.size - 5) 3 (fun _ => by omega) (fun _ => by omega) (Nat.le_refl _) (by omega))
    refine Ev2.succ ?_
    simp only [spec_l10Parts.g_eq, c0, strs_len, strs_elem, ints_len, ints_elem, items_list, fld_agg, elem_list, toStr_sc, toInt_sc, toBool_sc, headD_one, nat_int, get_bt, decide_eq_true_eq, decide_eq_false_iff_not, decide_true, decide_false, if_true, if_false, ite_self, Bool.not_true, Bool.not_false, Bool.false_eq_true, Bool.true_eq_false, Bool.true_and, Bool.false_and, Bool.and_true, Bool.and_false, not_true, not_false_iff, Option.bind_some, nn, toList_inj, Bool.not_eq_true', Bool.not_eq_false', Int.le_refl, and_self, true_and, and_true, false_and, and_false, bne_self_eq_false, beq_self_eq_true, Int.reduceEq, Nat.reduceEqDiff, List.length_singleton, List.tail_cons, Int.reduceLE, Int.reduceLT, decide_eq_true_eq]
    exact h
theorem l10Of_ev {ws : List ByteArray} (hwl : ws.length ≤ 1000000) (w : ByteArray) (hw : w.size ≤ 1000000) : Ev (fun N => spec_l10Of.f N [strsP ws, PV.sc (.string w)]) [strsP (partsB ws w)] := by
  have d1 := parts_g (ws := ws) hwl 1 w (by omega) hw
  have d2 := parts_g (ws := ws) hwl 2 w (by omega) hw
  have e1 : (((1 + 1 : Nat)) : Int) = 2 := rfl
  have e2 : (((2 + 1 : Nat)) : Int) = 3 := rfl
  rw [e1] at d1
  rw [e2] at d2
  simp only [strP, intP] at d1 d2
  simp only [spec_l10Of.f_eq, spec_l10Parts.f_eq, strs_len, strs_elem, ints_len, ints_elem, items_list, fld_agg, elem_list, toStr_sc, toInt_sc, toBool_sc, headD_one, nat_int, get_bt, decide_eq_true_eq, decide_eq_false_iff_not, decide_true, decide_false, if_true, if_false, ite_self, Bool.not_true, Bool.not_false, Bool.false_eq_true, Bool.true_eq_false, Bool.true_and, Bool.false_and, Bool.and_true, Bool.and_false, not_true, not_false_iff, Option.bind_some, nn, toList_inj, Bool.not_eq_true', Bool.not_eq_false', Int.le_refl, and_self, true_and, and_true, false_and, and_false, bne_self_eq_false, beq_self_eq_true, Int.reduceEq, Nat.reduceEqDiff, List.length_singleton, List.tail_cons, Int.reduceLE, Int.reduceLT, decide_eq_true_eq]
  refine Ev.bind d1.diag ?_
  unfold partsB
  cases h1 : partsM ws 1 w with
  | cons x r =>
    have c3 : ((0 : Int) < ((x :: r).length : Int)) = True := tru (by simp)
    simp only [c3, strs_len, strs_elem, ints_len, ints_elem, items_list, fld_agg, elem_list, toStr_sc, toInt_sc, toBool_sc, headD_one, nat_int, get_bt, decide_eq_true_eq, decide_eq_false_iff_not, decide_true, decide_false, if_true, if_false, ite_self, Bool.not_true, Bool.not_false, Bool.false_eq_true, Bool.true_eq_false, Bool.true_and, Bool.false_and, Bool.and_true, Bool.and_false, not_true, not_false_iff, Option.bind_some, nn, toList_inj, Bool.not_eq_true', Bool.not_eq_false', Int.le_refl, and_self, true_and, and_true, false_and, and_false, bne_self_eq_false, beq_self_eq_true, Int.reduceEq, Nat.reduceEqDiff, List.length_singleton, List.tail_cons, Int.reduceLE, Int.reduceLT, decide_eq_true_eq]
    exact Ev.now _
  | nil =>
    have c3 : ((0 : Int) < (([] : List ByteArray).length : Int)) = False := fls (by simp)
    simp only [c3, strs_len, strs_elem, ints_len, ints_elem, items_list, fld_agg, elem_list, toStr_sc, toInt_sc, toBool_sc, headD_one, nat_int, get_bt, decide_eq_true_eq, decide_eq_false_iff_not, decide_true, decide_false, if_true, if_false, ite_self, Bool.not_true, Bool.not_false, Bool.false_eq_true, Bool.true_eq_false, Bool.true_and, Bool.false_and, Bool.and_true, Bool.and_false, not_true, not_false_iff, Option.bind_some, nn, toList_inj, Bool.not_eq_true', Bool.not_eq_false', Int.le_refl, and_self, true_and, and_true, false_and, and_false, bne_self_eq_false, beq_self_eq_true, Int.reduceEq, Nat.reduceEqDiff, List.length_singleton, List.tail_cons, Int.reduceLE, Int.reduceLT, decide_eq_true_eq]
    refine Ev.bind d2.diag ?_
    simp only [strs_len, strs_elem, ints_len, ints_elem, items_list, fld_agg, elem_list, toStr_sc, toInt_sc, toBool_sc, headD_one, nat_int, get_bt, decide_eq_true_eq, decide_eq_false_iff_not, decide_true, decide_false, if_true, if_false, ite_self, Bool.not_true, Bool.not_false, Bool.false_eq_true, Bool.true_eq_false, Bool.true_and, Bool.false_and, Bool.and_true, Bool.and_false, not_true, not_false_iff, Option.bind_some, nn, toList_inj, Bool.not_eq_true', Bool.not_eq_false', Int.le_refl, and_self, true_and, and_true, false_and, and_false, bne_self_eq_false, beq_self_eq_true, Int.reduceEq, Nat.reduceEqDiff, List.length_singleton, List.tail_cons, Int.reduceLE, Int.reduceLT, decide_eq_true_eq]
    exact Ev.now _
theorem specParts_ev {af : List Aff} {es : List Ent} (hs : BookS af es) (w : ByteArray) (hw : w.size ≤ 1000000000) : Ev (fun N => spec_PartsOf.f N [bookP af es, strP w]) [strsP (partsR af es w)] := by
  have hwo := specWord_ev w (by omega)
  simp only [strP] at hwo
  have ne : PV.list [] = strsP [] := rfl
  simp only [spec_PartsOf.f_eq, book_f0, book_f1, book_agg, strs_len, strs_elem, ints_len, ints_elem, items_list, fld_agg, elem_list, toStr_sc, toInt_sc, toBool_sc, headD_one, nat_int, get_bt, decide_eq_true_eq, decide_eq_false_iff_not, decide_true, decide_false, if_true, if_false, ite_self, Bool.not_true, Bool.not_false, Bool.false_eq_true, Bool.true_eq_false, Bool.true_and, Bool.false_and, Bool.and_true, Bool.and_false, not_true, not_false_iff, Option.bind_some, nn, toList_inj, Bool.not_eq_true', Bool.not_eq_false', Int.le_refl, and_self, true_and, and_true, false_and, and_false, bne_self_eq_false, beq_self_eq_true, Int.reduceEq, Nat.reduceEqDiff, List.length_singleton, List.tail_cons, Int.reduceLE, Int.reduceLT, decide_eq_true_eq]
  refine Ev.bind (specBookOk_ev hs) ?_
  cases hb : bookB af es with
  | false =>
    simp only [partsR, hb, ne, strs_len, strs_elem, ints_len, ints_elem, items_list, fld_agg, elem_list, toStr_sc, toInt_sc, toBool_sc, headD_one, nat_int, get_bt, decide_eq_true_eq, decide_eq_false_iff_not, decide_true, decide_false, if_true, if_false, ite_self, Bool.not_true, Bool.not_false, Bool.false_eq_true, Bool.true_eq_false, Bool.true_and, Bool.false_and, Bool.and_true, Bool.and_false, not_true, not_false_iff, Option.bind_some, nn, toList_inj, Bool.not_eq_true', Bool.not_eq_false', Int.le_refl, and_self, true_and, and_true, false_and, and_false, bne_self_eq_false, beq_self_eq_true, Int.reduceEq, Nat.reduceEqDiff, List.length_singleton, List.tail_cons, Int.reduceLE, Int.reduceLT, decide_eq_true_eq]
    exact Ev.now _
  | true =>
    simp only [strs_len, strs_elem, ints_len, ints_elem, items_list, fld_agg, elem_list, toStr_sc, toInt_sc, toBool_sc, headD_one, nat_int, get_bt, decide_eq_true_eq, decide_eq_false_iff_not, decide_true, decide_false, if_true, if_false, ite_self, Bool.not_true, Bool.not_false, Bool.false_eq_true, Bool.true_eq_false, Bool.true_and, Bool.false_and, Bool.and_true, Bool.and_false, not_true, not_false_iff, Option.bind_some, nn, toList_inj, Bool.not_eq_true', Bool.not_eq_false', Int.le_refl, and_self, true_and, and_true, false_and, and_false, bne_self_eq_false, beq_self_eq_true, Int.reduceEq, Nat.reduceEqDiff, List.length_singleton, List.tail_cons, Int.reduceLE, Int.reduceLT, decide_eq_true_eq]
    refine Ev.bind hwo ?_
    cases hi : isWord w with
    | false =>
      simp only [partsR, hb, hi, ne, strs_len, strs_elem, ints_len, ints_elem, items_list, fld_agg, elem_list, toStr_sc, toInt_sc, toBool_sc, headD_one, nat_int, get_bt, decide_eq_true_eq, decide_eq_false_iff_not, decide_true, decide_false, if_true, if_false, ite_self, Bool.not_true, Bool.not_false, Bool.false_eq_true, Bool.true_eq_false, Bool.true_and, Bool.false_and, Bool.and_true, Bool.and_false, not_true, not_false_iff, Option.bind_some, nn, toList_inj, Bool.not_eq_true', Bool.not_eq_false', Int.le_refl, and_self, true_and, and_true, false_and, and_false, bne_self_eq_false, beq_self_eq_true, Int.reduceEq, Nat.reduceEqDiff, List.length_singleton, List.tail_cons, Int.reduceLE, Int.reduceLT, decide_eq_true_eq]
      exact Ev.now _
    | true =>
      have hF := bookB_facts hb
      have hlen := bookW_len hF
      have hsz := word_size hi
      simp only [strs_len, strs_elem, ints_len, ints_elem, items_list, fld_agg, elem_list, toStr_sc, toInt_sc, toBool_sc, headD_one, nat_int, get_bt, decide_eq_true_eq, decide_eq_false_iff_not, decide_true, decide_false, if_true, if_false, ite_self, Bool.not_true, Bool.not_false, Bool.false_eq_true, Bool.true_eq_false, Bool.true_and, Bool.false_and, Bool.and_true, Bool.and_false, not_true, not_false_iff, Option.bind_some, nn, toList_inj, Bool.not_eq_true', Bool.not_eq_false', Int.le_refl, and_self, true_and, and_true, false_and, and_false, bne_self_eq_false, beq_self_eq_true, Int.reduceEq, Nat.reduceEqDiff, List.length_singleton, List.tail_cons, Int.reduceLE, Int.reduceLT, decide_eq_true_eq]
      refine Ev.bind (bookW_ok hF) ?_
      simp only [partsR, hb, hi, strs_len, strs_elem, ints_len, ints_elem, items_list, fld_agg, elem_list, toStr_sc, toInt_sc, toBool_sc, headD_one, nat_int, get_bt, decide_eq_true_eq, decide_eq_false_iff_not, decide_true, decide_false, if_true, if_false, ite_self, Bool.not_true, Bool.not_false, Bool.false_eq_true, Bool.true_eq_false, Bool.true_and, Bool.false_and, Bool.and_true, Bool.and_false, not_true, not_false_iff, Option.bind_some, nn, toList_inj, Bool.not_eq_true', Bool.not_eq_false', Int.le_refl, and_self, true_and, and_true, false_and, and_false, bne_self_eq_false, beq_self_eq_true, Int.reduceEq, Nat.reduceEqDiff, List.length_singleton, List.tail_cons, Int.reduceLE, Int.reduceLT, decide_eq_true_eq]
      refine Ev.bind (l10Of_ev (by omega) w (by omega)) ?_
      simp only [strs_len, strs_elem, ints_len, ints_elem, items_list, fld_agg, elem_list, toStr_sc, toInt_sc, toBool_sc, headD_one, nat_int, get_bt, decide_eq_true_eq, decide_eq_false_iff_not, decide_true, decide_false, if_true, if_false, ite_self, Bool.not_true, Bool.not_false, Bool.false_eq_true, Bool.true_eq_false, Bool.true_and, Bool.false_and, Bool.and_true, Bool.and_false, not_true, not_false_iff, Option.bind_some, nn, toList_inj, Bool.not_eq_true', Bool.not_eq_false', Int.le_refl, and_self, true_and, and_true, false_and, and_false, bne_self_eq_false, beq_self_eq_true, Int.reduceEq, Nat.reduceEqDiff, List.length_singleton, List.tail_cons, Int.reduceLE, Int.reduceLT, decide_eq_true_eq]
      exact Ev.now _
/-! #### marks -/
theorem ten_zero : ((10 : Int) = 0) = False := by simp
theorem one_byte (p : PV) : (bytesOfL [p]).size = 1 := rfl
theorem markText_loop : ∀ (n : Nat) (x : Int) (t : ByteArray), x < (n : Int) → t.size + n ≤ 9223372036854775000 → ∃ r, Ev2 (fun N m => laws_markText.l0 N m x t) [strP r] := by
  intro n
  induction n with
  | zero =>
    intro x t hx ht
    refine ⟨(⟨#[109]⟩ : ByteArray) ++ t, Ev2.succ ?_⟩
    have hsz : (ByteArray.mk #[109]).size + t.size ≤ 9223372036854775807 := by have : (ByteArray.mk #[109]).size = 1 := rfl; omega
    simp only [laws_markText.l0_eq, eq_false (show ¬ 0 < x by omega), hsz, strs_len, strs_elem, ints_len, ints_elem, items_list, fld_agg, elem_list, toStr_sc, toInt_sc, toBool_sc, headD_one, nat_int, get_bt, decide_eq_true_eq, decide_eq_false_iff_not, decide_true, decide_false, if_true, if_false, ite_self, Bool.not_true, Bool.not_false, Bool.false_eq_true, Bool.true_eq_false, Bool.true_and, Bool.false_and, Bool.and_true, Bool.and_false, not_true, not_false_iff, Option.bind_some, nn, toList_inj, Bool.not_eq_true', Bool.not_eq_false', Int.le_refl, and_self, true_and, and_true, false_and, and_false, bne_self_eq_false, beq_self_eq_true, Int.reduceEq, Nat.reduceEqDiff, List.length_singleton, List.tail_cons, Int.reduceLE, Int.reduceLT, decide_eq_true_eq]
    exact Ev2.now _
  | succ n ih =>
    intro x t hx ht
    by_cases h0 : 0 < x
    · have hd : Int.tdiv x 10 < (n : Int) := by
        rw [Int.tdiv_eq_ediv_of_nonneg (by omega)]; omega
      have hdn : 0 ≤ Int.tdiv x 10 := by rw [Int.tdiv_eq_ediv_of_nonneg (by omega)]; omega
      have hw : IntKind.i64.wrap (Int.tdiv x 10) = Int.tdiv x 10 := wrap_id (by omega) (by omega)
      obtain ⟨r, hr⟩ := ih (Int.tdiv x 10) (bytesOfL [(PV.sc (.int .u8 (IntKind.u8.wrap (IntKind.i64.wrap (48 + (Int.tmod x 10))))))] ++ t) hd (by rw [ByteArray.size_append, one_byte]; omega)
      refine ⟨r, Ev2.succ ?_⟩
      have hsz : 1 + t.size ≤ 9223372036854775807 := by omega
      simp only [laws_markText.l0_eq, h0, ten_zero, one_byte, hsz, hw, strs_len, strs_elem, ints_len, ints_elem, items_list, fld_agg, elem_list, toStr_sc, toInt_sc, toBool_sc, headD_one, nat_int, get_bt, decide_eq_true_eq, decide_eq_false_iff_not, decide_true, decide_false, if_true, if_false, ite_self, Bool.not_true, Bool.not_false, Bool.false_eq_true, Bool.true_eq_false, Bool.true_and, Bool.false_and, Bool.and_true, Bool.and_false, not_true, not_false_iff, Option.bind_some, nn, toList_inj, Bool.not_eq_true', Bool.not_eq_false', Int.le_refl, and_self, true_and, and_true, false_and, and_false, bne_self_eq_false, beq_self_eq_true, Int.reduceEq, Nat.reduceEqDiff, List.length_singleton, List.tail_cons, Int.reduceLE, Int.reduceLT, decide_eq_true_eq]
      exact hr
    · refine ⟨(⟨#[109]⟩ : ByteArray) ++ t, Ev2.succ ?_⟩
      have hsz : (ByteArray.mk #[109]).size + t.size ≤ 9223372036854775807 := by have : (ByteArray.mk #[109]).size = 1 := rfl; omega
      simp only [laws_markText.l0_eq, h0, hsz, strs_len, strs_elem, ints_len, ints_elem, items_list, fld_agg, elem_list, toStr_sc, toInt_sc, toBool_sc, headD_one, nat_int, get_bt, decide_eq_true_eq, decide_eq_false_iff_not, decide_true, decide_false, if_true, if_false, ite_self, Bool.not_true, Bool.not_false, Bool.false_eq_true, Bool.true_eq_false, Bool.true_and, Bool.false_and, Bool.and_true, Bool.and_false, not_true, not_false_iff, Option.bind_some, nn, toList_inj, Bool.not_eq_true', Bool.not_eq_false', Int.le_refl, and_self, true_and, and_true, false_and, and_false, bne_self_eq_false, beq_self_eq_true, Int.reduceEq, Nat.reduceEqDiff, List.length_singleton, List.tail_cons, Int.reduceLE, Int.reduceLT, decide_eq_true_eq]
      exact Ev2.now _
theorem markText_total (x : Int) (hx : x < 4611686018427387904) : ∃ r, Ev (fun N => laws_markText.f N [intP x]) [strP r] := by
  by_cases h : x ≤ 0
  · refine ⟨(⟨#[109, 48]⟩ : ByteArray), ?_⟩
    simp only [laws_markText.f_eq, h, strs_len, strs_elem, ints_len, ints_elem, items_list, fld_agg, elem_list, toStr_sc, toInt_sc, toBool_sc, headD_one, nat_int, get_bt, decide_eq_true_eq, decide_eq_false_iff_not, decide_true, decide_false, if_true, if_false, ite_self, Bool.not_true, Bool.not_false, Bool.false_eq_true, Bool.true_eq_false, Bool.true_and, Bool.false_and, Bool.and_true, Bool.and_false, not_true, not_false_iff, Option.bind_some, nn, toList_inj, Bool.not_eq_true', Bool.not_eq_false', Int.le_refl, and_self, true_and, and_true, false_and, and_false, bne_self_eq_false, beq_self_eq_true, Int.reduceEq, Nat.reduceEqDiff, List.length_singleton, List.tail_cons, Int.reduceLE, Int.reduceLT, decide_eq_true_eq]; exact Ev.now _
  · obtain ⟨r, hr⟩ := markText_loop x.toNat.succ x ⟨#[]⟩ (by omega) (by simp [ByteArray.size]; omega)
    refine ⟨r, ?_⟩
    simp only [laws_markText.f_eq, h, strs_len, strs_elem, ints_len, ints_elem, items_list, fld_agg, elem_list, toStr_sc, toInt_sc, toBool_sc, headD_one, nat_int, get_bt, decide_eq_true_eq, decide_eq_false_iff_not, decide_true, decide_false, if_true, if_false, ite_self, Bool.not_true, Bool.not_false, Bool.false_eq_true, Bool.true_eq_false, Bool.true_and, Bool.false_and, Bool.and_true, Bool.and_false, not_true, not_false_iff, Option.bind_some, nn, toList_inj, Bool.not_eq_true', Bool.not_eq_false', Int.le_refl, and_self, true_and, and_true, false_and, and_false, bne_self_eq_false, beq_self_eq_true, Int.reduceEq, Nat.reduceEqDiff, List.length_singleton, List.tail_cons, Int.reduceLE, Int.reduceLT, decide_eq_true_eq]
    exact hr.diag
noncomputable def mt (x : Int) : ByteArray := if h : x < 4611686018427387904 then Classical.choose (markText_total x h) else ByteArray.empty
theorem markText_ev (x : Int) (hx : x < 4611686018427387904) : Ev (fun N => laws_markText.f N [intP x]) [strP (mt x)] := by
  unfold mt
  rw [dif_pos hx]
  exact Classical.choose_spec (markText_total x hx)
noncomputable def markStrs : Int → List ByteArray → List ByteArray
  | _, [] => []
  | k, _ :: l => mt k :: markStrs (k + 1) l
theorem markStrs_len (k : Int) (l : List ByteArray) : (markStrs k l).length = l.length := by
  induction l generalizing k with
  | nil => rfl
  | cons c l ih => simp [markStrs, ih]
theorem markStringS_loop (n : Nat) (hn : n ≤ 1152921504606846976) : ∀ rest pre : List ByteArray, pre.length + rest.length = n → ∀ x : Int, x + rest.length < 4611686018427387904 → 0 ≤ x →
    Ev2 (fun N m => laws_markStringS.l1 N m x (pre.length : Int) ((pre ++ rest).map strP)) [intP (x + rest.length), strsP (pre ++ markStrs x rest)] := by
  intro rest
  induction rest with
  | nil =>
    intro pre hp x hx h0
    refine Ev2.succ ?_
    simp only [laws_markStringS.l1_eq, List.length_map, at_end (xs := pre ++ []) rfl, markStrs, List.length_nil, Int.natCast_zero, Int.add_zero, strs_len, strs_elem, ints_len, ints_elem, items_list, fld_agg, elem_list, toStr_sc, toInt_sc, toBool_sc, headD_one, nat_int, get_bt, decide_eq_true_eq, decide_eq_false_iff_not, decide_true, decide_false, if_true, if_false, ite_self, Bool.not_true, Bool.not_false, Bool.false_eq_true, Bool.true_eq_false, Bool.true_and, Bool.false_and, Bool.and_true, Bool.and_false, not_true, not_false_iff, Option.bind_some, nn, toList_inj, Bool.not_eq_true', Bool.not_eq_false', Int.le_refl, and_self, true_and, and_true, false_and, and_false, bne_self_eq_false, beq_self_eq_true, Int.reduceEq, Nat.reduceEqDiff, List.length_singleton, List.tail_cons, Int.reduceLE, Int.reduceLT, decide_eq_true_eq]
    exact Ev2.now _
  | cons c rest ih =>
    intro pre hp x hx h0
    simp only [List.length_cons] at hx hp
    have hset : ((pre ++ c :: rest).map strP).set pre.length (strP (mt x)) = ((pre ++ [mt x]) ++ rest).map strP := by
      simp
    refine Ev2.succ ?_
    simp only [laws_markStringS.l1_eq, List.length_map, at_lt (xs := pre ++ c :: rest) rfl, at_next (xs := pre ++ c :: rest) rfl (by simp; omega), wrap_id (n := x + 1) (by omega) (by omega), strs_len, strs_elem, ints_len, ints_elem, items_list, fld_agg, elem_list, toStr_sc, toInt_sc, toBool_sc, headD_one, nat_int, get_bt, decide_eq_true_eq, decide_eq_false_iff_not, decide_true, decide_false, if_true, if_false, ite_self, Bool.not_true, Bool.not_false, Bool.false_eq_true, Bool.true_eq_false, Bool.true_and, Bool.false_and, Bool.and_true, Bool.and_false, not_true, not_false_iff, Option.bind_some, nn, toList_inj, Bool.not_eq_true', Bool.not_eq_false', Int.le_refl, and_self, true_and, and_true, false_and, and_false, bne_self_eq_false, beq_self_eq_true, Int.reduceEq, Nat.reduceEqDiff, List.length_singleton, List.tail_cons, Int.reduceLE, Int.reduceLT, decide_eq_true_eq]
    refine Ev2.bind (markText_ev x (by omega)) ?_
    simp only [strs_len, strs_elem, ints_len, ints_elem, items_list, fld_agg, elem_list, toStr_sc, toInt_sc, toBool_sc, headD_one, nat_int, get_bt, decide_eq_true_eq, decide_eq_false_iff_not, decide_true, decide_false, if_true, if_false, ite_self, Bool.not_true, Bool.not_false, Bool.false_eq_true, Bool.true_eq_false, Bool.true_and, Bool.false_and, Bool.and_true, Bool.and_false, not_true, not_false_iff, Option.bind_some, nn, toList_inj, Bool.not_eq_true', Bool.not_eq_false', Int.le_refl, and_self, true_and, and_true, false_and, and_false, bne_self_eq_false, beq_self_eq_true, Int.reduceEq, Nat.reduceEqDiff, List.length_singleton, List.tail_cons, Int.reduceLE, Int.reduceLT, decide_eq_true_eq, hset]
    have := ih (pre ++ [mt x]) (by simp; omega) (x + 1) (by omega) (by omega)
    have e : (pre ++ [mt x]).length = (pre ++ [c]).length := by simp
    rw [e] at this
    refine Ev2.ext this ?_
    simp only [markStrs, List.append_assoc, List.cons_append, List.nil_append, List.length_cons]
    congr 1
    simp; omega
theorem markStringS_ev (l : List ByteArray) (x : Int) (hl : l.length ≤ 1152921504606846976) (hx : x + l.length < 4611686018427387904) (h0 : 0 ≤ x) :
    Ev (fun N => laws_markStringS.f N [strsP l, intP x]) [intP (x + l.length), strsP (markStrs x l)] := by
  simp only [laws_markStringS.f_eq, strs_len, strs_elem, ints_len, ints_elem, items_list, fld_agg, elem_list, toStr_sc, toInt_sc, toBool_sc, headD_one, nat_int, get_bt, decide_eq_true_eq, decide_eq_false_iff_not, decide_true, decide_false, if_true, if_false, ite_self, Bool.not_true, Bool.not_false, Bool.false_eq_true, Bool.true_eq_false, Bool.true_and, Bool.false_and, Bool.and_true, Bool.and_false, not_true, not_false_iff, Option.bind_some, nn, toList_inj, Bool.not_eq_true', Bool.not_eq_false', Int.le_refl, and_self, true_and, and_true, false_and, and_false, bne_self_eq_false, beq_self_eq_true, Int.reduceEq, Nat.reduceEqDiff, List.length_singleton, List.tail_cons, Int.reduceLE, Int.reduceLT, decide_eq_true_eq]
  refine Ev2.diag (g := fun N n => laws_markStringS.l0 N n x 0 (strsP l)) (Ev2.succ ?_)
  cases l with
  | nil =>
    have h00 : ¬ (0 : Int) < (([] : List ByteArray).length : Int) := by simp
    simp only [laws_markStringS.l0_eq, strs_len, strs_elem, ints_len, ints_elem, items_list, fld_agg, elem_list, toStr_sc, toInt_sc, toBool_sc, headD_one, nat_int, get_bt, decide_eq_true_eq, decide_eq_false_iff_not, decide_true, decide_false, if_true, if_false, ite_self, Bool.not_true, Bool.not_false, Bool.false_eq_true, Bool.true_eq_false, Bool.true_and, Bool.false_and, Bool.and_true, Bool.and_false, not_true, not_false_iff, Option.bind_some, nn, toList_inj, Bool.not_eq_true', Bool.not_eq_false', Int.le_refl, and_self, true_and, and_true, false_and, and_false, bne_self_eq_false, beq_self_eq_true, Int.reduceEq, Nat.reduceEqDiff, List.length_singleton, List.tail_cons, Int.reduceLE, Int.reduceLT, decide_eq_true_eq, h00]
    refine Ev2.ext (Ev2.now _) ?_
    simp [markStrs]
  | cons c rest =>
    have hp : c :: rest = [] ++ c :: rest := rfl
    simp only [List.length_cons] at hx hl
    have hset : ((strsP (c :: rest)).items.set 0 (strP (mt x))) = (([] ++ [mt x]) ++ rest).map strP := by simp [strsP, PV.items]
    have h00 : (0 : Int) < (((c :: rest).length : Nat) : Int) := by simp only [List.length_cons]; omega
    have h01 : IntKind.i64.wrap (0 + 1) = (([] ++ [mt x] : List ByteArray).length : Int) := by rw [wrap_id (by omega) (by omega)]; simp
    simp only [laws_markStringS.l0_eq, strs_len, strs_elem, ints_len, ints_elem, items_list, fld_agg, elem_list, toStr_sc, toInt_sc, toBool_sc, headD_one, nat_int, get_bt, decide_eq_true_eq, decide_eq_false_iff_not, decide_true, decide_false, if_true, if_false, ite_self, Bool.not_true, Bool.not_false, Bool.false_eq_true, Bool.true_eq_false, Bool.true_and, Bool.false_and, Bool.and_true, Bool.and_false, not_true, not_false_iff, Option.bind_some, nn, toList_inj, Bool.not_eq_true', Bool.not_eq_false', Int.le_refl, and_self, true_and, and_true, false_and, and_false, bne_self_eq_false, beq_self_eq_true, Int.reduceEq, Nat.reduceEqDiff, List.length_singleton, List.tail_cons, Int.reduceLE, Int.reduceLT, decide_eq_true_eq, h00, h01, wrap_id (n := x + 1) (by omega) (by omega)]
    refine Ev2.bind (markText_ev x (by omega)) ?_
    have h02 : (0 : Int).toNat = 0 := rfl
    simp only [strs_len, strs_elem, ints_len, ints_elem, items_list, fld_agg, elem_list, toStr_sc, toInt_sc, toBool_sc, headD_one, nat_int, get_bt, decide_eq_true_eq, decide_eq_false_iff_not, decide_true, decide_false, if_true, if_false, ite_self, Bool.not_true, Bool.not_false, Bool.false_eq_true, Bool.true_eq_false, Bool.true_and, Bool.false_and, Bool.and_true, Bool.and_false, not_true, not_false_iff, Option.bind_some, nn, toList_inj, Bool.not_eq_true', Bool.not_eq_false', Int.le_refl, and_self, true_and, and_true, false_and, and_false, bne_self_eq_false, beq_self_eq_true, Int.reduceEq, Nat.reduceEqDiff, List.length_singleton, List.tail_cons, Int.reduceLE, Int.reduceLT, decide_eq_true_eq, h02, hset]
    refine Ev2.ext (markStringS_loop (rest.length + 1) (by omega) rest ([] ++ [mt x]) (by simp; omega) (x + 1) (by omega) (by omega)) ?_
    simp only [markStrs, List.append_assoc, List.cons_append, List.nil_append, List.length_cons]
    congr 1
    simp; omega
theorem heldStringS_loop (n : Nat) (hn : n ≤ 1152921504606846976) : ∀ rest pre : List ByteArray, pre.length + rest.length = n → ∀ x : Int, x + rest.length < 4611686018427387904 → 0 ≤ x →
    Ev2 (fun N m => laws_heldStringS.l0 N m (strsP (pre ++ markStrs x rest)) x (pre.length : Int)) [intP (x + rest.length)] := by
  intro rest
  induction rest with
  | nil =>
    intro pre hp x hx h0
    show Ev2 (fun N m => laws_heldStringS.l0 N m (strsP (pre ++ [])) x (pre.length : Int)) _
    refine Ev2.succ ?_
    simp only [laws_heldStringS.l0_eq, at_end (xs := pre ++ []) rfl, List.length_nil, Int.natCast_zero, Int.add_zero, strs_len, strs_elem, ints_len, ints_elem, items_list, fld_agg, elem_list, toStr_sc, toInt_sc, toBool_sc, headD_one, nat_int, get_bt, decide_eq_true_eq, decide_eq_false_iff_not, decide_true, decide_false, if_true, if_false, ite_self, Bool.not_true, Bool.not_false, Bool.false_eq_true, Bool.true_eq_false, Bool.true_and, Bool.false_and, Bool.and_true, Bool.and_false, not_true, not_false_iff, Option.bind_some, nn, toList_inj, Bool.not_eq_true', Bool.not_eq_false', Int.le_refl, and_self, true_and, and_true, false_and, and_false, bne_self_eq_false, beq_self_eq_true, Int.reduceEq, Nat.reduceEqDiff, List.length_singleton, List.tail_cons, Int.reduceLE, Int.reduceLT, decide_eq_true_eq]
    exact Ev2.now _
  | cons c rest ih =>
    intro pre hp x hx h0
    simp only [List.length_cons] at hx hp
    show Ev2 (fun N m => laws_heldStringS.l0 N m (strsP (pre ++ mt x :: markStrs (x + 1) rest)) x (pre.length : Int)) _
    have hq : pre ++ mt x :: markStrs (x + 1) rest = pre ++ mt x :: markStrs (x + 1) rest := rfl
    refine Ev2.succ ?_
    simp only [laws_heldStringS.l0_eq, at_lt hq, at_getD hq, at_next hq (by simp [markStrs_len]; omega), wrap_id (n := x + 1) (by omega) (by omega), strs_len, strs_elem, ints_len, ints_elem, items_list, fld_agg, elem_list, toStr_sc, toInt_sc, toBool_sc, headD_one, nat_int, get_bt, decide_eq_true_eq, decide_eq_false_iff_not, decide_true, decide_false, if_true, if_false, ite_self, Bool.not_true, Bool.not_false, Bool.false_eq_true, Bool.true_eq_false, Bool.true_and, Bool.false_and, Bool.and_true, Bool.and_false, not_true, not_false_iff, Option.bind_some, nn, toList_inj, Bool.not_eq_true', Bool.not_eq_false', Int.le_refl, and_self, true_and, and_true, false_and, and_false, bne_self_eq_false, beq_self_eq_true, Int.reduceEq, Nat.reduceEqDiff, List.length_singleton, List.tail_cons, Int.reduceLE, Int.reduceLT, decide_eq_true_eq]
    refine Ev2.bind (markText_ev x (by omega)) ?_
    simp only [strs_len, strs_elem, ints_len, ints_elem, items_list, fld_agg, elem_list, toStr_sc, toInt_sc, toBool_sc, headD_one, nat_int, get_bt, decide_eq_true_eq, decide_eq_false_iff_not, decide_true, decide_false, if_true, if_false, ite_self, Bool.not_true, Bool.not_false, Bool.false_eq_true, Bool.true_eq_false, Bool.true_and, Bool.false_and, Bool.and_true, Bool.and_false, not_true, not_false_iff, Option.bind_some, nn, toList_inj, Bool.not_eq_true', Bool.not_eq_false', Int.le_refl, and_self, true_and, and_true, false_and, and_false, bne_self_eq_false, beq_self_eq_true, Int.reduceEq, Nat.reduceEqDiff, List.length_singleton, List.tail_cons, Int.reduceLE, Int.reduceLT, decide_eq_true_eq]
    have := ih (pre ++ [mt x]) (by simp; omega) (x + 1) (by omega) (by omega)
    simp only [List.append_assoc, List.cons_append, List.nil_append] at this
    refine Ev2.ext this ?_
    congr 2
    simp; omega
theorem heldStringS_ev (l : List ByteArray) (x : Int) (hl : l.length ≤ 1152921504606846976) (hx : x + l.length < 4611686018427387904) (h0 : 0 ≤ x) :
    Ev (fun N => laws_heldStringS.f N [strsP (markStrs x l), intP x]) [intP (x + l.length)] := by
  simp only [laws_heldStringS.f_eq, strs_len, strs_elem, ints_len, ints_elem, items_list, fld_agg, elem_list, toStr_sc, toInt_sc, toBool_sc, headD_one, nat_int, get_bt, decide_eq_true_eq, decide_eq_false_iff_not, decide_true, decide_false, if_true, if_false, ite_self, Bool.not_true, Bool.not_false, Bool.false_eq_true, Bool.true_eq_false, Bool.true_and, Bool.false_and, Bool.and_true, Bool.and_false, not_true, not_false_iff, Option.bind_some, nn, toList_inj, Bool.not_eq_true', Bool.not_eq_false', Int.le_refl, and_self, true_and, and_true, false_and, and_false, bne_self_eq_false, beq_self_eq_true, Int.reduceEq, Nat.reduceEqDiff, List.length_singleton, List.tail_cons, Int.reduceLE, Int.reduceLT, decide_eq_true_eq]
  exact (heldStringS_loop l.length hl l [] (by simp) x hx h0).diag
/-! #### the laws' own helpers over books -/
theorem book_arg {P : Program} {t ta te ea ee b x : TypeId} (ht : tk P t = .struct [ta, te]) (hta : tk P ta = .slice ea) (hte : tk P te = .slice ee) (hea : tk P ea = .struct [x, b, x, x, x]) (hee : tk P ee = .struct [x, x]) (hx : tk P x = .str) (hb : tk P b = .bool) {n : Nat} {p : PV} (h : PvOk P (n + 5) t p) :
    ∃ (af : List Aff) (es : List Ent), p = bookP af es ∧ af.length ≤ reachBytes ∧ es.length ≤ reachBytes ∧ (∀ a ∈ af, (a.flag.size ≤ reachBytes ∧ a.strip.size ≤ reachBytes) ∧ a.add.size ≤ reachBytes ∧ a.cond.size ≤ reachBytes) ∧ ∀ e ∈ es, e.stem.size ≤ reachBytes ∧ e.flags.size ≤ reachBytes := by
  obtain ⟨qs, rfl, hqs⟩ := pvOk_struct ht h
  obtain ⟨p1, p2, rfl, h1, h2⟩ := pvOkL2 hqs
  obtain ⟨as1, rfl, a1, a2⟩ := pvOk_slice hta h1
  obtain ⟨es1, rfl, e1, e2⟩ := pvOk_slice hte h2
  obtain ⟨af, rfl, a3⟩ := map_of (f := affP) (φ := fun a => (a.flag.size ≤ reachBytes ∧ a.strip.size ≤ reachBytes) ∧ a.add.size ≤ reachBytes ∧ a.cond.size ≤ reachBytes) (ps := as1) (fun q hq => by
    obtain ⟨rs, rfl, hr⟩ := pvOk_struct hea (a2 q hq)
    obtain ⟨r1, rs1, rfl, hr1, hr⟩ := pvOkL_cons hr
    obtain ⟨r2, rs2, rfl, hr2, hr⟩ := pvOkL_cons hr
    obtain ⟨r3, r4, r5, rfl, hr3, hr4, hr5⟩ := pvOkL3 hr
    obtain ⟨s1, rfl, z1⟩ := pvOk_str hx hr1
    obtain ⟨b1, rfl⟩ := pvOk_bool hb hr2
    obtain ⟨s3, rfl, z3⟩ := pvOk_str hx hr3
    obtain ⟨s4, rfl, z4⟩ := pvOk_str hx hr4
    obtain ⟨s5, rfl, z5⟩ := pvOk_str hx hr5
    exact ⟨⟨s1, b1, s3, s4, s5⟩, rfl, ⟨z1, z3⟩, z4, z5⟩)
  obtain ⟨es, rfl, e3⟩ := map_of (f := entP) (φ := fun e => e.stem.size ≤ reachBytes ∧ e.flags.size ≤ reachBytes) (ps := es1) (fun q hq => by
    obtain ⟨rs, rfl, hr⟩ := pvOk_struct hee (e2 q hq)
    obtain ⟨r1, r2, rfl, hr1, hr2⟩ := pvOkL2 hr
    obtain ⟨s1, rfl, z1⟩ := pvOk_str hx hr1
    obtain ⟨s2, rfl, z2⟩ := pvOk_str hx hr2
    exact ⟨⟨s1, s2⟩, rfl, z1, z2⟩)
  exact ⟨af, es, rfl, by simpa using a1, by simpa using e1, a3, e3⟩
theorem szAff_val (a : Aff) (hf : a.flag.size ≤ 1000000000000000) (hs : a.strip.size ≤ 1000000000000000) (ha : a.add.size ≤ 1000000000000000) (hc : a.cond.size ≤ 1000000000000000) (left : Int) (h0 : 0 ≤ left) (h1 : left ≤ 1048576) :
    ∃ r : Int, (∀ N, laws_szAffix.f N [affP a, intP left] = some [intP r]) ∧ r ≤ left ∧ -1 ≤ r ∧ (0 ≤ r → AffS a) := by
  have w1 : IntKind.i64.wrap (left - (a.flag.size : Int)) = left - (a.flag.size : Int) := wrap_id (by omega) (by omega)
  have w2 : IntKind.i64.wrap (left - (a.flag.size : Int) - (a.strip.size : Int)) = left - (a.flag.size : Int) - (a.strip.size : Int) := wrap_id (by omega) (by omega)
  have w3 : IntKind.i64.wrap (left - (a.flag.size : Int) - (a.strip.size : Int) - (a.add.size : Int)) = left - (a.flag.size : Int) - (a.strip.size : Int) - (a.add.size : Int) := wrap_id (by omega) (by omega)
  have w4 : IntKind.i64.wrap (left - (a.flag.size : Int) - (a.strip.size : Int) - (a.add.size : Int) - (a.cond.size : Int)) = left - (a.flag.size : Int) - (a.strip.size : Int) - (a.add.size : Int) - (a.cond.size : Int) := wrap_id (by omega) (by omega)
  by_cases c1 : left - (a.flag.size : Int) < 0
  · exact ⟨-1, fun N => by simp only [laws_szAffix.f_eq, aff_f0, w1, c1, strs_len, strs_elem, ints_len, ints_elem, items_list, fld_agg, elem_list, toStr_sc, toInt_sc, toBool_sc, headD_one, nat_int, get_bt, decide_eq_true_eq, decide_eq_false_iff_not, decide_true, decide_false, if_true, if_false, ite_self, Bool.not_true, Bool.not_false, Bool.false_eq_true, Bool.true_eq_false, Bool.true_and, Bool.false_and, Bool.and_true, Bool.and_false, not_true, not_false_iff, Option.bind_some, nn, toList_inj, Bool.not_eq_true', Bool.not_eq_false', Int.le_refl, and_self, true_and, and_true, false_and, and_false, bne_self_eq_false, beq_self_eq_true, Int.reduceEq, Nat.reduceEqDiff, List.length_singleton, List.tail_cons, Int.reduceLE, Int.reduceLT, decide_eq_true_eq], by omega, by omega, fun h => by omega⟩
  by_cases c2 : left - (a.flag.size : Int) - (a.strip.size : Int) < 0
  · exact ⟨-1, fun N => by simp only [laws_szAffix.f_eq, aff_f0, aff_f2, w1, w2, c1, c2, strs_len, strs_elem, ints_len, ints_elem, items_list, fld_agg, elem_list, toStr_sc, toInt_sc, toBool_sc, headD_one, nat_int, get_bt, decide_eq_true_eq, decide_eq_false_iff_not, decide_true, decide_false, if_true, if_false, ite_self, Bool.not_true, Bool.not_false, Bool.false_eq_true, Bool.true_eq_false, Bool.true_and, Bool.false_and, Bool.and_true, Bool.and_false, not_true, not_false_iff, Option.bind_some, nn, toList_inj, Bool.not_eq_true', Bool.not_eq_false', Int.le_refl, and_self, true_and, and_true, false_and, and_false, bne_self_eq_false, beq_self_eq_true, Int.reduceEq, Nat.reduceEqDiff, List.length_singleton, List.tail_cons, Int.reduceLE, Int.reduceLT, decide_eq_true_eq], by omega, by omega, fun h => by omega⟩
  by_cases c3 : left - (a.flag.size : Int) - (a.strip.size : Int) - (a.add.size : Int) < 0
  · exact ⟨-1, fun N => by simp only [laws_szAffix.f_eq, aff_f0, aff_f2, aff_f3, w1, w2, w3, c1, c2, c3, strs_len, strs_elem, ints_len, ints_elem, items_list, fld_agg, elem_list, toStr_sc, toInt_sc, toBool_sc, headD_one, nat_int, get_bt, decide_eq_true_eq, decide_eq_false_iff_not, decide_true, decide_false, if_true, if_false, ite_self, Bool.not_true, Bool.not_false, Bool.false_eq_true, Bool.true_eq_false, Bool.true_and, Bool.false_and, Bool.and_true, Bool.and_false, not_true, not_false_iff, Option.bind_some, nn, toList_inj, Bool.not_eq_true', Bool.not_eq_false', Int.le_refl, and_self, true_and, and_true, false_and, and_false, bne_self_eq_false, beq_self_eq_true, Int.reduceEq, Nat.reduceEqDiff, List.length_singleton, List.tail_cons, Int.reduceLE, Int.reduceLT, decide_eq_true_eq], by omega, by omega, fun h => by omega⟩
  by_cases c4 : left - (a.flag.size : Int) - (a.strip.size : Int) - (a.add.size : Int) - (a.cond.size : Int) < 0
  · exact ⟨-1, fun N => by simp only [laws_szAffix.f_eq, aff_f0, aff_f2, aff_f3, aff_f4, w1, w2, w3, w4, c1, c2, c3, c4, strs_len, strs_elem, ints_len, ints_elem, items_list, fld_agg, elem_list, toStr_sc, toInt_sc, toBool_sc, headD_one, nat_int, get_bt, decide_eq_true_eq, decide_eq_false_iff_not, decide_true, decide_false, if_true, if_false, ite_self, Bool.not_true, Bool.not_false, Bool.false_eq_true, Bool.true_eq_false, Bool.true_and, Bool.false_and, Bool.and_true, Bool.and_false, not_true, not_false_iff, Option.bind_some, nn, toList_inj, Bool.not_eq_true', Bool.not_eq_false', Int.le_refl, and_self, true_and, and_true, false_and, and_false, bne_self_eq_false, beq_self_eq_true, Int.reduceEq, Nat.reduceEqDiff, List.length_singleton, List.tail_cons, Int.reduceLE, Int.reduceLT, decide_eq_true_eq], by omega, by omega, fun h => by omega⟩
  exact ⟨left - (a.flag.size : Int) - (a.strip.size : Int) - (a.add.size : Int) - (a.cond.size : Int), fun N => by simp only [laws_szAffix.f_eq, aff_f0, aff_f2, aff_f3, aff_f4, w1, w2, w3, w4, c1, c2, c3, c4, strs_len, strs_elem, ints_len, ints_elem, items_list, fld_agg, elem_list, toStr_sc, toInt_sc, toBool_sc, headD_one, nat_int, get_bt, decide_eq_true_eq, decide_eq_false_iff_not, decide_true, decide_false, if_true, if_false, ite_self, Bool.not_true, Bool.not_false, Bool.false_eq_true, Bool.true_eq_false, Bool.true_and, Bool.false_and, Bool.and_true, Bool.and_false, not_true, not_false_iff, Option.bind_some, nn, toList_inj, Bool.not_eq_true', Bool.not_eq_false', Int.le_refl, and_self, true_and, and_true, false_and, and_false, bne_self_eq_false, beq_self_eq_true, Int.reduceEq, Nat.reduceEqDiff, List.length_singleton, List.tail_cons, Int.reduceLE, Int.reduceLT, decide_eq_true_eq], by omega, by omega, fun h => ⟨by omega, by omega, by omega, by omega⟩⟩
theorem szEnt_val (e : Ent) (hf : e.stem.size ≤ 1000000000000000) (hs : e.flags.size ≤ 1000000000000000) (left : Int) (h0 : 0 ≤ left) (h1 : left ≤ 1048576) :
    ∃ r : Int, (∀ N, laws_szEntry.f N [entP e, intP left] = some [intP r]) ∧ r ≤ left ∧ -1 ≤ r ∧ (0 ≤ r → EntS e) := by
  have w1 : IntKind.i64.wrap (left - (e.stem.size : Int)) = left - (e.stem.size : Int) := wrap_id (by omega) (by omega)
  have w2 : IntKind.i64.wrap (left - (e.stem.size : Int) - (e.flags.size : Int)) = left - (e.stem.size : Int) - (e.flags.size : Int) := wrap_id (by omega) (by omega)
  by_cases c1 : left - (e.stem.size : Int) < 0
  · exact ⟨-1, fun N => by simp only [laws_szEntry.f_eq, ent_f0, w1, c1, strs_len, strs_elem, ints_len, ints_elem, items_list, fld_agg, elem_list, toStr_sc, toInt_sc, toBool_sc, headD_one, nat_int, get_bt, decide_eq_true_eq, decide_eq_false_iff_not, decide_true, decide_false, if_true, if_false, ite_self, Bool.not_true, Bool.not_false, Bool.false_eq_true, Bool.true_eq_false, Bool.true_and, Bool.false_and, Bool.and_true, Bool.and_false, not_true, not_false_iff, Option.bind_some, nn, toList_inj, Bool.not_eq_true', Bool.not_eq_false', Int.le_refl, and_self, true_and, and_true, false_and, and_false, bne_self_eq_false, beq_self_eq_true, Int.reduceEq, Nat.reduceEqDiff, List.length_singleton, List.tail_cons, Int.reduceLE, Int.reduceLT, decide_eq_true_eq], by omega, by omega, fun h => by omega⟩
  by_cases c2 : left - (e.stem.size : Int) - (e.flags.size : Int) < 0
  · exact ⟨-1, fun N => by simp only [laws_szEntry.f_eq, ent_f0, ent_f1, w1, w2, c1, c2, strs_len, strs_elem, ints_len, ints_elem, items_list, fld_agg, elem_list, toStr_sc, toInt_sc, toBool_sc, headD_one, nat_int, get_bt, decide_eq_true_eq, decide_eq_false_iff_not, decide_true, decide_false, if_true, if_false, ite_self, Bool.not_true, Bool.not_false, Bool.false_eq_true, Bool.true_eq_false, Bool.true_and, Bool.false_and, Bool.and_true, Bool.and_false, not_true, not_false_iff, Option.bind_some, nn, toList_inj, Bool.not_eq_true', Bool.not_eq_false', Int.le_refl, and_self, true_and, and_true, false_and, and_false, bne_self_eq_false, beq_self_eq_true, Int.reduceEq, Nat.reduceEqDiff, List.length_singleton, List.tail_cons, Int.reduceLE, Int.reduceLT, decide_eq_true_eq], by omega, by omega, fun h => by omega⟩
  exact ⟨left - (e.stem.size : Int) - (e.flags.size : Int), fun N => by simp only [laws_szEntry.f_eq, ent_f0, ent_f1, w1, w2, c1, c2, strs_len, strs_elem, ints_len, ints_elem, items_list, fld_agg, elem_list, toStr_sc, toInt_sc, toBool_sc, headD_one, nat_int, get_bt, decide_eq_true_eq, decide_eq_false_iff_not, decide_true, decide_false, if_true, if_false, ite_self, Bool.not_true, Bool.not_false, Bool.false_eq_true, Bool.true_eq_false, Bool.true_and, Bool.false_and, Bool.and_true, Bool.and_false, not_true, not_false_iff, Option.bind_some, nn, toList_inj, Bool.not_eq_true', Bool.not_eq_false', Int.le_refl, and_self, true_and, and_true, false_and, and_false, bne_self_eq_false, beq_self_eq_true, Int.reduceEq, Nat.reduceEqDiff, List.length_singleton, List.tail_cons, Int.reduceLE, Int.reduceLT, decide_eq_true_eq], by omega, by omega, fun h => ⟨by omega, by omega⟩⟩
theorem szAffS_ev (af : List Aff) (hal : af.length ≤ 1000000000000000) (hs : ∀ a ∈ af, (a.flag.size ≤ 1000000000000000 ∧ a.strip.size ≤ 1000000000000000) ∧ a.add.size ≤ 1000000000000000 ∧ a.cond.size ≤ 1000000000000000) (left : Int) (h0 : 0 ≤ left) (h1 : left ≤ 1048576) :
    ∃ r : Int, Ev (fun N => laws_szAffixS.f N [affsP af, intP left]) [intP r] ∧ r ≤ left ∧ -1 ≤ r ∧ (0 ≤ r → af.length ≤ 1048576 ∧ ∀ a ∈ af, AffS a) := by
  have w1 : IntKind.i64.wrap (left - (af.length : Int)) = left - (af.length : Int) := wrap_id (by omega) (by omega)
  by_cases c1 : left - (af.length : Int) < 0
  · refine ⟨-1, ?_, by omega, by omega, fun h => by omega⟩
    simp only [laws_szAffixS.f_eq, affs_len, w1, c1, strs_len, strs_elem, ints_len, ints_elem, items_list, fld_agg, elem_list, toStr_sc, toInt_sc, toBool_sc, headD_one, nat_int, get_bt, decide_eq_true_eq, decide_eq_false_iff_not, decide_true, decide_false, if_true, if_false, ite_self, Bool.not_true, Bool.not_false, Bool.false_eq_true, Bool.true_eq_false, Bool.true_and, Bool.false_and, Bool.and_true, Bool.and_false, not_true, not_false_iff, Option.bind_some, nn, toList_inj, Bool.not_eq_true', Bool.not_eq_false', Int.le_refl, and_self, true_and, and_true, false_and, and_false, bne_self_eq_false, beq_self_eq_true, Int.reduceEq, Nat.reduceEqDiff, List.length_singleton, List.tail_cons, Int.reduceLE, Int.reduceLT, decide_eq_true_eq]
    exact Ev.now _
  have key : ∀ (rest pre : List Aff) (l : Int), af = pre ++ rest → 0 ≤ l → l ≤ 1048576 → ∃ r : Int, Ev2 (fun N n => laws_szAffixS.l0 N n (affsP af) l (pre.length : Int)) [intP r] ∧ r ≤ l ∧ -1 ≤ r ∧ (0 ≤ r → ∀ a ∈ rest, AffS a) := by
    intro rest
    induction rest with
    | nil =>
      intro pre l hp hl0 hl1
      refine ⟨l, Ev2.succ ?_, by omega, by omega, fun _ a h => by cases h⟩
      simp only [laws_szAffixS.l0_eq, affs_len, at_end hp, strs_len, strs_elem, ints_len, ints_elem, items_list, fld_agg, elem_list, toStr_sc, toInt_sc, toBool_sc, headD_one, nat_int, get_bt, decide_eq_true_eq, decide_eq_false_iff_not, decide_true, decide_false, if_true, if_false, ite_self, Bool.not_true, Bool.not_false, Bool.false_eq_true, Bool.true_eq_false, Bool.true_and, Bool.false_and, Bool.and_true, Bool.and_false, not_true, not_false_iff, Option.bind_some, nn, toList_inj, Bool.not_eq_true', Bool.not_eq_false', Int.le_refl, and_self, true_and, and_true, false_and, and_false, bne_self_eq_false, beq_self_eq_true, Int.reduceEq, Nat.reduceEqDiff, List.length_singleton, List.tail_cons, Int.reduceLE, Int.reduceLT, decide_eq_true_eq]
      exact Ev2.now _
    | cons a rest ih =>
      intro pre l hp hl0 hl1
      obtain ⟨⟨z1, z2⟩, z3, z4⟩ := hs a (by rw [hp]; simp)
      obtain ⟨r, hr, hle, hm, hA⟩ := szAff_val a z1 z2 z3 z4 l hl0 hl1
      by_cases hn : r < 0
      · refine ⟨-1, Ev2.succ ?_, by omega, by omega, fun h => by omega⟩
        simp only [laws_szAffixS.l0_eq, affs_len, affs_elem hp, at_lt hp, aff_f0, aff_f1, aff_f2, aff_f3, aff_f4, aff_agg, hr, hn, strs_len, strs_elem, ints_len, ints_elem, items_list, fld_agg, elem_list, toStr_sc, toInt_sc, toBool_sc, headD_one, nat_int, get_bt, decide_eq_true_eq, decide_eq_false_iff_not, decide_true, decide_false, if_true, if_false, ite_self, Bool.not_true, Bool.not_false, Bool.false_eq_true, Bool.true_eq_false, Bool.true_and, Bool.false_and, Bool.and_true, Bool.and_false, not_true, not_false_iff, Option.bind_some, nn, toList_inj, Bool.not_eq_true', Bool.not_eq_false', Int.le_refl, and_self, true_and, and_true, false_and, and_false, bne_self_eq_false, beq_self_eq_true, Int.reduceEq, Nat.reduceEqDiff, List.length_singleton, List.tail_cons, Int.reduceLE, Int.reduceLT, decide_eq_true_eq]
        exact Ev2.now _
      · obtain ⟨r2, g1, g2, g3, g4⟩ := ih _ r (at_step hp) (by omega) (by omega)
        refine ⟨r2, Ev2.succ ?_, by omega, g3, fun h x hx => ?_⟩
        · simp only [laws_szAffixS.l0_eq, affs_len, affs_elem hp, at_lt hp, aff_f0, aff_f1, aff_f2, aff_f3, aff_f4, aff_agg, hr, hn, at_next hp (by omega), strs_len, strs_elem, ints_len, ints_elem, items_list, fld_agg, elem_list, toStr_sc, toInt_sc, toBool_sc, headD_one, nat_int, get_bt, decide_eq_true_eq, decide_eq_false_iff_not, decide_true, decide_false, if_true, if_false, ite_self, Bool.not_true, Bool.not_false, Bool.false_eq_true, Bool.true_eq_false, Bool.true_and, Bool.false_and, Bool.and_true, Bool.and_false, not_true, not_false_iff, Option.bind_some, nn, toList_inj, Bool.not_eq_true', Bool.not_eq_false', Int.le_refl, and_self, true_and, and_true, false_and, and_false, bne_self_eq_false, beq_self_eq_true, Int.reduceEq, Nat.reduceEqDiff, List.length_singleton, List.tail_cons, Int.reduceLE, Int.reduceLT, decide_eq_true_eq]
          exact g1
        · rcases List.mem_cons.1 hx with rfl | hx
          · exact hA (by omega)
          · exact g4 h x hx
  obtain ⟨r, g1, g2, g3, g4⟩ := key af [] (left - (af.length : Int)) rfl (by omega) (by omega)
  refine ⟨r, ?_, by omega, g3, fun h => ⟨by omega, g4 h⟩⟩
  simp only [laws_szAffixS.f_eq, affs_len, w1, c1, strs_len, strs_elem, ints_len, ints_elem, items_list, fld_agg, elem_list, toStr_sc, toInt_sc, toBool_sc, headD_one, nat_int, get_bt, decide_eq_true_eq, decide_eq_false_iff_not, decide_true, decide_false, if_true, if_false, ite_self, Bool.not_true, Bool.not_false, Bool.false_eq_true, Bool.true_eq_false, Bool.true_and, Bool.false_and, Bool.and_true, Bool.and_false, not_true, not_false_iff, Option.bind_some, nn, toList_inj, Bool.not_eq_true', Bool.not_eq_false', Int.le_refl, and_self, true_and, and_true, false_and, and_false, bne_self_eq_false, beq_self_eq_true, Int.reduceEq, Nat.reduceEqDiff, List.length_singleton, List.tail_cons, Int.reduceLE, Int.reduceLT, decide_eq_true_eq]
  exact g1.diag
theorem szEntS_ev (es : List Ent) (hel : es.length ≤ 1000000000000000) (hs : ∀ e ∈ es, e.stem.size ≤ 1000000000000000 ∧ e.flags.size ≤ 1000000000000000) (left : Int) (h0 : 0 ≤ left) (h1 : left ≤ 1048576) :
    ∃ r : Int, Ev (fun N => laws_szEntryS.f N [entsP es, intP left]) [intP r] ∧ r ≤ left ∧ -1 ≤ r ∧ (0 ≤ r → es.length ≤ 1048576 ∧ ∀ e ∈ es, EntS e) := by
  have w1 : IntKind.i64.wrap (left - (es.length : Int)) = left - (es.length : Int) := wrap_id (by omega) (by omega)
  by_cases c1 : left - (es.length : Int) < 0
  · refine ⟨-1, ?_, by omega, by omega, fun h => by omega⟩
    simp only [laws_szEntryS.f_eq, ents_len, w1, c1, strs_len, strs_elem, ints_len, ints_elem, items_list, fld_agg, elem_list, toStr_sc, toInt_sc, toBool_sc, headD_one, nat_int, get_bt, decide_eq_true_eq, decide_eq_false_iff_not, decide_true, decide_false, if_true, if_false, ite_self, Bool.not_true, Bool.not_false, Bool.false_eq_true, Bool.true_eq_false, Bool.true_and, Bool.false_and, Bool.and_true, Bool.and_false, not_true, not_false_iff, Option.bind_some, nn, toList_inj, Bool.not_eq_true', Bool.not_eq_false', Int.le_refl, and_self, true_and, and_true, false_and, and_false, bne_self_eq_false, beq_self_eq_true, Int.reduceEq, Nat.reduceEqDiff, List.length_singleton, List.tail_cons, Int.reduceLE, Int.reduceLT, decide_eq_true_eq]
    exact Ev.now _
  have key : ∀ (rest pre : List Ent) (l : Int), es = pre ++ rest → 0 ≤ l → l ≤ 1048576 → ∃ r : Int, Ev2 (fun N n => laws_szEntryS.l0 N n (entsP es) l (pre.length : Int)) [intP r] ∧ r ≤ l ∧ -1 ≤ r ∧ (0 ≤ r → ∀ a ∈ rest, EntS a) := by
    intro rest
    induction rest with
    | nil =>
      intro pre l hp hl0 hl1
      refine ⟨l, Ev2.succ ?_, by omega, by omega, fun _ a h => by cases h⟩
      simp only [laws_szEntryS.l0_eq, ents_len, at_end hp, strs_len, strs_elem, ints_len, ints_elem, items_list, fld_agg, elem_list, toStr_sc, toInt_sc, toBool_sc, headD_one, nat_int, get_bt, decide_eq_true_eq, decide_eq_false_iff_not, decide_true, decide_false, if_true, if_false, ite_self, Bool.not_true, Bool.not_false, Bool.false_eq_true, Bool.true_eq_false, Bool.true_and, Bool.false_and, Bool.and_true, Bool.and_false, not_true, not_false_iff, Option.bind_some, nn, toList_inj, Bool.not_eq_true', Bool.not_eq_false', Int.le_refl, and_self, true_and, and_true, false_and, and_false, bne_self_eq_false, beq_self_eq_true, Int.reduceEq, Nat.reduceEqDiff, List.length_singleton, List.tail_cons, Int.reduceLE, Int.reduceLT, decide_eq_true_eq]
      exact Ev2.now _
    | cons a rest ih =>
      intro pre l hp hl0 hl1
      obtain ⟨z1, z2⟩ := hs a (by rw [hp]; simp)
      obtain ⟨r, hr, hle, hm, hA⟩ := szEnt_val a z1 z2 l hl0 hl1
      by_cases hn : r < 0
      · refine ⟨-1, Ev2.succ ?_, by omega, by omega, fun h => by omega⟩
        simp only [laws_szEntryS.l0_eq, ents_len, ents_elem hp, at_lt hp, ent_f0, ent_f1, ent_agg, hr, hn, strs_len, strs_elem, ints_len, ints_elem, items_list, fld_agg, elem_list, toStr_sc, toInt_sc, toBool_sc, headD_one, nat_int, get_bt, decide_eq_true_eq, decide_eq_false_iff_not, decide_true, decide_false, if_true, if_false, ite_self, Bool.not_true, Bool.not_false, Bool.false_eq_true, Bool.true_eq_false, Bool.true_and, Bool.false_and, Bool.and_true, Bool.and_false, not_true, not_false_iff, Option.bind_some, nn, toList_inj, Bool.not_eq_true', Bool.not_eq_false', Int.le_refl, and_self, true_and, and_true, false_and, and_false, bne_self_eq_false, beq_self_eq_true, Int.reduceEq, Nat.reduceEqDiff, List.length_singleton, List.tail_cons, Int.reduceLE, Int.reduceLT, decide_eq_true_eq]
        exact Ev2.now _
      · obtain ⟨r2, g1, g2, g3, g4⟩ := ih _ r (at_step hp) (by omega) (by omega)
        refine ⟨r2, Ev2.succ ?_, by omega, g3, fun h x hx => ?_⟩
        · simp only [laws_szEntryS.l0_eq, ents_len, ents_elem hp, at_lt hp, ent_f0, ent_f1, ent_agg, hr, hn, at_next hp (by omega), strs_len, strs_elem, ints_len, ints_elem, items_list, fld_agg, elem_list, toStr_sc, toInt_sc, toBool_sc, headD_one, nat_int, get_bt, decide_eq_true_eq, decide_eq_false_iff_not, decide_true, decide_false, if_true, if_false, ite_self, Bool.not_true, Bool.not_false, Bool.false_eq_true, Bool.true_eq_false, Bool.true_and, Bool.false_and, Bool.and_true, Bool.and_false, not_true, not_false_iff, Option.bind_some, nn, toList_inj, Bool.not_eq_true', Bool.not_eq_false', Int.le_refl, and_self, true_and, and_true, false_and, and_false, bne_self_eq_false, beq_self_eq_true, Int.reduceEq, Nat.reduceEqDiff, List.length_singleton, List.tail_cons, Int.reduceLE, Int.reduceLT, decide_eq_true_eq]
          exact g1
        · rcases List.mem_cons.1 hx with rfl | hx
          · exact hA (by omega)
          · exact g4 h x hx
  obtain ⟨r, g1, g2, g3, g4⟩ := key es [] (left - (es.length : Int)) rfl (by omega) (by omega)
  refine ⟨r, ?_, by omega, g3, fun h => ⟨by omega, g4 h⟩⟩
  simp only [laws_szEntryS.f_eq, ents_len, w1, c1, strs_len, strs_elem, ints_len, ints_elem, items_list, fld_agg, elem_list, toStr_sc, toInt_sc, toBool_sc, headD_one, nat_int, get_bt, decide_eq_true_eq, decide_eq_false_iff_not, decide_true, decide_false, if_true, if_false, ite_self, Bool.not_true, Bool.not_false, Bool.false_eq_true, Bool.true_eq_false, Bool.true_and, Bool.false_and, Bool.and_true, Bool.and_false, not_true, not_false_iff, Option.bind_some, nn, toList_inj, Bool.not_eq_true', Bool.not_eq_false', Int.le_refl, and_self, true_and, and_true, false_and, and_false, bne_self_eq_false, beq_self_eq_true, Int.reduceEq, Nat.reduceEqDiff, List.length_singleton, List.tail_cons, Int.reduceLE, Int.reduceLT, decide_eq_true_eq]
  exact g1.diag
theorem szBook_ev (af : List Aff) (es : List Ent) (hal : af.length ≤ 1000000000000000) (hel : es.length ≤ 1000000000000000) (hs : ∀ a ∈ af, (a.flag.size ≤ 1000000000000000 ∧ a.strip.size ≤ 1000000000000000) ∧ a.add.size ≤ 1000000000000000 ∧ a.cond.size ≤ 1000000000000000) (hs2 : ∀ e ∈ es, e.stem.size ≤ 1000000000000000 ∧ e.flags.size ≤ 1000000000000000) (left : Int) (h0 : 0 ≤ left) (h1 : left ≤ 1048576) :
    ∃ r : Int, Ev (fun N => laws_szBook.f N [bookP af es, intP left]) [intP r] ∧ r ≤ left ∧ -1 ≤ r ∧ (0 ≤ r → (af.length ≤ 1048576 ∧ es.length ≤ 1048576) ∧ BookS af es) := by
  obtain ⟨r, g1, g2, g3, g4⟩ := szAffS_ev af hal hs left h0 h1
  by_cases hn : r < 0
  · refine ⟨-1, ?_, by omega, by omega, fun h => by omega⟩
    simp only [laws_szBook.f_eq, book_f0, book_f1, strs_len, strs_elem, ints_len, ints_elem, items_list, fld_agg, elem_list, toStr_sc, toInt_sc, toBool_sc, headD_one, nat_int, get_bt, decide_eq_true_eq, decide_eq_false_iff_not, decide_true, decide_false, if_true, if_false, ite_self, Bool.not_true, Bool.not_false, Bool.false_eq_true, Bool.true_eq_false, Bool.true_and, Bool.false_and, Bool.and_true, Bool.and_false, not_true, not_false_iff, Option.bind_some, nn, toList_inj, Bool.not_eq_true', Bool.not_eq_false', Int.le_refl, and_self, true_and, and_true, false_and, and_false, bne_self_eq_false, beq_self_eq_true, Int.reduceEq, Nat.reduceEqDiff, List.length_singleton, List.tail_cons, Int.reduceLE, Int.reduceLT, decide_eq_true_eq]
    refine Ev.bind g1 ?_
    simp only [hn, strs_len, strs_elem, ints_len, ints_elem, items_list, fld_agg, elem_list, toStr_sc, toInt_sc, toBool_sc, headD_one, nat_int, get_bt, decide_eq_true_eq, decide_eq_false_iff_not, decide_true, decide_false, if_true, if_false, ite_self, Bool.not_true, Bool.not_false, Bool.false_eq_true, Bool.true_eq_false, Bool.true_and, Bool.false_and, Bool.and_true, Bool.and_false, not_true, not_false_iff, Option.bind_some, nn, toList_inj, Bool.not_eq_true', Bool.not_eq_false', Int.le_refl, and_self, true_and, and_true, false_and, and_false, bne_self_eq_false, beq_self_eq_true, Int.reduceEq, Nat.reduceEqDiff, List.length_singleton, List.tail_cons, Int.reduceLE, Int.reduceLT, decide_eq_true_eq]
    exact Ev.now _
  · obtain ⟨r2, k1, k2, k3, k4⟩ := szEntS_ev es hel hs2 r (by omega) (by omega)
    by_cases hn2 : r2 < 0
    · refine ⟨-1, ?_, by omega, by omega, fun h => by omega⟩
      simp only [laws_szBook.f_eq, book_f0, book_f1, strs_len, strs_elem, ints_len, ints_elem, items_list, fld_agg, elem_list, toStr_sc, toInt_sc, toBool_sc, headD_one, nat_int, get_bt, decide_eq_true_eq, decide_eq_false_iff_not, decide_true, decide_false, if_true, if_false, ite_self, Bool.not_true, Bool.not_false, Bool.false_eq_true, Bool.true_eq_false, Bool.true_and, Bool.false_and, Bool.and_true, Bool.and_false, not_true, not_false_iff, Option.bind_some, nn, toList_inj, Bool.not_eq_true', Bool.not_eq_false', Int.le_refl, and_self, true_and, and_true, false_and, and_false, bne_self_eq_false, beq_self_eq_true, Int.reduceEq, Nat.reduceEqDiff, List.length_singleton, List.tail_cons, Int.reduceLE, Int.reduceLT, decide_eq_true_eq]
      refine Ev.bind g1 ?_
      simp only [hn, strs_len, strs_elem, ints_len, ints_elem, items_list, fld_agg, elem_list, toStr_sc, toInt_sc, toBool_sc, headD_one, nat_int, get_bt, decide_eq_true_eq, decide_eq_false_iff_not, decide_true, decide_false, if_true, if_false, ite_self, Bool.not_true, Bool.not_false, Bool.false_eq_true, Bool.true_eq_false, Bool.true_and, Bool.false_and, Bool.and_true, Bool.and_false, not_true, not_false_iff, Option.bind_some, nn, toList_inj, Bool.not_eq_true', Bool.not_eq_false', Int.le_refl, and_self, true_and, and_true, false_and, and_false, bne_self_eq_false, beq_self_eq_true, Int.reduceEq, Nat.reduceEqDiff, List.length_singleton, List.tail_cons, Int.reduceLE, Int.reduceLT, decide_eq_true_eq]
      refine Ev.bind k1 ?_
      simp only [hn2, strs_len, strs_elem, ints_len, ints_elem, items_list, fld_agg, elem_list, toStr_sc, toInt_sc, toBool_sc, headD_one, nat_int, get_bt, decide_eq_true_eq, decide_eq_false_iff_not, decide_true, decide_false, if_true, if_false, ite_self, Bool.not_true, Bool.not_false, Bool.false_eq_true, Bool.true_eq_false, Bool.true_and, Bool.false_and, Bool.and_true, Bool.and_false, not_true, not_false_iff, Option.bind_some, nn, toList_inj, Bool.not_eq_true', Bool.not_eq_false', Int.le_refl, and_self, true_and, and_true, false_and, and_false, bne_self_eq_false, beq_self_eq_true, Int.reduceEq, Nat.reduceEqDiff, List.length_singleton, List.tail_cons, Int.reduceLE, Int.reduceLT, decide_eq_true_eq]
      exact Ev.now _
    · obtain ⟨q1, q2⟩ := g4 (by omega)
      obtain ⟨q3, q4⟩ := k4 (by omega)
      refine ⟨r2, ?_, by omega, k3, fun _ => ⟨⟨q1, q3⟩, by omega, by omega, q2, q4⟩⟩
      simp only [laws_szBook.f_eq, book_f0, book_f1, strs_len, strs_elem, ints_len, ints_elem, items_list, fld_agg, elem_list, toStr_sc, toInt_sc, toBool_sc, headD_one, nat_int, get_bt, decide_eq_true_eq, decide_eq_false_iff_not, decide_true, decide_false, if_true, if_false, ite_self, Bool.not_true, Bool.not_false, Bool.false_eq_true, Bool.true_eq_false, Bool.true_and, Bool.false_and, Bool.and_true, Bool.and_false, not_true, not_false_iff, Option.bind_some, nn, toList_inj, Bool.not_eq_true', Bool.not_eq_false', Int.le_refl, and_self, true_and, and_true, false_and, and_false, bne_self_eq_false, beq_self_eq_true, Int.reduceEq, Nat.reduceEqDiff, List.length_singleton, List.tail_cons, Int.reduceLE, Int.reduceLT, decide_eq_true_eq]
      refine Ev.bind g1 ?_
      simp only [hn, strs_len, strs_elem, ints_len, ints_elem, items_list, fld_agg, elem_list, toStr_sc, toInt_sc, toBool_sc, headD_one, nat_int, get_bt, decide_eq_true_eq, decide_eq_false_iff_not, decide_true, decide_false, if_true, if_false, ite_self, Bool.not_true, Bool.not_false, Bool.false_eq_true, Bool.true_eq_false, Bool.true_and, Bool.false_and, Bool.and_true, Bool.and_false, not_true, not_false_iff, Option.bind_some, nn, toList_inj, Bool.not_eq_true', Bool.not_eq_false', Int.le_refl, and_self, true_and, and_true, false_and, and_false, bne_self_eq_false, beq_self_eq_true, Int.reduceEq, Nat.reduceEqDiff, List.length_singleton, List.tail_cons, Int.reduceLE, Int.reduceLT, decide_eq_true_eq]
      refine Ev.bind k1 ?_
      simp only [hn2, strs_len, strs_elem, ints_len, ints_elem, items_list, fld_agg, elem_list, toStr_sc, toInt_sc, toBool_sc, headD_one, nat_int, get_bt, decide_eq_true_eq, decide_eq_false_iff_not, decide_true, decide_false, if_true, if_false, ite_self, Bool.not_true, Bool.not_false, Bool.false_eq_true, Bool.true_eq_false, Bool.true_and, Bool.false_and, Bool.and_true, Bool.and_false, not_true, not_false_iff, Option.bind_some, nn, toList_inj, Bool.not_eq_true', Bool.not_eq_false', Int.le_refl, and_self, true_and, and_true, false_and, and_false, bne_self_eq_false, beq_self_eq_true, Int.reduceEq, Nat.reduceEqDiff, List.length_singleton, List.tail_cons, Int.reduceLE, Int.reduceLT, decide_eq_true_eq]
      exact Ev.now _
theorem toAffS_ev (af : List Aff) (hal : af.length ≤ 1000000000) : Ev (fun N => laws_toAffixS.f N [affsP af]) [affsP af] := by
  have key : ∀ (rest pre : List Aff) (z : List PV), af = pre ++ rest → z.length = rest.length → Ev2 (fun N n => laws_toAffixS.l0 N n (affsP af) (pre.length : Int) (pre.map affP ++ z)) [affsP af] := by
    intro rest
    induction rest with
    | nil =>
      intro pre z hp hz
      obtain rfl : z = [] := List.eq_nil_of_length_eq_zero hz
      have e : PV.list (pre.map affP ++ []) = affsP af := by rw [hp]; simp [affsP]
      refine Ev2.succ ?_
      simp only [laws_toAffixS.l0_eq, affs_len, at_end hp, e, strs_len, strs_elem, ints_len, ints_elem, items_list, fld_agg, elem_list, toStr_sc, toInt_sc, toBool_sc, headD_one, nat_int, get_bt, decide_eq_true_eq, decide_eq_false_iff_not, decide_true, decide_false, if_true, if_false, ite_self, Bool.not_true, Bool.not_false, Bool.false_eq_true, Bool.true_eq_false, Bool.true_and, Bool.false_and, Bool.and_true, Bool.and_false, not_true, not_false_iff, Option.bind_some, nn, toList_inj, Bool.not_eq_true', Bool.not_eq_false', Int.le_refl, and_self, true_and, and_true, false_and, and_false, bne_self_eq_false, beq_self_eq_true, Int.reduceEq, Nat.reduceEqDiff, List.length_singleton, List.tail_cons, Int.reduceLE, Int.reduceLT, decide_eq_true_eq]
      exact Ev2.now _
    | cons a rest ih =>
      intro pre z hp hz
      obtain ⟨y, z, rfl⟩ : ∃ y z', z = y :: z' := List.exists_cons_of_ne_nil (by rintro rfl; simp at hz)
      have hl : ((pre.length : Int) < ((pre.map affP ++ y :: z).length : Int)) = True := tru (by simp; omega)
      have hset : (pre.map affP ++ y :: z).set pre.length (affP a) = (pre ++ [a]).map affP ++ z := by
        have := set_mid (pre.map affP) y (affP a) z
        rw [List.length_map] at this; rw [this]; simp
      refine Ev2.succ ?_
      simp only [laws_toAffixS.l0_eq, laws_toAffix.f_eq, affs_len, affs_elem hp, at_lt hp, aff_f0, aff_f1, aff_f2, aff_f3, aff_f4, aff_agg, hl, hset, at_next hp (by omega), strs_len, strs_elem, ints_len, ints_elem, items_list, fld_agg, elem_list, toStr_sc, toInt_sc, toBool_sc, headD_one, nat_int, get_bt, decide_eq_true_eq, decide_eq_false_iff_not, decide_true, decide_false, if_true, if_false, ite_self, Bool.not_true, Bool.not_false, Bool.false_eq_true, Bool.true_eq_false, Bool.true_and, Bool.false_and, Bool.and_true, Bool.and_false, not_true, not_false_iff, Option.bind_some, nn, toList_inj, Bool.not_eq_true', Bool.not_eq_false', Int.le_refl, and_self, true_and, and_true, false_and, and_false, bne_self_eq_false, beq_self_eq_true, Int.reduceEq, Nat.reduceEqDiff, List.length_singleton, List.tail_cons, Int.reduceLE, Int.reduceLT, decide_eq_true_eq]
      exact ih _ z (at_step hp) (by simpa using hz)
  have c1 : (af.length ≤ 3909374676536) = True := tru (by omega)
  simp only [laws_toAffixS.f_eq, affs_len, nn, c1, strs_len, strs_elem, ints_len, ints_elem, items_list, fld_agg, elem_list, toStr_sc, toInt_sc, toBool_sc, headD_one, nat_int, get_bt, decide_eq_true_eq, decide_eq_false_iff_not, decide_true, decide_false, if_true, if_false, ite_self, Bool.not_true, Bool.not_false, Bool.false_eq_true, Bool.true_eq_false, Bool.true_and, Bool.false_and, Bool.and_true, Bool.and_false, not_true, not_false_iff, Option.bind_some, nn, toList_inj, Bool.not_eq_true', Bool.not_eq_false', Int.le_refl, and_self, true_and, and_true, false_and, and_false, bne_self_eq_false, beq_self_eq_true, Int.reduceEq, Nat.reduceEqDiff, List.length_singleton, List.tail_cons, Int.reduceLE, Int.reduceLT, decide_eq_true_eq]
  exact (key af [] _ rfl (by simp)).diag
theorem toEntS_ev (es : List Ent) (hel : es.length ≤ 1000000000) : Ev (fun N => laws_toEntryS.f N [entsP es]) [entsP es] := by
  have key : ∀ (rest pre : List Ent) (z : List PV), es = pre ++ rest → z.length = rest.length → Ev2 (fun N n => laws_toEntryS.l0 N n (entsP es) (pre.length : Int) (pre.map entP ++ z)) [entsP es] := by
    intro rest
    induction rest with
    | nil =>
      intro pre z hp hz
      obtain rfl : z = [] := List.eq_nil_of_length_eq_zero hz
      have e : PV.list (pre.map entP ++ []) = entsP es := by rw [hp]; simp [entsP]
      refine Ev2.succ ?_
      simp only [laws_toEntryS.l0_eq, ents_len, at_end hp, e, strs_len, strs_elem, ints_len, ints_elem, items_list, fld_agg, elem_list, toStr_sc, toInt_sc, toBool_sc, headD_one, nat_int, get_bt, decide_eq_true_eq, decide_eq_false_iff_not, decide_true, decide_false, if_true, if_false, ite_self, Bool.not_true, Bool.not_false, Bool.false_eq_true, Bool.true_eq_false, Bool.true_and, Bool.false_and, Bool.and_true, Bool.and_false, not_true, not_false_iff, Option.bind_some, nn, toList_inj, Bool.not_eq_true', Bool.not_eq_false', Int.le_refl, and_self, true_and, and_true, false_and, and_false, bne_self_eq_false, beq_self_eq_true, Int.reduceEq, Nat.reduceEqDiff, List.length_singleton, List.tail_cons, Int.reduceLE, Int.reduceLT, decide_eq_true_eq]
      exact Ev2.now _
    | cons a rest ih =>
      intro pre z hp hz
      obtain ⟨y, z, rfl⟩ : ∃ y z', z = y :: z' := List.exists_cons_of_ne_nil (by rintro rfl; simp at hz)
      have hl : ((pre.length : Int) < ((pre.map entP ++ y :: z).length : Int)) = True := tru (by simp; omega)
      have hset : (pre.map entP ++ y :: z).set pre.length (entP a) = (pre ++ [a]).map entP ++ z := by
        have := set_mid (pre.map entP) y (entP a) z
        rw [List.length_map] at this; rw [this]; simp
      refine Ev2.succ ?_
      simp only [laws_toEntryS.l0_eq, laws_toEntry.f_eq, ents_len, ents_elem hp, at_lt hp, ent_f0, ent_f1, ent_agg, hl, hset, at_next hp (by omega), strs_len, strs_elem, ints_len, ints_elem, items_list, fld_agg, elem_list, toStr_sc, toInt_sc, toBool_sc, headD_one, nat_int, get_bt, decide_eq_true_eq, decide_eq_false_iff_not, decide_true, decide_false, if_true, if_false, ite_self, Bool.not_true, Bool.not_false, Bool.false_eq_true, Bool.true_eq_false, Bool.true_and, Bool.false_and, Bool.and_true, Bool.and_false, not_true, not_false_iff, Option.bind_some, nn, toList_inj, Bool.not_eq_true', Bool.not_eq_false', Int.le_refl, and_self, true_and, and_true, false_and, and_false, bne_self_eq_false, beq_self_eq_true, Int.reduceEq, Nat.reduceEqDiff, List.length_singleton, List.tail_cons, Int.reduceLE, Int.reduceLT, decide_eq_true_eq]
      exact ih _ z (at_step hp) (by simpa using hz)
  have c1 : (es.length ≤ 8796093022208) = True := tru (by omega)
  simp only [laws_toEntryS.f_eq, ents_len, nn, c1, strs_len, strs_elem, ints_len, ints_elem, items_list, fld_agg, elem_list, toStr_sc, toInt_sc, toBool_sc, headD_one, nat_int, get_bt, decide_eq_true_eq, decide_eq_false_iff_not, decide_true, decide_false, if_true, if_false, ite_self, Bool.not_true, Bool.not_false, Bool.false_eq_true, Bool.true_eq_false, Bool.true_and, Bool.false_and, Bool.and_true, Bool.and_false, not_true, not_false_iff, Option.bind_some, nn, toList_inj, Bool.not_eq_true', Bool.not_eq_false', Int.le_refl, and_self, true_and, and_true, false_and, and_false, bne_self_eq_false, beq_self_eq_true, Int.reduceEq, Nat.reduceEqDiff, List.length_singleton, List.tail_cons, Int.reduceLE, Int.reduceLT, decide_eq_true_eq]
  exact (key es [] _ rfl (by simp)).diag
theorem toBook_ev (af : List Aff) (es : List Ent) (hal : af.length ≤ 1000000000) (hel : es.length ≤ 1000000000) : Ev (fun N => laws_toBook.f N [bookP af es]) [bookP af es] := by
  simp only [laws_toBook.f_eq, book_f0, book_f1]
  refine Ev.bind (toAffS_ev af hal) ?_
  refine Ev.bind (toEntS_ev es hel) ?_
  exact Ev.now _
theorem eqAffS_ev (af : List Aff) (hal : af.length ≤ 1000000000) : Ev (fun N => laws_eqAffixS.f N [affsP af, affsP af]) [boolP true] := by
  have key : ∀ (rest pre : List Aff), af = pre ++ rest → Ev2 (fun N n => laws_eqAffixS.l0 N n (affsP af) (affsP af) (pre.length : Int)) [boolP true] := by
    intro rest
    induction rest with
    | nil =>
      intro pre hp
      refine Ev2.succ ?_
      simp only [laws_eqAffixS.l0_eq, affs_len, at_end hp, strs_len, strs_elem, ints_len, ints_elem, items_list, fld_agg, elem_list, toStr_sc, toInt_sc, toBool_sc, headD_one, nat_int, get_bt, decide_eq_true_eq, decide_eq_false_iff_not, decide_true, decide_false, if_true, if_false, ite_self, Bool.not_true, Bool.not_false, Bool.false_eq_true, Bool.true_eq_false, Bool.true_and, Bool.false_and, Bool.and_true, Bool.and_false, not_true, not_false_iff, Option.bind_some, nn, toList_inj, Bool.not_eq_true', Bool.not_eq_false', Int.le_refl, and_self, true_and, and_true, false_and, and_false, bne_self_eq_false, beq_self_eq_true, Int.reduceEq, Nat.reduceEqDiff, List.length_singleton, List.tail_cons, Int.reduceLE, Int.reduceLT, decide_eq_true_eq]
      exact Ev2.now _
    | cons a rest ih =>
      intro pre hp
      refine Ev2.succ ?_
      simp only [laws_eqAffixS.l0_eq, laws_eqAffix.f_eq, affs_len, affs_elem hp, at_lt hp, aff_f0, aff_f1, aff_f2, aff_f3, aff_f4, aff_agg, at_next hp (by omega), strs_len, strs_elem, ints_len, ints_elem, items_list, fld_agg, elem_list, toStr_sc, toInt_sc, toBool_sc, headD_one, nat_int, get_bt, decide_eq_true_eq, decide_eq_false_iff_not, decide_true, decide_false, if_true, if_false, ite_self, Bool.not_true, Bool.not_false, Bool.false_eq_true, Bool.true_eq_false, Bool.true_and, Bool.false_and, Bool.and_true, Bool.and_false, not_true, not_false_iff, Option.bind_some, nn, toList_inj, Bool.not_eq_true', Bool.not_eq_false', Int.le_refl, and_self, true_and, and_true, false_and, and_false, bne_self_eq_false, beq_self_eq_true, Int.reduceEq, Nat.reduceEqDiff, List.length_singleton, List.tail_cons, Int.reduceLE, Int.reduceLT, decide_eq_true_eq]
      exact ih _ (at_step hp)
  simp only [laws_eqAffixS.f_eq, affs_len, strs_len, strs_elem, ints_len, ints_elem, items_list, fld_agg, elem_list, toStr_sc, toInt_sc, toBool_sc, headD_one, nat_int, get_bt, decide_eq_true_eq, decide_eq_false_iff_not, decide_true, decide_false, if_true, if_false, ite_self, Bool.not_true, Bool.not_false, Bool.false_eq_true, Bool.true_eq_false, Bool.true_and, Bool.false_and, Bool.and_true, Bool.and_false, not_true, not_false_iff, Option.bind_some, nn, toList_inj, Bool.not_eq_true', Bool.not_eq_false', Int.le_refl, and_self, true_and, and_true, false_and, and_false, bne_self_eq_false, beq_self_eq_true, Int.reduceEq, Nat.reduceEqDiff, List.length_singleton, List.tail_cons, Int.reduceLE, Int.reduceLT, decide_eq_true_eq]
  exact (key af [] rfl).diag
theorem eqEntS_ev (es : List Ent) (hel : es.length ≤ 1000000000) : Ev (fun N => laws_eqEntryS.f N [entsP es, entsP es]) [boolP true] := by
  have key : ∀ (rest pre : List Ent), es = pre ++ rest → Ev2 (fun N n => laws_eqEntryS.l0 N n (entsP es) (entsP es) (pre.length : Int)) [boolP true] := by
    intro rest
    induction rest with
    | nil =>
      intro pre hp
      refine Ev2.succ ?_
      simp only [laws_eqEntryS.l0_eq, ents_len, at_end hp, strs_len, strs_elem, ints_len, ints_elem, items_list, fld_agg, elem_list, toStr_sc, toInt_sc, toBool_sc, headD_one, nat_int, get_bt, decide_eq_true_eq, decide_eq_false_iff_not, decide_true, decide_false, if_true, if_false, ite_self, Bool.not_true, Bool.not_false, Bool.false_eq_true, Bool.true_eq_false, Bool.true_and, Bool.false_and, Bool.and_true, Bool.and_false, not_true, not_false_iff, Option.bind_some, nn, toList_inj, Bool.not_eq_true', Bool.not_eq_false', Int.le_refl, and_self, true_and, and_true, false_and, and_false, bne_self_eq_false, beq_self_eq_true, Int.reduceEq, Nat.reduceEqDiff, List.length_singleton, List.tail_cons, Int.reduceLE, Int.reduceLT, decide_eq_true_eq]
      exact Ev2.now _
    | cons a rest ih =>
      intro pre hp
      refine Ev2.succ ?_
      simp only [laws_eqEntryS.l0_eq, laws_eqEntry.f_eq, ents_len, ents_elem hp, at_lt hp, ent_f0, ent_f1, ent_agg, at_next hp (by omega), strs_len, strs_elem, ints_len, ints_elem, items_list, fld_agg, elem_list, toStr_sc, toInt_sc, toBool_sc, headD_one, nat_int, get_bt, decide_eq_true_eq, decide_eq_false_iff_not, decide_true, decide_false, if_true, if_false, ite_self, Bool.not_true, Bool.not_false, Bool.false_eq_true, Bool.true_eq_false, Bool.true_and, Bool.false_and, Bool.and_true, Bool.and_false, not_true, not_false_iff, Option.bind_some, nn, toList_inj, Bool.not_eq_true', Bool.not_eq_false', Int.le_refl, and_self, true_and, and_true, false_and, and_false, bne_self_eq_false, beq_self_eq_true, Int.reduceEq, Nat.reduceEqDiff, List.length_singleton, List.tail_cons, Int.reduceLE, Int.reduceLT, decide_eq_true_eq]
      exact ih _ (at_step hp)
  simp only [laws_eqEntryS.f_eq, ents_len, strs_len, strs_elem, ints_len, ints_elem, items_list, fld_agg, elem_list, toStr_sc, toInt_sc, toBool_sc, headD_one, nat_int, get_bt, decide_eq_true_eq, decide_eq_false_iff_not, decide_true, decide_false, if_true, if_false, ite_self, Bool.not_true, Bool.not_false, Bool.false_eq_true, Bool.true_eq_false, Bool.true_and, Bool.false_and, Bool.and_true, Bool.and_false, not_true, not_false_iff, Option.bind_some, nn, toList_inj, Bool.not_eq_true', Bool.not_eq_false', Int.le_refl, and_self, true_and, and_true, false_and, and_false, bne_self_eq_false, beq_self_eq_true, Int.reduceEq, Nat.reduceEqDiff, List.length_singleton, List.tail_cons, Int.reduceLE, Int.reduceLT, decide_eq_true_eq]
  exact (key es [] rfl).diag
theorem eqBook_ev (af : List Aff) (es : List Ent) (hal : af.length ≤ 1000000000) (hel : es.length ≤ 1000000000) : Ev (fun N => laws_eqBook.f N [bookP af es, bookP af es]) [boolP true] := by
  simp only [laws_eqBook.f_eq, book_f0, book_f1]
  refine Ev.bind (eqAffS_ev af hal) ?_
  simp only [strs_len, strs_elem, ints_len, ints_elem, items_list, fld_agg, elem_list, toStr_sc, toInt_sc, toBool_sc, headD_one, nat_int, get_bt, decide_eq_true_eq, decide_eq_false_iff_not, decide_true, decide_false, if_true, if_false, ite_self, Bool.not_true, Bool.not_false, Bool.false_eq_true, Bool.true_eq_false, Bool.true_and, Bool.false_and, Bool.and_true, Bool.and_false, not_true, not_false_iff, Option.bind_some, nn, toList_inj, Bool.not_eq_true', Bool.not_eq_false', Int.le_refl, and_self, true_and, and_true, false_and, and_false, bne_self_eq_false, beq_self_eq_true, Int.reduceEq, Nat.reduceEqDiff, List.length_singleton, List.tail_cons, Int.reduceLE, Int.reduceLT, decide_eq_true_eq]
  refine Ev.bind (eqEntS_ev es hel) ?_
  simp only [strs_len, strs_elem, ints_len, ints_elem, items_list, fld_agg, elem_list, toStr_sc, toInt_sc, toBool_sc, headD_one, nat_int, get_bt, decide_eq_true_eq, decide_eq_false_iff_not, decide_true, decide_false, if_true, if_false, ite_self, Bool.not_true, Bool.not_false, Bool.false_eq_true, Bool.true_eq_false, Bool.true_and, Bool.false_and, Bool.and_true, Bool.and_false, not_true, not_false_iff, Option.bind_some, nn, toList_inj, Bool.not_eq_true', Bool.not_eq_false', Int.le_refl, and_self, true_and, and_true, false_and, and_false, bne_self_eq_false, beq_self_eq_true, Int.reduceEq, Nat.reduceEqDiff, List.length_singleton, List.tail_cons, Int.reduceLE, Int.reduceLT, decide_eq_true_eq]
  exact Ev.now _
/-- A number is told, and a list that is as long as it was. -/
def Tot2 (L : Nat) (v : Int) (g : Nat → Nat → Option (List PV)) : Prop := ∃ y : List PV, y.length = L ∧ Ev2 g [intP v, PV.list y]
theorem Tot2.bind {L : Nat} {v : Int} {s : List PV} {g : Nat → Option (List PV)} {f : Nat → Nat → List PV → Option (List PV)} (h : Ev g s) (k : Tot2 L v (fun N n => f N n s)) : Tot2 L v (fun N n => (g N).bind (f N n)) := by
  obtain ⟨y, hy, h2⟩ := k
  exact ⟨y, hy, Ev2.bind h h2⟩
theorem Tot2.succ {L : Nat} {v : Int} {g : Nat → Nat → Option (List PV)} (h : Tot2 L v (fun N n => g N (n + 1))) : Tot2 L v g := by
  obtain ⟨y, hy, h2⟩ := h
  exact ⟨y, hy, Ev2.succ h2⟩
theorem markAff_l1 : ∀ (d i : Nat) (y : List PV) (x : Int), i + d = y.length → y.length ≤ 1000000000 → 0 ≤ x → x + 5 * d < 4000000000000000000 → Tot2 y.length (x + 5 * d) (fun N n => laws_markAffixS.l1 N n x (i : Int) y) := by
  intro d
  induction d with
  | zero =>
    intro i y x hi hy hx h4
    have c0 : ((i : Int) < (y.length : Int)) = False := fls (by omega)
    refine Tot2.succ ⟨y, rfl, ?_⟩
    simp only [laws_markAffixS.l1_eq, c0, strs_len, strs_elem, ints_len, ints_elem, items_list, fld_agg, elem_list, toStr_sc, toInt_sc, toBool_sc, headD_one, nat_int, get_bt, decide_eq_true_eq, decide_eq_false_iff_not, decide_true, decide_false, if_true, if_false, ite_self, Bool.not_true, Bool.not_false, Bool.false_eq_true, Bool.true_eq_false, Bool.true_and, Bool.false_and, Bool.and_true, Bool.and_false, not_true, not_false_iff, Option.bind_some, nn, toList_inj, Bool.not_eq_true', Bool.not_eq_false', Int.le_refl, and_self, true_and, and_true, false_and, and_false, bne_self_eq_false, beq_self_eq_true, Int.reduceEq, Nat.reduceEqDiff, List.length_singleton, List.tail_cons, Int.reduceLE, Int.reduceLT, decide_eq_true_eq]
    refine Ev2.ext (Ev2.now _) ?_
    simp
  | succ d ih =>
    intro i y x hi hy hx h4
    have c0 : ((i : Int) < (y.length : Int)) = True := tru (by omega)
    have w1 : IntKind.i64.wrap (x + 1) = x + 1 := wrap_id (by omega) (by omega)
    have w2 : IntKind.i64.wrap (x + 1 + 1) = x + 1 + 1 := wrap_id (by omega) (by omega)
    have w3 : IntKind.i64.wrap (x + 1 + 1 + 1) = x + 1 + 1 + 1 := wrap_id (by omega) (by omega)
    have w4 : IntKind.i64.wrap (x + 1 + 1 + 1 + 1) = x + 1 + 1 + 1 + 1 := wrap_id (by omega) (by omega)
    have w5 : IntKind.i64.wrap (x + 1 + 1 + 1 + 1 + 1) = x + 1 + 1 + 1 + 1 + 1 := wrap_id (by omega) (by omega)
    have wi : IntKind.i64.wrap ((i : Int) + 1) = ((i + 1 : Nat) : Int) := nat_wrap (by omega) (by omega)
    have z3 : ((3 : Int) = 0) = False := by simp
    have m1 := markText_ev x (by omega)
    have m2 := markText_ev (x + 1 + 1) (by omega)
    have m3 := markText_ev (x + 1 + 1 + 1) (by omega)
    have m4 := markText_ev (x + 1 + 1 + 1 + 1) (by omega)
    refine Tot2.succ ?_
    simp only [laws_markAffixS.l1_eq, c0, w1, w2, w3, w4, w5, wi, List.length_set, z3, nn, strs_len, strs_elem, ints_len, ints_elem, items_list, fld_agg, elem_list, toStr_sc, toInt_sc, toBool_sc, headD_one, nat_int, get_bt, decide_eq_true_eq, decide_eq_false_iff_not, decide_true, decide_false, if_true, if_false, ite_self, Bool.not_true, Bool.not_false, Bool.false_eq_true, Bool.true_eq_false, Bool.true_and, Bool.false_and, Bool.and_true, Bool.and_false, not_true, not_false_iff, Option.bind_some, nn, toList_inj, Bool.not_eq_true', Bool.not_eq_false', Int.le_refl, and_self, true_and, and_true, false_and, and_false, bne_self_eq_false, beq_self_eq_true, Int.reduceEq, Nat.reduceEqDiff, List.length_singleton, List.tail_cons, Int.reduceLE, Int.reduceLT, decide_eq_true_eq]
    refine Tot2.bind m1 ?_
    simp only [List.length_set, c0, nn, strs_len, strs_elem, ints_len, ints_elem, items_list, fld_agg, elem_list, toStr_sc, toInt_sc, toBool_sc, headD_one, nat_int, get_bt, decide_eq_true_eq, decide_eq_false_iff_not, decide_true, decide_false, if_true, if_false, ite_self, Bool.not_true, Bool.not_false, Bool.false_eq_true, Bool.true_eq_false, Bool.true_and, Bool.false_and, Bool.and_true, Bool.and_false, not_true, not_false_iff, Option.bind_some, nn, toList_inj, Bool.not_eq_true', Bool.not_eq_false', Int.le_refl, and_self, true_and, and_true, false_and, and_false, bne_self_eq_false, beq_self_eq_true, Int.reduceEq, Nat.reduceEqDiff, List.length_singleton, List.tail_cons, Int.reduceLE, Int.reduceLT, decide_eq_true_eq]
    refine Tot2.bind m2 ?_
    simp only [List.length_set, c0, nn, strs_len, strs_elem, ints_len, ints_elem, items_list, fld_agg, elem_list, toStr_sc, toInt_sc, toBool_sc, headD_one, nat_int, get_bt, decide_eq_true_eq, decide_eq_false_iff_not, decide_true, decide_false, if_true, if_false, ite_self, Bool.not_true, Bool.not_false, Bool.false_eq_true, Bool.true_eq_false, Bool.true_and, Bool.false_and, Bool.and_true, Bool.and_false, not_true, not_false_iff, Option.bind_some, nn, toList_inj, Bool.not_eq_true', Bool.not_eq_false', Int.le_refl, and_self, true_and, and_true, false_and, and_false, bne_self_eq_false, beq_self_eq_true, Int.reduceEq, Nat.reduceEqDiff, List.length_singleton, List.tail_cons, Int.reduceLE, Int.reduceLT, decide_eq_true_eq]
    refine Tot2.bind m3 ?_
    simp only [List.length_set, c0, nn, strs_len, strs_elem, ints_len, ints_elem, items_list, fld_agg, elem_list, toStr_sc, toInt_sc, toBool_sc, headD_one, nat_int, get_bt, decide_eq_true_eq, decide_eq_false_iff_not, decide_true, decide_false, if_true, if_false, ite_self, Bool.not_true, Bool.not_false, Bool.false_eq_true, Bool.true_eq_false, Bool.true_and, Bool.false_and, Bool.and_true, Bool.and_false, not_true, not_false_iff, Option.bind_some, nn, toList_inj, Bool.not_eq_true', Bool.not_eq_false', Int.le_refl, and_self, true_and, and_true, false_and, and_false, bne_self_eq_false, beq_self_eq_true, Int.reduceEq, Nat.reduceEqDiff, List.length_singleton, List.tail_cons, Int.reduceLE, Int.reduceLT, decide_eq_true_eq]
    refine Tot2.bind m4 ?_
    simp only [List.length_set, c0, nn, strs_len, strs_elem, ints_len, ints_elem, items_list, fld_agg, elem_list, toStr_sc, toInt_sc, toBool_sc, headD_one, nat_int, get_bt, decide_eq_true_eq, decide_eq_false_iff_not, decide_true, decide_false, if_true, if_false, ite_self, Bool.not_true, Bool.not_false, Bool.false_eq_true, Bool.true_eq_false, Bool.true_and, Bool.false_and, Bool.and_true, Bool.and_false, not_true, not_false_iff, Option.bind_some, nn, toList_inj, Bool.not_eq_true', Bool.not_eq_false', Int.le_refl, and_self, true_and, and_true, false_and, and_false, bne_self_eq_false, beq_self_eq_true, Int.reduceEq, Nat.reduceEqDiff, List.length_singleton, List.tail_cons, Int.reduceLE, Int.reduceLT, decide_eq_true_eq]
    have e : x + 5 * ((d + 1 : Nat) : Int) = x + 1 + 1 + 1 + 1 + 1 + 5 * (d : Int) := by omega
    have key := ih (i + 1)
    rw [e]
    have hl : ∀ Y : List PV, Y.length = y.length → Tot2 y.length (x + 1 + 1 + 1 + 1 + 1 + 5 * (d : Int)) (fun N n => laws_markAffixS.l1 N n (x + 1 + 1 + 1 + 1 + 1) ((i + 1 : Nat) : Int) Y) := fun Y hY => by
      have := key Y (x + 1 + 1 + 1 + 1 + 1) (by omega) (by omega) (by omega) (by omega)
      rwa [hY] at this
    exact hl _ (by simp only [List.length_set])
theorem markEnt_l1 : ∀ (d i : Nat) (y : List PV) (x : Int), i + d = y.length → y.length ≤ 1000000000 → 0 ≤ x → x + 2 * d < 4000000000000000000 → Tot2 y.length (x + 2 * d) (fun N n => laws_markEntryS.l1 N n x (i : Int) y) := by
  intro d
  induction d with
  | zero =>
    intro i y x hi hy hx h4
    have c0 : ((i : Int) < (y.length : Int)) = False := fls (by omega)
    refine Tot2.succ ⟨y, rfl, ?_⟩
    simp only [laws_markEntryS.l1_eq, c0, strs_len, strs_elem, ints_len, ints_elem, items_list, fld_agg, elem_list, toStr_sc, toInt_sc, toBool_sc, headD_one, nat_int, get_bt, decide_eq_true_eq, decide_eq_false_iff_not, decide_true, decide_false, if_true, if_false, ite_self, Bool.not_true, Bool.not_false, Bool.false_eq_true, Bool.true_eq_false, Bool.true_and, Bool.false_and, Bool.and_true, Bool.and_false, not_true, not_false_iff, Option.bind_some, nn, toList_inj, Bool.not_eq_true', Bool.not_eq_false', Int.le_refl, and_self, true_and, and_true, false_and, and_false, bne_self_eq_false, beq_self_eq_true, Int.reduceEq, Nat.reduceEqDiff, List.length_singleton, List.tail_cons, Int.reduceLE, Int.reduceLT, decide_eq_true_eq]
    refine Ev2.ext (Ev2.now _) ?_
    simp
  | succ d ih =>
    intro i y x hi hy hx h4
    have c0 : ((i : Int) < (y.length : Int)) = True := tru (by omega)
    have w1 : IntKind.i64.wrap (x + 1) = x + 1 := wrap_id (by omega) (by omega)
    have w2 : IntKind.i64.wrap (x + 1 + 1) = x + 1 + 1 := wrap_id (by omega) (by omega)
    have wi : IntKind.i64.wrap ((i : Int) + 1) = ((i + 1 : Nat) : Int) := nat_wrap (by omega) (by omega)
    have m1 := markText_ev x (by omega)
    have m2 := markText_ev (x + 1) (by omega)
    refine Tot2.succ ?_
    simp only [laws_markEntryS.l1_eq, c0, w1, w2, wi, nn, strs_len, strs_elem, ints_len, ints_elem, items_list, fld_agg, elem_list, toStr_sc, toInt_sc, toBool_sc, headD_one, nat_int, get_bt, decide_eq_true_eq, decide_eq_false_iff_not, decide_true, decide_false, if_true, if_false, ite_self, Bool.not_true, Bool.not_false, Bool.false_eq_true, Bool.true_eq_false, Bool.true_and, Bool.false_and, Bool.and_true, Bool.and_false, not_true, not_false_iff, Option.bind_some, nn, toList_inj, Bool.not_eq_true', Bool.not_eq_false', Int.le_refl, and_self, true_and, and_true, false_and, and_false, bne_self_eq_false, beq_self_eq_true, Int.reduceEq, Nat.reduceEqDiff, List.length_singleton, List.tail_cons, Int.reduceLE, Int.reduceLT, decide_eq_true_eq]
    refine Tot2.bind m1 ?_
    simp only [List.length_set, c0, nn, strs_len, strs_elem, ints_len, ints_elem, items_list, fld_agg, elem_list, toStr_sc, toInt_sc, toBool_sc, headD_one, nat_int, get_bt, decide_eq_true_eq, decide_eq_false_iff_not, decide_true, decide_false, if_true, if_false, ite_self, Bool.not_true, Bool.not_false, Bool.false_eq_true, Bool.true_eq_false, Bool.true_and, Bool.false_and, Bool.and_true, Bool.and_false, not_true, not_false_iff, Option.bind_some, nn, toList_inj, Bool.not_eq_true', Bool.not_eq_false', Int.le_refl, and_self, true_and, and_true, false_and, and_false, bne_self_eq_false, beq_self_eq_true, Int.reduceEq, Nat.reduceEqDiff, List.length_singleton, List.tail_cons, Int.reduceLE, Int.reduceLT, decide_eq_true_eq]
    refine Tot2.bind m2 ?_
    simp only [List.length_set, c0, nn, strs_len, strs_elem, ints_len, ints_elem, items_list, fld_agg, elem_list, toStr_sc, toInt_sc, toBool_sc, headD_one, nat_int, get_bt, decide_eq_true_eq, decide_eq_false_iff_not, decide_true, decide_false, if_true, if_false, ite_self, Bool.not_true, Bool.not_false, Bool.false_eq_true, Bool.true_eq_false, Bool.true_and, Bool.false_and, Bool.and_true, Bool.and_false, not_true, not_false_iff, Option.bind_some, nn, toList_inj, Bool.not_eq_true', Bool.not_eq_false', Int.le_refl, and_self, true_and, and_true, false_and, and_false, bne_self_eq_false, beq_self_eq_true, Int.reduceEq, Nat.reduceEqDiff, List.length_singleton, List.tail_cons, Int.reduceLE, Int.reduceLT, decide_eq_true_eq]
    have e : x + 2 * ((d + 1 : Nat) : Int) = x + 1 + 1 + 2 * (d : Int) := by omega
    rw [e]
    have hl : ∀ Y : List PV, Y.length = y.length → Tot2 y.length (x + 1 + 1 + 2 * (d : Int)) (fun N n => laws_markEntryS.l1 N n (x + 1 + 1) ((i + 1 : Nat) : Int) Y) := fun Y hY => by
      have := ih (i + 1) Y (x + 1 + 1) (by omega) (by omega) (by omega) (by omega)
      rwa [hY] at this
    exact hl _ (by simp only [List.length_set])
theorem markAff_l0 (y : List PV) (x : Int) (hy : y.length ≤ 1000000000) (hx : 0 ≤ x) (h4 : x ≤ 1000000000) : Tot2 y.length (x + 5 * y.length) (fun N n => laws_markAffixS.l0 N n x 0 (PV.list y)) := by
  obtain ⟨d, hd⟩ : ∃ d, d = y.length := ⟨_, rfl⟩
  cases d with
  | zero =>
    have c0 : ((0 : Int) < (y.length : Int)) = False := fls (by omega)
    refine Tot2.succ ⟨y, rfl, ?_⟩
    simp only [laws_markAffixS.l0_eq, c0, strs_len, strs_elem, ints_len, ints_elem, items_list, fld_agg, elem_list, toStr_sc, toInt_sc, toBool_sc, headD_one, nat_int, get_bt, decide_eq_true_eq, decide_eq_false_iff_not, decide_true, decide_false, if_true, if_false, ite_self, Bool.not_true, Bool.not_false, Bool.false_eq_true, Bool.true_eq_false, Bool.true_and, Bool.false_and, Bool.and_true, Bool.and_false, not_true, not_false_iff, Option.bind_some, nn, toList_inj, Bool.not_eq_true', Bool.not_eq_false', Int.le_refl, and_self, true_and, and_true, false_and, and_false, bne_self_eq_false, beq_self_eq_true, Int.reduceEq, Nat.reduceEqDiff, List.length_singleton, List.tail_cons, Int.reduceLE, Int.reduceLT, decide_eq_true_eq]
    refine Ev2.ext (Ev2.now _) ?_
    rw [← hd]; simp
  | succ d =>
    have c0 : ((0 : Int) < (y.length : Int)) = True := tru (by omega)
    have w1 : IntKind.i64.wrap (x + 1) = x + 1 := wrap_id (by omega) (by omega)
    have w2 : IntKind.i64.wrap (x + 1 + 1) = x + 1 + 1 := wrap_id (by omega) (by omega)
    have w3 : IntKind.i64.wrap (x + 1 + 1 + 1) = x + 1 + 1 + 1 := wrap_id (by omega) (by omega)
    have w4 : IntKind.i64.wrap (x + 1 + 1 + 1 + 1) = x + 1 + 1 + 1 + 1 := wrap_id (by omega) (by omega)
    have w5 : IntKind.i64.wrap (x + 1 + 1 + 1 + 1 + 1) = x + 1 + 1 + 1 + 1 + 1 := wrap_id (by omega) (by omega)
    have wi : IntKind.i64.wrap ((0 : Int) + 1) = ((1 : Nat) : Int) := nat_wrap (by omega) (by omega)
    have z3 : ((3 : Int) = 0) = False := by simp
    have m1 := markText_ev x (by omega)
    have m2 := markText_ev (x + 1 + 1) (by omega)
    have m3 := markText_ev (x + 1 + 1 + 1) (by omega)
    have m4 := markText_ev (x + 1 + 1 + 1 + 1) (by omega)
    refine Tot2.succ ?_
    simp only [laws_markAffixS.l0_eq, c0, w1, w2, w3, w4, w5, wi, List.length_set, z3, nn, strs_len, strs_elem, ints_len, ints_elem, items_list, fld_agg, elem_list, toStr_sc, toInt_sc, toBool_sc, headD_one, nat_int, get_bt, decide_eq_true_eq, decide_eq_false_iff_not, decide_true, decide_false, if_true, if_false, ite_self, Bool.not_true, Bool.not_false, Bool.false_eq_true, Bool.true_eq_false, Bool.true_and, Bool.false_and, Bool.and_true, Bool.and_false, not_true, not_false_iff, Option.bind_some, nn, toList_inj, Bool.not_eq_true', Bool.not_eq_false', Int.le_refl, and_self, true_and, and_true, false_and, and_false, bne_self_eq_false, beq_self_eq_true, Int.reduceEq, Nat.reduceEqDiff, List.length_singleton, List.tail_cons, Int.reduceLE, Int.reduceLT, decide_eq_true_eq]
    refine Tot2.bind m1 ?_
    simp only [List.length_set, c0, nn, strs_len, strs_elem, ints_len, ints_elem, items_list, fld_agg, elem_list, toStr_sc, toInt_sc, toBool_sc, headD_one, nat_int, get_bt, decide_eq_true_eq, decide_eq_false_iff_not, decide_true, decide_false, if_true, if_false, ite_self, Bool.not_true, Bool.not_false, Bool.false_eq_true, Bool.true_eq_false, Bool.true_and, Bool.false_and, Bool.and_true, Bool.and_false, not_true, not_false_iff, Option.bind_some, nn, toList_inj, Bool.not_eq_true', Bool.not_eq_false', Int.le_refl, and_self, true_and, and_true, false_and, and_false, bne_self_eq_false, beq_self_eq_true, Int.reduceEq, Nat.reduceEqDiff, List.length_singleton, List.tail_cons, Int.reduceLE, Int.reduceLT, decide_eq_true_eq]
    refine Tot2.bind m2 ?_
    simp only [List.length_set, c0, nn, strs_len, strs_elem, ints_len, ints_elem, items_list, fld_agg, elem_list, toStr_sc, toInt_sc, toBool_sc, headD_one, nat_int, get_bt, decide_eq_true_eq, decide_eq_false_iff_not, decide_true, decide_false, if_true, if_false, ite_self, Bool.not_true, Bool.not_false, Bool.false_eq_true, Bool.true_eq_false, Bool.true_and, Bool.false_and, Bool.and_true, Bool.and_false, not_true, not_false_iff, Option.bind_some, nn, toList_inj, Bool.not_eq_true', Bool.not_eq_false', Int.le_refl, and_self, true_and, and_true, false_and, and_false, bne_self_eq_false, beq_self_eq_true, Int.reduceEq, Nat.reduceEqDiff, List.length_singleton, List.tail_cons, Int.reduceLE, Int.reduceLT, decide_eq_true_eq]
    refine Tot2.bind m3 ?_
    simp only [List.length_set, c0, nn, strs_len, strs_elem, ints_len, ints_elem, items_list, fld_agg, elem_list, toStr_sc, toInt_sc, toBool_sc, headD_one, nat_int, get_bt, decide_eq_true_eq, decide_eq_false_iff_not, decide_true, decide_false, if_true, if_false, ite_self, Bool.not_true, Bool.not_false, Bool.false_eq_true, Bool.true_eq_false, Bool.true_and, Bool.false_and, Bool.and_true, Bool.and_false, not_true, not_false_iff, Option.bind_some, nn, toList_inj, Bool.not_eq_true', Bool.not_eq_false', Int.le_refl, and_self, true_and, and_true, false_and, and_false, bne_self_eq_false, beq_self_eq_true, Int.reduceEq, Nat.reduceEqDiff, List.length_singleton, List.tail_cons, Int.reduceLE, Int.reduceLT, decide_eq_true_eq]
    refine Tot2.bind m4 ?_
    simp only [List.length_set, c0, nn, strs_len, strs_elem, ints_len, ints_elem, items_list, fld_agg, elem_list, toStr_sc, toInt_sc, toBool_sc, headD_one, nat_int, get_bt, decide_eq_true_eq, decide_eq_false_iff_not, decide_true, decide_false, if_true, if_false, ite_self, Bool.not_true, Bool.not_false, Bool.false_eq_true, Bool.true_eq_false, Bool.true_and, Bool.false_and, Bool.and_true, Bool.and_false, not_true, not_false_iff, Option.bind_some, nn, toList_inj, Bool.not_eq_true', Bool.not_eq_false', Int.le_refl, and_self, true_and, and_true, false_and, and_false, bne_self_eq_false, beq_self_eq_true, Int.reduceEq, Nat.reduceEqDiff, List.length_singleton, List.tail_cons, Int.reduceLE, Int.reduceLT, decide_eq_true_eq]
    have e : x + 5 * (y.length : Int) = x + 1 + 1 + 1 + 1 + 1 + 5 * (d : Int) := by omega
    rw [e]
    have hl : ∀ Y : List PV, Y.length = y.length → Tot2 y.length (x + 1 + 1 + 1 + 1 + 1 + 5 * (d : Int)) (fun N n => laws_markAffixS.l1 N n (x + 1 + 1 + 1 + 1 + 1) ((1 : Nat) : Int) Y) := fun Y hY => by
      have := markAff_l1 d 1 Y (x + 1 + 1 + 1 + 1 + 1) (by omega) (by omega) (by omega) (by omega)
      rwa [hY] at this
    exact hl _ (by simp only [List.length_set])
theorem markEnt_l0 (y : List PV) (x : Int) (hy : y.length ≤ 1000000000) (hx : 0 ≤ x) (h4 : x ≤ 10000000000) : Tot2 y.length (x + 2 * y.length) (fun N n => laws_markEntryS.l0 N n x 0 (PV.list y)) := by
  obtain ⟨d, hd⟩ : ∃ d, d = y.length := ⟨_, rfl⟩
  cases d with
  | zero =>
    have c0 : ((0 : Int) < (y.length : Int)) = False := fls (by omega)
    refine Tot2.succ ⟨y, rfl, ?_⟩
    simp only [laws_markEntryS.l0_eq, c0, strs_len, strs_elem, ints_len, ints_elem, items_list, fld_agg, elem_list, toStr_sc, toInt_sc, toBool_sc, headD_one, nat_int, get_bt, decide_eq_true_eq, decide_eq_false_iff_not, decide_true, decide_false, if_true, if_false, ite_self, Bool.not_true, Bool.not_false, Bool.false_eq_true, Bool.true_eq_false, Bool.true_and, Bool.false_and, Bool.and_true, Bool.and_false, not_true, not_false_iff, Option.bind_some, nn, toList_inj, Bool.not_eq_true', Bool.not_eq_false', Int.le_refl, and_self, true_and, and_true, false_and, and_false, bne_self_eq_false, beq_self_eq_true, Int.reduceEq, Nat.reduceEqDiff, List.length_singleton, List.tail_cons, Int.reduceLE, Int.reduceLT, decide_eq_true_eq]
    refine Ev2.ext (Ev2.now _) ?_
    rw [← hd]; simp
  | succ d =>
    have c0 : ((0 : Int) < (y.length : Int)) = True := tru (by omega)
    have w1 : IntKind.i64.wrap (x + 1) = x + 1 := wrap_id (by omega) (by omega)
    have w2 : IntKind.i64.wrap (x + 1 + 1) = x + 1 + 1 := wrap_id (by omega) (by omega)
    have wi : IntKind.i64.wrap ((0 : Int) + 1) = ((1 : Nat) : Int) := nat_wrap (by omega) (by omega)
    have m1 := markText_ev x (by omega)
    have m2 := markText_ev (x + 1) (by omega)
    refine Tot2.succ ?_
    simp only [laws_markEntryS.l0_eq, c0, w1, w2, wi, nn, strs_len, strs_elem, ints_len, ints_elem, items_list, fld_agg, elem_list, toStr_sc, toInt_sc, toBool_sc, headD_one, nat_int, get_bt, decide_eq_true_eq, decide_eq_false_iff_not, decide_true, decide_false, if_true, if_false, ite_self, Bool.not_true, Bool.not_false, Bool.false_eq_true, Bool.true_eq_false, Bool.true_and, Bool.false_and, Bool.and_true, Bool.and_false, not_true, not_false_iff, Option.bind_some, nn, toList_inj, Bool.not_eq_true', Bool.not_eq_false', Int.le_refl, and_self, true_and, and_true, false_and, and_false, bne_self_eq_false, beq_self_eq_true, Int.reduceEq, Nat.reduceEqDiff, List.length_singleton, List.tail_cons, Int.reduceLE, Int.reduceLT, decide_eq_true_eq]
    refine Tot2.bind m1 ?_
    simp only [List.length_set, c0, nn, strs_len, strs_elem, ints_len, ints_elem, items_list, fld_agg, elem_list, toStr_sc, toInt_sc, toBool_sc, headD_one, nat_int, get_bt, decide_eq_true_eq, decide_eq_false_iff_not, decide_true, decide_false, if_true, if_false, ite_self, Bool.not_true, Bool.not_false, Bool.false_eq_true, Bool.true_eq_false, Bool.true_and, Bool.false_and, Bool.and_true, Bool.and_false, not_true, not_false_iff, Option.bind_some, nn, toList_inj, Bool.not_eq_true', Bool.not_eq_false', Int.le_refl, and_self, true_and, and_true, false_and, and_false, bne_self_eq_false, beq_self_eq_true, Int.reduceEq, Nat.reduceEqDiff, List.length_singleton, List.tail_cons, Int.reduceLE, Int.reduceLT, decide_eq_true_eq]
    refine Tot2.bind m2 ?_
    simp only [List.length_set, c0, nn, strs_len, strs_elem, ints_len, ints_elem, items_list, fld_agg, elem_list, toStr_sc, toInt_sc, toBool_sc, headD_one, nat_int, get_bt, decide_eq_true_eq, decide_eq_false_iff_not, decide_true, decide_false, if_true, if_false, ite_self, Bool.not_true, Bool.not_false, Bool.false_eq_true, Bool.true_eq_false, Bool.true_and, Bool.false_and, Bool.and_true, Bool.and_false, not_true, not_false_iff, Option.bind_some, nn, toList_inj, Bool.not_eq_true', Bool.not_eq_false', Int.le_refl, and_self, true_and, and_true, false_and, and_false, bne_self_eq_false, beq_self_eq_true, Int.reduceEq, Nat.reduceEqDiff, List.length_singleton, List.tail_cons, Int.reduceLE, Int.reduceLT, decide_eq_true_eq]
    have e : x + 2 * (y.length : Int) = x + 1 + 1 + 2 * (d : Int) := by omega
    rw [e]
    have hl : ∀ Y : List PV, Y.length = y.length → Tot2 y.length (x + 1 + 1 + 2 * (d : Int)) (fun N n => laws_markEntryS.l1 N n (x + 1 + 1) ((1 : Nat) : Int) Y) := fun Y hY => by
      have := markEnt_l1 d 1 Y (x + 1 + 1) (by omega) (by omega) (by omega) (by omega)
      rwa [hY] at this
    exact hl _ (by simp only [List.length_set])
theorem markBook_ev (af : List Aff) (es : List Ent) (hal : af.length ≤ 100000000) (hel : es.length ≤ 100000000) (x : Int) (hx : 0 ≤ x) (hx2 : x ≤ 1000000) : ∃ (k : Int) (A B : PV), 0 ≤ k ∧ k ≤ 2000000000 ∧ Ev (fun N => laws_markBook.f N [bookP af es, intP x]) [intP k, A, B] := by
  obtain ⟨y1, hy1, e1⟩ := markAff_l0 (af.map affP) x (by simpa using (by omega : af.length ≤ 1000000000)) hx (by omega)
  rw [List.length_map] at e1
  obtain ⟨y2, hy2, e2⟩ := markEnt_l0 (es.map entP) (x + 5 * (af.length : Int)) (by simpa using (by omega : es.length ≤ 1000000000)) (by omega) (by omega)
  rw [List.length_map] at e2
  refine ⟨x + 5 * (af.length : Int) + 2 * (es.length : Int), PV.list y1, PV.list y2, by omega, by omega, ?_⟩
  · have b1 : (bookP af es).fld 0 = PV.list (af.map affP) := rfl
    have b2 : (bookP af es).fld 1 = PV.list (es.map entP) := rfl
    simp only [laws_markBook.f_eq, b1, b2, laws_markAffixS.f_eq, laws_markEntryS.f_eq, strs_len, strs_elem, ints_len, ints_elem, items_list, fld_agg, elem_list, toStr_sc, toInt_sc, toBool_sc, headD_one, nat_int, get_bt, decide_eq_true_eq, decide_eq_false_iff_not, decide_true, decide_false, if_true, if_false, ite_self, Bool.not_true, Bool.not_false, Bool.false_eq_true, Bool.true_eq_false, Bool.true_and, Bool.false_and, Bool.and_true, Bool.and_false, not_true, not_false_iff, Option.bind_some, nn, toList_inj, Bool.not_eq_true', Bool.not_eq_false', Int.le_refl, and_self, true_and, and_true, false_and, and_false, bne_self_eq_false, beq_self_eq_true, Int.reduceEq, Nat.reduceEqDiff, List.length_singleton, List.tail_cons, Int.reduceLE, Int.reduceLT, decide_eq_true_eq]
    refine Ev.bind e1.diag ?_
    simp only [strs_len, strs_elem, ints_len, ints_elem, items_list, fld_agg, elem_list, toStr_sc, toInt_sc, toBool_sc, headD_one, nat_int, get_bt, decide_eq_true_eq, decide_eq_false_iff_not, decide_true, decide_false, if_true, if_false, ite_self, Bool.not_true, Bool.not_false, Bool.false_eq_true, Bool.true_eq_false, Bool.true_and, Bool.false_and, Bool.and_true, Bool.and_false, not_true, not_false_iff, Option.bind_some, nn, toList_inj, Bool.not_eq_true', Bool.not_eq_false', Int.le_refl, and_self, true_and, and_true, false_and, and_false, bne_self_eq_false, beq_self_eq_true, Int.reduceEq, Nat.reduceEqDiff, List.length_singleton, List.tail_cons, Int.reduceLE, Int.reduceLT, decide_eq_true_eq]
    refine Ev.bind e2.diag ?_
    simp only [strs_len, strs_elem, ints_len, ints_elem, items_list, fld_agg, elem_list, toStr_sc, toInt_sc, toBool_sc, headD_one, nat_int, get_bt, decide_eq_true_eq, decide_eq_false_iff_not, decide_true, decide_false, if_true, if_false, ite_self, Bool.not_true, Bool.not_false, Bool.false_eq_true, Bool.true_eq_false, Bool.true_and, Bool.false_and, Bool.and_true, Bool.and_false, not_true, not_false_iff, Option.bind_some, nn, toList_inj, Bool.not_eq_true', Bool.not_eq_false', Int.le_refl, and_self, true_and, and_true, false_and, and_false, bne_self_eq_false, beq_self_eq_true, Int.reduceEq, Nat.reduceEqDiff, List.length_singleton, List.tail_cons, Int.reduceLE, Int.reduceLT, decide_eq_true_eq]
    exact Ev.now _
/-- The law's own function answers true. -/
theorem law (ps : List PV) (h : PvOkL (PvOk Try.prog 8) [37, 9] ps) : ∃ N, laws_FnExactPartsOf.f N ps = some [boolP true] := by
  obtain ⟨p, q, rfl, h1, h2⟩ := pvOkL2 h
  obtain ⟨af, es, rfl, b1, b2, b3, b4⟩ := book_arg (P := Try.prog) (t := 37) (ta := 34) (te := 35) (ea := 83) (ee := 85) (b := 4) (x := 9) (by kernel_rfl) (by kernel_rfl) (by kernel_rfl) (by kernel_rfl) (by kernel_rfl) (by kernel_rfl) (by kernel_rfl) h1
  obtain ⟨w, rfl, _⟩ := pvOk_str (P := Try.prog) (t := 9) (by kernel_rfl) h2
  have hm : reachBytes = 140737488351232 := rfl
  rw [hm] at b1 b2
  refine Ev.some ?_
  simp only [laws_FnExactPartsOf.f_eq, book_f0, book_f1, book_agg, strs_len, strs_elem, ints_len, ints_elem, items_list, fld_agg, elem_list, toStr_sc, toInt_sc, toBool_sc, headD_one, nat_int, get_bt, decide_eq_true_eq, decide_eq_false_iff_not, decide_true, decide_false, if_true, if_false, ite_self, Bool.not_true, Bool.not_false, Bool.false_eq_true, Bool.true_eq_false, Bool.true_and, Bool.false_and, Bool.and_true, Bool.and_false, not_true, not_false_iff, Option.bind_some, nn, toList_inj, Bool.not_eq_true', Bool.not_eq_false', Int.le_refl, and_self, true_and, and_true, false_and, and_false, bne_self_eq_false, beq_self_eq_true, Int.reduceEq, Nat.reduceEqDiff, List.length_singleton, List.tail_cons, Int.reduceLE, Int.reduceLT, decide_eq_true_eq]
  by_cases c1 : 1048576 < (w.size : Int)
  · simp only [c1, strs_len, strs_elem, ints_len, ints_elem, items_list, fld_agg, elem_list, toStr_sc, toInt_sc, toBool_sc, headD_one, nat_int, get_bt, decide_eq_true_eq, decide_eq_false_iff_not, decide_true, decide_false, if_true, if_false, ite_self, Bool.not_true, Bool.not_false, Bool.false_eq_true, Bool.true_eq_false, Bool.true_and, Bool.false_and, Bool.and_true, Bool.and_false, not_true, not_false_iff, Option.bind_some, nn, toList_inj, Bool.not_eq_true', Bool.not_eq_false', Int.le_refl, and_self, true_and, and_true, false_and, and_false, bne_self_eq_false, beq_self_eq_true, Int.reduceEq, Nat.reduceEqDiff, List.length_singleton, List.tail_cons, Int.reduceLE, Int.reduceLT, decide_eq_true_eq]; exact Ev.now _
  simp only [c1, strs_len, strs_elem, ints_len, ints_elem, items_list, fld_agg, elem_list, toStr_sc, toInt_sc, toBool_sc, headD_one, nat_int, get_bt, decide_eq_true_eq, decide_eq_false_iff_not, decide_true, decide_false, if_true, if_false, ite_self, Bool.not_true, Bool.not_false, Bool.false_eq_true, Bool.true_eq_false, Bool.true_and, Bool.false_and, Bool.and_true, Bool.and_false, not_true, not_false_iff, Option.bind_some, nn, toList_inj, Bool.not_eq_true', Bool.not_eq_false', Int.le_refl, and_self, true_and, and_true, false_and, and_false, bne_self_eq_false, beq_self_eq_true, Int.reduceEq, Nat.reduceEqDiff, List.length_singleton, List.tail_cons, Int.reduceLE, Int.reduceLT, decide_eq_true_eq]
  obtain ⟨r, g1, g2, g3, g4⟩ := szBook_ev af es (by omega) (by omega) (fun a ha => by have := b3 a ha; rw [hm] at this; omega) (fun e he => by have := b4 e he; rw [hm] at this; omega) 1048576 (by omega) (by omega)
  refine Ev.bind g1 ?_
  simp only [strs_len, strs_elem, ints_len, ints_elem, items_list, fld_agg, elem_list, toStr_sc, toInt_sc, toBool_sc, headD_one, nat_int, get_bt, decide_eq_true_eq, decide_eq_false_iff_not, decide_true, decide_false, if_true, if_false, ite_self, Bool.not_true, Bool.not_false, Bool.false_eq_true, Bool.true_eq_false, Bool.true_and, Bool.false_and, Bool.and_true, Bool.and_false, not_true, not_false_iff, Option.bind_some, nn, toList_inj, Bool.not_eq_true', Bool.not_eq_false', Int.le_refl, and_self, true_and, and_true, false_and, and_false, bne_self_eq_false, beq_self_eq_true, Int.reduceEq, Nat.reduceEqDiff, List.length_singleton, List.tail_cons, Int.reduceLE, Int.reduceLT, decide_eq_true_eq]
  by_cases hn : r < 0
  · simp only [hn, strs_len, strs_elem, ints_len, ints_elem, items_list, fld_agg, elem_list, toStr_sc, toInt_sc, toBool_sc, headD_one, nat_int, get_bt, decide_eq_true_eq, decide_eq_false_iff_not, decide_true, decide_false, if_true, if_false, ite_self, Bool.not_true, Bool.not_false, Bool.false_eq_true, Bool.true_eq_false, Bool.true_and, Bool.false_and, Bool.and_true, Bool.and_false, not_true, not_false_iff, Option.bind_some, nn, toList_inj, Bool.not_eq_true', Bool.not_eq_false', Int.le_refl, and_self, true_and, and_true, false_and, and_false, bne_self_eq_false, beq_self_eq_true, Int.reduceEq, Nat.reduceEqDiff, List.length_singleton, List.tail_cons, Int.reduceLE, Int.reduceLT, decide_eq_true_eq]; exact Ev.now _
  obtain ⟨⟨k1, k2⟩, hS⟩ := g4 (by omega)
  have hto := toBook_ev af es (by omega) (by omega)
  have hsp := specParts_ev hS w (by omega)
  have him := implParts_ev hS w (by omega)
  simp only [strP] at hsp him
  have hl : (partsR af es w).length ≤ 3 := by
    unfold partsR
    split
    · by_cases hne : partsB (bookW af es) w = []
      · rw [hne]; simp
      · obtain ⟨n, hn2, hp⟩ := partsB_ok (bookW af es) w hne
        have := hp.len; omega
    · simp
  obtain ⟨l, hll⟩ : ∃ l, l = partsR af es w := ⟨_, rfl⟩
  rw [← hll] at hsp him hl
  obtain ⟨k, A, B, m1, m2, m3⟩ := markBook_ev af es (by omega) (by omega) 1 (by omega) (by omega)
  have c5 : (k < 0) = False := fls (by omega)
  have e2 : ((1 + (l.length : Int)) < 0) = False := fls (by omega)
  simp only [hn, strs_len, strs_elem, ints_len, ints_elem, items_list, fld_agg, elem_list, toStr_sc, toInt_sc, toBool_sc, headD_one, nat_int, get_bt, decide_eq_true_eq, decide_eq_false_iff_not, decide_true, decide_false, if_true, if_false, ite_self, Bool.not_true, Bool.not_false, Bool.false_eq_true, Bool.true_eq_false, Bool.true_and, Bool.false_and, Bool.and_true, Bool.and_false, not_true, not_false_iff, Option.bind_some, nn, toList_inj, Bool.not_eq_true', Bool.not_eq_false', Int.le_refl, and_self, true_and, and_true, false_and, and_false, bne_self_eq_false, beq_self_eq_true, Int.reduceEq, Nat.reduceEqDiff, List.length_singleton, List.tail_cons, Int.reduceLE, Int.reduceLT, decide_eq_true_eq]
  refine Ev.bind hto ?_
  simp only [book_f0, book_f1, book_agg, strs_len, strs_elem, ints_len, ints_elem, items_list, fld_agg, elem_list, toStr_sc, toInt_sc, toBool_sc, headD_one, nat_int, get_bt, decide_eq_true_eq, decide_eq_false_iff_not, decide_true, decide_false, if_true, if_false, ite_self, Bool.not_true, Bool.not_false, Bool.false_eq_true, Bool.true_eq_false, Bool.true_and, Bool.false_and, Bool.and_true, Bool.and_false, not_true, not_false_iff, Option.bind_some, nn, toList_inj, Bool.not_eq_true', Bool.not_eq_false', Int.le_refl, and_self, true_and, and_true, false_and, and_false, bne_self_eq_false, beq_self_eq_true, Int.reduceEq, Nat.reduceEqDiff, List.length_singleton, List.tail_cons, Int.reduceLE, Int.reduceLT, decide_eq_true_eq]
  refine Ev.bind hsp ?_
  refine Ev.bind hto ?_
  simp only [book_f0, book_f1, book_agg, strs_len, strs_elem, ints_len, ints_elem, items_list, fld_agg, elem_list, toStr_sc, toInt_sc, toBool_sc, headD_one, nat_int, get_bt, decide_eq_true_eq, decide_eq_false_iff_not, decide_true, decide_false, if_true, if_false, ite_self, Bool.not_true, Bool.not_false, Bool.false_eq_true, Bool.true_eq_false, Bool.true_and, Bool.false_and, Bool.and_true, Bool.and_false, not_true, not_false_iff, Option.bind_some, nn, toList_inj, Bool.not_eq_true', Bool.not_eq_false', Int.le_refl, and_self, true_and, and_true, false_and, and_false, bne_self_eq_false, beq_self_eq_true, Int.reduceEq, Nat.reduceEqDiff, List.length_singleton, List.tail_cons, Int.reduceLE, Int.reduceLT, decide_eq_true_eq]
  refine Ev.bind him ?_
  simp only [strs_len, strs_elem, ints_len, ints_elem, items_list, fld_agg, elem_list, toStr_sc, toInt_sc, toBool_sc, headD_one, nat_int, get_bt, decide_eq_true_eq, decide_eq_false_iff_not, decide_true, decide_false, if_true, if_false, ite_self, Bool.not_true, Bool.not_false, Bool.false_eq_true, Bool.true_eq_false, Bool.true_and, Bool.false_and, Bool.and_true, Bool.and_false, not_true, not_false_iff, Option.bind_some, nn, toList_inj, Bool.not_eq_true', Bool.not_eq_false', Int.le_refl, and_self, true_and, and_true, false_and, and_false, bne_self_eq_false, beq_self_eq_true, Int.reduceEq, Nat.reduceEqDiff, List.length_singleton, List.tail_cons, Int.reduceLE, Int.reduceLT, decide_eq_true_eq]
  refine Ev.bind (eqStringS_ev l (by omega)) ?_
  simp only [strs_len, strs_elem, ints_len, ints_elem, items_list, fld_agg, elem_list, toStr_sc, toInt_sc, toBool_sc, headD_one, nat_int, get_bt, decide_eq_true_eq, decide_eq_false_iff_not, decide_true, decide_false, if_true, if_false, ite_self, Bool.not_true, Bool.not_false, Bool.false_eq_true, Bool.true_eq_false, Bool.true_and, Bool.false_and, Bool.and_true, Bool.and_false, not_true, not_false_iff, Option.bind_some, nn, toList_inj, Bool.not_eq_true', Bool.not_eq_false', Int.le_refl, and_self, true_and, and_true, false_and, and_false, bne_self_eq_false, beq_self_eq_true, Int.reduceEq, Nat.reduceEqDiff, List.length_singleton, List.tail_cons, Int.reduceLE, Int.reduceLT, decide_eq_true_eq]
  refine Ev.bind hto ?_
  simp only [book_f0, book_f1, book_agg, strs_len, strs_elem, ints_len, ints_elem, items_list, fld_agg, elem_list, toStr_sc, toInt_sc, toBool_sc, headD_one, nat_int, get_bt, decide_eq_true_eq, decide_eq_false_iff_not, decide_true, decide_false, if_true, if_false, ite_self, Bool.not_true, Bool.not_false, Bool.false_eq_true, Bool.true_eq_false, Bool.true_and, Bool.false_and, Bool.and_true, Bool.and_false, not_true, not_false_iff, Option.bind_some, nn, toList_inj, Bool.not_eq_true', Bool.not_eq_false', Int.le_refl, and_self, true_and, and_true, false_and, and_false, bne_self_eq_false, beq_self_eq_true, Int.reduceEq, Nat.reduceEqDiff, List.length_singleton, List.tail_cons, Int.reduceLE, Int.reduceLT, decide_eq_true_eq]
  refine Ev.bind (eqBook_ev af es (by omega) (by omega)) ?_
  simp only [strs_len, strs_elem, ints_len, ints_elem, items_list, fld_agg, elem_list, toStr_sc, toInt_sc, toBool_sc, headD_one, nat_int, get_bt, decide_eq_true_eq, decide_eq_false_iff_not, decide_true, decide_false, if_true, if_false, ite_self, Bool.not_true, Bool.not_false, Bool.false_eq_true, Bool.true_eq_false, Bool.true_and, Bool.false_and, Bool.and_true, Bool.and_false, not_true, not_false_iff, Option.bind_some, nn, toList_inj, Bool.not_eq_true', Bool.not_eq_false', Int.le_refl, and_self, true_and, and_true, false_and, and_false, bne_self_eq_false, beq_self_eq_true, Int.reduceEq, Nat.reduceEqDiff, List.length_singleton, List.tail_cons, Int.reduceLE, Int.reduceLT, decide_eq_true_eq]
  refine Ev.bind m3 ?_
  simp only [c5, strs_len, strs_elem, ints_len, ints_elem, items_list, fld_agg, elem_list, toStr_sc, toInt_sc, toBool_sc, headD_one, nat_int, get_bt, decide_eq_true_eq, decide_eq_false_iff_not, decide_true, decide_false, if_true, if_false, ite_self, Bool.not_true, Bool.not_false, Bool.false_eq_true, Bool.true_eq_false, Bool.true_and, Bool.false_and, Bool.and_true, Bool.and_false, not_true, not_false_iff, Option.bind_some, nn, toList_inj, Bool.not_eq_true', Bool.not_eq_false', Int.le_refl, and_self, true_and, and_true, false_and, and_false, bne_self_eq_false, beq_self_eq_true, Int.reduceEq, Nat.reduceEqDiff, List.length_singleton, List.tail_cons, Int.reduceLE, Int.reduceLT, decide_eq_true_eq]
  refine Ev.bind (eqStringS_ev l (by omega)) ?_
  simp only [strs_len, strs_elem, ints_len, ints_elem, items_list, fld_agg, elem_list, toStr_sc, toInt_sc, toBool_sc, headD_one, nat_int, get_bt, decide_eq_true_eq, decide_eq_false_iff_not, decide_true, decide_false, if_true, if_false, ite_self, Bool.not_true, Bool.not_false, Bool.false_eq_true, Bool.true_eq_false, Bool.true_and, Bool.false_and, Bool.and_true, Bool.and_false, not_true, not_false_iff, Option.bind_some, nn, toList_inj, Bool.not_eq_true', Bool.not_eq_false', Int.le_refl, and_self, true_and, and_true, false_and, and_false, bne_self_eq_false, beq_self_eq_true, Int.reduceEq, Nat.reduceEqDiff, List.length_singleton, List.tail_cons, Int.reduceLE, Int.reduceLT, decide_eq_true_eq]
  refine Ev.bind (markStringS_ev l 1 (by omega) (by omega) (by omega)) ?_
  simp only [strs_len, strs_elem, ints_len, ints_elem, items_list, fld_agg, elem_list, toStr_sc, toInt_sc, toBool_sc, headD_one, nat_int, get_bt, decide_eq_true_eq, decide_eq_false_iff_not, decide_true, decide_false, if_true, if_false, ite_self, Bool.not_true, Bool.not_false, Bool.false_eq_true, Bool.true_eq_false, Bool.true_and, Bool.false_and, Bool.and_true, Bool.and_false, not_true, not_false_iff, Option.bind_some, nn, toList_inj, Bool.not_eq_true', Bool.not_eq_false', Int.le_refl, and_self, true_and, and_true, false_and, and_false, bne_self_eq_false, beq_self_eq_true, Int.reduceEq, Nat.reduceEqDiff, List.length_singleton, List.tail_cons, Int.reduceLE, Int.reduceLT, decide_eq_true_eq]
  refine Ev.bind (heldStringS_ev l 1 (by omega) (by omega) (by omega)) ?_
  simp only [e2, strs_len, strs_elem, ints_len, ints_elem, items_list, fld_agg, elem_list, toStr_sc, toInt_sc, toBool_sc, headD_one, nat_int, get_bt, decide_eq_true_eq, decide_eq_false_iff_not, decide_true, decide_false, if_true, if_false, ite_self, Bool.not_true, Bool.not_false, Bool.false_eq_true, Bool.true_eq_false, Bool.true_and, Bool.false_and, Bool.and_true, Bool.and_false, not_true, not_false_iff, Option.bind_some, nn, toList_inj, Bool.not_eq_true', Bool.not_eq_false', Int.le_refl, and_self, true_and, and_true, false_and, and_false, bne_self_eq_false, beq_self_eq_true, Int.reduceEq, Nat.reduceEqDiff, List.length_singleton, List.tail_cons, Int.reduceLE, Int.reduceLT, decide_eq_true_eq]
  refine Ev.bind hto ?_
  simp only [book_f0, book_f1, book_agg, strs_len, strs_elem, ints_len, ints_elem, items_list, fld_agg, elem_list, toStr_sc, toInt_sc, toBool_sc, headD_one, nat_int, get_bt, decide_eq_true_eq, decide_eq_false_iff_not, decide_true, decide_false, if_true, if_false, ite_self, Bool.not_true, Bool.not_false, Bool.false_eq_true, Bool.true_eq_false, Bool.true_and, Bool.false_and, Bool.and_true, Bool.and_false, not_true, not_false_iff, Option.bind_some, nn, toList_inj, Bool.not_eq_true', Bool.not_eq_false', Int.le_refl, and_self, true_and, and_true, false_and, and_false, bne_self_eq_false, beq_self_eq_true, Int.reduceEq, Nat.reduceEqDiff, List.length_singleton, List.tail_cons, Int.reduceLE, Int.reduceLT, decide_eq_true_eq]
  refine Ev.bind him ?_
  simp only [strs_len, strs_elem, ints_len, ints_elem, items_list, fld_agg, elem_list, toStr_sc, toInt_sc, toBool_sc, headD_one, nat_int, get_bt, decide_eq_true_eq, decide_eq_false_iff_not, decide_true, decide_false, if_true, if_false, ite_self, Bool.not_true, Bool.not_false, Bool.false_eq_true, Bool.true_eq_false, Bool.true_and, Bool.false_and, Bool.and_true, Bool.and_false, not_true, not_false_iff, Option.bind_some, nn, toList_inj, Bool.not_eq_true', Bool.not_eq_false', Int.le_refl, and_self, true_and, and_true, false_and, and_false, bne_self_eq_false, beq_self_eq_true, Int.reduceEq, Nat.reduceEqDiff, List.length_singleton, List.tail_cons, Int.reduceLE, Int.reduceLT, decide_eq_true_eq]
  refine Ev.bind (eqStringS_ev l (by omega)) ?_
  simp only [strs_len, strs_elem, ints_len, ints_elem, items_list, fld_agg, elem_list, toStr_sc, toInt_sc, toBool_sc, headD_one, nat_int, get_bt, decide_eq_true_eq, decide_eq_false_iff_not, decide_true, decide_false, if_true, if_false, ite_self, Bool.not_true, Bool.not_false, Bool.false_eq_true, Bool.true_eq_false, Bool.true_and, Bool.false_and, Bool.and_true, Bool.and_false, not_true, not_false_iff, Option.bind_some, nn, toList_inj, Bool.not_eq_true', Bool.not_eq_false', Int.le_refl, and_self, true_and, and_true, false_and, and_false, bne_self_eq_false, beq_self_eq_true, Int.reduceEq, Nat.reduceEqDiff, List.length_singleton, List.tail_cons, Int.reduceLE, Int.reduceLT, decide_eq_true_eq]
  refine Ev.bind (heldStringS_ev l 1 (by omega) (by omega) (by omega)) ?_
  simp only [e2, strs_len, strs_elem, ints_len, ints_elem, items_list, fld_agg, elem_list, toStr_sc, toInt_sc, toBool_sc, headD_one, nat_int, get_bt, decide_eq_true_eq, decide_eq_false_iff_not, decide_true, decide_false, if_true, if_false, ite_self, Bool.not_true, Bool.not_false, Bool.false_eq_true, Bool.true_eq_false, Bool.true_and, Bool.false_and, Bool.and_true, Bool.and_false, not_true, not_false_iff, Option.bind_some, nn, toList_inj, Bool.not_eq_true', Bool.not_eq_false', Int.le_refl, and_self, true_and, and_true, false_and, and_false, bne_self_eq_false, beq_self_eq_true, Int.reduceEq, Nat.reduceEqDiff, List.length_singleton, List.tail_cons, Int.reduceLE, Int.reduceLT, decide_eq_true_eq]
  exact Ev.now _
end Go.Proofs.Ytoiigoflkhmjnaa.FnExactPartsOf
