/- The law FnExactUserCheck, over the trees that its functions compute: it answers true, for all arguments of the bounds that the row grants. -/
import Derived.Test.YtoiigoflkhmjnaaGreatDoorFnFnExactUserChecky2
set_option linter.unusedVariables false
set_option linter.unusedSimpArgs false
set_option maxRecDepth 10000
namespace Go.Proofs.YtoiigoflkhmjnaaGreatDoor.FnExactUserCheck
open Go Go.Proofs.YtoiigoflkhmjnaaGreatDoorAm
noncomputable def markStrs : Int → List ByteArray → List ByteArray
  | _, [] => []
  | k, _ :: l => mt k :: markStrs (k + 1) l
theorem markStrs_len (k : Int) (l : List ByteArray) : (markStrs k l).length = l.length := by
  induction l generalizing k with
  | nil => rfl
  | cons c l ih => simp [markStrs, ih]
theorem markStringS_loop (n : Nat) (hn : n ≤ 1152921504606846976) : ∀ rest pre : List ByteArray, pre.length + rest.length = n → ∀ x : Int, x + rest.length < 4611686018427387904 → 0 ≤ x →
    Ev2 (fun N m => laws_markStringS.l1 N m x (pre.length : Int) ((pre ++ rest).map strP)) [intP (x + rest.length), strsP (pre ++ markStrs x rest)] := by
  intro rest
  induction rest with
  | nil =>
    intro pre hp x hx h0
    refine Ev2.succ ?_
    simp only [laws_markStringS.l1_eq, List.length_map, at_end (xs := pre ++ []) rfl, markStrs, List.length_nil, Int.natCast_zero, Int.add_zero, strs_len, strs_elem, ints_len, ints_elem, items_list, fld_agg, elem_list, toStr_sc, toInt_sc, toBool_sc, headD_one, nat_int, get_bt, decide_eq_true_eq, decide_eq_false_iff_not, decide_true, decide_false, if_true, if_false, ite_self, Bool.not_true, Bool.not_false, Bool.false_eq_true, Bool.true_eq_false, Bool.true_and, Bool.false_and, Bool.and_true, Bool.and_false, not_true, not_false_iff, Option.bind_some, nn, toList_inj, Bool.not_eq_true', Bool.not_eq_false', Int.le_refl, and_self, true_and, and_true, false_and, and_false, bne_self_eq_false, beq_self_eq_true, Int.reduceEq, Nat.reduceEqDiff, List.length_singleton, List.tail_cons, Int.reduceLE, Int.reduceLT, decide_eq_true_eq]
    exact Ev2.now _
  | cons c rest ih =>
    intro pre hp x hx h0
    simp only [List.length_cons] at hx hp
    have hset : ((pre ++ c :: rest).map strP).set pre.length (strP (mt x)) = ((pre ++ [mt x]) ++ rest).map strP := by
      simp
    refine Ev2.succ ?_
    simp only [laws_markStringS.l1_eq, List.length_map, at_lt (xs := pre ++ c :: rest) rfl, at_next (xs := pre ++ c :: rest) rfl (by simp; omega), wrap_id (n := x + 1) (by omega) (by omega), strs_len, strs_elem, ints_len, ints_elem, items_list, fld_agg, elem_list, toStr_sc, toInt_sc, toBool_sc, headD_one, nat_int, get_bt, decide_eq_true_eq, decide_eq_false_iff_not, decide_true, decide_false, if_true, if_false, ite_self, Bool.not_true, Bool.not_false, Bool.false_eq_true, Bool.true_eq_false, Bool.true_and, Bool.false_and, Bool.and_true, Bool.and_false, not_true, not_false_iff, Option.bind_some, nn, toList_inj, Bool.not_eq_true', Bool.not_eq_false', Int.le_refl, and_self, true_and, and_true, false_and, and_false, bne_self_eq_false, beq_self_eq_true, Int.reduceEq, Nat.reduceEqDiff, List.length_singleton, List.tail_cons, Int.reduceLE, Int.reduceLT, decide_eq_true_eq]
    refine Ev2.bind (markText_ev x (by omega)) ?_
    simp only [strs_len, strs_elem, ints_len, ints_elem, items_list, fld_agg, elem_list, toStr_sc, toInt_sc, toBool_sc, headD_one, nat_int, get_bt, decide_eq_true_eq, decide_eq_false_iff_not, decide_true, decide_false, if_true, if_false, ite_self, Bool.not_true, Bool.not_false, Bool.false_eq_true, Bool.true_eq_false, Bool.true_and, Bool.false_and, Bool.and_true, Bool.and_false, not_true, not_false_iff, Option.bind_some, nn, toList_inj, Bool.not_eq_true', Bool.not_eq_false', Int.le_refl, and_self, true_and, and_true, false_and, and_false, bne_self_eq_false, beq_self_eq_true, Int.reduceEq, Nat.reduceEqDiff, List.length_singleton, List.tail_cons, Int.reduceLE, Int.reduceLT, decide_eq_true_eq, hset]
    have := ih (pre ++ [mt x]) (by simp; omega) (x + 1) (by omega) (by omega)
    have e : (pre ++ [mt x]).length = (pre ++ [c]).length := by simp
    rw [e] at this
    refine Ev2.ext this ?_
    simp only [markStrs, List.append_assoc, List.cons_append, List.nil_append, List.length_cons]
    congr 1
    simp; omega
theorem markStringS_ev (l : List ByteArray) (x : Int) (hl : l.length ≤ 1152921504606846976) (hx : x + l.length < 4611686018427387904) (h0 : 0 ≤ x) :
    Ev (fun N => laws_markStringS.f N [strsP l, intP x]) [intP (x + l.length), strsP (markStrs x l)] := by
  simp only [laws_markStringS.f_eq, strs_len, strs_elem, ints_len, ints_elem, items_list, fld_agg, elem_list, toStr_sc, toInt_sc, toBool_sc, headD_one, nat_int, get_bt, decide_eq_true_eq, decide_eq_false_iff_not, decide_true, decide_false, if_true, if_false, ite_self, Bool.not_true, Bool.not_false, Bool.false_eq_true, Bool.true_eq_false, Bool.true_and, Bool.false_and, Bool.and_true, Bool.and_false, not_true, not_false_iff, Option.bind_some, nn, toList_inj, Bool.not_eq_true', Bool.not_eq_false', Int.le_refl, and_self, true_and, and_true, false_and, and_false, bne_self_eq_false, beq_self_eq_true, Int.reduceEq, Nat.reduceEqDiff, List.length_singleton, List.tail_cons, Int.reduceLE, Int.reduceLT, decide_eq_true_eq]
  refine Ev2.diag (g := fun N n => laws_markStringS.l0 N n x 0 (strsP l)) (Ev2.succ ?_)
  cases l with
  | nil =>
    have h00 : ¬ (0 : Int) < (([] : List ByteArray).length : Int) := by simp
    simp only [laws_markStringS.l0_eq, strs_len, strs_elem, ints_len, ints_elem, items_list, fld_agg, elem_list, toStr_sc, toInt_sc, toBool_sc, headD_one, nat_int, get_bt, decide_eq_true_eq, decide_eq_false_iff_not, decide_true, decide_false, if_true, if_false, ite_self, Bool.not_true, Bool.not_false, Bool.false_eq_true, Bool.true_eq_false, Bool.true_and, Bool.false_and, Bool.and_true, Bool.and_false, not_true, not_false_iff, Option.bind_some, nn, toList_inj, Bool.not_eq_true', Bool.not_eq_false', Int.le_refl, and_self, true_and, and_true, false_and, and_false, bne_self_eq_false, beq_self_eq_true, Int.reduceEq, Nat.reduceEqDiff, List.length_singleton, List.tail_cons, Int.reduceLE, Int.reduceLT, decide_eq_true_eq, h00]
    refine Ev2.ext (Ev2.now _) ?_
    simp [markStrs]
  | cons c rest =>
    have hp : c :: rest = [] ++ c :: rest := rfl
    simp only [List.length_cons] at hx hl
    have hset : ((strsP (c :: rest)).items.set 0 (strP (mt x))) = (([] ++ [mt x]) ++ rest).map strP := by simp [strsP, PV.items]
    have h00 : (0 : Int) < (((c :: rest).length : Nat) : Int) := by simp only [List.length_cons]; omega
    have h01 : IntKind.i64.wrap (0 + 1) = (([] ++ [mt x] : List ByteArray).length : Int) := by rw [wrap_id (by omega) (by omega)]; simp
    simp only [laws_markStringS.l0_eq, strs_len, strs_elem, ints_len, ints_elem, items_list, fld_agg, elem_list, toStr_sc, toInt_sc, toBool_sc, headD_one, nat_int, get_bt, decide_eq_true_eq, decide_eq_false_iff_not, decide_true, decide_false, if_true, if_false, ite_self, Bool.not_true, Bool.not_false, Bool.false_eq_true, Bool.true_eq_false, Bool.true_and, Bool.false_and, Bool.and_true, Bool.and_false, not_true, not_false_iff, Option.bind_some, nn, toList_inj, Bool.not_eq_true', Bool.not_eq_false', Int.le_refl, and_self, true_and, and_true, false_and, and_false, bne_self_eq_false, beq_self_eq_true, Int.reduceEq, Nat.reduceEqDiff, List.length_singleton, List.tail_cons, Int.reduceLE, Int.reduceLT, decide_eq_true_eq, h00, h01, wrap_id (n := x + 1) (by omega) (by omega)]
    refine Ev2.bind (markText_ev x (by omega)) ?_
    have h02 : (0 : Int).toNat = 0 := rfl
    simp only [strs_len, strs_elem, ints_len, ints_elem, items_list, fld_agg, elem_list, toStr_sc, toInt_sc, toBool_sc, headD_one, nat_int, get_bt, decide_eq_true_eq, decide_eq_false_iff_not, decide_true, decide_false, if_true, if_false, ite_self, Bool.not_true, Bool.not_false, Bool.false_eq_true, Bool.true_eq_false, Bool.true_and, Bool.false_and, Bool.and_true, Bool.and_false, not_true, not_false_iff, Option.bind_some, nn, toList_inj, Bool.not_eq_true', Bool.not_eq_false', Int.le_refl, and_self, true_and, and_true, false_and, and_false, bne_self_eq_false, beq_self_eq_true, Int.reduceEq, Nat.reduceEqDiff, List.length_singleton, List.tail_cons, Int.reduceLE, Int.reduceLT, decide_eq_true_eq, h02, hset]
    refine Ev2.ext (markStringS_loop (rest.length + 1) (by omega) rest ([] ++ [mt x]) (by simp; omega) (x + 1) (by omega) (by omega)) ?_
    simp only [markStrs, List.append_assoc, List.cons_append, List.nil_append, List.length_cons]
    congr 1
    simp; omega
/-! #### the laws' own helpers over books -/
theorem book_arg {P : Program} {t ta te ea ee b x : TypeId} (ht : tk P t = .struct [ta, te]) (hta : tk P ta = .slice ea) (hte : tk P te = .slice ee) (hea : tk P ea = .struct [x, b, x, x, x]) (hee : tk P ee = .struct [x, x]) (hx : tk P x = .str) (hb : tk P b = .bool) {n : Nat} {p : PV} (h : PvOk P (n + 5) t p) :
    ∃ (af : List Aff) (es : List Ent), p = bookP af es ∧ af.length ≤ reachBytes ∧ es.length ≤ reachBytes ∧ (∀ a ∈ af, (a.flag.size ≤ reachBytes ∧ a.strip.size ≤ reachBytes) ∧ a.add.size ≤ reachBytes ∧ a.cond.size ≤ reachBytes) ∧ ∀ e ∈ es, e.stem.size ≤ reachBytes ∧ e.flags.size ≤ reachBytes := by
  obtain ⟨qs, rfl, hqs⟩ := pvOk_struct ht h
  obtain ⟨p1, p2, rfl, h1, h2⟩ := pvOkL2 hqs
  obtain ⟨as1, rfl, a1, a2⟩ := pvOk_slice hta h1
  obtain ⟨es1, rfl, e1, e2⟩ := pvOk_slice hte h2
  obtain ⟨af, rfl, a3⟩ := map_of (f := affP) (φ := fun a => (a.flag.size ≤ reachBytes ∧ a.strip.size ≤ reachBytes) ∧ a.add.size ≤ reachBytes ∧ a.cond.size ≤ reachBytes) (ps := as1) (fun q hq => by
    obtain ⟨rs, rfl, hr⟩ := pvOk_struct hea (a2 q hq)
    obtain ⟨r1, rs1, rfl, hr1, hr⟩ := pvOkL_cons hr
    obtain ⟨r2, rs2, rfl, hr2, hr⟩ := pvOkL_cons hr
    obtain ⟨r3, r4, r5, rfl, hr3, hr4, hr5⟩ := pvOkL3 hr
    obtain ⟨s1, rfl, z1⟩ := pvOk_str hx hr1
    obtain ⟨b1, rfl⟩ := pvOk_bool hb hr2
    obtain ⟨s3, rfl, z3⟩ := pvOk_str hx hr3
    obtain ⟨s4, rfl, z4⟩ := pvOk_str hx hr4
    obtain ⟨s5, rfl, z5⟩ := pvOk_str hx hr5
    exact ⟨⟨s1, b1, s3, s4, s5⟩, rfl, ⟨z1, z3⟩, z4, z5⟩)
  obtain ⟨es, rfl, e3⟩ := map_of (f := entP) (φ := fun e => e.stem.size ≤ reachBytes ∧ e.flags.size ≤ reachBytes) (ps := es1) (fun q hq => by
    obtain ⟨rs, rfl, hr⟩ := pvOk_struct hee (e2 q hq)
    obtain ⟨r1, r2, rfl, hr1, hr2⟩ := pvOkL2 hr
    obtain ⟨s1, rfl, z1⟩ := pvOk_str hx hr1
    obtain ⟨s2, rfl, z2⟩ := pvOk_str hx hr2
    exact ⟨⟨s1, s2⟩, rfl, z1, z2⟩)
  exact ⟨af, es, rfl, by simpa using a1, by simpa using e1, a3, e3⟩
theorem szAff_val (a : Aff) (hf : a.flag.size ≤ 1000000000000000) (hs : a.strip.size ≤ 1000000000000000) (ha : a.add.size ≤ 1000000000000000) (hc : a.cond.size ≤ 1000000000000000) (left : Int) (h0 : 0 ≤ left) (h1 : left ≤ 1048576) :
    ∃ r : Int, (∀ N, laws_szAffix.f N [affP a, intP left] = some [intP r]) ∧ r ≤ left ∧ -1 ≤ r ∧ (0 ≤ r → AffS a) := by
  have w1 : IntKind.i64.wrap (left - (a.flag.size : Int)) = left - (a.flag.size : Int) := wrap_id (by omega) (by omega)
  have w2 : IntKind.i64.wrap (left - (a.flag.size : Int) - (a.strip.size : Int)) = left - (a.flag.size : Int) - (a.strip.size : Int) := wrap_id (by omega) (by omega)
  have w3 : IntKind.i64.wrap (left - (a.flag.size : Int) - (a.strip.size : Int) - (a.add.size : Int)) = left - (a.flag.size : Int) - (a.strip.size : Int) - (a.add.size : Int) := wrap_id (by omega) (by omega)
  have w4 : IntKind.i64.wrap (left - (a.flag.size : Int) - (a.strip.size : Int) - (a.add.size : Int) - (a.cond.size : Int)) = left - (a.flag.size : Int) - (a.strip.size : Int) - (a.add.size : Int) - (a.cond.size : Int) := wrap_id (by omega) (by omega)
  by_cases c1 : left - (a.flag.size : Int) < 0
  · exact ⟨-1, fun N => by simp only [laws_szAffix.f_eq, aff_f0, w1, c1, strs_len, strs_elem, ints_len, ints_elem, items_list, fld_agg, elem_list, toStr_sc, toInt_sc, toBool_sc, headD_one, nat_int, get_bt, decide_eq_true_eq, decide_eq_false_iff_not, decide_true, decide_false, if_true, if_false, ite_self, Bool.not_true, Bool.not_false, Bool.false_eq_true, Bool.true_eq_false, Bool.true_and, Bool.false_and, Bool.and_true, Bool.and_false, not_true, not_false_iff, Option.bind_some, nn, toList_inj, Bool.not_eq_true', Bool.not_eq_false', Int.le_refl, and_self, true_and, and_true, false_and, and_false, bne_self_eq_false, beq_self_eq_true, Int.reduceEq, Nat.reduceEqDiff, List.length_singleton, List.tail_cons, Int.reduceLE, Int.reduceLT, decide_eq_true_eq], by omega, by omega, fun h => by omega⟩
  by_cases c2 : left - (a.flag.size : Int) - (a.strip.size : Int) < 0
  · exact ⟨-1, fun N => by simp only [laws_szAffix.f_eq, aff_f0, aff_f2, w1, w2, c1, c2, strs_len, strs_elem, ints_len, ints_elem, items_list, fld_agg, elem_list, toStr_sc, toInt_sc, toBool_sc, headD_one, nat_int, get_bt, decide_eq_true_eq, decide_eq_false_iff_not, decide_true, decide_false, if_true, if_false, ite_self, Bool.not_true, Bool.not_false, Bool.false_eq_true, Bool.true_eq_false, Bool.true_and, Bool.false_and, Bool.and_true, Bool.and_false, not_true, not_false_iff, Option.bind_some, nn, toList_inj, Bool.not_eq_true', Bool.not_eq_false', Int.le_refl, and_self, true_and, and_true, false_and, and_false, bne_self_eq_false, beq_self_eq_true, Int.reduceEq, Nat.reduceEqDiff, List.length_singleton, List.tail_cons, Int.reduceLE, Int.reduceLT, decide_eq_true_eq], by omega, by omega, fun h => by omega⟩
  by_cases c3 : left - (a.flag.size : Int) - (a.strip.size : Int) - (a.add.size : Int) < 0
  · exact ⟨-1, fun N => by simp only [laws_szAffix.f_eq, aff_f0, aff_f2, aff_f3, w1, w2, w3, c1, c2, c3, strs_len, strs_elem, ints_len, ints_elem, items_list, fld_agg, elem_list, toStr_sc, toInt_sc, toBool_sc, headD_one, nat_int, get_bt, decide_eq_true_eq, decide_eq_false_iff_not, decide_true, decide_false, if_true, if_false, ite_self, Bool.not_true, Bool.not_false, Bool.false_eq_true, Bool.true_eq_false, Bool.true_and, Bool.false_and, Bool.and_true, Bool.and_false, not_true, not_false_iff, Option.bind_some, nn, toList_inj, Bool.not_eq_true', Bool.not_eq_false', Int.le_refl, and_self, true_and, and_true, false_and, and_false, bne_self_eq_false, beq_self_eq_true, Int.reduceEq, Nat.reduceEqDiff, List.length_singleton, List.tail_cons, Int.reduceLE, Int.reduceLT, decide_eq_true_eq], by omega, by omega, fun h => by omega⟩
  by_cases c4 : left - (a.flag.size : Int) - (a.strip.size : Int) - (a.add.size : Int) - (a.cond.size : Int) < 0
  · exact ⟨-1, fun N => by simp only [laws_szAffix.f_eq, aff_f0, aff_f2, aff_f3, aff_f4, w1, w2, w3, w4, c1, c2, c3, c4, strs_len, strs_elem, ints_len, ints_elem, items_list, fld_agg, elem_list, toStr_sc, toInt_sc, toBool_sc, headD_one, nat_int, get_bt, decide_eq_true_eq, decide_eq_false_iff_not, decide_true, decide_false, if_true, if_false, ite_self, Bool.not_true, Bool.not_false, Bool.false_eq_true, Bool.true_eq_false, Bool.true_and, Bool.false_and, Bool.and_true, Bool.and_false, not_true, not_false_iff, Option.bind_some, nn, toList_inj, Bool.not_eq_true', Bool.not_eq_false', Int.le_refl, and_self, true_and, and_true, false_and, and_false, bne_self_eq_false, beq_self_eq_true, Int.reduceEq, Nat.reduceEqDiff, List.length_singleton, List.tail_cons, Int.reduceLE, Int.reduceLT, decide_eq_true_eq], by omega, by omega, fun h => by omega⟩
  exact ⟨left - (a.flag.size : Int) - (a.strip.size : Int) - (a.add.size : Int) - (a.cond.size : Int), fun N => by simp only [laws_szAffix.f_eq, aff_f0, aff_f2, aff_f3, aff_f4, w1, w2, w3, w4, c1, c2, c3, c4, strs_len, strs_elem, ints_len, ints_elem, items_list, fld_agg, elem_list, toStr_sc, toInt_sc, toBool_sc, headD_one, nat_int, get_bt, decide_eq_true_eq, decide_eq_false_iff_not, decide_true, decide_false, if_true, if_false, ite_self, Bool.not_true, Bool.not_false, Bool.false_eq_true, Bool.true_eq_false, Bool.true_and, Bool.false_and, Bool.and_true, Bool.and_false, not_true, not_false_iff, Option.bind_some, nn, toList_inj, Bool.not_eq_true', Bool.not_eq_false', Int.le_refl, and_self, true_and, and_true, false_and, and_false, bne_self_eq_false, beq_self_eq_true, Int.reduceEq, Nat.reduceEqDiff, List.length_singleton, List.tail_cons, Int.reduceLE, Int.reduceLT, decide_eq_true_eq], by omega, by omega, fun h => ⟨by omega, by omega, by omega, by omega⟩⟩
theorem szEnt_val (e : Ent) (hf : e.stem.size ≤ 1000000000000000) (hs : e.flags.size ≤ 1000000000000000) (left : Int) (h0 : 0 ≤ left) (h1 : left ≤ 1048576) :
    ∃ r : Int, (∀ N, laws_szEntry.f N [entP e, intP left] = some [intP r]) ∧ r ≤ left ∧ -1 ≤ r ∧ (0 ≤ r → EntS e) := by
  have w1 : IntKind.i64.wrap (left - (e.stem.size : Int)) = left - (e.stem.size : Int) := wrap_id (by omega) (by omega)
  have w2 : IntKind.i64.wrap (left - (e.stem.size : Int) - (e.flags.size : Int)) = left - (e.stem.size : Int) - (e.flags.size : Int) := wrap_id (by omega) (by omega)
  by_cases c1 : left - (e.stem.size : Int) < 0
  · exact ⟨-1, fun N => by simp only [laws_szEntry.f_eq, ent_f0, w1, c1, strs_len, strs_elem, ints_len, ints_elem, items_list, fld_agg, elem_list, toStr_sc, toInt_sc, toBool_sc, headD_one, nat_int, get_bt, decide_eq_true_eq, decide_eq_false_iff_not, decide_true, decide_false, if_true, if_false, ite_self, Bool.not_true, Bool.not_false, Bool.false_eq_true, Bool.true_eq_false, Bool.true_and, Bool.false_and, Bool.and_true, Bool.and_false, not_true, not_false_iff, Option.bind_some, nn, toList_inj, Bool.not_eq_true', Bool.not_eq_false', Int.le_refl, and_self, true_and, and_true, false_and, and_false, bne_self_eq_false, beq_self_eq_true, Int.reduceEq, Nat.reduceEqDiff, List.length_singleton, List.tail_cons, Int.reduceLE, Int.reduceLT, decide_eq_true_eq], by omega, by omega, fun h => by omega⟩
  by_cases c2 : left - (e.stem.size : Int) - (e.flags.size : Int) < 0
  · exact ⟨-1, fun N => by simp only [laws_szEntry.f_eq, ent_f0, ent_f1, w1, w2, c1, c2, strs_len, strs_elem, ints_len, ints_elem, items_list, fld_agg, elem_list, toStr_sc, toInt_sc, toBool_sc, headD_one, nat_int, get_bt, decide_eq_true_eq, decide_eq_false_iff_not, decide_true, decide_false, if_true, if_false, ite_self, Bool.not_true, Bool.not_false, Bool.false_eq_true, Bool.true_eq_false, Bool.true_and, Bool.false_and, Bool.and_true, Bool.and_false, not_true, not_false_iff, Option.bind_some, nn, toList_inj, Bool.not_eq_true', Bool.not_eq_false', Int.le_refl, and_self, true_and, and_true, false_and, and_false, bne_self_eq_false, beq_self_eq_true, Int.reduceEq, Nat.reduceEqDiff, List.length_singleton, List.tail_cons, Int.reduceLE, Int.reduceLT, decide_eq_true_eq], by omega, by omega, fun h => by omega⟩
  exact ⟨left - (e.stem.size : Int) - (e.flags.size : Int), fun N => by simp only [laws_szEntry.f_eq, ent_f0, ent_f1, w1, w2, c1, c2, strs_len, strs_elem, ints_len, ints_elem, items_list, fld_agg, elem_list, toStr_sc, toInt_sc, toBool_sc, headD_one, nat_int, get_bt, decide_eq_true_eq, decide_eq_false_iff_not, decide_true, decide_false, if_true, if_false, ite_self, Bool.not_true, Bool.not_false, Bool.false_eq_true, Bool.true_eq_false, Bool.true_and, Bool.false_and, Bool.and_true, Bool.and_false, not_true, not_false_iff, Option.bind_some, nn, toList_inj, Bool.not_eq_true', Bool.not_eq_false', Int.le_refl, and_self, true_and, and_true, false_and, and_false, bne_self_eq_false, beq_self_eq_true, Int.reduceEq, Nat.reduceEqDiff, List.length_singleton, List.tail_cons, Int.reduceLE, Int.reduceLT, decide_eq_true_eq], by omega, by omega, fun h => ⟨by omega, by omega⟩⟩
theorem szAffS_ev (af : List Aff) (hal : af.length ≤ 1000000000000000) (hs : ∀ a ∈ af, (a.flag.size ≤ 1000000000000000 ∧ a.strip.size ≤ 1000000000000000) ∧ a.add.size ≤ 1000000000000000 ∧ a.cond.size ≤ 1000000000000000) (left : Int) (h0 : 0 ≤ left) (h1 : left ≤ 1048576) :
    ∃ r : Int, Ev (fun N => laws_szAffixS.f N [affsP af, intP left]) [intP r] ∧ r ≤ left ∧ -1 ≤ r ∧ (0 ≤ r → af.length ≤ 1048576 ∧ ∀ a ∈ af, AffS a) := by
  have w1 : IntKind.i64.wrap (left - (af.length : Int)) = left - (af.length : Int) := wrap_id (by omega) (by omega)
  by_cases c1 : left - (af.length : Int) < 0
  · refine ⟨-1, ?_, by omega, by omega, fun h => by omega⟩
    simp only [laws_szAffixS.f_eq, affs_len, w1, c1, strs_len, strs_elem, ints_len, ints_elem, items_list, fld_agg, elem_list, toStr_sc, toInt_sc, toBool_sc, headD_one, nat_int, get_bt, decide_eq_true_eq, decide_eq_false_iff_not, decide_true, decide_false, if_true, if_false, ite_self, Bool.not_true, Bool.not_false, Bool.false_eq_true, Bool.true_eq_false, Bool.true_and, Bool.false_and, Bool.and_true, Bool.and_false, not_true, not_false_iff, Option.bind_some, nn, toList_inj, Bool.not_eq_true', Bool.not_eq_false', Int.le_refl, and_self, true_and, and_true, false_and, and_false, bne_self_eq_false, beq_self_eq_true, Int.reduceEq, Nat.reduceEqDiff, List.length_singleton, List.tail_cons, Int.reduceLE, Int.reduceLT, decide_eq_true_eq]
    exact Ev.now _
  have key : ∀ (rest pre : List Aff) (l : Int), af = pre ++ rest → 0 ≤ l → l ≤ 1048576 → ∃ r : Int, Ev2 (fun N n => laws_szAffixS.l0 N n (affsP af) l (pre.length : Int)) [intP r] ∧ r ≤ l ∧ -1 ≤ r ∧ (0 ≤ r → ∀ a ∈ rest, AffS a) := by
    intro rest
    induction rest with
    | nil =>
      intro pre l hp hl0 hl1
      refine ⟨l, Ev2.succ ?_, by omega, by omega, fun _ a h => by cases h⟩
      simp only [laws_szAffixS.l0_eq, affs_len, at_end hp, strs_len, strs_elem, ints_len, ints_elem, items_list, fld_agg, elem_list, toStr_sc, toInt_sc, toBool_sc, headD_one, nat_int, get_bt, decide_eq_true_eq, decide_eq_false_iff_not, decide_true, decide_false, if_true, if_false, ite_self, Bool.not_true, Bool.not_false, Bool.false_eq_true, Bool.true_eq_false, Bool.true_and, Bool.false_and, Bool.and_true, Bool.and_false, not_true, not_false_iff, Option.bind_some, nn, toList_inj, Bool.not_eq_true', Bool.not_eq_false', Int.le_refl, and_self, true_and, and_true, false_and, and_false, bne_self_eq_false, beq_self_eq_true, Int.reduceEq, Nat.reduceEqDiff, List.length_singleton, List.tail_cons, Int.reduceLE, Int.reduceLT, decide_eq_true_eq]
      exact Ev2.now _
    | cons a rest ih =>
      intro pre l hp hl0 hl1
      obtain ⟨⟨z1, z2⟩, z3, z4⟩ := hs a (by rw [hp]; simp)
      obtain ⟨r, hr, hle, hm, hA⟩ := szAff_val a z1 z2 z3 z4 l hl0 hl1
      by_cases hn : r < 0
      · refine ⟨-1, Ev2.succ ?_, by omega, by omega, fun h => by omega⟩
        simp only [laws_szAffixS.l0_eq, affs_len, affs_elem hp, at_lt hp, aff_f0, aff_f1, aff_f2, aff_f3, aff_f4, aff_agg, hr, hn, strs_len, strs_elem, ints_len, ints_elem, items_list, fld_agg, elem_list, toStr_sc, toInt_sc, toBool_sc, headD_one, nat_int, get_bt, decide_eq_true_eq, decide_eq_false_iff_not, decide_true, decide_false, if_true, if_false, ite_self, Bool.not_true, Bool.not_false, Bool.false_eq_true, Bool.true_eq_false, Bool.true_and, Bool.false_and, Bool.and_true, Bool.and_false, not_true, not_false_iff, Option.bind_some, nn, toList_inj, Bool.not_eq_true', Bool.not_eq_false', Int.le_refl, and_self, true_and, and_true, false_and, and_false, bne_self_eq_false, beq_self_eq_true, Int.reduceEq, Nat.reduceEqDiff, List.length_singleton, List.tail_cons, Int.reduceLE, Int.reduceLT, decide_eq_true_eq]
        exact Ev2.now _
      · obtain ⟨r2, g1, g2, g3, g4⟩ := ih _ r (at_step hp) (by omega) (by omega)
        refine ⟨r2, Ev2.succ ?_, by omega, g3, fun h x hx => ?_⟩
        · simp only [laws_szAffixS.l0_eq, affs_len, affs_elem hp, at_lt hp, aff_f0, aff_f1, aff_f2, aff_f3, aff_f4, aff_agg, hr, hn, at_next hp (by omega), strs_len, strs_elem, ints_len, ints_elem, items_list, fld_agg, elem_list, toStr_sc, toInt_sc, toBool_sc, headD_one, nat_int, get_bt, decide_eq_true_eq, decide_eq_false_iff_not, decide_true, decide_false, if_true, if_false, ite_self, Bool.not_true, Bool.not_false, Bool.false_eq_true, Bool.true_eq_false, Bool.true_and, Bool.false_and, Bool.and_true, Bool.and_false, not_true, not_false_iff, Option.bind_some, nn, toList_inj, Bool.not_eq_true', Bool.not_eq_false', Int.le_refl, and_self, true_and, and_true, false_and, and_false, bne_self_eq_false, beq_self_eq_true, Int.reduceEq, Nat.reduceEqDiff, List.length_singleton, List.tail_cons, Int.reduceLE, Int.reduceLT, decide_eq_true_eq]
          exact g1
        · rcases List.mem_cons.1 hx with rfl | hx
          · exact hA (by omega)
          · exact g4 h x hx
  obtain ⟨r, g1, g2, g3, g4⟩ := key af [] (left - (af.length : Int)) rfl (by omega) (by omega)
  refine ⟨r, ?_, by omega, g3, fun h => ⟨by omega, g4 h⟩⟩
  simp only [laws_szAffixS.f_eq, affs_len, w1, c1, strs_len, strs_elem, ints_len, ints_elem, items_list, fld_agg, elem_list, toStr_sc, toInt_sc, toBool_sc, headD_one, nat_int, get_bt, decide_eq_true_eq, decide_eq_false_iff_not, decide_true, decide_false, if_true, if_false, ite_self, Bool.not_true, Bool.not_false, Bool.false_eq_true, Bool.true_eq_false, Bool.true_and, Bool.false_and, Bool.and_true, Bool.and_false, not_true, not_false_iff, Option.bind_some, nn, toList_inj, Bool.not_eq_true', Bool.not_eq_false', Int.le_refl, and_self, true_and, and_true, false_and, and_false, bne_self_eq_false, beq_self_eq_true, Int.reduceEq, Nat.reduceEqDiff, List.length_singleton, List.tail_cons, Int.reduceLE, Int.reduceLT, decide_eq_true_eq]
  exact g1.diag
theorem szEntS_ev (es : List Ent) (hel : es.length ≤ 1000000000000000) (hs : ∀ e ∈ es, e.stem.size ≤ 1000000000000000 ∧ e.flags.size ≤ 1000000000000000) (left : Int) (h0 : 0 ≤ left) (h1 : left ≤ 1048576) :
    ∃ r : Int, Ev (fun N => laws_szEntryS.f N [entsP es, intP left]) [intP r] ∧ r ≤ left ∧ -1 ≤ r ∧ (0 ≤ r → es.length ≤ 1048576 ∧ ∀ e ∈ es, EntS e) := by
  have w1 : IntKind.i64.wrap (left - (es.length : Int)) = left - (es.length : Int) := wrap_id (by omega) (by omega)
  by_cases c1 : left - (es.length : Int) < 0
  · refine ⟨-1, ?_, by omega, by omega, fun h => by omega⟩
    simp only [laws_szEntryS.f_eq, ents_len, w1, c1, strs_len, strs_elem, ints_len, ints_elem, items_list, fld_agg, elem_list, toStr_sc, toInt_sc, toBool_sc, headD_one, nat_int, get_bt, decide_eq_true_eq, decide_eq_false_iff_not, decide_true, decide_false, if_true, if_false, ite_self, Bool.not_true, Bool.not_false, Bool.false_eq_true, Bool.true_eq_false, Bool.true_and, Bool.false_and, Bool.and_true, Bool.and_false, not_true, not_false_iff, Option.bind_some, nn, toList_inj, Bool.not_eq_true', Bool.not_eq_false', Int.le_refl, and_self, true_and, and_true, false_and, and_false, bne_self_eq_false, beq_self_eq_true, Int.reduceEq, Nat.reduceEqDiff, List.length_singleton, List.tail_cons, Int.reduceLE, Int.reduceLT, decide_eq_true_eq]
    exact Ev.now _
  have key : ∀ (rest pre : List Ent) (l : Int), es = pre ++ rest → 0 ≤ l → l ≤ 1048576 → ∃ r : Int, Ev2 (fun N n => laws_szEntryS.l0 N n (entsP es) l (pre.length : Int)) [intP r] ∧ r ≤ l ∧ -1 ≤ r ∧ (0 ≤ r → ∀ a ∈ rest, EntS a) := by
    intro rest
    induction rest with
    | nil =>
      intro pre l hp hl0 hl1
      refine ⟨l, Ev2.succ ?_, by omega, by omega, fun _ a h => by cases h⟩
      simp only [laws_szEntryS.l0_eq, ents_len, at_end hp, strs_len, strs_elem, ints_len, ints_elem, items_list, fld_agg, elem_list, toStr_sc, toInt_sc, toBool_sc, headD_one, nat_int, get_bt, decide_eq_true_eq, decide_eq_false_iff_not, decide_true, decide_false, if_true, if_false, ite_self, Bool.not_true, Bool.not_false, Bool.false_eq_true, Bool.true_eq_false, Bool.true_and, Bool.false_and, Bool.and_true, Bool.and_false, not_true, not_false_iff, Option.bind_some, nn, toList_inj, Bool.not_eq_true', Bool.not_eq_false', Int.le_refl, and_self, true_and, and_true, false_and, and_false, bne_self_eq_false, beq_self_eq_true, Int.reduceEq, Nat.reduceEqDiff, List.length_singleton, List.tail_cons, Int.reduceLE, Int.reduceLT, decide_eq_true_eq]
      exact Ev2.now _
    | cons a rest ih =>
      intro pre l hp hl0 hl1
      obtain ⟨z1, z2⟩ := hs a (by rw [hp]; simp)
      obtain ⟨r, hr, hle, hm, hA⟩ := szEnt_val a z1 z2 l hl0 hl1
      by_cases hn : r < 0
      · refine ⟨-1, Ev2.succ ?_, by omega, by omega, fun h => by omega⟩
        simp only [laws_szEntryS.l0_eq, ents_len, ents_elem hp, at_lt hp, ent_f0, ent_f1, ent_agg, hr, hn, strs_len, strs_elem, ints_len, ints_elem, items_list, fld_agg, elem_list, toStr_sc, toInt_sc, toBool_sc, headD_one, nat_int, get_bt, decide_eq_true_eq, decide_eq_false_iff_not, decide_true, decide_false, if_true, if_false, ite_self, Bool.not_true, Bool.not_false, Bool.false_eq_true, Bool.true_eq_false, Bool.true_and, Bool.false_and, Bool.and_true, Bool.and_false, not_true, not_false_iff, Option.bind_some, nn, toList_inj, Bool.not_eq_true', Bool.not_eq_false', Int.le_refl, and_self, true_and, and_true, false_and, and_false, bne_self_eq_false, beq_self_eq_true, Int.reduceEq, Nat.reduceEqDiff, List.length_singleton, List.tail_cons, Int.reduceLE, Int.reduceLT, decide_eq_true_eq]
        exact Ev2.now _
      · obtain ⟨r2, g1, g2, g3, g4⟩ := ih _ r (at_step hp) (by omega) (by omega)
        refine ⟨r2, Ev2.succ ?_, by omega, g3, fun h x hx => ?_⟩
        · simp only [laws_szEntryS.l0_eq, ents_len, ents_elem hp, at_lt hp, ent_f0, ent_f1, ent_agg, hr, hn, at_next hp (by omega), strs_len, strs_elem, ints_len, ints_elem, items_list, fld_agg, elem_list, toStr_sc, toInt_sc, toBool_sc, headD_one, nat_int, get_bt, decide_eq_true_eq, decide_eq_false_iff_not, decide_true, decide_false, if_true, if_false, ite_self, Bool.not_true, Bool.not_false, Bool.false_eq_true, Bool.true_eq_false, Bool.true_and, Bool.false_and, Bool.and_true, Bool.and_false, not_true, not_false_iff, Option.bind_some, nn, toList_inj, Bool.not_eq_true', Bool.not_eq_false', Int.le_refl, and_self, true_and, and_true, false_and, and_false, bne_self_eq_false, beq_self_eq_true, Int.reduceEq, Nat.reduceEqDiff, List.length_singleton, List.tail_cons, Int.reduceLE, Int.reduceLT, decide_eq_true_eq]
          exact g1
        · rcases List.mem_cons.1 hx with rfl | hx
          · exact hA (by omega)
          · exact g4 h x hx
  obtain ⟨r, g1, g2, g3, g4⟩ := key es [] (left - (es.length : Int)) rfl (by omega) (by omega)
  refine ⟨r, ?_, by omega, g3, fun h => ⟨by omega, g4 h⟩⟩
  simp only [laws_szEntryS.f_eq, ents_len, w1, c1, strs_len, strs_elem, ints_len, ints_elem, items_list, fld_agg, elem_list, toStr_sc, toInt_sc, toBool_sc, headD_one, nat_int, get_bt, decide_eq_true_eq, decide_eq_false_iff_not, decide_true, decide_false, if_true, if_false, ite_self, Bool.not_true, Bool.not_false, Bool.false_eq_true, Bool.true_eq_false, Bool.true_and, Bool.false_and, Bool.and_true, Bool.and_false, not_true, not_false_iff, Option.bind_some, nn, toList_inj, Bool.not_eq_true', Bool.not_eq_false', Int.le_refl, and_self, true_and, and_true, false_and, and_false, bne_self_eq_false, beq_self_eq_true, Int.reduceEq, Nat.reduceEqDiff, List.length_singleton, List.tail_cons, Int.reduceLE, Int.reduceLT, decide_eq_true_eq]
  exact g1.diag
theorem szBook_ev (af : List Aff) (es : List Ent) (hal : af.length ≤ 1000000000000000) (hel : es.length ≤ 1000000000000000) (hs : ∀ a ∈ af, (a.flag.size ≤ 1000000000000000 ∧ a.strip.size ≤ 1000000000000000) ∧ a.add.size ≤ 1000000000000000 ∧ a.cond.size ≤ 1000000000000000) (hs2 : ∀ e ∈ es, e.stem.size ≤ 1000000000000000 ∧ e.flags.size ≤ 1000000000000000) (left : Int) (h0 : 0 ≤ left) (h1 : left ≤ 1048576) :
    ∃ r : Int, Ev (fun N => laws_szBook.f N [bookP af es, intP left]) [intP r] ∧ r ≤ left ∧ -1 ≤ r ∧ (0 ≤ r → (af.length ≤ 1048576 ∧ es.length ≤ 1048576) ∧ BookS af es) := by
  obtain ⟨r, g1, g2, g3, g4⟩ := szAffS_ev af hal hs left h0 h1
  by_cases hn : r < 0
  · refine ⟨-1, ?_, by omega, by omega, fun h => by omega⟩
    simp only [laws_szBook.f_eq, book_f0, book_f1, strs_len, strs_elem, ints_len, ints_elem, items_list, fld_agg, elem_list, toStr_sc, toInt_sc, toBool_sc, headD_one, nat_int, get_bt, decide_eq_true_eq, decide_eq_false_iff_not, decide_true, decide_false, if_true, if_false, ite_self, Bool.not_true, Bool.not_false, Bool.false_eq_true, Bool.true_eq_false, Bool.true_and, Bool.false_and, Bool.and_true, Bool.and_false, not_true, not_false_iff, Option.bind_some, nn, toList_inj, Bool.not_eq_true', Bool.not_eq_false', Int.le_refl, and_self, true_and, and_true, false_and, and_false, bne_self_eq_false, beq_self_eq_true, Int.reduceEq, Nat.reduceEqDiff, List.length_singleton, List.tail_cons, Int.reduceLE, Int.reduceLT, decide_eq_true_eq]
    refine Ev.bind g1 ?_
    simp only [hn, strs_len, strs_elem, ints_len, ints_elem, items_list, fld_agg, elem_list, toStr_sc, toInt_sc, toBool_sc, headD_one, nat_int, get_bt, decide_eq_true_eq, decide_eq_false_iff_not, decide_true, decide_false, if_true, if_false, ite_self, Bool.not_true, Bool.not_false, Bool.false_eq_true, Bool.true_eq_false, Bool.true_and, Bool.false_and, Bool.and_true, Bool.and_false, not_true, not_false_iff, Option.bind_some, nn, toList_inj, Bool.not_eq_true', Bool.not_eq_false', Int.le_refl, and_self, true_and, and_true, false_and, and_false, bne_self_eq_false, beq_self_eq_true, Int.reduceEq, Nat.reduceEqDiff, List.length_singleton, List.tail_cons, Int.reduceLE, Int.reduceLT, decide_eq_true_eq]
    exact Ev.now _
  · obtain ⟨r2, k1, k2, k3, k4⟩ := szEntS_ev es hel hs2 r (by omega) (by omega)
    by_cases hn2 : r2 < 0
    · refine ⟨-1, ?_, by omega, by omega, fun h => by omega⟩
      simp only [laws_szBook.f_eq, book_f0, book_f1, strs_len, strs_elem, ints_len, ints_elem, items_list, fld_agg, elem_list, toStr_sc, toInt_sc, toBool_sc, headD_one, nat_int, get_bt, decide_eq_true_eq, decide_eq_false_iff_not, decide_true, decide_false, if_true, if_false, ite_self, Bool.not_true, Bool.not_false, Bool.false_eq_true, Bool.true_eq_false, Bool.true_and, Bool.false_and, Bool.and_true, Bool.and_false, not_true, not_false_iff, Option.bind_some, nn, toList_inj, Bool.not_eq_true', Bool.not_eq_false', Int.le_refl, and_self, true_and, and_true, false_and, and_false, bne_self_eq_false, beq_self_eq_true, Int.reduceEq, Nat.reduceEqDiff, List.length_singleton, List.tail_cons, Int.reduceLE, Int.reduceLT, decide_eq_true_eq]
      refine Ev.bind g1 ?_
      simp only [hn, strs_len, strs_elem, ints_len, ints_elem, items_list, fld_agg, elem_list, toStr_sc, toInt_sc, toBool_sc, headD_one, nat_int, get_bt, decide_eq_true_eq, decide_eq_false_iff_not, decide_true, decide_false, if_true, if_false, ite_self, Bool.not_true, Bool.not_false, Bool.false_eq_true, Bool.true_eq_false, Bool.true_and, Bool.false_and, Bool.and_true, Bool.and_false, not_true, not_false_iff, Option.bind_some, nn, toList_inj, Bool.not_eq_true', Bool.not_eq_false', Int.le_refl, and_self, true_and, and_true, false_and, and_false, bne_self_eq_false, beq_self_eq_true, Int.reduceEq, Nat.reduceEqDiff, List.length_singleton, List.tail_cons, Int.reduceLE, Int.reduceLT, decide_eq_true_eq]
      refine Ev.bind k1 ?_
      simp only [hn2, strs_len, strs_elem, ints_len, ints_elem, items_list, fld_agg, elem_list, toStr_sc, toInt_sc, toBool_sc, headD_one, nat_int, get_bt, decide_eq_true_eq, decide_eq_false_iff_not, decide_true, decide_false, if_true, if_false, ite_self, Bool.not_true, Bool.not_false, Bool.false_eq_true, Bool.true_eq_false, Bool.true_and, Bool.false_and, Bool.and_true, Bool.and_false, not_true, not_false_iff, Option.bind_some, nn, toList_inj, Bool.not_eq_true', Bool.not_eq_false', Int.le_refl, and_self, true_and, and_true, false_and, and_false, bne_self_eq_false, beq_self_eq_true, Int.reduceEq, Nat.reduceEqDiff, List.length_singleton, List.tail_cons, Int.reduceLE, Int.reduceLT, decide_eq_true_eq]
      exact Ev.now _
    · obtain ⟨q1, q2⟩ := g4 (by omega)
      obtain ⟨q3, q4⟩ := k4 (by omega)
      refine ⟨r2, ?_, by omega, k3, fun _ => ⟨⟨q1, q3⟩, by omega, by omega, q2, q4⟩⟩
      simp only [laws_szBook.f_eq, book_f0, book_f1, strs_len, strs_elem, ints_len, ints_elem, items_list, fld_agg, elem_list, toStr_sc, toInt_sc, toBool_sc, headD_one, nat_int, get_bt, decide_eq_true_eq, decide_eq_false_iff_not, decide_true, decide_false, if_true, if_false, ite_self, Bool.not_true, Bool.not_false, Bool.false_eq_true, Bool.true_eq_false, Bool.true_and, Bool.false_and, Bool.and_true, Bool.and_false, not_true, not_false_iff, Option.bind_some, nn, toList_inj, Bool.not_eq_true', Bool.not_eq_false', Int.le_refl, and_self, true_and, and_true, false_and, and_false, bne_self_eq_false, beq_self_eq_true, Int.reduceEq, Nat.reduceEqDiff, List.length_singleton, List.tail_cons, Int.reduceLE, Int.reduceLT, decide_eq_true_eq]
      refine Ev.bind g1 ?_
      simp only [hn, strs_len, strs_elem, ints_len, ints_elem, items_list, fld_agg, elem_list, toStr_sc, toInt_sc, toBool_sc, headD_one, nat_int, get_bt, decide_eq_true_eq, decide_eq_false_iff_not, decide_true, decide_false, if_true, if_false, ite_self, Bool.not_true, Bool.not_false, Bool.false_eq_true, Bool.true_eq_false, Bool.true_and, Bool.false_and, Bool.and_true, Bool.and_false, not_true, not_false_iff, Option.bind_some, nn, toList_inj, Bool.not_eq_true', Bool.not_eq_false', Int.le_refl, and_self, true_and, and_true, false_and, and_false, bne_self_eq_false, beq_self_eq_true, Int.reduceEq, Nat.reduceEqDiff, List.length_singleton, List.tail_cons, Int.reduceLE, Int.reduceLT, decide_eq_true_eq]
      refine Ev.bind k1 ?_
      simp only [hn2, strs_len, strs_elem, ints_len, ints_elem, items_list, fld_agg, elem_list, toStr_sc, toInt_sc, toBool_sc, headD_one, nat_int, get_bt, decide_eq_true_eq, decide_eq_false_iff_not, decide_true, decide_false, if_true, if_false, ite_self, Bool.not_true, Bool.not_false, Bool.false_eq_true, Bool.true_eq_false, Bool.true_and, Bool.false_and, Bool.and_true, Bool.and_false, not_true, not_false_iff, Option.bind_some, nn, toList_inj, Bool.not_eq_true', Bool.not_eq_false', Int.le_refl, and_self, true_and, and_true, false_and, and_false, bne_self_eq_false, beq_self_eq_true, Int.reduceEq, Nat.reduceEqDiff, List.length_singleton, List.tail_cons, Int.reduceLE, Int.reduceLT, decide_eq_true_eq]
      exact Ev.now _
theorem toAffS_ev (af : List Aff) (hal : af.length ≤ 1000000000) : Ev (fun N => laws_toAffixS.f N [affsP af]) [affsP af] := by
  have key : ∀ (rest pre : List Aff) (z : List PV), af = pre ++ rest → z.length = rest.length → Ev2 (fun N n => laws_toAffixS.l0 N n (affsP af) (pre.length : Int) (pre.map affP ++ z)) [affsP af] := by
    intro rest
    induction rest with
    | nil =>
      intro pre z hp hz
      obtain rfl : z = [] := List.eq_nil_of_length_eq_zero hz
      have e : PV.list (pre.map affP ++ []) = affsP af := by rw [hp]; simp [affsP]
      refine Ev2.succ ?_
      simp only [laws_toAffixS.l0_eq, affs_len, at_end hp, e, strs_len, strs_elem, ints_len, ints_elem, items_list, fld_agg, elem_list, toStr_sc, toInt_sc, toBool_sc, headD_one, nat_int, get_bt, decide_eq_true_eq, decide_eq_false_iff_not, decide_true, decide_false, if_true, if_false, ite_self, Bool.not_true, Bool.not_false, Bool.false_eq_true, Bool.true_eq_false, Bool.true_and, Bool.false_and, Bool.and_true, Bool.and_false, not_true, not_false_iff, Option.bind_some, nn, toList_inj, Bool.not_eq_true', Bool.not_eq_false', Int.le_refl, and_self, true_and, and_true, false_and, and_false, bne_self_eq_false, beq_self_eq_true, Int.reduceEq, Nat.reduceEqDiff, List.length_singleton, List.tail_cons, Int.reduceLE, Int.reduceLT, decide_eq_true_eq]
      exact Ev2.now _
    | cons a rest ih =>
      intro pre z hp hz
      obtain ⟨y, z, rfl⟩ : ∃ y z', z = y :: z' := List.exists_cons_of_ne_nil (by rintro rfl; simp at hz)
      have hl : ((pre.length : Int) < ((pre.map affP ++ y :: z).length : Int)) = True := tru (by simp; omega)
      have hset : (pre.map affP ++ y :: z).set pre.length (affP a) = (pre ++ [a]).map affP ++ z := by
        have := set_mid (pre.map affP) y (affP a) z
        rw [List.length_map] at this; rw [this]; simp
      refine Ev2.succ ?_
      simp only [laws_toAffixS.l0_eq, laws_toAffix.f_eq, affs_len, affs_elem hp, at_lt hp, aff_f0, aff_f1, aff_f2, aff_f3, aff_f4, aff_agg, hl, hset, at_next hp (by omega), strs_len, strs_elem, ints_len, ints_elem, items_list, fld_agg, elem_list, toStr_sc, toInt_sc, toBool_sc, headD_one, nat_int, get_bt, decide_eq_true_eq, decide_eq_false_iff_not, decide_true, decide_false, if_true, if_false, ite_self, Bool.not_true, Bool.not_false, Bool.false_eq_true, Bool.true_eq_false, Bool.true_and, Bool.false_and, Bool.and_true, Bool.and_false, not_true, not_false_iff, Option.bind_some, nn, toList_inj, Bool.not_eq_true', Bool.not_eq_false', Int.le_refl, and_self, true_and, and_true, false_and, and_false, bne_self_eq_false, beq_self_eq_true, Int.reduceEq, Nat.reduceEqDiff, List.length_singleton, List.tail_cons, Int.reduceLE, Int.reduceLT, decide_eq_true_eq]
      exact ih _ z (at_step hp) (by simpa using hz)
  have c1 : (af.length ≤ 3909374676536) = True := tru (by omega)
  simp only [laws_toAffixS.f_eq, affs_len, nn, c1, strs_len, strs_elem, ints_len, ints_elem, items_list, fld_agg, elem_list, toStr_sc, toInt_sc, toBool_sc, headD_one, nat_int, get_bt, decide_eq_true_eq, decide_eq_false_iff_not, decide_true, decide_false, if_true, if_false, ite_self, Bool.not_true, Bool.not_false, Bool.false_eq_true, Bool.true_eq_false, Bool.true_and, Bool.false_and, Bool.and_true, Bool.and_false, not_true, not_false_iff, Option.bind_some, nn, toList_inj, Bool.not_eq_true', Bool.not_eq_false', Int.le_refl, and_self, true_and, and_true, false_and, and_false, bne_self_eq_false, beq_self_eq_true, Int.reduceEq, Nat.reduceEqDiff, List.length_singleton, List.tail_cons, Int.reduceLE, Int.reduceLT, decide_eq_true_eq]
  exact (key af [] _ rfl (by simp)).diag
theorem toEntS_ev (es : List Ent) (hel : es.length ≤ 1000000000) : Ev (fun N => laws_toEntryS.f N [entsP es]) [entsP es] := by
  have key : ∀ (rest pre : List Ent) (z : List PV), es = pre ++ rest → z.length = rest.length → Ev2 (fun N n => laws_toEntryS.l0 N n (entsP es) (pre.length : Int) (pre.map entP ++ z)) [entsP es] := by
    intro rest
    induction rest with
    | nil =>
      intro pre z hp hz
      obtain rfl : z = [] := List.eq_nil_of_length_eq_zero hz
      have e : PV.list (pre.map entP ++ []) = entsP es := by rw [hp]; simp [entsP]
      refine Ev2.succ ?_
      simp only [laws_toEntryS.l0_eq, ents_len, at_end hp, e, strs_len, strs_elem, ints_len, ints_elem, items_list, fld_agg, elem_list, toStr_sc, toInt_sc, toBool_sc, headD_one, nat_int, get_bt, decide_eq_true_eq, decide_eq_false_iff_not, decide_true, decide_false, if_true, if_false, ite_self, Bool.not_true, Bool.not_false, Bool.false_eq_true, Bool.true_eq_false, Bool.true_and, Bool.false_and, Bool.and_true, Bool.and_false, not_true, not_false_iff, Option.bind_some, nn, toList_inj, Bool.not_eq_true', Bool.not_eq_false', Int.le_refl, and_self, true_and, and_true, false_and, and_false, bne_self_eq_false, beq_self_eq_true, Int.reduceEq, Nat.reduceEqDiff, List.length_singleton, List.tail_cons, Int.reduceLE, Int.reduceLT, decide_eq_true_eq]
      exact Ev2.now _
    | cons a rest ih =>
      intro pre z hp hz
      obtain ⟨y, z, rfl⟩ : ∃ y z', z = y :: z' := List.exists_cons_of_ne_nil (by rintro rfl; simp at hz)
      have hl : ((pre.length : Int) < ((pre.map entP ++ y :: z).length : Int)) = True := tru (by simp; omega)
      have hset : (pre.map entP ++ y :: z).set pre.length (entP a) = (pre ++ [a]).map entP ++ z := by
        have := set_mid (pre.map entP) y (entP a) z
        rw [List.length_map] at this; rw [this]; simp
      refine Ev2.succ ?_
      simp only [laws_toEntryS.l0_eq, laws_toEntry.f_eq, ents_len, ents_elem hp, at_lt hp, ent_f0, ent_f1, ent_agg, hl, hset, at_next hp (by omega), strs_len, strs_elem, ints_len, ints_elem, items_list, fld_agg, elem_list, toStr_sc, toInt_sc, toBool_sc, headD_one, nat_int, get_bt, decide_eq_true_eq, decide_eq_false_iff_not, decide_true, decide_false, if_true, if_false, ite_self, Bool.not_true, Bool.not_false, Bool.false_eq_true, Bool.true_eq_false, Bool.true_and, Bool.false_and, Bool.and_true, Bool.and_false, not_true, not_false_iff, Option.bind_some, nn, toList_inj, Bool.not_eq_true', Bool.not_eq_false', Int.le_refl, and_self, true_and, and_true, false_and, and_false, bne_self_eq_false, beq_self_eq_true, Int.reduceEq, Nat.reduceEqDiff, List.length_singleton, List.tail_cons, Int.reduceLE, Int.reduceLT, decide_eq_true_eq]
      exact ih _ z (at_step hp) (by simpa using hz)
  have c1 : (es.length ≤ 8796093022208) = True := tru (by omega)
  simp only [laws_toEntryS.f_eq, ents_len, nn, c1, strs_len, strs_elem, ints_len, ints_elem, items_list, fld_agg, elem_list, toStr_sc, toInt_sc, toBool_sc, headD_one, nat_int, get_bt, decide_eq_true_eq, decide_eq_false_iff_not, decide_true, decide_false, if_true, if_false, ite_self, Bool.not_true, Bool.not_false, Bool.false_eq_true, Bool.true_eq_false, Bool.true_and, Bool.false_and, Bool.and_true, Bool.and_false, not_true, not_false_iff, Option.bind_some, nn, toList_inj, Bool.not_eq_true', Bool.not_eq_false', Int.le_refl, and_self, true_and, and_true, false_and, and_false, bne_self_eq_false, beq_self_eq_true, Int.reduceEq, Nat.reduceEqDiff, List.length_singleton, List.tail_cons, Int.reduceLE, Int.reduceLT, decide_eq_true_eq]
  exact (key es [] _ rfl (by simp)).diag
theorem toBook_ev (af : List Aff) (es : List Ent) (hal : af.length ≤ 1000000000) (hel : es.length ≤ 1000000000) : Ev (fun N => laws_toBook.f N [bookP af es]) [bookP af es] := by
  simp only [laws_toBook.f_eq, book_f0, book_f1]
  refine Ev.bind (toAffS_ev af hal) ?_
  refine Ev.bind (toEntS_ev es hel) ?_
  exact Ev.now _
theorem eqAffS_ev (af : List Aff) (hal : af.length ≤ 1000000000) : Ev (fun N => laws_eqAffixS.f N [affsP af, affsP af]) [boolP true] := by
  have key : ∀ (rest pre : List Aff), af = pre ++ rest → Ev2 (fun N n => laws_eqAffixS.l0 N n (affsP af) (affsP af) (pre.length : Int)) [boolP true] := by
    intro rest
    induction rest with
    | nil =>
      intro pre hp
      refine Ev2.succ ?_
      simp only [laws_eqAffixS.l0_eq, affs_len, at_end hp, strs_len, strs_elem, ints_len, ints_elem, items_list, fld_agg, elem_list, toStr_sc, toInt_sc, toBool_sc, headD_one, nat_int, get_bt, decide_eq_true_eq, decide_eq_false_iff_not, decide_true, decide_false, if_true, if_false, ite_self, Bool.not_true, Bool.not_false, Bool.false_eq_true, Bool.true_eq_false, Bool.true_and, Bool.false_and, Bool.and_true, Bool.and_false, not_true, not_false_iff, Option.bind_some, nn, toList_inj, Bool.not_eq_true', Bool.not_eq_false', Int.le_refl, and_self, true_and, and_true, false_and, and_false, bne_self_eq_false, beq_self_eq_true, Int.reduceEq, Nat.reduceEqDiff, List.length_singleton, List.tail_cons, Int.reduceLE, Int.reduceLT, decide_eq_true_eq]
      exact Ev2.now _
    | cons a rest ih =>
      intro pre hp
      refine Ev2.succ ?_
      simp only [laws_eqAffixS.l0_eq, laws_eqAffix.f_eq, affs_len, affs_elem hp, at_lt hp, aff_f0, aff_f1, aff_f2, aff_f3, aff_f4, aff_agg, at_next hp (by omega), strs_len, strs_elem, ints_len, ints_elem, items_list, fld_agg, elem_list, toStr_sc, toInt_sc, toBool_sc, headD_one, nat_int, get_bt, decide_eq_true_eq, decide_eq_false_iff_not, decide_true, decide_false, if_true, if_false, ite_self, Bool.not_true, Bool.not_false, Bool.false_eq_true, Bool.true_eq_false, Bool.true_and, Bool.false_and, Bool.and_true, Bool.and_false, not_true, not_false_iff, Option.bind_some, nn, toList_inj, Bool.not_eq_true', Bool.not_eq_false', Int.le_refl, and_self, true_and, and_true, false_and, and_false, bne_self_eq_false, beq_self_eq_true, Int.reduceEq, Nat.reduceEqDiff, List.length_singleton, List.tail_cons, Int.reduceLE, Int.reduceLT, decide_eq_true_eq]
      exact ih _ (at_step hp)
  simp only [laws_eqAffixS.f_eq, affs_len, strs_len, strs_elem, ints_len, ints_elem, items_list, fld_agg, elem_list, toStr_sc, toInt_sc, toBool_sc, headD_one, nat_int, get_bt, decide_eq_true_eq, decide_eq_false_iff_not, decide_true, decide_false, if_true, if_false, ite_self, Bool.not_true, Bool.not_false, Bool.false_eq_true, Bool.true_eq_false, Bool.true_and, Bool.false_and, Bool.and_true, Bool.and_false, not_true, not_false_iff, Option.bind_some, nn, toList_inj, Bool.not_eq_true', Bool.not_eq_false', Int.le_refl, and_self, true_and, and_true, false_and, and_false, bne_self_eq_false, beq_self_eq_true, Int.reduceEq, Nat.reduceEqDiff, List.length_singleton, List.tail_cons, Int.reduceLE, Int.reduceLT, decide_eq_true_eq]
  exact (key af [] rfl).diag
theorem eqEntS_ev (es : List Ent) (hel : es.length ≤ 1000000000) : Ev (fun N => laws_eqEntryS.f N [entsP es, entsP es]) [boolP true] := by
  have key : ∀ (rest pre : List Ent), es = pre ++ rest → Ev2 (fun N n => laws_eqEntryS.l0 N n (entsP es) (entsP es) (pre.length : Int)) [boolP true] := by
    intro rest
    induction rest with
    | nil =>
      intro pre hp
      refine Ev2.succ ?_
      simp only [laws_eqEntryS.l0_eq, ents_len, at_end hp, strs_len, strs_elem, ints_len, ints_elem, items_list, fld_agg, elem_list, toStr_sc, toInt_sc, toBool_sc, headD_one, nat_int, get_bt, decide_eq_true_eq, decide_eq_false_iff_not, decide_true, decide_false, if_true, if_false, ite_self, Bool.not_true, Bool.not_false, Bool.false_eq_true, Bool.true_eq_false, Bool.true_and, Bool.false_and, Bool.and_true, Bool.and_false, not_true, not_false_iff, Option.bind_some, nn, toList_inj, Bool.not_eq_true', Bool.not_eq_false', Int.le_refl, and_self, true_and, and_true, false_and, and_false, bne_self_eq_false, beq_self_eq_true, Int.reduceEq, Nat.reduceEqDiff, List.length_singleton, List.tail_cons, Int.reduceLE, Int.reduceLT, decide_eq_true_eq]
      exact Ev2.now _
    | cons a rest ih =>
      intro pre hp
      refine Ev2.succ ?_
      simp only [laws_eqEntryS.l0_eq, laws_eqEntry.f_eq, ents_len, ents_elem hp, at_lt hp, ent_f0, ent_f1, ent_agg, at_next hp (by omega), strs_len, strs_elem, ints_len, ints_elem, items_list, fld_agg, elem_list, toStr_sc, toInt_sc, toBool_sc, headD_one, nat_int, get_bt, decide_eq_true_eq, decide_eq_false_iff_not, decide_true, decide_false, if_true, if_false, ite_self, Bool.not_true, Bool.not_false, Bool.false_eq_true, Bool.true_eq_false, Bool.true_and, Bool.false_and, Bool.and_true, Bool.and_false, not_true, not_false_iff, Option.bind_some, nn, toList_inj, Bool.not_eq_true', Bool.not_eq_false', Int.le_refl, and_self, true_and, and_true, false_and, and_false, bne_self_eq_false, beq_self_eq_true, Int.reduceEq, Nat.reduceEqDiff, List.length_singleton, List.tail_cons, Int.reduceLE, Int.reduceLT, decide_eq_true_eq]
      exact ih _ (at_step hp)
  simp only [laws_eqEntryS.f_eq, ents_len, strs_len, strs_elem, ints_len, ints_elem, items_list, fld_agg, elem_list, toStr_sc, toInt_sc, toBool_sc, headD_one, nat_int, get_bt, decide_eq_true_eq, decide_eq_false_iff_not, decide_true, decide_false, if_true, if_false, ite_self, Bool.not_true, Bool.not_false, Bool.false_eq_true, Bool.true_eq_false, Bool.true_and, Bool.false_and, Bool.and_true, Bool.and_false, not_true, not_false_iff, Option.bind_some, nn, toList_inj, Bool.not_eq_true', Bool.not_eq_false', Int.le_refl, and_self, true_and, and_true, false_and, and_false, bne_self_eq_false, beq_self_eq_true, Int.reduceEq, Nat.reduceEqDiff, List.length_singleton, List.tail_cons, Int.reduceLE, Int.reduceLT, decide_eq_true_eq]
  exact (key es [] rfl).diag
theorem eqBook_ev (af : List Aff) (es : List Ent) (hal : af.length ≤ 1000000000) (hel : es.length ≤ 1000000000) : Ev (fun N => laws_eqBook.f N [bookP af es, bookP af es]) [boolP true] := by
  simp only [laws_eqBook.f_eq, book_f0, book_f1]
  refine Ev.bind (eqAffS_ev af hal) ?_
  simp only [strs_len, strs_elem, ints_len, ints_elem, items_list, fld_agg, elem_list, toStr_sc, toInt_sc, toBool_sc, headD_one, nat_int, get_bt, decide_eq_true_eq, decide_eq_false_iff_not, decide_true, decide_false, if_true, if_false, ite_self, Bool.not_true, Bool.not_false, Bool.false_eq_true, Bool.true_eq_false, Bool.true_and, Bool.false_and, Bool.and_true, Bool.and_false, not_true, not_false_iff, Option.bind_some, nn, toList_inj, Bool.not_eq_true', Bool.not_eq_false', Int.le_refl, and_self, true_and, and_true, false_and, and_false, bne_self_eq_false, beq_self_eq_true, Int.reduceEq, Nat.reduceEqDiff, List.length_singleton, List.tail_cons, Int.reduceLE, Int.reduceLT, decide_eq_true_eq]
  refine Ev.bind (eqEntS_ev es hel) ?_
  simp only [strs_len, strs_elem, ints_len, ints_elem, items_list, fld_agg, elem_list, toStr_sc, toInt_sc, toBool_sc, headD_one, nat_int, get_bt, decide_eq_true_eq, decide_eq_false_iff_not, decide_true, decide_false, if_true, if_false, ite_self, Bool.not_true, Bool.not_false, Bool.false_eq_true, Bool.true_eq_false, Bool.true_and, Bool.false_and, Bool.and_true, Bool.and_false, not_true, not_false_iff, Option.bind_some, nn, toList_inj, Bool.not_eq_true', Bool.not_eq_false', Int.le_refl, and_self, true_and, and_true, false_and, and_false, bne_self_eq_false, beq_self_eq_true, Int.reduceEq, Nat.reduceEqDiff, List.length_singleton, List.tail_cons, Int.reduceLE, Int.reduceLT, decide_eq_true_eq]
  exact Ev.now _
/-- A number is told, and a list that is as long as it was. -/
def Tot2 (L : Nat) (v : Int) (g : Nat → Nat → Option (List PV)) : Prop := ∃ y : List PV, y.length = L ∧ Ev2 g [intP v, PV.list y]
theorem Tot2.bind {L : Nat} {v : Int} {s : List PV} {g : Nat → Option (List PV)} {f : Nat → Nat → List PV → Option (List PV)} (h : Ev g s) (k : Tot2 L v (fun N n => f N n s)) : Tot2 L v (fun N n => (g N).bind (f N n)) := by
  obtain ⟨y, hy, h2⟩ := k
  exact ⟨y, hy, Ev2.bind h h2⟩
theorem Tot2.succ {L : Nat} {v : Int} {g : Nat → Nat → Option (List PV)} (h : Tot2 L v (fun N n => g N (n + 1))) : Tot2 L v g := by
  obtain ⟨y, hy, h2⟩ := h
  exact ⟨y, hy, Ev2.succ h2⟩
theorem markAff_l1 : ∀ (d i : Nat) (y : List PV) (x : Int), i + d = y.length → y.length ≤ 1000000000 → 0 ≤ x → x + 5 * d < 4000000000000000000 → Tot2 y.length (x + 5 * d) (fun N n => laws_markAffixS.l1 N n x (i : Int) y) := by
  intro d
  induction d with
  | zero =>
    intro i y x hi hy hx h4
    have c0 : ((i : Int) < (y.length : Int)) = False := fls (by omega)
    refine Tot2.succ ⟨y, rfl, ?_⟩
    simp only [laws_markAffixS.l1_eq, c0, strs_len, strs_elem, ints_len, ints_elem, items_list, fld_agg, elem_list, toStr_sc, toInt_sc, toBool_sc, headD_one, nat_int, get_bt, decide_eq_true_eq, decide_eq_false_iff_not, decide_true, decide_false, if_true, if_false, ite_self, Bool.not_true, Bool.not_false, Bool.false_eq_true, Bool.true_eq_false, Bool.true_and, Bool.false_and, Bool.and_true, Bool.and_false, not_true, not_false_iff, Option.bind_some, nn, toList_inj, Bool.not_eq_true', Bool.not_eq_false', Int.le_refl, and_self, true_and, and_true, false_and, and_false, bne_self_eq_false, beq_self_eq_true, Int.reduceEq, Nat.reduceEqDiff, List.length_singleton, List.tail_cons, Int.reduceLE, Int.reduceLT, decide_eq_true_eq]
    refine Ev2.ext (Ev2.now _) ?_
    simp
  | succ d ih =>
    intro i y x hi hy hx h4
    have c0 : ((i : Int) < (y.length : Int)) = True := tru (by omega)
    have w1 : IntKind.i64.wrap (x + 1) = x + 1 := wrap_id (by omega) (by omega)
    have w2 : IntKind.i64.wrap (x + 1 + 1) = x + 1 + 1 := wrap_id (by omega) (by omega)
    have w3 : IntKind.i64.wrap (x + 1 + 1 + 1) = x + 1 + 1 + 1 := wrap_id (by omega) (by omega)
    have w4 : IntKind.i64.wrap (x + 1 + 1 + 1 + 1) = x + 1 + 1 + 1 + 1 := wrap_id (by omega) (by omega)
    have w5 : IntKind.i64.wrap (x + 1 + 1 + 1 + 1 + 1) = x + 1 + 1 + 1 + 1 + 1 := wrap_id (by omega) (by omega)
    have wi : IntKind.i64.wrap ((i : Int) + 1) = ((i + 1 : Nat) : Int) := nat_wrap (by omega) (by omega)
    have z3 : ((3 : Int) = 0) = False := by simp
    have m1 := markText_ev x (by omega)
    have m2 := markText_ev (x + 1 + 1) (by omega)
    have m3 := markText_ev (x + 1 + 1 + 1) (by omega)
    have m4 := markText_ev (x + 1 + 1 + 1 + 1) (by omega)
    refine Tot2.succ ?_
    simp only [laws_markAffixS.l1_eq, c0, w1, w2, w3, w4, w5, wi, List.length_set, z3, nn, strs_len, strs_elem, ints_len, ints_elem, items_list, fld_agg, elem_list, toStr_sc, toInt_sc, toBool_sc, headD_one, nat_int, get_bt, decide_eq_true_eq, decide_eq_false_iff_not, decide_true, decide_false, if_true, if_false, ite_self, Bool.not_true, Bool.not_false, Bool.false_eq_true, Bool.true_eq_false, Bool.true_and, Bool.false_and, Bool.and_true, Bool.and_false, not_true, not_false_iff, Option.bind_some, nn, toList_inj, Bool.not_eq_true', Bool.not_eq_false', Int.le_refl, and_self, true_and, and_true, false_and, and_false, bne_self_eq_false, beq_self_eq_true, Int.reduceEq, Nat.reduceEqDiff, List.length_singleton, List.tail_cons, Int.reduceLE, Int.reduceLT, decide_eq_true_eq]
    refine Tot2.bind m1 ?_
    simp only [List.length_set, c0, nn, strs_len, strs_elem, ints_len, ints_elem, items_list, fld_agg, elem_list, toStr_sc, toInt_sc, toBool_sc, headD_one, nat_int, get_bt, decide_eq_true_eq, decide_eq_false_iff_not, decide_true, decide_false, if_true, if_false, ite_self, Bool.not_true, Bool.not_false, Bool.false_eq_true, Bool.true_eq_false, Bool.true_and, Bool.false_and, Bool.and_true, Bool.and_false, not_true, not_false_iff, Option.bind_some, nn, toList_inj, Bool.not_eq_true', Bool.not_eq_false', Int.le_refl, and_self, true_and, and_true, false_and, and_false, bne_self_eq_false, beq_self_eq_true, Int.reduceEq, Nat.reduceEqDiff, List.length_singleton, List.tail_cons, Int.reduceLE, Int.reduceLT, decide_eq_true_eq]
    refine Tot2.bind m2 ?_
    simp only [List.length_set, c0, nn, strs_len, strs_elem, ints_len, ints_elem, items_list, fld_agg, elem_list, toStr_sc, toInt_sc, toBool_sc, headD_one, nat_int, get_bt, decide_eq_true_eq, decide_eq_false_iff_not, decide_true, decide_false, if_true, if_false, ite_self, Bool.not_true, Bool.not_false, Bool.false_eq_true, Bool.true_eq_false, Bool.true_and, Bool.false_and, Bool.and_true, Bool.and_false, not_true, not_false_iff, Option.bind_some, nn, toList_inj, Bool.not_eq_true', Bool.not_eq_false', Int.le_refl, and_self, true_and, and_true, false_and, and_false, bne_self_eq_false, beq_self_eq_true, Int.reduceEq, Nat.reduceEqDiff, List.length_singleton, List.tail_cons, Int.reduceLE, Int.reduceLT, decide_eq_true_eq]
    refine Tot2.bind m3 ?_
    simp only [List.length_set, c0, nn, strs_len, strs_elem, ints_len, ints_elem, items_list, fld_agg, elem_list, toStr_sc, toInt_sc, toBool_sc, headD_one, nat_int, get_bt, decide_eq_true_eq, decide_eq_false_iff_not, decide_true, decide_false, if_true, if_false, ite_self, Bool.not_true, Bool.not_false, Bool.false_eq_true, Bool.true_eq_false, Bool.true_and, Bool.false_and, Bool.and_true, Bool.and_false, not_true, not_false_iff, Option.bind_some, nn, toList_inj, Bool.not_eq_true', Bool.not_eq_false', Int.le_refl, and_self, true_and, and_true, false_and, and_false, bne_self_eq_false, beq_self_eq_true, Int.reduceEq, Nat.reduceEqDiff, List.length_singleton, List.tail_cons, Int.reduceLE, Int.reduceLT, decide_eq_true_eq]
    refine Tot2.bind m4 ?_
    simp only [List.length_set, c0, nn, strs_len, strs_elem, ints_len, ints_elem, items_list, fld_agg, elem_list, toStr_sc, toInt_sc, toBool_sc, headD_one, nat_int, get_bt, decide_eq_true_eq, decide_eq_false_iff_not, decide_true, decide_false, if_true, if_false, ite_self, Bool.not_true, Bool.not_false, Bool.false_eq_true, Bool.true_eq_false, Bool.true_and, Bool.false_and, Bool.and_true, Bool.and_false, not_true, not_false_iff, Option.bind_some, nn, toList_inj, Bool.not_eq_true', Bool.not_eq_false', Int.le_refl, and_self, true_and, and_true, false_and, and_false, bne_self_eq_false, beq_self_eq_true, Int.reduceEq, Nat.reduceEqDiff, List.length_singleton, List.tail_cons, Int.reduceLE, Int.reduceLT, decide_eq_true_eq]
    have e : x + 5 * ((d + 1 : Nat) : Int) = x + 1 + 1 + 1 + 1 + 1 + 5 * (d : Int) := by omega
    have key := ih (i + 1)
    rw [e]
    have hl : ∀ Y : List PV, Y.length = y.length → Tot2 y.length (x + 1 + 1 + 1 + 1 + 1 + 5 * (d : Int)) (fun N n => laws_markAffixS.l1 N n (x + 1 + 1 + 1 + 1 + 1) ((i + 1 : Nat) : Int) Y) := fun Y hY => by
      have := key Y (x + 1 + 1 + 1 + 1 + 1) (by omega) (by omega) (by omega) (by omega)
      rwa [hY] at this
    exact hl _ (by simp only [List.length_set])
theorem markEnt_l1 : ∀ (d i : Nat) (y : List PV) (x : Int), i + d = y.length → y.length ≤ 1000000000 → 0 ≤ x → x + 2 * d < 4000000000000000000 → Tot2 y.length (x + 2 * d) (fun N n => laws_markEntryS.l1 N n x (i : Int) y) := by
  intro d
  induction d with
  | zero =>
    intro i y x hi hy hx h4
    have c0 : ((i : Int) < (y.length : Int)) = False := fls (by omega)
    refine Tot2.succ ⟨y, rfl, ?_⟩
    simp only [laws_markEntryS.l1_eq, c0, strs_len, strs_elem, ints_len, ints_elem, items_list, fld_agg, elem_list, toStr_sc, toInt_sc, toBool_sc, headD_one, nat_int, get_bt, decide_eq_true_eq, decide_eq_false_iff_not, decide_true, decide_false, if_true, if_false, ite_self, Bool.not_true, Bool.not_false, Bool.false_eq_true, Bool.true_eq_false, Bool.true_and, Bool.false_and, Bool.and_true, Bool.and_false, not_true, not_false_iff, Option.bind_some, nn, toList_inj, Bool.not_eq_true', Bool.not_eq_false', Int.le_refl, and_self, true_and, and_true, false_and, and_false, bne_self_eq_false, beq_self_eq_true, Int.reduceEq, Nat.reduceEqDiff, List.length_singleton, List.tail_cons, Int.reduceLE, Int.reduceLT, decide_eq_true_eq]
    refine Ev2.ext (Ev2.now _) ?_
    simp
  | succ d ih =>
    intro i y x hi hy hx h4
    have c0 : ((i : Int) < (y.length : Int)) = True := tru (by omega)
    have w1 : IntKind.i64.wrap (x + 1) = x + 1 := wrap_id (by omega) (by omega)
    have w2 : IntKind.i64.wrap (x + 1 + 1) = x + 1 + 1 := wrap_id (by omega) (by omega)
    have wi : IntKind.i64.wrap ((i : Int) + 1) = ((i + 1 : Nat) : Int) := nat_wrap (by omega) (by omega)
    have m1 := markText_ev x (by omega)
    have m2 := markText_ev (x + 1) (by omega)
    refine Tot2.succ ?_
    simp only [laws_markEntryS.l1_eq, c0, w1, w2, wi, nn, strs_len, strs_elem, ints_len, ints_elem, items_list, fld_agg, elem_list, toStr_sc, toInt_sc, toBool_sc, headD_one, nat_int, get_bt, decide_eq_true_eq, decide_eq_false_iff_not, decide_true, decide_false, if_true, if_false, ite_self, Bool.not_true, Bool.not_false, Bool.false_eq_true, Bool.true_eq_false, Bool.true_and, Bool.false_and, Bool.and_true, Bool.and_false, not_true, not_false_iff, Option.bind_some, nn, toList_inj, Bool.not_eq_true', Bool.not_eq_false', Int.le_refl, and_self, true_and, and_true, false_and, and_false, bne_self_eq_false, beq_self_eq_true, Int.reduceEq, Nat.reduceEqDiff, List.length_singleton, List.tail_cons, Int.reduceLE, Int.reduceLT, decide_eq_true_eq]
    refine Tot2.bind m1 ?_
    simp only [List.length_set, c0, nn, strs_len, strs_elem, ints_len, ints_elem, items_list, fld_agg, elem_list, toStr_sc, toInt_sc, toBool_sc, headD_one, nat_int, get_bt, decide_eq_true_eq, decide_eq_false_iff_not, decide_true, decide_false, if_true, if_false, ite_self, Bool.not_true, Bool.not_false, Bool.false_eq_true, Bool.true_eq_false, Bool.true_and, Bool.false_and, Bool.and_true, Bool.and_false, not_true, not_false_iff, Option.bind_some, nn, toList_inj, Bool.not_eq_true', Bool.not_eq_false', Int.le_refl, and_self, true_and, and_true, false_and, and_false, bne_self_eq_false, beq_self_eq_true, Int.reduceEq, Nat.reduceEqDiff, List.length_singleton, List.tail_cons, Int.reduceLE, Int.reduceLT, decide_eq_true_eq]
    refine Tot2.bind m2 ?_
    simp only [List.length_set, c0, nn, strs_len, strs_elem, ints_len, ints_elem, items_list, fld_agg, elem_list, toStr_sc, toInt_sc, toBool_sc, headD_one, nat_int, get_bt, decide_eq_true_eq, decide_eq_false_iff_not, decide_true, decide_false, if_true, if_false, ite_self, Bool.not_true, Bool.not_false, Bool.false_eq_true, Bool.true_eq_false, Bool.true_and, Bool.false_and, Bool.and_true, Bool.and_false, not_true, not_false_iff, Option.bind_some, nn, toList_inj, Bool.not_eq_true', Bool.not_eq_false', Int.le_refl, and_self, true_and, and_true, false_and, and_false, bne_self_eq_false, beq_self_eq_true, Int.reduceEq, Nat.reduceEqDiff, List.length_singleton, List.tail_cons, Int.reduceLE, Int.reduceLT, decide_eq_true_eq]
    have e : x + 2 * ((d + 1 : Nat) : Int) = x + 1 + 1 + 2 * (d : Int) := by omega
    rw [e]
    have hl : ∀ Y : List PV, Y.length = y.length → Tot2 y.length (x + 1 + 1 + 2 * (d : Int)) (fun N n => laws_markEntryS.l1 N n (x + 1 + 1) ((i + 1 : Nat) : Int) Y) := fun Y hY => by
      have := ih (i + 1) Y (x + 1 + 1) (by omega) (by omega) (by omega) (by omega)
      rwa [hY] at this
    exact hl _ (by simp only [List.length_set])
theorem markAff_l0 (y : List PV) (x : Int) (hy : y.length ≤ 1000000000) (hx : 0 ≤ x) (h4 : x ≤ 1000000000) : Tot2 y.length (x + 5 * y.length) (fun N n => laws_markAffixS.l0 N n x 0 (PV.list y)) := by
  obtain ⟨d, hd⟩ : ∃ d, d = y.length := ⟨_, rfl⟩
  cases d with
  | zero =>
    have c0 : ((0 : Int) < (y.length : Int)) = False := fls (by omega)
    refine Tot2.succ ⟨y, rfl, ?_⟩
    simp only [laws_markAffixS.l0_eq, c0, strs_len, strs_elem, ints_len, ints_elem, items_list, fld_agg, elem_list, toStr_sc, toInt_sc, toBool_sc, headD_one, nat_int, get_bt, decide_eq_true_eq, decide_eq_false_iff_not, decide_true, decide_false, if_true, if_false, ite_self, Bool.not_true, Bool.not_false, Bool.false_eq_true, Bool.true_eq_false, Bool.true_and, Bool.false_and, Bool.and_true, Bool.and_false, not_true, not_false_iff, Option.bind_some, nn, toList_inj, Bool.not_eq_true', Bool.not_eq_false', Int.le_refl, and_self, true_and, and_true, false_and, and_false, bne_self_eq_false, beq_self_eq_true, Int.reduceEq, Nat.reduceEqDiff, List.length_singleton, List.tail_cons, Int.reduceLE, Int.reduceLT, decide_eq_true_eq]
    refine Ev2.ext (Ev2.now _) ?_
    rw [← hd]; simp
  | succ d =>
    have c0 : ((0 : Int) < (y.length : Int)) = True := tru (by omega)
    have w1 : IntKind.i64.wrap (x + 1) = x + 1 := wrap_id (by omega) (by omega)
    have w2 : IntKind.i64.wrap (x + 1 + 1) = x + 1 + 1 := wrap_id (by omega) (by omega)
    have w3 : IntKind.i64.wrap (x + 1 + 1 + 1) = x + 1 + 1 + 1 := wrap_id (by omega) (by omega)
    have w4 : IntKind.i64.wrap (x + 1 + 1 + 1 + 1) = x + 1 + 1 + 1 + 1 := wrap_id (by omega) (by omega)
    have w5 : IntKind.i64.wrap (x + 1 + 1 + 1 + 1 + 1) = x + 1 + 1 + 1 + 1 + 1 := wrap_id (by omega) (by omega)
    have wi : IntKind.i64.wrap ((0 : Int) + 1) = ((1 : Nat) : Int) := nat_wrap (by omega) (by omega)
    have z3 : ((3 : Int) = 0) = False := by simp
    have m1 := markText_ev x (by omega)
    have m2 := markText_ev (x + 1 + 1) (by omega)
    have m3 := markText_ev (x + 1 + 1 + 1) (by omega)
    have m4 := markText_ev (x + 1 + 1 + 1 + 1) (by omega)
    refine Tot2.succ ?_
    simp only [laws_markAffixS.l0_eq, c0, w1, w2, w3, w4, w5, wi, List.length_set, z3, nn, strs_len, strs_elem, ints_len, ints_elem, items_list, fld_agg, elem_list, toStr_sc, toInt_sc, toBool_sc, headD_one, nat_int, get_bt, decide_eq_true_eq, decide_eq_false_iff_not, decide_true, decide_false, if_true, if_false, ite_self, Bool.not_true, Bool.not_false, Bool.false_eq_true, Bool.true_eq_false, Bool.true_and, Bool.false_and, Bool.and_true, Bool.and_false, not_true, not_false_iff, Option.bind_some, nn, toList_inj, Bool.not_eq_true', Bool.not_eq_false', Int.le_refl, and_self, true_and, and_true, false_and, and_false, bne_self_eq_false, beq_self_eq_true, Int.reduceEq, Nat.reduceEqDiff, List.length_singleton, List.tail_cons, Int.reduceLE, Int.reduceLT, decide_eq_true_eq]
    refine Tot2.bind m1 ?_
    simp only [List.length_set, c0, nn, strs_len, strs_elem, ints_len, ints_elem, items_list, fld_agg, elem_list, toStr_sc, toInt_sc, toBool_sc, headD_one, nat_int, get_bt, decide_eq_true_eq, decide_eq_false_iff_not, decide_true, decide_false, if_true, if_false, ite_self, Bool.not_true, Bool.not_false, Bool.false_eq_true, Bool.true_eq_false, Bool.true_and, Bool.false_and, Bool.and_true, Bool.and_false, not_true, not_false_iff, Option.bind_some, nn, toList_inj, Bool.not_eq_true', Bool.not_eq_false', Int.le_refl, and_self, true_and, and_true, false_and, and_false, bne_self_eq_false, beq_self_eq_true, Int.reduceEq, Nat.reduceEqDiff, List.length_singleton, List.tail_cons, Int.reduceLE, Int.reduceLT, decide_eq_true_eq]
    refine Tot2.bind m2 ?_
    simp only [List.length_set, c0, nn, strs_len, strs_elem, ints_len, ints_elem, items_list, fld_agg, elem_list, toStr_sc, toInt_sc, toBool_sc, headD_one, nat_int, get_bt, decide_eq_true_eq, decide_eq_false_iff_not, decide_true, decide_false, if_true, if_false, ite_self, Bool.not_true, Bool.not_false, Bool.false_eq_true, Bool.true_eq_false, Bool.true_and, Bool.false_and, Bool.and_true, Bool.and_false, not_true, not_false_iff, Option.bind_some, nn, toList_inj, Bool.not_eq_true', Bool.not_eq_false', Int.le_refl, and_self, true_and, and_true, false_and, and_false, bne_self_eq_false, beq_self_eq_true, Int.reduceEq, Nat.reduceEqDiff, List.length_singleton, List.tail_cons, Int.reduceLE, Int.reduceLT, decide_eq_true_eq]
    refine Tot2.bind m3 ?_
    simp only [List.length_set, c0, nn, strs_len, strs_elem, ints_len, ints_elem, items_list, fld_agg, elem_list, toStr_sc, toInt_sc, toBool_sc, headD_one, nat_int, get_bt, decide_eq_true_eq, decide_eq_false_iff_not, decide_true, decide_false, if_true, if_false, ite_self, Bool.not_true, Bool.not_false, Bool.false_eq_true, Bool.true_eq_false, Bool.true_and, Bool.false_and, Bool.and_true, Bool.and_false, not_true, not_false_iff, Option.bind_some, nn, toList_inj, Bool.not_eq_true', Bool.not_eq_false', Int.le_refl, and_self, true_and, and_true, false_and, and_false, bne_self_eq_false, beq_self_eq_true, Int.reduceEq, Nat.reduceEqDiff, List.length_singleton, List.tail_cons, Int.reduceLE, Int.reduceLT, decide_eq_true_eq]
    refine Tot2.bind m4 ?_
    simp only [List.length_set, c0, nn, strs_len, strs_elem, ints_len, ints_elem, items_list, fld_agg, elem_list, toStr_sc, toInt_sc, toBool_sc, headD_one, nat_int, get_bt, decide_eq_true_eq, decide_eq_false_iff_not, decide_true, decide_false, if_true, if_false, ite_self, Bool.not_true, Bool.not_false, Bool.false_eq_true, Bool.true_eq_false, Bool.true_and, Bool.false_and, Bool.and_true, Bool.and_false, not_true, not_false_iff, Option.bind_some, nn, toList_inj, Bool.not_eq_true', Bool.not_eq_false', Int.le_refl, and_self, true_and, and_true, false_and, and_false, bne_self_eq_false, beq_self_eq_true, Int.reduceEq, Nat.reduceEqDiff, List.length_singleton, List.tail_cons, Int.reduceLE, Int.reduceLT, decide_eq_true_eq]
    have e : x + 5 * (y.length : Int) = x + 1 + 1 + 1 + 1 + 1 + 5 * (d : Int) := by omega
    rw [e]
    have hl : ∀ Y : List PV, Y.length = y.length → Tot2 y.length (x + 1 + 1 + 1 + 1 + 1 + 5 * (d : Int)) (fun N n => laws_markAffixS.l1 N n (x + 1 + 1 + 1 + 1 + 1) ((1 : Nat) : Int) Y) := fun Y hY => by
      have := markAff_l1 d 1 Y (x + 1 + 1 + 1 + 1 + 1) (by omega) (by omega) (by omega) (by omega)
      rwa [hY] at this
    exact hl _ (by simp only [List.length_set])
theorem markEnt_l0 (y : List PV) (x : Int) (hy : y.length ≤ 1000000000) (hx : 0 ≤ x) (h4 : x ≤ 10000000000) : Tot2 y.length (x + 2 * y.length) (fun N n => laws_markEntryS.l0 N n x 0 (PV.list y)) := by
  obtain ⟨d, hd⟩ : ∃ d, d = y.length := ⟨_, rfl⟩
  cases d with
  | zero =>
    have c0 : ((0 : Int) < (y.length : Int)) = False := fls (by omega)
    refine Tot2.succ ⟨y, rfl, ?_⟩
    simp only [laws_markEntryS.l0_eq, c0, strs_len, strs_elem, ints_len, ints_elem, items_list, fld_agg, elem_list, toStr_sc, toInt_sc, toBool_sc, headD_one, nat_int, get_bt, decide_eq_true_eq, decide_eq_false_iff_not, decide_true, decide_false, if_true, if_false, ite_self, Bool.not_true, Bool.not_false, Bool.false_eq_true, Bool.true_eq_false, Bool.true_and, Bool.false_and, Bool.and_true, Bool.and_false, not_true, not_false_iff, Option.bind_some, nn, toList_inj, Bool.not_eq_true', Bool.not_eq_false', Int.le_refl, and_self, true_and, and_true, false_and, and_false, bne_self_eq_false, beq_self_eq_true, Int.reduceEq, Nat.reduceEqDiff, List.length_singleton, List.tail_cons, Int.reduceLE, Int.reduceLT, decide_eq_true_eq]
    refine Ev2.ext (Ev2.now _) ?_
    rw [← hd]; simp
  | succ d =>
    have c0 : ((0 : Int) < (y.length : Int)) = True := tru (by omega)
    have w1 : IntKind.i64.wrap (x + 1) = x + 1 := wrap_id (by omega) (by omega)
    have w2 : IntKind.i64.wrap (x + 1 + 1) = x + 1 + 1 := wrap_id (by omega) (by omega)
    have wi : IntKind.i64.wrap ((0 : Int) + 1) = ((1 : Nat) : Int) := nat_wrap (by omega) (by omega)
    have m1 := markText_ev x (by omega)
    have m2 := markText_ev (x + 1) (by omega)
    refine Tot2.succ ?_
    simp only [laws_markEntryS.l0_eq, c0, w1, w2, wi, nn, strs_len, strs_elem, ints_len, ints_elem, items_list, fld_agg, elem_list, toStr_sc, toInt_sc, toBool_sc, headD_one, nat_int, get_bt, decide_eq_true_eq, decide_eq_false_iff_not, decide_true, decide_false, if_true, if_false, ite_self, Bool.not_true, Bool.not_false, Bool.false_eq_true, Bool.true_eq_false, Bool.true_and, Bool.false_and, Bool.and_true, Bool.and_false, not_true, not_false_iff, Option.bind_some, nn, toList_inj, Bool.not_eq_true', Bool.not_eq_false', Int.le_refl, and_self, true_and, and_true, false_and, and_false, bne_self_eq_false, beq_self_eq_true, Int.reduceEq, Nat.reduceEqDiff, List.length_singleton, List.tail_cons, Int.reduceLE, Int.reduceLT, decide_eq_true_eq]
    refine Tot2.bind m1 ?_
    simp only [List.length_set, c0, nn, strs_len, strs_elem, ints_len, ints_elem, items_list, fld_agg, elem_list, toStr_sc, toInt_sc, toBool_sc, headD_one, nat_int, get_bt, decide_eq_true_eq, decide_eq_false_iff_not, decide_true, decide_false, if_true, if_false, ite_self, Bool.not_true, Bool.not_false, Bool.false_eq_true, Bool.true_eq_false, Bool.true_and, Bool.false_and, Bool.and_true, Bool.and_false, not_true, not_false_iff, Option.bind_some, nn, toList_inj, Bool.not_eq_true', Bool.not_eq_false', Int.le_refl, and_self, true_and, and_true, false_and, and_false, bne_self_eq_false, beq_self_eq_true, Int.reduceEq, Nat.reduceEqDiff, List.length_singleton, List.tail_cons, Int.reduceLE, Int.reduceLT, decide_eq_true_eq]
    refine Tot2.bind m2 ?_
    simp only [List.length_set, c0, nn, strs_len, strs_elem, ints_len, ints_elem, items_list, fld_agg, elem_list, toStr_sc, toInt_sc, toBool_sc, headD_one, nat_int, get_bt, decide_eq_true_eq, decide_eq_false_iff_not, decide_true, decide_false, if_true, if_false, ite_self, Bool.not_true, Bool.not_false, Bool.false_eq_true, Bool.true_eq_false, Bool.true_and, Bool.false_and, Bool.and_true, Bool.and_false, not_true, not_false_iff, Option.bind_some, nn, toList_inj, Bool.not_eq_true', Bool.not_eq_false', Int.le_refl, and_self, true_and, and_true, false_and, and_false, bne_self_eq_false, beq_self_eq_true, Int.reduceEq, Nat.reduceEqDiff, List.length_singleton, List.tail_cons, Int.reduceLE, Int.reduceLT, decide_eq_true_eq]
    have e : x + 2 * (y.length : Int) = x + 1 + 1 + 2 * (d : Int) := by omega
    rw [e]
    have hl : ∀ Y : List PV, Y.length = y.length → Tot2 y.length (x + 1 + 1 + 2 * (d : Int)) (fun N n => laws_markEntryS.l1 N n (x + 1 + 1) ((1 : Nat) : Int) Y) := fun Y hY => by
      have := markEnt_l1 d 1 Y (x + 1 + 1) (by omega) (by omega) (by omega) (by omega)
      rwa [hY] at this
    exact hl _ (by simp only [List.length_set])
theorem markBook_ev (af : List Aff) (es : List Ent) (hal : af.length ≤ 100000000) (hel : es.length ≤ 100000000) (x : Int) (hx : 0 ≤ x) (hx2 : x ≤ 1000000) : ∃ (k : Int) (A B : PV), 0 ≤ k ∧ k ≤ 2000000000 ∧ Ev (fun N => laws_markBook.f N [bookP af es, intP x]) [intP k, A, B] := by
  obtain ⟨y1, hy1, e1⟩ := markAff_l0 (af.map affP) x (by simpa using (by omega : af.length ≤ 1000000000)) hx (by omega)
  rw [List.length_map] at e1
  obtain ⟨y2, hy2, e2⟩ := markEnt_l0 (es.map entP) (x + 5 * (af.length : Int)) (by simpa using (by omega : es.length ≤ 1000000000)) (by omega) (by omega)
  rw [List.length_map] at e2
  refine ⟨x + 5 * (af.length : Int) + 2 * (es.length : Int), PV.list y1, PV.list y2, by omega, by omega, ?_⟩
  · have b1 : (bookP af es).fld 0 = PV.list (af.map affP) := rfl
    have b2 : (bookP af es).fld 1 = PV.list (es.map entP) := rfl
    simp only [laws_markBook.f_eq, b1, b2, laws_markAffixS.f_eq, laws_markEntryS.f_eq, strs_len, strs_elem, ints_len, ints_elem, items_list, fld_agg, elem_list, toStr_sc, toInt_sc, toBool_sc, headD_one, nat_int, get_bt, decide_eq_true_eq, decide_eq_false_iff_not, decide_true, decide_false, if_true, if_false, ite_self, Bool.not_true, Bool.not_false, Bool.false_eq_true, Bool.true_eq_false, Bool.true_and, Bool.false_and, Bool.and_true, Bool.and_false, not_true, not_false_iff, Option.bind_some, nn, toList_inj, Bool.not_eq_true', Bool.not_eq_false', Int.le_refl, and_self, true_and, and_true, false_and, and_false, bne_self_eq_false, beq_self_eq_true, Int.reduceEq, Nat.reduceEqDiff, List.length_singleton, List.tail_cons, Int.reduceLE, Int.reduceLT, decide_eq_true_eq]
    refine Ev.bind e1.diag ?_
    simp only [strs_len, strs_elem, ints_len, ints_elem, items_list, fld_agg, elem_list, toStr_sc, toInt_sc, toBool_sc, headD_one, nat_int, get_bt, decide_eq_true_eq, decide_eq_false_iff_not, decide_true, decide_false, if_true, if_false, ite_self, Bool.not_true, Bool.not_false, Bool.false_eq_true, Bool.true_eq_false, Bool.true_and, Bool.false_and, Bool.and_true, Bool.and_false, not_true, not_false_iff, Option.bind_some, nn, toList_inj, Bool.not_eq_true', Bool.not_eq_false', Int.le_refl, and_self, true_and, and_true, false_and, and_false, bne_self_eq_false, beq_self_eq_true, Int.reduceEq, Nat.reduceEqDiff, List.length_singleton, List.tail_cons, Int.reduceLE, Int.reduceLT, decide_eq_true_eq]
    refine Ev.bind e2.diag ?_
    simp only [strs_len, strs_elem, ints_len, ints_elem, items_list, fld_agg, elem_list, toStr_sc, toInt_sc, toBool_sc, headD_one, nat_int, get_bt, decide_eq_true_eq, decide_eq_false_iff_not, decide_true, decide_false, if_true, if_false, ite_self, Bool.not_true, Bool.not_false, Bool.false_eq_true, Bool.true_eq_false, Bool.true_and, Bool.false_and, Bool.and_true, Bool.and_false, not_true, not_false_iff, Option.bind_some, nn, toList_inj, Bool.not_eq_true', Bool.not_eq_false', Int.le_refl, and_self, true_and, and_true, false_and, and_false, bne_self_eq_false, beq_self_eq_true, Int.reduceEq, Nat.reduceEqDiff, List.length_singleton, List.tail_cons, Int.reduceLE, Int.reduceLT, decide_eq_true_eq]
    exact Ev.now _
/-! #### the laws' own helpers over what is marked -/
theorem eqGuessS_ev (l : List Gs) (hl : l.length ≤ 1000000000) : Ev (fun N => laws_eqGuessS.f N [gsP l, gsP l]) [boolP true] := by
  have key : ∀ (rest pre : List Gs), l = pre ++ rest → Ev2 (fun N n => laws_eqGuessS.l0 N n (gsP l) (gsP l) (pre.length : Int)) [boolP true] := by
    intro rest
    induction rest with
    | nil =>
      intro pre hp
      refine Ev2.succ ?_
      simp only [laws_eqGuessS.l0_eq, gs_len, at_end hp, strs_len, strs_elem, ints_len, ints_elem, items_list, fld_agg, elem_list, toStr_sc, toInt_sc, toBool_sc, headD_one, nat_int, get_bt, decide_eq_true_eq, decide_eq_false_iff_not, decide_true, decide_false, if_true, if_false, ite_self, Bool.not_true, Bool.not_false, Bool.false_eq_true, Bool.true_eq_false, Bool.true_and, Bool.false_and, Bool.and_true, Bool.and_false, not_true, not_false_iff, Option.bind_some, nn, toList_inj, Bool.not_eq_true', Bool.not_eq_false', Int.le_refl, and_self, true_and, and_true, false_and, and_false, bne_self_eq_false, beq_self_eq_true, Int.reduceEq, Nat.reduceEqDiff, List.length_singleton, List.tail_cons, Int.reduceLE, Int.reduceLT, decide_eq_true_eq]
      exact Ev2.now _
    | cons g rest ih =>
      intro pre hp
      refine Ev2.succ ?_
      simp only [laws_eqGuessS.l0_eq, laws_eqGuess.f_eq, gs_len, gs_elem hp, at_lt hp, g_f0, g_f1, g_agg, at_next hp (by omega), strs_len, strs_elem, ints_len, ints_elem, items_list, fld_agg, elem_list, toStr_sc, toInt_sc, toBool_sc, headD_one, nat_int, get_bt, decide_eq_true_eq, decide_eq_false_iff_not, decide_true, decide_false, if_true, if_false, ite_self, Bool.not_true, Bool.not_false, Bool.false_eq_true, Bool.true_eq_false, Bool.true_and, Bool.false_and, Bool.and_true, Bool.and_false, not_true, not_false_iff, Option.bind_some, nn, toList_inj, Bool.not_eq_true', Bool.not_eq_false', Int.le_refl, and_self, true_and, and_true, false_and, and_false, bne_self_eq_false, beq_self_eq_true, Int.reduceEq, Nat.reduceEqDiff, List.length_singleton, List.tail_cons, Int.reduceLE, Int.reduceLT, decide_eq_true_eq]
      exact ih _ (at_step hp)
  simp only [laws_eqGuessS.f_eq, gs_len, strs_len, strs_elem, ints_len, ints_elem, items_list, fld_agg, elem_list, toStr_sc, toInt_sc, toBool_sc, headD_one, nat_int, get_bt, decide_eq_true_eq, decide_eq_false_iff_not, decide_true, decide_false, if_true, if_false, ite_self, Bool.not_true, Bool.not_false, Bool.false_eq_true, Bool.true_eq_false, Bool.true_and, Bool.false_and, Bool.and_true, Bool.and_false, not_true, not_false_iff, Option.bind_some, nn, toList_inj, Bool.not_eq_true', Bool.not_eq_false', Int.le_refl, and_self, true_and, and_true, false_and, and_false, bne_self_eq_false, beq_self_eq_true, Int.reduceEq, Nat.reduceEqDiff, List.length_singleton, List.tail_cons, Int.reduceLE, Int.reduceLT, decide_eq_true_eq]
  exact (key l [] rfl).diag
noncomputable def markG : Int → Nat → List PV
  | _, 0 => []
  | k, n + 1 => PV.agg [strP (mt k), intP (k + 1)] :: markG (k + 1 + 1) n
theorem markG_len : ∀ (n : Nat) (k : Int), (markG k n).length = n
  | 0, _ => rfl
  | n + 1, k => by rw [markG, List.length_cons, markG_len n]
theorem markG_l1 : ∀ (rest : List Gs) (D : List PV) (x : Int), D.length + rest.length ≤ 1000000000 → 0 ≤ x → x + 2 * rest.length < 4000000000000000000 →
    Ev2 (fun N n => laws_markGuessS.l1 N n x (D.length : Int) (D ++ rest.map gP)) [intP (x + 2 * rest.length), PV.list (D ++ markG x rest.length)] := by
  intro rest
  induction rest with
  | nil =>
    intro D x h1 h2 h3
    have hp : D ++ ([] : List Gs).map gP = D ++ [] := rfl
    refine Ev2.succ ?_
    simp only [laws_markGuessS.l1_eq, at_end hp, strs_len, strs_elem, ints_len, ints_elem, items_list, fld_agg, elem_list, toStr_sc, toInt_sc, toBool_sc, headD_one, nat_int, get_bt, decide_eq_true_eq, decide_eq_false_iff_not, decide_true, decide_false, if_true, if_false, ite_self, Bool.not_true, Bool.not_false, Bool.false_eq_true, Bool.true_eq_false, Bool.true_and, Bool.false_and, Bool.and_true, Bool.and_false, not_true, not_false_iff, Option.bind_some, nn, toList_inj, Bool.not_eq_true', Bool.not_eq_false', Int.le_refl, and_self, true_and, and_true, false_and, and_false, bne_self_eq_false, beq_self_eq_true, Int.reduceEq, Nat.reduceEqDiff, List.length_singleton, List.tail_cons, Int.reduceLE, Int.reduceLT, decide_eq_true_eq]
    refine Ev2.ext (Ev2.now _) ?_
    simp [markG]
  | cons g rest ih =>
    intro D x h1 h2 h3
    rw [List.length_cons] at h1 h3
    have hp : D ++ (g :: rest).map gP = D ++ gP g :: rest.map gP := rfl
    have w1 : IntKind.i64.wrap (x + 1) = x + 1 := wrap_id (by omega) (by omega)
    have w2 : IntKind.i64.wrap (x + 1 + 1) = x + 1 + 1 := wrap_id (by omega) (by omega)
    have e2 : ∀ t : ByteArray, (D ++ gP g :: rest.map gP).set D.length (PV.agg ((gP g).parts.set 0 (PV.sc (.string t)))) = D ++ PV.agg [strP t, intP (g.2 : Int)] :: rest.map gP := fun t => set_mid _ _ _ _
    have e3 : ∀ t : ByteArray, (D ++ PV.agg [strP t, intP (g.2 : Int)] :: rest.map gP).getD D.length default = PV.agg [strP t, intP (g.2 : Int)] := fun t => at_getD rfl
    have e4 : ∀ (t : ByteArray) (k : Int), (D ++ PV.agg [strP t, intP (g.2 : Int)] :: rest.map gP).set D.length (PV.agg ((PV.agg [strP t, intP (g.2 : Int)]).parts.set 1 (PV.sc (.int .i64 k)))) = (D ++ [PV.agg [strP t, intP k]]) ++ rest.map gP := fun t k => by
      rw [set_mid]; simp [PV.parts]
    have hlen : ∀ t : ByteArray, ((D.length : Int) < ((D ++ PV.agg [strP t, intP (g.2 : Int)] :: rest.map gP).length : Int)) = True := fun t => tru (by simp; omega)
    have hnx : IntKind.i64.wrap ((D.length : Int) + 1) = ((D.length + 1 : Nat) : Int) := nat_wrap (by omega) (by omega)
    refine Ev2.succ ?_
    rw [hp]
    have hlt := at_lt (xs := D ++ gP g :: rest.map gP) (pre := D) (c := gP g) (rest := rest.map gP) rfl
    have hgd := at_getD (xs := D ++ gP g :: rest.map gP) (pre := D) (c := gP g) (rest := rest.map gP) (d := (default : PV)) rfl
    simp only [laws_markGuessS.l1_eq, hlt, strs_len, strs_elem, ints_len, ints_elem, items_list, fld_agg, elem_list, toStr_sc, toInt_sc, toBool_sc, headD_one, nat_int, get_bt, decide_eq_true_eq, decide_eq_false_iff_not, decide_true, decide_false, if_true, if_false, ite_self, Bool.not_true, Bool.not_false, Bool.false_eq_true, Bool.true_eq_false, Bool.true_and, Bool.false_and, Bool.and_true, Bool.and_false, not_true, not_false_iff, Option.bind_some, nn, toList_inj, Bool.not_eq_true', Bool.not_eq_false', Int.le_refl, and_self, true_and, and_true, false_and, and_false, bne_self_eq_false, beq_self_eq_true, Int.reduceEq, Nat.reduceEqDiff, List.length_singleton, List.tail_cons, Int.reduceLE, Int.reduceLT, decide_eq_true_eq]
    refine Ev2.bind (markText_ev x (by omega)) ?_
    simp only [hgd, e2, e3, e4, hlen, w1, w2, hnx, nn, strs_len, strs_elem, ints_len, ints_elem, items_list, fld_agg, elem_list, toStr_sc, toInt_sc, toBool_sc, headD_one, nat_int, get_bt, decide_eq_true_eq, decide_eq_false_iff_not, decide_true, decide_false, if_true, if_false, ite_self, Bool.not_true, Bool.not_false, Bool.false_eq_true, Bool.true_eq_false, Bool.true_and, Bool.false_and, Bool.and_true, Bool.and_false, not_true, not_false_iff, Option.bind_some, nn, toList_inj, Bool.not_eq_true', Bool.not_eq_false', Int.le_refl, and_self, true_and, and_true, false_and, and_false, bne_self_eq_false, beq_self_eq_true, Int.reduceEq, Nat.reduceEqDiff, List.length_singleton, List.tail_cons, Int.reduceLE, Int.reduceLT, decide_eq_true_eq]
    have := ih (D ++ [PV.agg [strP (mt x), intP (x + 1)]]) (x + 1 + 1) (by simp; omega) (by omega) (by omega)
    have hl1 : (D ++ [PV.agg [strP (mt x), intP (x + 1)]]).length = D.length + 1 := by simp
    rw [hl1] at this
    refine Ev2.ext this ?_
    simp only [List.length_cons, markG, List.append_assoc, List.cons_append, List.nil_append]
    congr 2
    omega
theorem markGuessS_ev (l : List Gs) (x : Int) (hl : l.length ≤ 1000000000) (h0 : 0 ≤ x) (h1 : x ≤ 1000000) : Ev (fun N => laws_markGuessS.f N [gsP l, intP x]) [intP (x + 2 * l.length), PV.list (markG x l.length)] := by
  have hgs : gsP l = PV.list (l.map gP) := rfl
  simp only [laws_markGuessS.f_eq, strs_len, strs_elem, ints_len, ints_elem, items_list, fld_agg, elem_list, toStr_sc, toInt_sc, toBool_sc, headD_one, nat_int, get_bt, decide_eq_true_eq, decide_eq_false_iff_not, decide_true, decide_false, if_true, if_false, ite_self, Bool.not_true, Bool.not_false, Bool.false_eq_true, Bool.true_eq_false, Bool.true_and, Bool.false_and, Bool.and_true, Bool.and_false, not_true, not_false_iff, Option.bind_some, nn, toList_inj, Bool.not_eq_true', Bool.not_eq_false', Int.le_refl, and_self, true_and, and_true, false_and, and_false, bne_self_eq_false, beq_self_eq_true, Int.reduceEq, Nat.reduceEqDiff, List.length_singleton, List.tail_cons, Int.reduceLE, Int.reduceLT, decide_eq_true_eq]
  refine Ev2.diag (g := fun N n => laws_markGuessS.l0 N n x 0 (gsP l)) (Ev2.succ ?_)
  cases l with
  | nil =>
    have c0 : ((0 : Int) < (([] : List Gs).length : Int)) = False := fls (by simp)
    simp only [laws_markGuessS.l0_eq, gs_len, c0, strs_len, strs_elem, ints_len, ints_elem, items_list, fld_agg, elem_list, toStr_sc, toInt_sc, toBool_sc, headD_one, nat_int, get_bt, decide_eq_true_eq, decide_eq_false_iff_not, decide_true, decide_false, if_true, if_false, ite_self, Bool.not_true, Bool.not_false, Bool.false_eq_true, Bool.true_eq_false, Bool.true_and, Bool.false_and, Bool.and_true, Bool.and_false, not_true, not_false_iff, Option.bind_some, nn, toList_inj, Bool.not_eq_true', Bool.not_eq_false', Int.le_refl, and_self, true_and, and_true, false_and, and_false, bne_self_eq_false, beq_self_eq_true, Int.reduceEq, Nat.reduceEqDiff, List.length_singleton, List.tail_cons, Int.reduceLE, Int.reduceLT, decide_eq_true_eq]
    refine Ev2.ext (Ev2.now _) ?_
    simp [markG, gsP]
  | cons g rest =>
    rw [List.length_cons] at hl
    have w1 : IntKind.i64.wrap (x + 1) = x + 1 := wrap_id (by omega) (by omega)
    have w2 : IntKind.i64.wrap (x + 1 + 1) = x + 1 + 1 := wrap_id (by omega) (by omega)
    have wi : IntKind.i64.wrap ((0 : Int) + 1) = ((1 : Nat) : Int) := nat_wrap (by omega) (by omega)
    have c0 : ((0 : Int) < (((g :: rest).map gP).length : Int)) = True := tru (by simp <;> omega)
    have z0 : (0 : Int).toNat = 0 := rfl
    have e1 : ((g :: rest).map gP).getD 0 default = gP g := rfl
    have e2 : ∀ t : ByteArray, ((g :: rest).map gP).set 0 (PV.agg ((gP g).parts.set 0 (PV.sc (.string t)))) = PV.agg [strP t, intP (g.2 : Int)] :: rest.map gP := fun t => rfl
    have e3 : ∀ t : ByteArray, (PV.agg [strP t, intP (g.2 : Int)] :: rest.map gP).getD 0 default = PV.agg [strP t, intP (g.2 : Int)] := fun t => rfl
    have e4 : ∀ (t : ByteArray) (k : Int), (PV.agg [strP t, intP (g.2 : Int)] :: rest.map gP).set 0 (PV.agg ((PV.agg [strP t, intP (g.2 : Int)]).parts.set 1 (PV.sc (.int .i64 k)))) = [PV.agg [strP t, intP k]] ++ rest.map gP := fun t k => rfl
    have hlen : ∀ t : ByteArray, ((0 : Int) < ((PV.agg [strP t, intP (g.2 : Int)] :: rest.map gP).length : Int)) = True := fun t => tru (by simp <;> omega)
    rw [hgs]
    simp only [laws_markGuessS.l0_eq, c0, strs_len, strs_elem, ints_len, ints_elem, items_list, fld_agg, elem_list, toStr_sc, toInt_sc, toBool_sc, headD_one, nat_int, get_bt, decide_eq_true_eq, decide_eq_false_iff_not, decide_true, decide_false, if_true, if_false, ite_self, Bool.not_true, Bool.not_false, Bool.false_eq_true, Bool.true_eq_false, Bool.true_and, Bool.false_and, Bool.and_true, Bool.and_false, not_true, not_false_iff, Option.bind_some, nn, toList_inj, Bool.not_eq_true', Bool.not_eq_false', Int.le_refl, and_self, true_and, and_true, false_and, and_false, bne_self_eq_false, beq_self_eq_true, Int.reduceEq, Nat.reduceEqDiff, List.length_singleton, List.tail_cons, Int.reduceLE, Int.reduceLT, decide_eq_true_eq]
    refine Ev2.bind (markText_ev x (by omega)) ?_
    simp only [z0, e1, e2, e3, e4, hlen, w1, w2, wi, strs_len, strs_elem, ints_len, ints_elem, items_list, fld_agg, elem_list, toStr_sc, toInt_sc, toBool_sc, headD_one, nat_int, get_bt, decide_eq_true_eq, decide_eq_false_iff_not, decide_true, decide_false, if_true, if_false, ite_self, Bool.not_true, Bool.not_false, Bool.false_eq_true, Bool.true_eq_false, Bool.true_and, Bool.false_and, Bool.and_true, Bool.and_false, not_true, not_false_iff, Option.bind_some, nn, toList_inj, Bool.not_eq_true', Bool.not_eq_false', Int.le_refl, and_self, true_and, and_true, false_and, and_false, bne_self_eq_false, beq_self_eq_true, Int.reduceEq, Nat.reduceEqDiff, List.length_singleton, List.tail_cons, Int.reduceLE, Int.reduceLT, decide_eq_true_eq]
    have := markG_l1 rest [PV.agg [strP (mt x), intP (x + 1)]] (x + 1 + 1) (by simp; omega) (by omega) (by omega)
    refine Ev2.ext this ?_
    simp only [List.length_cons, markG, List.cons_append, List.nil_append]
    congr 2
    omega
theorem heldG_l0 : ∀ (n : Nat) (D : List PV) (x : Int), D.length + n ≤ 1000000000 → 0 ≤ x → x + 2 * n < 4000000000000000000 →
    Ev2 (fun N m => laws_heldGuessS.l0 N m (PV.list (D ++ markG x n)) x (D.length : Int)) [intP (x + 2 * n)] := by
  intro n
  induction n with
  | zero =>
    intro D x h1 h2 h3
    have hp : D ++ markG x 0 = D ++ [] := rfl
    refine Ev2.succ ?_
    simp only [laws_heldGuessS.l0_eq, at_end hp, strs_len, strs_elem, ints_len, ints_elem, items_list, fld_agg, elem_list, toStr_sc, toInt_sc, toBool_sc, headD_one, nat_int, get_bt, decide_eq_true_eq, decide_eq_false_iff_not, decide_true, decide_false, if_true, if_false, ite_self, Bool.not_true, Bool.not_false, Bool.false_eq_true, Bool.true_eq_false, Bool.true_and, Bool.false_and, Bool.and_true, Bool.and_false, not_true, not_false_iff, Option.bind_some, nn, toList_inj, Bool.not_eq_true', Bool.not_eq_false', Int.le_refl, and_self, true_and, and_true, false_and, and_false, bne_self_eq_false, beq_self_eq_true, Int.reduceEq, Nat.reduceEqDiff, List.length_singleton, List.tail_cons, Int.reduceLE, Int.reduceLT, decide_eq_true_eq]
    refine Ev2.ext (Ev2.now _) ?_
    simp
  | succ n ih =>
    intro D x h1 h2 h3
    have w1 : IntKind.i64.wrap (x + 1) = x + 1 := wrap_id (by omega) (by omega)
    have w2 : IntKind.i64.wrap (x + 1 + 1) = x + 1 + 1 := wrap_id (by omega) (by omega)
    have hnx : IntKind.i64.wrap ((D.length : Int) + 1) = ((D.length + 1 : Nat) : Int) := nat_wrap (by omega) (by omega)
    have hp : D ++ markG x (n + 1) = D ++ PV.agg [strP (mt x), intP (x + 1)] :: markG (x + 1 + 1) n := rfl
    have f0 : (PV.agg [strP (mt x), intP (x + 1)]).fld 0 = strP (mt x) := rfl
    have f1 : (PV.agg [strP (mt x), intP (x + 1)]).fld 1 = intP (x + 1) := rfl
    have hgd := at_getD (xs := D ++ markG x (n + 1)) (d := (default : PV)) hp
    refine Ev2.succ ?_
    simp only [laws_heldGuessS.l0_eq, at_lt hp, elem_list, nat_int, hgd, f0, f1, w1, w2, hnx, strs_len, strs_elem, ints_len, ints_elem, items_list, fld_agg, elem_list, toStr_sc, toInt_sc, toBool_sc, headD_one, nat_int, get_bt, decide_eq_true_eq, decide_eq_false_iff_not, decide_true, decide_false, if_true, if_false, ite_self, Bool.not_true, Bool.not_false, Bool.false_eq_true, Bool.true_eq_false, Bool.true_and, Bool.false_and, Bool.and_true, Bool.and_false, not_true, not_false_iff, Option.bind_some, nn, toList_inj, Bool.not_eq_true', Bool.not_eq_false', Int.le_refl, and_self, true_and, and_true, false_and, and_false, bne_self_eq_false, beq_self_eq_true, Int.reduceEq, Nat.reduceEqDiff, List.length_singleton, List.tail_cons, Int.reduceLE, Int.reduceLT, decide_eq_true_eq]
    refine Ev2.bind (markText_ev x (by omega)) ?_
    simp only [strs_len, strs_elem, ints_len, ints_elem, items_list, fld_agg, elem_list, toStr_sc, toInt_sc, toBool_sc, headD_one, nat_int, get_bt, decide_eq_true_eq, decide_eq_false_iff_not, decide_true, decide_false, if_true, if_false, ite_self, Bool.not_true, Bool.not_false, Bool.false_eq_true, Bool.true_eq_false, Bool.true_and, Bool.false_and, Bool.and_true, Bool.and_false, not_true, not_false_iff, Option.bind_some, nn, toList_inj, Bool.not_eq_true', Bool.not_eq_false', Int.le_refl, and_self, true_and, and_true, false_and, and_false, bne_self_eq_false, beq_self_eq_true, Int.reduceEq, Nat.reduceEqDiff, List.length_singleton, List.tail_cons, Int.reduceLE, Int.reduceLT, decide_eq_true_eq]
    have := ih (D ++ [PV.agg [strP (mt x), intP (x + 1)]]) (x + 1 + 1) (by simp; omega) (by omega) (by omega)
    have hl1 : (D ++ [PV.agg [strP (mt x), intP (x + 1)]]).length = D.length + 1 := by simp
    have hap : (D ++ [PV.agg [strP (mt x), intP (x + 1)]]) ++ markG (x + 1 + 1) n = D ++ markG x (n + 1) := by rw [hp]; simp
    rw [hl1, hap] at this
    refine Ev2.ext this ?_
    congr 2
    omega
theorem heldGuessS_ev (n : Nat) (x : Int) (hl : n ≤ 1000000000) (h0 : 0 ≤ x) (h1 : x ≤ 1000000) : Ev (fun N => laws_heldGuessS.f N [PV.list (markG x n), intP x]) [intP (x + 2 * n)] := by
  simp only [laws_heldGuessS.f_eq, strs_len, strs_elem, ints_len, ints_elem, items_list, fld_agg, elem_list, toStr_sc, toInt_sc, toBool_sc, headD_one, nat_int, get_bt, decide_eq_true_eq, decide_eq_false_iff_not, decide_true, decide_false, if_true, if_false, ite_self, Bool.not_true, Bool.not_false, Bool.false_eq_true, Bool.true_eq_false, Bool.true_and, Bool.false_and, Bool.and_true, Bool.and_false, not_true, not_false_iff, Option.bind_some, nn, toList_inj, Bool.not_eq_true', Bool.not_eq_false', Int.le_refl, and_self, true_and, and_true, false_and, and_false, bne_self_eq_false, beq_self_eq_true, Int.reduceEq, Nat.reduceEqDiff, List.length_singleton, List.tail_cons, Int.reduceLE, Int.reduceLT, decide_eq_true_eq]
  exact (heldG_l0 n [] x (by simp; omega) h0 (by omega)).diag
/-- The law's own function answers true. -/
theorem law (ps : List PV) (h : PvOkL (PvOk Tryz.prog 8) [42, 27, 9] ps) : ∃ N, laws_FnExactUserCheck.f N ps = some [boolP true] := by
  obtain ⟨p, q, u, rfl, h1, h2, h3⟩ := pvOkL3 h
  obtain ⟨af, es, rfl, b1, b2, b3, b4⟩ := book_arg (P := Tryz.prog) (t := 42) (ta := 39) (te := 40) (ea := 118) (ee := 120) (b := 4) (x := 9) (by kernel_rfl) (by kernel_rfl) (by kernel_rfl) (by kernel_rfl) (by kernel_rfl) (by kernel_rfl) (by kernel_rfl) h1
  obtain ⟨own, rfl, o1, o2⟩ := pvOk_strs (P := Tryz.prog) (t := 27) (e := 9) (by kernel_rfl) (by kernel_rfl) h2
  obtain ⟨s, rfl, _⟩ := pvOk_str (P := Tryz.prog) (t := 9) (by kernel_rfl) h3
  have hm : reachBytes = 140737488351232 := rfl
  rw [hm] at b1 b2 o1
  refine Ev.some ?_
  simp only [laws_FnExactUserCheck.f_eq, book_f0, book_f1, book_agg, strs_len, strs_elem, ints_len, ints_elem, items_list, fld_agg, elem_list, toStr_sc, toInt_sc, toBool_sc, headD_one, nat_int, get_bt, decide_eq_true_eq, decide_eq_false_iff_not, decide_true, decide_false, if_true, if_false, ite_self, Bool.not_true, Bool.not_false, Bool.false_eq_true, Bool.true_eq_false, Bool.true_and, Bool.false_and, Bool.and_true, Bool.and_false, not_true, not_false_iff, Option.bind_some, nn, toList_inj, Bool.not_eq_true', Bool.not_eq_false', Int.le_refl, and_self, true_and, and_true, false_and, and_false, bne_self_eq_false, beq_self_eq_true, Int.reduceEq, Nat.reduceEqDiff, List.length_singleton, List.tail_cons, Int.reduceLE, Int.reduceLT, decide_eq_true_eq]
  by_cases c1 : 1048576 < (s.size : Int)
  · simp only [c1, strs_len, strs_elem, ints_len, ints_elem, items_list, fld_agg, elem_list, toStr_sc, toInt_sc, toBool_sc, headD_one, nat_int, get_bt, decide_eq_true_eq, decide_eq_false_iff_not, decide_true, decide_false, if_true, if_false, ite_self, Bool.not_true, Bool.not_false, Bool.false_eq_true, Bool.true_eq_false, Bool.true_and, Bool.false_and, Bool.and_true, Bool.and_false, not_true, not_false_iff, Option.bind_some, nn, toList_inj, Bool.not_eq_true', Bool.not_eq_false', Int.le_refl, and_self, true_and, and_true, false_and, and_false, bne_self_eq_false, beq_self_eq_true, Int.reduceEq, Nat.reduceEqDiff, List.length_singleton, List.tail_cons, Int.reduceLE, Int.reduceLT, decide_eq_true_eq]; exact Ev.now _
  simp only [c1, strs_len, strs_elem, ints_len, ints_elem, items_list, fld_agg, elem_list, toStr_sc, toInt_sc, toBool_sc, headD_one, nat_int, get_bt, decide_eq_true_eq, decide_eq_false_iff_not, decide_true, decide_false, if_true, if_false, ite_self, Bool.not_true, Bool.not_false, Bool.false_eq_true, Bool.true_eq_false, Bool.true_and, Bool.false_and, Bool.and_true, Bool.and_false, not_true, not_false_iff, Option.bind_some, nn, toList_inj, Bool.not_eq_true', Bool.not_eq_false', Int.le_refl, and_self, true_and, and_true, false_and, and_false, bne_self_eq_false, beq_self_eq_true, Int.reduceEq, Nat.reduceEqDiff, List.length_singleton, List.tail_cons, Int.reduceLE, Int.reduceLT, decide_eq_true_eq]
  obtain ⟨r, g1, g2, g3, g4⟩ := szBook_ev af es (by omega) (by omega) (fun a ha => by have := b3 a ha; rw [hm] at this; omega) (fun e he => by have := b4 e he; rw [hm] at this; omega) 1048576 (by omega) (by omega)
  refine Ev.bind g1 ?_
  simp only [strs_len, strs_elem, ints_len, ints_elem, items_list, fld_agg, elem_list, toStr_sc, toInt_sc, toBool_sc, headD_one, nat_int, get_bt, decide_eq_true_eq, decide_eq_false_iff_not, decide_true, decide_false, if_true, if_false, ite_self, Bool.not_true, Bool.not_false, Bool.false_eq_true, Bool.true_eq_false, Bool.true_and, Bool.false_and, Bool.and_true, Bool.and_false, not_true, not_false_iff, Option.bind_some, nn, toList_inj, Bool.not_eq_true', Bool.not_eq_false', Int.le_refl, and_self, true_and, and_true, false_and, and_false, bne_self_eq_false, beq_self_eq_true, Int.reduceEq, Nat.reduceEqDiff, List.length_singleton, List.tail_cons, Int.reduceLE, Int.reduceLT, decide_eq_true_eq]
  by_cases hn : r < 0
  · simp only [hn, strs_len, strs_elem, ints_len, ints_elem, items_list, fld_agg, elem_list, toStr_sc, toInt_sc, toBool_sc, headD_one, nat_int, get_bt, decide_eq_true_eq, decide_eq_false_iff_not, decide_true, decide_false, if_true, if_false, ite_self, Bool.not_true, Bool.not_false, Bool.false_eq_true, Bool.true_eq_false, Bool.true_and, Bool.false_and, Bool.and_true, Bool.and_false, not_true, not_false_iff, Option.bind_some, nn, toList_inj, Bool.not_eq_true', Bool.not_eq_false', Int.le_refl, and_self, true_and, and_true, false_and, and_false, bne_self_eq_false, beq_self_eq_true, Int.reduceEq, Nat.reduceEqDiff, List.length_singleton, List.tail_cons, Int.reduceLE, Int.reduceLT, decide_eq_true_eq]; exact Ev.now _
  obtain ⟨⟨k1, k2⟩, hS⟩ := g4 (by omega)
  obtain ⟨r2, s1, s2, s3⟩ := szStringS_ev own (by omega) (fun x hx => by have := o2 x hx; rw [hm] at this; omega) r (by omega) (by omega)
  simp only [hn, strs_len, strs_elem, ints_len, ints_elem, items_list, fld_agg, elem_list, toStr_sc, toInt_sc, toBool_sc, headD_one, nat_int, get_bt, decide_eq_true_eq, decide_eq_false_iff_not, decide_true, decide_false, if_true, if_false, ite_self, Bool.not_true, Bool.not_false, Bool.false_eq_true, Bool.true_eq_false, Bool.true_and, Bool.false_and, Bool.and_true, Bool.and_false, not_true, not_false_iff, Option.bind_some, nn, toList_inj, Bool.not_eq_true', Bool.not_eq_false', Int.le_refl, and_self, true_and, and_true, false_and, and_false, bne_self_eq_false, beq_self_eq_true, Int.reduceEq, Nat.reduceEqDiff, List.length_singleton, List.tail_cons, Int.reduceLE, Int.reduceLT, decide_eq_true_eq]
  refine Ev.bind s1 ?_
  simp only [strs_len, strs_elem, ints_len, ints_elem, items_list, fld_agg, elem_list, toStr_sc, toInt_sc, toBool_sc, headD_one, nat_int, get_bt, decide_eq_true_eq, decide_eq_false_iff_not, decide_true, decide_false, if_true, if_false, ite_self, Bool.not_true, Bool.not_false, Bool.false_eq_true, Bool.true_eq_false, Bool.true_and, Bool.false_and, Bool.and_true, Bool.and_false, not_true, not_false_iff, Option.bind_some, nn, toList_inj, Bool.not_eq_true', Bool.not_eq_false', Int.le_refl, and_self, true_and, and_true, false_and, and_false, bne_self_eq_false, beq_self_eq_true, Int.reduceEq, Nat.reduceEqDiff, List.length_singleton, List.tail_cons, Int.reduceLE, Int.reduceLT, decide_eq_true_eq]
  by_cases hn2 : r2 < 0
  · simp only [hn2, strs_len, strs_elem, ints_len, ints_elem, items_list, fld_agg, elem_list, toStr_sc, toInt_sc, toBool_sc, headD_one, nat_int, get_bt, decide_eq_true_eq, decide_eq_false_iff_not, decide_true, decide_false, if_true, if_false, ite_self, Bool.not_true, Bool.not_false, Bool.false_eq_true, Bool.true_eq_false, Bool.true_and, Bool.false_and, Bool.and_true, Bool.and_false, not_true, not_false_iff, Option.bind_some, nn, toList_inj, Bool.not_eq_true', Bool.not_eq_false', Int.le_refl, and_self, true_and, and_true, false_and, and_false, bne_self_eq_false, beq_self_eq_true, Int.reduceEq, Nat.reduceEqDiff, List.length_singleton, List.tail_cons, Int.reduceLE, Int.reduceLT, decide_eq_true_eq]; exact Ev.now _
  have hsz := s3 (by omega)
  have hol := szStrs_len own
  have hos : ∀ x ∈ own, x.size ≤ 1000000000 := fun x hx => by have := szStrs_mem own x hx; omega
  have hto := toBook_ev af es (by omega) (by omega)
  have hts := toStringS_ev own (by omega)
  have hsp := specUser_ev (own := own) (by omega) hos hS s
  have him := implUser_ev (own := own) (by omega) hos hS s
  have hll := userR_len own af es s
  obtain ⟨L, hL⟩ : ∃ L, L = userR own af es s := ⟨_, rfl⟩
  rw [← hL] at hsp him hll
  clear hL
  obtain ⟨k, A, B, m1, m2, m3⟩ := markBook_ev af es (by omega) (by omega) 1 (by omega) (by omega)
  have hms := markStringS_ev own k (by omega) (by omega) (by omega)
  have c5 : ((k + (own.length : Int)) < 0) = False := fls (by omega)
  have e2 : ((1 + 2 * (L.length : Int)) < 0) = False := fls (by omega)
  simp only [hn2, strs_len, strs_elem, ints_len, ints_elem, items_list, fld_agg, elem_list, toStr_sc, toInt_sc, toBool_sc, headD_one, nat_int, get_bt, decide_eq_true_eq, decide_eq_false_iff_not, decide_true, decide_false, if_true, if_false, ite_self, Bool.not_true, Bool.not_false, Bool.false_eq_true, Bool.true_eq_false, Bool.true_and, Bool.false_and, Bool.and_true, Bool.and_false, not_true, not_false_iff, Option.bind_some, nn, toList_inj, Bool.not_eq_true', Bool.not_eq_false', Int.le_refl, and_self, true_and, and_true, false_and, and_false, bne_self_eq_false, beq_self_eq_true, Int.reduceEq, Nat.reduceEqDiff, List.length_singleton, List.tail_cons, Int.reduceLE, Int.reduceLT, decide_eq_true_eq]
  refine Ev.bind hto ?_
  refine Ev.bind hts ?_
  simp only [book_f0, book_f1, book_agg, strs_len, strs_elem, ints_len, ints_elem, items_list, fld_agg, elem_list, toStr_sc, toInt_sc, toBool_sc, headD_one, nat_int, get_bt, decide_eq_true_eq, decide_eq_false_iff_not, decide_true, decide_false, if_true, if_false, ite_self, Bool.not_true, Bool.not_false, Bool.false_eq_true, Bool.true_eq_false, Bool.true_and, Bool.false_and, Bool.and_true, Bool.and_false, not_true, not_false_iff, Option.bind_some, nn, toList_inj, Bool.not_eq_true', Bool.not_eq_false', Int.le_refl, and_self, true_and, and_true, false_and, and_false, bne_self_eq_false, beq_self_eq_true, Int.reduceEq, Nat.reduceEqDiff, List.length_singleton, List.tail_cons, Int.reduceLE, Int.reduceLT, decide_eq_true_eq]
  refine Ev.bind hsp ?_
  refine Ev.bind hto ?_
  refine Ev.bind hts ?_
  simp only [book_f0, book_f1, book_agg, strs_len, strs_elem, ints_len, ints_elem, items_list, fld_agg, elem_list, toStr_sc, toInt_sc, toBool_sc, headD_one, nat_int, get_bt, decide_eq_true_eq, decide_eq_false_iff_not, decide_true, decide_false, if_true, if_false, ite_self, Bool.not_true, Bool.not_false, Bool.false_eq_true, Bool.true_eq_false, Bool.true_and, Bool.false_and, Bool.and_true, Bool.and_false, not_true, not_false_iff, Option.bind_some, nn, toList_inj, Bool.not_eq_true', Bool.not_eq_false', Int.le_refl, and_self, true_and, and_true, false_and, and_false, bne_self_eq_false, beq_self_eq_true, Int.reduceEq, Nat.reduceEqDiff, List.length_singleton, List.tail_cons, Int.reduceLE, Int.reduceLT, decide_eq_true_eq]
  refine Ev.bind him ?_
  simp only [strs_len, strs_elem, ints_len, ints_elem, items_list, fld_agg, elem_list, toStr_sc, toInt_sc, toBool_sc, headD_one, nat_int, get_bt, decide_eq_true_eq, decide_eq_false_iff_not, decide_true, decide_false, if_true, if_false, ite_self, Bool.not_true, Bool.not_false, Bool.false_eq_true, Bool.true_eq_false, Bool.true_and, Bool.false_and, Bool.and_true, Bool.and_false, not_true, not_false_iff, Option.bind_some, nn, toList_inj, Bool.not_eq_true', Bool.not_eq_false', Int.le_refl, and_self, true_and, and_true, false_and, and_false, bne_self_eq_false, beq_self_eq_true, Int.reduceEq, Nat.reduceEqDiff, List.length_singleton, List.tail_cons, Int.reduceLE, Int.reduceLT, decide_eq_true_eq]
  refine Ev.bind (eqGuessS_ev L (by omega)) ?_
  simp only [strs_len, strs_elem, ints_len, ints_elem, items_list, fld_agg, elem_list, toStr_sc, toInt_sc, toBool_sc, headD_one, nat_int, get_bt, decide_eq_true_eq, decide_eq_false_iff_not, decide_true, decide_false, if_true, if_false, ite_self, Bool.not_true, Bool.not_false, Bool.false_eq_true, Bool.true_eq_false, Bool.true_and, Bool.false_and, Bool.and_true, Bool.and_false, not_true, not_false_iff, Option.bind_some, nn, toList_inj, Bool.not_eq_true', Bool.not_eq_false', Int.le_refl, and_self, true_and, and_true, false_and, and_false, bne_self_eq_false, beq_self_eq_true, Int.reduceEq, Nat.reduceEqDiff, List.length_singleton, List.tail_cons, Int.reduceLE, Int.reduceLT, decide_eq_true_eq]
  refine Ev.bind hto ?_
  simp only [book_f0, book_f1, book_agg, strs_len, strs_elem, ints_len, ints_elem, items_list, fld_agg, elem_list, toStr_sc, toInt_sc, toBool_sc, headD_one, nat_int, get_bt, decide_eq_true_eq, decide_eq_false_iff_not, decide_true, decide_false, if_true, if_false, ite_self, Bool.not_true, Bool.not_false, Bool.false_eq_true, Bool.true_eq_false, Bool.true_and, Bool.false_and, Bool.and_true, Bool.and_false, not_true, not_false_iff, Option.bind_some, nn, toList_inj, Bool.not_eq_true', Bool.not_eq_false', Int.le_refl, and_self, true_and, and_true, false_and, and_false, bne_self_eq_false, beq_self_eq_true, Int.reduceEq, Nat.reduceEqDiff, List.length_singleton, List.tail_cons, Int.reduceLE, Int.reduceLT, decide_eq_true_eq]
  refine Ev.bind (eqBook_ev af es (by omega) (by omega)) ?_
  simp only [strs_len, strs_elem, ints_len, ints_elem, items_list, fld_agg, elem_list, toStr_sc, toInt_sc, toBool_sc, headD_one, nat_int, get_bt, decide_eq_true_eq, decide_eq_false_iff_not, decide_true, decide_false, if_true, if_false, ite_self, Bool.not_true, Bool.not_false, Bool.false_eq_true, Bool.true_eq_false, Bool.true_and, Bool.false_and, Bool.and_true, Bool.and_false, not_true, not_false_iff, Option.bind_some, nn, toList_inj, Bool.not_eq_true', Bool.not_eq_false', Int.le_refl, and_self, true_and, and_true, false_and, and_false, bne_self_eq_false, beq_self_eq_true, Int.reduceEq, Nat.reduceEqDiff, List.length_singleton, List.tail_cons, Int.reduceLE, Int.reduceLT, decide_eq_true_eq]
  refine Ev.bind hts ?_
  simp only [strs_len, strs_elem, ints_len, ints_elem, items_list, fld_agg, elem_list, toStr_sc, toInt_sc, toBool_sc, headD_one, nat_int, get_bt, decide_eq_true_eq, decide_eq_false_iff_not, decide_true, decide_false, if_true, if_false, ite_self, Bool.not_true, Bool.not_false, Bool.false_eq_true, Bool.true_eq_false, Bool.true_and, Bool.false_and, Bool.and_true, Bool.and_false, not_true, not_false_iff, Option.bind_some, nn, toList_inj, Bool.not_eq_true', Bool.not_eq_false', Int.le_refl, and_self, true_and, and_true, false_and, and_false, bne_self_eq_false, beq_self_eq_true, Int.reduceEq, Nat.reduceEqDiff, List.length_singleton, List.tail_cons, Int.reduceLE, Int.reduceLT, decide_eq_true_eq]
  refine Ev.bind (eqStringS_ev own (by omega)) ?_
  simp only [strs_len, strs_elem, ints_len, ints_elem, items_list, fld_agg, elem_list, toStr_sc, toInt_sc, toBool_sc, headD_one, nat_int, get_bt, decide_eq_true_eq, decide_eq_false_iff_not, decide_true, decide_false, if_true, if_false, ite_self, Bool.not_true, Bool.not_false, Bool.false_eq_true, Bool.true_eq_false, Bool.true_and, Bool.false_and, Bool.and_true, Bool.and_false, not_true, not_false_iff, Option.bind_some, nn, toList_inj, Bool.not_eq_true', Bool.not_eq_false', Int.le_refl, and_self, true_and, and_true, false_and, and_false, bne_self_eq_false, beq_self_eq_true, Int.reduceEq, Nat.reduceEqDiff, List.length_singleton, List.tail_cons, Int.reduceLE, Int.reduceLT, decide_eq_true_eq]
  refine Ev.bind m3 ?_
  simp only [strs_len, strs_elem, ints_len, ints_elem, items_list, fld_agg, elem_list, toStr_sc, toInt_sc, toBool_sc, headD_one, nat_int, get_bt, decide_eq_true_eq, decide_eq_false_iff_not, decide_true, decide_false, if_true, if_false, ite_self, Bool.not_true, Bool.not_false, Bool.false_eq_true, Bool.true_eq_false, Bool.true_and, Bool.false_and, Bool.and_true, Bool.and_false, not_true, not_false_iff, Option.bind_some, nn, toList_inj, Bool.not_eq_true', Bool.not_eq_false', Int.le_refl, and_self, true_and, and_true, false_and, and_false, bne_self_eq_false, beq_self_eq_true, Int.reduceEq, Nat.reduceEqDiff, List.length_singleton, List.tail_cons, Int.reduceLE, Int.reduceLT, decide_eq_true_eq]
  refine Ev.bind hms ?_
  simp only [c5, strs_len, strs_elem, ints_len, ints_elem, items_list, fld_agg, elem_list, toStr_sc, toInt_sc, toBool_sc, headD_one, nat_int, get_bt, decide_eq_true_eq, decide_eq_false_iff_not, decide_true, decide_false, if_true, if_false, ite_self, Bool.not_true, Bool.not_false, Bool.false_eq_true, Bool.true_eq_false, Bool.true_and, Bool.false_and, Bool.and_true, Bool.and_false, not_true, not_false_iff, Option.bind_some, nn, toList_inj, Bool.not_eq_true', Bool.not_eq_false', Int.le_refl, and_self, true_and, and_true, false_and, and_false, bne_self_eq_false, beq_self_eq_true, Int.reduceEq, Nat.reduceEqDiff, List.length_singleton, List.tail_cons, Int.reduceLE, Int.reduceLT, decide_eq_true_eq]
  refine Ev.bind (eqGuessS_ev L (by omega)) ?_
  simp only [strs_len, strs_elem, ints_len, ints_elem, items_list, fld_agg, elem_list, toStr_sc, toInt_sc, toBool_sc, headD_one, nat_int, get_bt, decide_eq_true_eq, decide_eq_false_iff_not, decide_true, decide_false, if_true, if_false, ite_self, Bool.not_true, Bool.not_false, Bool.false_eq_true, Bool.true_eq_false, Bool.true_and, Bool.false_and, Bool.and_true, Bool.and_false, not_true, not_false_iff, Option.bind_some, nn, toList_inj, Bool.not_eq_true', Bool.not_eq_false', Int.le_refl, and_self, true_and, and_true, false_and, and_false, bne_self_eq_false, beq_self_eq_true, Int.reduceEq, Nat.reduceEqDiff, List.length_singleton, List.tail_cons, Int.reduceLE, Int.reduceLT, decide_eq_true_eq]
  refine Ev.bind (markGuessS_ev L 1 (by omega) (by omega) (by omega)) ?_
  simp only [strs_len, strs_elem, ints_len, ints_elem, items_list, fld_agg, elem_list, toStr_sc, toInt_sc, toBool_sc, headD_one, nat_int, get_bt, decide_eq_true_eq, decide_eq_false_iff_not, decide_true, decide_false, if_true, if_false, ite_self, Bool.not_true, Bool.not_false, Bool.false_eq_true, Bool.true_eq_false, Bool.true_and, Bool.false_and, Bool.and_true, Bool.and_false, not_true, not_false_iff, Option.bind_some, nn, toList_inj, Bool.not_eq_true', Bool.not_eq_false', Int.le_refl, and_self, true_and, and_true, false_and, and_false, bne_self_eq_false, beq_self_eq_true, Int.reduceEq, Nat.reduceEqDiff, List.length_singleton, List.tail_cons, Int.reduceLE, Int.reduceLT, decide_eq_true_eq]
  refine Ev.bind (heldGuessS_ev L.length 1 (by omega) (by omega) (by omega)) ?_
  simp only [e2, strs_len, strs_elem, ints_len, ints_elem, items_list, fld_agg, elem_list, toStr_sc, toInt_sc, toBool_sc, headD_one, nat_int, get_bt, decide_eq_true_eq, decide_eq_false_iff_not, decide_true, decide_false, if_true, if_false, ite_self, Bool.not_true, Bool.not_false, Bool.false_eq_true, Bool.true_eq_false, Bool.true_and, Bool.false_and, Bool.and_true, Bool.and_false, not_true, not_false_iff, Option.bind_some, nn, toList_inj, Bool.not_eq_true', Bool.not_eq_false', Int.le_refl, and_self, true_and, and_true, false_and, and_false, bne_self_eq_false, beq_self_eq_true, Int.reduceEq, Nat.reduceEqDiff, List.length_singleton, List.tail_cons, Int.reduceLE, Int.reduceLT, decide_eq_true_eq]
  refine Ev.bind hto ?_
  refine Ev.bind hts ?_
  simp only [book_f0, book_f1, book_agg, strs_len, strs_elem, ints_len, ints_elem, items_list, fld_agg, elem_list, toStr_sc, toInt_sc, toBool_sc, headD_one, nat_int, get_bt, decide_eq_true_eq, decide_eq_false_iff_not, decide_true, decide_false, if_true, if_false, ite_self, Bool.not_true, Bool.not_false, Bool.false_eq_true, Bool.true_eq_false, Bool.true_and, Bool.false_and, Bool.and_true, Bool.and_false, not_true, not_false_iff, Option.bind_some, nn, toList_inj, Bool.not_eq_true', Bool.not_eq_false', Int.le_refl, and_self, true_and, and_true, false_and, and_false, bne_self_eq_false, beq_self_eq_true, Int.reduceEq, Nat.reduceEqDiff, List.length_singleton, List.tail_cons, Int.reduceLE, Int.reduceLT, decide_eq_true_eq]
  refine Ev.bind him ?_
  simp only [strs_len, strs_elem, ints_len, ints_elem, items_list, fld_agg, elem_list, toStr_sc, toInt_sc, toBool_sc, headD_one, nat_int, get_bt, decide_eq_true_eq, decide_eq_false_iff_not, decide_true, decide_false, if_true, if_false, ite_self, Bool.not_true, Bool.not_false, Bool.false_eq_true, Bool.true_eq_false, Bool.true_and, Bool.false_and, Bool.and_true, Bool.and_false, not_true, not_false_iff, Option.bind_some, nn, toList_inj, Bool.not_eq_true', Bool.not_eq_false', Int.le_refl, and_self, true_and, and_true, false_and, and_false, bne_self_eq_false, beq_self_eq_true, Int.reduceEq, Nat.reduceEqDiff, List.length_singleton, List.tail_cons, Int.reduceLE, Int.reduceLT, decide_eq_true_eq]
  refine Ev.bind (eqGuessS_ev L (by omega)) ?_
  simp only [strs_len, strs_elem, ints_len, ints_elem, items_list, fld_agg, elem_list, toStr_sc, toInt_sc, toBool_sc, headD_one, nat_int, get_bt, decide_eq_true_eq, decide_eq_false_iff_not, decide_true, decide_false, if_true, if_false, ite_self, Bool.not_true, Bool.not_false, Bool.false_eq_true, Bool.true_eq_false, Bool.true_and, Bool.false_and, Bool.and_true, Bool.and_false, not_true, not_false_iff, Option.bind_some, nn, toList_inj, Bool.not_eq_true', Bool.not_eq_false', Int.le_refl, and_self, true_and, and_true, false_and, and_false, bne_self_eq_false, beq_self_eq_true, Int.reduceEq, Nat.reduceEqDiff, List.length_singleton, List.tail_cons, Int.reduceLE, Int.reduceLT, decide_eq_true_eq]
  refine Ev.bind (heldGuessS_ev L.length 1 (by omega) (by omega) (by omega)) ?_
  simp only [e2, strs_len, strs_elem, ints_len, ints_elem, items_list, fld_agg, elem_list, toStr_sc, toInt_sc, toBool_sc, headD_one, nat_int, get_bt, decide_eq_true_eq, decide_eq_false_iff_not, decide_true, decide_false, if_true, if_false, ite_self, Bool.not_true, Bool.not_false, Bool.false_eq_true, Bool.true_eq_false, Bool.true_and, Bool.false_and, Bool.and_true, Bool.and_false, not_true, not_false_iff, Option.bind_some, nn, toList_inj, Bool.not_eq_true', Bool.not_eq_false', Int.le_refl, and_self, true_and, and_true, false_and, and_false, bne_self_eq_false, beq_self_eq_true, Int.reduceEq, Nat.reduceEqDiff, List.length_singleton, List.tail_cons, Int.reduceLE, Int.reduceLT, decide_eq_true_eq]
  exact Ev.now _
end Go.Proofs.YtoiigoflkhmjnaaGreatDoor.FnExactUserCheck
