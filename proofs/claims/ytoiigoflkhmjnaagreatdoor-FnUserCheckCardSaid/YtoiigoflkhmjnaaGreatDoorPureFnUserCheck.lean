import Derived.Test.YtoiigoflkhmjnaaGreatDoorFnFnUserChecky2
set_option linter.unusedVariables false
set_option linter.unusedSimpArgs false
set_option maxRecDepth 10000
namespace Go.Proofs.YtoiigoflkhmjnaaGreatDoor.FnUserCheck
open Go Go.Proofs.YtoiigoflkhmjnaaGreatDoorAm
theorem mdGuesses_ev (l : List Gs) (hl : l.length ≤ 1000000000) : Ev (fun N => laws_mdGuesses.f N [gsP l, gsP l]) [boolP true] := by
  have key : ∀ (rest pre : List Gs), l = pre ++ rest → Ev2 (fun N n => laws_mdGuesses.l0 N n (gsP l) (gsP l) (pre.length : Int)) [boolP true] := by
    intro rest
    induction rest with
    | nil =>
      intro pre hp
      refine Ev2.succ ?_
      simp only [laws_mdGuesses.l0_eq, gs_len, at_end hp, strs_len, strs_elem, ints_len, ints_elem, items_list, fld_agg, elem_list, toStr_sc, toInt_sc, toBool_sc, headD_one, nat_int, get_bt, decide_eq_true_eq, decide_eq_false_iff_not, decide_true, decide_false, if_true, if_false, ite_self, Bool.not_true, Bool.not_false, Bool.false_eq_true, Bool.true_eq_false, Bool.true_and, Bool.false_and, Bool.and_true, Bool.and_false, not_true, not_false_iff, Option.bind_some, nn, toList_inj, Bool.not_eq_true', Bool.not_eq_false', Int.le_refl, and_self, true_and, and_true, false_and, and_false, bne_self_eq_false, beq_self_eq_true, Int.reduceEq, Nat.reduceEqDiff, List.length_singleton, List.tail_cons, Int.reduceLE, Int.reduceLT, decide_eq_true_eq]
      exact Ev2.now _
    | cons g rest ih =>
      intro pre hp
      refine Ev2.succ ?_
      simp only [laws_mdGuesses.l0_eq, gs_len, gs_elem hp, at_lt hp, g_f0, g_f1, g_agg, at_next hp (by omega), strs_len, strs_elem, ints_len, ints_elem, items_list, fld_agg, elem_list, toStr_sc, toInt_sc, toBool_sc, headD_one, nat_int, get_bt, decide_eq_true_eq, decide_eq_false_iff_not, decide_true, decide_false, if_true, if_false, ite_self, Bool.not_true, Bool.not_false, Bool.false_eq_true, Bool.true_eq_false, Bool.true_and, Bool.false_and, Bool.and_true, Bool.and_false, not_true, not_false_iff, Option.bind_some, nn, toList_inj, Bool.not_eq_true', Bool.not_eq_false', Int.le_refl, and_self, true_and, and_true, false_and, and_false, bne_self_eq_false, beq_self_eq_true, Int.reduceEq, Nat.reduceEqDiff, List.length_singleton, List.tail_cons, Int.reduceLE, Int.reduceLT, decide_eq_true_eq]
      exact ih _ (at_step hp)
  simp only [laws_mdGuesses.f_eq, gs_len, strs_len, strs_elem, ints_len, ints_elem, items_list, fld_agg, elem_list, toStr_sc, toInt_sc, toBool_sc, headD_one, nat_int, get_bt, decide_eq_true_eq, decide_eq_false_iff_not, decide_true, decide_false, if_true, if_false, ite_self, Bool.not_true, Bool.not_false, Bool.false_eq_true, Bool.true_eq_false, Bool.true_and, Bool.false_and, Bool.and_true, Bool.and_false, not_true, not_false_iff, Option.bind_some, nn, toList_inj, Bool.not_eq_true', Bool.not_eq_false', Int.le_refl, and_self, true_and, and_true, false_and, and_false, bne_self_eq_false, beq_self_eq_true, Int.reduceEq, Nat.reduceEqDiff, List.length_singleton, List.tail_cons, Int.reduceLE, Int.reduceLT, decide_eq_true_eq]
  exact (key l [] rfl).diag
def noW (s : ByteArray) : Bool := s.data.toList.all fun c => c != 119
theorem noW_app {a b : ByteArray} (ha : noW a = true) (hb : noW b = true) : noW (a ++ b) = true := by
  unfold noW at *
  rw [ByteArray.data_append, Array.toList_append, List.all_append, ha, hb]; rfl
theorem noW_in {l : List ByteArray} (h : l.all noW = true) {s : ByteArray} (hs : s ∈ l) : noW s = true := List.all_eq_true.1 h s hs
theorem wordX_loop {b : PV} (hb : Code1 b) : ∀ (c p : Nat) (x : ByteArray), p + c < 1000000000 → x.size + 2 * c ≤ 12 → (1 ≤ c ∨ 1 ≤ x.size) → noW x = true → ∃ (r : ByteArray) (q : Nat), q ≤ p + c ∧ 1 ≤ r.size ∧ r.size ≤ 12 ∧ noW r = true ∧ Ev2 (fun N n => spec_l13Word.l0 N n x (c : Int) b (p : Int)) [strP r, rdP b (q : Int)] := by
  intro c
  induction c with
  | zero =>
    intro p x hp hx h1 hno
    refine ⟨x, p, by omega, by omega, by omega, hno, Ev2.succ ?_⟩
    have h0 : ¬ (0 : Int) < ((0 : Nat) : Int) := by omega
    have hm : (if (x.size : Int) < 12 then (x.size : Int) else 12) = (x.size : Int) := by split <;> omega
    simp only [spec_l13Word.l0_eq, h0, least_val, hm, strs_len, strs_elem, ints_len, ints_elem, items_list, fld_agg, elem_list, toStr_sc, toInt_sc, toBool_sc, headD_one, nat_int, get_bt, decide_eq_true_eq, decide_eq_false_iff_not, decide_true, decide_false, if_true, if_false, ite_self, Bool.not_true, Bool.not_false, Bool.false_eq_true, Bool.true_eq_false, Bool.true_and, Bool.false_and, Bool.and_true, Bool.and_false, not_true, not_false_iff, Option.bind_some, nn, toList_inj, Bool.not_eq_true', Bool.not_eq_false', Int.le_refl, and_self, true_and, and_true, false_and, and_false, bne_self_eq_false, beq_self_eq_true, Int.reduceEq, Nat.reduceEqDiff, List.length_singleton, List.tail_cons, Int.reduceLE, Int.reduceLT, decide_eq_true_eq, extract_all, rd_agg]
    exact Ev2.now _
  | succ c ih =>
    intro p x hp hx h1 hno
    obtain ⟨s, hs, hf⟩ := of_ev hb (p := (p : Int)) (by omega) [ByteArray.mk #[97], ByteArray.mk #[98], ByteArray.mk #[99], ByteArray.mk #[97, 98], ByteArray.mk #[116]] (by simp)
    have hsz : 1 ≤ s.size ∧ s.size ≤ 2 := by
      have ha : ∀ s ∈ [ByteArray.mk #[97], ByteArray.mk #[98], ByteArray.mk #[99], ByteArray.mk #[97, 98], ByteArray.mk #[116]], 1 ≤ s.size ∧ s.size ≤ 2 := szs_in rfl
      exact ha s hs
    have hsn : noW s = true := noW_in (l := [ByteArray.mk #[97], ByteArray.mk #[98], ByteArray.mk #[99], ByteArray.mk #[97, 98], ByteArray.mk #[116]]) (by decide) hs
    obtain ⟨r, q, h2, h3, h4, h6, h5⟩ := ih (p + 1) (x ++ s) (by omega) (by rw [ByteArray.size_append]; omega) (.inr (by rw [ByteArray.size_append]; omega)) (noW_app hno hsn)
    refine ⟨r, q, by omega, h3, h4, h6, Ev2.succ ?_⟩
    have h0 : (0 : Int) < ((c + 1 : Nat) : Int) := by omega
    have hw : IntKind.i64.wrap (((c + 1 : Nat) : Int) - 1) = (c : Int) := by rw [wrap_id (by omega) (by omega)]; omega
    have hl : x.size + s.size ≤ 9223372036854775807 := by omega
    have hp1 : ((p : Int) + 1) = ((p + 1 : Nat) : Int) := by omega
    have e : PV.list [PV.sc (.string (ByteArray.mk #[97])), PV.sc (.string (ByteArray.mk #[98])), PV.sc (.string (ByteArray.mk #[99])), PV.sc (.string (ByteArray.mk #[97, 98])), PV.sc (.string (ByteArray.mk #[116]))] = strsP [ByteArray.mk #[97], ByteArray.mk #[98], ByteArray.mk #[99], ByteArray.mk #[97, 98], ByteArray.mk #[116]] := rfl
    simp only [spec_l13Word.l0_eq, h0, hw, hl, e, rd_agg, hf, rd_f0, rd_f1, hp1, strs_len, strs_elem, ints_len, ints_elem, items_list, fld_agg, elem_list, toStr_sc, toInt_sc, toBool_sc, headD_one, nat_int, get_bt, decide_eq_true_eq, decide_eq_false_iff_not, decide_true, decide_false, if_true, if_false, ite_self, Bool.not_true, Bool.not_false, Bool.false_eq_true, Bool.true_eq_false, Bool.true_and, Bool.false_and, Bool.and_true, Bool.and_false, not_true, not_false_iff, Option.bind_some, nn, toList_inj, Bool.not_eq_true', Bool.not_eq_false', Int.le_refl, and_self, true_and, and_true, false_and, and_false, bne_self_eq_false, beq_self_eq_true, Int.reduceEq, Nat.reduceEqDiff, List.length_singleton, List.tail_cons, Int.reduceLE, Int.reduceLT, decide_eq_true_eq]
    exact h5
theorem wordX_ev {b : PV} (hb : Code1 b) (p : Nat) (hp : p < 900000000) : ∃ (r : ByteArray) (q : Nat), q ≤ p + 10 ∧ 1 ≤ r.size ∧ r.size ≤ 12 ∧ noW r = true ∧ Ev (fun N => spec_l13Word.f N [rdP b (p : Int)]) [strP r, rdP b (q : Int)] := by
  obtain ⟨k, hk, hf⟩ := pick_ev hb (p := (p : Int)) (n := 3) (by omega) (by omega)
  by_cases h0 : k = 0
  · obtain ⟨k2, hk2, hf2⟩ := pick_ev hb (p := (p : Int) + 1) (n := 5) (by omega) (by omega)
    obtain ⟨j, rfl⟩ := Int.eq_ofNat_of_zero_le hk2.1
    obtain ⟨r, q, h2, h3, h4, h6, h5⟩ := wordX_loop hb (1 + j) (p + 2) ⟨#[]⟩ (by omega) (by have : (ByteArray.mk #[]).size = 0 := rfl; omega) (.inl (by omega)) rfl
    refine ⟨r, q, by omega, h3, h4, h6, ?_⟩
    have hw : IntKind.i64.wrap (1 + (j : Int)) = ((1 + j : Nat) : Int) := by rw [wrap_id (by omega) (by omega)]; omega
    have hp1 : ((p : Int) + 1 + 1) = ((p + 2 : Nat) : Int) := by omega
    simp only [spec_l13Word.f_eq, rd_f0, rd_f1, rd_agg, hf, h0, hf2, hw, hp1, strs_len, strs_elem, ints_len, ints_elem, items_list, fld_agg, elem_list, toStr_sc, toInt_sc, toBool_sc, headD_one, nat_int, get_bt, decide_eq_true_eq, decide_eq_false_iff_not, decide_true, decide_false, if_true, if_false, ite_self, Bool.not_true, Bool.not_false, Bool.false_eq_true, Bool.true_eq_false, Bool.true_and, Bool.false_and, Bool.and_true, Bool.and_false, not_true, not_false_iff, Option.bind_some, nn, toList_inj, Bool.not_eq_true', Bool.not_eq_false', Int.le_refl, and_self, true_and, and_true, false_and, and_false, bne_self_eq_false, beq_self_eq_true, Int.reduceEq, Nat.reduceEqDiff, List.length_singleton, List.tail_cons, Int.reduceLE, Int.reduceLT, decide_eq_true_eq]
    exact h5.diag
  · obtain ⟨s, hs, hf2⟩ := of_ev hb (p := (p : Int) + 1) (by omega) wordsL (by simp [wordsL])
    have ha : ∀ s ∈ wordsL, 1 ≤ s.size ∧ s.size ≤ 12 := szs_in rfl
    refine ⟨s, p + 2, by omega, (ha s hs).1, (ha s hs).2, noW_in (l := wordsL) (by decide) hs, ?_⟩
    have hp1 : ((p : Int) + 1 + 1) = ((p + 2 : Nat) : Int) := by omega
    have e : PV.list [PV.sc (.string (ByteArray.mk #[99, 97, 116])), PV.sc (.string (ByteArray.mk #[99, 97, 116, 115])), PV.sc (.string (ByteArray.mk #[97, 99, 116])), PV.sc (.string (ByteArray.mk #[100, 111])), PV.sc (.string (ByteArray.mk #[100, 111, 105, 110, 103])), PV.sc (.string (ByteArray.mk #[103, 111])), PV.sc (.string (ByteArray.mk #[117, 110, 100, 111])), PV.sc (.string (ByteArray.mk #[116, 114, 121])), PV.sc (.string (ByteArray.mk #[116, 114, 105, 101, 115])), PV.sc (.string (ByteArray.mk #[97])), PV.sc (.string (ByteArray.mk #[98, 97, 107, 101])), PV.sc (.string (ByteArray.mk #[98, 97, 107, 105, 110, 103])), PV.sc (.string (ByteArray.mk #[116, 97, 99, 116])), PV.sc (.string (ByteArray.mk #[99, 97, 114, 116])), PV.sc (.string (ByteArray.mk #[97, 98, 99, 97, 98, 99, 97, 98, 99, 97, 98, 99]))] = strsP wordsL := rfl
    simp only [spec_l13Word.f_eq, rd_f0, rd_f1, rd_agg, hf, h0, e, hf2, hp1, strs_len, strs_elem, ints_len, ints_elem, items_list, fld_agg, elem_list, toStr_sc, toInt_sc, toBool_sc, headD_one, nat_int, get_bt, decide_eq_true_eq, decide_eq_false_iff_not, decide_true, decide_false, if_true, if_false, ite_self, Bool.not_true, Bool.not_false, Bool.false_eq_true, Bool.true_eq_false, Bool.true_and, Bool.false_and, Bool.and_true, Bool.and_false, not_true, not_false_iff, Option.bind_some, nn, toList_inj, Bool.not_eq_true', Bool.not_eq_false', Int.le_refl, and_self, true_and, and_true, false_and, and_false, bne_self_eq_false, beq_self_eq_true, Int.reduceEq, Nat.reduceEqDiff, List.length_singleton, List.tail_cons, Int.reduceLE, Int.reduceLT, decide_eq_true_eq]
    exact Ev.now _
def affLL : List Aff := [⟨⟨#[83]⟩, false, ⟨#[]⟩, ⟨#[115]⟩, ⟨#[]⟩⟩, ⟨⟨#[83]⟩, false, ⟨#[121]⟩, ⟨#[105, 101, 115]⟩, ⟨#[121]⟩⟩, ⟨⟨#[71]⟩, false, ⟨#[]⟩, ⟨#[105, 110, 103]⟩, ⟨#[]⟩⟩, ⟨⟨#[71]⟩, false, ⟨#[101]⟩, ⟨#[105, 110, 103]⟩, ⟨#[101]⟩⟩, ⟨⟨#[85]⟩, true, ⟨#[]⟩, ⟨#[117, 110]⟩, ⟨#[]⟩⟩, ⟨⟨#[82]⟩, true, ⟨#[97]⟩, ⟨#[98]⟩, ⟨#[97]⟩⟩, ⟨⟨#[84]⟩, false, ⟨#[]⟩, ⟨#[116]⟩, ⟨#[97, 99]⟩⟩, ⟨⟨#[67]⟩, false, ⟨#[]⟩, ⟨#[97, 98, 99]⟩, ⟨#[]⟩⟩]
theorem affix_ev {b : PV} (hb : Code1 b) (p : Nat) (hp : p < 900000000) : ∃ a ∈ affLL, ∀ N, spec_l13Affix.f N [rdP b (p : Int)] = some [affP a, rdP b ((p + 1 : Nat) : Int)] := by
  obtain ⟨k, hk, hf⟩ := pick_ev hb (p := (p : Int)) (n := (8 : Int)) (by omega) (by omega)
  obtain ⟨j, rfl⟩ := Int.eq_ofNat_of_zero_le hk.1
  have hj : j < affLL.length := by have : affLL.length = 8 := rfl; omega
  have hj8 : ((j : Int) < 8) = True := eq_true (by omega)
  have hp1 : (p : Int) + 1 = ((p + 1 : Nat) : Int) := by omega
  rw [hp1] at hf
  obtain ⟨pre, rest, hpr, hpl⟩ : ∃ pre rest, affLL = pre ++ affLL[j] :: rest ∧ pre.length = j := ⟨affLL.take j, affLL.drop (j + 1), by rw [← List.drop_eq_getElem_cons hj, List.take_append_drop], by rw [List.length_take]; omega⟩
  have he := affs_elem hpr
  rw [hpl] at he
  refine ⟨affLL[j], List.getElem_mem hj, fun N => ?_⟩
  have e8 : ((affLL.map affP).length : Int) = 8 := rfl
  have hall : spec_l13Affix.f N [rdP b (p : Int)] = (spec_l1Rd_pick.f N [rdP b (p : Int), intP ((affLL.map affP).length : Int)]).bind fun t1 => if 0 ≤ ((t1.headD default).toInt) then (if ((t1.headD default).toInt) < ((affLL.map affP).length : Int) then (some [(PV.agg [(PV.sc (.string ((((affsP affLL).elem (((t1.headD default).toInt).toNat)).fld 0).toStr))), (PV.sc (.bool ((((affsP affLL).elem (((t1.headD default).toInt).toNat)).fld 1).toBool))), (PV.sc (.string ((((affsP affLL).elem (((t1.headD default).toInt).toNat)).fld 2).toStr))), (PV.sc (.string ((((affsP affLL).elem (((t1.headD default).toInt).toNat)).fld 3).toStr))), (PV.sc (.string ((((affsP affLL).elem (((t1.headD default).toInt).toNat)).fld 4).toStr)))]), (PV.agg [(rdP b (p : Int)).fld 0, (PV.sc (.int .i64 (((t1.tail.headD default).fld 1).toInt)))])]) else none) else none := spec_l13Affix.f_eq N _
  rw [hall, e8, hf]
  simp only [hj8, nn, he, aff_f0, aff_f1, aff_f2, aff_f3, aff_f4, aff_agg, rd_f0, rd_f1, rd_agg, strs_len, strs_elem, ints_len, ints_elem, items_list, fld_agg, elem_list, toStr_sc, toInt_sc, toBool_sc, headD_one, nat_int, get_bt, decide_eq_true_eq, decide_eq_false_iff_not, decide_true, decide_false, if_true, if_false, ite_self, Bool.not_true, Bool.not_false, Bool.false_eq_true, Bool.true_eq_false, Bool.true_and, Bool.false_and, Bool.and_true, Bool.and_false, not_true, not_false_iff, Option.bind_some, nn, toList_inj, Bool.not_eq_true', Bool.not_eq_false', Int.le_refl, and_self, true_and, and_true, false_and, and_false, bne_self_eq_false, beq_self_eq_true, Int.reduceEq, Nat.reduceEqDiff, List.length_singleton, List.tail_cons, Int.reduceLE, Int.reduceLT, decide_eq_true_eq]
structure AffsB (l : List Aff) (n : Nat) : Prop where
  n : l.length ≤ n
  s : ∀ a ∈ l, a ∈ affLL
theorem affs_snoc (l : List Aff) (a : Aff) : l.map affP ++ [affP a] = (l ++ [a]).map affP := by simp
theorem affixes_l1 {b : PV} (l : List Aff) (hl : l.length ≤ 100) (a : Aff) (c q : Nat) (hc : c < 100) {Q : List Aff → List PV → Prop}
    (hnext : ∀ l', l' = l ∨ l' = l ++ [a] → ∃ r, Q l' r ∧ Ev2 (fun N m => spec_l13Affixes.l0 N m (c : Int) b (q : Int) (l'.map affP)) r) :
    ∀ (rest pre : List Aff) (known : Bool), l = pre ++ rest → ∃ l', (l' = l ∨ l' = l ++ [a]) ∧ ∃ r, Q l' r ∧ Ev3 (fun N m n => spec_l13Affixes.l1 N m n ((c + 1 : Nat) : Int) known (pre.length : Int) b (q : Int) (l.map affP) a.flag a.front a.strip a.add a.cond) r := by
  have w1 : IntKind.i64.wrap (((c + 1 : Nat) : Int) - 1) = (c : Int) := nat_wrap (by omega) (by omega)
  have c1 : (l.length + 1 ≤ 1954687338268) = True := eq_true (by omega)
  intro rest
  induction rest with
  | nil =>
    intro pre known hp
    cases known with
    | true =>
      obtain ⟨r, hq, hv⟩ := hnext l (.inl rfl)
      refine ⟨l, .inl rfl, r, hq, Ev3.succ ?_⟩
      simp only [spec_l13Affixes.l1_eq, List.length_map, at_end hp, w1, strs_len, strs_elem, ints_len, ints_elem, items_list, fld_agg, elem_list, toStr_sc, toInt_sc, toBool_sc, headD_one, nat_int, get_bt, decide_eq_true_eq, decide_eq_false_iff_not, decide_true, decide_false, if_true, if_false, ite_self, Bool.not_true, Bool.not_false, Bool.false_eq_true, Bool.true_eq_false, Bool.true_and, Bool.false_and, Bool.and_true, Bool.and_false, not_true, not_false_iff, Option.bind_some, nn, toList_inj, Bool.not_eq_true', Bool.not_eq_false', Int.le_refl, and_self, true_and, and_true, false_and, and_false, bne_self_eq_false, beq_self_eq_true, Int.reduceEq, Nat.reduceEqDiff, List.length_singleton, List.tail_cons, Int.reduceLE, Int.reduceLT, decide_eq_true_eq]
      exact hv.outer
    | false =>
      obtain ⟨r, hq, hv⟩ := hnext (l ++ [a]) (.inr rfl)
      refine ⟨l ++ [a], .inr rfl, r, hq, Ev3.succ ?_⟩
      simp only [spec_l13Affixes.l1_eq, List.length_map, at_end hp, w1, c1, aff_agg, affs_snoc, strs_len, strs_elem, ints_len, ints_elem, items_list, fld_agg, elem_list, toStr_sc, toInt_sc, toBool_sc, headD_one, nat_int, get_bt, decide_eq_true_eq, decide_eq_false_iff_not, decide_true, decide_false, if_true, if_false, ite_self, Bool.not_true, Bool.not_false, Bool.false_eq_true, Bool.true_eq_false, Bool.true_and, Bool.false_and, Bool.and_true, Bool.and_false, not_true, not_false_iff, Option.bind_some, nn, toList_inj, Bool.not_eq_true', Bool.not_eq_false', Int.le_refl, and_self, true_and, and_true, false_and, and_false, bne_self_eq_false, beq_self_eq_true, Int.reduceEq, Nat.reduceEqDiff, List.length_singleton, List.tail_cons, Int.reduceLE, Int.reduceLT, decide_eq_true_eq]
      exact hv.outer
  | cons x rest ih =>
    intro pre known hp
    cases known with
    | true =>
      obtain ⟨l', h1, r, h2, h3⟩ := ih _ true (at_step hp)
      refine ⟨l', h1, r, h2, Ev3.succ ?_⟩
      simp only [spec_l13Affixes.l1_eq, List.length_map, at_lt hp, at_next hp (by omega), strs_len, strs_elem, ints_len, ints_elem, items_list, fld_agg, elem_list, toStr_sc, toInt_sc, toBool_sc, headD_one, nat_int, get_bt, decide_eq_true_eq, decide_eq_false_iff_not, decide_true, decide_false, if_true, if_false, ite_self, Bool.not_true, Bool.not_false, Bool.false_eq_true, Bool.true_eq_false, Bool.true_and, Bool.false_and, Bool.and_true, Bool.and_false, not_true, not_false_iff, Option.bind_some, nn, toList_inj, Bool.not_eq_true', Bool.not_eq_false', Int.le_refl, and_self, true_and, and_true, false_and, and_false, bne_self_eq_false, beq_self_eq_true, Int.reduceEq, Nat.reduceEqDiff, List.length_singleton, List.tail_cons, Int.reduceLE, Int.reduceLT, decide_eq_true_eq]
      exact h3
    | false =>
      have e : PV.list (l.map affP) = affsP l := rfl
      obtain ⟨kn, hkn⟩ : ∃ kn : Bool, kn = ((decide ((((affP x).fld 0).toStr).toList = a.flag.toList) && ((((affP x).fld 1).toBool == a.front) && (decide ((((affP x).fld 2).toStr).toList = a.strip.toList) && (decide ((((affP x).fld 3).toStr).toList = a.add.toList) && (decide ((((affP x).fld 4).toStr).toList = a.cond.toList) && true)))))) := ⟨_, rfl⟩
      obtain ⟨l', h1, r, h2, h3⟩ := ih _ kn (at_step hp)
      refine ⟨l', h1, r, h2, Ev3.succ ?_⟩
      simp only [spec_l13Affixes.l1_eq, List.length_map, at_lt hp, at_next hp (by omega), e, nat_int, affs_elem hp, ← hkn, nn, if_true, if_false, decide_true, decide_false, Bool.false_eq_true, Bool.true_eq_false]
      exact h3
theorem affixes_l0 {b : PV} (hb : Code1 b) : ∀ (c p : Nat) (l : List Aff), p + c < 800000000 → c < 100 → AffsB l (100 - c) → ∃ (r : List Aff) (q : Nat), q ≤ p + c ∧ AffsB r 100 ∧ r.length ≤ l.length + c ∧ Ev2 (fun N n => spec_l13Affixes.l0 N n (c : Int) b (p : Int) (l.map affP)) [affsP r, rdP b (q : Int)] := by
  intro c
  induction c with
  | zero =>
    intro p l hp hc hl
    refine ⟨l, p, by omega, ⟨by have := hl.n; omega, hl.s⟩, by omega, Ev2.succ ?_⟩
    have h0 : ¬ (0 : Int) < ((0 : Nat) : Int) := by omega
    have e : PV.list (l.map affP) = affsP l := rfl
    simp only [spec_l13Affixes.l0_eq, h0, e, rd_agg, strs_len, strs_elem, ints_len, ints_elem, items_list, fld_agg, elem_list, toStr_sc, toInt_sc, toBool_sc, headD_one, nat_int, get_bt, decide_eq_true_eq, decide_eq_false_iff_not, decide_true, decide_false, if_true, if_false, ite_self, Bool.not_true, Bool.not_false, Bool.false_eq_true, Bool.true_eq_false, Bool.true_and, Bool.false_and, Bool.and_true, Bool.and_false, not_true, not_false_iff, Option.bind_some, nn, toList_inj, Bool.not_eq_true', Bool.not_eq_false', Int.le_refl, and_self, true_and, and_true, false_and, and_false, bne_self_eq_false, beq_self_eq_true, Int.reduceEq, Nat.reduceEqDiff, List.length_singleton, List.tail_cons, Int.reduceLE, Int.reduceLT, decide_eq_true_eq]
    exact Ev2.now _
  | succ c ih =>
    intro p l hp hc hl
    have h0 : (0 : Int) < ((c + 1 : Nat) : Int) := by omega
    have hln := hl.n
    obtain ⟨a, ha, hf⟩ := affix_ev hb p (by omega)
    obtain ⟨l', hl', r, ⟨r', q, h1, h2, h3, h4⟩, hv⟩ := affixes_l1 (b := b) l (by omega) a c (p + 1) (by omega) (Q := fun l' r => ∃ r' q, q ≤ p + 1 + c ∧ AffsB r' 100 ∧ r'.length ≤ l.length + 1 + c ∧ r = [affsP r', rdP b ((q : Nat) : Int)])
      (fun l' hl' => by
        have hB : AffsB l' (100 - c) ∧ l'.length ≤ l.length + 1 := by
          rcases hl' with rfl | rfl
          · exact ⟨⟨by omega, hl.s⟩, by omega⟩
          · refine ⟨⟨by rw [List.length_append, List.length_singleton]; omega, all_snoc hl.s ha⟩, by rw [List.length_append, List.length_singleton]; omega⟩
        obtain ⟨r', q, h1, h2, h3, h4⟩ := ih (p + 1) l' (by omega) (by omega) hB.1
        exact ⟨_, ⟨r', q, h1, h2, by have := hB.2; omega, rfl⟩, h4⟩) l [] false rfl
    refine ⟨r', q, by omega, h2, by omega, Ev2.succ ?_⟩
    rw [h4] at hv
    simp only [spec_l13Affixes.l0_eq, h0, rd_agg, hf, rd_f1, aff_f0, aff_f1, aff_f2, aff_f3, aff_f4, strs_len, strs_elem, ints_len, ints_elem, items_list, fld_agg, elem_list, toStr_sc, toInt_sc, toBool_sc, headD_one, nat_int, get_bt, decide_eq_true_eq, decide_eq_false_iff_not, decide_true, decide_false, if_true, if_false, ite_self, Bool.not_true, Bool.not_false, Bool.false_eq_true, Bool.true_eq_false, Bool.true_and, Bool.false_and, Bool.and_true, Bool.and_false, not_true, not_false_iff, Option.bind_some, nn, toList_inj, Bool.not_eq_true', Bool.not_eq_false', Int.le_refl, and_self, true_and, and_true, false_and, and_false, bne_self_eq_false, beq_self_eq_true, Int.reduceEq, Nat.reduceEqDiff, List.length_singleton, List.tail_cons, Int.reduceLE, Int.reduceLT, decide_eq_true_eq]
    exact hv.start
theorem affixes_ev {b : PV} (hb : Code1 b) (p : Nat) (hp : p < 700000000) : ∃ (r : List Aff) (q : Nat), q ≤ p + 10 ∧ AffsB r 4 ∧ Ev (fun N => spec_l13Affixes.f N [rdP b (p : Int)]) [affsP r, rdP b (q : Int)] := by
  obtain ⟨c, hc, hf⟩ := pick_ev hb (p := (p : Int)) (n := 5) (by omega) (by omega)
  obtain ⟨c, rfl⟩ := Int.eq_ofNat_of_zero_le hc.1
  have hp1 : (p : Int) + 1 = ((p + 1 : Nat) : Int) := by omega
  rw [hp1] at hf
  obtain ⟨r, q, h1, h2, h3, h4⟩ := affixes_l0 hb c (p + 1) [] (by omega) (by omega) ⟨by simp, by simp⟩
  refine ⟨r, q, by omega, ⟨by simp at h3; omega, h2.s⟩, ?_⟩
  simp only [spec_l13Affixes.f_eq, rd_f0, rd_f1, rd_agg, hf, strs_len, strs_elem, ints_len, ints_elem, items_list, fld_agg, elem_list, toStr_sc, toInt_sc, toBool_sc, headD_one, nat_int, get_bt, decide_eq_true_eq, decide_eq_false_iff_not, decide_true, decide_false, if_true, if_false, ite_self, Bool.not_true, Bool.not_false, Bool.false_eq_true, Bool.true_eq_false, Bool.true_and, Bool.false_and, Bool.and_true, Bool.and_false, not_true, not_false_iff, Option.bind_some, nn, toList_inj, Bool.not_eq_true', Bool.not_eq_false', Int.le_refl, and_self, true_and, and_true, false_and, and_false, bne_self_eq_false, beq_self_eq_true, Int.reduceEq, Nat.reduceEqDiff, List.length_singleton, List.tail_cons, Int.reduceLE, Int.reduceLT, decide_eq_true_eq]
  exact h4.diag
def flagsL : List ByteArray := [⟨#[]⟩, ⟨#[]⟩, ⟨#[83]⟩, ⟨#[71, 83]⟩, ⟨#[85]⟩, ⟨#[71, 85]⟩, ⟨#[82]⟩, ⟨#[84]⟩, ⟨#[67, 82, 83, 85]⟩]
theorem flags_size {s : ByteArray} (h : s ∈ flagsL) : s.size ≤ 4 := (szs_in (l := flagsL) (a := 0) (b := 4) rfl s h).2
theorem entry_ev {b : PV} (hb : Code1 b) (p : Nat) (hp : p < 900000000) (s : ByteArray) : ∃ f ∈ flagsL, ∀ N, spec_l13Entry.f N [rdP b (p : Int), strP s] = some [entP ⟨s, f⟩, rdP b ((p + 1 : Nat) : Int)] := by
  obtain ⟨f, hm, hf⟩ := of_ev hb (p := (p : Int)) (by omega) flagsL (by simp [flagsL])
  have e : PV.list [PV.sc (.string (ByteArray.mk #[])), PV.sc (.string (ByteArray.mk #[])), PV.sc (.string (ByteArray.mk #[83])), PV.sc (.string (ByteArray.mk #[71, 83])), PV.sc (.string (ByteArray.mk #[85])), PV.sc (.string (ByteArray.mk #[71, 85])), PV.sc (.string (ByteArray.mk #[82])), PV.sc (.string (ByteArray.mk #[84])), PV.sc (.string (ByteArray.mk #[67, 82, 83, 85]))] = strsP flagsL := rfl
  have hp1 : (p : Int) + 1 = ((p + 1 : Nat) : Int) := by omega
  rw [hp1] at hf
  have e2 : PV.agg [PV.sc (.string s), PV.sc (.string f)] = entP ⟨s, f⟩ := rfl
  refine ⟨f, hm, fun N => ?_⟩
  simp only [spec_l13Entry.f_eq, rd_f0, rd_f1, rd_agg, e, hf, e2, strs_len, strs_elem, ints_len, ints_elem, items_list, fld_agg, elem_list, toStr_sc, toInt_sc, toBool_sc, headD_one, nat_int, get_bt, decide_eq_true_eq, decide_eq_false_iff_not, decide_true, decide_false, if_true, if_false, ite_self, Bool.not_true, Bool.not_false, Bool.false_eq_true, Bool.true_eq_false, Bool.true_and, Bool.false_and, Bool.and_true, Bool.and_false, not_true, not_false_iff, Option.bind_some, nn, toList_inj, Bool.not_eq_true', Bool.not_eq_false', Int.le_refl, and_self, true_and, and_true, false_and, and_false, bne_self_eq_false, beq_self_eq_true, Int.reduceEq, Nat.reduceEqDiff, List.length_singleton, List.tail_cons, Int.reduceLE, Int.reduceLT, decide_eq_true_eq]
structure BookB (af : List Aff) (es : List Ent) : Prop where
  a : AffsB af 4
  n : es.length ≤ 24
  s : ∀ e ∈ es, e.stem.size ≤ 12 ∧ e.flags ∈ flagsL
theorem ents_snoc (l : List Ent) (e : Ent) : l.map entP ++ [entP e] = (l ++ [e]).map entP := by simp
theorem book_l7 {b : PV} (hb : Code1 b) (af : List Aff) (ws : List ByteArray) (hwl : ws.length ≤ 100) (hws : ∀ x ∈ ws, x.size ≤ 12) : ∀ (rest pre : List ByteArray) (es : List Ent) (p : Nat), ws = pre ++ rest → p + rest.length < 900000000 → es.length = pre.length → (∀ e ∈ es, e.stem.size ≤ 12 ∧ e.flags ∈ flagsL) →
    ∃ (r : List Ent) (q : Nat), q ≤ p + rest.length ∧ r.length = ws.length ∧ (∀ e ∈ r, e.stem.size ≤ 12 ∧ e.flags ∈ flagsL) ∧ Ev2 (fun N n => spec_l13Book.l7 N n (pre.length : Int) b (p : Int) (strsP ws) (affsP af) (es.map entP)) [bookP af r, rdP b (q : Int)] := by
  intro rest
  induction rest with
  | nil =>
    intro pre es p hp hpb hl hes
    refine ⟨es, p, by omega, by rw [hp, hl]; simp, hes, Ev2.succ ?_⟩
    have e : PV.agg [affsP af, PV.list (es.map entP)] = bookP af es := rfl
    simp only [spec_l13Book.l7_eq, at_end hp, e, rd_agg, strs_len, strs_elem, ints_len, ints_elem, items_list, fld_agg, elem_list, toStr_sc, toInt_sc, toBool_sc, headD_one, nat_int, get_bt, decide_eq_true_eq, decide_eq_false_iff_not, decide_true, decide_false, if_true, if_false, ite_self, Bool.not_true, Bool.not_false, Bool.false_eq_true, Bool.true_eq_false, Bool.true_and, Bool.false_and, Bool.and_true, Bool.and_false, not_true, not_false_iff, Option.bind_some, nn, toList_inj, Bool.not_eq_true', Bool.not_eq_false', Int.le_refl, and_self, true_and, and_true, false_and, and_false, bne_self_eq_false, beq_self_eq_true, Int.reduceEq, Nat.reduceEqDiff, List.length_singleton, List.tail_cons, Int.reduceLE, Int.reduceLT, decide_eq_true_eq]
    exact Ev2.now _
  | cons w rest ih =>
    intro pre es p hp hpb hl hes
    rw [List.length_cons] at hpb
    have hw := hws w (by rw [hp]; simp)
    obtain ⟨f, hm, hf⟩ := entry_ev hb p (by omega) w
    simp only [strP] at hf
    have hln := at_ltN hp
    have c1 : (es.length + 1 ≤ 4398046511104) = True := eq_true (by omega)
    obtain ⟨r, q, h1, h2, h3, h4⟩ := ih _ (es ++ [⟨w, f⟩]) (p + 1) (at_step hp) (by omega) (by simp [hl]) (all_snoc hes ⟨hw, hm⟩)
    refine ⟨r, q, by rw [List.length_cons]; omega, h2, h3, Ev2.succ ?_⟩
    simp only [spec_l13Book.l7_eq, at_lt hp, at_getD hp, at_next hp (by omega), hf, rd_agg, rd_f1, ent_f0, ent_f1, List.length_map, c1, strs_len, strs_elem, ints_len, ints_elem, items_list, fld_agg, elem_list, toStr_sc, toInt_sc, toBool_sc, headD_one, nat_int, get_bt, decide_eq_true_eq, decide_eq_false_iff_not, decide_true, decide_false, if_true, if_false, ite_self, Bool.not_true, Bool.not_false, Bool.false_eq_true, Bool.true_eq_false, Bool.true_and, Bool.false_and, Bool.and_true, Bool.and_false, not_true, not_false_iff, Option.bind_some, nn, toList_inj, Bool.not_eq_true', Bool.not_eq_false', Int.le_refl, and_self, true_and, and_true, false_and, and_false, bne_self_eq_false, beq_self_eq_true, Int.reduceEq, Nat.reduceEqDiff, List.length_singleton, List.tail_cons, Int.reduceLE, Int.reduceLT, decide_eq_true_eq]
    rw [ent_agg ⟨w, f⟩, ents_snoc]
    exact h4
theorem book_l5 {b : PV} (hb : Code1 b) (af : List Aff) (ws : List ByteArray) (hwl : ws.length ≤ 100) (hws : ∀ x ∈ ws, x.size ≤ 12) (p : Nat) (hpb : p < 800000000) :
    ∃ (r : List Ent) (q : Nat), q ≤ p + ws.length ∧ r.length = ws.length ∧ (∀ e ∈ r, e.stem.size ≤ 12 ∧ e.flags ∈ flagsL) ∧ Ev2 (fun N n => spec_l13Book.l5 N n 0 b (p : Int) (strsP ws) (affsP af)) [bookP af r, rdP b (q : Int)] := by
  cases ws with
  | nil =>
    have e : PV.agg [affsP af, PV.list []] = bookP af [] := rfl
    have h0 : ((0 : Int) < (([] : List ByteArray).length : Int)) = False := eq_false (by simp)
    refine ⟨[], p, by omega, rfl, by simp, Ev2.succ ?_⟩
    simp only [spec_l13Book.l5_eq, strs_len, h0, e, rd_agg, strs_len, strs_elem, ints_len, ints_elem, items_list, fld_agg, elem_list, toStr_sc, toInt_sc, toBool_sc, headD_one, nat_int, get_bt, decide_eq_true_eq, decide_eq_false_iff_not, decide_true, decide_false, if_true, if_false, ite_self, Bool.not_true, Bool.not_false, Bool.false_eq_true, Bool.true_eq_false, Bool.true_and, Bool.false_and, Bool.and_true, Bool.and_false, not_true, not_false_iff, Option.bind_some, nn, toList_inj, Bool.not_eq_true', Bool.not_eq_false', Int.le_refl, and_self, true_and, and_true, false_and, and_false, bne_self_eq_false, beq_self_eq_true, Int.reduceEq, Nat.reduceEqDiff, List.length_singleton, List.tail_cons, Int.reduceLE, Int.reduceLT, decide_eq_true_eq]
    exact Ev2.now _
  | cons w rest =>
    have hw := hws w (by simp)
    have hp : w :: rest = [] ++ w :: rest := rfl
    have e0 : (0 : Int) = (([] : List ByteArray).length : Int) := rfl
    rw [List.length_cons] at hwl
    obtain ⟨f, hm, hf⟩ := entry_ev hb p (by omega) w
    simp only [strP] at hf
    obtain ⟨r, q, h1, h2, h3, h4⟩ := book_l7 hb af (w :: rest) (by rw [List.length_cons]; omega) hws rest [w] [⟨w, f⟩] (p + 1) rfl (by omega) rfl (by simpa using ⟨hw, hm⟩)
    refine ⟨r, q, by rw [List.length_cons]; omega, h2, h3, Ev2.succ ?_⟩
    have c1 : (([] : List PV).length + 1 ≤ 4398046511104) = True := eq_true (by simp)
    rw [e0]
    simp only [spec_l13Book.l5_eq, at_lt hp, at_getD hp, at_next hp (by rw [List.length_cons]; omega), hf, rd_agg, rd_f1, ent_f0, ent_f1, c1, List.nil_append, strs_len, strs_elem, ints_len, ints_elem, items_list, fld_agg, elem_list, toStr_sc, toInt_sc, toBool_sc, headD_one, nat_int, get_bt, decide_eq_true_eq, decide_eq_false_iff_not, decide_true, decide_false, if_true, if_false, ite_self, Bool.not_true, Bool.not_false, Bool.false_eq_true, Bool.true_eq_false, Bool.true_and, Bool.false_and, Bool.and_true, Bool.and_false, not_true, not_false_iff, Option.bind_some, nn, toList_inj, Bool.not_eq_true', Bool.not_eq_false', Int.le_refl, and_self, true_and, and_true, false_and, and_false, bne_self_eq_false, beq_self_eq_true, Int.reduceEq, Nat.reduceEqDiff, List.length_singleton, List.tail_cons, Int.reduceLE, Int.reduceLT, decide_eq_true_eq]
    rw [ent_agg ⟨w, f⟩]
    exact h4
def wB (k : Nat) : ByteArray := (ByteArray.mk #[119]) ++ (bytesOfL [(PV.sc (.int .u8 (IntKind.u8.wrap (IntKind.i64.wrap (97 + (k : Int))))))])
theorem wB_data {k : Nat} (hk : k < 100) : (wB k).data.toList = [119, UInt8.ofNat (97 + k)] := by
  have e1 : IntKind.i64.wrap (97 + (k : Int)) = ((97 + k : Nat) : Int) := nat_wrap (by omega) (by omega)
  have e2 : IntKind.u8.wrap ((97 + k : Nat) : Int) = ((97 + k : Nat) : Int) := by simp [IntKind.wrap, IntKind.signed, IntKind.bits]; omega
  unfold wB
  rw [e1, e2, ByteArray.data_append, Array.toList_append]
  rfl
theorem wB_size (k : Nat) : (wB k).size = 2 := by
  unfold wB
  rw [ByteArray.size_append]
  have : ∀ l : List PV, (bytesOfL l).size = l.length := fun l => by simp [bytesOfL, ByteArray.size]
  rw [this]; rfl
theorem wB_noW {k : Nat} (hk : k < 100) : noW (wB k) = false := by
  unfold noW
  rw [wB_data hk]; rfl
theorem wB_inj {j k : Nat} (hj : j < 100) (hk : k < 100) (h : wB j = wB k) : j = k := by
  have h1 := congrArg (fun s : ByteArray => s.data.toList) h
  simp only [wB_data hj, wB_data hk] at h1
  injection h1 with _ h1
  injection h1 with h1 _
  have h2 := congrArg UInt8.toNat h1
  simp only [UInt8.toNat_ofNat'] at h2
  omega
theorem insM_new (s : ByteArray) : ∀ {l : List ByteArray}, s ∉ l → (insM s l).length = l.length + 1
  | [], _ => by simp [insM]
  | c :: r, h => by
    rw [List.mem_cons, not_or] at h
    unfold insM
    split
    · rw [List.length_cons, insM_new s h.2, List.length_cons]
    · rw [if_neg (fun e => h.1 e.symm)]; simp
def WInv (ws : List ByteArray) (k : Nat) : Prop := ∀ x ∈ ws, x.size ≤ 12 ∧ (noW x = true ∨ ∃ j, j < k ∧ x = wB j)
theorem book_l4 {b : PV} (hb : Code1 b) (af : List Aff) (p : Nat) (hpb : p < 700000000) : ∀ (d k : Nat) (ws : List ByteArray), ws.length + d = 24 → k + d ≤ 24 → WInv ws k →
    ∃ (r : List Ent) (q : Nat), q ≤ p + 24 ∧ r.length ≤ 24 ∧ (∀ e ∈ r, e.stem.size ≤ 12 ∧ e.flags ∈ flagsL) ∧ Ev2 (fun N n => spec_l13Book.l4 N n (k : Int) b (p : Int) (strsP ws) (affsP af)) [bookP af r, rdP b (q : Int)] := by
  intro d
  induction d with
  | zero =>
    intro k ws hl hk hi
    obtain ⟨r, q, h1, h2, h3, h4⟩ := book_l5 hb af ws (by omega) (fun x hx => (hi x hx).1) p (by omega)
    have h0 : ((ws.length : Int) < 24) = False := eq_false (by omega)
    refine ⟨r, q, by omega, by omega, h3, Ev2.succ ?_⟩
    simp only [spec_l13Book.l4_eq, strs_len, h0, strs_len, strs_elem, ints_len, ints_elem, items_list, fld_agg, elem_list, toStr_sc, toInt_sc, toBool_sc, headD_one, nat_int, get_bt, decide_eq_true_eq, decide_eq_false_iff_not, decide_true, decide_false, if_true, if_false, ite_self, Bool.not_true, Bool.not_false, Bool.false_eq_true, Bool.true_eq_false, Bool.true_and, Bool.false_and, Bool.and_true, Bool.and_false, not_true, not_false_iff, Option.bind_some, nn, toList_inj, Bool.not_eq_true', Bool.not_eq_false', Int.le_refl, and_self, true_and, and_true, false_and, and_false, bne_self_eq_false, beq_self_eq_true, Int.reduceEq, Nat.reduceEqDiff, List.length_singleton, List.tail_cons, Int.reduceLE, Int.reduceLT, decide_eq_true_eq]
    exact h4.after
  | succ d ih =>
    intro k ws hl hk hi
    have h0 : ((ws.length : Int) < 24) = True := eq_true (by omega)
    have hnot : wB k ∉ ws := fun hm => by
      rcases (hi _ hm).2 with h | ⟨j, hj, h⟩
      · rw [wB_noW (by omega)] at h; cases h
      · have := wB_inj (by omega) (by omega) h; omega
    obtain ⟨r, q, h1, h2, h3, h4⟩ := ih (k + 1) (insM (wB k) ws) (by rw [insM_new _ hnot]; omega) (by omega) (fun x hx => by
      rcases (insM_mem _ ws x).1 hx with rfl | hx
      · exact ⟨by rw [wB_size]; omega, .inr ⟨k, by omega, rfl⟩⟩
      · obtain ⟨z, h⟩ := hi x hx
        exact ⟨z, h.imp id (fun ⟨j, hj, e⟩ => ⟨j, by omega, e⟩)⟩)
    have w1 : IntKind.i64.wrap ((k : Int) + 1) = ((k + 1 : Nat) : Int) := nat_wrap (by omega) (by omega)
    have hz := wB_size k
    unfold wB at hz
    rw [ByteArray.size_append] at hz
    have c1 : ((ByteArray.mk #[119]).size + (bytesOfL [(PV.sc (.int .u8 (IntKind.u8.wrap (IntKind.i64.wrap (97 + (k : Int))))))]).size ≤ 9223372036854775807) = True := eq_true (by omega)
    refine ⟨r, q, h1, h2, h3, Ev2.succ ?_⟩
    simp only [spec_l13Book.l4_eq, strs_len, h0, c1, if_true, decide_true]
    refine Ev2.bind (put_ev ws (wB k) (by omega)) ?_
    simp only [w1, strs_len, strs_elem, ints_len, ints_elem, items_list, fld_agg, elem_list, toStr_sc, toInt_sc, toBool_sc, headD_one, nat_int, get_bt, decide_eq_true_eq, decide_eq_false_iff_not, decide_true, decide_false, if_true, if_false, ite_self, Bool.not_true, Bool.not_false, Bool.false_eq_true, Bool.true_eq_false, Bool.true_and, Bool.false_and, Bool.and_true, Bool.and_false, not_true, not_false_iff, Option.bind_some, nn, toList_inj, Bool.not_eq_true', Bool.not_eq_false', Int.le_refl, and_self, true_and, and_true, false_and, and_false, bne_self_eq_false, beq_self_eq_true, Int.reduceEq, Nat.reduceEqDiff, List.length_singleton, List.tail_cons, Int.reduceLE, Int.reduceLT, decide_eq_true_eq]
    exact h4
theorem book_l1 {b : PV} (hb : Code1 b) (af : List Aff) : ∀ (c p : Nat) (ws : List ByteArray), p + 20 * c < 600000000 → ws.length + c ≤ 20 → WInv ws 0 →
    ∃ (r : List Ent) (q : Nat), q ≤ p + 20 * c + 50 ∧ r.length ≤ 24 ∧ (∀ e ∈ r, e.stem.size ≤ 12 ∧ e.flags ∈ flagsL) ∧ Ev2 (fun N n => spec_l13Book.l1 N n (c : Int) b (p : Int) (strsP ws) (affsP af)) [bookP af r, rdP b (q : Int)] := by
  intro c
  induction c with
  | zero =>
    intro p ws hp hl hi
    have h0 : ¬ (0 : Int) < ((0 : Nat) : Int) := by omega
    obtain ⟨k, hk, hf⟩ := pick_ev hb (p := (p : Int)) (n := 30) (by omega) (by omega)
    have hp1 : (p : Int) + 1 = ((p + 1 : Nat) : Int) := by omega
    rw [hp1] at hf
    by_cases k0 : k = 0
    · obtain ⟨r, q, h1, h2, h3, h4⟩ := book_l4 hb af (p + 1) (by omega) (24 - ws.length) 0 ws (by omega) (by omega) hi
      refine ⟨r, q, by omega, h2, h3, Ev2.succ ?_⟩
      simp only [spec_l13Book.l1_eq, h0, rd_agg, rd_f1, hf, k0, strs_len, strs_elem, ints_len, ints_elem, items_list, fld_agg, elem_list, toStr_sc, toInt_sc, toBool_sc, headD_one, nat_int, get_bt, decide_eq_true_eq, decide_eq_false_iff_not, decide_true, decide_false, if_true, if_false, ite_self, Bool.not_true, Bool.not_false, Bool.false_eq_true, Bool.true_eq_false, Bool.true_and, Bool.false_and, Bool.and_true, Bool.and_false, not_true, not_false_iff, Option.bind_some, nn, toList_inj, Bool.not_eq_true', Bool.not_eq_false', Int.le_refl, and_self, true_and, and_true, false_and, and_false, bne_self_eq_false, beq_self_eq_true, Int.reduceEq, Nat.reduceEqDiff, List.length_singleton, List.tail_cons, Int.reduceLE, Int.reduceLT, decide_eq_true_eq]
      exact h4.after
    · obtain ⟨r, q, h1, h2, h3, h4⟩ := book_l5 hb af ws (by omega) (fun x hx => (hi x hx).1) (p + 1) (by omega)
      refine ⟨r, q, by omega, by omega, h3, Ev2.succ ?_⟩
      simp only [spec_l13Book.l1_eq, h0, rd_agg, rd_f1, hf, k0, strs_len, strs_elem, ints_len, ints_elem, items_list, fld_agg, elem_list, toStr_sc, toInt_sc, toBool_sc, headD_one, nat_int, get_bt, decide_eq_true_eq, decide_eq_false_iff_not, decide_true, decide_false, if_true, if_false, ite_self, Bool.not_true, Bool.not_false, Bool.false_eq_true, Bool.true_eq_false, Bool.true_and, Bool.false_and, Bool.and_true, Bool.and_false, not_true, not_false_iff, Option.bind_some, nn, toList_inj, Bool.not_eq_true', Bool.not_eq_false', Int.le_refl, and_self, true_and, and_true, false_and, and_false, bne_self_eq_false, beq_self_eq_true, Int.reduceEq, Nat.reduceEqDiff, List.length_singleton, List.tail_cons, Int.reduceLE, Int.reduceLT, decide_eq_true_eq]
      exact h4.after
  | succ c ih =>
    intro p ws hp hl hi
    have h0 : (0 : Int) < ((c + 1 : Nat) : Int) := by omega
    obtain ⟨w, q, h2, h3, h4, hno, h5⟩ := wordX_ev hb p (by omega)
    have hil := insM_len w ws
    obtain ⟨r, q2, a1, a2, a3, a4⟩ := ih q (insM w ws) (by omega) (by omega) (fun x hx => by
      rcases (insM_mem w ws x).1 hx with rfl | hx
      · exact ⟨h4, .inl hno⟩
      · exact hi x hx)
    refine ⟨r, q2, by omega, a2, a3, Ev2.succ ?_⟩
    have w1 : IntKind.i64.wrap (((c + 1 : Nat) : Int) - 1) = (c : Int) := nat_wrap (by omega) (by omega)
    simp only [spec_l13Book.l1_eq, h0, rd_agg, strs_len, strs_elem, ints_len, ints_elem, items_list, fld_agg, elem_list, toStr_sc, toInt_sc, toBool_sc, headD_one, nat_int, get_bt, decide_eq_true_eq, decide_eq_false_iff_not, decide_true, decide_false, if_true, if_false, ite_self, Bool.not_true, Bool.not_false, Bool.false_eq_true, Bool.true_eq_false, Bool.true_and, Bool.false_and, Bool.and_true, Bool.and_false, not_true, not_false_iff, Option.bind_some, nn, toList_inj, Bool.not_eq_true', Bool.not_eq_false', Int.le_refl, and_self, true_and, and_true, false_and, and_false, bne_self_eq_false, beq_self_eq_true, Int.reduceEq, Nat.reduceEqDiff, List.length_singleton, List.tail_cons, Int.reduceLE, Int.reduceLT, decide_eq_true_eq]
    refine Ev2.bind h5 ?_
    simp only [strs_len, strs_elem, ints_len, ints_elem, items_list, fld_agg, elem_list, toStr_sc, toInt_sc, toBool_sc, headD_one, nat_int, get_bt, decide_eq_true_eq, decide_eq_false_iff_not, decide_true, decide_false, if_true, if_false, ite_self, Bool.not_true, Bool.not_false, Bool.false_eq_true, Bool.true_eq_false, Bool.true_and, Bool.false_and, Bool.and_true, Bool.and_false, not_true, not_false_iff, Option.bind_some, nn, toList_inj, Bool.not_eq_true', Bool.not_eq_false', Int.le_refl, and_self, true_and, and_true, false_and, and_false, bne_self_eq_false, beq_self_eq_true, Int.reduceEq, Nat.reduceEqDiff, List.length_singleton, List.tail_cons, Int.reduceLE, Int.reduceLT, decide_eq_true_eq]
    refine Ev2.bind (put_ev ws w (by omega)) ?_
    simp only [w1, rd_f1, strs_len, strs_elem, ints_len, ints_elem, items_list, fld_agg, elem_list, toStr_sc, toInt_sc, toBool_sc, headD_one, nat_int, get_bt, decide_eq_true_eq, decide_eq_false_iff_not, decide_true, decide_false, if_true, if_false, ite_self, Bool.not_true, Bool.not_false, Bool.false_eq_true, Bool.true_eq_false, Bool.true_and, Bool.false_and, Bool.and_true, Bool.and_false, not_true, not_false_iff, Option.bind_some, nn, toList_inj, Bool.not_eq_true', Bool.not_eq_false', Int.le_refl, and_self, true_and, and_true, false_and, and_false, bne_self_eq_false, beq_self_eq_true, Int.reduceEq, Nat.reduceEqDiff, List.length_singleton, List.tail_cons, Int.reduceLE, Int.reduceLT, decide_eq_true_eq]
    exact a4
theorem book_ev {b : PV} (hb : Code1 b) (p : Nat) (hp : p < 500000000) : ∃ (af : List Aff) (es : List Ent) (q : Nat), q ≤ p + 250 ∧ BookB af es ∧ Ev (fun N => spec_l13Book.f N [rdP b (p : Int)]) [bookP af es, rdP b (q : Int)] := by
  obtain ⟨af, q0, b1, b2, b3⟩ := affixes_ev hb p (by omega)
  obtain ⟨c, hc, hf⟩ := pick_ev hb (p := (q0 : Int)) (n := 7) (by omega) (by omega)
  obtain ⟨c, rfl⟩ := Int.eq_ofNat_of_zero_le hc.1
  have hp1 : (q0 : Int) + 1 = ((q0 + 1 : Nat) : Int) := by omega
  rw [hp1] at hf
  have hnil : PV.list [] = strsP [] := rfl
  obtain ⟨r, q, h1, h2, h3, h4⟩ : ∃ (r : List Ent) (q : Nat), q ≤ q0 + 240 ∧ r.length ≤ 24 ∧ (∀ e ∈ r, e.stem.size ≤ 12 ∧ e.flags ∈ flagsL) ∧ Ev2 (fun N n => spec_l13Book.l0 N n (c : Int) b ((q0 + 1 : Nat) : Int) [] (affsP af)) [bookP af r, rdP b (q : Int)] := by
    cases c with
    | succ c =>
      have h0 : (0 : Int) < ((c + 1 : Nat) : Int) := by omega
      obtain ⟨w, q, h2, h3, h4, hno, h5⟩ := wordX_ev hb (q0 + 1) (by omega)
      have hil := insM_len w []
      obtain ⟨r, q2, a1, a2, a3, a4⟩ := book_l1 hb af c q (insM w []) (by omega) (by simp at hil; omega) (fun x hx => by
        rcases (insM_mem w [] x).1 hx with rfl | hx
        · exact ⟨h4, .inl hno⟩
        · cases hx)
      refine ⟨r, q2, by omega, a2, a3, Ev2.succ ?_⟩
      have w1 : IntKind.i64.wrap (((c + 1 : Nat) : Int) - 1) = (c : Int) := nat_wrap (by omega) (by omega)
      simp only [spec_l13Book.l0_eq, h0, rd_agg, hnil, strs_len, strs_elem, ints_len, ints_elem, items_list, fld_agg, elem_list, toStr_sc, toInt_sc, toBool_sc, headD_one, nat_int, get_bt, decide_eq_true_eq, decide_eq_false_iff_not, decide_true, decide_false, if_true, if_false, ite_self, Bool.not_true, Bool.not_false, Bool.false_eq_true, Bool.true_eq_false, Bool.true_and, Bool.false_and, Bool.and_true, Bool.and_false, not_true, not_false_iff, Option.bind_some, nn, toList_inj, Bool.not_eq_true', Bool.not_eq_false', Int.le_refl, and_self, true_and, and_true, false_and, and_false, bne_self_eq_false, beq_self_eq_true, Int.reduceEq, Nat.reduceEqDiff, List.length_singleton, List.tail_cons, Int.reduceLE, Int.reduceLT, decide_eq_true_eq]
      refine Ev2.bind h5 ?_
      simp only [strs_len, strs_elem, ints_len, ints_elem, items_list, fld_agg, elem_list, toStr_sc, toInt_sc, toBool_sc, headD_one, nat_int, get_bt, decide_eq_true_eq, decide_eq_false_iff_not, decide_true, decide_false, if_true, if_false, ite_self, Bool.not_true, Bool.not_false, Bool.false_eq_true, Bool.true_eq_false, Bool.true_and, Bool.false_and, Bool.and_true, Bool.and_false, not_true, not_false_iff, Option.bind_some, nn, toList_inj, Bool.not_eq_true', Bool.not_eq_false', Int.le_refl, and_self, true_and, and_true, false_and, and_false, bne_self_eq_false, beq_self_eq_true, Int.reduceEq, Nat.reduceEqDiff, List.length_singleton, List.tail_cons, Int.reduceLE, Int.reduceLT, decide_eq_true_eq]
      refine Ev2.bind (put_ev [] w (by simp)) ?_
      simp only [w1, rd_f1, strs_len, strs_elem, ints_len, ints_elem, items_list, fld_agg, elem_list, toStr_sc, toInt_sc, toBool_sc, headD_one, nat_int, get_bt, decide_eq_true_eq, decide_eq_false_iff_not, decide_true, decide_false, if_true, if_false, ite_self, Bool.not_true, Bool.not_false, Bool.false_eq_true, Bool.true_eq_false, Bool.true_and, Bool.false_and, Bool.and_true, Bool.and_false, not_true, not_false_iff, Option.bind_some, nn, toList_inj, Bool.not_eq_true', Bool.not_eq_false', Int.le_refl, and_self, true_and, and_true, false_and, and_false, bne_self_eq_false, beq_self_eq_true, Int.reduceEq, Nat.reduceEqDiff, List.length_singleton, List.tail_cons, Int.reduceLE, Int.reduceLT, decide_eq_true_eq]
      exact a4
    | zero =>
      have h0 : ¬ (0 : Int) < ((0 : Nat) : Int) := by omega
      obtain ⟨k, hk, hf⟩ := pick_ev hb (p := ((q0 + 1 : Nat) : Int)) (n := 30) (by omega) (by omega)
      have hp1 : ((q0 + 1 : Nat) : Int) + 1 = ((q0 + 2 : Nat) : Int) := by omega
      rw [hp1] at hf
      by_cases k0 : k = 0
      · have w1 : IntKind.i64.wrap ((0 : Int) + 1) = ((1 : Nat) : Int) := nat_wrap (by omega) (by omega)
        obtain ⟨r, q, h1, h2, h3, h4⟩ := book_l4 hb af (q0 + 2) (by omega) 23 1 (insM (wB 0) []) rfl (by omega) (fun x hx => by
          rcases (insM_mem _ [] x).1 hx with rfl | hx
          · exact ⟨by rw [wB_size]; omega, .inr ⟨0, by omega, rfl⟩⟩
          · cases hx)
        refine ⟨r, q, by omega, h2, h3, Ev2.succ ?_⟩
        simp only [spec_l13Book.l0_eq, h0, rd_agg, rd_f1, hf, k0, strs_len, strs_elem, ints_len, ints_elem, items_list, fld_agg, elem_list, toStr_sc, toInt_sc, toBool_sc, headD_one, nat_int, get_bt, decide_eq_true_eq, decide_eq_false_iff_not, decide_true, decide_false, if_true, if_false, ite_self, Bool.not_true, Bool.not_false, Bool.false_eq_true, Bool.true_eq_false, Bool.true_and, Bool.false_and, Bool.and_true, Bool.and_false, not_true, not_false_iff, Option.bind_some, nn, toList_inj, Bool.not_eq_true', Bool.not_eq_false', Int.le_refl, and_self, true_and, and_true, false_and, and_false, bne_self_eq_false, beq_self_eq_true, Int.reduceEq, Nat.reduceEqDiff, List.length_singleton, List.tail_cons, Int.reduceLE, Int.reduceLT, decide_eq_true_eq]
        refine Ev2.after (g := fun N n => spec_l13Book.l2 N n 0 b ((q0 + 2 : Nat) : Int) [] (affsP af)) (Ev2.succ ?_)
        have hz := wB_size 0
        unfold wB at hz
        rw [ByteArray.size_append] at hz
        have c1 : ((ByteArray.mk #[119]).size + (bytesOfL [(PV.sc (.int .u8 (IntKind.u8.wrap (IntKind.i64.wrap (97 + (0 : Int))))))]).size ≤ 9223372036854775807) = True := eq_true (by
          have : (((0 : Nat) : Int)) = 0 := rfl
          rw [this] at hz; omega)
        have c0 : ((([] : List PV).length : Int) < 24) = True := eq_true (by simp)
        simp only [spec_l13Book.l2_eq, c0, c1, hnil, if_true, decide_true]
        refine Ev2.bind (put_ev [] (wB 0) (by simp)) ?_
        simp only [w1, strs_len, strs_elem, ints_len, ints_elem, items_list, fld_agg, elem_list, toStr_sc, toInt_sc, toBool_sc, headD_one, nat_int, get_bt, decide_eq_true_eq, decide_eq_false_iff_not, decide_true, decide_false, if_true, if_false, ite_self, Bool.not_true, Bool.not_false, Bool.false_eq_true, Bool.true_eq_false, Bool.true_and, Bool.false_and, Bool.and_true, Bool.and_false, not_true, not_false_iff, Option.bind_some, nn, toList_inj, Bool.not_eq_true', Bool.not_eq_false', Int.le_refl, and_self, true_and, and_true, false_and, and_false, bne_self_eq_false, beq_self_eq_true, Int.reduceEq, Nat.reduceEqDiff, List.length_singleton, List.tail_cons, Int.reduceLE, Int.reduceLT, decide_eq_true_eq]
        exact h4
      · refine ⟨[], q0 + 2, by omega, by simp, by simp, Ev2.succ ?_⟩
        simp only [spec_l13Book.l0_eq, h0, rd_agg, rd_f1, hf, k0, strs_len, strs_elem, ints_len, ints_elem, items_list, fld_agg, elem_list, toStr_sc, toInt_sc, toBool_sc, headD_one, nat_int, get_bt, decide_eq_true_eq, decide_eq_false_iff_not, decide_true, decide_false, if_true, if_false, ite_self, Bool.not_true, Bool.not_false, Bool.false_eq_true, Bool.true_eq_false, Bool.true_and, Bool.false_and, Bool.and_true, Bool.and_false, not_true, not_false_iff, Option.bind_some, nn, toList_inj, Bool.not_eq_true', Bool.not_eq_false', Int.le_refl, and_self, true_and, and_true, false_and, and_false, bne_self_eq_false, beq_self_eq_true, Int.reduceEq, Nat.reduceEqDiff, List.length_singleton, List.tail_cons, Int.reduceLE, Int.reduceLT, decide_eq_true_eq]
        refine Ev2.after (g := fun N n => spec_l13Book.l3 N n 0 b ((q0 + 2 : Nat) : Int) [] (affsP af)) (Ev2.succ ?_)
        have c0 : ((0 : Int) < (([] : List PV).length : Int)) = False := eq_false (by simp)
        have e : PV.agg [affsP af, PV.list []] = bookP af [] := rfl
        simp only [spec_l13Book.l3_eq, c0, e, rd_agg, strs_len, strs_elem, ints_len, ints_elem, items_list, fld_agg, elem_list, toStr_sc, toInt_sc, toBool_sc, headD_one, nat_int, get_bt, decide_eq_true_eq, decide_eq_false_iff_not, decide_true, decide_false, if_true, if_false, ite_self, Bool.not_true, Bool.not_false, Bool.false_eq_true, Bool.true_eq_false, Bool.true_and, Bool.false_and, Bool.and_true, Bool.and_false, not_true, not_false_iff, Option.bind_some, nn, toList_inj, Bool.not_eq_true', Bool.not_eq_false', Int.le_refl, and_self, true_and, and_true, false_and, and_false, bne_self_eq_false, beq_self_eq_true, Int.reduceEq, Nat.reduceEqDiff, List.length_singleton, List.tail_cons, Int.reduceLE, Int.reduceLT, decide_eq_true_eq]
        exact Ev2.now _
  refine ⟨af, r, q, by omega, ⟨b2, h2, h3⟩, ?_⟩
  simp only [spec_l13Book.f_eq, rd_f0, rd_f1, rd_agg, strs_len, strs_elem, ints_len, ints_elem, items_list, fld_agg, elem_list, toStr_sc, toInt_sc, toBool_sc, headD_one, nat_int, get_bt, decide_eq_true_eq, decide_eq_false_iff_not, decide_true, decide_false, if_true, if_false, ite_self, Bool.not_true, Bool.not_false, Bool.false_eq_true, Bool.true_eq_false, Bool.true_and, Bool.false_and, Bool.and_true, Bool.and_false, not_true, not_false_iff, Option.bind_some, nn, toList_inj, Bool.not_eq_true', Bool.not_eq_false', Int.le_refl, and_self, true_and, and_true, false_and, and_false, bne_self_eq_false, beq_self_eq_true, Int.reduceEq, Nat.reduceEqDiff, List.length_singleton, List.tail_cons, Int.reduceLE, Int.reduceLT, decide_eq_true_eq]
  refine Ev.bind b3 ?_
  simp only [rd_f1, rd_agg, hf, strs_len, strs_elem, ints_len, ints_elem, items_list, fld_agg, elem_list, toStr_sc, toInt_sc, toBool_sc, headD_one, nat_int, get_bt, decide_eq_true_eq, decide_eq_false_iff_not, decide_true, decide_false, if_true, if_false, ite_self, Bool.not_true, Bool.not_false, Bool.false_eq_true, Bool.true_eq_false, Bool.true_and, Bool.false_and, Bool.and_true, Bool.and_false, not_true, not_false_iff, Option.bind_some, nn, toList_inj, Bool.not_eq_true', Bool.not_eq_false', Int.le_refl, and_self, true_and, and_true, false_and, and_false, bne_self_eq_false, beq_self_eq_true, Int.reduceEq, Nat.reduceEqDiff, List.length_singleton, List.tail_cons, Int.reduceLE, Int.reduceLT, decide_eq_true_eq]
  exact h4.diag
structure WordsD (l : List ByteArray) (n : Nat) : Prop where
  n : l.length ≤ n
  s : ∀ x ∈ l, x.size ≤ 13
structure AffT (a : Aff) : Prop where
  flag : a.flag.size ≤ 10
  strip : a.strip.size ≤ 10
  add : a.add.size ≤ 10
  cond : a.cond.size ≤ 10
theorem affLL_small : ∀ a ∈ affLL, AffT a := fun a ha => by
  have h : (affLL.all fun a => decide ((a.flag.size ≤ 10 ∧ a.strip.size ≤ 10) ∧ a.add.size ≤ 10 ∧ a.cond.size ≤ 10)) = true := rfl
  have := of_decide_eq_true (List.all_eq_true.1 h a ha)
  exact ⟨this.1.1, this.1.2, this.2.1, this.2.2⟩
theorem AffT.s {a : Aff} (h : AffT a) : AffS a := by
  obtain ⟨h1, h2, h3, h4⟩ := h
  exact ⟨by omega, by omega, by omega, by omega⟩
def anyF : List ByteArray := [⟨#[]⟩, ⟨#[115]⟩, ⟨#[65, 66]⟩, ⟨#[90]⟩]
def anyS : List ByteArray := [⟨#[121]⟩, ⟨#[97, 98, 99, 100, 101]⟩, ⟨#[]⟩, ⟨#[89]⟩]
def anyC : List ByteArray := [⟨#[121]⟩, ⟨#[116, 121]⟩, ⟨#[97, 98, 99, 100, 101]⟩, ⟨#[]⟩]
def anyE : List ByteArray := [⟨#[]⟩, ⟨#[83, 71]⟩, ⟨#[115]⟩, ⟨#[65, 66, 67, 68, 69]⟩]
def anyZ : List ByteArray := [⟨#[]⟩, ⟨#[122, 122]⟩, ⟨#[65]⟩]
theorem small_of {l : List ByteArray} (h : (l.all fun s => decide (0 ≤ s.size ∧ s.size ≤ 10)) = true) {s : ByteArray} (hs : s ∈ l) : s.size ≤ 10 := (szs_in (a := 0) (b := 10) h s hs).2
theorem anyAffix_ev {b : PV} (hb : Code1 b) (p : Nat) (hp : p < 800000000) : ∃ (a : Aff) (q : Nat), q ≤ p + 5 ∧ AffT a ∧ ∀ N, spec_l13AnyAffix.f N [rdP b (p : Int)] = some [affP a, rdP b (q : Int)] := by
  obtain ⟨a, ha, h1⟩ := affix_ev hb p (by omega)
  have hs := affLL_small a ha
  obtain ⟨k, hk, hf⟩ := pick_ev hb (p := ((p + 1 : Nat) : Int)) (n := 12) (by omega) (by omega)
  have hp1 : ((p + 1 : Nat) : Int) + 1 = ((p + 2 : Nat) : Int) := by omega
  rw [hp1] at hf
  have hp2 : ((p + 2 : Nat) : Int) + 1 = ((p + 3 : Nat) : Int) := by omega
  by_cases k0 : k = 0
  · obtain ⟨s, hm, hs2⟩ := of_ev hb (p := ((p + 2 : Nat) : Int)) (by omega) anyF (by simp [anyF])
    rw [hp2] at hs2
    have e : PV.list [PV.sc (.string (ByteArray.mk #[])), PV.sc (.string (ByteArray.mk #[115])), PV.sc (.string (ByteArray.mk #[65, 66])), PV.sc (.string (ByteArray.mk #[90]))] = strsP anyF := rfl
    have e2 : PV.agg [PV.sc (.string s), PV.sc (.bool a.front), PV.sc (.string a.strip), PV.sc (.string a.add), PV.sc (.string a.cond)] = affP ⟨s, a.front, a.strip, a.add, a.cond⟩ := rfl
    exact ⟨⟨s, a.front, a.strip, a.add, a.cond⟩, p + 3, by omega, ⟨small_of (l := anyF) rfl hm, hs.strip, hs.add, hs.cond⟩, fun N => by simp only [spec_l13AnyAffix.f_eq, rd_f0, rd_f1, rd_agg, h1, hf, k0, e, hs2, aff_f0, aff_f1, aff_f2, aff_f3, aff_f4, e2, strs_len, strs_elem, ints_len, ints_elem, items_list, fld_agg, elem_list, toStr_sc, toInt_sc, toBool_sc, headD_one, nat_int, get_bt, decide_eq_true_eq, decide_eq_false_iff_not, decide_true, decide_false, if_true, if_false, ite_self, Bool.not_true, Bool.not_false, Bool.false_eq_true, Bool.true_eq_false, Bool.true_and, Bool.false_and, Bool.and_true, Bool.and_false, not_true, not_false_iff, Option.bind_some, nn, toList_inj, Bool.not_eq_true', Bool.not_eq_false', Int.le_refl, and_self, true_and, and_true, false_and, and_false, bne_self_eq_false, beq_self_eq_true, Int.reduceEq, Nat.reduceEqDiff, List.length_singleton, List.tail_cons, Int.reduceLE, Int.reduceLT, decide_eq_true_eq]⟩
  by_cases k1 : k = 1
  · obtain ⟨s, hm, hs2⟩ := of_ev hb (p := ((p + 2 : Nat) : Int)) (by omega) anyS (by simp [anyS])
    rw [hp2] at hs2
    have e : PV.list [PV.sc (.string (ByteArray.mk #[121])), PV.sc (.string (ByteArray.mk #[97, 98, 99, 100, 101])), PV.sc (.string (ByteArray.mk #[])), PV.sc (.string (ByteArray.mk #[89]))] = strsP anyS := rfl
    have e2 : PV.agg [PV.sc (.string a.flag), PV.sc (.bool a.front), PV.sc (.string s), PV.sc (.string a.add), PV.sc (.string a.cond)] = affP ⟨a.flag, a.front, s, a.add, a.cond⟩ := rfl
    exact ⟨⟨a.flag, a.front, s, a.add, a.cond⟩, p + 3, by omega, ⟨hs.flag, small_of (l := anyS) rfl hm, hs.add, hs.cond⟩, fun N => by simp only [spec_l13AnyAffix.f_eq, rd_f0, rd_f1, rd_agg, h1, hf, k1, e, hs2, aff_f0, aff_f1, aff_f2, aff_f3, aff_f4, e2, strs_len, strs_elem, ints_len, ints_elem, items_list, fld_agg, elem_list, toStr_sc, toInt_sc, toBool_sc, headD_one, nat_int, get_bt, decide_eq_true_eq, decide_eq_false_iff_not, decide_true, decide_false, if_true, if_false, ite_self, Bool.not_true, Bool.not_false, Bool.false_eq_true, Bool.true_eq_false, Bool.true_and, Bool.false_and, Bool.and_true, Bool.and_false, not_true, not_false_iff, Option.bind_some, nn, toList_inj, Bool.not_eq_true', Bool.not_eq_false', Int.le_refl, and_self, true_and, and_true, false_and, and_false, bne_self_eq_false, beq_self_eq_true, Int.reduceEq, Nat.reduceEqDiff, List.length_singleton, List.tail_cons, Int.reduceLE, Int.reduceLT, decide_eq_true_eq]⟩
  by_cases k2 : k = 2
  · obtain ⟨s, hm, hs2⟩ := of_ev hb (p := ((p + 2 : Nat) : Int)) (by omega) anyC (by simp [anyC])
    rw [hp2] at hs2
    have e : PV.list [PV.sc (.string (ByteArray.mk #[121])), PV.sc (.string (ByteArray.mk #[116, 121])), PV.sc (.string (ByteArray.mk #[97, 98, 99, 100, 101])), PV.sc (.string (ByteArray.mk #[]))] = strsP anyC := rfl
    have e2 : PV.agg [PV.sc (.string a.flag), PV.sc (.bool a.front), PV.sc (.string a.strip), PV.sc (.string a.add), PV.sc (.string s)] = affP ⟨a.flag, a.front, a.strip, a.add, s⟩ := rfl
    exact ⟨⟨a.flag, a.front, a.strip, a.add, s⟩, p + 3, by omega, ⟨hs.flag, hs.strip, hs.add, small_of (l := anyC) rfl hm⟩, fun N => by simp only [spec_l13AnyAffix.f_eq, rd_f0, rd_f1, rd_agg, h1, hf, k2, e, hs2, aff_f0, aff_f1, aff_f2, aff_f3, aff_f4, e2, strs_len, strs_elem, ints_len, ints_elem, items_list, fld_agg, elem_list, toStr_sc, toInt_sc, toBool_sc, headD_one, nat_int, get_bt, decide_eq_true_eq, decide_eq_false_iff_not, decide_true, decide_false, if_true, if_false, ite_self, Bool.not_true, Bool.not_false, Bool.false_eq_true, Bool.true_eq_false, Bool.true_and, Bool.false_and, Bool.and_true, Bool.and_false, not_true, not_false_iff, Option.bind_some, nn, toList_inj, Bool.not_eq_true', Bool.not_eq_false', Int.le_refl, and_self, true_and, and_true, false_and, and_false, bne_self_eq_false, beq_self_eq_true, Int.reduceEq, Nat.reduceEqDiff, List.length_singleton, List.tail_cons, Int.reduceLE, Int.reduceLT, decide_eq_true_eq]⟩
  by_cases k3 : k = 3
  · have e2 : PV.agg [PV.sc (.string a.flag), PV.sc (.bool (!a.front)), PV.sc (.string a.strip), PV.sc (.string a.add), PV.sc (.string a.cond)] = affP ⟨a.flag, !a.front, a.strip, a.add, a.cond⟩ := rfl
    exact ⟨⟨a.flag, !a.front, a.strip, a.add, a.cond⟩, p + 2, by omega, ⟨hs.flag, hs.strip, hs.add, hs.cond⟩, fun N => by simp only [spec_l13AnyAffix.f_eq, rd_f0, rd_f1, rd_agg, h1, hf, k3, aff_f0, aff_f1, aff_f2, aff_f3, aff_f4, e2, strs_len, strs_elem, ints_len, ints_elem, items_list, fld_agg, elem_list, toStr_sc, toInt_sc, toBool_sc, headD_one, nat_int, get_bt, decide_eq_true_eq, decide_eq_false_iff_not, decide_true, decide_false, if_true, if_false, ite_self, Bool.not_true, Bool.not_false, Bool.false_eq_true, Bool.true_eq_false, Bool.true_and, Bool.false_and, Bool.and_true, Bool.and_false, not_true, not_false_iff, Option.bind_some, nn, toList_inj, Bool.not_eq_true', Bool.not_eq_false', Int.le_refl, and_self, true_and, and_true, false_and, and_false, bne_self_eq_false, beq_self_eq_true, Int.reduceEq, Nat.reduceEqDiff, List.length_singleton, List.tail_cons, Int.reduceLE, Int.reduceLT, decide_eq_true_eq]⟩
  · exact ⟨a, p + 2, by omega, hs, fun N => by simp only [spec_l13AnyAffix.f_eq, rd_f0, rd_f1, rd_agg, h1, hf, k0, k1, k2, k3, aff_f0, aff_f1, aff_f2, aff_f3, aff_f4, aff_agg, strs_len, strs_elem, ints_len, ints_elem, items_list, fld_agg, elem_list, toStr_sc, toInt_sc, toBool_sc, headD_one, nat_int, get_bt, decide_eq_true_eq, decide_eq_false_iff_not, decide_true, decide_false, if_true, if_false, ite_self, Bool.not_true, Bool.not_false, Bool.false_eq_true, Bool.true_eq_false, Bool.true_and, Bool.false_and, Bool.and_true, Bool.and_false, not_true, not_false_iff, Option.bind_some, nn, toList_inj, Bool.not_eq_true', Bool.not_eq_false', Int.le_refl, and_self, true_and, and_true, false_and, and_false, bne_self_eq_false, beq_self_eq_true, Int.reduceEq, Nat.reduceEqDiff, List.length_singleton, List.tail_cons, Int.reduceLE, Int.reduceLT, decide_eq_true_eq]⟩
structure BookD (af : List Aff) (es : List Ent) : Prop where
  al : af.length ≤ 100
  el : es.length ≤ 100
  a : ∀ a ∈ af, AffT a
  e : ∀ e ∈ es, e.stem.size ≤ 13 ∧ e.flags.size ≤ 10
theorem BookD.s {af : List Aff} {es : List Ent} (h : BookD af es) : BookS af es :=
  ⟨by have := h.al; omega, by have := h.el; omega, fun a ha => (h.a a ha).s, fun e he => by obtain ⟨h1, h2⟩ := h.e e he; exact ⟨by omega, by omega⟩⟩
theorem affs_app (af : List Aff) (a : Aff) : PV.list ((affsP af).items ++ [affP a]) = affsP (af ++ [a]) := by simp [affsP, PV.items]
theorem ents_app (es : List Ent) (e : Ent) : PV.list ((entsP es).items ++ [entP e]) = entsP (es ++ [e]) := by simp [entsP, PV.items]
theorem anyBook_ev {b : PV} (hb : Code1 b) (p : Nat) (hp : p < 400000000) : ∃ (af : List Aff) (es : List Ent) (q : Nat), q ≤ p + 300 ∧ BookD af es ∧ Ev (fun N => spec_l13AnyBook.f N [rdP b (p : Int)]) [bookP af es, rdP b (q : Int)] := by
  obtain ⟨af, es, q, h1, h2, h3⟩ := book_ev hb p (by omega)
  have hal := h2.a.n
  have hel := h2.n
  have hD : BookD af es := ⟨by omega, by omega, fun a ha => affLL_small a (h2.a.s a ha), fun e he => by have := h2.s e he; have := flags_size this.2; omega⟩
  obtain ⟨k, hk, hf⟩ := pick_ev hb (p := (q : Int)) (n := 16) (by omega) (by omega)
  have hq1 : (q : Int) + 1 = ((q + 1 : Nat) : Int) := by omega
  rw [hq1] at hf
  by_cases k0 : k = 0
  · obtain ⟨a, q2, g1, g2, g3⟩ := anyAffix_ev hb (q + 1) (by omega)
    have c1 : (af.length + 1 ≤ 1954687338268) = True := tru (by omega)
    refine ⟨af ++ [a], es, q2, by omega, ⟨by simp; omega, by omega, all_snoc hD.a g2, hD.e⟩, ?_⟩
    simp only [spec_l13AnyBook.f_eq, rd_f0, rd_f1, rd_agg, strs_len, strs_elem, ints_len, ints_elem, items_list, fld_agg, elem_list, toStr_sc, toInt_sc, toBool_sc, headD_one, nat_int, get_bt, decide_eq_true_eq, decide_eq_false_iff_not, decide_true, decide_false, if_true, if_false, ite_self, Bool.not_true, Bool.not_false, Bool.false_eq_true, Bool.true_eq_false, Bool.true_and, Bool.false_and, Bool.and_true, Bool.and_false, not_true, not_false_iff, Option.bind_some, nn, toList_inj, Bool.not_eq_true', Bool.not_eq_false', Int.le_refl, and_self, true_and, and_true, false_and, and_false, bne_self_eq_false, beq_self_eq_true, Int.reduceEq, Nat.reduceEqDiff, List.length_singleton, List.tail_cons, Int.reduceLE, Int.reduceLT, decide_eq_true_eq]
    refine Ev.bind h3 ?_
    simp only [rd_f1, rd_agg, hf, k0, g3, book_f0, book_f1, affs_len, c1, aff_f0, aff_f1, aff_f2, aff_f3, aff_f4, aff_agg, affs_app, book_agg, strs_len, strs_elem, ints_len, ints_elem, items_list, fld_agg, elem_list, toStr_sc, toInt_sc, toBool_sc, headD_one, nat_int, get_bt, decide_eq_true_eq, decide_eq_false_iff_not, decide_true, decide_false, if_true, if_false, ite_self, Bool.not_true, Bool.not_false, Bool.false_eq_true, Bool.true_eq_false, Bool.true_and, Bool.false_and, Bool.and_true, Bool.and_false, not_true, not_false_iff, Option.bind_some, nn, toList_inj, Bool.not_eq_true', Bool.not_eq_false', Int.le_refl, and_self, true_and, and_true, false_and, and_false, bne_self_eq_false, beq_self_eq_true, Int.reduceEq, Nat.reduceEqDiff, List.length_singleton, List.tail_cons, Int.reduceLE, Int.reduceLT, decide_eq_true_eq]
    exact Ev.now _
  by_cases k1 : k = 1
  · obtain ⟨w, q2, g1, g2, g3⟩ := anyWord_ev hb (q + 1) (by omega)
    obtain ⟨f, hm, hf2⟩ := of_ev hb (p := (q2 : Int)) (by omega) anyE (by simp [anyE])
    have hq2 : (q2 : Int) + 1 = ((q2 + 1 : Nat) : Int) := by omega
    rw [hq2] at hf2
    have e : PV.list [PV.sc (.string (ByteArray.mk #[])), PV.sc (.string (ByteArray.mk #[83, 71])), PV.sc (.string (ByteArray.mk #[115])), PV.sc (.string (ByteArray.mk #[65, 66, 67, 68, 69]))] = strsP anyE := rfl
    have c1 : (es.length + 1 ≤ 4398046511104) = True := tru (by omega)
    have e2 : PV.agg [PV.sc (.string w), PV.sc (.string f)] = entP ⟨w, f⟩ := rfl
    refine ⟨af, es ++ [⟨w, f⟩], q2 + 1, by omega, ⟨by omega, by simp; omega, hD.a, all_snoc hD.e ⟨g2, small_of (l := anyE) rfl hm⟩⟩, ?_⟩
    simp only [spec_l13AnyBook.f_eq, rd_f0, rd_f1, rd_agg, strs_len, strs_elem, ints_len, ints_elem, items_list, fld_agg, elem_list, toStr_sc, toInt_sc, toBool_sc, headD_one, nat_int, get_bt, decide_eq_true_eq, decide_eq_false_iff_not, decide_true, decide_false, if_true, if_false, ite_self, Bool.not_true, Bool.not_false, Bool.false_eq_true, Bool.true_eq_false, Bool.true_and, Bool.false_and, Bool.and_true, Bool.and_false, not_true, not_false_iff, Option.bind_some, nn, toList_inj, Bool.not_eq_true', Bool.not_eq_false', Int.le_refl, and_self, true_and, and_true, false_and, and_false, bne_self_eq_false, beq_self_eq_true, Int.reduceEq, Nat.reduceEqDiff, List.length_singleton, List.tail_cons, Int.reduceLE, Int.reduceLT, decide_eq_true_eq]
    refine Ev.bind h3 ?_
    simp only [rd_f1, rd_agg, hf, k1, book_f0, book_f1, strs_len, strs_elem, ints_len, ints_elem, items_list, fld_agg, elem_list, toStr_sc, toInt_sc, toBool_sc, headD_one, nat_int, get_bt, decide_eq_true_eq, decide_eq_false_iff_not, decide_true, decide_false, if_true, if_false, ite_self, Bool.not_true, Bool.not_false, Bool.false_eq_true, Bool.true_eq_false, Bool.true_and, Bool.false_and, Bool.and_true, Bool.and_false, not_true, not_false_iff, Option.bind_some, nn, toList_inj, Bool.not_eq_true', Bool.not_eq_false', Int.le_refl, and_self, true_and, and_true, false_and, and_false, bne_self_eq_false, beq_self_eq_true, Int.reduceEq, Nat.reduceEqDiff, List.length_singleton, List.tail_cons, Int.reduceLE, Int.reduceLT, decide_eq_true_eq]
    refine Ev.bind g3 ?_
    simp only [rd_f1, rd_agg, e, hf2, ents_len, c1, e2, ents_app, book_agg, strs_len, strs_elem, ints_len, ints_elem, items_list, fld_agg, elem_list, toStr_sc, toInt_sc, toBool_sc, headD_one, nat_int, get_bt, decide_eq_true_eq, decide_eq_false_iff_not, decide_true, decide_false, if_true, if_false, ite_self, Bool.not_true, Bool.not_false, Bool.false_eq_true, Bool.true_eq_false, Bool.true_and, Bool.false_and, Bool.and_true, Bool.and_false, not_true, not_false_iff, Option.bind_some, nn, toList_inj, Bool.not_eq_true', Bool.not_eq_false', Int.le_refl, and_self, true_and, and_true, false_and, and_false, bne_self_eq_false, beq_self_eq_true, Int.reduceEq, Nat.reduceEqDiff, List.length_singleton, List.tail_cons, Int.reduceLE, Int.reduceLT, decide_eq_true_eq]
    exact Ev.now _
  by_cases k2 : k = 2
  · cases es with
    | nil =>
      have c0 : ((0 : Int) < (([] : List Ent).length : Int)) = False := fls (by simp)
      refine ⟨af, [], q + 1, by omega, hD, ?_⟩
      simp only [spec_l13AnyBook.f_eq, rd_f0, rd_f1, rd_agg, strs_len, strs_elem, ints_len, ints_elem, items_list, fld_agg, elem_list, toStr_sc, toInt_sc, toBool_sc, headD_one, nat_int, get_bt, decide_eq_true_eq, decide_eq_false_iff_not, decide_true, decide_false, if_true, if_false, ite_self, Bool.not_true, Bool.not_false, Bool.false_eq_true, Bool.true_eq_false, Bool.true_and, Bool.false_and, Bool.and_true, Bool.and_false, not_true, not_false_iff, Option.bind_some, nn, toList_inj, Bool.not_eq_true', Bool.not_eq_false', Int.le_refl, and_self, true_and, and_true, false_and, and_false, bne_self_eq_false, beq_self_eq_true, Int.reduceEq, Nat.reduceEqDiff, List.length_singleton, List.tail_cons, Int.reduceLE, Int.reduceLT, decide_eq_true_eq]
      refine Ev.bind h3 ?_
      simp only [rd_f1, rd_agg, hf, k2, book_f0, book_f1, ents_len, c0, book_agg, strs_len, strs_elem, ints_len, ints_elem, items_list, fld_agg, elem_list, toStr_sc, toInt_sc, toBool_sc, headD_one, nat_int, get_bt, decide_eq_true_eq, decide_eq_false_iff_not, decide_true, decide_false, if_true, if_false, ite_self, Bool.not_true, Bool.not_false, Bool.false_eq_true, Bool.true_eq_false, Bool.true_and, Bool.false_and, Bool.and_true, Bool.and_false, not_true, not_false_iff, Option.bind_some, nn, toList_inj, Bool.not_eq_true', Bool.not_eq_false', Int.le_refl, and_self, true_and, and_true, false_and, and_false, bne_self_eq_false, beq_self_eq_true, Int.reduceEq, Nat.reduceEqDiff, List.length_singleton, List.tail_cons, Int.reduceLE, Int.reduceLT, decide_eq_true_eq]
      exact Ev.now _
    | cons x es =>
      obtain ⟨s, hm, hf2⟩ := of_ev hb (p := ((q + 1 : Nat) : Int)) (by omega) anyZ (by simp [anyZ])
      have hq2 : ((q + 1 : Nat) : Int) + 1 = ((q + 2 : Nat) : Int) := by omega
      rw [hq2] at hf2
      have e : PV.list [PV.sc (.string (ByteArray.mk #[])), PV.sc (.string (ByteArray.mk #[122, 122])), PV.sc (.string (ByteArray.mk #[65]))] = strsP anyZ := rfl
      have c0 : ((0 : Int) < ((x :: es).length : Int)) = True := tru (by simp <;> omega)
      have e2 : PV.list ((entsP (x :: es)).items.set 0 (PV.agg (((entsP (x :: es)).elem 0).parts.set 0 (PV.sc (.string s))))) = entsP (⟨s, x.flags⟩ :: es) := rfl
      refine ⟨af, ⟨s, x.flags⟩ :: es, q + 2, by omega, ⟨hD.al, hD.el, hD.a, fun e he => ?_⟩, ?_⟩
      · rcases List.mem_cons.1 he with rfl | he
        · exact ⟨by have := small_of (l := anyZ) rfl hm; show s.size ≤ 13; omega, (hD.e x (by simp)).2⟩
        · exact hD.e e (by simp [he])
      · simp only [spec_l13AnyBook.f_eq, rd_f0, rd_f1, rd_agg, strs_len, strs_elem, ints_len, ints_elem, items_list, fld_agg, elem_list, toStr_sc, toInt_sc, toBool_sc, headD_one, nat_int, get_bt, decide_eq_true_eq, decide_eq_false_iff_not, decide_true, decide_false, if_true, if_false, ite_self, Bool.not_true, Bool.not_false, Bool.false_eq_true, Bool.true_eq_false, Bool.true_and, Bool.false_and, Bool.and_true, Bool.and_false, not_true, not_false_iff, Option.bind_some, nn, toList_inj, Bool.not_eq_true', Bool.not_eq_false', Int.le_refl, and_self, true_and, and_true, false_and, and_false, bne_self_eq_false, beq_self_eq_true, Int.reduceEq, Nat.reduceEqDiff, List.length_singleton, List.tail_cons, Int.reduceLE, Int.reduceLT, decide_eq_true_eq]
        refine Ev.bind h3 ?_
        simp only [rd_f1, rd_agg, hf, k2, book_f0, book_f1, ents_len, c0, e, hf2, Nat.le_refl, e2, book_agg, strs_len, strs_elem, ints_len, ints_elem, items_list, fld_agg, elem_list, toStr_sc, toInt_sc, toBool_sc, headD_one, nat_int, get_bt, decide_eq_true_eq, decide_eq_false_iff_not, decide_true, decide_false, if_true, if_false, ite_self, Bool.not_true, Bool.not_false, Bool.false_eq_true, Bool.true_eq_false, Bool.true_and, Bool.false_and, Bool.and_true, Bool.and_false, not_true, not_false_iff, Option.bind_some, nn, toList_inj, Bool.not_eq_true', Bool.not_eq_false', Int.le_refl, and_self, true_and, and_true, false_and, and_false, bne_self_eq_false, beq_self_eq_true, Int.reduceEq, Nat.reduceEqDiff, List.length_singleton, List.tail_cons, Int.reduceLE, Int.reduceLT, decide_eq_true_eq]
        exact Ev.now _
  · refine ⟨af, es, q + 1, by omega, hD, ?_⟩
    simp only [spec_l13AnyBook.f_eq, rd_f0, rd_f1, rd_agg, strs_len, strs_elem, ints_len, ints_elem, items_list, fld_agg, elem_list, toStr_sc, toInt_sc, toBool_sc, headD_one, nat_int, get_bt, decide_eq_true_eq, decide_eq_false_iff_not, decide_true, decide_false, if_true, if_false, ite_self, Bool.not_true, Bool.not_false, Bool.false_eq_true, Bool.true_eq_false, Bool.true_and, Bool.false_and, Bool.and_true, Bool.and_false, not_true, not_false_iff, Option.bind_some, nn, toList_inj, Bool.not_eq_true', Bool.not_eq_false', Int.le_refl, and_self, true_and, and_true, false_and, and_false, bne_self_eq_false, beq_self_eq_true, Int.reduceEq, Nat.reduceEqDiff, List.length_singleton, List.tail_cons, Int.reduceLE, Int.reduceLT, decide_eq_true_eq]
    refine Ev.bind h3 ?_
    simp only [rd_f1, rd_agg, hf, k0, k1, k2, book_f0, book_f1, book_agg, strs_len, strs_elem, ints_len, ints_elem, items_list, fld_agg, elem_list, toStr_sc, toInt_sc, toBool_sc, headD_one, nat_int, get_bt, decide_eq_true_eq, decide_eq_false_iff_not, decide_true, decide_false, if_true, if_false, ite_self, Bool.not_true, Bool.not_false, Bool.false_eq_true, Bool.true_eq_false, Bool.true_and, Bool.false_and, Bool.and_true, Bool.and_false, not_true, not_false_iff, Option.bind_some, nn, toList_inj, Bool.not_eq_true', Bool.not_eq_false', Int.le_refl, and_self, true_and, and_true, false_and, and_false, bne_self_eq_false, beq_self_eq_true, Int.reduceEq, Nat.reduceEqDiff, List.length_singleton, List.tail_cons, Int.reduceLE, Int.reduceLT, decide_eq_true_eq]
    exact Ev.now _
theorem bookW_word {af : List Aff} {es : List Ent} (h : BookOkF af es) : ∀ x ∈ bookW af es, x.size ≤ 12 := fun x hx => by
  rw [bookW_mem] at hx
  obtain ⟨e, he, hx⟩ := hx
  rcases formsB_mem hx with rfl | hw
  · exact (entB_facts (h.ent e he)).2.1
  · exact word_size hw
theorem l13Of_ev {b : PV} (hb : Code1 b) {af : List Aff} {es : List Ent} (hD : BookD af es) (p : Nat) (hp : p < 400000000) : ∃ (s : ByteArray) (q : Nat), q ≤ p + 20 ∧ s.size ≤ 13 ∧ Ev (fun N => spec_l13Of.f N [rdP b (p : Int), bookP af es]) [strP s, rdP b (q : Int)] := by
  have hok := specBookOk_ev hD.s
  have hp1 : (p : Int) + 1 = ((p + 1 : Nat) : Int) := by omega
  cases hB : bookB af es with
  | false =>
    rw [hB] at hok
    obtain ⟨w, q, g1, g2, g3⟩ := anyWord_ev hb p (by omega)
    refine ⟨w, q, by omega, g2, ?_⟩
    simp only [spec_l13Of.f_eq, rd_f0, rd_f1, rd_agg, book_f0, book_f1, book_agg, strs_len, strs_elem, ints_len, ints_elem, items_list, fld_agg, elem_list, toStr_sc, toInt_sc, toBool_sc, headD_one, nat_int, get_bt, decide_eq_true_eq, decide_eq_false_iff_not, decide_true, decide_false, if_true, if_false, ite_self, Bool.not_true, Bool.not_false, Bool.false_eq_true, Bool.true_eq_false, Bool.true_and, Bool.false_and, Bool.and_true, Bool.and_false, not_true, not_false_iff, Option.bind_some, nn, toList_inj, Bool.not_eq_true', Bool.not_eq_false', Int.le_refl, and_self, true_and, and_true, false_and, and_false, bne_self_eq_false, beq_self_eq_true, Int.reduceEq, Nat.reduceEqDiff, List.length_singleton, List.tail_cons, Int.reduceLE, Int.reduceLT, decide_eq_true_eq]
    refine Ev.bind hok ?_
    simp only [strs_len, strs_elem, ints_len, ints_elem, items_list, fld_agg, elem_list, toStr_sc, toInt_sc, toBool_sc, headD_one, nat_int, get_bt, decide_eq_true_eq, decide_eq_false_iff_not, decide_true, decide_false, if_true, if_false, ite_self, Bool.not_true, Bool.not_false, Bool.false_eq_true, Bool.true_eq_false, Bool.true_and, Bool.false_and, Bool.and_true, Bool.and_false, not_true, not_false_iff, Option.bind_some, nn, toList_inj, Bool.not_eq_true', Bool.not_eq_false', Int.le_refl, and_self, true_and, and_true, false_and, and_false, bne_self_eq_false, beq_self_eq_true, Int.reduceEq, Nat.reduceEqDiff, List.length_singleton, List.tail_cons, Int.reduceLE, Int.reduceLT, decide_eq_true_eq]
    refine Ev.bind g3 ?_
    simp only [rd_f1, rd_agg, strs_len, strs_elem, ints_len, ints_elem, items_list, fld_agg, elem_list, toStr_sc, toInt_sc, toBool_sc, headD_one, nat_int, get_bt, decide_eq_true_eq, decide_eq_false_iff_not, decide_true, decide_false, if_true, if_false, ite_self, Bool.not_true, Bool.not_false, Bool.false_eq_true, Bool.true_eq_false, Bool.true_and, Bool.false_and, Bool.and_true, Bool.and_false, not_true, not_false_iff, Option.bind_some, nn, toList_inj, Bool.not_eq_true', Bool.not_eq_false', Int.le_refl, and_self, true_and, and_true, false_and, and_false, bne_self_eq_false, beq_self_eq_true, Int.reduceEq, Nat.reduceEqDiff, List.length_singleton, List.tail_cons, Int.reduceLE, Int.reduceLT, decide_eq_true_eq]
    exact Ev.now _
  | true =>
    rw [hB] at hok
    have hF := bookB_facts hB
    have hlen := bookW_len hF
    have hWw := bookW_word hF
    have hWe := bookW_ok hF
    obtain ⟨W, hW⟩ : ∃ W, W = bookW af es := ⟨_, rfl⟩
    rw [← hW] at hlen hWw hWe
    clear hW
    obtain ⟨k, hk, hf⟩ := pick_ev hb (p := (p : Int)) (n := 2) (by omega) (by omega)
    rw [hp1] at hf
    by_cases k0 : k = 0
    · by_cases hz : W.length = 0
      · have c0 : ((0 : Int) < (W.length : Int)) = False := fls (by omega)
        obtain ⟨w, q, g1, g2, g3⟩ := anyWord_ev hb (p + 1) (by omega)
        refine ⟨w, q, by omega, g2, ?_⟩
        simp only [spec_l13Of.f_eq, rd_f0, rd_f1, rd_agg, book_f0, book_f1, book_agg, strs_len, strs_elem, ints_len, ints_elem, items_list, fld_agg, elem_list, toStr_sc, toInt_sc, toBool_sc, headD_one, nat_int, get_bt, decide_eq_true_eq, decide_eq_false_iff_not, decide_true, decide_false, if_true, if_false, ite_self, Bool.not_true, Bool.not_false, Bool.false_eq_true, Bool.true_eq_false, Bool.true_and, Bool.false_and, Bool.and_true, Bool.and_false, not_true, not_false_iff, Option.bind_some, nn, toList_inj, Bool.not_eq_true', Bool.not_eq_false', Int.le_refl, and_self, true_and, and_true, false_and, and_false, bne_self_eq_false, beq_self_eq_true, Int.reduceEq, Nat.reduceEqDiff, List.length_singleton, List.tail_cons, Int.reduceLE, Int.reduceLT, decide_eq_true_eq]
        refine Ev.bind hok ?_
        simp only [hf, rd_f1, rd_agg, strs_len, strs_elem, ints_len, ints_elem, items_list, fld_agg, elem_list, toStr_sc, toInt_sc, toBool_sc, headD_one, nat_int, get_bt, decide_eq_true_eq, decide_eq_false_iff_not, decide_true, decide_false, if_true, if_false, ite_self, Bool.not_true, Bool.not_false, Bool.false_eq_true, Bool.true_eq_false, Bool.true_and, Bool.false_and, Bool.and_true, Bool.and_false, not_true, not_false_iff, Option.bind_some, nn, toList_inj, Bool.not_eq_true', Bool.not_eq_false', Int.le_refl, and_self, true_and, and_true, false_and, and_false, bne_self_eq_false, beq_self_eq_true, Int.reduceEq, Nat.reduceEqDiff, List.length_singleton, List.tail_cons, Int.reduceLE, Int.reduceLT, decide_eq_true_eq]
        simp only [k0, strs_len, strs_elem, ints_len, ints_elem, items_list, fld_agg, elem_list, toStr_sc, toInt_sc, toBool_sc, headD_one, nat_int, get_bt, decide_eq_true_eq, decide_eq_false_iff_not, decide_true, decide_false, if_true, if_false, ite_self, Bool.not_true, Bool.not_false, Bool.false_eq_true, Bool.true_eq_false, Bool.true_and, Bool.false_and, Bool.and_true, Bool.and_false, not_true, not_false_iff, Option.bind_some, nn, toList_inj, Bool.not_eq_true', Bool.not_eq_false', Int.le_refl, and_self, true_and, and_true, false_and, and_false, bne_self_eq_false, beq_self_eq_true, Int.reduceEq, Nat.reduceEqDiff, List.length_singleton, List.tail_cons, Int.reduceLE, Int.reduceLT, decide_eq_true_eq]
        refine Ev.bind hWe ?_
        simp only [c0, strs_len, strs_elem, ints_len, ints_elem, items_list, fld_agg, elem_list, toStr_sc, toInt_sc, toBool_sc, headD_one, nat_int, get_bt, decide_eq_true_eq, decide_eq_false_iff_not, decide_true, decide_false, if_true, if_false, ite_self, Bool.not_true, Bool.not_false, Bool.false_eq_true, Bool.true_eq_false, Bool.true_and, Bool.false_and, Bool.and_true, Bool.and_false, not_true, not_false_iff, Option.bind_some, nn, toList_inj, Bool.not_eq_true', Bool.not_eq_false', Int.le_refl, and_self, true_and, and_true, false_and, and_false, bne_self_eq_false, beq_self_eq_true, Int.reduceEq, Nat.reduceEqDiff, List.length_singleton, List.tail_cons, Int.reduceLE, Int.reduceLT, decide_eq_true_eq]
        refine Ev.bind g3 ?_
        simp only [rd_f1, rd_agg, strs_len, strs_elem, ints_len, ints_elem, items_list, fld_agg, elem_list, toStr_sc, toInt_sc, toBool_sc, headD_one, nat_int, get_bt, decide_eq_true_eq, decide_eq_false_iff_not, decide_true, decide_false, if_true, if_false, ite_self, Bool.not_true, Bool.not_false, Bool.false_eq_true, Bool.true_eq_false, Bool.true_and, Bool.false_and, Bool.and_true, Bool.and_false, not_true, not_false_iff, Option.bind_some, nn, toList_inj, Bool.not_eq_true', Bool.not_eq_false', Int.le_refl, and_self, true_and, and_true, false_and, and_false, bne_self_eq_false, beq_self_eq_true, Int.reduceEq, Nat.reduceEqDiff, List.length_singleton, List.tail_cons, Int.reduceLE, Int.reduceLT, decide_eq_true_eq]
        exact Ev.now _
      · have c0 : ((0 : Int) < (W.length : Int)) = True := tru (by omega)
        obtain ⟨j, hj, hf2⟩ := pick_ev hb (p := ((p + 1 : Nat) : Int)) (n := (W.length : Int)) (by omega) (by omega)
        have hp2 : ((p + 1 : Nat) : Int) + 1 = ((p + 2 : Nat) : Int) := by omega
        rw [hp2] at hf2
        obtain ⟨j, rfl⟩ := Int.eq_ofNat_of_zero_le hj.1
        have hjl : j < W.length := by omega
        have c2 : ((j : Int) < (W.length : Int)) = True := tru (by omega)
        refine ⟨W.getD j ByteArray.empty, p + 2, by omega, ?_, ?_⟩
        · have : W.getD j ByteArray.empty ∈ W := by
            rw [List.getD_eq_getElem?_getD, List.getElem?_eq_getElem hjl]; exact List.getElem_mem hjl
          have := hWw _ this
          omega
        · simp only [spec_l13Of.f_eq, rd_f0, rd_f1, rd_agg, book_f0, book_f1, book_agg, strs_len, strs_elem, ints_len, ints_elem, items_list, fld_agg, elem_list, toStr_sc, toInt_sc, toBool_sc, headD_one, nat_int, get_bt, decide_eq_true_eq, decide_eq_false_iff_not, decide_true, decide_false, if_true, if_false, ite_self, Bool.not_true, Bool.not_false, Bool.false_eq_true, Bool.true_eq_false, Bool.true_and, Bool.false_and, Bool.and_true, Bool.and_false, not_true, not_false_iff, Option.bind_some, nn, toList_inj, Bool.not_eq_true', Bool.not_eq_false', Int.le_refl, and_self, true_and, and_true, false_and, and_false, bne_self_eq_false, beq_self_eq_true, Int.reduceEq, Nat.reduceEqDiff, List.length_singleton, List.tail_cons, Int.reduceLE, Int.reduceLT, decide_eq_true_eq]
          refine Ev.bind hok ?_
          simp only [hf, rd_f1, rd_agg, strs_len, strs_elem, ints_len, ints_elem, items_list, fld_agg, elem_list, toStr_sc, toInt_sc, toBool_sc, headD_one, nat_int, get_bt, decide_eq_true_eq, decide_eq_false_iff_not, decide_true, decide_false, if_true, if_false, ite_self, Bool.not_true, Bool.not_false, Bool.false_eq_true, Bool.true_eq_false, Bool.true_and, Bool.false_and, Bool.and_true, Bool.and_false, not_true, not_false_iff, Option.bind_some, nn, toList_inj, Bool.not_eq_true', Bool.not_eq_false', Int.le_refl, and_self, true_and, and_true, false_and, and_false, bne_self_eq_false, beq_self_eq_true, Int.reduceEq, Nat.reduceEqDiff, List.length_singleton, List.tail_cons, Int.reduceLE, Int.reduceLT, decide_eq_true_eq]
          simp only [k0, strs_len, strs_elem, ints_len, ints_elem, items_list, fld_agg, elem_list, toStr_sc, toInt_sc, toBool_sc, headD_one, nat_int, get_bt, decide_eq_true_eq, decide_eq_false_iff_not, decide_true, decide_false, if_true, if_false, ite_self, Bool.not_true, Bool.not_false, Bool.false_eq_true, Bool.true_eq_false, Bool.true_and, Bool.false_and, Bool.and_true, Bool.and_false, not_true, not_false_iff, Option.bind_some, nn, toList_inj, Bool.not_eq_true', Bool.not_eq_false', Int.le_refl, and_self, true_and, and_true, false_and, and_false, bne_self_eq_false, beq_self_eq_true, Int.reduceEq, Nat.reduceEqDiff, List.length_singleton, List.tail_cons, Int.reduceLE, Int.reduceLT, decide_eq_true_eq]
          refine Ev.bind hWe ?_
          simp only [c0, hf2, c2, nn, rd_f1, rd_agg, strs_len, strs_elem, ints_len, ints_elem, items_list, fld_agg, elem_list, toStr_sc, toInt_sc, toBool_sc, headD_one, nat_int, get_bt, decide_eq_true_eq, decide_eq_false_iff_not, decide_true, decide_false, if_true, if_false, ite_self, Bool.not_true, Bool.not_false, Bool.false_eq_true, Bool.true_eq_false, Bool.true_and, Bool.false_and, Bool.and_true, Bool.and_false, not_true, not_false_iff, Option.bind_some, nn, toList_inj, Bool.not_eq_true', Bool.not_eq_false', Int.le_refl, and_self, true_and, and_true, false_and, and_false, bne_self_eq_false, beq_self_eq_true, Int.reduceEq, Nat.reduceEqDiff, List.length_singleton, List.tail_cons, Int.reduceLE, Int.reduceLT, decide_eq_true_eq]
          exact Ev.now _
    · obtain ⟨w, q, g1, g2, g3⟩ := anyWord_ev hb (p + 1) (by omega)
      refine ⟨w, q, by omega, g2, ?_⟩
      simp only [spec_l13Of.f_eq, rd_f0, rd_f1, rd_agg, book_f0, book_f1, book_agg, strs_len, strs_elem, ints_len, ints_elem, items_list, fld_agg, elem_list, toStr_sc, toInt_sc, toBool_sc, headD_one, nat_int, get_bt, decide_eq_true_eq, decide_eq_false_iff_not, decide_true, decide_false, if_true, if_false, ite_self, Bool.not_true, Bool.not_false, Bool.false_eq_true, Bool.true_eq_false, Bool.true_and, Bool.false_and, Bool.and_true, Bool.and_false, not_true, not_false_iff, Option.bind_some, nn, toList_inj, Bool.not_eq_true', Bool.not_eq_false', Int.le_refl, and_self, true_and, and_true, false_and, and_false, bne_self_eq_false, beq_self_eq_true, Int.reduceEq, Nat.reduceEqDiff, List.length_singleton, List.tail_cons, Int.reduceLE, Int.reduceLT, decide_eq_true_eq]
      refine Ev.bind hok ?_
      simp only [hf, k0, rd_f1, rd_agg, strs_len, strs_elem, ints_len, ints_elem, items_list, fld_agg, elem_list, toStr_sc, toInt_sc, toBool_sc, headD_one, nat_int, get_bt, decide_eq_true_eq, decide_eq_false_iff_not, decide_true, decide_false, if_true, if_false, ite_self, Bool.not_true, Bool.not_false, Bool.false_eq_true, Bool.true_eq_false, Bool.true_and, Bool.false_and, Bool.and_true, Bool.and_false, not_true, not_false_iff, Option.bind_some, nn, toList_inj, Bool.not_eq_true', Bool.not_eq_false', Int.le_refl, and_self, true_and, and_true, false_and, and_false, bne_self_eq_false, beq_self_eq_true, Int.reduceEq, Nat.reduceEqDiff, List.length_singleton, List.tail_cons, Int.reduceLE, Int.reduceLT, decide_eq_true_eq]
      refine Ev.bind g3 ?_
      simp only [rd_f1, rd_agg, strs_len, strs_elem, ints_len, ints_elem, items_list, fld_agg, elem_list, toStr_sc, toInt_sc, toBool_sc, headD_one, nat_int, get_bt, decide_eq_true_eq, decide_eq_false_iff_not, decide_true, decide_false, if_true, if_false, ite_self, Bool.not_true, Bool.not_false, Bool.false_eq_true, Bool.true_eq_false, Bool.true_and, Bool.false_and, Bool.and_true, Bool.and_false, not_true, not_false_iff, Option.bind_some, nn, toList_inj, Bool.not_eq_true', Bool.not_eq_false', Int.le_refl, and_self, true_and, and_true, false_and, and_false, bne_self_eq_false, beq_self_eq_true, Int.reduceEq, Nat.reduceEqDiff, List.length_singleton, List.tail_cons, Int.reduceLE, Int.reduceLT, decide_eq_true_eq]
      exact Ev.now _
theorem many_loop : ∀ (k n : Nat) (s out : ByteArray), n < 2 ^ k → k ≤ 10 → s.size * 2 ^ k ≤ 100000 → out.size ≤ 100000 * (10 - k) → ∃ r : ByteArray, r.size ≤ 1000000 ∧ Ev2 (fun N m => spec_l1Many.l0 N m s (n : Int) out) [strP r] := by
  intro k
  induction k with
  | zero =>
    intro n s out hn hk hs ho
    have c0 : ((0 : Int) < (n : Int)) = False := fls (by simp at hn; omega)
    refine ⟨out, by omega, Ev2.succ ?_⟩
    simp only [spec_l1Many.l0_eq, c0, strs_len, strs_elem, ints_len, ints_elem, items_list, fld_agg, elem_list, toStr_sc, toInt_sc, toBool_sc, headD_one, nat_int, get_bt, decide_eq_true_eq, decide_eq_false_iff_not, decide_true, decide_false, if_true, if_false, ite_self, Bool.not_true, Bool.not_false, Bool.false_eq_true, Bool.true_eq_false, Bool.true_and, Bool.false_and, Bool.and_true, Bool.and_false, not_true, not_false_iff, Option.bind_some, nn, toList_inj, Bool.not_eq_true', Bool.not_eq_false', Int.le_refl, and_self, true_and, and_true, false_and, and_false, bne_self_eq_false, beq_self_eq_true, Int.reduceEq, Nat.reduceEqDiff, List.length_singleton, List.tail_cons, Int.reduceLE, Int.reduceLT, decide_eq_true_eq]
    exact Ev2.now _
  | succ k ih =>
    intro n s out hn hk hs ho
    rw [Nat.pow_succ] at hn hs
    have hs2 : s.size * (2 ^ k * 2) = s.size * 2 ^ k * 2 := by rw [Nat.mul_assoc]
    have hp1 : 1 ≤ 2 ^ k := Nat.one_le_two_pow
    have hsz : s.size ≤ s.size * 2 ^ k := Nat.le_mul_of_pos_right _ (by omega)
    by_cases h0 : n = 0
    · have c0 : ((0 : Int) < (n : Int)) = False := fls (by omega)
      refine ⟨out, by omega, Ev2.succ ?_⟩
      simp only [spec_l1Many.l0_eq, c0, strs_len, strs_elem, ints_len, ints_elem, items_list, fld_agg, elem_list, toStr_sc, toInt_sc, toBool_sc, headD_one, nat_int, get_bt, decide_eq_true_eq, decide_eq_false_iff_not, decide_true, decide_false, if_true, if_false, ite_self, Bool.not_true, Bool.not_false, Bool.false_eq_true, Bool.true_eq_false, Bool.true_and, Bool.false_and, Bool.and_true, Bool.and_false, not_true, not_false_iff, Option.bind_some, nn, toList_inj, Bool.not_eq_true', Bool.not_eq_false', Int.le_refl, and_self, true_and, and_true, false_and, and_false, bne_self_eq_false, beq_self_eq_true, Int.reduceEq, Nat.reduceEqDiff, List.length_singleton, List.tail_cons, Int.reduceLE, Int.reduceLT, decide_eq_true_eq]
      exact Ev2.now _
    have c0 : ((0 : Int) < (n : Int)) = True := tru (by omega)
    have c1 : (s.size + s.size ≤ 9223372036854775807) = True := tru (by omega)
    have c2 : (out.size + s.size ≤ 9223372036854775807) = True := tru (by omega)
    have z2 : ((2 : Int) = 0) = False := by simp
    have ht : Int.tdiv (n : Int) 2 = ((n / 2 : Nat) : Int) := rfl
    have w1 : IntKind.i64.wrap ((n / 2 : Nat) : Int) = ((n / 2 : Nat) : Int) := nat_wrap rfl (by have : 2 ^ k ≤ 2 ^ 10 := Nat.pow_le_pow_right (by omega) (by omega); omega)
    have hss : (s ++ s).size = s.size + s.size := ByteArray.size_append
    have hos : (out ++ s).size = out.size + s.size := ByteArray.size_append
    have hpp : (s.size + s.size) * 2 ^ k = s.size * 2 ^ k * 2 := by rw [Nat.add_mul]; omega
    by_cases hm : Int.tmod (n : Int) 2 = 1
    · obtain ⟨r, h1, h2⟩ := ih (n / 2) (s ++ s) (out ++ s) (by omega) (by omega) (by rw [hss, hpp]; omega) (by omega)
      refine ⟨r, h1, Ev2.succ ?_⟩
      simp only [spec_l1Many.l0_eq, c0, c1, c2, z2, hm, ht, w1, strs_len, strs_elem, ints_len, ints_elem, items_list, fld_agg, elem_list, toStr_sc, toInt_sc, toBool_sc, headD_one, nat_int, get_bt, decide_eq_true_eq, decide_eq_false_iff_not, decide_true, decide_false, if_true, if_false, ite_self, Bool.not_true, Bool.not_false, Bool.false_eq_true, Bool.true_eq_false, Bool.true_and, Bool.false_and, Bool.and_true, Bool.and_false, not_true, not_false_iff, Option.bind_some, nn, toList_inj, Bool.not_eq_true', Bool.not_eq_false', Int.le_refl, and_self, true_and, and_true, false_and, and_false, bne_self_eq_false, beq_self_eq_true, Int.reduceEq, Nat.reduceEqDiff, List.length_singleton, List.tail_cons, Int.reduceLE, Int.reduceLT, decide_eq_true_eq]
      exact h2
    · obtain ⟨r, h1, h2⟩ := ih (n / 2) (s ++ s) out (by omega) (by omega) (by rw [hss, hpp]; omega) (by omega)
      refine ⟨r, h1, Ev2.succ ?_⟩
      simp only [spec_l1Many.l0_eq, c0, c1, z2, hm, ht, w1, strs_len, strs_elem, ints_len, ints_elem, items_list, fld_agg, elem_list, toStr_sc, toInt_sc, toBool_sc, headD_one, nat_int, get_bt, decide_eq_true_eq, decide_eq_false_iff_not, decide_true, decide_false, if_true, if_false, ite_self, Bool.not_true, Bool.not_false, Bool.false_eq_true, Bool.true_eq_false, Bool.true_and, Bool.false_and, Bool.and_true, Bool.and_false, not_true, not_false_iff, Option.bind_some, nn, toList_inj, Bool.not_eq_true', Bool.not_eq_false', Int.le_refl, and_self, true_and, and_true, false_and, and_false, bne_self_eq_false, beq_self_eq_true, Int.reduceEq, Nat.reduceEqDiff, List.length_singleton, List.tail_cons, Int.reduceLE, Int.reduceLT, decide_eq_true_eq]
      exact h2
theorem check_l0 {b : PV} (hb : Code1 b) {af : List Aff} {es : List Ent} (hD : BookD af es) : ∀ (c p : Nat) (x : ByteArray), p + 100 * c < 300000000 → x.size + 100 * c ≤ 10000 →
    ∃ s : ByteArray, s.size ≤ 1000000 ∧ Ev2 (fun N n => spec_DrawCheck.l0 N n x (c : Int) b (p : Int) (affsP af) (entsP es)) [bookP af es, strP s] := by
  intro c
  induction c with
  | zero =>
    intro p x hp hx
    have h0 : ¬ (0 : Int) < ((0 : Nat) : Int) := by omega
    obtain ⟨k, hk, hf⟩ := pick_ev hb (p := (p : Int)) (n := 30) (by omega) (by omega)
    have hp1 : (p : Int) + 1 = ((p + 1 : Nat) : Int) := by omega
    rw [hp1] at hf
    by_cases k0 : k = 0
    · obtain ⟨j, hj, hf2⟩ := pick_ev hb (p := ((p + 1 : Nat) : Int)) (n := 3) (by omega) (by omega)
      obtain ⟨j, rfl⟩ := Int.eq_ofNat_of_zero_le hj.1
      have w1 : IntKind.i64.wrap (149 + (j : Int)) = ((149 + j : Nat) : Int) := nat_wrap (by omega) (by omega)
      obtain ⟨r, g1, g2⟩ := many_loop 8 (149 + j) (ByteArray.mk #[97, 32]) ⟨#[]⟩ (by omega) (by omega) (by decide) (Nat.zero_le _)
      refine ⟨r, g1, Ev2.succ ?_⟩
      simp only [spec_DrawCheck.l0_eq, h0, rd_agg, rd_f1, hf, book_agg, strs_len, strs_elem, ints_len, ints_elem, items_list, fld_agg, elem_list, toStr_sc, toInt_sc, toBool_sc, headD_one, nat_int, get_bt, decide_eq_true_eq, decide_eq_false_iff_not, decide_true, decide_false, if_true, if_false, ite_self, Bool.not_true, Bool.not_false, Bool.false_eq_true, Bool.true_eq_false, Bool.true_and, Bool.false_and, Bool.and_true, Bool.and_false, not_true, not_false_iff, Option.bind_some, nn, toList_inj, Bool.not_eq_true', Bool.not_eq_false', Int.le_refl, and_self, true_and, and_true, false_and, and_false, bne_self_eq_false, beq_self_eq_true, Int.reduceEq, Nat.reduceEqDiff, List.length_singleton, List.tail_cons, Int.reduceLE, Int.reduceLT, decide_eq_true_eq]
      simp only [k0, rd_agg, rd_f1, hf2, w1, spec_l1Many.f_eq, strs_len, strs_elem, ints_len, ints_elem, items_list, fld_agg, elem_list, toStr_sc, toInt_sc, toBool_sc, headD_one, nat_int, get_bt, decide_eq_true_eq, decide_eq_false_iff_not, decide_true, decide_false, if_true, if_false, ite_self, Bool.not_true, Bool.not_false, Bool.false_eq_true, Bool.true_eq_false, Bool.true_and, Bool.false_and, Bool.and_true, Bool.and_false, not_true, not_false_iff, Option.bind_some, nn, toList_inj, Bool.not_eq_true', Bool.not_eq_false', Int.le_refl, and_self, true_and, and_true, false_and, and_false, bne_self_eq_false, beq_self_eq_true, Int.reduceEq, Nat.reduceEqDiff, List.length_singleton, List.tail_cons, Int.reduceLE, Int.reduceLT, decide_eq_true_eq]
      refine Ev2.bind g2.diag ?_
      simp only [strs_len, strs_elem, ints_len, ints_elem, items_list, fld_agg, elem_list, toStr_sc, toInt_sc, toBool_sc, headD_one, nat_int, get_bt, decide_eq_true_eq, decide_eq_false_iff_not, decide_true, decide_false, if_true, if_false, ite_self, Bool.not_true, Bool.not_false, Bool.false_eq_true, Bool.true_eq_false, Bool.true_and, Bool.false_and, Bool.and_true, Bool.and_false, not_true, not_false_iff, Option.bind_some, nn, toList_inj, Bool.not_eq_true', Bool.not_eq_false', Int.le_refl, and_self, true_and, and_true, false_and, and_false, bne_self_eq_false, beq_self_eq_true, Int.reduceEq, Nat.reduceEqDiff, List.length_singleton, List.tail_cons, Int.reduceLE, Int.reduceLT, decide_eq_true_eq]
      exact Ev2.now _
    · refine ⟨x, by omega, Ev2.succ ?_⟩
      simp only [spec_DrawCheck.l0_eq, h0, rd_agg, rd_f1, hf, k0, book_agg, strs_len, strs_elem, ints_len, ints_elem, items_list, fld_agg, elem_list, toStr_sc, toInt_sc, toBool_sc, headD_one, nat_int, get_bt, decide_eq_true_eq, decide_eq_false_iff_not, decide_true, decide_false, if_true, if_false, ite_self, Bool.not_true, Bool.not_false, Bool.false_eq_true, Bool.true_eq_false, Bool.true_and, Bool.false_and, Bool.and_true, Bool.and_false, not_true, not_false_iff, Option.bind_some, nn, toList_inj, Bool.not_eq_true', Bool.not_eq_false', Int.le_refl, and_self, true_and, and_true, false_and, and_false, bne_self_eq_false, beq_self_eq_true, Int.reduceEq, Nat.reduceEqDiff, List.length_singleton, List.tail_cons, Int.reduceLE, Int.reduceLT, decide_eq_true_eq]
      exact Ev2.now _
  | succ c ih =>
    intro p x hp hx
    have h0 : (0 : Int) < ((c + 1 : Nat) : Int) := by omega
    have w1 : IntKind.i64.wrap (((c + 1 : Nat) : Int) - 1) = (c : Int) := nat_wrap (by omega) (by omega)
    obtain ⟨y, q1, y1, y2, y3⟩ := l13Of_ev hb hD p (by omega)
    obtain ⟨z, q2, z1, z2, z3, z4⟩ := word_ev hb q1 (by omega)
    obtain ⟨L1, hL1⟩ : ∃ L1, L1 = [y, z, ByteArray.mk #[67, 65, 84], ByteArray.mk #[68, 111], ByteArray.mk #[116, 111, 111, 108, 111, 110, 103, 97, 119, 111, 114, 100, 102, 111, 114, 116, 104, 105, 115], ByteArray.mk #[49]] := ⟨_, rfl⟩
    have e1 : PV.list [PV.sc (.string y), PV.sc (.string z), PV.sc (.string (ByteArray.mk #[67, 65, 84])), PV.sc (.string (ByteArray.mk #[68, 111])), PV.sc (.string (ByteArray.mk #[116, 111, 111, 108, 111, 110, 103, 97, 119, 111, 114, 100, 102, 111, 114, 116, 104, 105, 115])), PV.sc (.string (ByteArray.mk #[49]))] = strsP L1 := by rw [hL1]; rfl
    have hsz1 : ∀ s ∈ L1, s.size ≤ 20 := fun s hs => by
      rw [hL1] at hs
      simp only [List.mem_cons, List.not_mem_nil, or_false] at hs
      rcases hs with rfl | rfl | rfl | rfl | rfl | rfl
      · omega
      · omega
      all_goals decide
    obtain ⟨u, hu, hf1⟩ := of_ev hb (p := (q2 : Int)) (by omega) L1 (by rw [hL1]; simp)
    have hus := hsz1 u hu
    have hq2 : (q2 : Int) + 1 = ((q2 + 1 : Nat) : Int) := by omega
    rw [hq2] at hf1
    obtain ⟨v, hv, hf2⟩ := of_ev hb (p := ((q2 + 1 : Nat) : Int)) (by omega) [ByteArray.mk #[32], ByteArray.mk #[44, 32], ByteArray.mk #[46], ByteArray.mk #[10], ByteArray.mk #[39]] (by simp)
    have hvs : v.size ≤ 2 := (szs_in (l := [ByteArray.mk #[32], ByteArray.mk #[44, 32], ByteArray.mk #[46], ByteArray.mk #[10], ByteArray.mk #[39]]) (a := 0) (b := 2) rfl v hv).2
    have hq3 : ((q2 + 1 : Nat) : Int) + 1 = ((q2 + 2 : Nat) : Int) := by omega
    rw [hq3] at hf2
    have e2 : PV.list [PV.sc (.string (ByteArray.mk #[32])), PV.sc (.string (ByteArray.mk #[44, 32])), PV.sc (.string (ByteArray.mk #[46])), PV.sc (.string (ByteArray.mk #[10])), PV.sc (.string (ByteArray.mk #[39]))] = strsP [ByteArray.mk #[32], ByteArray.mk #[44, 32], ByteArray.mk #[46], ByteArray.mk #[10], ByteArray.mk #[39]] := rfl
    have zx : (x ++ u).size = x.size + u.size := ByteArray.size_append
    have zx2 : (x ++ u ++ v).size = (x ++ u).size + v.size := ByteArray.size_append
    have c1 : (x.size + u.size ≤ 9223372036854775807) = True := tru (by omega)
    have c2 : ((x ++ u).size + v.size ≤ 9223372036854775807) = True := tru (by omega)
    obtain ⟨s, r1, r2⟩ := ih (q2 + 2) (x ++ u ++ v) (by omega) (by omega)
    refine ⟨s, r1, Ev2.succ ?_⟩
    simp only [spec_DrawCheck.l0_eq, h0, rd_agg, book_agg, strs_len, strs_elem, ints_len, ints_elem, items_list, fld_agg, elem_list, toStr_sc, toInt_sc, toBool_sc, headD_one, nat_int, get_bt, decide_eq_true_eq, decide_eq_false_iff_not, decide_true, decide_false, if_true, if_false, ite_self, Bool.not_true, Bool.not_false, Bool.false_eq_true, Bool.true_eq_false, Bool.true_and, Bool.false_and, Bool.and_true, Bool.and_false, not_true, not_false_iff, Option.bind_some, nn, toList_inj, Bool.not_eq_true', Bool.not_eq_false', Int.le_refl, and_self, true_and, and_true, false_and, and_false, bne_self_eq_false, beq_self_eq_true, Int.reduceEq, Nat.reduceEqDiff, List.length_singleton, List.tail_cons, Int.reduceLE, Int.reduceLT, decide_eq_true_eq]
    refine Ev2.bind y3 ?_
    simp only [rd_f1, rd_agg, strs_len, strs_elem, ints_len, ints_elem, items_list, fld_agg, elem_list, toStr_sc, toInt_sc, toBool_sc, headD_one, nat_int, get_bt, decide_eq_true_eq, decide_eq_false_iff_not, decide_true, decide_false, if_true, if_false, ite_self, Bool.not_true, Bool.not_false, Bool.false_eq_true, Bool.true_eq_false, Bool.true_and, Bool.false_and, Bool.and_true, Bool.and_false, not_true, not_false_iff, Option.bind_some, nn, toList_inj, Bool.not_eq_true', Bool.not_eq_false', Int.le_refl, and_self, true_and, and_true, false_and, and_false, bne_self_eq_false, beq_self_eq_true, Int.reduceEq, Nat.reduceEqDiff, List.length_singleton, List.tail_cons, Int.reduceLE, Int.reduceLT, decide_eq_true_eq]
    refine Ev2.bind z4 ?_
    simp only [rd_f1, rd_agg, e1, hf1, c1, e2, hf2, c2, w1, strs_len, strs_elem, ints_len, ints_elem, items_list, fld_agg, elem_list, toStr_sc, toInt_sc, toBool_sc, headD_one, nat_int, get_bt, decide_eq_true_eq, decide_eq_false_iff_not, decide_true, decide_false, if_true, if_false, ite_self, Bool.not_true, Bool.not_false, Bool.false_eq_true, Bool.true_eq_false, Bool.true_and, Bool.false_and, Bool.and_true, Bool.and_false, not_true, not_false_iff, Option.bind_some, nn, toList_inj, Bool.not_eq_true', Bool.not_eq_false', Int.le_refl, and_self, true_and, and_true, false_and, and_false, bne_self_eq_false, beq_self_eq_true, Int.reduceEq, Nat.reduceEqDiff, List.length_singleton, List.tail_cons, Int.reduceLE, Int.reduceLT, decide_eq_true_eq]
    exact r2
theorem drawCheck_ev {l : List PV} (hl : l.length ≤ 1048576) (hby : ∀ j, 0 ≤ ((PV.list l).elem j).toInt ∧ ((PV.list l).elem j).toInt ≤ 255) :
    ∃ (af : List Aff) (es : List Ent) (s : ByteArray), BookD af es ∧ s.size ≤ 1000000 ∧ Ev (fun N => spec_DrawCheck.f N [PV.list l]) [bookP af es, strP s] := by
  obtain ⟨b, hb, hop⟩ := open_ev hl hby
  obtain ⟨af, es, q0, a1, hD, a3⟩ := anyBook_ev hb 0 (by omega)
  simp only [Int.natCast_zero] at a3
  obtain ⟨k, hk, hf⟩ := pick_ev hb (p := (q0 : Int)) (n := 7) (by omega) (by omega)
  obtain ⟨k, rfl⟩ := Int.eq_ofNat_of_zero_le hk.1
  have hq0 : (q0 : Int) + 1 = ((q0 + 1 : Nat) : Int) := by omega
  rw [hq0] at hf
  obtain ⟨s, r1, r2⟩ := check_l0 hb hD k (q0 + 1) ⟨#[]⟩ (by omega) (by have : (⟨#[]⟩ : ByteArray).size = 0 := rfl; omega)
  refine ⟨af, es, s, hD, r1, ?_⟩
  simp only [spec_DrawCheck.f_eq, hop, rd_f0, rd_f1, rd_agg, strs_len, strs_elem, ints_len, ints_elem, items_list, fld_agg, elem_list, toStr_sc, toInt_sc, toBool_sc, headD_one, nat_int, get_bt, decide_eq_true_eq, decide_eq_false_iff_not, decide_true, decide_false, if_true, if_false, ite_self, Bool.not_true, Bool.not_false, Bool.false_eq_true, Bool.true_eq_false, Bool.true_and, Bool.false_and, Bool.and_true, Bool.and_false, not_true, not_false_iff, Option.bind_some, nn, toList_inj, Bool.not_eq_true', Bool.not_eq_false', Int.le_refl, and_self, true_and, and_true, false_and, and_false, bne_self_eq_false, beq_self_eq_true, Int.reduceEq, Nat.reduceEqDiff, List.length_singleton, List.tail_cons, Int.reduceLE, Int.reduceLT, decide_eq_true_eq]
  refine Ev.bind a3 ?_
  simp only [rd_f0, rd_f1, rd_agg, book_f0, book_f1, hf, strs_len, strs_elem, ints_len, ints_elem, items_list, fld_agg, elem_list, toStr_sc, toInt_sc, toBool_sc, headD_one, nat_int, get_bt, decide_eq_true_eq, decide_eq_false_iff_not, decide_true, decide_false, if_true, if_false, ite_self, Bool.not_true, Bool.not_false, Bool.false_eq_true, Bool.true_eq_false, Bool.true_and, Bool.false_and, Bool.and_true, Bool.and_false, not_true, not_false_iff, Option.bind_some, nn, toList_inj, Bool.not_eq_true', Bool.not_eq_false', Int.le_refl, and_self, true_and, and_true, false_and, and_false, bne_self_eq_false, beq_self_eq_true, Int.reduceEq, Nat.reduceEqDiff, List.length_singleton, List.tail_cons, Int.reduceLE, Int.reduceLT, decide_eq_true_eq]
  exact r2.diag
theorem mdHas_ev {a : List ByteArray} (ha : a.length ≤ 9223372036854775807) (s : ByteArray) : Ev (fun N => laws_mdHas.f N [strsP a, PV.sc (.string s)]) [boolP (decide (s ∈ a))] := by
  have key : ∀ rest pre : List ByteArray, a = pre ++ rest → Ev2 (fun N n => laws_mdHas.l0 N n (strsP a) s (pre.length : Int)) [boolP (decide (s ∈ rest))] := by
    intro rest
    induction rest with
    | nil =>
      intro pre hp
      refine Ev2.succ ?_
      simp only [laws_mdHas.l0_eq, at_end hp, strs_len, strs_elem, ints_len, ints_elem, items_list, fld_agg, elem_list, toStr_sc, toInt_sc, toBool_sc, headD_one, nat_int, get_bt, decide_eq_true_eq, decide_eq_false_iff_not, decide_true, decide_false, if_true, if_false, ite_self, Bool.not_true, Bool.not_false, Bool.false_eq_true, Bool.true_eq_false, Bool.true_and, Bool.false_and, Bool.and_true, Bool.and_false, not_true, not_false_iff, Option.bind_some, nn, toList_inj, Bool.not_eq_true', Bool.not_eq_false', Int.le_refl, and_self, true_and, and_true, false_and, and_false, bne_self_eq_false, beq_self_eq_true, Int.reduceEq, Nat.reduceEqDiff, List.length_singleton, List.tail_cons, Int.reduceLE, Int.reduceLT, decide_eq_true_eq]
      exact Ev2.ext (Ev2.now _) (by simp)
    | cons c rest ih =>
      intro pre hp
      refine Ev2.succ ?_
      by_cases hc : c = s
      · simp only [laws_mdHas.l0_eq, at_lt hp, at_getD hp, hc, strs_len, strs_elem, ints_len, ints_elem, items_list, fld_agg, elem_list, toStr_sc, toInt_sc, toBool_sc, headD_one, nat_int, get_bt, decide_eq_true_eq, decide_eq_false_iff_not, decide_true, decide_false, if_true, if_false, ite_self, Bool.not_true, Bool.not_false, Bool.false_eq_true, Bool.true_eq_false, Bool.true_and, Bool.false_and, Bool.and_true, Bool.and_false, not_true, not_false_iff, Option.bind_some, nn, toList_inj, Bool.not_eq_true', Bool.not_eq_false', Int.le_refl, and_self, true_and, and_true, false_and, and_false, bne_self_eq_false, beq_self_eq_true, Int.reduceEq, Nat.reduceEqDiff, List.length_singleton, List.tail_cons, Int.reduceLE, Int.reduceLT, decide_eq_true_eq]
        exact Ev2.ext (Ev2.now _) (by simp)
      · have hd : decide (s ∈ c :: rest) = decide (s ∈ rest) := by simp [Ne.symm hc]
        simp only [laws_mdHas.l0_eq, at_lt hp, at_getD hp, hc, at_next hp ha, hd, strs_len, strs_elem, ints_len, ints_elem, items_list, fld_agg, elem_list, toStr_sc, toInt_sc, toBool_sc, headD_one, nat_int, get_bt, decide_eq_true_eq, decide_eq_false_iff_not, decide_true, decide_false, if_true, if_false, ite_self, Bool.not_true, Bool.not_false, Bool.false_eq_true, Bool.true_eq_false, Bool.true_and, Bool.false_and, Bool.and_true, Bool.and_false, not_true, not_false_iff, Option.bind_some, nn, toList_inj, Bool.not_eq_true', Bool.not_eq_false', Int.le_refl, and_self, true_and, and_true, false_and, and_false, bne_self_eq_false, beq_self_eq_true, Int.reduceEq, Nat.reduceEqDiff, List.length_singleton, List.tail_cons, Int.reduceLE, Int.reduceLT, decide_eq_true_eq]
        exact ih _ (at_step hp)
  simp only [laws_mdHas.f_eq, strs_len, strs_elem, ints_len, ints_elem, items_list, fld_agg, elem_list, toStr_sc, toInt_sc, toBool_sc, headD_one, nat_int, get_bt, decide_eq_true_eq, decide_eq_false_iff_not, decide_true, decide_false, if_true, if_false, ite_self, Bool.not_true, Bool.not_false, Bool.false_eq_true, Bool.true_eq_false, Bool.true_and, Bool.false_and, Bool.and_true, Bool.and_false, not_true, not_false_iff, Option.bind_some, nn, toList_inj, Bool.not_eq_true', Bool.not_eq_false', Int.le_refl, and_self, true_and, and_true, false_and, and_false, bne_self_eq_false, beq_self_eq_true, Int.reduceEq, Nat.reduceEqDiff, List.length_singleton, List.tail_cons, Int.reduceLE, Int.reduceLT, decide_eq_true_eq]
  exact (key a [] rfl).diag
def eqG (x g : Gs) : Bool := decide (x.1 = g.1) && decide ((x.2 : Int) = (g.2 : Int))
theorem eqG_self (g : Gs) : eqG g g = true := by simp [eqG]
theorem eqG_fold (x g : Gs) : (decide (x.1 = g.1) && decide ((x.2 : Int) = (g.2 : Int))) = eqG x g := rfl
theorem some_l1 {own : PV} {s : ByteArray} {af : List Aff} {es : List Ent} {L C : List Gs} (hL : L.length ≤ 1000000) (hC : C.length ≤ 1000000) {pl rl : List Gs} {g : Gs} (hp : L = pl ++ g :: rl) {r : List PV}
    (hc : Ev3 (fun N m n => laws_FnUserCheck.l1 N m n s (pl.length : Int) true (C.length : Int) own (gsP L) (gsP C) (affsP af) (entsP es)) r) :
    ∀ (rest pre : List Gs) (k : Bool), C = pre ++ rest → (k = true ∨ g ∈ rest) → Ev3 (fun N m n => laws_FnUserCheck.l1 N m n s (pl.length : Int) k (pre.length : Int) own (gsP L) (gsP C) (affsP af) (entsP es)) r := by
  intro rest
  induction rest with
  | nil =>
    intro pre k hq hk
    rcases hk with rfl | hk
    · have : pre.length = C.length := by rw [hq]; simp
      rw [this]; exact hc
    · cases hk
  | cons x rest ih =>
    intro pre k hq hk
    refine Ev3.succ ?_
    cases k with
    | true =>
      simp only [laws_FnUserCheck.l1_eq, gs_len, at_lt hq, at_next hq (by omega), strs_len, strs_elem, ints_len, ints_elem, items_list, fld_agg, elem_list, toStr_sc, toInt_sc, toBool_sc, headD_one, nat_int, get_bt, decide_eq_true_eq, decide_eq_false_iff_not, decide_true, decide_false, if_true, if_false, ite_self, Bool.not_true, Bool.not_false, Bool.false_eq_true, Bool.true_eq_false, Bool.true_and, Bool.false_and, Bool.and_true, Bool.and_false, not_true, not_false_iff, Option.bind_some, nn, toList_inj, Bool.not_eq_true', Bool.not_eq_false', Int.le_refl, and_self, true_and, and_true, false_and, and_false, bne_self_eq_false, beq_self_eq_true, Int.reduceEq, Nat.reduceEqDiff, List.length_singleton, List.tail_cons, Int.reduceLE, Int.reduceLT, decide_eq_true_eq]
      exact ih _ true (at_step hq) (.inl rfl)
    | false =>
      have hg : eqG x g = true ∨ g ∈ rest := by
        rcases hk with hk | hk
        · cases hk
        · rcases List.mem_cons.1 hk with rfl | hk
          · exact .inl (eqG_self _)
          · exact .inr hk
      simp only [laws_FnUserCheck.l1_eq, gs_len, gs_elem hq, gs_elem hp, at_lt hq, at_lt hp, g_f0, g_f1, at_next hq (by omega), strs_len, strs_elem, ints_len, ints_elem, items_list, fld_agg, elem_list, toStr_sc, toInt_sc, toBool_sc, headD_one, nat_int, get_bt, decide_eq_true_eq, decide_eq_false_iff_not, decide_true, decide_false, if_true, if_false, ite_self, Bool.not_true, Bool.not_false, Bool.false_eq_true, Bool.true_eq_false, Bool.true_and, Bool.false_and, Bool.and_true, Bool.and_false, not_true, not_false_iff, Option.bind_some, nn, toList_inj, Bool.not_eq_true', Bool.not_eq_false', Int.le_refl, and_self, true_and, and_true, false_and, and_false, bne_self_eq_false, beq_self_eq_true, Int.reduceEq, Nat.reduceEqDiff, List.length_singleton, List.tail_cons, Int.reduceLE, Int.reduceLT, decide_eq_true_eq]
      simp only [eqG_fold]
      exact ih _ (eqG x g) (at_step hq) hg
theorem law (ps : List PV) (h : PvOkL (PvOk Tryz.prog 8) [22] ps) : ∃ N, laws_FnUserCheck.f N ps = some [boolP true] := by
  obtain ⟨l, rfl, hby⟩ := code_args (P := Tryz.prog) (t := 22) (e := 5) (by kernel_rfl) (by kernel_rfl) h
  refine Ev.some ?_
  have hit : (PV.list l).items = l := rfl
  simp only [laws_FnUserCheck.f_eq, hit]
  by_cases hbig : (1048576 : Int) < (l.length : Int)
  · simp only [hbig, strs_len, strs_elem, ints_len, ints_elem, items_list, fld_agg, elem_list, toStr_sc, toInt_sc, toBool_sc, headD_one, nat_int, get_bt, decide_eq_true_eq, decide_eq_false_iff_not, decide_true, decide_false, if_true, if_false, ite_self, Bool.not_true, Bool.not_false, Bool.false_eq_true, Bool.true_eq_false, Bool.true_and, Bool.false_and, Bool.and_true, Bool.and_false, not_true, not_false_iff, Option.bind_some, nn, toList_inj, Bool.not_eq_true', Bool.not_eq_false', Int.le_refl, and_self, true_and, and_true, false_and, and_false, bne_self_eq_false, beq_self_eq_true, Int.reduceEq, Nat.reduceEqDiff, List.length_singleton, List.tail_cons, Int.reduceLE, Int.reduceLT, decide_eq_true_eq]; exact Ev.now _
  obtain ⟨af, es, s, hD, hs, hdr⟩ := drawCheck_ev (l := l) (by omega) hby
  obtain ⟨b, hb, hop⟩ := open_ev (l := l) (by omega) hby
  obtain ⟨own, q, o1, o2, o3⟩ := own_ev hb 0 (by omega)
  simp only [Int.natCast_zero] at o3
  have hS := hD.s
  have hol := o2.n
  have hos : ∀ x ∈ own, x.size ≤ 1000000000 := fun x hx => by have := o2.s x hx; omega
  have hdu : Ev (fun N => spec_DrawUserCheck.f N [PV.list l]) [bookP af es, strsP own, strP s] := by
    simp only [spec_DrawUserCheck.f_eq]
    refine Ev.bind hdr ?_
    simp only [hop, rd_f0, rd_f1, rd_agg, book_f0, book_f1, book_agg, strs_len, strs_elem, ints_len, ints_elem, items_list, fld_agg, elem_list, toStr_sc, toInt_sc, toBool_sc, headD_one, nat_int, get_bt, decide_eq_true_eq, decide_eq_false_iff_not, decide_true, decide_false, if_true, if_false, ite_self, Bool.not_true, Bool.not_false, Bool.false_eq_true, Bool.true_eq_false, Bool.true_and, Bool.false_and, Bool.and_true, Bool.and_false, not_true, not_false_iff, Option.bind_some, nn, toList_inj, Bool.not_eq_true', Bool.not_eq_false', Int.le_refl, and_self, true_and, and_true, false_and, and_false, bne_self_eq_false, beq_self_eq_true, Int.reduceEq, Nat.reduceEqDiff, List.length_singleton, List.tail_cons, Int.reduceLE, Int.reduceLT, decide_eq_true_eq]
    refine Ev.bind o3 ?_
    simp only [strs_len, strs_elem, ints_len, ints_elem, items_list, fld_agg, elem_list, toStr_sc, toInt_sc, toBool_sc, headD_one, nat_int, get_bt, decide_eq_true_eq, decide_eq_false_iff_not, decide_true, decide_false, if_true, if_false, ite_self, Bool.not_true, Bool.not_false, Bool.false_eq_true, Bool.true_eq_false, Bool.true_and, Bool.false_and, Bool.and_true, Bool.and_false, not_true, not_false_iff, Option.bind_some, nn, toList_inj, Bool.not_eq_true', Bool.not_eq_false', Int.le_refl, and_self, true_and, and_true, false_and, and_false, bne_self_eq_false, beq_self_eq_true, Int.reduceEq, Nat.reduceEqDiff, List.length_singleton, List.tail_cons, Int.reduceLE, Int.reduceLT, decide_eq_true_eq]
    exact Ev.now _
  have hsp := specUser_ev (own := own) (by omega) hos hS s
  have him := implUser_ev (own := own) (by omega) hos hS s
  have him0 := implUser_ev (own := []) (by simp) (by simp) hS s
  have hck := implCheck_ev hS s
  have hll := userR_len own af es s
  have hcl := checkR_len af es s
  have hle : (userR own af es s).length ≤ (userR [] af es s).length := by
    have e0 : userR [] af es s = (checkR af es s).filter (keepG [] af es) := by unfold userR; rfl
    rw [e0]
    unfold userR
    split
    · generalize checkR af es s = C
      induction C with
      | nil => simp
      | cons g C ih =>
        by_cases h1 : keepG own af es g = true
        · have h2 : keepG [] af es g = true := by
            unfold keepG at h1 ⊢
            simp only [Bool.and_eq_true] at h1
            simp [h1.2]
          rw [List.filter_cons_of_pos h1, List.filter_cons_of_pos h2, List.length_cons, List.length_cons]; omega
        · rw [List.filter_cons_of_neg h1]
          refine Nat.le_trans ih ?_
          by_cases h2 : keepG [] af es g = true
          · rw [List.filter_cons_of_pos h2, List.length_cons]; omega
          · rw [List.filter_cons_of_neg h2]; exact Nat.le_refl _
    · simp
  have hmem : ∀ g ∈ userR own af es s, g ∈ checkR af es s ∧ g.1 ∉ own ∧ partsR af es g.1 = [] := fun g hg => by
    unfold userR at hg
    split at hg
    · rw [List.mem_filter] at hg
      obtain ⟨h1, h2⟩ := hg
      unfold keepG at h2
      simp only [Bool.and_eq_true, Bool.not_eq_true', decide_eq_false_iff_not, decide_eq_true_eq] at h2
      exact ⟨h1, h2.1, h2.2⟩
    · cases hg
  have hsz : ∀ g ∈ checkR af es s, g.1.size ≤ 1000 ∧ g.2 ≤ 1000 := checkR_size
  obtain ⟨L, hL⟩ : ∃ L, L = userR own af es s := ⟨_, rfl⟩
  obtain ⟨C, hC⟩ : ∃ C, C = checkR af es s := ⟨_, rfl⟩
  obtain ⟨Z, hZ⟩ : ∃ Z, Z = userR [] af es s := ⟨_, rfl⟩
  rw [← hZ] at him0 hle
  rw [← hL] at hsp him hll hle hmem
  rw [← hC] at hck hcl hmem hsz
  clear hL hC hZ
  have ne : PV.list [] = strsP [] := rfl
  have cle : ((L.length : Int) ≤ (Z.length : Int)) = True := tru (by omega)
  have key : ∀ (rest pre : List Gs), L = pre ++ rest → Ev2 (fun N n => laws_FnUserCheck.l0 N n s (pre.length : Int) (strsP own) (gsP L) (gsP C) (affsP af) (entsP es)) [boolP true] := by
    intro rest
    induction rest with
    | nil =>
      intro pre hp
      refine Ev2.succ ?_
      simp only [laws_FnUserCheck.l0_eq, gs_len, at_end hp, book_agg, ne, strs_len, strs_elem, ints_len, ints_elem, items_list, fld_agg, elem_list, toStr_sc, toInt_sc, toBool_sc, headD_one, nat_int, get_bt, decide_eq_true_eq, decide_eq_false_iff_not, decide_true, decide_false, if_true, if_false, ite_self, Bool.not_true, Bool.not_false, Bool.false_eq_true, Bool.true_eq_false, Bool.true_and, Bool.false_and, Bool.and_true, Bool.and_false, not_true, not_false_iff, Option.bind_some, nn, toList_inj, Bool.not_eq_true', Bool.not_eq_false', Int.le_refl, and_self, true_and, and_true, false_and, and_false, bne_self_eq_false, beq_self_eq_true, Int.reduceEq, Nat.reduceEqDiff, List.length_singleton, List.tail_cons, Int.reduceLE, Int.reduceLT, decide_eq_true_eq]
      refine Ev2.bind him0 ?_
      simp only [gs_len, cle, strs_len, strs_elem, ints_len, ints_elem, items_list, fld_agg, elem_list, toStr_sc, toInt_sc, toBool_sc, headD_one, nat_int, get_bt, decide_eq_true_eq, decide_eq_false_iff_not, decide_true, decide_false, if_true, if_false, ite_self, Bool.not_true, Bool.not_false, Bool.false_eq_true, Bool.true_eq_false, Bool.true_and, Bool.false_and, Bool.and_true, Bool.and_false, not_true, not_false_iff, Option.bind_some, nn, toList_inj, Bool.not_eq_true', Bool.not_eq_false', Int.le_refl, and_self, true_and, and_true, false_and, and_false, bne_self_eq_false, beq_self_eq_true, Int.reduceEq, Nat.reduceEqDiff, List.length_singleton, List.tail_cons, Int.reduceLE, Int.reduceLT, decide_eq_true_eq]
      exact Ev2.now _
    | cons g rest ih =>
      intro pre hp
      obtain ⟨m1, m2, m3⟩ := hmem g (by rw [hp]; simp)
      obtain ⟨z1, z2⟩ := hsz g m1
      have hpa := implParts_ev hS g.1 (by omega)
      simp only [strP] at hpa
      have hnext := ih _ (at_step hp)
      rw [m3] at hpa
      have c0 : ((0 : Int) < (([] : List ByteArray).length : Int)) = False := fls (by simp)
      have cC : ((C.length : Int) < (C.length : Int)) = False := fls (by omega)
      have hend : Ev3 (fun N m n => laws_FnUserCheck.l1 N m n s (pre.length : Int) true (C.length : Int) (strsP own) (gsP L) (gsP C) (affsP af) (entsP es)) [boolP true] := by
        refine Ev3.succ ?_
        simp only [laws_FnUserCheck.l1_eq, gs_len, cC, gs_elem hp, at_lt hp, g_f0, book_agg, strs_len, strs_elem, ints_len, ints_elem, items_list, fld_agg, elem_list, toStr_sc, toInt_sc, toBool_sc, headD_one, nat_int, get_bt, decide_eq_true_eq, decide_eq_false_iff_not, decide_true, decide_false, if_true, if_false, ite_self, Bool.not_true, Bool.not_false, Bool.false_eq_true, Bool.true_eq_false, Bool.true_and, Bool.false_and, Bool.and_true, Bool.and_false, not_true, not_false_iff, Option.bind_some, nn, toList_inj, Bool.not_eq_true', Bool.not_eq_false', Int.le_refl, and_self, true_and, and_true, false_and, and_false, bne_self_eq_false, beq_self_eq_true, Int.reduceEq, Nat.reduceEqDiff, List.length_singleton, List.tail_cons, Int.reduceLE, Int.reduceLT, decide_eq_true_eq]
        refine Ev3.bind (mdHas_ev (by omega) g.1) ?_
        simp only [m2, strs_len, strs_elem, ints_len, ints_elem, items_list, fld_agg, elem_list, toStr_sc, toInt_sc, toBool_sc, headD_one, nat_int, get_bt, decide_eq_true_eq, decide_eq_false_iff_not, decide_true, decide_false, if_true, if_false, ite_self, Bool.not_true, Bool.not_false, Bool.false_eq_true, Bool.true_eq_false, Bool.true_and, Bool.false_and, Bool.and_true, Bool.and_false, not_true, not_false_iff, Option.bind_some, nn, toList_inj, Bool.not_eq_true', Bool.not_eq_false', Int.le_refl, and_self, true_and, and_true, false_and, and_false, bne_self_eq_false, beq_self_eq_true, Int.reduceEq, Nat.reduceEqDiff, List.length_singleton, List.tail_cons, Int.reduceLE, Int.reduceLT, decide_eq_true_eq]
        refine Ev3.bind hpa ?_
        simp only [c0, at_next hp (by omega), strs_len, strs_elem, ints_len, ints_elem, items_list, fld_agg, elem_list, toStr_sc, toInt_sc, toBool_sc, headD_one, nat_int, get_bt, decide_eq_true_eq, decide_eq_false_iff_not, decide_true, decide_false, if_true, if_false, ite_self, Bool.not_true, Bool.not_false, Bool.false_eq_true, Bool.true_eq_false, Bool.true_and, Bool.false_and, Bool.and_true, Bool.and_false, not_true, not_false_iff, Option.bind_some, nn, toList_inj, Bool.not_eq_true', Bool.not_eq_false', Int.le_refl, and_self, true_and, and_true, false_and, and_false, bne_self_eq_false, beq_self_eq_true, Int.reduceEq, Nat.reduceEqDiff, List.length_singleton, List.tail_cons, Int.reduceLE, Int.reduceLT, decide_eq_true_eq]
        exact hnext.outer
      refine Ev2.succ ?_
      simp only [laws_FnUserCheck.l0_eq, gs_len, at_lt hp, strs_len, strs_elem, ints_len, ints_elem, items_list, fld_agg, elem_list, toStr_sc, toInt_sc, toBool_sc, headD_one, nat_int, get_bt, decide_eq_true_eq, decide_eq_false_iff_not, decide_true, decide_false, if_true, if_false, ite_self, Bool.not_true, Bool.not_false, Bool.false_eq_true, Bool.true_eq_false, Bool.true_and, Bool.false_and, Bool.and_true, Bool.and_false, not_true, not_false_iff, Option.bind_some, nn, toList_inj, Bool.not_eq_true', Bool.not_eq_false', Int.le_refl, and_self, true_and, and_true, false_and, and_false, bne_self_eq_false, beq_self_eq_true, Int.reduceEq, Nat.reduceEqDiff, List.length_singleton, List.tail_cons, Int.reduceLE, Int.reduceLT, decide_eq_true_eq]
      exact (some_l1 (by omega) (by omega) hp hend C [] false rfl (.inr m1)).start
  simp only [hbig, strs_len, strs_elem, ints_len, ints_elem, items_list, fld_agg, elem_list, toStr_sc, toInt_sc, toBool_sc, headD_one, nat_int, get_bt, decide_eq_true_eq, decide_eq_false_iff_not, decide_true, decide_false, if_true, if_false, ite_self, Bool.not_true, Bool.not_false, Bool.false_eq_true, Bool.true_eq_false, Bool.true_and, Bool.false_and, Bool.and_true, Bool.and_false, not_true, not_false_iff, Option.bind_some, nn, toList_inj, Bool.not_eq_true', Bool.not_eq_false', Int.le_refl, and_self, true_and, and_true, false_and, and_false, bne_self_eq_false, beq_self_eq_true, Int.reduceEq, Nat.reduceEqDiff, List.length_singleton, List.tail_cons, Int.reduceLE, Int.reduceLT, decide_eq_true_eq]
  refine Ev.bind hdu ?_
  simp only [book_f0, book_f1, book_agg, strs_len, strs_elem, ints_len, ints_elem, items_list, fld_agg, elem_list, toStr_sc, toInt_sc, toBool_sc, headD_one, nat_int, get_bt, decide_eq_true_eq, decide_eq_false_iff_not, decide_true, decide_false, if_true, if_false, ite_self, Bool.not_true, Bool.not_false, Bool.false_eq_true, Bool.true_eq_false, Bool.true_and, Bool.false_and, Bool.and_true, Bool.and_false, not_true, not_false_iff, Option.bind_some, nn, toList_inj, Bool.not_eq_true', Bool.not_eq_false', Int.le_refl, and_self, true_and, and_true, false_and, and_false, bne_self_eq_false, beq_self_eq_true, Int.reduceEq, Nat.reduceEqDiff, List.length_singleton, List.tail_cons, Int.reduceLE, Int.reduceLT, decide_eq_true_eq]
  refine Ev.bind him ?_
  refine Ev.bind hsp ?_
  simp only [strs_len, strs_elem, ints_len, ints_elem, items_list, fld_agg, elem_list, toStr_sc, toInt_sc, toBool_sc, headD_one, nat_int, get_bt, decide_eq_true_eq, decide_eq_false_iff_not, decide_true, decide_false, if_true, if_false, ite_self, Bool.not_true, Bool.not_false, Bool.false_eq_true, Bool.true_eq_false, Bool.true_and, Bool.false_and, Bool.and_true, Bool.and_false, not_true, not_false_iff, Option.bind_some, nn, toList_inj, Bool.not_eq_true', Bool.not_eq_false', Int.le_refl, and_self, true_and, and_true, false_and, and_false, bne_self_eq_false, beq_self_eq_true, Int.reduceEq, Nat.reduceEqDiff, List.length_singleton, List.tail_cons, Int.reduceLE, Int.reduceLT, decide_eq_true_eq]
  refine Ev.bind (mdGuesses_ev L (by omega)) ?_
  simp only [strs_len, strs_elem, ints_len, ints_elem, items_list, fld_agg, elem_list, toStr_sc, toInt_sc, toBool_sc, headD_one, nat_int, get_bt, decide_eq_true_eq, decide_eq_false_iff_not, decide_true, decide_false, if_true, if_false, ite_self, Bool.not_true, Bool.not_false, Bool.false_eq_true, Bool.true_eq_false, Bool.true_and, Bool.false_and, Bool.and_true, Bool.and_false, not_true, not_false_iff, Option.bind_some, nn, toList_inj, Bool.not_eq_true', Bool.not_eq_false', Int.le_refl, and_self, true_and, and_true, false_and, and_false, bne_self_eq_false, beq_self_eq_true, Int.reduceEq, Nat.reduceEqDiff, List.length_singleton, List.tail_cons, Int.reduceLE, Int.reduceLT, decide_eq_true_eq]
  refine Ev.bind hck ?_
  simp only [strs_len, strs_elem, ints_len, ints_elem, items_list, fld_agg, elem_list, toStr_sc, toInt_sc, toBool_sc, headD_one, nat_int, get_bt, decide_eq_true_eq, decide_eq_false_iff_not, decide_true, decide_false, if_true, if_false, ite_self, Bool.not_true, Bool.not_false, Bool.false_eq_true, Bool.true_eq_false, Bool.true_and, Bool.false_and, Bool.and_true, Bool.and_false, not_true, not_false_iff, Option.bind_some, nn, toList_inj, Bool.not_eq_true', Bool.not_eq_false', Int.le_refl, and_self, true_and, and_true, false_and, and_false, bne_self_eq_false, beq_self_eq_true, Int.reduceEq, Nat.reduceEqDiff, List.length_singleton, List.tail_cons, Int.reduceLE, Int.reduceLT, decide_eq_true_eq]
  exact (key L [] rfl).diag
end Go.Proofs.YtoiigoflkhmjnaaGreatDoor.FnUserCheck
