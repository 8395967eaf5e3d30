/- The law FnExactUserAdd, over the trees that its functions compute: it answers true, for all arguments of the bounds that the row grants. -/
import Derived.Test.YtpnbhcifhbnaaaaFnFnExactUserAddx1
set_option linter.unusedVariables false
set_option linter.unusedSimpArgs false
set_option maxRecDepth 10000
namespace Go.Proofs.Ytpnbhcifhbnaaaa.FnExactUserAdd
open Go Go.Proofs.YtpnbhcifhbnaaaaAm
/-! #### the laws' own helpers over slices: size -/
/-- The size that a list of strings takes up. -/
def szStrs (a : List ByteArray) : Int := (a.length : Int) + (a.map fun s => (s.size : Int)).sum
theorem sum_nonneg (l : List ByteArray) : 0 ≤ (l.map fun s : ByteArray => (s.size : Int)).sum := by
  induction l with
  | nil => exact Int.le_refl _
  | cons c l ih => simp only [List.map_cons, List.sum_cons]; omega
theorem szStringS_loop (a : List ByteArray) (ha : a.length ≤ 9223372036854775807) (hs : ∀ s ∈ a, s.size ≤ 9223372036854775807) : ∀ rest pre : List ByteArray, a = pre ++ rest → ∀ left : Int, 0 ≤ left → left ≤ 1048576 →
    ∃ r, Ev2 (fun N n => laws_szStringS.l0 N n (strsP a) left (pre.length : Int)) [intP r] ∧ r ≤ left ∧ (0 ≤ r → r = left - (rest.map fun s => (s.size : Int)).sum) := by
  intro rest
  induction rest with
  | nil =>
    intro pre hp left h0 h1
    refine ⟨left, Ev2.succ ?_, Int.le_refl _, fun _ => by simp⟩
    simp only [laws_szStringS.l0_eq, strs_len, decide_eq_true_eq, if_neg (at_end hp)]
    exact Ev2.now _
  | cons c rest ih =>
    intro pre hp left h0 h1
    have hc : c.size ≤ 9223372036854775807 := hs c (by rw [hp]; simp)
    have hw : IntKind.i64.wrap (left - (c.size : Int)) = left - c.size := wrap_id (by omega) (by omega)
    by_cases hneg : left - (c.size : Int) < 0
    · refine ⟨-1, Ev2.succ ?_, by omega, fun h => by omega⟩
      simp only [laws_szStringS.l0_eq, strs_len, strs_elem, nat_int, decide_eq_true_eq, if_pos (at_lt hp), if_pos (nn (n := pre.length)), at_getD hp, hw, if_pos hneg]
      exact Ev2.now _
    · obtain ⟨r, hr, hle, hv⟩ := ih _ (at_step hp) (left - c.size) (by omega) (by omega)
      refine ⟨r, Ev2.succ ?_, by omega, fun h => by rw [hv h]; simp only [List.map_cons, List.sum_cons]; omega⟩
      simp only [laws_szStringS.l0_eq, strs_len, strs_elem, nat_int, decide_eq_true_eq, if_pos (at_lt hp), if_pos (nn (n := pre.length)), at_getD hp, hw, if_neg hneg, at_next hp ha]
      exact hr
theorem szStringS_ev (a : List ByteArray) (ha : a.length ≤ 9223372036854775807) (hs : ∀ s ∈ a, s.size ≤ 9223372036854775807) (left : Int) (h0 : 0 ≤ left) (h1 : left ≤ 1048576) :
    ∃ r, Ev (fun N => laws_szStringS.f N [strsP a, intP left]) [intP r] ∧ r ≤ left ∧ (0 ≤ r → r = left - szStrs a) := by
  have hw : IntKind.i64.wrap (left - (a.length : Int)) = left - a.length := wrap_id (by omega) (by omega)
  by_cases hneg : left - (a.length : Int) < 0
  · refine ⟨-1, ?_, by omega, fun h => by omega⟩
    simp only [laws_szStringS.f_eq, strs_len, toInt_sc, decide_eq_true_eq, hw, if_pos hneg]
    exact Ev.now _
  · obtain ⟨r, hr, hle, hv⟩ := szStringS_loop a ha hs a [] rfl (left - a.length) (by omega) (by omega)
    refine ⟨r, ?_, by omega, fun h => by rw [hv h]; unfold szStrs; omega⟩
    simp only [laws_szStringS.f_eq, strs_len, toInt_sc, decide_eq_true_eq, hw, if_neg hneg]
    exact hr.diag
theorem szStrs_len (a : List ByteArray) : (a.length : Int) ≤ szStrs a := by have := sum_nonneg a; unfold szStrs; omega
theorem szStrs_mem (a : List ByteArray) (s : ByteArray) (h : s ∈ a) : (s.size : Int) + a.length ≤ szStrs a := by
  unfold szStrs
  have : (s.size : Int) ≤ (a.map fun s => (s.size : Int)).sum := by
    induction a with
    | nil => cases h
    | cons c l ih =>
      simp only [List.map_cons, List.sum_cons]
      have := sum_nonneg l
      rcases List.mem_cons.1 h with rfl | h
      · omega
      · have := ih h; omega
  omega
/-! #### the laws' own helpers over slices of strings: comparison, copy -/
theorem eqStringS_loop (a : List ByteArray) (ha : a.length ≤ 9223372036854775807) : ∀ rest pre : List ByteArray, a = pre ++ rest → Ev2 (fun N n => laws_eqStringS.l0 N n (strsP a) (strsP a) (pre.length : Int)) [boolP true] := by
  intro rest
  induction rest with
  | nil =>
    intro pre hp
    refine Ev2.succ ?_
    simp only [laws_eqStringS.l0_eq, strs_len, decide_eq_true_eq, if_neg (at_end hp)]
    exact Ev2.now _
  | cons c rest ih =>
    intro pre hp
    refine Ev2.succ ?_
    simp only [laws_eqStringS.l0_eq, strs_len, decide_eq_true_eq, if_pos (at_lt hp), if_pos (nn (n := pre.length)), decide_true, Bool.not_true, Bool.false_eq_true, if_false, at_next hp ha]
    exact ih _ (at_step hp)
theorem eqStringS_ev (a : List ByteArray) (ha : a.length ≤ 9223372036854775807) : Ev (fun N => laws_eqStringS.f N [strsP a, strsP a]) [boolP true] := by
  simp only [laws_eqStringS.f_eq, decide_true, Bool.not_true, Bool.false_eq_true, if_false]
  exact (eqStringS_loop a ha a [] rfl).diag
theorem toStringS_loop (a : List ByteArray) (ha : a.length ≤ 9223372036854775807) : ∀ rest pre : List ByteArray, a = pre ++ rest → ∀ z : List PV, z.length = rest.length → Ev2 (fun N n => laws_toStringS.l0 N n (strsP a) (pre.length : Int) (pre.map strP ++ z)) [strsP a] := by
  intro rest
  induction rest with
  | nil =>
    intro pre hp z hz
    obtain rfl : z = [] := List.eq_nil_of_length_eq_zero hz
    refine Ev2.succ ?_
    simp only [laws_toStringS.l0_eq, strs_len, decide_eq_true_eq, if_neg (at_end hp)]
    rw [List.append_nil] at hp ⊢
    rw [← hp]
    exact Ev2.now _
  | cons c rest ih =>
    intro pre hp z hz
    obtain ⟨y, z, rfl⟩ : ∃ y z', z = y :: z' := List.exists_cons_of_ne_nil (by rintro rfl; simp at hz)
    refine Ev2.succ ?_
    have hl : (pre.length : Int) < ((pre.map strP ++ y :: z).length : Int) := by simp; omega
    have hset : (pre.map strP ++ y :: z).set pre.length (strP c) = (pre ++ [c]).map strP ++ z := by
      have := set_mid (pre.map strP) y (strP c) z
      rw [List.length_map] at this; rw [this]; simp
    simp only [laws_toStringS.l0_eq, strs_len, strs_elem, nat_int, decide_eq_true_eq, if_pos (at_lt hp), if_pos (nn (n := pre.length)), if_pos hl, at_next hp ha, at_getD hp, hset]
    exact ih _ (at_step hp) z (by simpa using hz)
theorem toStringS_ev (a : List ByteArray) (ha : a.length ≤ 17592186044416) : Ev (fun N => laws_toStringS.f N [strsP a]) [strsP a] := by
  simp only [laws_toStringS.f_eq, ha, strs_len, strs_elem, ints_len, ints_elem, items_list, fld_agg, elem_list, toStr_sc, toInt_sc, toBool_sc, headD_one, nat_int, get_bt, decide_eq_true_eq, decide_eq_false_iff_not, decide_true, decide_false, if_true, if_false, ite_self, Bool.not_true, Bool.not_false, Bool.false_eq_true, Bool.true_eq_false, Bool.true_and, Bool.false_and, Bool.and_true, Bool.and_false, not_true, not_false_iff, Option.bind_some, nn, toList_inj, Bool.not_eq_true', Bool.not_eq_false', Int.le_refl, and_self, true_and, and_true, false_and, and_false, bne_self_eq_false, beq_self_eq_true, Int.reduceEq, Nat.reduceEqDiff, List.length_singleton, List.tail_cons, Int.reduceLE, Int.reduceLT, decide_eq_true_eq]
  exact (toStringS_loop a (by omega) a [] rfl _ (by simp)).diag
/-! #### marks -/
theorem ten_zero : ((10 : Int) = 0) = False := by simp
theorem one_byte (p : PV) : (bytesOfL [p]).size = 1 := rfl
theorem markText_loop : ∀ (n : Nat) (x : Int) (t : ByteArray), x < (n : Int) → t.size + n ≤ 9223372036854775000 → ∃ r, Ev2 (fun N m => laws_markText.l0 N m x t) [strP r] := by
  intro n
  induction n with
  | zero =>
    intro x t hx ht
    refine ⟨(⟨#[109]⟩ : ByteArray) ++ t, Ev2.succ ?_⟩
    have hsz : (ByteArray.mk #[109]).size + t.size ≤ 9223372036854775807 := by have : (ByteArray.mk #[109]).size = 1 := rfl; omega
    simp only [laws_markText.l0_eq, eq_false (show ¬ 0 < x by omega), hsz, strs_len, strs_elem, ints_len, ints_elem, items_list, fld_agg, elem_list, toStr_sc, toInt_sc, toBool_sc, headD_one, nat_int, get_bt, decide_eq_true_eq, decide_eq_false_iff_not, decide_true, decide_false, if_true, if_false, ite_self, Bool.not_true, Bool.not_false, Bool.false_eq_true, Bool.true_eq_false, Bool.true_and, Bool.false_and, Bool.and_true, Bool.and_false, not_true, not_false_iff, Option.bind_some, nn, toList_inj, Bool.not_eq_true', Bool.not_eq_false', Int.le_refl, and_self, true_and, and_true, false_and, and_false, bne_self_eq_false, beq_self_eq_true, Int.reduceEq, Nat.reduceEqDiff, List.length_singleton, List.tail_cons, Int.reduceLE, Int.reduceLT, decide_eq_true_eq]
    exact Ev2.now _
  | succ n ih =>
    intro x t hx ht
    by_cases h0 : 0 < x
    · have hd : Int.tdiv x 10 < (n : Int) := by
        rw [Int.tdiv_eq_ediv_of_nonneg (by omega)]; omega
      have hdn : 0 ≤ Int.tdiv x 10 := by rw [Int.tdiv_eq_ediv_of_nonneg (by omega)]; omega
      have hw : IntKind.i64.wrap (Int.tdiv x 10) = Int.tdiv x 10 := wrap_id (by omega) (by omega)
      obtain ⟨r, hr⟩ := ih (Int.tdiv x 10) (bytesOfL [(PV.sc (.int .u8 (IntKind.u8.wrap (IntKind.i64.wrap (48 + (Int.tmod x 10))))))] ++ t) hd (by rw [ByteArray.size_append, one_byte]; omega)
      refine ⟨r, Ev2.succ ?_⟩
      have hsz : 1 + t.size ≤ 9223372036854775807 := by omega
      simp only [laws_markText.l0_eq, h0, ten_zero, one_byte, hsz, hw, strs_len, strs_elem, ints_len, ints_elem, items_list, fld_agg, elem_list, toStr_sc, toInt_sc, toBool_sc, headD_one, nat_int, get_bt, decide_eq_true_eq, decide_eq_false_iff_not, decide_true, decide_false, if_true, if_false, ite_self, Bool.not_true, Bool.not_false, Bool.false_eq_true, Bool.true_eq_false, Bool.true_and, Bool.false_and, Bool.and_true, Bool.and_false, not_true, not_false_iff, Option.bind_some, nn, toList_inj, Bool.not_eq_true', Bool.not_eq_false', Int.le_refl, and_self, true_and, and_true, false_and, and_false, bne_self_eq_false, beq_self_eq_true, Int.reduceEq, Nat.reduceEqDiff, List.length_singleton, List.tail_cons, Int.reduceLE, Int.reduceLT, decide_eq_true_eq]
      exact hr
    · refine ⟨(⟨#[109]⟩ : ByteArray) ++ t, Ev2.succ ?_⟩
      have hsz : (ByteArray.mk #[109]).size + t.size ≤ 9223372036854775807 := by have : (ByteArray.mk #[109]).size = 1 := rfl; omega
      simp only [laws_markText.l0_eq, h0, hsz, strs_len, strs_elem, ints_len, ints_elem, items_list, fld_agg, elem_list, toStr_sc, toInt_sc, toBool_sc, headD_one, nat_int, get_bt, decide_eq_true_eq, decide_eq_false_iff_not, decide_true, decide_false, if_true, if_false, ite_self, Bool.not_true, Bool.not_false, Bool.false_eq_true, Bool.true_eq_false, Bool.true_and, Bool.false_and, Bool.and_true, Bool.and_false, not_true, not_false_iff, Option.bind_some, nn, toList_inj, Bool.not_eq_true', Bool.not_eq_false', Int.le_refl, and_self, true_and, and_true, false_and, and_false, bne_self_eq_false, beq_self_eq_true, Int.reduceEq, Nat.reduceEqDiff, List.length_singleton, List.tail_cons, Int.reduceLE, Int.reduceLT, decide_eq_true_eq]
      exact Ev2.now _
theorem markText_total (x : Int) (hx : x < 4611686018427387904) : ∃ r, Ev (fun N => laws_markText.f N [intP x]) [strP r] := by
  by_cases h : x ≤ 0
  · refine ⟨(⟨#[109, 48]⟩ : ByteArray), ?_⟩
    simp only [laws_markText.f_eq, h, strs_len, strs_elem, ints_len, ints_elem, items_list, fld_agg, elem_list, toStr_sc, toInt_sc, toBool_sc, headD_one, nat_int, get_bt, decide_eq_true_eq, decide_eq_false_iff_not, decide_true, decide_false, if_true, if_false, ite_self, Bool.not_true, Bool.not_false, Bool.false_eq_true, Bool.true_eq_false, Bool.true_and, Bool.false_and, Bool.and_true, Bool.and_false, not_true, not_false_iff, Option.bind_some, nn, toList_inj, Bool.not_eq_true', Bool.not_eq_false', Int.le_refl, and_self, true_and, and_true, false_and, and_false, bne_self_eq_false, beq_self_eq_true, Int.reduceEq, Nat.reduceEqDiff, List.length_singleton, List.tail_cons, Int.reduceLE, Int.reduceLT, decide_eq_true_eq]; exact Ev.now _
  · obtain ⟨r, hr⟩ := markText_loop x.toNat.succ x ⟨#[]⟩ (by omega) (by simp [ByteArray.size]; omega)
    refine ⟨r, ?_⟩
    simp only [laws_markText.f_eq, h, strs_len, strs_elem, ints_len, ints_elem, items_list, fld_agg, elem_list, toStr_sc, toInt_sc, toBool_sc, headD_one, nat_int, get_bt, decide_eq_true_eq, decide_eq_false_iff_not, decide_true, decide_false, if_true, if_false, ite_self, Bool.not_true, Bool.not_false, Bool.false_eq_true, Bool.true_eq_false, Bool.true_and, Bool.false_and, Bool.and_true, Bool.and_false, not_true, not_false_iff, Option.bind_some, nn, toList_inj, Bool.not_eq_true', Bool.not_eq_false', Int.le_refl, and_self, true_and, and_true, false_and, and_false, bne_self_eq_false, beq_self_eq_true, Int.reduceEq, Nat.reduceEqDiff, List.length_singleton, List.tail_cons, Int.reduceLE, Int.reduceLT, decide_eq_true_eq]
    exact hr.diag
noncomputable def mt (x : Int) : ByteArray := if h : x < 4611686018427387904 then Classical.choose (markText_total x h) else ByteArray.empty
theorem markText_ev (x : Int) (hx : x < 4611686018427387904) : Ev (fun N => laws_markText.f N [intP x]) [strP (mt x)] := by
  unfold mt
  rw [dif_pos hx]
  exact Classical.choose_spec (markText_total x hx)
noncomputable def markStrs : Int → List ByteArray → List ByteArray
  | _, [] => []
  | k, _ :: l => mt k :: markStrs (k + 1) l
theorem markStrs_len (k : Int) (l : List ByteArray) : (markStrs k l).length = l.length := by
  induction l generalizing k with
  | nil => rfl
  | cons c l ih => simp [markStrs, ih]
theorem markStringS_loop (n : Nat) (hn : n ≤ 1152921504606846976) : ∀ rest pre : List ByteArray, pre.length + rest.length = n → ∀ x : Int, x + rest.length < 4611686018427387904 → 0 ≤ x →
    Ev2 (fun N m => laws_markStringS.l1 N m x (pre.length : Int) ((pre ++ rest).map strP)) [intP (x + rest.length), strsP (pre ++ markStrs x rest)] := by
  intro rest
  induction rest with
  | nil =>
    intro pre hp x hx h0
    refine Ev2.succ ?_
    simp only [laws_markStringS.l1_eq, List.length_map, at_end (xs := pre ++ []) rfl, markStrs, List.length_nil, Int.natCast_zero, Int.add_zero, strs_len, strs_elem, ints_len, ints_elem, items_list, fld_agg, elem_list, toStr_sc, toInt_sc, toBool_sc, headD_one, nat_int, get_bt, decide_eq_true_eq, decide_eq_false_iff_not, decide_true, decide_false, if_true, if_false, ite_self, Bool.not_true, Bool.not_false, Bool.false_eq_true, Bool.true_eq_false, Bool.true_and, Bool.false_and, Bool.and_true, Bool.and_false, not_true, not_false_iff, Option.bind_some, nn, toList_inj, Bool.not_eq_true', Bool.not_eq_false', Int.le_refl, and_self, true_and, and_true, false_and, and_false, bne_self_eq_false, beq_self_eq_true, Int.reduceEq, Nat.reduceEqDiff, List.length_singleton, List.tail_cons, Int.reduceLE, Int.reduceLT, decide_eq_true_eq]
    exact Ev2.now _
  | cons c rest ih =>
    intro pre hp x hx h0
    simp only [List.length_cons] at hx hp
    have hset : ((pre ++ c :: rest).map strP).set pre.length (strP (mt x)) = ((pre ++ [mt x]) ++ rest).map strP := by
      simp
    refine Ev2.succ ?_
    simp only [laws_markStringS.l1_eq, List.length_map, at_lt (xs := pre ++ c :: rest) rfl, at_next (xs := pre ++ c :: rest) rfl (by simp; omega), wrap_id (n := x + 1) (by omega) (by omega), strs_len, strs_elem, ints_len, ints_elem, items_list, fld_agg, elem_list, toStr_sc, toInt_sc, toBool_sc, headD_one, nat_int, get_bt, decide_eq_true_eq, decide_eq_false_iff_not, decide_true, decide_false, if_true, if_false, ite_self, Bool.not_true, Bool.not_false, Bool.false_eq_true, Bool.true_eq_false, Bool.true_and, Bool.false_and, Bool.and_true, Bool.and_false, not_true, not_false_iff, Option.bind_some, nn, toList_inj, Bool.not_eq_true', Bool.not_eq_false', Int.le_refl, and_self, true_and, and_true, false_and, and_false, bne_self_eq_false, beq_self_eq_true, Int.reduceEq, Nat.reduceEqDiff, List.length_singleton, List.tail_cons, Int.reduceLE, Int.reduceLT, decide_eq_true_eq]
    refine Ev2.bind (markText_ev x (by omega)) ?_
    simp only [strs_len, strs_elem, ints_len, ints_elem, items_list, fld_agg, elem_list, toStr_sc, toInt_sc, toBool_sc, headD_one, nat_int, get_bt, decide_eq_true_eq, decide_eq_false_iff_not, decide_true, decide_false, if_true, if_false, ite_self, Bool.not_true, Bool.not_false, Bool.false_eq_true, Bool.true_eq_false, Bool.true_and, Bool.false_and, Bool.and_true, Bool.and_false, not_true, not_false_iff, Option.bind_some, nn, toList_inj, Bool.not_eq_true', Bool.not_eq_false', Int.le_refl, and_self, true_and, and_true, false_and, and_false, bne_self_eq_false, beq_self_eq_true, Int.reduceEq, Nat.reduceEqDiff, List.length_singleton, List.tail_cons, Int.reduceLE, Int.reduceLT, decide_eq_true_eq, hset]
    have := ih (pre ++ [mt x]) (by simp; omega) (x + 1) (by omega) (by omega)
    have e : (pre ++ [mt x]).length = (pre ++ [c]).length := by simp
    rw [e] at this
    refine Ev2.ext this ?_
    simp only [markStrs, List.append_assoc, List.cons_append, List.nil_append, List.length_cons]
    congr 1
    simp; omega
theorem markStringS_ev (l : List ByteArray) (x : Int) (hl : l.length ≤ 1152921504606846976) (hx : x + l.length < 4611686018427387904) (h0 : 0 ≤ x) :
    Ev (fun N => laws_markStringS.f N [strsP l, intP x]) [intP (x + l.length), strsP (markStrs x l)] := by
  simp only [laws_markStringS.f_eq, strs_len, strs_elem, ints_len, ints_elem, items_list, fld_agg, elem_list, toStr_sc, toInt_sc, toBool_sc, headD_one, nat_int, get_bt, decide_eq_true_eq, decide_eq_false_iff_not, decide_true, decide_false, if_true, if_false, ite_self, Bool.not_true, Bool.not_false, Bool.false_eq_true, Bool.true_eq_false, Bool.true_and, Bool.false_and, Bool.and_true, Bool.and_false, not_true, not_false_iff, Option.bind_some, nn, toList_inj, Bool.not_eq_true', Bool.not_eq_false', Int.le_refl, and_self, true_and, and_true, false_and, and_false, bne_self_eq_false, beq_self_eq_true, Int.reduceEq, Nat.reduceEqDiff, List.length_singleton, List.tail_cons, Int.reduceLE, Int.reduceLT, decide_eq_true_eq]
  refine Ev2.diag (g := fun N n => laws_markStringS.l0 N n x 0 (strsP l)) (Ev2.succ ?_)
  cases l with
  | nil =>
    have h00 : ¬ (0 : Int) < (([] : List ByteArray).length : Int) := by simp
    simp only [laws_markStringS.l0_eq, strs_len, strs_elem, ints_len, ints_elem, items_list, fld_agg, elem_list, toStr_sc, toInt_sc, toBool_sc, headD_one, nat_int, get_bt, decide_eq_true_eq, decide_eq_false_iff_not, decide_true, decide_false, if_true, if_false, ite_self, Bool.not_true, Bool.not_false, Bool.false_eq_true, Bool.true_eq_false, Bool.true_and, Bool.false_and, Bool.and_true, Bool.and_false, not_true, not_false_iff, Option.bind_some, nn, toList_inj, Bool.not_eq_true', Bool.not_eq_false', Int.le_refl, and_self, true_and, and_true, false_and, and_false, bne_self_eq_false, beq_self_eq_true, Int.reduceEq, Nat.reduceEqDiff, List.length_singleton, List.tail_cons, Int.reduceLE, Int.reduceLT, decide_eq_true_eq, h00]
    refine Ev2.ext (Ev2.now _) ?_
    simp [markStrs]
  | cons c rest =>
    have hp : c :: rest = [] ++ c :: rest := rfl
    simp only [List.length_cons] at hx hl
    have hset : ((strsP (c :: rest)).items.set 0 (strP (mt x))) = (([] ++ [mt x]) ++ rest).map strP := by simp [strsP, PV.items]
    have h00 : (0 : Int) < (((c :: rest).length : Nat) : Int) := by simp only [List.length_cons]; omega
    have h01 : IntKind.i64.wrap (0 + 1) = (([] ++ [mt x] : List ByteArray).length : Int) := by rw [wrap_id (by omega) (by omega)]; simp
    simp only [laws_markStringS.l0_eq, strs_len, strs_elem, ints_len, ints_elem, items_list, fld_agg, elem_list, toStr_sc, toInt_sc, toBool_sc, headD_one, nat_int, get_bt, decide_eq_true_eq, decide_eq_false_iff_not, decide_true, decide_false, if_true, if_false, ite_self, Bool.not_true, Bool.not_false, Bool.false_eq_true, Bool.true_eq_false, Bool.true_and, Bool.false_and, Bool.and_true, Bool.and_false, not_true, not_false_iff, Option.bind_some, nn, toList_inj, Bool.not_eq_true', Bool.not_eq_false', Int.le_refl, and_self, true_and, and_true, false_and, and_false, bne_self_eq_false, beq_self_eq_true, Int.reduceEq, Nat.reduceEqDiff, List.length_singleton, List.tail_cons, Int.reduceLE, Int.reduceLT, decide_eq_true_eq, h00, h01, wrap_id (n := x + 1) (by omega) (by omega)]
    refine Ev2.bind (markText_ev x (by omega)) ?_
    have h02 : (0 : Int).toNat = 0 := rfl
    simp only [strs_len, strs_elem, ints_len, ints_elem, items_list, fld_agg, elem_list, toStr_sc, toInt_sc, toBool_sc, headD_one, nat_int, get_bt, decide_eq_true_eq, decide_eq_false_iff_not, decide_true, decide_false, if_true, if_false, ite_self, Bool.not_true, Bool.not_false, Bool.false_eq_true, Bool.true_eq_false, Bool.true_and, Bool.false_and, Bool.and_true, Bool.and_false, not_true, not_false_iff, Option.bind_some, nn, toList_inj, Bool.not_eq_true', Bool.not_eq_false', Int.le_refl, and_self, true_and, and_true, false_and, and_false, bne_self_eq_false, beq_self_eq_true, Int.reduceEq, Nat.reduceEqDiff, List.length_singleton, List.tail_cons, Int.reduceLE, Int.reduceLT, decide_eq_true_eq, h02, hset]
    refine Ev2.ext (markStringS_loop (rest.length + 1) (by omega) rest ([] ++ [mt x]) (by simp; omega) (x + 1) (by omega) (by omega)) ?_
    simp only [markStrs, List.append_assoc, List.cons_append, List.nil_append, List.length_cons]
    congr 1
    simp; omega
theorem heldStringS_loop (n : Nat) (hn : n ≤ 1152921504606846976) : ∀ rest pre : List ByteArray, pre.length + rest.length = n → ∀ x : Int, x + rest.length < 4611686018427387904 → 0 ≤ x →
    Ev2 (fun N m => laws_heldStringS.l0 N m (strsP (pre ++ markStrs x rest)) x (pre.length : Int)) [intP (x + rest.length)] := by
  intro rest
  induction rest with
  | nil =>
    intro pre hp x hx h0
    show Ev2 (fun N m => laws_heldStringS.l0 N m (strsP (pre ++ [])) x (pre.length : Int)) _
    refine Ev2.succ ?_
    simp only [laws_heldStringS.l0_eq, at_end (xs := pre ++ []) rfl, List.length_nil, Int.natCast_zero, Int.add_zero, strs_len, strs_elem, ints_len, ints_elem, items_list, fld_agg, elem_list, toStr_sc, toInt_sc, toBool_sc, headD_one, nat_int, get_bt, decide_eq_true_eq, decide_eq_false_iff_not, decide_true, decide_false, if_true, if_false, ite_self, Bool.not_true, Bool.not_false, Bool.false_eq_true, Bool.true_eq_false, Bool.true_and, Bool.false_and, Bool.and_true, Bool.and_false, not_true, not_false_iff, Option.bind_some, nn, toList_inj, Bool.not_eq_true', Bool.not_eq_false', Int.le_refl, and_self, true_and, and_true, false_and, and_false, bne_self_eq_false, beq_self_eq_true, Int.reduceEq, Nat.reduceEqDiff, List.length_singleton, List.tail_cons, Int.reduceLE, Int.reduceLT, decide_eq_true_eq]
    exact Ev2.now _
  | cons c rest ih =>
    intro pre hp x hx h0
    simp only [List.length_cons] at hx hp
    show Ev2 (fun N m => laws_heldStringS.l0 N m (strsP (pre ++ mt x :: markStrs (x + 1) rest)) x (pre.length : Int)) _
    have hq : pre ++ mt x :: markStrs (x + 1) rest = pre ++ mt x :: markStrs (x + 1) rest := rfl
    refine Ev2.succ ?_
    simp only [laws_heldStringS.l0_eq, at_lt hq, at_getD hq, at_next hq (by simp [markStrs_len]; omega), wrap_id (n := x + 1) (by omega) (by omega), strs_len, strs_elem, ints_len, ints_elem, items_list, fld_agg, elem_list, toStr_sc, toInt_sc, toBool_sc, headD_one, nat_int, get_bt, decide_eq_true_eq, decide_eq_false_iff_not, decide_true, decide_false, if_true, if_false, ite_self, Bool.not_true, Bool.not_false, Bool.false_eq_true, Bool.true_eq_false, Bool.true_and, Bool.false_and, Bool.and_true, Bool.and_false, not_true, not_false_iff, Option.bind_some, nn, toList_inj, Bool.not_eq_true', Bool.not_eq_false', Int.le_refl, and_self, true_and, and_true, false_and, and_false, bne_self_eq_false, beq_self_eq_true, Int.reduceEq, Nat.reduceEqDiff, List.length_singleton, List.tail_cons, Int.reduceLE, Int.reduceLT, decide_eq_true_eq]
    refine Ev2.bind (markText_ev x (by omega)) ?_
    simp only [strs_len, strs_elem, ints_len, ints_elem, items_list, fld_agg, elem_list, toStr_sc, toInt_sc, toBool_sc, headD_one, nat_int, get_bt, decide_eq_true_eq, decide_eq_false_iff_not, decide_true, decide_false, if_true, if_false, ite_self, Bool.not_true, Bool.not_false, Bool.false_eq_true, Bool.true_eq_false, Bool.true_and, Bool.false_and, Bool.and_true, Bool.and_false, not_true, not_false_iff, Option.bind_some, nn, toList_inj, Bool.not_eq_true', Bool.not_eq_false', Int.le_refl, and_self, true_and, and_true, false_and, and_false, bne_self_eq_false, beq_self_eq_true, Int.reduceEq, Nat.reduceEqDiff, List.length_singleton, List.tail_cons, Int.reduceLE, Int.reduceLT, decide_eq_true_eq]
    have := ih (pre ++ [mt x]) (by simp; omega) (x + 1) (by omega) (by omega)
    simp only [List.append_assoc, List.cons_append, List.nil_append] at this
    refine Ev2.ext this ?_
    congr 2
    simp; omega
theorem heldStringS_ev (l : List ByteArray) (x : Int) (hl : l.length ≤ 1152921504606846976) (hx : x + l.length < 4611686018427387904) (h0 : 0 ≤ x) :
    Ev (fun N => laws_heldStringS.f N [strsP (markStrs x l), intP x]) [intP (x + l.length)] := by
  simp only [laws_heldStringS.f_eq, strs_len, strs_elem, ints_len, ints_elem, items_list, fld_agg, elem_list, toStr_sc, toInt_sc, toBool_sc, headD_one, nat_int, get_bt, decide_eq_true_eq, decide_eq_false_iff_not, decide_true, decide_false, if_true, if_false, ite_self, Bool.not_true, Bool.not_false, Bool.false_eq_true, Bool.true_eq_false, Bool.true_and, Bool.false_and, Bool.and_true, Bool.and_false, not_true, not_false_iff, Option.bind_some, nn, toList_inj, Bool.not_eq_true', Bool.not_eq_false', Int.le_refl, and_self, true_and, and_true, false_and, and_false, bne_self_eq_false, beq_self_eq_true, Int.reduceEq, Nat.reduceEqDiff, List.length_singleton, List.tail_cons, Int.reduceLE, Int.reduceLT, decide_eq_true_eq]
  exact (heldStringS_loop l.length hl l [] (by simp) x hx h0).diag
/-! #### words -/
def isWord (s : ByteArray) : Bool := decide (1 ≤ s.size ∧ s.size ≤ 12) && (bytesOf s).all fun c => decide (97 ≤ c ∧ c ≤ 122)
def lowB (l : List Int) : Bool := l.all fun c => decide (97 ≤ c ∧ c ≤ 122)
theorem lowB_cons (c : Int) (l : List Int) : lowB (c :: l) = (decide (97 ≤ c ∧ c ≤ 122) && lowB l) := by simp [lowB]
def bLess (a b : ByteArray) : Bool := Op.bytesLess a.toList b.toList
theorem bLess_eq (a b : ByteArray) : Op.bytesLess a.toList b.toList = bLess a b := rfl
/-- Words, ascending, behind one (or none). -/
def ascW : Option ByteArray → List ByteArray → Bool
  | _, [] => true
  | none, c :: rest => isWord c && ascW (some c) rest
  | some q, c :: rest => isWord c && bLess q c && ascW (some c) rest
def wordsM (l : List ByteArray) (most : Int) : Bool := ascW none l && decide ((l.length : Int) ≤ most)
/-- What stands ahead of a place. -/
def Ahead (pre : List ByteArray) (p : Option ByteArray) : Prop := (pre = [] ∧ p = none) ∨ ∃ pre' q, pre = pre' ++ [q] ∧ p = some q
theorem Ahead.next (pre : List ByteArray) (c : ByteArray) : Ahead (pre ++ [c]) (some c) := .inr ⟨pre, c, rfl, rfl⟩
theorem at_prev {xs pre' rest : List ByteArray} {q : ByteArray} (hp : xs = (pre' ++ [q]) ++ rest) (hx : xs.length ≤ 9223372036854775807) :
    IntKind.i64.wrap (((pre' ++ [q]).length : Int) - 1) = (pre'.length : Int) ∧ (pre'.length : Int) < (xs.length : Int) ∧ xs.getD pre'.length ByteArray.empty = q ∧ (0 : Int) < ((pre' ++ [q]).length : Int) := by
  subst hp
  simp only [List.length_append, List.length_cons, List.length_nil] at hx ⊢
  refine ⟨?_, by omega, ?_, by omega⟩
  · rw [wrap_id (by omega) (by omega)]; omega
  · simp
theorem implWithin_val (a b c : Int) (N : Nat) : impl_within.f N [.sc (.int .i64 a), .sc (.int .i64 b), .sc (.int .i64 c)] = some [boolP (decide (b ≤ a ∧ a ≤ c))] := by
  simp only [impl_within.f_eq, strs_len, strs_elem, ints_len, ints_elem, items_list, fld_agg, elem_list, toStr_sc, toInt_sc, toBool_sc, headD_one, nat_int, get_bt, decide_eq_true_eq, decide_eq_false_iff_not, decide_true, decide_false, if_true, if_false, ite_self, Bool.not_true, Bool.not_false, Bool.false_eq_true, Bool.true_eq_false, Bool.true_and, Bool.false_and, Bool.and_true, Bool.and_false, not_true, not_false_iff, Option.bind_some, nn, toList_inj, Bool.not_eq_true', Bool.not_eq_false', Int.le_refl, and_self, true_and, and_true, false_and, and_false, bne_self_eq_false, beq_self_eq_true, Int.reduceEq, Nat.reduceEqDiff, List.length_singleton, List.tail_cons, Int.reduceLE, Int.reduceLT, decide_eq_true_eq]
  by_cases h1 : b ≤ a <;> by_cases h2 : a ≤ c <;> simp only [h1, h2, strs_len, strs_elem, ints_len, ints_elem, items_list, fld_agg, elem_list, toStr_sc, toInt_sc, toBool_sc, headD_one, nat_int, get_bt, decide_eq_true_eq, decide_eq_false_iff_not, decide_true, decide_false, if_true, if_false, ite_self, Bool.not_true, Bool.not_false, Bool.false_eq_true, Bool.true_eq_false, Bool.true_and, Bool.false_and, Bool.and_true, Bool.and_false, not_true, not_false_iff, Option.bind_some, nn, toList_inj, Bool.not_eq_true', Bool.not_eq_false', Int.le_refl, and_self, true_and, and_true, false_and, and_false, bne_self_eq_false, beq_self_eq_true, Int.reduceEq, Nat.reduceEqDiff, List.length_singleton, List.tail_cons, Int.reduceLE, Int.reduceLT, decide_eq_true_eq]
theorem implLower_loop (s : ByteArray) (hs : s.size ≤ 9223372036854775807) : ∀ rest pre : List Int, bytesOf s = pre ++ rest → Ev2 (fun N n => impl_lower.l0 N n s (s.size : Int) (pre.length : Int)) [boolP (lowB rest)] := by
  intro rest
  induction rest with
  | nil =>
    intro pre hp
    refine Ev2.succ ?_
    simp only [impl_lower.l0_eq, at_sizeE hp, strs_len, strs_elem, ints_len, ints_elem, items_list, fld_agg, elem_list, toStr_sc, toInt_sc, toBool_sc, headD_one, nat_int, get_bt, decide_eq_true_eq, decide_eq_false_iff_not, decide_true, decide_false, if_true, if_false, ite_self, Bool.not_true, Bool.not_false, Bool.false_eq_true, Bool.true_eq_false, Bool.true_and, Bool.false_and, Bool.and_true, Bool.and_false, not_true, not_false_iff, Option.bind_some, nn, toList_inj, Bool.not_eq_true', Bool.not_eq_false', Int.le_refl, and_self, true_and, and_true, false_and, and_false, bne_self_eq_false, beq_self_eq_true, Int.reduceEq, Nat.reduceEqDiff, List.length_singleton, List.tail_cons, Int.reduceLE, Int.reduceLT, decide_eq_true_eq]
    exact Ev2.now _
  | cons c rest ih =>
    intro pre hp
    refine Ev2.succ ?_
    simp only [impl_lower.l0_eq, strs_len, strs_elem, ints_len, ints_elem, items_list, fld_agg, elem_list, toStr_sc, toInt_sc, toBool_sc, headD_one, nat_int, get_bt, decide_eq_true_eq, decide_eq_false_iff_not, decide_true, decide_false, if_true, if_false, ite_self, Bool.not_true, Bool.not_false, Bool.false_eq_true, Bool.true_eq_false, Bool.true_and, Bool.false_and, Bool.and_true, Bool.and_false, not_true, not_false_iff, Option.bind_some, nn, toList_inj, Bool.not_eq_true', Bool.not_eq_false', Int.le_refl, and_self, true_and, and_true, false_and, and_false, bne_self_eq_false, beq_self_eq_true, Int.reduceEq, Nat.reduceEqDiff, List.length_singleton, List.tail_cons, Int.reduceLE, Int.reduceLT, decide_eq_true_eq, at_size hp, at_bt hp, at_next hp (by rw [bytesOf_len]; omega)]
    rw [lowB_cons]
    by_cases h1 : c < 97
    · simp only [h1, eq_false (show ¬ (97 ≤ c ∧ c ≤ 122) by omega), strs_len, strs_elem, ints_len, ints_elem, items_list, fld_agg, elem_list, toStr_sc, toInt_sc, toBool_sc, headD_one, nat_int, get_bt, decide_eq_true_eq, decide_eq_false_iff_not, decide_true, decide_false, if_true, if_false, ite_self, Bool.not_true, Bool.not_false, Bool.false_eq_true, Bool.true_eq_false, Bool.true_and, Bool.false_and, Bool.and_true, Bool.and_false, not_true, not_false_iff, Option.bind_some, nn, toList_inj, Bool.not_eq_true', Bool.not_eq_false', Int.le_refl, and_self, true_and, and_true, false_and, and_false, bne_self_eq_false, beq_self_eq_true, Int.reduceEq, Nat.reduceEqDiff, List.length_singleton, List.tail_cons, Int.reduceLE, Int.reduceLT, decide_eq_true_eq]; exact Ev2.now _
    by_cases h2 : 122 < c
    · simp only [h1, h2, eq_false (show ¬ (97 ≤ c ∧ c ≤ 122) by omega), strs_len, strs_elem, ints_len, ints_elem, items_list, fld_agg, elem_list, toStr_sc, toInt_sc, toBool_sc, headD_one, nat_int, get_bt, decide_eq_true_eq, decide_eq_false_iff_not, decide_true, decide_false, if_true, if_false, ite_self, Bool.not_true, Bool.not_false, Bool.false_eq_true, Bool.true_eq_false, Bool.true_and, Bool.false_and, Bool.and_true, Bool.and_false, not_true, not_false_iff, Option.bind_some, nn, toList_inj, Bool.not_eq_true', Bool.not_eq_false', Int.le_refl, and_self, true_and, and_true, false_and, and_false, bne_self_eq_false, beq_self_eq_true, Int.reduceEq, Nat.reduceEqDiff, List.length_singleton, List.tail_cons, Int.reduceLE, Int.reduceLT, decide_eq_true_eq]; exact Ev2.now _
    simp only [h1, h2, eq_true (show (97 ≤ c ∧ c ≤ 122) by omega), strs_len, strs_elem, ints_len, ints_elem, items_list, fld_agg, elem_list, toStr_sc, toInt_sc, toBool_sc, headD_one, nat_int, get_bt, decide_eq_true_eq, decide_eq_false_iff_not, decide_true, decide_false, if_true, if_false, ite_self, Bool.not_true, Bool.not_false, Bool.false_eq_true, Bool.true_eq_false, Bool.true_and, Bool.false_and, Bool.and_true, Bool.and_false, not_true, not_false_iff, Option.bind_some, nn, toList_inj, Bool.not_eq_true', Bool.not_eq_false', Int.le_refl, and_self, true_and, and_true, false_and, and_false, bne_self_eq_false, beq_self_eq_true, Int.reduceEq, Nat.reduceEqDiff, List.length_singleton, List.tail_cons, Int.reduceLE, Int.reduceLT, decide_eq_true_eq]
    exact ih _ (at_step hp)
theorem implLower_ev (s : ByteArray) (hs : s.size ≤ 9223372036854775807) : Ev (fun N => impl_lower.f N [strP s]) [boolP (lowB (bytesOf s))] := by
  simp only [impl_lower.f_eq, strs_len, strs_elem, ints_len, ints_elem, items_list, fld_agg, elem_list, toStr_sc, toInt_sc, toBool_sc, headD_one, nat_int, get_bt, decide_eq_true_eq, decide_eq_false_iff_not, decide_true, decide_false, if_true, if_false, ite_self, Bool.not_true, Bool.not_false, Bool.false_eq_true, Bool.true_eq_false, Bool.true_and, Bool.false_and, Bool.and_true, Bool.and_false, not_true, not_false_iff, Option.bind_some, nn, toList_inj, Bool.not_eq_true', Bool.not_eq_false', Int.le_refl, and_self, true_and, and_true, false_and, and_false, bne_self_eq_false, beq_self_eq_true, Int.reduceEq, Nat.reduceEqDiff, List.length_singleton, List.tail_cons, Int.reduceLE, Int.reduceLT, decide_eq_true_eq]
  exact (implLower_loop s hs (bytesOf s) [] rfl).diag
theorem implWord_ev (s : ByteArray) (hs : s.size ≤ 9223372036854775807) : Ev (fun N => impl_WordOk.f N [strP s]) [boolP (isWord s)] := by
  simp only [impl_WordOk.f_eq, implWithin_val, strs_len, strs_elem, ints_len, ints_elem, items_list, fld_agg, elem_list, toStr_sc, toInt_sc, toBool_sc, headD_one, nat_int, get_bt, decide_eq_true_eq, decide_eq_false_iff_not, decide_true, decide_false, if_true, if_false, ite_self, Bool.not_true, Bool.not_false, Bool.false_eq_true, Bool.true_eq_false, Bool.true_and, Bool.false_and, Bool.and_true, Bool.and_false, not_true, not_false_iff, Option.bind_some, nn, toList_inj, Bool.not_eq_true', Bool.not_eq_false', Int.le_refl, and_self, true_and, and_true, false_and, and_false, bne_self_eq_false, beq_self_eq_true, Int.reduceEq, Nat.reduceEqDiff, List.length_singleton, List.tail_cons, Int.reduceLE, Int.reduceLT, decide_eq_true_eq]
  by_cases h : 1 ≤ s.size ∧ s.size ≤ 12
  · simp only [eq_true (show (1 : Int) ≤ s.size ∧ (s.size : Int) ≤ 12 by omega), strs_len, strs_elem, ints_len, ints_elem, items_list, fld_agg, elem_list, toStr_sc, toInt_sc, toBool_sc, headD_one, nat_int, get_bt, decide_eq_true_eq, decide_eq_false_iff_not, decide_true, decide_false, if_true, if_false, ite_self, Bool.not_true, Bool.not_false, Bool.false_eq_true, Bool.true_eq_false, Bool.true_and, Bool.false_and, Bool.and_true, Bool.and_false, not_true, not_false_iff, Option.bind_some, nn, toList_inj, Bool.not_eq_true', Bool.not_eq_false', Int.le_refl, and_self, true_and, and_true, false_and, and_false, bne_self_eq_false, beq_self_eq_true, Int.reduceEq, Nat.reduceEqDiff, List.length_singleton, List.tail_cons, Int.reduceLE, Int.reduceLT, decide_eq_true_eq]
    refine Ev.bind (implLower_ev s hs) ?_
    refine Ev.ext (Ev.now _) ?_
    unfold isWord
    rw [decide_eq_true h, Bool.true_and]
    rfl
  · simp only [eq_false (show ¬ ((1 : Int) ≤ s.size ∧ (s.size : Int) ≤ 12) by omega), strs_len, strs_elem, ints_len, ints_elem, items_list, fld_agg, elem_list, toStr_sc, toInt_sc, toBool_sc, headD_one, nat_int, get_bt, decide_eq_true_eq, decide_eq_false_iff_not, decide_true, decide_false, if_true, if_false, ite_self, Bool.not_true, Bool.not_false, Bool.false_eq_true, Bool.true_eq_false, Bool.true_and, Bool.false_and, Bool.and_true, Bool.and_false, not_true, not_false_iff, Option.bind_some, nn, toList_inj, Bool.not_eq_true', Bool.not_eq_false', Int.le_refl, and_self, true_and, and_true, false_and, and_false, bne_self_eq_false, beq_self_eq_true, Int.reduceEq, Nat.reduceEqDiff, List.length_singleton, List.tail_cons, Int.reduceLE, Int.reduceLT, decide_eq_true_eq]
    refine Ev.ext (Ev.now _) ?_
    unfold isWord
    rw [decide_eq_false h, Bool.false_and]
theorem implWords_loop (a : List ByteArray) (m : Int) (ha : a.length ≤ 9223372036854775807) (hs : ∀ s ∈ a, s.size ≤ 9223372036854775807) : ∀ (rest pre : List ByteArray) (p : Option ByteArray), a = pre ++ rest → Ahead pre p →
    Ev2 (fun N n => impl_wordsOk.l0 N n (strsP a) m (strsP a) (a.length : Int) (pre.length : Int)) [boolP (ascW p rest && decide ((a.length : Int) ≤ m))] := by
  intro rest
  induction rest with
  | nil =>
    intro pre p hp _
    refine Ev2.succ ?_
    simp only [impl_wordsOk.l0_eq, strs_len, strs_elem, ints_len, ints_elem, items_list, fld_agg, elem_list, toStr_sc, toInt_sc, toBool_sc, headD_one, nat_int, get_bt, decide_eq_true_eq, decide_eq_false_iff_not, decide_true, decide_false, if_true, if_false, ite_self, Bool.not_true, Bool.not_false, Bool.false_eq_true, Bool.true_eq_false, Bool.true_and, Bool.false_and, Bool.and_true, Bool.and_false, not_true, not_false_iff, Option.bind_some, nn, toList_inj, Bool.not_eq_true', Bool.not_eq_false', Int.le_refl, and_self, true_and, and_true, false_and, and_false, bne_self_eq_false, beq_self_eq_true, Int.reduceEq, Nat.reduceEqDiff, List.length_singleton, List.tail_cons, Int.reduceLE, Int.reduceLT, decide_eq_true_eq, at_end hp, ascW]
    exact Ev2.now _
  | cons c rest ih =>
    intro pre p hp hA
    have hc : c.size ≤ 9223372036854775807 := hs c (by rw [hp]; simp)
    refine Ev2.succ ?_
    simp only [impl_wordsOk.l0_eq, strs_len, strs_elem, ints_len, ints_elem, items_list, fld_agg, elem_list, toStr_sc, toInt_sc, toBool_sc, headD_one, nat_int, get_bt, decide_eq_true_eq, decide_eq_false_iff_not, decide_true, decide_false, if_true, if_false, ite_self, Bool.not_true, Bool.not_false, Bool.false_eq_true, Bool.true_eq_false, Bool.true_and, Bool.false_and, Bool.and_true, Bool.and_false, not_true, not_false_iff, Option.bind_some, nn, toList_inj, Bool.not_eq_true', Bool.not_eq_false', Int.le_refl, and_self, true_and, and_true, false_and, and_false, bne_self_eq_false, beq_self_eq_true, Int.reduceEq, Nat.reduceEqDiff, List.length_singleton, List.tail_cons, Int.reduceLE, Int.reduceLT, decide_eq_true_eq, at_lt hp, at_getD hp, at_next hp ha]
    refine Ev2.bind (implWord_ev c hc) ?_
    have hnext := ih (pre ++ [c]) (some c) (at_step hp) (Ahead.next pre c)
    simp only [strs_len, strs_elem, ints_len, ints_elem, items_list, fld_agg, elem_list, toStr_sc, toInt_sc, toBool_sc, headD_one, nat_int, get_bt, decide_eq_true_eq, decide_eq_false_iff_not, decide_true, decide_false, if_true, if_false, ite_self, Bool.not_true, Bool.not_false, Bool.false_eq_true, Bool.true_eq_false, Bool.true_and, Bool.false_and, Bool.and_true, Bool.and_false, not_true, not_false_iff, Option.bind_some, nn, toList_inj, Bool.not_eq_true', Bool.not_eq_false', Int.le_refl, and_self, true_and, and_true, false_and, and_false, bne_self_eq_false, beq_self_eq_true, Int.reduceEq, Nat.reduceEqDiff, List.length_singleton, List.tail_cons, Int.reduceLE, Int.reduceLT, decide_eq_true_eq]
    rcases hA with ⟨rfl, rfl⟩ | ⟨pre', q, rfl, rfl⟩
    · rw [ascW]
      cases hw : isWord c with
      | false => simp only [strs_len, strs_elem, ints_len, ints_elem, items_list, fld_agg, elem_list, toStr_sc, toInt_sc, toBool_sc, headD_one, nat_int, get_bt, decide_eq_true_eq, decide_eq_false_iff_not, decide_true, decide_false, if_true, if_false, ite_self, Bool.not_true, Bool.not_false, Bool.false_eq_true, Bool.true_eq_false, Bool.true_and, Bool.false_and, Bool.and_true, Bool.and_false, not_true, not_false_iff, Option.bind_some, nn, toList_inj, Bool.not_eq_true', Bool.not_eq_false', Int.le_refl, and_self, true_and, and_true, false_and, and_false, bne_self_eq_false, beq_self_eq_true, Int.reduceEq, Nat.reduceEqDiff, List.length_singleton, List.tail_cons, Int.reduceLE, Int.reduceLT, decide_eq_true_eq]; exact Ev2.now _
      | true =>
        simp only [List.length_nil, Int.natCast_zero, Int.lt_irrefl, strs_len, strs_elem, ints_len, ints_elem, items_list, fld_agg, elem_list, toStr_sc, toInt_sc, toBool_sc, headD_one, nat_int, get_bt, decide_eq_true_eq, decide_eq_false_iff_not, decide_true, decide_false, if_true, if_false, ite_self, Bool.not_true, Bool.not_false, Bool.false_eq_true, Bool.true_eq_false, Bool.true_and, Bool.false_and, Bool.and_true, Bool.and_false, not_true, not_false_iff, Option.bind_some, nn, toList_inj, Bool.not_eq_true', Bool.not_eq_false', Int.le_refl, and_self, true_and, and_true, false_and, and_false, bne_self_eq_false, beq_self_eq_true, Int.reduceEq, Nat.reduceEqDiff, List.length_singleton, List.tail_cons, Int.reduceLE, Int.reduceLT, decide_eq_true_eq]
        exact hnext
    · obtain ⟨h1, h2, h3, h4⟩ := at_prev hp ha
      rw [ascW]
      cases hw : isWord c with
      | false => simp only [strs_len, strs_elem, ints_len, ints_elem, items_list, fld_agg, elem_list, toStr_sc, toInt_sc, toBool_sc, headD_one, nat_int, get_bt, decide_eq_true_eq, decide_eq_false_iff_not, decide_true, decide_false, if_true, if_false, ite_self, Bool.not_true, Bool.not_false, Bool.false_eq_true, Bool.true_eq_false, Bool.true_and, Bool.false_and, Bool.and_true, Bool.and_false, not_true, not_false_iff, Option.bind_some, nn, toList_inj, Bool.not_eq_true', Bool.not_eq_false', Int.le_refl, and_self, true_and, and_true, false_and, and_false, bne_self_eq_false, beq_self_eq_true, Int.reduceEq, Nat.reduceEqDiff, List.length_singleton, List.tail_cons, Int.reduceLE, Int.reduceLT, decide_eq_true_eq]; exact Ev2.now _
      | true =>
        simp only [h4, h1, h2, h3, bLess_eq, strs_len, strs_elem, ints_len, ints_elem, items_list, fld_agg, elem_list, toStr_sc, toInt_sc, toBool_sc, headD_one, nat_int, get_bt, decide_eq_true_eq, decide_eq_false_iff_not, decide_true, decide_false, if_true, if_false, ite_self, Bool.not_true, Bool.not_false, Bool.false_eq_true, Bool.true_eq_false, Bool.true_and, Bool.false_and, Bool.and_true, Bool.and_false, not_true, not_false_iff, Option.bind_some, nn, toList_inj, Bool.not_eq_true', Bool.not_eq_false', Int.le_refl, and_self, true_and, and_true, false_and, and_false, bne_self_eq_false, beq_self_eq_true, Int.reduceEq, Nat.reduceEqDiff, List.length_singleton, List.tail_cons, Int.reduceLE, Int.reduceLT, decide_eq_true_eq]
        cases hb : bLess q c with
        | false => simp only [strs_len, strs_elem, ints_len, ints_elem, items_list, fld_agg, elem_list, toStr_sc, toInt_sc, toBool_sc, headD_one, nat_int, get_bt, decide_eq_true_eq, decide_eq_false_iff_not, decide_true, decide_false, if_true, if_false, ite_self, Bool.not_true, Bool.not_false, Bool.false_eq_true, Bool.true_eq_false, Bool.true_and, Bool.false_and, Bool.and_true, Bool.and_false, not_true, not_false_iff, Option.bind_some, nn, toList_inj, Bool.not_eq_true', Bool.not_eq_false', Int.le_refl, and_self, true_and, and_true, false_and, and_false, bne_self_eq_false, beq_self_eq_true, Int.reduceEq, Nat.reduceEqDiff, List.length_singleton, List.tail_cons, Int.reduceLE, Int.reduceLT, decide_eq_true_eq]; exact Ev2.now _
        | true => simp only [strs_len, strs_elem, ints_len, ints_elem, items_list, fld_agg, elem_list, toStr_sc, toInt_sc, toBool_sc, headD_one, nat_int, get_bt, decide_eq_true_eq, decide_eq_false_iff_not, decide_true, decide_false, if_true, if_false, ite_self, Bool.not_true, Bool.not_false, Bool.false_eq_true, Bool.true_eq_false, Bool.true_and, Bool.false_and, Bool.and_true, Bool.and_false, not_true, not_false_iff, Option.bind_some, nn, toList_inj, Bool.not_eq_true', Bool.not_eq_false', Int.le_refl, and_self, true_and, and_true, false_and, and_false, bne_self_eq_false, beq_self_eq_true, Int.reduceEq, Nat.reduceEqDiff, List.length_singleton, List.tail_cons, Int.reduceLE, Int.reduceLT, decide_eq_true_eq]; exact hnext
theorem implWords_ev (a : List ByteArray) (m : Int) (ha : a.length ≤ 9223372036854775807) (hs : ∀ s ∈ a, s.size ≤ 9223372036854775807) : Ev (fun N => impl_wordsOk.f N [strsP a, intP m]) [boolP (wordsM a m)] := by
  simp only [impl_wordsOk.f_eq, strs_len, strs_elem, ints_len, ints_elem, items_list, fld_agg, elem_list, toStr_sc, toInt_sc, toBool_sc, headD_one, nat_int, get_bt, decide_eq_true_eq, decide_eq_false_iff_not, decide_true, decide_false, if_true, if_false, ite_self, Bool.not_true, Bool.not_false, Bool.false_eq_true, Bool.true_eq_false, Bool.true_and, Bool.false_and, Bool.and_true, Bool.and_false, not_true, not_false_iff, Option.bind_some, nn, toList_inj, Bool.not_eq_true', Bool.not_eq_false', Int.le_refl, and_self, true_and, and_true, false_and, and_false, bne_self_eq_false, beq_self_eq_true, Int.reduceEq, Nat.reduceEqDiff, List.length_singleton, List.tail_cons, Int.reduceLE, Int.reduceLT, decide_eq_true_eq]
  exact (implWords_loop a m ha hs a [] none rfl (.inl ⟨rfl, rfl⟩)).diag
theorem specLetters_loop (s : ByteArray) (hs : s.size ≤ 9223372036854775807) (m : Int) : ∀ rest pre : List Int, bytesOf s = pre ++ rest → Ev2 (fun N n => spec_l1Letters.l0 N n s m (pre.length : Int)) [boolP (lowB rest && decide ((s.size : Int) ≤ m))] := by
  intro rest
  induction rest with
  | nil =>
    intro pre hp
    refine Ev2.succ ?_
    simp only [spec_l1Letters.l0_eq, at_sizeE hp, lowB, List.all_nil, strs_len, strs_elem, ints_len, ints_elem, items_list, fld_agg, elem_list, toStr_sc, toInt_sc, toBool_sc, headD_one, nat_int, get_bt, decide_eq_true_eq, decide_eq_false_iff_not, decide_true, decide_false, if_true, if_false, ite_self, Bool.not_true, Bool.not_false, Bool.false_eq_true, Bool.true_eq_false, Bool.true_and, Bool.false_and, Bool.and_true, Bool.and_false, not_true, not_false_iff, Option.bind_some, nn, toList_inj, Bool.not_eq_true', Bool.not_eq_false', Int.le_refl, and_self, true_and, and_true, false_and, and_false, bne_self_eq_false, beq_self_eq_true, Int.reduceEq, Nat.reduceEqDiff, List.length_singleton, List.tail_cons, Int.reduceLE, Int.reduceLT, decide_eq_true_eq]
    exact Ev2.now _
  | cons c rest ih =>
    intro pre hp
    refine Ev2.succ ?_
    simp only [spec_l1Letters.l0_eq, strs_len, strs_elem, ints_len, ints_elem, items_list, fld_agg, elem_list, toStr_sc, toInt_sc, toBool_sc, headD_one, nat_int, get_bt, decide_eq_true_eq, decide_eq_false_iff_not, decide_true, decide_false, if_true, if_false, ite_self, Bool.not_true, Bool.not_false, Bool.false_eq_true, Bool.true_eq_false, Bool.true_and, Bool.false_and, Bool.and_true, Bool.and_false, not_true, not_false_iff, Option.bind_some, nn, toList_inj, Bool.not_eq_true', Bool.not_eq_false', Int.le_refl, and_self, true_and, and_true, false_and, and_false, bne_self_eq_false, beq_self_eq_true, Int.reduceEq, Nat.reduceEqDiff, List.length_singleton, List.tail_cons, Int.reduceLE, Int.reduceLT, decide_eq_true_eq, at_size hp, at_bt hp, at_next hp (by rw [bytesOf_len]; omega)]
    rw [lowB_cons]
    by_cases h1 : c < 97
    · simp only [h1, eq_false (show ¬ (97 ≤ c ∧ c ≤ 122) by omega), strs_len, strs_elem, ints_len, ints_elem, items_list, fld_agg, elem_list, toStr_sc, toInt_sc, toBool_sc, headD_one, nat_int, get_bt, decide_eq_true_eq, decide_eq_false_iff_not, decide_true, decide_false, if_true, if_false, ite_self, Bool.not_true, Bool.not_false, Bool.false_eq_true, Bool.true_eq_false, Bool.true_and, Bool.false_and, Bool.and_true, Bool.and_false, not_true, not_false_iff, Option.bind_some, nn, toList_inj, Bool.not_eq_true', Bool.not_eq_false', Int.le_refl, and_self, true_and, and_true, false_and, and_false, bne_self_eq_false, beq_self_eq_true, Int.reduceEq, Nat.reduceEqDiff, List.length_singleton, List.tail_cons, Int.reduceLE, Int.reduceLT, decide_eq_true_eq]; exact Ev2.now _
    by_cases h2 : 122 < c
    · simp only [h1, h2, eq_false (show ¬ (97 ≤ c ∧ c ≤ 122) by omega), strs_len, strs_elem, ints_len, ints_elem, items_list, fld_agg, elem_list, toStr_sc, toInt_sc, toBool_sc, headD_one, nat_int, get_bt, decide_eq_true_eq, decide_eq_false_iff_not, decide_true, decide_false, if_true, if_false, ite_self, Bool.not_true, Bool.not_false, Bool.false_eq_true, Bool.true_eq_false, Bool.true_and, Bool.false_and, Bool.and_true, Bool.and_false, not_true, not_false_iff, Option.bind_some, nn, toList_inj, Bool.not_eq_true', Bool.not_eq_false', Int.le_refl, and_self, true_and, and_true, false_and, and_false, bne_self_eq_false, beq_self_eq_true, Int.reduceEq, Nat.reduceEqDiff, List.length_singleton, List.tail_cons, Int.reduceLE, Int.reduceLT, decide_eq_true_eq]; exact Ev2.now _
    simp only [h1, h2, eq_true (show (97 ≤ c ∧ c ≤ 122) by omega), strs_len, strs_elem, ints_len, ints_elem, items_list, fld_agg, elem_list, toStr_sc, toInt_sc, toBool_sc, headD_one, nat_int, get_bt, decide_eq_true_eq, decide_eq_false_iff_not, decide_true, decide_false, if_true, if_false, ite_self, Bool.not_true, Bool.not_false, Bool.false_eq_true, Bool.true_eq_false, Bool.true_and, Bool.false_and, Bool.and_true, Bool.and_false, not_true, not_false_iff, Option.bind_some, nn, toList_inj, Bool.not_eq_true', Bool.not_eq_false', Int.le_refl, and_self, true_and, and_true, false_and, and_false, bne_self_eq_false, beq_self_eq_true, Int.reduceEq, Nat.reduceEqDiff, List.length_singleton, List.tail_cons, Int.reduceLE, Int.reduceLT, decide_eq_true_eq]
    exact ih _ (at_step hp)
theorem specLetters_ev (s : ByteArray) (hs : s.size ≤ 9223372036854775807) (m : Int) : Ev (fun N => spec_l1Letters.f N [strP s, intP m]) [boolP (lowB (bytesOf s) && decide ((s.size : Int) ≤ m))] := by
  simp only [spec_l1Letters.f_eq, strs_len, strs_elem, ints_len, ints_elem, items_list, fld_agg, elem_list, toStr_sc, toInt_sc, toBool_sc, headD_one, nat_int, get_bt, decide_eq_true_eq, decide_eq_false_iff_not, decide_true, decide_false, if_true, if_false, ite_self, Bool.not_true, Bool.not_false, Bool.false_eq_true, Bool.true_eq_false, Bool.true_and, Bool.false_and, Bool.and_true, Bool.and_false, not_true, not_false_iff, Option.bind_some, nn, toList_inj, Bool.not_eq_true', Bool.not_eq_false', Int.le_refl, and_self, true_and, and_true, false_and, and_false, bne_self_eq_false, beq_self_eq_true, Int.reduceEq, Nat.reduceEqDiff, List.length_singleton, List.tail_cons, Int.reduceLE, Int.reduceLT, decide_eq_true_eq]
  exact (specLetters_loop s hs m (bytesOf s) [] rfl).diag
theorem specWord_ev (s : ByteArray) (hs : s.size ≤ 9223372036854775807) : Ev (fun N => spec_l1Word.f N [strP s]) [boolP (isWord s)] := by
  simp only [spec_l1Word.f_eq, strs_len, strs_elem, ints_len, ints_elem, items_list, fld_agg, elem_list, toStr_sc, toInt_sc, toBool_sc, headD_one, nat_int, get_bt, decide_eq_true_eq, decide_eq_false_iff_not, decide_true, decide_false, if_true, if_false, ite_self, Bool.not_true, Bool.not_false, Bool.false_eq_true, Bool.true_eq_false, Bool.true_and, Bool.false_and, Bool.and_true, Bool.and_false, not_true, not_false_iff, Option.bind_some, nn, toList_inj, Bool.not_eq_true', Bool.not_eq_false', Int.le_refl, and_self, true_and, and_true, false_and, and_false, bne_self_eq_false, beq_self_eq_true, Int.reduceEq, Nat.reduceEqDiff, List.length_singleton, List.tail_cons, Int.reduceLE, Int.reduceLT, decide_eq_true_eq]
  by_cases h : (0 : Int) < (s.size : Int)
  · simp only [h, strs_len, strs_elem, ints_len, ints_elem, items_list, fld_agg, elem_list, toStr_sc, toInt_sc, toBool_sc, headD_one, nat_int, get_bt, decide_eq_true_eq, decide_eq_false_iff_not, decide_true, decide_false, if_true, if_false, ite_self, Bool.not_true, Bool.not_false, Bool.false_eq_true, Bool.true_eq_false, Bool.true_and, Bool.false_and, Bool.and_true, Bool.and_false, not_true, not_false_iff, Option.bind_some, nn, toList_inj, Bool.not_eq_true', Bool.not_eq_false', Int.le_refl, and_self, true_and, and_true, false_and, and_false, bne_self_eq_false, beq_self_eq_true, Int.reduceEq, Nat.reduceEqDiff, List.length_singleton, List.tail_cons, Int.reduceLE, Int.reduceLT, decide_eq_true_eq]
    refine Ev.bind (specLetters_ev s hs 12) ?_
    refine Ev.ext (Ev.now _) ?_
    simp only [strs_len, strs_elem, ints_len, ints_elem, items_list, fld_agg, elem_list, toStr_sc, toInt_sc, toBool_sc, headD_one, nat_int, get_bt, decide_eq_true_eq, decide_eq_false_iff_not, decide_true, decide_false, if_true, if_false, ite_self, Bool.not_true, Bool.not_false, Bool.false_eq_true, Bool.true_eq_false, Bool.true_and, Bool.false_and, Bool.and_true, Bool.and_false, not_true, not_false_iff, Option.bind_some, nn, toList_inj, Bool.not_eq_true', Bool.not_eq_false', Int.le_refl, and_self, true_and, and_true, false_and, and_false, bne_self_eq_false, beq_self_eq_true, Int.reduceEq, Nat.reduceEqDiff, List.length_singleton, List.tail_cons, Int.reduceLE, Int.reduceLT, decide_eq_true_eq]
    unfold isWord
    rw [Bool.and_comm]
    show [boolP (_ && lowB _)] = [boolP (decide _ && lowB _)]
    have : decide ((s.size : Int) ≤ 12) = decide (1 ≤ s.size ∧ s.size ≤ 12) := decide_eq_decide.2 (by omega)
    rw [this]
  · simp only [h, strs_len, strs_elem, ints_len, ints_elem, items_list, fld_agg, elem_list, toStr_sc, toInt_sc, toBool_sc, headD_one, nat_int, get_bt, decide_eq_true_eq, decide_eq_false_iff_not, decide_true, decide_false, if_true, if_false, ite_self, Bool.not_true, Bool.not_false, Bool.false_eq_true, Bool.true_eq_false, Bool.true_and, Bool.false_and, Bool.and_true, Bool.and_false, not_true, not_false_iff, Option.bind_some, nn, toList_inj, Bool.not_eq_true', Bool.not_eq_false', Int.le_refl, and_self, true_and, and_true, false_and, and_false, bne_self_eq_false, beq_self_eq_true, Int.reduceEq, Nat.reduceEqDiff, List.length_singleton, List.tail_cons, Int.reduceLE, Int.reduceLT, decide_eq_true_eq]
    refine Ev.ext (Ev.now _) ?_
    unfold isWord
    rw [decide_eq_false (show ¬ (1 ≤ s.size ∧ s.size ≤ 12) by omega), Bool.false_and]
theorem specWords_loop (a : List ByteArray) (ha : a.length ≤ 9223372036854775807) (hs : ∀ s ∈ a, s.size ≤ 9223372036854775807) : ∀ (rest pre : List ByteArray) (p : Option ByteArray), a = pre ++ rest → Ahead pre p →
    Ev2 (fun N n => spec_l3Words.l0 N n (strsP a) (pre.length : Int)) [boolP (ascW p rest && decide ((a.length : Int) ≤ 300))] := by
  intro rest
  induction rest with
  | nil =>
    intro pre p hp _
    refine Ev2.succ ?_
    simp only [spec_l3Words.l0_eq, strs_len, strs_elem, ints_len, ints_elem, items_list, fld_agg, elem_list, toStr_sc, toInt_sc, toBool_sc, headD_one, nat_int, get_bt, decide_eq_true_eq, decide_eq_false_iff_not, decide_true, decide_false, if_true, if_false, ite_self, Bool.not_true, Bool.not_false, Bool.false_eq_true, Bool.true_eq_false, Bool.true_and, Bool.false_and, Bool.and_true, Bool.and_false, not_true, not_false_iff, Option.bind_some, nn, toList_inj, Bool.not_eq_true', Bool.not_eq_false', Int.le_refl, and_self, true_and, and_true, false_and, and_false, bne_self_eq_false, beq_self_eq_true, Int.reduceEq, Nat.reduceEqDiff, List.length_singleton, List.tail_cons, Int.reduceLE, Int.reduceLT, decide_eq_true_eq, at_end hp, ascW]
    exact Ev2.now _
  | cons c rest ih =>
    intro pre p hp hA
    have hc : c.size ≤ 9223372036854775807 := hs c (by rw [hp]; simp)
    refine Ev2.succ ?_
    simp only [spec_l3Words.l0_eq, strs_len, strs_elem, ints_len, ints_elem, items_list, fld_agg, elem_list, toStr_sc, toInt_sc, toBool_sc, headD_one, nat_int, get_bt, decide_eq_true_eq, decide_eq_false_iff_not, decide_true, decide_false, if_true, if_false, ite_self, Bool.not_true, Bool.not_false, Bool.false_eq_true, Bool.true_eq_false, Bool.true_and, Bool.false_and, Bool.and_true, Bool.and_false, not_true, not_false_iff, Option.bind_some, nn, toList_inj, Bool.not_eq_true', Bool.not_eq_false', Int.le_refl, and_self, true_and, and_true, false_and, and_false, bne_self_eq_false, beq_self_eq_true, Int.reduceEq, Nat.reduceEqDiff, List.length_singleton, List.tail_cons, Int.reduceLE, Int.reduceLT, decide_eq_true_eq, at_lt hp, at_getD hp, at_next hp ha]
    refine Ev2.bind (specWord_ev c hc) ?_
    have hnext := ih (pre ++ [c]) (some c) (at_step hp) (Ahead.next pre c)
    simp only [strs_len, strs_elem, ints_len, ints_elem, items_list, fld_agg, elem_list, toStr_sc, toInt_sc, toBool_sc, headD_one, nat_int, get_bt, decide_eq_true_eq, decide_eq_false_iff_not, decide_true, decide_false, if_true, if_false, ite_self, Bool.not_true, Bool.not_false, Bool.false_eq_true, Bool.true_eq_false, Bool.true_and, Bool.false_and, Bool.and_true, Bool.and_false, not_true, not_false_iff, Option.bind_some, nn, toList_inj, Bool.not_eq_true', Bool.not_eq_false', Int.le_refl, and_self, true_and, and_true, false_and, and_false, bne_self_eq_false, beq_self_eq_true, Int.reduceEq, Nat.reduceEqDiff, List.length_singleton, List.tail_cons, Int.reduceLE, Int.reduceLT, decide_eq_true_eq]
    rcases hA with ⟨rfl, rfl⟩ | ⟨pre', q, rfl, rfl⟩
    · rw [ascW]
      cases hw : isWord c with
      | false => simp only [strs_len, strs_elem, ints_len, ints_elem, items_list, fld_agg, elem_list, toStr_sc, toInt_sc, toBool_sc, headD_one, nat_int, get_bt, decide_eq_true_eq, decide_eq_false_iff_not, decide_true, decide_false, if_true, if_false, ite_self, Bool.not_true, Bool.not_false, Bool.false_eq_true, Bool.true_eq_false, Bool.true_and, Bool.false_and, Bool.and_true, Bool.and_false, not_true, not_false_iff, Option.bind_some, nn, toList_inj, Bool.not_eq_true', Bool.not_eq_false', Int.le_refl, and_self, true_and, and_true, false_and, and_false, bne_self_eq_false, beq_self_eq_true, Int.reduceEq, Nat.reduceEqDiff, List.length_singleton, List.tail_cons, Int.reduceLE, Int.reduceLT, decide_eq_true_eq]; exact Ev2.now _
      | true =>
        simp only [List.length_nil, Int.natCast_zero, Int.lt_irrefl, strs_len, strs_elem, ints_len, ints_elem, items_list, fld_agg, elem_list, toStr_sc, toInt_sc, toBool_sc, headD_one, nat_int, get_bt, decide_eq_true_eq, decide_eq_false_iff_not, decide_true, decide_false, if_true, if_false, ite_self, Bool.not_true, Bool.not_false, Bool.false_eq_true, Bool.true_eq_false, Bool.true_and, Bool.false_and, Bool.and_true, Bool.and_false, not_true, not_false_iff, Option.bind_some, nn, toList_inj, Bool.not_eq_true', Bool.not_eq_false', Int.le_refl, and_self, true_and, and_true, false_and, and_false, bne_self_eq_false, beq_self_eq_true, Int.reduceEq, Nat.reduceEqDiff, List.length_singleton, List.tail_cons, Int.reduceLE, Int.reduceLT, decide_eq_true_eq]
        exact hnext
    · obtain ⟨h1, h2, h3, h4⟩ := at_prev hp ha
      rw [ascW]
      cases hw : isWord c with
      | false => simp only [strs_len, strs_elem, ints_len, ints_elem, items_list, fld_agg, elem_list, toStr_sc, toInt_sc, toBool_sc, headD_one, nat_int, get_bt, decide_eq_true_eq, decide_eq_false_iff_not, decide_true, decide_false, if_true, if_false, ite_self, Bool.not_true, Bool.not_false, Bool.false_eq_true, Bool.true_eq_false, Bool.true_and, Bool.false_and, Bool.and_true, Bool.and_false, not_true, not_false_iff, Option.bind_some, nn, toList_inj, Bool.not_eq_true', Bool.not_eq_false', Int.le_refl, and_self, true_and, and_true, false_and, and_false, bne_self_eq_false, beq_self_eq_true, Int.reduceEq, Nat.reduceEqDiff, List.length_singleton, List.tail_cons, Int.reduceLE, Int.reduceLT, decide_eq_true_eq]; exact Ev2.now _
      | true =>
        simp only [h4, h1, h2, h3, bLess_eq, strs_len, strs_elem, ints_len, ints_elem, items_list, fld_agg, elem_list, toStr_sc, toInt_sc, toBool_sc, headD_one, nat_int, get_bt, decide_eq_true_eq, decide_eq_false_iff_not, decide_true, decide_false, if_true, if_false, ite_self, Bool.not_true, Bool.not_false, Bool.false_eq_true, Bool.true_eq_false, Bool.true_and, Bool.false_and, Bool.and_true, Bool.and_false, not_true, not_false_iff, Option.bind_some, nn, toList_inj, Bool.not_eq_true', Bool.not_eq_false', Int.le_refl, and_self, true_and, and_true, false_and, and_false, bne_self_eq_false, beq_self_eq_true, Int.reduceEq, Nat.reduceEqDiff, List.length_singleton, List.tail_cons, Int.reduceLE, Int.reduceLT, decide_eq_true_eq]
        cases hb : bLess q c with
        | false => simp only [strs_len, strs_elem, ints_len, ints_elem, items_list, fld_agg, elem_list, toStr_sc, toInt_sc, toBool_sc, headD_one, nat_int, get_bt, decide_eq_true_eq, decide_eq_false_iff_not, decide_true, decide_false, if_true, if_false, ite_self, Bool.not_true, Bool.not_false, Bool.false_eq_true, Bool.true_eq_false, Bool.true_and, Bool.false_and, Bool.and_true, Bool.and_false, not_true, not_false_iff, Option.bind_some, nn, toList_inj, Bool.not_eq_true', Bool.not_eq_false', Int.le_refl, and_self, true_and, and_true, false_and, and_false, bne_self_eq_false, beq_self_eq_true, Int.reduceEq, Nat.reduceEqDiff, List.length_singleton, List.tail_cons, Int.reduceLE, Int.reduceLT, decide_eq_true_eq]; exact Ev2.now _
        | true => simp only [strs_len, strs_elem, ints_len, ints_elem, items_list, fld_agg, elem_list, toStr_sc, toInt_sc, toBool_sc, headD_one, nat_int, get_bt, decide_eq_true_eq, decide_eq_false_iff_not, decide_true, decide_false, if_true, if_false, ite_self, Bool.not_true, Bool.not_false, Bool.false_eq_true, Bool.true_eq_false, Bool.true_and, Bool.false_and, Bool.and_true, Bool.and_false, not_true, not_false_iff, Option.bind_some, nn, toList_inj, Bool.not_eq_true', Bool.not_eq_false', Int.le_refl, and_self, true_and, and_true, false_and, and_false, bne_self_eq_false, beq_self_eq_true, Int.reduceEq, Nat.reduceEqDiff, List.length_singleton, List.tail_cons, Int.reduceLE, Int.reduceLT, decide_eq_true_eq]; exact hnext
theorem specWords_ev (a : List ByteArray) (ha : a.length ≤ 9223372036854775807) (hs : ∀ s ∈ a, s.size ≤ 9223372036854775807) : Ev (fun N => spec_l3Words.f N [strsP a]) [boolP (wordsM a 300)] := by
  simp only [spec_l3Words.f_eq]
  exact (specWords_loop a ha hs a [] none rfl (.inl ⟨rfl, rfl⟩)).diag
theorem specOwn_ev (a : List ByteArray) (ha : a.length ≤ 9223372036854775807) (hs : ∀ s ∈ a, s.size ≤ 9223372036854775807) : Ev (fun N => spec_l10Own.f N [strsP a]) [boolP (wordsM a 10)] := by
  simp only [spec_l10Own.f_eq, strs_len, strs_elem, ints_len, ints_elem, items_list, fld_agg, elem_list, toStr_sc, toInt_sc, toBool_sc, headD_one, nat_int, get_bt, decide_eq_true_eq, decide_eq_false_iff_not, decide_true, decide_false, if_true, if_false, ite_self, Bool.not_true, Bool.not_false, Bool.false_eq_true, Bool.true_eq_false, Bool.true_and, Bool.false_and, Bool.and_true, Bool.and_false, not_true, not_false_iff, Option.bind_some, nn, toList_inj, Bool.not_eq_true', Bool.not_eq_false', Int.le_refl, and_self, true_and, and_true, false_and, and_false, bne_self_eq_false, beq_self_eq_true, Int.reduceEq, Nat.reduceEqDiff, List.length_singleton, List.tail_cons, Int.reduceLE, Int.reduceLT, decide_eq_true_eq]
  refine Ev.bind (specWords_ev a ha hs) ?_
  unfold wordsM
  cases h : ascW none a with
  | false => simp only [strs_len, strs_elem, ints_len, ints_elem, items_list, fld_agg, elem_list, toStr_sc, toInt_sc, toBool_sc, headD_one, nat_int, get_bt, decide_eq_true_eq, decide_eq_false_iff_not, decide_true, decide_false, if_true, if_false, ite_self, Bool.not_true, Bool.not_false, Bool.false_eq_true, Bool.true_eq_false, Bool.true_and, Bool.false_and, Bool.and_true, Bool.and_false, not_true, not_false_iff, Option.bind_some, nn, toList_inj, Bool.not_eq_true', Bool.not_eq_false', Int.le_refl, and_self, true_and, and_true, false_and, and_false, bne_self_eq_false, beq_self_eq_true, Int.reduceEq, Nat.reduceEqDiff, List.length_singleton, List.tail_cons, Int.reduceLE, Int.reduceLT, decide_eq_true_eq]; exact Ev.now _
  | true =>
    simp only [strs_len, strs_elem, ints_len, ints_elem, items_list, fld_agg, elem_list, toStr_sc, toInt_sc, toBool_sc, headD_one, nat_int, get_bt, decide_eq_true_eq, decide_eq_false_iff_not, decide_true, decide_false, if_true, if_false, ite_self, Bool.not_true, Bool.not_false, Bool.false_eq_true, Bool.true_eq_false, Bool.true_and, Bool.false_and, Bool.and_true, Bool.and_false, not_true, not_false_iff, Option.bind_some, nn, toList_inj, Bool.not_eq_true', Bool.not_eq_false', Int.le_refl, and_self, true_and, and_true, false_and, and_false, bne_self_eq_false, beq_self_eq_true, Int.reduceEq, Nat.reduceEqDiff, List.length_singleton, List.tail_cons, Int.reduceLE, Int.reduceLT, decide_eq_true_eq]
    by_cases h3 : (a.length : Int) ≤ 300
    · simp only [h3, strs_len, strs_elem, ints_len, ints_elem, items_list, fld_agg, elem_list, toStr_sc, toInt_sc, toBool_sc, headD_one, nat_int, get_bt, decide_eq_true_eq, decide_eq_false_iff_not, decide_true, decide_false, if_true, if_false, ite_self, Bool.not_true, Bool.not_false, Bool.false_eq_true, Bool.true_eq_false, Bool.true_and, Bool.false_and, Bool.and_true, Bool.and_false, not_true, not_false_iff, Option.bind_some, nn, toList_inj, Bool.not_eq_true', Bool.not_eq_false', Int.le_refl, and_self, true_and, and_true, false_and, and_false, bne_self_eq_false, beq_self_eq_true, Int.reduceEq, Nat.reduceEqDiff, List.length_singleton, List.tail_cons, Int.reduceLE, Int.reduceLT, decide_eq_true_eq]; exact Ev.now _
    · simp only [h3, eq_false (show ¬ (a.length : Int) ≤ 10 by omega), strs_len, strs_elem, ints_len, ints_elem, items_list, fld_agg, elem_list, toStr_sc, toInt_sc, toBool_sc, headD_one, nat_int, get_bt, decide_eq_true_eq, decide_eq_false_iff_not, decide_true, decide_false, if_true, if_false, ite_self, Bool.not_true, Bool.not_false, Bool.false_eq_true, Bool.true_eq_false, Bool.true_and, Bool.false_and, Bool.and_true, Bool.and_false, not_true, not_false_iff, Option.bind_some, nn, toList_inj, Bool.not_eq_true', Bool.not_eq_false', Int.le_refl, and_self, true_and, and_true, false_and, and_false, bne_self_eq_false, beq_self_eq_true, Int.reduceEq, Nat.reduceEqDiff, List.length_singleton, List.tail_cons, Int.reduceLE, Int.reduceLT, decide_eq_true_eq]; exact Ev.now _
/-! #### the order of texts, and what sorting makes -/
theorem bLess_iff (a b : ByteArray) : bLess a b = true ↔ encB a < encB b := by
  unfold bLess encB
  rw [ByteArray.toList_eq, ByteArray.toList_eq, bytesLess_eq]
  simp
theorem ll_trans {a b c : List UInt8} (h1 : a < b) (h2 : b < c) : a < c := List.lt_trans h1 h2
theorem ll_irrefl (a : List UInt8) : ¬ a < a := List.lt_irrefl a
theorem ll_le {a b : List UInt8} : a ≤ b ↔ ¬ b < a := by rw [← List.not_lt]
theorem ll_tri {a b : List UInt8} (h1 : ¬ a < b) (h2 : ¬ b < a) : a = b := List.le_antisymm (ll_le.2 h2) (ll_le.2 h1)
theorem ll_lt_of_le_of_ne {a b : List UInt8} (h1 : a ≤ b) (h2 : a ≠ b) : a < b := Classical.byContradiction fun h => h2 (ll_tri h (ll_le.1 h1))
theorem ll_lt_of_le_of_lt {a b c : List UInt8} (h1 : a ≤ b) (h2 : b < c) : a < c := by
  by_cases h : a = b
  · rw [h]; exact h2
  · exact ll_trans (ll_lt_of_le_of_ne h1 h) h2
theorem asc_ext : ∀ {a b : List (List UInt8)}, a.Pairwise (· < ·) → b.Pairwise (· < ·) → (∀ x, x ∈ a ↔ x ∈ b) → a = b
  | [], [], _, _, _ => rfl
  | [], y :: b, _, _, h => absurd ((h y).2 (by simp)) (by simp)
  | x :: a, [], _, _, h => absurd ((h x).1 (by simp)) (by simp)
  | x :: a, y :: b, ha, hb, h => by
    rw [List.pairwise_cons] at ha hb
    have e : x = y := by
      rcases List.mem_cons.1 ((h x).1 (by simp)) with h1 | h1
      · exact h1
      rcases List.mem_cons.1 ((h y).2 (by simp)) with h2 | h2
      · exact h2.symm
      · exact absurd (ll_trans (hb.1 x h1) (ha.1 y h2)) (ll_irrefl y)
    subst e
    have : a = b := asc_ext ha.2 hb.2 (fun z => by
      constructor
      · intro hz
        rcases List.mem_cons.1 ((h z).1 (by simp [hz])) with rfl | h1
        · exact absurd (ha.1 z hz) (ll_irrefl z)
        · exact h1
      · intro hz
        rcases List.mem_cons.1 ((h z).2 (by simp [hz])) with rfl | h1
        · exact absurd (hb.1 z hz) (ll_irrefl z)
        · exact h1)
    rw [this]
theorem sorted_pair (zs : List (List UInt8)) : (zs.mergeSort fun x y => decide (x ≤ y)).Pairwise (· ≤ ·) := by
  have h := List.pairwise_mergeSort (le := fun x y : List UInt8 => decide (x ≤ y)) (fun a b c h1 h2 => by
    simp only [decide_eq_true_eq] at *
    exact List.le_trans h1 h2) (fun a b => by
    simp only [Bool.or_eq_true, decide_eq_true_eq]
    exact List.le_total a b) zs
  exact h.imp (fun h => by simpa using h)
theorem keeps_at {zs : List (List UInt8)} (hs : zs.Pairwise (· ≤ ·)) {j k : Nat} (hk : k < zs.length) (hj : j < k) (hkeep : Lib.keeps zs.toArray k = true) : zs.toArray[j]! < zs.toArray[k]! := by
  have hj2 : j < zs.length := by omega
  have hk1 : k - 1 < zs.length := by omega
  rw [List.pairwise_iff_getElem] at hs
  have e1 : ∀ i (h : i < zs.length), zs.toArray[i]! = zs[i] := fun i h => by rw [getElem!_pos _ i (by simpa using h)]; simp
  rw [e1 j hj2, e1 k hk]
  have hne : zs[k - 1] ≠ zs[k] := by
    have := hkeep
    unfold Lib.keeps at this
    simp only [Bool.or_eq_true, decide_eq_true_eq, bne_iff_ne, beq_iff_eq] at this
    rcases this with h | h
    · omega
    · rw [e1 k hk, e1 (k - 1) hk1] at h
      exact fun he => h he.symm
  have hle : zs[k - 1] ≤ zs[k] := hs (k - 1) k hk1 hk (by omega)
  have hlt := ll_lt_of_le_of_ne hle hne
  by_cases hj3 : j = k - 1
  · subst hj3; exact hlt
  · exact ll_lt_of_le_of_lt (hs j (k - 1) hj2 hk1 (by omega)) hlt
theorem compact_pair {zs : List (List UInt8)} (hs : zs.Pairwise (· ≤ ·)) : (Lib.compact zs).Pairwise (· < ·) := by
  unfold Lib.compact Lib.compactUpTo
  rw [List.pairwise_map, List.pairwise_filter]
  refine List.Pairwise.imp_of_mem (R := (· < ·)) ?_ List.pairwise_lt_range
  intro i k hi hk hik h1 h2
  exact keeps_at hs (by simpa using hk) hik h2
theorem compact_mem {zs : List (List UInt8)} (x : List UInt8) : x ∈ Lib.compact zs ↔ x ∈ zs := by
  unfold Lib.compact Lib.compactUpTo
  simp only [List.mem_map, List.mem_filter, List.mem_range]
  have e1 : ∀ i (h : i < zs.length), zs.toArray[i]! = zs[i] := fun i h => by rw [getElem!_pos _ i (by simpa using h)]; simp
  constructor
  · rintro ⟨i, ⟨hi, _⟩, rfl⟩
    rw [e1 i hi]; exact List.getElem_mem hi
  · intro hx
    obtain ⟨i, hi, rfl⟩ := List.mem_iff_getElem.1 hx
    suffices h : ∀ m i, i ≤ m → ∀ hi : i < zs.length, ∃ j, (j < zs.length ∧ Lib.keeps zs.toArray j = true) ∧ zs.toArray[j]! = zs[i] from h i i (Nat.le_refl _) hi
    intro m
    induction m with
    | zero =>
      intro i h0 hi
      have : i = 0 := by omega
      subst this
      exact ⟨0, ⟨hi, by simp [Lib.keeps]⟩, e1 0 hi⟩
    | succ m ih =>
      intro i h0 hi
      by_cases hk : Lib.keeps zs.toArray i = true
      · exact ⟨i, ⟨hi, hk⟩, e1 i hi⟩
      · have hne : i ≠ 0 := by rintro rfl; exact hk (by simp [Lib.keeps])
        have hi1 : i - 1 < zs.length := by omega
        have heq : zs[i - 1] = zs[i] := by
          have h2 := hk
          unfold Lib.keeps at h2
          simp only [Bool.or_eq_true, decide_eq_true_eq, bne_iff_ne, beq_iff_eq, not_or, Classical.not_not] at h2
          have h3 := h2.2
          rw [e1 i hi, e1 (i - 1) hi1] at h3
          exact h3.symm
        obtain ⟨j, h1, h2⟩ := ih (i - 1) (by omega) hi1
        exact ⟨j, h1, h2.trans heq⟩
/-- What the reference's l1Put makes. -/
def insM (s : ByteArray) : List ByteArray → List ByteArray
  | [] => [s]
  | c :: r => if bLess c s = true then c :: insM s r else if c = s then c :: r else s :: c :: r
theorem encB_inj {a b : ByteArray} (h : encB a = encB b) : a = b := by
  have := congrArg decB h
  rwa [decB_encB, decB_encB] at this
theorem insM_mem (s : ByteArray) : ∀ (l : List ByteArray) (x : ByteArray), x ∈ insM s l ↔ x = s ∨ x ∈ l
  | [], x => by simp [insM]
  | c :: r, x => by
    unfold insM
    split
    · simp only [List.mem_cons, insM_mem s r x]
      constructor
      · rintro (h | h | h)
        · exact .inr (.inl h)
        · exact .inl h
        · exact .inr (.inr h)
      · rintro (h | h | h)
        · exact .inr (.inl h)
        · exact .inl h
        · exact .inr (.inr h)
    · split
      · rename_i he
        subst he
        simp
      · simp
theorem insM_asc (s : ByteArray) : ∀ {l : List ByteArray}, (l.map encB).Pairwise (· < ·) → ((insM s l).map encB).Pairwise (· < ·)
  | [], _ => by simp [insM]
  | c :: r, h => by
    rw [List.map_cons, List.pairwise_cons] at h
    unfold insM
    split
    · rename_i hlt
      rw [List.map_cons, List.pairwise_cons]
      refine ⟨fun z hz => ?_, insM_asc s h.2⟩
      obtain ⟨y, hy, rfl⟩ := List.mem_map.1 hz
      rcases (insM_mem s r y).1 hy with rfl | hy
      · exact (bLess_iff c y).1 hlt
      · exact h.1 _ (List.mem_map.2 ⟨y, hy, rfl⟩)
    · rename_i hlt
      split
      · rw [List.map_cons, List.pairwise_cons]; exact h
      · rename_i hne
        have hsc : encB s < encB c := by
          refine Classical.byContradiction fun hn => hne (encB_inj (ll_tri (fun h => hlt ((bLess_iff c s).2 h)) hn))
        rw [List.map_cons, List.pairwise_cons]
        refine ⟨fun z hz => ?_, by rw [List.map_cons, List.pairwise_cons]; exact h⟩
        rw [List.map_cons] at hz
        rcases List.mem_cons.1 hz with rfl | hz
        · exact hsc
        · exact ll_trans hsc (h.1 z hz)
theorem sorted_ins (l : List ByteArray) (s : ByteArray) (h : (l.map encB).Pairwise (· < ·)) : compactM (sortM (l ++ [s])) = insM s l := by
  have e : (compactM (sortM (l ++ [s]))).map encB = (insM s l).map encB := by
    unfold compactM
    rw [List.map_map, show encB ∘ decB = id from funext fun x => by simp [encB, decB], List.map_id, sortM_enc]
    refine asc_ext (compact_pair (sorted_pair _)) (insM_asc s h) (fun x => ?_)
    rw [compact_mem, (List.mergeSort_perm _ _).mem_iff]
    simp only [List.mem_map, List.mem_append, List.mem_singleton]
    constructor
    · rintro ⟨y, hy, rfl⟩
      exact ⟨y, (insM_mem s l y).2 (hy.elim .inr .inl), rfl⟩
    · rintro ⟨y, hy, rfl⟩
      exact ⟨y, ((insM_mem s l y).1 hy).elim .inr .inl, rfl⟩
  have := congrArg (List.map decB) e
  rwa [List.map_map, List.map_map, show decB ∘ encB = id from funext decB_encB, List.map_id, List.map_id] at this
/-- Words that ascend. -/
theorem ascW_pair : ∀ {l : List ByteArray} {q : ByteArray}, ascW (some q) l = true → (∀ x ∈ l, encB q < encB x) ∧ (l.map encB).Pairwise (· < ·)
  | [], _, _ => ⟨by simp, by simp⟩
  | c :: l, q, h => by
    simp only [ascW, Bool.and_eq_true] at h
    have h1 := (bLess_iff q c).1 h.1.2
    obtain ⟨h2, h3⟩ := ascW_pair h.2
    refine ⟨fun x hx => ?_, ?_⟩
    · rcases List.mem_cons.1 hx with rfl | hx
      · exact h1
      · exact ll_trans h1 (h2 x hx)
    · rw [List.map_cons, List.pairwise_cons]
      refine ⟨fun z hz => ?_, h3⟩
      obtain ⟨y, hy, rfl⟩ := List.mem_map.1 hz
      exact h2 y hy
theorem wordsM_pair {l : List ByteArray} {m : Int} (h : wordsM l m = true) : (l.map encB).Pairwise (· < ·) := by
  simp only [wordsM, Bool.and_eq_true] at h
  cases l with
  | nil => simp
  | cons c l =>
    have h1 := h.1
    simp only [ascW, Bool.and_eq_true] at h1
    obtain ⟨h2, h3⟩ := ascW_pair h1.2
    rw [List.map_cons, List.pairwise_cons]
    refine ⟨fun z hz => ?_, h3⟩
    obtain ⟨y, hy, rfl⟩ := List.mem_map.1 hz
    exact h2 y hy
/-! #### l1Put -/
theorem strs_full (a : List ByteArray) : PV.list (([] : List PV) ++ (strsP a).items) = strsP a := rfl
theorem ins_split (s : ByteArray) : ∀ (pre rest : List ByteArray), (∀ c ∈ pre, bLess c s = true) → insM s (pre ++ rest) = pre ++ insM s rest
  | [], rest, _ => rfl
  | c :: pre, rest, h => by
    rw [List.cons_append, insM, if_pos (h c (by simp)), ins_split s pre rest (fun x hx => h x (by simp [hx]))]; rfl
theorem put_loop (a : List ByteArray) (s : ByteArray) (ha : a.length ≤ 1000000000) : ∀ (rest pre : List ByteArray), a = pre ++ rest → (∀ c ∈ pre, bLess c s = true) →
    Ev2 (fun N n => spec_l1Put.l0 N n s (pre.length : Int) (strsP a)) [strsP (insM s a)] := by
  intro rest
  have parts : ∀ (pre rest : List ByteArray), a = pre ++ rest → (strsP a).items.take pre.length = pre.map strP ∧ (strsP a).items.drop pre.length = rest.map strP := fun pre rest hp => by
    subst hp; simp [strsP, PV.items]
  induction rest with
  | nil =>
    intro pre hp hpre
    obtain ⟨p1, p2⟩ := parts pre [] hp
    have e : insM s a = pre ++ [s] := by rw [hp, ins_split s pre [] hpre]; rfl
    have hl : a.length = pre.length := by rw [hp]; simp
    have c0 : pre.length ≤ 8796093022208 := by omega
    have c1 : pre.length + 1 ≤ 8796093022208 := by omega
    have c2 : (pre.length : Int) ≤ (a.length : Int) := by omega
    have z : a.length - pre.length = 0 := by omega
    refine Ev2.succ ?_
    have e2 : PV.list (pre.map strP ++ [strP s]) = strsP (pre ++ [s]) := by simp [strsP]
    simp only [spec_l1Put.l0_eq, strs_len, at_end hp, c2, z, List.drop_zero, Nat.sub_zero, p1, p2, List.nil_append, List.length_nil, List.length_map, List.length_append, List.map_nil, List.take_nil, List.append_nil, Nat.zero_add, Nat.add_zero, c0, c1, e, e2, strs_len, strs_elem, ints_len, ints_elem, items_list, fld_agg, elem_list, toStr_sc, toInt_sc, toBool_sc, headD_one, nat_int, get_bt, decide_eq_true_eq, decide_eq_false_iff_not, decide_true, decide_false, if_true, if_false, ite_self, Bool.not_true, Bool.not_false, Bool.false_eq_true, Bool.true_eq_false, Bool.true_and, Bool.false_and, Bool.and_true, Bool.and_false, not_true, not_false_iff, Option.bind_some, nn, toList_inj, Bool.not_eq_true', Bool.not_eq_false', Int.le_refl, and_self, true_and, and_true, false_and, and_false, bne_self_eq_false, beq_self_eq_true, Int.reduceEq, Nat.reduceEqDiff, List.length_singleton, List.tail_cons, Int.reduceLE, Int.reduceLT, decide_eq_true_eq]
    exact Ev2.now _
  | cons c rest ih =>
    intro pre hp hpre
    obtain ⟨p1, p2⟩ := parts pre (c :: rest) hp
    have hl : a.length = pre.length + 1 + rest.length := by rw [hp]; simp; omega
    refine Ev2.succ ?_
    by_cases hlt : bLess c s = true
    · simp only [spec_l1Put.l0_eq, at_lt hp, at_getD hp, bLess_eq, hlt, at_next hp (by omega), strs_len, strs_elem, ints_len, ints_elem, items_list, fld_agg, elem_list, toStr_sc, toInt_sc, toBool_sc, headD_one, nat_int, get_bt, decide_eq_true_eq, decide_eq_false_iff_not, decide_true, decide_false, if_true, if_false, ite_self, Bool.not_true, Bool.not_false, Bool.false_eq_true, Bool.true_eq_false, Bool.true_and, Bool.false_and, Bool.and_true, Bool.and_false, not_true, not_false_iff, Option.bind_some, nn, toList_inj, Bool.not_eq_true', Bool.not_eq_false', Int.le_refl, and_self, true_and, and_true, false_and, and_false, bne_self_eq_false, beq_self_eq_true, Int.reduceEq, Nat.reduceEqDiff, List.length_singleton, List.tail_cons, Int.reduceLE, Int.reduceLT, decide_eq_true_eq]
      refine ih _ (at_step hp) (fun x hx => ?_)
      rcases List.mem_append.1 hx with hx | hx
      · exact hpre x hx
      · rw [List.mem_singleton.1 hx]; exact hlt
    · have e : insM s a = pre ++ (if c = s then c :: rest else s :: c :: rest) := by rw [hp, ins_split s pre _ hpre, insM, if_neg hlt]
      by_cases hc : c = s
      · have e3 : insM s a = a := by rw [e, if_pos hc, ← hp]
        subst hc
        simp only [spec_l1Put.l0_eq, at_lt hp, at_getD hp, bLess_eq, hlt, e3, strs_len, strs_elem, ints_len, ints_elem, items_list, fld_agg, elem_list, toStr_sc, toInt_sc, toBool_sc, headD_one, nat_int, get_bt, decide_eq_true_eq, decide_eq_false_iff_not, decide_true, decide_false, if_true, if_false, ite_self, Bool.not_true, Bool.not_false, Bool.false_eq_true, Bool.true_eq_false, Bool.true_and, Bool.false_and, Bool.and_true, Bool.and_false, not_true, not_false_iff, Option.bind_some, nn, toList_inj, Bool.not_eq_true', Bool.not_eq_false', Int.le_refl, and_self, true_and, and_true, false_and, and_false, bne_self_eq_false, beq_self_eq_true, Int.reduceEq, Nat.reduceEqDiff, List.length_singleton, List.tail_cons, Int.reduceLE, Int.reduceLT, decide_eq_true_eq]
        exact Ev2.now _
      · rw [if_neg hc] at e
        have c0 : pre.length ≤ 8796093022208 := by omega
        have c1 : pre.length + 1 ≤ 8796093022208 := by omega
        have c2 : (pre.length : Int) ≤ (a.length : Int) := by omega
        have c3 : pre.length + 1 + (rest.length + 1) ≤ 8796093022208 := by omega
        have z : a.length - pre.length = rest.length + 1 := by omega
        have t1 : List.take (rest.length + 1) (strP c :: rest.map strP) = strP c :: rest.map strP := List.take_of_length_le (by simp)
        have e2 : PV.list (pre.map strP ++ [strP s] ++ strP c :: rest.map strP) = strsP (pre ++ s :: c :: rest) := by simp [strsP]
        simp only [spec_l1Put.l0_eq, strs_len, at_lt hp, at_getD hp, bLess_eq, hlt, hc, c2, List.drop_zero, Nat.sub_zero, p1, p2, z, t1, List.nil_append, List.length_nil, List.length_map, List.length_append, List.length_cons, List.map_cons, Nat.zero_add, c0, c1, c3, e, e2, strs_len, strs_elem, ints_len, ints_elem, items_list, fld_agg, elem_list, toStr_sc, toInt_sc, toBool_sc, headD_one, nat_int, get_bt, decide_eq_true_eq, decide_eq_false_iff_not, decide_true, decide_false, if_true, if_false, ite_self, Bool.not_true, Bool.not_false, Bool.false_eq_true, Bool.true_eq_false, Bool.true_and, Bool.false_and, Bool.and_true, Bool.and_false, not_true, not_false_iff, Option.bind_some, nn, toList_inj, Bool.not_eq_true', Bool.not_eq_false', Int.le_refl, and_self, true_and, and_true, false_and, and_false, bne_self_eq_false, beq_self_eq_true, Int.reduceEq, Nat.reduceEqDiff, List.length_singleton, List.tail_cons, Int.reduceLE, Int.reduceLT, decide_eq_true_eq]
        exact Ev2.now _
theorem put_ev (a : List ByteArray) (s : ByteArray) (ha : a.length ≤ 1000000000) : Ev (fun N => spec_l1Put.f N [strsP a, strP s]) [strsP (insM s a)] := by
  simp only [spec_l1Put.f_eq, strs_len, strs_elem, ints_len, ints_elem, items_list, fld_agg, elem_list, toStr_sc, toInt_sc, toBool_sc, headD_one, nat_int, get_bt, decide_eq_true_eq, decide_eq_false_iff_not, decide_true, decide_false, if_true, if_false, ite_self, Bool.not_true, Bool.not_false, Bool.false_eq_true, Bool.true_eq_false, Bool.true_and, Bool.false_and, Bool.and_true, Bool.and_false, not_true, not_false_iff, Option.bind_some, nn, toList_inj, Bool.not_eq_true', Bool.not_eq_false', Int.le_refl, and_self, true_and, and_true, false_and, and_false, bne_self_eq_false, beq_self_eq_true, Int.reduceEq, Nat.reduceEqDiff, List.length_singleton, List.tail_cons, Int.reduceLE, Int.reduceLT, decide_eq_true_eq]
  exact (put_loop a s ha a [] rfl (by simp)).diag
theorem insM_len (s : ByteArray) : ∀ l : List ByteArray, (insM s l).length ≤ l.length + 1
  | [] => by simp [insM]
  | c :: r => by
    unfold insM
    have := insM_len s r
    split
    · simp; omega
    · split <;> simp
/-! #### UserAdd -/
theorem sort_val (l : List ByteArray) (h1 : 1 ≤ l.length) (h2 : l.length ≤ 1000000000) (N : Nat) : slices_Sort_string_string.f N [strsP l] = some [strsP (sortM l)] := by
  cases l with
  | nil => simp at h1
  | cons x l =>
    show sortDen [strsP (x :: l)] = _
    simp only [strsP, List.map_cons, sortDen]
    have e1 : List.map PV.toStr (strP x :: List.map strP l) = x :: l := by simp [Function.comp_def, PV.toStr]
    simp only [List.map_cons] at e1
    rw [e1]
    have h3 : (strP x :: l.map strP).length < 4611686018427387904 := by simp at h2 ⊢; omega
    rw [if_pos h3]
theorem compact_val (l : List ByteArray) (h2 : l.length ≤ 1000000000) (N : Nat) : slices_Compact_string_string.f N [strsP l] = some [strsP (compactM l)] := by
  show compactDen [strsP l] = _
  simp only [strsP, compactDen, List.length_map]
  rw [toStr_strs, if_pos (by omega)]
theorem sorted_val (l : List ByteArray) (h1 : 1 ≤ l.length) (h2 : l.length ≤ 1000000000) (N : Nat) : impl_sorted.f N [strsP l] = some [strsP (compactM (sortM l))] := by
  have c1 : l.length ≤ 8796093022208 := by omega
  have hl := compactM_len (sortM l)
  rw [sortM_len] at hl
  have c2 : (compactM (sortM l)).length ≤ 8796093022208 := by omega
  have hc := compact_val (sortM l) (by rw [sortM_len]; exact h2)
  simp only [impl_sorted.f_eq, strs_len, strs_full, List.length_nil, Nat.zero_add, c1, c2, sort_val l h1 h2, hc, headD_one, Option.bind_some, if_true]
theorem implAdd_ev (a : List ByteArray) (s : ByteArray) (ha : a.length ≤ 1048576) (hs : ∀ x ∈ a, x.size ≤ 9223372036854775807) (hss : s.size ≤ 9223372036854775807) :
    Ev (fun N => impl_UserAdd.f N [strsP a, strP s]) (if wordsM a 10 = true then (if wordsM (insM s a) 10 = true then [strsP (insM s a), boolP true] else [strsP a, boolP false]) else [strsP [], boolP false]) := by
  simp only [impl_UserAdd.f_eq, strs_len, strs_elem, ints_len, ints_elem, items_list, fld_agg, elem_list, toStr_sc, toInt_sc, toBool_sc, headD_one, nat_int, get_bt, decide_eq_true_eq, decide_eq_false_iff_not, decide_true, decide_false, if_true, if_false, ite_self, Bool.not_true, Bool.not_false, Bool.false_eq_true, Bool.true_eq_false, Bool.true_and, Bool.false_and, Bool.and_true, Bool.and_false, not_true, not_false_iff, Option.bind_some, nn, toList_inj, Bool.not_eq_true', Bool.not_eq_false', Int.le_refl, and_self, true_and, and_true, false_and, and_false, bne_self_eq_false, beq_self_eq_true, Int.reduceEq, Nat.reduceEqDiff, List.length_singleton, List.tail_cons, Int.reduceLE, Int.reduceLT, decide_eq_true_eq]
  refine Ev.bind (implWords_ev a 10 (by omega) hs) ?_
  cases hw : wordsM a 10 with
  | false => simp only [strs_len, strs_elem, ints_len, ints_elem, items_list, fld_agg, elem_list, toStr_sc, toInt_sc, toBool_sc, headD_one, nat_int, get_bt, decide_eq_true_eq, decide_eq_false_iff_not, decide_true, decide_false, if_true, if_false, ite_self, Bool.not_true, Bool.not_false, Bool.false_eq_true, Bool.true_eq_false, Bool.true_and, Bool.false_and, Bool.and_true, Bool.and_false, not_true, not_false_iff, Option.bind_some, nn, toList_inj, Bool.not_eq_true', Bool.not_eq_false', Int.le_refl, and_self, true_and, and_true, false_and, and_false, bne_self_eq_false, beq_self_eq_true, Int.reduceEq, Nat.reduceEqDiff, List.length_singleton, List.tail_cons, Int.reduceLE, Int.reduceLT, decide_eq_true_eq]; exact Ev.now _
  | true =>
    have c1 : a.length ≤ 8796093022208 := by omega
    have c2 : a.length + 1 ≤ 8796093022208 := by omega
    have e2 : PV.list ((strsP a).items ++ [strP s]) = strsP (a ++ [s]) := by simp [strsP, PV.items]
    have hv := sorted_val (a ++ [s]) (by simp) (by rw [List.length_append, List.length_singleton]; omega)
    rw [sorted_ins a s (wordsM_pair hw)] at hv
    have hln := insM_len s a
    simp only [strs_len, strs_full, e2, List.nil_append, List.length_nil, Nat.zero_add, c1, c2, hv, strs_len, strs_elem, ints_len, ints_elem, items_list, fld_agg, elem_list, toStr_sc, toInt_sc, toBool_sc, headD_one, nat_int, get_bt, decide_eq_true_eq, decide_eq_false_iff_not, decide_true, decide_false, if_true, if_false, ite_self, Bool.not_true, Bool.not_false, Bool.false_eq_true, Bool.true_eq_false, Bool.true_and, Bool.false_and, Bool.and_true, Bool.and_false, not_true, not_false_iff, Option.bind_some, nn, toList_inj, Bool.not_eq_true', Bool.not_eq_false', Int.le_refl, and_self, true_and, and_true, false_and, and_false, bne_self_eq_false, beq_self_eq_true, Int.reduceEq, Nat.reduceEqDiff, List.length_singleton, List.tail_cons, Int.reduceLE, Int.reduceLT, decide_eq_true_eq]
    refine Ev.bind (implWords_ev (insM s a) 10 (by omega) (fun x hx => by
      rcases (insM_mem s a x).1 hx with rfl | hx
      · exact hss
      · exact hs x hx)) ?_
    cases hw2 : wordsM (insM s a) 10 with
    | false => simp only [strs_len, strs_elem, ints_len, ints_elem, items_list, fld_agg, elem_list, toStr_sc, toInt_sc, toBool_sc, headD_one, nat_int, get_bt, decide_eq_true_eq, decide_eq_false_iff_not, decide_true, decide_false, if_true, if_false, ite_self, Bool.not_true, Bool.not_false, Bool.false_eq_true, Bool.true_eq_false, Bool.true_and, Bool.false_and, Bool.and_true, Bool.and_false, not_true, not_false_iff, Option.bind_some, nn, toList_inj, Bool.not_eq_true', Bool.not_eq_false', Int.le_refl, and_self, true_and, and_true, false_and, and_false, bne_self_eq_false, beq_self_eq_true, Int.reduceEq, Nat.reduceEqDiff, List.length_singleton, List.tail_cons, Int.reduceLE, Int.reduceLT, decide_eq_true_eq]; exact Ev.now _
    | true => simp only [strs_len, strs_elem, ints_len, ints_elem, items_list, fld_agg, elem_list, toStr_sc, toInt_sc, toBool_sc, headD_one, nat_int, get_bt, decide_eq_true_eq, decide_eq_false_iff_not, decide_true, decide_false, if_true, if_false, ite_self, Bool.not_true, Bool.not_false, Bool.false_eq_true, Bool.true_eq_false, Bool.true_and, Bool.false_and, Bool.and_true, Bool.and_false, not_true, not_false_iff, Option.bind_some, nn, toList_inj, Bool.not_eq_true', Bool.not_eq_false', Int.le_refl, and_self, true_and, and_true, false_and, and_false, bne_self_eq_false, beq_self_eq_true, Int.reduceEq, Nat.reduceEqDiff, List.length_singleton, List.tail_cons, Int.reduceLE, Int.reduceLT, decide_eq_true_eq]; exact Ev.now _
theorem specAdd_ev (a : List ByteArray) (s : ByteArray) (ha : a.length ≤ 1048576) (hs : ∀ x ∈ a, x.size ≤ 9223372036854775807) (hss : s.size ≤ 9223372036854775807) :
    Ev (fun N => spec_UserAdd.f N [strsP a, strP s]) (if wordsM a 10 = true then (if wordsM (insM s a) 10 = true then [strsP (insM s a), boolP true] else [strsP a, boolP false]) else [strsP [], boolP false]) := by
  simp only [spec_UserAdd.f_eq, strs_len, strs_elem, ints_len, ints_elem, items_list, fld_agg, elem_list, toStr_sc, toInt_sc, toBool_sc, headD_one, nat_int, get_bt, decide_eq_true_eq, decide_eq_false_iff_not, decide_true, decide_false, if_true, if_false, ite_self, Bool.not_true, Bool.not_false, Bool.false_eq_true, Bool.true_eq_false, Bool.true_and, Bool.false_and, Bool.and_true, Bool.and_false, not_true, not_false_iff, Option.bind_some, nn, toList_inj, Bool.not_eq_true', Bool.not_eq_false', Int.le_refl, and_self, true_and, and_true, false_and, and_false, bne_self_eq_false, beq_self_eq_true, Int.reduceEq, Nat.reduceEqDiff, List.length_singleton, List.tail_cons, Int.reduceLE, Int.reduceLT, decide_eq_true_eq]
  refine Ev.bind (specOwn_ev a (by omega) hs) ?_
  cases hw : wordsM a 10 with
  | false => simp only [strs_len, strs_elem, ints_len, ints_elem, items_list, fld_agg, elem_list, toStr_sc, toInt_sc, toBool_sc, headD_one, nat_int, get_bt, decide_eq_true_eq, decide_eq_false_iff_not, decide_true, decide_false, if_true, if_false, ite_self, Bool.not_true, Bool.not_false, Bool.false_eq_true, Bool.true_eq_false, Bool.true_and, Bool.false_and, Bool.and_true, Bool.and_false, not_true, not_false_iff, Option.bind_some, nn, toList_inj, Bool.not_eq_true', Bool.not_eq_false', Int.le_refl, and_self, true_and, and_true, false_and, and_false, bne_self_eq_false, beq_self_eq_true, Int.reduceEq, Nat.reduceEqDiff, List.length_singleton, List.tail_cons, Int.reduceLE, Int.reduceLT, decide_eq_true_eq]; exact Ev.now _
  | true =>
    have c1 : a.length ≤ 8796093022208 := by omega
    have hln := insM_len s a
    simp only [strs_len, strs_full, List.length_nil, Nat.zero_add, c1, strs_len, strs_elem, ints_len, ints_elem, items_list, fld_agg, elem_list, toStr_sc, toInt_sc, toBool_sc, headD_one, nat_int, get_bt, decide_eq_true_eq, decide_eq_false_iff_not, decide_true, decide_false, if_true, if_false, ite_self, Bool.not_true, Bool.not_false, Bool.false_eq_true, Bool.true_eq_false, Bool.true_and, Bool.false_and, Bool.and_true, Bool.and_false, not_true, not_false_iff, Option.bind_some, nn, toList_inj, Bool.not_eq_true', Bool.not_eq_false', Int.le_refl, and_self, true_and, and_true, false_and, and_false, bne_self_eq_false, beq_self_eq_true, Int.reduceEq, Nat.reduceEqDiff, List.length_singleton, List.tail_cons, Int.reduceLE, Int.reduceLT, decide_eq_true_eq]
    refine Ev.bind (put_ev a s (by omega)) ?_
    simp only [strs_len, strs_elem, ints_len, ints_elem, items_list, fld_agg, elem_list, toStr_sc, toInt_sc, toBool_sc, headD_one, nat_int, get_bt, decide_eq_true_eq, decide_eq_false_iff_not, decide_true, decide_false, if_true, if_false, ite_self, Bool.not_true, Bool.not_false, Bool.false_eq_true, Bool.true_eq_false, Bool.true_and, Bool.false_and, Bool.and_true, Bool.and_false, not_true, not_false_iff, Option.bind_some, nn, toList_inj, Bool.not_eq_true', Bool.not_eq_false', Int.le_refl, and_self, true_and, and_true, false_and, and_false, bne_self_eq_false, beq_self_eq_true, Int.reduceEq, Nat.reduceEqDiff, List.length_singleton, List.tail_cons, Int.reduceLE, Int.reduceLT, decide_eq_true_eq]
    refine Ev.bind (specOwn_ev (insM s a) (by omega) (fun x hx => by
      rcases (insM_mem s a x).1 hx with rfl | hx
      · exact hss
      · exact hs x hx)) ?_
    cases hw2 : wordsM (insM s a) 10 with
    | false => simp only [strs_len, strs_elem, ints_len, ints_elem, items_list, fld_agg, elem_list, toStr_sc, toInt_sc, toBool_sc, headD_one, nat_int, get_bt, decide_eq_true_eq, decide_eq_false_iff_not, decide_true, decide_false, if_true, if_false, ite_self, Bool.not_true, Bool.not_false, Bool.false_eq_true, Bool.true_eq_false, Bool.true_and, Bool.false_and, Bool.and_true, Bool.and_false, not_true, not_false_iff, Option.bind_some, nn, toList_inj, Bool.not_eq_true', Bool.not_eq_false', Int.le_refl, and_self, true_and, and_true, false_and, and_false, bne_self_eq_false, beq_self_eq_true, Int.reduceEq, Nat.reduceEqDiff, List.length_singleton, List.tail_cons, Int.reduceLE, Int.reduceLT, decide_eq_true_eq]; exact Ev.now _
    | true => simp only [strs_len, strs_elem, ints_len, ints_elem, items_list, fld_agg, elem_list, toStr_sc, toInt_sc, toBool_sc, headD_one, nat_int, get_bt, decide_eq_true_eq, decide_eq_false_iff_not, decide_true, decide_false, if_true, if_false, ite_self, Bool.not_true, Bool.not_false, Bool.false_eq_true, Bool.true_eq_false, Bool.true_and, Bool.false_and, Bool.and_true, Bool.and_false, not_true, not_false_iff, Option.bind_some, nn, toList_inj, Bool.not_eq_true', Bool.not_eq_false', Int.le_refl, and_self, true_and, and_true, false_and, and_false, bne_self_eq_false, beq_self_eq_true, Int.reduceEq, Nat.reduceEqDiff, List.length_singleton, List.tail_cons, Int.reduceLE, Int.reduceLT, decide_eq_true_eq]; exact Ev.now _
/-- The law's own function answers true. -/
theorem law (ps : List PV) (h : PvOkL (PvOk Try.prog 8) [22, 9] ps) : ∃ N, laws_FnExactUserAdd.f N ps = some [boolP true] := by
  obtain ⟨p, q, rfl, h1, h2⟩ := pvOkL2 h
  obtain ⟨own, rfl, hl, hss⟩ := pvOk_strs (P := Try.prog) (t := 22) (e := 9) (by kernel_rfl) (by kernel_rfl) h1
  obtain ⟨w, rfl, hw⟩ := pvOk_str (P := Try.prog) (t := 9) (by kernel_rfl) h2
  have hm : reachBytes = 140737488351232 := rfl
  rw [hm] at hl hw
  have hs : ∀ s ∈ own, s.size ≤ 9223372036854775807 := fun s h => by have := hss s h; rw [hm] at this; omega
  refine Ev.some ?_
  simp only [laws_FnExactUserAdd.f_eq, strs_len, strs_elem, ints_len, ints_elem, items_list, fld_agg, elem_list, toStr_sc, toInt_sc, toBool_sc, headD_one, nat_int, get_bt, decide_eq_true_eq, decide_eq_false_iff_not, decide_true, decide_false, if_true, if_false, ite_self, Bool.not_true, Bool.not_false, Bool.false_eq_true, Bool.true_eq_false, Bool.true_and, Bool.false_and, Bool.and_true, Bool.and_false, not_true, not_false_iff, Option.bind_some, nn, toList_inj, Bool.not_eq_true', Bool.not_eq_false', Int.le_refl, and_self, true_and, and_true, false_and, and_false, bne_self_eq_false, beq_self_eq_true, Int.reduceEq, Nat.reduceEqDiff, List.length_singleton, List.tail_cons, Int.reduceLE, Int.reduceLT, decide_eq_true_eq]
  by_cases h : (1048576 : Int) < (w.size : Int)
  · simp only [h, strs_len, strs_elem, ints_len, ints_elem, items_list, fld_agg, elem_list, toStr_sc, toInt_sc, toBool_sc, headD_one, nat_int, get_bt, decide_eq_true_eq, decide_eq_false_iff_not, decide_true, decide_false, if_true, if_false, ite_self, Bool.not_true, Bool.not_false, Bool.false_eq_true, Bool.true_eq_false, Bool.true_and, Bool.false_and, Bool.and_true, Bool.and_false, not_true, not_false_iff, Option.bind_some, nn, toList_inj, Bool.not_eq_true', Bool.not_eq_false', Int.le_refl, and_self, true_and, and_true, false_and, and_false, bne_self_eq_false, beq_self_eq_true, Int.reduceEq, Nat.reduceEqDiff, List.length_singleton, List.tail_cons, Int.reduceLE, Int.reduceLT, decide_eq_true_eq]; exact Ev.now _
  simp only [h, strs_len, strs_elem, ints_len, ints_elem, items_list, fld_agg, elem_list, toStr_sc, toInt_sc, toBool_sc, headD_one, nat_int, get_bt, decide_eq_true_eq, decide_eq_false_iff_not, decide_true, decide_false, if_true, if_false, ite_self, Bool.not_true, Bool.not_false, Bool.false_eq_true, Bool.true_eq_false, Bool.true_and, Bool.false_and, Bool.and_true, Bool.and_false, not_true, not_false_iff, Option.bind_some, nn, toList_inj, Bool.not_eq_true', Bool.not_eq_false', Int.le_refl, and_self, true_and, and_true, false_and, and_false, bne_self_eq_false, beq_self_eq_true, Int.reduceEq, Nat.reduceEqDiff, List.length_singleton, List.tail_cons, Int.reduceLE, Int.reduceLT, decide_eq_true_eq]
  obtain ⟨left, hleft, hle, hv⟩ := szStringS_ev own (by omega) hs 1048576 (by omega) (by omega)
  refine Ev.bind hleft ?_
  simp only [strs_len, strs_elem, ints_len, ints_elem, items_list, fld_agg, elem_list, toStr_sc, toInt_sc, toBool_sc, headD_one, nat_int, get_bt, decide_eq_true_eq, decide_eq_false_iff_not, decide_true, decide_false, if_true, if_false, ite_self, Bool.not_true, Bool.not_false, Bool.false_eq_true, Bool.true_eq_false, Bool.true_and, Bool.false_and, Bool.and_true, Bool.and_false, not_true, not_false_iff, Option.bind_some, nn, toList_inj, Bool.not_eq_true', Bool.not_eq_false', Int.le_refl, and_self, true_and, and_true, false_and, and_false, bne_self_eq_false, beq_self_eq_true, Int.reduceEq, Nat.reduceEqDiff, List.length_singleton, List.tail_cons, Int.reduceLE, Int.reduceLT, decide_eq_true_eq]
  by_cases hn : left < 0
  · simp only [hn, strs_len, strs_elem, ints_len, ints_elem, items_list, fld_agg, elem_list, toStr_sc, toInt_sc, toBool_sc, headD_one, nat_int, get_bt, decide_eq_true_eq, decide_eq_false_iff_not, decide_true, decide_false, if_true, if_false, ite_self, Bool.not_true, Bool.not_false, Bool.false_eq_true, Bool.true_eq_false, Bool.true_and, Bool.false_and, Bool.and_true, Bool.and_false, not_true, not_false_iff, Option.bind_some, nn, toList_inj, Bool.not_eq_true', Bool.not_eq_false', Int.le_refl, and_self, true_and, and_true, false_and, and_false, bne_self_eq_false, beq_self_eq_true, Int.reduceEq, Nat.reduceEqDiff, List.length_singleton, List.tail_cons, Int.reduceLE, Int.reduceLT, decide_eq_true_eq]; exact Ev.now _
  simp only [hn, strs_len, strs_elem, ints_len, ints_elem, items_list, fld_agg, elem_list, toStr_sc, toInt_sc, toBool_sc, headD_one, nat_int, get_bt, decide_eq_true_eq, decide_eq_false_iff_not, decide_true, decide_false, if_true, if_false, ite_self, Bool.not_true, Bool.not_false, Bool.false_eq_true, Bool.true_eq_false, Bool.true_and, Bool.false_and, Bool.and_true, Bool.and_false, not_true, not_false_iff, Option.bind_some, nn, toList_inj, Bool.not_eq_true', Bool.not_eq_false', Int.le_refl, and_self, true_and, and_true, false_and, and_false, bne_self_eq_false, beq_self_eq_true, Int.reduceEq, Nat.reduceEqDiff, List.length_singleton, List.tail_cons, Int.reduceLE, Int.reduceLT, decide_eq_true_eq]
  have hlen : own.length ≤ 1048576 := by have := szStrs_len own; have := hv (by omega); omega
  obtain ⟨r, b, hr, hrl⟩ : ∃ (r : List ByteArray) (b : Bool), (if wordsM own 10 = true then (if wordsM (insM w own) 10 = true then [strsP (insM w own), boolP true] else [strsP own, boolP false]) else [strsP [], boolP false]) = [strsP r, boolP b] ∧ r.length ≤ own.length + 1 := by
    have := insM_len w own
    split
    · split
      · exact ⟨_, _, rfl, by omega⟩
      · exact ⟨_, _, rfl, by omega⟩
    · exact ⟨_, _, rfl, by simp⟩
  have hi := implAdd_ev own w hlen hs (by omega)
  have hsp := specAdd_ev own w hlen hs (by omega)
  rw [hr] at hi hsp
  have hneg1 : ¬ (1 + (own.length : Int) < 0) := by omega
  have hneg2 : ¬ (1 + (r.length : Int) < 0) := by omega
  refine Ev.bind (toStringS_ev own (by omega)) ?_
  refine Ev.bind hsp ?_
  refine Ev.bind (toStringS_ev own (by omega)) ?_
  refine Ev.bind hi ?_
  simp only [strs_len, strs_elem, ints_len, ints_elem, items_list, fld_agg, elem_list, toStr_sc, toInt_sc, toBool_sc, headD_one, nat_int, get_bt, decide_eq_true_eq, decide_eq_false_iff_not, decide_true, decide_false, if_true, if_false, ite_self, Bool.not_true, Bool.not_false, Bool.false_eq_true, Bool.true_eq_false, Bool.true_and, Bool.false_and, Bool.and_true, Bool.and_false, not_true, not_false_iff, Option.bind_some, nn, toList_inj, Bool.not_eq_true', Bool.not_eq_false', Int.le_refl, and_self, true_and, and_true, false_and, and_false, bne_self_eq_false, beq_self_eq_true, Int.reduceEq, Nat.reduceEqDiff, List.length_singleton, List.tail_cons, Int.reduceLE, Int.reduceLT, decide_eq_true_eq]
  refine Ev.bind (eqStringS_ev _ (by omega)) ?_
  simp only [strs_len, strs_elem, ints_len, ints_elem, items_list, fld_agg, elem_list, toStr_sc, toInt_sc, toBool_sc, headD_one, nat_int, get_bt, decide_eq_true_eq, decide_eq_false_iff_not, decide_true, decide_false, if_true, if_false, ite_self, Bool.not_true, Bool.not_false, Bool.false_eq_true, Bool.true_eq_false, Bool.true_and, Bool.false_and, Bool.and_true, Bool.and_false, not_true, not_false_iff, Option.bind_some, nn, toList_inj, Bool.not_eq_true', Bool.not_eq_false', Int.le_refl, and_self, true_and, and_true, false_and, and_false, bne_self_eq_false, beq_self_eq_true, Int.reduceEq, Nat.reduceEqDiff, List.length_singleton, List.tail_cons, Int.reduceLE, Int.reduceLT, decide_eq_true_eq]
  refine Ev.bind (toStringS_ev own (by omega)) ?_
  refine Ev.bind (eqStringS_ev _ (by omega)) ?_
  simp only [strs_len, strs_elem, ints_len, ints_elem, items_list, fld_agg, elem_list, toStr_sc, toInt_sc, toBool_sc, headD_one, nat_int, get_bt, decide_eq_true_eq, decide_eq_false_iff_not, decide_true, decide_false, if_true, if_false, ite_self, Bool.not_true, Bool.not_false, Bool.false_eq_true, Bool.true_eq_false, Bool.true_and, Bool.false_and, Bool.and_true, Bool.and_false, not_true, not_false_iff, Option.bind_some, nn, toList_inj, Bool.not_eq_true', Bool.not_eq_false', Int.le_refl, and_self, true_and, and_true, false_and, and_false, bne_self_eq_false, beq_self_eq_true, Int.reduceEq, Nat.reduceEqDiff, List.length_singleton, List.tail_cons, Int.reduceLE, Int.reduceLT, decide_eq_true_eq]
  refine Ev.bind (markStringS_ev own 1 (by omega) (by omega) (by omega)) ?_
  simp only [hneg1, strs_len, strs_elem, ints_len, ints_elem, items_list, fld_agg, elem_list, toStr_sc, toInt_sc, toBool_sc, headD_one, nat_int, get_bt, decide_eq_true_eq, decide_eq_false_iff_not, decide_true, decide_false, if_true, if_false, ite_self, Bool.not_true, Bool.not_false, Bool.false_eq_true, Bool.true_eq_false, Bool.true_and, Bool.false_and, Bool.and_true, Bool.and_false, not_true, not_false_iff, Option.bind_some, nn, toList_inj, Bool.not_eq_true', Bool.not_eq_false', Int.le_refl, and_self, true_and, and_true, false_and, and_false, bne_self_eq_false, beq_self_eq_true, Int.reduceEq, Nat.reduceEqDiff, List.length_singleton, List.tail_cons, Int.reduceLE, Int.reduceLT, decide_eq_true_eq]
  refine Ev.bind (eqStringS_ev _ (by omega)) ?_
  simp only [strs_len, strs_elem, ints_len, ints_elem, items_list, fld_agg, elem_list, toStr_sc, toInt_sc, toBool_sc, headD_one, nat_int, get_bt, decide_eq_true_eq, decide_eq_false_iff_not, decide_true, decide_false, if_true, if_false, ite_self, Bool.not_true, Bool.not_false, Bool.false_eq_true, Bool.true_eq_false, Bool.true_and, Bool.false_and, Bool.and_true, Bool.and_false, not_true, not_false_iff, Option.bind_some, nn, toList_inj, Bool.not_eq_true', Bool.not_eq_false', Int.le_refl, and_self, true_and, and_true, false_and, and_false, bne_self_eq_false, beq_self_eq_true, Int.reduceEq, Nat.reduceEqDiff, List.length_singleton, List.tail_cons, Int.reduceLE, Int.reduceLT, decide_eq_true_eq]
  refine Ev.bind (markStringS_ev _ 1 (by omega) (by omega) (by omega)) ?_
  refine Ev.bind (heldStringS_ev _ 1 (by omega) (by omega) (by omega)) ?_
  simp only [hneg2, strs_len, strs_elem, ints_len, ints_elem, items_list, fld_agg, elem_list, toStr_sc, toInt_sc, toBool_sc, headD_one, nat_int, get_bt, decide_eq_true_eq, decide_eq_false_iff_not, decide_true, decide_false, if_true, if_false, ite_self, Bool.not_true, Bool.not_false, Bool.false_eq_true, Bool.true_eq_false, Bool.true_and, Bool.false_and, Bool.and_true, Bool.and_false, not_true, not_false_iff, Option.bind_some, nn, toList_inj, Bool.not_eq_true', Bool.not_eq_false', Int.le_refl, and_self, true_and, and_true, false_and, and_false, bne_self_eq_false, beq_self_eq_true, Int.reduceEq, Nat.reduceEqDiff, List.length_singleton, List.tail_cons, Int.reduceLE, Int.reduceLT, decide_eq_true_eq]
  refine Ev.bind (toStringS_ev own (by omega)) ?_
  refine Ev.bind hi ?_
  simp only [strs_len, strs_elem, ints_len, ints_elem, items_list, fld_agg, elem_list, toStr_sc, toInt_sc, toBool_sc, headD_one, nat_int, get_bt, decide_eq_true_eq, decide_eq_false_iff_not, decide_true, decide_false, if_true, if_false, ite_self, Bool.not_true, Bool.not_false, Bool.false_eq_true, Bool.true_eq_false, Bool.true_and, Bool.false_and, Bool.and_true, Bool.and_false, not_true, not_false_iff, Option.bind_some, nn, toList_inj, Bool.not_eq_true', Bool.not_eq_false', Int.le_refl, and_self, true_and, and_true, false_and, and_false, bne_self_eq_false, beq_self_eq_true, Int.reduceEq, Nat.reduceEqDiff, List.length_singleton, List.tail_cons, Int.reduceLE, Int.reduceLT, decide_eq_true_eq]
  refine Ev.bind (eqStringS_ev _ (by omega)) ?_
  simp only [strs_len, strs_elem, ints_len, ints_elem, items_list, fld_agg, elem_list, toStr_sc, toInt_sc, toBool_sc, headD_one, nat_int, get_bt, decide_eq_true_eq, decide_eq_false_iff_not, decide_true, decide_false, if_true, if_false, ite_self, Bool.not_true, Bool.not_false, Bool.false_eq_true, Bool.true_eq_false, Bool.true_and, Bool.false_and, Bool.and_true, Bool.and_false, not_true, not_false_iff, Option.bind_some, nn, toList_inj, Bool.not_eq_true', Bool.not_eq_false', Int.le_refl, and_self, true_and, and_true, false_and, and_false, bne_self_eq_false, beq_self_eq_true, Int.reduceEq, Nat.reduceEqDiff, List.length_singleton, List.tail_cons, Int.reduceLE, Int.reduceLT, decide_eq_true_eq]
  refine Ev.bind (heldStringS_ev _ 1 (by omega) (by omega) (by omega)) ?_
  simp only [hneg2, strs_len, strs_elem, ints_len, ints_elem, items_list, fld_agg, elem_list, toStr_sc, toInt_sc, toBool_sc, headD_one, nat_int, get_bt, decide_eq_true_eq, decide_eq_false_iff_not, decide_true, decide_false, if_true, if_false, ite_self, Bool.not_true, Bool.not_false, Bool.false_eq_true, Bool.true_eq_false, Bool.true_and, Bool.false_and, Bool.and_true, Bool.and_false, not_true, not_false_iff, Option.bind_some, nn, toList_inj, Bool.not_eq_true', Bool.not_eq_false', Int.le_refl, and_self, true_and, and_true, false_and, and_false, bne_self_eq_false, beq_self_eq_true, Int.reduceEq, Nat.reduceEqDiff, List.length_singleton, List.tail_cons, Int.reduceLE, Int.reduceLT, decide_eq_true_eq]
  exact Ev.now _
end Go.Proofs.Ytpnbhcifhbnaaaa.FnExactUserAdd
