/- The law FnExactRingKey, over the trees that its functions compute: it answers true, for all arguments of the bounds that the row grants. -/
import Derived.Test.YtbmpmkklopbejaaFnFnExactRingKeyx1
set_option linter.unusedVariables false
set_option linter.unusedSimpArgs false
set_option maxRecDepth 10000
namespace Go.Proofs.Ytbmpmkklopbejaa.FnExactRingKey
open Go Go.Proofs.YtbmpmkklopbejaaAm
/-! #### the laws' own helpers over slices: size -/
/-- The size that a list of strings takes up. -/
def szStrs (a : List ByteArray) : Int := (a.length : Int) + (a.map fun s => (s.size : Int)).sum
theorem sum_nonneg (l : List ByteArray) : 0 ≤ (l.map fun s : ByteArray => (s.size : Int)).sum := by
  induction l with
  | nil => exact Int.le_refl _
  | cons c l ih => simp only [List.map_cons, List.sum_cons]; omega
theorem szStringS_loop (a : List ByteArray) (ha : a.length ≤ 9223372036854775807) (hs : ∀ s ∈ a, s.size ≤ 9223372036854775807) : ∀ rest pre : List ByteArray, a = pre ++ rest → ∀ left : Int, 0 ≤ left → left ≤ 1048576 →
    ∃ r, Ev2 (fun N n => laws_szStringS.l0 N n (strsP a) left (pre.length : Int)) [intP r] ∧ r ≤ left ∧ (0 ≤ r → r = left - (rest.map fun s => (s.size : Int)).sum) := by
  intro rest
  induction rest with
  | nil =>
    intro pre hp left h0 h1
    refine ⟨left, Ev2.succ ?_, Int.le_refl _, fun _ => by simp⟩
    simp only [laws_szStringS.l0_eq, strs_len, decide_eq_true_eq, if_neg (at_end hp)]
    exact Ev2.now _
  | cons c rest ih =>
    intro pre hp left h0 h1
    have hc : c.size ≤ 9223372036854775807 := hs c (by rw [hp]; simp)
    have hw : IntKind.i64.wrap (left - (c.size : Int)) = left - c.size := wrap_id (by omega) (by omega)
    by_cases hneg : left - (c.size : Int) < 0
    · refine ⟨-1, Ev2.succ ?_, by omega, fun h => by omega⟩
      simp only [laws_szStringS.l0_eq, strs_len, strs_elem, nat_int, decide_eq_true_eq, if_pos (at_lt hp), if_pos (nn (n := pre.length)), at_getD hp, hw, if_pos hneg]
      exact Ev2.now _
    · obtain ⟨r, hr, hle, hv⟩ := ih _ (at_step hp) (left - c.size) (by omega) (by omega)
      refine ⟨r, Ev2.succ ?_, by omega, fun h => by rw [hv h]; simp only [List.map_cons, List.sum_cons]; omega⟩
      simp only [laws_szStringS.l0_eq, strs_len, strs_elem, nat_int, decide_eq_true_eq, if_pos (at_lt hp), if_pos (nn (n := pre.length)), at_getD hp, hw, if_neg hneg, at_next hp ha]
      exact hr
theorem szStringS_ev (a : List ByteArray) (ha : a.length ≤ 9223372036854775807) (hs : ∀ s ∈ a, s.size ≤ 9223372036854775807) (left : Int) (h0 : 0 ≤ left) (h1 : left ≤ 1048576) :
    ∃ r, Ev (fun N => laws_szStringS.f N [strsP a, intP left]) [intP r] ∧ r ≤ left ∧ (0 ≤ r → r = left - szStrs a) := by
  have hw : IntKind.i64.wrap (left - (a.length : Int)) = left - a.length := wrap_id (by omega) (by omega)
  by_cases hneg : left - (a.length : Int) < 0
  · refine ⟨-1, ?_, by omega, fun h => by omega⟩
    simp only [laws_szStringS.f_eq, strs_len, toInt_sc, decide_eq_true_eq, hw, if_pos hneg]
    exact Ev.now _
  · obtain ⟨r, hr, hle, hv⟩ := szStringS_loop a ha hs a [] rfl (left - a.length) (by omega) (by omega)
    refine ⟨r, ?_, by omega, fun h => by rw [hv h]; unfold szStrs; omega⟩
    simp only [laws_szStringS.f_eq, strs_len, toInt_sc, decide_eq_true_eq, hw, if_neg hneg]
    exact hr.diag
theorem szStrs_len (a : List ByteArray) : (a.length : Int) ≤ szStrs a := by have := sum_nonneg a; unfold szStrs; omega
theorem szStrs_mem (a : List ByteArray) (s : ByteArray) (h : s ∈ a) : (s.size : Int) + a.length ≤ szStrs a := by
  unfold szStrs
  have : (s.size : Int) ≤ (a.map fun s => (s.size : Int)).sum := by
    induction a with
    | nil => cases h
    | cons c l ih =>
      simp only [List.map_cons, List.sum_cons]
      have := sum_nonneg l
      rcases List.mem_cons.1 h with rfl | h
      · omega
      · have := ih h; omega
  omega
/-! #### the laws' own helpers over slices of strings: comparison, copy -/
theorem eqStringS_loop (a : List ByteArray) (ha : a.length ≤ 9223372036854775807) : ∀ rest pre : List ByteArray, a = pre ++ rest → Ev2 (fun N n => laws_eqStringS.l0 N n (strsP a) (strsP a) (pre.length : Int)) [boolP true] := by
  intro rest
  induction rest with
  | nil =>
    intro pre hp
    refine Ev2.succ ?_
    simp only [laws_eqStringS.l0_eq, strs_len, decide_eq_true_eq, if_neg (at_end hp)]
    exact Ev2.now _
  | cons c rest ih =>
    intro pre hp
    refine Ev2.succ ?_
    simp only [laws_eqStringS.l0_eq, strs_len, decide_eq_true_eq, if_pos (at_lt hp), if_pos (nn (n := pre.length)), decide_true, Bool.not_true, Bool.false_eq_true, if_false, at_next hp ha]
    exact ih _ (at_step hp)
theorem eqStringS_ev (a : List ByteArray) (ha : a.length ≤ 9223372036854775807) : Ev (fun N => laws_eqStringS.f N [strsP a, strsP a]) [boolP true] := by
  simp only [laws_eqStringS.f_eq, decide_true, Bool.not_true, Bool.false_eq_true, if_false]
  exact (eqStringS_loop a ha a [] rfl).diag
theorem toStringS_loop (a : List ByteArray) (ha : a.length ≤ 9223372036854775807) : ∀ rest pre : List ByteArray, a = pre ++ rest → ∀ z : List PV, z.length = rest.length → Ev2 (fun N n => laws_toStringS.l0 N n (strsP a) (pre.length : Int) (pre.map strP ++ z)) [strsP a] := by
  intro rest
  induction rest with
  | nil =>
    intro pre hp z hz
    obtain rfl : z = [] := List.eq_nil_of_length_eq_zero hz
    refine Ev2.succ ?_
    simp only [laws_toStringS.l0_eq, strs_len, decide_eq_true_eq, if_neg (at_end hp)]
    rw [List.append_nil] at hp ⊢
    rw [← hp]
    exact Ev2.now _
  | cons c rest ih =>
    intro pre hp z hz
    obtain ⟨y, z, rfl⟩ : ∃ y z', z = y :: z' := List.exists_cons_of_ne_nil (by rintro rfl; simp at hz)
    refine Ev2.succ ?_
    have hl : (pre.length : Int) < ((pre.map strP ++ y :: z).length : Int) := by simp; omega
    have hset : (pre.map strP ++ y :: z).set pre.length (strP c) = (pre ++ [c]).map strP ++ z := by
      have := set_mid (pre.map strP) y (strP c) z
      rw [List.length_map] at this; rw [this]; simp
    simp only [laws_toStringS.l0_eq, strs_len, strs_elem, nat_int, decide_eq_true_eq, if_pos (at_lt hp), if_pos (nn (n := pre.length)), if_pos hl, at_next hp ha, at_getD hp, hset]
    exact ih _ (at_step hp) z (by simpa using hz)
theorem toStringS_ev (a : List ByteArray) (ha : a.length ≤ 17592186044416) : Ev (fun N => laws_toStringS.f N [strsP a]) [strsP a] := by
  simp only [laws_toStringS.f_eq, strs_len, if_pos (nn (n := a.length)), if_true, if_pos ha]
  exact (toStringS_loop a (by omega) a [] rfl _ (by simp)).diag
/-! #### the laws' own helpers over slices of ints -/
theorem eqIntS_loop (a : List Int) (ha : a.length ≤ 9223372036854775807) : ∀ rest pre : List Int, a = pre ++ rest → Ev2 (fun N n => laws_eqIntS.l0 N n (intsP a) (intsP a) (pre.length : Int)) [boolP true] := by
  intro rest
  induction rest with
  | nil =>
    intro pre hp
    refine Ev2.succ ?_
    simp only [laws_eqIntS.l0_eq, ints_len, decide_eq_true_eq, if_neg (at_end hp)]
    exact Ev2.now _
  | cons c rest ih =>
    intro pre hp
    refine Ev2.succ ?_
    simp only [laws_eqIntS.l0_eq, ints_len, decide_eq_true_eq, if_pos (at_lt hp), if_pos (nn (n := pre.length)), decide_true, Bool.not_true, Bool.false_eq_true, if_false, at_next hp ha]
    exact ih _ (at_step hp)
theorem eqIntS_ev (a : List Int) (ha : a.length ≤ 9223372036854775807) : Ev (fun N => laws_eqIntS.f N [intsP a, intsP a]) [boolP true] := by
  simp only [laws_eqIntS.f_eq, decide_true, Bool.not_true, Bool.false_eq_true, if_false]
  exact (eqIntS_loop a ha a [] rfl).diag
theorem toIntS_loop (a : List Int) (ha : a.length ≤ 9223372036854775807) : ∀ rest pre : List Int, a = pre ++ rest → ∀ z : List PV, z.length = rest.length → Ev2 (fun N n => laws_toIntS.l0 N n (intsP a) (pre.length : Int) (pre.map intP ++ z)) [intsP a] := by
  intro rest
  induction rest with
  | nil =>
    intro pre hp z hz
    obtain rfl : z = [] := List.eq_nil_of_length_eq_zero hz
    refine Ev2.succ ?_
    simp only [laws_toIntS.l0_eq, ints_len, decide_eq_true_eq, if_neg (at_end hp)]
    rw [List.append_nil] at hp ⊢
    rw [← hp]
    exact Ev2.now _
  | cons c rest ih =>
    intro pre hp z hz
    obtain ⟨y, z, rfl⟩ : ∃ y z', z = y :: z' := List.exists_cons_of_ne_nil (by rintro rfl; simp at hz)
    refine Ev2.succ ?_
    have hl : (pre.length : Int) < ((pre.map intP ++ y :: z).length : Int) := by simp; omega
    have hset : (pre.map intP ++ y :: z).set pre.length (intP c) = (pre ++ [c]).map intP ++ z := by
      have := set_mid (pre.map intP) y (intP c) z
      rw [List.length_map] at this; rw [this]; simp
    simp only [laws_toIntS.l0_eq, ints_len, ints_elem, nat_int, decide_eq_true_eq, if_pos (at_lt hp), if_pos (nn (n := pre.length)), if_pos hl, at_next hp ha, at_getD hp, hset]
    exact ih _ (at_step hp) z (by simpa using hz)
theorem toIntS_ev (a : List Int) (ha : a.length ≤ 17592186044416) : Ev (fun N => laws_toIntS.f N [intsP a]) [intsP a] := by
  simp only [laws_toIntS.f_eq, ints_len, if_pos (nn (n := a.length)), if_true, if_pos (show a.length ≤ 35184372088832 by omega)]
  exact (toIntS_loop a (by omega) a [] rfl _ (by simp)).diag
theorem szIntS_val (a : List Int) (ha : a.length ≤ 9223372036854775807) (left : Int) (h0 : 0 ≤ left) (h1 : left ≤ 1048576) :
    ∃ r, (∀ N, laws_szIntS.f N [intsP a, intP left] = some [intP r]) ∧ r ≤ left ∧ (0 ≤ r → r = left - a.length) := by
  have hw : IntKind.i64.wrap (left - (a.length : Int)) = left - a.length := wrap_id (by omega) (by omega)
  by_cases hneg : left - (a.length : Int) < 0
  · refine ⟨-1, fun N => ?_, by omega, fun h => by omega⟩
    simp only [laws_szIntS.f_eq, ints_len, toInt_sc, decide_eq_true_eq, hw, if_pos hneg]
  · refine ⟨left - a.length, fun N => ?_, by omega, fun _ => rfl⟩
    simp only [laws_szIntS.f_eq, ints_len, toInt_sc, decide_eq_true_eq, hw, if_neg hneg]
/-! #### rings: size, copy, comparison -/
def ringP (a : List ByteArray) (b : List Int) : PV := .agg [strsP a, intsP b]
theorem ring_f0 (a : List ByteArray) (b : List Int) : (ringP a b).fld 0 = strsP a := rfl
theorem ring_f1 (a : List ByteArray) (b : List Int) : (ringP a b).fld 1 = intsP b := rfl
theorem ring_agg (a : List ByteArray) (b : List Int) : PV.agg [strsP a, intsP b] = ringP a b := rfl
theorem eqRing_ev (a : List ByteArray) (b : List Int) (ha : a.length ≤ 9223372036854775807) (hb : b.length ≤ 9223372036854775807) : Ev (fun N => laws_eqRing.f N [ringP a b, ringP a b]) [boolP true] := by
  simp only [laws_eqRing.f_eq, ring_f0, ring_f1]
  refine Ev.bind (eqStringS_ev a ha) ?_
  simp only [headD_one, toBool_sc, Bool.not_true, Bool.false_eq_true, if_false]
  refine Ev.bind (eqIntS_ev b hb) ?_
  simp only [headD_one, toBool_sc, Bool.not_true, Bool.false_eq_true, if_false]
  exact Ev.now _
theorem toRing_ev (a : List ByteArray) (b : List Int) (ha : a.length ≤ 17592186044416) (hb : b.length ≤ 17592186044416) : Ev (fun N => laws_toRing.f N [ringP a b]) [ringP a b] := by
  simp only [laws_toRing.f_eq, ring_f0, ring_f1]
  refine Ev.bind (toStringS_ev a ha) ?_
  refine Ev.bind (toIntS_ev b hb) ?_
  exact Ev.now _
theorem szRing_ev (a : List ByteArray) (b : List Int) (ha : a.length ≤ 9223372036854775807) (hb : b.length ≤ 9223372036854775807) (hs : ∀ s ∈ a, s.size ≤ 9223372036854775807) (left : Int) (h0 : 0 ≤ left) (h1 : left ≤ 1048576) :
    ∃ r, Ev (fun N => laws_szRing.f N [ringP a b, intP left]) [intP r] ∧ r ≤ left ∧ (0 ≤ r → r = left - szStrs a - b.length) := by
  obtain ⟨r, hr, hle, hv⟩ := szStringS_ev a ha hs left h0 h1
  by_cases hn : r < 0
  · refine ⟨-1, ?_, by omega, fun h => by omega⟩
    simp only [laws_szRing.f_eq, ring_f0, ring_f1, toInt_sc, decide_eq_true_eq]
    refine Ev.bind hr ?_
    simp only [headD_one, toInt_sc, hn, if_true]
    exact Ev.now _
  · obtain ⟨r2, hr2, hle2, hv2⟩ := szIntS_val b hb r (by omega) (by omega)
    have hsum := szStrs_len a
    have hv' := hv (by omega)
    by_cases hn2 : r2 < 0
    · refine ⟨-1, ?_, by omega, fun h => by omega⟩
      simp only [laws_szRing.f_eq, ring_f0, ring_f1, toInt_sc, decide_eq_true_eq]
      refine Ev.bind hr ?_
      simp only [headD_one, toInt_sc, hn, if_false]
      refine Ev.bind (Ev.of hr2) ?_
      simp only [headD_one, toInt_sc, hn2, if_true]
      exact Ev.now _
    · refine ⟨r2, ?_, by omega, fun h => by rw [hv2 h, hv']⟩
      simp only [laws_szRing.f_eq, ring_f0, ring_f1, toInt_sc, decide_eq_true_eq]
      refine Ev.bind hr ?_
      simp only [headD_one, toInt_sc, hn, if_false]
      refine Ev.bind (Ev.of hr2) ?_
      simp only [headD_one, toInt_sc, hn2, if_false]
      exact Ev.now _
/-! #### keys -/
def keyM (a : ByteArray) : Bool := decide (1 ≤ a.size ∧ a.size ≤ 64) && !decide (bt a (a.size - 1) = 0)
theorem key_byte {a : ByteArray} (h1 : 1 ≤ a.size) (h2 : a.size ≤ 9223372036854775807) : IntKind.i64.wrap ((a.size : Int) - 1) = ((a.size - 1 : Nat) : Int) := by
  rw [wrap_id (by omega) (by omega)]; omega
theorem specIn_val (a b c : Int) (N : Nat) : spec_l1In.f N [.sc (.int .i64 a), .sc (.int .i64 b), .sc (.int .i64 c)] = some [boolP (decide (b ≤ a ∧ a ≤ c))] := by
  simp only [spec_l1In.f_eq, strs_len, strs_elem, ints_len, ints_elem, items_list, fld_agg, elem_list, toStr_sc, toInt_sc, toBool_sc, headD_one, nat_int, get_bt, decide_eq_true_eq, decide_eq_false_iff_not, decide_true, decide_false, if_true, if_false, ite_self, Bool.not_true, Bool.not_false, Bool.false_eq_true, Bool.true_eq_false, Bool.true_and, Bool.false_and, Bool.and_true, Bool.and_false, not_true, not_false_iff, Option.bind_some, nn, toList_inj, Bool.not_eq_true', Bool.not_eq_false', Int.le_refl, and_self, true_and, and_true, false_and, and_false, bne_self_eq_false]
  by_cases h1 : b ≤ a <;> by_cases h2 : a ≤ c <;> simp only [h1, h2, strs_len, strs_elem, ints_len, ints_elem, items_list, fld_agg, elem_list, toStr_sc, toInt_sc, toBool_sc, headD_one, nat_int, get_bt, decide_eq_true_eq, decide_eq_false_iff_not, decide_true, decide_false, if_true, if_false, ite_self, Bool.not_true, Bool.not_false, Bool.false_eq_true, Bool.true_eq_false, Bool.true_and, Bool.false_and, Bool.and_true, Bool.and_false, not_true, not_false_iff, Option.bind_some, nn, toList_inj, Bool.not_eq_true', Bool.not_eq_false', Int.le_refl, and_self, true_and, and_true, false_and, and_false, bne_self_eq_false]
theorem specKey_val (a : ByteArray) (ha : a.size ≤ 9223372036854775807) (N : Nat) : spec_l6Key.f N [strP a] = some [boolP (keyM a)] := by
  simp only [spec_l6Key.f_eq, specIn_val, strs_len, strs_elem, ints_len, ints_elem, items_list, fld_agg, elem_list, toStr_sc, toInt_sc, toBool_sc, headD_one, nat_int, get_bt, decide_eq_true_eq, decide_eq_false_iff_not, decide_true, decide_false, if_true, if_false, ite_self, Bool.not_true, Bool.not_false, Bool.false_eq_true, Bool.true_eq_false, Bool.true_and, Bool.false_and, Bool.and_true, Bool.and_false, not_true, not_false_iff, Option.bind_some, nn, toList_inj, Bool.not_eq_true', Bool.not_eq_false', Int.le_refl, and_self, true_and, and_true, false_and, and_false, bne_self_eq_false, keyM]
  by_cases h1 : 1 ≤ a.size ∧ a.size ≤ 64
  · have e1 : (((a.size - 1 : Nat) : Int) < (a.size : Int)) = True := eq_true (by omega)
    simp only [h1, eq_true (show (1 : Int) ≤ a.size ∧ (a.size : Int) ≤ 64 by omega), key_byte h1.1 ha, e1, strs_len, strs_elem, ints_len, ints_elem, items_list, fld_agg, elem_list, toStr_sc, toInt_sc, toBool_sc, headD_one, nat_int, get_bt, decide_eq_true_eq, decide_eq_false_iff_not, decide_true, decide_false, if_true, if_false, ite_self, Bool.not_true, Bool.not_false, Bool.false_eq_true, Bool.true_eq_false, Bool.true_and, Bool.false_and, Bool.and_true, Bool.and_false, not_true, not_false_iff, Option.bind_some, nn, toList_inj, Bool.not_eq_true', Bool.not_eq_false', Int.le_refl, and_self, true_and, and_true, false_and, and_false, bne_self_eq_false]
  · simp only [h1, eq_false (show ¬ ((1 : Int) ≤ a.size ∧ (a.size : Int) ≤ 64) by omega), strs_len, strs_elem, ints_len, ints_elem, items_list, fld_agg, elem_list, toStr_sc, toInt_sc, toBool_sc, headD_one, nat_int, get_bt, decide_eq_true_eq, decide_eq_false_iff_not, decide_true, decide_false, if_true, if_false, ite_self, Bool.not_true, Bool.not_false, Bool.false_eq_true, Bool.true_eq_false, Bool.true_and, Bool.false_and, Bool.and_true, Bool.and_false, not_true, not_false_iff, Option.bind_some, nn, toList_inj, Bool.not_eq_true', Bool.not_eq_false', Int.le_refl, and_self, true_and, and_true, false_and, and_false, bne_self_eq_false]
theorem implWithin_val (a b c : Int) (N : Nat) : impl_within.f N [.sc (.int .i64 a), .sc (.int .i64 b), .sc (.int .i64 c)] = some [boolP (decide (b ≤ a ∧ a ≤ c))] := by
  simp only [impl_within.f_eq, strs_len, strs_elem, ints_len, ints_elem, items_list, fld_agg, elem_list, toStr_sc, toInt_sc, toBool_sc, headD_one, nat_int, get_bt, decide_eq_true_eq, decide_eq_false_iff_not, decide_true, decide_false, if_true, if_false, ite_self, Bool.not_true, Bool.not_false, Bool.false_eq_true, Bool.true_eq_false, Bool.true_and, Bool.false_and, Bool.and_true, Bool.and_false, not_true, not_false_iff, Option.bind_some, nn, toList_inj, Bool.not_eq_true', Bool.not_eq_false', Int.le_refl, and_self, true_and, and_true, false_and, and_false, bne_self_eq_false]
  by_cases h1 : b ≤ a <;> by_cases h2 : a ≤ c <;> simp only [h1, h2, strs_len, strs_elem, ints_len, ints_elem, items_list, fld_agg, elem_list, toStr_sc, toInt_sc, toBool_sc, headD_one, nat_int, get_bt, decide_eq_true_eq, decide_eq_false_iff_not, decide_true, decide_false, if_true, if_false, ite_self, Bool.not_true, Bool.not_false, Bool.false_eq_true, Bool.true_eq_false, Bool.true_and, Bool.false_and, Bool.and_true, Bool.and_false, not_true, not_false_iff, Option.bind_some, nn, toList_inj, Bool.not_eq_true', Bool.not_eq_false', Int.le_refl, and_self, true_and, and_true, false_and, and_false, bne_self_eq_false]
theorem implKey_val (a : ByteArray) (ha : a.size ≤ 9223372036854775807) (N : Nat) : impl_keyOk.f N [strP a] = some [boolP (keyM a)] := by
  simp only [impl_keyOk.f_eq, implWithin_val, strs_len, strs_elem, ints_len, ints_elem, items_list, fld_agg, elem_list, toStr_sc, toInt_sc, toBool_sc, headD_one, nat_int, get_bt, decide_eq_true_eq, decide_eq_false_iff_not, decide_true, decide_false, if_true, if_false, ite_self, Bool.not_true, Bool.not_false, Bool.false_eq_true, Bool.true_eq_false, Bool.true_and, Bool.false_and, Bool.and_true, Bool.and_false, not_true, not_false_iff, Option.bind_some, nn, toList_inj, Bool.not_eq_true', Bool.not_eq_false', Int.le_refl, and_self, true_and, and_true, false_and, and_false, bne_self_eq_false, keyM]
  by_cases h1 : 1 ≤ a.size ∧ a.size ≤ 64
  · have e1 : (((a.size - 1 : Nat) : Int) < (a.size : Int)) = True := eq_true (by omega)
    simp only [h1, eq_true (show (1 : Int) ≤ a.size ∧ (a.size : Int) ≤ 64 by omega), key_byte h1.1 ha, e1, strs_len, strs_elem, ints_len, ints_elem, items_list, fld_agg, elem_list, toStr_sc, toInt_sc, toBool_sc, headD_one, nat_int, get_bt, decide_eq_true_eq, decide_eq_false_iff_not, decide_true, decide_false, if_true, if_false, ite_self, Bool.not_true, Bool.not_false, Bool.false_eq_true, Bool.true_eq_false, Bool.true_and, Bool.false_and, Bool.and_true, Bool.and_false, not_true, not_false_iff, Option.bind_some, nn, toList_inj, Bool.not_eq_true', Bool.not_eq_false', Int.le_refl, and_self, true_and, and_true, false_and, and_false, bne_self_eq_false]
  · simp only [h1, eq_false (show ¬ ((1 : Int) ≤ a.size ∧ (a.size : Int) ≤ 64) by omega), strs_len, strs_elem, ints_len, ints_elem, items_list, fld_agg, elem_list, toStr_sc, toInt_sc, toBool_sc, headD_one, nat_int, get_bt, decide_eq_true_eq, decide_eq_false_iff_not, decide_true, decide_false, if_true, if_false, ite_self, Bool.not_true, Bool.not_false, Bool.false_eq_true, Bool.true_eq_false, Bool.true_and, Bool.false_and, Bool.and_true, Bool.and_false, not_true, not_false_iff, Option.bind_some, nn, toList_inj, Bool.not_eq_true', Bool.not_eq_false', Int.le_refl, and_self, true_and, and_true, false_and, and_false, bne_self_eq_false]
/-! #### rings that are ok -/
def keysM : List ByteArray → List ByteArray → Bool
  | _, [] => true
  | pre, c :: rest => keyM c && !decide (c ∈ pre) && keysM (pre ++ [c]) rest
def ascF : Option Int → List Int → Bool
  | _, [] => true
  | none, c :: rest => ascF (some c) rest
  | some q, c :: rest => decide (q < c) && decide (c ≤ 999999) && ascF (some c) rest
def tailM (ks : List ByteArray) (fs : List Int) : Bool := decide (1 ≤ ks.length ∧ ks.length ≤ 5) && (decide (fs.length = ks.length) && decide (fs.getD 0 0 = 1))
def ringM (ks : List ByteArray) (fs : List Int) : Bool := keysM [] ks && (ascF none fs && tailM ks fs)
def AheadI (pre : List Int) (p : Option Int) : Prop := (pre = [] ∧ p = none) ∨ ∃ pre' q, pre = pre' ++ [q] ∧ p = some q
theorem AheadI.next (pre : List Int) (c : Int) : AheadI (pre ++ [c]) (some c) := .inr ⟨pre, c, rfl, rfl⟩
theorem at_prevI {xs pre' rest : List Int} {q : Int} (hp : xs = (pre' ++ [q]) ++ rest) (hx : xs.length ≤ 9223372036854775807) :
    IntKind.i64.wrap (((pre' ++ [q]).length : Int) - 1) = (pre'.length : Int) ∧ (pre'.length : Int) < (xs.length : Int) ∧ xs.getD pre'.length 0 = q := by
  subst hp
  simp only [List.length_append, List.length_cons, List.length_nil] at hx ⊢
  refine ⟨?_, by omega, ?_⟩
  · rw [wrap_id (by omega) (by omega)]; omega
  · simp
theorem specRing_tail (ks : List ByteArray) (fs : List Int) (hf : fs.length ≤ 9223372036854775807) (hk : ks.length ≤ 9223372036854775807) : ∀ (rest pre' : List Int) (q : Int), fs = (pre' ++ [q]) ++ rest →
    Ev2 (fun N n => spec_RingOk.l2 N n ((pre' ++ [q]).length : Int) (strsP ks) (intsP fs)) [boolP (ascF (some q) rest && tailM ks fs)] := by
  intro rest
  induction rest with
  | nil =>
    intro pre' q hp
    have hpos : 0 < fs.length := by rw [hp]; simp
    refine Ev2.succ ?_
    have hpos' : (0 : Int) < (fs.length : Int) := by omega
    simp only [spec_RingOk.l2_eq, specIn_val, strs_len, strs_elem, ints_len, ints_elem, items_list, fld_agg, elem_list, toStr_sc, toInt_sc, toBool_sc, headD_one, nat_int, get_bt, decide_eq_true_eq, decide_eq_false_iff_not, decide_true, decide_false, if_true, if_false, ite_self, Bool.not_true, Bool.not_false, Bool.false_eq_true, Bool.true_eq_false, Bool.true_and, Bool.false_and, Bool.and_true, Bool.and_false, not_true, not_false_iff, Option.bind_some, nn, toList_inj, Bool.not_eq_true', Bool.not_eq_false', Int.le_refl, and_self, true_and, and_true, false_and, and_false, bne_self_eq_false, at_end hp, ascF, tailM, hpos']
    by_cases h1 : 1 ≤ ks.length ∧ ks.length ≤ 5
    · by_cases h3 : fs.length = ks.length
      · simp only [h3, h1, eq_true (show (1 : Int) ≤ ks.length ∧ (ks.length : Int) ≤ 5 by omega), strs_len, strs_elem, ints_len, ints_elem, items_list, fld_agg, elem_list, toStr_sc, toInt_sc, toBool_sc, headD_one, nat_int, get_bt, decide_eq_true_eq, decide_eq_false_iff_not, decide_true, decide_false, if_true, if_false, ite_self, Bool.not_true, Bool.not_false, Bool.false_eq_true, Bool.true_eq_false, Bool.true_and, Bool.false_and, Bool.and_true, Bool.and_false, not_true, not_false_iff, Option.bind_some, nn, toList_inj, Bool.not_eq_true', Bool.not_eq_false', Int.le_refl, and_self, true_and, and_true, false_and, and_false, bne_self_eq_false]; exact Ev2.now _
      · simp only [h3, h1, eq_true (show (1 : Int) ≤ ks.length ∧ (ks.length : Int) ≤ 5 by omega), eq_false (show ¬ (fs.length : Int) = ks.length by omega), strs_len, strs_elem, ints_len, ints_elem, items_list, fld_agg, elem_list, toStr_sc, toInt_sc, toBool_sc, headD_one, nat_int, get_bt, decide_eq_true_eq, decide_eq_false_iff_not, decide_true, decide_false, if_true, if_false, ite_self, Bool.not_true, Bool.not_false, Bool.false_eq_true, Bool.true_eq_false, Bool.true_and, Bool.false_and, Bool.and_true, Bool.and_false, not_true, not_false_iff, Option.bind_some, nn, toList_inj, Bool.not_eq_true', Bool.not_eq_false', Int.le_refl, and_self, true_and, and_true, false_and, and_false, bne_self_eq_false]; exact Ev2.now _
    · simp only [h1, eq_false (show ¬ ((1 : Int) ≤ ks.length ∧ (ks.length : Int) ≤ 5) by omega), strs_len, strs_elem, ints_len, ints_elem, items_list, fld_agg, elem_list, toStr_sc, toInt_sc, toBool_sc, headD_one, nat_int, get_bt, decide_eq_true_eq, decide_eq_false_iff_not, decide_true, decide_false, if_true, if_false, ite_self, Bool.not_true, Bool.not_false, Bool.false_eq_true, Bool.true_eq_false, Bool.true_and, Bool.false_and, Bool.and_true, Bool.and_false, not_true, not_false_iff, Option.bind_some, nn, toList_inj, Bool.not_eq_true', Bool.not_eq_false', Int.le_refl, and_self, true_and, and_true, false_and, and_false, bne_self_eq_false]; exact Ev2.now _
  | cons c rest ih =>
    intro pre' q hp
    obtain ⟨h1, h2, h3⟩ := at_prevI hp hf
    refine Ev2.succ ?_
    simp only [spec_RingOk.l2_eq, strs_len, ints_len, ints_elem, decide_eq_true_eq, decide_eq_false_iff_not, at_lt hp, h1, nn, h2, h3, nat_int, at_getD hp, at_next hp hf, if_true]
    rw [ascF]
    by_cases c1 : c ≤ q
    · simp only [c1, not_true, if_false, decide_eq_false (show ¬ q < c by omega), Bool.false_and]; exact Ev2.now _
    by_cases c2 : 999999 < c
    · simp only [c1, c2, not_false_iff, if_true, decide_eq_true (show q < c by omega), decide_eq_false (show ¬ c ≤ 999999 by omega), Bool.false_and, Bool.true_and]; exact Ev2.now _
    simp only [c1, c2, not_false_iff, if_true, if_false, decide_eq_true (show q < c by omega), decide_eq_true (show c ≤ 999999 by omega), Bool.true_and]
    exact ih _ c (at_step hp)
/-- Behind the keys: the numbers, and how many. -/
theorem specRing_l2 (ks : List ByteArray) (fs : List Int) (hf : fs.length ≤ 9223372036854775807) (hk : ks.length ≤ 9223372036854775807) :
    Ev2 (fun N n => spec_RingOk.l2 N n 1 (strsP ks) (intsP fs)) [boolP (ascF none fs && tailM ks fs)] := by
  cases fs with
  | cons q fs => exact specRing_tail ks (q :: fs) hf hk fs [] q rfl
  | nil =>
    refine Ev2.succ ?_
    have h0 : ¬ (1 : Int) < (([] : List Int).length : Int) := by simp
    simp only [spec_RingOk.l2_eq, specIn_val, strs_len, strs_elem, ints_len, ints_elem, items_list, fld_agg, elem_list, toStr_sc, toInt_sc, toBool_sc, headD_one, nat_int, get_bt, decide_eq_true_eq, decide_eq_false_iff_not, decide_true, decide_false, if_true, if_false, ite_self, Bool.not_true, Bool.not_false, Bool.false_eq_true, Bool.true_eq_false, Bool.true_and, Bool.false_and, Bool.and_true, Bool.and_false, not_true, not_false_iff, Option.bind_some, nn, toList_inj, Bool.not_eq_true', Bool.not_eq_false', Int.le_refl, and_self, true_and, and_true, false_and, and_false, bne_self_eq_false, h0, ascF, tailM]
    by_cases h1 : 1 ≤ ks.length ∧ ks.length ≤ 5
    · have h3 : ¬ ([] : List Int).length = ks.length := by simp; omega
      have h3' : ¬ (([] : List Int).length : Int) = ks.length := by simp; omega
      simp only [h3, h3', h1, eq_true (show (1 : Int) ≤ ks.length ∧ (ks.length : Int) ≤ 5 by omega), strs_len, strs_elem, ints_len, ints_elem, items_list, fld_agg, elem_list, toStr_sc, toInt_sc, toBool_sc, headD_one, nat_int, get_bt, decide_eq_true_eq, decide_eq_false_iff_not, decide_true, decide_false, if_true, if_false, ite_self, Bool.not_true, Bool.not_false, Bool.false_eq_true, Bool.true_eq_false, Bool.true_and, Bool.false_and, Bool.and_true, Bool.and_false, not_true, not_false_iff, Option.bind_some, nn, toList_inj, Bool.not_eq_true', Bool.not_eq_false', Int.le_refl, and_self, true_and, and_true, false_and, and_false, bne_self_eq_false]; exact Ev2.now _
    · simp only [h1, eq_false (show ¬ ((1 : Int) ≤ ks.length ∧ (ks.length : Int) ≤ 5) by omega), strs_len, strs_elem, ints_len, ints_elem, items_list, fld_agg, elem_list, toStr_sc, toInt_sc, toBool_sc, headD_one, nat_int, get_bt, decide_eq_true_eq, decide_eq_false_iff_not, decide_true, decide_false, if_true, if_false, ite_self, Bool.not_true, Bool.not_false, Bool.false_eq_true, Bool.true_eq_false, Bool.true_and, Bool.false_and, Bool.and_true, Bool.and_false, not_true, not_false_iff, Option.bind_some, nn, toList_inj, Bool.not_eq_true', Bool.not_eq_false', Int.le_refl, and_self, true_and, and_true, false_and, and_false, bne_self_eq_false]; exact Ev2.now _
theorem specRing_l1 (ks : List ByteArray) (fs : List Int) (hk : ks.length ≤ 9223372036854775807) (pre rest : List ByteArray) (c : ByteArray) (hp : ks = pre ++ c :: rest) (R : Bool) (hR : Ev2 (fun N n => spec_RingOk.l0 N n ((pre ++ [c]).length : Int) (strsP ks) (intsP fs)) [boolP R]) :
    ∀ (q2 p2 : List ByteArray), pre = p2 ++ q2 → Ev3 (fun N m n => spec_RingOk.l1 N m n (pre.length : Int) (p2.length : Int) (strsP ks) (intsP fs)) [boolP (!decide (c ∈ q2) && R)] := by
  intro q2
  induction q2 with
  | nil =>
    intro p2 h2
    refine Ev3.succ ?_
    simp only [spec_RingOk.l1_eq, strs_len, decide_eq_true_eq, if_neg (at_end h2), at_next hp hk]
    simp only [List.not_mem_nil, decide_false, Bool.not_false, Bool.true_and]
    exact hR.outer
  | cons x q2 ih =>
    intro p2 h2
    have hk2 : ks = p2 ++ x :: (q2 ++ c :: rest) := by rw [hp, h2]; simp
    have hl := at_lt hp
    refine Ev3.succ ?_
    simp only [spec_RingOk.l1_eq, strs_len, strs_elem, nat_int, decide_eq_true_eq, at_lt h2, nn, at_lt hk2, hl, at_getD hk2, at_getD hp, toList_inj, at_next h2 (by omega), if_true]
    by_cases e : x = c
    · simp only [e, if_true, List.mem_cons, true_or, decide_true, Bool.not_true, Bool.false_and]
      exact Ev3.now _
    · simp only [e, if_false, List.mem_cons, show (c = x) = False from eq_false (fun h => e h.symm), false_or]
      exact ih _ (at_step h2)
theorem specRing_l0 (ks : List ByteArray) (fs : List Int) (hf : fs.length ≤ 9223372036854775807) (hk : ks.length ≤ 9223372036854775807) (hs : ∀ s ∈ ks, s.size ≤ 9223372036854775807) : ∀ (rest pre : List ByteArray), ks = pre ++ rest →
    Ev2 (fun N n => spec_RingOk.l0 N n (pre.length : Int) (strsP ks) (intsP fs)) [boolP (keysM pre rest && (ascF none fs && tailM ks fs))] := by
  intro rest
  induction rest with
  | nil =>
    intro pre hp
    refine Ev2.succ ?_
    simp only [spec_RingOk.l0_eq, strs_len, decide_eq_true_eq, if_neg (at_end hp), keysM, Bool.true_and]
    exact (specRing_l2 ks fs hf hk).after
  | cons c rest ih =>
    intro pre hp
    refine Ev2.succ ?_
    simp only [spec_RingOk.l0_eq, strs_len, strs_elem, nat_int, decide_eq_true_eq, at_lt hp, nn, at_getD hp, if_true]
    refine Ev2.bind (Ev.of (specKey_val c (hs c (by rw [hp]; simp)))) ?_
    rw [keysM]
    simp only [headD_one, toBool_sc]
    cases keyM c with
    | false => simp only [Bool.not_false, if_true, Bool.false_and]; exact Ev2.now _
    | true =>
      simp only [Bool.not_true, Bool.false_eq_true, if_false, Bool.true_and]
      have := specRing_l1 ks fs hk pre rest c hp _ (ih _ (at_step hp)) pre [] rfl
      rw [Bool.and_assoc]
      exact this.start
theorem specRingOk_ev (ks : List ByteArray) (fs : List Int) (hf : fs.length ≤ 9223372036854775807) (hk : ks.length ≤ 9223372036854775807) (hs : ∀ s ∈ ks, s.size ≤ 9223372036854775807) :
    Ev (fun N => spec_RingOk.f N [ringP ks fs]) [boolP (ringM ks fs)] := by
  simp only [spec_RingOk.f_eq, ring_f0, ring_f1]
  exact (specRing_l0 ks fs hf hk hs ks [] rfl).diag
theorem index_loop (a : List ByteArray) (c : ByteArray) (ha : a.length ≤ 9223372036854775807) : ∀ (rest pre : List ByteArray), a = pre ++ rest →
    ∃ r : Int, Ev2 (fun N n => slices_Index_string_string.l0 N n (strsP a) c (a.length : Int) (pre.length : Int)) [intP r] ∧ (0 ≤ r ↔ c ∈ rest) := by
  intro rest
  induction rest with
  | nil =>
    intro pre hp
    refine ⟨-1, Ev2.succ ?_, by simp⟩
    simp only [slices_Index_string_string.l0_eq, at_end hp, strs_len, strs_elem, ints_len, ints_elem, items_list, fld_agg, elem_list, toStr_sc, toInt_sc, toBool_sc, headD_one, nat_int, get_bt, decide_eq_true_eq, decide_eq_false_iff_not, decide_true, decide_false, if_true, if_false, ite_self, Bool.not_true, Bool.not_false, Bool.false_eq_true, Bool.true_eq_false, Bool.true_and, Bool.false_and, Bool.and_true, Bool.and_false, not_true, not_false_iff, Option.bind_some, nn, toList_inj, Bool.not_eq_true', Bool.not_eq_false', Int.le_refl, and_self, true_and, and_true, false_and, and_false, bne_self_eq_false]
    exact Ev2.now _
  | cons x rest ih =>
    intro pre hp
    by_cases e : c = x
    · refine ⟨pre.length, Ev2.succ ?_, by simp [e]⟩
      simp only [slices_Index_string_string.l0_eq, at_lt hp, at_getD hp, e, strs_len, strs_elem, ints_len, ints_elem, items_list, fld_agg, elem_list, toStr_sc, toInt_sc, toBool_sc, headD_one, nat_int, get_bt, decide_eq_true_eq, decide_eq_false_iff_not, decide_true, decide_false, if_true, if_false, ite_self, Bool.not_true, Bool.not_false, Bool.false_eq_true, Bool.true_eq_false, Bool.true_and, Bool.false_and, Bool.and_true, Bool.and_false, not_true, not_false_iff, Option.bind_some, nn, toList_inj, Bool.not_eq_true', Bool.not_eq_false', Int.le_refl, and_self, true_and, and_true, false_and, and_false, bne_self_eq_false]
      exact Ev2.now _
    · obtain ⟨r, hr, hv⟩ := ih _ (at_step hp)
      refine ⟨r, Ev2.succ ?_, by rw [hv]; simp [e]⟩
      simp only [slices_Index_string_string.l0_eq, at_lt hp, at_getD hp, e, at_next hp ha, strs_len, strs_elem, ints_len, ints_elem, items_list, fld_agg, elem_list, toStr_sc, toInt_sc, toBool_sc, headD_one, nat_int, get_bt, decide_eq_true_eq, decide_eq_false_iff_not, decide_true, decide_false, if_true, if_false, ite_self, Bool.not_true, Bool.not_false, Bool.false_eq_true, Bool.true_eq_false, Bool.true_and, Bool.false_and, Bool.and_true, Bool.and_false, not_true, not_false_iff, Option.bind_some, nn, toList_inj, Bool.not_eq_true', Bool.not_eq_false', Int.le_refl, and_self, true_and, and_true, false_and, and_false, bne_self_eq_false]
      exact hr
theorem contains_ev (a : List ByteArray) (c : ByteArray) (ha : a.length ≤ 9223372036854775807) : Ev (fun N => slices_Contains_string_string.f N [strsP a, strP c]) [boolP (decide (c ∈ a))] := by
  obtain ⟨r, hr, hv⟩ := index_loop a c ha a [] rfl
  simp only [slices_Contains_string_string.f_eq, slices_Index_string_string.f_eq, strs_len, strs_elem, ints_len, ints_elem, items_list, fld_agg, elem_list, toStr_sc, toInt_sc, toBool_sc, headD_one, nat_int, get_bt, decide_eq_true_eq, decide_eq_false_iff_not, decide_true, decide_false, if_true, if_false, ite_self, Bool.not_true, Bool.not_false, Bool.false_eq_true, Bool.true_eq_false, Bool.true_and, Bool.false_and, Bool.and_true, Bool.and_false, not_true, not_false_iff, Option.bind_some, nn, toList_inj, Bool.not_eq_true', Bool.not_eq_false', Int.le_refl, and_self, true_and, and_true, false_and, and_false, bne_self_eq_false]
  refine Ev.bind hr.diag ?_
  refine Ev.ext (Ev.now _) ?_
  simp only [strs_len, strs_elem, ints_len, ints_elem, items_list, fld_agg, elem_list, toStr_sc, toInt_sc, toBool_sc, headD_one, nat_int, get_bt, decide_eq_true_eq, decide_eq_false_iff_not, decide_true, decide_false, if_true, if_false, ite_self, Bool.not_true, Bool.not_false, Bool.false_eq_true, Bool.true_eq_false, Bool.true_and, Bool.false_and, Bool.and_true, Bool.and_false, not_true, not_false_iff, Option.bind_some, nn, toList_inj, Bool.not_eq_true', Bool.not_eq_false', Int.le_refl, and_self, true_and, and_true, false_and, and_false, bne_self_eq_false]
  exact congrArg (fun b => [boolP b]) (decide_eq_decide.2 hv)
theorem implRing_l0 (ks : List ByteArray) (fs : List Int) (hl : fs.length = ks.length) (hk : ks.length ≤ 5) (hs : ∀ s ∈ ks, s.size ≤ 9223372036854775807) : ∀ (rest pre : List ByteArray) (frest fpre : List Int) (p : Option Int), ks = pre ++ rest → fs = fpre ++ frest → fpre.length = pre.length → AheadI fpre p →
    (p = none → ∀ f ∈ frest.head?, f ≤ 999999) →
    Ev2 (fun N n => impl_RingOk.l0 N n (strsP ks) (ks.length : Int) (pre.length : Int) (strsP ks) (intsP fs)) [boolP (keysM pre rest && ascF p frest)] := by
  intro rest
  induction rest with
  | nil =>
    intro pre frest fpre p hp hf hfl _ _
    obtain rfl : frest = [] := by
      have h1 := congrArg List.length hp
      have h2 := congrArg List.length hf
      simp at h1 h2
      exact List.eq_nil_of_length_eq_zero (by omega)
    refine Ev2.succ ?_
    simp only [impl_RingOk.l0_eq, at_end hp, keysM, strs_len, strs_elem, ints_len, ints_elem, items_list, fld_agg, elem_list, toStr_sc, toInt_sc, toBool_sc, headD_one, nat_int, get_bt, decide_eq_true_eq, decide_eq_false_iff_not, decide_true, decide_false, if_true, if_false, ite_self, Bool.not_true, Bool.not_false, Bool.false_eq_true, Bool.true_eq_false, Bool.true_and, Bool.false_and, Bool.and_true, Bool.and_false, not_true, not_false_iff, Option.bind_some, nn, toList_inj, Bool.not_eq_true', Bool.not_eq_false', Int.le_refl, and_self, true_and, and_true, false_and, and_false, bne_self_eq_false]
    cases p <;> simp only [ascF] <;> exact Ev2.now _
  | cons c rest ih =>
    intro pre frest fpre p hp hf hfl hA hfirst
    obtain ⟨f, frest, rfl⟩ : ∃ f fr, frest = f :: fr := by
      cases frest with
      | cons f fr => exact ⟨f, fr, rfl⟩
      | nil =>
        have h1 := congrArg List.length hp
        have h2 := congrArg List.length hf
        simp at h1 h2
        omega
    have hlt := at_lt hp
    have hle : (pre.length : Int) ≤ (ks.length : Int) := by omega
    have hflt : (pre.length : Int) < fs.length := by have := at_lt hf; omega
    have hfg : fs.getD pre.length 0 = f := by rw [← hfl]; exact at_getD hf
    have hnext := ih _ frest _ (some f) (at_step hp) (at_step hf) (by simp [hfl]) (AheadI.next fpre f) (by simp)
    have htake : ((ks.drop 0).take (pre.length - 0)) = pre := by rw [hp]; simp
    refine Ev2.succ ?_
    simp only [impl_RingOk.l0_eq, hlt, hle, at_getD hp, at_next hp (by omega), hflt, hfg, strs_take, htake, strs_len, strs_elem, ints_len, ints_elem, items_list, fld_agg, elem_list, toStr_sc, toInt_sc, toBool_sc, headD_one, nat_int, get_bt, decide_eq_true_eq, decide_eq_false_iff_not, decide_true, decide_false, if_true, if_false, ite_self, Bool.not_true, Bool.not_false, Bool.false_eq_true, Bool.true_eq_false, Bool.true_and, Bool.false_and, Bool.and_true, Bool.and_false, not_true, not_false_iff, Option.bind_some, nn, toList_inj, Bool.not_eq_true', Bool.not_eq_false', Int.le_refl, and_self, true_and, and_true, false_and, and_false, bne_self_eq_false]
    refine Ev2.bind (Ev.of (implKey_val c (hs c (by rw [hp]; simp)))) ?_
    rw [keysM]
    simp only [strs_len, strs_elem, ints_len, ints_elem, items_list, fld_agg, elem_list, toStr_sc, toInt_sc, toBool_sc, headD_one, nat_int, get_bt, decide_eq_true_eq, decide_eq_false_iff_not, decide_true, decide_false, if_true, if_false, ite_self, Bool.not_true, Bool.not_false, Bool.false_eq_true, Bool.true_eq_false, Bool.true_and, Bool.false_and, Bool.and_true, Bool.and_false, not_true, not_false_iff, Option.bind_some, nn, toList_inj, Bool.not_eq_true', Bool.not_eq_false', Int.le_refl, and_self, true_and, and_true, false_and, and_false, bne_self_eq_false]
    cases keyM c with
    | false => simp only [strs_len, strs_elem, ints_len, ints_elem, items_list, fld_agg, elem_list, toStr_sc, toInt_sc, toBool_sc, headD_one, nat_int, get_bt, decide_eq_true_eq, decide_eq_false_iff_not, decide_true, decide_false, if_true, if_false, ite_self, Bool.not_true, Bool.not_false, Bool.false_eq_true, Bool.true_eq_false, Bool.true_and, Bool.false_and, Bool.and_true, Bool.and_false, not_true, not_false_iff, Option.bind_some, nn, toList_inj, Bool.not_eq_true', Bool.not_eq_false', Int.le_refl, and_self, true_and, and_true, false_and, and_false, bne_self_eq_false]; exact Ev2.now _
    | true =>
      simp only [strs_len, strs_elem, ints_len, ints_elem, items_list, fld_agg, elem_list, toStr_sc, toInt_sc, toBool_sc, headD_one, nat_int, get_bt, decide_eq_true_eq, decide_eq_false_iff_not, decide_true, decide_false, if_true, if_false, ite_self, Bool.not_true, Bool.not_false, Bool.false_eq_true, Bool.true_eq_false, Bool.true_and, Bool.false_and, Bool.and_true, Bool.and_false, not_true, not_false_iff, Option.bind_some, nn, toList_inj, Bool.not_eq_true', Bool.not_eq_false', Int.le_refl, and_self, true_and, and_true, false_and, and_false, bne_self_eq_false]
      refine Ev2.bind (contains_ev pre c (by omega)) ?_
      simp only [strs_len, strs_elem, ints_len, ints_elem, items_list, fld_agg, elem_list, toStr_sc, toInt_sc, toBool_sc, headD_one, nat_int, get_bt, decide_eq_true_eq, decide_eq_false_iff_not, decide_true, decide_false, if_true, if_false, ite_self, Bool.not_true, Bool.not_false, Bool.false_eq_true, Bool.true_eq_false, Bool.true_and, Bool.false_and, Bool.and_true, Bool.and_false, not_true, not_false_iff, Option.bind_some, nn, toList_inj, Bool.not_eq_true', Bool.not_eq_false', Int.le_refl, and_self, true_and, and_true, false_and, and_false, bne_self_eq_false]
      by_cases hm : c ∈ pre
      · simp only [hm, strs_len, strs_elem, ints_len, ints_elem, items_list, fld_agg, elem_list, toStr_sc, toInt_sc, toBool_sc, headD_one, nat_int, get_bt, decide_eq_true_eq, decide_eq_false_iff_not, decide_true, decide_false, if_true, if_false, ite_self, Bool.not_true, Bool.not_false, Bool.false_eq_true, Bool.true_eq_false, Bool.true_and, Bool.false_and, Bool.and_true, Bool.and_false, not_true, not_false_iff, Option.bind_some, nn, toList_inj, Bool.not_eq_true', Bool.not_eq_false', Int.le_refl, and_self, true_and, and_true, false_and, and_false, bne_self_eq_false]; exact Ev2.now _
      simp only [hm, strs_len, strs_elem, ints_len, ints_elem, items_list, fld_agg, elem_list, toStr_sc, toInt_sc, toBool_sc, headD_one, nat_int, get_bt, decide_eq_true_eq, decide_eq_false_iff_not, decide_true, decide_false, if_true, if_false, ite_self, Bool.not_true, Bool.not_false, Bool.false_eq_true, Bool.true_eq_false, Bool.true_and, Bool.false_and, Bool.and_true, Bool.and_false, not_true, not_false_iff, Option.bind_some, nn, toList_inj, Bool.not_eq_true', Bool.not_eq_false', Int.le_refl, and_self, true_and, and_true, false_and, and_false, bne_self_eq_false]
      rcases hA with ⟨rfl, rfl⟩ | ⟨pre', q, rfl, rfl⟩
      · have := hfirst rfl f (by simp)
        have h0 : pre.length = 0 := by simpa using hfl.symm
        simp only [eq_false (show ¬ 999999 < f by omega), h0, Int.natCast_zero, Int.lt_irrefl, ascF, strs_len, strs_elem, ints_len, ints_elem, items_list, fld_agg, elem_list, toStr_sc, toInt_sc, toBool_sc, headD_one, nat_int, get_bt, decide_eq_true_eq, decide_eq_false_iff_not, decide_true, decide_false, if_true, if_false, ite_self, Bool.not_true, Bool.not_false, Bool.false_eq_true, Bool.true_eq_false, Bool.true_and, Bool.false_and, Bool.and_true, Bool.and_false, not_true, not_false_iff, Option.bind_some, nn, toList_inj, Bool.not_eq_true', Bool.not_eq_false', Int.le_refl, and_self, true_and, and_true, false_and, and_false, bne_self_eq_false]
        have e : ((pre ++ [c]).length : Int) = 0 + 1 := by simp [h0]
        have e2 : IntKind.i64.wrap (0 + 1) = 0 + 1 := wrap_id (by omega) (by omega)
        rw [e] at hnext
        simpa only [e] using hnext
      · obtain ⟨h1, h2, h3⟩ := at_prevI hf (by omega)
        rw [hfl] at h1
        rw [ascF]
        by_cases c2 : 999999 < f
        · simp only [c2, eq_false (show ¬ f ≤ 999999 by omega), strs_len, strs_elem, ints_len, ints_elem, items_list, fld_agg, elem_list, toStr_sc, toInt_sc, toBool_sc, headD_one, nat_int, get_bt, decide_eq_true_eq, decide_eq_false_iff_not, decide_true, decide_false, if_true, if_false, ite_self, Bool.not_true, Bool.not_false, Bool.false_eq_true, Bool.true_eq_false, Bool.true_and, Bool.false_and, Bool.and_true, Bool.and_false, not_true, not_false_iff, Option.bind_some, nn, toList_inj, Bool.not_eq_true', Bool.not_eq_false', Int.le_refl, and_self, true_and, and_true, false_and, and_false, bne_self_eq_false]
          exact Ev2.now _
        have hpos : (0 : Int) < (pre.length : Int) := by rw [← hfl]; simp
        simp only [c2, hpos, h1, h2, h3, strs_len, strs_elem, ints_len, ints_elem, items_list, fld_agg, elem_list, toStr_sc, toInt_sc, toBool_sc, headD_one, nat_int, get_bt, decide_eq_true_eq, decide_eq_false_iff_not, decide_true, decide_false, if_true, if_false, ite_self, Bool.not_true, Bool.not_false, Bool.false_eq_true, Bool.true_eq_false, Bool.true_and, Bool.false_and, Bool.and_true, Bool.and_false, not_true, not_false_iff, Option.bind_some, nn, toList_inj, Bool.not_eq_true', Bool.not_eq_false', Int.le_refl, and_self, true_and, and_true, false_and, and_false, bne_self_eq_false]
        by_cases c1 : f ≤ q
        · simp only [c1, eq_false (show ¬ q < f by omega), strs_len, strs_elem, ints_len, ints_elem, items_list, fld_agg, elem_list, toStr_sc, toInt_sc, toBool_sc, headD_one, nat_int, get_bt, decide_eq_true_eq, decide_eq_false_iff_not, decide_true, decide_false, if_true, if_false, ite_self, Bool.not_true, Bool.not_false, Bool.false_eq_true, Bool.true_eq_false, Bool.true_and, Bool.false_and, Bool.and_true, Bool.and_false, not_true, not_false_iff, Option.bind_some, nn, toList_inj, Bool.not_eq_true', Bool.not_eq_false', Int.le_refl, and_self, true_and, and_true, false_and, and_false, bne_self_eq_false]; exact Ev2.now _
        simp only [c1, eq_true (show q < f by omega), eq_true (show f ≤ 999999 by omega), strs_len, strs_elem, ints_len, ints_elem, items_list, fld_agg, elem_list, toStr_sc, toInt_sc, toBool_sc, headD_one, nat_int, get_bt, decide_eq_true_eq, decide_eq_false_iff_not, decide_true, decide_false, if_true, if_false, ite_self, Bool.not_true, Bool.not_false, Bool.false_eq_true, Bool.true_eq_false, Bool.true_and, Bool.false_and, Bool.and_true, Bool.and_false, not_true, not_false_iff, Option.bind_some, nn, toList_inj, Bool.not_eq_true', Bool.not_eq_false', Int.le_refl, and_self, true_and, and_true, false_and, and_false, bne_self_eq_false]
        exact hnext
theorem implRingOk_ev (ks : List ByteArray) (fs : List Int) (hf : fs.length ≤ 9223372036854775807) (hk : ks.length ≤ 9223372036854775807) (hs : ∀ s ∈ ks, s.size ≤ 9223372036854775807) :
    Ev (fun N => impl_RingOk.f N [ringP ks fs]) [boolP (ringM ks fs)] := by
  simp only [impl_RingOk.f_eq, ring_f0, ring_f1, implWithin_val, ringM, tailM, strs_len, strs_elem, ints_len, ints_elem, items_list, fld_agg, elem_list, toStr_sc, toInt_sc, toBool_sc, headD_one, nat_int, get_bt, decide_eq_true_eq, decide_eq_false_iff_not, decide_true, decide_false, if_true, if_false, ite_self, Bool.not_true, Bool.not_false, Bool.false_eq_true, Bool.true_eq_false, Bool.true_and, Bool.false_and, Bool.and_true, Bool.and_false, not_true, not_false_iff, Option.bind_some, nn, toList_inj, Bool.not_eq_true', Bool.not_eq_false', Int.le_refl, and_self, true_and, and_true, false_and, and_false, bne_self_eq_false]
  by_cases h1 : 1 ≤ ks.length ∧ ks.length ≤ 5
  · have h1' : (1 : Int) ≤ ks.length ∧ (ks.length : Int) ≤ 5 := by omega
    by_cases h2 : fs.length = ks.length
    · have h4 : (0 : Int) < (ks.length : Int) := by omega
      by_cases h3 : fs.getD 0 0 = 1
      · simp only [h1, h1', h2, h3, h4, strs_len, strs_elem, ints_len, ints_elem, items_list, fld_agg, elem_list, toStr_sc, toInt_sc, toBool_sc, headD_one, nat_int, get_bt, decide_eq_true_eq, decide_eq_false_iff_not, decide_true, decide_false, if_true, if_false, ite_self, Bool.not_true, Bool.not_false, Bool.false_eq_true, Bool.true_eq_false, Bool.true_and, Bool.false_and, Bool.and_true, Bool.and_false, not_true, not_false_iff, Option.bind_some, nn, toList_inj, Bool.not_eq_true', Bool.not_eq_false', Int.le_refl, and_self, true_and, and_true, false_and, and_false, bne_self_eq_false]
        have := implRing_l0 ks fs h2 h1.2 hs ks [] fs [] none rfl rfl rfl (.inl ⟨rfl, rfl⟩) (fun _ f hfm => by
          cases fs with
          | nil => simp at hfm
          | cons g fs =>
            simp at hfm h3
            omega)
        exact this.diag
      · simp only [h1, h1', h2, h3, h4, strs_len, strs_elem, ints_len, ints_elem, items_list, fld_agg, elem_list, toStr_sc, toInt_sc, toBool_sc, headD_one, nat_int, get_bt, decide_eq_true_eq, decide_eq_false_iff_not, decide_true, decide_false, if_true, if_false, ite_self, Bool.not_true, Bool.not_false, Bool.false_eq_true, Bool.true_eq_false, Bool.true_and, Bool.false_and, Bool.and_true, Bool.and_false, not_true, not_false_iff, Option.bind_some, nn, toList_inj, Bool.not_eq_true', Bool.not_eq_false', Int.le_refl, and_self, true_and, and_true, false_and, and_false, bne_self_eq_false]
        exact Ev.now _
    · simp only [h1, h1', h2, eq_false (show ¬ (fs.length : Int) = ks.length by omega), strs_len, strs_elem, ints_len, ints_elem, items_list, fld_agg, elem_list, toStr_sc, toInt_sc, toBool_sc, headD_one, nat_int, get_bt, decide_eq_true_eq, decide_eq_false_iff_not, decide_true, decide_false, if_true, if_false, ite_self, Bool.not_true, Bool.not_false, Bool.false_eq_true, Bool.true_eq_false, Bool.true_and, Bool.false_and, Bool.and_true, Bool.and_false, not_true, not_false_iff, Option.bind_some, nn, toList_inj, Bool.not_eq_true', Bool.not_eq_false', Int.le_refl, and_self, true_and, and_true, false_and, and_false, bne_self_eq_false]
      exact Ev.now _
  · simp only [h1, eq_false (show ¬ ((1 : Int) ≤ ks.length ∧ (ks.length : Int) ≤ 5) by omega), strs_len, strs_elem, ints_len, ints_elem, items_list, fld_agg, elem_list, toStr_sc, toInt_sc, toBool_sc, headD_one, nat_int, get_bt, decide_eq_true_eq, decide_eq_false_iff_not, decide_true, decide_false, if_true, if_false, ite_self, Bool.not_true, Bool.not_false, Bool.false_eq_true, Bool.true_eq_false, Bool.true_and, Bool.false_and, Bool.and_true, Bool.and_false, not_true, not_false_iff, Option.bind_some, nn, toList_inj, Bool.not_eq_true', Bool.not_eq_false', Int.le_refl, and_self, true_and, and_true, false_and, and_false, bne_self_eq_false]
    exact Ev.now _
/-! #### RingKey -/
def lastKey (n : Int) : ByteArray → List ByteArray → List Int → ByteArray
  | out, k :: ks, f :: fs => lastKey n (if f ≤ n then k else out) ks fs
  | out, _, _ => out
def ringKeyM (ks : List ByteArray) (fs : List Int) (n : Int) : ByteArray := if ringM ks fs = true then lastKey n ⟨#[]⟩ ks fs else ⟨#[]⟩
theorem ringM_len {ks : List ByteArray} {fs : List Int} (h : ringM ks fs = true) : 1 ≤ ks.length ∧ ks.length ≤ 5 ∧ fs.length = ks.length := by
  unfold ringM tailM at h
  simp only [Bool.and_eq_true, decide_eq_true_eq] at h
  omega
theorem specL11_loop (ks : List ByteArray) (fs : List Int) (n : Int) (hl : fs.length = ks.length) (hk : ks.length ≤ 9223372036854775807) : ∀ (rest pre : List ByteArray) (frest fpre : List Int), ks = pre ++ rest → fs = fpre ++ frest → fpre.length = pre.length → ∀ out : ByteArray,
    Ev2 (fun N m => spec_l11Key.l0 N m n out (pre.length : Int) (strsP ks) (intsP fs)) [strP (lastKey n out rest frest)] := by
  intro rest
  induction rest with
  | nil =>
    intro pre frest fpre hp hf hfl out
    refine Ev2.succ ?_
    simp only [spec_l11Key.l0_eq, at_end hp, lastKey, strs_len, strs_elem, ints_len, ints_elem, items_list, fld_agg, elem_list, toStr_sc, toInt_sc, toBool_sc, headD_one, nat_int, get_bt, decide_eq_true_eq, decide_eq_false_iff_not, decide_true, decide_false, if_true, if_false, ite_self, Bool.not_true, Bool.not_false, Bool.false_eq_true, Bool.true_eq_false, Bool.true_and, Bool.false_and, Bool.and_true, Bool.and_false, not_true, not_false_iff, Option.bind_some, nn, toList_inj, Bool.not_eq_true', Bool.not_eq_false', Int.le_refl, and_self, true_and, and_true, false_and, and_false, bne_self_eq_false]
    exact Ev2.now _
  | cons c rest ih =>
    intro pre frest fpre hp hf hfl out
    obtain ⟨f, frest, rfl⟩ : ∃ f fr, frest = f :: fr := by
      cases frest with
      | cons f fr => exact ⟨f, fr, rfl⟩
      | nil =>
        have h1 := congrArg List.length hp
        have h2 := congrArg List.length hf
        simp at h1 h2
        omega
    have hflt : (pre.length : Int) < fs.length := by have := at_lt hf; omega
    have hfg : fs.getD pre.length 0 = f := by rw [← hfl]; exact at_getD hf
    refine Ev2.succ ?_
    simp only [spec_l11Key.l0_eq, at_lt hp, hflt, hfg, at_getD hp, at_next hp hk, lastKey, strs_len, strs_elem, ints_len, ints_elem, items_list, fld_agg, elem_list, toStr_sc, toInt_sc, toBool_sc, headD_one, nat_int, get_bt, decide_eq_true_eq, decide_eq_false_iff_not, decide_true, decide_false, if_true, if_false, ite_self, Bool.not_true, Bool.not_false, Bool.false_eq_true, Bool.true_eq_false, Bool.true_and, Bool.false_and, Bool.and_true, Bool.and_false, not_true, not_false_iff, Option.bind_some, nn, toList_inj, Bool.not_eq_true', Bool.not_eq_false', Int.le_refl, and_self, true_and, and_true, false_and, and_false, bne_self_eq_false]
    by_cases h : f ≤ n
    · simp only [h, strs_len, strs_elem, ints_len, ints_elem, items_list, fld_agg, elem_list, toStr_sc, toInt_sc, toBool_sc, headD_one, nat_int, get_bt, decide_eq_true_eq, decide_eq_false_iff_not, decide_true, decide_false, if_true, if_false, ite_self, Bool.not_true, Bool.not_false, Bool.false_eq_true, Bool.true_eq_false, Bool.true_and, Bool.false_and, Bool.and_true, Bool.and_false, not_true, not_false_iff, Option.bind_some, nn, toList_inj, Bool.not_eq_true', Bool.not_eq_false', Int.le_refl, and_self, true_and, and_true, false_and, and_false, bne_self_eq_false]; exact ih _ _ _ (at_step hp) (at_step hf) (by simp [hfl]) _
    · simp only [h, strs_len, strs_elem, ints_len, ints_elem, items_list, fld_agg, elem_list, toStr_sc, toInt_sc, toBool_sc, headD_one, nat_int, get_bt, decide_eq_true_eq, decide_eq_false_iff_not, decide_true, decide_false, if_true, if_false, ite_self, Bool.not_true, Bool.not_false, Bool.false_eq_true, Bool.true_eq_false, Bool.true_and, Bool.false_and, Bool.and_true, Bool.and_false, not_true, not_false_iff, Option.bind_some, nn, toList_inj, Bool.not_eq_true', Bool.not_eq_false', Int.le_refl, and_self, true_and, and_true, false_and, and_false, bne_self_eq_false]; exact ih _ _ _ (at_step hp) (at_step hf) (by simp [hfl]) _
theorem specRingKey_ev (ks : List ByteArray) (fs : List Int) (n : Int) (hf : fs.length ≤ 9223372036854775807) (hk : ks.length ≤ 9223372036854775807) (hs : ∀ s ∈ ks, s.size ≤ 9223372036854775807) :
    Ev (fun N => spec_RingKey.f N [ringP ks fs, intP n]) [strP (ringKeyM ks fs n)] := by
  simp only [spec_RingKey.f_eq, ring_f0, ring_f1, ring_agg, ringKeyM, strs_len, strs_elem, ints_len, ints_elem, items_list, fld_agg, elem_list, toStr_sc, toInt_sc, toBool_sc, headD_one, nat_int, get_bt, decide_eq_true_eq, decide_eq_false_iff_not, decide_true, decide_false, if_true, if_false, ite_self, Bool.not_true, Bool.not_false, Bool.false_eq_true, Bool.true_eq_false, Bool.true_and, Bool.false_and, Bool.and_true, Bool.and_false, not_true, not_false_iff, Option.bind_some, nn, toList_inj, Bool.not_eq_true', Bool.not_eq_false', Int.le_refl, and_self, true_and, and_true, false_and, and_false, bne_self_eq_false]
  refine Ev.bind (specRingOk_ev ks fs hf hk hs) ?_
  cases h : ringM ks fs with
  | false => simp only [strs_len, strs_elem, ints_len, ints_elem, items_list, fld_agg, elem_list, toStr_sc, toInt_sc, toBool_sc, headD_one, nat_int, get_bt, decide_eq_true_eq, decide_eq_false_iff_not, decide_true, decide_false, if_true, if_false, ite_self, Bool.not_true, Bool.not_false, Bool.false_eq_true, Bool.true_eq_false, Bool.true_and, Bool.false_and, Bool.and_true, Bool.and_false, not_true, not_false_iff, Option.bind_some, nn, toList_inj, Bool.not_eq_true', Bool.not_eq_false', Int.le_refl, and_self, true_and, and_true, false_and, and_false, bne_self_eq_false]; exact Ev.now _
  | true =>
    simp only [spec_l11Key.f_eq, ring_f0, ring_f1, strs_len, strs_elem, ints_len, ints_elem, items_list, fld_agg, elem_list, toStr_sc, toInt_sc, toBool_sc, headD_one, nat_int, get_bt, decide_eq_true_eq, decide_eq_false_iff_not, decide_true, decide_false, if_true, if_false, ite_self, Bool.not_true, Bool.not_false, Bool.false_eq_true, Bool.true_eq_false, Bool.true_and, Bool.false_and, Bool.and_true, Bool.and_false, not_true, not_false_iff, Option.bind_some, nn, toList_inj, Bool.not_eq_true', Bool.not_eq_false', Int.le_refl, and_self, true_and, and_true, false_and, and_false, bne_self_eq_false]
    refine Ev.bind (specL11_loop ks fs n (ringM_len h).2.2 hk ks [] fs [] rfl rfl rfl _).diag ?_
    simp only [strs_len, strs_elem, ints_len, ints_elem, items_list, fld_agg, elem_list, toStr_sc, toInt_sc, toBool_sc, headD_one, nat_int, get_bt, decide_eq_true_eq, decide_eq_false_iff_not, decide_true, decide_false, if_true, if_false, ite_self, Bool.not_true, Bool.not_false, Bool.false_eq_true, Bool.true_eq_false, Bool.true_and, Bool.false_and, Bool.and_true, Bool.and_false, not_true, not_false_iff, Option.bind_some, nn, toList_inj, Bool.not_eq_true', Bool.not_eq_false', Int.le_refl, and_self, true_and, and_true, false_and, and_false, bne_self_eq_false]
    exact Ev.now _
theorem implKey_loop (ks : List ByteArray) (fs : List Int) (n : Int) (hl : fs.length = ks.length) (hk : ks.length ≤ 9223372036854775807) : ∀ (rest pre : List ByteArray) (frest fpre : List Int), ks = pre ++ rest → fs = fpre ++ frest → fpre.length = pre.length → ∀ out : ByteArray,
    Ev2 (fun N m => impl_RingKey.l0 N m n out (intsP fs) (fs.length : Int) (fpre.length : Int) (strsP ks) (intsP fs)) [strP (lastKey n out rest frest)] := by
  intro rest
  induction rest with
  | nil =>
    intro pre frest fpre hp hf hfl out
    obtain rfl : frest = [] := by
      have h1 := congrArg List.length hp
      have h2 := congrArg List.length hf
      simp at h1 h2
      exact List.eq_nil_of_length_eq_zero (by omega)
    refine Ev2.succ ?_
    simp only [impl_RingKey.l0_eq, at_end hf, lastKey, strs_len, strs_elem, ints_len, ints_elem, items_list, fld_agg, elem_list, toStr_sc, toInt_sc, toBool_sc, headD_one, nat_int, get_bt, decide_eq_true_eq, decide_eq_false_iff_not, decide_true, decide_false, if_true, if_false, ite_self, Bool.not_true, Bool.not_false, Bool.false_eq_true, Bool.true_eq_false, Bool.true_and, Bool.false_and, Bool.and_true, Bool.and_false, not_true, not_false_iff, Option.bind_some, nn, toList_inj, Bool.not_eq_true', Bool.not_eq_false', Int.le_refl, and_self, true_and, and_true, false_and, and_false, bne_self_eq_false]
    exact Ev2.now _
  | cons c rest ih =>
    intro pre frest fpre hp hf hfl out
    obtain ⟨f, frest, rfl⟩ : ∃ f fr, frest = f :: fr := by
      cases frest with
      | cons f fr => exact ⟨f, fr, rfl⟩
      | nil =>
        have h1 := congrArg List.length hp
        have h2 := congrArg List.length hf
        simp at h1 h2
        omega
    have hklt : (fpre.length : Int) < ks.length := by have := at_lt hp; omega
    have hkg : ks.getD fpre.length ByteArray.empty = c := by rw [hfl]; exact at_getD hp
    refine Ev2.succ ?_
    simp only [impl_RingKey.l0_eq, at_lt hf, hklt, hkg, at_getD hf, at_next hf (by omega), lastKey, strs_len, strs_elem, ints_len, ints_elem, items_list, fld_agg, elem_list, toStr_sc, toInt_sc, toBool_sc, headD_one, nat_int, get_bt, decide_eq_true_eq, decide_eq_false_iff_not, decide_true, decide_false, if_true, if_false, ite_self, Bool.not_true, Bool.not_false, Bool.false_eq_true, Bool.true_eq_false, Bool.true_and, Bool.false_and, Bool.and_true, Bool.and_false, not_true, not_false_iff, Option.bind_some, nn, toList_inj, Bool.not_eq_true', Bool.not_eq_false', Int.le_refl, and_self, true_and, and_true, false_and, and_false, bne_self_eq_false]
    by_cases h : f ≤ n
    · simp only [h, strs_len, strs_elem, ints_len, ints_elem, items_list, fld_agg, elem_list, toStr_sc, toInt_sc, toBool_sc, headD_one, nat_int, get_bt, decide_eq_true_eq, decide_eq_false_iff_not, decide_true, decide_false, if_true, if_false, ite_self, Bool.not_true, Bool.not_false, Bool.false_eq_true, Bool.true_eq_false, Bool.true_and, Bool.false_and, Bool.and_true, Bool.and_false, not_true, not_false_iff, Option.bind_some, nn, toList_inj, Bool.not_eq_true', Bool.not_eq_false', Int.le_refl, and_self, true_and, and_true, false_and, and_false, bne_self_eq_false]; exact ih _ _ _ (at_step hp) (at_step hf) (by simp [hfl]) _
    · simp only [h, strs_len, strs_elem, ints_len, ints_elem, items_list, fld_agg, elem_list, toStr_sc, toInt_sc, toBool_sc, headD_one, nat_int, get_bt, decide_eq_true_eq, decide_eq_false_iff_not, decide_true, decide_false, if_true, if_false, ite_self, Bool.not_true, Bool.not_false, Bool.false_eq_true, Bool.true_eq_false, Bool.true_and, Bool.false_and, Bool.and_true, Bool.and_false, not_true, not_false_iff, Option.bind_some, nn, toList_inj, Bool.not_eq_true', Bool.not_eq_false', Int.le_refl, and_self, true_and, and_true, false_and, and_false, bne_self_eq_false]; exact ih _ _ _ (at_step hp) (at_step hf) (by simp [hfl]) _
theorem implRingKey_ev (ks : List ByteArray) (fs : List Int) (n : Int) (hf : fs.length ≤ 9223372036854775807) (hk : ks.length ≤ 9223372036854775807) (hs : ∀ s ∈ ks, s.size ≤ 9223372036854775807) :
    Ev (fun N => impl_RingKey.f N [ringP ks fs, intP n]) [strP (ringKeyM ks fs n)] := by
  simp only [impl_RingKey.f_eq, ring_f0, ring_f1, ring_agg, ringKeyM, strs_len, strs_elem, ints_len, ints_elem, items_list, fld_agg, elem_list, toStr_sc, toInt_sc, toBool_sc, headD_one, nat_int, get_bt, decide_eq_true_eq, decide_eq_false_iff_not, decide_true, decide_false, if_true, if_false, ite_self, Bool.not_true, Bool.not_false, Bool.false_eq_true, Bool.true_eq_false, Bool.true_and, Bool.false_and, Bool.and_true, Bool.and_false, not_true, not_false_iff, Option.bind_some, nn, toList_inj, Bool.not_eq_true', Bool.not_eq_false', Int.le_refl, and_self, true_and, and_true, false_and, and_false, bne_self_eq_false]
  refine Ev.bind (implRingOk_ev ks fs hf hk hs) ?_
  cases h : ringM ks fs with
  | false => simp only [strs_len, strs_elem, ints_len, ints_elem, items_list, fld_agg, elem_list, toStr_sc, toInt_sc, toBool_sc, headD_one, nat_int, get_bt, decide_eq_true_eq, decide_eq_false_iff_not, decide_true, decide_false, if_true, if_false, ite_self, Bool.not_true, Bool.not_false, Bool.false_eq_true, Bool.true_eq_false, Bool.true_and, Bool.false_and, Bool.and_true, Bool.and_false, not_true, not_false_iff, Option.bind_some, nn, toList_inj, Bool.not_eq_true', Bool.not_eq_false', Int.le_refl, and_self, true_and, and_true, false_and, and_false, bne_self_eq_false]; exact Ev.now _
  | true =>
    simp only [strs_len, strs_elem, ints_len, ints_elem, items_list, fld_agg, elem_list, toStr_sc, toInt_sc, toBool_sc, headD_one, nat_int, get_bt, decide_eq_true_eq, decide_eq_false_iff_not, decide_true, decide_false, if_true, if_false, ite_self, Bool.not_true, Bool.not_false, Bool.false_eq_true, Bool.true_eq_false, Bool.true_and, Bool.false_and, Bool.and_true, Bool.and_false, not_true, not_false_iff, Option.bind_some, nn, toList_inj, Bool.not_eq_true', Bool.not_eq_false', Int.le_refl, and_self, true_and, and_true, false_and, and_false, bne_self_eq_false]
    exact (implKey_loop ks fs n (ringM_len h).2.2 hk ks [] fs [] rfl rfl rfl _).diag
theorem ring_of {p : PV} (h : PvOk Try.prog 8 43 p) : ∃ ks fs, p = ringP ks fs ∧ ks.length ≤ reachBytes ∧ fs.length ≤ reachBytes ∧ ∀ s ∈ ks, s.size ≤ reachBytes := by
  obtain ⟨qs, rfl, h2⟩ := pvOk_struct (P := Try.prog) (t := 43) (fs := [24, 25]) (by kernel_rfl) h
  obtain ⟨a, b, rfl, h3, h4⟩ := pvOkL2 h2
  obtain ⟨ks, rfl, k1, k2⟩ := pvOk_strs (P := Try.prog) (t := 24) (e := 9) (by kernel_rfl) (by kernel_rfl) h3
  obtain ⟨fs, rfl, f1, _⟩ := pvOk_ints (P := Try.prog) (t := 25) (e := 3) (by kernel_rfl) (by kernel_rfl) h4
  exact ⟨ks, fs, rfl, k1, f1, k2⟩
theorem ring_args {ps : List PV} (h : PvOkL (PvOk Try.prog 8) [43] ps) : ∃ ks fs, ps = [ringP ks fs] ∧ ks.length ≤ reachBytes ∧ fs.length ≤ reachBytes ∧ ∀ s ∈ ks, s.size ≤ reachBytes := by
  obtain ⟨p, rfl, h1⟩ := pvOkL1 h
  obtain ⟨ks, fs, rfl, h2⟩ := ring_of h1
  exact ⟨ks, fs, rfl, h2⟩
/-- The law's own function answers true. -/
theorem law (ps : List PV) (h : PvOkL (PvOk Try.prog 8) [43, 3] ps) : ∃ N, laws_FnExactRingKey.f N ps = some [boolP true] := by
  obtain ⟨p, q, rfl, h1, h2⟩ := pvOkL2 h
  obtain ⟨ks, fs, rfl, hl, hl2, hss⟩ := ring_of h1
  obtain ⟨n, rfl, _⟩ := pvOk_int (P := Try.prog) (t := 3) (k := .i64) (by kernel_rfl) h2
  have hm : reachBytes = 140737488351232 := rfl
  rw [hm] at hl hl2
  have hs : ∀ s ∈ ks, s.size ≤ 9223372036854775807 := fun s h => by have := hss s h; rw [hm] at this; omega
  refine Ev.some ?_
  simp only [laws_FnExactRingKey.f_eq, ring_f0, ring_f1, ring_agg, strs_len, strs_elem, ints_len, ints_elem, items_list, fld_agg, elem_list, toStr_sc, toInt_sc, toBool_sc, headD_one, nat_int, get_bt, decide_eq_true_eq, decide_eq_false_iff_not, decide_true, decide_false, if_true, if_false, ite_self, Bool.not_true, Bool.not_false, Bool.false_eq_true, Bool.true_eq_false, Bool.true_and, Bool.false_and, Bool.and_true, Bool.and_false, not_true, not_false_iff, Option.bind_some, nn, toList_inj, Bool.not_eq_true', Bool.not_eq_false', Int.le_refl, and_self, true_and, and_true, false_and, and_false, bne_self_eq_false]
  obtain ⟨left, hleft, hle, hv⟩ := szRing_ev ks fs (by omega) (by omega) hs 1048576 (by omega) (by omega)
  refine Ev.bind hleft ?_
  simp only [strs_len, strs_elem, ints_len, ints_elem, items_list, fld_agg, elem_list, toStr_sc, toInt_sc, toBool_sc, headD_one, nat_int, get_bt, decide_eq_true_eq, decide_eq_false_iff_not, decide_true, decide_false, if_true, if_false, ite_self, Bool.not_true, Bool.not_false, Bool.false_eq_true, Bool.true_eq_false, Bool.true_and, Bool.false_and, Bool.and_true, Bool.and_false, not_true, not_false_iff, Option.bind_some, nn, toList_inj, Bool.not_eq_true', Bool.not_eq_false', Int.le_refl, and_self, true_and, and_true, false_and, and_false, bne_self_eq_false]
  by_cases hn : left < 0
  · simp only [hn, strs_len, strs_elem, ints_len, ints_elem, items_list, fld_agg, elem_list, toStr_sc, toInt_sc, toBool_sc, headD_one, nat_int, get_bt, decide_eq_true_eq, decide_eq_false_iff_not, decide_true, decide_false, if_true, if_false, ite_self, Bool.not_true, Bool.not_false, Bool.false_eq_true, Bool.true_eq_false, Bool.true_and, Bool.false_and, Bool.and_true, Bool.and_false, not_true, not_false_iff, Option.bind_some, nn, toList_inj, Bool.not_eq_true', Bool.not_eq_false', Int.le_refl, and_self, true_and, and_true, false_and, and_false, bne_self_eq_false]; exact Ev.now _
  simp only [hn, strs_len, strs_elem, ints_len, ints_elem, items_list, fld_agg, elem_list, toStr_sc, toInt_sc, toBool_sc, headD_one, nat_int, get_bt, decide_eq_true_eq, decide_eq_false_iff_not, decide_true, decide_false, if_true, if_false, ite_self, Bool.not_true, Bool.not_false, Bool.false_eq_true, Bool.true_eq_false, Bool.true_and, Bool.false_and, Bool.and_true, Bool.and_false, not_true, not_false_iff, Option.bind_some, nn, toList_inj, Bool.not_eq_true', Bool.not_eq_false', Int.le_refl, and_self, true_and, and_true, false_and, and_false, bne_self_eq_false]
  have h1 := szStrs_len ks
  have h2 := hv (by omega)
  refine Ev.bind (toRing_ev ks fs (by omega) (by omega)) ?_
  refine Ev.bind (specRingKey_ev ks fs n (by omega) (by omega) hs) ?_
  refine Ev.bind (toRing_ev ks fs (by omega) (by omega)) ?_
  refine Ev.bind (implRingKey_ev ks fs n (by omega) (by omega) hs) ?_
  simp only [strs_len, strs_elem, ints_len, ints_elem, items_list, fld_agg, elem_list, toStr_sc, toInt_sc, toBool_sc, headD_one, nat_int, get_bt, decide_eq_true_eq, decide_eq_false_iff_not, decide_true, decide_false, if_true, if_false, ite_self, Bool.not_true, Bool.not_false, Bool.false_eq_true, Bool.true_eq_false, Bool.true_and, Bool.false_and, Bool.and_true, Bool.and_false, not_true, not_false_iff, Option.bind_some, nn, toList_inj, Bool.not_eq_true', Bool.not_eq_false', Int.le_refl, and_self, true_and, and_true, false_and, and_false, bne_self_eq_false]
  refine Ev.bind (toRing_ev ks fs (by omega) (by omega)) ?_
  refine Ev.bind (eqRing_ev ks fs (by omega) (by omega)) ?_
  simp only [strs_len, strs_elem, ints_len, ints_elem, items_list, fld_agg, elem_list, toStr_sc, toInt_sc, toBool_sc, headD_one, nat_int, get_bt, decide_eq_true_eq, decide_eq_false_iff_not, decide_true, decide_false, if_true, if_false, ite_self, Bool.not_true, Bool.not_false, Bool.false_eq_true, Bool.true_eq_false, Bool.true_and, Bool.false_and, Bool.and_true, Bool.and_false, not_true, not_false_iff, Option.bind_some, nn, toList_inj, Bool.not_eq_true', Bool.not_eq_false', Int.le_refl, and_self, true_and, and_true, false_and, and_false, bne_self_eq_false]
  exact Ev.now _
end Go.Proofs.Ytbmpmkklopbejaa.FnExactRingKey
