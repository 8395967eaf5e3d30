/- The law FnExactFrontGet, over the trees that its functions compute: it answers true, for all arguments of the bounds that the row grants. -/
import Derived.Test.YtpnbhcifhbnaaaaDoorFnFnExactFrontGetx1
set_option linter.unusedVariables false
set_option linter.unusedSimpArgs false
set_option maxRecDepth 10000
namespace Go.Proofs.YtpnbhcifhbnaaaaDoor.FnExactFrontGet
open Go Go.Proofs.YtpnbhcifhbnaaaaDoorAm
/-! #### the laws' own helpers over slices of strings: comparison, copy -/
theorem eqStringS_loop (a : List ByteArray) (ha : a.length ≤ 9223372036854775807) : ∀ rest pre : List ByteArray, a = pre ++ rest → Ev2 (fun N n => laws_eqStringS.l0 N n (strsP a) (strsP a) (pre.length : Int)) [boolP true] := by
  intro rest
  induction rest with
  | nil =>
    intro pre hp
    refine Ev2.succ ?_
    simp only [laws_eqStringS.l0_eq, strs_len, decide_eq_true_eq, if_neg (at_end hp)]
    exact Ev2.now _
  | cons c rest ih =>
    intro pre hp
    refine Ev2.succ ?_
    simp only [laws_eqStringS.l0_eq, strs_len, decide_eq_true_eq, if_pos (at_lt hp), if_pos (nn (n := pre.length)), decide_true, Bool.not_true, Bool.false_eq_true, if_false, at_next hp ha]
    exact ih _ (at_step hp)
theorem eqStringS_ev (a : List ByteArray) (ha : a.length ≤ 9223372036854775807) : Ev (fun N => laws_eqStringS.f N [strsP a, strsP a]) [boolP true] := by
  simp only [laws_eqStringS.f_eq, decide_true, Bool.not_true, Bool.false_eq_true, if_false]
  exact (eqStringS_loop a ha a [] rfl).diag
theorem Ev2.bind2 {α β : Type} {r : α} {s : β} {g : Nat → Nat → Option β} {f : Nat → Nat → β → Option α} (h : Ev2 g s) (k : Ev2 (fun N n => f N n s) r) : Ev2 (fun N n => (g N n).bind (f N n)) r := by
  obtain ⟨k1, h1⟩ := h; obtain ⟨k2, h2⟩ := k
  exact ⟨max k1 k2, fun N n hN hn => by
    show (g N n).bind (f N n) = _
    rw [h1 N n (by omega) (by omega), Option.bind_some]; exact h2 N n (by omega) (by omega)⟩
theorem nat_wrap {n : Int} {m : Nat} (h : n = (m : Int)) (hm : m < 9223372036854775808) : IntKind.i64.wrap n = (m : Int) := by
  rw [h, wrap_id (by omega) (by omega)]
theorem lt_int {a b : Nat} (h : a < b) : (a : Int) < (b : Int) := Int.ofNat_lt.2 h
theorem le_int {a b : Nat} (h : a ≤ b) : (a : Int) ≤ (b : Int) := Int.ofNat_le.2 h
/-! #### words -/
def isWord (s : ByteArray) : Bool := decide (1 ≤ s.size ∧ s.size ≤ 12) && (bytesOf s).all fun c => decide (97 ≤ c ∧ c ≤ 122)
def lowB (l : List Int) : Bool := l.all fun c => decide (97 ≤ c ∧ c ≤ 122)
theorem lowB_cons (c : Int) (l : List Int) : lowB (c :: l) = (decide (97 ≤ c ∧ c ≤ 122) && lowB l) := by simp [lowB]
def bLess (a b : ByteArray) : Bool := Op.bytesLess a.toList b.toList
theorem bLess_eq (a b : ByteArray) : Op.bytesLess a.toList b.toList = bLess a b := rfl
/-- Words, ascending, behind one (or none). -/
def ascW : Option ByteArray → List ByteArray → Bool
  | _, [] => true
  | none, c :: rest => isWord c && ascW (some c) rest
  | some q, c :: rest => isWord c && bLess q c && ascW (some c) rest
def wordsM (l : List ByteArray) (most : Int) : Bool := ascW none l && decide ((l.length : Int) ≤ most)
/-- What stands ahead of a place. -/
def Ahead (pre : List ByteArray) (p : Option ByteArray) : Prop := (pre = [] ∧ p = none) ∨ ∃ pre' q, pre = pre' ++ [q] ∧ p = some q
theorem Ahead.next (pre : List ByteArray) (c : ByteArray) : Ahead (pre ++ [c]) (some c) := .inr ⟨pre, c, rfl, rfl⟩
theorem at_prev {xs pre' rest : List ByteArray} {q : ByteArray} (hp : xs = (pre' ++ [q]) ++ rest) (hx : xs.length ≤ 9223372036854775807) :
    IntKind.i64.wrap (((pre' ++ [q]).length : Int) - 1) = (pre'.length : Int) ∧ (pre'.length : Int) < (xs.length : Int) ∧ xs.getD pre'.length ByteArray.empty = q ∧ (0 : Int) < ((pre' ++ [q]).length : Int) := by
  subst hp
  simp only [List.length_append, List.length_cons, List.length_nil] at hx ⊢
  refine ⟨?_, by omega, ?_, by omega⟩
  · rw [wrap_id (by omega) (by omega)]; omega
  · simp
theorem implWithin_val (a b c : Int) (N : Nat) : impl_within.f N [.sc (.int .i64 a), .sc (.int .i64 b), .sc (.int .i64 c)] = some [boolP (decide (b ≤ a ∧ a ≤ c))] := by
  simp only [impl_within.f_eq, strs_len, strs_elem, ints_len, ints_elem, items_list, fld_agg, elem_list, toStr_sc, toInt_sc, toBool_sc, headD_one, nat_int, get_bt, decide_eq_true_eq, decide_eq_false_iff_not, decide_true, decide_false, if_true, if_false, ite_self, Bool.not_true, Bool.not_false, Bool.false_eq_true, Bool.true_eq_false, Bool.true_and, Bool.false_and, Bool.and_true, Bool.and_false, not_true, not_false_iff, Option.bind_some, nn, toList_inj, Bool.not_eq_true', Bool.not_eq_false', Int.le_refl, and_self, true_and, and_true, false_and, and_false, bne_self_eq_false, beq_self_eq_true, Int.reduceEq, Nat.reduceEqDiff, List.length_singleton, List.tail_cons, Int.reduceLE, Int.reduceLT, decide_eq_true_eq]
  by_cases h1 : b ≤ a <;> by_cases h2 : a ≤ c <;> simp only [h1, h2, strs_len, strs_elem, ints_len, ints_elem, items_list, fld_agg, elem_list, toStr_sc, toInt_sc, toBool_sc, headD_one, nat_int, get_bt, decide_eq_true_eq, decide_eq_false_iff_not, decide_true, decide_false, if_true, if_false, ite_self, Bool.not_true, Bool.not_false, Bool.false_eq_true, Bool.true_eq_false, Bool.true_and, Bool.false_and, Bool.and_true, Bool.and_false, not_true, not_false_iff, Option.bind_some, nn, toList_inj, Bool.not_eq_true', Bool.not_eq_false', Int.le_refl, and_self, true_and, and_true, false_and, and_false, bne_self_eq_false, beq_self_eq_true, Int.reduceEq, Nat.reduceEqDiff, List.length_singleton, List.tail_cons, Int.reduceLE, Int.reduceLT, decide_eq_true_eq]
theorem implLower_loop (s : ByteArray) (hs : s.size ≤ 9223372036854775807) : ∀ rest pre : List Int, bytesOf s = pre ++ rest → Ev2 (fun N n => impl_lower.l0 N n s (s.size : Int) (pre.length : Int)) [boolP (lowB rest)] := by
  intro rest
  induction rest with
  | nil =>
    intro pre hp
    refine Ev2.succ ?_
    simp only [impl_lower.l0_eq, at_sizeE hp, strs_len, strs_elem, ints_len, ints_elem, items_list, fld_agg, elem_list, toStr_sc, toInt_sc, toBool_sc, headD_one, nat_int, get_bt, decide_eq_true_eq, decide_eq_false_iff_not, decide_true, decide_false, if_true, if_false, ite_self, Bool.not_true, Bool.not_false, Bool.false_eq_true, Bool.true_eq_false, Bool.true_and, Bool.false_and, Bool.and_true, Bool.and_false, not_true, not_false_iff, Option.bind_some, nn, toList_inj, Bool.not_eq_true', Bool.not_eq_false', Int.le_refl, and_self, true_and, and_true, false_and, and_false, bne_self_eq_false, beq_self_eq_true, Int.reduceEq, Nat.reduceEqDiff, List.length_singleton, List.tail_cons, Int.reduceLE, Int.reduceLT, decide_eq_true_eq]
    exact Ev2.now _
  | cons c rest ih =>
    intro pre hp
    refine Ev2.succ ?_
    simp only [impl_lower.l0_eq, strs_len, strs_elem, ints_len, ints_elem, items_list, fld_agg, elem_list, toStr_sc, toInt_sc, toBool_sc, headD_one, nat_int, get_bt, decide_eq_true_eq, decide_eq_false_iff_not, decide_true, decide_false, if_true, if_false, ite_self, Bool.not_true, Bool.not_false, Bool.false_eq_true, Bool.true_eq_false, Bool.true_and, Bool.false_and, Bool.and_true, Bool.and_false, not_true, not_false_iff, Option.bind_some, nn, toList_inj, Bool.not_eq_true', Bool.not_eq_false', Int.le_refl, and_self, true_and, and_true, false_and, and_false, bne_self_eq_false, beq_self_eq_true, Int.reduceEq, Nat.reduceEqDiff, List.length_singleton, List.tail_cons, Int.reduceLE, Int.reduceLT, decide_eq_true_eq, at_size hp, at_bt hp, at_next hp (by rw [bytesOf_len]; omega)]
    rw [lowB_cons]
    by_cases h1 : c < 97
    · simp only [h1, eq_false (show ¬ (97 ≤ c ∧ c ≤ 122) by omega), strs_len, strs_elem, ints_len, ints_elem, items_list, fld_agg, elem_list, toStr_sc, toInt_sc, toBool_sc, headD_one, nat_int, get_bt, decide_eq_true_eq, decide_eq_false_iff_not, decide_true, decide_false, if_true, if_false, ite_self, Bool.not_true, Bool.not_false, Bool.false_eq_true, Bool.true_eq_false, Bool.true_and, Bool.false_and, Bool.and_true, Bool.and_false, not_true, not_false_iff, Option.bind_some, nn, toList_inj, Bool.not_eq_true', Bool.not_eq_false', Int.le_refl, and_self, true_and, and_true, false_and, and_false, bne_self_eq_false, beq_self_eq_true, Int.reduceEq, Nat.reduceEqDiff, List.length_singleton, List.tail_cons, Int.reduceLE, Int.reduceLT, decide_eq_true_eq]; exact Ev2.now _
    by_cases h2 : 122 < c
    · simp only [h1, h2, eq_false (show ¬ (97 ≤ c ∧ c ≤ 122) by omega), strs_len, strs_elem, ints_len, ints_elem, items_list, fld_agg, elem_list, toStr_sc, toInt_sc, toBool_sc, headD_one, nat_int, get_bt, decide_eq_true_eq, decide_eq_false_iff_not, decide_true, decide_false, if_true, if_false, ite_self, Bool.not_true, Bool.not_false, Bool.false_eq_true, Bool.true_eq_false, Bool.true_and, Bool.false_and, Bool.and_true, Bool.and_false, not_true, not_false_iff, Option.bind_some, nn, toList_inj, Bool.not_eq_true', Bool.not_eq_false', Int.le_refl, and_self, true_and, and_true, false_and, and_false, bne_self_eq_false, beq_self_eq_true, Int.reduceEq, Nat.reduceEqDiff, List.length_singleton, List.tail_cons, Int.reduceLE, Int.reduceLT, decide_eq_true_eq]; exact Ev2.now _
    simp only [h1, h2, eq_true (show (97 ≤ c ∧ c ≤ 122) by omega), strs_len, strs_elem, ints_len, ints_elem, items_list, fld_agg, elem_list, toStr_sc, toInt_sc, toBool_sc, headD_one, nat_int, get_bt, decide_eq_true_eq, decide_eq_false_iff_not, decide_true, decide_false, if_true, if_false, ite_self, Bool.not_true, Bool.not_false, Bool.false_eq_true, Bool.true_eq_false, Bool.true_and, Bool.false_and, Bool.and_true, Bool.and_false, not_true, not_false_iff, Option.bind_some, nn, toList_inj, Bool.not_eq_true', Bool.not_eq_false', Int.le_refl, and_self, true_and, and_true, false_and, and_false, bne_self_eq_false, beq_self_eq_true, Int.reduceEq, Nat.reduceEqDiff, List.length_singleton, List.tail_cons, Int.reduceLE, Int.reduceLT, decide_eq_true_eq]
    exact ih _ (at_step hp)
theorem implLower_ev (s : ByteArray) (hs : s.size ≤ 9223372036854775807) : Ev (fun N => impl_lower.f N [strP s]) [boolP (lowB (bytesOf s))] := by
  simp only [impl_lower.f_eq, strs_len, strs_elem, ints_len, ints_elem, items_list, fld_agg, elem_list, toStr_sc, toInt_sc, toBool_sc, headD_one, nat_int, get_bt, decide_eq_true_eq, decide_eq_false_iff_not, decide_true, decide_false, if_true, if_false, ite_self, Bool.not_true, Bool.not_false, Bool.false_eq_true, Bool.true_eq_false, Bool.true_and, Bool.false_and, Bool.and_true, Bool.and_false, not_true, not_false_iff, Option.bind_some, nn, toList_inj, Bool.not_eq_true', Bool.not_eq_false', Int.le_refl, and_self, true_and, and_true, false_and, and_false, bne_self_eq_false, beq_self_eq_true, Int.reduceEq, Nat.reduceEqDiff, List.length_singleton, List.tail_cons, Int.reduceLE, Int.reduceLT, decide_eq_true_eq]
  exact (implLower_loop s hs (bytesOf s) [] rfl).diag
theorem implWord_ev (s : ByteArray) (hs : s.size ≤ 9223372036854775807) : Ev (fun N => impl_WordOk.f N [strP s]) [boolP (isWord s)] := by
  simp only [impl_WordOk.f_eq, implWithin_val, strs_len, strs_elem, ints_len, ints_elem, items_list, fld_agg, elem_list, toStr_sc, toInt_sc, toBool_sc, headD_one, nat_int, get_bt, decide_eq_true_eq, decide_eq_false_iff_not, decide_true, decide_false, if_true, if_false, ite_self, Bool.not_true, Bool.not_false, Bool.false_eq_true, Bool.true_eq_false, Bool.true_and, Bool.false_and, Bool.and_true, Bool.and_false, not_true, not_false_iff, Option.bind_some, nn, toList_inj, Bool.not_eq_true', Bool.not_eq_false', Int.le_refl, and_self, true_and, and_true, false_and, and_false, bne_self_eq_false, beq_self_eq_true, Int.reduceEq, Nat.reduceEqDiff, List.length_singleton, List.tail_cons, Int.reduceLE, Int.reduceLT, decide_eq_true_eq]
  by_cases h : 1 ≤ s.size ∧ s.size ≤ 12
  · simp only [eq_true (show (1 : Int) ≤ s.size ∧ (s.size : Int) ≤ 12 by omega), strs_len, strs_elem, ints_len, ints_elem, items_list, fld_agg, elem_list, toStr_sc, toInt_sc, toBool_sc, headD_one, nat_int, get_bt, decide_eq_true_eq, decide_eq_false_iff_not, decide_true, decide_false, if_true, if_false, ite_self, Bool.not_true, Bool.not_false, Bool.false_eq_true, Bool.true_eq_false, Bool.true_and, Bool.false_and, Bool.and_true, Bool.and_false, not_true, not_false_iff, Option.bind_some, nn, toList_inj, Bool.not_eq_true', Bool.not_eq_false', Int.le_refl, and_self, true_and, and_true, false_and, and_false, bne_self_eq_false, beq_self_eq_true, Int.reduceEq, Nat.reduceEqDiff, List.length_singleton, List.tail_cons, Int.reduceLE, Int.reduceLT, decide_eq_true_eq]
    refine Ev.bind (implLower_ev s hs) ?_
    refine Ev.ext (Ev.now _) ?_
    unfold isWord
    rw [decide_eq_true h, Bool.true_and]
    rfl
  · simp only [eq_false (show ¬ ((1 : Int) ≤ s.size ∧ (s.size : Int) ≤ 12) by omega), strs_len, strs_elem, ints_len, ints_elem, items_list, fld_agg, elem_list, toStr_sc, toInt_sc, toBool_sc, headD_one, nat_int, get_bt, decide_eq_true_eq, decide_eq_false_iff_not, decide_true, decide_false, if_true, if_false, ite_self, Bool.not_true, Bool.not_false, Bool.false_eq_true, Bool.true_eq_false, Bool.true_and, Bool.false_and, Bool.and_true, Bool.and_false, not_true, not_false_iff, Option.bind_some, nn, toList_inj, Bool.not_eq_true', Bool.not_eq_false', Int.le_refl, and_self, true_and, and_true, false_and, and_false, bne_self_eq_false, beq_self_eq_true, Int.reduceEq, Nat.reduceEqDiff, List.length_singleton, List.tail_cons, Int.reduceLE, Int.reduceLT, decide_eq_true_eq]
    refine Ev.ext (Ev.now _) ?_
    unfold isWord
    rw [decide_eq_false h, Bool.false_and]
theorem specLetters_loop (s : ByteArray) (hs : s.size ≤ 9223372036854775807) (m : Int) : ∀ rest pre : List Int, bytesOf s = pre ++ rest → Ev2 (fun N n => spec_l1Letters.l0 N n s m (pre.length : Int)) [boolP (lowB rest && decide ((s.size : Int) ≤ m))] := by
  intro rest
  induction rest with
  | nil =>
    intro pre hp
    refine Ev2.succ ?_
    simp only [spec_l1Letters.l0_eq, at_sizeE hp, lowB, List.all_nil, strs_len, strs_elem, ints_len, ints_elem, items_list, fld_agg, elem_list, toStr_sc, toInt_sc, toBool_sc, headD_one, nat_int, get_bt, decide_eq_true_eq, decide_eq_false_iff_not, decide_true, decide_false, if_true, if_false, ite_self, Bool.not_true, Bool.not_false, Bool.false_eq_true, Bool.true_eq_false, Bool.true_and, Bool.false_and, Bool.and_true, Bool.and_false, not_true, not_false_iff, Option.bind_some, nn, toList_inj, Bool.not_eq_true', Bool.not_eq_false', Int.le_refl, and_self, true_and, and_true, false_and, and_false, bne_self_eq_false, beq_self_eq_true, Int.reduceEq, Nat.reduceEqDiff, List.length_singleton, List.tail_cons, Int.reduceLE, Int.reduceLT, decide_eq_true_eq]
    exact Ev2.now _
  | cons c rest ih =>
    intro pre hp
    refine Ev2.succ ?_
    simp only [spec_l1Letters.l0_eq, strs_len, strs_elem, ints_len, ints_elem, items_list, fld_agg, elem_list, toStr_sc, toInt_sc, toBool_sc, headD_one, nat_int, get_bt, decide_eq_true_eq, decide_eq_false_iff_not, decide_true, decide_false, if_true, if_false, ite_self, Bool.not_true, Bool.not_false, Bool.false_eq_true, Bool.true_eq_false, Bool.true_and, Bool.false_and, Bool.and_true, Bool.and_false, not_true, not_false_iff, Option.bind_some, nn, toList_inj, Bool.not_eq_true', Bool.not_eq_false', Int.le_refl, and_self, true_and, and_true, false_and, and_false, bne_self_eq_false, beq_self_eq_true, Int.reduceEq, Nat.reduceEqDiff, List.length_singleton, List.tail_cons, Int.reduceLE, Int.reduceLT, decide_eq_true_eq, at_size hp, at_bt hp, at_next hp (by rw [bytesOf_len]; omega)]
    rw [lowB_cons]
    by_cases h1 : c < 97
    · simp only [h1, eq_false (show ¬ (97 ≤ c ∧ c ≤ 122) by omega), strs_len, strs_elem, ints_len, ints_elem, items_list, fld_agg, elem_list, toStr_sc, toInt_sc, toBool_sc, headD_one, nat_int, get_bt, decide_eq_true_eq, decide_eq_false_iff_not, decide_true, decide_false, if_true, if_false, ite_self, Bool.not_true, Bool.not_false, Bool.false_eq_true, Bool.true_eq_false, Bool.true_and, Bool.false_and, Bool.and_true, Bool.and_false, not_true, not_false_iff, Option.bind_some, nn, toList_inj, Bool.not_eq_true', Bool.not_eq_false', Int.le_refl, and_self, true_and, and_true, false_and, and_false, bne_self_eq_false, beq_self_eq_true, Int.reduceEq, Nat.reduceEqDiff, List.length_singleton, List.tail_cons, Int.reduceLE, Int.reduceLT, decide_eq_true_eq]; exact Ev2.now _
    by_cases h2 : 122 < c
    · simp only [h1, h2, eq_false (show ¬ (97 ≤ c ∧ c ≤ 122) by omega), strs_len, strs_elem, ints_len, ints_elem, items_list, fld_agg, elem_list, toStr_sc, toInt_sc, toBool_sc, headD_one, nat_int, get_bt, decide_eq_true_eq, decide_eq_false_iff_not, decide_true, decide_false, if_true, if_false, ite_self, Bool.not_true, Bool.not_false, Bool.false_eq_true, Bool.true_eq_false, Bool.true_and, Bool.false_and, Bool.and_true, Bool.and_false, not_true, not_false_iff, Option.bind_some, nn, toList_inj, Bool.not_eq_true', Bool.not_eq_false', Int.le_refl, and_self, true_and, and_true, false_and, and_false, bne_self_eq_false, beq_self_eq_true, Int.reduceEq, Nat.reduceEqDiff, List.length_singleton, List.tail_cons, Int.reduceLE, Int.reduceLT, decide_eq_true_eq]; exact Ev2.now _
    simp only [h1, h2, eq_true (show (97 ≤ c ∧ c ≤ 122) by omega), strs_len, strs_elem, ints_len, ints_elem, items_list, fld_agg, elem_list, toStr_sc, toInt_sc, toBool_sc, headD_one, nat_int, get_bt, decide_eq_true_eq, decide_eq_false_iff_not, decide_true, decide_false, if_true, if_false, ite_self, Bool.not_true, Bool.not_false, Bool.false_eq_true, Bool.true_eq_false, Bool.true_and, Bool.false_and, Bool.and_true, Bool.and_false, not_true, not_false_iff, Option.bind_some, nn, toList_inj, Bool.not_eq_true', Bool.not_eq_false', Int.le_refl, and_self, true_and, and_true, false_and, and_false, bne_self_eq_false, beq_self_eq_true, Int.reduceEq, Nat.reduceEqDiff, List.length_singleton, List.tail_cons, Int.reduceLE, Int.reduceLT, decide_eq_true_eq]
    exact ih _ (at_step hp)
theorem specLetters_ev (s : ByteArray) (hs : s.size ≤ 9223372036854775807) (m : Int) : Ev (fun N => spec_l1Letters.f N [strP s, intP m]) [boolP (lowB (bytesOf s) && decide ((s.size : Int) ≤ m))] := by
  simp only [spec_l1Letters.f_eq, strs_len, strs_elem, ints_len, ints_elem, items_list, fld_agg, elem_list, toStr_sc, toInt_sc, toBool_sc, headD_one, nat_int, get_bt, decide_eq_true_eq, decide_eq_false_iff_not, decide_true, decide_false, if_true, if_false, ite_self, Bool.not_true, Bool.not_false, Bool.false_eq_true, Bool.true_eq_false, Bool.true_and, Bool.false_and, Bool.and_true, Bool.and_false, not_true, not_false_iff, Option.bind_some, nn, toList_inj, Bool.not_eq_true', Bool.not_eq_false', Int.le_refl, and_self, true_and, and_true, false_and, and_false, bne_self_eq_false, beq_self_eq_true, Int.reduceEq, Nat.reduceEqDiff, List.length_singleton, List.tail_cons, Int.reduceLE, Int.reduceLT, decide_eq_true_eq]
  exact (specLetters_loop s hs m (bytesOf s) [] rfl).diag
theorem specWord_ev (s : ByteArray) (hs : s.size ≤ 9223372036854775807) : Ev (fun N => spec_l1Word.f N [strP s]) [boolP (isWord s)] := by
  simp only [spec_l1Word.f_eq, strs_len, strs_elem, ints_len, ints_elem, items_list, fld_agg, elem_list, toStr_sc, toInt_sc, toBool_sc, headD_one, nat_int, get_bt, decide_eq_true_eq, decide_eq_false_iff_not, decide_true, decide_false, if_true, if_false, ite_self, Bool.not_true, Bool.not_false, Bool.false_eq_true, Bool.true_eq_false, Bool.true_and, Bool.false_and, Bool.and_true, Bool.and_false, not_true, not_false_iff, Option.bind_some, nn, toList_inj, Bool.not_eq_true', Bool.not_eq_false', Int.le_refl, and_self, true_and, and_true, false_and, and_false, bne_self_eq_false, beq_self_eq_true, Int.reduceEq, Nat.reduceEqDiff, List.length_singleton, List.tail_cons, Int.reduceLE, Int.reduceLT, decide_eq_true_eq]
  by_cases h : (0 : Int) < (s.size : Int)
  · simp only [h, strs_len, strs_elem, ints_len, ints_elem, items_list, fld_agg, elem_list, toStr_sc, toInt_sc, toBool_sc, headD_one, nat_int, get_bt, decide_eq_true_eq, decide_eq_false_iff_not, decide_true, decide_false, if_true, if_false, ite_self, Bool.not_true, Bool.not_false, Bool.false_eq_true, Bool.true_eq_false, Bool.true_and, Bool.false_and, Bool.and_true, Bool.and_false, not_true, not_false_iff, Option.bind_some, nn, toList_inj, Bool.not_eq_true', Bool.not_eq_false', Int.le_refl, and_self, true_and, and_true, false_and, and_false, bne_self_eq_false, beq_self_eq_true, Int.reduceEq, Nat.reduceEqDiff, List.length_singleton, List.tail_cons, Int.reduceLE, Int.reduceLT, decide_eq_true_eq]
    refine Ev.bind (specLetters_ev s hs 12) ?_
    refine Ev.ext (Ev.now _) ?_
    simp only [strs_len, strs_elem, ints_len, ints_elem, items_list, fld_agg, elem_list, toStr_sc, toInt_sc, toBool_sc, headD_one, nat_int, get_bt, decide_eq_true_eq, decide_eq_false_iff_not, decide_true, decide_false, if_true, if_false, ite_self, Bool.not_true, Bool.not_false, Bool.false_eq_true, Bool.true_eq_false, Bool.true_and, Bool.false_and, Bool.and_true, Bool.and_false, not_true, not_false_iff, Option.bind_some, nn, toList_inj, Bool.not_eq_true', Bool.not_eq_false', Int.le_refl, and_self, true_and, and_true, false_and, and_false, bne_self_eq_false, beq_self_eq_true, Int.reduceEq, Nat.reduceEqDiff, List.length_singleton, List.tail_cons, Int.reduceLE, Int.reduceLT, decide_eq_true_eq]
    unfold isWord
    rw [Bool.and_comm]
    show [boolP (_ && lowB _)] = [boolP (decide _ && lowB _)]
    have : decide ((s.size : Int) ≤ 12) = decide (1 ≤ s.size ∧ s.size ≤ 12) := decide_eq_decide.2 (by omega)
    rw [this]
  · simp only [h, strs_len, strs_elem, ints_len, ints_elem, items_list, fld_agg, elem_list, toStr_sc, toInt_sc, toBool_sc, headD_one, nat_int, get_bt, decide_eq_true_eq, decide_eq_false_iff_not, decide_true, decide_false, if_true, if_false, ite_self, Bool.not_true, Bool.not_false, Bool.false_eq_true, Bool.true_eq_false, Bool.true_and, Bool.false_and, Bool.and_true, Bool.and_false, not_true, not_false_iff, Option.bind_some, nn, toList_inj, Bool.not_eq_true', Bool.not_eq_false', Int.le_refl, and_self, true_and, and_true, false_and, and_false, bne_self_eq_false, beq_self_eq_true, Int.reduceEq, Nat.reduceEqDiff, List.length_singleton, List.tail_cons, Int.reduceLE, Int.reduceLT, decide_eq_true_eq]
    refine Ev.ext (Ev.now _) ?_
    unfold isWord
    rw [decide_eq_false (show ¬ (1 ≤ s.size ∧ s.size ≤ 12) by omega), Bool.false_and]
theorem implWords_loop (a : List ByteArray) (m : Int) (ha : a.length ≤ 9223372036854775807) (hs : ∀ s ∈ a, s.size ≤ 9223372036854775807) : ∀ (rest pre : List ByteArray) (p : Option ByteArray), a = pre ++ rest → Ahead pre p →
    Ev2 (fun N n => impl_wordsOk.l0 N n (strsP a) m (strsP a) (a.length : Int) (pre.length : Int)) [boolP (ascW p rest && decide ((a.length : Int) ≤ m))] := by
  intro rest
  induction rest with
  | nil =>
    intro pre p hp _
    refine Ev2.succ ?_
    simp only [impl_wordsOk.l0_eq, strs_len, strs_elem, ints_len, ints_elem, items_list, fld_agg, elem_list, toStr_sc, toInt_sc, toBool_sc, headD_one, nat_int, get_bt, decide_eq_true_eq, decide_eq_false_iff_not, decide_true, decide_false, if_true, if_false, ite_self, Bool.not_true, Bool.not_false, Bool.false_eq_true, Bool.true_eq_false, Bool.true_and, Bool.false_and, Bool.and_true, Bool.and_false, not_true, not_false_iff, Option.bind_some, nn, toList_inj, Bool.not_eq_true', Bool.not_eq_false', Int.le_refl, and_self, true_and, and_true, false_and, and_false, bne_self_eq_false, beq_self_eq_true, Int.reduceEq, Nat.reduceEqDiff, List.length_singleton, List.tail_cons, Int.reduceLE, Int.reduceLT, decide_eq_true_eq, at_end hp, ascW]
    exact Ev2.now _
  | cons c rest ih =>
    intro pre p hp hA
    have hc : c.size ≤ 9223372036854775807 := hs c (by rw [hp]; simp)
    refine Ev2.succ ?_
    simp only [impl_wordsOk.l0_eq, strs_len, strs_elem, ints_len, ints_elem, items_list, fld_agg, elem_list, toStr_sc, toInt_sc, toBool_sc, headD_one, nat_int, get_bt, decide_eq_true_eq, decide_eq_false_iff_not, decide_true, decide_false, if_true, if_false, ite_self, Bool.not_true, Bool.not_false, Bool.false_eq_true, Bool.true_eq_false, Bool.true_and, Bool.false_and, Bool.and_true, Bool.and_false, not_true, not_false_iff, Option.bind_some, nn, toList_inj, Bool.not_eq_true', Bool.not_eq_false', Int.le_refl, and_self, true_and, and_true, false_and, and_false, bne_self_eq_false, beq_self_eq_true, Int.reduceEq, Nat.reduceEqDiff, List.length_singleton, List.tail_cons, Int.reduceLE, Int.reduceLT, decide_eq_true_eq, at_lt hp, at_getD hp, at_next hp ha]
    refine Ev2.bind (implWord_ev c hc) ?_
    have hnext := ih (pre ++ [c]) (some c) (at_step hp) (Ahead.next pre c)
    simp only [strs_len, strs_elem, ints_len, ints_elem, items_list, fld_agg, elem_list, toStr_sc, toInt_sc, toBool_sc, headD_one, nat_int, get_bt, decide_eq_true_eq, decide_eq_false_iff_not, decide_true, decide_false, if_true, if_false, ite_self, Bool.not_true, Bool.not_false, Bool.false_eq_true, Bool.true_eq_false, Bool.true_and, Bool.false_and, Bool.and_true, Bool.and_false, not_true, not_false_iff, Option.bind_some, nn, toList_inj, Bool.not_eq_true', Bool.not_eq_false', Int.le_refl, and_self, true_and, and_true, false_and, and_false, bne_self_eq_false, beq_self_eq_true, Int.reduceEq, Nat.reduceEqDiff, List.length_singleton, List.tail_cons, Int.reduceLE, Int.reduceLT, decide_eq_true_eq]
    rcases hA with ⟨rfl, rfl⟩ | ⟨pre', q, rfl, rfl⟩
    · rw [ascW]
      cases hw : isWord c with
      | false => simp only [strs_len, strs_elem, ints_len, ints_elem, items_list, fld_agg, elem_list, toStr_sc, toInt_sc, toBool_sc, headD_one, nat_int, get_bt, decide_eq_true_eq, decide_eq_false_iff_not, decide_true, decide_false, if_true, if_false, ite_self, Bool.not_true, Bool.not_false, Bool.false_eq_true, Bool.true_eq_false, Bool.true_and, Bool.false_and, Bool.and_true, Bool.and_false, not_true, not_false_iff, Option.bind_some, nn, toList_inj, Bool.not_eq_true', Bool.not_eq_false', Int.le_refl, and_self, true_and, and_true, false_and, and_false, bne_self_eq_false, beq_self_eq_true, Int.reduceEq, Nat.reduceEqDiff, List.length_singleton, List.tail_cons, Int.reduceLE, Int.reduceLT, decide_eq_true_eq]; exact Ev2.now _
      | true =>
        simp only [List.length_nil, Int.natCast_zero, Int.lt_irrefl, strs_len, strs_elem, ints_len, ints_elem, items_list, fld_agg, elem_list, toStr_sc, toInt_sc, toBool_sc, headD_one, nat_int, get_bt, decide_eq_true_eq, decide_eq_false_iff_not, decide_true, decide_false, if_true, if_false, ite_self, Bool.not_true, Bool.not_false, Bool.false_eq_true, Bool.true_eq_false, Bool.true_and, Bool.false_and, Bool.and_true, Bool.and_false, not_true, not_false_iff, Option.bind_some, nn, toList_inj, Bool.not_eq_true', Bool.not_eq_false', Int.le_refl, and_self, true_and, and_true, false_and, and_false, bne_self_eq_false, beq_self_eq_true, Int.reduceEq, Nat.reduceEqDiff, List.length_singleton, List.tail_cons, Int.reduceLE, Int.reduceLT, decide_eq_true_eq]
        exact hnext
    · obtain ⟨h1, h2, h3, h4⟩ := at_prev hp ha
      rw [ascW]
      cases hw : isWord c with
      | false => simp only [strs_len, strs_elem, ints_len, ints_elem, items_list, fld_agg, elem_list, toStr_sc, toInt_sc, toBool_sc, headD_one, nat_int, get_bt, decide_eq_true_eq, decide_eq_false_iff_not, decide_true, decide_false, if_true, if_false, ite_self, Bool.not_true, Bool.not_false, Bool.false_eq_true, Bool.true_eq_false, Bool.true_and, Bool.false_and, Bool.and_true, Bool.and_false, not_true, not_false_iff, Option.bind_some, nn, toList_inj, Bool.not_eq_true', Bool.not_eq_false', Int.le_refl, and_self, true_and, and_true, false_and, and_false, bne_self_eq_false, beq_self_eq_true, Int.reduceEq, Nat.reduceEqDiff, List.length_singleton, List.tail_cons, Int.reduceLE, Int.reduceLT, decide_eq_true_eq]; exact Ev2.now _
      | true =>
        simp only [h4, h1, h2, h3, bLess_eq, strs_len, strs_elem, ints_len, ints_elem, items_list, fld_agg, elem_list, toStr_sc, toInt_sc, toBool_sc, headD_one, nat_int, get_bt, decide_eq_true_eq, decide_eq_false_iff_not, decide_true, decide_false, if_true, if_false, ite_self, Bool.not_true, Bool.not_false, Bool.false_eq_true, Bool.true_eq_false, Bool.true_and, Bool.false_and, Bool.and_true, Bool.and_false, not_true, not_false_iff, Option.bind_some, nn, toList_inj, Bool.not_eq_true', Bool.not_eq_false', Int.le_refl, and_self, true_and, and_true, false_and, and_false, bne_self_eq_false, beq_self_eq_true, Int.reduceEq, Nat.reduceEqDiff, List.length_singleton, List.tail_cons, Int.reduceLE, Int.reduceLT, decide_eq_true_eq]
        cases hb : bLess q c with
        | false => simp only [strs_len, strs_elem, ints_len, ints_elem, items_list, fld_agg, elem_list, toStr_sc, toInt_sc, toBool_sc, headD_one, nat_int, get_bt, decide_eq_true_eq, decide_eq_false_iff_not, decide_true, decide_false, if_true, if_false, ite_self, Bool.not_true, Bool.not_false, Bool.false_eq_true, Bool.true_eq_false, Bool.true_and, Bool.false_and, Bool.and_true, Bool.and_false, not_true, not_false_iff, Option.bind_some, nn, toList_inj, Bool.not_eq_true', Bool.not_eq_false', Int.le_refl, and_self, true_and, and_true, false_and, and_false, bne_self_eq_false, beq_self_eq_true, Int.reduceEq, Nat.reduceEqDiff, List.length_singleton, List.tail_cons, Int.reduceLE, Int.reduceLT, decide_eq_true_eq]; exact Ev2.now _
        | true => simp only [strs_len, strs_elem, ints_len, ints_elem, items_list, fld_agg, elem_list, toStr_sc, toInt_sc, toBool_sc, headD_one, nat_int, get_bt, decide_eq_true_eq, decide_eq_false_iff_not, decide_true, decide_false, if_true, if_false, ite_self, Bool.not_true, Bool.not_false, Bool.false_eq_true, Bool.true_eq_false, Bool.true_and, Bool.false_and, Bool.and_true, Bool.and_false, not_true, not_false_iff, Option.bind_some, nn, toList_inj, Bool.not_eq_true', Bool.not_eq_false', Int.le_refl, and_self, true_and, and_true, false_and, and_false, bne_self_eq_false, beq_self_eq_true, Int.reduceEq, Nat.reduceEqDiff, List.length_singleton, List.tail_cons, Int.reduceLE, Int.reduceLT, decide_eq_true_eq]; exact hnext
theorem implWords_ev (a : List ByteArray) (m : Int) (ha : a.length ≤ 9223372036854775807) (hs : ∀ s ∈ a, s.size ≤ 9223372036854775807) : Ev (fun N => impl_wordsOk.f N [strsP a, intP m]) [boolP (wordsM a m)] := by
  simp only [impl_wordsOk.f_eq, strs_len, strs_elem, ints_len, ints_elem, items_list, fld_agg, elem_list, toStr_sc, toInt_sc, toBool_sc, headD_one, nat_int, get_bt, decide_eq_true_eq, decide_eq_false_iff_not, decide_true, decide_false, if_true, if_false, ite_self, Bool.not_true, Bool.not_false, Bool.false_eq_true, Bool.true_eq_false, Bool.true_and, Bool.false_and, Bool.and_true, Bool.and_false, not_true, not_false_iff, Option.bind_some, nn, toList_inj, Bool.not_eq_true', Bool.not_eq_false', Int.le_refl, and_self, true_and, and_true, false_and, and_false, bne_self_eq_false, beq_self_eq_true, Int.reduceEq, Nat.reduceEqDiff, List.length_singleton, List.tail_cons, Int.reduceLE, Int.reduceLT, decide_eq_true_eq]
  exact (implWords_loop a m ha hs a [] none rfl (.inl ⟨rfl, rfl⟩)).diag
theorem specWords_loop (a : List ByteArray) (ha : a.length ≤ 9223372036854775807) (hs : ∀ s ∈ a, s.size ≤ 9223372036854775807) : ∀ (rest pre : List ByteArray) (p : Option ByteArray), a = pre ++ rest → Ahead pre p →
    Ev2 (fun N n => spec_l3Words.l0 N n (strsP a) (pre.length : Int)) [boolP (ascW p rest && decide ((a.length : Int) ≤ 300))] := by
  intro rest
  induction rest with
  | nil =>
    intro pre p hp _
    refine Ev2.succ ?_
    simp only [spec_l3Words.l0_eq, strs_len, strs_elem, ints_len, ints_elem, items_list, fld_agg, elem_list, toStr_sc, toInt_sc, toBool_sc, headD_one, nat_int, get_bt, decide_eq_true_eq, decide_eq_false_iff_not, decide_true, decide_false, if_true, if_false, ite_self, Bool.not_true, Bool.not_false, Bool.false_eq_true, Bool.true_eq_false, Bool.true_and, Bool.false_and, Bool.and_true, Bool.and_false, not_true, not_false_iff, Option.bind_some, nn, toList_inj, Bool.not_eq_true', Bool.not_eq_false', Int.le_refl, and_self, true_and, and_true, false_and, and_false, bne_self_eq_false, beq_self_eq_true, Int.reduceEq, Nat.reduceEqDiff, List.length_singleton, List.tail_cons, Int.reduceLE, Int.reduceLT, decide_eq_true_eq, at_end hp, ascW]
    exact Ev2.now _
  | cons c rest ih =>
    intro pre p hp hA
    have hc : c.size ≤ 9223372036854775807 := hs c (by rw [hp]; simp)
    refine Ev2.succ ?_
    simp only [spec_l3Words.l0_eq, strs_len, strs_elem, ints_len, ints_elem, items_list, fld_agg, elem_list, toStr_sc, toInt_sc, toBool_sc, headD_one, nat_int, get_bt, decide_eq_true_eq, decide_eq_false_iff_not, decide_true, decide_false, if_true, if_false, ite_self, Bool.not_true, Bool.not_false, Bool.false_eq_true, Bool.true_eq_false, Bool.true_and, Bool.false_and, Bool.and_true, Bool.and_false, not_true, not_false_iff, Option.bind_some, nn, toList_inj, Bool.not_eq_true', Bool.not_eq_false', Int.le_refl, and_self, true_and, and_true, false_and, and_false, bne_self_eq_false, beq_self_eq_true, Int.reduceEq, Nat.reduceEqDiff, List.length_singleton, List.tail_cons, Int.reduceLE, Int.reduceLT, decide_eq_true_eq, at_lt hp, at_getD hp, at_next hp ha]
    refine Ev2.bind (specWord_ev c hc) ?_
    have hnext := ih (pre ++ [c]) (some c) (at_step hp) (Ahead.next pre c)
    simp only [strs_len, strs_elem, ints_len, ints_elem, items_list, fld_agg, elem_list, toStr_sc, toInt_sc, toBool_sc, headD_one, nat_int, get_bt, decide_eq_true_eq, decide_eq_false_iff_not, decide_true, decide_false, if_true, if_false, ite_self, Bool.not_true, Bool.not_false, Bool.false_eq_true, Bool.true_eq_false, Bool.true_and, Bool.false_and, Bool.and_true, Bool.and_false, not_true, not_false_iff, Option.bind_some, nn, toList_inj, Bool.not_eq_true', Bool.not_eq_false', Int.le_refl, and_self, true_and, and_true, false_and, and_false, bne_self_eq_false, beq_self_eq_true, Int.reduceEq, Nat.reduceEqDiff, List.length_singleton, List.tail_cons, Int.reduceLE, Int.reduceLT, decide_eq_true_eq]
    rcases hA with ⟨rfl, rfl⟩ | ⟨pre', q, rfl, rfl⟩
    · rw [ascW]
      cases hw : isWord c with
      | false => simp only [strs_len, strs_elem, ints_len, ints_elem, items_list, fld_agg, elem_list, toStr_sc, toInt_sc, toBool_sc, headD_one, nat_int, get_bt, decide_eq_true_eq, decide_eq_false_iff_not, decide_true, decide_false, if_true, if_false, ite_self, Bool.not_true, Bool.not_false, Bool.false_eq_true, Bool.true_eq_false, Bool.true_and, Bool.false_and, Bool.and_true, Bool.and_false, not_true, not_false_iff, Option.bind_some, nn, toList_inj, Bool.not_eq_true', Bool.not_eq_false', Int.le_refl, and_self, true_and, and_true, false_and, and_false, bne_self_eq_false, beq_self_eq_true, Int.reduceEq, Nat.reduceEqDiff, List.length_singleton, List.tail_cons, Int.reduceLE, Int.reduceLT, decide_eq_true_eq]; exact Ev2.now _
      | true =>
        simp only [List.length_nil, Int.natCast_zero, Int.lt_irrefl, strs_len, strs_elem, ints_len, ints_elem, items_list, fld_agg, elem_list, toStr_sc, toInt_sc, toBool_sc, headD_one, nat_int, get_bt, decide_eq_true_eq, decide_eq_false_iff_not, decide_true, decide_false, if_true, if_false, ite_self, Bool.not_true, Bool.not_false, Bool.false_eq_true, Bool.true_eq_false, Bool.true_and, Bool.false_and, Bool.and_true, Bool.and_false, not_true, not_false_iff, Option.bind_some, nn, toList_inj, Bool.not_eq_true', Bool.not_eq_false', Int.le_refl, and_self, true_and, and_true, false_and, and_false, bne_self_eq_false, beq_self_eq_true, Int.reduceEq, Nat.reduceEqDiff, List.length_singleton, List.tail_cons, Int.reduceLE, Int.reduceLT, decide_eq_true_eq]
        exact hnext
    · obtain ⟨h1, h2, h3, h4⟩ := at_prev hp ha
      rw [ascW]
      cases hw : isWord c with
      | false => simp only [strs_len, strs_elem, ints_len, ints_elem, items_list, fld_agg, elem_list, toStr_sc, toInt_sc, toBool_sc, headD_one, nat_int, get_bt, decide_eq_true_eq, decide_eq_false_iff_not, decide_true, decide_false, if_true, if_false, ite_self, Bool.not_true, Bool.not_false, Bool.false_eq_true, Bool.true_eq_false, Bool.true_and, Bool.false_and, Bool.and_true, Bool.and_false, not_true, not_false_iff, Option.bind_some, nn, toList_inj, Bool.not_eq_true', Bool.not_eq_false', Int.le_refl, and_self, true_and, and_true, false_and, and_false, bne_self_eq_false, beq_self_eq_true, Int.reduceEq, Nat.reduceEqDiff, List.length_singleton, List.tail_cons, Int.reduceLE, Int.reduceLT, decide_eq_true_eq]; exact Ev2.now _
      | true =>
        simp only [h4, h1, h2, h3, bLess_eq, strs_len, strs_elem, ints_len, ints_elem, items_list, fld_agg, elem_list, toStr_sc, toInt_sc, toBool_sc, headD_one, nat_int, get_bt, decide_eq_true_eq, decide_eq_false_iff_not, decide_true, decide_false, if_true, if_false, ite_self, Bool.not_true, Bool.not_false, Bool.false_eq_true, Bool.true_eq_false, Bool.true_and, Bool.false_and, Bool.and_true, Bool.and_false, not_true, not_false_iff, Option.bind_some, nn, toList_inj, Bool.not_eq_true', Bool.not_eq_false', Int.le_refl, and_self, true_and, and_true, false_and, and_false, bne_self_eq_false, beq_self_eq_true, Int.reduceEq, Nat.reduceEqDiff, List.length_singleton, List.tail_cons, Int.reduceLE, Int.reduceLT, decide_eq_true_eq]
        cases hb : bLess q c with
        | false => simp only [strs_len, strs_elem, ints_len, ints_elem, items_list, fld_agg, elem_list, toStr_sc, toInt_sc, toBool_sc, headD_one, nat_int, get_bt, decide_eq_true_eq, decide_eq_false_iff_not, decide_true, decide_false, if_true, if_false, ite_self, Bool.not_true, Bool.not_false, Bool.false_eq_true, Bool.true_eq_false, Bool.true_and, Bool.false_and, Bool.and_true, Bool.and_false, not_true, not_false_iff, Option.bind_some, nn, toList_inj, Bool.not_eq_true', Bool.not_eq_false', Int.le_refl, and_self, true_and, and_true, false_and, and_false, bne_self_eq_false, beq_self_eq_true, Int.reduceEq, Nat.reduceEqDiff, List.length_singleton, List.tail_cons, Int.reduceLE, Int.reduceLT, decide_eq_true_eq]; exact Ev2.now _
        | true => simp only [strs_len, strs_elem, ints_len, ints_elem, items_list, fld_agg, elem_list, toStr_sc, toInt_sc, toBool_sc, headD_one, nat_int, get_bt, decide_eq_true_eq, decide_eq_false_iff_not, decide_true, decide_false, if_true, if_false, ite_self, Bool.not_true, Bool.not_false, Bool.false_eq_true, Bool.true_eq_false, Bool.true_and, Bool.false_and, Bool.and_true, Bool.and_false, not_true, not_false_iff, Option.bind_some, nn, toList_inj, Bool.not_eq_true', Bool.not_eq_false', Int.le_refl, and_self, true_and, and_true, false_and, and_false, bne_self_eq_false, beq_self_eq_true, Int.reduceEq, Nat.reduceEqDiff, List.length_singleton, List.tail_cons, Int.reduceLE, Int.reduceLT, decide_eq_true_eq]; exact hnext
theorem specWords_ev (a : List ByteArray) (ha : a.length ≤ 9223372036854775807) (hs : ∀ s ∈ a, s.size ≤ 9223372036854775807) : Ev (fun N => spec_l3Words.f N [strsP a]) [boolP (wordsM a 300)] := by
  simp only [spec_l3Words.f_eq]
  exact (specWords_loop a ha hs a [] none rfl (.inl ⟨rfl, rfl⟩)).diag
/-! #### marks -/
theorem ten_zero : ((10 : Int) = 0) = False := by simp
theorem one_byte (p : PV) : (bytesOfL [p]).size = 1 := rfl
theorem markText_loop : ∀ (n : Nat) (x : Int) (t : ByteArray), x < (n : Int) → t.size + n ≤ 9223372036854775000 → ∃ r, Ev2 (fun N m => laws_markText.l0 N m x t) [strP r] := by
  intro n
  induction n with
  | zero =>
    intro x t hx ht
    refine ⟨(⟨#[109]⟩ : ByteArray) ++ t, Ev2.succ ?_⟩
    have hsz : (ByteArray.mk #[109]).size + t.size ≤ 9223372036854775807 := by have : (ByteArray.mk #[109]).size = 1 := rfl; omega
    simp only [laws_markText.l0_eq, eq_false (show ¬ 0 < x by omega), hsz, strs_len, strs_elem, ints_len, ints_elem, items_list, fld_agg, elem_list, toStr_sc, toInt_sc, toBool_sc, headD_one, nat_int, get_bt, decide_eq_true_eq, decide_eq_false_iff_not, decide_true, decide_false, if_true, if_false, ite_self, Bool.not_true, Bool.not_false, Bool.false_eq_true, Bool.true_eq_false, Bool.true_and, Bool.false_and, Bool.and_true, Bool.and_false, not_true, not_false_iff, Option.bind_some, nn, toList_inj, Bool.not_eq_true', Bool.not_eq_false', Int.le_refl, and_self, true_and, and_true, false_and, and_false, bne_self_eq_false, beq_self_eq_true, Int.reduceEq, Nat.reduceEqDiff, List.length_singleton, List.tail_cons, Int.reduceLE, Int.reduceLT, decide_eq_true_eq]
    exact Ev2.now _
  | succ n ih =>
    intro x t hx ht
    by_cases h0 : 0 < x
    · have hd : Int.tdiv x 10 < (n : Int) := by
        rw [Int.tdiv_eq_ediv_of_nonneg (by omega)]; omega
      have hdn : 0 ≤ Int.tdiv x 10 := by rw [Int.tdiv_eq_ediv_of_nonneg (by omega)]; omega
      have hw : IntKind.i64.wrap (Int.tdiv x 10) = Int.tdiv x 10 := wrap_id (by omega) (by omega)
      obtain ⟨r, hr⟩ := ih (Int.tdiv x 10) (bytesOfL [(PV.sc (.int .u8 (IntKind.u8.wrap (IntKind.i64.wrap (48 + (Int.tmod x 10))))))] ++ t) hd (by rw [ByteArray.size_append, one_byte]; omega)
      refine ⟨r, Ev2.succ ?_⟩
      have hsz : 1 + t.size ≤ 9223372036854775807 := by omega
      simp only [laws_markText.l0_eq, h0, ten_zero, one_byte, hsz, hw, strs_len, strs_elem, ints_len, ints_elem, items_list, fld_agg, elem_list, toStr_sc, toInt_sc, toBool_sc, headD_one, nat_int, get_bt, decide_eq_true_eq, decide_eq_false_iff_not, decide_true, decide_false, if_true, if_false, ite_self, Bool.not_true, Bool.not_false, Bool.false_eq_true, Bool.true_eq_false, Bool.true_and, Bool.false_and, Bool.and_true, Bool.and_false, not_true, not_false_iff, Option.bind_some, nn, toList_inj, Bool.not_eq_true', Bool.not_eq_false', Int.le_refl, and_self, true_and, and_true, false_and, and_false, bne_self_eq_false, beq_self_eq_true, Int.reduceEq, Nat.reduceEqDiff, List.length_singleton, List.tail_cons, Int.reduceLE, Int.reduceLT, decide_eq_true_eq]
      exact hr
    · refine ⟨(⟨#[109]⟩ : ByteArray) ++ t, Ev2.succ ?_⟩
      have hsz : (ByteArray.mk #[109]).size + t.size ≤ 9223372036854775807 := by have : (ByteArray.mk #[109]).size = 1 := rfl; omega
      simp only [laws_markText.l0_eq, h0, hsz, strs_len, strs_elem, ints_len, ints_elem, items_list, fld_agg, elem_list, toStr_sc, toInt_sc, toBool_sc, headD_one, nat_int, get_bt, decide_eq_true_eq, decide_eq_false_iff_not, decide_true, decide_false, if_true, if_false, ite_self, Bool.not_true, Bool.not_false, Bool.false_eq_true, Bool.true_eq_false, Bool.true_and, Bool.false_and, Bool.and_true, Bool.and_false, not_true, not_false_iff, Option.bind_some, nn, toList_inj, Bool.not_eq_true', Bool.not_eq_false', Int.le_refl, and_self, true_and, and_true, false_and, and_false, bne_self_eq_false, beq_self_eq_true, Int.reduceEq, Nat.reduceEqDiff, List.length_singleton, List.tail_cons, Int.reduceLE, Int.reduceLT, decide_eq_true_eq]
      exact Ev2.now _
theorem markText_total (x : Int) (hx : x < 4611686018427387904) : ∃ r, Ev (fun N => laws_markText.f N [intP x]) [strP r] := by
  by_cases h : x ≤ 0
  · refine ⟨(⟨#[109, 48]⟩ : ByteArray), ?_⟩
    simp only [laws_markText.f_eq, h, strs_len, strs_elem, ints_len, ints_elem, items_list, fld_agg, elem_list, toStr_sc, toInt_sc, toBool_sc, headD_one, nat_int, get_bt, decide_eq_true_eq, decide_eq_false_iff_not, decide_true, decide_false, if_true, if_false, ite_self, Bool.not_true, Bool.not_false, Bool.false_eq_true, Bool.true_eq_false, Bool.true_and, Bool.false_and, Bool.and_true, Bool.and_false, not_true, not_false_iff, Option.bind_some, nn, toList_inj, Bool.not_eq_true', Bool.not_eq_false', Int.le_refl, and_self, true_and, and_true, false_and, and_false, bne_self_eq_false, beq_self_eq_true, Int.reduceEq, Nat.reduceEqDiff, List.length_singleton, List.tail_cons, Int.reduceLE, Int.reduceLT, decide_eq_true_eq]; exact Ev.now _
  · obtain ⟨r, hr⟩ := markText_loop x.toNat.succ x ⟨#[]⟩ (by omega) (by simp [ByteArray.size]; omega)
    refine ⟨r, ?_⟩
    simp only [laws_markText.f_eq, h, strs_len, strs_elem, ints_len, ints_elem, items_list, fld_agg, elem_list, toStr_sc, toInt_sc, toBool_sc, headD_one, nat_int, get_bt, decide_eq_true_eq, decide_eq_false_iff_not, decide_true, decide_false, if_true, if_false, ite_self, Bool.not_true, Bool.not_false, Bool.false_eq_true, Bool.true_eq_false, Bool.true_and, Bool.false_and, Bool.and_true, Bool.and_false, not_true, not_false_iff, Option.bind_some, nn, toList_inj, Bool.not_eq_true', Bool.not_eq_false', Int.le_refl, and_self, true_and, and_true, false_and, and_false, bne_self_eq_false, beq_self_eq_true, Int.reduceEq, Nat.reduceEqDiff, List.length_singleton, List.tail_cons, Int.reduceLE, Int.reduceLT, decide_eq_true_eq]
    exact hr.diag
noncomputable def mt (x : Int) : ByteArray := if h : x < 4611686018427387904 then Classical.choose (markText_total x h) else ByteArray.empty
theorem markText_ev (x : Int) (hx : x < 4611686018427387904) : Ev (fun N => laws_markText.f N [intP x]) [strP (mt x)] := by
  unfold mt
  rw [dif_pos hx]
  exact Classical.choose_spec (markText_total x hx)
noncomputable def markStrs : Int → List ByteArray → List ByteArray
  | _, [] => []
  | k, _ :: l => mt k :: markStrs (k + 1) l
theorem markStrs_len (k : Int) (l : List ByteArray) : (markStrs k l).length = l.length := by
  induction l generalizing k with
  | nil => rfl
  | cons c l ih => simp [markStrs, ih]
theorem markStringS_loop (n : Nat) (hn : n ≤ 1152921504606846976) : ∀ rest pre : List ByteArray, pre.length + rest.length = n → ∀ x : Int, x + rest.length < 4611686018427387904 → 0 ≤ x →
    Ev2 (fun N m => laws_markStringS.l1 N m x (pre.length : Int) ((pre ++ rest).map strP)) [intP (x + rest.length), strsP (pre ++ markStrs x rest)] := by
  intro rest
  induction rest with
  | nil =>
    intro pre hp x hx h0
    refine Ev2.succ ?_
    simp only [laws_markStringS.l1_eq, List.length_map, at_end (xs := pre ++ []) rfl, markStrs, List.length_nil, Int.natCast_zero, Int.add_zero, strs_len, strs_elem, ints_len, ints_elem, items_list, fld_agg, elem_list, toStr_sc, toInt_sc, toBool_sc, headD_one, nat_int, get_bt, decide_eq_true_eq, decide_eq_false_iff_not, decide_true, decide_false, if_true, if_false, ite_self, Bool.not_true, Bool.not_false, Bool.false_eq_true, Bool.true_eq_false, Bool.true_and, Bool.false_and, Bool.and_true, Bool.and_false, not_true, not_false_iff, Option.bind_some, nn, toList_inj, Bool.not_eq_true', Bool.not_eq_false', Int.le_refl, and_self, true_and, and_true, false_and, and_false, bne_self_eq_false, beq_self_eq_true, Int.reduceEq, Nat.reduceEqDiff, List.length_singleton, List.tail_cons, Int.reduceLE, Int.reduceLT, decide_eq_true_eq]
    exact Ev2.now _
  | cons c rest ih =>
    intro pre hp x hx h0
    simp only [List.length_cons] at hx hp
    have hset : ((pre ++ c :: rest).map strP).set pre.length (strP (mt x)) = ((pre ++ [mt x]) ++ rest).map strP := by
      simp
    refine Ev2.succ ?_
    simp only [laws_markStringS.l1_eq, List.length_map, at_lt (xs := pre ++ c :: rest) rfl, at_next (xs := pre ++ c :: rest) rfl (by simp; omega), wrap_id (n := x + 1) (by omega) (by omega), strs_len, strs_elem, ints_len, ints_elem, items_list, fld_agg, elem_list, toStr_sc, toInt_sc, toBool_sc, headD_one, nat_int, get_bt, decide_eq_true_eq, decide_eq_false_iff_not, decide_true, decide_false, if_true, if_false, ite_self, Bool.not_true, Bool.not_false, Bool.false_eq_true, Bool.true_eq_false, Bool.true_and, Bool.false_and, Bool.and_true, Bool.and_false, not_true, not_false_iff, Option.bind_some, nn, toList_inj, Bool.not_eq_true', Bool.not_eq_false', Int.le_refl, and_self, true_and, and_true, false_and, and_false, bne_self_eq_false, beq_self_eq_true, Int.reduceEq, Nat.reduceEqDiff, List.length_singleton, List.tail_cons, Int.reduceLE, Int.reduceLT, decide_eq_true_eq]
    refine Ev2.bind (markText_ev x (by omega)) ?_
    simp only [strs_len, strs_elem, ints_len, ints_elem, items_list, fld_agg, elem_list, toStr_sc, toInt_sc, toBool_sc, headD_one, nat_int, get_bt, decide_eq_true_eq, decide_eq_false_iff_not, decide_true, decide_false, if_true, if_false, ite_self, Bool.not_true, Bool.not_false, Bool.false_eq_true, Bool.true_eq_false, Bool.true_and, Bool.false_and, Bool.and_true, Bool.and_false, not_true, not_false_iff, Option.bind_some, nn, toList_inj, Bool.not_eq_true', Bool.not_eq_false', Int.le_refl, and_self, true_and, and_true, false_and, and_false, bne_self_eq_false, beq_self_eq_true, Int.reduceEq, Nat.reduceEqDiff, List.length_singleton, List.tail_cons, Int.reduceLE, Int.reduceLT, decide_eq_true_eq, hset]
    have := ih (pre ++ [mt x]) (by simp; omega) (x + 1) (by omega) (by omega)
    have e : (pre ++ [mt x]).length = (pre ++ [c]).length := by simp
    rw [e] at this
    refine Ev2.ext this ?_
    simp only [markStrs, List.append_assoc, List.cons_append, List.nil_append, List.length_cons]
    congr 1
    simp; omega
theorem markStringS_ev (l : List ByteArray) (x : Int) (hl : l.length ≤ 1152921504606846976) (hx : x + l.length < 4611686018427387904) (h0 : 0 ≤ x) :
    Ev (fun N => laws_markStringS.f N [strsP l, intP x]) [intP (x + l.length), strsP (markStrs x l)] := by
  simp only [laws_markStringS.f_eq, strs_len, strs_elem, ints_len, ints_elem, items_list, fld_agg, elem_list, toStr_sc, toInt_sc, toBool_sc, headD_one, nat_int, get_bt, decide_eq_true_eq, decide_eq_false_iff_not, decide_true, decide_false, if_true, if_false, ite_self, Bool.not_true, Bool.not_false, Bool.false_eq_true, Bool.true_eq_false, Bool.true_and, Bool.false_and, Bool.and_true, Bool.and_false, not_true, not_false_iff, Option.bind_some, nn, toList_inj, Bool.not_eq_true', Bool.not_eq_false', Int.le_refl, and_self, true_and, and_true, false_and, and_false, bne_self_eq_false, beq_self_eq_true, Int.reduceEq, Nat.reduceEqDiff, List.length_singleton, List.tail_cons, Int.reduceLE, Int.reduceLT, decide_eq_true_eq]
  refine Ev2.diag (g := fun N n => laws_markStringS.l0 N n x 0 (strsP l)) (Ev2.succ ?_)
  cases l with
  | nil =>
    have h00 : ¬ (0 : Int) < (([] : List ByteArray).length : Int) := by simp
    simp only [laws_markStringS.l0_eq, strs_len, strs_elem, ints_len, ints_elem, items_list, fld_agg, elem_list, toStr_sc, toInt_sc, toBool_sc, headD_one, nat_int, get_bt, decide_eq_true_eq, decide_eq_false_iff_not, decide_true, decide_false, if_true, if_false, ite_self, Bool.not_true, Bool.not_false, Bool.false_eq_true, Bool.true_eq_false, Bool.true_and, Bool.false_and, Bool.and_true, Bool.and_false, not_true, not_false_iff, Option.bind_some, nn, toList_inj, Bool.not_eq_true', Bool.not_eq_false', Int.le_refl, and_self, true_and, and_true, false_and, and_false, bne_self_eq_false, beq_self_eq_true, Int.reduceEq, Nat.reduceEqDiff, List.length_singleton, List.tail_cons, Int.reduceLE, Int.reduceLT, decide_eq_true_eq, h00]
    refine Ev2.ext (Ev2.now _) ?_
    simp [markStrs]
  | cons c rest =>
    have hp : c :: rest = [] ++ c :: rest := rfl
    simp only [List.length_cons] at hx hl
    have hset : ((strsP (c :: rest)).items.set 0 (strP (mt x))) = (([] ++ [mt x]) ++ rest).map strP := by simp [strsP, PV.items]
    have h00 : (0 : Int) < (((c :: rest).length : Nat) : Int) := by simp only [List.length_cons]; omega
    have h01 : IntKind.i64.wrap (0 + 1) = (([] ++ [mt x] : List ByteArray).length : Int) := by rw [wrap_id (by omega) (by omega)]; simp
    simp only [laws_markStringS.l0_eq, strs_len, strs_elem, ints_len, ints_elem, items_list, fld_agg, elem_list, toStr_sc, toInt_sc, toBool_sc, headD_one, nat_int, get_bt, decide_eq_true_eq, decide_eq_false_iff_not, decide_true, decide_false, if_true, if_false, ite_self, Bool.not_true, Bool.not_false, Bool.false_eq_true, Bool.true_eq_false, Bool.true_and, Bool.false_and, Bool.and_true, Bool.and_false, not_true, not_false_iff, Option.bind_some, nn, toList_inj, Bool.not_eq_true', Bool.not_eq_false', Int.le_refl, and_self, true_and, and_true, false_and, and_false, bne_self_eq_false, beq_self_eq_true, Int.reduceEq, Nat.reduceEqDiff, List.length_singleton, List.tail_cons, Int.reduceLE, Int.reduceLT, decide_eq_true_eq, h00, h01, wrap_id (n := x + 1) (by omega) (by omega)]
    refine Ev2.bind (markText_ev x (by omega)) ?_
    have h02 : (0 : Int).toNat = 0 := rfl
    simp only [strs_len, strs_elem, ints_len, ints_elem, items_list, fld_agg, elem_list, toStr_sc, toInt_sc, toBool_sc, headD_one, nat_int, get_bt, decide_eq_true_eq, decide_eq_false_iff_not, decide_true, decide_false, if_true, if_false, ite_self, Bool.not_true, Bool.not_false, Bool.false_eq_true, Bool.true_eq_false, Bool.true_and, Bool.false_and, Bool.and_true, Bool.and_false, not_true, not_false_iff, Option.bind_some, nn, toList_inj, Bool.not_eq_true', Bool.not_eq_false', Int.le_refl, and_self, true_and, and_true, false_and, and_false, bne_self_eq_false, beq_self_eq_true, Int.reduceEq, Nat.reduceEqDiff, List.length_singleton, List.tail_cons, Int.reduceLE, Int.reduceLT, decide_eq_true_eq, h02, hset]
    refine Ev2.ext (markStringS_loop (rest.length + 1) (by omega) rest ([] ++ [mt x]) (by simp; omega) (x + 1) (by omega) (by omega)) ?_
    simp only [markStrs, List.append_assoc, List.cons_append, List.nil_append, List.length_cons]
    congr 1
    simp; omega
theorem heldStringS_loop (n : Nat) (hn : n ≤ 1152921504606846976) : ∀ rest pre : List ByteArray, pre.length + rest.length = n → ∀ x : Int, x + rest.length < 4611686018427387904 → 0 ≤ x →
    Ev2 (fun N m => laws_heldStringS.l0 N m (strsP (pre ++ markStrs x rest)) x (pre.length : Int)) [intP (x + rest.length)] := by
  intro rest
  induction rest with
  | nil =>
    intro pre hp x hx h0
    show Ev2 (fun N m => laws_heldStringS.l0 N m (strsP (pre ++ [])) x (pre.length : Int)) _
    refine Ev2.succ ?_
    simp only [laws_heldStringS.l0_eq, at_end (xs := pre ++ []) rfl, List.length_nil, Int.natCast_zero, Int.add_zero, strs_len, strs_elem, ints_len, ints_elem, items_list, fld_agg, elem_list, toStr_sc, toInt_sc, toBool_sc, headD_one, nat_int, get_bt, decide_eq_true_eq, decide_eq_false_iff_not, decide_true, decide_false, if_true, if_false, ite_self, Bool.not_true, Bool.not_false, Bool.false_eq_true, Bool.true_eq_false, Bool.true_and, Bool.false_and, Bool.and_true, Bool.and_false, not_true, not_false_iff, Option.bind_some, nn, toList_inj, Bool.not_eq_true', Bool.not_eq_false', Int.le_refl, and_self, true_and, and_true, false_and, and_false, bne_self_eq_false, beq_self_eq_true, Int.reduceEq, Nat.reduceEqDiff, List.length_singleton, List.tail_cons, Int.reduceLE, Int.reduceLT, decide_eq_true_eq]
    exact Ev2.now _
  | cons c rest ih =>
    intro pre hp x hx h0
    simp only [List.length_cons] at hx hp
    show Ev2 (fun N m => laws_heldStringS.l0 N m (strsP (pre ++ mt x :: markStrs (x + 1) rest)) x (pre.length : Int)) _
    have hq : pre ++ mt x :: markStrs (x + 1) rest = pre ++ mt x :: markStrs (x + 1) rest := rfl
    refine Ev2.succ ?_
    simp only [laws_heldStringS.l0_eq, at_lt hq, at_getD hq, at_next hq (by simp [markStrs_len]; omega), wrap_id (n := x + 1) (by omega) (by omega), strs_len, strs_elem, ints_len, ints_elem, items_list, fld_agg, elem_list, toStr_sc, toInt_sc, toBool_sc, headD_one, nat_int, get_bt, decide_eq_true_eq, decide_eq_false_iff_not, decide_true, decide_false, if_true, if_false, ite_self, Bool.not_true, Bool.not_false, Bool.false_eq_true, Bool.true_eq_false, Bool.true_and, Bool.false_and, Bool.and_true, Bool.and_false, not_true, not_false_iff, Option.bind_some, nn, toList_inj, Bool.not_eq_true', Bool.not_eq_false', Int.le_refl, and_self, true_and, and_true, false_and, and_false, bne_self_eq_false, beq_self_eq_true, Int.reduceEq, Nat.reduceEqDiff, List.length_singleton, List.tail_cons, Int.reduceLE, Int.reduceLT, decide_eq_true_eq]
    refine Ev2.bind (markText_ev x (by omega)) ?_
    simp only [strs_len, strs_elem, ints_len, ints_elem, items_list, fld_agg, elem_list, toStr_sc, toInt_sc, toBool_sc, headD_one, nat_int, get_bt, decide_eq_true_eq, decide_eq_false_iff_not, decide_true, decide_false, if_true, if_false, ite_self, Bool.not_true, Bool.not_false, Bool.false_eq_true, Bool.true_eq_false, Bool.true_and, Bool.false_and, Bool.and_true, Bool.and_false, not_true, not_false_iff, Option.bind_some, nn, toList_inj, Bool.not_eq_true', Bool.not_eq_false', Int.le_refl, and_self, true_and, and_true, false_and, and_false, bne_self_eq_false, beq_self_eq_true, Int.reduceEq, Nat.reduceEqDiff, List.length_singleton, List.tail_cons, Int.reduceLE, Int.reduceLT, decide_eq_true_eq]
    have := ih (pre ++ [mt x]) (by simp; omega) (x + 1) (by omega) (by omega)
    simp only [List.append_assoc, List.cons_append, List.nil_append] at this
    refine Ev2.ext this ?_
    congr 2
    simp; omega
theorem heldStringS_ev (l : List ByteArray) (x : Int) (hl : l.length ≤ 1152921504606846976) (hx : x + l.length < 4611686018427387904) (h0 : 0 ≤ x) :
    Ev (fun N => laws_heldStringS.f N [strsP (markStrs x l), intP x]) [intP (x + l.length)] := by
  simp only [laws_heldStringS.f_eq, strs_len, strs_elem, ints_len, ints_elem, items_list, fld_agg, elem_list, toStr_sc, toInt_sc, toBool_sc, headD_one, nat_int, get_bt, decide_eq_true_eq, decide_eq_false_iff_not, decide_true, decide_false, if_true, if_false, ite_self, Bool.not_true, Bool.not_false, Bool.false_eq_true, Bool.true_eq_false, Bool.true_and, Bool.false_and, Bool.and_true, Bool.and_false, not_true, not_false_iff, Option.bind_some, nn, toList_inj, Bool.not_eq_true', Bool.not_eq_false', Int.le_refl, and_self, true_and, and_true, false_and, and_false, bne_self_eq_false, beq_self_eq_true, Int.reduceEq, Nat.reduceEqDiff, List.length_singleton, List.tail_cons, Int.reduceLE, Int.reduceLT, decide_eq_true_eq]
  exact (heldStringS_loop l.length hl l [] (by simp) x hx h0).diag
/-! #### numbers as texts -/
theorem true_of {p : Prop} (h : p) : p = True := eq_true h
theorem false_of {p : Prop} (h : ¬ p) : p = False := eq_false h
theorem bytesOfL_size (l : List PV) : (bytesOfL l).size = l.length := by simp [bytesOfL, ByteArray.size]
theorem app_size (a b : ByteArray) : (a ++ b).size = a.size + b.size := ByteArray.size_append
theorem wrapN {n : Int} {m : Nat} (h : n = (m : Int)) (hm : m < 9223372036854775808) : IntKind.i64.wrap n = (m : Int) := by
  rw [h, wrap_id (by omega) (by omega)]
def decB (u : Nat) : ByteArray := ⟨(Lib.decDigits u).toArray⟩
theorem itoa_dec (n : Nat) : itoaB (n : Int) = decB n := by
  unfold itoaB decB Lib.itoa
  rw [if_neg (by omega)]
  rfl
theorem dec_one {u : Nat} (h : u < 10) : decB u = bytesOfL [PV.sc (.int .u8 (IntKind.u8.wrap (IntKind.i64.wrap (48 + (u : Int)))))] := by
  have e1 : IntKind.i64.wrap (48 + (u : Int)) = ((48 + u : Nat) : Int) := wrapN (by omega) (by omega)
  have e2 : IntKind.u8.wrap ((48 + u : Nat) : Int) = ((48 + u : Nat) : Int) := by simp [IntKind.wrap, IntKind.signed, IntKind.bits]; omega
  rw [e1, e2, decB, Lib.decDigits, dif_pos h]
  rfl
theorem dec_more {u : Nat} (h : ¬ u < 10) : decB u = decB (u / 10) ++ bytesOfL [PV.sc (.int .u8 (IntKind.u8.wrap (IntKind.i64.wrap (48 + Int.tmod (u : Int) 10))))] := by
  have e0 : Int.tmod (u : Int) 10 = ((u % 10 : Nat) : Int) := rfl
  have e1 : IntKind.i64.wrap (48 + ((u % 10 : Nat) : Int)) = ((48 + u % 10 : Nat) : Int) := wrapN (by omega) (by omega)
  have e2 : IntKind.u8.wrap ((48 + u % 10 : Nat) : Int) = ((48 + u % 10 : Nat) : Int) := by simp [IntKind.wrap, IntKind.signed, IntKind.bits]; omega
  have e3 : bytesOfL [PV.sc (.int .u8 ((48 + u % 10 : Nat) : Int))] = ⟨#[UInt8.ofNat (48 + u % 10)]⟩ := rfl
  rw [e0, e1, e2, e3, decB, Lib.decDigits, dif_neg h, decB]
  apply ByteArray.ext
  rw [ByteArray.data_append]
  simp
theorem dec_size : ∀ (k u : Nat), u < 10 ^ k → (decB u).size ≤ k + 1
  | 0, u, h => by
    have : u = 0 := by simpa using h
    subst this
    rw [dec_one (by omega), bytesOfL_size]; simp
  | k + 1, u, h => by
    by_cases h10 : u < 10
    · rw [dec_one h10, bytesOfL_size]; simp
    · rw [dec_more h10, app_size, bytesOfL_size]
      have := dec_size k (u / 10) (by rw [Nat.pow_succ] at h; omega)
      simp only [List.length_singleton]
      omega
theorem specDec_g : ∀ (k u : Nat), u < 10 ^ (k + 1) → k ≤ 17 → Ev2 (fun N d => spec_l1Dec.g N d [intP (u : Int)]) [strP (decB u)]
  | k, u, hu, hk => by
    have hp : 10 ^ (k + 1) ≤ 10 ^ 18 := Nat.pow_le_pow_right (by omega) (by omega)
    have h1 : ((u : Int) < -9223372036854775807) = False := false_of (by omega)
    have h2 : ((u : Int) < 0) = False := false_of (by omega)
    refine Ev2.succ ?_
    by_cases h10 : u < 10
    · have h3 : ((u : Int) < 10) = True := true_of (by omega)
      simp only [spec_l1Dec.g_eq, h1, h2, h3, strs_len, strs_elem, ints_len, ints_elem, items_list, fld_agg, elem_list, toStr_sc, toInt_sc, toBool_sc, headD_one, nat_int, get_bt, decide_eq_true_eq, decide_eq_false_iff_not, decide_true, decide_false, if_true, if_false, ite_self, Bool.not_true, Bool.not_false, Bool.false_eq_true, Bool.true_eq_false, Bool.true_and, Bool.false_and, Bool.and_true, Bool.and_false, not_true, not_false_iff, Option.bind_some, nn, toList_inj, Bool.not_eq_true', Bool.not_eq_false', Int.le_refl, and_self, true_and, and_true, false_and, and_false, bne_self_eq_false, beq_self_eq_true, Int.reduceEq, Nat.reduceEqDiff, List.length_singleton, List.tail_cons, Int.reduceLE, Int.reduceLT, decide_eq_true_eq]
      rw [dec_one h10]
      exact Ev2.now _
    · have h3 : ((u : Int) < 10) = False := false_of (by omega)
      have w1 : IntKind.i64.wrap (Int.tdiv (u : Int) 10) = ((u / 10 : Nat) : Int) := by
        have : Int.tdiv (u : Int) 10 = ((u / 10 : Nat) : Int) := rfl
        rw [this]; exact wrap_id (by omega) (by omega)
      cases k with
      | zero => simp at hu; omega
      | succ k =>
        have ih := specDec_g k (u / 10) (by rw [Nat.pow_succ] at hu; omega) (by omega)
        have hsz := dec_size (k + 1) (u / 10) (by rw [Nat.pow_succ] at hu; omega)
        have hc : ((decB (u / 10)).size + (bytesOfL [PV.sc (.int .u8 (IntKind.u8.wrap (IntKind.i64.wrap (48 + Int.tmod (u : Int) 10))))]).size ≤ 9223372036854775807) = True := true_of (by rw [bytesOfL_size]; simp only [List.length_singleton]; omega)
        simp only [spec_l1Dec.g_eq, h1, h2, h3, w1, strs_len, strs_elem, ints_len, ints_elem, items_list, fld_agg, elem_list, toStr_sc, toInt_sc, toBool_sc, headD_one, nat_int, get_bt, decide_eq_true_eq, decide_eq_false_iff_not, decide_true, decide_false, if_true, if_false, ite_self, Bool.not_true, Bool.not_false, Bool.false_eq_true, Bool.true_eq_false, Bool.true_and, Bool.false_and, Bool.and_true, Bool.and_false, not_true, not_false_iff, Option.bind_some, nn, toList_inj, Bool.not_eq_true', Bool.not_eq_false', Int.le_refl, and_self, true_and, and_true, false_and, and_false, bne_self_eq_false, beq_self_eq_true, Int.reduceEq, Nat.reduceEqDiff, List.length_singleton, List.tail_cons, Int.reduceLE, Int.reduceLT, decide_eq_true_eq]
        obtain ⟨k0, hk0⟩ := ih
        refine ⟨k0, fun N d hN hd => ?_⟩
        have := hk0 N d hN hd
        simp only [intP] at this
        simp only [this, Option.bind_some, headD_one, toStr_sc, hc, if_true]
        rw [dec_more h10]
theorem specDec_ev (u : Nat) (hu : u < 10 ^ 18) : Ev (fun N => spec_l1Dec.f N [intP (u : Int)]) [strP (decB u)] := by
  simp only [spec_l1Dec.f_eq]
  exact (specDec_g 17 u hu (by omega)).diag
/-! #### texts cut at a byte -/
def cutA (b : UInt8) : List UInt8 → List UInt8 → List (List UInt8)
  | cur, [] => [cur]
  | cur, c :: r => if c = b then cur :: cutA b [] r else cutA b (cur ++ [c]) r
def mkB (l : List UInt8) : ByteArray := ⟨l.toArray⟩
def dB (s : ByteArray) : List UInt8 := s.data.toList
def cutB (b : UInt8) (s : ByteArray) : List ByteArray := (cutA b [] (dB s)).map mkB
theorem mkB_dB (s : ByteArray) : mkB (dB s) = s := rfl
theorem dB_mkB (l : List UInt8) : dB (mkB l) = l := rfl
theorem dB_len (s : ByteArray) : (dB s).length = s.size := Array.length_toList (xs := s.data)
theorem mkB_size (l : List UInt8) : (mkB l).size = l.length := by rw [← dB_len, dB_mkB]
theorem dB_inj {a b : ByteArray} (h : dB a = dB b) : a = b := by rw [← mkB_dB a, h, mkB_dB]
theorem dB_app (a b : ByteArray) : dB (a ++ b) = dB a ++ dB b := by simp [dB, ByteArray.data_append]
theorem cutA_ne (b : UInt8) : ∀ (l cur : List UInt8), cutA b cur l ≠ []
  | [], cur => by simp [cutA]
  | c :: r, cur => by
    rw [cutA]
    split
    · simp
    · exact cutA_ne b r _
theorem cutA_at {b : UInt8} (y : List UInt8) : ∀ (x cur : List UInt8), (∀ c ∈ x, c ≠ b) → cutA b cur (x ++ b :: y) = (cur ++ x) :: cutA b [] y
  | [], cur, _ => by simp [cutA]
  | c :: x, cur, h => by
    rw [List.cons_append, cutA, if_neg (h c (by simp)), cutA_at y x _ (fun z hz => h z (by simp [hz]))]
    simp
theorem cutA_no {b : UInt8} : ∀ (x cur : List UInt8), (∀ c ∈ x, c ≠ b) → cutA b cur x = [cur ++ x]
  | [], cur, _ => by simp [cutA]
  | c :: x, cur, h => by
    rw [cutA, if_neg (h c (by simp)), cutA_no x _ (fun z hz => h z (by simp [hz]))]
    simp
theorem cutA_len (b : UInt8) : ∀ (l cur : List UInt8), (cutA b cur l).length ≤ l.length + 1
  | [], cur => by simp [cutA]
  | c :: r, cur => by
    rw [cutA]
    split
    · have := cutA_len b r []; simp; omega
    · have := cutA_len b r (cur ++ [c]); simp; omega
theorem cutA_sizes (b : UInt8) : ∀ (l cur : List UInt8), ∀ p ∈ cutA b cur l, p.length ≤ cur.length + l.length
  | [], cur, p, hp => by simp [cutA] at hp; subst hp; simp
  | c :: r, cur, p, hp => by
    rw [cutA] at hp
    split at hp
    · rcases List.mem_cons.1 hp with rfl | hp
      · omega
      · have := cutA_sizes b r [] p hp; simp at this ⊢; omega
    · have := cutA_sizes b r _ p hp; simp at this ⊢; omega
theorem cutB_ne (b : UInt8) (s : ByteArray) : cutB b s ≠ [] := by simp [cutB, cutA_ne]
theorem cutB_len (b : UInt8) (s : ByteArray) : (cutB b s).length ≤ s.size + 1 := by
  have := cutA_len b (dB s) []
  rw [dB_len] at this
  simpa [cutB] using this
theorem cutB_sizes (b : UInt8) (s : ByteArray) : ∀ p ∈ cutB b s, p.size ≤ s.size := by
  intro p hp
  obtain ⟨l, hl, rfl⟩ := List.mem_map.1 hp
  have := cutA_sizes b _ _ l hl
  rw [dB_len] at this
  rw [mkB_size]; simpa using this
theorem bytesOf_dB (s : ByteArray) : bytesOf s = (dB s).map fun b => (b.toNat : Int) := rfl
theorem at_dB {s : ByteArray} {pre rest : List UInt8} {c : UInt8} (hp : dB s = pre ++ c :: rest) : bt s pre.length = (c.toNat : Int) := by
  have h : bytesOf s = (pre.map fun b => (b.toNat : Int)) ++ (c.toNat : Int) :: rest.map fun b => (b.toNat : Int) := by rw [bytesOf_dB, hp]; simp
  have := at_bt h
  rwa [List.length_map] at this
theorem ext_dB (s : ByteArray) (i j : Nat) : dB (s.extract i j) = ((dB s).drop i).take (j - i) := by simp [dB, List.extract, ByteArray.data_extract]
theorem specCut_ev (b : UInt8) (s : ByteArray) (hs : s.size ≤ 4294967280) : Ev (fun N => spec_l1Cut.f N [strP s, .sc (.int .u8 (b.toNat : Int))]) [strsP (cutB b s)] := by
  have key : ∀ (rest cur done : List UInt8) (acc : List ByteArray), dB s = (done ++ cur) ++ rest → acc.length ≤ done.length → Ev2 (fun N n => spec_l1Cut.l0 N n s (b.toNat : Int) (done.length : Int) ((done ++ cur).length : Int) (acc.map strP)) [strsP (acc ++ (cutA b cur rest).map mkB)] := by
    intro rest
    induction rest with
    | nil =>
      intro cur done acc hp ha
      have hz := congrArg List.length hp
      rw [dB_len] at hz
      simp only [List.length_append, List.length_nil] at hz
      have e1 : (((done ++ cur).length : Int) < (s.size : Int)) = False := false_of (by simp only [List.length_append]; omega)
      have e2 : ((done.length : Int) ≤ (s.size : Int)) = True := true_of (by omega)
      have e3 : (acc.length + 1 ≤ 8796093022208) = True := true_of (by omega)
      have e4 : s.extract done.length s.size = mkB cur := by
        apply dB_inj
        rw [ext_dB, hp, dB_mkB, List.append_nil, List.drop_left' rfl]
        exact List.take_of_length_le (by omega)
      refine Ev2.succ ?_
      simp only [spec_l1Cut.l0_eq, e1, e2, e3, e4, List.length_map, strs_len, strs_elem, ints_len, ints_elem, items_list, fld_agg, elem_list, toStr_sc, toInt_sc, toBool_sc, headD_one, nat_int, get_bt, decide_eq_true_eq, decide_eq_false_iff_not, decide_true, decide_false, if_true, if_false, ite_self, Bool.not_true, Bool.not_false, Bool.false_eq_true, Bool.true_eq_false, Bool.true_and, Bool.false_and, Bool.and_true, Bool.and_false, not_true, not_false_iff, Option.bind_some, nn, toList_inj, Bool.not_eq_true', Bool.not_eq_false', Int.le_refl, and_self, true_and, and_true, false_and, and_false, bne_self_eq_false, beq_self_eq_true, Int.reduceEq, Nat.reduceEqDiff, List.length_singleton, List.tail_cons, Int.reduceLE, Int.reduceLT, decide_eq_true_eq]
      have e5 : PV.list (acc.map strP ++ [PV.sc (.string (mkB cur))]) = strsP (acc ++ (cutA b cur []).map mkB) := by simp [cutA, strsP, strP]
      rw [e5]
      exact Ev2.now _
    | cons c rest ih =>
      intro cur done acc hp ha
      have hz := congrArg List.length hp
      rw [dB_len] at hz
      simp only [List.length_append, List.length_cons] at hz
      have e1 : (((done ++ cur).length : Int) < (s.size : Int)) = True := true_of (by simp only [List.length_append]; omega)
      have e6 : (((done ++ cur).length : Int) ≤ (s.size : Int)) = True := true_of (by simp only [List.length_append]; omega)
      have e2 : ((done.length : Int) ≤ ((done ++ cur).length : Int)) = True := true_of (by simp only [List.length_append]; omega)
      have e3 : (acc.length + 1 ≤ 8796093022208) = True := true_of (by omega)
      have e4 : s.extract done.length (done ++ cur).length = mkB cur := by
        apply dB_inj
        rw [ext_dB, hp, dB_mkB, List.append_assoc, List.drop_left' rfl]
        exact List.take_left' (by simp)
      have hb := at_dB hp
      have hn : IntKind.i64.wrap (((done ++ cur).length : Int) + 1) = (((done ++ cur) ++ [c]).length : Int) := by
        rw [wrap_id (by omega) (by simp only [List.length_append]; omega)]; simp only [List.length_append, List.length_singleton]; omega
      refine Ev2.succ ?_
      by_cases hc : c = b
      · subst hc
        have ih' := ih [] ((done ++ cur) ++ [c]) (acc ++ [mkB cur]) (by rw [hp]; simp) (by simp; omega)
        simp only [spec_l1Cut.l0_eq, e1, e2, e3, e4, e6, hb, hn, List.length_map, strs_len, strs_elem, ints_len, ints_elem, items_list, fld_agg, elem_list, toStr_sc, toInt_sc, toBool_sc, headD_one, nat_int, get_bt, decide_eq_true_eq, decide_eq_false_iff_not, decide_true, decide_false, if_true, if_false, ite_self, Bool.not_true, Bool.not_false, Bool.false_eq_true, Bool.true_eq_false, Bool.true_and, Bool.false_and, Bool.and_true, Bool.and_false, not_true, not_false_iff, Option.bind_some, nn, toList_inj, Bool.not_eq_true', Bool.not_eq_false', Int.le_refl, and_self, true_and, and_true, false_and, and_false, bne_self_eq_false, beq_self_eq_true, Int.reduceEq, Nat.reduceEqDiff, List.length_singleton, List.tail_cons, Int.reduceLE, Int.reduceLT, decide_eq_true_eq]
        rw [cutA, if_pos rfl]
        have e5 : (acc ++ [mkB cur]).map strP = acc.map strP ++ [PV.sc (.string (mkB cur))] := by simp [strP]
        rw [e5, List.append_nil] at ih'
        simpa using ih'
      · have ih' := ih (cur ++ [c]) done acc (by rw [hp]; simp) ha
        have hne : ((c.toNat : Int) = (b.toNat : Int)) = False := false_of (fun h => hc (UInt8.toNat_inj.1 (by omega)))
        simp only [spec_l1Cut.l0_eq, e1, hb, hn, hne, strs_len, strs_elem, ints_len, ints_elem, items_list, fld_agg, elem_list, toStr_sc, toInt_sc, toBool_sc, headD_one, nat_int, get_bt, decide_eq_true_eq, decide_eq_false_iff_not, decide_true, decide_false, if_true, if_false, ite_self, Bool.not_true, Bool.not_false, Bool.false_eq_true, Bool.true_eq_false, Bool.true_and, Bool.false_and, Bool.and_true, Bool.and_false, not_true, not_false_iff, Option.bind_some, nn, toList_inj, Bool.not_eq_true', Bool.not_eq_false', Int.le_refl, and_self, true_and, and_true, false_and, and_false, bne_self_eq_false, beq_self_eq_true, Int.reduceEq, Nat.reduceEqDiff, List.length_singleton, List.tail_cons, Int.reduceLE, Int.reduceLT, decide_eq_true_eq]
        rw [cutA, if_neg hc]
        rw [← List.append_assoc] at ih'
        exact ih'
  simp only [strP, spec_l1Cut.f_eq, toStr_sc, toInt_sc]
  exact (key (dB s) [] [] [] rfl (Nat.le_refl _)).diag
/-! The library's Split. -/
theorem index_at {b : UInt8} {x y : List UInt8} (h : ∀ c ∈ x, c ≠ b) : Lib.index (x ++ b :: y) [b] = (x.length : Int) := by
  refine Lib.index_first (i := x.length) (by simp) ?_ (fun j hj => ?_)
  · unfold Lib.occAt
    rw [List.drop_left' rfl]
    simp [List.isPrefixOf]
  · unfold Lib.occAt
    have hd : (x ++ b :: y).drop j = x[j] :: (x.drop (j + 1) ++ b :: y) := by
      rw [List.drop_append_of_le_length (by omega), List.drop_eq_getElem_cons hj]; rfl
    rw [hd]
    have := h x[j] (List.getElem_mem hj)
    simp [List.isPrefixOf]
    exact fun e => this e.symm
theorem index_no {b : UInt8} {x : List UInt8} (h : ∀ c ∈ x, c ≠ b) : Lib.index x [b] = -1 := by
  refine Lib.index_none (fun j hj => ?_)
  unfold Lib.occAt
  by_cases hl : j < x.length
  · rw [List.drop_eq_getElem_cons hl]
    have := h x[j] (List.getElem_mem hl)
    simp [List.isPrefixOf]
    exact fun e => this e.symm
  · rw [List.drop_of_length_le (by omega)]; rfl
theorem has_or (b : UInt8) : ∀ l : List UInt8, (∀ c ∈ l, c ≠ b) ∨ ∃ x y, l = x ++ b :: y ∧ ∀ c ∈ x, c ≠ b
  | [] => .inl (by simp)
  | c :: r => by
    by_cases hc : c = b
    · exact .inr ⟨[], r, by simp [hc], by simp⟩
    · rcases has_or b r with h | ⟨x, y, rfl, h⟩
      · exact .inl (fun z hz => (List.mem_cons.1 hz).elim (fun e => e ▸ hc) (h z))
      · exact .inr ⟨c :: x, y, rfl, fun z hz => (List.mem_cons.1 hz).elim (fun e => e ▸ hc) (h z)⟩
theorem split_cutL (b : UInt8) : ∀ (n : Nat) (l : List UInt8), l.length ≤ n → splitOn (mkB l) ⟨#[b]⟩ = (cutA b [] l).map mkB
  | n, l, hn => by
    rcases has_or b l with h | ⟨x, y, rfl, h⟩
    · have hi : Lib.indexB (mkB l) ⟨#[b]⟩ = -1 := index_no h
      have hc := Lib.countB_miss (mkB l) ⟨#[b]⟩ hi
      unfold splitOn
      rw [hc, cutA_no _ _ h]; rfl
    · cases n with
      | zero => simp at hn
      | succ n =>
        have hi : Lib.indexB (mkB (x ++ b :: y)) ⟨#[b]⟩ = (x.length : Int) := index_at h
        have h1 : (ByteArray.mk #[b]).size = 1 := rfl
        have he : (mkB (x ++ b :: y)).extract (x.length + (ByteArray.mk #[b]).size) (mkB (x ++ b :: y)).size = mkB y := by
          apply dB_inj
          rw [ext_dB, dB_mkB, dB_mkB, h1, mkB_size, show x ++ b :: y = (x ++ [b]) ++ y by simp, List.drop_left' (by simp)]
          exact List.take_of_length_le (by simp; omega)
        have h0 : (mkB (x ++ b :: y)).extract 0 x.length = mkB x := by
          apply dB_inj
          rw [ext_dB, dB_mkB, dB_mkB, List.drop_zero]
          exact List.take_left' (by simp)
        have hc := Lib.countB_hit (mkB (x ++ b :: y)) ⟨#[b]⟩ x.length (by rw [h1]; omega) hi
        rw [he] at hc
        have ih := split_cutL b n y (by simp at hn; omega)
        unfold splitOn at ih ⊢
        rw [hc, Nat.add_comm 1, Lib.splitB, hi]
        have hn : (((x.length : Nat) : Int) == -1) = false := by
          cases hx : (((x.length : Nat) : Int) == -1) with
          | false => rfl
          | true => have := beq_iff_eq.1 hx; omega
        rw [hn, if_neg (by simp), nat_int, Nat.add_zero, h0, he, ih, cutA_at _ _ _ h]
        simp
theorem splitCut_val (b : UInt8) (s : ByteArray) (hs : s.size ≤ 4294967280) (N : Nat) : strings_Split.f N [strP s, strP (ByteArray.mk #[b])] = some [strsP (cutB b s)] := by
  have h : strings_Split.f N [strP s, strP (ByteArray.mk #[b])] = if (ByteArray.mk #[b]).size = 1 then (if s.size ≤ 4294967280 then some [strsP (splitOn s (ByteArray.mk #[b]))] else none) else none := rfl
  have h1 : (ByteArray.mk #[b]).size = 1 := rfl
  rw [if_pos h1, if_pos hs] at h
  rw [h, show splitOn s (ByteArray.mk #[b]) = cutB b s from split_cutL b _ (dB s) (Nat.le_refl _)]
theorem linesOf_val (s : ByteArray) (hs : s.size ≤ 1048576) (N : Nat) : impl_linesOf.f N [strP s] = some [strsP (cutB 10 s).dropLast] := by
  have h := splitCut_val 10 s (by omega) N
  have hl := cutB_len 10 s
  have h0 : 0 < (cutB 10 s).length := List.length_pos_iff.2 (cutB_ne 10 s)
  have w : IntKind.i64.wrap (((cutB 10 s).length : Int) - 1) = (((cutB 10 s).length - 1 : Nat) : Int) := nat_wrap (by omega) (by omega)
  have e1 : ((((cutB 10 s).length - 1 : Nat) : Int) ≤ ((cutB 10 s).length : Int)) = True := true_of (by omega)
  have e2 : PV.list (((strsP (cutB 10 s)).items).take ((cutB 10 s).length - 1)) = strsP (cutB 10 s).dropLast := by
    simp only [strsP, PV.items, List.dropLast_eq_take, List.map_take]
  simp only [strP] at h ⊢
  simp only [impl_linesOf.f_eq, toStr_sc, h, Option.bind_some, headD_one, strs_len, w, nn, nat_int, e1, e2, if_true]
/-! #### numbers read (the second half of UnM, for laws without hex) -/
theorem w8 (n : Int) : IntKind.u8.wrap n = n % 256 := by simp [IntKind.wrap, IntKind.signed, IntKind.bits]
/-! Numbers. -/
def digs (l : List UInt8) : Bool := l.all fun c => decide (48 ≤ c.toNat ∧ c.toNat ≤ 57)
def digN (a : Nat) (c : UInt8) : Nat := a * 10 + (c.toNat - 48)
def foldN (acc : Nat) (l : List UInt8) : Nat := l.foldl digN acc
theorem foldN_nil (acc : Nat) : foldN acc [] = acc := rfl
theorem foldN_cons (acc : Nat) (c : UInt8) (r : List UInt8) : foldN acc (c :: r) = foldN (acc * 10 + (c.toNat - 48)) r := by simp only [foldN, List.foldl_cons, digN]
def numB (s : ByteArray) : Int := if s.size = 0 ∨ 6 < s.size then -1 else if 1 < s.size ∧ bt s 0 = 48 then -1 else if digs (dB s) = true then (foldN 0 (dB s) : Int) else -1
theorem specNum_loop (s : ByteArray) : ∀ (rest pre : List UInt8) (acc : Nat), dB s = pre ++ rest → s.size ≤ 6 → acc < 10 ^ pre.length → Ev2 (fun N n => spec_l1Num.l0 N n s (acc : Int) (pre.length : Int)) [intP (if digs rest = true then (foldN acc rest : Int) else -1)] := by
  intro rest
  induction rest with
  | nil =>
    intro pre acc hp hz ha
    have hl := congrArg List.length hp
    rw [dB_len] at hl
    simp only [List.length_append, List.length_nil] at hl
    have e1 : ((pre.length : Int) < (s.size : Int)) = False := false_of (by omega)
    refine Ev2.succ ?_
    simp only [spec_l1Num.l0_eq, e1, strs_len, strs_elem, ints_len, ints_elem, items_list, fld_agg, elem_list, toStr_sc, toInt_sc, toBool_sc, headD_one, nat_int, get_bt, decide_eq_true_eq, decide_eq_false_iff_not, decide_true, decide_false, if_true, if_false, ite_self, Bool.not_true, Bool.not_false, Bool.false_eq_true, Bool.true_eq_false, Bool.true_and, Bool.false_and, Bool.and_true, Bool.and_false, not_true, not_false_iff, Option.bind_some, nn, toList_inj, Bool.not_eq_true', Bool.not_eq_false', Int.le_refl, and_self, true_and, and_true, false_and, and_false, bne_self_eq_false, beq_self_eq_true, Int.reduceEq, Nat.reduceEqDiff, List.length_singleton, List.tail_cons, Int.reduceLE, Int.reduceLT, decide_eq_true_eq, digs, List.all_nil, foldN_nil]
    exact Ev2.now _
  | cons c rest ih =>
    intro pre acc hp hz ha
    have hl := congrArg List.length hp
    rw [dB_len] at hl
    simp only [List.length_append, List.length_cons] at hl
    have e1 : ((pre.length : Int) < (s.size : Int)) = True := true_of (by omega)
    have hb := at_dB hp
    have hlt := c.toNat_lt
    have hn : IntKind.i64.wrap ((pre.length : Int) + 1) = ((pre ++ [c]).length : Int) := by
      rw [wrap_id (by omega) (by omega)]; simp
    have hpw : 10 ^ pre.length ≤ 10 ^ 5 := Nat.pow_le_pow_right (by omega) (by omega)
    refine Ev2.succ ?_
    by_cases h1 : (c.toNat : Int) < 48
    · have hd : digs (c :: rest) = false := by
        simp only [digs, List.all_cons]
        rw [decide_eq_false (by omega), Bool.false_and]
      simp only [spec_l1Num.l0_eq, e1, hb, h1, hd, strs_len, strs_elem, ints_len, ints_elem, items_list, fld_agg, elem_list, toStr_sc, toInt_sc, toBool_sc, headD_one, nat_int, get_bt, decide_eq_true_eq, decide_eq_false_iff_not, decide_true, decide_false, if_true, if_false, ite_self, Bool.not_true, Bool.not_false, Bool.false_eq_true, Bool.true_eq_false, Bool.true_and, Bool.false_and, Bool.and_true, Bool.and_false, not_true, not_false_iff, Option.bind_some, nn, toList_inj, Bool.not_eq_true', Bool.not_eq_false', Int.le_refl, and_self, true_and, and_true, false_and, and_false, bne_self_eq_false, beq_self_eq_true, Int.reduceEq, Nat.reduceEqDiff, List.length_singleton, List.tail_cons, Int.reduceLE, Int.reduceLT, decide_eq_true_eq]
      exact Ev2.now _
    · by_cases h2 : 57 < (c.toNat : Int)
      · have hd : digs (c :: rest) = false := by
          simp only [digs, List.all_cons]
          rw [decide_eq_false (by omega), Bool.false_and]
        simp only [spec_l1Num.l0_eq, e1, hb, h1, h2, hd, strs_len, strs_elem, ints_len, ints_elem, items_list, fld_agg, elem_list, toStr_sc, toInt_sc, toBool_sc, headD_one, nat_int, get_bt, decide_eq_true_eq, decide_eq_false_iff_not, decide_true, decide_false, if_true, if_false, ite_self, Bool.not_true, Bool.not_false, Bool.false_eq_true, Bool.true_eq_false, Bool.true_and, Bool.false_and, Bool.and_true, Bool.and_false, not_true, not_false_iff, Option.bind_some, nn, toList_inj, Bool.not_eq_true', Bool.not_eq_false', Int.le_refl, and_self, true_and, and_true, false_and, and_false, bne_self_eq_false, beq_self_eq_true, Int.reduceEq, Nat.reduceEqDiff, List.length_singleton, List.tail_cons, Int.reduceLE, Int.reduceLT, decide_eq_true_eq]
        exact Ev2.now _
      · have hd : digs (c :: rest) = digs rest := by
          simp only [digs, List.all_cons]
          rw [decide_eq_true (by omega), Bool.true_and]
        have w1 : IntKind.i64.wrap ((acc : Int) * 10) = ((acc * 10 : Nat) : Int) := nat_wrap (by omega) (by omega)
        have w2 : IntKind.i64.wrap (IntKind.u8.wrap ((c.toNat : Int) - 48)) = ((c.toNat - 48 : Nat) : Int) := by
          rw [w8, wrap_id (by omega) (by omega)]; omega
        have w3 : IntKind.i64.wrap (((acc * 10 : Nat) : Int) + ((c.toNat - 48 : Nat) : Int)) = ((acc * 10 + (c.toNat - 48) : Nat) : Int) := nat_wrap (by omega) (by omega)
        have ih' := ih (pre ++ [c]) (acc * 10 + (c.toNat - 48)) (by rw [hp]; simp) hz (by rw [List.length_append, List.length_singleton, Nat.pow_succ]; omega)
        simp only [spec_l1Num.l0_eq, e1, hb, h1, h2, w1, w2, w3, hn, strs_len, strs_elem, ints_len, ints_elem, items_list, fld_agg, elem_list, toStr_sc, toInt_sc, toBool_sc, headD_one, nat_int, get_bt, decide_eq_true_eq, decide_eq_false_iff_not, decide_true, decide_false, if_true, if_false, ite_self, Bool.not_true, Bool.not_false, Bool.false_eq_true, Bool.true_eq_false, Bool.true_and, Bool.false_and, Bool.and_true, Bool.and_false, not_true, not_false_iff, Option.bind_some, nn, toList_inj, Bool.not_eq_true', Bool.not_eq_false', Int.le_refl, and_self, true_and, and_true, false_and, and_false, bne_self_eq_false, beq_self_eq_true, Int.reduceEq, Nat.reduceEqDiff, List.length_singleton, List.tail_cons, Int.reduceLE, Int.reduceLT, decide_eq_true_eq]
        rw [hd, foldN_cons]
        exact ih'
theorem specNum_ev (s : ByteArray) (hs : s.size ≤ 4294967280) : Ev (fun N => spec_l1Num.f N [strP s]) [intP (numB s)] := by
  simp only [strP, spec_l1Num.f_eq, toStr_sc]
  unfold numB
  by_cases z0 : s.size = 0
  · have e0 : ((s.size : Int) = 0) = True := true_of (by omega)
    simp only [e0, z0, strs_len, strs_elem, ints_len, ints_elem, items_list, fld_agg, elem_list, toStr_sc, toInt_sc, toBool_sc, headD_one, nat_int, get_bt, decide_eq_true_eq, decide_eq_false_iff_not, decide_true, decide_false, if_true, if_false, ite_self, Bool.not_true, Bool.not_false, Bool.false_eq_true, Bool.true_eq_false, Bool.true_and, Bool.false_and, Bool.and_true, Bool.and_false, not_true, not_false_iff, Option.bind_some, nn, toList_inj, Bool.not_eq_true', Bool.not_eq_false', Int.le_refl, and_self, true_and, and_true, false_and, and_false, bne_self_eq_false, beq_self_eq_true, Int.reduceEq, Nat.reduceEqDiff, List.length_singleton, List.tail_cons, Int.reduceLE, Int.reduceLT, decide_eq_true_eq, true_or]
    exact Ev.now _
  · have e0 : ((s.size : Int) = 0) = False := false_of (by omega)
    by_cases z6 : 6 < s.size
    · have e6 : ((6 : Int) < (s.size : Int)) = True := true_of (by omega)
      simp only [e0, e6, z6, strs_len, strs_elem, ints_len, ints_elem, items_list, fld_agg, elem_list, toStr_sc, toInt_sc, toBool_sc, headD_one, nat_int, get_bt, decide_eq_true_eq, decide_eq_false_iff_not, decide_true, decide_false, if_true, if_false, ite_self, Bool.not_true, Bool.not_false, Bool.false_eq_true, Bool.true_eq_false, Bool.true_and, Bool.false_and, Bool.and_true, Bool.and_false, not_true, not_false_iff, Option.bind_some, nn, toList_inj, Bool.not_eq_true', Bool.not_eq_false', Int.le_refl, and_self, true_and, and_true, false_and, and_false, bne_self_eq_false, beq_self_eq_true, Int.reduceEq, Nat.reduceEqDiff, List.length_singleton, List.tail_cons, Int.reduceLE, Int.reduceLT, decide_eq_true_eq, or_true]
      exact Ev.now _
    · have e6 : ((6 : Int) < (s.size : Int)) = False := false_of (by omega)
      have hne : ¬ (s.size = 0 ∨ 6 < s.size) := by omega
      have hk : Ev (fun N => spec_l1Num.l0 N N s 0 0) [intP (if digs (dB s) = true then (foldN 0 (dB s) : Int) else -1)] := (specNum_loop s (dB s) [] 0 rfl (by omega) (by decide)).diag
      have g0 : ((0 : Int) < (s.size : Int)) = True := true_of (by omega)
      have g1 : ((s.get! 0).toNat : Int) = bt s 0 := rfl
      rw [if_neg hne]
      by_cases z1 : 1 < s.size
      · have e1 : ((1 : Int) < (s.size : Int)) = True := true_of (by omega)
        by_cases z8 : bt s 0 = 48
        · simp only [e0, e6, e1, g0, g1, z1, z8, strs_len, strs_elem, ints_len, ints_elem, items_list, fld_agg, elem_list, toStr_sc, toInt_sc, toBool_sc, headD_one, nat_int, get_bt, decide_eq_true_eq, decide_eq_false_iff_not, decide_true, decide_false, if_true, if_false, ite_self, Bool.not_true, Bool.not_false, Bool.false_eq_true, Bool.true_eq_false, Bool.true_and, Bool.false_and, Bool.and_true, Bool.and_false, not_true, not_false_iff, Option.bind_some, nn, toList_inj, Bool.not_eq_true', Bool.not_eq_false', Int.le_refl, and_self, true_and, and_true, false_and, and_false, bne_self_eq_false, beq_self_eq_true, Int.reduceEq, Nat.reduceEqDiff, List.length_singleton, List.tail_cons, Int.reduceLE, Int.reduceLT, decide_eq_true_eq]
          exact Ev.now _
        · simp only [e0, e6, e1, g0, g1, z1, z8, strs_len, strs_elem, ints_len, ints_elem, items_list, fld_agg, elem_list, toStr_sc, toInt_sc, toBool_sc, headD_one, nat_int, get_bt, decide_eq_true_eq, decide_eq_false_iff_not, decide_true, decide_false, if_true, if_false, ite_self, Bool.not_true, Bool.not_false, Bool.false_eq_true, Bool.true_eq_false, Bool.true_and, Bool.false_and, Bool.and_true, Bool.and_false, not_true, not_false_iff, Option.bind_some, nn, toList_inj, Bool.not_eq_true', Bool.not_eq_false', Int.le_refl, and_self, true_and, and_true, false_and, and_false, bne_self_eq_false, beq_self_eq_true, Int.reduceEq, Nat.reduceEqDiff, List.length_singleton, List.tail_cons, Int.reduceLE, Int.reduceLT, decide_eq_true_eq]
          exact hk
      · have e1 : ((1 : Int) < (s.size : Int)) = False := false_of (by omega)
        simp only [e0, e6, e1, z1, strs_len, strs_elem, ints_len, ints_elem, items_list, fld_agg, elem_list, toStr_sc, toInt_sc, toBool_sc, headD_one, nat_int, get_bt, decide_eq_true_eq, decide_eq_false_iff_not, decide_true, decide_false, if_true, if_false, ite_self, Bool.not_true, Bool.not_false, Bool.false_eq_true, Bool.true_eq_false, Bool.true_and, Bool.false_and, Bool.and_true, Bool.and_false, not_true, not_false_iff, Option.bind_some, nn, toList_inj, Bool.not_eq_true', Bool.not_eq_false', Int.le_refl, and_self, true_and, and_true, false_and, and_false, bne_self_eq_false, beq_self_eq_true, Int.reduceEq, Nat.reduceEqDiff, List.length_singleton, List.tail_cons, Int.reduceLE, Int.reduceLT, decide_eq_true_eq]
        exact hk
theorem foldN_app : ∀ (l m : List UInt8) (acc : Nat), foldN acc (l ++ m) = foldN (foldN acc l) m
  | [], _, _ => rfl
  | c :: l, m, acc => foldN_app l m _
theorem foldN_ge : ∀ (l : List UInt8) (acc : Nat), acc ≤ foldN acc l
  | [], _ => Nat.le_refl _
  | c :: l, acc => by
    have := foldN_ge l (acc * 10 + (c.toNat - 48))
    rw [foldN_cons]; omega
theorem parse_digs : ∀ (l : List UInt8) (acc : Nat), digs l = true → foldN acc l < 1000000000 → Lib.parseUint10 acc l = .ok (foldN acc l)
  | [], _, _, _ => rfl
  | c :: l, acc, hd, hb => by
    simp only [digs, List.all_cons, Bool.and_eq_true, decide_eq_true_eq] at hd
    rw [foldN_cons] at hb ⊢
    have := foldN_ge l (acc * 10 + (c.toNat - 48))
    rw [Lib.parseUint10, if_pos hd.1, if_neg (by omega), if_neg (by omega)]
    exact parse_digs l _ hd.2 hb
theorem dec_facts : ∀ (n u : Nat), u < 10 ^ n → 0 < n → (dB (decB u)).length ≤ n ∧ digs (dB (decB u)) = true ∧ foldN 0 (dB (decB u)) = u ∧ ∃ c r, dB (decB u) = c :: r ∧ (1 ≤ u → c.toNat ≠ 48)
  | 0, u, _, h => by omega
  | n + 1, u, h, _ => by
    by_cases h10 : u < 10
    · have e : dB (decB u) = [UInt8.ofNat (48 + u)] := by
        show (Lib.decDigits u).toArray.toList = _
        rw [Lib.decDigits, dif_pos h10]
      have ec : (UInt8.ofNat (48 + u)).toNat = 48 + u := by simp; omega
      rw [e]
      refine ⟨by simp, ?_, ?_, _, _, rfl, fun h1 => by rw [ec]; omega⟩
      · simp only [digs, List.all_cons, List.all_nil, ec, Bool.and_true, decide_eq_true_eq]; omega
      · simp only [foldN_cons, foldN_nil, ec]; omega
    · have hn : 0 < n := by
        cases n with
        | zero => simp at h; omega
        | succ n => omega
      obtain ⟨i1, i2, i3, c, r, i4, i5⟩ := dec_facts n (u / 10) (by rw [Nat.pow_succ] at h; omega) hn
      have e : dB (decB u) = dB (decB (u / 10)) ++ [UInt8.ofNat (48 + u % 10)] := by
        show (Lib.decDigits u).toArray.toList = (Lib.decDigits (u / 10)).toArray.toList ++ _
        rw [Lib.decDigits, dif_neg h10]
      have ec : (UInt8.ofNat (48 + u % 10)).toNat = 48 + u % 10 := by simp; omega
      rw [e]
      refine ⟨by simp; omega, ?_, ?_, c, r ++ [UInt8.ofNat (48 + u % 10)], by rw [i4]; rfl, fun h1 => i5 (by omega)⟩
      · simp only [digs, List.all_append, List.all_cons, List.all_nil, ec, Bool.and_true, Bool.and_eq_true, decide_eq_true_eq]
        exact ⟨i2, by omega⟩
      · rw [foldN_app, i3]
        simp only [foldN_cons, foldN_nil, ec]; omega
theorem numB_dec {u : Nat} (h0 : 1 ≤ u) (h1 : u ≤ 999999) : numB (decB u) = (u : Int) := by
  obtain ⟨i1, i2, i3, c, r, i4, i5⟩ := dec_facts 6 u (by omega) (by omega)
  have hz := dB_len (decB u)
  have hb : bt (decB u) 0 = (c.toNat : Int) := at_dB (pre := []) i4
  have hlen : (dB (decB u)).length = r.length + 1 := by rw [i4]; rfl
  unfold numB
  rw [if_neg (by omega), if_neg (fun h => i5 h0 (by have := h.2; rw [hb] at this; omega)), if_pos i2, i3]
theorem atoi_dec {u : Nat} (h0 : 1 ≤ u) (h1 : u ≤ 999999) : atoiVal (decB u) = (u : Int) := by
  obtain ⟨i1, i2, i3, c, r, i4, i5⟩ := dec_facts 6 u (by omega) (by omega)
  have hp := parse_digs (dB (decB u)) 0 i2 (by rw [i3]; omega)
  rw [i3] at hp
  have hc : 48 ≤ c.toNat ∧ c.toNat ≤ 57 := by
    rw [i4] at i2
    simp only [digs, List.all_cons, Bool.and_eq_true, decide_eq_true_eq] at i2
    exact i2.1
  have ha : Lib.atoiAll (dB (decB u)) = .ok (u : Int) := by
    rw [i4, Lib.atoiAll_plain c r (by omega) (by omega), Lib.parseMag, if_neg (by simp), ← i4, hp, Lib.signless, if_neg (by omega)]
  have hx : Lib.atoiAll (decB u).data.toList = .ok (u : Int) := ha
  unfold atoiVal
  rw [hx]
/-! #### words written by what they begin with, and the rest -/
def comL : List Int → List Int → Nat
  | a :: r, b :: s => if a = b then comL r s + 1 else 0
  | _, _ => 0
theorem comL_le : ∀ (l m : List Int), comL l m ≤ l.length ∧ comL l m ≤ m.length
  | [], m => by simp [comL]
  | _ :: _, [] => by simp [comL]
  | a :: r, b :: s => by
    have := comL_le r s
    rw [comL]
    split
    · simp only [List.length_cons]; omega
    · simp
def comB (a b : ByteArray) : Nat := comL (bytesOf a) (bytesOf b)
theorem comB_le (a b : ByteArray) : comB a b ≤ a.size ∧ comB a b ≤ b.size := by
  have := comL_le (bytesOf a) (bytesOf b)
  rwa [bytesOf_len, bytesOf_len] at this
theorem ext_size0 (a : ByteArray) {n : Nat} (h : n ≤ a.size) : (a.extract 0 n).size = n := by rw [ByteArray.size_extract]; omega
theorem implBegin_loop (a b : ByteArray) (ha : a.size ≤ 4611686018427387904) (hb : b.size ≤ 4611686018427387904) : ∀ (r1 r2 pre : List Int), bytesOf a = pre ++ r1 → bytesOf b = pre ++ r2 → Ev2 (fun N n => impl_Beginning.l0 N n a b (pre.length : Int)) [strP (a.extract 0 (pre.length + comL r1 r2))] := by
  intro r1
  induction r1 with
  | nil =>
    intro r2 pre h1 h2
    have hz := congrArg List.length h1
    rw [bytesOf_len] at hz
    simp only [List.length_append, List.length_nil] at hz
    have e2 : ((pre.length : Int) ≤ (a.size : Int)) = True := true_of (by omega)
    refine Ev2.succ ?_
    simp only [impl_Beginning.l0_eq, at_sizeE h1, e2, strs_len, strs_elem, ints_len, ints_elem, items_list, fld_agg, elem_list, toStr_sc, toInt_sc, toBool_sc, headD_one, nat_int, get_bt, decide_eq_true_eq, decide_eq_false_iff_not, decide_true, decide_false, if_true, if_false, ite_self, Bool.not_true, Bool.not_false, Bool.false_eq_true, Bool.true_eq_false, Bool.true_and, Bool.false_and, Bool.and_true, Bool.and_false, not_true, not_false_iff, Option.bind_some, nn, toList_inj, Bool.not_eq_true', Bool.not_eq_false', Int.le_refl, and_self, true_and, and_true, false_and, and_false, bne_self_eq_false, beq_self_eq_true, Int.reduceEq, Nat.reduceEqDiff, List.length_singleton, List.tail_cons, Int.reduceLE, Int.reduceLT, decide_eq_true_eq, comL, Nat.add_zero]
    exact Ev2.now _
  | cons x r1 ih =>
    intro r2 pre h1 h2
    have hz := congrArg List.length h1
    rw [bytesOf_len] at hz
    simp only [List.length_append, List.length_cons] at hz
    have e2 : ((pre.length : Int) ≤ (a.size : Int)) = True := true_of (by omega)
    refine Ev2.succ ?_
    cases r2 with
    | nil =>
      simp only [impl_Beginning.l0_eq, at_size h1, at_sizeE h2, e2, strs_len, strs_elem, ints_len, ints_elem, items_list, fld_agg, elem_list, toStr_sc, toInt_sc, toBool_sc, headD_one, nat_int, get_bt, decide_eq_true_eq, decide_eq_false_iff_not, decide_true, decide_false, if_true, if_false, ite_self, Bool.not_true, Bool.not_false, Bool.false_eq_true, Bool.true_eq_false, Bool.true_and, Bool.false_and, Bool.and_true, Bool.and_false, not_true, not_false_iff, Option.bind_some, nn, toList_inj, Bool.not_eq_true', Bool.not_eq_false', Int.le_refl, and_self, true_and, and_true, false_and, and_false, bne_self_eq_false, beq_self_eq_true, Int.reduceEq, Nat.reduceEqDiff, List.length_singleton, List.tail_cons, Int.reduceLE, Int.reduceLT, decide_eq_true_eq, comL, Nat.add_zero]
      exact Ev2.now _
    | cons y r2 =>
      have hn := at_next h1 (by rw [bytesOf_len]; omega)
      by_cases hxy : x = y
      · subst hxy
        have ih' := ih r2 (pre ++ [x]) (at_step h1) (at_step h2)
        simp only [impl_Beginning.l0_eq, at_size h1, at_size h2, at_bt h1, at_bt h2, hn, strs_len, strs_elem, ints_len, ints_elem, items_list, fld_agg, elem_list, toStr_sc, toInt_sc, toBool_sc, headD_one, nat_int, get_bt, decide_eq_true_eq, decide_eq_false_iff_not, decide_true, decide_false, if_true, if_false, ite_self, Bool.not_true, Bool.not_false, Bool.false_eq_true, Bool.true_eq_false, Bool.true_and, Bool.false_and, Bool.and_true, Bool.and_false, not_true, not_false_iff, Option.bind_some, nn, toList_inj, Bool.not_eq_true', Bool.not_eq_false', Int.le_refl, and_self, true_and, and_true, false_and, and_false, bne_self_eq_false, beq_self_eq_true, Int.reduceEq, Nat.reduceEqDiff, List.length_singleton, List.tail_cons, Int.reduceLE, Int.reduceLT, decide_eq_true_eq]
        rw [comL, if_pos rfl]
        rw [List.length_append, List.length_singleton, Nat.add_assoc, Nat.add_comm 1] at ih'
        simpa using ih'
      · simp only [impl_Beginning.l0_eq, at_size h1, at_size h2, at_bt h1, at_bt h2, eq_false hxy, e2, strs_len, strs_elem, ints_len, ints_elem, items_list, fld_agg, elem_list, toStr_sc, toInt_sc, toBool_sc, headD_one, nat_int, get_bt, decide_eq_true_eq, decide_eq_false_iff_not, decide_true, decide_false, if_true, if_false, ite_self, Bool.not_true, Bool.not_false, Bool.false_eq_true, Bool.true_eq_false, Bool.true_and, Bool.false_and, Bool.and_true, Bool.and_false, not_true, not_false_iff, Option.bind_some, nn, toList_inj, Bool.not_eq_true', Bool.not_eq_false', Int.le_refl, and_self, true_and, and_true, false_and, and_false, bne_self_eq_false, beq_self_eq_true, Int.reduceEq, Nat.reduceEqDiff, List.length_singleton, List.tail_cons, Int.reduceLE, Int.reduceLT, decide_eq_true_eq]
        rw [comL, if_neg hxy, Nat.add_zero]
        exact Ev2.now _
theorem implBegin_ev (a b : ByteArray) (ha : a.size ≤ 4611686018427387904) (hb : b.size ≤ 4611686018427387904) : Ev (fun N => impl_Beginning.f N [strP a, strP b]) [strP (a.extract 0 (comB a b))] := by
  simp only [strP, impl_Beginning.f_eq, toStr_sc]
  have := (implBegin_loop a b ha hb (bytesOf a) (bytesOf b) [] rfl rfl).diag
  rw [List.length_nil, Nat.zero_add] at this
  exact this
theorem specBegin_loop (a b : ByteArray) (ha : a.size ≤ 4611686018427387904) (hb : b.size ≤ 4611686018427387904) : ∀ (r1 r2 pre : List Int), bytesOf a = pre ++ r1 → bytesOf b = pre ++ r2 → Ev2 (fun N n => spec_Beginning.l0 N n a b (pre.length : Int)) [strP (a.extract 0 (pre.length + comL r1 r2))] := by
  intro r1
  induction r1 with
  | nil =>
    intro r2 pre h1 h2
    have hz := congrArg List.length h1
    rw [bytesOf_len] at hz
    simp only [List.length_append, List.length_nil] at hz
    have e2 : ((pre.length : Int) ≤ (a.size : Int)) = True := true_of (by omega)
    refine Ev2.succ ?_
    simp only [spec_Beginning.l0_eq, at_sizeE h1, e2, strs_len, strs_elem, ints_len, ints_elem, items_list, fld_agg, elem_list, toStr_sc, toInt_sc, toBool_sc, headD_one, nat_int, get_bt, decide_eq_true_eq, decide_eq_false_iff_not, decide_true, decide_false, if_true, if_false, ite_self, Bool.not_true, Bool.not_false, Bool.false_eq_true, Bool.true_eq_false, Bool.true_and, Bool.false_and, Bool.and_true, Bool.and_false, not_true, not_false_iff, Option.bind_some, nn, toList_inj, Bool.not_eq_true', Bool.not_eq_false', Int.le_refl, and_self, true_and, and_true, false_and, and_false, bne_self_eq_false, beq_self_eq_true, Int.reduceEq, Nat.reduceEqDiff, List.length_singleton, List.tail_cons, Int.reduceLE, Int.reduceLT, decide_eq_true_eq, comL, Nat.add_zero]
    exact Ev2.now _
  | cons x r1 ih =>
    intro r2 pre h1 h2
    have hz := congrArg List.length h1
    rw [bytesOf_len] at hz
    simp only [List.length_append, List.length_cons] at hz
    have e2 : ((pre.length : Int) ≤ (a.size : Int)) = True := true_of (by omega)
    refine Ev2.succ ?_
    cases r2 with
    | nil =>
      simp only [spec_Beginning.l0_eq, at_size h1, at_sizeE h2, e2, strs_len, strs_elem, ints_len, ints_elem, items_list, fld_agg, elem_list, toStr_sc, toInt_sc, toBool_sc, headD_one, nat_int, get_bt, decide_eq_true_eq, decide_eq_false_iff_not, decide_true, decide_false, if_true, if_false, ite_self, Bool.not_true, Bool.not_false, Bool.false_eq_true, Bool.true_eq_false, Bool.true_and, Bool.false_and, Bool.and_true, Bool.and_false, not_true, not_false_iff, Option.bind_some, nn, toList_inj, Bool.not_eq_true', Bool.not_eq_false', Int.le_refl, and_self, true_and, and_true, false_and, and_false, bne_self_eq_false, beq_self_eq_true, Int.reduceEq, Nat.reduceEqDiff, List.length_singleton, List.tail_cons, Int.reduceLE, Int.reduceLT, decide_eq_true_eq, comL, Nat.add_zero]
      exact Ev2.now _
    | cons y r2 =>
      have hn := at_next h1 (by rw [bytesOf_len]; omega)
      by_cases hxy : x = y
      · subst hxy
        have ih' := ih r2 (pre ++ [x]) (at_step h1) (at_step h2)
        simp only [spec_Beginning.l0_eq, at_size h1, at_size h2, at_bt h1, at_bt h2, hn, strs_len, strs_elem, ints_len, ints_elem, items_list, fld_agg, elem_list, toStr_sc, toInt_sc, toBool_sc, headD_one, nat_int, get_bt, decide_eq_true_eq, decide_eq_false_iff_not, decide_true, decide_false, if_true, if_false, ite_self, Bool.not_true, Bool.not_false, Bool.false_eq_true, Bool.true_eq_false, Bool.true_and, Bool.false_and, Bool.and_true, Bool.and_false, not_true, not_false_iff, Option.bind_some, nn, toList_inj, Bool.not_eq_true', Bool.not_eq_false', Int.le_refl, and_self, true_and, and_true, false_and, and_false, bne_self_eq_false, beq_self_eq_true, Int.reduceEq, Nat.reduceEqDiff, List.length_singleton, List.tail_cons, Int.reduceLE, Int.reduceLT, decide_eq_true_eq]
        rw [comL, if_pos rfl]
        rw [List.length_append, List.length_singleton, Nat.add_assoc, Nat.add_comm 1] at ih'
        simpa using ih'
      · simp only [spec_Beginning.l0_eq, at_size h1, at_size h2, at_bt h1, at_bt h2, eq_false hxy, e2, strs_len, strs_elem, ints_len, ints_elem, items_list, fld_agg, elem_list, toStr_sc, toInt_sc, toBool_sc, headD_one, nat_int, get_bt, decide_eq_true_eq, decide_eq_false_iff_not, decide_true, decide_false, if_true, if_false, ite_self, Bool.not_true, Bool.not_false, Bool.false_eq_true, Bool.true_eq_false, Bool.true_and, Bool.false_and, Bool.and_true, Bool.and_false, not_true, not_false_iff, Option.bind_some, nn, toList_inj, Bool.not_eq_true', Bool.not_eq_false', Int.le_refl, and_self, true_and, and_true, false_and, and_false, bne_self_eq_false, beq_self_eq_true, Int.reduceEq, Nat.reduceEqDiff, List.length_singleton, List.tail_cons, Int.reduceLE, Int.reduceLT, decide_eq_true_eq]
        rw [comL, if_neg hxy, Nat.add_zero]
        exact Ev2.now _
theorem specBegin_ev (a b : ByteArray) (ha : a.size ≤ 4611686018427387904) (hb : b.size ≤ 4611686018427387904) : Ev (fun N => spec_Beginning.f N [strP a, strP b]) [strP (a.extract 0 (comB a b))] := by
  simp only [strP, spec_Beginning.f_eq, toStr_sc]
  have := (specBegin_loop a b ha hb (bytesOf a) (bytesOf b) [] rfl rfl).diag
  rw [List.length_nil, Nat.zero_add] at this
  exact this
def lineF (last w : ByteArray) : ByteArray := decB (comB last w) ++ w.extract (comB last w) w.size ++ ByteArray.mk #[10]
def frontL : List ByteArray → ByteArray → ByteArray → ByteArray
  | [], _, acc => acc
  | w :: r, last, acc => frontL r w (acc ++ lineF last w)
def frontM (ws : List ByteArray) : ByteArray := if wordsM ws 300 = true then frontL ws ⟨#[]⟩ ⟨#[]⟩ else ⟨#[]⟩
theorem ascW_words : ∀ {l : List ByteArray} {p : Option ByteArray}, ascW p l = true → ∀ w ∈ l, isWord w = true
  | [], _, _, w, hw => by cases hw
  | c :: r, none, h, w, hw => by
    simp only [ascW, Bool.and_eq_true] at h
    rcases List.mem_cons.1 hw with rfl | hw
    · exact h.1
    · exact ascW_words h.2 w hw
  | c :: r, some q, h, w, hw => by
    simp only [ascW, Bool.and_eq_true] at h
    rcases List.mem_cons.1 hw with rfl | hw
    · exact h.1.1
    · exact ascW_words h.2 w hw
theorem words_facts {ws : List ByteArray} (h : wordsM ws 300 = true) : ws.length ≤ 300 ∧ ∀ w ∈ ws, w.size ≤ 12 := by
  simp only [wordsM, Bool.and_eq_true, decide_eq_true_eq] at h
  refine ⟨by omega, fun w hw => ?_⟩
  have := ascW_words h.1 w hw
  simp only [isWord, Bool.and_eq_true, decide_eq_true_eq] at this
  exact this.1.2
theorem lineF_parts {last w : ByteArray} (hw : w.size ≤ 12) : (decB (comB last w)).size ≤ 3 ∧ (w.extract (comB last w) w.size).size ≤ 12 ∧ (lineF last w).size = (decB (comB last w)).size + (w.extract (comB last w) w.size).size + 1 := by
  have h1 := comB_le last w
  have h2 := dec_size 2 (comB last w) (by omega)
  have h10 : (ByteArray.mk #[10]).size = 1 := rfl
  refine ⟨h2, by rw [ByteArray.size_extract]; omega, ?_⟩
  rw [lineF, app_size, app_size, h10]
theorem implFrontG_ev : ∀ (ws : List ByteArray) (last acc : ByteArray), last.size ≤ 12 → (∀ w ∈ ws, w.size ≤ 12) → acc.size + 20 * ws.length ≤ 100000 → Ev (fun N => impl_FrontPut.g N ws last acc) (frontL ws last acc)
  | [], last, acc, _, _, _ => Ev.now _
  | w :: r, last, acc, hl, hw, ha => by
    have hw1 := hw w (by simp)
    obtain ⟨p1, p2, p3⟩ := lineF_parts (last := last) hw1
    have hc := comB_le last w
    simp only [List.length_cons] at ha
    have hz := ext_size0 last hc.1
    simp only [impl_FrontPut.g]
    refine Ev.bind (implBegin_ev last w (by omega) (by omega)) ?_
    have e : itoaB ((comB last w : Nat) : Int) ++ w.extract (comB last w) w.size ++ ByteArray.mk #[10] = lineF last w := by rw [itoa_dec]; rfl
    have q1 : (comB last w ≤ w.size ∧ comB last w ≤ 1099511627776) = True := true_of ⟨hc.2, by omega⟩
    have q2 : (acc.size + (lineF last w).size ≤ 140737488355328) = True := true_of (by omega)
    simp only [headD_one, toStr_sc, hz, q1, e, q2, if_true]
    rw [frontL]
    exact implFrontG_ev r w (acc ++ lineF last w) hw1 (fun x hx => hw x (by simp [hx])) (by rw [app_size]; omega)
theorem implFront_ev (ws : List ByteArray) (hl : ws.length ≤ 1099511627776) (hs : ∀ s ∈ ws, s.size ≤ 9223372036854775807) : Ev (fun N => impl_FrontPut.f N [strsP ws]) [strP (frontM ws)] := by
  have e1 : (strsP ws).items.length = ws.length := by simp [strsP, PV.items]
  have e2 : (strsP ws).items.map PV.toStr = ws := by simp [strsP, PV.items, Function.comp_def, PV.toStr]
  have hgo : ∀ N, impl_FrontPut.f N [strsP ws] = (impl_wordsOk.f N [strsP ws, intP 300]).bind fun t => if (!((t.headD default).toBool)) = true then some [strP ⟨#[]⟩] else (impl_FrontPut.g N ws ⟨#[]⟩ ⟨#[]⟩).bind fun s => some [strP s] := fun N => by
    show (if (strsP ws).items.length ≤ 1099511627776 then _ else none) = _
    rw [e1, if_pos hl, e2]
  refine Ev.congr hgo ?_
  refine Ev.bind (implWords_ev ws 300 (by omega) hs) ?_
  unfold frontM
  cases h : wordsM ws 300 with
  | false => simp only [strs_len, strs_elem, ints_len, ints_elem, items_list, fld_agg, elem_list, toStr_sc, toInt_sc, toBool_sc, headD_one, nat_int, get_bt, decide_eq_true_eq, decide_eq_false_iff_not, decide_true, decide_false, if_true, if_false, ite_self, Bool.not_true, Bool.not_false, Bool.false_eq_true, Bool.true_eq_false, Bool.true_and, Bool.false_and, Bool.and_true, Bool.and_false, not_true, not_false_iff, Option.bind_some, nn, toList_inj, Bool.not_eq_true', Bool.not_eq_false', Int.le_refl, and_self, true_and, and_true, false_and, and_false, bne_self_eq_false, beq_self_eq_true, Int.reduceEq, Nat.reduceEqDiff, List.length_singleton, List.tail_cons, Int.reduceLE, Int.reduceLT, decide_eq_true_eq]; exact Ev.now _
  | true =>
    obtain ⟨n1, n2⟩ := words_facts h
    simp only [strs_len, strs_elem, ints_len, ints_elem, items_list, fld_agg, elem_list, toStr_sc, toInt_sc, toBool_sc, headD_one, nat_int, get_bt, decide_eq_true_eq, decide_eq_false_iff_not, decide_true, decide_false, if_true, if_false, ite_self, Bool.not_true, Bool.not_false, Bool.false_eq_true, Bool.true_eq_false, Bool.true_and, Bool.false_and, Bool.and_true, Bool.and_false, not_true, not_false_iff, Option.bind_some, nn, toList_inj, Bool.not_eq_true', Bool.not_eq_false', Int.le_refl, and_self, true_and, and_true, false_and, and_false, bne_self_eq_false, beq_self_eq_true, Int.reduceEq, Nat.reduceEqDiff, List.length_singleton, List.tail_cons, Int.reduceLE, Int.reduceLT, decide_eq_true_eq]
    refine Ev.bind (implFrontG_ev ws ⟨#[]⟩ ⟨#[]⟩ (by decide) n2 (by show 0 + _ ≤ _; omega)) ?_
    exact Ev.now _
theorem specFront_loop {ws : List ByteArray} (h : wordsM ws 300 = true) (hs : ∀ s ∈ ws, s.size ≤ 9223372036854775807) : ∀ (rest pre : List ByteArray) (last acc : ByteArray), ws = pre ++ rest → last.size ≤ 12 → acc.size + 20 * rest.length ≤ 100000 →
    Ev2 (fun N n => spec_FrontPut.l0 N n (strsP ws) acc last (pre.length : Int)) [strP (frontL rest last acc)] := by
  obtain ⟨n1, n2⟩ := words_facts h
  have hok := specWords_ev ws (by omega) hs
  intro rest
  induction rest with
  | nil =>
    intro pre last acc hp hl ha
    refine Ev2.succ ?_
    simp only [spec_FrontPut.l0_eq, at_end hp, strs_len, strs_elem, ints_len, ints_elem, items_list, fld_agg, elem_list, toStr_sc, toInt_sc, toBool_sc, headD_one, nat_int, get_bt, decide_eq_true_eq, decide_eq_false_iff_not, decide_true, decide_false, if_true, if_false, ite_self, Bool.not_true, Bool.not_false, Bool.false_eq_true, Bool.true_eq_false, Bool.true_and, Bool.false_and, Bool.and_true, Bool.and_false, not_true, not_false_iff, Option.bind_some, nn, toList_inj, Bool.not_eq_true', Bool.not_eq_false', Int.le_refl, and_self, true_and, and_true, false_and, and_false, bne_self_eq_false, beq_self_eq_true, Int.reduceEq, Nat.reduceEqDiff, List.length_singleton, List.tail_cons, Int.reduceLE, Int.reduceLT, decide_eq_true_eq]
    exact Ev2.now _
  | cons w rest ih =>
    intro pre last acc hp hl ha
    have hw1 := n2 w (by rw [hp]; simp)
    obtain ⟨p1, p2, p3⟩ := lineF_parts (last := last) hw1
    have hc := comB_le last w
    simp only [List.length_cons] at ha
    have hz := ext_size0 last hc.1
    have hn := at_next hp (by omega)
    have h10 : (ByteArray.mk #[10]).size = 1 := rfl
    have q1 : (acc.size + (decB (comB last w)).size ≤ 9223372036854775807) = True := true_of (by omega)
    have q2 : (((comB last w : Nat) : Int) ≤ (w.size : Int)) = True := true_of (by omega)
    have q3 : ((acc ++ decB (comB last w)).size + (w.extract (comB last w) w.size).size ≤ 9223372036854775807) = True := true_of (by rw [app_size]; omega)
    have q4 : (((acc ++ decB (comB last w)) ++ w.extract (comB last w) w.size).size + 1 ≤ 9223372036854775807) = True := true_of (by rw [app_size, app_size]; omega)
    refine Ev2.succ ?_
    simp only [spec_FrontPut.l0_eq, eq_true (at_lt hp), strs_len, strs_elem, ints_len, ints_elem, items_list, fld_agg, elem_list, toStr_sc, toInt_sc, toBool_sc, headD_one, nat_int, get_bt, decide_eq_true_eq, decide_eq_false_iff_not, decide_true, decide_false, if_true, if_false, ite_self, Bool.not_true, Bool.not_false, Bool.false_eq_true, Bool.true_eq_false, Bool.true_and, Bool.false_and, Bool.and_true, Bool.and_false, not_true, not_false_iff, Option.bind_some, nn, toList_inj, Bool.not_eq_true', Bool.not_eq_false', Int.le_refl, and_self, true_and, and_true, false_and, and_false, bne_self_eq_false, beq_self_eq_true, Int.reduceEq, Nat.reduceEqDiff, List.length_singleton, List.tail_cons, Int.reduceLE, Int.reduceLT, decide_eq_true_eq]
    refine Ev2.bind hok ?_
    simp only [h, at_getD hp, eq_true (at_lt hp), strs_len, strs_elem, ints_len, ints_elem, items_list, fld_agg, elem_list, toStr_sc, toInt_sc, toBool_sc, headD_one, nat_int, get_bt, decide_eq_true_eq, decide_eq_false_iff_not, decide_true, decide_false, if_true, if_false, ite_self, Bool.not_true, Bool.not_false, Bool.false_eq_true, Bool.true_eq_false, Bool.true_and, Bool.false_and, Bool.and_true, Bool.and_false, not_true, not_false_iff, Option.bind_some, nn, toList_inj, Bool.not_eq_true', Bool.not_eq_false', Int.le_refl, and_self, true_and, and_true, false_and, and_false, bne_self_eq_false, beq_self_eq_true, Int.reduceEq, Nat.reduceEqDiff, List.length_singleton, List.tail_cons, Int.reduceLE, Int.reduceLT, decide_eq_true_eq]
    refine Ev2.bind (specBegin_ev last w (by omega) (by omega)) ?_
    simp only [headD_one, toStr_sc, hz]
    refine Ev2.bind (specDec_ev (comB last w) (by omega)) ?_
    simp only [headD_one, toStr_sc, q1, q2, q3, q4, h10, hn, strs_len, strs_elem, ints_len, ints_elem, items_list, fld_agg, elem_list, toStr_sc, toInt_sc, toBool_sc, headD_one, nat_int, get_bt, decide_eq_true_eq, decide_eq_false_iff_not, decide_true, decide_false, if_true, if_false, ite_self, Bool.not_true, Bool.not_false, Bool.false_eq_true, Bool.true_eq_false, Bool.true_and, Bool.false_and, Bool.and_true, Bool.and_false, not_true, not_false_iff, Option.bind_some, nn, toList_inj, Bool.not_eq_true', Bool.not_eq_false', Int.le_refl, and_self, true_and, and_true, false_and, and_false, bne_self_eq_false, beq_self_eq_true, Int.reduceEq, Nat.reduceEqDiff, List.length_singleton, List.tail_cons, Int.reduceLE, Int.reduceLT, decide_eq_true_eq]
    have := ih (pre ++ [w]) w (acc ++ lineF last w) (at_step hp) hw1 (by rw [app_size]; omega)
    have e : acc ++ lineF last w = ((acc ++ decB (comB last w)) ++ w.extract (comB last w) w.size) ++ ByteArray.mk #[10] := by
      rw [lineF]; simp only [ByteArray.append_assoc]
    rw [frontL]
    rw [e] at this ⊢
    exact this
theorem specFront_ev (ws : List ByteArray) (hl : ws.length ≤ 1099511627776) (hs : ∀ s ∈ ws, s.size ≤ 9223372036854775807) : Ev (fun N => spec_FrontPut.f N [strsP ws]) [strP (frontM ws)] := by
  simp only [spec_FrontPut.f_eq]
  unfold frontM
  cases h : wordsM ws 300 with
  | false =>
    refine Ev2.diag (g := fun N n => spec_FrontPut.l0 N n (strsP ws) (ByteArray.mk #[]) (ByteArray.mk #[]) 0) (Ev2.succ ?_)
    by_cases h0 : (0 : Int) < (ws.length : Int)
    · simp only [spec_FrontPut.l0_eq, h0, strs_len, strs_elem, ints_len, ints_elem, items_list, fld_agg, elem_list, toStr_sc, toInt_sc, toBool_sc, headD_one, nat_int, get_bt, decide_eq_true_eq, decide_eq_false_iff_not, decide_true, decide_false, if_true, if_false, ite_self, Bool.not_true, Bool.not_false, Bool.false_eq_true, Bool.true_eq_false, Bool.true_and, Bool.false_and, Bool.and_true, Bool.and_false, not_true, not_false_iff, Option.bind_some, nn, toList_inj, Bool.not_eq_true', Bool.not_eq_false', Int.le_refl, and_self, true_and, and_true, false_and, and_false, bne_self_eq_false, beq_self_eq_true, Int.reduceEq, Nat.reduceEqDiff, List.length_singleton, List.tail_cons, Int.reduceLE, Int.reduceLT, decide_eq_true_eq]
      refine Ev2.bind (specWords_ev ws (by omega) hs) ?_
      simp only [h, strs_len, strs_elem, ints_len, ints_elem, items_list, fld_agg, elem_list, toStr_sc, toInt_sc, toBool_sc, headD_one, nat_int, get_bt, decide_eq_true_eq, decide_eq_false_iff_not, decide_true, decide_false, if_true, if_false, ite_self, Bool.not_true, Bool.not_false, Bool.false_eq_true, Bool.true_eq_false, Bool.true_and, Bool.false_and, Bool.and_true, Bool.and_false, not_true, not_false_iff, Option.bind_some, nn, toList_inj, Bool.not_eq_true', Bool.not_eq_false', Int.le_refl, and_self, true_and, and_true, false_and, and_false, bne_self_eq_false, beq_self_eq_true, Int.reduceEq, Nat.reduceEqDiff, List.length_singleton, List.tail_cons, Int.reduceLE, Int.reduceLT, decide_eq_true_eq]
      exact Ev2.now _
    · simp only [spec_FrontPut.l0_eq, h0, strs_len, strs_elem, ints_len, ints_elem, items_list, fld_agg, elem_list, toStr_sc, toInt_sc, toBool_sc, headD_one, nat_int, get_bt, decide_eq_true_eq, decide_eq_false_iff_not, decide_true, decide_false, if_true, if_false, ite_self, Bool.not_true, Bool.not_false, Bool.false_eq_true, Bool.true_eq_false, Bool.true_and, Bool.false_and, Bool.and_true, Bool.and_false, not_true, not_false_iff, Option.bind_some, nn, toList_inj, Bool.not_eq_true', Bool.not_eq_false', Int.le_refl, and_self, true_and, and_true, false_and, and_false, bne_self_eq_false, beq_self_eq_true, Int.reduceEq, Nat.reduceEqDiff, List.length_singleton, List.tail_cons, Int.reduceLE, Int.reduceLT, decide_eq_true_eq]
      exact Ev2.now _
  | true =>
    obtain ⟨n1, _⟩ := words_facts h
    exact (specFront_loop h hs ws [] ⟨#[]⟩ ⟨#[]⟩ rfl (by decide) (by show 0 + _ ≤ _; omega)).diag
/-! #### lines of a number and the rest (for FnExactFrontGet) -/
theorem numB_decA {u : Nat} (h1 : u ≤ 999999) : numB (decB u) = (u : Int) := by
  by_cases h0 : 1 ≤ u
  · exact numB_dec h0 h1
  · have : u = 0 := by omega
    subst this
    obtain ⟨i1, i2, i3, c, r, i4, _⟩ := dec_facts 1 0 (by omega) (by omega)
    have hz := dB_len (decB 0)
    have hlen : (dB (decB 0)).length = r.length + 1 := by rw [i4]; rfl
    unfold numB
    rw [if_neg (by omega), if_neg (by omega), if_pos i2, i3]
theorem atoi_decA {u : Nat} (h1 : u ≤ 999999) : atoiVal (decB u) = (u : Int) ∧ atoiErr (decB u) = false := by
  obtain ⟨i1, i2, i3, c, r, i4, i5⟩ := dec_facts 6 u (by omega) (by omega)
  have hp := parse_digs (dB (decB u)) 0 i2 (by rw [i3]; omega)
  rw [i3] at hp
  have hc : 48 ≤ c.toNat ∧ c.toNat ≤ 57 := by
    rw [i4] at i2
    simp only [digs, List.all_cons, Bool.and_eq_true, decide_eq_true_eq] at i2
    exact i2.1
  have ha : Lib.atoiAll (dB (decB u)) = .ok (u : Int) := by
    rw [i4, Lib.atoiAll_plain c r (by omega) (by omega), Lib.parseMag, if_neg (by simp), ← i4, hp, Lib.signless, if_neg (by omega)]
  have hx : Lib.atoiAll (decB u).data.toList = .ok (u : Int) := ha
  unfold atoiVal atoiErr
  rw [hx]; exact ⟨rfl, rfl⟩
/-- Of figures alone Atoi gives no number below nought. -/
theorem atoi_pos {s : ByteArray} (hd : digs (dB s) = true) (he : atoiErr s = false) : 0 ≤ atoiVal s := by
  have hx : Lib.atoiAll s.data.toList = Lib.atoiAll (dB s) := rfl
  unfold atoiVal
  unfold atoiErr at he
  rw [hx] at he ⊢
  cases hl : dB s with
  | nil => rw [hl] at he; simp [Lib.atoiAll] at he
  | cons c r =>
    rw [hl] at hd he
    have hc : 48 ≤ c.toNat ∧ c.toNat ≤ 57 := by
      simp only [digs, List.all_cons, Bool.and_eq_true, decide_eq_true_eq] at hd
      exact hd.1
    rw [Lib.atoiAll_plain c r (by omega) (by omega)] at he ⊢
    rcases hm : Lib.parseMag (c :: r) with u | _ | _
    · rw [hm] at he
      simp only [Lib.signless] at he ⊢
      split
      · rename_i v hv
        split at hv
        · cases hv
        · injection hv with hv; omega
      · rename_i hv; rw [hv] at he; cases he
      · omega
    · rw [hm] at he; simp [Lib.signless] at he
    · rw [hm] at he; simp [Lib.signless] at he
/-! The figures ahead of a line, and the rest. -/
def isDig (c : UInt8) : Bool := decide (48 ≤ c.toNat ∧ c.toNat ≤ 57)
def headN : List UInt8 → Nat
  | [] => 0
  | c :: r => if isDig c = true then headN r + 1 else 0
theorem headN_le : ∀ l : List UInt8, headN l ≤ l.length
  | [] => Nat.le_refl _
  | c :: r => by
    have := headN_le r
    rw [headN]; split <;> simp; omega
theorem headN_digs : ∀ l : List UInt8, digs (l.take (headN l)) = true
  | [] => rfl
  | c :: r => by
    rw [headN]
    split
    · rename_i h
      rw [List.take_succ_cons]
      simp only [digs, List.all_cons]
      rw [show decide (48 ≤ c.toNat ∧ c.toNat ≤ 57) = isDig c from rfl, h, Bool.true_and]
      exact headN_digs r
    · rfl
theorem set_isDig (c : UInt8) : ([48, 49, 50, 51, 52, 53, 54, 55, 56, 57] : List UInt8).contains c = isDig c := by
  have h : ∀ n : Fin 256, (([48, 49, 50, 51, 52, 53, 54, 55, 56, 57] : List UInt8).contains (UInt8.ofNat n.val)) = isDig (UInt8.ofNat n.val) := by decide +kernel
  have := h ⟨c.toNat, c.toNat_lt⟩
  rwa [show UInt8.ofNat c.toNat = c from by simp] at this
theorem trim_drop : ∀ l : List UInt8, Lib.trimLeftS l [48, 49, 50, 51, 52, 53, 54, 55, 56, 57] = l.drop (headN l)
  | [] => rfl
  | c :: r => by
    have ih := trim_drop r
    unfold Lib.trimLeftS at ih ⊢
    rw [List.dropWhile_cons, set_isDig, headN]
    split
    · rw [List.drop_succ_cons]; exact ih
    · rfl
theorem headN_app {l m : List UInt8} (hl : digs l = true) (hm : ∀ c r, m = c :: r → isDig c = false) : headN (l ++ m) = l.length := by
  induction l with
  | nil =>
    cases m with
    | nil => rfl
    | cons c r => rw [List.nil_append, headN, if_neg (by rw [hm c r rfl]; simp)]; rfl
  | cons c l ih =>
    simp only [digs, List.all_cons, Bool.and_eq_true] at hl
    have hc : isDig c = true := hl.1
    rw [List.cons_append, headN, if_pos hc, ih hl.2]; rfl
theorem specLine_loop (s : ByteArray) (hs : s.size ≤ 4294967280) : ∀ (rest pre : List UInt8), dB s = pre ++ rest → Ev2 (fun N n => spec_l12Front.l0 N n s (pre.length : Int)) [intP (numB (s.extract 0 (pre.length + headN rest))), strP (s.extract (pre.length + headN rest) s.size)] := by
  have fin : ∀ k : Nat, k ≤ s.size → Ev (fun N => spec_l1Num.f N [strP (s.extract 0 k)]) [intP (numB (s.extract 0 k))] := fun k hk => specNum_ev _ (by rw [ByteArray.size_extract]; omega)
  intro rest
  induction rest with
  | nil =>
    intro pre hp
    have hz := congrArg List.length hp
    rw [dB_len] at hz
    simp only [List.length_append, List.length_nil] at hz
    have e1 : ((pre.length : Int) < (s.size : Int)) = False := false_of (by omega)
    have e2 : ((pre.length : Int) ≤ (s.size : Int)) = True := true_of (by omega)
    refine Ev2.succ ?_
    simp only [spec_l12Front.l0_eq, e1, e2, strs_len, strs_elem, ints_len, ints_elem, items_list, fld_agg, elem_list, toStr_sc, toInt_sc, toBool_sc, headD_one, nat_int, get_bt, decide_eq_true_eq, decide_eq_false_iff_not, decide_true, decide_false, if_true, if_false, ite_self, Bool.not_true, Bool.not_false, Bool.false_eq_true, Bool.true_eq_false, Bool.true_and, Bool.false_and, Bool.and_true, Bool.and_false, not_true, not_false_iff, Option.bind_some, nn, toList_inj, Bool.not_eq_true', Bool.not_eq_false', Int.le_refl, and_self, true_and, and_true, false_and, and_false, bne_self_eq_false, beq_self_eq_true, Int.reduceEq, Nat.reduceEqDiff, List.length_singleton, List.tail_cons, Int.reduceLE, Int.reduceLT, decide_eq_true_eq, headN, Nat.add_zero]
    refine Ev2.bind (fin pre.length (by omega)) ?_
    simp only [strs_len, strs_elem, ints_len, ints_elem, items_list, fld_agg, elem_list, toStr_sc, toInt_sc, toBool_sc, headD_one, nat_int, get_bt, decide_eq_true_eq, decide_eq_false_iff_not, decide_true, decide_false, if_true, if_false, ite_self, Bool.not_true, Bool.not_false, Bool.false_eq_true, Bool.true_eq_false, Bool.true_and, Bool.false_and, Bool.and_true, Bool.and_false, not_true, not_false_iff, Option.bind_some, nn, toList_inj, Bool.not_eq_true', Bool.not_eq_false', Int.le_refl, and_self, true_and, and_true, false_and, and_false, bne_self_eq_false, beq_self_eq_true, Int.reduceEq, Nat.reduceEqDiff, List.length_singleton, List.tail_cons, Int.reduceLE, Int.reduceLT, decide_eq_true_eq]
    exact Ev2.now _
  | cons c rest ih =>
    intro pre hp
    have hz := congrArg List.length hp
    rw [dB_len] at hz
    simp only [List.length_append, List.length_cons] at hz
    have e1 : ((pre.length : Int) < (s.size : Int)) = True := true_of (by omega)
    have e2 : ((pre.length : Int) ≤ (s.size : Int)) = True := true_of (by omega)
    have hb := at_dB hp
    have hn : IntKind.i64.wrap ((pre.length : Int) + 1) = ((pre ++ [c]).length : Int) := by
      rw [wrap_id (by omega) (by omega)]; simp
    refine Ev2.succ ?_
    rw [headN]
    by_cases h1 : (48 : Int) ≤ (c.toNat : Int)
    · by_cases h2 : (c.toNat : Int) ≤ 57
      · have hd : isDig c = true := by unfold isDig; exact decide_eq_true (by omega)
        have ih' := ih (pre ++ [c]) (by rw [hp]; simp)
        simp only [spec_l12Front.l0_eq, e1, hb, h1, h2, hn, hd, strs_len, strs_elem, ints_len, ints_elem, items_list, fld_agg, elem_list, toStr_sc, toInt_sc, toBool_sc, headD_one, nat_int, get_bt, decide_eq_true_eq, decide_eq_false_iff_not, decide_true, decide_false, if_true, if_false, ite_self, Bool.not_true, Bool.not_false, Bool.false_eq_true, Bool.true_eq_false, Bool.true_and, Bool.false_and, Bool.and_true, Bool.and_false, not_true, not_false_iff, Option.bind_some, nn, toList_inj, Bool.not_eq_true', Bool.not_eq_false', Int.le_refl, and_self, true_and, and_true, false_and, and_false, bne_self_eq_false, beq_self_eq_true, Int.reduceEq, Nat.reduceEqDiff, List.length_singleton, List.tail_cons, Int.reduceLE, Int.reduceLT, decide_eq_true_eq]
        rw [List.length_append, List.length_singleton, Nat.add_assoc, Nat.add_comm 1] at ih'
        simpa using ih'
      · have hd : isDig c = false := by unfold isDig; exact decide_eq_false (by omega)
        simp only [spec_l12Front.l0_eq, e1, e2, hb, h1, h2, hd, strs_len, strs_elem, ints_len, ints_elem, items_list, fld_agg, elem_list, toStr_sc, toInt_sc, toBool_sc, headD_one, nat_int, get_bt, decide_eq_true_eq, decide_eq_false_iff_not, decide_true, decide_false, if_true, if_false, ite_self, Bool.not_true, Bool.not_false, Bool.false_eq_true, Bool.true_eq_false, Bool.true_and, Bool.false_and, Bool.and_true, Bool.and_false, not_true, not_false_iff, Option.bind_some, nn, toList_inj, Bool.not_eq_true', Bool.not_eq_false', Int.le_refl, and_self, true_and, and_true, false_and, and_false, bne_self_eq_false, beq_self_eq_true, Int.reduceEq, Nat.reduceEqDiff, List.length_singleton, List.tail_cons, Int.reduceLE, Int.reduceLT, decide_eq_true_eq, Nat.add_zero]
        refine Ev2.bind (fin pre.length (by omega)) ?_
        simp only [strs_len, strs_elem, ints_len, ints_elem, items_list, fld_agg, elem_list, toStr_sc, toInt_sc, toBool_sc, headD_one, nat_int, get_bt, decide_eq_true_eq, decide_eq_false_iff_not, decide_true, decide_false, if_true, if_false, ite_self, Bool.not_true, Bool.not_false, Bool.false_eq_true, Bool.true_eq_false, Bool.true_and, Bool.false_and, Bool.and_true, Bool.and_false, not_true, not_false_iff, Option.bind_some, nn, toList_inj, Bool.not_eq_true', Bool.not_eq_false', Int.le_refl, and_self, true_and, and_true, false_and, and_false, bne_self_eq_false, beq_self_eq_true, Int.reduceEq, Nat.reduceEqDiff, List.length_singleton, List.tail_cons, Int.reduceLE, Int.reduceLT, decide_eq_true_eq]
        exact Ev2.now _
    · have hd : isDig c = false := by unfold isDig; exact decide_eq_false (by omega)
      simp only [spec_l12Front.l0_eq, e1, e2, hb, h1, hd, strs_len, strs_elem, ints_len, ints_elem, items_list, fld_agg, elem_list, toStr_sc, toInt_sc, toBool_sc, headD_one, nat_int, get_bt, decide_eq_true_eq, decide_eq_false_iff_not, decide_true, decide_false, if_true, if_false, ite_self, Bool.not_true, Bool.not_false, Bool.false_eq_true, Bool.true_eq_false, Bool.true_and, Bool.false_and, Bool.and_true, Bool.and_false, not_true, not_false_iff, Option.bind_some, nn, toList_inj, Bool.not_eq_true', Bool.not_eq_false', Int.le_refl, and_self, true_and, and_true, false_and, and_false, bne_self_eq_false, beq_self_eq_true, Int.reduceEq, Nat.reduceEqDiff, List.length_singleton, List.tail_cons, Int.reduceLE, Int.reduceLT, decide_eq_true_eq, Nat.add_zero]
      refine Ev2.bind (fin pre.length (by omega)) ?_
      simp only [strs_len, strs_elem, ints_len, ints_elem, items_list, fld_agg, elem_list, toStr_sc, toInt_sc, toBool_sc, headD_one, nat_int, get_bt, decide_eq_true_eq, decide_eq_false_iff_not, decide_true, decide_false, if_true, if_false, ite_self, Bool.not_true, Bool.not_false, Bool.false_eq_true, Bool.true_eq_false, Bool.true_and, Bool.false_and, Bool.and_true, Bool.and_false, not_true, not_false_iff, Option.bind_some, nn, toList_inj, Bool.not_eq_true', Bool.not_eq_false', Int.le_refl, and_self, true_and, and_true, false_and, and_false, bne_self_eq_false, beq_self_eq_true, Int.reduceEq, Nat.reduceEqDiff, List.length_singleton, List.tail_cons, Int.reduceLE, Int.reduceLT, decide_eq_true_eq]
      exact Ev2.now _
def headB (s : ByteArray) : ByteArray := s.extract 0 (headN (dB s))
def restB (s : ByteArray) : ByteArray := s.extract (headN (dB s)) s.size
theorem specLine_ev (s : ByteArray) (hs : s.size ≤ 4294967280) : Ev (fun N => spec_l12Front.f N [strP s]) [intP (numB (headB s)), strP (restB s)] := by
  simp only [strP, spec_l12Front.f_eq, toStr_sc]
  have := (specLine_loop s hs (dB s) [] rfl).diag
  rw [List.length_nil, Nat.zero_add] at this
  exact this
theorem headB_bytes (s : ByteArray) : dB (headB s) = (dB s).take (headN (dB s)) := by rw [headB, ext_dB, List.drop_zero, Nat.sub_zero]
theorem restB_bytes (s : ByteArray) : dB (restB s) = (dB s).drop (headN (dB s)) := by
  rw [restB, ext_dB]
  exact List.take_of_length_le (by rw [List.length_drop, dB_len]; omega)
theorem trimB_rest (s : ByteArray) : trimB s (ByteArray.mk #[48, 49, 50, 51, 52, 53, 54, 55, 56, 57]) = restB s := by
  apply dB_inj
  rw [restB_bytes, ← trim_drop]
  rfl
theorem restB_size (s : ByteArray) : (restB s).size = s.size - headN (dB s) := by rw [restB, ByteArray.size_extract]; omega
theorem headN_size (s : ByteArray) : headN (dB s) ≤ s.size := by have := headN_le (dB s); rwa [dB_len] at this
theorem headB_digs (s : ByteArray) : digs (dB (headB s)) = true := by rw [headB_bytes]; exact headN_digs _
/-! Both readers, as one fold. -/
def readF (num : ByteArray → Option Nat) (lim : Bool) : List ByteArray → ByteArray → List ByteArray → Option (List ByteArray)
  | [], _, out => some out
  | l :: r, last, out => match num (headB l) with
    | none => none
    | some n => if n ≤ last.size then (if lim = true ∧ out.length = 300 then none else readF num lim r (last.extract 0 n ++ restB l) (out ++ [last.extract 0 n ++ restB l])) else none
def finF (text : ByteArray) : Option (List ByteArray) → Option (List ByteArray)
  | some ws => if wordsM ws 300 = true ∧ frontM ws = text then some ws else none
  | none => none
def numI (d : ByteArray) : Option Nat := if atoiErr d = true then none else some (atoiVal d).toNat
def numS (d : ByteArray) : Option Nat := if numB d < 0 then none else some (numB d).toNat
def getF (num : ByteArray → Option Nat) (lim : Bool) (text : ByteArray) : Option (List ByteArray) := finF text (readF num lim (cutB 10 text).dropLast ⟨#[]⟩ [])
def getFR : Option (List ByteArray) → List PV
  | some ws => [strsP ws, boolP true]
  | none => [strsP [], boolP false]
/-! #### both FrontGet's -/
theorem strs_map (l : List ByteArray) : PV.list (l.map strP) = strsP l := rfl
theorem map_snoc (l : List ByteArray) (x : ByteArray) : l.map strP ++ [PV.sc (.string x)] = (l ++ [x]).map strP := by simp [strP]
theorem split_val (l : ByteArray) (N : Nat) : strings_TrimLeft.f N [PV.sc (.string l), PV.sc (.string (ByteArray.mk #[48, 49, 50, 51, 52, 53, 54, 55, 56, 57]))] = some [PV.sc (.string (restB l))] := by
  have h : strings_TrimLeft.f N [PV.sc (.string l), PV.sc (.string (ByteArray.mk #[48, 49, 50, 51, 52, 53, 54, 55, 56, 57]))] = some [strP (trimB l (ByteArray.mk #[48, 49, 50, 51, 52, 53, 54, 55, 56, 57]))] := rfl
  rw [h, trimB_rest]
theorem atoi_val (d : ByteArray) (hd : d.size ≤ 281474976710656) (N : Nat) : strconv_Atoi.f N [PV.sc (.string d)] = some [intP (atoiVal d), boolP (atoiErr d)] := by
  show atoiDen [strP d] = _
  have : (if d.size ≤ 281474976710656 then some [intP (atoiVal d), boolP (atoiErr d)] else none) = some [intP (atoiVal d), boolP (atoiErr d)] := if_pos hd
  exact this
theorem implFrontGet_loop {text : ByteArray} {L : List ByteArray} (hL : L.length ≤ 1048577) (hLs : ∀ l ∈ L, l.size ≤ 1048576) : ∀ (rest pre : List ByteArray) (last : ByteArray) (out : List ByteArray), L = pre ++ rest → last.size ≤ 1048576 * pre.length → out.length = pre.length → (∀ w ∈ out, w.size ≤ 1099512676352) →
    Ev2 (fun N n => impl_FrontGet.l0 N n text last (L.length : Int) (pre.length : Int) (out.map strP) (strsP L)) (getFR (finF text (readF numI true rest last out))) := by
  intro rest
  induction rest with
  | nil =>
    intro pre last out hp hl ho hw
    have hpl : pre.length ≤ 1048577 := by have := congrArg List.length hp; simp at this; omega
    refine Ev2.succ ?_
    simp only [impl_FrontGet.l0_eq, at_end hp, strs_map, strs_len, strs_elem, ints_len, ints_elem, items_list, fld_agg, elem_list, toStr_sc, toInt_sc, toBool_sc, headD_one, nat_int, get_bt, decide_eq_true_eq, decide_eq_false_iff_not, decide_true, decide_false, if_true, if_false, ite_self, Bool.not_true, Bool.not_false, Bool.false_eq_true, Bool.true_eq_false, Bool.true_and, Bool.false_and, Bool.and_true, Bool.and_false, not_true, not_false_iff, Option.bind_some, nn, toList_inj, Bool.not_eq_true', Bool.not_eq_false', Int.le_refl, and_self, true_and, and_true, false_and, and_false, bne_self_eq_false, beq_self_eq_true, Int.reduceEq, Nat.reduceEqDiff, List.length_singleton, List.tail_cons, Int.reduceLE, Int.reduceLT, decide_eq_true_eq, readF, finF]
    refine Ev2.bind (implWords_ev out 300 (by omega) (fun w h => by have := hw w h; omega)) ?_
    cases hwm : wordsM out 300 with
    | false => simp only [strs_len, strs_elem, ints_len, ints_elem, items_list, fld_agg, elem_list, toStr_sc, toInt_sc, toBool_sc, headD_one, nat_int, get_bt, decide_eq_true_eq, decide_eq_false_iff_not, decide_true, decide_false, if_true, if_false, ite_self, Bool.not_true, Bool.not_false, Bool.false_eq_true, Bool.true_eq_false, Bool.true_and, Bool.false_and, Bool.and_true, Bool.and_false, not_true, not_false_iff, Option.bind_some, nn, toList_inj, Bool.not_eq_true', Bool.not_eq_false', Int.le_refl, and_self, true_and, and_true, false_and, and_false, bne_self_eq_false, beq_self_eq_true, Int.reduceEq, Nat.reduceEqDiff, List.length_singleton, List.tail_cons, Int.reduceLE, Int.reduceLT, decide_eq_true_eq, getFR]; exact Ev2.now _
    | true =>
      simp only [strs_len, strs_elem, ints_len, ints_elem, items_list, fld_agg, elem_list, toStr_sc, toInt_sc, toBool_sc, headD_one, nat_int, get_bt, decide_eq_true_eq, decide_eq_false_iff_not, decide_true, decide_false, if_true, if_false, ite_self, Bool.not_true, Bool.not_false, Bool.false_eq_true, Bool.true_eq_false, Bool.true_and, Bool.false_and, Bool.and_true, Bool.and_false, not_true, not_false_iff, Option.bind_some, nn, toList_inj, Bool.not_eq_true', Bool.not_eq_false', Int.le_refl, and_self, true_and, and_true, false_and, and_false, bne_self_eq_false, beq_self_eq_true, Int.reduceEq, Nat.reduceEqDiff, List.length_singleton, List.tail_cons, Int.reduceLE, Int.reduceLT, decide_eq_true_eq]
      refine Ev2.bind (implFront_ev out (by omega) (fun w h => by have := hw w h; omega)) ?_
      by_cases he : frontM out = text
      · simp only [he, strs_len, strs_elem, ints_len, ints_elem, items_list, fld_agg, elem_list, toStr_sc, toInt_sc, toBool_sc, headD_one, nat_int, get_bt, decide_eq_true_eq, decide_eq_false_iff_not, decide_true, decide_false, if_true, if_false, ite_self, Bool.not_true, Bool.not_false, Bool.false_eq_true, Bool.true_eq_false, Bool.true_and, Bool.false_and, Bool.and_true, Bool.and_false, not_true, not_false_iff, Option.bind_some, nn, toList_inj, Bool.not_eq_true', Bool.not_eq_false', Int.le_refl, and_self, true_and, and_true, false_and, and_false, bne_self_eq_false, beq_self_eq_true, Int.reduceEq, Nat.reduceEqDiff, List.length_singleton, List.tail_cons, Int.reduceLE, Int.reduceLT, decide_eq_true_eq, getFR]; exact Ev2.now _
      · simp only [he, strs_len, strs_elem, ints_len, ints_elem, items_list, fld_agg, elem_list, toStr_sc, toInt_sc, toBool_sc, headD_one, nat_int, get_bt, decide_eq_true_eq, decide_eq_false_iff_not, decide_true, decide_false, if_true, if_false, ite_self, Bool.not_true, Bool.not_false, Bool.false_eq_true, Bool.true_eq_false, Bool.true_and, Bool.false_and, Bool.and_true, Bool.and_false, not_true, not_false_iff, Option.bind_some, nn, toList_inj, Bool.not_eq_true', Bool.not_eq_false', Int.le_refl, and_self, true_and, and_true, false_and, and_false, bne_self_eq_false, beq_self_eq_true, Int.reduceEq, Nat.reduceEqDiff, List.length_singleton, List.tail_cons, Int.reduceLE, Int.reduceLT, decide_eq_true_eq, getFR]; exact Ev2.now _
  | cons l rest ih =>
    intro pre last out hp hl ho hw
    have hpl : pre.length < L.length := at_ltN hp
    have hls := hLs l (by rw [hp]; simp)
    have hh := headN_size l
    have hrs := restB_size l
    have hn := at_next hp (by omega)
    have w1 : IntKind.i64.wrap ((l.size : Int) - ((restB l).size : Int)) = ((headN (dB l) : Nat) : Int) := by rw [wrap_id (by omega) (by omega)]; omega
    have e1 : (((headN (dB l) : Nat) : Int) ≤ (l.size : Int)) = True := true_of (by omega)
    have hd : l.extract 0 (headN (dB l)) = headB l := rfl
    have hds : (headB l).size ≤ 1048576 := by rw [headB, ByteArray.size_extract]; omega
    have hat := atoi_val (headB l) (by omega)
    refine Ev2.succ ?_
    rw [readF]
    cases he : atoiErr (headB l) with
    | true =>
      have hnum : numI (headB l) = none := by rw [numI, he]; rfl
      rw [hnum]
      simp only [impl_FrontGet.l0_eq, eq_true (at_lt hp), at_getD hp, split_val, w1, e1, hd, hat, he, strs_len, strs_elem, ints_len, ints_elem, items_list, fld_agg, elem_list, toStr_sc, toInt_sc, toBool_sc, headD_one, nat_int, get_bt, decide_eq_true_eq, decide_eq_false_iff_not, decide_true, decide_false, if_true, if_false, ite_self, Bool.not_true, Bool.not_false, Bool.false_eq_true, Bool.true_eq_false, Bool.true_and, Bool.false_and, Bool.and_true, Bool.and_false, not_true, not_false_iff, Option.bind_some, nn, toList_inj, Bool.not_eq_true', Bool.not_eq_false', Int.le_refl, and_self, true_and, and_true, false_and, and_false, bne_self_eq_false, beq_self_eq_true, Int.reduceEq, Nat.reduceEqDiff, List.length_singleton, List.tail_cons, Int.reduceLE, Int.reduceLT, decide_eq_true_eq, finF, getFR]
      exact Ev2.now _
    | false =>
      have h0 := atoi_pos (headB_digs l) he
      obtain ⟨n, hnv⟩ := Int.eq_ofNat_of_zero_le h0
      have hnum : numI (headB l) = some n := by rw [numI, he, hnv]; rfl
      rw [hnum]
      by_cases hle : n ≤ last.size
      · have q1 : ((last.size : Int) < (n : Int)) = False := false_of (by omega)
        have q2 : ((n : Int) ≤ (last.size : Int)) = True := true_of (by omega)
        have hes : (last.extract 0 n).size = n := by rw [ByteArray.size_extract]; omega
        have q3 : ((last.extract 0 n).size + (restB l).size ≤ 9223372036854775807) = True := true_of (by omega)
        have q4 : (out.length + 1 ≤ 8796093022208) = True := true_of (by omega)
        by_cases h3 : out.length = 300
        · have q5 : ((out.length : Int) = 300) = True := true_of (by omega)
          simp only [impl_FrontGet.l0_eq, eq_true (at_lt hp), at_getD hp, split_val, w1, e1, hd, hat, he, hnv, q1, q5, h3, hle, List.length_map, strs_len, strs_elem, ints_len, ints_elem, items_list, fld_agg, elem_list, toStr_sc, toInt_sc, toBool_sc, headD_one, nat_int, get_bt, decide_eq_true_eq, decide_eq_false_iff_not, decide_true, decide_false, if_true, if_false, ite_self, Bool.not_true, Bool.not_false, Bool.false_eq_true, Bool.true_eq_false, Bool.true_and, Bool.false_and, Bool.and_true, Bool.and_false, not_true, not_false_iff, Option.bind_some, nn, toList_inj, Bool.not_eq_true', Bool.not_eq_false', Int.le_refl, and_self, true_and, and_true, false_and, and_false, bne_self_eq_false, beq_self_eq_true, Int.reduceEq, Nat.reduceEqDiff, List.length_singleton, List.tail_cons, Int.reduceLE, Int.reduceLT, decide_eq_true_eq, finF, getFR]
          exact Ev2.now _
        · have q5 : ((out.length : Int) = 300) = False := false_of (by omega)
          have hz : (last.extract 0 n ++ restB l).size ≤ 1048576 * (pre ++ [l]).length := by
            rw [ByteArray.size_append, List.length_append, List.length_singleton]; omega
          have := ih (pre ++ [l]) (last.extract 0 n ++ restB l) (out ++ [last.extract 0 n ++ restB l]) (at_step hp) hz (by simp; omega) (fun w h => by
            rcases List.mem_append.1 h with h | h
            · exact hw w h
            · rw [List.mem_singleton.1 h]
              rw [List.length_append, List.length_singleton] at hz
              omega)
          simp only [impl_FrontGet.l0_eq, eq_true (at_lt hp), at_getD hp, split_val, w1, e1, hd, hat, he, hnv, q1, q2, q3, q4, q5, h3, hle, hn, List.length_map, map_snoc, strs_len, strs_elem, ints_len, ints_elem, items_list, fld_agg, elem_list, toStr_sc, toInt_sc, toBool_sc, headD_one, nat_int, get_bt, decide_eq_true_eq, decide_eq_false_iff_not, decide_true, decide_false, if_true, if_false, ite_self, Bool.not_true, Bool.not_false, Bool.false_eq_true, Bool.true_eq_false, Bool.true_and, Bool.false_and, Bool.and_true, Bool.and_false, not_true, not_false_iff, Option.bind_some, nn, toList_inj, Bool.not_eq_true', Bool.not_eq_false', Int.le_refl, and_self, true_and, and_true, false_and, and_false, bne_self_eq_false, beq_self_eq_true, Int.reduceEq, Nat.reduceEqDiff, List.length_singleton, List.tail_cons, Int.reduceLE, Int.reduceLT, decide_eq_true_eq]
          exact this
      · have q1 : ((last.size : Int) < (n : Int)) = True := true_of (by omega)
        simp only [impl_FrontGet.l0_eq, eq_true (at_lt hp), at_getD hp, split_val, w1, e1, hd, hat, he, hnv, q1, hle, strs_len, strs_elem, ints_len, ints_elem, items_list, fld_agg, elem_list, toStr_sc, toInt_sc, toBool_sc, headD_one, nat_int, get_bt, decide_eq_true_eq, decide_eq_false_iff_not, decide_true, decide_false, if_true, if_false, ite_self, Bool.not_true, Bool.not_false, Bool.false_eq_true, Bool.true_eq_false, Bool.true_and, Bool.false_and, Bool.and_true, Bool.and_false, not_true, not_false_iff, Option.bind_some, nn, toList_inj, Bool.not_eq_true', Bool.not_eq_false', Int.le_refl, and_self, true_and, and_true, false_and, and_false, bne_self_eq_false, beq_self_eq_true, Int.reduceEq, Nat.reduceEqDiff, List.length_singleton, List.tail_cons, Int.reduceLE, Int.reduceLT, decide_eq_true_eq, finF, getFR]
        exact Ev2.now _
theorem implFrontGet_ev (text : ByteArray) (ht : text.size ≤ 1048576) : Ev (fun N => impl_FrontGet.f N [strP text]) (getFR (getF numI true text)) := by
  have hlines := linesOf_val text ht
  simp only [strP] at hlines
  simp only [strP, impl_FrontGet.f_eq, toStr_sc, hlines, Option.bind_some, headD_one, strs_len]
  have hlen := cutB_len 10 text
  have hsz := cutB_sizes 10 text
  exact (implFrontGet_loop (L := (cutB 10 text).dropLast) (by rw [List.length_dropLast]; omega) (fun l hl => by have := hsz l (List.dropLast_subset _ hl); omega) (cutB 10 text).dropLast [] ⟨#[]⟩ [] rfl (by decide) rfl (by simp)).diag
theorem in_val (a c : Int) (N : Nat) : spec_l1In.f N [PV.sc (.int .i64 a), PV.sc (.int .i64 0), PV.sc (.int .i64 c)] = some [boolP (decide (0 ≤ a ∧ a ≤ c))] := by
  by_cases h : (0 : Int) ≤ a <;> by_cases h2 : a ≤ c <;> simp only [spec_l1In.f_eq, toInt_sc, h, h2, decide_true, decide_false, if_true, if_false, Bool.false_eq_true, and_self, and_true, and_false]
theorem specFrontGet_loop {text : ByteArray} {D : List ByteArray} {z : ByteArray} (hL : D.length ≤ 1048577) (hLs : ∀ l ∈ D, l.size ≤ 1048576) : ∀ (rest pre : List ByteArray) (last : ByteArray) (out : List ByteArray), D = pre ++ rest → last.size ≤ 1048576 * pre.length → out.length = pre.length → (∀ w ∈ out, w.size ≤ 1099512676352) →
    Ev2 (fun N n => spec_FrontGet.l0 N n text last (pre.length : Int) (strsP (D ++ [z])) (out.map strP)) (getFR (finF text (readF numS false rest last out))) := by
  intro rest
  induction rest with
  | nil =>
    intro pre last out hp hl ho hw
    have hz := congrArg List.length hp
    simp only [List.length_append, List.length_nil] at hz
    have w : IntKind.i64.wrap ((pre.length : Int) + 1) = ((pre.length + 1 : Nat) : Int) := nat_wrap (by omega) (by omega)
    have e1 : (((pre.length + 1 : Nat) : Int) < (((D ++ [z]).length : Nat) : Int)) = False := false_of (by rw [List.length_append, List.length_singleton]; omega)
    refine Ev2.succ ?_
    simp only [spec_FrontGet.l0_eq, w, e1, strs_map, strs_len, strs_elem, ints_len, ints_elem, items_list, fld_agg, elem_list, toStr_sc, toInt_sc, toBool_sc, headD_one, nat_int, get_bt, decide_eq_true_eq, decide_eq_false_iff_not, decide_true, decide_false, if_true, if_false, ite_self, Bool.not_true, Bool.not_false, Bool.false_eq_true, Bool.true_eq_false, Bool.true_and, Bool.false_and, Bool.and_true, Bool.and_false, not_true, not_false_iff, Option.bind_some, nn, toList_inj, Bool.not_eq_true', Bool.not_eq_false', Int.le_refl, and_self, true_and, and_true, false_and, and_false, bne_self_eq_false, beq_self_eq_true, Int.reduceEq, Nat.reduceEqDiff, List.length_singleton, List.tail_cons, Int.reduceLE, Int.reduceLT, decide_eq_true_eq, readF, finF]
    refine Ev2.bind (specWords_ev out (by omega) (fun w h => by have := hw w h; omega)) ?_
    cases hwm : wordsM out 300 with
    | false => simp only [strs_len, strs_elem, ints_len, ints_elem, items_list, fld_agg, elem_list, toStr_sc, toInt_sc, toBool_sc, headD_one, nat_int, get_bt, decide_eq_true_eq, decide_eq_false_iff_not, decide_true, decide_false, if_true, if_false, ite_self, Bool.not_true, Bool.not_false, Bool.false_eq_true, Bool.true_eq_false, Bool.true_and, Bool.false_and, Bool.and_true, Bool.and_false, not_true, not_false_iff, Option.bind_some, nn, toList_inj, Bool.not_eq_true', Bool.not_eq_false', Int.le_refl, and_self, true_and, and_true, false_and, and_false, bne_self_eq_false, beq_self_eq_true, Int.reduceEq, Nat.reduceEqDiff, List.length_singleton, List.tail_cons, Int.reduceLE, Int.reduceLT, decide_eq_true_eq, getFR]; exact Ev2.now _
    | true =>
      simp only [strs_len, strs_elem, ints_len, ints_elem, items_list, fld_agg, elem_list, toStr_sc, toInt_sc, toBool_sc, headD_one, nat_int, get_bt, decide_eq_true_eq, decide_eq_false_iff_not, decide_true, decide_false, if_true, if_false, ite_self, Bool.not_true, Bool.not_false, Bool.false_eq_true, Bool.true_eq_false, Bool.true_and, Bool.false_and, Bool.and_true, Bool.and_false, not_true, not_false_iff, Option.bind_some, nn, toList_inj, Bool.not_eq_true', Bool.not_eq_false', Int.le_refl, and_self, true_and, and_true, false_and, and_false, bne_self_eq_false, beq_self_eq_true, Int.reduceEq, Nat.reduceEqDiff, List.length_singleton, List.tail_cons, Int.reduceLE, Int.reduceLT, decide_eq_true_eq]
      refine Ev2.bind (specFront_ev out (by omega) (fun w h => by have := hw w h; omega)) ?_
      by_cases he : frontM out = text
      · simp only [he, strs_len, strs_elem, ints_len, ints_elem, items_list, fld_agg, elem_list, toStr_sc, toInt_sc, toBool_sc, headD_one, nat_int, get_bt, decide_eq_true_eq, decide_eq_false_iff_not, decide_true, decide_false, if_true, if_false, ite_self, Bool.not_true, Bool.not_false, Bool.false_eq_true, Bool.true_eq_false, Bool.true_and, Bool.false_and, Bool.and_true, Bool.and_false, not_true, not_false_iff, Option.bind_some, nn, toList_inj, Bool.not_eq_true', Bool.not_eq_false', Int.le_refl, and_self, true_and, and_true, false_and, and_false, bne_self_eq_false, beq_self_eq_true, Int.reduceEq, Nat.reduceEqDiff, List.length_singleton, List.tail_cons, Int.reduceLE, Int.reduceLT, decide_eq_true_eq, getFR]; exact Ev2.now _
      · simp only [he, strs_len, strs_elem, ints_len, ints_elem, items_list, fld_agg, elem_list, toStr_sc, toInt_sc, toBool_sc, headD_one, nat_int, get_bt, decide_eq_true_eq, decide_eq_false_iff_not, decide_true, decide_false, if_true, if_false, ite_self, Bool.not_true, Bool.not_false, Bool.false_eq_true, Bool.true_eq_false, Bool.true_and, Bool.false_and, Bool.and_true, Bool.and_false, not_true, not_false_iff, Option.bind_some, nn, toList_inj, Bool.not_eq_true', Bool.not_eq_false', Int.le_refl, and_self, true_and, and_true, false_and, and_false, bne_self_eq_false, beq_self_eq_true, Int.reduceEq, Nat.reduceEqDiff, List.length_singleton, List.tail_cons, Int.reduceLE, Int.reduceLT, decide_eq_true_eq, getFR]; exact Ev2.now _
  | cons l rest ih =>
    intro pre last out hp hl ho hw
    have hls := hLs l (by rw [hp]; simp)
    have hz := congrArg List.length hp
    simp only [List.length_append, List.length_cons] at hz
    have hrs := restB_size l
    have w : IntKind.i64.wrap ((pre.length : Int) + 1) = ((pre.length + 1 : Nat) : Int) := nat_wrap (by omega) (by omega)
    have e1 : (((pre.length + 1 : Nat) : Int) < (((D ++ [z]).length : Nat) : Int)) = True := true_of (by rw [List.length_append, List.length_singleton]; omega)
    have e0 : (((pre.length : Nat) : Int) < (((D ++ [z]).length : Nat) : Int)) = True := true_of (by rw [List.length_append, List.length_singleton]; omega)
    have hg : (D ++ [z]).getD pre.length ByteArray.empty = l := at_getD (xs := D ++ [z]) (rest := rest ++ [z]) (by rw [hp]; simp)
    have hn : ((pre ++ [l]).length : Int) = ((pre.length + 1 : Nat) : Int) := by simp
    have hli := specLine_ev l (by omega)
    simp only [strP] at hli
    refine Ev2.succ ?_
    rw [readF]
    simp only [spec_FrontGet.l0_eq, w, e1, e0, hg, strs_len, strs_elem, ints_len, ints_elem, items_list, fld_agg, elem_list, toStr_sc, toInt_sc, toBool_sc, headD_one, nat_int, get_bt, decide_eq_true_eq, decide_eq_false_iff_not, decide_true, decide_false, if_true, if_false, ite_self, Bool.not_true, Bool.not_false, Bool.false_eq_true, Bool.true_eq_false, Bool.true_and, Bool.false_and, Bool.and_true, Bool.and_false, not_true, not_false_iff, Option.bind_some, nn, toList_inj, Bool.not_eq_true', Bool.not_eq_false', Int.le_refl, and_self, true_and, and_true, false_and, and_false, bne_self_eq_false, beq_self_eq_true, Int.reduceEq, Nat.reduceEqDiff, List.length_singleton, List.tail_cons, Int.reduceLE, Int.reduceLT, decide_eq_true_eq]
    refine Ev2.bind hli ?_
    by_cases h0 : numB (headB l) < 0
    · have hnum : numS (headB l) = none := by rw [numS, if_pos h0]
      have q0 : ¬ (0 ≤ numB (headB l) ∧ numB (headB l) ≤ (last.size : Int)) := by omega
      rw [hnum]
      simp only [headD_one, List.headD_cons, List.tail_cons, toInt_sc, in_val, q0, strs_len, strs_elem, ints_len, ints_elem, items_list, fld_agg, elem_list, toStr_sc, toInt_sc, toBool_sc, headD_one, nat_int, get_bt, decide_eq_true_eq, decide_eq_false_iff_not, decide_true, decide_false, if_true, if_false, ite_self, Bool.not_true, Bool.not_false, Bool.false_eq_true, Bool.true_eq_false, Bool.true_and, Bool.false_and, Bool.and_true, Bool.and_false, not_true, not_false_iff, Option.bind_some, nn, toList_inj, Bool.not_eq_true', Bool.not_eq_false', Int.le_refl, and_self, true_and, and_true, false_and, and_false, bne_self_eq_false, beq_self_eq_true, Int.reduceEq, Nat.reduceEqDiff, List.length_singleton, List.tail_cons, Int.reduceLE, Int.reduceLT, decide_eq_true_eq, finF, getFR]
      exact Ev2.now _
    · obtain ⟨n, hnv⟩ := Int.eq_ofNat_of_zero_le (show 0 ≤ numB (headB l) by omega)
      have hnum : numS (headB l) = some n := by rw [numS, if_neg h0, hnv]; rfl
      rw [hnum]
      by_cases hle : n ≤ last.size
      · have q0 : (0 ≤ (n : Int) ∧ (n : Int) ≤ (last.size : Int)) = True := true_of (by omega)
        have q2 : ((n : Int) ≤ (last.size : Int)) = True := true_of (by omega)
        have hes : (last.extract 0 n).size = n := by rw [ByteArray.size_extract]; omega
        have q3 : ((last.extract 0 n).size + (restB l).size ≤ 9223372036854775807) = True := true_of (by omega)
        have q4 : (out.length + 1 ≤ 8796093022208) = True := true_of (by omega)
        have hz2 : (last.extract 0 n ++ restB l).size ≤ 1048576 * (pre ++ [l]).length := by
          rw [ByteArray.size_append, List.length_append, List.length_singleton]; omega
        have := ih (pre ++ [l]) (last.extract 0 n ++ restB l) (out ++ [last.extract 0 n ++ restB l]) (at_step hp) hz2 (by simp; omega) (fun w h => by
          rcases List.mem_append.1 h with h | h
          · exact hw w h
          · rw [List.mem_singleton.1 h]
            rw [List.length_append, List.length_singleton] at hz2
            omega)
        rw [hn] at this
        simp only [headD_one, List.headD_cons, List.tail_cons, toInt_sc, in_val, hnv, q0, q2, q3, q4, hle, List.length_map, map_snoc, strs_len, strs_elem, ints_len, ints_elem, items_list, fld_agg, elem_list, toStr_sc, toInt_sc, toBool_sc, headD_one, nat_int, get_bt, decide_eq_true_eq, decide_eq_false_iff_not, decide_true, decide_false, if_true, if_false, ite_self, Bool.not_true, Bool.not_false, Bool.false_eq_true, Bool.true_eq_false, Bool.true_and, Bool.false_and, Bool.and_true, Bool.and_false, not_true, not_false_iff, Option.bind_some, nn, toList_inj, Bool.not_eq_true', Bool.not_eq_false', Int.le_refl, and_self, true_and, and_true, false_and, and_false, bne_self_eq_false, beq_self_eq_true, Int.reduceEq, Nat.reduceEqDiff, List.length_singleton, List.tail_cons, Int.reduceLE, Int.reduceLT, decide_eq_true_eq]
        exact this
      · have q2 : ((n : Int) ≤ (last.size : Int)) = False := false_of (by omega)
        simp only [headD_one, List.headD_cons, List.tail_cons, toInt_sc, in_val, hnv, q2, hle, strs_len, strs_elem, ints_len, ints_elem, items_list, fld_agg, elem_list, toStr_sc, toInt_sc, toBool_sc, headD_one, nat_int, get_bt, decide_eq_true_eq, decide_eq_false_iff_not, decide_true, decide_false, if_true, if_false, ite_self, Bool.not_true, Bool.not_false, Bool.false_eq_true, Bool.true_eq_false, Bool.true_and, Bool.false_and, Bool.and_true, Bool.and_false, not_true, not_false_iff, Option.bind_some, nn, toList_inj, Bool.not_eq_true', Bool.not_eq_false', Int.le_refl, and_self, true_and, and_true, false_and, and_false, bne_self_eq_false, beq_self_eq_true, Int.reduceEq, Nat.reduceEqDiff, List.length_singleton, List.tail_cons, Int.reduceLE, Int.reduceLT, decide_eq_true_eq, finF, getFR]
        exact Ev2.now _
theorem specFrontGet_ev (text : ByteArray) (ht : text.size ≤ 1048576) : Ev (fun N => spec_FrontGet.f N [strP text]) (getFR (getF numS false text)) := by
  have hlines := specCut_ev 10 text (by omega)
  have e10 : (PV.sc (.int .u8 ((10 : UInt8).toNat : Int))) = PV.sc (.int .u8 10) := rfl
  rw [e10] at hlines
  simp only [strP] at hlines
  simp only [strP, spec_FrontGet.f_eq, toStr_sc]
  refine Ev.bind hlines ?_
  have hlen := cutB_len 10 text
  have hsz := cutB_sizes 10 text
  have hd := List.dropLast_concat_getLast (cutB_ne 10 text)
  have := specFrontGet_loop (text := text) (D := (cutB 10 text).dropLast) (z := (cutB 10 text).getLast (cutB_ne 10 text)) (by rw [List.length_dropLast]; omega) (fun l hl => by have := hsz l (List.dropLast_subset _ hl); omega) (cutB 10 text).dropLast [] ⟨#[]⟩ [] rfl (by decide) rfl (by simp)
  rw [hd] at this
  simp only [strs_len, strs_elem, ints_len, ints_elem, items_list, fld_agg, elem_list, toStr_sc, toInt_sc, toBool_sc, headD_one, nat_int, get_bt, decide_eq_true_eq, decide_eq_false_iff_not, decide_true, decide_false, if_true, if_false, ite_self, Bool.not_true, Bool.not_false, Bool.false_eq_true, Bool.true_eq_false, Bool.true_and, Bool.false_and, Bool.and_true, Bool.and_false, not_true, not_false_iff, Option.bind_some, nn, toList_inj, Bool.not_eq_true', Bool.not_eq_false', Int.le_refl, and_self, true_and, and_true, false_and, and_false, bne_self_eq_false, beq_self_eq_true, Int.reduceEq, Nat.reduceEqDiff, List.length_singleton, List.tail_cons, Int.reduceLE, Int.reduceLT, decide_eq_true_eq]
  exact this.diag
/-! What is written is read back. -/
structure GoodF (num : ByteArray → Option Nat) : Prop where
  dec : ∀ u : Nat, u ≤ 999999 → num (decB u) = some u
theorem goodFI : GoodF numI := ⟨fun u h => by obtain ⟨h1, h2⟩ := atoi_decA h; rw [numI, h2, h1]; rfl⟩
theorem goodFS : GoodF numS := ⟨fun u h => by rw [numS, numB_decA h, if_neg (by omega)]; rfl⟩
theorem dec_digs {u : Nat} (h : u ≤ 999999) : digs (dB (decB u)) = true := (dec_facts 6 u (by omega) (by omega)).2.1
theorem word_low {w : ByteArray} (hw : isWord w = true) : ∀ c ∈ dB w, 97 ≤ c.toNat ∧ c.toNat ≤ 122 := by
  intro c hc
  simp only [isWord, Bool.and_eq_true] at hw
  have := List.all_eq_true.1 hw.2 (c.toNat : Int) (by rw [bytesOf_dB]; exact List.mem_map.2 ⟨c, hc, rfl⟩)
  simp only [decide_eq_true_eq] at this
  omega
def bodyF (last w : ByteArray) : ByteArray := decB (comB last w) ++ w.extract (comB last w) w.size
def bodiesF : ByteArray → List ByteArray → List ByteArray
  | _, [] => []
  | last, w :: r => bodyF last w :: bodiesF w r
def glueF : List ByteArray → List UInt8
  | [] => []
  | l :: r => dB l ++ 10 :: glueF r
theorem frontL_bytes : ∀ (ws : List ByteArray) (last acc : ByteArray), dB (frontL ws last acc) = dB acc ++ glueF (bodiesF last ws)
  | [], last, acc => by simp [frontL, bodiesF, glueF]
  | w :: r, last, acc => by
    have e : dB (lineF last w) = dB (bodyF last w) ++ [10] := by
      show dB (bodyF last w ++ ByteArray.mk #[10]) = _
      rw [dB_app]; rfl
    rw [frontL, frontL_bytes r, dB_app, e, bodiesF, glueF]; simp
theorem body_dB (last w : ByteArray) : dB (bodyF last w) = dB (decB (comB last w)) ++ (dB w).drop (comB last w) := by
  rw [bodyF, dB_app, ext_dB]
  congr 1
  exact List.take_of_length_le (by rw [List.length_drop, dB_len]; omega)
theorem body_head {last w : ByteArray} (hw : isWord w = true) (hs : w.size ≤ 12) : headB (bodyF last w) = decB (comB last w) ∧ restB (bodyF last w) = w.extract (comB last w) w.size := by
  have hc := comB_le last w
  have hh : headN (dB (bodyF last w)) = (dB (decB (comB last w))).length := by
    rw [body_dB]
    refine headN_app (dec_digs (by omega)) (fun c r hcr => ?_)
    have := word_low hw c (List.mem_of_mem_drop (by rw [hcr]; simp))
    unfold isDig; exact decide_eq_false (by omega)
  refine ⟨dB_inj ?_, dB_inj ?_⟩
  · rw [headB_bytes, hh, body_dB, List.take_left' rfl]
  · rw [restB_bytes, hh, body_dB, List.drop_left' rfl, ext_dB]
    exact (List.take_of_length_le (by rw [List.length_drop, dB_len]; omega)).symm
theorem com_same : ∀ (l m : List Int), l.take (comL l m) = m.take (comL l m)
  | [], m => by simp [comL]
  | _ :: _, [] => by simp [comL]
  | a :: r, b :: s => by
    rw [comL]
    split
    · rename_i h; subst h; simp [com_same r s]
    · simp
theorem ext_bytesF (s : ByteArray) (i j : Nat) : bytesOf (s.extract i j) = ((bytesOf s).drop i).take (j - i) := by
  rw [bytesOf_dB, bytesOf_dB, ext_dB, List.map_take, List.map_drop]
theorem word_back (last w : ByteArray) : last.extract 0 (comB last w) ++ w.extract (comB last w) w.size = w := by
  apply bytesOf_inj
  have ha : ∀ a b : ByteArray, bytesOf (a ++ b) = bytesOf a ++ bytesOf b := fun a b => by simp [bytesOf]
  rw [ha, ext_bytesF, ext_bytesF, List.drop_zero, Nat.sub_zero]
  have h1 : (bytesOf last).take (comB last w) = (bytesOf w).take (comB last w) := com_same _ _
  rw [h1, List.take_of_length_le (l := (bytesOf w).drop _) (by rw [List.length_drop, bytesOf_len]; omega), List.take_append_drop]
theorem body_clean {last w : ByteArray} (hw : isWord w = true) (hs : w.size ≤ 12) : ∀ c ∈ dB (bodyF last w), c ≠ 10 := by
  intro c hc e
  have hcb := comB_le last w
  rw [body_dB] at hc
  subst e
  rcases List.mem_append.1 hc with hc | hc
  · have := List.all_eq_true.1 (dec_digs (u := comB last w) (by omega)) _ hc
    revert this; decide
  · have := word_low hw _ (List.mem_of_mem_drop hc)
    revert this; decide
theorem cut_glueF : ∀ (ls : List ByteArray), (∀ l ∈ ls, ∀ c ∈ dB l, c ≠ 10) → cutA 10 [] (glueF ls) = ls.map dB ++ [[]]
  | [], _ => rfl
  | l :: r, h => by
    rw [glueF, cutA_at _ _ _ (h l (by simp)), cut_glueF r (fun x hx => h x (by simp [hx]))]
    simp
theorem bodiesF_clean : ∀ {ws : List ByteArray} (last : ByteArray), (∀ w ∈ ws, isWord w = true ∧ w.size ≤ 12) → ∀ l ∈ bodiesF last ws, ∀ c ∈ dB l, c ≠ 10
  | [], last, _, l, hl => by simp [bodiesF] at hl
  | w :: r, last, h, l, hl => by
    rw [bodiesF] at hl
    rcases List.mem_cons.1 hl with rfl | hl
    · exact body_clean (h w (by simp)).1 (h w (by simp)).2
    · exact bodiesF_clean w (fun x hx => h x (by simp [hx])) l hl
theorem words_all {ws : List ByteArray} (h : wordsM ws 300 = true) : ∀ w ∈ ws, isWord w = true ∧ w.size ≤ 12 := by
  have h2 := (words_facts h).2
  simp only [wordsM, Bool.and_eq_true] at h
  exact fun w hw => ⟨ascW_words h.1 w hw, h2 w hw⟩
theorem lines_front {ws : List ByteArray} (h : wordsM ws 300 = true) : (cutB 10 (frontM ws)).dropLast = bodiesF ⟨#[]⟩ ws := by
  rw [frontM, if_pos h, cutB, frontL_bytes]
  show ((cutA 10 [] (glueF (bodiesF ⟨#[]⟩ ws))).map mkB).dropLast = _
  rw [cut_glueF _ (bodiesF_clean _ (words_all h))]
  simp only [List.map_append, List.map_map, List.map_cons, List.map_nil, List.dropLast_concat]
  exact List.map_id' _
theorem read_front {num : ByteArray → Option Nat} (g : GoodF num) (lim : Bool) : ∀ (ws : List ByteArray) (last : ByteArray) (out : List ByteArray), (∀ w ∈ ws, isWord w = true ∧ w.size ≤ 12) → out.length + ws.length ≤ 300 → readF num lim (bodiesF last ws) last out = some (out ++ ws)
  | [], last, out, _, _ => by simp [bodiesF, readF]
  | w :: r, last, out, h, hl => by
    obtain ⟨h1, h2⟩ := h w (by simp)
    obtain ⟨b1, b2⟩ := body_head (last := last) h1 h2
    have hc := comB_le last w
    simp only [List.length_cons] at hl
    rw [bodiesF, readF, b1, g.dec _ (by omega)]
    have hlim : ¬ (lim = true ∧ out.length = 300) := by omega
    simp only [b2, word_back, hc.1, hlim, if_true, if_false]
    rw [read_front g lim r w (out ++ [w]) (fun x hx => h x (by simp [hx])) (by simp; omega)]
    simp
theorem getF_iff {num : ByteArray → Option Nat} (g : GoodF num) (lim : Bool) (text : ByteArray) (ws : List ByteArray) : getF num lim text = some ws ↔ wordsM ws 300 = true ∧ frontM ws = text := by
  constructor
  · intro h
    unfold getF at h
    cases hr : readF num lim (cutB 10 text).dropLast ⟨#[]⟩ [] with
    | none => rw [hr] at h; cases h
    | some y =>
      rw [hr, finF] at h
      split at h
      · rename_i hc
        injection h with h; subst h; exact hc
      · cases h
  · rintro ⟨h1, h2⟩
    unfold getF
    rw [← h2, lines_front h1, read_front g lim ws _ [] (words_all h1) (by have := (words_facts h1).1; simp; omega), List.nil_append, finF, if_pos ⟨h1, rfl⟩]
theorem getF_same (text : ByteArray) : getF numI true text = getF numS false text := by
  apply Option.ext
  intro x
  rw [getF_iff goodFI, getF_iff goodFS]
theorem getFR_split (o : Option (List ByteArray)) (ho : ∀ x, o = some x → wordsM x 300 = true) : ∃ (A : List ByteArray) (b : Bool), getFR o = [strsP A, boolP b] ∧ A.length ≤ 300 := by
  cases o with
  | none => exact ⟨[], false, rfl, by simp⟩
  | some x => exact ⟨x, true, rfl, (words_facts (ho x rfl)).1⟩
/-- The law's own function answers true. -/
theorem law (ps : List PV) (h : PvOkL (PvOk Tryd.prog 8) [9] ps) : ∃ N, laws_FnExactFrontGet.f N ps = some [boolP true] := by
  obtain ⟨p, rfl, h1⟩ := pvOkL1 h
  obtain ⟨text, rfl, _⟩ := pvOk_str (P := Tryd.prog) (t := 9) (by kernel_rfl) h1
  refine Ev.some ?_
  simp only [laws_FnExactFrontGet.f_eq, strs_len, strs_elem, ints_len, ints_elem, items_list, fld_agg, elem_list, toStr_sc, toInt_sc, toBool_sc, headD_one, nat_int, get_bt, decide_eq_true_eq, decide_eq_false_iff_not, decide_true, decide_false, if_true, if_false, ite_self, Bool.not_true, Bool.not_false, Bool.false_eq_true, Bool.true_eq_false, Bool.true_and, Bool.false_and, Bool.and_true, Bool.and_false, not_true, not_false_iff, Option.bind_some, nn, toList_inj, Bool.not_eq_true', Bool.not_eq_false', Int.le_refl, and_self, true_and, and_true, false_and, and_false, bne_self_eq_false, beq_self_eq_true, Int.reduceEq, Nat.reduceEqDiff, List.length_singleton, List.tail_cons, Int.reduceLE, Int.reduceLT, decide_eq_true_eq]
  by_cases c1 : 1048576 < (text.size : Int)
  · simp only [c1, strs_len, strs_elem, ints_len, ints_elem, items_list, fld_agg, elem_list, toStr_sc, toInt_sc, toBool_sc, headD_one, nat_int, get_bt, decide_eq_true_eq, decide_eq_false_iff_not, decide_true, decide_false, if_true, if_false, ite_self, Bool.not_true, Bool.not_false, Bool.false_eq_true, Bool.true_eq_false, Bool.true_and, Bool.false_and, Bool.and_true, Bool.and_false, not_true, not_false_iff, Option.bind_some, nn, toList_inj, Bool.not_eq_true', Bool.not_eq_false', Int.le_refl, and_self, true_and, and_true, false_and, and_false, bne_self_eq_false, beq_self_eq_true, Int.reduceEq, Nat.reduceEqDiff, List.length_singleton, List.tail_cons, Int.reduceLE, Int.reduceLT, decide_eq_true_eq]; exact Ev.now _
  simp only [c1, strs_len, strs_elem, ints_len, ints_elem, items_list, fld_agg, elem_list, toStr_sc, toInt_sc, toBool_sc, headD_one, nat_int, get_bt, decide_eq_true_eq, decide_eq_false_iff_not, decide_true, decide_false, if_true, if_false, ite_self, Bool.not_true, Bool.not_false, Bool.false_eq_true, Bool.true_eq_false, Bool.true_and, Bool.false_and, Bool.and_true, Bool.and_false, not_true, not_false_iff, Option.bind_some, nn, toList_inj, Bool.not_eq_true', Bool.not_eq_false', Int.le_refl, and_self, true_and, and_true, false_and, and_false, bne_self_eq_false, beq_self_eq_true, Int.reduceEq, Nat.reduceEqDiff, List.length_singleton, List.tail_cons, Int.reduceLE, Int.reduceLT, decide_eq_true_eq]
  obtain ⟨A, b, he, hA⟩ := getFR_split (getF numS false text) (fun x hx => ((getF_iff goodFS false text x).1 hx).1)
  have hs := specFrontGet_ev text (by omega)
  have hi := implFrontGet_ev text (by omega)
  rw [getF_same] at hi
  rw [he] at hs hi
  simp only [strP] at hs hi
  have e2 : ((1 + (A.length : Int)) < 0) = False := eq_false (by omega)
  refine Ev.bind hs ?_
  refine Ev.bind hi ?_
  simp only [strs_len, strs_elem, ints_len, ints_elem, items_list, fld_agg, elem_list, toStr_sc, toInt_sc, toBool_sc, headD_one, nat_int, get_bt, decide_eq_true_eq, decide_eq_false_iff_not, decide_true, decide_false, if_true, if_false, ite_self, Bool.not_true, Bool.not_false, Bool.false_eq_true, Bool.true_eq_false, Bool.true_and, Bool.false_and, Bool.and_true, Bool.and_false, not_true, not_false_iff, Option.bind_some, nn, toList_inj, Bool.not_eq_true', Bool.not_eq_false', Int.le_refl, and_self, true_and, and_true, false_and, and_false, bne_self_eq_false, beq_self_eq_true, Int.reduceEq, Nat.reduceEqDiff, List.length_singleton, List.tail_cons, Int.reduceLE, Int.reduceLT, decide_eq_true_eq]
  refine Ev.bind (eqStringS_ev A (by omega)) ?_
  simp only [strs_len, strs_elem, ints_len, ints_elem, items_list, fld_agg, elem_list, toStr_sc, toInt_sc, toBool_sc, headD_one, nat_int, get_bt, decide_eq_true_eq, decide_eq_false_iff_not, decide_true, decide_false, if_true, if_false, ite_self, Bool.not_true, Bool.not_false, Bool.false_eq_true, Bool.true_eq_false, Bool.true_and, Bool.false_and, Bool.and_true, Bool.and_false, not_true, not_false_iff, Option.bind_some, nn, toList_inj, Bool.not_eq_true', Bool.not_eq_false', Int.le_refl, and_self, true_and, and_true, false_and, and_false, bne_self_eq_false, beq_self_eq_true, Int.reduceEq, Nat.reduceEqDiff, List.length_singleton, List.tail_cons, Int.reduceLE, Int.reduceLT, decide_eq_true_eq]
  refine Ev.bind (markStringS_ev A 1 (by omega) (by omega) (by omega)) ?_
  refine Ev.bind (heldStringS_ev A 1 (by omega) (by omega) (by omega)) ?_
  simp only [strs_len, strs_elem, ints_len, ints_elem, items_list, fld_agg, elem_list, toStr_sc, toInt_sc, toBool_sc, headD_one, nat_int, get_bt, decide_eq_true_eq, decide_eq_false_iff_not, decide_true, decide_false, if_true, if_false, ite_self, Bool.not_true, Bool.not_false, Bool.false_eq_true, Bool.true_eq_false, Bool.true_and, Bool.false_and, Bool.and_true, Bool.and_false, not_true, not_false_iff, Option.bind_some, nn, toList_inj, Bool.not_eq_true', Bool.not_eq_false', Int.le_refl, and_self, true_and, and_true, false_and, and_false, bne_self_eq_false, beq_self_eq_true, Int.reduceEq, Nat.reduceEqDiff, List.length_singleton, List.tail_cons, Int.reduceLE, Int.reduceLT, decide_eq_true_eq, e2]
  refine Ev.bind hi ?_
  simp only [strs_len, strs_elem, ints_len, ints_elem, items_list, fld_agg, elem_list, toStr_sc, toInt_sc, toBool_sc, headD_one, nat_int, get_bt, decide_eq_true_eq, decide_eq_false_iff_not, decide_true, decide_false, if_true, if_false, ite_self, Bool.not_true, Bool.not_false, Bool.false_eq_true, Bool.true_eq_false, Bool.true_and, Bool.false_and, Bool.and_true, Bool.and_false, not_true, not_false_iff, Option.bind_some, nn, toList_inj, Bool.not_eq_true', Bool.not_eq_false', Int.le_refl, and_self, true_and, and_true, false_and, and_false, bne_self_eq_false, beq_self_eq_true, Int.reduceEq, Nat.reduceEqDiff, List.length_singleton, List.tail_cons, Int.reduceLE, Int.reduceLT, decide_eq_true_eq]
  refine Ev.bind (eqStringS_ev A (by omega)) ?_
  simp only [strs_len, strs_elem, ints_len, ints_elem, items_list, fld_agg, elem_list, toStr_sc, toInt_sc, toBool_sc, headD_one, nat_int, get_bt, decide_eq_true_eq, decide_eq_false_iff_not, decide_true, decide_false, if_true, if_false, ite_self, Bool.not_true, Bool.not_false, Bool.false_eq_true, Bool.true_eq_false, Bool.true_and, Bool.false_and, Bool.and_true, Bool.and_false, not_true, not_false_iff, Option.bind_some, nn, toList_inj, Bool.not_eq_true', Bool.not_eq_false', Int.le_refl, and_self, true_and, and_true, false_and, and_false, bne_self_eq_false, beq_self_eq_true, Int.reduceEq, Nat.reduceEqDiff, List.length_singleton, List.tail_cons, Int.reduceLE, Int.reduceLT, decide_eq_true_eq]
  refine Ev.bind (heldStringS_ev A 1 (by omega) (by omega) (by omega)) ?_
  simp only [strs_len, strs_elem, ints_len, ints_elem, items_list, fld_agg, elem_list, toStr_sc, toInt_sc, toBool_sc, headD_one, nat_int, get_bt, decide_eq_true_eq, decide_eq_false_iff_not, decide_true, decide_false, if_true, if_false, ite_self, Bool.not_true, Bool.not_false, Bool.false_eq_true, Bool.true_eq_false, Bool.true_and, Bool.false_and, Bool.and_true, Bool.and_false, not_true, not_false_iff, Option.bind_some, nn, toList_inj, Bool.not_eq_true', Bool.not_eq_false', Int.le_refl, and_self, true_and, and_true, false_and, and_false, bne_self_eq_false, beq_self_eq_true, Int.reduceEq, Nat.reduceEqDiff, List.length_singleton, List.tail_cons, Int.reduceLE, Int.reduceLT, decide_eq_true_eq, e2]
  exact Ev.now _
end Go.Proofs.YtpnbhcifhbnaaaaDoor.FnExactFrontGet
