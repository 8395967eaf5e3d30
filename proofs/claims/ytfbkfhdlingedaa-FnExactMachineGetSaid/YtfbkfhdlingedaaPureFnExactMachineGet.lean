/- The law FnExactMachineGet, over the trees that its functions compute: it answers true, for all arguments of the bounds that the row grants. -/
import Derived.Test.YtfbkfhdlingedaaFnFnExactMachineGetx1
set_option linter.unusedVariables false
set_option linter.unusedSimpArgs false
set_option maxRecDepth 10000
namespace Go.Proofs.Ytfbkfhdlingedaa.FnExactMachineGet
open Go Go.Proofs.YtfbkfhdlingedaaAm
theorem Ev2.bind2 {α β : Type} {r : α} {s : β} {g : Nat → Nat → Option β} {f : Nat → Nat → β → Option α} (h : Ev2 g s) (k : Ev2 (fun N n => f N n s) r) : Ev2 (fun N n => (g N n).bind (f N n)) r := by
  obtain ⟨k1, h1⟩ := h; obtain ⟨k2, h2⟩ := k
  exact ⟨max k1 k2, fun N n hN hn => by
    show (g N n).bind (f N n) = _
    rw [h1 N n (by omega) (by omega), Option.bind_some]; exact h2 N n (by omega) (by omega)⟩
theorem nat_wrap {n : Int} {m : Nat} (h : n = (m : Int)) (hm : m < 9223372036854775808) : IntKind.i64.wrap n = (m : Int) := by
  rw [h, wrap_id (by omega) (by omega)]
theorem lt_int {a b : Nat} (h : a < b) : (a : Int) < (b : Int) := Int.ofNat_lt.2 h
theorem le_int {a b : Nat} (h : a ≤ b) : (a : Int) ≤ (b : Int) := Int.ofNat_le.2 h
/-! #### machines: states and edges -/
abbrev Ed := Int × Int
abbrev St := Bool × List Ed
def edgeP (e : Ed) : PV := .agg [intP e.1, intP e.2]
def edgesP (l : List Ed) : PV := .list (l.map edgeP)
def stP (s : St) : PV := .agg [boolP s.1, edgesP s.2]
def machP (m : List St) : PV := .list (m.map stP)
theorem edge_f0 (e : Ed) : (edgeP e).fld 0 = intP e.1 := rfl
theorem edge_f1 (e : Ed) : (edgeP e).fld 1 = intP e.2 := rfl
theorem edge_agg (e : Ed) : PV.agg [PV.sc (.int .i64 e.1), PV.sc (.int .i64 e.2)] = edgeP e := rfl
theorem st_f0 (s : St) : (stP s).fld 0 = boolP s.1 := rfl
theorem st_f1 (s : St) : (stP s).fld 1 = edgesP s.2 := rfl
theorem st_agg (s : St) : PV.agg [PV.sc (.bool s.1), edgesP s.2] = stP s := rfl
theorem edges_len (l : List Ed) : (edgesP l).items.length = l.length := by simp [edgesP, PV.items]
theorem mach_len (l : List St) : (machP l).items.length = l.length := by simp [machP, PV.items]
theorem edges_at {l pre rest : List Ed} {e : Ed} (h : l = pre ++ e :: rest) : (edgesP l).elem pre.length = edgeP e := by
  subst h; simp [edgesP, PV.elem, PV.items, List.getD_eq_getElem?_getD]
theorem mach_at {l pre rest : List St} {s : St} (h : l = pre ++ s :: rest) : (machP l).elem pre.length = stP s := by
  subst h; simp [machP, PV.elem, PV.items, List.getD_eq_getElem?_getD]
/-! The size. -/
/-- A machine of bounded size. -/
structure MachB (m : List St) : Prop where
  n : m.length ≤ 1048576
  e : ∀ s ∈ m, s.2.length ≤ 1048576
/-! The copy. -/
theorem set_map {α : Type} (f : α → PV) (pre : List α) (z x : PV) (zs : List PV) : (pre.map f ++ z :: zs).set pre.length x = pre.map f ++ x :: zs := by
  have := set_mid (pre.map f) z x zs
  rwa [List.length_map] at this
theorem map_snoc {α : Type} (f : α → PV) (pre : List α) (c : α) (zs : List PV) : pre.map f ++ f c :: zs = (pre ++ [c]).map f ++ zs := by simp
/-! The comparison with itself. -/
theorem eqEdge_val (e : Ed) (N : Nat) : laws_eqEdge.f N [edgeP e, edgeP e] = some [boolP true] := by
  simp only [laws_eqEdge.f_eq, edge_f0, edge_f1, strs_len, strs_elem, ints_len, ints_elem, items_list, fld_agg, elem_list, toStr_sc, toInt_sc, toBool_sc, headD_one, nat_int, get_bt, decide_eq_true_eq, decide_eq_false_iff_not, decide_true, decide_false, if_true, if_false, ite_self, Bool.not_true, Bool.not_false, Bool.false_eq_true, Bool.true_eq_false, Bool.true_and, Bool.false_and, Bool.and_true, Bool.and_false, not_true, not_false_iff, Option.bind_some, nn, toList_inj, Bool.not_eq_true', Bool.not_eq_false', Int.le_refl, and_self, true_and, and_true, false_and, and_false, bne_self_eq_false, beq_self_eq_true, Int.reduceEq, Nat.reduceEqDiff, List.length_singleton, List.tail_cons, Int.reduceLE, Int.reduceLT, decide_eq_true_eq]
theorem eqEdges_loop (l : List Ed) (hl : l.length ≤ 1048576) : ∀ rest pre : List Ed, l = pre ++ rest → Ev2 (fun N n => laws_eqEdgeS.l0 N n (edgesP l) (edgesP l) (pre.length : Int)) [boolP true] := by
  intro rest
  induction rest with
  | nil =>
    intro pre hp
    refine Ev2.succ ?_
    simp only [laws_eqEdgeS.l0_eq, edges_len, at_end hp, strs_len, strs_elem, ints_len, ints_elem, items_list, fld_agg, elem_list, toStr_sc, toInt_sc, toBool_sc, headD_one, nat_int, get_bt, decide_eq_true_eq, decide_eq_false_iff_not, decide_true, decide_false, if_true, if_false, ite_self, Bool.not_true, Bool.not_false, Bool.false_eq_true, Bool.true_eq_false, Bool.true_and, Bool.false_and, Bool.and_true, Bool.and_false, not_true, not_false_iff, Option.bind_some, nn, toList_inj, Bool.not_eq_true', Bool.not_eq_false', Int.le_refl, and_self, true_and, and_true, false_and, and_false, bne_self_eq_false, beq_self_eq_true, Int.reduceEq, Nat.reduceEqDiff, List.length_singleton, List.tail_cons, Int.reduceLE, Int.reduceLT, decide_eq_true_eq]
    exact Ev2.now _
  | cons c rest ih =>
    intro pre hp
    refine Ev2.succ ?_
    simp only [laws_eqEdgeS.l0_eq, edges_len, at_lt hp, edges_at hp, edge_f0, edge_f1, edge_agg, eqEdge_val, at_next hp (by omega), strs_len, strs_elem, ints_len, ints_elem, items_list, fld_agg, elem_list, toStr_sc, toInt_sc, toBool_sc, headD_one, nat_int, get_bt, decide_eq_true_eq, decide_eq_false_iff_not, decide_true, decide_false, if_true, if_false, ite_self, Bool.not_true, Bool.not_false, Bool.false_eq_true, Bool.true_eq_false, Bool.true_and, Bool.false_and, Bool.and_true, Bool.and_false, not_true, not_false_iff, Option.bind_some, nn, toList_inj, Bool.not_eq_true', Bool.not_eq_false', Int.le_refl, and_self, true_and, and_true, false_and, and_false, bne_self_eq_false, beq_self_eq_true, Int.reduceEq, Nat.reduceEqDiff, List.length_singleton, List.tail_cons, Int.reduceLE, Int.reduceLT, decide_eq_true_eq]
    exact ih _ (at_step hp)
theorem eqEdges_ev (l : List Ed) (hl : l.length ≤ 1048576) : Ev (fun N => laws_eqEdgeS.f N [edgesP l, edgesP l]) [boolP true] := by
  simp only [laws_eqEdgeS.f_eq, strs_len, strs_elem, ints_len, ints_elem, items_list, fld_agg, elem_list, toStr_sc, toInt_sc, toBool_sc, headD_one, nat_int, get_bt, decide_eq_true_eq, decide_eq_false_iff_not, decide_true, decide_false, if_true, if_false, ite_self, Bool.not_true, Bool.not_false, Bool.false_eq_true, Bool.true_eq_false, Bool.true_and, Bool.false_and, Bool.and_true, Bool.and_false, not_true, not_false_iff, Option.bind_some, nn, toList_inj, Bool.not_eq_true', Bool.not_eq_false', Int.le_refl, and_self, true_and, and_true, false_and, and_false, bne_self_eq_false, beq_self_eq_true, Int.reduceEq, Nat.reduceEqDiff, List.length_singleton, List.tail_cons, Int.reduceLE, Int.reduceLT, decide_eq_true_eq]
  exact (eqEdges_loop l hl l [] rfl).diag
theorem eqState_ev (s : St) (hl : s.2.length ≤ 1048576) : Ev (fun N => laws_eqState.f N [stP s, stP s]) [boolP true] := by
  simp only [laws_eqState.f_eq, st_f0, st_f1, strs_len, strs_elem, ints_len, ints_elem, items_list, fld_agg, elem_list, toStr_sc, toInt_sc, toBool_sc, headD_one, nat_int, get_bt, decide_eq_true_eq, decide_eq_false_iff_not, decide_true, decide_false, if_true, if_false, ite_self, Bool.not_true, Bool.not_false, Bool.false_eq_true, Bool.true_eq_false, Bool.true_and, Bool.false_and, Bool.and_true, Bool.and_false, not_true, not_false_iff, Option.bind_some, nn, toList_inj, Bool.not_eq_true', Bool.not_eq_false', Int.le_refl, and_self, true_and, and_true, false_and, and_false, bne_self_eq_false, beq_self_eq_true, Int.reduceEq, Nat.reduceEqDiff, List.length_singleton, List.tail_cons, Int.reduceLE, Int.reduceLT, decide_eq_true_eq]
  refine Ev.bind (eqEdges_ev s.2 hl) ?_
  simp only [strs_len, strs_elem, ints_len, ints_elem, items_list, fld_agg, elem_list, toStr_sc, toInt_sc, toBool_sc, headD_one, nat_int, get_bt, decide_eq_true_eq, decide_eq_false_iff_not, decide_true, decide_false, if_true, if_false, ite_self, Bool.not_true, Bool.not_false, Bool.false_eq_true, Bool.true_eq_false, Bool.true_and, Bool.false_and, Bool.and_true, Bool.and_false, not_true, not_false_iff, Option.bind_some, nn, toList_inj, Bool.not_eq_true', Bool.not_eq_false', Int.le_refl, and_self, true_and, and_true, false_and, and_false, bne_self_eq_false, beq_self_eq_true, Int.reduceEq, Nat.reduceEqDiff, List.length_singleton, List.tail_cons, Int.reduceLE, Int.reduceLT, decide_eq_true_eq]
  exact Ev.now _
theorem eqStates_loop (m : List St) (hm : MachB m) : ∀ rest pre : List St, m = pre ++ rest → Ev2 (fun N n => laws_eqStateS.l0 N n (machP m) (machP m) (pre.length : Int)) [boolP true] := by
  have hn := hm.n
  intro rest
  induction rest with
  | nil =>
    intro pre hp
    refine Ev2.succ ?_
    simp only [laws_eqStateS.l0_eq, mach_len, at_end hp, strs_len, strs_elem, ints_len, ints_elem, items_list, fld_agg, elem_list, toStr_sc, toInt_sc, toBool_sc, headD_one, nat_int, get_bt, decide_eq_true_eq, decide_eq_false_iff_not, decide_true, decide_false, if_true, if_false, ite_self, Bool.not_true, Bool.not_false, Bool.false_eq_true, Bool.true_eq_false, Bool.true_and, Bool.false_and, Bool.and_true, Bool.and_false, not_true, not_false_iff, Option.bind_some, nn, toList_inj, Bool.not_eq_true', Bool.not_eq_false', Int.le_refl, and_self, true_and, and_true, false_and, and_false, bne_self_eq_false, beq_self_eq_true, Int.reduceEq, Nat.reduceEqDiff, List.length_singleton, List.tail_cons, Int.reduceLE, Int.reduceLT, decide_eq_true_eq]
    exact Ev2.now _
  | cons c rest ih =>
    intro pre hp
    refine Ev2.succ ?_
    simp only [laws_eqStateS.l0_eq, mach_len, at_lt hp, mach_at hp, st_f0, st_f1, st_agg, at_next hp (by omega), strs_len, strs_elem, ints_len, ints_elem, items_list, fld_agg, elem_list, toStr_sc, toInt_sc, toBool_sc, headD_one, nat_int, get_bt, decide_eq_true_eq, decide_eq_false_iff_not, decide_true, decide_false, if_true, if_false, ite_self, Bool.not_true, Bool.not_false, Bool.false_eq_true, Bool.true_eq_false, Bool.true_and, Bool.false_and, Bool.and_true, Bool.and_false, not_true, not_false_iff, Option.bind_some, nn, toList_inj, Bool.not_eq_true', Bool.not_eq_false', Int.le_refl, and_self, true_and, and_true, false_and, and_false, bne_self_eq_false, beq_self_eq_true, Int.reduceEq, Nat.reduceEqDiff, List.length_singleton, List.tail_cons, Int.reduceLE, Int.reduceLT, decide_eq_true_eq]
    refine Ev2.bind (eqState_ev c (hm.e c (by rw [hp]; simp))) ?_
    simp only [strs_len, strs_elem, ints_len, ints_elem, items_list, fld_agg, elem_list, toStr_sc, toInt_sc, toBool_sc, headD_one, nat_int, get_bt, decide_eq_true_eq, decide_eq_false_iff_not, decide_true, decide_false, if_true, if_false, ite_self, Bool.not_true, Bool.not_false, Bool.false_eq_true, Bool.true_eq_false, Bool.true_and, Bool.false_and, Bool.and_true, Bool.and_false, not_true, not_false_iff, Option.bind_some, nn, toList_inj, Bool.not_eq_true', Bool.not_eq_false', Int.le_refl, and_self, true_and, and_true, false_and, and_false, bne_self_eq_false, beq_self_eq_true, Int.reduceEq, Nat.reduceEqDiff, List.length_singleton, List.tail_cons, Int.reduceLE, Int.reduceLT, decide_eq_true_eq]
    exact ih _ (at_step hp)
theorem eqStates_ev (m : List St) (hm : MachB m) : Ev (fun N => laws_eqStateS.f N [machP m, machP m]) [boolP true] := by
  simp only [laws_eqStateS.f_eq, strs_len, strs_elem, ints_len, ints_elem, items_list, fld_agg, elem_list, toStr_sc, toInt_sc, toBool_sc, headD_one, nat_int, get_bt, decide_eq_true_eq, decide_eq_false_iff_not, decide_true, decide_false, if_true, if_false, ite_self, Bool.not_true, Bool.not_false, Bool.false_eq_true, Bool.true_eq_false, Bool.true_and, Bool.false_and, Bool.and_true, Bool.and_false, not_true, not_false_iff, Option.bind_some, nn, toList_inj, Bool.not_eq_true', Bool.not_eq_false', Int.le_refl, and_self, true_and, and_true, false_and, and_false, bne_self_eq_false, beq_self_eq_true, Int.reduceEq, Nat.reduceEqDiff, List.length_singleton, List.tail_cons, Int.reduceLE, Int.reduceLT, decide_eq_true_eq]
  exact (eqStates_loop m hm m [] rfl).diag
/-! #### machines that are ok -/
def edgeOk (n i : Nat) (p : Option Int) (e : Ed) : Bool := decide (97 ≤ e.1 ∧ e.1 ≤ 122) && (decide ((i : Int) + 1 ≤ e.2 ∧ e.2 ≤ (n : Int) - 1) && (match p with | none => true | some q => decide (q < e.1)))
def edgesOk (n i : Nat) : Option Int → List Ed → Bool
  | _, [] => true
  | p, e :: es => edgeOk n i p e && edgesOk n i (some e.1) es
def stOk (n i : Nat) (s : St) : Bool := edgesOk n i none s.2 && (decide (i = 0) || (s.1 || decide (s.2 ≠ [])))
def stsOk (n : Nat) : Nat → List St → Bool
  | _, [] => true
  | i, s :: r => stOk n i s && stsOk n (i + 1) r
/-- How deep it goes: T, of the states behind. -/
def depE (i : Nat) (T : List Int) : List Ed → Int → Int
  | [], a => a
  | e :: es, a => depE i T es (if a < T.getD (e.2.toNat - (i + 1)) 0 + 1 then T.getD (e.2.toNat - (i + 1)) 0 + 1 else a)
def depL (i : Nat) : List St → List Int
  | [] => []
  | s :: r => depE i (depL (i + 1) r) s.2 0 :: depL (i + 1) r
def okM (m : List St) : Bool := decide (1 ≤ m.length ∧ m.length ≤ 400) && (stsOk m.length 0 m && decide ((depL 0 m).getD 0 0 ≤ 12))
theorem stsOk_app (n : Nat) : ∀ (a b : List St) (i : Nat), stsOk n i (a ++ b) = (stsOk n i a && stsOk n (i + a.length) b)
  | [], b, i => by simp [stsOk]
  | s :: a, b, i => by
    simp only [List.cons_append, stsOk, List.length_cons]
    rw [stsOk_app n a b (i + 1), Bool.and_assoc]
    have : i + 1 + a.length = i + (a.length + 1) := by omega
    rw [this]
theorem edgesOk_to {n i : Nat} : ∀ {es : List Ed} {p : Option Int}, edgesOk n i p es = true → ∀ e ∈ es, (97 ≤ e.1 ∧ e.1 ≤ 122) ∧ (i : Int) + 1 ≤ e.2 ∧ e.2 ≤ (n : Int) - 1
  | [], _, _, e, he => absurd he (by simp)
  | c :: es, p, h, e, he => by
    simp only [edgesOk, edgeOk, Bool.and_eq_true, decide_eq_true_eq] at h
    rcases List.mem_cons.1 he with rfl | he
    · exact ⟨h.1.1, h.1.2.1⟩
    · exact edgesOk_to h.2 e he
theorem depL_len : ∀ (m : List St) (i : Nat), (depL i m).length = m.length
  | [], _ => rfl
  | s :: r, i => by simp [depL, depL_len r (i + 1)]
theorem getD_range {T : List Int} {B : Int} (h : ∀ x ∈ T, 0 ≤ x ∧ x ≤ B) (h0 : 0 ≤ B) (j : Nat) : 0 ≤ T.getD j 0 ∧ T.getD j 0 ≤ B := by
  rw [List.getD_eq_getElem?_getD]
  cases hj : T[j]? with
  | none => exact ⟨Int.le_refl _, h0⟩
  | some x => exact h x (List.mem_of_getElem? hj)
theorem depE_range {i : Nat} {T : List Int} {B : Int} (h : ∀ x ∈ T, 0 ≤ x ∧ x ≤ B) (h0 : 0 ≤ B) : ∀ (es : List Ed) (a : Int), a ≤ B + 1 → a ≤ depE i T es a ∧ depE i T es a ≤ B + 1
  | [], a, ha => ⟨Int.le_refl _, ha⟩
  | e :: es, a, ha => by
    have hg := getD_range h h0 (e.2.toNat - (i + 1))
    unfold depE
    split
    · have := depE_range (i := i) h h0 es (T.getD (e.2.toNat - (i + 1)) 0 + 1) (by omega); omega
    · exact depE_range h h0 es a ha
theorem depL_range : ∀ (m : List St) (i : Nat), ∀ x ∈ depL i m, 0 ≤ x ∧ x ≤ (m.length : Int)
  | [], _, x, hx => absurd hx (by simp [depL])
  | s :: r, i, x, hx => by
    have ih := depL_range r (i + 1)
    simp only [depL, List.mem_cons] at hx
    rcases hx with rfl | hx
    · have := depE_range (i := i) ih (Int.natCast_nonneg _) s.2 0 (by omega)
      simp only [List.length_cons]; omega
    · have := ih x hx
      simp only [List.length_cons]; omega
theorem ints_app (a b : List Int) : a.map intP ++ b.map intP = (a ++ b).map intP := by simp
/-- The array, while a state is at hand. -/
def arr (i : Nat) (a : Int) (T : List Int) : List PV := (List.replicate i (0 : Int) ++ a :: T).map intP
theorem arr_len (i : Nat) (a : Int) (T : List Int) : (arr i a T).length = i + 1 + T.length := by simp [arr]; omega
theorem arr_here (i : Nat) (a : Int) (T : List Int) : ((PV.list (arr i a T)).elem i).toInt = a := by
  have h := ints_elem (List.replicate i (0 : Int) ++ a :: T) i
  simp only [intsP] at h
  unfold arr
  rw [h]; simp [List.getD_eq_getElem?_getD]
theorem arr_at (i j : Nat) (a : Int) (T : List Int) (h : i + 1 ≤ j) : ((PV.list (arr i a T)).elem j).toInt = T.getD (j - (i + 1)) 0 := by
  have h2 := ints_elem (List.replicate i (0 : Int) ++ a :: T) j
  simp only [intsP] at h2
  unfold arr
  rw [h2, List.getD_eq_getElem?_getD, List.getD_eq_getElem?_getD, List.getElem?_append_right (by simp; omega)]
  obtain ⟨k, rfl⟩ : ∃ k, j = i + 1 + k := ⟨j - (i + 1), by omega⟩
  have e1 : i + 1 + k - (List.replicate i (0 : Int)).length = k + 1 := by simp; omega
  have e2 : i + 1 + k - (i + 1) = k := by omega
  rw [e1, e2, List.getElem?_cons_succ]
theorem arr_set (i : Nat) (a x : Int) (T : List Int) : (arr i a T).set i (intP x) = arr i x T := by
  unfold arr
  rw [← List.map_set]
  congr 1
  have := set_mid (List.replicate i (0 : Int)) a x T
  rwa [List.length_replicate] at this
theorem arr_zero (i : Nat) (T : List Int) : (List.replicate (i + 1) (0 : Int) ++ T).map intP = arr i 0 T := by
  unfold arr; rw [List.replicate_succ', List.append_assoc]; rfl
theorem at_prevN {α : Type} {xs pre' rest : List α} {q : α} (hp : xs = (pre' ++ [q]) ++ rest) (hx : xs.length ≤ 9223372036854775807) : IntKind.i64.wrap (((pre' ++ [q]).length : Int) - 1) = (pre'.length : Int) ∧ (pre'.length : Int) < (xs.length : Int) := by
  subst hp
  simp only [List.length_append, List.length_cons, List.length_nil] at hx ⊢
  refine ⟨?_, by omega⟩
  rw [wrap_id (by omega) (by omega)]; omega
/-! The reference's. -/
theorem deep_l1 (m : List St) (hm : MachB m) {pre rest : List St} {s : St} (hp : m = pre ++ s :: rest) (T : List Int) (hT : T.length = rest.length) (hTr : ∀ x ∈ T, 0 ≤ x ∧ x ≤ 1048576) (R : Int) (hes : ∀ e ∈ s.2, (pre.length : Int) + 1 ≤ e.2 ∧ e.2 ≤ (m.length : Int) - 1) :
    ∀ (es epre : List Ed), s.2 = epre ++ es → ∀ a : Int, 0 ≤ a → a ≤ 1048577 →
    (Ev2 (fun N n => spec_l3Deep.l0 N n (machP m) (IntKind.i64.wrap ((pre.length : Int) - 1)) (arr pre.length (depE pre.length T es a) T)) [intP R]) →
    Ev3 (fun N m0 n => spec_l3Deep.l1 N m0 n (machP m) (pre.length : Int) (epre.length : Int) (arr pre.length a T)) [intP R] := by
  have hn := hm.n
  have hse := hm.e s (by rw [hp]; simp)
  have hlm : m.length = pre.length + 1 + rest.length := by rw [hp]; simp; omega
  intro es
  induction es with
  | nil =>
    intro epre he a _ _ hk
    refine Ev3.succ ?_
    simp only [spec_l3Deep.l1_eq, mach_len, at_lt hp, mach_at hp, st_f1, edges_len, at_end he, strs_len, strs_elem, ints_len, ints_elem, items_list, fld_agg, elem_list, toStr_sc, toInt_sc, toBool_sc, headD_one, nat_int, get_bt, decide_eq_true_eq, decide_eq_false_iff_not, decide_true, decide_false, if_true, if_false, ite_self, Bool.not_true, Bool.not_false, Bool.false_eq_true, Bool.true_eq_false, Bool.true_and, Bool.false_and, Bool.and_true, Bool.and_false, not_true, not_false_iff, Option.bind_some, nn, toList_inj, Bool.not_eq_true', Bool.not_eq_false', Int.le_refl, and_self, true_and, and_true, false_and, and_false, bne_self_eq_false, beq_self_eq_true, Int.reduceEq, Nat.reduceEqDiff, List.length_singleton, List.tail_cons, Int.reduceLE, Int.reduceLT, decide_eq_true_eq]
    exact hk.outer
  | cons e es ih =>
    intro epre he a ha0 ha1 hk
    obtain ⟨h1, h2⟩ := hes e (by rw [he]; simp)
    obtain ⟨t, ht⟩ := Int.eq_ofNat_of_zero_le (show 0 ≤ e.2 by omega)
    have hge : pre.length + 1 ≤ t := by omega
    have ht' : t < pre.length + 1 + T.length := by omega
    have hl1 : (t : Int) < (((arr pre.length a T).length : Nat) : Int) := by rw [arr_len]; omega
    have hl2 : (pre.length : Int) < (((arr pre.length a T).length : Nat) : Int) := by rw [arr_len]; omega
    have hg := getD_range hTr (by omega) (t - (pre.length + 1))
    have hw : IntKind.i64.wrap (T.getD (t - (pre.length + 1)) 0 + 1) = T.getD (t - (pre.length + 1)) 0 + 1 := wrap_id (by omega) (by omega)
    refine Ev3.succ ?_
    have htn : (e.2).toNat = t := by rw [ht]; rfl
    have a1 := arr_at pre.length t a T hge
    have a2 := arr_here pre.length a T
    unfold depE at hk
    rw [htn] at hk
    by_cases hlt : a < T.getD (t - (pre.length + 1)) 0 + 1
    · rw [if_pos hlt] at hk
      have := ih (epre ++ [e]) (at_step he) (T.getD (t - (pre.length + 1)) 0 + 1) (by omega) (by omega) hk
      simp only [spec_l3Deep.l1_eq, mach_len, at_lt hp, mach_at hp, st_f1, edges_len, at_lt he, edges_at he, edge_f1, ht, hl1, hl2, a1, a2, hw, hlt, arr_set, at_next he (by omega), nat_int, nn, toInt_sc, decide_true, if_true, htn]
      exact this
    · rw [if_neg hlt] at hk
      have := ih (epre ++ [e]) (at_step he) a ha0 ha1 hk
      simp only [spec_l3Deep.l1_eq, mach_len, at_lt hp, mach_at hp, st_f1, edges_len, at_lt he, edges_at he, edge_f1, ht, hl1, hl2, a1, a2, hw, hlt, at_next he (by omega), nat_int, nn, toInt_sc, decide_true, decide_false, if_true, if_false, Bool.false_eq_true, htn]
      exact this
theorem deep_l0 (m : List St) (hm : MachB m) (hne : 0 < m.length) (hok : stsOk m.length 0 m = true) : ∀ (k : Nat) (pre rest : List St), pre.length = k → m = pre ++ rest →
    Ev2 (fun N n => spec_l3Deep.l0 N n (machP m) ((k : Int) - 1) ((List.replicate k (0 : Int) ++ depL k rest).map intP)) [intP ((depL 0 m).getD 0 0)] := by
  have hn := hm.n
  intro k
  induction k with
  | zero =>
    intro pre rest hk hp
    obtain rfl : pre = [] := List.eq_nil_of_length_eq_zero hk
    rw [List.nil_append] at hp
    subst hp
    refine Ev2.succ ?_
    have h0 : ¬ (0 : Int) ≤ ((0 : Nat) : Int) - 1 := by omega
    have hl : (0 : Int) < ((((List.replicate 0 (0 : Int) ++ depL 0 m).map intP).length : Nat) : Int) := by simp [depL_len]; omega
    have he : ((PV.list ((List.replicate 0 (0 : Int) ++ depL 0 m).map intP)).elem 0).toInt = (depL 0 m).getD 0 0 := by
      have h2 := ints_elem (List.replicate 0 (0 : Int) ++ depL 0 m) 0
      simp only [intsP] at h2
      rw [h2]; simp
    simp only [spec_l3Deep.l0_eq, h0, hl, he, decide_false, if_true, if_false, Bool.false_eq_true, Int.le_refl]
    exact Ev2.now _
  | succ k ih =>
    intro pre rest hk hp
    obtain ⟨pre', s, rfl⟩ : ∃ pre' s, pre = pre' ++ [s] := by
      rcases List.eq_nil_or_concat pre with rfl | ⟨a, b, rfl⟩
      · simp at hk
      · exact ⟨a, b, by simp⟩
    have hk' : pre'.length = k := by simpa using hk
    subst hk'
    have hp' : m = pre' ++ s :: rest := by rw [hp]; simp
    have hso : stOk m.length pre'.length s = true := by
      have h := hok
      rw [hp', stsOk_app, ← hp'] at h
      simp only [stsOk, Bool.and_eq_true, Nat.zero_add] at h
      exact h.2.1
    have heo : edgesOk m.length pre'.length none s.2 = true := by
      simp only [stOk, Bool.and_eq_true] at hso
      exact hso.1
    have hes := fun e he => (edgesOk_to heo e he).2
    have hr := depL_range rest (pre'.length + 1)
    have hlm : m.length = pre'.length + 1 + rest.length := by rw [hp']; simp; omega
    have hw : IntKind.i64.wrap ((pre'.length : Int) - 1) = (pre'.length : Int) - 1 := wrap_id (by omega) (by omega)
    have hih := ih pre' (s :: rest) rfl hp'
    refine Ev2.succ ?_
    have h0 : (0 : Int) ≤ (((pre'.length + 1 : Nat)) : Int) - 1 := by omega
    have h1 : (((pre'.length + 1 : Nat)) : Int) - 1 = (pre'.length : Int) := by omega
    simp only [spec_l3Deep.l0_eq, h0, h1, arr_zero, decide_true, if_true, nn]
    refine Ev3.start (deep_l1 m hm hp' (depL (pre'.length + 1) rest) (depL_len _ _) (fun x hx => by have := hr x hx; omega) _ hes s.2 [] rfl 0 (Int.le_refl _) (by omega) ?_)
    rw [hw]
    exact hih
theorem deep_ev (m : List St) (hm : MachB m) (hne : 0 < m.length) (hok : stsOk m.length 0 m = true) : Ev (fun N => spec_l3Deep.f N [machP m]) [intP ((depL 0 m).getD 0 0)] := by
  have hn := hm.n
  have c1 : m.length ≤ 35184372088832 := by omega
  have hw : IntKind.i64.wrap ((m.length : Int) - 1) = (m.length : Int) - 1 := wrap_id (by omega) (by omega)
  have h := (deep_l0 m hm hne hok m.length m [] rfl (by simp)).diag
  have e : (List.replicate m.length (0 : Int) ++ depL m.length []).map intP = List.replicate m.length (intP 0) := by simp [depL]
  rw [e] at h
  simp only [spec_l3Deep.f_eq, mach_len, c1, hw, strs_len, strs_elem, ints_len, ints_elem, items_list, fld_agg, elem_list, toStr_sc, toInt_sc, toBool_sc, headD_one, nat_int, get_bt, decide_eq_true_eq, decide_eq_false_iff_not, decide_true, decide_false, if_true, if_false, ite_self, Bool.not_true, Bool.not_false, Bool.false_eq_true, Bool.true_eq_false, Bool.true_and, Bool.false_and, Bool.and_true, Bool.and_false, not_true, not_false_iff, Option.bind_some, nn, toList_inj, Bool.not_eq_true', Bool.not_eq_false', Int.le_refl, and_self, true_and, and_true, false_and, and_false, bne_self_eq_false, beq_self_eq_true, Int.reduceEq, Nat.reduceEqDiff, List.length_singleton, List.tail_cons, Int.reduceLE, Int.reduceLT, decide_eq_true_eq]
  exact h
theorem specIn_val (a b c : Int) (N : Nat) : spec_l1In.f N [.sc (.int .i64 a), .sc (.int .i64 b), .sc (.int .i64 c)] = some [boolP (decide (b ≤ a ∧ a ≤ c))] := by
  simp only [spec_l1In.f_eq, strs_len, strs_elem, ints_len, ints_elem, items_list, fld_agg, elem_list, toStr_sc, toInt_sc, toBool_sc, headD_one, nat_int, get_bt, decide_eq_true_eq, decide_eq_false_iff_not, decide_true, decide_false, if_true, if_false, ite_self, Bool.not_true, Bool.not_false, Bool.false_eq_true, Bool.true_eq_false, Bool.true_and, Bool.false_and, Bool.and_true, Bool.and_false, not_true, not_false_iff, Option.bind_some, nn, toList_inj, Bool.not_eq_true', Bool.not_eq_false', Int.le_refl, and_self, true_and, and_true, false_and, and_false, bne_self_eq_false, beq_self_eq_true, Int.reduceEq, Nat.reduceEqDiff, List.length_singleton, List.tail_cons, Int.reduceLE, Int.reduceLT, decide_eq_true_eq]
  by_cases h1 : b ≤ a <;> by_cases h2 : a ≤ c <;> simp only [h1, h2, strs_len, strs_elem, ints_len, ints_elem, items_list, fld_agg, elem_list, toStr_sc, toInt_sc, toBool_sc, headD_one, nat_int, get_bt, decide_eq_true_eq, decide_eq_false_iff_not, decide_true, decide_false, if_true, if_false, ite_self, Bool.not_true, Bool.not_false, Bool.false_eq_true, Bool.true_eq_false, Bool.true_and, Bool.false_and, Bool.and_true, Bool.and_false, not_true, not_false_iff, Option.bind_some, nn, toList_inj, Bool.not_eq_true', Bool.not_eq_false', Int.le_refl, and_self, true_and, and_true, false_and, and_false, bne_self_eq_false, beq_self_eq_true, Int.reduceEq, Nat.reduceEqDiff, List.length_singleton, List.tail_cons, Int.reduceLE, Int.reduceLT, decide_eq_true_eq]
def AheadE (pre : List Ed) (p : Option Int) : Prop := (pre = [] ∧ p = none) ∨ ∃ pre' q, pre = pre' ++ [q] ∧ p = some q.1
theorem specOk_l1 (m : List St) (hm : MachB m) {pre rest : List St} {s : St} (hp : m = pre ++ s :: rest) (R : Bool) (hR : stOk m.length pre.length s = true → Ev2 (fun N n => spec_MachineOk.l0 N n (machP m) ((pre ++ [s]).length : Int)) [boolP R]) :
    ∀ (es epre : List Ed) (p : Option Int), s.2 = epre ++ es → AheadE epre p → edgesOk m.length pre.length none s.2 = edgesOk m.length pre.length p es →
    Ev3 (fun N m0 n => spec_MachineOk.l1 N m0 n (machP m) (pre.length : Int) (epre.length : Int)) [boolP (edgesOk m.length pre.length p es && ((decide (pre.length = 0) || (s.1 || decide (s.2 ≠ []))) && R))] := by
  have hn := hm.n
  have hse := hm.e s (by rw [hp]; simp)
  have hlm : m.length = pre.length + 1 + rest.length := by rw [hp]; simp; omega
  intro es
  induction es with
  | nil =>
    intro epre p he _ hE
    refine Ev3.succ ?_
    have hst : (decide (pre.length = 0) || (s.1 || decide (s.2 ≠ []))) = true → stOk m.length pre.length s = true := fun h => by
      unfold stOk
      rw [hE, h]; rfl
    simp only [spec_MachineOk.l1_eq, mach_len, at_lt hp, mach_at hp, st_f0, st_f1, edges_len, at_end he, at_next hp (by omega), edgesOk, strs_len, strs_elem, ints_len, ints_elem, items_list, fld_agg, elem_list, toStr_sc, toInt_sc, toBool_sc, headD_one, nat_int, get_bt, decide_eq_true_eq, decide_eq_false_iff_not, decide_true, decide_false, if_true, if_false, ite_self, Bool.not_true, Bool.not_false, Bool.false_eq_true, Bool.true_eq_false, Bool.true_and, Bool.false_and, Bool.and_true, Bool.and_false, not_true, not_false_iff, Option.bind_some, nn, toList_inj, Bool.not_eq_true', Bool.not_eq_false', Int.le_refl, and_self, true_and, and_true, false_and, and_false, bne_self_eq_false, beq_self_eq_true, Int.reduceEq, Nat.reduceEqDiff, List.length_singleton, List.tail_cons, Int.reduceLE, Int.reduceLT, decide_eq_true_eq]
    by_cases h0 : (0 : Int) < (pre.length : Int)
    · have h0' : ¬ pre.length = 0 := by omega
      simp only [h0, h0', strs_len, strs_elem, ints_len, ints_elem, items_list, fld_agg, elem_list, toStr_sc, toInt_sc, toBool_sc, headD_one, nat_int, get_bt, decide_eq_true_eq, decide_eq_false_iff_not, decide_true, decide_false, if_true, if_false, ite_self, Bool.not_true, Bool.not_false, Bool.false_eq_true, Bool.true_eq_false, Bool.true_and, Bool.false_and, Bool.and_true, Bool.and_false, not_true, not_false_iff, Option.bind_some, nn, toList_inj, Bool.not_eq_true', Bool.not_eq_false', Int.le_refl, and_self, true_and, and_true, false_and, and_false, bne_self_eq_false, beq_self_eq_true, Int.reduceEq, Nat.reduceEqDiff, List.length_singleton, List.tail_cons, Int.reduceLE, Int.reduceLT, decide_eq_true_eq]
      cases h1 : s.1 with
      | true => simp only [strs_len, strs_elem, ints_len, ints_elem, items_list, fld_agg, elem_list, toStr_sc, toInt_sc, toBool_sc, headD_one, nat_int, get_bt, decide_eq_true_eq, decide_eq_false_iff_not, decide_true, decide_false, if_true, if_false, ite_self, Bool.not_true, Bool.not_false, Bool.false_eq_true, Bool.true_eq_false, Bool.true_and, Bool.false_and, Bool.and_true, Bool.and_false, not_true, not_false_iff, Option.bind_some, nn, toList_inj, Bool.not_eq_true', Bool.not_eq_false', Int.le_refl, and_self, true_and, and_true, false_and, and_false, bne_self_eq_false, beq_self_eq_true, Int.reduceEq, Nat.reduceEqDiff, List.length_singleton, List.tail_cons, Int.reduceLE, Int.reduceLT, decide_eq_true_eq, Bool.true_or]; exact (hR (hst (by simp [h1]))).outer
      | false =>
        by_cases h2 : s.2 = []
        · have h3 : ((s.2.length : Int) = 0) = True := eq_true (by rw [h2]; rfl)
          simp only [h2, h3, Bool.or_false, Bool.false_or, ne_eq, not_true, List.length_nil, Int.natCast_zero, strs_len, strs_elem, ints_len, ints_elem, items_list, fld_agg, elem_list, toStr_sc, toInt_sc, toBool_sc, headD_one, nat_int, get_bt, decide_eq_true_eq, decide_eq_false_iff_not, decide_true, decide_false, if_true, if_false, ite_self, Bool.not_true, Bool.not_false, Bool.false_eq_true, Bool.true_eq_false, Bool.true_and, Bool.false_and, Bool.and_true, Bool.and_false, not_true, not_false_iff, Option.bind_some, nn, toList_inj, Bool.not_eq_true', Bool.not_eq_false', Int.le_refl, and_self, true_and, and_true, false_and, and_false, bne_self_eq_false, beq_self_eq_true, Int.reduceEq, Nat.reduceEqDiff, List.length_singleton, List.tail_cons, Int.reduceLE, Int.reduceLT, decide_eq_true_eq]; exact Ev3.now _
        · have h3 : ¬ (s.2.length : Int) = 0 := by have := List.length_pos_iff.2 h2; omega
          simp only [h2, h3, Bool.false_or, ne_eq, not_false_iff, strs_len, strs_elem, ints_len, ints_elem, items_list, fld_agg, elem_list, toStr_sc, toInt_sc, toBool_sc, headD_one, nat_int, get_bt, decide_eq_true_eq, decide_eq_false_iff_not, decide_true, decide_false, if_true, if_false, ite_self, Bool.not_true, Bool.not_false, Bool.false_eq_true, Bool.true_eq_false, Bool.true_and, Bool.false_and, Bool.and_true, Bool.and_false, not_true, not_false_iff, Option.bind_some, nn, toList_inj, Bool.not_eq_true', Bool.not_eq_false', Int.le_refl, and_self, true_and, and_true, false_and, and_false, bne_self_eq_false, beq_self_eq_true, Int.reduceEq, Nat.reduceEqDiff, List.length_singleton, List.tail_cons, Int.reduceLE, Int.reduceLT, decide_eq_true_eq]; exact (hR (hst (by simp [h2]))).outer
    · have h0' : pre.length = 0 := by omega
      have h0e : (pre.length = 0) = True := eq_true h0'
      simp only [h0, h0e, Bool.true_or, strs_len, strs_elem, ints_len, ints_elem, items_list, fld_agg, elem_list, toStr_sc, toInt_sc, toBool_sc, headD_one, nat_int, get_bt, decide_eq_true_eq, decide_eq_false_iff_not, decide_true, decide_false, if_true, if_false, ite_self, Bool.not_true, Bool.not_false, Bool.false_eq_true, Bool.true_eq_false, Bool.true_and, Bool.false_and, Bool.and_true, Bool.and_false, not_true, not_false_iff, Option.bind_some, nn, toList_inj, Bool.not_eq_true', Bool.not_eq_false', Int.le_refl, and_self, true_and, and_true, false_and, and_false, bne_self_eq_false, beq_self_eq_true, Int.reduceEq, Nat.reduceEqDiff, List.length_singleton, List.tail_cons, Int.reduceLE, Int.reduceLT, decide_eq_true_eq]
      exact (hR (hst (by simp [h0']))).outer
  | cons e es ih =>
    intro epre p he ha hE
    have w1 : IntKind.i64.wrap ((pre.length : Int) + 1) = (pre.length : Int) + 1 := wrap_id (by omega) (by omega)
    have w2 : IntKind.i64.wrap ((m.length : Int) - 1) = (m.length : Int) - 1 := wrap_id (by omega) (by omega)
    have hih := ih (epre ++ [e]) (some e.1) (at_step he) (.inr ⟨epre, e, rfl, rfl⟩)
    refine Ev3.succ ?_
    rw [edgesOk] at hE ⊢
    rw [edgeOk.eq_def] at hE ⊢
    simp only [spec_MachineOk.l1_eq, mach_len, at_lt hp, mach_at hp, st_f0, st_f1, edges_len, at_lt he, edges_at he, edge_f0, edge_f1, specIn_val, w1, w2, at_next he (by omega), strs_len, strs_elem, ints_len, ints_elem, items_list, fld_agg, elem_list, toStr_sc, toInt_sc, toBool_sc, headD_one, nat_int, get_bt, decide_eq_true_eq, decide_eq_false_iff_not, decide_true, decide_false, if_true, if_false, ite_self, Bool.not_true, Bool.not_false, Bool.false_eq_true, Bool.true_eq_false, Bool.true_and, Bool.false_and, Bool.and_true, Bool.and_false, not_true, not_false_iff, Option.bind_some, nn, toList_inj, Bool.not_eq_true', Bool.not_eq_false', Int.le_refl, and_self, true_and, and_true, false_and, and_false, bne_self_eq_false, beq_self_eq_true, Int.reduceEq, Nat.reduceEqDiff, List.length_singleton, List.tail_cons, Int.reduceLE, Int.reduceLT, decide_eq_true_eq]
    by_cases c1 : 97 ≤ e.1 ∧ e.1 ≤ 122
    · by_cases c2 : (pre.length : Int) + 1 ≤ e.2 ∧ e.2 ≤ (m.length : Int) - 1
      · rcases ha with ⟨rfl, rfl⟩ | ⟨epre', q, rfl, rfl⟩
        · have h0 : ¬ (0 : Int) < ((([] : List Ed).length : Nat) : Int) := by simp
          simp only [c1, c2, and_self, decide_true, Bool.true_and] at hE
          simp only [c1, c2, h0, strs_len, strs_elem, ints_len, ints_elem, items_list, fld_agg, elem_list, toStr_sc, toInt_sc, toBool_sc, headD_one, nat_int, get_bt, decide_eq_true_eq, decide_eq_false_iff_not, decide_true, decide_false, if_true, if_false, ite_self, Bool.not_true, Bool.not_false, Bool.false_eq_true, Bool.true_eq_false, Bool.true_and, Bool.false_and, Bool.and_true, Bool.and_false, not_true, not_false_iff, Option.bind_some, nn, toList_inj, Bool.not_eq_true', Bool.not_eq_false', Int.le_refl, and_self, true_and, and_true, false_and, and_false, bne_self_eq_false, beq_self_eq_true, Int.reduceEq, Nat.reduceEqDiff, List.length_singleton, List.tail_cons, Int.reduceLE, Int.reduceLT, decide_eq_true_eq]
          exact hih hE
        · have h0 : (0 : Int) < (((epre' ++ [q]).length : Nat) : Int) := by rw [List.length_append, List.length_singleton]; omega
          obtain ⟨w3, w4⟩ := at_prevN he (by omega)
          have he' : s.2 = epre' ++ q :: (e :: es) := by rw [he]; simp
          by_cases c3 : e.1 ≤ q.1
          · have c3' : ¬ q.1 < e.1 := by omega
            simp only [c1, c2, c3, c3', h0, w3, w4, edges_at he', edge_f0, strs_len, strs_elem, ints_len, ints_elem, items_list, fld_agg, elem_list, toStr_sc, toInt_sc, toBool_sc, headD_one, nat_int, get_bt, decide_eq_true_eq, decide_eq_false_iff_not, decide_true, decide_false, if_true, if_false, ite_self, Bool.not_true, Bool.not_false, Bool.false_eq_true, Bool.true_eq_false, Bool.true_and, Bool.false_and, Bool.and_true, Bool.and_false, not_true, not_false_iff, Option.bind_some, nn, toList_inj, Bool.not_eq_true', Bool.not_eq_false', Int.le_refl, and_self, true_and, and_true, false_and, and_false, bne_self_eq_false, beq_self_eq_true, Int.reduceEq, Nat.reduceEqDiff, List.length_singleton, List.tail_cons, Int.reduceLE, Int.reduceLT, decide_eq_true_eq]
            exact Ev3.now _
          · have c3' : q.1 < e.1 := by omega
            simp only [c1, c2, c3', and_self, decide_true, Bool.true_and] at hE
            simp only [c1, c2, c3, c3', h0, w3, w4, edges_at he', edge_f0, strs_len, strs_elem, ints_len, ints_elem, items_list, fld_agg, elem_list, toStr_sc, toInt_sc, toBool_sc, headD_one, nat_int, get_bt, decide_eq_true_eq, decide_eq_false_iff_not, decide_true, decide_false, if_true, if_false, ite_self, Bool.not_true, Bool.not_false, Bool.false_eq_true, Bool.true_eq_false, Bool.true_and, Bool.false_and, Bool.and_true, Bool.and_false, not_true, not_false_iff, Option.bind_some, nn, toList_inj, Bool.not_eq_true', Bool.not_eq_false', Int.le_refl, and_self, true_and, and_true, false_and, and_false, bne_self_eq_false, beq_self_eq_true, Int.reduceEq, Nat.reduceEqDiff, List.length_singleton, List.tail_cons, Int.reduceLE, Int.reduceLT, decide_eq_true_eq]
            exact hih hE
      · simp only [c1, c2, strs_len, strs_elem, ints_len, ints_elem, items_list, fld_agg, elem_list, toStr_sc, toInt_sc, toBool_sc, headD_one, nat_int, get_bt, decide_eq_true_eq, decide_eq_false_iff_not, decide_true, decide_false, if_true, if_false, ite_self, Bool.not_true, Bool.not_false, Bool.false_eq_true, Bool.true_eq_false, Bool.true_and, Bool.false_and, Bool.and_true, Bool.and_false, not_true, not_false_iff, Option.bind_some, nn, toList_inj, Bool.not_eq_true', Bool.not_eq_false', Int.le_refl, and_self, true_and, and_true, false_and, and_false, bne_self_eq_false, beq_self_eq_true, Int.reduceEq, Nat.reduceEqDiff, List.length_singleton, List.tail_cons, Int.reduceLE, Int.reduceLT, decide_eq_true_eq]
        exact Ev3.now _
    · simp only [c1, strs_len, strs_elem, ints_len, ints_elem, items_list, fld_agg, elem_list, toStr_sc, toInt_sc, toBool_sc, headD_one, nat_int, get_bt, decide_eq_true_eq, decide_eq_false_iff_not, decide_true, decide_false, if_true, if_false, ite_self, Bool.not_true, Bool.not_false, Bool.false_eq_true, Bool.true_eq_false, Bool.true_and, Bool.false_and, Bool.and_true, Bool.and_false, not_true, not_false_iff, Option.bind_some, nn, toList_inj, Bool.not_eq_true', Bool.not_eq_false', Int.le_refl, and_self, true_and, and_true, false_and, and_false, bne_self_eq_false, beq_self_eq_true, Int.reduceEq, Nat.reduceEqDiff, List.length_singleton, List.tail_cons, Int.reduceLE, Int.reduceLT, decide_eq_true_eq]
      exact Ev3.now _
theorem specOk_l0 (m : List St) (hm : MachB m) : ∀ (rest pre : List St), m = pre ++ rest → (stsOk m.length 0 pre = true) →
    Ev2 (fun N n => spec_MachineOk.l0 N n (machP m) (pre.length : Int)) [boolP (stsOk m.length pre.length rest && (decide (1 ≤ m.length ∧ m.length ≤ 400) && decide ((depL 0 m).getD 0 0 ≤ 12)))] := by
  have hn := hm.n
  intro rest
  induction rest with
  | nil =>
    intro pre hp hok
    refine Ev2.succ ?_
    have hpm : pre = m := by rw [hp]; simp
    subst hpm
    simp only [spec_MachineOk.l0_eq, mach_len, at_end hp, specIn_val, stsOk, strs_len, strs_elem, ints_len, ints_elem, items_list, fld_agg, elem_list, toStr_sc, toInt_sc, toBool_sc, headD_one, nat_int, get_bt, decide_eq_true_eq, decide_eq_false_iff_not, decide_true, decide_false, if_true, if_false, ite_self, Bool.not_true, Bool.not_false, Bool.false_eq_true, Bool.true_eq_false, Bool.true_and, Bool.false_and, Bool.and_true, Bool.and_false, not_true, not_false_iff, Option.bind_some, nn, toList_inj, Bool.not_eq_true', Bool.not_eq_false', Int.le_refl, and_self, true_and, and_true, false_and, and_false, bne_self_eq_false, beq_self_eq_true, Int.reduceEq, Nat.reduceEqDiff, List.length_singleton, List.tail_cons, Int.reduceLE, Int.reduceLT, decide_eq_true_eq]
    by_cases h1 : 1 ≤ pre.length ∧ pre.length ≤ 400
    · have h1' : (1 : Int) ≤ (pre.length : Int) ∧ (pre.length : Int) ≤ 400 := by omega
      simp only [h1, h1', strs_len, strs_elem, ints_len, ints_elem, items_list, fld_agg, elem_list, toStr_sc, toInt_sc, toBool_sc, headD_one, nat_int, get_bt, decide_eq_true_eq, decide_eq_false_iff_not, decide_true, decide_false, if_true, if_false, ite_self, Bool.not_true, Bool.not_false, Bool.false_eq_true, Bool.true_eq_false, Bool.true_and, Bool.false_and, Bool.and_true, Bool.and_false, not_true, not_false_iff, Option.bind_some, nn, toList_inj, Bool.not_eq_true', Bool.not_eq_false', Int.le_refl, and_self, true_and, and_true, false_and, and_false, bne_self_eq_false, beq_self_eq_true, Int.reduceEq, Nat.reduceEqDiff, List.length_singleton, List.tail_cons, Int.reduceLE, Int.reduceLT, decide_eq_true_eq]
      refine Ev2.bind (deep_ev pre hm (by omega) hok) ?_
      simp only [strs_len, strs_elem, ints_len, ints_elem, items_list, fld_agg, elem_list, toStr_sc, toInt_sc, toBool_sc, headD_one, nat_int, get_bt, decide_eq_true_eq, decide_eq_false_iff_not, decide_true, decide_false, if_true, if_false, ite_self, Bool.not_true, Bool.not_false, Bool.false_eq_true, Bool.true_eq_false, Bool.true_and, Bool.false_and, Bool.and_true, Bool.and_false, not_true, not_false_iff, Option.bind_some, nn, toList_inj, Bool.not_eq_true', Bool.not_eq_false', Int.le_refl, and_self, true_and, and_true, false_and, and_false, bne_self_eq_false, beq_self_eq_true, Int.reduceEq, Nat.reduceEqDiff, List.length_singleton, List.tail_cons, Int.reduceLE, Int.reduceLT, decide_eq_true_eq]
      exact Ev2.now _
    · have h1' : ¬ ((1 : Int) ≤ (pre.length : Int) ∧ (pre.length : Int) ≤ 400) := by omega
      simp only [h1, h1', strs_len, strs_elem, ints_len, ints_elem, items_list, fld_agg, elem_list, toStr_sc, toInt_sc, toBool_sc, headD_one, nat_int, get_bt, decide_eq_true_eq, decide_eq_false_iff_not, decide_true, decide_false, if_true, if_false, ite_self, Bool.not_true, Bool.not_false, Bool.false_eq_true, Bool.true_eq_false, Bool.true_and, Bool.false_and, Bool.and_true, Bool.and_false, not_true, not_false_iff, Option.bind_some, nn, toList_inj, Bool.not_eq_true', Bool.not_eq_false', Int.le_refl, and_self, true_and, and_true, false_and, and_false, bne_self_eq_false, beq_self_eq_true, Int.reduceEq, Nat.reduceEqDiff, List.length_singleton, List.tail_cons, Int.reduceLE, Int.reduceLT, decide_eq_true_eq]
      exact Ev2.now _
  | cons s rest ih =>
    intro pre hp hok
    refine Ev2.succ ?_
    simp only [spec_MachineOk.l0_eq, mach_len, at_lt hp, strs_len, strs_elem, ints_len, ints_elem, items_list, fld_agg, elem_list, toStr_sc, toInt_sc, toBool_sc, headD_one, nat_int, get_bt, decide_eq_true_eq, decide_eq_false_iff_not, decide_true, decide_false, if_true, if_false, ite_self, Bool.not_true, Bool.not_false, Bool.false_eq_true, Bool.true_eq_false, Bool.true_and, Bool.false_and, Bool.and_true, Bool.and_false, not_true, not_false_iff, Option.bind_some, nn, toList_inj, Bool.not_eq_true', Bool.not_eq_false', Int.le_refl, and_self, true_and, and_true, false_and, and_false, bne_self_eq_false, beq_self_eq_true, Int.reduceEq, Nat.reduceEqDiff, List.length_singleton, List.tail_cons, Int.reduceLE, Int.reduceLT, decide_eq_true_eq]
    rw [stsOk, stOk]
    have := specOk_l1 m hm hp (stsOk m.length (pre.length + 1) rest && (decide (1 ≤ m.length ∧ m.length ≤ 400) && decide ((depL 0 m).getD 0 0 ≤ 12))) (fun hso => by
      have hok' : stsOk m.length 0 (pre ++ [s]) = true := by
        rw [stsOk_app, hok, Nat.zero_add]
        simp [stsOk, hso]
      have h := ih (pre ++ [s]) (at_step hp) hok'
      have hl : (pre ++ [s]).length = pre.length + 1 := by simp
      rw [hl] at h ⊢
      exact h) s.2 [] none rfl (.inl ⟨rfl, rfl⟩) rfl
    refine Ev2.ext this.start ?_
    simp only [Bool.and_assoc]
theorem specOk_ev (m : List St) (hm : MachB m) : Ev (fun N => spec_MachineOk.f N [machP m]) [boolP (okM m)] := by
  simp only [spec_MachineOk.f_eq]
  refine Ev.ext (specOk_l0 m hm m [] rfl rfl).diag ?_
  refine congrArg (fun b => [boolP b]) ?_
  unfold okM
  simp only [List.length_nil]
  rw [← Bool.and_assoc, ← Bool.and_assoc, Bool.and_comm (stsOk _ _ _)]
/-! The program's. -/
theorem implWithin_val (a b c : Int) (N : Nat) : impl_within.f N [.sc (.int .i64 a), .sc (.int .i64 b), .sc (.int .i64 c)] = some [boolP (decide (b ≤ a ∧ a ≤ c))] := by
  simp only [impl_within.f_eq, strs_len, strs_elem, ints_len, ints_elem, items_list, fld_agg, elem_list, toStr_sc, toInt_sc, toBool_sc, headD_one, nat_int, get_bt, decide_eq_true_eq, decide_eq_false_iff_not, decide_true, decide_false, if_true, if_false, ite_self, Bool.not_true, Bool.not_false, Bool.false_eq_true, Bool.true_eq_false, Bool.true_and, Bool.false_and, Bool.and_true, Bool.and_false, not_true, not_false_iff, Option.bind_some, nn, toList_inj, Bool.not_eq_true', Bool.not_eq_false', Int.le_refl, and_self, true_and, and_true, false_and, and_false, bne_self_eq_false, beq_self_eq_true, Int.reduceEq, Nat.reduceEqDiff, List.length_singleton, List.tail_cons, Int.reduceLE, Int.reduceLT, decide_eq_true_eq]
  by_cases h1 : b ≤ a <;> by_cases h2 : a ≤ c <;> simp only [h1, h2, strs_len, strs_elem, ints_len, ints_elem, items_list, fld_agg, elem_list, toStr_sc, toInt_sc, toBool_sc, headD_one, nat_int, get_bt, decide_eq_true_eq, decide_eq_false_iff_not, decide_true, decide_false, if_true, if_false, ite_self, Bool.not_true, Bool.not_false, Bool.false_eq_true, Bool.true_eq_false, Bool.true_and, Bool.false_and, Bool.and_true, Bool.and_false, not_true, not_false_iff, Option.bind_some, nn, toList_inj, Bool.not_eq_true', Bool.not_eq_false', Int.le_refl, and_self, true_and, and_true, false_and, and_false, bne_self_eq_false, beq_self_eq_true, Int.reduceEq, Nat.reduceEqDiff, List.length_singleton, List.tail_cons, Int.reduceLE, Int.reduceLT, decide_eq_true_eq]
/-- How long the longest text is that is accepted; none: -1. -/
def lonE (i : Nat) (T : List Int) : List Ed → Int → Int
  | [], a => a
  | e :: es, a => lonE i T es (maxI a (T.getD (e.2.toNat - (i + 1)) 0 + 1))
theorem lonE_depE (i : Nat) (T : List Int) : ∀ (es : List Ed) (a : Int), lonE i T es a = depE i T es a
  | [], a => rfl
  | e :: es, a => by
    unfold lonE depE maxI
    by_cases h : a < T.getD (e.2.toNat - (i + 1)) 0 + 1
    · simp only [gt_iff_lt, h, if_true]; exact lonE_depE i T es _
    · simp only [gt_iff_lt, h, if_false]; exact lonE_depE i T es _
theorem depE_neg (i : Nat) (T : List Int) (hT : ∀ x ∈ T, 0 ≤ x ∧ x ≤ 1048576) : ∀ (es : List Ed), es ≠ [] → depE i T es (-1) = depE i T es 0
  | [], h => absurd rfl h
  | e :: es, _ => by
    have hg := getD_range hT (by omega) (e.2.toNat - (i + 1))
    unfold depE
    rw [if_pos (by omega), if_pos (by omega)]
theorem implOk_l1 (m : List St) (hm : MachB m) {pre rest : List St} {s : St} (hp : m = pre ++ s :: rest) (T : List Int) (hT : T.length = rest.length) (hTr : ∀ x ∈ T, 0 ≤ x ∧ x ≤ 1048576) (R : Bool) (b0 : Bool) :
    ∀ (es epre : List Ed) (p : Option Int), s.2 = epre ++ es → AheadE epre p → ∀ a : Int, -1 ≤ a → a ≤ 1048577 →
    (edgesOk m.length pre.length p es = true → Ev2 (fun N n => impl_MachineOk.l0 N n (machP m) (IntKind.i64.wrap ((pre.length : Int) - 1)) (arr pre.length (lonE pre.length T es a) T)) [boolP R]) →
    Ev3 (fun N m0 n => impl_MachineOk.l1 N m0 n (machP m) (pre.length : Int) (edgesP s.2) (s.2.length : Int) (epre.length : Int) (arr pre.length a T) b0 (edgesP s.2)) [boolP (edgesOk m.length pre.length p es && R)] := by
  have hn := hm.n
  have hse := hm.e s (by rw [hp]; simp)
  have hlm : m.length = pre.length + 1 + rest.length := by rw [hp]; simp; omega
  intro es
  induction es with
  | nil =>
    intro epre p he _ a _ _ hk
    refine Ev3.succ ?_
    simp only [impl_MachineOk.l1_eq, at_end he, edgesOk, strs_len, strs_elem, ints_len, ints_elem, items_list, fld_agg, elem_list, toStr_sc, toInt_sc, toBool_sc, headD_one, nat_int, get_bt, decide_eq_true_eq, decide_eq_false_iff_not, decide_true, decide_false, if_true, if_false, ite_self, Bool.not_true, Bool.not_false, Bool.false_eq_true, Bool.true_eq_false, Bool.true_and, Bool.false_and, Bool.and_true, Bool.and_false, not_true, not_false_iff, Option.bind_some, nn, toList_inj, Bool.not_eq_true', Bool.not_eq_false', Int.le_refl, and_self, true_and, and_true, false_and, and_false, bne_self_eq_false, beq_self_eq_true, Int.reduceEq, Nat.reduceEqDiff, List.length_singleton, List.tail_cons, Int.reduceLE, Int.reduceLT, decide_eq_true_eq]
    exact (hk rfl).outer
  | cons e es ih =>
    intro epre p he ha a ha0 ha1 hk
    have w1 : IntKind.i64.wrap ((pre.length : Int) + 1) = (pre.length : Int) + 1 := wrap_id (by omega) (by omega)
    have w2 : IntKind.i64.wrap ((m.length : Int) - 1) = (m.length : Int) - 1 := wrap_id (by omega) (by omega)
    refine Ev3.succ ?_
    rw [edgesOk] at hk ⊢
    rw [edgeOk.eq_def] at hk ⊢
    by_cases c1 : 97 ≤ e.1 ∧ e.1 ≤ 122
    · by_cases c2 : (pre.length : Int) + 1 ≤ e.2 ∧ e.2 ≤ (m.length : Int) - 1
      · obtain ⟨t, ht⟩ := Int.eq_ofNat_of_zero_le (show 0 ≤ e.2 by omega)
        have hge : pre.length + 1 ≤ t := by omega
        have ht' : t < pre.length + 1 + T.length := by omega
        have hl1 : (t : Int) < (((arr pre.length a T).length : Nat) : Int) := by rw [arr_len]; omega
        have hl2 : (pre.length : Int) < (((arr pre.length a T).length : Nat) : Int) := by rw [arr_len]; omega
        have hg := getD_range hTr (by omega) (t - (pre.length + 1))
        have hw : IntKind.i64.wrap (T.getD (t - (pre.length + 1)) 0 + 1) = T.getD (t - (pre.length + 1)) 0 + 1 := wrap_id (by omega) (by omega)
        have htn : (e.2).toNat = t := by rw [ht]; rfl
        have a1 := arr_at pre.length t a T hge
        have a2 := arr_here pre.length a T
        have hmx : -1 ≤ maxI a (T.getD (t - (pre.length + 1)) 0 + 1) ∧ maxI a (T.getD (t - (pre.length + 1)) 0 + 1) ≤ 1048577 := by unfold maxI; split <;> omega
        have hih := ih (epre ++ [e]) (some e.1) (at_step he) (.inr ⟨epre, e, rfl, rfl⟩) (maxI a (T.getD (t - (pre.length + 1)) 0 + 1)) hmx.1 hmx.2
        unfold lonE at hk
        rw [htn] at hk
        have c2' := c2
        rw [ht] at c2'
        rcases ha with ⟨rfl, rfl⟩ | ⟨epre', q, rfl, rfl⟩
        · have h0 : ¬ (0 : Int) < ((([] : List Ed).length : Nat) : Int) := by simp
          simp only [c1, c2, and_self, decide_true, Bool.true_and] at hk
          simp only [impl_MachineOk.l1_eq, mach_len, edges_len, at_lt he, edges_at he, edge_f0, edge_f1, implWithin_val, w1, w2, at_next he (by omega), c1, c2, c2', h0, ht, hl1, hl2, a1, a2, hw, hg.1, arr_set, nat_int, nn, headD_one, Option.bind_some, toInt_sc, toBool_sc, decide_true, decide_false, Bool.not_true, Bool.not_false, Bool.false_eq_true, if_true, if_false, and_self, Bool.true_and]
          exact hih hk
        · have h0 : (0 : Int) < (((epre' ++ [q]).length : Nat) : Int) := by rw [List.length_append, List.length_singleton]; omega
          obtain ⟨w3, w4⟩ := at_prevN he (by omega)
          have he' : s.2 = epre' ++ q :: (e :: es) := by rw [he]; simp
          by_cases c3 : e.1 ≤ q.1
          · have c3' : ¬ q.1 < e.1 := by omega
            simp only [impl_MachineOk.l1_eq, mach_len, edges_len, at_lt he, edges_at he, edges_at he', edge_f0, edge_f1, implWithin_val, w1, w2, w3, w4, c1, c2, c2', c3, c3', h0, nat_int, nn, headD_one, Option.bind_some, toInt_sc, toBool_sc, decide_true, decide_false, Bool.not_true, Bool.not_false, Bool.false_eq_true, Bool.true_eq_false, if_true, if_false, and_self, Bool.true_and, Bool.false_and, Bool.and_false]
            exact Ev3.now _
          · have c3' : q.1 < e.1 := by omega
            simp only [c1, c2, c3', and_self, decide_true, Bool.true_and] at hk
            simp only [impl_MachineOk.l1_eq, mach_len, edges_len, at_lt he, edges_at he, edges_at he', edge_f0, edge_f1, implWithin_val, w1, w2, w3, w4, at_next he (by omega), c1, c2, c2', c3, c3', h0, ht, hl1, hl2, a1, a2, hw, hg.1, arr_set, nat_int, nn, headD_one, Option.bind_some, toInt_sc, toBool_sc, decide_true, decide_false, Bool.not_true, Bool.not_false, Bool.false_eq_true, if_true, if_false, and_self, Bool.true_and]
            exact hih hk
      · rcases ha with ⟨rfl, rfl⟩ | ⟨epre', q, rfl, rfl⟩
        · have h0 : ¬ (0 : Int) < ((([] : List Ed).length : Nat) : Int) := by simp
          simp only [impl_MachineOk.l1_eq, mach_len, edges_len, at_lt he, edges_at he, edge_f0, edge_f1, implWithin_val, w1, w2, c1, c2, h0, strs_len, strs_elem, ints_len, ints_elem, items_list, fld_agg, elem_list, toStr_sc, toInt_sc, toBool_sc, headD_one, nat_int, get_bt, decide_eq_true_eq, decide_eq_false_iff_not, decide_true, decide_false, if_true, if_false, ite_self, Bool.not_true, Bool.not_false, Bool.false_eq_true, Bool.true_eq_false, Bool.true_and, Bool.false_and, Bool.and_true, Bool.and_false, not_true, not_false_iff, Option.bind_some, nn, toList_inj, Bool.not_eq_true', Bool.not_eq_false', Int.le_refl, and_self, true_and, and_true, false_and, and_false, bne_self_eq_false, beq_self_eq_true, Int.reduceEq, Nat.reduceEqDiff, List.length_singleton, List.tail_cons, Int.reduceLE, Int.reduceLT, decide_eq_true_eq]
          exact Ev3.now _
        · have h0 : (0 : Int) < (((epre' ++ [q]).length : Nat) : Int) := by rw [List.length_append, List.length_singleton]; omega
          obtain ⟨w3, w4⟩ := at_prevN he (by omega)
          have he' : s.2 = epre' ++ q :: (e :: es) := by rw [he]; simp
          by_cases c3 : e.1 ≤ q.1
          · simp only [impl_MachineOk.l1_eq, mach_len, edges_len, at_lt he, edges_at he, edges_at he', edge_f0, edge_f1, implWithin_val, w1, w2, w3, w4, c1, c2, c3, h0, strs_len, strs_elem, ints_len, ints_elem, items_list, fld_agg, elem_list, toStr_sc, toInt_sc, toBool_sc, headD_one, nat_int, get_bt, decide_eq_true_eq, decide_eq_false_iff_not, decide_true, decide_false, if_true, if_false, ite_self, Bool.not_true, Bool.not_false, Bool.false_eq_true, Bool.true_eq_false, Bool.true_and, Bool.false_and, Bool.and_true, Bool.and_false, not_true, not_false_iff, Option.bind_some, nn, toList_inj, Bool.not_eq_true', Bool.not_eq_false', Int.le_refl, and_self, true_and, and_true, false_and, and_false, bne_self_eq_false, beq_self_eq_true, Int.reduceEq, Nat.reduceEqDiff, List.length_singleton, List.tail_cons, Int.reduceLE, Int.reduceLT, decide_eq_true_eq]
            exact Ev3.now _
          · simp only [impl_MachineOk.l1_eq, mach_len, edges_len, at_lt he, edges_at he, edges_at he', edge_f0, edge_f1, implWithin_val, w1, w2, w3, w4, c1, c2, c3, h0, strs_len, strs_elem, ints_len, ints_elem, items_list, fld_agg, elem_list, toStr_sc, toInt_sc, toBool_sc, headD_one, nat_int, get_bt, decide_eq_true_eq, decide_eq_false_iff_not, decide_true, decide_false, if_true, if_false, ite_self, Bool.not_true, Bool.not_false, Bool.false_eq_true, Bool.true_eq_false, Bool.true_and, Bool.false_and, Bool.and_true, Bool.and_false, not_true, not_false_iff, Option.bind_some, nn, toList_inj, Bool.not_eq_true', Bool.not_eq_false', Int.le_refl, and_self, true_and, and_true, false_and, and_false, bne_self_eq_false, beq_self_eq_true, Int.reduceEq, Nat.reduceEqDiff, List.length_singleton, List.tail_cons, Int.reduceLE, Int.reduceLT, decide_eq_true_eq]
            exact Ev3.now _
    · simp only [impl_MachineOk.l1_eq, mach_len, edges_len, at_lt he, edges_at he, edge_f0, edge_f1, implWithin_val, c1, strs_len, strs_elem, ints_len, ints_elem, items_list, fld_agg, elem_list, toStr_sc, toInt_sc, toBool_sc, headD_one, nat_int, get_bt, decide_eq_true_eq, decide_eq_false_iff_not, decide_true, decide_false, if_true, if_false, ite_self, Bool.not_true, Bool.not_false, Bool.false_eq_true, Bool.true_eq_false, Bool.true_and, Bool.false_and, Bool.and_true, Bool.and_false, not_true, not_false_iff, Option.bind_some, nn, toList_inj, Bool.not_eq_true', Bool.not_eq_false', Int.le_refl, and_self, true_and, and_true, false_and, and_false, bne_self_eq_false, beq_self_eq_true, Int.reduceEq, Nat.reduceEqDiff, List.length_singleton, List.tail_cons, Int.reduceLE, Int.reduceLT, decide_eq_true_eq]
      exact Ev3.now _
theorem depE_ge (i : Nat) (T : List Int) (hT : ∀ x ∈ T, 0 ≤ x ∧ x ≤ 1048576) (es : List Ed) (a : Int) (ha : a ≤ 1048577) : a ≤ depE i T es a := (depE_range hT (by omega) es a ha).1
theorem implOk_l0 (m : List St) (hm : MachB m) (hne : 0 < m.length) : ∀ (k : Nat) (pre rest : List St) (h0 : Int), pre.length = k → m = pre ++ rest → stsOk m.length k rest = true →
    (k = 0 → (h0 ≤ 12 ↔ (depL 0 m).getD 0 0 ≤ 12)) → ∀ T : List Int, T.length = rest.length → (0 < k → T = depL k rest) → (k = 0 → T.getD 0 0 = h0) →
    Ev2 (fun N n => impl_MachineOk.l0 N n (machP m) ((k : Int) - 1) ((List.replicate k (0 : Int) ++ T).map intP)) [boolP (stsOk m.length 0 pre && decide ((depL 0 m).getD 0 0 ≤ 12))] := by
  have hn := hm.n
  intro k
  induction k with
  | zero =>
    intro pre rest hd hk hp hok hiff T hTl _ hTd
    obtain rfl : pre = [] := List.eq_nil_of_length_eq_zero hk
    rw [List.nil_append] at hp
    subst hp
    refine Ev2.succ ?_
    have h0 : ¬ (0 : Int) ≤ ((0 : Nat) : Int) - 1 := by omega
    have hl : (0 : Int) < ((((List.replicate 0 (0 : Int) ++ T).map intP).length : Nat) : Int) := by simp; omega
    have he : ((PV.list ((List.replicate 0 (0 : Int) ++ T).map intP)).elem 0).toInt = hd := by
      have h2 := ints_elem (List.replicate 0 (0 : Int) ++ T) 0
      simp only [intsP] at h2
      rw [h2, ← hTd rfl]; simp
    have hdec : decide (hd ≤ 12) = decide ((depL 0 m).getD 0 0 ≤ 12) := decide_eq_decide.2 (hiff rfl)
    simp only [impl_MachineOk.l0_eq, h0, hl, he, hdec, stsOk, Bool.true_and, decide_false, if_true, if_false, Bool.false_eq_true, Int.le_refl]
    exact Ev2.now _
  | succ k ih =>
    intro pre rest hd hk hp hok hiff T hTl hTe hTd
    obtain ⟨pre', s, rfl⟩ : ∃ pre' s, pre = pre' ++ [s] := by
      rcases List.eq_nil_or_concat pre with rfl | ⟨a, b, rfl⟩
      · simp at hk
      · exact ⟨a, b, by simp⟩
    have hk' : pre'.length = k := by simpa using hk
    subst hk'
    obtain rfl := hTe (by omega)
    have hp' : m = pre' ++ s :: rest := by rw [hp]; simp
    have hr := depL_range rest (pre'.length + 1)
    have hlm : m.length = pre'.length + 1 + rest.length := by rw [hp']; simp; omega
    have hTr : ∀ x ∈ depL (pre'.length + 1) rest, 0 ≤ x ∧ x ≤ 1048576 := fun x hx => by have := hr x hx; omega
    have hw : IntKind.i64.wrap ((pre'.length : Int) - 1) = (pre'.length : Int) - 1 := wrap_id (by omega) (by omega)
    have hw2 : IntKind.i64.wrap (((pre'.length + 1 : Nat) : Int) - 1) = (pre'.length : Int) := nat_wrap (by omega) (by omega)
    have e1 : stsOk m.length 0 (pre' ++ [s]) = (stsOk m.length 0 pre' && stOk m.length pre'.length s) := by
      rw [stsOk_app, Nat.zero_add]; simp [stsOk]
    rw [e1]
    refine Ev2.succ ?_
    have h0 : (0 : Int) ≤ (((pre'.length + 1 : Nat)) : Int) - 1 := by omega
    have h1 : (((pre'.length + 1 : Nat)) : Int) - 1 = (pre'.length : Int) := by omega
    have hlen0 : (pre'.length : Int) < ((arr pre'.length 0 (depL (pre'.length + 1) rest)).length : Int) := by rw [arr_len]; omega
    have hlen1 : (pre'.length : Int) < ((arr pre'.length (-1) (depL (pre'.length + 1) rest)).length : Int) := by rw [arr_len]; omega
    have hempty : ((s.2.length : Int) = 0) = (s.2 = []) := by
      apply propext; constructor
      · intro h; exact List.eq_nil_of_length_eq_zero (by omega)
      · intro h; rw [h]; rfl
    have hcont : ∀ a : Int, (a = 0 ∨ a = -1) → (0 < pre'.length → a = 0 ∨ s.2 ≠ []) → stOk m.length pre'.length s = true →
        Ev2 (fun N n => impl_MachineOk.l0 N n (machP m) (IntKind.i64.wrap ((pre'.length : Int) - 1)) (arr pre'.length (lonE pre'.length (depL (pre'.length + 1) rest) s.2 a) (depL (pre'.length + 1) rest))) [boolP (stsOk m.length 0 pre' && decide ((depL 0 m).getD 0 0 ≤ 12))] := by
      intro a ha hpos hso
      rw [hw, lonE_depE]
      have heq : (0 < pre'.length ∨ s.2 ≠ [] ∨ a = 0) → depE pre'.length (depL (pre'.length + 1) rest) s.2 a = depE pre'.length (depL (pre'.length + 1) rest) s.2 0 := by
        intro h
        rcases ha with rfl | rfl
        · rfl
        · refine depE_neg _ _ hTr _ ?_
          rcases h with h | h | h
          · rcases hpos h with h | h
            · omega
            · exact h
          · exact h
          · omega
      have hih := ih pre' (s :: rest) (depE pre'.length (depL (pre'.length + 1) rest) s.2 a) rfl hp' (by rw [stsOk, hso, hok]; rfl) (fun hz => by
        have hpe : pre' = [] := List.eq_nil_of_length_eq_zero hz
        subst hpe
        rw [List.nil_append] at hp'
        rw [hp']
        show depE 0 (depL 1 rest) s.2 a ≤ 12 ↔ depE 0 (depL 1 rest) s.2 0 ≤ 12
        by_cases hs2 : s.2 = []
        · rw [hs2]; unfold depE; omega
        · rw [show depE 0 (depL 1 rest) s.2 a = depE 0 (depL 1 rest) s.2 0 from heq (.inr (.inl hs2))])
        (depE pre'.length (depL (pre'.length + 1) rest) s.2 a :: depL (pre'.length + 1) rest) (by simp [depL_len]) (fun hz => by rw [heq (.inl hz)]; rfl) (fun _ => rfl)
      exact hih
    have hl1 : ∀ a : Int, (a = 0 ∨ a = -1) → (0 < pre'.length → a = 0 ∨ s.2 ≠ []) → (decide (pre'.length = 0) || (s.1 || decide (s.2 ≠ []))) = true → ∀ b0, Ev2 (fun N n => impl_MachineOk.l1 N n N (machP m) (pre'.length : Int) (edgesP s.2) (s.2.length : Int) 0 (arr pre'.length a (depL (pre'.length + 1) rest)) b0 (edgesP s.2)) [boolP (stsOk m.length 0 pre' && stOk m.length pre'.length s && decide ((depL 0 m).getD 0 0 ≤ 12))] := by
      intro a ha hpos hcond b0
      have h := implOk_l1 m hm hp' (depL (pre'.length + 1) rest) (depL_len _ _) hTr (stsOk m.length 0 pre' && decide ((depL 0 m).getD 0 0 ≤ 12)) b0 s.2 [] none rfl (.inl ⟨rfl, rfl⟩) a (by omega) (by omega) (fun heo => hcont a ha hpos (by unfold stOk; rw [heo, hcond]; rfl))
      refine Ev2.ext h.start ?_
      refine congrArg (fun b => [boolP b]) ?_
      unfold stOk
      rw [hcond, Bool.and_true]
      cases edgesOk m.length pre'.length none s.2 <;> cases stsOk m.length 0 pre' <;> simp
    simp only [impl_MachineOk.l0_eq, h0, h1, arr_zero, mach_len, at_lt hp', mach_at hp', st_f0, st_f1, edges_len, hempty, hlen0, hlen1, arr_set, nat_int, nn, toBool_sc, decide_true, decide_false, Bool.not_true, Bool.not_false, Bool.false_eq_true, if_true, if_false, decide_eq_true_eq]
    cases hs1 : s.1 with
    | true =>
      have h := hl1 0 (.inl rfl) (fun _ => .inl rfl) (by simp [hs1]) true
      by_cases hz : (0 : Int) < (pre'.length : Int)
      · simp only [hz, Bool.not_true, Bool.false_eq_true, if_true, if_false, hlen1, arr_set]
        exact h
      · simp only [hz, Bool.not_true, Bool.false_eq_true, if_true, if_false, hlen1, arr_set]
        exact h
    | false =>
      by_cases hs2 : s.2 = []
      · by_cases hz : (0 : Int) < (pre'.length : Int)
        · have hf : stOk m.length pre'.length s = false := by
            have : ¬ pre'.length = 0 := by omega
            unfold stOk; simp [hs1, hs2, this]
          simp only [hz, hs2, hf, Bool.not_false, Bool.and_false, Bool.false_and, if_true, if_false]
          exact Ev2.now _
        · have hz0 : pre'.length = 0 := by omega
          have h := hl1 (-1) (.inr rfl) (fun h => absurd h (by omega)) (by simp [hz0]) false
          simp only [hz, Bool.not_false, Bool.false_eq_true, if_true, if_false]
          exact h
      · have h := hl1 (-1) (.inr rfl) (fun _ => .inr hs2) (by simp [hs2]) false
        by_cases hz : (0 : Int) < (pre'.length : Int)
        · simp only [hz, hs2, Bool.not_false, Bool.false_eq_true, if_true, if_false]
          exact h
        · simp only [hz, Bool.not_false, Bool.false_eq_true, if_true, if_false]
          exact h
theorem implOk_ev (m : List St) (hm : MachB m) : Ev (fun N => impl_MachineOk.f N [machP m]) [boolP (okM m)] := by
  have hn := hm.n
  simp only [impl_MachineOk.f_eq, mach_len, implWithin_val, strs_len, strs_elem, ints_len, ints_elem, items_list, fld_agg, elem_list, toStr_sc, toInt_sc, toBool_sc, headD_one, nat_int, get_bt, decide_eq_true_eq, decide_eq_false_iff_not, decide_true, decide_false, if_true, if_false, ite_self, Bool.not_true, Bool.not_false, Bool.false_eq_true, Bool.true_eq_false, Bool.true_and, Bool.false_and, Bool.and_true, Bool.and_false, not_true, not_false_iff, Option.bind_some, nn, toList_inj, Bool.not_eq_true', Bool.not_eq_false', Int.le_refl, and_self, true_and, and_true, false_and, and_false, bne_self_eq_false, beq_self_eq_true, Int.reduceEq, Nat.reduceEqDiff, List.length_singleton, List.tail_cons, Int.reduceLE, Int.reduceLT, decide_eq_true_eq]
  unfold okM
  by_cases h1 : 1 ≤ m.length ∧ m.length ≤ 400
  · have h1' : (1 : Int) ≤ (m.length : Int) ∧ (m.length : Int) ≤ 400 := by omega
    have c1 : m.length ≤ 35184372088832 := by omega
    have hw : IntKind.i64.wrap ((m.length : Int) - 1) = (m.length : Int) - 1 := wrap_id (by omega) (by omega)
    have h := (implOk_l0 m hm (by omega) m.length m [] 0 rfl (by simp) rfl (fun h => absurd h (by omega)) [] rfl (fun _ => rfl) (fun h => absurd h (by omega))).diag
    have e : (List.replicate m.length (0 : Int) ++ []).map intP = List.replicate m.length (intP 0) := by simp
    rw [e] at h
    simp only [h1, h1', c1, hw, strs_len, strs_elem, ints_len, ints_elem, items_list, fld_agg, elem_list, toStr_sc, toInt_sc, toBool_sc, headD_one, nat_int, get_bt, decide_eq_true_eq, decide_eq_false_iff_not, decide_true, decide_false, if_true, if_false, ite_self, Bool.not_true, Bool.not_false, Bool.false_eq_true, Bool.true_eq_false, Bool.true_and, Bool.false_and, Bool.and_true, Bool.and_false, not_true, not_false_iff, Option.bind_some, nn, toList_inj, Bool.not_eq_true', Bool.not_eq_false', Int.le_refl, and_self, true_and, and_true, false_and, and_false, bne_self_eq_false, beq_self_eq_true, Int.reduceEq, Nat.reduceEqDiff, List.length_singleton, List.tail_cons, Int.reduceLE, Int.reduceLT, decide_eq_true_eq]
    exact h
  · have h1' : ¬ ((1 : Int) ≤ (m.length : Int) ∧ (m.length : Int) ≤ 400) := by omega
    simp only [h1, h1', strs_len, strs_elem, ints_len, ints_elem, items_list, fld_agg, elem_list, toStr_sc, toInt_sc, toBool_sc, headD_one, nat_int, get_bt, decide_eq_true_eq, decide_eq_false_iff_not, decide_true, decide_false, if_true, if_false, ite_self, Bool.not_true, Bool.not_false, Bool.false_eq_true, Bool.true_eq_false, Bool.true_and, Bool.false_and, Bool.and_true, Bool.and_false, not_true, not_false_iff, Option.bind_some, nn, toList_inj, Bool.not_eq_true', Bool.not_eq_false', Int.le_refl, and_self, true_and, and_true, false_and, and_false, bne_self_eq_false, beq_self_eq_true, Int.reduceEq, Nat.reduceEqDiff, List.length_singleton, List.tail_cons, Int.reduceLE, Int.reduceLT, decide_eq_true_eq]
    exact Ev.now _
/-! #### machines as bytes -/
abbrev u8P (n : Int) : PV := .sc (.int .u8 n)
theorem bytesOfL_app (a b : List PV) : bytesOfL (a ++ b) = bytesOfL a ++ bytesOfL b := by
  simp only [bytesOfL, List.map_append]
  apply ByteArray.ext
  simp [ByteArray.data_append]
theorem bytesOfL_size (l : List PV) : (bytesOfL l).size = l.length := by simp [bytesOfL, ByteArray.size]
def numL (n : Int) : List PV := if n < 128 then [u8P (IntKind.u8.wrap n)] else [u8P (IntKind.u8.wrap (IntKind.i64.wrap (Int.tmod n 128 + 128))), u8P (IntKind.u8.wrap (IntKind.i64.wrap (Int.tdiv n 128)))]
theorem numL_len (n : Int) : 1 ≤ (numL n).length ∧ (numL n).length ≤ 2 := by unfold numL; split <;> simp
def cntS (s : St) : Int := if s.1 = true then IntKind.i64.wrap (IntKind.i64.wrap (2 * (s.2.length : Int)) + 1) else IntKind.i64.wrap (2 * (s.2.length : Int))
def putE (i : Nat) : List Ed → List PV
  | [] => []
  | e :: es => (u8P (IntKind.u8.wrap e.1) :: numL (IntKind.i64.wrap (e.2 - (i : Int)))) ++ putE i es
def putL (i : Nat) : List St → List PV
  | [] => []
  | s :: r => numL (cntS s) ++ (putE i s.2 ++ putL (i + 1) r)
theorem specBytes_val (n : Int) (N : Nat) : spec_l12Bytes.f N [intP n] = some [strP (bytesOfL (numL n))] := by
  simp only [spec_l12Bytes.f_eq, numL, strs_len, strs_elem, ints_len, ints_elem, items_list, fld_agg, elem_list, toStr_sc, toInt_sc, toBool_sc, headD_one, nat_int, get_bt, decide_eq_true_eq, decide_eq_false_iff_not, decide_true, decide_false, if_true, if_false, ite_self, Bool.not_true, Bool.not_false, Bool.false_eq_true, Bool.true_eq_false, Bool.true_and, Bool.false_and, Bool.and_true, Bool.and_false, not_true, not_false_iff, Option.bind_some, nn, toList_inj, Bool.not_eq_true', Bool.not_eq_false', Int.le_refl, and_self, true_and, and_true, false_and, and_false, bne_self_eq_false, beq_self_eq_true, Int.reduceEq, Nat.reduceEqDiff, List.length_singleton, List.tail_cons, Int.reduceLE, Int.reduceLT, decide_eq_true_eq]
  by_cases h : n < 128 <;> simp only [h, strs_len, strs_elem, ints_len, ints_elem, items_list, fld_agg, elem_list, toStr_sc, toInt_sc, toBool_sc, headD_one, nat_int, get_bt, decide_eq_true_eq, decide_eq_false_iff_not, decide_true, decide_false, if_true, if_false, ite_self, Bool.not_true, Bool.not_false, Bool.false_eq_true, Bool.true_eq_false, Bool.true_and, Bool.false_and, Bool.and_true, Bool.and_false, not_true, not_false_iff, Option.bind_some, nn, toList_inj, Bool.not_eq_true', Bool.not_eq_false', Int.le_refl, and_self, true_and, and_true, false_and, and_false, bne_self_eq_false, beq_self_eq_true, Int.reduceEq, Nat.reduceEqDiff, List.length_singleton, List.tail_cons, Int.reduceLE, Int.reduceLT, decide_eq_true_eq]
theorem specPut_l1 (m : List St) (hm : MachB m) {pre rest : List St} {s : St} (hp : m = pre ++ s :: rest) (R : ByteArray) :
    ∀ (es epre : List Ed) (L : List PV), s.2 = epre ++ es → L.length ≤ 8000000 * pre.length + 10 + 3 * epre.length →
    (∀ L', L' = L ++ putE pre.length es → L'.length ≤ 8000000 * (pre.length + 1) + 8 → Ev2 (fun N n => spec_l12Put.l0 N n (machP m) (bytesOfL L') ((pre ++ [s]).length : Int)) [strP R]) →
    Ev3 (fun N m0 n => spec_l12Put.l1 N m0 n (machP m) (bytesOfL L) (pre.length : Int) (epre.length : Int)) [strP R] := by
  have hn := hm.n
  have hse := hm.e s (by rw [hp]; simp)
  have hlm : m.length = pre.length + 1 + rest.length := by rw [hp]; simp; omega
  intro es
  induction es with
  | nil =>
    intro epre L he hL hk
    have hel : epre.length = s.2.length := by rw [he]; simp
    refine Ev3.succ ?_
    simp only [spec_l12Put.l1_eq, mach_len, at_lt hp, mach_at hp, st_f1, edges_len, at_end he, at_next hp (by omega), strs_len, strs_elem, ints_len, ints_elem, items_list, fld_agg, elem_list, toStr_sc, toInt_sc, toBool_sc, headD_one, nat_int, get_bt, decide_eq_true_eq, decide_eq_false_iff_not, decide_true, decide_false, if_true, if_false, ite_self, Bool.not_true, Bool.not_false, Bool.false_eq_true, Bool.true_eq_false, Bool.true_and, Bool.false_and, Bool.and_true, Bool.and_false, not_true, not_false_iff, Option.bind_some, nn, toList_inj, Bool.not_eq_true', Bool.not_eq_false', Int.le_refl, and_self, true_and, and_true, false_and, and_false, bne_self_eq_false, beq_self_eq_true, Int.reduceEq, Nat.reduceEqDiff, List.length_singleton, List.tail_cons, Int.reduceLE, Int.reduceLT, decide_eq_true_eq]
    exact (hk L (by simp [putE]) (by omega)).outer
  | cons e es ih =>
    intro epre L he hL hk
    have hle : epre.length < s.2.length := at_ltN he
    have hnl := numL_len (IntKind.i64.wrap (e.2 - (pre.length : Int)))
    have c1 : (bytesOfL L).size + (bytesOfL [u8P (IntKind.u8.wrap e.1)]).size ≤ 9223372036854775807 := by rw [bytesOfL_size, bytesOfL_size]; simp; omega
    have c2 : (bytesOfL L ++ bytesOfL [u8P (IntKind.u8.wrap e.1)]).size + (bytesOfL (numL (IntKind.i64.wrap (e.2 - (pre.length : Int))))).size ≤ 9223372036854775807 := by
      rw [ByteArray.size_append, bytesOfL_size, bytesOfL_size, bytesOfL_size]; simp; omega
    have e1 : bytesOfL L ++ bytesOfL [u8P (IntKind.u8.wrap e.1)] ++ bytesOfL (numL (IntKind.i64.wrap (e.2 - (pre.length : Int)))) = bytesOfL (L ++ u8P (IntKind.u8.wrap e.1) :: numL (IntKind.i64.wrap (e.2 - (pre.length : Int)))) := by
      rw [← bytesOfL_app, ← bytesOfL_app]; simp
    have hih := ih (epre ++ [e]) (L ++ u8P (IntKind.u8.wrap e.1) :: numL (IntKind.i64.wrap (e.2 - (pre.length : Int)))) (at_step he) (by simp; omega) (fun L' hL' hb => hk L' (by rw [hL', putE]; simp) hb)
    refine Ev3.succ ?_
    simp only [spec_l12Put.l1_eq, mach_len, at_lt hp, mach_at hp, st_f1, edges_len, at_lt he, edges_at he, edge_f0, edge_f1, specBytes_val, at_next he (by omega), c1, c2, e1, strs_len, strs_elem, ints_len, ints_elem, items_list, fld_agg, elem_list, toStr_sc, toInt_sc, toBool_sc, headD_one, nat_int, get_bt, decide_eq_true_eq, decide_eq_false_iff_not, decide_true, decide_false, if_true, if_false, ite_self, Bool.not_true, Bool.not_false, Bool.false_eq_true, Bool.true_eq_false, Bool.true_and, Bool.false_and, Bool.and_true, Bool.and_false, not_true, not_false_iff, Option.bind_some, nn, toList_inj, Bool.not_eq_true', Bool.not_eq_false', Int.le_refl, and_self, true_and, and_true, false_and, and_false, bne_self_eq_false, beq_self_eq_true, Int.reduceEq, Nat.reduceEqDiff, List.length_singleton, List.tail_cons, Int.reduceLE, Int.reduceLT, decide_eq_true_eq]
    exact hih
theorem specPut_l0 (m : List St) (hm : MachB m) : ∀ (rest pre : List St) (L : List PV), m = pre ++ rest → L.length ≤ 8000000 * pre.length + 8 →
    Ev2 (fun N n => spec_l12Put.l0 N n (machP m) (bytesOfL L) (pre.length : Int)) [strP (bytesOfL (L ++ putL pre.length rest))] := by
  have hn := hm.n
  intro rest
  induction rest with
  | nil =>
    intro pre L hp hL
    refine Ev2.succ ?_
    simp only [spec_l12Put.l0_eq, mach_len, at_end hp, putL, List.append_nil, strs_len, strs_elem, ints_len, ints_elem, items_list, fld_agg, elem_list, toStr_sc, toInt_sc, toBool_sc, headD_one, nat_int, get_bt, decide_eq_true_eq, decide_eq_false_iff_not, decide_true, decide_false, if_true, if_false, ite_self, Bool.not_true, Bool.not_false, Bool.false_eq_true, Bool.true_eq_false, Bool.true_and, Bool.false_and, Bool.and_true, Bool.and_false, not_true, not_false_iff, Option.bind_some, nn, toList_inj, Bool.not_eq_true', Bool.not_eq_false', Int.le_refl, and_self, true_and, and_true, false_and, and_false, bne_self_eq_false, beq_self_eq_true, Int.reduceEq, Nat.reduceEqDiff, List.length_singleton, List.tail_cons, Int.reduceLE, Int.reduceLT, decide_eq_true_eq]
    exact Ev2.now _
  | cons s rest ih =>
    intro pre L hp hL
    have hle : pre.length < m.length := at_ltN hp
    have hnl := numL_len (cntS s)
    have c1 : (bytesOfL L).size + (bytesOfL (numL (cntS s))).size ≤ 9223372036854775807 := by rw [bytesOfL_size, bytesOfL_size]; omega
    have hl : (pre ++ [s]).length = pre.length + 1 := by simp
    have h1 := (specPut_l1 m hm hp (bytesOfL (L ++ putL pre.length (s :: rest))) s.2 [] (L ++ numL (cntS s)) rfl (by rw [List.length_append, List.length_nil]; omega) (fun L' hL' hb => by
      have h := ih (pre ++ [s]) L' (at_step hp) (by rw [hl]; omega)
      have e : L' ++ putL (pre ++ [s]).length rest = L ++ putL pre.length (s :: rest) := by rw [hl, hL', putL]; simp
      rw [e] at h
      exact h)).start
    rw [bytesOfL_app] at h1
    refine Ev2.succ ?_
    simp only [spec_l12Put.l0_eq, mach_len, at_lt hp, mach_at hp, st_f0, st_f1, edges_len, specBytes_val, strs_len, strs_elem, ints_len, ints_elem, items_list, fld_agg, elem_list, toStr_sc, toInt_sc, toBool_sc, headD_one, nat_int, get_bt, decide_eq_true_eq, decide_eq_false_iff_not, decide_true, decide_false, if_true, if_false, ite_self, Bool.not_true, Bool.not_false, Bool.false_eq_true, Bool.true_eq_false, Bool.true_and, Bool.false_and, Bool.and_true, Bool.and_false, not_true, not_false_iff, Option.bind_some, nn, toList_inj, Bool.not_eq_true', Bool.not_eq_false', Int.le_refl, and_self, true_and, and_true, false_and, and_false, bne_self_eq_false, beq_self_eq_true, Int.reduceEq, Nat.reduceEqDiff, List.length_singleton, List.tail_cons, Int.reduceLE, Int.reduceLT, decide_eq_true_eq]
    unfold cntS at c1 h1
    by_cases hs1 : s.1 = true
    · rw [if_pos hs1] at c1 h1
      simp only [hs1, c1, strs_len, strs_elem, ints_len, ints_elem, items_list, fld_agg, elem_list, toStr_sc, toInt_sc, toBool_sc, headD_one, nat_int, get_bt, decide_eq_true_eq, decide_eq_false_iff_not, decide_true, decide_false, if_true, if_false, ite_self, Bool.not_true, Bool.not_false, Bool.false_eq_true, Bool.true_eq_false, Bool.true_and, Bool.false_and, Bool.and_true, Bool.and_false, not_true, not_false_iff, Option.bind_some, nn, toList_inj, Bool.not_eq_true', Bool.not_eq_false', Int.le_refl, and_self, true_and, and_true, false_and, and_false, bne_self_eq_false, beq_self_eq_true, Int.reduceEq, Nat.reduceEqDiff, List.length_singleton, List.tail_cons, Int.reduceLE, Int.reduceLT, decide_eq_true_eq]
      exact h1
    · rw [if_neg hs1] at c1 h1
      simp only [hs1, c1, strs_len, strs_elem, ints_len, ints_elem, items_list, fld_agg, elem_list, toStr_sc, toInt_sc, toBool_sc, headD_one, nat_int, get_bt, decide_eq_true_eq, decide_eq_false_iff_not, decide_true, decide_false, if_true, if_false, ite_self, Bool.not_true, Bool.not_false, Bool.false_eq_true, Bool.true_eq_false, Bool.true_and, Bool.false_and, Bool.and_true, Bool.and_false, not_true, not_false_iff, Option.bind_some, nn, toList_inj, Bool.not_eq_true', Bool.not_eq_false', Int.le_refl, and_self, true_and, and_true, false_and, and_false, bne_self_eq_false, beq_self_eq_true, Int.reduceEq, Nat.reduceEqDiff, List.length_singleton, List.tail_cons, Int.reduceLE, Int.reduceLT, decide_eq_true_eq]
      exact h1
def putM (m : List St) : List PV := numL (m.length : Int) ++ putL 0 m
theorem specPut_ev (m : List St) (hm : MachB m) : Ev (fun N => spec_l12Put.f N [machP m]) [strP (bytesOfL (putM m))] := by
  have hnl := numL_len (m.length : Int)
  simp only [spec_l12Put.f_eq, mach_len, specBytes_val, strs_len, strs_elem, ints_len, ints_elem, items_list, fld_agg, elem_list, toStr_sc, toInt_sc, toBool_sc, headD_one, nat_int, get_bt, decide_eq_true_eq, decide_eq_false_iff_not, decide_true, decide_false, if_true, if_false, ite_self, Bool.not_true, Bool.not_false, Bool.false_eq_true, Bool.true_eq_false, Bool.true_and, Bool.false_and, Bool.and_true, Bool.and_false, not_true, not_false_iff, Option.bind_some, nn, toList_inj, Bool.not_eq_true', Bool.not_eq_false', Int.le_refl, and_self, true_and, and_true, false_and, and_false, bne_self_eq_false, beq_self_eq_true, Int.reduceEq, Nat.reduceEqDiff, List.length_singleton, List.tail_cons, Int.reduceLE, Int.reduceLT, decide_eq_true_eq]
  exact (specPut_l0 m hm m [] (numL (m.length : Int)) rfl (by rw [List.length_nil]; omega)).diag
theorem implNum_val (L : List PV) (n : Int) (hL : L.length ≤ 140737488355000) (N : Nat) : impl_putNumber.f N [PV.list L, intP n] = some [PV.list (L ++ numL n)] := by
  have c1 : L.length + 1 ≤ 140737488355328 := by omega
  have c2 : L.length + 2 ≤ 140737488355328 := by omega
  simp only [impl_putNumber.f_eq, numL, List.length_cons, List.length_nil, Nat.zero_add, Nat.reduceAdd, strs_len, strs_elem, ints_len, ints_elem, items_list, fld_agg, elem_list, toStr_sc, toInt_sc, toBool_sc, headD_one, nat_int, get_bt, decide_eq_true_eq, decide_eq_false_iff_not, decide_true, decide_false, if_true, if_false, ite_self, Bool.not_true, Bool.not_false, Bool.false_eq_true, Bool.true_eq_false, Bool.true_and, Bool.false_and, Bool.and_true, Bool.and_false, not_true, not_false_iff, Option.bind_some, nn, toList_inj, Bool.not_eq_true', Bool.not_eq_false', Int.le_refl, and_self, true_and, and_true, false_and, and_false, bne_self_eq_false, beq_self_eq_true, Int.reduceEq, Nat.reduceEqDiff, List.length_singleton, List.tail_cons, Int.reduceLE, Int.reduceLT, decide_eq_true_eq]
  by_cases h : n < 128 <;> simp only [h, c1, c2, strs_len, strs_elem, ints_len, ints_elem, items_list, fld_agg, elem_list, toStr_sc, toInt_sc, toBool_sc, headD_one, nat_int, get_bt, decide_eq_true_eq, decide_eq_false_iff_not, decide_true, decide_false, if_true, if_false, ite_self, Bool.not_true, Bool.not_false, Bool.false_eq_true, Bool.true_eq_false, Bool.true_and, Bool.false_and, Bool.and_true, Bool.and_false, not_true, not_false_iff, Option.bind_some, nn, toList_inj, Bool.not_eq_true', Bool.not_eq_false', Int.le_refl, and_self, true_and, and_true, false_and, and_false, bne_self_eq_false, beq_self_eq_true, Int.reduceEq, Nat.reduceEqDiff, List.length_singleton, List.tail_cons, Int.reduceLE, Int.reduceLT, decide_eq_true_eq]
theorem implPut_l1 (m : List St) (hm : MachB m) {pre rest : List St} {s : St} (hp : m = pre ++ s :: rest) (R : ByteArray) :
    ∀ (es epre : List Ed) (L : List PV), s.2 = epre ++ es → L.length ≤ 8000000 * pre.length + 10 + 3 * epre.length →
    (∀ L', L' = L ++ putE pre.length es → L'.length ≤ 8000000 * (pre.length + 1) + 8 → Ev2 (fun N n => impl_MachinePut.l0 N n (machP m) (m.length : Int) ((pre ++ [s]).length : Int) (PV.list L')) [strP R]) →
    Ev3 (fun N m0 n => impl_MachinePut.l1 N m0 n (pre.length : Int) (machP m) (m.length : Int) (pre.length : Int) (edgesP s.2) (s.2.length : Int) (epre.length : Int) (PV.list L)) [strP R] := by
  have hn := hm.n
  have hse := hm.e s (by rw [hp]; simp)
  have hlm : m.length = pre.length + 1 + rest.length := by rw [hp]; simp; omega
  intro es
  induction es with
  | nil =>
    intro epre L he hL hk
    have hel : epre.length = s.2.length := by rw [he]; simp
    refine Ev3.succ ?_
    simp only [impl_MachinePut.l1_eq, at_end he, at_next hp (by omega), strs_len, strs_elem, ints_len, ints_elem, items_list, fld_agg, elem_list, toStr_sc, toInt_sc, toBool_sc, headD_one, nat_int, get_bt, decide_eq_true_eq, decide_eq_false_iff_not, decide_true, decide_false, if_true, if_false, ite_self, Bool.not_true, Bool.not_false, Bool.false_eq_true, Bool.true_eq_false, Bool.true_and, Bool.false_and, Bool.and_true, Bool.and_false, not_true, not_false_iff, Option.bind_some, nn, toList_inj, Bool.not_eq_true', Bool.not_eq_false', Int.le_refl, and_self, true_and, and_true, false_and, and_false, bne_self_eq_false, beq_self_eq_true, Int.reduceEq, Nat.reduceEqDiff, List.length_singleton, List.tail_cons, Int.reduceLE, Int.reduceLT, decide_eq_true_eq]
    exact (hk L (by simp [putE]) (by omega)).outer
  | cons e es ih =>
    intro epre L he hL hk
    have hle : epre.length < s.2.length := at_ltN he
    have hnl := numL_len (IntKind.i64.wrap (e.2 - (pre.length : Int)))
    have c1 : L.length + 1 ≤ 140737488355328 := by omega
    have e1 : (L ++ [u8P (IntKind.u8.wrap e.1)]) ++ numL (IntKind.i64.wrap (e.2 - (pre.length : Int))) = L ++ u8P (IntKind.u8.wrap e.1) :: numL (IntKind.i64.wrap (e.2 - (pre.length : Int))) := by simp
    have hih := ih (epre ++ [e]) (L ++ u8P (IntKind.u8.wrap e.1) :: numL (IntKind.i64.wrap (e.2 - (pre.length : Int)))) (at_step he) (by simp; omega) (fun L' hL' hb => hk L' (by rw [hL', putE]; simp) hb)
    have hnv := implNum_val (L ++ [u8P (IntKind.u8.wrap e.1)]) (IntKind.i64.wrap (e.2 - (pre.length : Int))) (by simp; omega)
    refine Ev3.succ ?_
    simp only [impl_MachinePut.l1_eq, edges_len, at_lt he, edges_at he, edge_f0, edge_f1, hnv, at_next he (by omega), c1, e1, strs_len, strs_elem, ints_len, ints_elem, items_list, fld_agg, elem_list, toStr_sc, toInt_sc, toBool_sc, headD_one, nat_int, get_bt, decide_eq_true_eq, decide_eq_false_iff_not, decide_true, decide_false, if_true, if_false, ite_self, Bool.not_true, Bool.not_false, Bool.false_eq_true, Bool.true_eq_false, Bool.true_and, Bool.false_and, Bool.and_true, Bool.and_false, not_true, not_false_iff, Option.bind_some, nn, toList_inj, Bool.not_eq_true', Bool.not_eq_false', Int.le_refl, and_self, true_and, and_true, false_and, and_false, bne_self_eq_false, beq_self_eq_true, Int.reduceEq, Nat.reduceEqDiff, List.length_singleton, List.tail_cons, Int.reduceLE, Int.reduceLT, decide_eq_true_eq]
    exact hih
theorem implPut_l0 (m : List St) (hm : MachB m) : ∀ (rest pre : List St) (L : List PV), m = pre ++ rest → L.length ≤ 8000000 * pre.length + 8 →
    Ev2 (fun N n => impl_MachinePut.l0 N n (machP m) (m.length : Int) (pre.length : Int) (PV.list L)) [strP (if 4000 < (L ++ putL pre.length rest).length then ⟨#[]⟩ else bytesOfL (L ++ putL pre.length rest))] := by
  have hn := hm.n
  intro rest
  induction rest with
  | nil =>
    intro pre L hp hL
    refine Ev2.succ ?_
    simp only [impl_MachinePut.l0_eq, mach_len, at_end hp, putL, List.append_nil, strs_len, strs_elem, ints_len, ints_elem, items_list, fld_agg, elem_list, toStr_sc, toInt_sc, toBool_sc, headD_one, nat_int, get_bt, decide_eq_true_eq, decide_eq_false_iff_not, decide_true, decide_false, if_true, if_false, ite_self, Bool.not_true, Bool.not_false, Bool.false_eq_true, Bool.true_eq_false, Bool.true_and, Bool.false_and, Bool.and_true, Bool.and_false, not_true, not_false_iff, Option.bind_some, nn, toList_inj, Bool.not_eq_true', Bool.not_eq_false', Int.le_refl, and_self, true_and, and_true, false_and, and_false, bne_self_eq_false, beq_self_eq_true, Int.reduceEq, Nat.reduceEqDiff, List.length_singleton, List.tail_cons, Int.reduceLE, Int.reduceLT, decide_eq_true_eq]
    by_cases h : 4000 < L.length
    · have h' : (4000 : Int) < (L.length : Int) := by omega
      simp only [h, h', strs_len, strs_elem, ints_len, ints_elem, items_list, fld_agg, elem_list, toStr_sc, toInt_sc, toBool_sc, headD_one, nat_int, get_bt, decide_eq_true_eq, decide_eq_false_iff_not, decide_true, decide_false, if_true, if_false, ite_self, Bool.not_true, Bool.not_false, Bool.false_eq_true, Bool.true_eq_false, Bool.true_and, Bool.false_and, Bool.and_true, Bool.and_false, not_true, not_false_iff, Option.bind_some, nn, toList_inj, Bool.not_eq_true', Bool.not_eq_false', Int.le_refl, and_self, true_and, and_true, false_and, and_false, bne_self_eq_false, beq_self_eq_true, Int.reduceEq, Nat.reduceEqDiff, List.length_singleton, List.tail_cons, Int.reduceLE, Int.reduceLT, decide_eq_true_eq]; exact Ev2.now _
    · have h' : ¬ (4000 : Int) < (L.length : Int) := by omega
      simp only [h, h', strs_len, strs_elem, ints_len, ints_elem, items_list, fld_agg, elem_list, toStr_sc, toInt_sc, toBool_sc, headD_one, nat_int, get_bt, decide_eq_true_eq, decide_eq_false_iff_not, decide_true, decide_false, if_true, if_false, ite_self, Bool.not_true, Bool.not_false, Bool.false_eq_true, Bool.true_eq_false, Bool.true_and, Bool.false_and, Bool.and_true, Bool.and_false, not_true, not_false_iff, Option.bind_some, nn, toList_inj, Bool.not_eq_true', Bool.not_eq_false', Int.le_refl, and_self, true_and, and_true, false_and, and_false, bne_self_eq_false, beq_self_eq_true, Int.reduceEq, Nat.reduceEqDiff, List.length_singleton, List.tail_cons, Int.reduceLE, Int.reduceLT, decide_eq_true_eq]; exact Ev2.now _
  | cons s rest ih =>
    intro pre L hp hL
    have hle : pre.length < m.length := at_ltN hp
    have hnl := numL_len (cntS s)
    have hl : (pre ++ [s]).length = pre.length + 1 := by simp
    have h1 := (implPut_l1 m hm hp (if 4000 < (L ++ putL pre.length (s :: rest)).length then ⟨#[]⟩ else bytesOfL (L ++ putL pre.length (s :: rest))) s.2 [] (L ++ numL (cntS s)) rfl (by rw [List.length_append, List.length_nil]; omega) (fun L' hL' hb => by
      have h := ih (pre ++ [s]) L' (at_step hp) (by rw [hl]; omega)
      have e : L' ++ putL (pre ++ [s]).length rest = L ++ putL pre.length (s :: rest) := by rw [hl, hL', putL]; simp
      rw [e] at h
      exact h)).start
    refine Ev2.succ ?_
    have hnv := fun n => implNum_val L n (by omega)
    simp only [impl_MachinePut.l0_eq, mach_len, at_lt hp, mach_at hp, st_f0, st_f1, edges_len, hnv, strs_len, strs_elem, ints_len, ints_elem, items_list, fld_agg, elem_list, toStr_sc, toInt_sc, toBool_sc, headD_one, nat_int, get_bt, decide_eq_true_eq, decide_eq_false_iff_not, decide_true, decide_false, if_true, if_false, ite_self, Bool.not_true, Bool.not_false, Bool.false_eq_true, Bool.true_eq_false, Bool.true_and, Bool.false_and, Bool.and_true, Bool.and_false, not_true, not_false_iff, Option.bind_some, nn, toList_inj, Bool.not_eq_true', Bool.not_eq_false', Int.le_refl, and_self, true_and, and_true, false_and, and_false, bne_self_eq_false, beq_self_eq_true, Int.reduceEq, Nat.reduceEqDiff, List.length_singleton, List.tail_cons, Int.reduceLE, Int.reduceLT, decide_eq_true_eq]
    unfold cntS at h1
    by_cases hs1 : s.1 = true
    · rw [if_pos hs1] at h1
      simp only [hs1, strs_len, strs_elem, ints_len, ints_elem, items_list, fld_agg, elem_list, toStr_sc, toInt_sc, toBool_sc, headD_one, nat_int, get_bt, decide_eq_true_eq, decide_eq_false_iff_not, decide_true, decide_false, if_true, if_false, ite_self, Bool.not_true, Bool.not_false, Bool.false_eq_true, Bool.true_eq_false, Bool.true_and, Bool.false_and, Bool.and_true, Bool.and_false, not_true, not_false_iff, Option.bind_some, nn, toList_inj, Bool.not_eq_true', Bool.not_eq_false', Int.le_refl, and_self, true_and, and_true, false_and, and_false, bne_self_eq_false, beq_self_eq_true, Int.reduceEq, Nat.reduceEqDiff, List.length_singleton, List.tail_cons, Int.reduceLE, Int.reduceLT, decide_eq_true_eq]
      exact h1
    · rw [if_neg hs1] at h1
      simp only [hs1, strs_len, strs_elem, ints_len, ints_elem, items_list, fld_agg, elem_list, toStr_sc, toInt_sc, toBool_sc, headD_one, nat_int, get_bt, decide_eq_true_eq, decide_eq_false_iff_not, decide_true, decide_false, if_true, if_false, ite_self, Bool.not_true, Bool.not_false, Bool.false_eq_true, Bool.true_eq_false, Bool.true_and, Bool.false_and, Bool.and_true, Bool.and_false, not_true, not_false_iff, Option.bind_some, nn, toList_inj, Bool.not_eq_true', Bool.not_eq_false', Int.le_refl, and_self, true_and, and_true, false_and, and_false, bne_self_eq_false, beq_self_eq_true, Int.reduceEq, Nat.reduceEqDiff, List.length_singleton, List.tail_cons, Int.reduceLE, Int.reduceLT, decide_eq_true_eq]
      exact h1
def putT (m : List St) : ByteArray := if okM m = true then (if 4000 < (putM m).length then ⟨#[]⟩ else bytesOfL (putM m)) else ⟨#[]⟩
theorem implPut_ev (m : List St) (hm : MachB m) : Ev (fun N => impl_MachinePut.f N [machP m]) [strP (putT m)] := by
  have hnl := numL_len (m.length : Int)
  simp only [impl_MachinePut.f_eq]
  refine Ev.bind (implOk_ev m hm) ?_
  unfold putT
  cases okM m with
  | false => simp only [strs_len, strs_elem, ints_len, ints_elem, items_list, fld_agg, elem_list, toStr_sc, toInt_sc, toBool_sc, headD_one, nat_int, get_bt, decide_eq_true_eq, decide_eq_false_iff_not, decide_true, decide_false, if_true, if_false, ite_self, Bool.not_true, Bool.not_false, Bool.false_eq_true, Bool.true_eq_false, Bool.true_and, Bool.false_and, Bool.and_true, Bool.and_false, not_true, not_false_iff, Option.bind_some, nn, toList_inj, Bool.not_eq_true', Bool.not_eq_false', Int.le_refl, and_self, true_and, and_true, false_and, and_false, bne_self_eq_false, beq_self_eq_true, Int.reduceEq, Nat.reduceEqDiff, List.length_singleton, List.tail_cons, Int.reduceLE, Int.reduceLT, decide_eq_true_eq]; exact Ev.now _
  | true =>
    have hnv := implNum_val [] (m.length : Int) (by simp)
    simp only [mach_len, hnv, List.nil_append, strs_len, strs_elem, ints_len, ints_elem, items_list, fld_agg, elem_list, toStr_sc, toInt_sc, toBool_sc, headD_one, nat_int, get_bt, decide_eq_true_eq, decide_eq_false_iff_not, decide_true, decide_false, if_true, if_false, ite_self, Bool.not_true, Bool.not_false, Bool.false_eq_true, Bool.true_eq_false, Bool.true_and, Bool.false_and, Bool.and_true, Bool.and_false, not_true, not_false_iff, Option.bind_some, nn, toList_inj, Bool.not_eq_true', Bool.not_eq_false', Int.le_refl, and_self, true_and, and_true, false_and, and_false, bne_self_eq_false, beq_self_eq_true, Int.reduceEq, Nat.reduceEqDiff, List.length_singleton, List.tail_cons, Int.reduceLE, Int.reduceLT, decide_eq_true_eq]
    exact (implPut_l0 m hm m [] (numL (m.length : Int)) rfl (by rw [List.length_nil]; omega)).diag
/-! #### the words that a machine knows -/
def wsE (i : Nat) (T : List (List (List Int))) : List Ed → List (List Int)
  | [] => []
  | e :: es => (T.getD (e.2.toNat - (i + 1)) []).map (fun u => e.1 :: u) ++ wsE i T es
def wsL (i : Nat) : List St → List (List (List Int))
  | [] => []
  | s :: r => ((if s.1 = true then [[]] else []) ++ wsE i (wsL (i + 1) r) s.2) :: wsL (i + 1) r
theorem wsL_len : ∀ (m : List St) (i : Nat), (wsL i m).length = m.length
  | [], _ => rfl
  | s :: r, i => by simp [wsL, wsL_len r (i + 1)]
theorem wsL_drop : ∀ (pre rest : List St) (i : Nat), (wsL i (pre ++ rest)).drop pre.length = wsL (i + pre.length) rest
  | [], rest, i => by simp
  | s :: pre, rest, i => by
    simp only [List.cons_append, wsL, List.length_cons, List.drop_succ_cons]
    rw [wsL_drop pre rest (i + 1)]
    congr 1; omega
/-- The words that a state knows. -/
def WM (m : List St) (j : Nat) : List (List Int) := (wsL 0 m).getD j []
def WE (m : List St) : List Ed → List (List Int)
  | [] => []
  | e :: es => (WM m e.2.toNat).map (fun u => e.1 :: u) ++ WE m es
theorem WM_tail (m pre rest : List St) (s : St) (hp : m = pre ++ s :: rest) (t : Nat) (ht : pre.length + 1 ≤ t) : (wsL (pre.length + 1) rest).getD (t - (pre.length + 1)) [] = WM m t := by
  have h : m = (pre ++ [s]) ++ rest := by rw [hp]; simp
  have hd := wsL_drop (pre ++ [s]) rest 0
  rw [← h] at hd
  have hl : (pre ++ [s]).length = pre.length + 1 := by simp
  rw [hl, Nat.zero_add] at hd
  unfold WM
  rw [← hd, List.getD_eq_getElem?_getD, List.getD_eq_getElem?_getD, List.getElem?_drop]
  congr 2; omega
theorem WM_eq (m pre rest : List St) (s : St) (hp : m = pre ++ s :: rest) (hes : ∀ e ∈ s.2, (pre.length : Int) + 1 ≤ e.2) : WM m pre.length = (if s.1 = true then [[]] else []) ++ WE m s.2 := by
  have hd := wsL_drop pre (s :: rest) 0
  rw [← hp, Nat.zero_add, wsL] at hd
  have h0 : WM m pre.length = (if s.1 = true then [[]] else []) ++ wsE pre.length (wsL (pre.length + 1) rest) s.2 := by
    unfold WM
    have : (wsL 0 m)[pre.length]? = some ((if s.1 = true then [[]] else []) ++ wsE pre.length (wsL (pre.length + 1) rest) s.2) := by
      have := congrArg (fun l => l[0]?) hd
      simpa [List.getElem?_drop] using this
    rw [List.getD_eq_getElem?_getD, this]; rfl
  rw [h0]
  have key : ∀ es : List Ed, (∀ e ∈ es, (pre.length : Int) + 1 ≤ e.2) → wsE pre.length (wsL (pre.length + 1) rest) es = WE m es := by
    intro es
    induction es with
    | nil => intro _; rfl
    | cons e es ih =>
      intro h
      have he := h e (by simp)
      rw [wsE, WE, ih (fun x hx => h x (by simp [hx])), WM_tail m pre rest s hp e.2.toNat (by omega)]
  rw [key s.2 hes]
theorem split_at {α : Type} (m : List α) (j : Nat) (h : j < m.length) : ∃ pre s rest, m = pre ++ s :: rest ∧ pre.length = j :=
  ⟨m.take j, m[j], m.drop (j + 1), by simp, by simp; omega⟩
theorem sts_at {m pre rest : List St} {s : St} (hok : stsOk m.length 0 m = true) (hp : m = pre ++ s :: rest) : stOk m.length pre.length s = true := by
  have h := hok
  rw [hp, stsOk_app, ← hp] at h
  simp only [stsOk, Bool.and_eq_true, Nat.zero_add] at h
  exact h.2.1
theorem sts_edges {m pre rest : List St} {s : St} (hok : stsOk m.length 0 m = true) (hp : m = pre ++ s :: rest) : ∀ e ∈ s.2, (97 ≤ e.1 ∧ e.1 ≤ 122) ∧ (pre.length : Int) + 1 ≤ e.2 ∧ e.2 ≤ (m.length : Int) - 1 := by
  have hso := sts_at hok hp
  simp only [stOk, Bool.and_eq_true] at hso
  exact edgesOk_to hso.1
/-! How many. -/
def cap9 (n : Nat) : Int := if (1000000000 : Int) < (n : Int) then 1000000000 else (n : Int)
def cntE (i : Nat) (T : List Int) : List Ed → Int → Int
  | [], a => a
  | e :: es, a => cntE i T es (minI (a + T.getD (e.2.toNat - (i + 1)) 0) 1000000000)
def cntL (i : Nat) : List St → List Int
  | [] => []
  | s :: r => cntE i (cntL (i + 1) r) s.2 (if s.1 = true then 1 else 0) :: cntL (i + 1) r
theorem cntL_len : ∀ (m : List St) (i : Nat), (cntL i m).length = m.length
  | [], _ => rfl
  | s :: r, i => by simp [cntL, cntL_len r (i + 1)]
theorem cap9_range (n : Nat) : 0 ≤ cap9 n ∧ cap9 n ≤ 1000000000 := by unfold cap9; split <;> omega
theorem cap9_add (a b : Nat) : minI (cap9 a + cap9 b) 1000000000 = cap9 (a + b) := by unfold minI cap9; split <;> split <;> split <;> split <;> omega
theorem cntE_eq (i : Nat) (C : List Int) (T : List (List (List Int))) (h : ∀ j, C.getD j 0 = cap9 (T.getD j []).length) : ∀ (es : List Ed) (a : Nat), cntE i C es (cap9 a) = cap9 (a + (wsE i T es).length)
  | [], a => rfl
  | e :: es, a => by
    rw [cntE, wsE, h, cap9_add, cntE_eq i C T h es]
    congr 1; simp; omega
theorem cntL_eq : ∀ (m : List St) (i j : Nat), (cntL i m).getD j 0 = cap9 ((wsL i m).getD j []).length
  | [], i, j => by simp [cntL, wsL, cap9]
  | s :: r, i, 0 => by
    have h0 : (if s.1 = true then (1 : Int) else 0) = cap9 ((if s.1 = true then [[]] else [] : List (List Int)).length) := by split <;> simp [cap9]
    have := cntE_eq i (cntL (i + 1) r) (wsL (i + 1) r) (cntL_eq r (i + 1)) s.2 (if s.1 = true then [[]] else [] : List (List Int)).length
    rw [← h0] at this
    simp only [cntL, wsL, List.getD_cons_zero, List.length_append]
    exact this
  | s :: r, i, j + 1 => by simpa [cntL, wsL] using cntL_eq r (i + 1) j
theorem cntL_range (m : List St) (i : Nat) : ∀ x ∈ cntL i m, 0 ≤ x ∧ x ≤ 1000000000 := fun x hx => by
  obtain ⟨j, hj⟩ := List.mem_iff_getElem?.1 hx
  have := cntL_eq m i j
  rw [List.getD_eq_getElem?_getD, hj] at this
  simp at this
  rw [this]; exact cap9_range _
/-! In order. -/
def txt (l : List Int) : ByteArray := ⟨(l.map fun x => UInt8.ofNat x.toNat).toArray⟩
def aheadT (h : ByteArray) (ws : List (List Int)) : List ByteArray := ws.map fun u => h ++ txt u
theorem aheadT_app (h : ByteArray) (a b : List (List Int)) : aheadT h (a ++ b) = aheadT h a ++ aheadT h b := by simp [aheadT]
theorem txt_cons (h : ByteArray) (c : Int) (u : List Int) : (h ++ txt [c]) ++ txt u = h ++ txt (c :: u) := by
  apply ByteArray.ext
  simp [ByteArray.data_append, txt]
theorem aheadT_cons (h : ByteArray) (c : Int) (ws : List (List Int)) : aheadT (h ++ txt [c]) ws = aheadT h (ws.map fun u => c :: u) := by
  simp only [aheadT, List.map_map]
  exact List.map_congr_left (fun u _ => txt_cons h c u)
theorem txt_nil (h : ByteArray) : h ++ txt [] = h := by
  apply ByteArray.ext
  simp [ByteArray.data_append, txt]
theorem u8_low {c : Int} (h : 97 ≤ c ∧ c ≤ 122) : IntKind.u8.wrap c = c := by
  have : IntKind.u8.wrap c = c % 256 := by simp [IntKind.wrap, IntKind.signed, IntKind.bits]
  rw [this]; omega
theorem byte_txt {c : Int} (h : 97 ≤ c ∧ c ≤ 122) : bytesOfL [PV.sc (.int .u8 (IntKind.u8.wrap c))] = txt [c] := by
  rw [u8_low h]; rfl
theorem txt_size (l : List Int) : (txt l).size = l.length := by simp [txt, ByteArray.size]
theorem take_more {α : Type} (o : List α) (k : Nat) (A B : List α) : (o ++ A.take (k - o.length)) ++ B.take (k - (o ++ A.take (k - o.length)).length) = o ++ (A ++ B).take (k - o.length) := by
  rw [List.append_assoc, List.take_append]
  congr 2
  rw [List.length_append, List.length_take]
  by_cases h : A.length ≤ k - o.length
  · rw [Nat.min_eq_right h]; congr 1; omega
  · have h' : k - o.length ≤ A.length := by omega
    rw [Nat.min_eq_left h']
    have e1 : k - (o.length + (k - o.length)) = 0 := by omega
    have e2 : k - o.length - A.length = 0 := by omega
    rw [e1, e2]
theorem strs_app (a b : List ByteArray) : PV.list ((strsP a).items ++ (strsP b).items) = strsP (a ++ b) := by simp [strsP, PV.items]
/-! The reference's. -/
/-! #### marks on machines -/
def mkE : Int → List Ed → List Ed
  | _, [] => []
  | k, _ :: r => (k, k + 1) :: mkE (k + 2) r
def mkS : Int → List St → List St
  | _, [] => []
  | k, s :: r => (decide (Int.tmod k 3 = 0), mkE (k + 1) s.2) :: mkS (k + 1 + 2 * s.2.length) r
def cntM : List St → Nat
  | [] => 0
  | s :: r => 1 + 2 * s.2.length + cntM r
theorem mkE_len : ∀ (l : List Ed) (k : Int), (mkE k l).length = l.length
  | [], _ => rfl
  | _ :: r, k => by simp [mkE, mkE_len r]
theorem mkS_len : ∀ (l : List St) (k : Int), (mkS k l).length = l.length
  | [], _ => rfl
  | _ :: r, k => by simp [mkS, mkS_len r]
theorem cntM_app : ∀ (a b : List St), cntM (a ++ b) = cntM a + cntM b
  | [], b => by simp [cntM]
  | s :: a, b => by simp only [List.cons_append, cntM, cntM_app a b]; omega
theorem mkS_cnt : ∀ (l : List St) (k : Int), cntM (mkS k l) = cntM l
  | [], _ => rfl
  | s :: r, k => by simp only [mkS, cntM, mkE_len, mkS_cnt r]
theorem elem_mid (A : List PV) (z : PV) (zs : List PV) : (PV.list (A ++ z :: zs)).elem A.length = z := by
  simp [PV.elem, PV.items, List.getD_eq_getElem?_getD]
theorem mid_lt (A : List PV) (z : PV) (zs : List PV) : (A.length : Int) < ((A ++ z :: zs).length : Int) := by simp; omega
theorem three_zero : ((3 : Int) = 0) = False := by simp
theorem markE_l1 (n0 : Nat) (hn0 : n0 ≤ 2097152) : ∀ (es : List Ed) (A : List PV) (x : Int), A.length + es.length = n0 → 0 ≤ x → x + 2 * es.length ≤ 4611686018427387904 →
    Ev2 (fun N n => laws_markEdgeS.l1 N n x (A.length : Int) (A ++ es.map edgeP)) [intP (x + 2 * es.length), PV.list (A ++ (mkE x es).map edgeP)] := by
  intro es
  induction es with
  | nil =>
    intro A x hA h0 hx
    refine Ev2.succ ?_
    have z : ¬ (A.length : Int) < ((A ++ ([] : List Ed).map edgeP).length : Int) := by simp
    simp only [laws_markEdgeS.l1_eq, z, strs_len, strs_elem, ints_len, ints_elem, items_list, fld_agg, elem_list, toStr_sc, toInt_sc, toBool_sc, headD_one, nat_int, get_bt, decide_eq_true_eq, decide_eq_false_iff_not, decide_true, decide_false, if_true, if_false, ite_self, Bool.not_true, Bool.not_false, Bool.false_eq_true, Bool.true_eq_false, Bool.true_and, Bool.false_and, Bool.and_true, Bool.and_false, not_true, not_false_iff, Option.bind_some, nn, toList_inj, Bool.not_eq_true', Bool.not_eq_false', Int.le_refl, and_self, true_and, and_true, false_and, and_false, bne_self_eq_false, beq_self_eq_true, Int.reduceEq, Nat.reduceEqDiff, List.length_singleton, List.tail_cons, Int.reduceLE, Int.reduceLT, decide_eq_true_eq]
    refine Ev2.ext (Ev2.now _) ?_
    simp [mkE]
  | cons e es ih =>
    intro A x hA h0 hx
    refine Ev2.succ ?_
    simp only [List.length_cons] at hA hx
    have w1 : IntKind.i64.wrap (x + 1) = x + 1 := wrap_id (by omega) (by omega)
    have w2 : IntKind.i64.wrap (x + 1 + 1) = x + 2 := by rw [show x + 1 + 1 = x + 2 by omega]; exact wrap_id (by omega) (by omega)
    have w3 : IntKind.i64.wrap ((A.length : Int) + 1) = ((A ++ [edgeP (x, x + 1)]).length : Int) := by
      rw [wrap_id (by omega) (by omega)]; simp
    have hih := ih (A ++ [edgeP (x, x + 1)]) (x + 2) (by simp; omega) (by omega) (by omega)
    have ee : A ++ edgeP (x, x + 1) :: es.map edgeP = (A ++ [edgeP (x, x + 1)]) ++ es.map edgeP := by simp
    have p1 : (edgeP e).parts.set 0 (intP x) = [intP x, intP e.2] := rfl
    have p2 : (PV.agg [intP x, intP e.2]).parts.set 1 (intP (x + 1)) = [intP x, intP (x + 1)] := rfl
    have p3 : PV.agg [intP x, intP (x + 1)] = edgeP (x, x + 1) := rfl
    simp only [laws_markEdgeS.l1_eq, List.map_cons, mid_lt, elem_mid, set_mid, p1, p2, p3, w1, w2, w3, ee, decide_true, if_true, nn, nat_int]
    refine Ev2.ext hih ?_
    simp [mkE]; omega
theorem markE_ev (es : List Ed) (x : Int) (hl : es.length ≤ 1048576) (h0 : 0 ≤ x) (hx : x + 2 * es.length ≤ 4611686018427387904) :
    Ev (fun N => laws_markEdgeS.f N [edgesP es, intP x]) [intP (x + 2 * es.length), edgesP (mkE x es)] := by
  have h := markE_l1 es.length (by omega) es [] x (by simp) h0 hx
  simp only [List.nil_append, List.length_nil, Int.natCast_zero] at h
  have hg : Ev2 (fun N n => laws_markEdgeS.l0 N n x 0 (edgesP es)) [intP (x + 2 * es.length), edgesP (mkE x es)] := by
    refine Ev2.congr (g' := fun N n => laws_markEdgeS.l1 N n x 0 (es.map edgeP)) (fun N n => ?_) h
    cases n with
    | zero => rfl
    | succ n => rw [laws_markEdgeS.l0_eq, laws_markEdgeS.l1_eq]; rfl
  simp only [laws_markEdgeS.f_eq, strs_len, strs_elem, ints_len, ints_elem, items_list, fld_agg, elem_list, toStr_sc, toInt_sc, toBool_sc, headD_one, nat_int, get_bt, decide_eq_true_eq, decide_eq_false_iff_not, decide_true, decide_false, if_true, if_false, ite_self, Bool.not_true, Bool.not_false, Bool.false_eq_true, Bool.true_eq_false, Bool.true_and, Bool.false_and, Bool.and_true, Bool.and_false, not_true, not_false_iff, Option.bind_some, nn, toList_inj, Bool.not_eq_true', Bool.not_eq_false', Int.le_refl, and_self, true_and, and_true, false_and, and_false, bne_self_eq_false, beq_self_eq_true, Int.reduceEq, Nat.reduceEqDiff, List.length_singleton, List.tail_cons, Int.reduceLE, Int.reduceLT, decide_eq_true_eq]
  exact hg.diag
theorem markS_l1 (n0 : Nat) (hn0 : n0 ≤ 2097152) : ∀ (m : List St) (A : List PV) (x : Int), A.length + m.length = n0 → (∀ s ∈ m, s.2.length ≤ 1048576) → 0 ≤ x → x + cntM m ≤ 4611686018427387904 →
    Ev2 (fun N n => laws_markStateS.l1 N n x (A.length : Int) (A ++ m.map stP)) [intP (x + cntM m), PV.list (A ++ (mkS x m).map stP)] := by
  intro m
  induction m with
  | nil =>
    intro A x hA hs h0 hx
    refine Ev2.succ ?_
    have z : ¬ (A.length : Int) < ((A ++ ([] : List St).map stP).length : Int) := by simp
    simp only [laws_markStateS.l1_eq, z, strs_len, strs_elem, ints_len, ints_elem, items_list, fld_agg, elem_list, toStr_sc, toInt_sc, toBool_sc, headD_one, nat_int, get_bt, decide_eq_true_eq, decide_eq_false_iff_not, decide_true, decide_false, if_true, if_false, ite_self, Bool.not_true, Bool.not_false, Bool.false_eq_true, Bool.true_eq_false, Bool.true_and, Bool.false_and, Bool.and_true, Bool.and_false, not_true, not_false_iff, Option.bind_some, nn, toList_inj, Bool.not_eq_true', Bool.not_eq_false', Int.le_refl, and_self, true_and, and_true, false_and, and_false, bne_self_eq_false, beq_self_eq_true, Int.reduceEq, Nat.reduceEqDiff, List.length_singleton, List.tail_cons, Int.reduceLE, Int.reduceLT, decide_eq_true_eq]
    refine Ev2.ext (Ev2.now _) ?_
    simp [mkS, cntM]
  | cons s m ih =>
    intro A x hA hs h0 hx
    refine Ev2.succ ?_
    simp only [List.length_cons] at hA
    simp only [cntM] at hx
    have hsl := hs s (by simp)
    have w1 : IntKind.i64.wrap (x + 1) = x + 1 := wrap_id (by omega) (by omega)
    have w3 : IntKind.i64.wrap ((A.length : Int) + 1) = ((A ++ [stP (decide (Int.tmod x 3 = 0), mkE (x + 1) s.2)]).length : Int) := by
      rw [wrap_id (by omega) (by omega)]; simp
    have hih := ih (A ++ [stP (decide (Int.tmod x 3 = 0), mkE (x + 1) s.2)]) (x + 1 + 2 * s.2.length) (by simp; omega) (fun t ht => hs t (by simp [ht])) (by omega) (by omega)
    have ee : A ++ stP (decide (Int.tmod x 3 = 0), mkE (x + 1) s.2) :: m.map stP = (A ++ [stP (decide (Int.tmod x 3 = 0), mkE (x + 1) s.2)]) ++ m.map stP := by simp
    have p1 : (stP s).parts.set 0 (boolP (decide (Int.tmod x 3 = 0))) = [boolP (decide (Int.tmod x 3 = 0)), edgesP s.2] := rfl
    have p0 : (PV.agg [boolP (decide (Int.tmod x 3 = 0)), edgesP s.2]).fld 1 = edgesP s.2 := rfl
    have p2 : ∀ q, (PV.agg [boolP (decide (Int.tmod x 3 = 0)), edgesP s.2]).parts.set 1 q = [boolP (decide (Int.tmod x 3 = 0)), q] := fun _ => rfl
    have p3 : ∀ l, PV.agg [boolP (decide (Int.tmod x 3 = 0)), edgesP l] = stP (decide (Int.tmod x 3 = 0), l) := fun _ => rfl
    simp only [laws_markStateS.l1_eq, List.map_cons, mid_lt, elem_mid, set_mid, three_zero, p1, p0, p2, w1, w3, decide_true, if_true, if_false, nn, nat_int]
    refine Ev2.bind (markE_ev s.2 (x + 1) hsl (by omega) (by omega)) ?_
    simp only [headD_one, List.tail_cons, toInt_sc, p3, ee]
    refine Ev2.ext hih ?_
    simp [mkS, cntM]; omega
theorem markS_ev (m : List St) (x : Int) (hm : MachB m) (h0 : 0 ≤ x) (hx : x + cntM m ≤ 4611686018427387904) :
    Ev (fun N => laws_markStateS.f N [machP m, intP x]) [intP (x + cntM m), machP (mkS x m)] := by
  have h := markS_l1 m.length (by have := hm.n; omega) m [] x (by simp) hm.e h0 hx
  simp only [List.nil_append, List.length_nil, Int.natCast_zero] at h
  have hg : Ev2 (fun N n => laws_markStateS.l0 N n x 0 (machP m)) [intP (x + cntM m), machP (mkS x m)] := by
    refine Ev2.congr (g' := fun N n => laws_markStateS.l1 N n x 0 (m.map stP)) (fun N n => ?_) h
    cases n with
    | zero => rfl
    | succ n => rw [laws_markStateS.l0_eq, laws_markStateS.l1_eq]; rfl
  simp only [laws_markStateS.f_eq, strs_len, strs_elem, ints_len, ints_elem, items_list, fld_agg, elem_list, toStr_sc, toInt_sc, toBool_sc, headD_one, nat_int, get_bt, decide_eq_true_eq, decide_eq_false_iff_not, decide_true, decide_false, if_true, if_false, ite_self, Bool.not_true, Bool.not_false, Bool.false_eq_true, Bool.true_eq_false, Bool.true_and, Bool.false_and, Bool.and_true, Bool.and_false, not_true, not_false_iff, Option.bind_some, nn, toList_inj, Bool.not_eq_true', Bool.not_eq_false', Int.le_refl, and_self, true_and, and_true, false_and, and_false, bne_self_eq_false, beq_self_eq_true, Int.reduceEq, Nat.reduceEqDiff, List.length_singleton, List.tail_cons, Int.reduceLE, Int.reduceLT, decide_eq_true_eq]
  exact hg.diag
theorem cntM_le (m : List St) (hm : MachB m) : (cntM m : Int) ≤ 2199025352704 := by
  have key : ∀ (l : List St), (∀ s ∈ l, s.2.length ≤ 1048576) → cntM l ≤ l.length * 2097153 := by
    intro l
    induction l with
    | nil => intro _; simp [cntM]
    | cons s l ih =>
      intro h
      have h1 := h s (by simp)
      have h2 := ih (fun t ht => h t (by simp [ht]))
      simp only [cntM, List.length_cons]; omega
  have h1 := key m hm.e
  have h2 := hm.n
  have : m.length * 2097153 ≤ 1048576 * 2097153 := Nat.mul_le_mul_right _ h2
  omega
theorem okM_sts {m : List St} (h : okM m = true) : 1 ≤ m.length ∧ m.length ≤ 400 ∧ stsOk m.length 0 m = true ∧ (depL 0 m).getD 0 0 ≤ 12 := by
  simp only [okM, Bool.and_eq_true, decide_eq_true_eq] at h
  exact ⟨h.1.1, h.1.2, h.2.1, h.2.2⟩
def allM (m : List St) (most : Int) : List ByteArray × Bool :=
  if okM m = true ∧ (m.headD (false, [])).1 = false ∧ (0 ≤ most ∧ most ≤ 300) ∧ ((WM m 0).length : Int) ≤ most then (aheadT ⟨#[]⟩ (WM m 0), true) else ([], false)
theorem mach_head {m : List St} {s : St} {r : List St} (h : m = s :: r) : (machP m).elem 0 = stP s := by subst h; rfl
theorem ints_at0 (l : List Int) : ((intsP l).elem 0).toInt = l.getD 0 0 := ints_elem l 0
theorem allM_len (m : List St) (most : Int) : (allM m most).1.length ≤ 300 := by
  unfold allM
  split
  · rename_i h; simp [aheadT]; omega
  · simp
/-! #### where a text leads -/
def stepE (c : Int) : List Ed → Int
  | [] => -1
  | e :: es => if e.1 = c then e.2 else stepE c es
def lastE (c : Int) : List Ed → Int → Int
  | [], x => x
  | e :: es, x => lastE c es (if e.1 = c then e.2 else x)
def edAt (m : List St) (a : Nat) : List Ed := (m.getD a (false, [])).2
def goM (m : List St) : Int → List Int → Int
  | a, [] => a
  | a, c :: u => if stepE c (edAt m a.toNat) < 0 then -1 else goM m (stepE c (edAt m a.toNat)) u
theorem edAt_eq {m pre rest : List St} {s : St} (hp : m = pre ++ s :: rest) : edAt m pre.length = s.2 := by
  subst hp; simp [edAt, List.getD_eq_getElem?_getD]
theorem edgesOk_gt {n i : Nat} : ∀ {es : List Ed} {q : Int}, edgesOk n i (some q) es = true → ∀ e ∈ es, q < e.1
  | [], _, _, e, he => absurd he (by simp)
  | c :: es, q, h, e, he => by
    simp only [edgesOk, edgeOk, Bool.and_eq_true, decide_eq_true_eq] at h
    rcases List.mem_cons.1 he with rfl | he
    · exact h.1.2.2
    · have := edgesOk_gt h.2 e he
      omega
theorem lastE_not {c : Int} : ∀ {es : List Ed} {x : Int}, (∀ e ∈ es, e.1 ≠ c) → lastE c es x = x
  | [], _, _ => rfl
  | e :: es, x, h => by
    rw [lastE, if_neg (h e (by simp))]
    exact lastE_not (fun e' he => h e' (by simp [he]))
theorem last_step {n i : Nat} {c : Int} : ∀ {es : List Ed} {p : Option Int}, edgesOk n i p es = true → lastE c es (-1) = stepE c es
  | [], _, _ => rfl
  | e :: es, p, h => by
    simp only [edgesOk, Bool.and_eq_true] at h
    rw [lastE, stepE]
    by_cases he : e.1 = c
    · rw [if_pos he, if_pos he]
      exact lastE_not (fun e' h' => by have := edgesOk_gt h.2 e' h'; omega)
    · rw [if_neg he, if_neg he]
      exact last_step h.2
theorem stepE_mem {c : Int} : ∀ {es : List Ed}, stepE c es = -1 ∨ ∃ e ∈ es, e.1 = c ∧ stepE c es = e.2
  | [] => .inl rfl
  | e :: es => by
    rw [stepE]
    by_cases he : e.1 = c
    · rw [if_pos he]; exact .inr ⟨e, by simp, he, rfl⟩
    · rw [if_neg he]
      rcases stepE_mem (c := c) (es := es) with h | ⟨e', h1, h2, h3⟩
      · exact .inl h
      · exact .inr ⟨e', by simp [h1], h2, h3⟩
theorem byte_wrap {c : Int} (h : 0 ≤ c ∧ c ≤ 255) : IntKind.i64.wrap c = c := wrap_id (by omega) (by omega)
theorem bytesOf_rng {s : ByteArray} : ∀ c ∈ bytesOf s, 0 ≤ c ∧ c ≤ 255 := fun c hc => by
  unfold bytesOf at hc
  obtain ⟨b, _, rfl⟩ := List.mem_map.1 hc
  have := b.toNat_lt
  omega
/-- Where a text leads is a state. -/
theorem goM_in (m : List St) (hok : stsOk m.length 0 m = true) : ∀ (u : List Int) (a : Nat), a < m.length → goM m a u = -1 ∨ ∃ t : Nat, t < m.length ∧ goM m a u = t
  | [], a, h => .inr ⟨a, h, rfl⟩
  | c :: u, a, h => by
    obtain ⟨mp, st, mr, hmp, rfl⟩ := split_at m a h
    rw [goM, nat_int, edAt_eq hmp]
    by_cases hx : stepE c st.2 < 0
    · rw [if_pos hx]; exact .inl rfl
    · rw [if_neg hx]
      obtain ⟨e, he, _, h2⟩ := (stepE_mem (c := c) (es := st.2)).resolve_left (fun hy => hx (by omega))
      obtain ⟨_, h3, h4⟩ := sts_edges hok hmp e he
      obtain ⟨t, ht⟩ := Int.eq_ofNat_of_zero_le (show 0 ≤ e.2 by omega)
      rw [h2, ht]
      exact goM_in m hok u t (by omega)
/-! Prefixes. -/
def bgM (m : List St) (ah : ByteArray) (most : Int) : List ByteArray :=
  if okM m = true ∧ (0 ≤ most ∧ most ≤ 40) ∧ ¬ goM m 0 (bytesOf ah) < 0 then (aheadT ah (WM m (goM m 0 (bytesOf ah)).toNat)).take most.toNat else []
theorem bgM_len (m : List St) (ah : ByteArray) (most : Int) : (bgM m ah most).length ≤ 40 := by
  unfold bgM
  split
  · rename_i h; rw [List.length_take]; omega
  · simp
theorem strsP_nil : strsP [] = PV.list [] := rfl
/-! #### machines read from bytes: the program's way -/
def isB (l : List Int) : Prop := ∀ c ∈ l, 0 ≤ c ∧ c ≤ 255
theorem isB_tail {c : Int} {l : List Int} (h : isB (c :: l)) : isB l := fun x hx => h x (by simp [hx])
def rdB (st : List Int × Bool) : Int × (List Int × Bool) := match st.1 with
  | [] => (0, ([], true))
  | c :: r => (c, (r, st.2))
def rdN (st : List Int × Bool) : Int × (List Int × Bool) :=
  if 128 ≤ (rdB st).1 then ((rdB st).1 + 128 * (rdB (rdB st).2).1 - 128, (rdB (rdB st).2).2) else ((rdB st).1, (rdB st).2)
def rdE (k : Int) : Nat → List Int × Bool → List Ed × (List Int × Bool)
  | 0, st => ([], st)
  | c + 1, st => if st.2 = true then ([], st) else (((rdB st).1, k + (rdN (rdB st).2).1) :: (rdE k c (rdN (rdB st).2).2).1, (rdE k c (rdN (rdB st).2).2).2)
def rdS : Nat → Nat → List Int × Bool → List St × (List Int × Bool)
  | _, 0, st => ([], st)
  | k, c + 1, st => if st.2 = true then ([], st) else if 400 ≤ k then ([], st) else
    ((decide ((rdN st).1 % 2 = 1), (rdE k ((rdN st).1 / 2).toNat (rdN st).2).1) :: (rdS (k + 1) c (rdE k ((rdN st).1 / 2).toNat (rdN st).2).2).1, (rdS (k + 1) c (rdE k ((rdN st).1 / 2).toNat (rdN st).2).2).2)
/-- A rest of a text. -/
def Suf (s : ByteArray) (l : List Int) : Prop := ∃ pre, bytesOf s = pre ++ l
theorem Suf.isB {s : ByteArray} {l : List Int} (h : Suf s l) : isB l := by
  obtain ⟨pre, h⟩ := h
  exact fun c hc => bytesOf_rng c (by rw [h]; simp [hc])
theorem rdB_suf {s : ByteArray} {st : List Int × Bool} (h : Suf s st.1) : Suf s (rdB st).2.1 ∧ 0 ≤ (rdB st).1 ∧ (rdB st).1 ≤ 255 := by
  obtain ⟨l, b⟩ := st
  cases l with
  | nil => exact ⟨h, by simp [rdB], by simp [rdB]⟩
  | cons c r =>
    have hb := h.isB c (by simp)
    obtain ⟨pre, h⟩ := h
    exact ⟨⟨pre ++ [c], by simp [rdB, h]⟩, hb⟩
theorem rdN_suf {s : ByteArray} {st : List Int × Bool} (h : Suf s st.1) : Suf s (rdN st).2.1 ∧ 0 ≤ (rdN st).1 ∧ (rdN st).1 ≤ 32895 := by
  obtain ⟨h1, h2, h3⟩ := rdB_suf h
  unfold rdN
  split
  · obtain ⟨h4, h5, h6⟩ := rdB_suf h1
    exact ⟨h4, by simp only []; omega, by simp only []; omega⟩
  · exact ⟨h1, h2, by simp only []; omega⟩
theorem rdE_suf {s : ByteArray} (k : Int) : ∀ (c : Nat) {st : List Int × Bool}, Suf s st.1 → Suf s (rdE k c st).2.1 ∧ (rdE k c st).1.length ≤ c
  | 0, st, h => ⟨h, by simp [rdE]⟩
  | c + 1, st, h => by
    unfold rdE
    split
    · exact ⟨h, by simp⟩
    · have := rdE_suf k c (rdN_suf (rdB_suf h).1).1
      exact ⟨this.1, by simp only [List.length_cons]; omega⟩
def scP (s : ByteArray) (st : List Int × Bool) : PV := .agg [strP s, intP ((s.size : Int) - (st.1.length : Int)), boolP st.2]
theorem scP_f0 (s : ByteArray) (st : List Int × Bool) : (scP s st).fld 0 = strP s := rfl
theorem scP_f1 (s : ByteArray) (st : List Int × Bool) : (scP s st).fld 1 = intP ((s.size : Int) - (st.1.length : Int)) := rfl
theorem scP_f2 (s : ByteArray) (st : List Int × Bool) : (scP s st).fld 2 = boolP st.2 := rfl
theorem scP_agg (s : ByteArray) (st : List Int × Bool) : PV.agg [PV.sc (.string s), PV.sc (.int .i64 ((s.size : Int) - (st.1.length : Int))), PV.sc (.bool st.2)] = scP s st := rfl
theorem byte_val (s : ByteArray) (hs : s.size ≤ 1048576) (st : List Int × Bool) (h : Suf s st.1) (N : Nat) : impl_scanner_byte.f N [scP s st] = some [intP (rdB st).1, scP s (rdB st).2] := by
  obtain ⟨l, b⟩ := st
  obtain ⟨pre, hp⟩ := h
  have hl : pre.length + l.length = s.size := by rw [← bytesOf_len, hp]; simp
  simp only [impl_scanner_byte.f_eq, scP_f0, scP_f1, scP_f2, strs_len, strs_elem, ints_len, ints_elem, items_list, fld_agg, elem_list, toStr_sc, toInt_sc, toBool_sc, headD_one, nat_int, get_bt, decide_eq_true_eq, decide_eq_false_iff_not, decide_true, decide_false, if_true, if_false, ite_self, Bool.not_true, Bool.not_false, Bool.false_eq_true, Bool.true_eq_false, Bool.true_and, Bool.false_and, Bool.and_true, Bool.and_false, not_true, not_false_iff, Option.bind_some, nn, toList_inj, Bool.not_eq_true', Bool.not_eq_false', Int.le_refl, and_self, true_and, and_true, false_and, and_false, bne_self_eq_false, beq_self_eq_true, Int.reduceEq, Nat.reduceEqDiff, List.length_singleton, List.tail_cons, Int.reduceLE, Int.reduceLT, decide_eq_true_eq]
  cases l with
  | nil =>
    have z : (s.size : Int) ≤ (s.size : Int) - ((([] : List Int).length : Nat) : Int) := by simp
    simp only [z, strs_len, strs_elem, ints_len, ints_elem, items_list, fld_agg, elem_list, toStr_sc, toInt_sc, toBool_sc, headD_one, nat_int, get_bt, decide_eq_true_eq, decide_eq_false_iff_not, decide_true, decide_false, if_true, if_false, ite_self, Bool.not_true, Bool.not_false, Bool.false_eq_true, Bool.true_eq_false, Bool.true_and, Bool.false_and, Bool.and_true, Bool.and_false, not_true, not_false_iff, Option.bind_some, nn, toList_inj, Bool.not_eq_true', Bool.not_eq_false', Int.le_refl, and_self, true_and, and_true, false_and, and_false, bne_self_eq_false, beq_self_eq_true, Int.reduceEq, Nat.reduceEqDiff, List.length_singleton, List.tail_cons, Int.reduceLE, Int.reduceLT, decide_eq_true_eq]; rfl
  | cons c r =>
    simp only [List.length_cons] at hl
    have z : ¬ (s.size : Int) ≤ (s.size : Int) - (((c :: r).length : Nat) : Int) := by simp only [List.length_cons]; omega
    have hc := bytesOf_rng c (by rw [hp]; simp)
    have w1 : IntKind.i64.wrap ((s.size : Int) - (((c :: r).length : Nat) : Int) + 1) = (pre.length : Int) + 1 := by rw [wrap_id] <;> simp only [List.length_cons] <;> omega
    have w2 : IntKind.i64.wrap ((pre.length : Int) + 1 - 1) = (pre.length : Int) := by rw [wrap_id] <;> omega
    have w3 : (pre.length : Int) + 1 = (s.size : Int) - (r.length : Int) := by omega
    have w4 := byte_wrap hc
    simp only [z, w1, w2, at_size hp, nat_int, get_bt, at_bt hp, w4, strs_len, strs_elem, ints_len, ints_elem, items_list, fld_agg, elem_list, toStr_sc, toInt_sc, toBool_sc, headD_one, nat_int, get_bt, decide_eq_true_eq, decide_eq_false_iff_not, decide_true, decide_false, if_true, if_false, ite_self, Bool.not_true, Bool.not_false, Bool.false_eq_true, Bool.true_eq_false, Bool.true_and, Bool.false_and, Bool.and_true, Bool.and_false, not_true, not_false_iff, Option.bind_some, nn, toList_inj, Bool.not_eq_true', Bool.not_eq_false', Int.le_refl, and_self, true_and, and_true, false_and, and_false, bne_self_eq_false, beq_self_eq_true, Int.reduceEq, Nat.reduceEqDiff, List.length_singleton, List.tail_cons, Int.reduceLE, Int.reduceLT, decide_eq_true_eq]
    rw [w3]; rfl
theorem number_val (s : ByteArray) (hs : s.size ≤ 1048576) (st : List Int × Bool) (h : Suf s st.1) (N : Nat) : impl_scanner_number.f N [scP s st] = some [intP (rdN st).1, scP s (rdN st).2] := by
  obtain ⟨h1, h2, h3⟩ := rdB_suf h
  obtain ⟨h4, h5, h6⟩ := rdB_suf h1
  unfold rdN
  simp only [impl_scanner_number.f_eq, scP_f0, scP_f1, scP_f2, scP_agg, toStr_sc, toInt_sc, toBool_sc, byte_val s hs st h, Option.bind_some, headD_one, List.tail_cons]
  by_cases hb : 128 ≤ (rdB st).1
  · have w1 : IntKind.i64.wrap (128 * (rdB (rdB st).2).1) = 128 * (rdB (rdB st).2).1 := wrap_id (by omega) (by omega)
    have w2 : IntKind.i64.wrap (128 * (rdB (rdB st).2).1 - 128) = 128 * (rdB (rdB st).2).1 - 128 := wrap_id (by omega) (by omega)
    have w3 : IntKind.i64.wrap ((rdB st).1 + (128 * (rdB (rdB st).2).1 - 128)) = (rdB st).1 + 128 * (rdB (rdB st).2).1 - 128 := by rw [wrap_id] <;> omega
    simp only [hb, byte_val s hs _ h1, w1, w2, w3, scP_f0, scP_f1, scP_f2, scP_agg, strs_len, strs_elem, ints_len, ints_elem, items_list, fld_agg, elem_list, toStr_sc, toInt_sc, toBool_sc, headD_one, nat_int, get_bt, decide_eq_true_eq, decide_eq_false_iff_not, decide_true, decide_false, if_true, if_false, ite_self, Bool.not_true, Bool.not_false, Bool.false_eq_true, Bool.true_eq_false, Bool.true_and, Bool.false_and, Bool.and_true, Bool.and_false, not_true, not_false_iff, Option.bind_some, nn, toList_inj, Bool.not_eq_true', Bool.not_eq_false', Int.le_refl, and_self, true_and, and_true, false_and, and_false, bne_self_eq_false, beq_self_eq_true, Int.reduceEq, Nat.reduceEqDiff, List.length_singleton, List.tail_cons, Int.reduceLE, Int.reduceLT, decide_eq_true_eq, headD_one, List.tail_cons]
  · simp only [hb, scP_f0, scP_f1, scP_f2, scP_agg, strs_len, strs_elem, ints_len, ints_elem, items_list, fld_agg, elem_list, toStr_sc, toInt_sc, toBool_sc, headD_one, nat_int, get_bt, decide_eq_true_eq, decide_eq_false_iff_not, decide_true, decide_false, if_true, if_false, ite_self, Bool.not_true, Bool.not_false, Bool.false_eq_true, Bool.true_eq_false, Bool.true_and, Bool.false_and, Bool.and_true, Bool.and_false, not_true, not_false_iff, Option.bind_some, nn, toList_inj, Bool.not_eq_true', Bool.not_eq_false', Int.le_refl, and_self, true_and, and_true, false_and, and_false, bne_self_eq_false, beq_self_eq_true, Int.reduceEq, Nat.reduceEqDiff, List.length_singleton, List.tail_cons, Int.reduceLE, Int.reduceLT, decide_eq_true_eq, headD_one, List.tail_cons]
def finM (s : ByteArray) (m : List St) (bad : Bool) : List St × Bool := if bad = false ∧ s ≠ ⟨#[]⟩ ∧ putT m = s then (m, true) else ([], false)
def getM (s : ByteArray) : List St × Bool :=
  finM s (rdS 0 (rdN (bytesOf s, false)).1.toNat (rdN (bytesOf s, false)).2).1 (rdS 0 (rdN (bytesOf s, false)).1.toNat (rdN (bytesOf s, false)).2).2.2
theorem two_zero : ((2 : Int) = 0) = False := by simp
theorem machP_nil : machP [] = PV.list [] := rfl
theorem get_fin (s : ByteArray) (m : List St) (hm : MachB m) (bad : Bool) : Ev (fun N => if bad = false then (if decide (s.toList = (ByteArray.mk #[]).toList) = false then ((impl_MachinePut.f N [PV.list (m.map stP)]).bind fun t3 => if (!decide (((t3.headD default).toStr).toList = s.toList)) = true then (some [(PV.list []), (PV.sc (.bool false))]) else (some [(PV.list (m.map stP)), (PV.sc (.bool true))])) else (some [(PV.list []), (PV.sc (.bool false))])) else (some [(PV.list []), (PV.sc (.bool false))])) [machP (finM s m bad).1, boolP (finM s m bad).2] := by
  unfold finM
  cases bad with
  | true => simp only [machP_nil, strs_len, strs_elem, ints_len, ints_elem, items_list, fld_agg, elem_list, toStr_sc, toInt_sc, toBool_sc, headD_one, nat_int, get_bt, decide_eq_true_eq, decide_eq_false_iff_not, decide_true, decide_false, if_true, if_false, ite_self, Bool.not_true, Bool.not_false, Bool.false_eq_true, Bool.true_eq_false, Bool.true_and, Bool.false_and, Bool.and_true, Bool.and_false, not_true, not_false_iff, Option.bind_some, nn, toList_inj, Bool.not_eq_true', Bool.not_eq_false', Int.le_refl, and_self, true_and, and_true, false_and, and_false, bne_self_eq_false, beq_self_eq_true, Int.reduceEq, Nat.reduceEqDiff, List.length_singleton, List.tail_cons, Int.reduceLE, Int.reduceLT, decide_eq_true_eq]; exact Ev.now _
  | false =>
    by_cases hs : s = ⟨#[]⟩
    · simp only [hs, ne_eq, machP_nil, strs_len, strs_elem, ints_len, ints_elem, items_list, fld_agg, elem_list, toStr_sc, toInt_sc, toBool_sc, headD_one, nat_int, get_bt, decide_eq_true_eq, decide_eq_false_iff_not, decide_true, decide_false, if_true, if_false, ite_self, Bool.not_true, Bool.not_false, Bool.false_eq_true, Bool.true_eq_false, Bool.true_and, Bool.false_and, Bool.and_true, Bool.and_false, not_true, not_false_iff, Option.bind_some, nn, toList_inj, Bool.not_eq_true', Bool.not_eq_false', Int.le_refl, and_self, true_and, and_true, false_and, and_false, bne_self_eq_false, beq_self_eq_true, Int.reduceEq, Nat.reduceEqDiff, List.length_singleton, List.tail_cons, Int.reduceLE, Int.reduceLT, decide_eq_true_eq]; exact Ev.now _
    · simp only [hs, ne_eq, strs_len, strs_elem, ints_len, ints_elem, items_list, fld_agg, elem_list, toStr_sc, toInt_sc, toBool_sc, headD_one, nat_int, get_bt, decide_eq_true_eq, decide_eq_false_iff_not, decide_true, decide_false, if_true, if_false, ite_self, Bool.not_true, Bool.not_false, Bool.false_eq_true, Bool.true_eq_false, Bool.true_and, Bool.false_and, Bool.and_true, Bool.and_false, not_true, not_false_iff, Option.bind_some, nn, toList_inj, Bool.not_eq_true', Bool.not_eq_false', Int.le_refl, and_self, true_and, and_true, false_and, and_false, bne_self_eq_false, beq_self_eq_true, Int.reduceEq, Nat.reduceEqDiff, List.length_singleton, List.tail_cons, Int.reduceLE, Int.reduceLT, decide_eq_true_eq]
      have hput := implPut_ev m hm
      simp only [machP] at hput
      refine Ev.bind hput ?_
      by_cases he : putT m = s
      · simp only [he, strs_len, strs_elem, ints_len, ints_elem, items_list, fld_agg, elem_list, toStr_sc, toInt_sc, toBool_sc, headD_one, nat_int, get_bt, decide_eq_true_eq, decide_eq_false_iff_not, decide_true, decide_false, if_true, if_false, ite_self, Bool.not_true, Bool.not_false, Bool.false_eq_true, Bool.true_eq_false, Bool.true_and, Bool.false_and, Bool.and_true, Bool.and_false, not_true, not_false_iff, Option.bind_some, nn, toList_inj, Bool.not_eq_true', Bool.not_eq_false', Int.le_refl, and_self, true_and, and_true, false_and, and_false, bne_self_eq_false, beq_self_eq_true, Int.reduceEq, Nat.reduceEqDiff, List.length_singleton, List.tail_cons, Int.reduceLE, Int.reduceLT, decide_eq_true_eq]; exact Ev.now _
      · simp only [he, machP_nil, strs_len, strs_elem, ints_len, ints_elem, items_list, fld_agg, elem_list, toStr_sc, toInt_sc, toBool_sc, headD_one, nat_int, get_bt, decide_eq_true_eq, decide_eq_false_iff_not, decide_true, decide_false, if_true, if_false, ite_self, Bool.not_true, Bool.not_false, Bool.false_eq_true, Bool.true_eq_false, Bool.true_and, Bool.false_and, Bool.and_true, Bool.and_false, not_true, not_false_iff, Option.bind_some, nn, toList_inj, Bool.not_eq_true', Bool.not_eq_false', Int.le_refl, and_self, true_and, and_true, false_and, and_false, bne_self_eq_false, beq_self_eq_true, Int.reduceEq, Nat.reduceEqDiff, List.length_singleton, List.tail_cons, Int.reduceLE, Int.reduceLT, decide_eq_true_eq]; exact Ev.now _
theorem get_l1 (s : ByteArray) (hs : s.size ≤ 1048576) (many : Int) (k : Nat) (hk : k < 400) (n : Int) (hn : 0 ≤ n ∧ n ≤ 32895) (m : List St) (hm : m.length ≤ 400) (ends : Bool) (R : List PV) :
    ∀ (c : Nat) (st : List Int × Bool) (es : List Ed), Suf s st.1 → es.length + c = (n / 2).toNat →
    (Ev2 (fun N j => impl_MachineGet.l0 N j s many ((k : Int) + 1) s ((s.size : Int) - ((rdE k c st).2.1.length : Int)) (rdE k c st).2.2 ((m ++ [(ends, es ++ (rdE k c st).1)]).map stP)) R) →
    Ev3 (fun N m0 j => impl_MachineGet.l1 N m0 j s many (k : Int) n (es.length : Int) s ((s.size : Int) - (st.1.length : Int)) st.2 (m.map stP) ends (es.map edgeP)) R := by
  have hdiv : IntKind.i64.wrap (Int.tdiv n 2) = n / 2 := by
    rw [Int.tdiv_eq_ediv_of_nonneg hn.1]; exact wrap_id (by omega) (by omega)
  have wk : IntKind.i64.wrap ((k : Int) + 1) = (k : Int) + 1 := wrap_id (by omega) (by omega)
  have done : ∀ (st : List Int × Bool) (es : List Ed), (Ev2 (fun N j => impl_MachineGet.l0 N j s many ((k : Int) + 1) s ((s.size : Int) - (st.1.length : Int)) st.2 ((m ++ [(ends, es)]).map stP)) R) →
      Ev3 (fun N m0 j => impl_MachineGet.l0 N m0 s many ((k : Int) + 1) s ((s.size : Int) - (st.1.length : Int)) st.2 (m.map stP ++ [stP (ends, es)])) R := fun st es h => by
    have := h.outer
    simpa using this
  intro c
  induction c with
  | zero =>
    intro st es hsuf hc hR
    refine Ev3.succ ?_
    have z : ¬ (es.length : Int) < n / 2 := by omega
    have c1 : (m.map stP).length + 1 ≤ 4398046511104 := by simp; omega
    have e1 : PV.agg [PV.sc (.bool ends), PV.list (es.map edgeP)] = stP (ends, es) := rfl
    simp only [impl_MachineGet.l1_eq, two_zero, hdiv, z, e1, c1, wk, strs_len, strs_elem, ints_len, ints_elem, items_list, fld_agg, elem_list, toStr_sc, toInt_sc, toBool_sc, headD_one, nat_int, get_bt, decide_eq_true_eq, decide_eq_false_iff_not, decide_true, decide_false, if_true, if_false, ite_self, Bool.not_true, Bool.not_false, Bool.false_eq_true, Bool.true_eq_false, Bool.true_and, Bool.false_and, Bool.and_true, Bool.and_false, not_true, not_false_iff, Option.bind_some, nn, toList_inj, Bool.not_eq_true', Bool.not_eq_false', Int.le_refl, and_self, true_and, and_true, false_and, and_false, bne_self_eq_false, beq_self_eq_true, Int.reduceEq, Nat.reduceEqDiff, List.length_singleton, List.tail_cons, Int.reduceLE, Int.reduceLT, decide_eq_true_eq]
    simp only [rdE, List.append_nil] at hR
    exact done st es hR
  | succ c ih =>
    intro st es hsuf hc hR
    refine Ev3.succ ?_
    have z : (es.length : Int) < n / 2 := by omega
    have c1 : (m.map stP).length + 1 ≤ 4398046511104 := by simp; omega
    have e1 : PV.agg [PV.sc (.bool ends), PV.list (es.map edgeP)] = stP (ends, es) := rfl
    rw [rdE] at hR
    by_cases hb : st.2 = true
    · rw [if_pos hb] at hR
      simp only [List.append_nil] at hR
      simp only [impl_MachineGet.l1_eq, two_zero, hdiv, z, hb, e1, c1, wk, strs_len, strs_elem, ints_len, ints_elem, items_list, fld_agg, elem_list, toStr_sc, toInt_sc, toBool_sc, headD_one, nat_int, get_bt, decide_eq_true_eq, decide_eq_false_iff_not, decide_true, decide_false, if_true, if_false, ite_self, Bool.not_true, Bool.not_false, Bool.false_eq_true, Bool.true_eq_false, Bool.true_and, Bool.false_and, Bool.and_true, Bool.and_false, not_true, not_false_iff, Option.bind_some, nn, toList_inj, Bool.not_eq_true', Bool.not_eq_false', Int.le_refl, and_self, true_and, and_true, false_and, and_false, bne_self_eq_false, beq_self_eq_true, Int.reduceEq, Nat.reduceEqDiff, List.length_singleton, List.tail_cons, Int.reduceLE, Int.reduceLT, decide_eq_true_eq]
      have := done st es hR
      rw [hb] at this
      exact this
    · have hb' : st.2 = false := by simpa using hb
      rw [if_neg hb] at hR
      obtain ⟨g1, g2, g3⟩ := rdB_suf hsuf
      obtain ⟨g4, g5, g6⟩ := rdN_suf g1
      have wt : IntKind.i64.wrap ((k : Int) + (rdN (rdB st).2).1) = (k : Int) + (rdN (rdB st).2).1 := wrap_id (by omega) (by omega)
      have wj : IntKind.i64.wrap ((es.length : Int) + 1) = ((es ++ [((rdB st).1, (k : Int) + (rdN (rdB st).2).1)]).length : Int) := by rw [wrap_id (by omega) (by omega)]; simp
      have c2 : (es.map edgeP).length + 1 ≤ 8796093022208 := by simp; omega
      have e2 : es.map edgeP ++ [edgeP ((rdB st).1, (k : Int) + (rdN (rdB st).2).1)] = (es ++ [((rdB st).1, (k : Int) + (rdN (rdB st).2).1)]).map edgeP := by simp
      have e3 : PV.agg [PV.sc (.int .i64 (rdB st).1), PV.sc (.int .i64 ((k : Int) + (rdN (rdB st).2).1))] = edgeP ((rdB st).1, (k : Int) + (rdN (rdB st).2).1) := rfl
      have hsc : PV.agg [PV.sc (.string s), PV.sc (.int .i64 ((s.size : Int) - (st.1.length : Int))), PV.sc (.bool false)] = scP s st := by rw [← hb']; rfl
      have hih := ih (rdN (rdB st).2).2 (es ++ [((rdB st).1, (k : Int) + (rdN (rdB st).2).1)]) g4 (by simp; omega) (by simpa using hR)
      simp only [impl_MachineGet.l1_eq, two_zero, hdiv, z, hb', Bool.not_false, if_true, if_false, decide_true, hsc, byte_val s hs st hsuf, number_val s hs _ g1, Option.bind_some, headD_one, List.tail_cons, toInt_sc, toStr_sc, toBool_sc, scP_f0, scP_f1, scP_f2, scP_agg, wt, wj, e3, List.length_singleton, c2, e2]
      exact hih
theorem get_l0 (s : ByteArray) (hs : s.size ≤ 1048576) (many : Int) (hmany : 0 ≤ many ∧ many ≤ 32895) : ∀ (c : Nat) (k : Nat) (st : List Int × Bool) (m : List St), Suf s st.1 → k + c = many.toNat → k ≤ 400 → MachB m → m.length ≤ k →
    Ev2 (fun N j => impl_MachineGet.l0 N j s many (k : Int) s ((s.size : Int) - (st.1.length : Int)) st.2 (m.map stP)) [machP (finM s (m ++ (rdS k c st).1) (rdS k c st).2.2).1, boolP (finM s (m ++ (rdS k c st).1) (rdS k c st).2.2).2] := by
  intro c
  induction c with
  | zero =>
    intro k st m hsuf hc hk hm hml
    refine Ev2.succ ?_
    have z : ¬ (k : Int) < many := by omega
    simp only [impl_MachineGet.l0_eq, z, rdS, List.append_nil, decide_false, Bool.false_eq_true, if_false]
    exact (get_fin s m hm st.2).up
  | succ c ih =>
    intro k st m hsuf hc hk hm hml
    refine Ev2.succ ?_
    have z : (k : Int) < many := by omega
    rw [rdS]
    by_cases hb : st.2 = true
    · rw [if_pos hb]
      have hf := get_fin s m hm st.2
      rw [hb] at hf
      simp only [impl_MachineGet.l0_eq, z, hb, List.append_nil, Bool.not_true, Bool.false_eq_true, if_false, decide_true, if_true]
      exact hf.up
    · have hb' : st.2 = false := by simpa using hb
      rw [if_neg hb]
      by_cases hk4 : 400 ≤ k
      · rw [if_pos hk4]
        have z4 : ¬ (k : Int) < 400 := by omega
        have hf := get_fin s m hm st.2
        rw [hb'] at hf
        simp only [impl_MachineGet.l0_eq, z, z4, hb', List.append_nil, Bool.not_false, Bool.false_eq_true, decide_false, if_false, decide_true, if_true]
        exact hf.up
      · rw [if_neg hk4]
        have z4 : (k : Int) < 400 := by omega
        obtain ⟨g1, g2, g3⟩ := rdN_suf hsuf
        have g4 := rdE_suf k ((rdN st).1 / 2).toNat g1
        have hmod : Int.tmod (rdN st).1 2 = (rdN st).1 % 2 := Int.tmod_eq_emod_of_nonneg g2
        have hsc : PV.agg [PV.sc (.string s), PV.sc (.int .i64 ((s.size : Int) - (st.1.length : Int))), PV.sc (.bool false)] = scP s st := by rw [← hb']; rfl
        have hm' : MachB (m ++ [(decide ((rdN st).1 % 2 = 1), (rdE k ((rdN st).1 / 2).toNat (rdN st).2).1)]) := ⟨by simp; omega, fun t ht => by
          rcases List.mem_append.1 ht with ht | ht
          · exact hm.e t ht
          · simp at ht; subst ht; simp only []; omega⟩
        have hih := ih (k + 1) (rdE k ((rdN st).1 / 2).toNat (rdN st).2).2 (m ++ [(decide ((rdN st).1 % 2 = 1), (rdE k ((rdN st).1 / 2).toNat (rdN st).2).1)]) g4.1 (by omega) (by omega) hm' (by simp; omega)
        have hcast : ((k + 1 : Nat) : Int) = (k : Int) + 1 := by omega
        rw [hcast] at hih
        have hl1 := get_l1 s hs many k (by omega) (rdN st).1 ⟨g2, g3⟩ m (by omega) (decide ((rdN st).1 % 2 = 1)) _ ((rdN st).1 / 2).toNat (rdN st).2 [] g1 (by simp) (by simpa using hih)
        simp only [List.length_nil, Int.natCast_zero, List.map_nil] at hl1
        simp only [impl_MachineGet.l0_eq, z, z4, hb', hsc, two_zero, Bool.not_false, if_true, if_false, decide_true, number_val s hs st hsuf, Option.bind_some, headD_one, List.tail_cons, toInt_sc, toStr_sc, toBool_sc, scP_f0, scP_f1, scP_f2, hmod]
        refine Ev2.ext hl1.start ?_
        simp
theorem implGet_ev (s : ByteArray) (hs : s.size ≤ 1048576) : Ev (fun N => impl_MachineGet.f N [strP s]) [machP (getM s).1, boolP (getM s).2] := by
  have hsuf : Suf s (bytesOf s, false).1 := ⟨[], rfl⟩
  obtain ⟨g1, g2, g3⟩ := rdN_suf hsuf
  have hsc : PV.agg [PV.sc (.string s), PV.sc (.int .i64 0), PV.sc (.bool false)] = scP s (bytesOf s, false) := by simp [scP, bytesOf_len]
  have h := (get_l0 s hs (rdN (bytesOf s, false)).1 ⟨g2, g3⟩ (rdN (bytesOf s, false)).1.toNat 0 (rdN (bytesOf s, false)).2 [] g1 (by omega) (by omega) ⟨by simp, by simp⟩ (by simp)).diag
  simp only [impl_MachineGet.f_eq, toStr_sc, hsc, number_val s hs _ hsuf, Option.bind_some, headD_one, List.tail_cons, toInt_sc, toBool_sc, scP_f0, scP_f1, scP_f2]
  exact h
/-! #### what is written is read back -/
def numB (n : Int) : List Int := if n < 128 then [n] else [n % 128 + 128, n / 128]
def putEB (i : Nat) : List Ed → List Int
  | [] => []
  | e :: es => e.1 :: (numB (e.2 - (i : Int)) ++ putEB i es)
def putLB (i : Nat) : List St → List Int
  | [] => []
  | s :: r => numB (2 * (s.2.length : Int) + (if s.1 = true then 1 else 0)) ++ (putEB i s.2 ++ putLB (i + 1) r)
theorem bytesOf_ofL (L : List PV) (l : List Int) (h : L = l.map u8P) (hb : isB l) : bytesOf (bytesOfL L) = l := by
  subst h
  unfold bytesOf bytesOfL
  simp only [List.map_map]
  rw [← List.map_map, ← List.map_map]
  simp only [List.map_map, List.toList_toArray]
  conv => rhs; rw [← List.map_id l]
  refine List.map_congr_left (fun c hc => ?_)
  have := hb c hc
  simp only [Function.comp, PV.toInt, u8P, UInt8.toNat_ofNat', id]
  omega
theorem numL_B {n : Int} (h0 : 0 ≤ n) (h1 : n ≤ 32767) : numL n = (numB n).map u8P := by
  unfold numL numB
  have hm : Int.tmod n 128 = n % 128 := Int.tmod_eq_emod_of_nonneg h0
  have hd : Int.tdiv n 128 = n / 128 := Int.tdiv_eq_ediv_of_nonneg h0
  have w : ∀ c : Int, 0 ≤ c → c ≤ 255 → IntKind.u8.wrap c = c := fun c h0 h1 => by
    have : IntKind.u8.wrap c = c % 256 := by simp [IntKind.wrap, IntKind.signed, IntKind.bits]
    rw [this]; omega
  by_cases h : n < 128
  · simp only [h, if_true, List.map_cons, List.map_nil]; rw [w n h0 (by omega)]
  · simp only [h, if_false, List.map_cons, List.map_nil, hm, hd]
    rw [wrap_id (by omega) (by omega), wrap_id (by omega) (by omega), w _ (by omega) (by omega), w _ (by omega) (by omega)]
theorem numB_isB {n : Int} (h0 : 0 ≤ n) (h1 : n ≤ 32767) : isB (numB n) := by
  unfold numB isB
  split <;> intro c hc <;> simp at hc <;> omega
theorem isB_app {a b : List Int} (ha : isB a) (hb : isB b) : isB (a ++ b) := fun c hc => (List.mem_append.1 hc).elim (ha c) (hb c)
/-- Edges that are ok. -/
def EdB (n i : Nat) (es : List Ed) : Prop := n ≤ 400 ∧ es.length ≤ 26 ∧ ∀ e ∈ es, (97 ≤ e.1 ∧ e.1 ≤ 122) ∧ (i : Int) + 1 ≤ e.2 ∧ e.2 ≤ (n : Int) - 1
theorem edgesOk_len {n i : Nat} : ∀ {es : List Ed} {q : Int}, 96 ≤ q → q ≤ 122 → edgesOk n i (some q) es = true → q + es.length ≤ 122
  | [], _, _, h, _ => by simpa using h
  | e :: es, q, h0, h1, h => by
    simp only [edgesOk, edgeOk, Bool.and_eq_true, decide_eq_true_eq] at h
    have := edgesOk_len (n := n) (i := i) (es := es) (q := e.1) (by omega) (by omega) h.2
    simp only [List.length_cons]; omega
theorem edgesOk_len0 {n i : Nat} {es : List Ed} (h : edgesOk n i none es = true) : es.length ≤ 26 := by
  cases es with
  | nil => simp
  | cons e es =>
    simp only [edgesOk, edgeOk, Bool.and_eq_true, decide_eq_true_eq] at h
    have := edgesOk_len (n := n) (i := i) (es := es) (q := e.1) (by omega) (by omega) h.2
    simp only [List.length_cons]; omega
theorem putE_B {n i : Nat} : ∀ {es : List Ed}, EdB n i es → putE i es = (putEB i es).map u8P ∧ isB (putEB i es)
  | [], _ => ⟨rfl, by intro c hc; simp [putEB] at hc⟩
  | e :: es, ⟨h0, h1, h2⟩ => by
    obtain ⟨ha, hb⟩ := putE_B (n := n) (i := i) (es := es) ⟨h0, by simp at h1; omega, fun x hx => h2 x (by simp [hx])⟩
    obtain ⟨hc, h3, h4⟩ := h2 e (by simp)
    have w1 : IntKind.i64.wrap (e.2 - (i : Int)) = e.2 - (i : Int) := wrap_id (by omega) (by omega)
    refine ⟨?_, ?_⟩
    · rw [putE, putEB, w1, numL_B (by omega) (by omega), ha, u8_low hc]; simp
    · rw [putEB]
      intro c hc'
      rcases List.mem_cons.1 hc' with rfl | hc'
      · omega
      · exact isB_app (numB_isB (by omega) (by omega)) hb c hc'
theorem cntS_B {s : St} (h : s.2.length ≤ 26) : cntS s = 2 * (s.2.length : Int) + (if s.1 = true then 1 else 0) := by
  unfold cntS
  have w1 : IntKind.i64.wrap (2 * (s.2.length : Int)) = 2 * (s.2.length : Int) := wrap_id (by omega) (by omega)
  rw [w1]
  split
  · exact wrap_id (by omega) (by omega)
  · omega
def StsB (n : Nat) : Nat → List St → Prop
  | _, [] => True
  | i, s :: r => EdB n i s.2 ∧ StsB n (i + 1) r
theorem stsB_of {n : Nat} (hn : n ≤ 400) : ∀ {m : List St} {i : Nat}, stsOk n i m = true → StsB n i m
  | [], _, _ => trivial
  | s :: r, i, h => by
    simp only [stsOk, stOk, Bool.and_eq_true] at h
    exact ⟨⟨hn, edgesOk_len0 h.1.1, edgesOk_to h.1.1⟩, stsB_of hn h.2⟩
theorem putL_B {n : Nat} : ∀ {m : List St} {i : Nat}, StsB n i m → putL i m = (putLB i m).map u8P ∧ isB (putLB i m)
  | [], _, _ => ⟨rfl, by intro c hc; simp [putLB] at hc⟩
  | s :: r, i, ⟨h1, h2⟩ => by
    obtain ⟨ha, hb⟩ := putL_B h2
    obtain ⟨hc, hd⟩ := putE_B h1
    have hl := h1.2.1
    have h0 : 0 ≤ 2 * (s.2.length : Int) + (if s.1 = true then 1 else 0) ∧ 2 * (s.2.length : Int) + (if s.1 = true then 1 else 0) ≤ 53 := by split <;> omega
    refine ⟨?_, ?_⟩
    · rw [putL, putLB, cntS_B hl, numL_B h0.1 (by omega), ha, hc]; simp
    · rw [putLB]; exact isB_app (numB_isB h0.1 (by omega)) (isB_app hd hb)
theorem put_bytes {m : List St} (h : okM m = true) : bytesOf (bytesOfL (putM m)) = numB (m.length : Int) ++ putLB 0 m := by
  obtain ⟨h1, h2, h3, _⟩ := okM_sts h
  obtain ⟨ha, hb⟩ := putL_B (stsB_of h2 h3)
  refine bytesOf_ofL _ _ ?_ (isB_app (numB_isB (by omega) (by omega)) hb)
  rw [putM, numL_B (by omega) (by omega), ha]; simp
theorem rdN_num {n : Int} (h0 : 0 ≤ n) (h1 : n ≤ 32767) (r : List Int) : rdN (numB n ++ r, false) = (n, (r, false)) := by
  unfold numB rdN
  by_cases h : n < 128
  · simp only [h, if_true, List.cons_append, List.nil_append, rdB]
    rw [if_neg (by omega)]
  · simp only [h, if_false, List.cons_append, List.nil_append, rdB]
    rw [if_pos (by omega)]
    congr 1; omega
theorem rdE_put {n i : Nat} : ∀ {es : List Ed}, EdB n i es → ∀ r : List Int, rdE i es.length (putEB i es ++ r, false) = (es, (r, false))
  | [], _, r => rfl
  | e :: es, ⟨h0, h1, h2⟩, r => by
    obtain ⟨hc, h3, h4⟩ := h2 e (by simp)
    have ih := rdE_put (n := n) (i := i) (es := es) ⟨h0, by simp at h1; omega, fun x hx => h2 x (by simp [hx])⟩ r
    have e1 : rdB (putEB i (e :: es) ++ r, false) = (e.1, (numB (e.2 - (i : Int)) ++ (putEB i es ++ r), false)) := by simp [putEB, rdB]
    rw [List.length_cons, rdE]
    rw [if_neg (by simp), e1]
    simp only []
    rw [rdN_num (by omega) (by omega)]
    simp only []
    rw [ih]
    simp only []
    congr 2
    ext <;> simp <;> omega
theorem rdS_put {n : Nat} (hn : n ≤ 400) : ∀ {m : List St} {i : Nat}, StsB n i m → i + m.length ≤ n → ∀ r : List Int, rdS i m.length (putLB i m ++ r, false) = (m, (r, false))
  | [], _, _, _, r => rfl
  | s :: m, i, ⟨h1, h2⟩, hi, r => by
    simp only [List.length_cons] at hi
    have ih := rdS_put hn h2 (by omega) r
    have hl := h1.2.1
    have hN : 0 ≤ 2 * (s.2.length : Int) + (if s.1 = true then 1 else 0) ∧ 2 * (s.2.length : Int) + (if s.1 = true then 1 else 0) ≤ 53 := by split <;> omega
    have e1 : rdN (putLB i (s :: m) ++ r, false) = (2 * (s.2.length : Int) + (if s.1 = true then 1 else 0), (putEB i s.2 ++ (putLB (i + 1) m ++ r), false)) := by
      rw [putLB, List.append_assoc, List.append_assoc]
      exact rdN_num hN.1 (by omega) _
    have e2 : ((2 * (s.2.length : Int) + (if s.1 = true then 1 else 0)) / 2).toNat = s.2.length := by split <;> omega
    have e3 : decide ((2 * (s.2.length : Int) + (if s.1 = true then 1 else 0)) % 2 = 1) = s.1 := by
      by_cases hs : s.1 = true
      · rw [if_pos hs, hs]; simp
      · rw [if_neg hs]; simp only [Bool.not_eq_true] at hs; rw [hs]; simp
    rw [List.length_cons, rdS, if_neg (by simp), if_neg (by omega), e1]
    simp only []
    rw [e2, e3, rdE_put h1]
    simp only []
    rw [ih]
theorem putT_some {m : List St} {s : ByteArray} (h : putT m = s) (hs : s ≠ ⟨#[]⟩) : okM m = true ∧ (putM m).length ≤ 4000 ∧ s = bytesOfL (putM m) := by
  unfold putT at h
  by_cases ho : okM m = true
  · rw [if_pos ho] at h
    by_cases hl : 4000 < (putM m).length
    · rw [if_pos hl] at h; exact absurd h.symm hs
    · rw [if_neg hl] at h; exact ⟨ho, by omega, h.symm⟩
  · rw [if_neg ho] at h; exact absurd h.symm hs
theorem putM_ne {m : List St} (h : okM m = true) : bytesOfL (putM m) ≠ ⟨#[]⟩ := fun he => by
  have := congrArg ByteArray.size he
  rw [bytesOfL_size] at this
  have h2 := numL_len (m.length : Int)
  have h3 : (putM m).length = (numL (m.length : Int)).length + (putL 0 m).length := by simp [putM]
  have h4 : (⟨#[]⟩ : ByteArray).size = 0 := rfl
  omega
/-- A machine that is ok and not too long comes back. -/
theorem getM_put {m : List St} (h : okM m = true) (hl : (putM m).length ≤ 4000) : getM (bytesOfL (putM m)) = (m, true) := by
  obtain ⟨h1, h2, h3, _⟩ := okM_sts h
  have hb := put_bytes h
  have e0 : rdN (bytesOf (bytesOfL (putM m)), false) = ((m.length : Int), (putLB 0 m, false)) := by rw [hb]; exact rdN_num (by omega) (by omega) _
  have e1 := rdS_put h2 (stsB_of h2 h3) (by omega) []
  rw [List.append_nil] at e1
  have hp : putT m = bytesOfL (putM m) := by unfold putT; rw [if_pos h, if_neg (by omega)]
  have e2 : ((m.length : Int)).toNat = m.length := by omega
  unfold getM
  rw [e0]
  simp only []
  rw [e2, e1]
  simp only []
  unfold finM
  rw [if_pos ⟨rfl, putM_ne h, hp⟩]
theorem getM_true {s : ByteArray} (h : (getM s).2 = true) : ∃ m, okM m = true ∧ (putM m).length ≤ 4000 ∧ s = bytesOfL (putM m) ∧ getM s = (m, true) := by
  unfold getM finM at h ⊢
  split at h
  · rename_i hc
    obtain ⟨h1, h2, h3⟩ := putT_some hc.2.2 hc.2.1
    rw [if_pos hc]
    exact ⟨_, h1, h2, h3, rfl⟩
  · cases h
theorem getM_false {s : ByteArray} (h : (getM s).2 = false) : getM s = ([], false) := by
  unfold getM finM at h ⊢
  split at h
  · cases h
  · rename_i hc; rw [if_neg hc]
/-! The reference's way. -/
def sNum : List Int → Int × List Int
  | [] => (-1, [])
  | [c] => if 128 ≤ c then (-1, []) else (c, [])
  | c :: d :: r => if c < 128 then (c, d :: r) else (c - 128 + 128 * d, r)
def sE (k : Int) : Nat → List Int → Option (List Ed × List Int)
  | 0, l => some ([], l)
  | c + 1, l => if l.length < 2 then none else (sE k c (sNum (l.drop 1)).2).map fun x => ((l.getD 0 0, k + (sNum (l.drop 1)).1) :: x.1, x.2)
def sS (k : Nat) : Nat → List Int → Option (List St × List Int)
  | 0, l => some ([], l)
  | c + 1, l => if (sNum l).1 < 0 then none else (sE k ((sNum l).1 / 2).toNat (sNum l).2).bind fun x => (sS (k + 1) c x.2).map fun y => ((decide ((sNum l).1 % 2 = 1), x.1) :: y.1, y.2)
theorem sNum_num {n : Int} (h0 : 0 ≤ n) (h1 : n ≤ 32767) (r : List Int) : sNum (numB n ++ r) = (n, r) := by
  unfold numB
  by_cases h : n < 128
  · simp only [h, if_true, List.cons_append, List.nil_append]
    cases r with
    | nil => rw [sNum, if_neg (by omega)]
    | cons d r => rw [sNum, if_pos h]
  · simp only [h, if_false, List.cons_append, List.nil_append, sNum]
    rw [if_neg (by omega)]
    congr 1; omega
theorem sE_put {n i : Nat} : ∀ {es : List Ed}, EdB n i es → ∀ r : List Int, sE i es.length (putEB i es ++ r) = some (es, r)
  | [], _, r => rfl
  | e :: es, ⟨h0, h1, h2⟩, r => by
    obtain ⟨hc, h3, h4⟩ := h2 e (by simp)
    have ih := sE_put (n := n) (i := i) (es := es) ⟨h0, by simp at h1; omega, fun x hx => h2 x (by simp [hx])⟩ r
    have hlen : ¬ (putEB i (e :: es) ++ r).length < 2 := by
      have : 1 ≤ (numB (e.2 - (i : Int))).length := by unfold numB; split <;> simp
      simp [putEB]; omega
    have hd : (putEB i (e :: es) ++ r).drop 1 = numB (e.2 - (i : Int)) ++ (putEB i es ++ r) := by simp [putEB]
    have h00 : (putEB i (e :: es) ++ r).getD 0 0 = e.1 := by simp [putEB]
    rw [List.length_cons, sE, if_neg hlen, hd, sNum_num (by omega) (by omega), h00]
    simp only []
    rw [ih]
    simp only [Option.map_some]
    congr 3
    ext <;> simp <;> omega
theorem sS_put {n : Nat} (hn : n ≤ 400) : ∀ {m : List St} {i : Nat}, StsB n i m → ∀ r : List Int, sS i m.length (putLB i m ++ r) = some (m, r)
  | [], _, _, r => rfl
  | s :: m, i, ⟨h1, h2⟩, r => by
    have ih := sS_put hn h2 r
    have hl := h1.2.1
    have hN : 0 ≤ 2 * (s.2.length : Int) + (if s.1 = true then 1 else 0) ∧ 2 * (s.2.length : Int) + (if s.1 = true then 1 else 0) ≤ 53 := by split <;> omega
    have e1 : sNum (putLB i (s :: m) ++ r) = (2 * (s.2.length : Int) + (if s.1 = true then 1 else 0), putEB i s.2 ++ (putLB (i + 1) m ++ r)) := by
      rw [putLB, List.append_assoc, List.append_assoc]
      exact sNum_num hN.1 (by omega) _
    have e2 : ((2 * (s.2.length : Int) + (if s.1 = true then 1 else 0)) / 2).toNat = s.2.length := by split <;> omega
    have e3 : decide ((2 * (s.2.length : Int) + (if s.1 = true then 1 else 0)) % 2 = 1) = s.1 := by
      by_cases hs : s.1 = true
      · rw [if_pos hs, hs]; simp
      · rw [if_neg hs]; simp only [Bool.not_eq_true] at hs; rw [hs]; simp
    rw [List.length_cons, sS, e1]
    simp only []
    rw [if_neg (by omega), e2, e3, sE_put h1]
    simp only [Option.bind_some]
    rw [ih]
    rfl
def sFin (s : ByteArray) (x : Option (List St × List Int)) : List St × Bool := match x with
  | some (m, []) => if okM m = true ∧ bytesOfL (putM m) = s then (m, true) else ([], false)
  | _ => ([], false)
def sGet (s : ByteArray) : List St × Bool :=
  if 4000 < s.size then ([], false) else if 1 ≤ (sNum (bytesOf s)).1 ∧ (sNum (bytesOf s)).1 ≤ 400 then sFin s (sS 0 (sNum (bytesOf s)).1.toNat (sNum (bytesOf s)).2) else ([], false)
/-- Both ways read the same. -/
theorem sGet_eq (s : ByteArray) : sGet s = getM s := by
  cases hg : (getM s).2 with
  | true =>
    obtain ⟨m, h1, h2, h3, h4⟩ := getM_true hg
    obtain ⟨k1, k2, k3, _⟩ := okM_sts h1
    rw [h4, h3]
    have e0 : sNum (bytesOf (bytesOfL (putM m))) = ((m.length : Int), putLB 0 m) := by rw [put_bytes h1]; exact sNum_num (by omega) (by omega) _
    have e1 := sS_put k2 (stsB_of k2 k3) []
    rw [List.append_nil] at e1
    have e2 : ((m.length : Int)).toNat = m.length := by omega
    unfold sGet
    rw [bytesOfL_size, if_neg (by omega), e0]
    simp only []
    rw [if_pos (by omega), e2, e1]
    simp only [sFin]
    rw [if_pos ⟨h1, trivial⟩]
  | false =>
    rw [getM_false hg]
    unfold sGet
    split
    · rfl
    · rename_i hsz
      split
      · rename_i hn
        unfold sFin
        split
        · rename_i m _
          split
          · rename_i hc
            have := getM_put hc.1 (by have h := hc.2; have := congrArg ByteArray.size h; rw [bytesOfL_size] at this; omega)
            rw [hc.2] at this
            rw [this] at hg; cases hg
          · rfl
        · rfl
      · rfl
theorem txt_bytes {l : List Int} (h : isB l) : bytesOf (txt l) = l := by
  unfold bytesOf txt
  simp only [List.toList_toArray, List.map_map]
  conv => rhs; rw [← List.map_id l]
  refine List.map_congr_left (fun c hc => ?_)
  have := h c hc
  simp only [Function.comp, UInt8.toNat_ofNat', id]
  omega
theorem bytes_txt (s : ByteArray) : txt (bytesOf s) = s := bytesOf_inj (txt_bytes bytesOf_rng)
theorem txt_bt {l : List Int} (h : isB l) (i : Nat) : bt (txt l) i = l.getD i 0 := by rw [bt_bytes, txt_bytes h]
theorem txt_drop {l : List Int} (h : isB l) (k : Nat) : (txt l).extract k (txt l).size = txt (l.drop k) := by
  apply bytesOf_inj
  rw [txt_bytes (fun c hc => h c (List.drop_subset _ _ hc))]
  rw [txt_size]
  have : bytesOf ((txt l).extract k l.length) = ((bytesOf (txt l)).drop k).take (l.length - k) := by
    unfold bytesOf
    rw [ByteArray.data_extract]
    simp [List.map_take, List.map_drop, List.take_drop]
  rw [this, txt_bytes h]
  exact List.take_of_length_le (by simp)
theorem isB_drop {l : List Int} (h : isB l) (k : Nat) : isB (l.drop k) := fun c hc => h c (List.drop_subset _ _ hc)
theorem sNum_B {l : List Int} (h : isB l) : isB (sNum l).2 ∧ -1 ≤ (sNum l).1 ∧ (sNum l).1 ≤ 32895 := by
  match l, h with
  | [], h => exact ⟨h, by simp [sNum], by simp [sNum]⟩
  | [c], h =>
    have hc := h c (by simp)
    rw [sNum]
    split
    · exact ⟨fun x hx => by simp at hx, by simp only []; omega, by simp only []; omega⟩
    · exact ⟨fun x hx => by simp at hx, by simp only []; omega, by simp only []; omega⟩
  | c :: d :: r, h =>
    have hc := h c (by simp); have hd := h d (by simp)
    rw [sNum]
    split
    · exact ⟨isB_tail h, by simp only []; omega, by simp only []; omega⟩
    · exact ⟨isB_tail (isB_tail h), by simp only []; omega, by simp only []; omega⟩
theorem num_val (l : List Int) (h : isB l) (N : Nat) : spec_l12Num.f N [strP (txt l)] = some [intP (sNum l).1, strP (txt (sNum l).2)] := by
  simp only [spec_l12Num.f_eq, toStr_sc, get_bt, txt_bt h, txt_size, Int.le_refl, if_true]
  match l, h with
  | [], h => rfl
  | [c], h =>
    have hc := h c (by simp)
    have z1 : ¬ ((([c] : List Int).length : Nat) : Int) = 0 := by simp
    have z2 : (0 : Int) < ((([c] : List Int).length : Nat) : Int) := by simp
    have z3 : ((([c] : List Int).length : Nat) : Int) = 1 := by simp
    have z4 : (1 : Int) ≤ ((([c] : List Int).length : Nat) : Int) := by simp
    have e0 : ([c] : List Int).getD 0 0 = c := rfl
    have w := byte_wrap hc
    have hd := txt_drop h 1
    rw [txt_size] at hd
    simp only [z1, z2, e0, decide_false, if_true, sNum]
    by_cases hb : 128 ≤ c
    · have hb2 : ¬ c < 128 := by omega
      simp only [hb, z3, decide_true, if_true]
      rfl
    · have hb2 : c < 128 := by omega
      simp only [hb, hb2, z4, w, hd, decide_true, decide_false, if_true, if_false, Bool.false_eq_true]
      simp
  | c :: d :: r, h =>
    have hc := h c (by simp); have hdd := h d (by simp)
    have hlen : ((c :: d :: r).length : Int) = (r.length : Int) + 2 := by simp; omega
    have z1 : ¬ ((c :: d :: r).length : Int) = 0 := by omega
    have z2 : (0 : Int) < ((c :: d :: r).length : Int) := by omega
    have z3 : ¬ ((c :: d :: r).length : Int) = 1 := by omega
    have z4 : (1 : Int) ≤ ((c :: d :: r).length : Int) := by omega
    have z5 : (1 : Int) < ((c :: d :: r).length : Int) := by omega
    have z6 : (2 : Int) ≤ ((c :: d :: r).length : Int) := by omega
    have n1 : ¬ (0 : Int) = 1 := by omega
    have t0 : (0 : Int) ≤ 1 := by omega
    have t1 : (0 : Int) ≤ 2 := by omega
    have e0 : (c :: d :: r).getD 0 0 = c := rfl
    have e1 : (c :: d :: r).getD 1 0 = d := rfl
    have w := byte_wrap hc
    have w2 := byte_wrap hdd
    have hd1 := txt_drop h 1
    have hd2 := txt_drop h 2
    rw [txt_size] at hd1 hd2
    by_cases hb : c < 128
    · have hb2 : ¬ 128 ≤ c := by omega
      simp only [z1, z2, z4, e0, hb, hb2, w, hd1, t0, decide_true, decide_false, if_true, if_false, Bool.false_eq_true, sNum]
      rfl
    · have hb2 : 128 ≤ c := by omega
      have w3 : IntKind.u8.wrap (c - 128) = c - 128 := by
        have : IntKind.u8.wrap (c - 128) = (c - 128) % 256 := by simp [IntKind.wrap, IntKind.signed, IntKind.bits]
        rw [this]; omega
      have w4 : IntKind.i64.wrap (c - 128) = c - 128 := wrap_id (by omega) (by omega)
      have w5 : IntKind.i64.wrap (128 * d) = 128 * d := wrap_id (by omega) (by omega)
      have w6 : IntKind.i64.wrap (c - 128 + 128 * d) = c - 128 + 128 * d := wrap_id (by omega) (by omega)
      simp only [z1, z2, z3, z4, z5, z6, e0, e1, hb, hb2, w2, w3, w4, w5, w6, hd2, t0, t1, decide_true, decide_false, if_true, if_false, Bool.false_eq_true, sNum]
      rfl
theorem sE_B (k : Int) : ∀ (c : Nat) {l : List Int} {x : List Ed × List Int}, isB l → sE k c l = some x → isB x.2 ∧ x.1.length = c
  | 0, l, x, h, he => by simp [sE] at he; subst he; exact ⟨h, rfl⟩
  | c + 1, l, x, h, he => by
    rw [sE] at he
    split at he
    · cases he
    · cases hx : sE k c (sNum (l.drop 1)).2 with
      | none => rw [hx] at he; cases he
      | some y =>
        rw [hx] at he
        simp at he
        obtain ⟨a, b⟩ := sE_B k c (sNum_B (isB_drop h 1)).1 hx
        rw [← he]
        exact ⟨a, by simp [b]⟩
def noneM : List PV := [PV.list [], PV.sc (.bool false)]
theorem sget_l2 (s : ByteArray) (many : Int) (k : Nat) (hk : k < 400) (n : Int) (hn : 0 ≤ n ∧ n ≤ 32895) (m : List St) (hm : m.length ≤ 400) (ends : Bool) (R : List PV) :
    ∀ (c : Nat) (l : List Int) (es : List Ed), isB l → l.length ≤ 1048576 → es.length + c = (n / 2).toNat →
    (match sE k c l with
      | none => R = noneM
      | some x => Ev2 (fun N j => spec_MachineGet.l0 N j s many (txt x.2) ((k : Int) + 1) [] ((m ++ [(ends, es ++ x.1)]).map stP)) R) →
    Ev3 (fun N m0 j => spec_MachineGet.l2 N m0 j s many (k : Int) n (txt l) (es.length : Int) [] (m.map stP) ends (es.map edgeP)) R := by
  have hdiv : IntKind.i64.wrap (Int.tdiv n 2) = n / 2 := by
    rw [Int.tdiv_eq_ediv_of_nonneg hn.1]; exact wrap_id (by omega) (by omega)
  have wk : IntKind.i64.wrap ((k : Int) + 1) = (k : Int) + 1 := wrap_id (by omega) (by omega)
  intro c
  induction c with
  | zero =>
    intro l es hb hl hc hR
    refine Ev3.succ ?_
    have z : ¬ (es.length : Int) < n / 2 := by omega
    have c1 : (m.map stP).length + 1 ≤ 4398046511104 := by simp; omega
    have e1 : PV.agg [PV.sc (.bool ends), PV.list (es.map edgeP)] = stP (ends, es) := rfl
    simp only [spec_MachineGet.l2_eq, two_zero, hdiv, z, e1, c1, wk, strs_len, strs_elem, ints_len, ints_elem, items_list, fld_agg, elem_list, toStr_sc, toInt_sc, toBool_sc, headD_one, nat_int, get_bt, decide_eq_true_eq, decide_eq_false_iff_not, decide_true, decide_false, if_true, if_false, ite_self, Bool.not_true, Bool.not_false, Bool.false_eq_true, Bool.true_eq_false, Bool.true_and, Bool.false_and, Bool.and_true, Bool.and_false, not_true, not_false_iff, Option.bind_some, nn, toList_inj, Bool.not_eq_true', Bool.not_eq_false', Int.le_refl, and_self, true_and, and_true, false_and, and_false, bne_self_eq_false, beq_self_eq_true, Int.reduceEq, Nat.reduceEqDiff, List.length_singleton, List.tail_cons, Int.reduceLE, Int.reduceLT, decide_eq_true_eq]
    simp only [sE, List.append_nil] at hR
    have := hR.outer
    simpa using this
  | succ c ih =>
    intro l es hb hl hc hR
    refine Ev3.succ ?_
    have z : (es.length : Int) < n / 2 := by omega
    rw [sE] at hR
    by_cases hl2 : l.length < 2
    · rw [if_pos hl2] at hR
      have z2 : (l.length : Int) < 2 := by omega
      simp only [] at hR
      subst hR
      simp only [spec_MachineGet.l2_eq, two_zero, hdiv, z, txt_size, z2, strs_len, strs_elem, ints_len, ints_elem, items_list, fld_agg, elem_list, toStr_sc, toInt_sc, toBool_sc, headD_one, nat_int, get_bt, decide_eq_true_eq, decide_eq_false_iff_not, decide_true, decide_false, if_true, if_false, ite_self, Bool.not_true, Bool.not_false, Bool.false_eq_true, Bool.true_eq_false, Bool.true_and, Bool.false_and, Bool.and_true, Bool.and_false, not_true, not_false_iff, Option.bind_some, nn, toList_inj, Bool.not_eq_true', Bool.not_eq_false', Int.le_refl, and_self, true_and, and_true, false_and, and_false, bne_self_eq_false, beq_self_eq_true, Int.reduceEq, Nat.reduceEqDiff, List.length_singleton, List.tail_cons, Int.reduceLE, Int.reduceLT, decide_eq_true_eq]
      exact Ev3.now _
    · rw [if_neg hl2] at hR
      have z2 : ¬ (l.length : Int) < 2 := by omega
      have z3 : (1 : Int) ≤ (l.length : Int) := by omega
      have z4 : (0 : Int) < (l.length : Int) := by omega
      have t0 : (0 : Int) ≤ 1 := by omega
      obtain ⟨g1, g2, g3⟩ := sNum_B (isB_drop hb 1)
      have hd := txt_drop hb 1
      rw [txt_size] at hd
      have hc0 : 0 ≤ l.getD 0 0 ∧ l.getD 0 0 ≤ 255 := by
        cases l with
        | nil => simp at hl2
        | cons x r => exact hb x (by simp)
      have w0 := byte_wrap hc0
      have wt : IntKind.i64.wrap ((k : Int) + (sNum (l.drop 1)).1) = (k : Int) + (sNum (l.drop 1)).1 := wrap_id (by omega) (by omega)
      have wj : IntKind.i64.wrap ((es.length : Int) + 1) = ((es ++ [(l.getD 0 0, (k : Int) + (sNum (l.drop 1)).1)]).length : Int) := by rw [wrap_id (by omega) (by omega)]; simp
      have c2 : (es.map edgeP).length + 1 ≤ 8796093022208 := by simp; omega
      have e2 : es.map edgeP ++ [edgeP (l.getD 0 0, (k : Int) + (sNum (l.drop 1)).1)] = (es ++ [(l.getD 0 0, (k : Int) + (sNum (l.drop 1)).1)]).map edgeP := by simp
      have e3 : PV.agg [PV.sc (.int .i64 (l.getD 0 0)), PV.sc (.int .i64 ((k : Int) + (sNum (l.drop 1)).1))] = edgeP (l.getD 0 0, (k : Int) + (sNum (l.drop 1)).1) := rfl
      have hll : (sNum (l.drop 1)).2.length ≤ 1048576 := by
        have : ∀ q : List Int, (sNum q).2.length ≤ q.length := fun q => by
          match q with
          | [] => simp [sNum]
          | [c] => rw [sNum]; split <;> simp
          | c :: d :: r => rw [sNum]; split <;> simp <;> omega
        have h2 := this (l.drop 1)
        rw [List.length_drop] at h2; omega
      have hih := ih (sNum (l.drop 1)).2 (es ++ [(l.getD 0 0, (k : Int) + (sNum (l.drop 1)).1)]) g1 hll (by simp; omega) (by
        cases hx : sE k c (sNum (l.drop 1)).2 with
        | none => rw [hx] at hR; simpa using hR
        | some y => rw [hx] at hR; simpa using hR)
      simp only [spec_MachineGet.l2_eq, two_zero, hdiv, z, txt_size, z2, z3, z4, t0, hd, num_val _ (isB_drop hb 1), Option.bind_some, headD_one, List.tail_cons, toInt_sc, toStr_sc, get_bt, txt_bt hb, w0, wt, wj, e3, List.length_singleton, c2, e2, decide_true, decide_false, if_true, if_false, Bool.false_eq_true, Int.le_refl]
      exact hih
theorem sget_l1 (s : ByteArray) (many : Int) (k : Nat) (hk : k < 400) (n : Int) (hn : 0 ≤ n ∧ n ≤ 32895) (m : List St) (hm : m.length ≤ 400) (ends : Bool) (R : List PV) (l : List Int) (hb : isB l) (hl : l.length ≤ 1048576)
    (hR : match sE k (n / 2).toNat l with
      | none => R = noneM
      | some x => Ev2 (fun N j => spec_MachineGet.l0 N j s many (txt x.2) ((k : Int) + 1) [] ((m ++ [(ends, x.1)]).map stP)) R) :
    Ev3 (fun N m0 j => spec_MachineGet.l1 N m0 j s many (k : Int) n (txt l) 0 [] (m.map stP) ends) R := by
  have h := sget_l2 s many k hk n hn m hm ends R (n / 2).toNat l [] hb hl (by simp) (by simpa using hR)
  simp only [List.length_nil, Int.natCast_zero, List.map_nil] at h
  refine Ev3.congr (fun N m0 j => ?_) h
  cases j with
  | zero => rfl
  | succ j => rw [spec_MachineGet.l1_eq, spec_MachineGet.l2_eq]
theorem txt_nil_iff {l : List Int} : (txt l = ⟨#[]⟩) ↔ l = [] := by
  constructor
  · intro h
    have := congrArg ByteArray.size h
    rw [txt_size] at this
    exact List.eq_nil_of_length_eq_zero (this.trans rfl)
  · rintro rfl; rfl
theorem sget_l0 (s : ByteArray) (hs : s.size ≤ 4000) (many : Int) (hmany : 1 ≤ many ∧ many ≤ 400) : ∀ (c : Nat) (k : Nat) (l : List Int) (m : List St), isB l → l.length ≤ 1048576 → k + c = many.toNat → MachB m → m.length ≤ k →
    Ev2 (fun N j => spec_MachineGet.l0 N j s many (txt l) (k : Int) [] (m.map stP)) [machP (sFin s ((sS k c l).map fun x => (m ++ x.1, x.2))).1, boolP (sFin s ((sS k c l).map fun x => (m ++ x.1, x.2))).2] := by
  intro c
  induction c with
  | zero =>
    intro k l m hb hl hc hm hml
    refine Ev2.succ ?_
    have z : ¬ (k : Int) < many := by omega
    simp only [spec_MachineGet.l0_eq, z, sS, Option.map_some, List.append_nil, toList_inj, txt_nil_iff, decide_false, Bool.false_eq_true, if_false]
    cases l with
    | cons x r => simp only [sFin, machP_nil, reduceCtorEq, decide_false, Bool.not_false, Bool.true_eq_false, if_false]; exact Ev2.now _
    | nil =>
      simp only [decide_true, Bool.not_true, if_true, sFin]
      have h1 := specOk_ev m hm
      have h2 := specPut_ev m hm
      simp only [machP] at h1 h2
      refine Ev2.bind h1 ?_
      cases ho : okM m with
      | false => simp only [machP_nil, strs_len, strs_elem, ints_len, ints_elem, items_list, fld_agg, elem_list, toStr_sc, toInt_sc, toBool_sc, headD_one, nat_int, get_bt, decide_eq_true_eq, decide_eq_false_iff_not, decide_true, decide_false, if_true, if_false, ite_self, Bool.not_true, Bool.not_false, Bool.false_eq_true, Bool.true_eq_false, Bool.true_and, Bool.false_and, Bool.and_true, Bool.and_false, not_true, not_false_iff, Option.bind_some, nn, toList_inj, Bool.not_eq_true', Bool.not_eq_false', Int.le_refl, and_self, true_and, and_true, false_and, and_false, bne_self_eq_false, beq_self_eq_true, Int.reduceEq, Nat.reduceEqDiff, List.length_singleton, List.tail_cons, Int.reduceLE, Int.reduceLT, decide_eq_true_eq]; exact Ev2.now _
      | true =>
        simp only [strs_len, strs_elem, ints_len, ints_elem, items_list, fld_agg, elem_list, toStr_sc, toInt_sc, toBool_sc, headD_one, nat_int, get_bt, decide_eq_true_eq, decide_eq_false_iff_not, decide_true, decide_false, if_true, if_false, ite_self, Bool.not_true, Bool.not_false, Bool.false_eq_true, Bool.true_eq_false, Bool.true_and, Bool.false_and, Bool.and_true, Bool.and_false, not_true, not_false_iff, Option.bind_some, nn, toList_inj, Bool.not_eq_true', Bool.not_eq_false', Int.le_refl, and_self, true_and, and_true, false_and, and_false, bne_self_eq_false, beq_self_eq_true, Int.reduceEq, Nat.reduceEqDiff, List.length_singleton, List.tail_cons, Int.reduceLE, Int.reduceLT, decide_eq_true_eq]
        refine Ev2.bind h2 ?_
        by_cases he : bytesOfL (putM m) = s
        · simp only [he, machP, strs_len, strs_elem, ints_len, ints_elem, items_list, fld_agg, elem_list, toStr_sc, toInt_sc, toBool_sc, headD_one, nat_int, get_bt, decide_eq_true_eq, decide_eq_false_iff_not, decide_true, decide_false, if_true, if_false, ite_self, Bool.not_true, Bool.not_false, Bool.false_eq_true, Bool.true_eq_false, Bool.true_and, Bool.false_and, Bool.and_true, Bool.and_false, not_true, not_false_iff, Option.bind_some, nn, toList_inj, Bool.not_eq_true', Bool.not_eq_false', Int.le_refl, and_self, true_and, and_true, false_and, and_false, bne_self_eq_false, beq_self_eq_true, Int.reduceEq, Nat.reduceEqDiff, List.length_singleton, List.tail_cons, Int.reduceLE, Int.reduceLT, decide_eq_true_eq]; exact Ev2.now _
        · simp only [he, machP_nil, strs_len, strs_elem, ints_len, ints_elem, items_list, fld_agg, elem_list, toStr_sc, toInt_sc, toBool_sc, headD_one, nat_int, get_bt, decide_eq_true_eq, decide_eq_false_iff_not, decide_true, decide_false, if_true, if_false, ite_self, Bool.not_true, Bool.not_false, Bool.false_eq_true, Bool.true_eq_false, Bool.true_and, Bool.false_and, Bool.and_true, Bool.and_false, not_true, not_false_iff, Option.bind_some, nn, toList_inj, Bool.not_eq_true', Bool.not_eq_false', Int.le_refl, and_self, true_and, and_true, false_and, and_false, bne_self_eq_false, beq_self_eq_true, Int.reduceEq, Nat.reduceEqDiff, List.length_singleton, List.tail_cons, Int.reduceLE, Int.reduceLT, decide_eq_true_eq]; exact Ev2.now _
  | succ c ih =>
    intro k l m hb hl hc hm hml
    refine Ev2.succ ?_
    have z : (k : Int) < many := by omega
    obtain ⟨g1, g2, g3⟩ := sNum_B hb
    rw [sS]
    simp only [spec_MachineGet.l0_eq, z, num_val l hb, two_zero, Option.bind_some, headD_one, List.tail_cons, toInt_sc, toStr_sc, decide_true, if_true, if_false]
    by_cases hneg : (sNum l).1 < 0
    · rw [if_pos hneg]
      simp only [hneg, Option.map_none, sFin, machP_nil, decide_true, if_true]
      exact Ev2.now _
    · rw [if_neg hneg]
      have hmod : Int.tmod (sNum l).1 2 = (sNum l).1 % 2 := Int.tmod_eq_emod_of_nonneg (by omega)
      simp only [hneg, hmod, decide_false, Bool.false_eq_true, if_false]
      have hll : (sNum l).2.length ≤ 1048576 := by
        have : ∀ q : List Int, (sNum q).2.length ≤ q.length := fun q => by
          match q with
          | [] => simp [sNum]
          | [c] => rw [sNum]; split <;> simp
          | c :: d :: r => rw [sNum]; split <;> simp <;> omega
        have h2 := this l
        omega
      refine Ev3.start (sget_l1 s many k (by omega) (sNum l).1 ⟨by omega, g3⟩ m (by omega) _ _ (sNum l).2 g1 hll ?_)
      cases hx : sE k ((sNum l).1 / 2).toNat (sNum l).2 with
      | none => simp only [Option.bind_none, Option.map_none, sFin, noneM, machP_nil]
      | some x =>
        obtain ⟨b1, b2⟩ := sE_B k _ g1 hx
        have hm' : MachB (m ++ [(decide ((sNum l).1 % 2 = 1), x.1)]) := ⟨by simp; omega, fun t ht => by
          rcases List.mem_append.1 ht with ht | ht
          · exact hm.e t ht
          · simp at ht; subst ht; simp only []; omega⟩
        have hsE : ∀ (k : Int) (c : Nat) (l : List Int) (x : List Ed × List Int), sE k c l = some x → x.2.length ≤ l.length := by
          intro k c
          induction c with
          | zero => intro l x h; simp [sE] at h; subst h; exact Nat.le_refl _
          | succ c ihc =>
            intro l x h
            rw [sE] at h
            split at h
            · cases h
            · cases hy : sE k c (sNum (l.drop 1)).2 with
              | none => rw [hy] at h; cases h
              | some y =>
                rw [hy] at h
                simp at h
                have := ihc _ _ hy
                have hq : ∀ q : List Int, (sNum q).2.length ≤ q.length := fun q => by
                  match q with
                  | [] => simp [sNum]
                  | [c] => rw [sNum]; split <;> simp
                  | c :: d :: r => rw [sNum]; split <;> simp <;> omega
                have h2 := hq (l.drop 1)
                rw [← h]
                rw [List.length_drop] at h2
                simp only []; omega
        have hih := ih (k + 1) x.2 (m ++ [(decide ((sNum l).1 % 2 = 1), x.1)]) b1 (by have := hsE _ _ _ _ hx; omega) (by omega) hm' (by simp; omega)
        have hcast : ((k + 1 : Nat) : Int) = (k : Int) + 1 := by omega
        rw [hcast] at hih
        simp only [Option.bind_some]
        refine Ev2.ext hih ?_
        cases sS (k + 1) c x.2 <;> simp
theorem specGet_ev (s : ByteArray) (hs : s.size ≤ 1048576) : Ev (fun N => spec_MachineGet.f N [strP s]) [machP (getM s).1, boolP (getM s).2] := by
  rw [← sGet_eq]
  unfold sGet
  have hb : isB (bytesOf s) := bytesOf_rng
  have hnum := fun N => num_val (bytesOf s) hb N
  simp only [bytes_txt] at hnum
  obtain ⟨g1, g2, g3⟩ := sNum_B hb
  simp only [spec_MachineGet.f_eq, toStr_sc, hnum, Option.bind_some, headD_one, List.tail_cons, toInt_sc]
  by_cases h4 : 4000 < s.size
  · have h4' : (4000 : Int) < (s.size : Int) := by omega
    rw [if_pos h4]
    simp only [h4', machP_nil, decide_true, Bool.true_eq_false, if_false]
    exact Ev.now _
  · have h4' : ¬ (4000 : Int) < (s.size : Int) := by omega
    rw [if_neg h4]
    simp only [h4', specIn_val, decide_false, if_true, Option.bind_some, headD_one, toBool_sc]
    by_cases hn : 1 ≤ (sNum (bytesOf s)).1 ∧ (sNum (bytesOf s)).1 ≤ 400
    · rw [if_pos hn]
      simp only [hn, and_self, decide_true, Bool.not_true, Bool.false_eq_true, if_false]
      have hll : (sNum (bytesOf s)).2.length ≤ (bytesOf s).length := by
        generalize bytesOf s = q
        match q with
        | [] => simp [sNum]
        | [c] => rw [sNum]; split <;> simp
        | c :: d :: r => rw [sNum]; split <;> simp <;> omega
      rw [bytesOf_len] at hll
      have h := (sget_l0 s (by omega) (sNum (bytesOf s)).1 hn (sNum (bytesOf s)).1.toNat 0 (sNum (bytesOf s)).2 [] g1 (by omega) (by omega) ⟨by simp, by simp⟩ (by simp)).diag
      simp only [List.nil_append, Int.natCast_zero, List.map_nil] at h
      refine Ev.ext h ?_
      cases sS 0 (sNum (bytesOf s)).1.toNat (sNum (bytesOf s)).2 <;> simp
    · rw [if_neg hn]
      simp only [hn, machP_nil, decide_false, Bool.not_false, if_true]
      exact Ev.now _
theorem finM_B {s : ByteArray} {m : List St} {b : Bool} (hm : MachB m) : MachB (finM s m b).1 := by
  unfold finM
  split
  · exact hm
  · exact ⟨by simp, by simp⟩
theorem getM_B (s : ByteArray) : MachB (getM s).1 := by
  cases hg : (getM s).2 with
  | true =>
    obtain ⟨m, h1, h2, h3, h4⟩ := getM_true hg
    obtain ⟨k1, k2, k3, _⟩ := okM_sts h1
    rw [h4]
    refine ⟨by simp only []; omega, fun t ht => ?_⟩
    have : ∀ (n : Nat) (l : List St) (i : Nat), StsB n i l → ∀ t ∈ l, t.2.length ≤ 26 := by
      intro n l
      induction l with
      | nil => intro i _ t ht; simp at ht
      | cons a l ih =>
        intro i h t ht
        rcases List.mem_cons.1 ht with rfl | ht
        · exact h.1.2.1
        · exact ih _ h.2 t ht
    have := this _ _ _ (stsB_of k2 k3) t ht
    omega
  | false => rw [getM_false hg]; exact ⟨by simp, by simp⟩
/-! Held marks. -/
theorem heldE_loop (l0 : List Ed) (hl : l0.length ≤ 1048576) : ∀ (es : List Ed) (epre : List Ed) (x : Int), l0 = epre ++ mkE x es → 0 ≤ x → x + 2 * es.length ≤ 4611686018427387904 →
    Ev2 (fun N n => laws_heldEdgeS.l0 N n (edgesP l0) x (epre.length : Int)) [intP (x + 2 * es.length)] := by
  intro es
  induction es with
  | nil =>
    intro epre x he h0 hx
    simp only [mkE] at he
    refine Ev2.succ ?_
    simp only [laws_heldEdgeS.l0_eq, edges_len, at_end he, strs_len, strs_elem, ints_len, ints_elem, items_list, fld_agg, elem_list, toStr_sc, toInt_sc, toBool_sc, headD_one, nat_int, get_bt, decide_eq_true_eq, decide_eq_false_iff_not, decide_true, decide_false, if_true, if_false, ite_self, Bool.not_true, Bool.not_false, Bool.false_eq_true, Bool.true_eq_false, Bool.true_and, Bool.false_and, Bool.and_true, Bool.and_false, not_true, not_false_iff, Option.bind_some, nn, toList_inj, Bool.not_eq_true', Bool.not_eq_false', Int.le_refl, and_self, true_and, and_true, false_and, and_false, bne_self_eq_false, beq_self_eq_true, Int.reduceEq, Nat.reduceEqDiff, List.length_singleton, List.tail_cons, Int.reduceLE, Int.reduceLT, decide_eq_true_eq]
    refine Ev2.ext (Ev2.now _) ?_
    simp
  | cons e es ih =>
    intro epre x he h0 hx
    simp only [mkE] at he
    simp only [List.length_cons] at hx
    have w1 : IntKind.i64.wrap (x + 1) = x + 1 := wrap_id (by omega) (by omega)
    have w2 : IntKind.i64.wrap (x + 1 + 1) = x + 2 := by rw [show x + 1 + 1 = x + 2 by omega]; exact wrap_id (by omega) (by omega)
    have hih := ih _ (x + 2) (at_step he) (by omega) (by omega)
    refine Ev2.succ ?_
    simp only [laws_heldEdgeS.l0_eq, edges_len, at_lt he, edges_at he, edge_f0, edge_f1, w1, w2, at_next he (by omega), strs_len, strs_elem, ints_len, ints_elem, items_list, fld_agg, elem_list, toStr_sc, toInt_sc, toBool_sc, headD_one, nat_int, get_bt, decide_eq_true_eq, decide_eq_false_iff_not, decide_true, decide_false, if_true, if_false, ite_self, Bool.not_true, Bool.not_false, Bool.false_eq_true, Bool.true_eq_false, Bool.true_and, Bool.false_and, Bool.and_true, Bool.and_false, not_true, not_false_iff, Option.bind_some, nn, toList_inj, Bool.not_eq_true', Bool.not_eq_false', Int.le_refl, and_self, true_and, and_true, false_and, and_false, bne_self_eq_false, beq_self_eq_true, Int.reduceEq, Nat.reduceEqDiff, List.length_singleton, List.tail_cons, Int.reduceLE, Int.reduceLT, decide_eq_true_eq]
    refine Ev2.ext hih ?_
    simp; omega
theorem heldE_ev (es : List Ed) (x : Int) (hl : es.length ≤ 1048576) (h0 : 0 ≤ x) (hx : x + 2 * es.length ≤ 4611686018427387904) : Ev (fun N => laws_heldEdgeS.f N [edgesP (mkE x es), intP x]) [intP (x + 2 * es.length)] := by
  simp only [laws_heldEdgeS.f_eq, strs_len, strs_elem, ints_len, ints_elem, items_list, fld_agg, elem_list, toStr_sc, toInt_sc, toBool_sc, headD_one, nat_int, get_bt, decide_eq_true_eq, decide_eq_false_iff_not, decide_true, decide_false, if_true, if_false, ite_self, Bool.not_true, Bool.not_false, Bool.false_eq_true, Bool.true_eq_false, Bool.true_and, Bool.false_and, Bool.and_true, Bool.and_false, not_true, not_false_iff, Option.bind_some, nn, toList_inj, Bool.not_eq_true', Bool.not_eq_false', Int.le_refl, and_self, true_and, and_true, false_and, and_false, bne_self_eq_false, beq_self_eq_true, Int.reduceEq, Nat.reduceEqDiff, List.length_singleton, List.tail_cons, Int.reduceLE, Int.reduceLT, decide_eq_true_eq]
  exact (heldE_loop (mkE x es) (by rw [mkE_len]; exact hl) es [] x rfl h0 hx).diag
theorem heldS_loop (l0 : List St) (hl : l0.length ≤ 1048576) : ∀ (m : List St) (pre : List St) (x : Int), l0 = pre ++ mkS x m → (∀ s ∈ m, s.2.length ≤ 1048576) → 0 ≤ x → x + cntM m ≤ 4611686018427387904 →
    Ev2 (fun N n => laws_heldStateS.l0 N n (machP l0) x (pre.length : Int)) [intP (x + cntM m)] := by
  intro m
  induction m with
  | nil =>
    intro pre x he hs h0 hx
    simp only [mkS] at he
    refine Ev2.succ ?_
    simp only [laws_heldStateS.l0_eq, mach_len, at_end he, strs_len, strs_elem, ints_len, ints_elem, items_list, fld_agg, elem_list, toStr_sc, toInt_sc, toBool_sc, headD_one, nat_int, get_bt, decide_eq_true_eq, decide_eq_false_iff_not, decide_true, decide_false, if_true, if_false, ite_self, Bool.not_true, Bool.not_false, Bool.false_eq_true, Bool.true_eq_false, Bool.true_and, Bool.false_and, Bool.and_true, Bool.and_false, not_true, not_false_iff, Option.bind_some, nn, toList_inj, Bool.not_eq_true', Bool.not_eq_false', Int.le_refl, and_self, true_and, and_true, false_and, and_false, bne_self_eq_false, beq_self_eq_true, Int.reduceEq, Nat.reduceEqDiff, List.length_singleton, List.tail_cons, Int.reduceLE, Int.reduceLT, decide_eq_true_eq]
    refine Ev2.ext (Ev2.now _) ?_
    simp [cntM]
  | cons s m ih =>
    intro pre x he hs h0 hx
    simp only [mkS] at he
    simp only [cntM] at hx
    have hsl := hs s (by simp)
    have w1 : IntKind.i64.wrap (x + 1) = x + 1 := wrap_id (by omega) (by omega)
    have hih := ih _ (x + 1 + 2 * s.2.length) (at_step he) (fun t ht => hs t (by simp [ht])) (by omega) (by omega)
    have hneg : ¬ (x + 1 + 2 * (s.2.length : Int) < 0) := by omega
    refine Ev2.succ ?_
    simp only [laws_heldStateS.l0_eq, mach_len, at_lt he, mach_at he, st_f0, st_f1, three_zero, w1, at_next he (by omega), strs_len, strs_elem, ints_len, ints_elem, items_list, fld_agg, elem_list, toStr_sc, toInt_sc, toBool_sc, headD_one, nat_int, get_bt, decide_eq_true_eq, decide_eq_false_iff_not, decide_true, decide_false, if_true, if_false, ite_self, Bool.not_true, Bool.not_false, Bool.false_eq_true, Bool.true_eq_false, Bool.true_and, Bool.false_and, Bool.and_true, Bool.and_false, not_true, not_false_iff, Option.bind_some, nn, toList_inj, Bool.not_eq_true', Bool.not_eq_false', Int.le_refl, and_self, true_and, and_true, false_and, and_false, bne_self_eq_false, beq_self_eq_true, Int.reduceEq, Nat.reduceEqDiff, List.length_singleton, List.tail_cons, Int.reduceLE, Int.reduceLT, decide_eq_true_eq]
    refine Ev2.bind (heldE_ev s.2 (x + 1) hsl (by omega) (by omega)) ?_
    simp only [hneg, strs_len, strs_elem, ints_len, ints_elem, items_list, fld_agg, elem_list, toStr_sc, toInt_sc, toBool_sc, headD_one, nat_int, get_bt, decide_eq_true_eq, decide_eq_false_iff_not, decide_true, decide_false, if_true, if_false, ite_self, Bool.not_true, Bool.not_false, Bool.false_eq_true, Bool.true_eq_false, Bool.true_and, Bool.false_and, Bool.and_true, Bool.and_false, not_true, not_false_iff, Option.bind_some, nn, toList_inj, Bool.not_eq_true', Bool.not_eq_false', Int.le_refl, and_self, true_and, and_true, false_and, and_false, bne_self_eq_false, beq_self_eq_true, Int.reduceEq, Nat.reduceEqDiff, List.length_singleton, List.tail_cons, Int.reduceLE, Int.reduceLT, decide_eq_true_eq]
    refine Ev2.ext hih ?_
    simp [cntM]; omega
theorem heldS_ev (m : List St) (x : Int) (hm : MachB m) (h0 : 0 ≤ x) (hx : x + cntM m ≤ 4611686018427387904) : Ev (fun N => laws_heldStateS.f N [machP (mkS x m), intP x]) [intP (x + cntM m)] := by
  simp only [laws_heldStateS.f_eq, strs_len, strs_elem, ints_len, ints_elem, items_list, fld_agg, elem_list, toStr_sc, toInt_sc, toBool_sc, headD_one, nat_int, get_bt, decide_eq_true_eq, decide_eq_false_iff_not, decide_true, decide_false, if_true, if_false, ite_self, Bool.not_true, Bool.not_false, Bool.false_eq_true, Bool.true_eq_false, Bool.true_and, Bool.false_and, Bool.and_true, Bool.and_false, not_true, not_false_iff, Option.bind_some, nn, toList_inj, Bool.not_eq_true', Bool.not_eq_false', Int.le_refl, and_self, true_and, and_true, false_and, and_false, bne_self_eq_false, beq_self_eq_true, Int.reduceEq, Nat.reduceEqDiff, List.length_singleton, List.tail_cons, Int.reduceLE, Int.reduceLT, decide_eq_true_eq]
  exact (heldS_loop (mkS x m) (by rw [mkS_len]; exact hm.n) m [] x rfl hm.e h0 hx).diag
/-- The law's own function answers true. -/
theorem law (ps : List PV) (h : PvOkL (PvOk Try.prog 8) [9] ps) : ∃ N, laws_FnExactMachineGet.f N ps = some [boolP true] := by
  obtain ⟨p, rfl, h1⟩ := pvOkL1 h
  obtain ⟨s, rfl, _⟩ := pvOk_str (P := Try.prog) (t := 9) (by kernel_rfl) h1
  refine Ev.some ?_
  simp only [laws_FnExactMachineGet.f_eq, strs_len, strs_elem, ints_len, ints_elem, items_list, fld_agg, elem_list, toStr_sc, toInt_sc, toBool_sc, headD_one, nat_int, get_bt, decide_eq_true_eq, decide_eq_false_iff_not, decide_true, decide_false, if_true, if_false, ite_self, Bool.not_true, Bool.not_false, Bool.false_eq_true, Bool.true_eq_false, Bool.true_and, Bool.false_and, Bool.and_true, Bool.and_false, not_true, not_false_iff, Option.bind_some, nn, toList_inj, Bool.not_eq_true', Bool.not_eq_false', Int.le_refl, and_self, true_and, and_true, false_and, and_false, bne_self_eq_false, beq_self_eq_true, Int.reduceEq, Nat.reduceEqDiff, List.length_singleton, List.tail_cons, Int.reduceLE, Int.reduceLT, decide_eq_true_eq]
  by_cases ha : (1048576 : Int) < (s.size : Int)
  · simp only [ha, strs_len, strs_elem, ints_len, ints_elem, items_list, fld_agg, elem_list, toStr_sc, toInt_sc, toBool_sc, headD_one, nat_int, get_bt, decide_eq_true_eq, decide_eq_false_iff_not, decide_true, decide_false, if_true, if_false, ite_self, Bool.not_true, Bool.not_false, Bool.false_eq_true, Bool.true_eq_false, Bool.true_and, Bool.false_and, Bool.and_true, Bool.and_false, not_true, not_false_iff, Option.bind_some, nn, toList_inj, Bool.not_eq_true', Bool.not_eq_false', Int.le_refl, and_self, true_and, and_true, false_and, and_false, bne_self_eq_false, beq_self_eq_true, Int.reduceEq, Nat.reduceEqDiff, List.length_singleton, List.tail_cons, Int.reduceLE, Int.reduceLT, decide_eq_true_eq]; exact Ev.now _
  have ha' : s.size ≤ 1048576 := by omega
  have hm := getM_B s
  have hc := cntM_le _ hm
  simp only [ha, strs_len, strs_elem, ints_len, ints_elem, items_list, fld_agg, elem_list, toStr_sc, toInt_sc, toBool_sc, headD_one, nat_int, get_bt, decide_eq_true_eq, decide_eq_false_iff_not, decide_true, decide_false, if_true, if_false, ite_self, Bool.not_true, Bool.not_false, Bool.false_eq_true, Bool.true_eq_false, Bool.true_and, Bool.false_and, Bool.and_true, Bool.and_false, not_true, not_false_iff, Option.bind_some, nn, toList_inj, Bool.not_eq_true', Bool.not_eq_false', Int.le_refl, and_self, true_and, and_true, false_and, and_false, bne_self_eq_false, beq_self_eq_true, Int.reduceEq, Nat.reduceEqDiff, List.length_singleton, List.tail_cons, Int.reduceLE, Int.reduceLT, decide_eq_true_eq]
  refine Ev.bind (specGet_ev s ha') ?_
  refine Ev.bind (implGet_ev s ha') ?_
  simp only [headD_one, List.tail_cons]
  refine Ev.bind (eqStates_ev _ hm) ?_
  simp only [strs_len, strs_elem, ints_len, ints_elem, items_list, fld_agg, elem_list, toStr_sc, toInt_sc, toBool_sc, headD_one, nat_int, get_bt, decide_eq_true_eq, decide_eq_false_iff_not, decide_true, decide_false, if_true, if_false, ite_self, Bool.not_true, Bool.not_false, Bool.false_eq_true, Bool.true_eq_false, Bool.true_and, Bool.false_and, Bool.and_true, Bool.and_false, not_true, not_false_iff, Option.bind_some, nn, toList_inj, Bool.not_eq_true', Bool.not_eq_false', Int.le_refl, and_self, true_and, and_true, false_and, and_false, bne_self_eq_false, beq_self_eq_true, Int.reduceEq, Nat.reduceEqDiff, List.length_singleton, List.tail_cons, Int.reduceLE, Int.reduceLT, decide_eq_true_eq]
  refine Ev.bind (markS_ev _ 1 hm (by omega) (by omega)) ?_
  simp only [headD_one, List.tail_cons]
  refine Ev.bind (heldS_ev _ 1 hm (by omega) (by omega)) ?_
  have hneg : ¬ (1 + (cntM (getM s).1 : Int) < 0) := by omega
  simp only [hneg, strs_len, strs_elem, ints_len, ints_elem, items_list, fld_agg, elem_list, toStr_sc, toInt_sc, toBool_sc, headD_one, nat_int, get_bt, decide_eq_true_eq, decide_eq_false_iff_not, decide_true, decide_false, if_true, if_false, ite_self, Bool.not_true, Bool.not_false, Bool.false_eq_true, Bool.true_eq_false, Bool.true_and, Bool.false_and, Bool.and_true, Bool.and_false, not_true, not_false_iff, Option.bind_some, nn, toList_inj, Bool.not_eq_true', Bool.not_eq_false', Int.le_refl, and_self, true_and, and_true, false_and, and_false, bne_self_eq_false, beq_self_eq_true, Int.reduceEq, Nat.reduceEqDiff, List.length_singleton, List.tail_cons, Int.reduceLE, Int.reduceLT, decide_eq_true_eq]
  refine Ev.bind (implGet_ev s ha') ?_
  simp only [headD_one, List.tail_cons]
  refine Ev.bind (eqStates_ev _ hm) ?_
  simp only [strs_len, strs_elem, ints_len, ints_elem, items_list, fld_agg, elem_list, toStr_sc, toInt_sc, toBool_sc, headD_one, nat_int, get_bt, decide_eq_true_eq, decide_eq_false_iff_not, decide_true, decide_false, if_true, if_false, ite_self, Bool.not_true, Bool.not_false, Bool.false_eq_true, Bool.true_eq_false, Bool.true_and, Bool.false_and, Bool.and_true, Bool.and_false, not_true, not_false_iff, Option.bind_some, nn, toList_inj, Bool.not_eq_true', Bool.not_eq_false', Int.le_refl, and_self, true_and, and_true, false_and, and_false, bne_self_eq_false, beq_self_eq_true, Int.reduceEq, Nat.reduceEqDiff, List.length_singleton, List.tail_cons, Int.reduceLE, Int.reduceLT, decide_eq_true_eq]
  refine Ev.bind (heldS_ev _ 1 hm (by omega) (by omega)) ?_
  simp only [hneg, strs_len, strs_elem, ints_len, ints_elem, items_list, fld_agg, elem_list, toStr_sc, toInt_sc, toBool_sc, headD_one, nat_int, get_bt, decide_eq_true_eq, decide_eq_false_iff_not, decide_true, decide_false, if_true, if_false, ite_self, Bool.not_true, Bool.not_false, Bool.false_eq_true, Bool.true_eq_false, Bool.true_and, Bool.false_and, Bool.and_true, Bool.and_false, not_true, not_false_iff, Option.bind_some, nn, toList_inj, Bool.not_eq_true', Bool.not_eq_false', Int.le_refl, and_self, true_and, and_true, false_and, and_false, bne_self_eq_false, beq_self_eq_true, Int.reduceEq, Nat.reduceEqDiff, List.length_singleton, List.tail_cons, Int.reduceLE, Int.reduceLT, decide_eq_true_eq]
  exact Ev.now _
end Go.Proofs.Ytfbkfhdlingedaa.FnExactMachineGet
