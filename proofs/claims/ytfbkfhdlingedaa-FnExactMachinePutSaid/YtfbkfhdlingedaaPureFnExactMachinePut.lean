/- The law FnExactMachinePut, over the trees that its functions compute: it answers true, for all arguments of the bounds that the row grants. -/
import Derived.Test.YtfbkfhdlingedaaFnFnExactMachinePutx1
set_option linter.unusedVariables false
set_option linter.unusedSimpArgs false
set_option maxRecDepth 10000
namespace Go.Proofs.Ytfbkfhdlingedaa.FnExactMachinePut
open Go Go.Proofs.YtfbkfhdlingedaaAm
theorem Ev2.bind2 {α β : Type} {r : α} {s : β} {g : Nat → Nat → Option β} {f : Nat → Nat → β → Option α} (h : Ev2 g s) (k : Ev2 (fun N n => f N n s) r) : Ev2 (fun N n => (g N n).bind (f N n)) r := by
  obtain ⟨k1, h1⟩ := h; obtain ⟨k2, h2⟩ := k
  exact ⟨max k1 k2, fun N n hN hn => by
    show (g N n).bind (f N n) = _
    rw [h1 N n (by omega) (by omega), Option.bind_some]; exact h2 N n (by omega) (by omega)⟩
theorem nat_wrap {n : Int} {m : Nat} (h : n = (m : Int)) (hm : m < 9223372036854775808) : IntKind.i64.wrap n = (m : Int) := by
  rw [h, wrap_id (by omega) (by omega)]
theorem lt_int {a b : Nat} (h : a < b) : (a : Int) < (b : Int) := Int.ofNat_lt.2 h
theorem le_int {a b : Nat} (h : a ≤ b) : (a : Int) ≤ (b : Int) := Int.ofNat_le.2 h
/-! #### machines: states and edges -/
abbrev Ed := Int × Int
abbrev St := Bool × List Ed
def edgeP (e : Ed) : PV := .agg [intP e.1, intP e.2]
def edgesP (l : List Ed) : PV := .list (l.map edgeP)
def stP (s : St) : PV := .agg [boolP s.1, edgesP s.2]
def machP (m : List St) : PV := .list (m.map stP)
theorem edge_f0 (e : Ed) : (edgeP e).fld 0 = intP e.1 := rfl
theorem edge_f1 (e : Ed) : (edgeP e).fld 1 = intP e.2 := rfl
theorem edge_agg (e : Ed) : PV.agg [PV.sc (.int .i64 e.1), PV.sc (.int .i64 e.2)] = edgeP e := rfl
theorem st_f0 (s : St) : (stP s).fld 0 = boolP s.1 := rfl
theorem st_f1 (s : St) : (stP s).fld 1 = edgesP s.2 := rfl
theorem st_agg (s : St) : PV.agg [PV.sc (.bool s.1), edgesP s.2] = stP s := rfl
theorem edges_len (l : List Ed) : (edgesP l).items.length = l.length := by simp [edgesP, PV.items]
theorem mach_len (l : List St) : (machP l).items.length = l.length := by simp [machP, PV.items]
theorem edges_at {l pre rest : List Ed} {e : Ed} (h : l = pre ++ e :: rest) : (edgesP l).elem pre.length = edgeP e := by
  subst h; simp [edgesP, PV.elem, PV.items, List.getD_eq_getElem?_getD]
theorem mach_at {l pre rest : List St} {s : St} (h : l = pre ++ s :: rest) : (machP l).elem pre.length = stP s := by
  subst h; simp [machP, PV.elem, PV.items, List.getD_eq_getElem?_getD]
/-! The size. -/
theorem szEdge_ev (l : List Ed) (left : Int) (h0 : 0 ≤ left) (h1 : left ≤ 1048576) (hl : l.length ≤ 9223372036854775807) (N : Nat) : laws_szEdgeS.f N [edgesP l, intP left] = some [intP (if left - l.length < 0 then -1 else left - l.length)] := by
  have hw : IntKind.i64.wrap (left - (l.length : Int)) = left - l.length := wrap_id (by omega) (by omega)
  simp only [laws_szEdgeS.f_eq, edges_len, hw, strs_len, strs_elem, ints_len, ints_elem, items_list, fld_agg, elem_list, toStr_sc, toInt_sc, toBool_sc, headD_one, nat_int, get_bt, decide_eq_true_eq, decide_eq_false_iff_not, decide_true, decide_false, if_true, if_false, ite_self, Bool.not_true, Bool.not_false, Bool.false_eq_true, Bool.true_eq_false, Bool.true_and, Bool.false_and, Bool.and_true, Bool.and_false, not_true, not_false_iff, Option.bind_some, nn, toList_inj, Bool.not_eq_true', Bool.not_eq_false', Int.le_refl, and_self, true_and, and_true, false_and, and_false, bne_self_eq_false, beq_self_eq_true, Int.reduceEq, Nat.reduceEqDiff, List.length_singleton, List.tail_cons, Int.reduceLE, Int.reduceLT, decide_eq_true_eq]
  by_cases h : left - (l.length : Int) < 0 <;> simp only [h, strs_len, strs_elem, ints_len, ints_elem, items_list, fld_agg, elem_list, toStr_sc, toInt_sc, toBool_sc, headD_one, nat_int, get_bt, decide_eq_true_eq, decide_eq_false_iff_not, decide_true, decide_false, if_true, if_false, ite_self, Bool.not_true, Bool.not_false, Bool.false_eq_true, Bool.true_eq_false, Bool.true_and, Bool.false_and, Bool.and_true, Bool.and_false, not_true, not_false_iff, Option.bind_some, nn, toList_inj, Bool.not_eq_true', Bool.not_eq_false', Int.le_refl, and_self, true_and, and_true, false_and, and_false, bne_self_eq_false, beq_self_eq_true, Int.reduceEq, Nat.reduceEqDiff, List.length_singleton, List.tail_cons, Int.reduceLE, Int.reduceLT, decide_eq_true_eq]
theorem szState_val (s : St) (left : Int) (h0 : 0 ≤ left) (h1 : left ≤ 1048576) (hl : s.2.length ≤ 9223372036854775807) (N : Nat) : laws_szState.f N [stP s, intP left] = some [intP (if left - s.2.length < 0 then -1 else left - s.2.length)] := by
  simp only [laws_szState.f_eq, st_f1, szEdge_ev s.2 left h0 h1 hl, strs_len, strs_elem, ints_len, ints_elem, items_list, fld_agg, elem_list, toStr_sc, toInt_sc, toBool_sc, headD_one, nat_int, get_bt, decide_eq_true_eq, decide_eq_false_iff_not, decide_true, decide_false, if_true, if_false, ite_self, Bool.not_true, Bool.not_false, Bool.false_eq_true, Bool.true_eq_false, Bool.true_and, Bool.false_and, Bool.and_true, Bool.and_false, not_true, not_false_iff, Option.bind_some, nn, toList_inj, Bool.not_eq_true', Bool.not_eq_false', Int.le_refl, and_self, true_and, and_true, false_and, and_false, bne_self_eq_false, beq_self_eq_true, Int.reduceEq, Nat.reduceEqDiff, List.length_singleton, List.tail_cons, Int.reduceLE, Int.reduceLT, decide_eq_true_eq]
  by_cases h : left - (s.2.length : Int) < 0
  · have z : ((-1 : Int) < 0) = True := eq_true (by omega)
    simp only [h, z, strs_len, strs_elem, ints_len, ints_elem, items_list, fld_agg, elem_list, toStr_sc, toInt_sc, toBool_sc, headD_one, nat_int, get_bt, decide_eq_true_eq, decide_eq_false_iff_not, decide_true, decide_false, if_true, if_false, ite_self, Bool.not_true, Bool.not_false, Bool.false_eq_true, Bool.true_eq_false, Bool.true_and, Bool.false_and, Bool.and_true, Bool.and_false, not_true, not_false_iff, Option.bind_some, nn, toList_inj, Bool.not_eq_true', Bool.not_eq_false', Int.le_refl, and_self, true_and, and_true, false_and, and_false, bne_self_eq_false, beq_self_eq_true, Int.reduceEq, Nat.reduceEqDiff, List.length_singleton, List.tail_cons, Int.reduceLE, Int.reduceLT, decide_eq_true_eq]
  · simp only [h, strs_len, strs_elem, ints_len, ints_elem, items_list, fld_agg, elem_list, toStr_sc, toInt_sc, toBool_sc, headD_one, nat_int, get_bt, decide_eq_true_eq, decide_eq_false_iff_not, decide_true, decide_false, if_true, if_false, ite_self, Bool.not_true, Bool.not_false, Bool.false_eq_true, Bool.true_eq_false, Bool.true_and, Bool.false_and, Bool.and_true, Bool.and_false, not_true, not_false_iff, Option.bind_some, nn, toList_inj, Bool.not_eq_true', Bool.not_eq_false', Int.le_refl, and_self, true_and, and_true, false_and, and_false, bne_self_eq_false, beq_self_eq_true, Int.reduceEq, Nat.reduceEqDiff, List.length_singleton, List.tail_cons, Int.reduceLE, Int.reduceLT, decide_eq_true_eq]
theorem szStates_loop (m : List St) (hm : m.length ≤ 9223372036854775807) (hs : ∀ s ∈ m, s.2.length ≤ 9223372036854775807) : ∀ rest pre : List St, m = pre ++ rest → ∀ left : Int, 0 ≤ left → left ≤ 1048576 →
    ∃ r, Ev2 (fun N n => laws_szStateS.l0 N n (machP m) left (pre.length : Int)) [intP r] ∧ (0 ≤ r → ∀ s ∈ rest, (s.2.length : Int) ≤ left) := by
  intro rest
  induction rest with
  | nil =>
    intro pre hp left h0 h1
    refine ⟨left, Ev2.succ ?_, fun _ => by simp⟩
    simp only [laws_szStateS.l0_eq, mach_len, at_end hp, strs_len, strs_elem, ints_len, ints_elem, items_list, fld_agg, elem_list, toStr_sc, toInt_sc, toBool_sc, headD_one, nat_int, get_bt, decide_eq_true_eq, decide_eq_false_iff_not, decide_true, decide_false, if_true, if_false, ite_self, Bool.not_true, Bool.not_false, Bool.false_eq_true, Bool.true_eq_false, Bool.true_and, Bool.false_and, Bool.and_true, Bool.and_false, not_true, not_false_iff, Option.bind_some, nn, toList_inj, Bool.not_eq_true', Bool.not_eq_false', Int.le_refl, and_self, true_and, and_true, false_and, and_false, bne_self_eq_false, beq_self_eq_true, Int.reduceEq, Nat.reduceEqDiff, List.length_singleton, List.tail_cons, Int.reduceLE, Int.reduceLT, decide_eq_true_eq]
    exact Ev2.now _
  | cons c rest ih =>
    intro pre hp left h0 h1
    have hc : c.2.length ≤ 9223372036854775807 := hs c (by rw [hp]; simp)
    by_cases hneg : left - (c.2.length : Int) < 0
    · refine ⟨-1, Ev2.succ ?_, fun h => by omega⟩
      have z : ((-1 : Int) < 0) = True := eq_true (by omega)
      simp only [laws_szStateS.l0_eq, mach_len, at_lt hp, mach_at hp, st_f0, st_f1, st_agg, szState_val c left h0 h1 hc, hneg, z, strs_len, strs_elem, ints_len, ints_elem, items_list, fld_agg, elem_list, toStr_sc, toInt_sc, toBool_sc, headD_one, nat_int, get_bt, decide_eq_true_eq, decide_eq_false_iff_not, decide_true, decide_false, if_true, if_false, ite_self, Bool.not_true, Bool.not_false, Bool.false_eq_true, Bool.true_eq_false, Bool.true_and, Bool.false_and, Bool.and_true, Bool.and_false, not_true, not_false_iff, Option.bind_some, nn, toList_inj, Bool.not_eq_true', Bool.not_eq_false', Int.le_refl, and_self, true_and, and_true, false_and, and_false, bne_self_eq_false, beq_self_eq_true, Int.reduceEq, Nat.reduceEqDiff, List.length_singleton, List.tail_cons, Int.reduceLE, Int.reduceLT, decide_eq_true_eq]
      exact Ev2.now _
    · obtain ⟨r, hr, hv⟩ := ih _ (at_step hp) (left - c.2.length) (by omega) (by omega)
      refine ⟨r, Ev2.succ ?_, fun h s hs => ?_⟩
      · simp only [laws_szStateS.l0_eq, mach_len, at_lt hp, mach_at hp, st_f0, st_f1, st_agg, szState_val c left h0 h1 hc, hneg, at_next hp hm, strs_len, strs_elem, ints_len, ints_elem, items_list, fld_agg, elem_list, toStr_sc, toInt_sc, toBool_sc, headD_one, nat_int, get_bt, decide_eq_true_eq, decide_eq_false_iff_not, decide_true, decide_false, if_true, if_false, ite_self, Bool.not_true, Bool.not_false, Bool.false_eq_true, Bool.true_eq_false, Bool.true_and, Bool.false_and, Bool.and_true, Bool.and_false, not_true, not_false_iff, Option.bind_some, nn, toList_inj, Bool.not_eq_true', Bool.not_eq_false', Int.le_refl, and_self, true_and, and_true, false_and, and_false, bne_self_eq_false, beq_self_eq_true, Int.reduceEq, Nat.reduceEqDiff, List.length_singleton, List.tail_cons, Int.reduceLE, Int.reduceLT, decide_eq_true_eq]
        exact hr
      · rcases List.mem_cons.1 hs with rfl | hs
        · omega
        · have := hv h s hs; omega
theorem szStates_ev (m : List St) (hm : m.length ≤ 9223372036854775807) (hs : ∀ s ∈ m, s.2.length ≤ 9223372036854775807) (left : Int) (h0 : 0 ≤ left) (h1 : left ≤ 1048576) :
    ∃ r, Ev (fun N => laws_szStateS.f N [machP m, intP left]) [intP r] ∧ (0 ≤ r → (m.length : Int) ≤ left ∧ ∀ s ∈ m, (s.2.length : Int) ≤ left) := by
  have hw : IntKind.i64.wrap (left - (m.length : Int)) = left - m.length := wrap_id (by omega) (by omega)
  by_cases hneg : left - (m.length : Int) < 0
  · refine ⟨-1, ?_, fun h => by omega⟩
    simp only [laws_szStateS.f_eq, mach_len, hw, hneg, strs_len, strs_elem, ints_len, ints_elem, items_list, fld_agg, elem_list, toStr_sc, toInt_sc, toBool_sc, headD_one, nat_int, get_bt, decide_eq_true_eq, decide_eq_false_iff_not, decide_true, decide_false, if_true, if_false, ite_self, Bool.not_true, Bool.not_false, Bool.false_eq_true, Bool.true_eq_false, Bool.true_and, Bool.false_and, Bool.and_true, Bool.and_false, not_true, not_false_iff, Option.bind_some, nn, toList_inj, Bool.not_eq_true', Bool.not_eq_false', Int.le_refl, and_self, true_and, and_true, false_and, and_false, bne_self_eq_false, beq_self_eq_true, Int.reduceEq, Nat.reduceEqDiff, List.length_singleton, List.tail_cons, Int.reduceLE, Int.reduceLT, decide_eq_true_eq]
    exact Ev.now _
  · obtain ⟨r, hr, hv⟩ := szStates_loop m hm hs m [] rfl (left - m.length) (by omega) (by omega)
    refine ⟨r, ?_, fun h => ⟨by omega, fun s hs => by have := hv h s hs; omega⟩⟩
    simp only [laws_szStateS.f_eq, mach_len, hw, hneg, strs_len, strs_elem, ints_len, ints_elem, items_list, fld_agg, elem_list, toStr_sc, toInt_sc, toBool_sc, headD_one, nat_int, get_bt, decide_eq_true_eq, decide_eq_false_iff_not, decide_true, decide_false, if_true, if_false, ite_self, Bool.not_true, Bool.not_false, Bool.false_eq_true, Bool.true_eq_false, Bool.true_and, Bool.false_and, Bool.and_true, Bool.and_false, not_true, not_false_iff, Option.bind_some, nn, toList_inj, Bool.not_eq_true', Bool.not_eq_false', Int.le_refl, and_self, true_and, and_true, false_and, and_false, bne_self_eq_false, beq_self_eq_true, Int.reduceEq, Nat.reduceEqDiff, List.length_singleton, List.tail_cons, Int.reduceLE, Int.reduceLT, decide_eq_true_eq]
    exact hr.diag
/-- A machine of bounded size. -/
structure MachB (m : List St) : Prop where
  n : m.length ≤ 1048576
  e : ∀ s ∈ m, s.2.length ≤ 1048576
/-! The copy. -/
theorem set_map {α : Type} (f : α → PV) (pre : List α) (z x : PV) (zs : List PV) : (pre.map f ++ z :: zs).set pre.length x = pre.map f ++ x :: zs := by
  have := set_mid (pre.map f) z x zs
  rwa [List.length_map] at this
theorem map_snoc {α : Type} (f : α → PV) (pre : List α) (c : α) (zs : List PV) : pre.map f ++ f c :: zs = (pre ++ [c]).map f ++ zs := by simp
theorem toEdge_val (e : Ed) (N : Nat) : laws_toEdge.f N [edgeP e] = some [edgeP e] := by
  simp only [laws_toEdge.f_eq, edge_f0, edge_f1, edge_agg, strs_len, strs_elem, ints_len, ints_elem, items_list, fld_agg, elem_list, toStr_sc, toInt_sc, toBool_sc, headD_one, nat_int, get_bt, decide_eq_true_eq, decide_eq_false_iff_not, decide_true, decide_false, if_true, if_false, ite_self, Bool.not_true, Bool.not_false, Bool.false_eq_true, Bool.true_eq_false, Bool.true_and, Bool.false_and, Bool.and_true, Bool.and_false, not_true, not_false_iff, Option.bind_some, nn, toList_inj, Bool.not_eq_true', Bool.not_eq_false', Int.le_refl, and_self, true_and, and_true, false_and, and_false, bne_self_eq_false, beq_self_eq_true, Int.reduceEq, Nat.reduceEqDiff, List.length_singleton, List.tail_cons, Int.reduceLE, Int.reduceLT, decide_eq_true_eq]
theorem toEdges_loop (l : List Ed) (hl : l.length ≤ 1048576) : ∀ rest pre : List Ed, l = pre ++ rest → Ev2 (fun N n => laws_toEdgeS.l0 N n (edgesP l) (pre.length : Int) (pre.map edgeP ++ List.replicate rest.length (PV.agg [intP 0, intP 0]))) [edgesP l] := by
  intro rest
  induction rest with
  | nil =>
    intro pre hp
    refine Ev2.succ ?_
    have e : PV.list (pre.map edgeP) = edgesP l := by rw [hp, List.append_nil]; rfl
    simp only [laws_toEdgeS.l0_eq, edges_len, at_end hp, List.length_nil, List.replicate_zero, List.append_nil, e, strs_len, strs_elem, ints_len, ints_elem, items_list, fld_agg, elem_list, toStr_sc, toInt_sc, toBool_sc, headD_one, nat_int, get_bt, decide_eq_true_eq, decide_eq_false_iff_not, decide_true, decide_false, if_true, if_false, ite_self, Bool.not_true, Bool.not_false, Bool.false_eq_true, Bool.true_eq_false, Bool.true_and, Bool.false_and, Bool.and_true, Bool.and_false, not_true, not_false_iff, Option.bind_some, nn, toList_inj, Bool.not_eq_true', Bool.not_eq_false', Int.le_refl, and_self, true_and, and_true, false_and, and_false, bne_self_eq_false, beq_self_eq_true, Int.reduceEq, Nat.reduceEqDiff, List.length_singleton, List.tail_cons, Int.reduceLE, Int.reduceLT, decide_eq_true_eq]
    exact Ev2.now _
  | cons c rest ih =>
    intro pre hp
    refine Ev2.succ ?_
    have hlen : (pre.length : Int) < (((pre.map edgeP ++ PV.agg [intP 0, intP 0] :: List.replicate rest.length (PV.agg [intP 0, intP 0])).length : Nat) : Int) := by simp; omega
    simp only [laws_toEdgeS.l0_eq, edges_len, at_lt hp, edges_at hp, edge_f0, edge_f1, edge_agg, toEdge_val, List.length_cons, List.replicate_succ, at_next hp (by omega), nat_int, set_map, map_snoc, headD_one, Option.bind_some, toInt_sc, decide_true, if_true, nn]
    have hlen' : (pre.length : Int) < ((pre.map edgeP ++ PV.agg [intP 0, intP 0] :: List.replicate rest.length (PV.agg [intP 0, intP 0])).length : Int) := hlen
    simp only [hlen', if_true]
    exact ih _ (at_step hp)
theorem toEdges_ev (l : List Ed) (hl : l.length ≤ 1048576) : Ev (fun N => laws_toEdgeS.f N [edgesP l]) [edgesP l] := by
  have c1 : l.length ≤ 17592186044416 := by omega
  simp only [laws_toEdgeS.f_eq, edges_len, c1, strs_len, strs_elem, ints_len, ints_elem, items_list, fld_agg, elem_list, toStr_sc, toInt_sc, toBool_sc, headD_one, nat_int, get_bt, decide_eq_true_eq, decide_eq_false_iff_not, decide_true, decide_false, if_true, if_false, ite_self, Bool.not_true, Bool.not_false, Bool.false_eq_true, Bool.true_eq_false, Bool.true_and, Bool.false_and, Bool.and_true, Bool.and_false, not_true, not_false_iff, Option.bind_some, nn, toList_inj, Bool.not_eq_true', Bool.not_eq_false', Int.le_refl, and_self, true_and, and_true, false_and, and_false, bne_self_eq_false, beq_self_eq_true, Int.reduceEq, Nat.reduceEqDiff, List.length_singleton, List.tail_cons, Int.reduceLE, Int.reduceLT, decide_eq_true_eq]
  exact (toEdges_loop l hl l [] rfl).diag
theorem toState_ev (s : St) (hl : s.2.length ≤ 1048576) : Ev (fun N => laws_toState.f N [stP s]) [stP s] := by
  simp only [laws_toState.f_eq, st_f0, st_f1, strs_len, strs_elem, ints_len, ints_elem, items_list, fld_agg, elem_list, toStr_sc, toInt_sc, toBool_sc, headD_one, nat_int, get_bt, decide_eq_true_eq, decide_eq_false_iff_not, decide_true, decide_false, if_true, if_false, ite_self, Bool.not_true, Bool.not_false, Bool.false_eq_true, Bool.true_eq_false, Bool.true_and, Bool.false_and, Bool.and_true, Bool.and_false, not_true, not_false_iff, Option.bind_some, nn, toList_inj, Bool.not_eq_true', Bool.not_eq_false', Int.le_refl, and_self, true_and, and_true, false_and, and_false, bne_self_eq_false, beq_self_eq_true, Int.reduceEq, Nat.reduceEqDiff, List.length_singleton, List.tail_cons, Int.reduceLE, Int.reduceLT, decide_eq_true_eq]
  refine Ev.bind (toEdges_ev s.2 hl) ?_
  simp only [st_agg, strs_len, strs_elem, ints_len, ints_elem, items_list, fld_agg, elem_list, toStr_sc, toInt_sc, toBool_sc, headD_one, nat_int, get_bt, decide_eq_true_eq, decide_eq_false_iff_not, decide_true, decide_false, if_true, if_false, ite_self, Bool.not_true, Bool.not_false, Bool.false_eq_true, Bool.true_eq_false, Bool.true_and, Bool.false_and, Bool.and_true, Bool.and_false, not_true, not_false_iff, Option.bind_some, nn, toList_inj, Bool.not_eq_true', Bool.not_eq_false', Int.le_refl, and_self, true_and, and_true, false_and, and_false, bne_self_eq_false, beq_self_eq_true, Int.reduceEq, Nat.reduceEqDiff, List.length_singleton, List.tail_cons, Int.reduceLE, Int.reduceLT, decide_eq_true_eq]
  exact Ev.now _
theorem toStates_loop (m : List St) (hm : MachB m) : ∀ rest pre : List St, m = pre ++ rest → Ev2 (fun N n => laws_toStateS.l0 N n (machP m) (pre.length : Int) (pre.map stP ++ List.replicate rest.length (PV.agg [boolP false, PV.list []]))) [machP m] := by
  have hn := hm.n
  intro rest
  induction rest with
  | nil =>
    intro pre hp
    refine Ev2.succ ?_
    have e : PV.list (pre.map stP) = machP m := by rw [hp, List.append_nil]; rfl
    simp only [laws_toStateS.l0_eq, mach_len, at_end hp, List.length_nil, List.replicate_zero, List.append_nil, e, strs_len, strs_elem, ints_len, ints_elem, items_list, fld_agg, elem_list, toStr_sc, toInt_sc, toBool_sc, headD_one, nat_int, get_bt, decide_eq_true_eq, decide_eq_false_iff_not, decide_true, decide_false, if_true, if_false, ite_self, Bool.not_true, Bool.not_false, Bool.false_eq_true, Bool.true_eq_false, Bool.true_and, Bool.false_and, Bool.and_true, Bool.and_false, not_true, not_false_iff, Option.bind_some, nn, toList_inj, Bool.not_eq_true', Bool.not_eq_false', Int.le_refl, and_self, true_and, and_true, false_and, and_false, bne_self_eq_false, beq_self_eq_true, Int.reduceEq, Nat.reduceEqDiff, List.length_singleton, List.tail_cons, Int.reduceLE, Int.reduceLT, decide_eq_true_eq]
    exact Ev2.now _
  | cons c rest ih =>
    intro pre hp
    refine Ev2.succ ?_
    have hlen : (pre.length : Int) < (((pre.map stP ++ PV.agg [boolP false, PV.list []] :: List.replicate rest.length (PV.agg [boolP false, PV.list []])).length : Nat) : Int) := by simp; omega
    simp only [laws_toStateS.l0_eq, mach_len, at_lt hp, mach_at hp, st_f0, st_f1, st_agg, List.length_cons, List.replicate_succ, at_next hp (by omega), nat_int, set_map, Option.bind_some, toBool_sc, decide_true, if_true, nn]
    refine Ev2.bind (toState_ev c (hm.e c (by rw [hp]; simp))) ?_
    simp only [hlen, headD_one, st_f0, st_f1, st_agg, toBool_sc, if_true, map_snoc]
    exact ih _ (at_step hp)
theorem toStates_ev (m : List St) (hm : MachB m) : Ev (fun N => laws_toStateS.f N [machP m]) [machP m] := by
  have hn := hm.n
  have c1 : m.length ≤ 8796093022208 := by omega
  simp only [laws_toStateS.f_eq, mach_len, c1, strs_len, strs_elem, ints_len, ints_elem, items_list, fld_agg, elem_list, toStr_sc, toInt_sc, toBool_sc, headD_one, nat_int, get_bt, decide_eq_true_eq, decide_eq_false_iff_not, decide_true, decide_false, if_true, if_false, ite_self, Bool.not_true, Bool.not_false, Bool.false_eq_true, Bool.true_eq_false, Bool.true_and, Bool.false_and, Bool.and_true, Bool.and_false, not_true, not_false_iff, Option.bind_some, nn, toList_inj, Bool.not_eq_true', Bool.not_eq_false', Int.le_refl, and_self, true_and, and_true, false_and, and_false, bne_self_eq_false, beq_self_eq_true, Int.reduceEq, Nat.reduceEqDiff, List.length_singleton, List.tail_cons, Int.reduceLE, Int.reduceLT, decide_eq_true_eq]
  exact (toStates_loop m hm m [] rfl).diag
/-! The comparison with itself. -/
theorem eqEdge_val (e : Ed) (N : Nat) : laws_eqEdge.f N [edgeP e, edgeP e] = some [boolP true] := by
  simp only [laws_eqEdge.f_eq, edge_f0, edge_f1, strs_len, strs_elem, ints_len, ints_elem, items_list, fld_agg, elem_list, toStr_sc, toInt_sc, toBool_sc, headD_one, nat_int, get_bt, decide_eq_true_eq, decide_eq_false_iff_not, decide_true, decide_false, if_true, if_false, ite_self, Bool.not_true, Bool.not_false, Bool.false_eq_true, Bool.true_eq_false, Bool.true_and, Bool.false_and, Bool.and_true, Bool.and_false, not_true, not_false_iff, Option.bind_some, nn, toList_inj, Bool.not_eq_true', Bool.not_eq_false', Int.le_refl, and_self, true_and, and_true, false_and, and_false, bne_self_eq_false, beq_self_eq_true, Int.reduceEq, Nat.reduceEqDiff, List.length_singleton, List.tail_cons, Int.reduceLE, Int.reduceLT, decide_eq_true_eq]
theorem eqEdges_loop (l : List Ed) (hl : l.length ≤ 1048576) : ∀ rest pre : List Ed, l = pre ++ rest → Ev2 (fun N n => laws_eqEdgeS.l0 N n (edgesP l) (edgesP l) (pre.length : Int)) [boolP true] := by
  intro rest
  induction rest with
  | nil =>
    intro pre hp
    refine Ev2.succ ?_
    simp only [laws_eqEdgeS.l0_eq, edges_len, at_end hp, strs_len, strs_elem, ints_len, ints_elem, items_list, fld_agg, elem_list, toStr_sc, toInt_sc, toBool_sc, headD_one, nat_int, get_bt, decide_eq_true_eq, decide_eq_false_iff_not, decide_true, decide_false, if_true, if_false, ite_self, Bool.not_true, Bool.not_false, Bool.false_eq_true, Bool.true_eq_false, Bool.true_and, Bool.false_and, Bool.and_true, Bool.and_false, not_true, not_false_iff, Option.bind_some, nn, toList_inj, Bool.not_eq_true', Bool.not_eq_false', Int.le_refl, and_self, true_and, and_true, false_and, and_false, bne_self_eq_false, beq_self_eq_true, Int.reduceEq, Nat.reduceEqDiff, List.length_singleton, List.tail_cons, Int.reduceLE, Int.reduceLT, decide_eq_true_eq]
    exact Ev2.now _
  | cons c rest ih =>
    intro pre hp
    refine Ev2.succ ?_
    simp only [laws_eqEdgeS.l0_eq, edges_len, at_lt hp, edges_at hp, edge_f0, edge_f1, edge_agg, eqEdge_val, at_next hp (by omega), strs_len, strs_elem, ints_len, ints_elem, items_list, fld_agg, elem_list, toStr_sc, toInt_sc, toBool_sc, headD_one, nat_int, get_bt, decide_eq_true_eq, decide_eq_false_iff_not, decide_true, decide_false, if_true, if_false, ite_self, Bool.not_true, Bool.not_false, Bool.false_eq_true, Bool.true_eq_false, Bool.true_and, Bool.false_and, Bool.and_true, Bool.and_false, not_true, not_false_iff, Option.bind_some, nn, toList_inj, Bool.not_eq_true', Bool.not_eq_false', Int.le_refl, and_self, true_and, and_true, false_and, and_false, bne_self_eq_false, beq_self_eq_true, Int.reduceEq, Nat.reduceEqDiff, List.length_singleton, List.tail_cons, Int.reduceLE, Int.reduceLT, decide_eq_true_eq]
    exact ih _ (at_step hp)
theorem eqEdges_ev (l : List Ed) (hl : l.length ≤ 1048576) : Ev (fun N => laws_eqEdgeS.f N [edgesP l, edgesP l]) [boolP true] := by
  simp only [laws_eqEdgeS.f_eq, strs_len, strs_elem, ints_len, ints_elem, items_list, fld_agg, elem_list, toStr_sc, toInt_sc, toBool_sc, headD_one, nat_int, get_bt, decide_eq_true_eq, decide_eq_false_iff_not, decide_true, decide_false, if_true, if_false, ite_self, Bool.not_true, Bool.not_false, Bool.false_eq_true, Bool.true_eq_false, Bool.true_and, Bool.false_and, Bool.and_true, Bool.and_false, not_true, not_false_iff, Option.bind_some, nn, toList_inj, Bool.not_eq_true', Bool.not_eq_false', Int.le_refl, and_self, true_and, and_true, false_and, and_false, bne_self_eq_false, beq_self_eq_true, Int.reduceEq, Nat.reduceEqDiff, List.length_singleton, List.tail_cons, Int.reduceLE, Int.reduceLT, decide_eq_true_eq]
  exact (eqEdges_loop l hl l [] rfl).diag
theorem eqState_ev (s : St) (hl : s.2.length ≤ 1048576) : Ev (fun N => laws_eqState.f N [stP s, stP s]) [boolP true] := by
  simp only [laws_eqState.f_eq, st_f0, st_f1, strs_len, strs_elem, ints_len, ints_elem, items_list, fld_agg, elem_list, toStr_sc, toInt_sc, toBool_sc, headD_one, nat_int, get_bt, decide_eq_true_eq, decide_eq_false_iff_not, decide_true, decide_false, if_true, if_false, ite_self, Bool.not_true, Bool.not_false, Bool.false_eq_true, Bool.true_eq_false, Bool.true_and, Bool.false_and, Bool.and_true, Bool.and_false, not_true, not_false_iff, Option.bind_some, nn, toList_inj, Bool.not_eq_true', Bool.not_eq_false', Int.le_refl, and_self, true_and, and_true, false_and, and_false, bne_self_eq_false, beq_self_eq_true, Int.reduceEq, Nat.reduceEqDiff, List.length_singleton, List.tail_cons, Int.reduceLE, Int.reduceLT, decide_eq_true_eq]
  refine Ev.bind (eqEdges_ev s.2 hl) ?_
  simp only [strs_len, strs_elem, ints_len, ints_elem, items_list, fld_agg, elem_list, toStr_sc, toInt_sc, toBool_sc, headD_one, nat_int, get_bt, decide_eq_true_eq, decide_eq_false_iff_not, decide_true, decide_false, if_true, if_false, ite_self, Bool.not_true, Bool.not_false, Bool.false_eq_true, Bool.true_eq_false, Bool.true_and, Bool.false_and, Bool.and_true, Bool.and_false, not_true, not_false_iff, Option.bind_some, nn, toList_inj, Bool.not_eq_true', Bool.not_eq_false', Int.le_refl, and_self, true_and, and_true, false_and, and_false, bne_self_eq_false, beq_self_eq_true, Int.reduceEq, Nat.reduceEqDiff, List.length_singleton, List.tail_cons, Int.reduceLE, Int.reduceLT, decide_eq_true_eq]
  exact Ev.now _
theorem eqStates_loop (m : List St) (hm : MachB m) : ∀ rest pre : List St, m = pre ++ rest → Ev2 (fun N n => laws_eqStateS.l0 N n (machP m) (machP m) (pre.length : Int)) [boolP true] := by
  have hn := hm.n
  intro rest
  induction rest with
  | nil =>
    intro pre hp
    refine Ev2.succ ?_
    simp only [laws_eqStateS.l0_eq, mach_len, at_end hp, strs_len, strs_elem, ints_len, ints_elem, items_list, fld_agg, elem_list, toStr_sc, toInt_sc, toBool_sc, headD_one, nat_int, get_bt, decide_eq_true_eq, decide_eq_false_iff_not, decide_true, decide_false, if_true, if_false, ite_self, Bool.not_true, Bool.not_false, Bool.false_eq_true, Bool.true_eq_false, Bool.true_and, Bool.false_and, Bool.and_true, Bool.and_false, not_true, not_false_iff, Option.bind_some, nn, toList_inj, Bool.not_eq_true', Bool.not_eq_false', Int.le_refl, and_self, true_and, and_true, false_and, and_false, bne_self_eq_false, beq_self_eq_true, Int.reduceEq, Nat.reduceEqDiff, List.length_singleton, List.tail_cons, Int.reduceLE, Int.reduceLT, decide_eq_true_eq]
    exact Ev2.now _
  | cons c rest ih =>
    intro pre hp
    refine Ev2.succ ?_
    simp only [laws_eqStateS.l0_eq, mach_len, at_lt hp, mach_at hp, st_f0, st_f1, st_agg, at_next hp (by omega), strs_len, strs_elem, ints_len, ints_elem, items_list, fld_agg, elem_list, toStr_sc, toInt_sc, toBool_sc, headD_one, nat_int, get_bt, decide_eq_true_eq, decide_eq_false_iff_not, decide_true, decide_false, if_true, if_false, ite_self, Bool.not_true, Bool.not_false, Bool.false_eq_true, Bool.true_eq_false, Bool.true_and, Bool.false_and, Bool.and_true, Bool.and_false, not_true, not_false_iff, Option.bind_some, nn, toList_inj, Bool.not_eq_true', Bool.not_eq_false', Int.le_refl, and_self, true_and, and_true, false_and, and_false, bne_self_eq_false, beq_self_eq_true, Int.reduceEq, Nat.reduceEqDiff, List.length_singleton, List.tail_cons, Int.reduceLE, Int.reduceLT, decide_eq_true_eq]
    refine Ev2.bind (eqState_ev c (hm.e c (by rw [hp]; simp))) ?_
    simp only [strs_len, strs_elem, ints_len, ints_elem, items_list, fld_agg, elem_list, toStr_sc, toInt_sc, toBool_sc, headD_one, nat_int, get_bt, decide_eq_true_eq, decide_eq_false_iff_not, decide_true, decide_false, if_true, if_false, ite_self, Bool.not_true, Bool.not_false, Bool.false_eq_true, Bool.true_eq_false, Bool.true_and, Bool.false_and, Bool.and_true, Bool.and_false, not_true, not_false_iff, Option.bind_some, nn, toList_inj, Bool.not_eq_true', Bool.not_eq_false', Int.le_refl, and_self, true_and, and_true, false_and, and_false, bne_self_eq_false, beq_self_eq_true, Int.reduceEq, Nat.reduceEqDiff, List.length_singleton, List.tail_cons, Int.reduceLE, Int.reduceLT, decide_eq_true_eq]
    exact ih _ (at_step hp)
theorem eqStates_ev (m : List St) (hm : MachB m) : Ev (fun N => laws_eqStateS.f N [machP m, machP m]) [boolP true] := by
  simp only [laws_eqStateS.f_eq, strs_len, strs_elem, ints_len, ints_elem, items_list, fld_agg, elem_list, toStr_sc, toInt_sc, toBool_sc, headD_one, nat_int, get_bt, decide_eq_true_eq, decide_eq_false_iff_not, decide_true, decide_false, if_true, if_false, ite_self, Bool.not_true, Bool.not_false, Bool.false_eq_true, Bool.true_eq_false, Bool.true_and, Bool.false_and, Bool.and_true, Bool.and_false, not_true, not_false_iff, Option.bind_some, nn, toList_inj, Bool.not_eq_true', Bool.not_eq_false', Int.le_refl, and_self, true_and, and_true, false_and, and_false, bne_self_eq_false, beq_self_eq_true, Int.reduceEq, Nat.reduceEqDiff, List.length_singleton, List.tail_cons, Int.reduceLE, Int.reduceLT, decide_eq_true_eq]
  exact (eqStates_loop m hm m [] rfl).diag
/-! #### machines that are ok -/
def edgeOk (n i : Nat) (p : Option Int) (e : Ed) : Bool := decide (97 ≤ e.1 ∧ e.1 ≤ 122) && (decide ((i : Int) + 1 ≤ e.2 ∧ e.2 ≤ (n : Int) - 1) && (match p with | none => true | some q => decide (q < e.1)))
def edgesOk (n i : Nat) : Option Int → List Ed → Bool
  | _, [] => true
  | p, e :: es => edgeOk n i p e && edgesOk n i (some e.1) es
def stOk (n i : Nat) (s : St) : Bool := edgesOk n i none s.2 && (decide (i = 0) || (s.1 || decide (s.2 ≠ [])))
def stsOk (n : Nat) : Nat → List St → Bool
  | _, [] => true
  | i, s :: r => stOk n i s && stsOk n (i + 1) r
/-- How deep it goes: T, of the states behind. -/
def depE (i : Nat) (T : List Int) : List Ed → Int → Int
  | [], a => a
  | e :: es, a => depE i T es (if a < T.getD (e.2.toNat - (i + 1)) 0 + 1 then T.getD (e.2.toNat - (i + 1)) 0 + 1 else a)
def depL (i : Nat) : List St → List Int
  | [] => []
  | s :: r => depE i (depL (i + 1) r) s.2 0 :: depL (i + 1) r
def okM (m : List St) : Bool := decide (1 ≤ m.length ∧ m.length ≤ 400) && (stsOk m.length 0 m && decide ((depL 0 m).getD 0 0 ≤ 12))
theorem stsOk_app (n : Nat) : ∀ (a b : List St) (i : Nat), stsOk n i (a ++ b) = (stsOk n i a && stsOk n (i + a.length) b)
  | [], b, i => by simp [stsOk]
  | s :: a, b, i => by
    simp only [List.cons_append, stsOk, List.length_cons]
    rw [stsOk_app n a b (i + 1), Bool.and_assoc]
    have : i + 1 + a.length = i + (a.length + 1) := by omega
    rw [this]
theorem edgesOk_to {n i : Nat} : ∀ {es : List Ed} {p : Option Int}, edgesOk n i p es = true → ∀ e ∈ es, (97 ≤ e.1 ∧ e.1 ≤ 122) ∧ (i : Int) + 1 ≤ e.2 ∧ e.2 ≤ (n : Int) - 1
  | [], _, _, e, he => absurd he (by simp)
  | c :: es, p, h, e, he => by
    simp only [edgesOk, edgeOk, Bool.and_eq_true, decide_eq_true_eq] at h
    rcases List.mem_cons.1 he with rfl | he
    · exact ⟨h.1.1, h.1.2.1⟩
    · exact edgesOk_to h.2 e he
theorem depL_len : ∀ (m : List St) (i : Nat), (depL i m).length = m.length
  | [], _ => rfl
  | s :: r, i => by simp [depL, depL_len r (i + 1)]
theorem getD_range {T : List Int} {B : Int} (h : ∀ x ∈ T, 0 ≤ x ∧ x ≤ B) (h0 : 0 ≤ B) (j : Nat) : 0 ≤ T.getD j 0 ∧ T.getD j 0 ≤ B := by
  rw [List.getD_eq_getElem?_getD]
  cases hj : T[j]? with
  | none => exact ⟨Int.le_refl _, h0⟩
  | some x => exact h x (List.mem_of_getElem? hj)
theorem depE_range {i : Nat} {T : List Int} {B : Int} (h : ∀ x ∈ T, 0 ≤ x ∧ x ≤ B) (h0 : 0 ≤ B) : ∀ (es : List Ed) (a : Int), a ≤ B + 1 → a ≤ depE i T es a ∧ depE i T es a ≤ B + 1
  | [], a, ha => ⟨Int.le_refl _, ha⟩
  | e :: es, a, ha => by
    have hg := getD_range h h0 (e.2.toNat - (i + 1))
    unfold depE
    split
    · have := depE_range (i := i) h h0 es (T.getD (e.2.toNat - (i + 1)) 0 + 1) (by omega); omega
    · exact depE_range h h0 es a ha
theorem depL_range : ∀ (m : List St) (i : Nat), ∀ x ∈ depL i m, 0 ≤ x ∧ x ≤ (m.length : Int)
  | [], _, x, hx => absurd hx (by simp [depL])
  | s :: r, i, x, hx => by
    have ih := depL_range r (i + 1)
    simp only [depL, List.mem_cons] at hx
    rcases hx with rfl | hx
    · have := depE_range (i := i) ih (Int.natCast_nonneg _) s.2 0 (by omega)
      simp only [List.length_cons]; omega
    · have := ih x hx
      simp only [List.length_cons]; omega
theorem ints_app (a b : List Int) : a.map intP ++ b.map intP = (a ++ b).map intP := by simp
/-- The array, while a state is at hand. -/
def arr (i : Nat) (a : Int) (T : List Int) : List PV := (List.replicate i (0 : Int) ++ a :: T).map intP
theorem arr_len (i : Nat) (a : Int) (T : List Int) : (arr i a T).length = i + 1 + T.length := by simp [arr]; omega
theorem arr_here (i : Nat) (a : Int) (T : List Int) : ((PV.list (arr i a T)).elem i).toInt = a := by
  have h := ints_elem (List.replicate i (0 : Int) ++ a :: T) i
  simp only [intsP] at h
  unfold arr
  rw [h]; simp [List.getD_eq_getElem?_getD]
theorem arr_at (i j : Nat) (a : Int) (T : List Int) (h : i + 1 ≤ j) : ((PV.list (arr i a T)).elem j).toInt = T.getD (j - (i + 1)) 0 := by
  have h2 := ints_elem (List.replicate i (0 : Int) ++ a :: T) j
  simp only [intsP] at h2
  unfold arr
  rw [h2, List.getD_eq_getElem?_getD, List.getD_eq_getElem?_getD, List.getElem?_append_right (by simp; omega)]
  obtain ⟨k, rfl⟩ : ∃ k, j = i + 1 + k := ⟨j - (i + 1), by omega⟩
  have e1 : i + 1 + k - (List.replicate i (0 : Int)).length = k + 1 := by simp; omega
  have e2 : i + 1 + k - (i + 1) = k := by omega
  rw [e1, e2, List.getElem?_cons_succ]
theorem arr_set (i : Nat) (a x : Int) (T : List Int) : (arr i a T).set i (intP x) = arr i x T := by
  unfold arr
  rw [← List.map_set]
  congr 1
  have := set_mid (List.replicate i (0 : Int)) a x T
  rwa [List.length_replicate] at this
theorem arr_zero (i : Nat) (T : List Int) : (List.replicate (i + 1) (0 : Int) ++ T).map intP = arr i 0 T := by
  unfold arr; rw [List.replicate_succ', List.append_assoc]; rfl
theorem at_prevN {α : Type} {xs pre' rest : List α} {q : α} (hp : xs = (pre' ++ [q]) ++ rest) (hx : xs.length ≤ 9223372036854775807) : IntKind.i64.wrap (((pre' ++ [q]).length : Int) - 1) = (pre'.length : Int) ∧ (pre'.length : Int) < (xs.length : Int) := by
  subst hp
  simp only [List.length_append, List.length_cons, List.length_nil] at hx ⊢
  refine ⟨?_, by omega⟩
  rw [wrap_id (by omega) (by omega)]; omega
/-! The reference's. -/
theorem deep_l1 (m : List St) (hm : MachB m) {pre rest : List St} {s : St} (hp : m = pre ++ s :: rest) (T : List Int) (hT : T.length = rest.length) (hTr : ∀ x ∈ T, 0 ≤ x ∧ x ≤ 1048576) (R : Int) (hes : ∀ e ∈ s.2, (pre.length : Int) + 1 ≤ e.2 ∧ e.2 ≤ (m.length : Int) - 1) :
    ∀ (es epre : List Ed), s.2 = epre ++ es → ∀ a : Int, 0 ≤ a → a ≤ 1048577 →
    (Ev2 (fun N n => spec_l3Deep.l0 N n (machP m) (IntKind.i64.wrap ((pre.length : Int) - 1)) (arr pre.length (depE pre.length T es a) T)) [intP R]) →
    Ev3 (fun N m0 n => spec_l3Deep.l1 N m0 n (machP m) (pre.length : Int) (epre.length : Int) (arr pre.length a T)) [intP R] := by
  have hn := hm.n
  have hse := hm.e s (by rw [hp]; simp)
  have hlm : m.length = pre.length + 1 + rest.length := by rw [hp]; simp; omega
  intro es
  induction es with
  | nil =>
    intro epre he a _ _ hk
    refine Ev3.succ ?_
    simp only [spec_l3Deep.l1_eq, mach_len, at_lt hp, mach_at hp, st_f1, edges_len, at_end he, strs_len, strs_elem, ints_len, ints_elem, items_list, fld_agg, elem_list, toStr_sc, toInt_sc, toBool_sc, headD_one, nat_int, get_bt, decide_eq_true_eq, decide_eq_false_iff_not, decide_true, decide_false, if_true, if_false, ite_self, Bool.not_true, Bool.not_false, Bool.false_eq_true, Bool.true_eq_false, Bool.true_and, Bool.false_and, Bool.and_true, Bool.and_false, not_true, not_false_iff, Option.bind_some, nn, toList_inj, Bool.not_eq_true', Bool.not_eq_false', Int.le_refl, and_self, true_and, and_true, false_and, and_false, bne_self_eq_false, beq_self_eq_true, Int.reduceEq, Nat.reduceEqDiff, List.length_singleton, List.tail_cons, Int.reduceLE, Int.reduceLT, decide_eq_true_eq]
    exact hk.outer
  | cons e es ih =>
    intro epre he a ha0 ha1 hk
    obtain ⟨h1, h2⟩ := hes e (by rw [he]; simp)
    obtain ⟨t, ht⟩ := Int.eq_ofNat_of_zero_le (show 0 ≤ e.2 by omega)
    have hge : pre.length + 1 ≤ t := by omega
    have ht' : t < pre.length + 1 + T.length := by omega
    have hl1 : (t : Int) < (((arr pre.length a T).length : Nat) : Int) := by rw [arr_len]; omega
    have hl2 : (pre.length : Int) < (((arr pre.length a T).length : Nat) : Int) := by rw [arr_len]; omega
    have hg := getD_range hTr (by omega) (t - (pre.length + 1))
    have hw : IntKind.i64.wrap (T.getD (t - (pre.length + 1)) 0 + 1) = T.getD (t - (pre.length + 1)) 0 + 1 := wrap_id (by omega) (by omega)
    refine Ev3.succ ?_
    have htn : (e.2).toNat = t := by rw [ht]; rfl
    have a1 := arr_at pre.length t a T hge
    have a2 := arr_here pre.length a T
    unfold depE at hk
    rw [htn] at hk
    by_cases hlt : a < T.getD (t - (pre.length + 1)) 0 + 1
    · rw [if_pos hlt] at hk
      have := ih (epre ++ [e]) (at_step he) (T.getD (t - (pre.length + 1)) 0 + 1) (by omega) (by omega) hk
      simp only [spec_l3Deep.l1_eq, mach_len, at_lt hp, mach_at hp, st_f1, edges_len, at_lt he, edges_at he, edge_f1, ht, hl1, hl2, a1, a2, hw, hlt, arr_set, at_next he (by omega), nat_int, nn, toInt_sc, decide_true, if_true, htn]
      exact this
    · rw [if_neg hlt] at hk
      have := ih (epre ++ [e]) (at_step he) a ha0 ha1 hk
      simp only [spec_l3Deep.l1_eq, mach_len, at_lt hp, mach_at hp, st_f1, edges_len, at_lt he, edges_at he, edge_f1, ht, hl1, hl2, a1, a2, hw, hlt, at_next he (by omega), nat_int, nn, toInt_sc, decide_true, decide_false, if_true, if_false, Bool.false_eq_true, htn]
      exact this
theorem deep_l0 (m : List St) (hm : MachB m) (hne : 0 < m.length) (hok : stsOk m.length 0 m = true) : ∀ (k : Nat) (pre rest : List St), pre.length = k → m = pre ++ rest →
    Ev2 (fun N n => spec_l3Deep.l0 N n (machP m) ((k : Int) - 1) ((List.replicate k (0 : Int) ++ depL k rest).map intP)) [intP ((depL 0 m).getD 0 0)] := by
  have hn := hm.n
  intro k
  induction k with
  | zero =>
    intro pre rest hk hp
    obtain rfl : pre = [] := List.eq_nil_of_length_eq_zero hk
    rw [List.nil_append] at hp
    subst hp
    refine Ev2.succ ?_
    have h0 : ¬ (0 : Int) ≤ ((0 : Nat) : Int) - 1 := by omega
    have hl : (0 : Int) < ((((List.replicate 0 (0 : Int) ++ depL 0 m).map intP).length : Nat) : Int) := by simp [depL_len]; omega
    have he : ((PV.list ((List.replicate 0 (0 : Int) ++ depL 0 m).map intP)).elem 0).toInt = (depL 0 m).getD 0 0 := by
      have h2 := ints_elem (List.replicate 0 (0 : Int) ++ depL 0 m) 0
      simp only [intsP] at h2
      rw [h2]; simp
    simp only [spec_l3Deep.l0_eq, h0, hl, he, decide_false, if_true, if_false, Bool.false_eq_true, Int.le_refl]
    exact Ev2.now _
  | succ k ih =>
    intro pre rest hk hp
    obtain ⟨pre', s, rfl⟩ : ∃ pre' s, pre = pre' ++ [s] := by
      rcases List.eq_nil_or_concat pre with rfl | ⟨a, b, rfl⟩
      · simp at hk
      · exact ⟨a, b, by simp⟩
    have hk' : pre'.length = k := by simpa using hk
    subst hk'
    have hp' : m = pre' ++ s :: rest := by rw [hp]; simp
    have hso : stOk m.length pre'.length s = true := by
      have h := hok
      rw [hp', stsOk_app, ← hp'] at h
      simp only [stsOk, Bool.and_eq_true, Nat.zero_add] at h
      exact h.2.1
    have heo : edgesOk m.length pre'.length none s.2 = true := by
      simp only [stOk, Bool.and_eq_true] at hso
      exact hso.1
    have hes := fun e he => (edgesOk_to heo e he).2
    have hr := depL_range rest (pre'.length + 1)
    have hlm : m.length = pre'.length + 1 + rest.length := by rw [hp']; simp; omega
    have hw : IntKind.i64.wrap ((pre'.length : Int) - 1) = (pre'.length : Int) - 1 := wrap_id (by omega) (by omega)
    have hih := ih pre' (s :: rest) rfl hp'
    refine Ev2.succ ?_
    have h0 : (0 : Int) ≤ (((pre'.length + 1 : Nat)) : Int) - 1 := by omega
    have h1 : (((pre'.length + 1 : Nat)) : Int) - 1 = (pre'.length : Int) := by omega
    simp only [spec_l3Deep.l0_eq, h0, h1, arr_zero, decide_true, if_true, nn]
    refine Ev3.start (deep_l1 m hm hp' (depL (pre'.length + 1) rest) (depL_len _ _) (fun x hx => by have := hr x hx; omega) _ hes s.2 [] rfl 0 (Int.le_refl _) (by omega) ?_)
    rw [hw]
    exact hih
theorem deep_ev (m : List St) (hm : MachB m) (hne : 0 < m.length) (hok : stsOk m.length 0 m = true) : Ev (fun N => spec_l3Deep.f N [machP m]) [intP ((depL 0 m).getD 0 0)] := by
  have hn := hm.n
  have c1 : m.length ≤ 35184372088832 := by omega
  have hw : IntKind.i64.wrap ((m.length : Int) - 1) = (m.length : Int) - 1 := wrap_id (by omega) (by omega)
  have h := (deep_l0 m hm hne hok m.length m [] rfl (by simp)).diag
  have e : (List.replicate m.length (0 : Int) ++ depL m.length []).map intP = List.replicate m.length (intP 0) := by simp [depL]
  rw [e] at h
  simp only [spec_l3Deep.f_eq, mach_len, c1, hw, strs_len, strs_elem, ints_len, ints_elem, items_list, fld_agg, elem_list, toStr_sc, toInt_sc, toBool_sc, headD_one, nat_int, get_bt, decide_eq_true_eq, decide_eq_false_iff_not, decide_true, decide_false, if_true, if_false, ite_self, Bool.not_true, Bool.not_false, Bool.false_eq_true, Bool.true_eq_false, Bool.true_and, Bool.false_and, Bool.and_true, Bool.and_false, not_true, not_false_iff, Option.bind_some, nn, toList_inj, Bool.not_eq_true', Bool.not_eq_false', Int.le_refl, and_self, true_and, and_true, false_and, and_false, bne_self_eq_false, beq_self_eq_true, Int.reduceEq, Nat.reduceEqDiff, List.length_singleton, List.tail_cons, Int.reduceLE, Int.reduceLT, decide_eq_true_eq]
  exact h
theorem specIn_val (a b c : Int) (N : Nat) : spec_l1In.f N [.sc (.int .i64 a), .sc (.int .i64 b), .sc (.int .i64 c)] = some [boolP (decide (b ≤ a ∧ a ≤ c))] := by
  simp only [spec_l1In.f_eq, strs_len, strs_elem, ints_len, ints_elem, items_list, fld_agg, elem_list, toStr_sc, toInt_sc, toBool_sc, headD_one, nat_int, get_bt, decide_eq_true_eq, decide_eq_false_iff_not, decide_true, decide_false, if_true, if_false, ite_self, Bool.not_true, Bool.not_false, Bool.false_eq_true, Bool.true_eq_false, Bool.true_and, Bool.false_and, Bool.and_true, Bool.and_false, not_true, not_false_iff, Option.bind_some, nn, toList_inj, Bool.not_eq_true', Bool.not_eq_false', Int.le_refl, and_self, true_and, and_true, false_and, and_false, bne_self_eq_false, beq_self_eq_true, Int.reduceEq, Nat.reduceEqDiff, List.length_singleton, List.tail_cons, Int.reduceLE, Int.reduceLT, decide_eq_true_eq]
  by_cases h1 : b ≤ a <;> by_cases h2 : a ≤ c <;> simp only [h1, h2, strs_len, strs_elem, ints_len, ints_elem, items_list, fld_agg, elem_list, toStr_sc, toInt_sc, toBool_sc, headD_one, nat_int, get_bt, decide_eq_true_eq, decide_eq_false_iff_not, decide_true, decide_false, if_true, if_false, ite_self, Bool.not_true, Bool.not_false, Bool.false_eq_true, Bool.true_eq_false, Bool.true_and, Bool.false_and, Bool.and_true, Bool.and_false, not_true, not_false_iff, Option.bind_some, nn, toList_inj, Bool.not_eq_true', Bool.not_eq_false', Int.le_refl, and_self, true_and, and_true, false_and, and_false, bne_self_eq_false, beq_self_eq_true, Int.reduceEq, Nat.reduceEqDiff, List.length_singleton, List.tail_cons, Int.reduceLE, Int.reduceLT, decide_eq_true_eq]
def AheadE (pre : List Ed) (p : Option Int) : Prop := (pre = [] ∧ p = none) ∨ ∃ pre' q, pre = pre' ++ [q] ∧ p = some q.1
theorem specOk_l1 (m : List St) (hm : MachB m) {pre rest : List St} {s : St} (hp : m = pre ++ s :: rest) (R : Bool) (hR : stOk m.length pre.length s = true → Ev2 (fun N n => spec_MachineOk.l0 N n (machP m) ((pre ++ [s]).length : Int)) [boolP R]) :
    ∀ (es epre : List Ed) (p : Option Int), s.2 = epre ++ es → AheadE epre p → edgesOk m.length pre.length none s.2 = edgesOk m.length pre.length p es →
    Ev3 (fun N m0 n => spec_MachineOk.l1 N m0 n (machP m) (pre.length : Int) (epre.length : Int)) [boolP (edgesOk m.length pre.length p es && ((decide (pre.length = 0) || (s.1 || decide (s.2 ≠ []))) && R))] := by
  have hn := hm.n
  have hse := hm.e s (by rw [hp]; simp)
  have hlm : m.length = pre.length + 1 + rest.length := by rw [hp]; simp; omega
  intro es
  induction es with
  | nil =>
    intro epre p he _ hE
    refine Ev3.succ ?_
    have hst : (decide (pre.length = 0) || (s.1 || decide (s.2 ≠ []))) = true → stOk m.length pre.length s = true := fun h => by
      unfold stOk
      rw [hE, h]; rfl
    simp only [spec_MachineOk.l1_eq, mach_len, at_lt hp, mach_at hp, st_f0, st_f1, edges_len, at_end he, at_next hp (by omega), edgesOk, strs_len, strs_elem, ints_len, ints_elem, items_list, fld_agg, elem_list, toStr_sc, toInt_sc, toBool_sc, headD_one, nat_int, get_bt, decide_eq_true_eq, decide_eq_false_iff_not, decide_true, decide_false, if_true, if_false, ite_self, Bool.not_true, Bool.not_false, Bool.false_eq_true, Bool.true_eq_false, Bool.true_and, Bool.false_and, Bool.and_true, Bool.and_false, not_true, not_false_iff, Option.bind_some, nn, toList_inj, Bool.not_eq_true', Bool.not_eq_false', Int.le_refl, and_self, true_and, and_true, false_and, and_false, bne_self_eq_false, beq_self_eq_true, Int.reduceEq, Nat.reduceEqDiff, List.length_singleton, List.tail_cons, Int.reduceLE, Int.reduceLT, decide_eq_true_eq]
    by_cases h0 : (0 : Int) < (pre.length : Int)
    · have h0' : ¬ pre.length = 0 := by omega
      simp only [h0, h0', strs_len, strs_elem, ints_len, ints_elem, items_list, fld_agg, elem_list, toStr_sc, toInt_sc, toBool_sc, headD_one, nat_int, get_bt, decide_eq_true_eq, decide_eq_false_iff_not, decide_true, decide_false, if_true, if_false, ite_self, Bool.not_true, Bool.not_false, Bool.false_eq_true, Bool.true_eq_false, Bool.true_and, Bool.false_and, Bool.and_true, Bool.and_false, not_true, not_false_iff, Option.bind_some, nn, toList_inj, Bool.not_eq_true', Bool.not_eq_false', Int.le_refl, and_self, true_and, and_true, false_and, and_false, bne_self_eq_false, beq_self_eq_true, Int.reduceEq, Nat.reduceEqDiff, List.length_singleton, List.tail_cons, Int.reduceLE, Int.reduceLT, decide_eq_true_eq]
      cases h1 : s.1 with
      | true => simp only [strs_len, strs_elem, ints_len, ints_elem, items_list, fld_agg, elem_list, toStr_sc, toInt_sc, toBool_sc, headD_one, nat_int, get_bt, decide_eq_true_eq, decide_eq_false_iff_not, decide_true, decide_false, if_true, if_false, ite_self, Bool.not_true, Bool.not_false, Bool.false_eq_true, Bool.true_eq_false, Bool.true_and, Bool.false_and, Bool.and_true, Bool.and_false, not_true, not_false_iff, Option.bind_some, nn, toList_inj, Bool.not_eq_true', Bool.not_eq_false', Int.le_refl, and_self, true_and, and_true, false_and, and_false, bne_self_eq_false, beq_self_eq_true, Int.reduceEq, Nat.reduceEqDiff, List.length_singleton, List.tail_cons, Int.reduceLE, Int.reduceLT, decide_eq_true_eq, Bool.true_or]; exact (hR (hst (by simp [h1]))).outer
      | false =>
        by_cases h2 : s.2 = []
        · have h3 : ((s.2.length : Int) = 0) = True := eq_true (by rw [h2]; rfl)
          simp only [h2, h3, Bool.or_false, Bool.false_or, ne_eq, not_true, List.length_nil, Int.natCast_zero, strs_len, strs_elem, ints_len, ints_elem, items_list, fld_agg, elem_list, toStr_sc, toInt_sc, toBool_sc, headD_one, nat_int, get_bt, decide_eq_true_eq, decide_eq_false_iff_not, decide_true, decide_false, if_true, if_false, ite_self, Bool.not_true, Bool.not_false, Bool.false_eq_true, Bool.true_eq_false, Bool.true_and, Bool.false_and, Bool.and_true, Bool.and_false, not_true, not_false_iff, Option.bind_some, nn, toList_inj, Bool.not_eq_true', Bool.not_eq_false', Int.le_refl, and_self, true_and, and_true, false_and, and_false, bne_self_eq_false, beq_self_eq_true, Int.reduceEq, Nat.reduceEqDiff, List.length_singleton, List.tail_cons, Int.reduceLE, Int.reduceLT, decide_eq_true_eq]; exact Ev3.now _
        · have h3 : ¬ (s.2.length : Int) = 0 := by have := List.length_pos_iff.2 h2; omega
          simp only [h2, h3, Bool.false_or, ne_eq, not_false_iff, strs_len, strs_elem, ints_len, ints_elem, items_list, fld_agg, elem_list, toStr_sc, toInt_sc, toBool_sc, headD_one, nat_int, get_bt, decide_eq_true_eq, decide_eq_false_iff_not, decide_true, decide_false, if_true, if_false, ite_self, Bool.not_true, Bool.not_false, Bool.false_eq_true, Bool.true_eq_false, Bool.true_and, Bool.false_and, Bool.and_true, Bool.and_false, not_true, not_false_iff, Option.bind_some, nn, toList_inj, Bool.not_eq_true', Bool.not_eq_false', Int.le_refl, and_self, true_and, and_true, false_and, and_false, bne_self_eq_false, beq_self_eq_true, Int.reduceEq, Nat.reduceEqDiff, List.length_singleton, List.tail_cons, Int.reduceLE, Int.reduceLT, decide_eq_true_eq]; exact (hR (hst (by simp [h2]))).outer
    · have h0' : pre.length = 0 := by omega
      have h0e : (pre.length = 0) = True := eq_true h0'
      simp only [h0, h0e, Bool.true_or, strs_len, strs_elem, ints_len, ints_elem, items_list, fld_agg, elem_list, toStr_sc, toInt_sc, toBool_sc, headD_one, nat_int, get_bt, decide_eq_true_eq, decide_eq_false_iff_not, decide_true, decide_false, if_true, if_false, ite_self, Bool.not_true, Bool.not_false, Bool.false_eq_true, Bool.true_eq_false, Bool.true_and, Bool.false_and, Bool.and_true, Bool.and_false, not_true, not_false_iff, Option.bind_some, nn, toList_inj, Bool.not_eq_true', Bool.not_eq_false', Int.le_refl, and_self, true_and, and_true, false_and, and_false, bne_self_eq_false, beq_self_eq_true, Int.reduceEq, Nat.reduceEqDiff, List.length_singleton, List.tail_cons, Int.reduceLE, Int.reduceLT, decide_eq_true_eq]
      exact (hR (hst (by simp [h0']))).outer
  | cons e es ih =>
    intro epre p he ha hE
    have w1 : IntKind.i64.wrap ((pre.length : Int) + 1) = (pre.length : Int) + 1 := wrap_id (by omega) (by omega)
    have w2 : IntKind.i64.wrap ((m.length : Int) - 1) = (m.length : Int) - 1 := wrap_id (by omega) (by omega)
    have hih := ih (epre ++ [e]) (some e.1) (at_step he) (.inr ⟨epre, e, rfl, rfl⟩)
    refine Ev3.succ ?_
    rw [edgesOk] at hE ⊢
    rw [edgeOk.eq_def] at hE ⊢
    simp only [spec_MachineOk.l1_eq, mach_len, at_lt hp, mach_at hp, st_f0, st_f1, edges_len, at_lt he, edges_at he, edge_f0, edge_f1, specIn_val, w1, w2, at_next he (by omega), strs_len, strs_elem, ints_len, ints_elem, items_list, fld_agg, elem_list, toStr_sc, toInt_sc, toBool_sc, headD_one, nat_int, get_bt, decide_eq_true_eq, decide_eq_false_iff_not, decide_true, decide_false, if_true, if_false, ite_self, Bool.not_true, Bool.not_false, Bool.false_eq_true, Bool.true_eq_false, Bool.true_and, Bool.false_and, Bool.and_true, Bool.and_false, not_true, not_false_iff, Option.bind_some, nn, toList_inj, Bool.not_eq_true', Bool.not_eq_false', Int.le_refl, and_self, true_and, and_true, false_and, and_false, bne_self_eq_false, beq_self_eq_true, Int.reduceEq, Nat.reduceEqDiff, List.length_singleton, List.tail_cons, Int.reduceLE, Int.reduceLT, decide_eq_true_eq]
    by_cases c1 : 97 ≤ e.1 ∧ e.1 ≤ 122
    · by_cases c2 : (pre.length : Int) + 1 ≤ e.2 ∧ e.2 ≤ (m.length : Int) - 1
      · rcases ha with ⟨rfl, rfl⟩ | ⟨epre', q, rfl, rfl⟩
        · have h0 : ¬ (0 : Int) < ((([] : List Ed).length : Nat) : Int) := by simp
          simp only [c1, c2, and_self, decide_true, Bool.true_and] at hE
          simp only [c1, c2, h0, strs_len, strs_elem, ints_len, ints_elem, items_list, fld_agg, elem_list, toStr_sc, toInt_sc, toBool_sc, headD_one, nat_int, get_bt, decide_eq_true_eq, decide_eq_false_iff_not, decide_true, decide_false, if_true, if_false, ite_self, Bool.not_true, Bool.not_false, Bool.false_eq_true, Bool.true_eq_false, Bool.true_and, Bool.false_and, Bool.and_true, Bool.and_false, not_true, not_false_iff, Option.bind_some, nn, toList_inj, Bool.not_eq_true', Bool.not_eq_false', Int.le_refl, and_self, true_and, and_true, false_and, and_false, bne_self_eq_false, beq_self_eq_true, Int.reduceEq, Nat.reduceEqDiff, List.length_singleton, List.tail_cons, Int.reduceLE, Int.reduceLT, decide_eq_true_eq]
          exact hih hE
        · have h0 : (0 : Int) < (((epre' ++ [q]).length : Nat) : Int) := by rw [List.length_append, List.length_singleton]; omega
          obtain ⟨w3, w4⟩ := at_prevN he (by omega)
          have he' : s.2 = epre' ++ q :: (e :: es) := by rw [he]; simp
          by_cases c3 : e.1 ≤ q.1
          · have c3' : ¬ q.1 < e.1 := by omega
            simp only [c1, c2, c3, c3', h0, w3, w4, edges_at he', edge_f0, strs_len, strs_elem, ints_len, ints_elem, items_list, fld_agg, elem_list, toStr_sc, toInt_sc, toBool_sc, headD_one, nat_int, get_bt, decide_eq_true_eq, decide_eq_false_iff_not, decide_true, decide_false, if_true, if_false, ite_self, Bool.not_true, Bool.not_false, Bool.false_eq_true, Bool.true_eq_false, Bool.true_and, Bool.false_and, Bool.and_true, Bool.and_false, not_true, not_false_iff, Option.bind_some, nn, toList_inj, Bool.not_eq_true', Bool.not_eq_false', Int.le_refl, and_self, true_and, and_true, false_and, and_false, bne_self_eq_false, beq_self_eq_true, Int.reduceEq, Nat.reduceEqDiff, List.length_singleton, List.tail_cons, Int.reduceLE, Int.reduceLT, decide_eq_true_eq]
            exact Ev3.now _
          · have c3' : q.1 < e.1 := by omega
            simp only [c1, c2, c3', and_self, decide_true, Bool.true_and] at hE
            simp only [c1, c2, c3, c3', h0, w3, w4, edges_at he', edge_f0, strs_len, strs_elem, ints_len, ints_elem, items_list, fld_agg, elem_list, toStr_sc, toInt_sc, toBool_sc, headD_one, nat_int, get_bt, decide_eq_true_eq, decide_eq_false_iff_not, decide_true, decide_false, if_true, if_false, ite_self, Bool.not_true, Bool.not_false, Bool.false_eq_true, Bool.true_eq_false, Bool.true_and, Bool.false_and, Bool.and_true, Bool.and_false, not_true, not_false_iff, Option.bind_some, nn, toList_inj, Bool.not_eq_true', Bool.not_eq_false', Int.le_refl, and_self, true_and, and_true, false_and, and_false, bne_self_eq_false, beq_self_eq_true, Int.reduceEq, Nat.reduceEqDiff, List.length_singleton, List.tail_cons, Int.reduceLE, Int.reduceLT, decide_eq_true_eq]
            exact hih hE
      · simp only [c1, c2, strs_len, strs_elem, ints_len, ints_elem, items_list, fld_agg, elem_list, toStr_sc, toInt_sc, toBool_sc, headD_one, nat_int, get_bt, decide_eq_true_eq, decide_eq_false_iff_not, decide_true, decide_false, if_true, if_false, ite_self, Bool.not_true, Bool.not_false, Bool.false_eq_true, Bool.true_eq_false, Bool.true_and, Bool.false_and, Bool.and_true, Bool.and_false, not_true, not_false_iff, Option.bind_some, nn, toList_inj, Bool.not_eq_true', Bool.not_eq_false', Int.le_refl, and_self, true_and, and_true, false_and, and_false, bne_self_eq_false, beq_self_eq_true, Int.reduceEq, Nat.reduceEqDiff, List.length_singleton, List.tail_cons, Int.reduceLE, Int.reduceLT, decide_eq_true_eq]
        exact Ev3.now _
    · simp only [c1, strs_len, strs_elem, ints_len, ints_elem, items_list, fld_agg, elem_list, toStr_sc, toInt_sc, toBool_sc, headD_one, nat_int, get_bt, decide_eq_true_eq, decide_eq_false_iff_not, decide_true, decide_false, if_true, if_false, ite_self, Bool.not_true, Bool.not_false, Bool.false_eq_true, Bool.true_eq_false, Bool.true_and, Bool.false_and, Bool.and_true, Bool.and_false, not_true, not_false_iff, Option.bind_some, nn, toList_inj, Bool.not_eq_true', Bool.not_eq_false', Int.le_refl, and_self, true_and, and_true, false_and, and_false, bne_self_eq_false, beq_self_eq_true, Int.reduceEq, Nat.reduceEqDiff, List.length_singleton, List.tail_cons, Int.reduceLE, Int.reduceLT, decide_eq_true_eq]
      exact Ev3.now _
theorem specOk_l0 (m : List St) (hm : MachB m) : ∀ (rest pre : List St), m = pre ++ rest → (stsOk m.length 0 pre = true) →
    Ev2 (fun N n => spec_MachineOk.l0 N n (machP m) (pre.length : Int)) [boolP (stsOk m.length pre.length rest && (decide (1 ≤ m.length ∧ m.length ≤ 400) && decide ((depL 0 m).getD 0 0 ≤ 12)))] := by
  have hn := hm.n
  intro rest
  induction rest with
  | nil =>
    intro pre hp hok
    refine Ev2.succ ?_
    have hpm : pre = m := by rw [hp]; simp
    subst hpm
    simp only [spec_MachineOk.l0_eq, mach_len, at_end hp, specIn_val, stsOk, strs_len, strs_elem, ints_len, ints_elem, items_list, fld_agg, elem_list, toStr_sc, toInt_sc, toBool_sc, headD_one, nat_int, get_bt, decide_eq_true_eq, decide_eq_false_iff_not, decide_true, decide_false, if_true, if_false, ite_self, Bool.not_true, Bool.not_false, Bool.false_eq_true, Bool.true_eq_false, Bool.true_and, Bool.false_and, Bool.and_true, Bool.and_false, not_true, not_false_iff, Option.bind_some, nn, toList_inj, Bool.not_eq_true', Bool.not_eq_false', Int.le_refl, and_self, true_and, and_true, false_and, and_false, bne_self_eq_false, beq_self_eq_true, Int.reduceEq, Nat.reduceEqDiff, List.length_singleton, List.tail_cons, Int.reduceLE, Int.reduceLT, decide_eq_true_eq]
    by_cases h1 : 1 ≤ pre.length ∧ pre.length ≤ 400
    · have h1' : (1 : Int) ≤ (pre.length : Int) ∧ (pre.length : Int) ≤ 400 := by omega
      simp only [h1, h1', strs_len, strs_elem, ints_len, ints_elem, items_list, fld_agg, elem_list, toStr_sc, toInt_sc, toBool_sc, headD_one, nat_int, get_bt, decide_eq_true_eq, decide_eq_false_iff_not, decide_true, decide_false, if_true, if_false, ite_self, Bool.not_true, Bool.not_false, Bool.false_eq_true, Bool.true_eq_false, Bool.true_and, Bool.false_and, Bool.and_true, Bool.and_false, not_true, not_false_iff, Option.bind_some, nn, toList_inj, Bool.not_eq_true', Bool.not_eq_false', Int.le_refl, and_self, true_and, and_true, false_and, and_false, bne_self_eq_false, beq_self_eq_true, Int.reduceEq, Nat.reduceEqDiff, List.length_singleton, List.tail_cons, Int.reduceLE, Int.reduceLT, decide_eq_true_eq]
      refine Ev2.bind (deep_ev pre hm (by omega) hok) ?_
      simp only [strs_len, strs_elem, ints_len, ints_elem, items_list, fld_agg, elem_list, toStr_sc, toInt_sc, toBool_sc, headD_one, nat_int, get_bt, decide_eq_true_eq, decide_eq_false_iff_not, decide_true, decide_false, if_true, if_false, ite_self, Bool.not_true, Bool.not_false, Bool.false_eq_true, Bool.true_eq_false, Bool.true_and, Bool.false_and, Bool.and_true, Bool.and_false, not_true, not_false_iff, Option.bind_some, nn, toList_inj, Bool.not_eq_true', Bool.not_eq_false', Int.le_refl, and_self, true_and, and_true, false_and, and_false, bne_self_eq_false, beq_self_eq_true, Int.reduceEq, Nat.reduceEqDiff, List.length_singleton, List.tail_cons, Int.reduceLE, Int.reduceLT, decide_eq_true_eq]
      exact Ev2.now _
    · have h1' : ¬ ((1 : Int) ≤ (pre.length : Int) ∧ (pre.length : Int) ≤ 400) := by omega
      simp only [h1, h1', strs_len, strs_elem, ints_len, ints_elem, items_list, fld_agg, elem_list, toStr_sc, toInt_sc, toBool_sc, headD_one, nat_int, get_bt, decide_eq_true_eq, decide_eq_false_iff_not, decide_true, decide_false, if_true, if_false, ite_self, Bool.not_true, Bool.not_false, Bool.false_eq_true, Bool.true_eq_false, Bool.true_and, Bool.false_and, Bool.and_true, Bool.and_false, not_true, not_false_iff, Option.bind_some, nn, toList_inj, Bool.not_eq_true', Bool.not_eq_false', Int.le_refl, and_self, true_and, and_true, false_and, and_false, bne_self_eq_false, beq_self_eq_true, Int.reduceEq, Nat.reduceEqDiff, List.length_singleton, List.tail_cons, Int.reduceLE, Int.reduceLT, decide_eq_true_eq]
      exact Ev2.now _
  | cons s rest ih =>
    intro pre hp hok
    refine Ev2.succ ?_
    simp only [spec_MachineOk.l0_eq, mach_len, at_lt hp, strs_len, strs_elem, ints_len, ints_elem, items_list, fld_agg, elem_list, toStr_sc, toInt_sc, toBool_sc, headD_one, nat_int, get_bt, decide_eq_true_eq, decide_eq_false_iff_not, decide_true, decide_false, if_true, if_false, ite_self, Bool.not_true, Bool.not_false, Bool.false_eq_true, Bool.true_eq_false, Bool.true_and, Bool.false_and, Bool.and_true, Bool.and_false, not_true, not_false_iff, Option.bind_some, nn, toList_inj, Bool.not_eq_true', Bool.not_eq_false', Int.le_refl, and_self, true_and, and_true, false_and, and_false, bne_self_eq_false, beq_self_eq_true, Int.reduceEq, Nat.reduceEqDiff, List.length_singleton, List.tail_cons, Int.reduceLE, Int.reduceLT, decide_eq_true_eq]
    rw [stsOk, stOk]
    have := specOk_l1 m hm hp (stsOk m.length (pre.length + 1) rest && (decide (1 ≤ m.length ∧ m.length ≤ 400) && decide ((depL 0 m).getD 0 0 ≤ 12))) (fun hso => by
      have hok' : stsOk m.length 0 (pre ++ [s]) = true := by
        rw [stsOk_app, hok, Nat.zero_add]
        simp [stsOk, hso]
      have h := ih (pre ++ [s]) (at_step hp) hok'
      have hl : (pre ++ [s]).length = pre.length + 1 := by simp
      rw [hl] at h ⊢
      exact h) s.2 [] none rfl (.inl ⟨rfl, rfl⟩) rfl
    refine Ev2.ext this.start ?_
    simp only [Bool.and_assoc]
theorem specOk_ev (m : List St) (hm : MachB m) : Ev (fun N => spec_MachineOk.f N [machP m]) [boolP (okM m)] := by
  simp only [spec_MachineOk.f_eq]
  refine Ev.ext (specOk_l0 m hm m [] rfl rfl).diag ?_
  refine congrArg (fun b => [boolP b]) ?_
  unfold okM
  simp only [List.length_nil]
  rw [← Bool.and_assoc, ← Bool.and_assoc, Bool.and_comm (stsOk _ _ _)]
/-! The program's. -/
theorem implWithin_val (a b c : Int) (N : Nat) : impl_within.f N [.sc (.int .i64 a), .sc (.int .i64 b), .sc (.int .i64 c)] = some [boolP (decide (b ≤ a ∧ a ≤ c))] := by
  simp only [impl_within.f_eq, strs_len, strs_elem, ints_len, ints_elem, items_list, fld_agg, elem_list, toStr_sc, toInt_sc, toBool_sc, headD_one, nat_int, get_bt, decide_eq_true_eq, decide_eq_false_iff_not, decide_true, decide_false, if_true, if_false, ite_self, Bool.not_true, Bool.not_false, Bool.false_eq_true, Bool.true_eq_false, Bool.true_and, Bool.false_and, Bool.and_true, Bool.and_false, not_true, not_false_iff, Option.bind_some, nn, toList_inj, Bool.not_eq_true', Bool.not_eq_false', Int.le_refl, and_self, true_and, and_true, false_and, and_false, bne_self_eq_false, beq_self_eq_true, Int.reduceEq, Nat.reduceEqDiff, List.length_singleton, List.tail_cons, Int.reduceLE, Int.reduceLT, decide_eq_true_eq]
  by_cases h1 : b ≤ a <;> by_cases h2 : a ≤ c <;> simp only [h1, h2, strs_len, strs_elem, ints_len, ints_elem, items_list, fld_agg, elem_list, toStr_sc, toInt_sc, toBool_sc, headD_one, nat_int, get_bt, decide_eq_true_eq, decide_eq_false_iff_not, decide_true, decide_false, if_true, if_false, ite_self, Bool.not_true, Bool.not_false, Bool.false_eq_true, Bool.true_eq_false, Bool.true_and, Bool.false_and, Bool.and_true, Bool.and_false, not_true, not_false_iff, Option.bind_some, nn, toList_inj, Bool.not_eq_true', Bool.not_eq_false', Int.le_refl, and_self, true_and, and_true, false_and, and_false, bne_self_eq_false, beq_self_eq_true, Int.reduceEq, Nat.reduceEqDiff, List.length_singleton, List.tail_cons, Int.reduceLE, Int.reduceLT, decide_eq_true_eq]
/-- How long the longest text is that is accepted; none: -1. -/
def lonE (i : Nat) (T : List Int) : List Ed → Int → Int
  | [], a => a
  | e :: es, a => lonE i T es (maxI a (T.getD (e.2.toNat - (i + 1)) 0 + 1))
theorem lonE_depE (i : Nat) (T : List Int) : ∀ (es : List Ed) (a : Int), lonE i T es a = depE i T es a
  | [], a => rfl
  | e :: es, a => by
    unfold lonE depE maxI
    by_cases h : a < T.getD (e.2.toNat - (i + 1)) 0 + 1
    · simp only [gt_iff_lt, h, if_true]; exact lonE_depE i T es _
    · simp only [gt_iff_lt, h, if_false]; exact lonE_depE i T es _
theorem depE_neg (i : Nat) (T : List Int) (hT : ∀ x ∈ T, 0 ≤ x ∧ x ≤ 1048576) : ∀ (es : List Ed), es ≠ [] → depE i T es (-1) = depE i T es 0
  | [], h => absurd rfl h
  | e :: es, _ => by
    have hg := getD_range hT (by omega) (e.2.toNat - (i + 1))
    unfold depE
    rw [if_pos (by omega), if_pos (by omega)]
theorem implOk_l1 (m : List St) (hm : MachB m) {pre rest : List St} {s : St} (hp : m = pre ++ s :: rest) (T : List Int) (hT : T.length = rest.length) (hTr : ∀ x ∈ T, 0 ≤ x ∧ x ≤ 1048576) (R : Bool) (b0 : Bool) :
    ∀ (es epre : List Ed) (p : Option Int), s.2 = epre ++ es → AheadE epre p → ∀ a : Int, -1 ≤ a → a ≤ 1048577 →
    (edgesOk m.length pre.length p es = true → Ev2 (fun N n => impl_MachineOk.l0 N n (machP m) (IntKind.i64.wrap ((pre.length : Int) - 1)) (arr pre.length (lonE pre.length T es a) T)) [boolP R]) →
    Ev3 (fun N m0 n => impl_MachineOk.l1 N m0 n (machP m) (pre.length : Int) (edgesP s.2) (s.2.length : Int) (epre.length : Int) (arr pre.length a T) b0 (edgesP s.2)) [boolP (edgesOk m.length pre.length p es && R)] := by
  have hn := hm.n
  have hse := hm.e s (by rw [hp]; simp)
  have hlm : m.length = pre.length + 1 + rest.length := by rw [hp]; simp; omega
  intro es
  induction es with
  | nil =>
    intro epre p he _ a _ _ hk
    refine Ev3.succ ?_
    simp only [impl_MachineOk.l1_eq, at_end he, edgesOk, strs_len, strs_elem, ints_len, ints_elem, items_list, fld_agg, elem_list, toStr_sc, toInt_sc, toBool_sc, headD_one, nat_int, get_bt, decide_eq_true_eq, decide_eq_false_iff_not, decide_true, decide_false, if_true, if_false, ite_self, Bool.not_true, Bool.not_false, Bool.false_eq_true, Bool.true_eq_false, Bool.true_and, Bool.false_and, Bool.and_true, Bool.and_false, not_true, not_false_iff, Option.bind_some, nn, toList_inj, Bool.not_eq_true', Bool.not_eq_false', Int.le_refl, and_self, true_and, and_true, false_and, and_false, bne_self_eq_false, beq_self_eq_true, Int.reduceEq, Nat.reduceEqDiff, List.length_singleton, List.tail_cons, Int.reduceLE, Int.reduceLT, decide_eq_true_eq]
    exact (hk rfl).outer
  | cons e es ih =>
    intro epre p he ha a ha0 ha1 hk
    have w1 : IntKind.i64.wrap ((pre.length : Int) + 1) = (pre.length : Int) + 1 := wrap_id (by omega) (by omega)
    have w2 : IntKind.i64.wrap ((m.length : Int) - 1) = (m.length : Int) - 1 := wrap_id (by omega) (by omega)
    refine Ev3.succ ?_
    rw [edgesOk] at hk ⊢
    rw [edgeOk.eq_def] at hk ⊢
    by_cases c1 : 97 ≤ e.1 ∧ e.1 ≤ 122
    · by_cases c2 : (pre.length : Int) + 1 ≤ e.2 ∧ e.2 ≤ (m.length : Int) - 1
      · obtain ⟨t, ht⟩ := Int.eq_ofNat_of_zero_le (show 0 ≤ e.2 by omega)
        have hge : pre.length + 1 ≤ t := by omega
        have ht' : t < pre.length + 1 + T.length := by omega
        have hl1 : (t : Int) < (((arr pre.length a T).length : Nat) : Int) := by rw [arr_len]; omega
        have hl2 : (pre.length : Int) < (((arr pre.length a T).length : Nat) : Int) := by rw [arr_len]; omega
        have hg := getD_range hTr (by omega) (t - (pre.length + 1))
        have hw : IntKind.i64.wrap (T.getD (t - (pre.length + 1)) 0 + 1) = T.getD (t - (pre.length + 1)) 0 + 1 := wrap_id (by omega) (by omega)
        have htn : (e.2).toNat = t := by rw [ht]; rfl
        have a1 := arr_at pre.length t a T hge
        have a2 := arr_here pre.length a T
        have hmx : -1 ≤ maxI a (T.getD (t - (pre.length + 1)) 0 + 1) ∧ maxI a (T.getD (t - (pre.length + 1)) 0 + 1) ≤ 1048577 := by unfold maxI; split <;> omega
        have hih := ih (epre ++ [e]) (some e.1) (at_step he) (.inr ⟨epre, e, rfl, rfl⟩) (maxI a (T.getD (t - (pre.length + 1)) 0 + 1)) hmx.1 hmx.2
        unfold lonE at hk
        rw [htn] at hk
        have c2' := c2
        rw [ht] at c2'
        rcases ha with ⟨rfl, rfl⟩ | ⟨epre', q, rfl, rfl⟩
        · have h0 : ¬ (0 : Int) < ((([] : List Ed).length : Nat) : Int) := by simp
          simp only [c1, c2, and_self, decide_true, Bool.true_and] at hk
          simp only [impl_MachineOk.l1_eq, mach_len, edges_len, at_lt he, edges_at he, edge_f0, edge_f1, implWithin_val, w1, w2, at_next he (by omega), c1, c2, c2', h0, ht, hl1, hl2, a1, a2, hw, hg.1, arr_set, nat_int, nn, headD_one, Option.bind_some, toInt_sc, toBool_sc, decide_true, decide_false, Bool.not_true, Bool.not_false, Bool.false_eq_true, if_true, if_false, and_self, Bool.true_and]
          exact hih hk
        · have h0 : (0 : Int) < (((epre' ++ [q]).length : Nat) : Int) := by rw [List.length_append, List.length_singleton]; omega
          obtain ⟨w3, w4⟩ := at_prevN he (by omega)
          have he' : s.2 = epre' ++ q :: (e :: es) := by rw [he]; simp
          by_cases c3 : e.1 ≤ q.1
          · have c3' : ¬ q.1 < e.1 := by omega
            simp only [impl_MachineOk.l1_eq, mach_len, edges_len, at_lt he, edges_at he, edges_at he', edge_f0, edge_f1, implWithin_val, w1, w2, w3, w4, c1, c2, c2', c3, c3', h0, nat_int, nn, headD_one, Option.bind_some, toInt_sc, toBool_sc, decide_true, decide_false, Bool.not_true, Bool.not_false, Bool.false_eq_true, Bool.true_eq_false, if_true, if_false, and_self, Bool.true_and, Bool.false_and, Bool.and_false]
            exact Ev3.now _
          · have c3' : q.1 < e.1 := by omega
            simp only [c1, c2, c3', and_self, decide_true, Bool.true_and] at hk
            simp only [impl_MachineOk.l1_eq, mach_len, edges_len, at_lt he, edges_at he, edges_at he', edge_f0, edge_f1, implWithin_val, w1, w2, w3, w4, at_next he (by omega), c1, c2, c2', c3, c3', h0, ht, hl1, hl2, a1, a2, hw, hg.1, arr_set, nat_int, nn, headD_one, Option.bind_some, toInt_sc, toBool_sc, decide_true, decide_false, Bool.not_true, Bool.not_false, Bool.false_eq_true, if_true, if_false, and_self, Bool.true_and]
            exact hih hk
      · rcases ha with ⟨rfl, rfl⟩ | ⟨epre', q, rfl, rfl⟩
        · have h0 : ¬ (0 : Int) < ((([] : List Ed).length : Nat) : Int) := by simp
          simp only [impl_MachineOk.l1_eq, mach_len, edges_len, at_lt he, edges_at he, edge_f0, edge_f1, implWithin_val, w1, w2, c1, c2, h0, strs_len, strs_elem, ints_len, ints_elem, items_list, fld_agg, elem_list, toStr_sc, toInt_sc, toBool_sc, headD_one, nat_int, get_bt, decide_eq_true_eq, decide_eq_false_iff_not, decide_true, decide_false, if_true, if_false, ite_self, Bool.not_true, Bool.not_false, Bool.false_eq_true, Bool.true_eq_false, Bool.true_and, Bool.false_and, Bool.and_true, Bool.and_false, not_true, not_false_iff, Option.bind_some, nn, toList_inj, Bool.not_eq_true', Bool.not_eq_false', Int.le_refl, and_self, true_and, and_true, false_and, and_false, bne_self_eq_false, beq_self_eq_true, Int.reduceEq, Nat.reduceEqDiff, List.length_singleton, List.tail_cons, Int.reduceLE, Int.reduceLT, decide_eq_true_eq]
          exact Ev3.now _
        · have h0 : (0 : Int) < (((epre' ++ [q]).length : Nat) : Int) := by rw [List.length_append, List.length_singleton]; omega
          obtain ⟨w3, w4⟩ := at_prevN he (by omega)
          have he' : s.2 = epre' ++ q :: (e :: es) := by rw [he]; simp
          by_cases c3 : e.1 ≤ q.1
          · simp only [impl_MachineOk.l1_eq, mach_len, edges_len, at_lt he, edges_at he, edges_at he', edge_f0, edge_f1, implWithin_val, w1, w2, w3, w4, c1, c2, c3, h0, strs_len, strs_elem, ints_len, ints_elem, items_list, fld_agg, elem_list, toStr_sc, toInt_sc, toBool_sc, headD_one, nat_int, get_bt, decide_eq_true_eq, decide_eq_false_iff_not, decide_true, decide_false, if_true, if_false, ite_self, Bool.not_true, Bool.not_false, Bool.false_eq_true, Bool.true_eq_false, Bool.true_and, Bool.false_and, Bool.and_true, Bool.and_false, not_true, not_false_iff, Option.bind_some, nn, toList_inj, Bool.not_eq_true', Bool.not_eq_false', Int.le_refl, and_self, true_and, and_true, false_and, and_false, bne_self_eq_false, beq_self_eq_true, Int.reduceEq, Nat.reduceEqDiff, List.length_singleton, List.tail_cons, Int.reduceLE, Int.reduceLT, decide_eq_true_eq]
            exact Ev3.now _
          · simp only [impl_MachineOk.l1_eq, mach_len, edges_len, at_lt he, edges_at he, edges_at he', edge_f0, edge_f1, implWithin_val, w1, w2, w3, w4, c1, c2, c3, h0, strs_len, strs_elem, ints_len, ints_elem, items_list, fld_agg, elem_list, toStr_sc, toInt_sc, toBool_sc, headD_one, nat_int, get_bt, decide_eq_true_eq, decide_eq_false_iff_not, decide_true, decide_false, if_true, if_false, ite_self, Bool.not_true, Bool.not_false, Bool.false_eq_true, Bool.true_eq_false, Bool.true_and, Bool.false_and, Bool.and_true, Bool.and_false, not_true, not_false_iff, Option.bind_some, nn, toList_inj, Bool.not_eq_true', Bool.not_eq_false', Int.le_refl, and_self, true_and, and_true, false_and, and_false, bne_self_eq_false, beq_self_eq_true, Int.reduceEq, Nat.reduceEqDiff, List.length_singleton, List.tail_cons, Int.reduceLE, Int.reduceLT, decide_eq_true_eq]
            exact Ev3.now _
    · simp only [impl_MachineOk.l1_eq, mach_len, edges_len, at_lt he, edges_at he, edge_f0, edge_f1, implWithin_val, c1, strs_len, strs_elem, ints_len, ints_elem, items_list, fld_agg, elem_list, toStr_sc, toInt_sc, toBool_sc, headD_one, nat_int, get_bt, decide_eq_true_eq, decide_eq_false_iff_not, decide_true, decide_false, if_true, if_false, ite_self, Bool.not_true, Bool.not_false, Bool.false_eq_true, Bool.true_eq_false, Bool.true_and, Bool.false_and, Bool.and_true, Bool.and_false, not_true, not_false_iff, Option.bind_some, nn, toList_inj, Bool.not_eq_true', Bool.not_eq_false', Int.le_refl, and_self, true_and, and_true, false_and, and_false, bne_self_eq_false, beq_self_eq_true, Int.reduceEq, Nat.reduceEqDiff, List.length_singleton, List.tail_cons, Int.reduceLE, Int.reduceLT, decide_eq_true_eq]
      exact Ev3.now _
theorem depE_ge (i : Nat) (T : List Int) (hT : ∀ x ∈ T, 0 ≤ x ∧ x ≤ 1048576) (es : List Ed) (a : Int) (ha : a ≤ 1048577) : a ≤ depE i T es a := (depE_range hT (by omega) es a ha).1
theorem implOk_l0 (m : List St) (hm : MachB m) (hne : 0 < m.length) : ∀ (k : Nat) (pre rest : List St) (h0 : Int), pre.length = k → m = pre ++ rest → stsOk m.length k rest = true →
    (k = 0 → (h0 ≤ 12 ↔ (depL 0 m).getD 0 0 ≤ 12)) → ∀ T : List Int, T.length = rest.length → (0 < k → T = depL k rest) → (k = 0 → T.getD 0 0 = h0) →
    Ev2 (fun N n => impl_MachineOk.l0 N n (machP m) ((k : Int) - 1) ((List.replicate k (0 : Int) ++ T).map intP)) [boolP (stsOk m.length 0 pre && decide ((depL 0 m).getD 0 0 ≤ 12))] := by
  have hn := hm.n
  intro k
  induction k with
  | zero =>
    intro pre rest hd hk hp hok hiff T hTl _ hTd
    obtain rfl : pre = [] := List.eq_nil_of_length_eq_zero hk
    rw [List.nil_append] at hp
    subst hp
    refine Ev2.succ ?_
    have h0 : ¬ (0 : Int) ≤ ((0 : Nat) : Int) - 1 := by omega
    have hl : (0 : Int) < ((((List.replicate 0 (0 : Int) ++ T).map intP).length : Nat) : Int) := by simp; omega
    have he : ((PV.list ((List.replicate 0 (0 : Int) ++ T).map intP)).elem 0).toInt = hd := by
      have h2 := ints_elem (List.replicate 0 (0 : Int) ++ T) 0
      simp only [intsP] at h2
      rw [h2, ← hTd rfl]; simp
    have hdec : decide (hd ≤ 12) = decide ((depL 0 m).getD 0 0 ≤ 12) := decide_eq_decide.2 (hiff rfl)
    simp only [impl_MachineOk.l0_eq, h0, hl, he, hdec, stsOk, Bool.true_and, decide_false, if_true, if_false, Bool.false_eq_true, Int.le_refl]
    exact Ev2.now _
  | succ k ih =>
    intro pre rest hd hk hp hok hiff T hTl hTe hTd
    obtain ⟨pre', s, rfl⟩ : ∃ pre' s, pre = pre' ++ [s] := by
      rcases List.eq_nil_or_concat pre with rfl | ⟨a, b, rfl⟩
      · simp at hk
      · exact ⟨a, b, by simp⟩
    have hk' : pre'.length = k := by simpa using hk
    subst hk'
    obtain rfl := hTe (by omega)
    have hp' : m = pre' ++ s :: rest := by rw [hp]; simp
    have hr := depL_range rest (pre'.length + 1)
    have hlm : m.length = pre'.length + 1 + rest.length := by rw [hp']; simp; omega
    have hTr : ∀ x ∈ depL (pre'.length + 1) rest, 0 ≤ x ∧ x ≤ 1048576 := fun x hx => by have := hr x hx; omega
    have hw : IntKind.i64.wrap ((pre'.length : Int) - 1) = (pre'.length : Int) - 1 := wrap_id (by omega) (by omega)
    have hw2 : IntKind.i64.wrap (((pre'.length + 1 : Nat) : Int) - 1) = (pre'.length : Int) := nat_wrap (by omega) (by omega)
    have e1 : stsOk m.length 0 (pre' ++ [s]) = (stsOk m.length 0 pre' && stOk m.length pre'.length s) := by
      rw [stsOk_app, Nat.zero_add]; simp [stsOk]
    rw [e1]
    refine Ev2.succ ?_
    have h0 : (0 : Int) ≤ (((pre'.length + 1 : Nat)) : Int) - 1 := by omega
    have h1 : (((pre'.length + 1 : Nat)) : Int) - 1 = (pre'.length : Int) := by omega
    have hlen0 : (pre'.length : Int) < ((arr pre'.length 0 (depL (pre'.length + 1) rest)).length : Int) := by rw [arr_len]; omega
    have hlen1 : (pre'.length : Int) < ((arr pre'.length (-1) (depL (pre'.length + 1) rest)).length : Int) := by rw [arr_len]; omega
    have hempty : ((s.2.length : Int) = 0) = (s.2 = []) := by
      apply propext; constructor
      · intro h; exact List.eq_nil_of_length_eq_zero (by omega)
      · intro h; rw [h]; rfl
    have hcont : ∀ a : Int, (a = 0 ∨ a = -1) → (0 < pre'.length → a = 0 ∨ s.2 ≠ []) → stOk m.length pre'.length s = true →
        Ev2 (fun N n => impl_MachineOk.l0 N n (machP m) (IntKind.i64.wrap ((pre'.length : Int) - 1)) (arr pre'.length (lonE pre'.length (depL (pre'.length + 1) rest) s.2 a) (depL (pre'.length + 1) rest))) [boolP (stsOk m.length 0 pre' && decide ((depL 0 m).getD 0 0 ≤ 12))] := by
      intro a ha hpos hso
      rw [hw, lonE_depE]
      have heq : (0 < pre'.length ∨ s.2 ≠ [] ∨ a = 0) → depE pre'.length (depL (pre'.length + 1) rest) s.2 a = depE pre'.length (depL (pre'.length + 1) rest) s.2 0 := by
        intro h
        rcases ha with rfl | rfl
        · rfl
        · refine depE_neg _ _ hTr _ ?_
          rcases h with h | h | h
          · rcases hpos h with h | h
            · omega
            · exact h
          · exact h
          · omega
      have hih := ih pre' (s :: rest) (depE pre'.length (depL (pre'.length + 1) rest) s.2 a) rfl hp' (by rw [stsOk, hso, hok]; rfl) (fun hz => by
        have hpe : pre' = [] := List.eq_nil_of_length_eq_zero hz
        subst hpe
        rw [List.nil_append] at hp'
        rw [hp']
        show depE 0 (depL 1 rest) s.2 a ≤ 12 ↔ depE 0 (depL 1 rest) s.2 0 ≤ 12
        by_cases hs2 : s.2 = []
        · rw [hs2]; unfold depE; omega
        · rw [show depE 0 (depL 1 rest) s.2 a = depE 0 (depL 1 rest) s.2 0 from heq (.inr (.inl hs2))])
        (depE pre'.length (depL (pre'.length + 1) rest) s.2 a :: depL (pre'.length + 1) rest) (by simp [depL_len]) (fun hz => by rw [heq (.inl hz)]; rfl) (fun _ => rfl)
      exact hih
    have hl1 : ∀ a : Int, (a = 0 ∨ a = -1) → (0 < pre'.length → a = 0 ∨ s.2 ≠ []) → (decide (pre'.length = 0) || (s.1 || decide (s.2 ≠ []))) = true → ∀ b0, Ev2 (fun N n => impl_MachineOk.l1 N n N (machP m) (pre'.length : Int) (edgesP s.2) (s.2.length : Int) 0 (arr pre'.length a (depL (pre'.length + 1) rest)) b0 (edgesP s.2)) [boolP (stsOk m.length 0 pre' && stOk m.length pre'.length s && decide ((depL 0 m).getD 0 0 ≤ 12))] := by
      intro a ha hpos hcond b0
      have h := implOk_l1 m hm hp' (depL (pre'.length + 1) rest) (depL_len _ _) hTr (stsOk m.length 0 pre' && decide ((depL 0 m).getD 0 0 ≤ 12)) b0 s.2 [] none rfl (.inl ⟨rfl, rfl⟩) a (by omega) (by omega) (fun heo => hcont a ha hpos (by unfold stOk; rw [heo, hcond]; rfl))
      refine Ev2.ext h.start ?_
      refine congrArg (fun b => [boolP b]) ?_
      unfold stOk
      rw [hcond, Bool.and_true]
      cases edgesOk m.length pre'.length none s.2 <;> cases stsOk m.length 0 pre' <;> simp
    simp only [impl_MachineOk.l0_eq, h0, h1, arr_zero, mach_len, at_lt hp', mach_at hp', st_f0, st_f1, edges_len, hempty, hlen0, hlen1, arr_set, nat_int, nn, toBool_sc, decide_true, decide_false, Bool.not_true, Bool.not_false, Bool.false_eq_true, if_true, if_false, decide_eq_true_eq]
    cases hs1 : s.1 with
    | true =>
      have h := hl1 0 (.inl rfl) (fun _ => .inl rfl) (by simp [hs1]) true
      by_cases hz : (0 : Int) < (pre'.length : Int)
      · simp only [hz, Bool.not_true, Bool.false_eq_true, if_true, if_false, hlen1, arr_set]
        exact h
      · simp only [hz, Bool.not_true, Bool.false_eq_true, if_true, if_false, hlen1, arr_set]
        exact h
    | false =>
      by_cases hs2 : s.2 = []
      · by_cases hz : (0 : Int) < (pre'.length : Int)
        · have hf : stOk m.length pre'.length s = false := by
            have : ¬ pre'.length = 0 := by omega
            unfold stOk; simp [hs1, hs2, this]
          simp only [hz, hs2, hf, Bool.not_false, Bool.and_false, Bool.false_and, if_true, if_false]
          exact Ev2.now _
        · have hz0 : pre'.length = 0 := by omega
          have h := hl1 (-1) (.inr rfl) (fun h => absurd h (by omega)) (by simp [hz0]) false
          simp only [hz, Bool.not_false, Bool.false_eq_true, if_true, if_false]
          exact h
      · have h := hl1 (-1) (.inr rfl) (fun _ => .inr hs2) (by simp [hs2]) false
        by_cases hz : (0 : Int) < (pre'.length : Int)
        · simp only [hz, hs2, Bool.not_false, Bool.false_eq_true, if_true, if_false]
          exact h
        · simp only [hz, Bool.not_false, Bool.false_eq_true, if_true, if_false]
          exact h
theorem implOk_ev (m : List St) (hm : MachB m) : Ev (fun N => impl_MachineOk.f N [machP m]) [boolP (okM m)] := by
  have hn := hm.n
  simp only [impl_MachineOk.f_eq, mach_len, implWithin_val, strs_len, strs_elem, ints_len, ints_elem, items_list, fld_agg, elem_list, toStr_sc, toInt_sc, toBool_sc, headD_one, nat_int, get_bt, decide_eq_true_eq, decide_eq_false_iff_not, decide_true, decide_false, if_true, if_false, ite_self, Bool.not_true, Bool.not_false, Bool.false_eq_true, Bool.true_eq_false, Bool.true_and, Bool.false_and, Bool.and_true, Bool.and_false, not_true, not_false_iff, Option.bind_some, nn, toList_inj, Bool.not_eq_true', Bool.not_eq_false', Int.le_refl, and_self, true_and, and_true, false_and, and_false, bne_self_eq_false, beq_self_eq_true, Int.reduceEq, Nat.reduceEqDiff, List.length_singleton, List.tail_cons, Int.reduceLE, Int.reduceLT, decide_eq_true_eq]
  unfold okM
  by_cases h1 : 1 ≤ m.length ∧ m.length ≤ 400
  · have h1' : (1 : Int) ≤ (m.length : Int) ∧ (m.length : Int) ≤ 400 := by omega
    have c1 : m.length ≤ 35184372088832 := by omega
    have hw : IntKind.i64.wrap ((m.length : Int) - 1) = (m.length : Int) - 1 := wrap_id (by omega) (by omega)
    have h := (implOk_l0 m hm (by omega) m.length m [] 0 rfl (by simp) rfl (fun h => absurd h (by omega)) [] rfl (fun _ => rfl) (fun h => absurd h (by omega))).diag
    have e : (List.replicate m.length (0 : Int) ++ []).map intP = List.replicate m.length (intP 0) := by simp
    rw [e] at h
    simp only [h1, h1', c1, hw, strs_len, strs_elem, ints_len, ints_elem, items_list, fld_agg, elem_list, toStr_sc, toInt_sc, toBool_sc, headD_one, nat_int, get_bt, decide_eq_true_eq, decide_eq_false_iff_not, decide_true, decide_false, if_true, if_false, ite_self, Bool.not_true, Bool.not_false, Bool.false_eq_true, Bool.true_eq_false, Bool.true_and, Bool.false_and, Bool.and_true, Bool.and_false, not_true, not_false_iff, Option.bind_some, nn, toList_inj, Bool.not_eq_true', Bool.not_eq_false', Int.le_refl, and_self, true_and, and_true, false_and, and_false, bne_self_eq_false, beq_self_eq_true, Int.reduceEq, Nat.reduceEqDiff, List.length_singleton, List.tail_cons, Int.reduceLE, Int.reduceLT, decide_eq_true_eq]
    exact h
  · have h1' : ¬ ((1 : Int) ≤ (m.length : Int) ∧ (m.length : Int) ≤ 400) := by omega
    simp only [h1, h1', strs_len, strs_elem, ints_len, ints_elem, items_list, fld_agg, elem_list, toStr_sc, toInt_sc, toBool_sc, headD_one, nat_int, get_bt, decide_eq_true_eq, decide_eq_false_iff_not, decide_true, decide_false, if_true, if_false, ite_self, Bool.not_true, Bool.not_false, Bool.false_eq_true, Bool.true_eq_false, Bool.true_and, Bool.false_and, Bool.and_true, Bool.and_false, not_true, not_false_iff, Option.bind_some, nn, toList_inj, Bool.not_eq_true', Bool.not_eq_false', Int.le_refl, and_self, true_and, and_true, false_and, and_false, bne_self_eq_false, beq_self_eq_true, Int.reduceEq, Nat.reduceEqDiff, List.length_singleton, List.tail_cons, Int.reduceLE, Int.reduceLT, decide_eq_true_eq]
    exact Ev.now _
/-! #### machines as bytes -/
abbrev u8P (n : Int) : PV := .sc (.int .u8 n)
theorem bytesOfL_app (a b : List PV) : bytesOfL (a ++ b) = bytesOfL a ++ bytesOfL b := by
  simp only [bytesOfL, List.map_append]
  apply ByteArray.ext
  simp [ByteArray.data_append]
theorem bytesOfL_size (l : List PV) : (bytesOfL l).size = l.length := by simp [bytesOfL, ByteArray.size]
def numL (n : Int) : List PV := if n < 128 then [u8P (IntKind.u8.wrap n)] else [u8P (IntKind.u8.wrap (IntKind.i64.wrap (Int.tmod n 128 + 128))), u8P (IntKind.u8.wrap (IntKind.i64.wrap (Int.tdiv n 128)))]
theorem numL_len (n : Int) : 1 ≤ (numL n).length ∧ (numL n).length ≤ 2 := by unfold numL; split <;> simp
def cntS (s : St) : Int := if s.1 = true then IntKind.i64.wrap (IntKind.i64.wrap (2 * (s.2.length : Int)) + 1) else IntKind.i64.wrap (2 * (s.2.length : Int))
def putE (i : Nat) : List Ed → List PV
  | [] => []
  | e :: es => (u8P (IntKind.u8.wrap e.1) :: numL (IntKind.i64.wrap (e.2 - (i : Int)))) ++ putE i es
def putL (i : Nat) : List St → List PV
  | [] => []
  | s :: r => numL (cntS s) ++ (putE i s.2 ++ putL (i + 1) r)
theorem specBytes_val (n : Int) (N : Nat) : spec_l12Bytes.f N [intP n] = some [strP (bytesOfL (numL n))] := by
  simp only [spec_l12Bytes.f_eq, numL, strs_len, strs_elem, ints_len, ints_elem, items_list, fld_agg, elem_list, toStr_sc, toInt_sc, toBool_sc, headD_one, nat_int, get_bt, decide_eq_true_eq, decide_eq_false_iff_not, decide_true, decide_false, if_true, if_false, ite_self, Bool.not_true, Bool.not_false, Bool.false_eq_true, Bool.true_eq_false, Bool.true_and, Bool.false_and, Bool.and_true, Bool.and_false, not_true, not_false_iff, Option.bind_some, nn, toList_inj, Bool.not_eq_true', Bool.not_eq_false', Int.le_refl, and_self, true_and, and_true, false_and, and_false, bne_self_eq_false, beq_self_eq_true, Int.reduceEq, Nat.reduceEqDiff, List.length_singleton, List.tail_cons, Int.reduceLE, Int.reduceLT, decide_eq_true_eq]
  by_cases h : n < 128 <;> simp only [h, strs_len, strs_elem, ints_len, ints_elem, items_list, fld_agg, elem_list, toStr_sc, toInt_sc, toBool_sc, headD_one, nat_int, get_bt, decide_eq_true_eq, decide_eq_false_iff_not, decide_true, decide_false, if_true, if_false, ite_self, Bool.not_true, Bool.not_false, Bool.false_eq_true, Bool.true_eq_false, Bool.true_and, Bool.false_and, Bool.and_true, Bool.and_false, not_true, not_false_iff, Option.bind_some, nn, toList_inj, Bool.not_eq_true', Bool.not_eq_false', Int.le_refl, and_self, true_and, and_true, false_and, and_false, bne_self_eq_false, beq_self_eq_true, Int.reduceEq, Nat.reduceEqDiff, List.length_singleton, List.tail_cons, Int.reduceLE, Int.reduceLT, decide_eq_true_eq]
theorem specPut_l1 (m : List St) (hm : MachB m) {pre rest : List St} {s : St} (hp : m = pre ++ s :: rest) (R : ByteArray) :
    ∀ (es epre : List Ed) (L : List PV), s.2 = epre ++ es → L.length ≤ 8000000 * pre.length + 10 + 3 * epre.length →
    (∀ L', L' = L ++ putE pre.length es → L'.length ≤ 8000000 * (pre.length + 1) + 8 → Ev2 (fun N n => spec_l12Put.l0 N n (machP m) (bytesOfL L') ((pre ++ [s]).length : Int)) [strP R]) →
    Ev3 (fun N m0 n => spec_l12Put.l1 N m0 n (machP m) (bytesOfL L) (pre.length : Int) (epre.length : Int)) [strP R] := by
  have hn := hm.n
  have hse := hm.e s (by rw [hp]; simp)
  have hlm : m.length = pre.length + 1 + rest.length := by rw [hp]; simp; omega
  intro es
  induction es with
  | nil =>
    intro epre L he hL hk
    have hel : epre.length = s.2.length := by rw [he]; simp
    refine Ev3.succ ?_
    simp only [spec_l12Put.l1_eq, mach_len, at_lt hp, mach_at hp, st_f1, edges_len, at_end he, at_next hp (by omega), strs_len, strs_elem, ints_len, ints_elem, items_list, fld_agg, elem_list, toStr_sc, toInt_sc, toBool_sc, headD_one, nat_int, get_bt, decide_eq_true_eq, decide_eq_false_iff_not, decide_true, decide_false, if_true, if_false, ite_self, Bool.not_true, Bool.not_false, Bool.false_eq_true, Bool.true_eq_false, Bool.true_and, Bool.false_and, Bool.and_true, Bool.and_false, not_true, not_false_iff, Option.bind_some, nn, toList_inj, Bool.not_eq_true', Bool.not_eq_false', Int.le_refl, and_self, true_and, and_true, false_and, and_false, bne_self_eq_false, beq_self_eq_true, Int.reduceEq, Nat.reduceEqDiff, List.length_singleton, List.tail_cons, Int.reduceLE, Int.reduceLT, decide_eq_true_eq]
    exact (hk L (by simp [putE]) (by omega)).outer
  | cons e es ih =>
    intro epre L he hL hk
    have hle : epre.length < s.2.length := at_ltN he
    have hnl := numL_len (IntKind.i64.wrap (e.2 - (pre.length : Int)))
    have c1 : (bytesOfL L).size + (bytesOfL [u8P (IntKind.u8.wrap e.1)]).size ≤ 9223372036854775807 := by rw [bytesOfL_size, bytesOfL_size]; simp; omega
    have c2 : (bytesOfL L ++ bytesOfL [u8P (IntKind.u8.wrap e.1)]).size + (bytesOfL (numL (IntKind.i64.wrap (e.2 - (pre.length : Int))))).size ≤ 9223372036854775807 := by
      rw [ByteArray.size_append, bytesOfL_size, bytesOfL_size, bytesOfL_size]; simp; omega
    have e1 : bytesOfL L ++ bytesOfL [u8P (IntKind.u8.wrap e.1)] ++ bytesOfL (numL (IntKind.i64.wrap (e.2 - (pre.length : Int)))) = bytesOfL (L ++ u8P (IntKind.u8.wrap e.1) :: numL (IntKind.i64.wrap (e.2 - (pre.length : Int)))) := by
      rw [← bytesOfL_app, ← bytesOfL_app]; simp
    have hih := ih (epre ++ [e]) (L ++ u8P (IntKind.u8.wrap e.1) :: numL (IntKind.i64.wrap (e.2 - (pre.length : Int)))) (at_step he) (by simp; omega) (fun L' hL' hb => hk L' (by rw [hL', putE]; simp) hb)
    refine Ev3.succ ?_
    simp only [spec_l12Put.l1_eq, mach_len, at_lt hp, mach_at hp, st_f1, edges_len, at_lt he, edges_at he, edge_f0, edge_f1, specBytes_val, at_next he (by omega), c1, c2, e1, strs_len, strs_elem, ints_len, ints_elem, items_list, fld_agg, elem_list, toStr_sc, toInt_sc, toBool_sc, headD_one, nat_int, get_bt, decide_eq_true_eq, decide_eq_false_iff_not, decide_true, decide_false, if_true, if_false, ite_self, Bool.not_true, Bool.not_false, Bool.false_eq_true, Bool.true_eq_false, Bool.true_and, Bool.false_and, Bool.and_true, Bool.and_false, not_true, not_false_iff, Option.bind_some, nn, toList_inj, Bool.not_eq_true', Bool.not_eq_false', Int.le_refl, and_self, true_and, and_true, false_and, and_false, bne_self_eq_false, beq_self_eq_true, Int.reduceEq, Nat.reduceEqDiff, List.length_singleton, List.tail_cons, Int.reduceLE, Int.reduceLT, decide_eq_true_eq]
    exact hih
theorem specPut_l0 (m : List St) (hm : MachB m) : ∀ (rest pre : List St) (L : List PV), m = pre ++ rest → L.length ≤ 8000000 * pre.length + 8 →
    Ev2 (fun N n => spec_l12Put.l0 N n (machP m) (bytesOfL L) (pre.length : Int)) [strP (bytesOfL (L ++ putL pre.length rest))] := by
  have hn := hm.n
  intro rest
  induction rest with
  | nil =>
    intro pre L hp hL
    refine Ev2.succ ?_
    simp only [spec_l12Put.l0_eq, mach_len, at_end hp, putL, List.append_nil, strs_len, strs_elem, ints_len, ints_elem, items_list, fld_agg, elem_list, toStr_sc, toInt_sc, toBool_sc, headD_one, nat_int, get_bt, decide_eq_true_eq, decide_eq_false_iff_not, decide_true, decide_false, if_true, if_false, ite_self, Bool.not_true, Bool.not_false, Bool.false_eq_true, Bool.true_eq_false, Bool.true_and, Bool.false_and, Bool.and_true, Bool.and_false, not_true, not_false_iff, Option.bind_some, nn, toList_inj, Bool.not_eq_true', Bool.not_eq_false', Int.le_refl, and_self, true_and, and_true, false_and, and_false, bne_self_eq_false, beq_self_eq_true, Int.reduceEq, Nat.reduceEqDiff, List.length_singleton, List.tail_cons, Int.reduceLE, Int.reduceLT, decide_eq_true_eq]
    exact Ev2.now _
  | cons s rest ih =>
    intro pre L hp hL
    have hle : pre.length < m.length := at_ltN hp
    have hnl := numL_len (cntS s)
    have c1 : (bytesOfL L).size + (bytesOfL (numL (cntS s))).size ≤ 9223372036854775807 := by rw [bytesOfL_size, bytesOfL_size]; omega
    have hl : (pre ++ [s]).length = pre.length + 1 := by simp
    have h1 := (specPut_l1 m hm hp (bytesOfL (L ++ putL pre.length (s :: rest))) s.2 [] (L ++ numL (cntS s)) rfl (by rw [List.length_append, List.length_nil]; omega) (fun L' hL' hb => by
      have h := ih (pre ++ [s]) L' (at_step hp) (by rw [hl]; omega)
      have e : L' ++ putL (pre ++ [s]).length rest = L ++ putL pre.length (s :: rest) := by rw [hl, hL', putL]; simp
      rw [e] at h
      exact h)).start
    rw [bytesOfL_app] at h1
    refine Ev2.succ ?_
    simp only [spec_l12Put.l0_eq, mach_len, at_lt hp, mach_at hp, st_f0, st_f1, edges_len, specBytes_val, strs_len, strs_elem, ints_len, ints_elem, items_list, fld_agg, elem_list, toStr_sc, toInt_sc, toBool_sc, headD_one, nat_int, get_bt, decide_eq_true_eq, decide_eq_false_iff_not, decide_true, decide_false, if_true, if_false, ite_self, Bool.not_true, Bool.not_false, Bool.false_eq_true, Bool.true_eq_false, Bool.true_and, Bool.false_and, Bool.and_true, Bool.and_false, not_true, not_false_iff, Option.bind_some, nn, toList_inj, Bool.not_eq_true', Bool.not_eq_false', Int.le_refl, and_self, true_and, and_true, false_and, and_false, bne_self_eq_false, beq_self_eq_true, Int.reduceEq, Nat.reduceEqDiff, List.length_singleton, List.tail_cons, Int.reduceLE, Int.reduceLT, decide_eq_true_eq]
    unfold cntS at c1 h1
    by_cases hs1 : s.1 = true
    · rw [if_pos hs1] at c1 h1
      simp only [hs1, c1, strs_len, strs_elem, ints_len, ints_elem, items_list, fld_agg, elem_list, toStr_sc, toInt_sc, toBool_sc, headD_one, nat_int, get_bt, decide_eq_true_eq, decide_eq_false_iff_not, decide_true, decide_false, if_true, if_false, ite_self, Bool.not_true, Bool.not_false, Bool.false_eq_true, Bool.true_eq_false, Bool.true_and, Bool.false_and, Bool.and_true, Bool.and_false, not_true, not_false_iff, Option.bind_some, nn, toList_inj, Bool.not_eq_true', Bool.not_eq_false', Int.le_refl, and_self, true_and, and_true, false_and, and_false, bne_self_eq_false, beq_self_eq_true, Int.reduceEq, Nat.reduceEqDiff, List.length_singleton, List.tail_cons, Int.reduceLE, Int.reduceLT, decide_eq_true_eq]
      exact h1
    · rw [if_neg hs1] at c1 h1
      simp only [hs1, c1, strs_len, strs_elem, ints_len, ints_elem, items_list, fld_agg, elem_list, toStr_sc, toInt_sc, toBool_sc, headD_one, nat_int, get_bt, decide_eq_true_eq, decide_eq_false_iff_not, decide_true, decide_false, if_true, if_false, ite_self, Bool.not_true, Bool.not_false, Bool.false_eq_true, Bool.true_eq_false, Bool.true_and, Bool.false_and, Bool.and_true, Bool.and_false, not_true, not_false_iff, Option.bind_some, nn, toList_inj, Bool.not_eq_true', Bool.not_eq_false', Int.le_refl, and_self, true_and, and_true, false_and, and_false, bne_self_eq_false, beq_self_eq_true, Int.reduceEq, Nat.reduceEqDiff, List.length_singleton, List.tail_cons, Int.reduceLE, Int.reduceLT, decide_eq_true_eq]
      exact h1
def putM (m : List St) : List PV := numL (m.length : Int) ++ putL 0 m
theorem specPut_ev (m : List St) (hm : MachB m) : Ev (fun N => spec_l12Put.f N [machP m]) [strP (bytesOfL (putM m))] := by
  have hnl := numL_len (m.length : Int)
  simp only [spec_l12Put.f_eq, mach_len, specBytes_val, strs_len, strs_elem, ints_len, ints_elem, items_list, fld_agg, elem_list, toStr_sc, toInt_sc, toBool_sc, headD_one, nat_int, get_bt, decide_eq_true_eq, decide_eq_false_iff_not, decide_true, decide_false, if_true, if_false, ite_self, Bool.not_true, Bool.not_false, Bool.false_eq_true, Bool.true_eq_false, Bool.true_and, Bool.false_and, Bool.and_true, Bool.and_false, not_true, not_false_iff, Option.bind_some, nn, toList_inj, Bool.not_eq_true', Bool.not_eq_false', Int.le_refl, and_self, true_and, and_true, false_and, and_false, bne_self_eq_false, beq_self_eq_true, Int.reduceEq, Nat.reduceEqDiff, List.length_singleton, List.tail_cons, Int.reduceLE, Int.reduceLT, decide_eq_true_eq]
  exact (specPut_l0 m hm m [] (numL (m.length : Int)) rfl (by rw [List.length_nil]; omega)).diag
theorem implNum_val (L : List PV) (n : Int) (hL : L.length ≤ 140737488355000) (N : Nat) : impl_putNumber.f N [PV.list L, intP n] = some [PV.list (L ++ numL n)] := by
  have c1 : L.length + 1 ≤ 140737488355328 := by omega
  have c2 : L.length + 2 ≤ 140737488355328 := by omega
  simp only [impl_putNumber.f_eq, numL, List.length_cons, List.length_nil, Nat.zero_add, Nat.reduceAdd, strs_len, strs_elem, ints_len, ints_elem, items_list, fld_agg, elem_list, toStr_sc, toInt_sc, toBool_sc, headD_one, nat_int, get_bt, decide_eq_true_eq, decide_eq_false_iff_not, decide_true, decide_false, if_true, if_false, ite_self, Bool.not_true, Bool.not_false, Bool.false_eq_true, Bool.true_eq_false, Bool.true_and, Bool.false_and, Bool.and_true, Bool.and_false, not_true, not_false_iff, Option.bind_some, nn, toList_inj, Bool.not_eq_true', Bool.not_eq_false', Int.le_refl, and_self, true_and, and_true, false_and, and_false, bne_self_eq_false, beq_self_eq_true, Int.reduceEq, Nat.reduceEqDiff, List.length_singleton, List.tail_cons, Int.reduceLE, Int.reduceLT, decide_eq_true_eq]
  by_cases h : n < 128 <;> simp only [h, c1, c2, strs_len, strs_elem, ints_len, ints_elem, items_list, fld_agg, elem_list, toStr_sc, toInt_sc, toBool_sc, headD_one, nat_int, get_bt, decide_eq_true_eq, decide_eq_false_iff_not, decide_true, decide_false, if_true, if_false, ite_self, Bool.not_true, Bool.not_false, Bool.false_eq_true, Bool.true_eq_false, Bool.true_and, Bool.false_and, Bool.and_true, Bool.and_false, not_true, not_false_iff, Option.bind_some, nn, toList_inj, Bool.not_eq_true', Bool.not_eq_false', Int.le_refl, and_self, true_and, and_true, false_and, and_false, bne_self_eq_false, beq_self_eq_true, Int.reduceEq, Nat.reduceEqDiff, List.length_singleton, List.tail_cons, Int.reduceLE, Int.reduceLT, decide_eq_true_eq]
theorem implPut_l1 (m : List St) (hm : MachB m) {pre rest : List St} {s : St} (hp : m = pre ++ s :: rest) (R : ByteArray) :
    ∀ (es epre : List Ed) (L : List PV), s.2 = epre ++ es → L.length ≤ 8000000 * pre.length + 10 + 3 * epre.length →
    (∀ L', L' = L ++ putE pre.length es → L'.length ≤ 8000000 * (pre.length + 1) + 8 → Ev2 (fun N n => impl_MachinePut.l0 N n (machP m) (m.length : Int) ((pre ++ [s]).length : Int) (PV.list L')) [strP R]) →
    Ev3 (fun N m0 n => impl_MachinePut.l1 N m0 n (pre.length : Int) (machP m) (m.length : Int) (pre.length : Int) (edgesP s.2) (s.2.length : Int) (epre.length : Int) (PV.list L)) [strP R] := by
  have hn := hm.n
  have hse := hm.e s (by rw [hp]; simp)
  have hlm : m.length = pre.length + 1 + rest.length := by rw [hp]; simp; omega
  intro es
  induction es with
  | nil =>
    intro epre L he hL hk
    have hel : epre.length = s.2.length := by rw [he]; simp
    refine Ev3.succ ?_
    simp only [impl_MachinePut.l1_eq, at_end he, at_next hp (by omega), strs_len, strs_elem, ints_len, ints_elem, items_list, fld_agg, elem_list, toStr_sc, toInt_sc, toBool_sc, headD_one, nat_int, get_bt, decide_eq_true_eq, decide_eq_false_iff_not, decide_true, decide_false, if_true, if_false, ite_self, Bool.not_true, Bool.not_false, Bool.false_eq_true, Bool.true_eq_false, Bool.true_and, Bool.false_and, Bool.and_true, Bool.and_false, not_true, not_false_iff, Option.bind_some, nn, toList_inj, Bool.not_eq_true', Bool.not_eq_false', Int.le_refl, and_self, true_and, and_true, false_and, and_false, bne_self_eq_false, beq_self_eq_true, Int.reduceEq, Nat.reduceEqDiff, List.length_singleton, List.tail_cons, Int.reduceLE, Int.reduceLT, decide_eq_true_eq]
    exact (hk L (by simp [putE]) (by omega)).outer
  | cons e es ih =>
    intro epre L he hL hk
    have hle : epre.length < s.2.length := at_ltN he
    have hnl := numL_len (IntKind.i64.wrap (e.2 - (pre.length : Int)))
    have c1 : L.length + 1 ≤ 140737488355328 := by omega
    have e1 : (L ++ [u8P (IntKind.u8.wrap e.1)]) ++ numL (IntKind.i64.wrap (e.2 - (pre.length : Int))) = L ++ u8P (IntKind.u8.wrap e.1) :: numL (IntKind.i64.wrap (e.2 - (pre.length : Int))) := by simp
    have hih := ih (epre ++ [e]) (L ++ u8P (IntKind.u8.wrap e.1) :: numL (IntKind.i64.wrap (e.2 - (pre.length : Int)))) (at_step he) (by simp; omega) (fun L' hL' hb => hk L' (by rw [hL', putE]; simp) hb)
    have hnv := implNum_val (L ++ [u8P (IntKind.u8.wrap e.1)]) (IntKind.i64.wrap (e.2 - (pre.length : Int))) (by simp; omega)
    refine Ev3.succ ?_
    simp only [impl_MachinePut.l1_eq, edges_len, at_lt he, edges_at he, edge_f0, edge_f1, hnv, at_next he (by omega), c1, e1, strs_len, strs_elem, ints_len, ints_elem, items_list, fld_agg, elem_list, toStr_sc, toInt_sc, toBool_sc, headD_one, nat_int, get_bt, decide_eq_true_eq, decide_eq_false_iff_not, decide_true, decide_false, if_true, if_false, ite_self, Bool.not_true, Bool.not_false, Bool.false_eq_true, Bool.true_eq_false, Bool.true_and, Bool.false_and, Bool.and_true, Bool.and_false, not_true, not_false_iff, Option.bind_some, nn, toList_inj, Bool.not_eq_true', Bool.not_eq_false', Int.le_refl, and_self, true_and, and_true, false_and, and_false, bne_self_eq_false, beq_self_eq_true, Int.reduceEq, Nat.reduceEqDiff, List.length_singleton, List.tail_cons, Int.reduceLE, Int.reduceLT, decide_eq_true_eq]
    exact hih
theorem implPut_l0 (m : List St) (hm : MachB m) : ∀ (rest pre : List St) (L : List PV), m = pre ++ rest → L.length ≤ 8000000 * pre.length + 8 →
    Ev2 (fun N n => impl_MachinePut.l0 N n (machP m) (m.length : Int) (pre.length : Int) (PV.list L)) [strP (if 4000 < (L ++ putL pre.length rest).length then ⟨#[]⟩ else bytesOfL (L ++ putL pre.length rest))] := by
  have hn := hm.n
  intro rest
  induction rest with
  | nil =>
    intro pre L hp hL
    refine Ev2.succ ?_
    simp only [impl_MachinePut.l0_eq, mach_len, at_end hp, putL, List.append_nil, strs_len, strs_elem, ints_len, ints_elem, items_list, fld_agg, elem_list, toStr_sc, toInt_sc, toBool_sc, headD_one, nat_int, get_bt, decide_eq_true_eq, decide_eq_false_iff_not, decide_true, decide_false, if_true, if_false, ite_self, Bool.not_true, Bool.not_false, Bool.false_eq_true, Bool.true_eq_false, Bool.true_and, Bool.false_and, Bool.and_true, Bool.and_false, not_true, not_false_iff, Option.bind_some, nn, toList_inj, Bool.not_eq_true', Bool.not_eq_false', Int.le_refl, and_self, true_and, and_true, false_and, and_false, bne_self_eq_false, beq_self_eq_true, Int.reduceEq, Nat.reduceEqDiff, List.length_singleton, List.tail_cons, Int.reduceLE, Int.reduceLT, decide_eq_true_eq]
    by_cases h : 4000 < L.length
    · have h' : (4000 : Int) < (L.length : Int) := by omega
      simp only [h, h', strs_len, strs_elem, ints_len, ints_elem, items_list, fld_agg, elem_list, toStr_sc, toInt_sc, toBool_sc, headD_one, nat_int, get_bt, decide_eq_true_eq, decide_eq_false_iff_not, decide_true, decide_false, if_true, if_false, ite_self, Bool.not_true, Bool.not_false, Bool.false_eq_true, Bool.true_eq_false, Bool.true_and, Bool.false_and, Bool.and_true, Bool.and_false, not_true, not_false_iff, Option.bind_some, nn, toList_inj, Bool.not_eq_true', Bool.not_eq_false', Int.le_refl, and_self, true_and, and_true, false_and, and_false, bne_self_eq_false, beq_self_eq_true, Int.reduceEq, Nat.reduceEqDiff, List.length_singleton, List.tail_cons, Int.reduceLE, Int.reduceLT, decide_eq_true_eq]; exact Ev2.now _
    · have h' : ¬ (4000 : Int) < (L.length : Int) := by omega
      simp only [h, h', strs_len, strs_elem, ints_len, ints_elem, items_list, fld_agg, elem_list, toStr_sc, toInt_sc, toBool_sc, headD_one, nat_int, get_bt, decide_eq_true_eq, decide_eq_false_iff_not, decide_true, decide_false, if_true, if_false, ite_self, Bool.not_true, Bool.not_false, Bool.false_eq_true, Bool.true_eq_false, Bool.true_and, Bool.false_and, Bool.and_true, Bool.and_false, not_true, not_false_iff, Option.bind_some, nn, toList_inj, Bool.not_eq_true', Bool.not_eq_false', Int.le_refl, and_self, true_and, and_true, false_and, and_false, bne_self_eq_false, beq_self_eq_true, Int.reduceEq, Nat.reduceEqDiff, List.length_singleton, List.tail_cons, Int.reduceLE, Int.reduceLT, decide_eq_true_eq]; exact Ev2.now _
  | cons s rest ih =>
    intro pre L hp hL
    have hle : pre.length < m.length := at_ltN hp
    have hnl := numL_len (cntS s)
    have hl : (pre ++ [s]).length = pre.length + 1 := by simp
    have h1 := (implPut_l1 m hm hp (if 4000 < (L ++ putL pre.length (s :: rest)).length then ⟨#[]⟩ else bytesOfL (L ++ putL pre.length (s :: rest))) s.2 [] (L ++ numL (cntS s)) rfl (by rw [List.length_append, List.length_nil]; omega) (fun L' hL' hb => by
      have h := ih (pre ++ [s]) L' (at_step hp) (by rw [hl]; omega)
      have e : L' ++ putL (pre ++ [s]).length rest = L ++ putL pre.length (s :: rest) := by rw [hl, hL', putL]; simp
      rw [e] at h
      exact h)).start
    refine Ev2.succ ?_
    have hnv := fun n => implNum_val L n (by omega)
    simp only [impl_MachinePut.l0_eq, mach_len, at_lt hp, mach_at hp, st_f0, st_f1, edges_len, hnv, strs_len, strs_elem, ints_len, ints_elem, items_list, fld_agg, elem_list, toStr_sc, toInt_sc, toBool_sc, headD_one, nat_int, get_bt, decide_eq_true_eq, decide_eq_false_iff_not, decide_true, decide_false, if_true, if_false, ite_self, Bool.not_true, Bool.not_false, Bool.false_eq_true, Bool.true_eq_false, Bool.true_and, Bool.false_and, Bool.and_true, Bool.and_false, not_true, not_false_iff, Option.bind_some, nn, toList_inj, Bool.not_eq_true', Bool.not_eq_false', Int.le_refl, and_self, true_and, and_true, false_and, and_false, bne_self_eq_false, beq_self_eq_true, Int.reduceEq, Nat.reduceEqDiff, List.length_singleton, List.tail_cons, Int.reduceLE, Int.reduceLT, decide_eq_true_eq]
    unfold cntS at h1
    by_cases hs1 : s.1 = true
    · rw [if_pos hs1] at h1
      simp only [hs1, strs_len, strs_elem, ints_len, ints_elem, items_list, fld_agg, elem_list, toStr_sc, toInt_sc, toBool_sc, headD_one, nat_int, get_bt, decide_eq_true_eq, decide_eq_false_iff_not, decide_true, decide_false, if_true, if_false, ite_self, Bool.not_true, Bool.not_false, Bool.false_eq_true, Bool.true_eq_false, Bool.true_and, Bool.false_and, Bool.and_true, Bool.and_false, not_true, not_false_iff, Option.bind_some, nn, toList_inj, Bool.not_eq_true', Bool.not_eq_false', Int.le_refl, and_self, true_and, and_true, false_and, and_false, bne_self_eq_false, beq_self_eq_true, Int.reduceEq, Nat.reduceEqDiff, List.length_singleton, List.tail_cons, Int.reduceLE, Int.reduceLT, decide_eq_true_eq]
      exact h1
    · rw [if_neg hs1] at h1
      simp only [hs1, strs_len, strs_elem, ints_len, ints_elem, items_list, fld_agg, elem_list, toStr_sc, toInt_sc, toBool_sc, headD_one, nat_int, get_bt, decide_eq_true_eq, decide_eq_false_iff_not, decide_true, decide_false, if_true, if_false, ite_self, Bool.not_true, Bool.not_false, Bool.false_eq_true, Bool.true_eq_false, Bool.true_and, Bool.false_and, Bool.and_true, Bool.and_false, not_true, not_false_iff, Option.bind_some, nn, toList_inj, Bool.not_eq_true', Bool.not_eq_false', Int.le_refl, and_self, true_and, and_true, false_and, and_false, bne_self_eq_false, beq_self_eq_true, Int.reduceEq, Nat.reduceEqDiff, List.length_singleton, List.tail_cons, Int.reduceLE, Int.reduceLT, decide_eq_true_eq]
      exact h1
def putT (m : List St) : ByteArray := if okM m = true then (if 4000 < (putM m).length then ⟨#[]⟩ else bytesOfL (putM m)) else ⟨#[]⟩
theorem implPut_ev (m : List St) (hm : MachB m) : Ev (fun N => impl_MachinePut.f N [machP m]) [strP (putT m)] := by
  have hnl := numL_len (m.length : Int)
  simp only [impl_MachinePut.f_eq]
  refine Ev.bind (implOk_ev m hm) ?_
  unfold putT
  cases okM m with
  | false => simp only [strs_len, strs_elem, ints_len, ints_elem, items_list, fld_agg, elem_list, toStr_sc, toInt_sc, toBool_sc, headD_one, nat_int, get_bt, decide_eq_true_eq, decide_eq_false_iff_not, decide_true, decide_false, if_true, if_false, ite_self, Bool.not_true, Bool.not_false, Bool.false_eq_true, Bool.true_eq_false, Bool.true_and, Bool.false_and, Bool.and_true, Bool.and_false, not_true, not_false_iff, Option.bind_some, nn, toList_inj, Bool.not_eq_true', Bool.not_eq_false', Int.le_refl, and_self, true_and, and_true, false_and, and_false, bne_self_eq_false, beq_self_eq_true, Int.reduceEq, Nat.reduceEqDiff, List.length_singleton, List.tail_cons, Int.reduceLE, Int.reduceLT, decide_eq_true_eq]; exact Ev.now _
  | true =>
    have hnv := implNum_val [] (m.length : Int) (by simp)
    simp only [mach_len, hnv, List.nil_append, strs_len, strs_elem, ints_len, ints_elem, items_list, fld_agg, elem_list, toStr_sc, toInt_sc, toBool_sc, headD_one, nat_int, get_bt, decide_eq_true_eq, decide_eq_false_iff_not, decide_true, decide_false, if_true, if_false, ite_self, Bool.not_true, Bool.not_false, Bool.false_eq_true, Bool.true_eq_false, Bool.true_and, Bool.false_and, Bool.and_true, Bool.and_false, not_true, not_false_iff, Option.bind_some, nn, toList_inj, Bool.not_eq_true', Bool.not_eq_false', Int.le_refl, and_self, true_and, and_true, false_and, and_false, bne_self_eq_false, beq_self_eq_true, Int.reduceEq, Nat.reduceEqDiff, List.length_singleton, List.tail_cons, Int.reduceLE, Int.reduceLT, decide_eq_true_eq]
    exact (implPut_l0 m hm m [] (numL (m.length : Int)) rfl (by rw [List.length_nil]; omega)).diag
theorem specMPut_ev (m : List St) (hm : MachB m) : Ev (fun N => spec_MachinePut.f N [machP m]) [strP (putT m)] := by
  simp only [spec_MachinePut.f_eq]
  refine Ev.bind (specOk_ev m hm) ?_
  unfold putT
  cases okM m with
  | false => simp only [strs_len, strs_elem, ints_len, ints_elem, items_list, fld_agg, elem_list, toStr_sc, toInt_sc, toBool_sc, headD_one, nat_int, get_bt, decide_eq_true_eq, decide_eq_false_iff_not, decide_true, decide_false, if_true, if_false, ite_self, Bool.not_true, Bool.not_false, Bool.false_eq_true, Bool.true_eq_false, Bool.true_and, Bool.false_and, Bool.and_true, Bool.and_false, not_true, not_false_iff, Option.bind_some, nn, toList_inj, Bool.not_eq_true', Bool.not_eq_false', Int.le_refl, and_self, true_and, and_true, false_and, and_false, bne_self_eq_false, beq_self_eq_true, Int.reduceEq, Nat.reduceEqDiff, List.length_singleton, List.tail_cons, Int.reduceLE, Int.reduceLT, decide_eq_true_eq]; exact Ev.now _
  | true =>
    simp only [strs_len, strs_elem, ints_len, ints_elem, items_list, fld_agg, elem_list, toStr_sc, toInt_sc, toBool_sc, headD_one, nat_int, get_bt, decide_eq_true_eq, decide_eq_false_iff_not, decide_true, decide_false, if_true, if_false, ite_self, Bool.not_true, Bool.not_false, Bool.false_eq_true, Bool.true_eq_false, Bool.true_and, Bool.false_and, Bool.and_true, Bool.and_false, not_true, not_false_iff, Option.bind_some, nn, toList_inj, Bool.not_eq_true', Bool.not_eq_false', Int.le_refl, and_self, true_and, and_true, false_and, and_false, bne_self_eq_false, beq_self_eq_true, Int.reduceEq, Nat.reduceEqDiff, List.length_singleton, List.tail_cons, Int.reduceLE, Int.reduceLT, decide_eq_true_eq]
    refine Ev.bind (specPut_ev m hm) ?_
    by_cases h : 4000 < (putM m).length
    · have h' : (4000 : Int) < (((bytesOfL (putM m)).size : Nat) : Int) := by rw [bytesOfL_size]; omega
      simp only [h, h', strs_len, strs_elem, ints_len, ints_elem, items_list, fld_agg, elem_list, toStr_sc, toInt_sc, toBool_sc, headD_one, nat_int, get_bt, decide_eq_true_eq, decide_eq_false_iff_not, decide_true, decide_false, if_true, if_false, ite_self, Bool.not_true, Bool.not_false, Bool.false_eq_true, Bool.true_eq_false, Bool.true_and, Bool.false_and, Bool.and_true, Bool.and_false, not_true, not_false_iff, Option.bind_some, nn, toList_inj, Bool.not_eq_true', Bool.not_eq_false', Int.le_refl, and_self, true_and, and_true, false_and, and_false, bne_self_eq_false, beq_self_eq_true, Int.reduceEq, Nat.reduceEqDiff, List.length_singleton, List.tail_cons, Int.reduceLE, Int.reduceLT, decide_eq_true_eq]; exact Ev.now _
    · have h' : ¬ (4000 : Int) < (((bytesOfL (putM m)).size : Nat) : Int) := by rw [bytesOfL_size]; omega
      simp only [h, h', strs_len, strs_elem, ints_len, ints_elem, items_list, fld_agg, elem_list, toStr_sc, toInt_sc, toBool_sc, headD_one, nat_int, get_bt, decide_eq_true_eq, decide_eq_false_iff_not, decide_true, decide_false, if_true, if_false, ite_self, Bool.not_true, Bool.not_false, Bool.false_eq_true, Bool.true_eq_false, Bool.true_and, Bool.false_and, Bool.and_true, Bool.and_false, not_true, not_false_iff, Option.bind_some, nn, toList_inj, Bool.not_eq_true', Bool.not_eq_false', Int.le_refl, and_self, true_and, and_true, false_and, and_false, bne_self_eq_false, beq_self_eq_true, Int.reduceEq, Nat.reduceEqDiff, List.length_singleton, List.tail_cons, Int.reduceLE, Int.reduceLT, decide_eq_true_eq]; exact Ev.now _
theorem mach_arg {P : Program} {t e f i b x : TypeId} (ht : tk P t = .slice e) (he : tk P e = .struct [b, f]) (hb : tk P b = .bool) (hf : tk P f = .slice x) (hx : tk P x = .struct [i, i]) (hi : tk P i = .int .i64) {n : Nat} {p : PV} (h : PvOk P (n + 5) t p) : ∃ m : List St, p = machP m ∧ m.length ≤ reachBytes ∧ ∀ s ∈ m, s.2.length ≤ reachBytes := by
  obtain ⟨ps, rfl, h1, h2⟩ := pvOk_slice ht h
  obtain ⟨m, rfl, h3⟩ := map_of (f := stP) (φ := fun s => s.2.length ≤ reachBytes) (ps := ps) (fun q hq => by
    obtain ⟨qs, rfl, hqs⟩ := pvOk_struct he (h2 q hq)
    obtain ⟨a, c, rfl, ha, hc⟩ := pvOkL2 hqs
    obtain ⟨bb, rfl⟩ := pvOk_bool hb ha
    obtain ⟨es, rfl, he1, he2⟩ := pvOk_slice hf hc
    obtain ⟨l, rfl, _⟩ := map_of (f := edgeP) (φ := fun _ => True) (ps := es) (fun q hq => by
      obtain ⟨rs, rfl, hrs⟩ := pvOk_struct hx (he2 q hq)
      obtain ⟨u, v, rfl, hu, hv⟩ := pvOkL2 hrs
      obtain ⟨y, rfl, _⟩ := pvOk_int hi hu
      obtain ⟨z, rfl, _⟩ := pvOk_int hi hv
      exact ⟨(y, z), rfl, trivial⟩)
    exact ⟨(bb, l), rfl, by simpa using he1⟩)
  exact ⟨m, rfl, by simpa using h1, h3⟩
/-- The law's own function answers true. -/
theorem law (ps : List PV) (h : PvOkL (PvOk Try.prog 8) [22] ps) : ∃ N, laws_FnExactMachinePut.f N ps = some [boolP true] := by
  obtain ⟨p, rfl, h1⟩ := pvOkL1 h
  obtain ⟨m, rfl, hm1, hm2⟩ := mach_arg (P := Try.prog) (t := 22) (e := 53) (f := 51) (b := 4) (x := 92) (i := 3) (by kernel_rfl) (by kernel_rfl) (by kernel_rfl) (by kernel_rfl) (by kernel_rfl) (by kernel_rfl) h1
  refine Ev.some ?_
  simp only [laws_FnExactMachinePut.f_eq]
  obtain ⟨r, hr, hv⟩ := szStates_ev m (by simp only [reachBytes] at hm1; omega) (fun s hs => by have := hm2 s hs; simp only [reachBytes] at this; omega) 1048576 (by omega) (by omega)
  refine Ev.bind hr ?_
  by_cases h0 : r < 0
  · simp only [h0, strs_len, strs_elem, ints_len, ints_elem, items_list, fld_agg, elem_list, toStr_sc, toInt_sc, toBool_sc, headD_one, nat_int, get_bt, decide_eq_true_eq, decide_eq_false_iff_not, decide_true, decide_false, if_true, if_false, ite_self, Bool.not_true, Bool.not_false, Bool.false_eq_true, Bool.true_eq_false, Bool.true_and, Bool.false_and, Bool.and_true, Bool.and_false, not_true, not_false_iff, Option.bind_some, nn, toList_inj, Bool.not_eq_true', Bool.not_eq_false', Int.le_refl, and_self, true_and, and_true, false_and, and_false, bne_self_eq_false, beq_self_eq_true, Int.reduceEq, Nat.reduceEqDiff, List.length_singleton, List.tail_cons, Int.reduceLE, Int.reduceLT, decide_eq_true_eq]; exact Ev.now _
  have hm : MachB m := ⟨by have := (hv (by omega)).1; omega, fun s hs => by have := (hv (by omega)).2 s hs; omega⟩
  simp only [h0, strs_len, strs_elem, ints_len, ints_elem, items_list, fld_agg, elem_list, toStr_sc, toInt_sc, toBool_sc, headD_one, nat_int, get_bt, decide_eq_true_eq, decide_eq_false_iff_not, decide_true, decide_false, if_true, if_false, ite_self, Bool.not_true, Bool.not_false, Bool.false_eq_true, Bool.true_eq_false, Bool.true_and, Bool.false_and, Bool.and_true, Bool.and_false, not_true, not_false_iff, Option.bind_some, nn, toList_inj, Bool.not_eq_true', Bool.not_eq_false', Int.le_refl, and_self, true_and, and_true, false_and, and_false, bne_self_eq_false, beq_self_eq_true, Int.reduceEq, Nat.reduceEqDiff, List.length_singleton, List.tail_cons, Int.reduceLE, Int.reduceLT, decide_eq_true_eq]
  refine Ev.bind (toStates_ev m hm) ?_
  refine Ev.bind (specMPut_ev m hm) ?_
  refine Ev.bind (toStates_ev m hm) ?_
  refine Ev.bind (implPut_ev m hm) ?_
  simp only [strs_len, strs_elem, ints_len, ints_elem, items_list, fld_agg, elem_list, toStr_sc, toInt_sc, toBool_sc, headD_one, nat_int, get_bt, decide_eq_true_eq, decide_eq_false_iff_not, decide_true, decide_false, if_true, if_false, ite_self, Bool.not_true, Bool.not_false, Bool.false_eq_true, Bool.true_eq_false, Bool.true_and, Bool.false_and, Bool.and_true, Bool.and_false, not_true, not_false_iff, Option.bind_some, nn, toList_inj, Bool.not_eq_true', Bool.not_eq_false', Int.le_refl, and_self, true_and, and_true, false_and, and_false, bne_self_eq_false, beq_self_eq_true, Int.reduceEq, Nat.reduceEqDiff, List.length_singleton, List.tail_cons, Int.reduceLE, Int.reduceLT, decide_eq_true_eq]
  refine Ev.bind (toStates_ev m hm) ?_
  refine Ev.bind (eqStates_ev m hm) ?_
  simp only [strs_len, strs_elem, ints_len, ints_elem, items_list, fld_agg, elem_list, toStr_sc, toInt_sc, toBool_sc, headD_one, nat_int, get_bt, decide_eq_true_eq, decide_eq_false_iff_not, decide_true, decide_false, if_true, if_false, ite_self, Bool.not_true, Bool.not_false, Bool.false_eq_true, Bool.true_eq_false, Bool.true_and, Bool.false_and, Bool.and_true, Bool.and_false, not_true, not_false_iff, Option.bind_some, nn, toList_inj, Bool.not_eq_true', Bool.not_eq_false', Int.le_refl, and_self, true_and, and_true, false_and, and_false, bne_self_eq_false, beq_self_eq_true, Int.reduceEq, Nat.reduceEqDiff, List.length_singleton, List.tail_cons, Int.reduceLE, Int.reduceLT, decide_eq_true_eq]
  exact Ev.now _
end Go.Proofs.Ytfbkfhdlingedaa.FnExactMachinePut
