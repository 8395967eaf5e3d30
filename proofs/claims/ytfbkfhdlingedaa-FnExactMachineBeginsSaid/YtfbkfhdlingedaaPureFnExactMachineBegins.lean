/- The law FnExactMachineBegins, over the trees that its functions compute: it answers true, for all arguments of the bounds that the row grants. -/
import Derived.Test.YtfbkfhdlingedaaFnFnExactMachineBeginsx1
set_option linter.unusedVariables false
set_option linter.unusedSimpArgs false
set_option maxRecDepth 10000
namespace Go.Proofs.Ytfbkfhdlingedaa.FnExactMachineBegins
open Go Go.Proofs.YtfbkfhdlingedaaAm
theorem Ev2.bind2 {α β : Type} {r : α} {s : β} {g : Nat → Nat → Option β} {f : Nat → Nat → β → Option α} (h : Ev2 g s) (k : Ev2 (fun N n => f N n s) r) : Ev2 (fun N n => (g N n).bind (f N n)) r := by
  obtain ⟨k1, h1⟩ := h; obtain ⟨k2, h2⟩ := k
  exact ⟨max k1 k2, fun N n hN hn => by
    show (g N n).bind (f N n) = _
    rw [h1 N n (by omega) (by omega), Option.bind_some]; exact h2 N n (by omega) (by omega)⟩
theorem nat_wrap {n : Int} {m : Nat} (h : n = (m : Int)) (hm : m < 9223372036854775808) : IntKind.i64.wrap n = (m : Int) := by
  rw [h, wrap_id (by omega) (by omega)]
theorem lt_int {a b : Nat} (h : a < b) : (a : Int) < (b : Int) := Int.ofNat_lt.2 h
theorem le_int {a b : Nat} (h : a ≤ b) : (a : Int) ≤ (b : Int) := Int.ofNat_le.2 h
/-! #### machines: states and edges -/
abbrev Ed := Int × Int
abbrev St := Bool × List Ed
def edgeP (e : Ed) : PV := .agg [intP e.1, intP e.2]
def edgesP (l : List Ed) : PV := .list (l.map edgeP)
def stP (s : St) : PV := .agg [boolP s.1, edgesP s.2]
def machP (m : List St) : PV := .list (m.map stP)
theorem edge_f0 (e : Ed) : (edgeP e).fld 0 = intP e.1 := rfl
theorem edge_f1 (e : Ed) : (edgeP e).fld 1 = intP e.2 := rfl
theorem edge_agg (e : Ed) : PV.agg [PV.sc (.int .i64 e.1), PV.sc (.int .i64 e.2)] = edgeP e := rfl
theorem st_f0 (s : St) : (stP s).fld 0 = boolP s.1 := rfl
theorem st_f1 (s : St) : (stP s).fld 1 = edgesP s.2 := rfl
theorem st_agg (s : St) : PV.agg [PV.sc (.bool s.1), edgesP s.2] = stP s := rfl
theorem edges_len (l : List Ed) : (edgesP l).items.length = l.length := by simp [edgesP, PV.items]
theorem mach_len (l : List St) : (machP l).items.length = l.length := by simp [machP, PV.items]
theorem edges_at {l pre rest : List Ed} {e : Ed} (h : l = pre ++ e :: rest) : (edgesP l).elem pre.length = edgeP e := by
  subst h; simp [edgesP, PV.elem, PV.items, List.getD_eq_getElem?_getD]
theorem mach_at {l pre rest : List St} {s : St} (h : l = pre ++ s :: rest) : (machP l).elem pre.length = stP s := by
  subst h; simp [machP, PV.elem, PV.items, List.getD_eq_getElem?_getD]
/-! The size. -/
theorem szEdge_ev (l : List Ed) (left : Int) (h0 : 0 ≤ left) (h1 : left ≤ 1048576) (hl : l.length ≤ 9223372036854775807) (N : Nat) : laws_szEdgeS.f N [edgesP l, intP left] = some [intP (if left - l.length < 0 then -1 else left - l.length)] := by
  have hw : IntKind.i64.wrap (left - (l.length : Int)) = left - l.length := wrap_id (by omega) (by omega)
  simp only [laws_szEdgeS.f_eq, edges_len, hw, strs_len, strs_elem, ints_len, ints_elem, items_list, fld_agg, elem_list, toStr_sc, toInt_sc, toBool_sc, headD_one, nat_int, get_bt, decide_eq_true_eq, decide_eq_false_iff_not, decide_true, decide_false, if_true, if_false, ite_self, Bool.not_true, Bool.not_false, Bool.false_eq_true, Bool.true_eq_false, Bool.true_and, Bool.false_and, Bool.and_true, Bool.and_false, not_true, not_false_iff, Option.bind_some, nn, toList_inj, Bool.not_eq_true', Bool.not_eq_false', Int.le_refl, and_self, true_and, and_true, false_and, and_false, bne_self_eq_false, beq_self_eq_true, Int.reduceEq, Nat.reduceEqDiff, List.length_singleton, List.tail_cons, Int.reduceLE, Int.reduceLT, decide_eq_true_eq]
  by_cases h : left - (l.length : Int) < 0 <;> simp only [h, strs_len, strs_elem, ints_len, ints_elem, items_list, fld_agg, elem_list, toStr_sc, toInt_sc, toBool_sc, headD_one, nat_int, get_bt, decide_eq_true_eq, decide_eq_false_iff_not, decide_true, decide_false, if_true, if_false, ite_self, Bool.not_true, Bool.not_false, Bool.false_eq_true, Bool.true_eq_false, Bool.true_and, Bool.false_and, Bool.and_true, Bool.and_false, not_true, not_false_iff, Option.bind_some, nn, toList_inj, Bool.not_eq_true', Bool.not_eq_false', Int.le_refl, and_self, true_and, and_true, false_and, and_false, bne_self_eq_false, beq_self_eq_true, Int.reduceEq, Nat.reduceEqDiff, List.length_singleton, List.tail_cons, Int.reduceLE, Int.reduceLT, decide_eq_true_eq]
theorem szState_val (s : St) (left : Int) (h0 : 0 ≤ left) (h1 : left ≤ 1048576) (hl : s.2.length ≤ 9223372036854775807) (N : Nat) : laws_szState.f N [stP s, intP left] = some [intP (if left - s.2.length < 0 then -1 else left - s.2.length)] := by
  simp only [laws_szState.f_eq, st_f1, szEdge_ev s.2 left h0 h1 hl, strs_len, strs_elem, ints_len, ints_elem, items_list, fld_agg, elem_list, toStr_sc, toInt_sc, toBool_sc, headD_one, nat_int, get_bt, decide_eq_true_eq, decide_eq_false_iff_not, decide_true, decide_false, if_true, if_false, ite_self, Bool.not_true, Bool.not_false, Bool.false_eq_true, Bool.true_eq_false, Bool.true_and, Bool.false_and, Bool.and_true, Bool.and_false, not_true, not_false_iff, Option.bind_some, nn, toList_inj, Bool.not_eq_true', Bool.not_eq_false', Int.le_refl, and_self, true_and, and_true, false_and, and_false, bne_self_eq_false, beq_self_eq_true, Int.reduceEq, Nat.reduceEqDiff, List.length_singleton, List.tail_cons, Int.reduceLE, Int.reduceLT, decide_eq_true_eq]
  by_cases h : left - (s.2.length : Int) < 0
  · have z : ((-1 : Int) < 0) = True := eq_true (by omega)
    simp only [h, z, strs_len, strs_elem, ints_len, ints_elem, items_list, fld_agg, elem_list, toStr_sc, toInt_sc, toBool_sc, headD_one, nat_int, get_bt, decide_eq_true_eq, decide_eq_false_iff_not, decide_true, decide_false, if_true, if_false, ite_self, Bool.not_true, Bool.not_false, Bool.false_eq_true, Bool.true_eq_false, Bool.true_and, Bool.false_and, Bool.and_true, Bool.and_false, not_true, not_false_iff, Option.bind_some, nn, toList_inj, Bool.not_eq_true', Bool.not_eq_false', Int.le_refl, and_self, true_and, and_true, false_and, and_false, bne_self_eq_false, beq_self_eq_true, Int.reduceEq, Nat.reduceEqDiff, List.length_singleton, List.tail_cons, Int.reduceLE, Int.reduceLT, decide_eq_true_eq]
  · simp only [h, strs_len, strs_elem, ints_len, ints_elem, items_list, fld_agg, elem_list, toStr_sc, toInt_sc, toBool_sc, headD_one, nat_int, get_bt, decide_eq_true_eq, decide_eq_false_iff_not, decide_true, decide_false, if_true, if_false, ite_self, Bool.not_true, Bool.not_false, Bool.false_eq_true, Bool.true_eq_false, Bool.true_and, Bool.false_and, Bool.and_true, Bool.and_false, not_true, not_false_iff, Option.bind_some, nn, toList_inj, Bool.not_eq_true', Bool.not_eq_false', Int.le_refl, and_self, true_and, and_true, false_and, and_false, bne_self_eq_false, beq_self_eq_true, Int.reduceEq, Nat.reduceEqDiff, List.length_singleton, List.tail_cons, Int.reduceLE, Int.reduceLT, decide_eq_true_eq]
theorem szStates_loop (m : List St) (hm : m.length ≤ 9223372036854775807) (hs : ∀ s ∈ m, s.2.length ≤ 9223372036854775807) : ∀ rest pre : List St, m = pre ++ rest → ∀ left : Int, 0 ≤ left → left ≤ 1048576 →
    ∃ r, Ev2 (fun N n => laws_szStateS.l0 N n (machP m) left (pre.length : Int)) [intP r] ∧ (0 ≤ r → ∀ s ∈ rest, (s.2.length : Int) ≤ left) := by
  intro rest
  induction rest with
  | nil =>
    intro pre hp left h0 h1
    refine ⟨left, Ev2.succ ?_, fun _ => by simp⟩
    simp only [laws_szStateS.l0_eq, mach_len, at_end hp, strs_len, strs_elem, ints_len, ints_elem, items_list, fld_agg, elem_list, toStr_sc, toInt_sc, toBool_sc, headD_one, nat_int, get_bt, decide_eq_true_eq, decide_eq_false_iff_not, decide_true, decide_false, if_true, if_false, ite_self, Bool.not_true, Bool.not_false, Bool.false_eq_true, Bool.true_eq_false, Bool.true_and, Bool.false_and, Bool.and_true, Bool.and_false, not_true, not_false_iff, Option.bind_some, nn, toList_inj, Bool.not_eq_true', Bool.not_eq_false', Int.le_refl, and_self, true_and, and_true, false_and, and_false, bne_self_eq_false, beq_self_eq_true, Int.reduceEq, Nat.reduceEqDiff, List.length_singleton, List.tail_cons, Int.reduceLE, Int.reduceLT, decide_eq_true_eq]
    exact Ev2.now _
  | cons c rest ih =>
    intro pre hp left h0 h1
    have hc : c.2.length ≤ 9223372036854775807 := hs c (by rw [hp]; simp)
    by_cases hneg : left - (c.2.length : Int) < 0
    · refine ⟨-1, Ev2.succ ?_, fun h => by omega⟩
      have z : ((-1 : Int) < 0) = True := eq_true (by omega)
      simp only [laws_szStateS.l0_eq, mach_len, at_lt hp, mach_at hp, st_f0, st_f1, st_agg, szState_val c left h0 h1 hc, hneg, z, strs_len, strs_elem, ints_len, ints_elem, items_list, fld_agg, elem_list, toStr_sc, toInt_sc, toBool_sc, headD_one, nat_int, get_bt, decide_eq_true_eq, decide_eq_false_iff_not, decide_true, decide_false, if_true, if_false, ite_self, Bool.not_true, Bool.not_false, Bool.false_eq_true, Bool.true_eq_false, Bool.true_and, Bool.false_and, Bool.and_true, Bool.and_false, not_true, not_false_iff, Option.bind_some, nn, toList_inj, Bool.not_eq_true', Bool.not_eq_false', Int.le_refl, and_self, true_and, and_true, false_and, and_false, bne_self_eq_false, beq_self_eq_true, Int.reduceEq, Nat.reduceEqDiff, List.length_singleton, List.tail_cons, Int.reduceLE, Int.reduceLT, decide_eq_true_eq]
      exact Ev2.now _
    · obtain ⟨r, hr, hv⟩ := ih _ (at_step hp) (left - c.2.length) (by omega) (by omega)
      refine ⟨r, Ev2.succ ?_, fun h s hs => ?_⟩
      · simp only [laws_szStateS.l0_eq, mach_len, at_lt hp, mach_at hp, st_f0, st_f1, st_agg, szState_val c left h0 h1 hc, hneg, at_next hp hm, strs_len, strs_elem, ints_len, ints_elem, items_list, fld_agg, elem_list, toStr_sc, toInt_sc, toBool_sc, headD_one, nat_int, get_bt, decide_eq_true_eq, decide_eq_false_iff_not, decide_true, decide_false, if_true, if_false, ite_self, Bool.not_true, Bool.not_false, Bool.false_eq_true, Bool.true_eq_false, Bool.true_and, Bool.false_and, Bool.and_true, Bool.and_false, not_true, not_false_iff, Option.bind_some, nn, toList_inj, Bool.not_eq_true', Bool.not_eq_false', Int.le_refl, and_self, true_and, and_true, false_and, and_false, bne_self_eq_false, beq_self_eq_true, Int.reduceEq, Nat.reduceEqDiff, List.length_singleton, List.tail_cons, Int.reduceLE, Int.reduceLT, decide_eq_true_eq]
        exact hr
      · rcases List.mem_cons.1 hs with rfl | hs
        · omega
        · have := hv h s hs; omega
theorem szStates_ev (m : List St) (hm : m.length ≤ 9223372036854775807) (hs : ∀ s ∈ m, s.2.length ≤ 9223372036854775807) (left : Int) (h0 : 0 ≤ left) (h1 : left ≤ 1048576) :
    ∃ r, Ev (fun N => laws_szStateS.f N [machP m, intP left]) [intP r] ∧ (0 ≤ r → (m.length : Int) ≤ left ∧ ∀ s ∈ m, (s.2.length : Int) ≤ left) := by
  have hw : IntKind.i64.wrap (left - (m.length : Int)) = left - m.length := wrap_id (by omega) (by omega)
  by_cases hneg : left - (m.length : Int) < 0
  · refine ⟨-1, ?_, fun h => by omega⟩
    simp only [laws_szStateS.f_eq, mach_len, hw, hneg, strs_len, strs_elem, ints_len, ints_elem, items_list, fld_agg, elem_list, toStr_sc, toInt_sc, toBool_sc, headD_one, nat_int, get_bt, decide_eq_true_eq, decide_eq_false_iff_not, decide_true, decide_false, if_true, if_false, ite_self, Bool.not_true, Bool.not_false, Bool.false_eq_true, Bool.true_eq_false, Bool.true_and, Bool.false_and, Bool.and_true, Bool.and_false, not_true, not_false_iff, Option.bind_some, nn, toList_inj, Bool.not_eq_true', Bool.not_eq_false', Int.le_refl, and_self, true_and, and_true, false_and, and_false, bne_self_eq_false, beq_self_eq_true, Int.reduceEq, Nat.reduceEqDiff, List.length_singleton, List.tail_cons, Int.reduceLE, Int.reduceLT, decide_eq_true_eq]
    exact Ev.now _
  · obtain ⟨r, hr, hv⟩ := szStates_loop m hm hs m [] rfl (left - m.length) (by omega) (by omega)
    refine ⟨r, ?_, fun h => ⟨by omega, fun s hs => by have := hv h s hs; omega⟩⟩
    simp only [laws_szStateS.f_eq, mach_len, hw, hneg, strs_len, strs_elem, ints_len, ints_elem, items_list, fld_agg, elem_list, toStr_sc, toInt_sc, toBool_sc, headD_one, nat_int, get_bt, decide_eq_true_eq, decide_eq_false_iff_not, decide_true, decide_false, if_true, if_false, ite_self, Bool.not_true, Bool.not_false, Bool.false_eq_true, Bool.true_eq_false, Bool.true_and, Bool.false_and, Bool.and_true, Bool.and_false, not_true, not_false_iff, Option.bind_some, nn, toList_inj, Bool.not_eq_true', Bool.not_eq_false', Int.le_refl, and_self, true_and, and_true, false_and, and_false, bne_self_eq_false, beq_self_eq_true, Int.reduceEq, Nat.reduceEqDiff, List.length_singleton, List.tail_cons, Int.reduceLE, Int.reduceLT, decide_eq_true_eq]
    exact hr.diag
/-- A machine of bounded size. -/
structure MachB (m : List St) : Prop where
  n : m.length ≤ 1048576
  e : ∀ s ∈ m, s.2.length ≤ 1048576
/-! The copy. -/
theorem set_map {α : Type} (f : α → PV) (pre : List α) (z x : PV) (zs : List PV) : (pre.map f ++ z :: zs).set pre.length x = pre.map f ++ x :: zs := by
  have := set_mid (pre.map f) z x zs
  rwa [List.length_map] at this
theorem map_snoc {α : Type} (f : α → PV) (pre : List α) (c : α) (zs : List PV) : pre.map f ++ f c :: zs = (pre ++ [c]).map f ++ zs := by simp
theorem toEdge_val (e : Ed) (N : Nat) : laws_toEdge.f N [edgeP e] = some [edgeP e] := by
  simp only [laws_toEdge.f_eq, edge_f0, edge_f1, edge_agg, strs_len, strs_elem, ints_len, ints_elem, items_list, fld_agg, elem_list, toStr_sc, toInt_sc, toBool_sc, headD_one, nat_int, get_bt, decide_eq_true_eq, decide_eq_false_iff_not, decide_true, decide_false, if_true, if_false, ite_self, Bool.not_true, Bool.not_false, Bool.false_eq_true, Bool.true_eq_false, Bool.true_and, Bool.false_and, Bool.and_true, Bool.and_false, not_true, not_false_iff, Option.bind_some, nn, toList_inj, Bool.not_eq_true', Bool.not_eq_false', Int.le_refl, and_self, true_and, and_true, false_and, and_false, bne_self_eq_false, beq_self_eq_true, Int.reduceEq, Nat.reduceEqDiff, List.length_singleton, List.tail_cons, Int.reduceLE, Int.reduceLT, decide_eq_true_eq]
theorem toEdges_loop (l : List Ed) (hl : l.length ≤ 1048576) : ∀ rest pre : List Ed, l = pre ++ rest → Ev2 (fun N n => laws_toEdgeS.l0 N n (edgesP l) (pre.length : Int) (pre.map edgeP ++ List.replicate rest.length (PV.agg [intP 0, intP 0]))) [edgesP l] := by
  intro rest
  induction rest with
  | nil =>
    intro pre hp
    refine Ev2.succ ?_
    have e : PV.list (pre.map edgeP) = edgesP l := by rw [hp, List.append_nil]; rfl
    simp only [laws_toEdgeS.l0_eq, edges_len, at_end hp, List.length_nil, List.replicate_zero, List.append_nil, e, strs_len, strs_elem, ints_len, ints_elem, items_list, fld_agg, elem_list, toStr_sc, toInt_sc, toBool_sc, headD_one, nat_int, get_bt, decide_eq_true_eq, decide_eq_false_iff_not, decide_true, decide_false, if_true, if_false, ite_self, Bool.not_true, Bool.not_false, Bool.false_eq_true, Bool.true_eq_false, Bool.true_and, Bool.false_and, Bool.and_true, Bool.and_false, not_true, not_false_iff, Option.bind_some, nn, toList_inj, Bool.not_eq_true', Bool.not_eq_false', Int.le_refl, and_self, true_and, and_true, false_and, and_false, bne_self_eq_false, beq_self_eq_true, Int.reduceEq, Nat.reduceEqDiff, List.length_singleton, List.tail_cons, Int.reduceLE, Int.reduceLT, decide_eq_true_eq]
    exact Ev2.now _
  | cons c rest ih =>
    intro pre hp
    refine Ev2.succ ?_
    have hlen : (pre.length : Int) < (((pre.map edgeP ++ PV.agg [intP 0, intP 0] :: List.replicate rest.length (PV.agg [intP 0, intP 0])).length : Nat) : Int) := by simp; omega
    simp only [laws_toEdgeS.l0_eq, edges_len, at_lt hp, edges_at hp, edge_f0, edge_f1, edge_agg, toEdge_val, List.length_cons, List.replicate_succ, at_next hp (by omega), nat_int, set_map, map_snoc, headD_one, Option.bind_some, toInt_sc, decide_true, if_true, nn]
    have hlen' : (pre.length : Int) < ((pre.map edgeP ++ PV.agg [intP 0, intP 0] :: List.replicate rest.length (PV.agg [intP 0, intP 0])).length : Int) := hlen
    simp only [hlen', if_true]
    exact ih _ (at_step hp)
theorem toEdges_ev (l : List Ed) (hl : l.length ≤ 1048576) : Ev (fun N => laws_toEdgeS.f N [edgesP l]) [edgesP l] := by
  have c1 : l.length ≤ 17592186044416 := by omega
  simp only [laws_toEdgeS.f_eq, edges_len, c1, strs_len, strs_elem, ints_len, ints_elem, items_list, fld_agg, elem_list, toStr_sc, toInt_sc, toBool_sc, headD_one, nat_int, get_bt, decide_eq_true_eq, decide_eq_false_iff_not, decide_true, decide_false, if_true, if_false, ite_self, Bool.not_true, Bool.not_false, Bool.false_eq_true, Bool.true_eq_false, Bool.true_and, Bool.false_and, Bool.and_true, Bool.and_false, not_true, not_false_iff, Option.bind_some, nn, toList_inj, Bool.not_eq_true', Bool.not_eq_false', Int.le_refl, and_self, true_and, and_true, false_and, and_false, bne_self_eq_false, beq_self_eq_true, Int.reduceEq, Nat.reduceEqDiff, List.length_singleton, List.tail_cons, Int.reduceLE, Int.reduceLT, decide_eq_true_eq]
  exact (toEdges_loop l hl l [] rfl).diag
theorem toState_ev (s : St) (hl : s.2.length ≤ 1048576) : Ev (fun N => laws_toState.f N [stP s]) [stP s] := by
  simp only [laws_toState.f_eq, st_f0, st_f1, strs_len, strs_elem, ints_len, ints_elem, items_list, fld_agg, elem_list, toStr_sc, toInt_sc, toBool_sc, headD_one, nat_int, get_bt, decide_eq_true_eq, decide_eq_false_iff_not, decide_true, decide_false, if_true, if_false, ite_self, Bool.not_true, Bool.not_false, Bool.false_eq_true, Bool.true_eq_false, Bool.true_and, Bool.false_and, Bool.and_true, Bool.and_false, not_true, not_false_iff, Option.bind_some, nn, toList_inj, Bool.not_eq_true', Bool.not_eq_false', Int.le_refl, and_self, true_and, and_true, false_and, and_false, bne_self_eq_false, beq_self_eq_true, Int.reduceEq, Nat.reduceEqDiff, List.length_singleton, List.tail_cons, Int.reduceLE, Int.reduceLT, decide_eq_true_eq]
  refine Ev.bind (toEdges_ev s.2 hl) ?_
  simp only [st_agg, strs_len, strs_elem, ints_len, ints_elem, items_list, fld_agg, elem_list, toStr_sc, toInt_sc, toBool_sc, headD_one, nat_int, get_bt, decide_eq_true_eq, decide_eq_false_iff_not, decide_true, decide_false, if_true, if_false, ite_self, Bool.not_true, Bool.not_false, Bool.false_eq_true, Bool.true_eq_false, Bool.true_and, Bool.false_and, Bool.and_true, Bool.and_false, not_true, not_false_iff, Option.bind_some, nn, toList_inj, Bool.not_eq_true', Bool.not_eq_false', Int.le_refl, and_self, true_and, and_true, false_and, and_false, bne_self_eq_false, beq_self_eq_true, Int.reduceEq, Nat.reduceEqDiff, List.length_singleton, List.tail_cons, Int.reduceLE, Int.reduceLT, decide_eq_true_eq]
  exact Ev.now _
theorem toStates_loop (m : List St) (hm : MachB m) : ∀ rest pre : List St, m = pre ++ rest → Ev2 (fun N n => laws_toStateS.l0 N n (machP m) (pre.length : Int) (pre.map stP ++ List.replicate rest.length (PV.agg [boolP false, PV.list []]))) [machP m] := by
  have hn := hm.n
  intro rest
  induction rest with
  | nil =>
    intro pre hp
    refine Ev2.succ ?_
    have e : PV.list (pre.map stP) = machP m := by rw [hp, List.append_nil]; rfl
    simp only [laws_toStateS.l0_eq, mach_len, at_end hp, List.length_nil, List.replicate_zero, List.append_nil, e, strs_len, strs_elem, ints_len, ints_elem, items_list, fld_agg, elem_list, toStr_sc, toInt_sc, toBool_sc, headD_one, nat_int, get_bt, decide_eq_true_eq, decide_eq_false_iff_not, decide_true, decide_false, if_true, if_false, ite_self, Bool.not_true, Bool.not_false, Bool.false_eq_true, Bool.true_eq_false, Bool.true_and, Bool.false_and, Bool.and_true, Bool.and_false, not_true, not_false_iff, Option.bind_some, nn, toList_inj, Bool.not_eq_true', Bool.not_eq_false', Int.le_refl, and_self, true_and, and_true, false_and, and_false, bne_self_eq_false, beq_self_eq_true, Int.reduceEq, Nat.reduceEqDiff, List.length_singleton, List.tail_cons, Int.reduceLE, Int.reduceLT, decide_eq_true_eq]
    exact Ev2.now _
  | cons c rest ih =>
    intro pre hp
    refine Ev2.succ ?_
    have hlen : (pre.length : Int) < (((pre.map stP ++ PV.agg [boolP false, PV.list []] :: List.replicate rest.length (PV.agg [boolP false, PV.list []])).length : Nat) : Int) := by simp; omega
    simp only [laws_toStateS.l0_eq, mach_len, at_lt hp, mach_at hp, st_f0, st_f1, st_agg, List.length_cons, List.replicate_succ, at_next hp (by omega), nat_int, set_map, Option.bind_some, toBool_sc, decide_true, if_true, nn]
    refine Ev2.bind (toState_ev c (hm.e c (by rw [hp]; simp))) ?_
    simp only [hlen, headD_one, st_f0, st_f1, st_agg, toBool_sc, if_true, map_snoc]
    exact ih _ (at_step hp)
theorem toStates_ev (m : List St) (hm : MachB m) : Ev (fun N => laws_toStateS.f N [machP m]) [machP m] := by
  have hn := hm.n
  have c1 : m.length ≤ 8796093022208 := by omega
  simp only [laws_toStateS.f_eq, mach_len, c1, strs_len, strs_elem, ints_len, ints_elem, items_list, fld_agg, elem_list, toStr_sc, toInt_sc, toBool_sc, headD_one, nat_int, get_bt, decide_eq_true_eq, decide_eq_false_iff_not, decide_true, decide_false, if_true, if_false, ite_self, Bool.not_true, Bool.not_false, Bool.false_eq_true, Bool.true_eq_false, Bool.true_and, Bool.false_and, Bool.and_true, Bool.and_false, not_true, not_false_iff, Option.bind_some, nn, toList_inj, Bool.not_eq_true', Bool.not_eq_false', Int.le_refl, and_self, true_and, and_true, false_and, and_false, bne_self_eq_false, beq_self_eq_true, Int.reduceEq, Nat.reduceEqDiff, List.length_singleton, List.tail_cons, Int.reduceLE, Int.reduceLT, decide_eq_true_eq]
  exact (toStates_loop m hm m [] rfl).diag
/-! The comparison with itself. -/
theorem eqEdge_val (e : Ed) (N : Nat) : laws_eqEdge.f N [edgeP e, edgeP e] = some [boolP true] := by
  simp only [laws_eqEdge.f_eq, edge_f0, edge_f1, strs_len, strs_elem, ints_len, ints_elem, items_list, fld_agg, elem_list, toStr_sc, toInt_sc, toBool_sc, headD_one, nat_int, get_bt, decide_eq_true_eq, decide_eq_false_iff_not, decide_true, decide_false, if_true, if_false, ite_self, Bool.not_true, Bool.not_false, Bool.false_eq_true, Bool.true_eq_false, Bool.true_and, Bool.false_and, Bool.and_true, Bool.and_false, not_true, not_false_iff, Option.bind_some, nn, toList_inj, Bool.not_eq_true', Bool.not_eq_false', Int.le_refl, and_self, true_and, and_true, false_and, and_false, bne_self_eq_false, beq_self_eq_true, Int.reduceEq, Nat.reduceEqDiff, List.length_singleton, List.tail_cons, Int.reduceLE, Int.reduceLT, decide_eq_true_eq]
theorem eqEdges_loop (l : List Ed) (hl : l.length ≤ 1048576) : ∀ rest pre : List Ed, l = pre ++ rest → Ev2 (fun N n => laws_eqEdgeS.l0 N n (edgesP l) (edgesP l) (pre.length : Int)) [boolP true] := by
  intro rest
  induction rest with
  | nil =>
    intro pre hp
    refine Ev2.succ ?_
    simp only [laws_eqEdgeS.l0_eq, edges_len, at_end hp, strs_len, strs_elem, ints_len, ints_elem, items_list, fld_agg, elem_list, toStr_sc, toInt_sc, toBool_sc, headD_one, nat_int, get_bt, decide_eq_true_eq, decide_eq_false_iff_not, decide_true, decide_false, if_true, if_false, ite_self, Bool.not_true, Bool.not_false, Bool.false_eq_true, Bool.true_eq_false, Bool.true_and, Bool.false_and, Bool.and_true, Bool.and_false, not_true, not_false_iff, Option.bind_some, nn, toList_inj, Bool.not_eq_true', Bool.not_eq_false', Int.le_refl, and_self, true_and, and_true, false_and, and_false, bne_self_eq_false, beq_self_eq_true, Int.reduceEq, Nat.reduceEqDiff, List.length_singleton, List.tail_cons, Int.reduceLE, Int.reduceLT, decide_eq_true_eq]
    exact Ev2.now _
  | cons c rest ih =>
    intro pre hp
    refine Ev2.succ ?_
    simp only [laws_eqEdgeS.l0_eq, edges_len, at_lt hp, edges_at hp, edge_f0, edge_f1, edge_agg, eqEdge_val, at_next hp (by omega), strs_len, strs_elem, ints_len, ints_elem, items_list, fld_agg, elem_list, toStr_sc, toInt_sc, toBool_sc, headD_one, nat_int, get_bt, decide_eq_true_eq, decide_eq_false_iff_not, decide_true, decide_false, if_true, if_false, ite_self, Bool.not_true, Bool.not_false, Bool.false_eq_true, Bool.true_eq_false, Bool.true_and, Bool.false_and, Bool.and_true, Bool.and_false, not_true, not_false_iff, Option.bind_some, nn, toList_inj, Bool.not_eq_true', Bool.not_eq_false', Int.le_refl, and_self, true_and, and_true, false_and, and_false, bne_self_eq_false, beq_self_eq_true, Int.reduceEq, Nat.reduceEqDiff, List.length_singleton, List.tail_cons, Int.reduceLE, Int.reduceLT, decide_eq_true_eq]
    exact ih _ (at_step hp)
theorem eqEdges_ev (l : List Ed) (hl : l.length ≤ 1048576) : Ev (fun N => laws_eqEdgeS.f N [edgesP l, edgesP l]) [boolP true] := by
  simp only [laws_eqEdgeS.f_eq, strs_len, strs_elem, ints_len, ints_elem, items_list, fld_agg, elem_list, toStr_sc, toInt_sc, toBool_sc, headD_one, nat_int, get_bt, decide_eq_true_eq, decide_eq_false_iff_not, decide_true, decide_false, if_true, if_false, ite_self, Bool.not_true, Bool.not_false, Bool.false_eq_true, Bool.true_eq_false, Bool.true_and, Bool.false_and, Bool.and_true, Bool.and_false, not_true, not_false_iff, Option.bind_some, nn, toList_inj, Bool.not_eq_true', Bool.not_eq_false', Int.le_refl, and_self, true_and, and_true, false_and, and_false, bne_self_eq_false, beq_self_eq_true, Int.reduceEq, Nat.reduceEqDiff, List.length_singleton, List.tail_cons, Int.reduceLE, Int.reduceLT, decide_eq_true_eq]
  exact (eqEdges_loop l hl l [] rfl).diag
theorem eqState_ev (s : St) (hl : s.2.length ≤ 1048576) : Ev (fun N => laws_eqState.f N [stP s, stP s]) [boolP true] := by
  simp only [laws_eqState.f_eq, st_f0, st_f1, strs_len, strs_elem, ints_len, ints_elem, items_list, fld_agg, elem_list, toStr_sc, toInt_sc, toBool_sc, headD_one, nat_int, get_bt, decide_eq_true_eq, decide_eq_false_iff_not, decide_true, decide_false, if_true, if_false, ite_self, Bool.not_true, Bool.not_false, Bool.false_eq_true, Bool.true_eq_false, Bool.true_and, Bool.false_and, Bool.and_true, Bool.and_false, not_true, not_false_iff, Option.bind_some, nn, toList_inj, Bool.not_eq_true', Bool.not_eq_false', Int.le_refl, and_self, true_and, and_true, false_and, and_false, bne_self_eq_false, beq_self_eq_true, Int.reduceEq, Nat.reduceEqDiff, List.length_singleton, List.tail_cons, Int.reduceLE, Int.reduceLT, decide_eq_true_eq]
  refine Ev.bind (eqEdges_ev s.2 hl) ?_
  simp only [strs_len, strs_elem, ints_len, ints_elem, items_list, fld_agg, elem_list, toStr_sc, toInt_sc, toBool_sc, headD_one, nat_int, get_bt, decide_eq_true_eq, decide_eq_false_iff_not, decide_true, decide_false, if_true, if_false, ite_self, Bool.not_true, Bool.not_false, Bool.false_eq_true, Bool.true_eq_false, Bool.true_and, Bool.false_and, Bool.and_true, Bool.and_false, not_true, not_false_iff, Option.bind_some, nn, toList_inj, Bool.not_eq_true', Bool.not_eq_false', Int.le_refl, and_self, true_and, and_true, false_and, and_false, bne_self_eq_false, beq_self_eq_true, Int.reduceEq, Nat.reduceEqDiff, List.length_singleton, List.tail_cons, Int.reduceLE, Int.reduceLT, decide_eq_true_eq]
  exact Ev.now _
theorem eqStates_loop (m : List St) (hm : MachB m) : ∀ rest pre : List St, m = pre ++ rest → Ev2 (fun N n => laws_eqStateS.l0 N n (machP m) (machP m) (pre.length : Int)) [boolP true] := by
  have hn := hm.n
  intro rest
  induction rest with
  | nil =>
    intro pre hp
    refine Ev2.succ ?_
    simp only [laws_eqStateS.l0_eq, mach_len, at_end hp, strs_len, strs_elem, ints_len, ints_elem, items_list, fld_agg, elem_list, toStr_sc, toInt_sc, toBool_sc, headD_one, nat_int, get_bt, decide_eq_true_eq, decide_eq_false_iff_not, decide_true, decide_false, if_true, if_false, ite_self, Bool.not_true, Bool.not_false, Bool.false_eq_true, Bool.true_eq_false, Bool.true_and, Bool.false_and, Bool.and_true, Bool.and_false, not_true, not_false_iff, Option.bind_some, nn, toList_inj, Bool.not_eq_true', Bool.not_eq_false', Int.le_refl, and_self, true_and, and_true, false_and, and_false, bne_self_eq_false, beq_self_eq_true, Int.reduceEq, Nat.reduceEqDiff, List.length_singleton, List.tail_cons, Int.reduceLE, Int.reduceLT, decide_eq_true_eq]
    exact Ev2.now _
  | cons c rest ih =>
    intro pre hp
    refine Ev2.succ ?_
    simp only [laws_eqStateS.l0_eq, mach_len, at_lt hp, mach_at hp, st_f0, st_f1, st_agg, at_next hp (by omega), strs_len, strs_elem, ints_len, ints_elem, items_list, fld_agg, elem_list, toStr_sc, toInt_sc, toBool_sc, headD_one, nat_int, get_bt, decide_eq_true_eq, decide_eq_false_iff_not, decide_true, decide_false, if_true, if_false, ite_self, Bool.not_true, Bool.not_false, Bool.false_eq_true, Bool.true_eq_false, Bool.true_and, Bool.false_and, Bool.and_true, Bool.and_false, not_true, not_false_iff, Option.bind_some, nn, toList_inj, Bool.not_eq_true', Bool.not_eq_false', Int.le_refl, and_self, true_and, and_true, false_and, and_false, bne_self_eq_false, beq_self_eq_true, Int.reduceEq, Nat.reduceEqDiff, List.length_singleton, List.tail_cons, Int.reduceLE, Int.reduceLT, decide_eq_true_eq]
    refine Ev2.bind (eqState_ev c (hm.e c (by rw [hp]; simp))) ?_
    simp only [strs_len, strs_elem, ints_len, ints_elem, items_list, fld_agg, elem_list, toStr_sc, toInt_sc, toBool_sc, headD_one, nat_int, get_bt, decide_eq_true_eq, decide_eq_false_iff_not, decide_true, decide_false, if_true, if_false, ite_self, Bool.not_true, Bool.not_false, Bool.false_eq_true, Bool.true_eq_false, Bool.true_and, Bool.false_and, Bool.and_true, Bool.and_false, not_true, not_false_iff, Option.bind_some, nn, toList_inj, Bool.not_eq_true', Bool.not_eq_false', Int.le_refl, and_self, true_and, and_true, false_and, and_false, bne_self_eq_false, beq_self_eq_true, Int.reduceEq, Nat.reduceEqDiff, List.length_singleton, List.tail_cons, Int.reduceLE, Int.reduceLT, decide_eq_true_eq]
    exact ih _ (at_step hp)
theorem eqStates_ev (m : List St) (hm : MachB m) : Ev (fun N => laws_eqStateS.f N [machP m, machP m]) [boolP true] := by
  simp only [laws_eqStateS.f_eq, strs_len, strs_elem, ints_len, ints_elem, items_list, fld_agg, elem_list, toStr_sc, toInt_sc, toBool_sc, headD_one, nat_int, get_bt, decide_eq_true_eq, decide_eq_false_iff_not, decide_true, decide_false, if_true, if_false, ite_self, Bool.not_true, Bool.not_false, Bool.false_eq_true, Bool.true_eq_false, Bool.true_and, Bool.false_and, Bool.and_true, Bool.and_false, not_true, not_false_iff, Option.bind_some, nn, toList_inj, Bool.not_eq_true', Bool.not_eq_false', Int.le_refl, and_self, true_and, and_true, false_and, and_false, bne_self_eq_false, beq_self_eq_true, Int.reduceEq, Nat.reduceEqDiff, List.length_singleton, List.tail_cons, Int.reduceLE, Int.reduceLT, decide_eq_true_eq]
  exact (eqStates_loop m hm m [] rfl).diag
/-! #### machines that are ok -/
def edgeOk (n i : Nat) (p : Option Int) (e : Ed) : Bool := decide (97 ≤ e.1 ∧ e.1 ≤ 122) && (decide ((i : Int) + 1 ≤ e.2 ∧ e.2 ≤ (n : Int) - 1) && (match p with | none => true | some q => decide (q < e.1)))
def edgesOk (n i : Nat) : Option Int → List Ed → Bool
  | _, [] => true
  | p, e :: es => edgeOk n i p e && edgesOk n i (some e.1) es
def stOk (n i : Nat) (s : St) : Bool := edgesOk n i none s.2 && (decide (i = 0) || (s.1 || decide (s.2 ≠ [])))
def stsOk (n : Nat) : Nat → List St → Bool
  | _, [] => true
  | i, s :: r => stOk n i s && stsOk n (i + 1) r
/-- How deep it goes: T, of the states behind. -/
def depE (i : Nat) (T : List Int) : List Ed → Int → Int
  | [], a => a
  | e :: es, a => depE i T es (if a < T.getD (e.2.toNat - (i + 1)) 0 + 1 then T.getD (e.2.toNat - (i + 1)) 0 + 1 else a)
def depL (i : Nat) : List St → List Int
  | [] => []
  | s :: r => depE i (depL (i + 1) r) s.2 0 :: depL (i + 1) r
def okM (m : List St) : Bool := decide (1 ≤ m.length ∧ m.length ≤ 400) && (stsOk m.length 0 m && decide ((depL 0 m).getD 0 0 ≤ 12))
theorem stsOk_app (n : Nat) : ∀ (a b : List St) (i : Nat), stsOk n i (a ++ b) = (stsOk n i a && stsOk n (i + a.length) b)
  | [], b, i => by simp [stsOk]
  | s :: a, b, i => by
    simp only [List.cons_append, stsOk, List.length_cons]
    rw [stsOk_app n a b (i + 1), Bool.and_assoc]
    have : i + 1 + a.length = i + (a.length + 1) := by omega
    rw [this]
theorem edgesOk_to {n i : Nat} : ∀ {es : List Ed} {p : Option Int}, edgesOk n i p es = true → ∀ e ∈ es, (97 ≤ e.1 ∧ e.1 ≤ 122) ∧ (i : Int) + 1 ≤ e.2 ∧ e.2 ≤ (n : Int) - 1
  | [], _, _, e, he => absurd he (by simp)
  | c :: es, p, h, e, he => by
    simp only [edgesOk, edgeOk, Bool.and_eq_true, decide_eq_true_eq] at h
    rcases List.mem_cons.1 he with rfl | he
    · exact ⟨h.1.1, h.1.2.1⟩
    · exact edgesOk_to h.2 e he
theorem depL_len : ∀ (m : List St) (i : Nat), (depL i m).length = m.length
  | [], _ => rfl
  | s :: r, i => by simp [depL, depL_len r (i + 1)]
theorem getD_range {T : List Int} {B : Int} (h : ∀ x ∈ T, 0 ≤ x ∧ x ≤ B) (h0 : 0 ≤ B) (j : Nat) : 0 ≤ T.getD j 0 ∧ T.getD j 0 ≤ B := by
  rw [List.getD_eq_getElem?_getD]
  cases hj : T[j]? with
  | none => exact ⟨Int.le_refl _, h0⟩
  | some x => exact h x (List.mem_of_getElem? hj)
theorem depE_range {i : Nat} {T : List Int} {B : Int} (h : ∀ x ∈ T, 0 ≤ x ∧ x ≤ B) (h0 : 0 ≤ B) : ∀ (es : List Ed) (a : Int), a ≤ B + 1 → a ≤ depE i T es a ∧ depE i T es a ≤ B + 1
  | [], a, ha => ⟨Int.le_refl _, ha⟩
  | e :: es, a, ha => by
    have hg := getD_range h h0 (e.2.toNat - (i + 1))
    unfold depE
    split
    · have := depE_range (i := i) h h0 es (T.getD (e.2.toNat - (i + 1)) 0 + 1) (by omega); omega
    · exact depE_range h h0 es a ha
theorem depL_range : ∀ (m : List St) (i : Nat), ∀ x ∈ depL i m, 0 ≤ x ∧ x ≤ (m.length : Int)
  | [], _, x, hx => absurd hx (by simp [depL])
  | s :: r, i, x, hx => by
    have ih := depL_range r (i + 1)
    simp only [depL, List.mem_cons] at hx
    rcases hx with rfl | hx
    · have := depE_range (i := i) ih (Int.natCast_nonneg _) s.2 0 (by omega)
      simp only [List.length_cons]; omega
    · have := ih x hx
      simp only [List.length_cons]; omega
theorem ints_app (a b : List Int) : a.map intP ++ b.map intP = (a ++ b).map intP := by simp
/-- The array, while a state is at hand. -/
def arr (i : Nat) (a : Int) (T : List Int) : List PV := (List.replicate i (0 : Int) ++ a :: T).map intP
theorem arr_len (i : Nat) (a : Int) (T : List Int) : (arr i a T).length = i + 1 + T.length := by simp [arr]; omega
theorem arr_here (i : Nat) (a : Int) (T : List Int) : ((PV.list (arr i a T)).elem i).toInt = a := by
  have h := ints_elem (List.replicate i (0 : Int) ++ a :: T) i
  simp only [intsP] at h
  unfold arr
  rw [h]; simp [List.getD_eq_getElem?_getD]
theorem arr_at (i j : Nat) (a : Int) (T : List Int) (h : i + 1 ≤ j) : ((PV.list (arr i a T)).elem j).toInt = T.getD (j - (i + 1)) 0 := by
  have h2 := ints_elem (List.replicate i (0 : Int) ++ a :: T) j
  simp only [intsP] at h2
  unfold arr
  rw [h2, List.getD_eq_getElem?_getD, List.getD_eq_getElem?_getD, List.getElem?_append_right (by simp; omega)]
  obtain ⟨k, rfl⟩ : ∃ k, j = i + 1 + k := ⟨j - (i + 1), by omega⟩
  have e1 : i + 1 + k - (List.replicate i (0 : Int)).length = k + 1 := by simp; omega
  have e2 : i + 1 + k - (i + 1) = k := by omega
  rw [e1, e2, List.getElem?_cons_succ]
theorem arr_set (i : Nat) (a x : Int) (T : List Int) : (arr i a T).set i (intP x) = arr i x T := by
  unfold arr
  rw [← List.map_set]
  congr 1
  have := set_mid (List.replicate i (0 : Int)) a x T
  rwa [List.length_replicate] at this
theorem arr_zero (i : Nat) (T : List Int) : (List.replicate (i + 1) (0 : Int) ++ T).map intP = arr i 0 T := by
  unfold arr; rw [List.replicate_succ', List.append_assoc]; rfl
theorem at_prevN {α : Type} {xs pre' rest : List α} {q : α} (hp : xs = (pre' ++ [q]) ++ rest) (hx : xs.length ≤ 9223372036854775807) : IntKind.i64.wrap (((pre' ++ [q]).length : Int) - 1) = (pre'.length : Int) ∧ (pre'.length : Int) < (xs.length : Int) := by
  subst hp
  simp only [List.length_append, List.length_cons, List.length_nil] at hx ⊢
  refine ⟨?_, by omega⟩
  rw [wrap_id (by omega) (by omega)]; omega
/-! The reference's. -/
theorem deep_l1 (m : List St) (hm : MachB m) {pre rest : List St} {s : St} (hp : m = pre ++ s :: rest) (T : List Int) (hT : T.length = rest.length) (hTr : ∀ x ∈ T, 0 ≤ x ∧ x ≤ 1048576) (R : Int) (hes : ∀ e ∈ s.2, (pre.length : Int) + 1 ≤ e.2 ∧ e.2 ≤ (m.length : Int) - 1) :
    ∀ (es epre : List Ed), s.2 = epre ++ es → ∀ a : Int, 0 ≤ a → a ≤ 1048577 →
    (Ev2 (fun N n => spec_l3Deep.l0 N n (machP m) (IntKind.i64.wrap ((pre.length : Int) - 1)) (arr pre.length (depE pre.length T es a) T)) [intP R]) →
    Ev3 (fun N m0 n => spec_l3Deep.l1 N m0 n (machP m) (pre.length : Int) (epre.length : Int) (arr pre.length a T)) [intP R] := by
  have hn := hm.n
  have hse := hm.e s (by rw [hp]; simp)
  have hlm : m.length = pre.length + 1 + rest.length := by rw [hp]; simp; omega
  intro es
  induction es with
  | nil =>
    intro epre he a _ _ hk
    refine Ev3.succ ?_
    simp only [spec_l3Deep.l1_eq, mach_len, at_lt hp, mach_at hp, st_f1, edges_len, at_end he, strs_len, strs_elem, ints_len, ints_elem, items_list, fld_agg, elem_list, toStr_sc, toInt_sc, toBool_sc, headD_one, nat_int, get_bt, decide_eq_true_eq, decide_eq_false_iff_not, decide_true, decide_false, if_true, if_false, ite_self, Bool.not_true, Bool.not_false, Bool.false_eq_true, Bool.true_eq_false, Bool.true_and, Bool.false_and, Bool.and_true, Bool.and_false, not_true, not_false_iff, Option.bind_some, nn, toList_inj, Bool.not_eq_true', Bool.not_eq_false', Int.le_refl, and_self, true_and, and_true, false_and, and_false, bne_self_eq_false, beq_self_eq_true, Int.reduceEq, Nat.reduceEqDiff, List.length_singleton, List.tail_cons, Int.reduceLE, Int.reduceLT, decide_eq_true_eq]
    exact hk.outer
  | cons e es ih =>
    intro epre he a ha0 ha1 hk
    obtain ⟨h1, h2⟩ := hes e (by rw [he]; simp)
    obtain ⟨t, ht⟩ := Int.eq_ofNat_of_zero_le (show 0 ≤ e.2 by omega)
    have hge : pre.length + 1 ≤ t := by omega
    have ht' : t < pre.length + 1 + T.length := by omega
    have hl1 : (t : Int) < (((arr pre.length a T).length : Nat) : Int) := by rw [arr_len]; omega
    have hl2 : (pre.length : Int) < (((arr pre.length a T).length : Nat) : Int) := by rw [arr_len]; omega
    have hg := getD_range hTr (by omega) (t - (pre.length + 1))
    have hw : IntKind.i64.wrap (T.getD (t - (pre.length + 1)) 0 + 1) = T.getD (t - (pre.length + 1)) 0 + 1 := wrap_id (by omega) (by omega)
    refine Ev3.succ ?_
    have htn : (e.2).toNat = t := by rw [ht]; rfl
    have a1 := arr_at pre.length t a T hge
    have a2 := arr_here pre.length a T
    unfold depE at hk
    rw [htn] at hk
    by_cases hlt : a < T.getD (t - (pre.length + 1)) 0 + 1
    · rw [if_pos hlt] at hk
      have := ih (epre ++ [e]) (at_step he) (T.getD (t - (pre.length + 1)) 0 + 1) (by omega) (by omega) hk
      simp only [spec_l3Deep.l1_eq, mach_len, at_lt hp, mach_at hp, st_f1, edges_len, at_lt he, edges_at he, edge_f1, ht, hl1, hl2, a1, a2, hw, hlt, arr_set, at_next he (by omega), nat_int, nn, toInt_sc, decide_true, if_true, htn]
      exact this
    · rw [if_neg hlt] at hk
      have := ih (epre ++ [e]) (at_step he) a ha0 ha1 hk
      simp only [spec_l3Deep.l1_eq, mach_len, at_lt hp, mach_at hp, st_f1, edges_len, at_lt he, edges_at he, edge_f1, ht, hl1, hl2, a1, a2, hw, hlt, at_next he (by omega), nat_int, nn, toInt_sc, decide_true, decide_false, if_true, if_false, Bool.false_eq_true, htn]
      exact this
theorem deep_l0 (m : List St) (hm : MachB m) (hne : 0 < m.length) (hok : stsOk m.length 0 m = true) : ∀ (k : Nat) (pre rest : List St), pre.length = k → m = pre ++ rest →
    Ev2 (fun N n => spec_l3Deep.l0 N n (machP m) ((k : Int) - 1) ((List.replicate k (0 : Int) ++ depL k rest).map intP)) [intP ((depL 0 m).getD 0 0)] := by
  have hn := hm.n
  intro k
  induction k with
  | zero =>
    intro pre rest hk hp
    obtain rfl : pre = [] := List.eq_nil_of_length_eq_zero hk
    rw [List.nil_append] at hp
    subst hp
    refine Ev2.succ ?_
    have h0 : ¬ (0 : Int) ≤ ((0 : Nat) : Int) - 1 := by omega
    have hl : (0 : Int) < ((((List.replicate 0 (0 : Int) ++ depL 0 m).map intP).length : Nat) : Int) := by simp [depL_len]; omega
    have he : ((PV.list ((List.replicate 0 (0 : Int) ++ depL 0 m).map intP)).elem 0).toInt = (depL 0 m).getD 0 0 := by
      have h2 := ints_elem (List.replicate 0 (0 : Int) ++ depL 0 m) 0
      simp only [intsP] at h2
      rw [h2]; simp
    simp only [spec_l3Deep.l0_eq, h0, hl, he, decide_false, if_true, if_false, Bool.false_eq_true, Int.le_refl]
    exact Ev2.now _
  | succ k ih =>
    intro pre rest hk hp
    obtain ⟨pre', s, rfl⟩ : ∃ pre' s, pre = pre' ++ [s] := by
      rcases List.eq_nil_or_concat pre with rfl | ⟨a, b, rfl⟩
      · simp at hk
      · exact ⟨a, b, by simp⟩
    have hk' : pre'.length = k := by simpa using hk
    subst hk'
    have hp' : m = pre' ++ s :: rest := by rw [hp]; simp
    have hso : stOk m.length pre'.length s = true := by
      have h := hok
      rw [hp', stsOk_app, ← hp'] at h
      simp only [stsOk, Bool.and_eq_true, Nat.zero_add] at h
      exact h.2.1
    have heo : edgesOk m.length pre'.length none s.2 = true := by
      simp only [stOk, Bool.and_eq_true] at hso
      exact hso.1
    have hes := fun e he => (edgesOk_to heo e he).2
    have hr := depL_range rest (pre'.length + 1)
    have hlm : m.length = pre'.length + 1 + rest.length := by rw [hp']; simp; omega
    have hw : IntKind.i64.wrap ((pre'.length : Int) - 1) = (pre'.length : Int) - 1 := wrap_id (by omega) (by omega)
    have hih := ih pre' (s :: rest) rfl hp'
    refine Ev2.succ ?_
    have h0 : (0 : Int) ≤ (((pre'.length + 1 : Nat)) : Int) - 1 := by omega
    have h1 : (((pre'.length + 1 : Nat)) : Int) - 1 = (pre'.length : Int) := by omega
    simp only [spec_l3Deep.l0_eq, h0, h1, arr_zero, decide_true, if_true, nn]
    refine Ev3.start (deep_l1 m hm hp' (depL (pre'.length + 1) rest) (depL_len _ _) (fun x hx => by have := hr x hx; omega) _ hes s.2 [] rfl 0 (Int.le_refl _) (by omega) ?_)
    rw [hw]
    exact hih
theorem deep_ev (m : List St) (hm : MachB m) (hne : 0 < m.length) (hok : stsOk m.length 0 m = true) : Ev (fun N => spec_l3Deep.f N [machP m]) [intP ((depL 0 m).getD 0 0)] := by
  have hn := hm.n
  have c1 : m.length ≤ 35184372088832 := by omega
  have hw : IntKind.i64.wrap ((m.length : Int) - 1) = (m.length : Int) - 1 := wrap_id (by omega) (by omega)
  have h := (deep_l0 m hm hne hok m.length m [] rfl (by simp)).diag
  have e : (List.replicate m.length (0 : Int) ++ depL m.length []).map intP = List.replicate m.length (intP 0) := by simp [depL]
  rw [e] at h
  simp only [spec_l3Deep.f_eq, mach_len, c1, hw, strs_len, strs_elem, ints_len, ints_elem, items_list, fld_agg, elem_list, toStr_sc, toInt_sc, toBool_sc, headD_one, nat_int, get_bt, decide_eq_true_eq, decide_eq_false_iff_not, decide_true, decide_false, if_true, if_false, ite_self, Bool.not_true, Bool.not_false, Bool.false_eq_true, Bool.true_eq_false, Bool.true_and, Bool.false_and, Bool.and_true, Bool.and_false, not_true, not_false_iff, Option.bind_some, nn, toList_inj, Bool.not_eq_true', Bool.not_eq_false', Int.le_refl, and_self, true_and, and_true, false_and, and_false, bne_self_eq_false, beq_self_eq_true, Int.reduceEq, Nat.reduceEqDiff, List.length_singleton, List.tail_cons, Int.reduceLE, Int.reduceLT, decide_eq_true_eq]
  exact h
theorem specIn_val (a b c : Int) (N : Nat) : spec_l1In.f N [.sc (.int .i64 a), .sc (.int .i64 b), .sc (.int .i64 c)] = some [boolP (decide (b ≤ a ∧ a ≤ c))] := by
  simp only [spec_l1In.f_eq, strs_len, strs_elem, ints_len, ints_elem, items_list, fld_agg, elem_list, toStr_sc, toInt_sc, toBool_sc, headD_one, nat_int, get_bt, decide_eq_true_eq, decide_eq_false_iff_not, decide_true, decide_false, if_true, if_false, ite_self, Bool.not_true, Bool.not_false, Bool.false_eq_true, Bool.true_eq_false, Bool.true_and, Bool.false_and, Bool.and_true, Bool.and_false, not_true, not_false_iff, Option.bind_some, nn, toList_inj, Bool.not_eq_true', Bool.not_eq_false', Int.le_refl, and_self, true_and, and_true, false_and, and_false, bne_self_eq_false, beq_self_eq_true, Int.reduceEq, Nat.reduceEqDiff, List.length_singleton, List.tail_cons, Int.reduceLE, Int.reduceLT, decide_eq_true_eq]
  by_cases h1 : b ≤ a <;> by_cases h2 : a ≤ c <;> simp only [h1, h2, strs_len, strs_elem, ints_len, ints_elem, items_list, fld_agg, elem_list, toStr_sc, toInt_sc, toBool_sc, headD_one, nat_int, get_bt, decide_eq_true_eq, decide_eq_false_iff_not, decide_true, decide_false, if_true, if_false, ite_self, Bool.not_true, Bool.not_false, Bool.false_eq_true, Bool.true_eq_false, Bool.true_and, Bool.false_and, Bool.and_true, Bool.and_false, not_true, not_false_iff, Option.bind_some, nn, toList_inj, Bool.not_eq_true', Bool.not_eq_false', Int.le_refl, and_self, true_and, and_true, false_and, and_false, bne_self_eq_false, beq_self_eq_true, Int.reduceEq, Nat.reduceEqDiff, List.length_singleton, List.tail_cons, Int.reduceLE, Int.reduceLT, decide_eq_true_eq]
def AheadE (pre : List Ed) (p : Option Int) : Prop := (pre = [] ∧ p = none) ∨ ∃ pre' q, pre = pre' ++ [q] ∧ p = some q.1
theorem specOk_l1 (m : List St) (hm : MachB m) {pre rest : List St} {s : St} (hp : m = pre ++ s :: rest) (R : Bool) (hR : stOk m.length pre.length s = true → Ev2 (fun N n => spec_MachineOk.l0 N n (machP m) ((pre ++ [s]).length : Int)) [boolP R]) :
    ∀ (es epre : List Ed) (p : Option Int), s.2 = epre ++ es → AheadE epre p → edgesOk m.length pre.length none s.2 = edgesOk m.length pre.length p es →
    Ev3 (fun N m0 n => spec_MachineOk.l1 N m0 n (machP m) (pre.length : Int) (epre.length : Int)) [boolP (edgesOk m.length pre.length p es && ((decide (pre.length = 0) || (s.1 || decide (s.2 ≠ []))) && R))] := by
  have hn := hm.n
  have hse := hm.e s (by rw [hp]; simp)
  have hlm : m.length = pre.length + 1 + rest.length := by rw [hp]; simp; omega
  intro es
  induction es with
  | nil =>
    intro epre p he _ hE
    refine Ev3.succ ?_
    have hst : (decide (pre.length = 0) || (s.1 || decide (s.2 ≠ []))) = true → stOk m.length pre.length s = true := fun h => by
      unfold stOk
      rw [hE, h]; rfl
    simp only [spec_MachineOk.l1_eq, mach_len, at_lt hp, mach_at hp, st_f0, st_f1, edges_len, at_end he, at_next hp (by omega), edgesOk, strs_len, strs_elem, ints_len, ints_elem, items_list, fld_agg, elem_list, toStr_sc, toInt_sc, toBool_sc, headD_one, nat_int, get_bt, decide_eq_true_eq, decide_eq_false_iff_not, decide_true, decide_false, if_true, if_false, ite_self, Bool.not_true, Bool.not_false, Bool.false_eq_true, Bool.true_eq_false, Bool.true_and, Bool.false_and, Bool.and_true, Bool.and_false, not_true, not_false_iff, Option.bind_some, nn, toList_inj, Bool.not_eq_true', Bool.not_eq_false', Int.le_refl, and_self, true_and, and_true, false_and, and_false, bne_self_eq_false, beq_self_eq_true, Int.reduceEq, Nat.reduceEqDiff, List.length_singleton, List.tail_cons, Int.reduceLE, Int.reduceLT, decide_eq_true_eq]
    by_cases h0 : (0 : Int) < (pre.length : Int)
    · have h0' : ¬ pre.length = 0 := by omega
      simp only [h0, h0', strs_len, strs_elem, ints_len, ints_elem, items_list, fld_agg, elem_list, toStr_sc, toInt_sc, toBool_sc, headD_one, nat_int, get_bt, decide_eq_true_eq, decide_eq_false_iff_not, decide_true, decide_false, if_true, if_false, ite_self, Bool.not_true, Bool.not_false, Bool.false_eq_true, Bool.true_eq_false, Bool.true_and, Bool.false_and, Bool.and_true, Bool.and_false, not_true, not_false_iff, Option.bind_some, nn, toList_inj, Bool.not_eq_true', Bool.not_eq_false', Int.le_refl, and_self, true_and, and_true, false_and, and_false, bne_self_eq_false, beq_self_eq_true, Int.reduceEq, Nat.reduceEqDiff, List.length_singleton, List.tail_cons, Int.reduceLE, Int.reduceLT, decide_eq_true_eq]
      cases h1 : s.1 with
      | true => simp only [strs_len, strs_elem, ints_len, ints_elem, items_list, fld_agg, elem_list, toStr_sc, toInt_sc, toBool_sc, headD_one, nat_int, get_bt, decide_eq_true_eq, decide_eq_false_iff_not, decide_true, decide_false, if_true, if_false, ite_self, Bool.not_true, Bool.not_false, Bool.false_eq_true, Bool.true_eq_false, Bool.true_and, Bool.false_and, Bool.and_true, Bool.and_false, not_true, not_false_iff, Option.bind_some, nn, toList_inj, Bool.not_eq_true', Bool.not_eq_false', Int.le_refl, and_self, true_and, and_true, false_and, and_false, bne_self_eq_false, beq_self_eq_true, Int.reduceEq, Nat.reduceEqDiff, List.length_singleton, List.tail_cons, Int.reduceLE, Int.reduceLT, decide_eq_true_eq, Bool.true_or]; exact (hR (hst (by simp [h1]))).outer
      | false =>
        by_cases h2 : s.2 = []
        · have h3 : ((s.2.length : Int) = 0) = True := eq_true (by rw [h2]; rfl)
          simp only [h2, h3, Bool.or_false, Bool.false_or, ne_eq, not_true, List.length_nil, Int.natCast_zero, strs_len, strs_elem, ints_len, ints_elem, items_list, fld_agg, elem_list, toStr_sc, toInt_sc, toBool_sc, headD_one, nat_int, get_bt, decide_eq_true_eq, decide_eq_false_iff_not, decide_true, decide_false, if_true, if_false, ite_self, Bool.not_true, Bool.not_false, Bool.false_eq_true, Bool.true_eq_false, Bool.true_and, Bool.false_and, Bool.and_true, Bool.and_false, not_true, not_false_iff, Option.bind_some, nn, toList_inj, Bool.not_eq_true', Bool.not_eq_false', Int.le_refl, and_self, true_and, and_true, false_and, and_false, bne_self_eq_false, beq_self_eq_true, Int.reduceEq, Nat.reduceEqDiff, List.length_singleton, List.tail_cons, Int.reduceLE, Int.reduceLT, decide_eq_true_eq]; exact Ev3.now _
        · have h3 : ¬ (s.2.length : Int) = 0 := by have := List.length_pos_iff.2 h2; omega
          simp only [h2, h3, Bool.false_or, ne_eq, not_false_iff, strs_len, strs_elem, ints_len, ints_elem, items_list, fld_agg, elem_list, toStr_sc, toInt_sc, toBool_sc, headD_one, nat_int, get_bt, decide_eq_true_eq, decide_eq_false_iff_not, decide_true, decide_false, if_true, if_false, ite_self, Bool.not_true, Bool.not_false, Bool.false_eq_true, Bool.true_eq_false, Bool.true_and, Bool.false_and, Bool.and_true, Bool.and_false, not_true, not_false_iff, Option.bind_some, nn, toList_inj, Bool.not_eq_true', Bool.not_eq_false', Int.le_refl, and_self, true_and, and_true, false_and, and_false, bne_self_eq_false, beq_self_eq_true, Int.reduceEq, Nat.reduceEqDiff, List.length_singleton, List.tail_cons, Int.reduceLE, Int.reduceLT, decide_eq_true_eq]; exact (hR (hst (by simp [h2]))).outer
    · have h0' : pre.length = 0 := by omega
      have h0e : (pre.length = 0) = True := eq_true h0'
      simp only [h0, h0e, Bool.true_or, strs_len, strs_elem, ints_len, ints_elem, items_list, fld_agg, elem_list, toStr_sc, toInt_sc, toBool_sc, headD_one, nat_int, get_bt, decide_eq_true_eq, decide_eq_false_iff_not, decide_true, decide_false, if_true, if_false, ite_self, Bool.not_true, Bool.not_false, Bool.false_eq_true, Bool.true_eq_false, Bool.true_and, Bool.false_and, Bool.and_true, Bool.and_false, not_true, not_false_iff, Option.bind_some, nn, toList_inj, Bool.not_eq_true', Bool.not_eq_false', Int.le_refl, and_self, true_and, and_true, false_and, and_false, bne_self_eq_false, beq_self_eq_true, Int.reduceEq, Nat.reduceEqDiff, List.length_singleton, List.tail_cons, Int.reduceLE, Int.reduceLT, decide_eq_true_eq]
      exact (hR (hst (by simp [h0']))).outer
  | cons e es ih =>
    intro epre p he ha hE
    have w1 : IntKind.i64.wrap ((pre.length : Int) + 1) = (pre.length : Int) + 1 := wrap_id (by omega) (by omega)
    have w2 : IntKind.i64.wrap ((m.length : Int) - 1) = (m.length : Int) - 1 := wrap_id (by omega) (by omega)
    have hih := ih (epre ++ [e]) (some e.1) (at_step he) (.inr ⟨epre, e, rfl, rfl⟩)
    refine Ev3.succ ?_
    rw [edgesOk] at hE ⊢
    rw [edgeOk.eq_def] at hE ⊢
    simp only [spec_MachineOk.l1_eq, mach_len, at_lt hp, mach_at hp, st_f0, st_f1, edges_len, at_lt he, edges_at he, edge_f0, edge_f1, specIn_val, w1, w2, at_next he (by omega), strs_len, strs_elem, ints_len, ints_elem, items_list, fld_agg, elem_list, toStr_sc, toInt_sc, toBool_sc, headD_one, nat_int, get_bt, decide_eq_true_eq, decide_eq_false_iff_not, decide_true, decide_false, if_true, if_false, ite_self, Bool.not_true, Bool.not_false, Bool.false_eq_true, Bool.true_eq_false, Bool.true_and, Bool.false_and, Bool.and_true, Bool.and_false, not_true, not_false_iff, Option.bind_some, nn, toList_inj, Bool.not_eq_true', Bool.not_eq_false', Int.le_refl, and_self, true_and, and_true, false_and, and_false, bne_self_eq_false, beq_self_eq_true, Int.reduceEq, Nat.reduceEqDiff, List.length_singleton, List.tail_cons, Int.reduceLE, Int.reduceLT, decide_eq_true_eq]
    by_cases c1 : 97 ≤ e.1 ∧ e.1 ≤ 122
    · by_cases c2 : (pre.length : Int) + 1 ≤ e.2 ∧ e.2 ≤ (m.length : Int) - 1
      · rcases ha with ⟨rfl, rfl⟩ | ⟨epre', q, rfl, rfl⟩
        · have h0 : ¬ (0 : Int) < ((([] : List Ed).length : Nat) : Int) := by simp
          simp only [c1, c2, and_self, decide_true, Bool.true_and] at hE
          simp only [c1, c2, h0, strs_len, strs_elem, ints_len, ints_elem, items_list, fld_agg, elem_list, toStr_sc, toInt_sc, toBool_sc, headD_one, nat_int, get_bt, decide_eq_true_eq, decide_eq_false_iff_not, decide_true, decide_false, if_true, if_false, ite_self, Bool.not_true, Bool.not_false, Bool.false_eq_true, Bool.true_eq_false, Bool.true_and, Bool.false_and, Bool.and_true, Bool.and_false, not_true, not_false_iff, Option.bind_some, nn, toList_inj, Bool.not_eq_true', Bool.not_eq_false', Int.le_refl, and_self, true_and, and_true, false_and, and_false, bne_self_eq_false, beq_self_eq_true, Int.reduceEq, Nat.reduceEqDiff, List.length_singleton, List.tail_cons, Int.reduceLE, Int.reduceLT, decide_eq_true_eq]
          exact hih hE
        · have h0 : (0 : Int) < (((epre' ++ [q]).length : Nat) : Int) := by rw [List.length_append, List.length_singleton]; omega
          obtain ⟨w3, w4⟩ := at_prevN he (by omega)
          have he' : s.2 = epre' ++ q :: (e :: es) := by rw [he]; simp
          by_cases c3 : e.1 ≤ q.1
          · have c3' : ¬ q.1 < e.1 := by omega
            simp only [c1, c2, c3, c3', h0, w3, w4, edges_at he', edge_f0, strs_len, strs_elem, ints_len, ints_elem, items_list, fld_agg, elem_list, toStr_sc, toInt_sc, toBool_sc, headD_one, nat_int, get_bt, decide_eq_true_eq, decide_eq_false_iff_not, decide_true, decide_false, if_true, if_false, ite_self, Bool.not_true, Bool.not_false, Bool.false_eq_true, Bool.true_eq_false, Bool.true_and, Bool.false_and, Bool.and_true, Bool.and_false, not_true, not_false_iff, Option.bind_some, nn, toList_inj, Bool.not_eq_true', Bool.not_eq_false', Int.le_refl, and_self, true_and, and_true, false_and, and_false, bne_self_eq_false, beq_self_eq_true, Int.reduceEq, Nat.reduceEqDiff, List.length_singleton, List.tail_cons, Int.reduceLE, Int.reduceLT, decide_eq_true_eq]
            exact Ev3.now _
          · have c3' : q.1 < e.1 := by omega
            simp only [c1, c2, c3', and_self, decide_true, Bool.true_and] at hE
            simp only [c1, c2, c3, c3', h0, w3, w4, edges_at he', edge_f0, strs_len, strs_elem, ints_len, ints_elem, items_list, fld_agg, elem_list, toStr_sc, toInt_sc, toBool_sc, headD_one, nat_int, get_bt, decide_eq_true_eq, decide_eq_false_iff_not, decide_true, decide_false, if_true, if_false, ite_self, Bool.not_true, Bool.not_false, Bool.false_eq_true, Bool.true_eq_false, Bool.true_and, Bool.false_and, Bool.and_true, Bool.and_false, not_true, not_false_iff, Option.bind_some, nn, toList_inj, Bool.not_eq_true', Bool.not_eq_false', Int.le_refl, and_self, true_and, and_true, false_and, and_false, bne_self_eq_false, beq_self_eq_true, Int.reduceEq, Nat.reduceEqDiff, List.length_singleton, List.tail_cons, Int.reduceLE, Int.reduceLT, decide_eq_true_eq]
            exact hih hE
      · simp only [c1, c2, strs_len, strs_elem, ints_len, ints_elem, items_list, fld_agg, elem_list, toStr_sc, toInt_sc, toBool_sc, headD_one, nat_int, get_bt, decide_eq_true_eq, decide_eq_false_iff_not, decide_true, decide_false, if_true, if_false, ite_self, Bool.not_true, Bool.not_false, Bool.false_eq_true, Bool.true_eq_false, Bool.true_and, Bool.false_and, Bool.and_true, Bool.and_false, not_true, not_false_iff, Option.bind_some, nn, toList_inj, Bool.not_eq_true', Bool.not_eq_false', Int.le_refl, and_self, true_and, and_true, false_and, and_false, bne_self_eq_false, beq_self_eq_true, Int.reduceEq, Nat.reduceEqDiff, List.length_singleton, List.tail_cons, Int.reduceLE, Int.reduceLT, decide_eq_true_eq]
        exact Ev3.now _
    · simp only [c1, strs_len, strs_elem, ints_len, ints_elem, items_list, fld_agg, elem_list, toStr_sc, toInt_sc, toBool_sc, headD_one, nat_int, get_bt, decide_eq_true_eq, decide_eq_false_iff_not, decide_true, decide_false, if_true, if_false, ite_self, Bool.not_true, Bool.not_false, Bool.false_eq_true, Bool.true_eq_false, Bool.true_and, Bool.false_and, Bool.and_true, Bool.and_false, not_true, not_false_iff, Option.bind_some, nn, toList_inj, Bool.not_eq_true', Bool.not_eq_false', Int.le_refl, and_self, true_and, and_true, false_and, and_false, bne_self_eq_false, beq_self_eq_true, Int.reduceEq, Nat.reduceEqDiff, List.length_singleton, List.tail_cons, Int.reduceLE, Int.reduceLT, decide_eq_true_eq]
      exact Ev3.now _
theorem specOk_l0 (m : List St) (hm : MachB m) : ∀ (rest pre : List St), m = pre ++ rest → (stsOk m.length 0 pre = true) →
    Ev2 (fun N n => spec_MachineOk.l0 N n (machP m) (pre.length : Int)) [boolP (stsOk m.length pre.length rest && (decide (1 ≤ m.length ∧ m.length ≤ 400) && decide ((depL 0 m).getD 0 0 ≤ 12)))] := by
  have hn := hm.n
  intro rest
  induction rest with
  | nil =>
    intro pre hp hok
    refine Ev2.succ ?_
    have hpm : pre = m := by rw [hp]; simp
    subst hpm
    simp only [spec_MachineOk.l0_eq, mach_len, at_end hp, specIn_val, stsOk, strs_len, strs_elem, ints_len, ints_elem, items_list, fld_agg, elem_list, toStr_sc, toInt_sc, toBool_sc, headD_one, nat_int, get_bt, decide_eq_true_eq, decide_eq_false_iff_not, decide_true, decide_false, if_true, if_false, ite_self, Bool.not_true, Bool.not_false, Bool.false_eq_true, Bool.true_eq_false, Bool.true_and, Bool.false_and, Bool.and_true, Bool.and_false, not_true, not_false_iff, Option.bind_some, nn, toList_inj, Bool.not_eq_true', Bool.not_eq_false', Int.le_refl, and_self, true_and, and_true, false_and, and_false, bne_self_eq_false, beq_self_eq_true, Int.reduceEq, Nat.reduceEqDiff, List.length_singleton, List.tail_cons, Int.reduceLE, Int.reduceLT, decide_eq_true_eq]
    by_cases h1 : 1 ≤ pre.length ∧ pre.length ≤ 400
    · have h1' : (1 : Int) ≤ (pre.length : Int) ∧ (pre.length : Int) ≤ 400 := by omega
      simp only [h1, h1', strs_len, strs_elem, ints_len, ints_elem, items_list, fld_agg, elem_list, toStr_sc, toInt_sc, toBool_sc, headD_one, nat_int, get_bt, decide_eq_true_eq, decide_eq_false_iff_not, decide_true, decide_false, if_true, if_false, ite_self, Bool.not_true, Bool.not_false, Bool.false_eq_true, Bool.true_eq_false, Bool.true_and, Bool.false_and, Bool.and_true, Bool.and_false, not_true, not_false_iff, Option.bind_some, nn, toList_inj, Bool.not_eq_true', Bool.not_eq_false', Int.le_refl, and_self, true_and, and_true, false_and, and_false, bne_self_eq_false, beq_self_eq_true, Int.reduceEq, Nat.reduceEqDiff, List.length_singleton, List.tail_cons, Int.reduceLE, Int.reduceLT, decide_eq_true_eq]
      refine Ev2.bind (deep_ev pre hm (by omega) hok) ?_
      simp only [strs_len, strs_elem, ints_len, ints_elem, items_list, fld_agg, elem_list, toStr_sc, toInt_sc, toBool_sc, headD_one, nat_int, get_bt, decide_eq_true_eq, decide_eq_false_iff_not, decide_true, decide_false, if_true, if_false, ite_self, Bool.not_true, Bool.not_false, Bool.false_eq_true, Bool.true_eq_false, Bool.true_and, Bool.false_and, Bool.and_true, Bool.and_false, not_true, not_false_iff, Option.bind_some, nn, toList_inj, Bool.not_eq_true', Bool.not_eq_false', Int.le_refl, and_self, true_and, and_true, false_and, and_false, bne_self_eq_false, beq_self_eq_true, Int.reduceEq, Nat.reduceEqDiff, List.length_singleton, List.tail_cons, Int.reduceLE, Int.reduceLT, decide_eq_true_eq]
      exact Ev2.now _
    · have h1' : ¬ ((1 : Int) ≤ (pre.length : Int) ∧ (pre.length : Int) ≤ 400) := by omega
      simp only [h1, h1', strs_len, strs_elem, ints_len, ints_elem, items_list, fld_agg, elem_list, toStr_sc, toInt_sc, toBool_sc, headD_one, nat_int, get_bt, decide_eq_true_eq, decide_eq_false_iff_not, decide_true, decide_false, if_true, if_false, ite_self, Bool.not_true, Bool.not_false, Bool.false_eq_true, Bool.true_eq_false, Bool.true_and, Bool.false_and, Bool.and_true, Bool.and_false, not_true, not_false_iff, Option.bind_some, nn, toList_inj, Bool.not_eq_true', Bool.not_eq_false', Int.le_refl, and_self, true_and, and_true, false_and, and_false, bne_self_eq_false, beq_self_eq_true, Int.reduceEq, Nat.reduceEqDiff, List.length_singleton, List.tail_cons, Int.reduceLE, Int.reduceLT, decide_eq_true_eq]
      exact Ev2.now _
  | cons s rest ih =>
    intro pre hp hok
    refine Ev2.succ ?_
    simp only [spec_MachineOk.l0_eq, mach_len, at_lt hp, strs_len, strs_elem, ints_len, ints_elem, items_list, fld_agg, elem_list, toStr_sc, toInt_sc, toBool_sc, headD_one, nat_int, get_bt, decide_eq_true_eq, decide_eq_false_iff_not, decide_true, decide_false, if_true, if_false, ite_self, Bool.not_true, Bool.not_false, Bool.false_eq_true, Bool.true_eq_false, Bool.true_and, Bool.false_and, Bool.and_true, Bool.and_false, not_true, not_false_iff, Option.bind_some, nn, toList_inj, Bool.not_eq_true', Bool.not_eq_false', Int.le_refl, and_self, true_and, and_true, false_and, and_false, bne_self_eq_false, beq_self_eq_true, Int.reduceEq, Nat.reduceEqDiff, List.length_singleton, List.tail_cons, Int.reduceLE, Int.reduceLT, decide_eq_true_eq]
    rw [stsOk, stOk]
    have := specOk_l1 m hm hp (stsOk m.length (pre.length + 1) rest && (decide (1 ≤ m.length ∧ m.length ≤ 400) && decide ((depL 0 m).getD 0 0 ≤ 12))) (fun hso => by
      have hok' : stsOk m.length 0 (pre ++ [s]) = true := by
        rw [stsOk_app, hok, Nat.zero_add]
        simp [stsOk, hso]
      have h := ih (pre ++ [s]) (at_step hp) hok'
      have hl : (pre ++ [s]).length = pre.length + 1 := by simp
      rw [hl] at h ⊢
      exact h) s.2 [] none rfl (.inl ⟨rfl, rfl⟩) rfl
    refine Ev2.ext this.start ?_
    simp only [Bool.and_assoc]
theorem specOk_ev (m : List St) (hm : MachB m) : Ev (fun N => spec_MachineOk.f N [machP m]) [boolP (okM m)] := by
  simp only [spec_MachineOk.f_eq]
  refine Ev.ext (specOk_l0 m hm m [] rfl rfl).diag ?_
  refine congrArg (fun b => [boolP b]) ?_
  unfold okM
  simp only [List.length_nil]
  rw [← Bool.and_assoc, ← Bool.and_assoc, Bool.and_comm (stsOk _ _ _)]
/-! The program's. -/
theorem implWithin_val (a b c : Int) (N : Nat) : impl_within.f N [.sc (.int .i64 a), .sc (.int .i64 b), .sc (.int .i64 c)] = some [boolP (decide (b ≤ a ∧ a ≤ c))] := by
  simp only [impl_within.f_eq, strs_len, strs_elem, ints_len, ints_elem, items_list, fld_agg, elem_list, toStr_sc, toInt_sc, toBool_sc, headD_one, nat_int, get_bt, decide_eq_true_eq, decide_eq_false_iff_not, decide_true, decide_false, if_true, if_false, ite_self, Bool.not_true, Bool.not_false, Bool.false_eq_true, Bool.true_eq_false, Bool.true_and, Bool.false_and, Bool.and_true, Bool.and_false, not_true, not_false_iff, Option.bind_some, nn, toList_inj, Bool.not_eq_true', Bool.not_eq_false', Int.le_refl, and_self, true_and, and_true, false_and, and_false, bne_self_eq_false, beq_self_eq_true, Int.reduceEq, Nat.reduceEqDiff, List.length_singleton, List.tail_cons, Int.reduceLE, Int.reduceLT, decide_eq_true_eq]
  by_cases h1 : b ≤ a <;> by_cases h2 : a ≤ c <;> simp only [h1, h2, strs_len, strs_elem, ints_len, ints_elem, items_list, fld_agg, elem_list, toStr_sc, toInt_sc, toBool_sc, headD_one, nat_int, get_bt, decide_eq_true_eq, decide_eq_false_iff_not, decide_true, decide_false, if_true, if_false, ite_self, Bool.not_true, Bool.not_false, Bool.false_eq_true, Bool.true_eq_false, Bool.true_and, Bool.false_and, Bool.and_true, Bool.and_false, not_true, not_false_iff, Option.bind_some, nn, toList_inj, Bool.not_eq_true', Bool.not_eq_false', Int.le_refl, and_self, true_and, and_true, false_and, and_false, bne_self_eq_false, beq_self_eq_true, Int.reduceEq, Nat.reduceEqDiff, List.length_singleton, List.tail_cons, Int.reduceLE, Int.reduceLT, decide_eq_true_eq]
/-- How long the longest text is that is accepted; none: -1. -/
def lonE (i : Nat) (T : List Int) : List Ed → Int → Int
  | [], a => a
  | e :: es, a => lonE i T es (maxI a (T.getD (e.2.toNat - (i + 1)) 0 + 1))
theorem lonE_depE (i : Nat) (T : List Int) : ∀ (es : List Ed) (a : Int), lonE i T es a = depE i T es a
  | [], a => rfl
  | e :: es, a => by
    unfold lonE depE maxI
    by_cases h : a < T.getD (e.2.toNat - (i + 1)) 0 + 1
    · simp only [gt_iff_lt, h, if_true]; exact lonE_depE i T es _
    · simp only [gt_iff_lt, h, if_false]; exact lonE_depE i T es _
theorem depE_neg (i : Nat) (T : List Int) (hT : ∀ x ∈ T, 0 ≤ x ∧ x ≤ 1048576) : ∀ (es : List Ed), es ≠ [] → depE i T es (-1) = depE i T es 0
  | [], h => absurd rfl h
  | e :: es, _ => by
    have hg := getD_range hT (by omega) (e.2.toNat - (i + 1))
    unfold depE
    rw [if_pos (by omega), if_pos (by omega)]
theorem implOk_l1 (m : List St) (hm : MachB m) {pre rest : List St} {s : St} (hp : m = pre ++ s :: rest) (T : List Int) (hT : T.length = rest.length) (hTr : ∀ x ∈ T, 0 ≤ x ∧ x ≤ 1048576) (R : Bool) (b0 : Bool) :
    ∀ (es epre : List Ed) (p : Option Int), s.2 = epre ++ es → AheadE epre p → ∀ a : Int, -1 ≤ a → a ≤ 1048577 →
    (edgesOk m.length pre.length p es = true → Ev2 (fun N n => impl_MachineOk.l0 N n (machP m) (IntKind.i64.wrap ((pre.length : Int) - 1)) (arr pre.length (lonE pre.length T es a) T)) [boolP R]) →
    Ev3 (fun N m0 n => impl_MachineOk.l1 N m0 n (machP m) (pre.length : Int) (edgesP s.2) (s.2.length : Int) (epre.length : Int) (arr pre.length a T) b0 (edgesP s.2)) [boolP (edgesOk m.length pre.length p es && R)] := by
  have hn := hm.n
  have hse := hm.e s (by rw [hp]; simp)
  have hlm : m.length = pre.length + 1 + rest.length := by rw [hp]; simp; omega
  intro es
  induction es with
  | nil =>
    intro epre p he _ a _ _ hk
    refine Ev3.succ ?_
    simp only [impl_MachineOk.l1_eq, at_end he, edgesOk, strs_len, strs_elem, ints_len, ints_elem, items_list, fld_agg, elem_list, toStr_sc, toInt_sc, toBool_sc, headD_one, nat_int, get_bt, decide_eq_true_eq, decide_eq_false_iff_not, decide_true, decide_false, if_true, if_false, ite_self, Bool.not_true, Bool.not_false, Bool.false_eq_true, Bool.true_eq_false, Bool.true_and, Bool.false_and, Bool.and_true, Bool.and_false, not_true, not_false_iff, Option.bind_some, nn, toList_inj, Bool.not_eq_true', Bool.not_eq_false', Int.le_refl, and_self, true_and, and_true, false_and, and_false, bne_self_eq_false, beq_self_eq_true, Int.reduceEq, Nat.reduceEqDiff, List.length_singleton, List.tail_cons, Int.reduceLE, Int.reduceLT, decide_eq_true_eq]
    exact (hk rfl).outer
  | cons e es ih =>
    intro epre p he ha a ha0 ha1 hk
    have w1 : IntKind.i64.wrap ((pre.length : Int) + 1) = (pre.length : Int) + 1 := wrap_id (by omega) (by omega)
    have w2 : IntKind.i64.wrap ((m.length : Int) - 1) = (m.length : Int) - 1 := wrap_id (by omega) (by omega)
    refine Ev3.succ ?_
    rw [edgesOk] at hk ⊢
    rw [edgeOk.eq_def] at hk ⊢
    by_cases c1 : 97 ≤ e.1 ∧ e.1 ≤ 122
    · by_cases c2 : (pre.length : Int) + 1 ≤ e.2 ∧ e.2 ≤ (m.length : Int) - 1
      · obtain ⟨t, ht⟩ := Int.eq_ofNat_of_zero_le (show 0 ≤ e.2 by omega)
        have hge : pre.length + 1 ≤ t := by omega
        have ht' : t < pre.length + 1 + T.length := by omega
        have hl1 : (t : Int) < (((arr pre.length a T).length : Nat) : Int) := by rw [arr_len]; omega
        have hl2 : (pre.length : Int) < (((arr pre.length a T).length : Nat) : Int) := by rw [arr_len]; omega
        have hg := getD_range hTr (by omega) (t - (pre.length + 1))
        have hw : IntKind.i64.wrap (T.getD (t - (pre.length + 1)) 0 + 1) = T.getD (t - (pre.length + 1)) 0 + 1 := wrap_id (by omega) (by omega)
        have htn : (e.2).toNat = t := by rw [ht]; rfl
        have a1 := arr_at pre.length t a T hge
        have a2 := arr_here pre.length a T
        have hmx : -1 ≤ maxI a (T.getD (t - (pre.length + 1)) 0 + 1) ∧ maxI a (T.getD (t - (pre.length + 1)) 0 + 1) ≤ 1048577 := by unfold maxI; split <;> omega
        have hih := ih (epre ++ [e]) (some e.1) (at_step he) (.inr ⟨epre, e, rfl, rfl⟩) (maxI a (T.getD (t - (pre.length + 1)) 0 + 1)) hmx.1 hmx.2
        unfold lonE at hk
        rw [htn] at hk
        have c2' := c2
        rw [ht] at c2'
        rcases ha with ⟨rfl, rfl⟩ | ⟨epre', q, rfl, rfl⟩
        · have h0 : ¬ (0 : Int) < ((([] : List Ed).length : Nat) : Int) := by simp
          simp only [c1, c2, and_self, decide_true, Bool.true_and] at hk
          simp only [impl_MachineOk.l1_eq, mach_len, edges_len, at_lt he, edges_at he, edge_f0, edge_f1, implWithin_val, w1, w2, at_next he (by omega), c1, c2, c2', h0, ht, hl1, hl2, a1, a2, hw, hg.1, arr_set, nat_int, nn, headD_one, Option.bind_some, toInt_sc, toBool_sc, decide_true, decide_false, Bool.not_true, Bool.not_false, Bool.false_eq_true, if_true, if_false, and_self, Bool.true_and]
          exact hih hk
        · have h0 : (0 : Int) < (((epre' ++ [q]).length : Nat) : Int) := by rw [List.length_append, List.length_singleton]; omega
          obtain ⟨w3, w4⟩ := at_prevN he (by omega)
          have he' : s.2 = epre' ++ q :: (e :: es) := by rw [he]; simp
          by_cases c3 : e.1 ≤ q.1
          · have c3' : ¬ q.1 < e.1 := by omega
            simp only [impl_MachineOk.l1_eq, mach_len, edges_len, at_lt he, edges_at he, edges_at he', edge_f0, edge_f1, implWithin_val, w1, w2, w3, w4, c1, c2, c2', c3, c3', h0, nat_int, nn, headD_one, Option.bind_some, toInt_sc, toBool_sc, decide_true, decide_false, Bool.not_true, Bool.not_false, Bool.false_eq_true, Bool.true_eq_false, if_true, if_false, and_self, Bool.true_and, Bool.false_and, Bool.and_false]
            exact Ev3.now _
          · have c3' : q.1 < e.1 := by omega
            simp only [c1, c2, c3', and_self, decide_true, Bool.true_and] at hk
            simp only [impl_MachineOk.l1_eq, mach_len, edges_len, at_lt he, edges_at he, edges_at he', edge_f0, edge_f1, implWithin_val, w1, w2, w3, w4, at_next he (by omega), c1, c2, c2', c3, c3', h0, ht, hl1, hl2, a1, a2, hw, hg.1, arr_set, nat_int, nn, headD_one, Option.bind_some, toInt_sc, toBool_sc, decide_true, decide_false, Bool.not_true, Bool.not_false, Bool.false_eq_true, if_true, if_false, and_self, Bool.true_and]
            exact hih hk
      · rcases ha with ⟨rfl, rfl⟩ | ⟨epre', q, rfl, rfl⟩
        · have h0 : ¬ (0 : Int) < ((([] : List Ed).length : Nat) : Int) := by simp
          simp only [impl_MachineOk.l1_eq, mach_len, edges_len, at_lt he, edges_at he, edge_f0, edge_f1, implWithin_val, w1, w2, c1, c2, h0, strs_len, strs_elem, ints_len, ints_elem, items_list, fld_agg, elem_list, toStr_sc, toInt_sc, toBool_sc, headD_one, nat_int, get_bt, decide_eq_true_eq, decide_eq_false_iff_not, decide_true, decide_false, if_true, if_false, ite_self, Bool.not_true, Bool.not_false, Bool.false_eq_true, Bool.true_eq_false, Bool.true_and, Bool.false_and, Bool.and_true, Bool.and_false, not_true, not_false_iff, Option.bind_some, nn, toList_inj, Bool.not_eq_true', Bool.not_eq_false', Int.le_refl, and_self, true_and, and_true, false_and, and_false, bne_self_eq_false, beq_self_eq_true, Int.reduceEq, Nat.reduceEqDiff, List.length_singleton, List.tail_cons, Int.reduceLE, Int.reduceLT, decide_eq_true_eq]
          exact Ev3.now _
        · have h0 : (0 : Int) < (((epre' ++ [q]).length : Nat) : Int) := by rw [List.length_append, List.length_singleton]; omega
          obtain ⟨w3, w4⟩ := at_prevN he (by omega)
          have he' : s.2 = epre' ++ q :: (e :: es) := by rw [he]; simp
          by_cases c3 : e.1 ≤ q.1
          · simp only [impl_MachineOk.l1_eq, mach_len, edges_len, at_lt he, edges_at he, edges_at he', edge_f0, edge_f1, implWithin_val, w1, w2, w3, w4, c1, c2, c3, h0, strs_len, strs_elem, ints_len, ints_elem, items_list, fld_agg, elem_list, toStr_sc, toInt_sc, toBool_sc, headD_one, nat_int, get_bt, decide_eq_true_eq, decide_eq_false_iff_not, decide_true, decide_false, if_true, if_false, ite_self, Bool.not_true, Bool.not_false, Bool.false_eq_true, Bool.true_eq_false, Bool.true_and, Bool.false_and, Bool.and_true, Bool.and_false, not_true, not_false_iff, Option.bind_some, nn, toList_inj, Bool.not_eq_true', Bool.not_eq_false', Int.le_refl, and_self, true_and, and_true, false_and, and_false, bne_self_eq_false, beq_self_eq_true, Int.reduceEq, Nat.reduceEqDiff, List.length_singleton, List.tail_cons, Int.reduceLE, Int.reduceLT, decide_eq_true_eq]
            exact Ev3.now _
          · simp only [impl_MachineOk.l1_eq, mach_len, edges_len, at_lt he, edges_at he, edges_at he', edge_f0, edge_f1, implWithin_val, w1, w2, w3, w4, c1, c2, c3, h0, strs_len, strs_elem, ints_len, ints_elem, items_list, fld_agg, elem_list, toStr_sc, toInt_sc, toBool_sc, headD_one, nat_int, get_bt, decide_eq_true_eq, decide_eq_false_iff_not, decide_true, decide_false, if_true, if_false, ite_self, Bool.not_true, Bool.not_false, Bool.false_eq_true, Bool.true_eq_false, Bool.true_and, Bool.false_and, Bool.and_true, Bool.and_false, not_true, not_false_iff, Option.bind_some, nn, toList_inj, Bool.not_eq_true', Bool.not_eq_false', Int.le_refl, and_self, true_and, and_true, false_and, and_false, bne_self_eq_false, beq_self_eq_true, Int.reduceEq, Nat.reduceEqDiff, List.length_singleton, List.tail_cons, Int.reduceLE, Int.reduceLT, decide_eq_true_eq]
            exact Ev3.now _
    · simp only [impl_MachineOk.l1_eq, mach_len, edges_len, at_lt he, edges_at he, edge_f0, edge_f1, implWithin_val, c1, strs_len, strs_elem, ints_len, ints_elem, items_list, fld_agg, elem_list, toStr_sc, toInt_sc, toBool_sc, headD_one, nat_int, get_bt, decide_eq_true_eq, decide_eq_false_iff_not, decide_true, decide_false, if_true, if_false, ite_self, Bool.not_true, Bool.not_false, Bool.false_eq_true, Bool.true_eq_false, Bool.true_and, Bool.false_and, Bool.and_true, Bool.and_false, not_true, not_false_iff, Option.bind_some, nn, toList_inj, Bool.not_eq_true', Bool.not_eq_false', Int.le_refl, and_self, true_and, and_true, false_and, and_false, bne_self_eq_false, beq_self_eq_true, Int.reduceEq, Nat.reduceEqDiff, List.length_singleton, List.tail_cons, Int.reduceLE, Int.reduceLT, decide_eq_true_eq]
      exact Ev3.now _
theorem depE_ge (i : Nat) (T : List Int) (hT : ∀ x ∈ T, 0 ≤ x ∧ x ≤ 1048576) (es : List Ed) (a : Int) (ha : a ≤ 1048577) : a ≤ depE i T es a := (depE_range hT (by omega) es a ha).1
theorem implOk_l0 (m : List St) (hm : MachB m) (hne : 0 < m.length) : ∀ (k : Nat) (pre rest : List St) (h0 : Int), pre.length = k → m = pre ++ rest → stsOk m.length k rest = true →
    (k = 0 → (h0 ≤ 12 ↔ (depL 0 m).getD 0 0 ≤ 12)) → ∀ T : List Int, T.length = rest.length → (0 < k → T = depL k rest) → (k = 0 → T.getD 0 0 = h0) →
    Ev2 (fun N n => impl_MachineOk.l0 N n (machP m) ((k : Int) - 1) ((List.replicate k (0 : Int) ++ T).map intP)) [boolP (stsOk m.length 0 pre && decide ((depL 0 m).getD 0 0 ≤ 12))] := by
  have hn := hm.n
  intro k
  induction k with
  | zero =>
    intro pre rest hd hk hp hok hiff T hTl _ hTd
    obtain rfl : pre = [] := List.eq_nil_of_length_eq_zero hk
    rw [List.nil_append] at hp
    subst hp
    refine Ev2.succ ?_
    have h0 : ¬ (0 : Int) ≤ ((0 : Nat) : Int) - 1 := by omega
    have hl : (0 : Int) < ((((List.replicate 0 (0 : Int) ++ T).map intP).length : Nat) : Int) := by simp; omega
    have he : ((PV.list ((List.replicate 0 (0 : Int) ++ T).map intP)).elem 0).toInt = hd := by
      have h2 := ints_elem (List.replicate 0 (0 : Int) ++ T) 0
      simp only [intsP] at h2
      rw [h2, ← hTd rfl]; simp
    have hdec : decide (hd ≤ 12) = decide ((depL 0 m).getD 0 0 ≤ 12) := decide_eq_decide.2 (hiff rfl)
    simp only [impl_MachineOk.l0_eq, h0, hl, he, hdec, stsOk, Bool.true_and, decide_false, if_true, if_false, Bool.false_eq_true, Int.le_refl]
    exact Ev2.now _
  | succ k ih =>
    intro pre rest hd hk hp hok hiff T hTl hTe hTd
    obtain ⟨pre', s, rfl⟩ : ∃ pre' s, pre = pre' ++ [s] := by
      rcases List.eq_nil_or_concat pre with rfl | ⟨a, b, rfl⟩
      · simp at hk
      · exact ⟨a, b, by simp⟩
    have hk' : pre'.length = k := by simpa using hk
    subst hk'
    obtain rfl := hTe (by omega)
    have hp' : m = pre' ++ s :: rest := by rw [hp]; simp
    have hr := depL_range rest (pre'.length + 1)
    have hlm : m.length = pre'.length + 1 + rest.length := by rw [hp']; simp; omega
    have hTr : ∀ x ∈ depL (pre'.length + 1) rest, 0 ≤ x ∧ x ≤ 1048576 := fun x hx => by have := hr x hx; omega
    have hw : IntKind.i64.wrap ((pre'.length : Int) - 1) = (pre'.length : Int) - 1 := wrap_id (by omega) (by omega)
    have hw2 : IntKind.i64.wrap (((pre'.length + 1 : Nat) : Int) - 1) = (pre'.length : Int) := nat_wrap (by omega) (by omega)
    have e1 : stsOk m.length 0 (pre' ++ [s]) = (stsOk m.length 0 pre' && stOk m.length pre'.length s) := by
      rw [stsOk_app, Nat.zero_add]; simp [stsOk]
    rw [e1]
    refine Ev2.succ ?_
    have h0 : (0 : Int) ≤ (((pre'.length + 1 : Nat)) : Int) - 1 := by omega
    have h1 : (((pre'.length + 1 : Nat)) : Int) - 1 = (pre'.length : Int) := by omega
    have hlen0 : (pre'.length : Int) < ((arr pre'.length 0 (depL (pre'.length + 1) rest)).length : Int) := by rw [arr_len]; omega
    have hlen1 : (pre'.length : Int) < ((arr pre'.length (-1) (depL (pre'.length + 1) rest)).length : Int) := by rw [arr_len]; omega
    have hempty : ((s.2.length : Int) = 0) = (s.2 = []) := by
      apply propext; constructor
      · intro h; exact List.eq_nil_of_length_eq_zero (by omega)
      · intro h; rw [h]; rfl
    have hcont : ∀ a : Int, (a = 0 ∨ a = -1) → (0 < pre'.length → a = 0 ∨ s.2 ≠ []) → stOk m.length pre'.length s = true →
        Ev2 (fun N n => impl_MachineOk.l0 N n (machP m) (IntKind.i64.wrap ((pre'.length : Int) - 1)) (arr pre'.length (lonE pre'.length (depL (pre'.length + 1) rest) s.2 a) (depL (pre'.length + 1) rest))) [boolP (stsOk m.length 0 pre' && decide ((depL 0 m).getD 0 0 ≤ 12))] := by
      intro a ha hpos hso
      rw [hw, lonE_depE]
      have heq : (0 < pre'.length ∨ s.2 ≠ [] ∨ a = 0) → depE pre'.length (depL (pre'.length + 1) rest) s.2 a = depE pre'.length (depL (pre'.length + 1) rest) s.2 0 := by
        intro h
        rcases ha with rfl | rfl
        · rfl
        · refine depE_neg _ _ hTr _ ?_
          rcases h with h | h | h
          · rcases hpos h with h | h
            · omega
            · exact h
          · exact h
          · omega
      have hih := ih pre' (s :: rest) (depE pre'.length (depL (pre'.length + 1) rest) s.2 a) rfl hp' (by rw [stsOk, hso, hok]; rfl) (fun hz => by
        have hpe : pre' = [] := List.eq_nil_of_length_eq_zero hz
        subst hpe
        rw [List.nil_append] at hp'
        rw [hp']
        show depE 0 (depL 1 rest) s.2 a ≤ 12 ↔ depE 0 (depL 1 rest) s.2 0 ≤ 12
        by_cases hs2 : s.2 = []
        · rw [hs2]; unfold depE; omega
        · rw [show depE 0 (depL 1 rest) s.2 a = depE 0 (depL 1 rest) s.2 0 from heq (.inr (.inl hs2))])
        (depE pre'.length (depL (pre'.length + 1) rest) s.2 a :: depL (pre'.length + 1) rest) (by simp [depL_len]) (fun hz => by rw [heq (.inl hz)]; rfl) (fun _ => rfl)
      exact hih
    have hl1 : ∀ a : Int, (a = 0 ∨ a = -1) → (0 < pre'.length → a = 0 ∨ s.2 ≠ []) → (decide (pre'.length = 0) || (s.1 || decide (s.2 ≠ []))) = true → ∀ b0, Ev2 (fun N n => impl_MachineOk.l1 N n N (machP m) (pre'.length : Int) (edgesP s.2) (s.2.length : Int) 0 (arr pre'.length a (depL (pre'.length + 1) rest)) b0 (edgesP s.2)) [boolP (stsOk m.length 0 pre' && stOk m.length pre'.length s && decide ((depL 0 m).getD 0 0 ≤ 12))] := by
      intro a ha hpos hcond b0
      have h := implOk_l1 m hm hp' (depL (pre'.length + 1) rest) (depL_len _ _) hTr (stsOk m.length 0 pre' && decide ((depL 0 m).getD 0 0 ≤ 12)) b0 s.2 [] none rfl (.inl ⟨rfl, rfl⟩) a (by omega) (by omega) (fun heo => hcont a ha hpos (by unfold stOk; rw [heo, hcond]; rfl))
      refine Ev2.ext h.start ?_
      refine congrArg (fun b => [boolP b]) ?_
      unfold stOk
      rw [hcond, Bool.and_true]
      cases edgesOk m.length pre'.length none s.2 <;> cases stsOk m.length 0 pre' <;> simp
    simp only [impl_MachineOk.l0_eq, h0, h1, arr_zero, mach_len, at_lt hp', mach_at hp', st_f0, st_f1, edges_len, hempty, hlen0, hlen1, arr_set, nat_int, nn, toBool_sc, decide_true, decide_false, Bool.not_true, Bool.not_false, Bool.false_eq_true, if_true, if_false, decide_eq_true_eq]
    cases hs1 : s.1 with
    | true =>
      have h := hl1 0 (.inl rfl) (fun _ => .inl rfl) (by simp [hs1]) true
      by_cases hz : (0 : Int) < (pre'.length : Int)
      · simp only [hz, Bool.not_true, Bool.false_eq_true, if_true, if_false, hlen1, arr_set]
        exact h
      · simp only [hz, Bool.not_true, Bool.false_eq_true, if_true, if_false, hlen1, arr_set]
        exact h
    | false =>
      by_cases hs2 : s.2 = []
      · by_cases hz : (0 : Int) < (pre'.length : Int)
        · have hf : stOk m.length pre'.length s = false := by
            have : ¬ pre'.length = 0 := by omega
            unfold stOk; simp [hs1, hs2, this]
          simp only [hz, hs2, hf, Bool.not_false, Bool.and_false, Bool.false_and, if_true, if_false]
          exact Ev2.now _
        · have hz0 : pre'.length = 0 := by omega
          have h := hl1 (-1) (.inr rfl) (fun h => absurd h (by omega)) (by simp [hz0]) false
          simp only [hz, Bool.not_false, Bool.false_eq_true, if_true, if_false]
          exact h
      · have h := hl1 (-1) (.inr rfl) (fun _ => .inr hs2) (by simp [hs2]) false
        by_cases hz : (0 : Int) < (pre'.length : Int)
        · simp only [hz, hs2, Bool.not_false, Bool.false_eq_true, if_true, if_false]
          exact h
        · simp only [hz, Bool.not_false, Bool.false_eq_true, if_true, if_false]
          exact h
theorem implOk_ev (m : List St) (hm : MachB m) : Ev (fun N => impl_MachineOk.f N [machP m]) [boolP (okM m)] := by
  have hn := hm.n
  simp only [impl_MachineOk.f_eq, mach_len, implWithin_val, strs_len, strs_elem, ints_len, ints_elem, items_list, fld_agg, elem_list, toStr_sc, toInt_sc, toBool_sc, headD_one, nat_int, get_bt, decide_eq_true_eq, decide_eq_false_iff_not, decide_true, decide_false, if_true, if_false, ite_self, Bool.not_true, Bool.not_false, Bool.false_eq_true, Bool.true_eq_false, Bool.true_and, Bool.false_and, Bool.and_true, Bool.and_false, not_true, not_false_iff, Option.bind_some, nn, toList_inj, Bool.not_eq_true', Bool.not_eq_false', Int.le_refl, and_self, true_and, and_true, false_and, and_false, bne_self_eq_false, beq_self_eq_true, Int.reduceEq, Nat.reduceEqDiff, List.length_singleton, List.tail_cons, Int.reduceLE, Int.reduceLT, decide_eq_true_eq]
  unfold okM
  by_cases h1 : 1 ≤ m.length ∧ m.length ≤ 400
  · have h1' : (1 : Int) ≤ (m.length : Int) ∧ (m.length : Int) ≤ 400 := by omega
    have c1 : m.length ≤ 35184372088832 := by omega
    have hw : IntKind.i64.wrap ((m.length : Int) - 1) = (m.length : Int) - 1 := wrap_id (by omega) (by omega)
    have h := (implOk_l0 m hm (by omega) m.length m [] 0 rfl (by simp) rfl (fun h => absurd h (by omega)) [] rfl (fun _ => rfl) (fun h => absurd h (by omega))).diag
    have e : (List.replicate m.length (0 : Int) ++ []).map intP = List.replicate m.length (intP 0) := by simp
    rw [e] at h
    simp only [h1, h1', c1, hw, strs_len, strs_elem, ints_len, ints_elem, items_list, fld_agg, elem_list, toStr_sc, toInt_sc, toBool_sc, headD_one, nat_int, get_bt, decide_eq_true_eq, decide_eq_false_iff_not, decide_true, decide_false, if_true, if_false, ite_self, Bool.not_true, Bool.not_false, Bool.false_eq_true, Bool.true_eq_false, Bool.true_and, Bool.false_and, Bool.and_true, Bool.and_false, not_true, not_false_iff, Option.bind_some, nn, toList_inj, Bool.not_eq_true', Bool.not_eq_false', Int.le_refl, and_self, true_and, and_true, false_and, and_false, bne_self_eq_false, beq_self_eq_true, Int.reduceEq, Nat.reduceEqDiff, List.length_singleton, List.tail_cons, Int.reduceLE, Int.reduceLT, decide_eq_true_eq]
    exact h
  · have h1' : ¬ ((1 : Int) ≤ (m.length : Int) ∧ (m.length : Int) ≤ 400) := by omega
    simp only [h1, h1', strs_len, strs_elem, ints_len, ints_elem, items_list, fld_agg, elem_list, toStr_sc, toInt_sc, toBool_sc, headD_one, nat_int, get_bt, decide_eq_true_eq, decide_eq_false_iff_not, decide_true, decide_false, if_true, if_false, ite_self, Bool.not_true, Bool.not_false, Bool.false_eq_true, Bool.true_eq_false, Bool.true_and, Bool.false_and, Bool.and_true, Bool.and_false, not_true, not_false_iff, Option.bind_some, nn, toList_inj, Bool.not_eq_true', Bool.not_eq_false', Int.le_refl, and_self, true_and, and_true, false_and, and_false, bne_self_eq_false, beq_self_eq_true, Int.reduceEq, Nat.reduceEqDiff, List.length_singleton, List.tail_cons, Int.reduceLE, Int.reduceLT, decide_eq_true_eq]
    exact Ev.now _
/-! #### the words that a machine knows -/
def wsE (i : Nat) (T : List (List (List Int))) : List Ed → List (List Int)
  | [] => []
  | e :: es => (T.getD (e.2.toNat - (i + 1)) []).map (fun u => e.1 :: u) ++ wsE i T es
def wsL (i : Nat) : List St → List (List (List Int))
  | [] => []
  | s :: r => ((if s.1 = true then [[]] else []) ++ wsE i (wsL (i + 1) r) s.2) :: wsL (i + 1) r
theorem wsL_len : ∀ (m : List St) (i : Nat), (wsL i m).length = m.length
  | [], _ => rfl
  | s :: r, i => by simp [wsL, wsL_len r (i + 1)]
theorem wsL_drop : ∀ (pre rest : List St) (i : Nat), (wsL i (pre ++ rest)).drop pre.length = wsL (i + pre.length) rest
  | [], rest, i => by simp
  | s :: pre, rest, i => by
    simp only [List.cons_append, wsL, List.length_cons, List.drop_succ_cons]
    rw [wsL_drop pre rest (i + 1)]
    congr 1; omega
/-- The words that a state knows. -/
def WM (m : List St) (j : Nat) : List (List Int) := (wsL 0 m).getD j []
def WE (m : List St) : List Ed → List (List Int)
  | [] => []
  | e :: es => (WM m e.2.toNat).map (fun u => e.1 :: u) ++ WE m es
theorem WM_tail (m pre rest : List St) (s : St) (hp : m = pre ++ s :: rest) (t : Nat) (ht : pre.length + 1 ≤ t) : (wsL (pre.length + 1) rest).getD (t - (pre.length + 1)) [] = WM m t := by
  have h : m = (pre ++ [s]) ++ rest := by rw [hp]; simp
  have hd := wsL_drop (pre ++ [s]) rest 0
  rw [← h] at hd
  have hl : (pre ++ [s]).length = pre.length + 1 := by simp
  rw [hl, Nat.zero_add] at hd
  unfold WM
  rw [← hd, List.getD_eq_getElem?_getD, List.getD_eq_getElem?_getD, List.getElem?_drop]
  congr 2; omega
theorem WM_eq (m pre rest : List St) (s : St) (hp : m = pre ++ s :: rest) (hes : ∀ e ∈ s.2, (pre.length : Int) + 1 ≤ e.2) : WM m pre.length = (if s.1 = true then [[]] else []) ++ WE m s.2 := by
  have hd := wsL_drop pre (s :: rest) 0
  rw [← hp, Nat.zero_add, wsL] at hd
  have h0 : WM m pre.length = (if s.1 = true then [[]] else []) ++ wsE pre.length (wsL (pre.length + 1) rest) s.2 := by
    unfold WM
    have : (wsL 0 m)[pre.length]? = some ((if s.1 = true then [[]] else []) ++ wsE pre.length (wsL (pre.length + 1) rest) s.2) := by
      have := congrArg (fun l => l[0]?) hd
      simpa [List.getElem?_drop] using this
    rw [List.getD_eq_getElem?_getD, this]; rfl
  rw [h0]
  have key : ∀ es : List Ed, (∀ e ∈ es, (pre.length : Int) + 1 ≤ e.2) → wsE pre.length (wsL (pre.length + 1) rest) es = WE m es := by
    intro es
    induction es with
    | nil => intro _; rfl
    | cons e es ih =>
      intro h
      have he := h e (by simp)
      rw [wsE, WE, ih (fun x hx => h x (by simp [hx])), WM_tail m pre rest s hp e.2.toNat (by omega)]
  rw [key s.2 hes]
theorem split_at {α : Type} (m : List α) (j : Nat) (h : j < m.length) : ∃ pre s rest, m = pre ++ s :: rest ∧ pre.length = j :=
  ⟨m.take j, m[j], m.drop (j + 1), by simp, by simp; omega⟩
theorem sts_at {m pre rest : List St} {s : St} (hok : stsOk m.length 0 m = true) (hp : m = pre ++ s :: rest) : stOk m.length pre.length s = true := by
  have h := hok
  rw [hp, stsOk_app, ← hp] at h
  simp only [stsOk, Bool.and_eq_true, Nat.zero_add] at h
  exact h.2.1
theorem sts_edges {m pre rest : List St} {s : St} (hok : stsOk m.length 0 m = true) (hp : m = pre ++ s :: rest) : ∀ e ∈ s.2, (97 ≤ e.1 ∧ e.1 ≤ 122) ∧ (pre.length : Int) + 1 ≤ e.2 ∧ e.2 ≤ (m.length : Int) - 1 := by
  have hso := sts_at hok hp
  simp only [stOk, Bool.and_eq_true] at hso
  exact edgesOk_to hso.1
/-! How many. -/
def cap9 (n : Nat) : Int := if (1000000000 : Int) < (n : Int) then 1000000000 else (n : Int)
def cntE (i : Nat) (T : List Int) : List Ed → Int → Int
  | [], a => a
  | e :: es, a => cntE i T es (minI (a + T.getD (e.2.toNat - (i + 1)) 0) 1000000000)
def cntL (i : Nat) : List St → List Int
  | [] => []
  | s :: r => cntE i (cntL (i + 1) r) s.2 (if s.1 = true then 1 else 0) :: cntL (i + 1) r
theorem cntL_len : ∀ (m : List St) (i : Nat), (cntL i m).length = m.length
  | [], _ => rfl
  | s :: r, i => by simp [cntL, cntL_len r (i + 1)]
theorem cap9_range (n : Nat) : 0 ≤ cap9 n ∧ cap9 n ≤ 1000000000 := by unfold cap9; split <;> omega
theorem cap9_add (a b : Nat) : minI (cap9 a + cap9 b) 1000000000 = cap9 (a + b) := by unfold minI cap9; split <;> split <;> split <;> split <;> omega
theorem cntE_eq (i : Nat) (C : List Int) (T : List (List (List Int))) (h : ∀ j, C.getD j 0 = cap9 (T.getD j []).length) : ∀ (es : List Ed) (a : Nat), cntE i C es (cap9 a) = cap9 (a + (wsE i T es).length)
  | [], a => rfl
  | e :: es, a => by
    rw [cntE, wsE, h, cap9_add, cntE_eq i C T h es]
    congr 1; simp; omega
theorem cntL_eq : ∀ (m : List St) (i j : Nat), (cntL i m).getD j 0 = cap9 ((wsL i m).getD j []).length
  | [], i, j => by simp [cntL, wsL, cap9]
  | s :: r, i, 0 => by
    have h0 : (if s.1 = true then (1 : Int) else 0) = cap9 ((if s.1 = true then [[]] else [] : List (List Int)).length) := by split <;> simp [cap9]
    have := cntE_eq i (cntL (i + 1) r) (wsL (i + 1) r) (cntL_eq r (i + 1)) s.2 (if s.1 = true then [[]] else [] : List (List Int)).length
    rw [← h0] at this
    simp only [cntL, wsL, List.getD_cons_zero, List.length_append]
    exact this
  | s :: r, i, j + 1 => by simpa [cntL, wsL] using cntL_eq r (i + 1) j
theorem cntL_range (m : List St) (i : Nat) : ∀ x ∈ cntL i m, 0 ≤ x ∧ x ≤ 1000000000 := fun x hx => by
  obtain ⟨j, hj⟩ := List.mem_iff_getElem?.1 hx
  have := cntL_eq m i j
  rw [List.getD_eq_getElem?_getD, hj] at this
  simp at this
  rw [this]; exact cap9_range _
def txt (l : List Int) : ByteArray := ⟨(l.map fun x => UInt8.ofNat x.toNat).toArray⟩
def aheadT (h : ByteArray) (ws : List (List Int)) : List ByteArray := ws.map fun u => h ++ txt u
theorem aheadT_app (h : ByteArray) (a b : List (List Int)) : aheadT h (a ++ b) = aheadT h a ++ aheadT h b := by simp [aheadT]
theorem txt_cons (h : ByteArray) (c : Int) (u : List Int) : (h ++ txt [c]) ++ txt u = h ++ txt (c :: u) := by
  apply ByteArray.ext
  simp [ByteArray.data_append, txt]
theorem aheadT_cons (h : ByteArray) (c : Int) (ws : List (List Int)) : aheadT (h ++ txt [c]) ws = aheadT h (ws.map fun u => c :: u) := by
  simp only [aheadT, List.map_map]
  exact List.map_congr_left (fun u _ => txt_cons h c u)
theorem txt_nil (h : ByteArray) : h ++ txt [] = h := by
  apply ByteArray.ext
  simp [ByteArray.data_append, txt]
theorem u8_low {c : Int} (h : 97 ≤ c ∧ c ≤ 122) : IntKind.u8.wrap c = c := by
  have : IntKind.u8.wrap c = c % 256 := by simp [IntKind.wrap, IntKind.signed, IntKind.bits]
  rw [this]; omega
theorem byte_txt {c : Int} (h : 97 ≤ c ∧ c ≤ 122) : bytesOfL [PV.sc (.int .u8 (IntKind.u8.wrap c))] = txt [c] := by
  rw [u8_low h]; rfl
theorem txt_size (l : List Int) : (txt l).size = l.length := by simp [txt, ByteArray.size]
theorem take_more {α : Type} (o : List α) (k : Nat) (A B : List α) : (o ++ A.take (k - o.length)) ++ B.take (k - (o ++ A.take (k - o.length)).length) = o ++ (A ++ B).take (k - o.length) := by
  rw [List.append_assoc, List.take_append]
  congr 2
  rw [List.length_append, List.length_take]
  by_cases h : A.length ≤ k - o.length
  · rw [Nat.min_eq_right h]; congr 1; omega
  · have h' : k - o.length ≤ A.length := by omega
    rw [Nat.min_eq_left h']
    have e1 : k - (o.length + (k - o.length)) = 0 := by omega
    have e2 : k - o.length - A.length = 0 := by omega
    rw [e1, e2]
theorem strs_app (a b : List ByteArray) : PV.list ((strsP a).items ++ (strsP b).items) = strsP (a ++ b) := by simp [strsP, PV.items]
theorem gather_l1 (m : List St) (hm : MachB m) (hok : stsOk m.length 0 m = true) {pre rest : List St} {s : St} (hp : m = pre ++ s :: rest) (N d k : Nat)
    (ih : ∀ at', at' < m.length → pre.length < at' → ∀ (h : ByteArray) (most : Int) (out : List ByteArray), h.size + k ≤ 4611686018427387904 → 0 ≤ most → most ≤ 300 → out.length ≤ 300 → impl_gather.g N d [machP m, intP (at' : Int), strP h, intP most, strsP out] = some [strsP (out ++ (aheadT h (WM m at')).take (most.toNat - out.length))])
    (h : ByteArray) (most : Int) (hh : h.size + k + 1 ≤ 4611686018427387904) (h0 : 0 ≤ most) (h1 : most ≤ 300) :
    ∀ (es epre : List Ed), s.2 = epre ++ es → ∀ n, es.length + 1 ≤ n → ∀ out : List ByteArray, out.length ≤ 300 →
      impl_gather.l1 N d n (machP m) h most (edgesP s.2) (s.2.length : Int) (epre.length : Int) (strsP out) = some [strsP (out ++ (aheadT h (WE m es)).take (most.toNat - out.length))] := by
  have hn := hm.n
  have hse := hm.e s (by rw [hp]; simp)
  have hlm : m.length = pre.length + 1 + rest.length := by rw [hp]; simp; omega
  intro es
  induction es with
  | nil =>
    intro epre he n hnn out ho
    obtain ⟨n, rfl⟩ : ∃ n', n = n' + 1 := ⟨n - 1, by simp at hnn; omega⟩
    simp only [impl_gather.l1_eq, at_end he, strs_len, strs_elem, ints_len, ints_elem, items_list, fld_agg, elem_list, toStr_sc, toInt_sc, toBool_sc, headD_one, nat_int, get_bt, decide_eq_true_eq, decide_eq_false_iff_not, decide_true, decide_false, if_true, if_false, ite_self, Bool.not_true, Bool.not_false, Bool.false_eq_true, Bool.true_eq_false, Bool.true_and, Bool.false_and, Bool.and_true, Bool.and_false, not_true, not_false_iff, Option.bind_some, nn, toList_inj, Bool.not_eq_true', Bool.not_eq_false', Int.le_refl, and_self, true_and, and_true, false_and, and_false, bne_self_eq_false, beq_self_eq_true, Int.reduceEq, Nat.reduceEqDiff, List.length_singleton, List.tail_cons, Int.reduceLE, Int.reduceLT, decide_eq_true_eq]
    simp [WE, aheadT]
  | cons e es ihe =>
    intro epre he n hnn out ho
    obtain ⟨n, rfl⟩ : ∃ n', n = n' + 1 := ⟨n - 1, by simp at hnn; omega⟩
    obtain ⟨hc, h2, h3⟩ := sts_edges hok hp e (by rw [he]; simp)
    obtain ⟨t, ht⟩ := Int.eq_ofNat_of_zero_le (show 0 ≤ e.2 by omega)
    have htn : e.2.toNat = t := by rw [ht]; rfl
    by_cases hmo : most ≤ (out.length : Int)
    · have hz : most.toNat - out.length = 0 := by omega
      simp only [impl_gather.l1_eq, at_lt he, edges_len, strs_len, hmo, strs_len, strs_elem, ints_len, ints_elem, items_list, fld_agg, elem_list, toStr_sc, toInt_sc, toBool_sc, headD_one, nat_int, get_bt, decide_eq_true_eq, decide_eq_false_iff_not, decide_true, decide_false, if_true, if_false, ite_self, Bool.not_true, Bool.not_false, Bool.false_eq_true, Bool.true_eq_false, Bool.true_and, Bool.false_and, Bool.and_true, Bool.and_false, not_true, not_false_iff, Option.bind_some, nn, toList_inj, Bool.not_eq_true', Bool.not_eq_false', Int.le_refl, and_self, true_and, and_true, false_and, and_false, bne_self_eq_false, beq_self_eq_true, Int.reduceEq, Nat.reduceEqDiff, List.length_singleton, List.tail_cons, Int.reduceLE, Int.reduceLT, decide_eq_true_eq]
      simp [hz]
    · have hs1 : h.size + (txt [e.1]).size ≤ 9223372036854775807 := by rw [txt_size]; simp; omega
      have hg := ih t (by omega) (by omega) (h ++ txt [e.1]) most out (by rw [ByteArray.size_append, txt_size]; simp; omega) h0 h1 ho
      have hlen : (out ++ (aheadT (h ++ txt [e.1]) (WM m t)).take (most.toNat - out.length)).length ≤ 300 := by
        rw [List.length_append, List.length_take]; omega
      have hrec := ihe (epre ++ [e]) (at_step he) n (by simp at hnn ⊢; omega) _ hlen
      simp only [impl_gather.l1_eq, at_lt he, edges_len, edges_at he, edge_f0, edge_f1, strs_len, hmo, byte_txt hc, hs1, ht, hg, at_next he (by omega), strs_len, strs_elem, ints_len, ints_elem, items_list, fld_agg, elem_list, toStr_sc, toInt_sc, toBool_sc, headD_one, nat_int, get_bt, decide_eq_true_eq, decide_eq_false_iff_not, decide_true, decide_false, if_true, if_false, ite_self, Bool.not_true, Bool.not_false, Bool.false_eq_true, Bool.true_eq_false, Bool.true_and, Bool.false_and, Bool.and_true, Bool.and_false, not_true, not_false_iff, Option.bind_some, nn, toList_inj, Bool.not_eq_true', Bool.not_eq_false', Int.le_refl, and_self, true_and, and_true, false_and, and_false, bne_self_eq_false, beq_self_eq_true, Int.reduceEq, Nat.reduceEqDiff, List.length_singleton, List.tail_cons, Int.reduceLE, Int.reduceLT, decide_eq_true_eq]
      rw [hrec, take_more, WE, htn, aheadT_app, aheadT_cons]
theorem gather_l0 (m : List St) (hm : MachB m) (hok : stsOk m.length 0 m = true) {pre rest : List St} {s : St} (hp : m = pre ++ s :: rest) (N d k : Nat)
    (ih : ∀ at', at' < m.length → pre.length < at' → ∀ (h : ByteArray) (most : Int) (out : List ByteArray), h.size + k ≤ 4611686018427387904 → 0 ≤ most → most ≤ 300 → out.length ≤ 300 → impl_gather.g N d [machP m, intP (at' : Int), strP h, intP most, strsP out] = some [strsP (out ++ (aheadT h (WM m at')).take (most.toNat - out.length))])
    (h : ByteArray) (most : Int) (hh : h.size + k + 1 ≤ 4611686018427387904) (h0 : 0 ≤ most) (h1 : most ≤ 300) (n : Nat) (hnn : s.2.length + 1 ≤ n) (out : List ByteArray) (ho : out.length ≤ 300) :
      impl_gather.l0 N d n (machP m) h most (edgesP s.2) (s.2.length : Int) 0 (out.map strP) = some [strsP (out ++ (aheadT h (WE m s.2)).take (most.toNat - out.length))] := by
  have hn := hm.n
  have hse := hm.e s (by rw [hp]; simp)
  have hlm : m.length = pre.length + 1 + rest.length := by rw [hp]; simp; omega
  obtain ⟨n, rfl⟩ : ∃ n', n = n' + 1 := ⟨n - 1, by omega⟩
  have el : PV.list (out.map strP) = strsP out := rfl
  have eln : (out.map strP).length = out.length := by simp
  cases hs : s.2 with
  | nil =>
    have z : ¬ (0 : Int) < ((([] : List Ed).length : Nat) : Int) := by simp
    simp only [impl_gather.l0_eq, z, el, strs_len, strs_elem, ints_len, ints_elem, items_list, fld_agg, elem_list, toStr_sc, toInt_sc, toBool_sc, headD_one, nat_int, get_bt, decide_eq_true_eq, decide_eq_false_iff_not, decide_true, decide_false, if_true, if_false, ite_self, Bool.not_true, Bool.not_false, Bool.false_eq_true, Bool.true_eq_false, Bool.true_and, Bool.false_and, Bool.and_true, Bool.and_false, not_true, not_false_iff, Option.bind_some, nn, toList_inj, Bool.not_eq_true', Bool.not_eq_false', Int.le_refl, and_self, true_and, and_true, false_and, and_false, bne_self_eq_false, beq_self_eq_true, Int.reduceEq, Nat.reduceEqDiff, List.length_singleton, List.tail_cons, Int.reduceLE, Int.reduceLT, decide_eq_true_eq]
    simp [WE, aheadT]
  | cons e es =>
    have he : s.2 = [] ++ e :: es := hs
    obtain ⟨hc, h2, h3⟩ := sts_edges hok hp e (by rw [he]; simp)
    obtain ⟨t, ht⟩ := Int.eq_ofNat_of_zero_le (show 0 ≤ e.2 by omega)
    have htn : e.2.toNat = t := by rw [ht]; rfl
    have q1 := at_lt he
    have q2 := edges_at he
    have q3 := at_next he (by omega)
    rw [hs] at q1 q2
    simp only [List.length_nil, Int.natCast_zero, Nat.zero_add] at q1 q2 q3
    have z0 : (0 : Int).toNat = 0 := rfl
    by_cases hmo : most ≤ (out.length : Int)
    · have hz : most.toNat - out.length = 0 := by omega
      simp only [impl_gather.l0_eq, q1, edges_len, eln, el, hmo, strs_len, strs_elem, ints_len, ints_elem, items_list, fld_agg, elem_list, toStr_sc, toInt_sc, toBool_sc, headD_one, nat_int, get_bt, decide_eq_true_eq, decide_eq_false_iff_not, decide_true, decide_false, if_true, if_false, ite_self, Bool.not_true, Bool.not_false, Bool.false_eq_true, Bool.true_eq_false, Bool.true_and, Bool.false_and, Bool.and_true, Bool.and_false, not_true, not_false_iff, Option.bind_some, nn, toList_inj, Bool.not_eq_true', Bool.not_eq_false', Int.le_refl, and_self, true_and, and_true, false_and, and_false, bne_self_eq_false, beq_self_eq_true, Int.reduceEq, Nat.reduceEqDiff, List.length_singleton, List.tail_cons, Int.reduceLE, Int.reduceLT, decide_eq_true_eq]
      simp [hz]
    · have hs1 : h.size + (txt [e.1]).size ≤ 9223372036854775807 := by rw [txt_size]; simp; omega
      have hg := ih t (by omega) (by omega) (h ++ txt [e.1]) most out (by rw [ByteArray.size_append, txt_size]; simp; omega) h0 h1 ho
      have hlen : (out ++ (aheadT (h ++ txt [e.1]) (WM m t)).take (most.toNat - out.length)).length ≤ 300 := by
        rw [List.length_append, List.length_take]; omega
      have hrec := gather_l1 m hm hok hp N d k ih h most hh h0 h1 es [e] (by rw [hs]; rfl) n (by rw [hs] at hnn; simp at hnn ⊢; omega) _ hlen
      rw [hs] at hrec
      simp only [List.length_singleton] at hrec
      simp only [impl_gather.l0_eq, q1, edges_len, z0, q2, edge_f0, edge_f1, eln, el, hmo, byte_txt hc, hs1, ht, hg, q3, List.nil_append, strs_len, strs_elem, ints_len, ints_elem, items_list, fld_agg, elem_list, toStr_sc, toInt_sc, toBool_sc, headD_one, nat_int, get_bt, decide_eq_true_eq, decide_eq_false_iff_not, decide_true, decide_false, if_true, if_false, ite_self, Bool.not_true, Bool.not_false, Bool.false_eq_true, Bool.true_eq_false, Bool.true_and, Bool.false_and, Bool.and_true, Bool.and_false, not_true, not_false_iff, Option.bind_some, nn, toList_inj, Bool.not_eq_true', Bool.not_eq_false', Int.le_refl, and_self, true_and, and_true, false_and, and_false, bne_self_eq_false, beq_self_eq_true, Int.reduceEq, Nat.reduceEqDiff, List.length_singleton, List.tail_cons, Int.reduceLE, Int.reduceLT, decide_eq_true_eq]
      rw [hrec, take_more, WE, htn, aheadT_app, aheadT_cons]
theorem gather_g (m : List St) (hm : MachB m) (hok : stsOk m.length 0 m = true) : ∀ k, ∃ k0, ∀ N d, k0 ≤ N → k0 ≤ d → ∀ at', at' < m.length → m.length - at' ≤ k → ∀ (h : ByteArray) (most : Int) (out : List ByteArray), h.size + k ≤ 4611686018427387904 → 0 ≤ most → most ≤ 300 → out.length ≤ 300 →
    impl_gather.g N d [machP m, intP (at' : Int), strP h, intP most, strsP out] = some [strsP (out ++ (aheadT h (WM m at')).take (most.toNat - out.length))]
  | 0 => ⟨0, fun N d _ _ at' h1 h2 => by omega⟩
  | k + 1 => by
    obtain ⟨k0, hk⟩ := gather_g m hm hok k
    refine ⟨k0 + 1048578, fun N d hN hd at' hat hle h most out hh h0 h1 ho => ?_⟩
    obtain ⟨d, rfl⟩ : ∃ d', d = d' + 1 := ⟨d - 1, by omega⟩
    obtain ⟨pre, s, rest, hp, rfl⟩ := split_at m at' hat
    have hse := hm.e s (by rw [hp]; simp)
    have hn := hm.n
    have ih : ∀ at', at' < m.length → pre.length < at' → ∀ (h : ByteArray) (most : Int) (out : List ByteArray), h.size + k ≤ 4611686018427387904 → 0 ≤ most → most ≤ 300 → out.length ≤ 300 → impl_gather.g N d [machP m, intP (at' : Int), strP h, intP most, strsP out] = some [strsP (out ++ (aheadT h (WM m at')).take (most.toNat - out.length))] :=
      fun a' ha1 ha2 h' mo o' b1 b2 b3 b4 => hk N d (by omega) (by omega) a' ha1 (by omega) h' mo o' b1 b2 b3 b4
    have hW := WM_eq m pre rest s hp (fun e he => (sts_edges hok hp e he).2.1)
    by_cases hs : s.1 = true
    · by_cases hmo : (out.length : Int) < most
      · have c1 : out.length + 1 ≤ 8796093022208 := by omega
        have c1' : (strsP out).items.length + [PV.sc (Value.string h)].length ≤ 8796093022208 := by rw [strs_len]; simpa using c1
        have eo : (strsP out).items ++ [PV.sc (Value.string h)] = (out ++ [h]).map strP := by simp [strsP, PV.items]
        have hrec := gather_l0 m hm hok hp N d k ih h most (by omega) h0 h1 N (by omega) (out ++ [h]) (by simp; omega)
        simp only [impl_gather.g_eq, mach_len, at_lt hp, mach_at hp, st_f0, st_f1, hs, edges_len, c1, c1', strs_len, eo, strs_len, strs_elem, ints_len, ints_elem, items_list, fld_agg, elem_list, toStr_sc, toInt_sc, toBool_sc, headD_one, nat_int, get_bt, decide_eq_true_eq, decide_eq_false_iff_not, decide_true, decide_false, if_true, if_false, ite_self, Bool.not_true, Bool.not_false, Bool.false_eq_true, Bool.true_eq_false, Bool.true_and, Bool.false_and, Bool.and_true, Bool.and_false, not_true, not_false_iff, Option.bind_some, nn, toList_inj, Bool.not_eq_true', Bool.not_eq_false', Int.le_refl, and_self, true_and, and_true, false_and, and_false, bne_self_eq_false, beq_self_eq_true, Int.reduceEq, Nat.reduceEqDiff, List.length_singleton, List.tail_cons, Int.reduceLE, Int.reduceLT, decide_eq_true_eq, hmo]
        rw [hrec, hW, if_pos hs, aheadT_app]
        have e1 : aheadT h [[]] = [h] := by simp [aheadT, txt_nil]
        rw [e1]
        congr 2
        have e2 : most.toNat - out.length = (most.toNat - (out ++ [h]).length) + 1 := by simp; omega
        rw [e2, List.singleton_append, List.take_succ_cons]; simp
      · have hz : most.toNat - out.length = 0 := by omega
        have hrec := gather_l1 m hm hok hp N d k ih h most (by omega) h0 h1 s.2 [] rfl N (by omega) out ho
        simp only [List.length_nil, Int.natCast_zero] at hrec
        simp only [impl_gather.g_eq, mach_len, at_lt hp, mach_at hp, st_f0, st_f1, hs, edges_len, strs_len, strs_elem, ints_len, ints_elem, items_list, fld_agg, elem_list, toStr_sc, toInt_sc, toBool_sc, headD_one, nat_int, get_bt, decide_eq_true_eq, decide_eq_false_iff_not, decide_true, decide_false, if_true, if_false, ite_self, Bool.not_true, Bool.not_false, Bool.false_eq_true, Bool.true_eq_false, Bool.true_and, Bool.false_and, Bool.and_true, Bool.and_false, not_true, not_false_iff, Option.bind_some, nn, toList_inj, Bool.not_eq_true', Bool.not_eq_false', Int.le_refl, and_self, true_and, and_true, false_and, and_false, bne_self_eq_false, beq_self_eq_true, Int.reduceEq, Nat.reduceEqDiff, List.length_singleton, List.tail_cons, Int.reduceLE, Int.reduceLT, decide_eq_true_eq, hmo]
        rw [hrec]; simp [hz]
    · have hrec := gather_l1 m hm hok hp N d k ih h most (by omega) h0 h1 s.2 [] rfl N (by omega) out ho
      simp only [List.length_nil, Int.natCast_zero] at hrec
      simp only [impl_gather.g_eq, mach_len, at_lt hp, mach_at hp, st_f0, st_f1, hs, edges_len, strs_len, strs_elem, ints_len, ints_elem, items_list, fld_agg, elem_list, toStr_sc, toInt_sc, toBool_sc, headD_one, nat_int, get_bt, decide_eq_true_eq, decide_eq_false_iff_not, decide_true, decide_false, if_true, if_false, ite_self, Bool.not_true, Bool.not_false, Bool.false_eq_true, Bool.true_eq_false, Bool.true_and, Bool.false_and, Bool.and_true, Bool.and_false, not_true, not_false_iff, Option.bind_some, nn, toList_inj, Bool.not_eq_true', Bool.not_eq_false', Int.le_refl, and_self, true_and, and_true, false_and, and_false, bne_self_eq_false, beq_self_eq_true, Int.reduceEq, Nat.reduceEqDiff, List.length_singleton, List.tail_cons, Int.reduceLE, Int.reduceLT, decide_eq_true_eq]
      rw [hrec, hW, if_neg hs, List.nil_append]
theorem gather_ev (m : List St) (hm : MachB m) (hok : stsOk m.length 0 m = true) (at' : Nat) (hat : at' < m.length) (h : ByteArray) (hh : h.size ≤ 1152921504606846976) (most : Int) (h0 : 0 ≤ most) (h1 : most ≤ 300) :
    Ev (fun N => impl_gather.f N [machP m, intP (at' : Int), strP h, intP most, strsP []]) [strsP ((aheadT h (WM m at')).take most.toNat)] := by
  have hn := hm.n
  obtain ⟨k0, hk⟩ := gather_g m hm hok m.length
  refine ⟨k0, fun N hN => ?_⟩
  show impl_gather.f N _ = _
  rw [impl_gather.f_eq, hk N N hN hN at' hat (by omega) h most [] (by omega) h0 h1 (by simp)]
  simp
/-! The reference's. -/
theorem all_l0 (m : List St) (hm : MachB m) (hok : stsOk m.length 0 m = true) {pre rest : List St} {s : St} (hp : m = pre ++ s :: rest) (N d k : Nat)
    (ih : ∀ at', at' < m.length → pre.length < at' → ∀ (h : ByteArray) (most : Int), h.size + k ≤ 4611686018427387904 → 0 ≤ most → most ≤ 300 → spec_l12All.g N d [machP m, intP (at' : Int), strP h, intP most] = some [strsP ((aheadT h (WM m at')).take (most.toNat + 1))])
    (h : ByteArray) (most : Int) (hh : h.size + k + 1 ≤ 4611686018427387904) (h0 : 0 ≤ most) (h1 : most ≤ 300) :
    ∀ (es epre : List Ed), s.2 = epre ++ es → ∀ n, es.length + 1 ≤ n → ∀ out : List ByteArray, out.length ≤ 301 →
      spec_l12All.l0 N d n (machP m) (pre.length : Int) h most (epre.length : Int) (out.map strP) = some [strsP (out ++ (aheadT h (WE m es)).take (most.toNat + 1 - out.length))] := by
  have hn := hm.n
  have hse := hm.e s (by rw [hp]; simp)
  have hlm : m.length = pre.length + 1 + rest.length := by rw [hp]; simp; omega
  intro es
  induction es with
  | nil =>
    intro epre he n hnn out ho
    obtain ⟨n, rfl⟩ : ∃ n', n = n' + 1 := ⟨n - 1, by simp at hnn; omega⟩
    simp only [spec_l12All.l0_eq, mach_len, at_lt hp, mach_at hp, st_f1, edges_len, at_end he, strs_len, strs_elem, ints_len, ints_elem, items_list, fld_agg, elem_list, toStr_sc, toInt_sc, toBool_sc, headD_one, nat_int, get_bt, decide_eq_true_eq, decide_eq_false_iff_not, decide_true, decide_false, if_true, if_false, ite_self, Bool.not_true, Bool.not_false, Bool.false_eq_true, Bool.true_eq_false, Bool.true_and, Bool.false_and, Bool.and_true, Bool.and_false, not_true, not_false_iff, Option.bind_some, nn, toList_inj, Bool.not_eq_true', Bool.not_eq_false', Int.le_refl, and_self, true_and, and_true, false_and, and_false, bne_self_eq_false, beq_self_eq_true, Int.reduceEq, Nat.reduceEqDiff, List.length_singleton, List.tail_cons, Int.reduceLE, Int.reduceLT, decide_eq_true_eq]
    simp [WE, aheadT, strsP]
  | cons e es ihe =>
    intro epre he n hnn out ho
    obtain ⟨n, rfl⟩ : ∃ n', n = n' + 1 := ⟨n - 1, by simp at hnn; omega⟩
    obtain ⟨hc, h2, h3⟩ := sts_edges hok hp e (by rw [he]; simp)
    obtain ⟨t, ht⟩ := Int.eq_ofNat_of_zero_le (show 0 ≤ e.2 by omega)
    have htn : e.2.toNat = t := by rw [ht]; rfl
    have eln : (out.map strP).length = out.length := by simp
    by_cases hmo : (out.length : Int) ≤ most
    · have hs1 : h.size + (txt [e.1]).size ≤ 9223372036854775807 := by rw [txt_size]; simp; omega
      have hw : IntKind.i64.wrap (most - (out.length : Int)) = most - (out.length : Int) := wrap_id (by omega) (by omega)
      have hg := ih t (by omega) (by omega) (h ++ txt [e.1]) (most - (out.length : Int)) (by rw [ByteArray.size_append, txt_size]; simp; omega) (by omega) (by omega)
      have htk : (most - (out.length : Int)).toNat + 1 = most.toNat + 1 - out.length := by omega
      rw [htk] at hg
      have hlen : (out ++ (aheadT (h ++ txt [e.1]) (WM m t)).take (most.toNat + 1 - out.length)).length ≤ 301 := by
        rw [List.length_append, List.length_take]; omega
      have c1 : out.length + ((aheadT (h ++ txt [e.1]) (WM m t)).take (most.toNat + 1 - out.length)).length ≤ 8796093022208 := by
        rw [List.length_take]; omega
      have hrec := ihe (epre ++ [e]) (at_step he) n (by simp at hnn ⊢; omega) _ hlen
      rw [List.map_append] at hrec
      have eit : (strsP ((aheadT (h ++ txt [e.1]) (WM m t)).take (most.toNat + 1 - out.length))).items = ((aheadT (h ++ txt [e.1]) (WM m t)).take (most.toNat + 1 - out.length)).map strP := rfl
      simp only [spec_l12All.l0_eq, mach_len, at_lt hp, mach_at hp, st_f1, edges_len, at_lt he, edges_at he, edge_f0, edge_f1, eln, hmo, byte_txt hc, hs1, ht, hw, hg, strs_len, c1, at_next he (by omega), strs_len, strs_elem, ints_len, ints_elem, items_list, fld_agg, elem_list, toStr_sc, toInt_sc, toBool_sc, headD_one, nat_int, get_bt, decide_eq_true_eq, decide_eq_false_iff_not, decide_true, decide_false, if_true, if_false, ite_self, Bool.not_true, Bool.not_false, Bool.false_eq_true, Bool.true_eq_false, Bool.true_and, Bool.false_and, Bool.and_true, Bool.and_false, not_true, not_false_iff, Option.bind_some, nn, toList_inj, Bool.not_eq_true', Bool.not_eq_false', Int.le_refl, and_self, true_and, and_true, false_and, and_false, bne_self_eq_false, beq_self_eq_true, Int.reduceEq, Nat.reduceEqDiff, List.length_singleton, List.tail_cons, Int.reduceLE, Int.reduceLT, decide_eq_true_eq]
      rw [eit, hrec, take_more, WE, htn, aheadT_app, aheadT_cons]
    · have hz : most.toNat + 1 - out.length = 0 := by omega
      simp only [spec_l12All.l0_eq, mach_len, at_lt hp, mach_at hp, st_f1, edges_len, at_lt he, eln, hmo, strs_len, strs_elem, ints_len, ints_elem, items_list, fld_agg, elem_list, toStr_sc, toInt_sc, toBool_sc, headD_one, nat_int, get_bt, decide_eq_true_eq, decide_eq_false_iff_not, decide_true, decide_false, if_true, if_false, ite_self, Bool.not_true, Bool.not_false, Bool.false_eq_true, Bool.true_eq_false, Bool.true_and, Bool.false_and, Bool.and_true, Bool.and_false, not_true, not_false_iff, Option.bind_some, nn, toList_inj, Bool.not_eq_true', Bool.not_eq_false', Int.le_refl, and_self, true_and, and_true, false_and, and_false, bne_self_eq_false, beq_self_eq_true, Int.reduceEq, Nat.reduceEqDiff, List.length_singleton, List.tail_cons, Int.reduceLE, Int.reduceLT, decide_eq_true_eq]
      simp [hz, strsP]
theorem all_g (m : List St) (hm : MachB m) (hok : stsOk m.length 0 m = true) : ∀ k, ∃ k0, ∀ N d, k0 ≤ N → k0 ≤ d → ∀ at', at' < m.length → m.length - at' ≤ k → ∀ (h : ByteArray) (most : Int), h.size + k ≤ 4611686018427387904 → 0 ≤ most → most ≤ 300 →
    spec_l12All.g N d [machP m, intP (at' : Int), strP h, intP most] = some [strsP ((aheadT h (WM m at')).take (most.toNat + 1))]
  | 0 => ⟨0, fun N d _ _ at' h1 h2 => by omega⟩
  | k + 1 => by
    obtain ⟨k0, hk⟩ := all_g m hm hok k
    refine ⟨k0 + 1048578, fun N d hN hd at' hat hle h most hh h0 h1 => ?_⟩
    obtain ⟨d, rfl⟩ : ∃ d', d = d' + 1 := ⟨d - 1, by omega⟩
    obtain ⟨pre, s, rest, hp, rfl⟩ := split_at m at' hat
    have hse := hm.e s (by rw [hp]; simp)
    have hn := hm.n
    have ih : ∀ at', at' < m.length → pre.length < at' → ∀ (h : ByteArray) (most : Int), h.size + k ≤ 4611686018427387904 → 0 ≤ most → most ≤ 300 → spec_l12All.g N d [machP m, intP (at' : Int), strP h, intP most] = some [strsP ((aheadT h (WM m at')).take (most.toNat + 1))] :=
      fun a' ha1 ha2 h' mo b1 b2 b3 => hk N d (by omega) (by omega) a' ha1 (by omega) h' mo b1 b2 b3
    have hW := WM_eq m pre rest s hp (fun e he => (sts_edges hok hp e he).2.1)
    by_cases hs : s.1 = true
    · have c1 : (([] : List PV).length + 1 ≤ 8796093022208) = True := by simp
      have hrec := all_l0 m hm hok hp N d k ih h most (by omega) h0 h1 s.2 [] rfl N (by omega) [h] (by simp)
      simp only [List.length_nil, Int.natCast_zero, List.map_cons, List.map_nil] at hrec
      simp only [spec_l12All.g_eq, mach_len, at_lt hp, mach_at hp, st_f0, hs, c1, List.nil_append, strs_len, strs_elem, ints_len, ints_elem, items_list, fld_agg, elem_list, toStr_sc, toInt_sc, toBool_sc, headD_one, nat_int, get_bt, decide_eq_true_eq, decide_eq_false_iff_not, decide_true, decide_false, if_true, if_false, ite_self, Bool.not_true, Bool.not_false, Bool.false_eq_true, Bool.true_eq_false, Bool.true_and, Bool.false_and, Bool.and_true, Bool.and_false, not_true, not_false_iff, Option.bind_some, nn, toList_inj, Bool.not_eq_true', Bool.not_eq_false', Int.le_refl, and_self, true_and, and_true, false_and, and_false, bne_self_eq_false, beq_self_eq_true, Int.reduceEq, Nat.reduceEqDiff, List.length_singleton, List.tail_cons, Int.reduceLE, Int.reduceLT, decide_eq_true_eq]
      rw [hrec, hW, if_pos hs, aheadT_app]
      have e1 : aheadT h [[]] = [h] := by simp [aheadT, txt_nil]
      rw [e1]; simp
    · have hrec := all_l0 m hm hok hp N d k ih h most (by omega) h0 h1 s.2 [] rfl N (by omega) [] (by simp)
      simp only [List.length_nil, Int.natCast_zero, List.map_nil] at hrec
      simp only [spec_l12All.g_eq, mach_len, at_lt hp, mach_at hp, st_f0, hs, strs_len, strs_elem, ints_len, ints_elem, items_list, fld_agg, elem_list, toStr_sc, toInt_sc, toBool_sc, headD_one, nat_int, get_bt, decide_eq_true_eq, decide_eq_false_iff_not, decide_true, decide_false, if_true, if_false, ite_self, Bool.not_true, Bool.not_false, Bool.false_eq_true, Bool.true_eq_false, Bool.true_and, Bool.false_and, Bool.and_true, Bool.and_false, not_true, not_false_iff, Option.bind_some, nn, toList_inj, Bool.not_eq_true', Bool.not_eq_false', Int.le_refl, and_self, true_and, and_true, false_and, and_false, bne_self_eq_false, beq_self_eq_true, Int.reduceEq, Nat.reduceEqDiff, List.length_singleton, List.tail_cons, Int.reduceLE, Int.reduceLT, decide_eq_true_eq]
      rw [hrec, hW, if_neg hs, List.nil_append]; simp
theorem all_ev (m : List St) (hm : MachB m) (hok : stsOk m.length 0 m = true) (at' : Nat) (hat : at' < m.length) (h : ByteArray) (hh : h.size ≤ 1152921504606846976) (most : Int) (h0 : 0 ≤ most) (h1 : most ≤ 300) :
    Ev (fun N => spec_l12All.f N [machP m, intP (at' : Int), strP h, intP most]) [strsP ((aheadT h (WM m at')).take (most.toNat + 1))] := by
  have hn := hm.n
  obtain ⟨k0, hk⟩ := all_g m hm hok m.length
  refine ⟨k0, fun N hN => ?_⟩
  show spec_l12All.f N _ = _
  rw [spec_l12All.f_eq, hk N N hN hN at' hat (by omega) h most (by omega) h0 h1]
/-! #### marks on machines -/
def mkE : Int → List Ed → List Ed
  | _, [] => []
  | k, _ :: r => (k, k + 1) :: mkE (k + 2) r
def mkS : Int → List St → List St
  | _, [] => []
  | k, s :: r => (decide (Int.tmod k 3 = 0), mkE (k + 1) s.2) :: mkS (k + 1 + 2 * s.2.length) r
def cntM : List St → Nat
  | [] => 0
  | s :: r => 1 + 2 * s.2.length + cntM r
theorem mkE_len : ∀ (l : List Ed) (k : Int), (mkE k l).length = l.length
  | [], _ => rfl
  | _ :: r, k => by simp [mkE, mkE_len r]
theorem mkS_len : ∀ (l : List St) (k : Int), (mkS k l).length = l.length
  | [], _ => rfl
  | _ :: r, k => by simp [mkS, mkS_len r]
theorem cntM_app : ∀ (a b : List St), cntM (a ++ b) = cntM a + cntM b
  | [], b => by simp [cntM]
  | s :: a, b => by simp only [List.cons_append, cntM, cntM_app a b]; omega
theorem mkS_cnt : ∀ (l : List St) (k : Int), cntM (mkS k l) = cntM l
  | [], _ => rfl
  | s :: r, k => by simp only [mkS, cntM, mkE_len, mkS_cnt r]
theorem elem_mid (A : List PV) (z : PV) (zs : List PV) : (PV.list (A ++ z :: zs)).elem A.length = z := by
  simp [PV.elem, PV.items, List.getD_eq_getElem?_getD]
theorem mid_lt (A : List PV) (z : PV) (zs : List PV) : (A.length : Int) < ((A ++ z :: zs).length : Int) := by simp; omega
theorem three_zero : ((3 : Int) = 0) = False := by simp
theorem markE_l1 (n0 : Nat) (hn0 : n0 ≤ 2097152) : ∀ (es : List Ed) (A : List PV) (x : Int), A.length + es.length = n0 → 0 ≤ x → x + 2 * es.length ≤ 4611686018427387904 →
    Ev2 (fun N n => laws_markEdgeS.l1 N n x (A.length : Int) (A ++ es.map edgeP)) [intP (x + 2 * es.length), PV.list (A ++ (mkE x es).map edgeP)] := by
  intro es
  induction es with
  | nil =>
    intro A x hA h0 hx
    refine Ev2.succ ?_
    have z : ¬ (A.length : Int) < ((A ++ ([] : List Ed).map edgeP).length : Int) := by simp
    simp only [laws_markEdgeS.l1_eq, z, strs_len, strs_elem, ints_len, ints_elem, items_list, fld_agg, elem_list, toStr_sc, toInt_sc, toBool_sc, headD_one, nat_int, get_bt, decide_eq_true_eq, decide_eq_false_iff_not, decide_true, decide_false, if_true, if_false, ite_self, Bool.not_true, Bool.not_false, Bool.false_eq_true, Bool.true_eq_false, Bool.true_and, Bool.false_and, Bool.and_true, Bool.and_false, not_true, not_false_iff, Option.bind_some, nn, toList_inj, Bool.not_eq_true', Bool.not_eq_false', Int.le_refl, and_self, true_and, and_true, false_and, and_false, bne_self_eq_false, beq_self_eq_true, Int.reduceEq, Nat.reduceEqDiff, List.length_singleton, List.tail_cons, Int.reduceLE, Int.reduceLT, decide_eq_true_eq]
    refine Ev2.ext (Ev2.now _) ?_
    simp [mkE]
  | cons e es ih =>
    intro A x hA h0 hx
    refine Ev2.succ ?_
    simp only [List.length_cons] at hA hx
    have w1 : IntKind.i64.wrap (x + 1) = x + 1 := wrap_id (by omega) (by omega)
    have w2 : IntKind.i64.wrap (x + 1 + 1) = x + 2 := by rw [show x + 1 + 1 = x + 2 by omega]; exact wrap_id (by omega) (by omega)
    have w3 : IntKind.i64.wrap ((A.length : Int) + 1) = ((A ++ [edgeP (x, x + 1)]).length : Int) := by
      rw [wrap_id (by omega) (by omega)]; simp
    have hih := ih (A ++ [edgeP (x, x + 1)]) (x + 2) (by simp; omega) (by omega) (by omega)
    have ee : A ++ edgeP (x, x + 1) :: es.map edgeP = (A ++ [edgeP (x, x + 1)]) ++ es.map edgeP := by simp
    have p1 : (edgeP e).parts.set 0 (intP x) = [intP x, intP e.2] := rfl
    have p2 : (PV.agg [intP x, intP e.2]).parts.set 1 (intP (x + 1)) = [intP x, intP (x + 1)] := rfl
    have p3 : PV.agg [intP x, intP (x + 1)] = edgeP (x, x + 1) := rfl
    simp only [laws_markEdgeS.l1_eq, List.map_cons, mid_lt, elem_mid, set_mid, p1, p2, p3, w1, w2, w3, ee, decide_true, if_true, nn, nat_int]
    refine Ev2.ext hih ?_
    simp [mkE]; omega
theorem markE_ev (es : List Ed) (x : Int) (hl : es.length ≤ 1048576) (h0 : 0 ≤ x) (hx : x + 2 * es.length ≤ 4611686018427387904) :
    Ev (fun N => laws_markEdgeS.f N [edgesP es, intP x]) [intP (x + 2 * es.length), edgesP (mkE x es)] := by
  have h := markE_l1 es.length (by omega) es [] x (by simp) h0 hx
  simp only [List.nil_append, List.length_nil, Int.natCast_zero] at h
  have hg : Ev2 (fun N n => laws_markEdgeS.l0 N n x 0 (edgesP es)) [intP (x + 2 * es.length), edgesP (mkE x es)] := by
    refine Ev2.congr (g' := fun N n => laws_markEdgeS.l1 N n x 0 (es.map edgeP)) (fun N n => ?_) h
    cases n with
    | zero => rfl
    | succ n => rw [laws_markEdgeS.l0_eq, laws_markEdgeS.l1_eq]; rfl
  simp only [laws_markEdgeS.f_eq, strs_len, strs_elem, ints_len, ints_elem, items_list, fld_agg, elem_list, toStr_sc, toInt_sc, toBool_sc, headD_one, nat_int, get_bt, decide_eq_true_eq, decide_eq_false_iff_not, decide_true, decide_false, if_true, if_false, ite_self, Bool.not_true, Bool.not_false, Bool.false_eq_true, Bool.true_eq_false, Bool.true_and, Bool.false_and, Bool.and_true, Bool.and_false, not_true, not_false_iff, Option.bind_some, nn, toList_inj, Bool.not_eq_true', Bool.not_eq_false', Int.le_refl, and_self, true_and, and_true, false_and, and_false, bne_self_eq_false, beq_self_eq_true, Int.reduceEq, Nat.reduceEqDiff, List.length_singleton, List.tail_cons, Int.reduceLE, Int.reduceLT, decide_eq_true_eq]
  exact hg.diag
theorem markS_l1 (n0 : Nat) (hn0 : n0 ≤ 2097152) : ∀ (m : List St) (A : List PV) (x : Int), A.length + m.length = n0 → (∀ s ∈ m, s.2.length ≤ 1048576) → 0 ≤ x → x + cntM m ≤ 4611686018427387904 →
    Ev2 (fun N n => laws_markStateS.l1 N n x (A.length : Int) (A ++ m.map stP)) [intP (x + cntM m), PV.list (A ++ (mkS x m).map stP)] := by
  intro m
  induction m with
  | nil =>
    intro A x hA hs h0 hx
    refine Ev2.succ ?_
    have z : ¬ (A.length : Int) < ((A ++ ([] : List St).map stP).length : Int) := by simp
    simp only [laws_markStateS.l1_eq, z, strs_len, strs_elem, ints_len, ints_elem, items_list, fld_agg, elem_list, toStr_sc, toInt_sc, toBool_sc, headD_one, nat_int, get_bt, decide_eq_true_eq, decide_eq_false_iff_not, decide_true, decide_false, if_true, if_false, ite_self, Bool.not_true, Bool.not_false, Bool.false_eq_true, Bool.true_eq_false, Bool.true_and, Bool.false_and, Bool.and_true, Bool.and_false, not_true, not_false_iff, Option.bind_some, nn, toList_inj, Bool.not_eq_true', Bool.not_eq_false', Int.le_refl, and_self, true_and, and_true, false_and, and_false, bne_self_eq_false, beq_self_eq_true, Int.reduceEq, Nat.reduceEqDiff, List.length_singleton, List.tail_cons, Int.reduceLE, Int.reduceLT, decide_eq_true_eq]
    refine Ev2.ext (Ev2.now _) ?_
    simp [mkS, cntM]
  | cons s m ih =>
    intro A x hA hs h0 hx
    refine Ev2.succ ?_
    simp only [List.length_cons] at hA
    simp only [cntM] at hx
    have hsl := hs s (by simp)
    have w1 : IntKind.i64.wrap (x + 1) = x + 1 := wrap_id (by omega) (by omega)
    have w3 : IntKind.i64.wrap ((A.length : Int) + 1) = ((A ++ [stP (decide (Int.tmod x 3 = 0), mkE (x + 1) s.2)]).length : Int) := by
      rw [wrap_id (by omega) (by omega)]; simp
    have hih := ih (A ++ [stP (decide (Int.tmod x 3 = 0), mkE (x + 1) s.2)]) (x + 1 + 2 * s.2.length) (by simp; omega) (fun t ht => hs t (by simp [ht])) (by omega) (by omega)
    have ee : A ++ stP (decide (Int.tmod x 3 = 0), mkE (x + 1) s.2) :: m.map stP = (A ++ [stP (decide (Int.tmod x 3 = 0), mkE (x + 1) s.2)]) ++ m.map stP := by simp
    have p1 : (stP s).parts.set 0 (boolP (decide (Int.tmod x 3 = 0))) = [boolP (decide (Int.tmod x 3 = 0)), edgesP s.2] := rfl
    have p0 : (PV.agg [boolP (decide (Int.tmod x 3 = 0)), edgesP s.2]).fld 1 = edgesP s.2 := rfl
    have p2 : ∀ q, (PV.agg [boolP (decide (Int.tmod x 3 = 0)), edgesP s.2]).parts.set 1 q = [boolP (decide (Int.tmod x 3 = 0)), q] := fun _ => rfl
    have p3 : ∀ l, PV.agg [boolP (decide (Int.tmod x 3 = 0)), edgesP l] = stP (decide (Int.tmod x 3 = 0), l) := fun _ => rfl
    simp only [laws_markStateS.l1_eq, List.map_cons, mid_lt, elem_mid, set_mid, three_zero, p1, p0, p2, w1, w3, decide_true, if_true, if_false, nn, nat_int]
    refine Ev2.bind (markE_ev s.2 (x + 1) hsl (by omega) (by omega)) ?_
    simp only [headD_one, List.tail_cons, toInt_sc, p3, ee]
    refine Ev2.ext hih ?_
    simp [mkS, cntM]; omega
theorem markS_ev (m : List St) (x : Int) (hm : MachB m) (h0 : 0 ≤ x) (hx : x + cntM m ≤ 4611686018427387904) :
    Ev (fun N => laws_markStateS.f N [machP m, intP x]) [intP (x + cntM m), machP (mkS x m)] := by
  have h := markS_l1 m.length (by have := hm.n; omega) m [] x (by simp) hm.e h0 hx
  simp only [List.nil_append, List.length_nil, Int.natCast_zero] at h
  have hg : Ev2 (fun N n => laws_markStateS.l0 N n x 0 (machP m)) [intP (x + cntM m), machP (mkS x m)] := by
    refine Ev2.congr (g' := fun N n => laws_markStateS.l1 N n x 0 (m.map stP)) (fun N n => ?_) h
    cases n with
    | zero => rfl
    | succ n => rw [laws_markStateS.l0_eq, laws_markStateS.l1_eq]; rfl
  simp only [laws_markStateS.f_eq, strs_len, strs_elem, ints_len, ints_elem, items_list, fld_agg, elem_list, toStr_sc, toInt_sc, toBool_sc, headD_one, nat_int, get_bt, decide_eq_true_eq, decide_eq_false_iff_not, decide_true, decide_false, if_true, if_false, ite_self, Bool.not_true, Bool.not_false, Bool.false_eq_true, Bool.true_eq_false, Bool.true_and, Bool.false_and, Bool.and_true, Bool.and_false, not_true, not_false_iff, Option.bind_some, nn, toList_inj, Bool.not_eq_true', Bool.not_eq_false', Int.le_refl, and_self, true_and, and_true, false_and, and_false, bne_self_eq_false, beq_self_eq_true, Int.reduceEq, Nat.reduceEqDiff, List.length_singleton, List.tail_cons, Int.reduceLE, Int.reduceLT, decide_eq_true_eq]
  exact hg.diag
theorem cntM_le (m : List St) (hm : MachB m) : (cntM m : Int) ≤ 2199025352704 := by
  have key : ∀ (l : List St), (∀ s ∈ l, s.2.length ≤ 1048576) → cntM l ≤ l.length * 2097153 := by
    intro l
    induction l with
    | nil => intro _; simp [cntM]
    | cons s l ih =>
      intro h
      have h1 := h s (by simp)
      have h2 := ih (fun t ht => h t (by simp [ht]))
      simp only [cntM, List.length_cons]; omega
  have h1 := key m hm.e
  have h2 := hm.n
  have : m.length * 2097153 ≤ 1048576 * 2097153 := Nat.mul_le_mul_right _ h2
  omega
theorem okM_sts {m : List St} (h : okM m = true) : 1 ≤ m.length ∧ m.length ≤ 400 ∧ stsOk m.length 0 m = true ∧ (depL 0 m).getD 0 0 ≤ 12 := by
  simp only [okM, Bool.and_eq_true, decide_eq_true_eq] at h
  exact ⟨h.1.1, h.1.2, h.2.1, h.2.2⟩
def allM (m : List St) (most : Int) : List ByteArray × Bool :=
  if okM m = true ∧ (m.headD (false, [])).1 = false ∧ (0 ≤ most ∧ most ≤ 300) ∧ ((WM m 0).length : Int) ≤ most then (aheadT ⟨#[]⟩ (WM m 0), true) else ([], false)
theorem mach_head {m : List St} {s : St} {r : List St} (h : m = s :: r) : (machP m).elem 0 = stP s := by subst h; rfl
theorem ints_at0 (l : List Int) : ((intsP l).elem 0).toInt = l.getD 0 0 := ints_elem l 0
theorem allM_len (m : List St) (most : Int) : (allM m most).1.length ≤ 300 := by
  unfold allM
  split
  · rename_i h; simp [aheadT]; omega
  · simp
/-! #### where a text leads -/
def stepE (c : Int) : List Ed → Int
  | [] => -1
  | e :: es => if e.1 = c then e.2 else stepE c es
def lastE (c : Int) : List Ed → Int → Int
  | [], x => x
  | e :: es, x => lastE c es (if e.1 = c then e.2 else x)
def edAt (m : List St) (a : Nat) : List Ed := (m.getD a (false, [])).2
def goM (m : List St) : Int → List Int → Int
  | a, [] => a
  | a, c :: u => if stepE c (edAt m a.toNat) < 0 then -1 else goM m (stepE c (edAt m a.toNat)) u
theorem edAt_eq {m pre rest : List St} {s : St} (hp : m = pre ++ s :: rest) : edAt m pre.length = s.2 := by
  subst hp; simp [edAt, List.getD_eq_getElem?_getD]
theorem edgesOk_gt {n i : Nat} : ∀ {es : List Ed} {q : Int}, edgesOk n i (some q) es = true → ∀ e ∈ es, q < e.1
  | [], _, _, e, he => absurd he (by simp)
  | c :: es, q, h, e, he => by
    simp only [edgesOk, edgeOk, Bool.and_eq_true, decide_eq_true_eq] at h
    rcases List.mem_cons.1 he with rfl | he
    · exact h.1.2.2
    · have := edgesOk_gt h.2 e he
      omega
theorem lastE_not {c : Int} : ∀ {es : List Ed} {x : Int}, (∀ e ∈ es, e.1 ≠ c) → lastE c es x = x
  | [], _, _ => rfl
  | e :: es, x, h => by
    rw [lastE, if_neg (h e (by simp))]
    exact lastE_not (fun e' he => h e' (by simp [he]))
theorem last_step {n i : Nat} {c : Int} : ∀ {es : List Ed} {p : Option Int}, edgesOk n i p es = true → lastE c es (-1) = stepE c es
  | [], _, _ => rfl
  | e :: es, p, h => by
    simp only [edgesOk, Bool.and_eq_true] at h
    rw [lastE, stepE]
    by_cases he : e.1 = c
    · rw [if_pos he, if_pos he]
      exact lastE_not (fun e' h' => by have := edgesOk_gt h.2 e' h'; omega)
    · rw [if_neg he, if_neg he]
      exact last_step h.2
theorem stepE_mem {c : Int} : ∀ {es : List Ed}, stepE c es = -1 ∨ ∃ e ∈ es, e.1 = c ∧ stepE c es = e.2
  | [] => .inl rfl
  | e :: es => by
    rw [stepE]
    by_cases he : e.1 = c
    · rw [if_pos he]; exact .inr ⟨e, by simp, he, rfl⟩
    · rw [if_neg he]
      rcases stepE_mem (c := c) (es := es) with h | ⟨e', h1, h2, h3⟩
      · exact .inl h
      · exact .inr ⟨e', by simp [h1], h2, h3⟩
theorem step_loop (es0 : List Ed) (hl : es0.length ≤ 1048576) (c : Int) (hc : IntKind.i64.wrap c = c) : ∀ (es epre : List Ed), es0 = epre ++ es →
    Ev2 (fun N n => impl_State_step.l0 N n c (edgesP es0) (es0.length : Int) (epre.length : Int)) [intP (stepE c es)] := by
  intro es
  induction es with
  | nil =>
    intro epre he
    refine Ev2.succ ?_
    simp only [impl_State_step.l0_eq, at_end he, strs_len, strs_elem, ints_len, ints_elem, items_list, fld_agg, elem_list, toStr_sc, toInt_sc, toBool_sc, headD_one, nat_int, get_bt, decide_eq_true_eq, decide_eq_false_iff_not, decide_true, decide_false, if_true, if_false, ite_self, Bool.not_true, Bool.not_false, Bool.false_eq_true, Bool.true_eq_false, Bool.true_and, Bool.false_and, Bool.and_true, Bool.and_false, not_true, not_false_iff, Option.bind_some, nn, toList_inj, Bool.not_eq_true', Bool.not_eq_false', Int.le_refl, and_self, true_and, and_true, false_and, and_false, bne_self_eq_false, beq_self_eq_true, Int.reduceEq, Nat.reduceEqDiff, List.length_singleton, List.tail_cons, Int.reduceLE, Int.reduceLT, decide_eq_true_eq]
    exact Ev2.now _
  | cons e es ih =>
    intro epre he
    refine Ev2.succ ?_
    simp only [impl_State_step.l0_eq, at_lt he, edges_len, edges_at he, edge_f0, edge_f1, hc, at_next he (by omega), strs_len, strs_elem, ints_len, ints_elem, items_list, fld_agg, elem_list, toStr_sc, toInt_sc, toBool_sc, headD_one, nat_int, get_bt, decide_eq_true_eq, decide_eq_false_iff_not, decide_true, decide_false, if_true, if_false, ite_self, Bool.not_true, Bool.not_false, Bool.false_eq_true, Bool.true_eq_false, Bool.true_and, Bool.false_and, Bool.and_true, Bool.and_false, not_true, not_false_iff, Option.bind_some, nn, toList_inj, Bool.not_eq_true', Bool.not_eq_false', Int.le_refl, and_self, true_and, and_true, false_and, and_false, bne_self_eq_false, beq_self_eq_true, Int.reduceEq, Nat.reduceEqDiff, List.length_singleton, List.tail_cons, Int.reduceLE, Int.reduceLT, decide_eq_true_eq]
    by_cases h : e.1 = c
    · simp only [h, stepE, strs_len, strs_elem, ints_len, ints_elem, items_list, fld_agg, elem_list, toStr_sc, toInt_sc, toBool_sc, headD_one, nat_int, get_bt, decide_eq_true_eq, decide_eq_false_iff_not, decide_true, decide_false, if_true, if_false, ite_self, Bool.not_true, Bool.not_false, Bool.false_eq_true, Bool.true_eq_false, Bool.true_and, Bool.false_and, Bool.and_true, Bool.and_false, not_true, not_false_iff, Option.bind_some, nn, toList_inj, Bool.not_eq_true', Bool.not_eq_false', Int.le_refl, and_self, true_and, and_true, false_and, and_false, bne_self_eq_false, beq_self_eq_true, Int.reduceEq, Nat.reduceEqDiff, List.length_singleton, List.tail_cons, Int.reduceLE, Int.reduceLT, decide_eq_true_eq]; exact Ev2.now _
    · simp only [h, stepE, strs_len, strs_elem, ints_len, ints_elem, items_list, fld_agg, elem_list, toStr_sc, toInt_sc, toBool_sc, headD_one, nat_int, get_bt, decide_eq_true_eq, decide_eq_false_iff_not, decide_true, decide_false, if_true, if_false, ite_self, Bool.not_true, Bool.not_false, Bool.false_eq_true, Bool.true_eq_false, Bool.true_and, Bool.false_and, Bool.and_true, Bool.and_false, not_true, not_false_iff, Option.bind_some, nn, toList_inj, Bool.not_eq_true', Bool.not_eq_false', Int.le_refl, and_self, true_and, and_true, false_and, and_false, bne_self_eq_false, beq_self_eq_true, Int.reduceEq, Nat.reduceEqDiff, List.length_singleton, List.tail_cons, Int.reduceLE, Int.reduceLT, decide_eq_true_eq]; exact ih _ (at_step he)
theorem step_ev (s : St) (hl : s.2.length ≤ 1048576) (c : Int) (hc : IntKind.i64.wrap c = c) : Ev (fun N => impl_State_step.f N [stP s, .sc (.int .u8 c)]) [intP (stepE c s.2)] := by
  simp only [impl_State_step.f_eq, st_f1, edges_len, strs_len, strs_elem, ints_len, ints_elem, items_list, fld_agg, elem_list, toStr_sc, toInt_sc, toBool_sc, headD_one, nat_int, get_bt, decide_eq_true_eq, decide_eq_false_iff_not, decide_true, decide_false, if_true, if_false, ite_self, Bool.not_true, Bool.not_false, Bool.false_eq_true, Bool.true_eq_false, Bool.true_and, Bool.false_and, Bool.and_true, Bool.and_false, not_true, not_false_iff, Option.bind_some, nn, toList_inj, Bool.not_eq_true', Bool.not_eq_false', Int.le_refl, and_self, true_and, and_true, false_and, and_false, bne_self_eq_false, beq_self_eq_true, Int.reduceEq, Nat.reduceEqDiff, List.length_singleton, List.tail_cons, Int.reduceLE, Int.reduceLT, decide_eq_true_eq]
  exact (step_loop s.2 hl c hc s.2 [] rfl).diag
theorem byte_wrap {c : Int} (h : 0 ≤ c ∧ c ≤ 255) : IntKind.i64.wrap c = c := wrap_id (by omega) (by omega)
theorem bytesOf_rng {s : ByteArray} : ∀ c ∈ bytesOf s, 0 ≤ c ∧ c ≤ 255 := fun c hc => by
  unfold bytesOf at hc
  obtain ⟨b, _, rfl⟩ := List.mem_map.1 hc
  have := b.toNat_lt
  omega
theorem follow_loop (m : List St) (hm : MachB m) (hok : stsOk m.length 0 m = true) (s : ByteArray) (hs : s.size ≤ 9223372036854775807) : ∀ (rest pre : List Int), bytesOf s = pre ++ rest → ∀ a : Nat, a < m.length →
    Ev2 (fun N n => impl_follow.l0 N n (machP m) s (a : Int) (s.size : Int) (pre.length : Int)) [intP (goM m a rest)] := by
  intro rest
  induction rest with
  | nil =>
    intro pre hp a ha
    refine Ev2.succ ?_
    simp only [impl_follow.l0_eq, at_sizeE hp, strs_len, strs_elem, ints_len, ints_elem, items_list, fld_agg, elem_list, toStr_sc, toInt_sc, toBool_sc, headD_one, nat_int, get_bt, decide_eq_true_eq, decide_eq_false_iff_not, decide_true, decide_false, if_true, if_false, ite_self, Bool.not_true, Bool.not_false, Bool.false_eq_true, Bool.true_eq_false, Bool.true_and, Bool.false_and, Bool.and_true, Bool.and_false, not_true, not_false_iff, Option.bind_some, nn, toList_inj, Bool.not_eq_true', Bool.not_eq_false', Int.le_refl, and_self, true_and, and_true, false_and, and_false, bne_self_eq_false, beq_self_eq_true, Int.reduceEq, Nat.reduceEqDiff, List.length_singleton, List.tail_cons, Int.reduceLE, Int.reduceLT, decide_eq_true_eq]
    exact Ev2.now _
  | cons c rest ih =>
    intro pre hp a ha
    obtain ⟨mp, st, mr, hmp, rfl⟩ := split_at m a ha
    have hc := bytesOf_rng c (by rw [hp]; simp)
    have hse := hm.e st (by rw [hmp]; simp)
    have hn := hm.n
    refine Ev2.succ ?_
    simp only [impl_follow.l0_eq, mach_len, at_lt hmp, at_size hp, mach_at hmp, st_f0, st_f1, get_bt, at_bt hp, strs_len, strs_elem, ints_len, ints_elem, items_list, fld_agg, elem_list, toStr_sc, toInt_sc, toBool_sc, headD_one, nat_int, get_bt, decide_eq_true_eq, decide_eq_false_iff_not, decide_true, decide_false, if_true, if_false, ite_self, Bool.not_true, Bool.not_false, Bool.false_eq_true, Bool.true_eq_false, Bool.true_and, Bool.false_and, Bool.and_true, Bool.and_false, not_true, not_false_iff, Option.bind_some, nn, toList_inj, Bool.not_eq_true', Bool.not_eq_false', Int.le_refl, and_self, true_and, and_true, false_and, and_false, bne_self_eq_false, beq_self_eq_true, Int.reduceEq, Nat.reduceEqDiff, List.length_singleton, List.tail_cons, Int.reduceLE, Int.reduceLT, decide_eq_true_eq]
    refine Ev2.bind (step_ev st hse c (byte_wrap hc)) ?_
    simp only [goM, nat_int, edAt_eq hmp, strs_len, strs_elem, ints_len, ints_elem, items_list, fld_agg, elem_list, toStr_sc, toInt_sc, toBool_sc, headD_one, nat_int, get_bt, decide_eq_true_eq, decide_eq_false_iff_not, decide_true, decide_false, if_true, if_false, ite_self, Bool.not_true, Bool.not_false, Bool.false_eq_true, Bool.true_eq_false, Bool.true_and, Bool.false_and, Bool.and_true, Bool.and_false, not_true, not_false_iff, Option.bind_some, nn, toList_inj, Bool.not_eq_true', Bool.not_eq_false', Int.le_refl, and_self, true_and, and_true, false_and, and_false, bne_self_eq_false, beq_self_eq_true, Int.reduceEq, Nat.reduceEqDiff, List.length_singleton, List.tail_cons, Int.reduceLE, Int.reduceLT, decide_eq_true_eq]
    by_cases h : stepE c st.2 < 0
    · simp only [h, strs_len, strs_elem, ints_len, ints_elem, items_list, fld_agg, elem_list, toStr_sc, toInt_sc, toBool_sc, headD_one, nat_int, get_bt, decide_eq_true_eq, decide_eq_false_iff_not, decide_true, decide_false, if_true, if_false, ite_self, Bool.not_true, Bool.not_false, Bool.false_eq_true, Bool.true_eq_false, Bool.true_and, Bool.false_and, Bool.and_true, Bool.and_false, not_true, not_false_iff, Option.bind_some, nn, toList_inj, Bool.not_eq_true', Bool.not_eq_false', Int.le_refl, and_self, true_and, and_true, false_and, and_false, bne_self_eq_false, beq_self_eq_true, Int.reduceEq, Nat.reduceEqDiff, List.length_singleton, List.tail_cons, Int.reduceLE, Int.reduceLT, decide_eq_true_eq]; exact Ev2.now _
    · obtain ⟨e, he, _, h2⟩ := (stepE_mem (c := c) (es := st.2)).resolve_left (fun hx => h (by omega))
      obtain ⟨_, h3, h4⟩ := sts_edges hok hmp e he
      obtain ⟨t, ht⟩ := Int.eq_ofNat_of_zero_le (show 0 ≤ e.2 by omega)
      have hnx := at_next hp (by rw [bytesOf_len]; exact hs)
      rw [h2, ht] at h ⊢
      simp only [h, hnx, strs_len, strs_elem, ints_len, ints_elem, items_list, fld_agg, elem_list, toStr_sc, toInt_sc, toBool_sc, headD_one, nat_int, get_bt, decide_eq_true_eq, decide_eq_false_iff_not, decide_true, decide_false, if_true, if_false, ite_self, Bool.not_true, Bool.not_false, Bool.false_eq_true, Bool.true_eq_false, Bool.true_and, Bool.false_and, Bool.and_true, Bool.and_false, not_true, not_false_iff, Option.bind_some, nn, toList_inj, Bool.not_eq_true', Bool.not_eq_false', Int.le_refl, and_self, true_and, and_true, false_and, and_false, bne_self_eq_false, beq_self_eq_true, Int.reduceEq, Nat.reduceEqDiff, List.length_singleton, List.tail_cons, Int.reduceLE, Int.reduceLT, decide_eq_true_eq]
      exact ih _ (at_step hp) t (by omega)
theorem follow_ev (m : List St) (hm : MachB m) (hok : stsOk m.length 0 m = true) (hne : 0 < m.length) (s : ByteArray) (hs : s.size ≤ 9223372036854775807) : Ev (fun N => impl_follow.f N [machP m, strP s]) [intP (goM m 0 (bytesOf s))] := by
  simp only [impl_follow.f_eq, strs_len, strs_elem, ints_len, ints_elem, items_list, fld_agg, elem_list, toStr_sc, toInt_sc, toBool_sc, headD_one, nat_int, get_bt, decide_eq_true_eq, decide_eq_false_iff_not, decide_true, decide_false, if_true, if_false, ite_self, Bool.not_true, Bool.not_false, Bool.false_eq_true, Bool.true_eq_false, Bool.true_and, Bool.false_and, Bool.and_true, Bool.and_false, not_true, not_false_iff, Option.bind_some, nn, toList_inj, Bool.not_eq_true', Bool.not_eq_false', Int.le_refl, and_self, true_and, and_true, false_and, and_false, bne_self_eq_false, beq_self_eq_true, Int.reduceEq, Nat.reduceEqDiff, List.length_singleton, List.tail_cons, Int.reduceLE, Int.reduceLT, decide_eq_true_eq]
  exact (follow_loop m hm hok s hs (bytesOf s) [] rfl 0 hne).diag
theorem go_l1 (m : List St) (hm : MachB m) {mp mr : List St} {st : St} (hmp : m = mp ++ st :: mr) (s : ByteArray) {pre rest : List Int} {c : Int} (hp : bytesOf s = pre ++ c :: rest) (R : PV) :
    ∀ (es epre : List Ed), st.2 = epre ++ es → ∀ x : Int,
    (lastE c es x < 0 → R = intP (-1)) → (¬ lastE c es x < 0 → Ev2 (fun N n => spec_l3Go.l0 N n (machP m) s (lastE c es x) (IntKind.i64.wrap ((pre.length : Int) + 1))) [R]) →
    Ev3 (fun N m0 n => spec_l3Go.l1 N m0 n (machP m) s (mp.length : Int) (pre.length : Int) x (epre.length : Int)) [R] := by
  have hn := hm.n
  have hse := hm.e st (by rw [hmp]; simp)
  have hc := bytesOf_rng c (by rw [hp]; simp)
  have hcw := byte_wrap hc
  intro es
  induction es with
  | nil =>
    intro epre he x h1 h2
    refine Ev3.succ ?_
    simp only [spec_l3Go.l1_eq, mach_len, at_lt hmp, mach_at hmp, st_f1, edges_len, at_end he, strs_len, strs_elem, ints_len, ints_elem, items_list, fld_agg, elem_list, toStr_sc, toInt_sc, toBool_sc, headD_one, nat_int, get_bt, decide_eq_true_eq, decide_eq_false_iff_not, decide_true, decide_false, if_true, if_false, ite_self, Bool.not_true, Bool.not_false, Bool.false_eq_true, Bool.true_eq_false, Bool.true_and, Bool.false_and, Bool.and_true, Bool.and_false, not_true, not_false_iff, Option.bind_some, nn, toList_inj, Bool.not_eq_true', Bool.not_eq_false', Int.le_refl, and_self, true_and, and_true, false_and, and_false, bne_self_eq_false, beq_self_eq_true, Int.reduceEq, Nat.reduceEqDiff, List.length_singleton, List.tail_cons, Int.reduceLE, Int.reduceLT, decide_eq_true_eq]
    by_cases h : x < 0
    · have := h1 h; subst this
      simp only [h, strs_len, strs_elem, ints_len, ints_elem, items_list, fld_agg, elem_list, toStr_sc, toInt_sc, toBool_sc, headD_one, nat_int, get_bt, decide_eq_true_eq, decide_eq_false_iff_not, decide_true, decide_false, if_true, if_false, ite_self, Bool.not_true, Bool.not_false, Bool.false_eq_true, Bool.true_eq_false, Bool.true_and, Bool.false_and, Bool.and_true, Bool.and_false, not_true, not_false_iff, Option.bind_some, nn, toList_inj, Bool.not_eq_true', Bool.not_eq_false', Int.le_refl, and_self, true_and, and_true, false_and, and_false, bne_self_eq_false, beq_self_eq_true, Int.reduceEq, Nat.reduceEqDiff, List.length_singleton, List.tail_cons, Int.reduceLE, Int.reduceLT, decide_eq_true_eq]; exact Ev3.now _
    · simp only [h, strs_len, strs_elem, ints_len, ints_elem, items_list, fld_agg, elem_list, toStr_sc, toInt_sc, toBool_sc, headD_one, nat_int, get_bt, decide_eq_true_eq, decide_eq_false_iff_not, decide_true, decide_false, if_true, if_false, ite_self, Bool.not_true, Bool.not_false, Bool.false_eq_true, Bool.true_eq_false, Bool.true_and, Bool.false_and, Bool.and_true, Bool.and_false, not_true, not_false_iff, Option.bind_some, nn, toList_inj, Bool.not_eq_true', Bool.not_eq_false', Int.le_refl, and_self, true_and, and_true, false_and, and_false, bne_self_eq_false, beq_self_eq_true, Int.reduceEq, Nat.reduceEqDiff, List.length_singleton, List.tail_cons, Int.reduceLE, Int.reduceLT, decide_eq_true_eq]; exact (h2 h).outer
  | cons e es ih =>
    intro epre he x h1 h2
    refine Ev3.succ ?_
    simp only [spec_l3Go.l1_eq, mach_len, at_lt hmp, at_size hp, mach_at hmp, st_f1, edges_len, at_lt he, edges_at he, edge_f0, edge_f1, get_bt, at_bt hp, hcw, at_next he (by omega), strs_len, strs_elem, ints_len, ints_elem, items_list, fld_agg, elem_list, toStr_sc, toInt_sc, toBool_sc, headD_one, nat_int, get_bt, decide_eq_true_eq, decide_eq_false_iff_not, decide_true, decide_false, if_true, if_false, ite_self, Bool.not_true, Bool.not_false, Bool.false_eq_true, Bool.true_eq_false, Bool.true_and, Bool.false_and, Bool.and_true, Bool.and_false, not_true, not_false_iff, Option.bind_some, nn, toList_inj, Bool.not_eq_true', Bool.not_eq_false', Int.le_refl, and_self, true_and, and_true, false_and, and_false, bne_self_eq_false, beq_self_eq_true, Int.reduceEq, Nat.reduceEqDiff, List.length_singleton, List.tail_cons, Int.reduceLE, Int.reduceLT, decide_eq_true_eq]
    rw [lastE] at h1 h2
    by_cases h : e.1 = c
    · simp only [h, if_true] at h1 h2
      simp only [h, strs_len, strs_elem, ints_len, ints_elem, items_list, fld_agg, elem_list, toStr_sc, toInt_sc, toBool_sc, headD_one, nat_int, get_bt, decide_eq_true_eq, decide_eq_false_iff_not, decide_true, decide_false, if_true, if_false, ite_self, Bool.not_true, Bool.not_false, Bool.false_eq_true, Bool.true_eq_false, Bool.true_and, Bool.false_and, Bool.and_true, Bool.and_false, not_true, not_false_iff, Option.bind_some, nn, toList_inj, Bool.not_eq_true', Bool.not_eq_false', Int.le_refl, and_self, true_and, and_true, false_and, and_false, bne_self_eq_false, beq_self_eq_true, Int.reduceEq, Nat.reduceEqDiff, List.length_singleton, List.tail_cons, Int.reduceLE, Int.reduceLT, decide_eq_true_eq]; exact ih _ (at_step he) e.2 h1 h2
    · simp only [h, if_false] at h1 h2
      simp only [h, strs_len, strs_elem, ints_len, ints_elem, items_list, fld_agg, elem_list, toStr_sc, toInt_sc, toBool_sc, headD_one, nat_int, get_bt, decide_eq_true_eq, decide_eq_false_iff_not, decide_true, decide_false, if_true, if_false, ite_self, Bool.not_true, Bool.not_false, Bool.false_eq_true, Bool.true_eq_false, Bool.true_and, Bool.false_and, Bool.and_true, Bool.and_false, not_true, not_false_iff, Option.bind_some, nn, toList_inj, Bool.not_eq_true', Bool.not_eq_false', Int.le_refl, and_self, true_and, and_true, false_and, and_false, bne_self_eq_false, beq_self_eq_true, Int.reduceEq, Nat.reduceEqDiff, List.length_singleton, List.tail_cons, Int.reduceLE, Int.reduceLT, decide_eq_true_eq]; exact ih _ (at_step he) x h1 h2
theorem go_l0 (m : List St) (hm : MachB m) (hok : stsOk m.length 0 m = true) (s : ByteArray) (hs : s.size ≤ 9223372036854775807) : ∀ (rest pre : List Int), bytesOf s = pre ++ rest → ∀ a : Nat, a < m.length →
    Ev2 (fun N n => spec_l3Go.l0 N n (machP m) s (a : Int) (pre.length : Int)) [intP (goM m a rest)] := by
  intro rest
  induction rest with
  | nil =>
    intro pre hp a ha
    refine Ev2.succ ?_
    simp only [spec_l3Go.l0_eq, at_sizeE hp, strs_len, strs_elem, ints_len, ints_elem, items_list, fld_agg, elem_list, toStr_sc, toInt_sc, toBool_sc, headD_one, nat_int, get_bt, decide_eq_true_eq, decide_eq_false_iff_not, decide_true, decide_false, if_true, if_false, ite_self, Bool.not_true, Bool.not_false, Bool.false_eq_true, Bool.true_eq_false, Bool.true_and, Bool.false_and, Bool.and_true, Bool.and_false, not_true, not_false_iff, Option.bind_some, nn, toList_inj, Bool.not_eq_true', Bool.not_eq_false', Int.le_refl, and_self, true_and, and_true, false_and, and_false, bne_self_eq_false, beq_self_eq_true, Int.reduceEq, Nat.reduceEqDiff, List.length_singleton, List.tail_cons, Int.reduceLE, Int.reduceLT, decide_eq_true_eq]
    exact Ev2.now _
  | cons c rest ih =>
    intro pre hp a ha
    obtain ⟨mp, st, mr, hmp, rfl⟩ := split_at m a ha
    have hso := sts_at hok hmp
    simp only [stOk, Bool.and_eq_true] at hso
    have hls := last_step (c := c) hso.1
    have hnx := at_next hp (by rw [bytesOf_len]; exact hs)
    refine Ev2.succ ?_
    simp only [spec_l3Go.l0_eq, at_size hp, strs_len, strs_elem, ints_len, ints_elem, items_list, fld_agg, elem_list, toStr_sc, toInt_sc, toBool_sc, headD_one, nat_int, get_bt, decide_eq_true_eq, decide_eq_false_iff_not, decide_true, decide_false, if_true, if_false, ite_self, Bool.not_true, Bool.not_false, Bool.false_eq_true, Bool.true_eq_false, Bool.true_and, Bool.false_and, Bool.and_true, Bool.and_false, not_true, not_false_iff, Option.bind_some, nn, toList_inj, Bool.not_eq_true', Bool.not_eq_false', Int.le_refl, and_self, true_and, and_true, false_and, and_false, bne_self_eq_false, beq_self_eq_true, Int.reduceEq, Nat.reduceEqDiff, List.length_singleton, List.tail_cons, Int.reduceLE, Int.reduceLT, decide_eq_true_eq]
    refine Ev3.start (go_l1 m hm hmp s hp _ st.2 [] rfl (-1) ?_ ?_)
    · intro h
      rw [hls] at h
      simp only [goM, nat_int, edAt_eq hmp, h, strs_len, strs_elem, ints_len, ints_elem, items_list, fld_agg, elem_list, toStr_sc, toInt_sc, toBool_sc, headD_one, nat_int, get_bt, decide_eq_true_eq, decide_eq_false_iff_not, decide_true, decide_false, if_true, if_false, ite_self, Bool.not_true, Bool.not_false, Bool.false_eq_true, Bool.true_eq_false, Bool.true_and, Bool.false_and, Bool.and_true, Bool.and_false, not_true, not_false_iff, Option.bind_some, nn, toList_inj, Bool.not_eq_true', Bool.not_eq_false', Int.le_refl, and_self, true_and, and_true, false_and, and_false, bne_self_eq_false, beq_self_eq_true, Int.reduceEq, Nat.reduceEqDiff, List.length_singleton, List.tail_cons, Int.reduceLE, Int.reduceLT, decide_eq_true_eq]
    · intro h
      rw [hls] at h ⊢
      obtain ⟨e, he, _, h2⟩ := (stepE_mem (c := c) (es := st.2)).resolve_left (fun hx => h (by omega))
      obtain ⟨_, h3, h4⟩ := sts_edges hok hmp e he
      obtain ⟨t, ht⟩ := Int.eq_ofNat_of_zero_le (show 0 ≤ e.2 by omega)
      have hg : goM m (mp.length : Int) (c :: rest) = goM m (t : Int) rest := by
        rw [goM, nat_int, edAt_eq hmp, if_neg h, h2, ht]
      rw [hg, hnx, h2, ht]
      exact ih _ (at_step hp) t (by omega)
theorem go_ev (m : List St) (hm : MachB m) (hok : stsOk m.length 0 m = true) (hne : 0 < m.length) (s : ByteArray) (hs : s.size ≤ 9223372036854775807) : Ev (fun N => spec_l3Go.f N [machP m, strP s]) [intP (goM m 0 (bytesOf s))] := by
  simp only [spec_l3Go.f_eq, strs_len, strs_elem, ints_len, ints_elem, items_list, fld_agg, elem_list, toStr_sc, toInt_sc, toBool_sc, headD_one, nat_int, get_bt, decide_eq_true_eq, decide_eq_false_iff_not, decide_true, decide_false, if_true, if_false, ite_self, Bool.not_true, Bool.not_false, Bool.false_eq_true, Bool.true_eq_false, Bool.true_and, Bool.false_and, Bool.and_true, Bool.and_false, not_true, not_false_iff, Option.bind_some, nn, toList_inj, Bool.not_eq_true', Bool.not_eq_false', Int.le_refl, and_self, true_and, and_true, false_and, and_false, bne_self_eq_false, beq_self_eq_true, Int.reduceEq, Nat.reduceEqDiff, List.length_singleton, List.tail_cons, Int.reduceLE, Int.reduceLT, decide_eq_true_eq]
  exact (go_l0 m hm hok s hs (bytesOf s) [] rfl 0 hne).diag
/-- Where a text leads is a state. -/
theorem goM_in (m : List St) (hok : stsOk m.length 0 m = true) : ∀ (u : List Int) (a : Nat), a < m.length → goM m a u = -1 ∨ ∃ t : Nat, t < m.length ∧ goM m a u = t
  | [], a, h => .inr ⟨a, h, rfl⟩
  | c :: u, a, h => by
    obtain ⟨mp, st, mr, hmp, rfl⟩ := split_at m a h
    rw [goM, nat_int, edAt_eq hmp]
    by_cases hx : stepE c st.2 < 0
    · rw [if_pos hx]; exact .inl rfl
    · rw [if_neg hx]
      obtain ⟨e, he, _, h2⟩ := (stepE_mem (c := c) (es := st.2)).resolve_left (fun hy => hx (by omega))
      obtain ⟨_, h3, h4⟩ := sts_edges hok hmp e he
      obtain ⟨t, ht⟩ := Int.eq_ofNat_of_zero_le (show 0 ≤ e.2 by omega)
      rw [h2, ht]
      exact goM_in m hok u t (by omega)
/-! Prefixes. -/
def bgM (m : List St) (ah : ByteArray) (most : Int) : List ByteArray :=
  if okM m = true ∧ (0 ≤ most ∧ most ≤ 40) ∧ ¬ goM m 0 (bytesOf ah) < 0 then (aheadT ah (WM m (goM m 0 (bytesOf ah)).toNat)).take most.toNat else []
theorem bgM_len (m : List St) (ah : ByteArray) (most : Int) : (bgM m ah most).length ≤ 40 := by
  unfold bgM
  split
  · rename_i h; rw [List.length_take]; omega
  · simp
theorem strsP_nil : strsP [] = PV.list [] := rfl
theorem implBegins_ev (m : List St) (hm : MachB m) (ah : ByteArray) (ha : ah.size ≤ 1048576) (most : Int) : Ev (fun N => impl_MachineBegins.f N [machP m, strP ah, intP most]) [strsP (bgM m ah most)] := by
  simp only [impl_MachineBegins.f_eq]
  refine Ev.bind (implOk_ev m hm) ?_
  unfold bgM
  cases ho : okM m with
  | false => simp only [strsP_nil, strs_len, strs_elem, ints_len, ints_elem, items_list, fld_agg, elem_list, toStr_sc, toInt_sc, toBool_sc, headD_one, nat_int, get_bt, decide_eq_true_eq, decide_eq_false_iff_not, decide_true, decide_false, if_true, if_false, ite_self, Bool.not_true, Bool.not_false, Bool.false_eq_true, Bool.true_eq_false, Bool.true_and, Bool.false_and, Bool.and_true, Bool.and_false, not_true, not_false_iff, Option.bind_some, nn, toList_inj, Bool.not_eq_true', Bool.not_eq_false', Int.le_refl, and_self, true_and, and_true, false_and, and_false, bne_self_eq_false, beq_self_eq_true, Int.reduceEq, Nat.reduceEqDiff, List.length_singleton, List.tail_cons, Int.reduceLE, Int.reduceLT, decide_eq_true_eq]; exact Ev.now _
  | true =>
    obtain ⟨h1, h2, h3, h4⟩ := okM_sts ho
    simp only [implWithin_val, strs_len, strs_elem, ints_len, ints_elem, items_list, fld_agg, elem_list, toStr_sc, toInt_sc, toBool_sc, headD_one, nat_int, get_bt, decide_eq_true_eq, decide_eq_false_iff_not, decide_true, decide_false, if_true, if_false, ite_self, Bool.not_true, Bool.not_false, Bool.false_eq_true, Bool.true_eq_false, Bool.true_and, Bool.false_and, Bool.and_true, Bool.and_false, not_true, not_false_iff, Option.bind_some, nn, toList_inj, Bool.not_eq_true', Bool.not_eq_false', Int.le_refl, and_self, true_and, and_true, false_and, and_false, bne_self_eq_false, beq_self_eq_true, Int.reduceEq, Nat.reduceEqDiff, List.length_singleton, List.tail_cons, Int.reduceLE, Int.reduceLT, decide_eq_true_eq]
    by_cases hmo : 0 ≤ most ∧ most ≤ 40
    · simp only [hmo, and_self, strs_len, strs_elem, ints_len, ints_elem, items_list, fld_agg, elem_list, toStr_sc, toInt_sc, toBool_sc, headD_one, nat_int, get_bt, decide_eq_true_eq, decide_eq_false_iff_not, decide_true, decide_false, if_true, if_false, ite_self, Bool.not_true, Bool.not_false, Bool.false_eq_true, Bool.true_eq_false, Bool.true_and, Bool.false_and, Bool.and_true, Bool.and_false, not_true, not_false_iff, Option.bind_some, nn, toList_inj, Bool.not_eq_true', Bool.not_eq_false', Int.le_refl, and_self, true_and, and_true, false_and, and_false, bne_self_eq_false, beq_self_eq_true, Int.reduceEq, Nat.reduceEqDiff, List.length_singleton, List.tail_cons, Int.reduceLE, Int.reduceLT, decide_eq_true_eq]
      refine Ev.bind (follow_ev m hm h3 (by omega) ah (by omega)) ?_
      by_cases hg : goM m 0 (bytesOf ah) < 0
      · simp only [hg, strsP_nil, strs_len, strs_elem, ints_len, ints_elem, items_list, fld_agg, elem_list, toStr_sc, toInt_sc, toBool_sc, headD_one, nat_int, get_bt, decide_eq_true_eq, decide_eq_false_iff_not, decide_true, decide_false, if_true, if_false, ite_self, Bool.not_true, Bool.not_false, Bool.false_eq_true, Bool.true_eq_false, Bool.true_and, Bool.false_and, Bool.and_true, Bool.and_false, not_true, not_false_iff, Option.bind_some, nn, toList_inj, Bool.not_eq_true', Bool.not_eq_false', Int.le_refl, and_self, true_and, and_true, false_and, and_false, bne_self_eq_false, beq_self_eq_true, Int.reduceEq, Nat.reduceEqDiff, List.length_singleton, List.tail_cons, Int.reduceLE, Int.reduceLT, decide_eq_true_eq]; exact Ev.now _
      · obtain ⟨t, ht, he⟩ := (goM_in m h3 (bytesOf ah) 0 (by omega)).resolve_left (fun hx => hg (by simp only [Int.natCast_zero] at hx; omega))
        simp only [Int.natCast_zero] at he
        simp only [hg, strs_len, strs_elem, ints_len, ints_elem, items_list, fld_agg, elem_list, toStr_sc, toInt_sc, toBool_sc, headD_one, nat_int, get_bt, decide_eq_true_eq, decide_eq_false_iff_not, decide_true, decide_false, if_true, if_false, ite_self, Bool.not_true, Bool.not_false, Bool.false_eq_true, Bool.true_eq_false, Bool.true_and, Bool.false_and, Bool.and_true, Bool.and_false, not_true, not_false_iff, Option.bind_some, nn, toList_inj, Bool.not_eq_true', Bool.not_eq_false', Int.le_refl, and_self, true_and, and_true, false_and, and_false, bne_self_eq_false, beq_self_eq_true, Int.reduceEq, Nat.reduceEqDiff, List.length_singleton, List.tail_cons, Int.reduceLE, Int.reduceLT, decide_eq_true_eq]
        rw [he]
        have hh := gather_ev m hm h3 t ht ah (by omega) most hmo.1 (by omega)
        simp only [nat_int, strs_len, strs_elem, ints_len, ints_elem, items_list, fld_agg, elem_list, toStr_sc, toInt_sc, toBool_sc, headD_one, nat_int, get_bt, decide_eq_true_eq, decide_eq_false_iff_not, decide_true, decide_false, if_true, if_false, ite_self, Bool.not_true, Bool.not_false, Bool.false_eq_true, Bool.true_eq_false, Bool.true_and, Bool.false_and, Bool.and_true, Bool.and_false, not_true, not_false_iff, Option.bind_some, nn, toList_inj, Bool.not_eq_true', Bool.not_eq_false', Int.le_refl, and_self, true_and, and_true, false_and, and_false, bne_self_eq_false, beq_self_eq_true, Int.reduceEq, Nat.reduceEqDiff, List.length_singleton, List.tail_cons, Int.reduceLE, Int.reduceLT, decide_eq_true_eq]
        refine Ev.bind hh ?_
        simp only [strs_len, strs_elem, ints_len, ints_elem, items_list, fld_agg, elem_list, toStr_sc, toInt_sc, toBool_sc, headD_one, nat_int, get_bt, decide_eq_true_eq, decide_eq_false_iff_not, decide_true, decide_false, if_true, if_false, ite_self, Bool.not_true, Bool.not_false, Bool.false_eq_true, Bool.true_eq_false, Bool.true_and, Bool.false_and, Bool.and_true, Bool.and_false, not_true, not_false_iff, Option.bind_some, nn, toList_inj, Bool.not_eq_true', Bool.not_eq_false', Int.le_refl, and_self, true_and, and_true, false_and, and_false, bne_self_eq_false, beq_self_eq_true, Int.reduceEq, Nat.reduceEqDiff, List.length_singleton, List.tail_cons, Int.reduceLE, Int.reduceLT, decide_eq_true_eq]
        exact Ev.now _
    · simp only [hmo, strsP_nil, strs_len, strs_elem, ints_len, ints_elem, items_list, fld_agg, elem_list, toStr_sc, toInt_sc, toBool_sc, headD_one, nat_int, get_bt, decide_eq_true_eq, decide_eq_false_iff_not, decide_true, decide_false, if_true, if_false, ite_self, Bool.not_true, Bool.not_false, Bool.false_eq_true, Bool.true_eq_false, Bool.true_and, Bool.false_and, Bool.and_true, Bool.and_false, not_true, not_false_iff, Option.bind_some, nn, toList_inj, Bool.not_eq_true', Bool.not_eq_false', Int.le_refl, and_self, true_and, and_true, false_and, and_false, bne_self_eq_false, beq_self_eq_true, Int.reduceEq, Nat.reduceEqDiff, List.length_singleton, List.tail_cons, Int.reduceLE, Int.reduceLT, decide_eq_true_eq]; exact Ev.now _
theorem specBegins_ev (m : List St) (hm : MachB m) (ah : ByteArray) (ha : ah.size ≤ 1048576) (most : Int) : Ev (fun N => spec_MachineBegins.f N [machP m, strP ah, intP most]) [strsP (bgM m ah most)] := by
  simp only [spec_MachineBegins.f_eq]
  refine Ev.bind (specOk_ev m hm) ?_
  unfold bgM
  cases ho : okM m with
  | false => simp only [strsP_nil, strs_len, strs_elem, ints_len, ints_elem, items_list, fld_agg, elem_list, toStr_sc, toInt_sc, toBool_sc, headD_one, nat_int, get_bt, decide_eq_true_eq, decide_eq_false_iff_not, decide_true, decide_false, if_true, if_false, ite_self, Bool.not_true, Bool.not_false, Bool.false_eq_true, Bool.true_eq_false, Bool.true_and, Bool.false_and, Bool.and_true, Bool.and_false, not_true, not_false_iff, Option.bind_some, nn, toList_inj, Bool.not_eq_true', Bool.not_eq_false', Int.le_refl, and_self, true_and, and_true, false_and, and_false, bne_self_eq_false, beq_self_eq_true, Int.reduceEq, Nat.reduceEqDiff, List.length_singleton, List.tail_cons, Int.reduceLE, Int.reduceLT, decide_eq_true_eq]; exact Ev.now _
  | true =>
    obtain ⟨h1, h2, h3, h4⟩ := okM_sts ho
    simp only [specIn_val, strs_len, strs_elem, ints_len, ints_elem, items_list, fld_agg, elem_list, toStr_sc, toInt_sc, toBool_sc, headD_one, nat_int, get_bt, decide_eq_true_eq, decide_eq_false_iff_not, decide_true, decide_false, if_true, if_false, ite_self, Bool.not_true, Bool.not_false, Bool.false_eq_true, Bool.true_eq_false, Bool.true_and, Bool.false_and, Bool.and_true, Bool.and_false, not_true, not_false_iff, Option.bind_some, nn, toList_inj, Bool.not_eq_true', Bool.not_eq_false', Int.le_refl, and_self, true_and, and_true, false_and, and_false, bne_self_eq_false, beq_self_eq_true, Int.reduceEq, Nat.reduceEqDiff, List.length_singleton, List.tail_cons, Int.reduceLE, Int.reduceLT, decide_eq_true_eq]
    by_cases hmo : 0 ≤ most ∧ most ≤ 40
    · simp only [hmo, and_self, strs_len, strs_elem, ints_len, ints_elem, items_list, fld_agg, elem_list, toStr_sc, toInt_sc, toBool_sc, headD_one, nat_int, get_bt, decide_eq_true_eq, decide_eq_false_iff_not, decide_true, decide_false, if_true, if_false, ite_self, Bool.not_true, Bool.not_false, Bool.false_eq_true, Bool.true_eq_false, Bool.true_and, Bool.false_and, Bool.and_true, Bool.and_false, not_true, not_false_iff, Option.bind_some, nn, toList_inj, Bool.not_eq_true', Bool.not_eq_false', Int.le_refl, and_self, true_and, and_true, false_and, and_false, bne_self_eq_false, beq_self_eq_true, Int.reduceEq, Nat.reduceEqDiff, List.length_singleton, List.tail_cons, Int.reduceLE, Int.reduceLT, decide_eq_true_eq]
      refine Ev.bind (go_ev m hm h3 (by omega) ah (by omega)) ?_
      by_cases hg : goM m 0 (bytesOf ah) < 0
      · simp only [hg, strsP_nil, strs_len, strs_elem, ints_len, ints_elem, items_list, fld_agg, elem_list, toStr_sc, toInt_sc, toBool_sc, headD_one, nat_int, get_bt, decide_eq_true_eq, decide_eq_false_iff_not, decide_true, decide_false, if_true, if_false, ite_self, Bool.not_true, Bool.not_false, Bool.false_eq_true, Bool.true_eq_false, Bool.true_and, Bool.false_and, Bool.and_true, Bool.and_false, not_true, not_false_iff, Option.bind_some, nn, toList_inj, Bool.not_eq_true', Bool.not_eq_false', Int.le_refl, and_self, true_and, and_true, false_and, and_false, bne_self_eq_false, beq_self_eq_true, Int.reduceEq, Nat.reduceEqDiff, List.length_singleton, List.tail_cons, Int.reduceLE, Int.reduceLT, decide_eq_true_eq]; exact Ev.now _
      · obtain ⟨t, ht, he⟩ := (goM_in m h3 (bytesOf ah) 0 (by omega)).resolve_left (fun hx => hg (by simp only [Int.natCast_zero] at hx; omega))
        simp only [Int.natCast_zero] at he
        simp only [hg, strs_len, strs_elem, ints_len, ints_elem, items_list, fld_agg, elem_list, toStr_sc, toInt_sc, toBool_sc, headD_one, nat_int, get_bt, decide_eq_true_eq, decide_eq_false_iff_not, decide_true, decide_false, if_true, if_false, ite_self, Bool.not_true, Bool.not_false, Bool.false_eq_true, Bool.true_eq_false, Bool.true_and, Bool.false_and, Bool.and_true, Bool.and_false, not_true, not_false_iff, Option.bind_some, nn, toList_inj, Bool.not_eq_true', Bool.not_eq_false', Int.le_refl, and_self, true_and, and_true, false_and, and_false, bne_self_eq_false, beq_self_eq_true, Int.reduceEq, Nat.reduceEqDiff, List.length_singleton, List.tail_cons, Int.reduceLE, Int.reduceLT, decide_eq_true_eq]
        rw [he]
        have hh := all_ev m hm h3 t ht ah (by omega) most hmo.1 (by omega)
        simp only [nat_int, strs_len, strs_elem, ints_len, ints_elem, items_list, fld_agg, elem_list, toStr_sc, toInt_sc, toBool_sc, headD_one, nat_int, get_bt, decide_eq_true_eq, decide_eq_false_iff_not, decide_true, decide_false, if_true, if_false, ite_self, Bool.not_true, Bool.not_false, Bool.false_eq_true, Bool.true_eq_false, Bool.true_and, Bool.false_and, Bool.and_true, Bool.and_false, not_true, not_false_iff, Option.bind_some, nn, toList_inj, Bool.not_eq_true', Bool.not_eq_false', Int.le_refl, and_self, true_and, and_true, false_and, and_false, bne_self_eq_false, beq_self_eq_true, Int.reduceEq, Nat.reduceEqDiff, List.length_singleton, List.tail_cons, Int.reduceLE, Int.reduceLT, decide_eq_true_eq]
        refine Ev.bind hh ?_
        simp only [strs_len, strs_len, strs_elem, ints_len, ints_elem, items_list, fld_agg, elem_list, toStr_sc, toInt_sc, toBool_sc, headD_one, nat_int, get_bt, decide_eq_true_eq, decide_eq_false_iff_not, decide_true, decide_false, if_true, if_false, ite_self, Bool.not_true, Bool.not_false, Bool.false_eq_true, Bool.true_eq_false, Bool.true_and, Bool.false_and, Bool.and_true, Bool.and_false, not_true, not_false_iff, Option.bind_some, nn, toList_inj, Bool.not_eq_true', Bool.not_eq_false', Int.le_refl, and_self, true_and, and_true, false_and, and_false, bne_self_eq_false, beq_self_eq_true, Int.reduceEq, Nat.reduceEqDiff, List.length_singleton, List.tail_cons, Int.reduceLE, Int.reduceLT, decide_eq_true_eq]
        have hl := List.length_take_le (most.toNat + 1) (aheadT ah (WM m t))
        by_cases hW : most < ((((aheadT ah (WM m t)).take (most.toNat + 1)).length : Nat) : Int)
        · have hW' : most ≤ ((((aheadT ah (WM m t)).take (most.toNat + 1)).length : Nat) : Int) := by omega
          have e2 : PV.list ((strsP ((aheadT ah (WM m t)).take (most.toNat + 1))).items.take most.toNat) = strsP ((aheadT ah (WM m t)).take most.toNat) := by
            simp only [strsP, PV.items, List.map_take, List.take_take]
            rw [Nat.min_eq_left (by omega)]
          simp only [hW, hW', hmo.1, e2, strs_len, strs_elem, ints_len, ints_elem, items_list, fld_agg, elem_list, toStr_sc, toInt_sc, toBool_sc, headD_one, nat_int, get_bt, decide_eq_true_eq, decide_eq_false_iff_not, decide_true, decide_false, if_true, if_false, ite_self, Bool.not_true, Bool.not_false, Bool.false_eq_true, Bool.true_eq_false, Bool.true_and, Bool.false_and, Bool.and_true, Bool.and_false, not_true, not_false_iff, Option.bind_some, nn, toList_inj, Bool.not_eq_true', Bool.not_eq_false', Int.le_refl, and_self, true_and, and_true, false_and, and_false, bne_self_eq_false, beq_self_eq_true, Int.reduceEq, Nat.reduceEqDiff, List.length_singleton, List.tail_cons, Int.reduceLE, Int.reduceLT, decide_eq_true_eq]
          exact Ev.now _
        · have e2 : (aheadT ah (WM m t)).take (most.toNat + 1) = (aheadT ah (WM m t)).take most.toNat := by
            rw [List.length_take] at hW
            rw [List.take_of_length_le (by omega), List.take_of_length_le (by omega)]
          simp only [hW, strs_len, strs_elem, ints_len, ints_elem, items_list, fld_agg, elem_list, toStr_sc, toInt_sc, toBool_sc, headD_one, nat_int, get_bt, decide_eq_true_eq, decide_eq_false_iff_not, decide_true, decide_false, if_true, if_false, ite_self, Bool.not_true, Bool.not_false, Bool.false_eq_true, Bool.true_eq_false, Bool.true_and, Bool.false_and, Bool.and_true, Bool.and_false, not_true, not_false_iff, Option.bind_some, nn, toList_inj, Bool.not_eq_true', Bool.not_eq_false', Int.le_refl, and_self, true_and, and_true, false_and, and_false, bne_self_eq_false, beq_self_eq_true, Int.reduceEq, Nat.reduceEqDiff, List.length_singleton, List.tail_cons, Int.reduceLE, Int.reduceLT, decide_eq_true_eq]
          rw [e2]
          exact Ev.now _
    · simp only [hmo, strsP_nil, strs_len, strs_elem, ints_len, ints_elem, items_list, fld_agg, elem_list, toStr_sc, toInt_sc, toBool_sc, headD_one, nat_int, get_bt, decide_eq_true_eq, decide_eq_false_iff_not, decide_true, decide_false, if_true, if_false, ite_self, Bool.not_true, Bool.not_false, Bool.false_eq_true, Bool.true_eq_false, Bool.true_and, Bool.false_and, Bool.and_true, Bool.and_false, not_true, not_false_iff, Option.bind_some, nn, toList_inj, Bool.not_eq_true', Bool.not_eq_false', Int.le_refl, and_self, true_and, and_true, false_and, and_false, bne_self_eq_false, beq_self_eq_true, Int.reduceEq, Nat.reduceEqDiff, List.length_singleton, List.tail_cons, Int.reduceLE, Int.reduceLT, decide_eq_true_eq]; exact Ev.now _
theorem mach_arg {P : Program} {t e f i b x : TypeId} (ht : tk P t = .slice e) (he : tk P e = .struct [b, f]) (hb : tk P b = .bool) (hf : tk P f = .slice x) (hx : tk P x = .struct [i, i]) (hi : tk P i = .int .i64) {n : Nat} {p : PV} (h : PvOk P (n + 5) t p) : ∃ m : List St, p = machP m ∧ m.length ≤ reachBytes ∧ ∀ s ∈ m, s.2.length ≤ reachBytes := by
  obtain ⟨ps, rfl, h1, h2⟩ := pvOk_slice ht h
  obtain ⟨m, rfl, h3⟩ := map_of (f := stP) (φ := fun s => s.2.length ≤ reachBytes) (ps := ps) (fun q hq => by
    obtain ⟨qs, rfl, hqs⟩ := pvOk_struct he (h2 q hq)
    obtain ⟨a, c, rfl, ha, hc⟩ := pvOkL2 hqs
    obtain ⟨bb, rfl⟩ := pvOk_bool hb ha
    obtain ⟨es, rfl, he1, he2⟩ := pvOk_slice hf hc
    obtain ⟨l, rfl, _⟩ := map_of (f := edgeP) (φ := fun _ => True) (ps := es) (fun q hq => by
      obtain ⟨rs, rfl, hrs⟩ := pvOk_struct hx (he2 q hq)
      obtain ⟨u, v, rfl, hu, hv⟩ := pvOkL2 hrs
      obtain ⟨y, rfl, _⟩ := pvOk_int hi hu
      obtain ⟨z, rfl, _⟩ := pvOk_int hi hv
      exact ⟨(y, z), rfl, trivial⟩)
    exact ⟨(bb, l), rfl, by simpa using he1⟩)
  exact ⟨m, rfl, by simpa using h1, h3⟩
/-! #### the laws' own helpers over slices of strings: comparison, copy -/
theorem eqStringS_loop (a : List ByteArray) (ha : a.length ≤ 9223372036854775807) : ∀ rest pre : List ByteArray, a = pre ++ rest → Ev2 (fun N n => laws_eqStringS.l0 N n (strsP a) (strsP a) (pre.length : Int)) [boolP true] := by
  intro rest
  induction rest with
  | nil =>
    intro pre hp
    refine Ev2.succ ?_
    simp only [laws_eqStringS.l0_eq, strs_len, decide_eq_true_eq, if_neg (at_end hp)]
    exact Ev2.now _
  | cons c rest ih =>
    intro pre hp
    refine Ev2.succ ?_
    simp only [laws_eqStringS.l0_eq, strs_len, decide_eq_true_eq, if_pos (at_lt hp), if_pos (nn (n := pre.length)), decide_true, Bool.not_true, Bool.false_eq_true, if_false, at_next hp ha]
    exact ih _ (at_step hp)
theorem eqStringS_ev (a : List ByteArray) (ha : a.length ≤ 9223372036854775807) : Ev (fun N => laws_eqStringS.f N [strsP a, strsP a]) [boolP true] := by
  simp only [laws_eqStringS.f_eq, decide_true, Bool.not_true, Bool.false_eq_true, if_false]
  exact (eqStringS_loop a ha a [] rfl).diag
/-! #### marks -/
theorem ten_zero : ((10 : Int) = 0) = False := by simp
theorem one_byte (p : PV) : (bytesOfL [p]).size = 1 := rfl
theorem markText_loop : ∀ (n : Nat) (x : Int) (t : ByteArray), x < (n : Int) → t.size + n ≤ 9223372036854775000 → ∃ r, Ev2 (fun N m => laws_markText.l0 N m x t) [strP r] := by
  intro n
  induction n with
  | zero =>
    intro x t hx ht
    refine ⟨(⟨#[109]⟩ : ByteArray) ++ t, Ev2.succ ?_⟩
    have hsz : (ByteArray.mk #[109]).size + t.size ≤ 9223372036854775807 := by have : (ByteArray.mk #[109]).size = 1 := rfl; omega
    simp only [laws_markText.l0_eq, eq_false (show ¬ 0 < x by omega), hsz, strs_len, strs_elem, ints_len, ints_elem, items_list, fld_agg, elem_list, toStr_sc, toInt_sc, toBool_sc, headD_one, nat_int, get_bt, decide_eq_true_eq, decide_eq_false_iff_not, decide_true, decide_false, if_true, if_false, ite_self, Bool.not_true, Bool.not_false, Bool.false_eq_true, Bool.true_eq_false, Bool.true_and, Bool.false_and, Bool.and_true, Bool.and_false, not_true, not_false_iff, Option.bind_some, nn, toList_inj, Bool.not_eq_true', Bool.not_eq_false', Int.le_refl, and_self, true_and, and_true, false_and, and_false, bne_self_eq_false, beq_self_eq_true, Int.reduceEq, Nat.reduceEqDiff, List.length_singleton, List.tail_cons, Int.reduceLE, Int.reduceLT, decide_eq_true_eq]
    exact Ev2.now _
  | succ n ih =>
    intro x t hx ht
    by_cases h0 : 0 < x
    · have hd : Int.tdiv x 10 < (n : Int) := by
        rw [Int.tdiv_eq_ediv_of_nonneg (by omega)]; omega
      have hdn : 0 ≤ Int.tdiv x 10 := by rw [Int.tdiv_eq_ediv_of_nonneg (by omega)]; omega
      have hw : IntKind.i64.wrap (Int.tdiv x 10) = Int.tdiv x 10 := wrap_id (by omega) (by omega)
      obtain ⟨r, hr⟩ := ih (Int.tdiv x 10) (bytesOfL [(PV.sc (.int .u8 (IntKind.u8.wrap (IntKind.i64.wrap (48 + (Int.tmod x 10))))))] ++ t) hd (by rw [ByteArray.size_append, one_byte]; omega)
      refine ⟨r, Ev2.succ ?_⟩
      have hsz : 1 + t.size ≤ 9223372036854775807 := by omega
      simp only [laws_markText.l0_eq, h0, ten_zero, one_byte, hsz, hw, strs_len, strs_elem, ints_len, ints_elem, items_list, fld_agg, elem_list, toStr_sc, toInt_sc, toBool_sc, headD_one, nat_int, get_bt, decide_eq_true_eq, decide_eq_false_iff_not, decide_true, decide_false, if_true, if_false, ite_self, Bool.not_true, Bool.not_false, Bool.false_eq_true, Bool.true_eq_false, Bool.true_and, Bool.false_and, Bool.and_true, Bool.and_false, not_true, not_false_iff, Option.bind_some, nn, toList_inj, Bool.not_eq_true', Bool.not_eq_false', Int.le_refl, and_self, true_and, and_true, false_and, and_false, bne_self_eq_false, beq_self_eq_true, Int.reduceEq, Nat.reduceEqDiff, List.length_singleton, List.tail_cons, Int.reduceLE, Int.reduceLT, decide_eq_true_eq]
      exact hr
    · refine ⟨(⟨#[109]⟩ : ByteArray) ++ t, Ev2.succ ?_⟩
      have hsz : (ByteArray.mk #[109]).size + t.size ≤ 9223372036854775807 := by have : (ByteArray.mk #[109]).size = 1 := rfl; omega
      simp only [laws_markText.l0_eq, h0, hsz, strs_len, strs_elem, ints_len, ints_elem, items_list, fld_agg, elem_list, toStr_sc, toInt_sc, toBool_sc, headD_one, nat_int, get_bt, decide_eq_true_eq, decide_eq_false_iff_not, decide_true, decide_false, if_true, if_false, ite_self, Bool.not_true, Bool.not_false, Bool.false_eq_true, Bool.true_eq_false, Bool.true_and, Bool.false_and, Bool.and_true, Bool.and_false, not_true, not_false_iff, Option.bind_some, nn, toList_inj, Bool.not_eq_true', Bool.not_eq_false', Int.le_refl, and_self, true_and, and_true, false_and, and_false, bne_self_eq_false, beq_self_eq_true, Int.reduceEq, Nat.reduceEqDiff, List.length_singleton, List.tail_cons, Int.reduceLE, Int.reduceLT, decide_eq_true_eq]
      exact Ev2.now _
theorem markText_total (x : Int) (hx : x < 4611686018427387904) : ∃ r, Ev (fun N => laws_markText.f N [intP x]) [strP r] := by
  by_cases h : x ≤ 0
  · refine ⟨(⟨#[109, 48]⟩ : ByteArray), ?_⟩
    simp only [laws_markText.f_eq, h, strs_len, strs_elem, ints_len, ints_elem, items_list, fld_agg, elem_list, toStr_sc, toInt_sc, toBool_sc, headD_one, nat_int, get_bt, decide_eq_true_eq, decide_eq_false_iff_not, decide_true, decide_false, if_true, if_false, ite_self, Bool.not_true, Bool.not_false, Bool.false_eq_true, Bool.true_eq_false, Bool.true_and, Bool.false_and, Bool.and_true, Bool.and_false, not_true, not_false_iff, Option.bind_some, nn, toList_inj, Bool.not_eq_true', Bool.not_eq_false', Int.le_refl, and_self, true_and, and_true, false_and, and_false, bne_self_eq_false, beq_self_eq_true, Int.reduceEq, Nat.reduceEqDiff, List.length_singleton, List.tail_cons, Int.reduceLE, Int.reduceLT, decide_eq_true_eq]; exact Ev.now _
  · obtain ⟨r, hr⟩ := markText_loop x.toNat.succ x ⟨#[]⟩ (by omega) (by simp [ByteArray.size]; omega)
    refine ⟨r, ?_⟩
    simp only [laws_markText.f_eq, h, strs_len, strs_elem, ints_len, ints_elem, items_list, fld_agg, elem_list, toStr_sc, toInt_sc, toBool_sc, headD_one, nat_int, get_bt, decide_eq_true_eq, decide_eq_false_iff_not, decide_true, decide_false, if_true, if_false, ite_self, Bool.not_true, Bool.not_false, Bool.false_eq_true, Bool.true_eq_false, Bool.true_and, Bool.false_and, Bool.and_true, Bool.and_false, not_true, not_false_iff, Option.bind_some, nn, toList_inj, Bool.not_eq_true', Bool.not_eq_false', Int.le_refl, and_self, true_and, and_true, false_and, and_false, bne_self_eq_false, beq_self_eq_true, Int.reduceEq, Nat.reduceEqDiff, List.length_singleton, List.tail_cons, Int.reduceLE, Int.reduceLT, decide_eq_true_eq]
    exact hr.diag
noncomputable def mt (x : Int) : ByteArray := if h : x < 4611686018427387904 then Classical.choose (markText_total x h) else ByteArray.empty
theorem markText_ev (x : Int) (hx : x < 4611686018427387904) : Ev (fun N => laws_markText.f N [intP x]) [strP (mt x)] := by
  unfold mt
  rw [dif_pos hx]
  exact Classical.choose_spec (markText_total x hx)
noncomputable def markStrs : Int → List ByteArray → List ByteArray
  | _, [] => []
  | k, _ :: l => mt k :: markStrs (k + 1) l
theorem markStrs_len (k : Int) (l : List ByteArray) : (markStrs k l).length = l.length := by
  induction l generalizing k with
  | nil => rfl
  | cons c l ih => simp [markStrs, ih]
theorem markStringS_loop (n : Nat) (hn : n ≤ 1152921504606846976) : ∀ rest pre : List ByteArray, pre.length + rest.length = n → ∀ x : Int, x + rest.length < 4611686018427387904 → 0 ≤ x →
    Ev2 (fun N m => laws_markStringS.l1 N m x (pre.length : Int) ((pre ++ rest).map strP)) [intP (x + rest.length), strsP (pre ++ markStrs x rest)] := by
  intro rest
  induction rest with
  | nil =>
    intro pre hp x hx h0
    refine Ev2.succ ?_
    simp only [laws_markStringS.l1_eq, List.length_map, at_end (xs := pre ++ []) rfl, markStrs, List.length_nil, Int.natCast_zero, Int.add_zero, strs_len, strs_elem, ints_len, ints_elem, items_list, fld_agg, elem_list, toStr_sc, toInt_sc, toBool_sc, headD_one, nat_int, get_bt, decide_eq_true_eq, decide_eq_false_iff_not, decide_true, decide_false, if_true, if_false, ite_self, Bool.not_true, Bool.not_false, Bool.false_eq_true, Bool.true_eq_false, Bool.true_and, Bool.false_and, Bool.and_true, Bool.and_false, not_true, not_false_iff, Option.bind_some, nn, toList_inj, Bool.not_eq_true', Bool.not_eq_false', Int.le_refl, and_self, true_and, and_true, false_and, and_false, bne_self_eq_false, beq_self_eq_true, Int.reduceEq, Nat.reduceEqDiff, List.length_singleton, List.tail_cons, Int.reduceLE, Int.reduceLT, decide_eq_true_eq]
    exact Ev2.now _
  | cons c rest ih =>
    intro pre hp x hx h0
    simp only [List.length_cons] at hx hp
    have hset : ((pre ++ c :: rest).map strP).set pre.length (strP (mt x)) = ((pre ++ [mt x]) ++ rest).map strP := by
      simp
    refine Ev2.succ ?_
    simp only [laws_markStringS.l1_eq, List.length_map, at_lt (xs := pre ++ c :: rest) rfl, at_next (xs := pre ++ c :: rest) rfl (by simp; omega), wrap_id (n := x + 1) (by omega) (by omega), strs_len, strs_elem, ints_len, ints_elem, items_list, fld_agg, elem_list, toStr_sc, toInt_sc, toBool_sc, headD_one, nat_int, get_bt, decide_eq_true_eq, decide_eq_false_iff_not, decide_true, decide_false, if_true, if_false, ite_self, Bool.not_true, Bool.not_false, Bool.false_eq_true, Bool.true_eq_false, Bool.true_and, Bool.false_and, Bool.and_true, Bool.and_false, not_true, not_false_iff, Option.bind_some, nn, toList_inj, Bool.not_eq_true', Bool.not_eq_false', Int.le_refl, and_self, true_and, and_true, false_and, and_false, bne_self_eq_false, beq_self_eq_true, Int.reduceEq, Nat.reduceEqDiff, List.length_singleton, List.tail_cons, Int.reduceLE, Int.reduceLT, decide_eq_true_eq]
    refine Ev2.bind (markText_ev x (by omega)) ?_
    simp only [strs_len, strs_elem, ints_len, ints_elem, items_list, fld_agg, elem_list, toStr_sc, toInt_sc, toBool_sc, headD_one, nat_int, get_bt, decide_eq_true_eq, decide_eq_false_iff_not, decide_true, decide_false, if_true, if_false, ite_self, Bool.not_true, Bool.not_false, Bool.false_eq_true, Bool.true_eq_false, Bool.true_and, Bool.false_and, Bool.and_true, Bool.and_false, not_true, not_false_iff, Option.bind_some, nn, toList_inj, Bool.not_eq_true', Bool.not_eq_false', Int.le_refl, and_self, true_and, and_true, false_and, and_false, bne_self_eq_false, beq_self_eq_true, Int.reduceEq, Nat.reduceEqDiff, List.length_singleton, List.tail_cons, Int.reduceLE, Int.reduceLT, decide_eq_true_eq, hset]
    have := ih (pre ++ [mt x]) (by simp; omega) (x + 1) (by omega) (by omega)
    have e : (pre ++ [mt x]).length = (pre ++ [c]).length := by simp
    rw [e] at this
    refine Ev2.ext this ?_
    simp only [markStrs, List.append_assoc, List.cons_append, List.nil_append, List.length_cons]
    congr 1
    simp; omega
theorem markStringS_ev (l : List ByteArray) (x : Int) (hl : l.length ≤ 1152921504606846976) (hx : x + l.length < 4611686018427387904) (h0 : 0 ≤ x) :
    Ev (fun N => laws_markStringS.f N [strsP l, intP x]) [intP (x + l.length), strsP (markStrs x l)] := by
  simp only [laws_markStringS.f_eq, strs_len, strs_elem, ints_len, ints_elem, items_list, fld_agg, elem_list, toStr_sc, toInt_sc, toBool_sc, headD_one, nat_int, get_bt, decide_eq_true_eq, decide_eq_false_iff_not, decide_true, decide_false, if_true, if_false, ite_self, Bool.not_true, Bool.not_false, Bool.false_eq_true, Bool.true_eq_false, Bool.true_and, Bool.false_and, Bool.and_true, Bool.and_false, not_true, not_false_iff, Option.bind_some, nn, toList_inj, Bool.not_eq_true', Bool.not_eq_false', Int.le_refl, and_self, true_and, and_true, false_and, and_false, bne_self_eq_false, beq_self_eq_true, Int.reduceEq, Nat.reduceEqDiff, List.length_singleton, List.tail_cons, Int.reduceLE, Int.reduceLT, decide_eq_true_eq]
  refine Ev2.diag (g := fun N n => laws_markStringS.l0 N n x 0 (strsP l)) (Ev2.succ ?_)
  cases l with
  | nil =>
    have h00 : ¬ (0 : Int) < (([] : List ByteArray).length : Int) := by simp
    simp only [laws_markStringS.l0_eq, strs_len, strs_elem, ints_len, ints_elem, items_list, fld_agg, elem_list, toStr_sc, toInt_sc, toBool_sc, headD_one, nat_int, get_bt, decide_eq_true_eq, decide_eq_false_iff_not, decide_true, decide_false, if_true, if_false, ite_self, Bool.not_true, Bool.not_false, Bool.false_eq_true, Bool.true_eq_false, Bool.true_and, Bool.false_and, Bool.and_true, Bool.and_false, not_true, not_false_iff, Option.bind_some, nn, toList_inj, Bool.not_eq_true', Bool.not_eq_false', Int.le_refl, and_self, true_and, and_true, false_and, and_false, bne_self_eq_false, beq_self_eq_true, Int.reduceEq, Nat.reduceEqDiff, List.length_singleton, List.tail_cons, Int.reduceLE, Int.reduceLT, decide_eq_true_eq, h00]
    refine Ev2.ext (Ev2.now _) ?_
    simp [markStrs]
  | cons c rest =>
    have hp : c :: rest = [] ++ c :: rest := rfl
    simp only [List.length_cons] at hx hl
    have hset : ((strsP (c :: rest)).items.set 0 (strP (mt x))) = (([] ++ [mt x]) ++ rest).map strP := by simp [strsP, PV.items]
    have h00 : (0 : Int) < (((c :: rest).length : Nat) : Int) := by simp only [List.length_cons]; omega
    have h01 : IntKind.i64.wrap (0 + 1) = (([] ++ [mt x] : List ByteArray).length : Int) := by rw [wrap_id (by omega) (by omega)]; simp
    simp only [laws_markStringS.l0_eq, strs_len, strs_elem, ints_len, ints_elem, items_list, fld_agg, elem_list, toStr_sc, toInt_sc, toBool_sc, headD_one, nat_int, get_bt, decide_eq_true_eq, decide_eq_false_iff_not, decide_true, decide_false, if_true, if_false, ite_self, Bool.not_true, Bool.not_false, Bool.false_eq_true, Bool.true_eq_false, Bool.true_and, Bool.false_and, Bool.and_true, Bool.and_false, not_true, not_false_iff, Option.bind_some, nn, toList_inj, Bool.not_eq_true', Bool.not_eq_false', Int.le_refl, and_self, true_and, and_true, false_and, and_false, bne_self_eq_false, beq_self_eq_true, Int.reduceEq, Nat.reduceEqDiff, List.length_singleton, List.tail_cons, Int.reduceLE, Int.reduceLT, decide_eq_true_eq, h00, h01, wrap_id (n := x + 1) (by omega) (by omega)]
    refine Ev2.bind (markText_ev x (by omega)) ?_
    have h02 : (0 : Int).toNat = 0 := rfl
    simp only [strs_len, strs_elem, ints_len, ints_elem, items_list, fld_agg, elem_list, toStr_sc, toInt_sc, toBool_sc, headD_one, nat_int, get_bt, decide_eq_true_eq, decide_eq_false_iff_not, decide_true, decide_false, if_true, if_false, ite_self, Bool.not_true, Bool.not_false, Bool.false_eq_true, Bool.true_eq_false, Bool.true_and, Bool.false_and, Bool.and_true, Bool.and_false, not_true, not_false_iff, Option.bind_some, nn, toList_inj, Bool.not_eq_true', Bool.not_eq_false', Int.le_refl, and_self, true_and, and_true, false_and, and_false, bne_self_eq_false, beq_self_eq_true, Int.reduceEq, Nat.reduceEqDiff, List.length_singleton, List.tail_cons, Int.reduceLE, Int.reduceLT, decide_eq_true_eq, h02, hset]
    refine Ev2.ext (markStringS_loop (rest.length + 1) (by omega) rest ([] ++ [mt x]) (by simp; omega) (x + 1) (by omega) (by omega)) ?_
    simp only [markStrs, List.append_assoc, List.cons_append, List.nil_append, List.length_cons]
    congr 1
    simp; omega
theorem heldStringS_loop (n : Nat) (hn : n ≤ 1152921504606846976) : ∀ rest pre : List ByteArray, pre.length + rest.length = n → ∀ x : Int, x + rest.length < 4611686018427387904 → 0 ≤ x →
    Ev2 (fun N m => laws_heldStringS.l0 N m (strsP (pre ++ markStrs x rest)) x (pre.length : Int)) [intP (x + rest.length)] := by
  intro rest
  induction rest with
  | nil =>
    intro pre hp x hx h0
    show Ev2 (fun N m => laws_heldStringS.l0 N m (strsP (pre ++ [])) x (pre.length : Int)) _
    refine Ev2.succ ?_
    simp only [laws_heldStringS.l0_eq, at_end (xs := pre ++ []) rfl, List.length_nil, Int.natCast_zero, Int.add_zero, strs_len, strs_elem, ints_len, ints_elem, items_list, fld_agg, elem_list, toStr_sc, toInt_sc, toBool_sc, headD_one, nat_int, get_bt, decide_eq_true_eq, decide_eq_false_iff_not, decide_true, decide_false, if_true, if_false, ite_self, Bool.not_true, Bool.not_false, Bool.false_eq_true, Bool.true_eq_false, Bool.true_and, Bool.false_and, Bool.and_true, Bool.and_false, not_true, not_false_iff, Option.bind_some, nn, toList_inj, Bool.not_eq_true', Bool.not_eq_false', Int.le_refl, and_self, true_and, and_true, false_and, and_false, bne_self_eq_false, beq_self_eq_true, Int.reduceEq, Nat.reduceEqDiff, List.length_singleton, List.tail_cons, Int.reduceLE, Int.reduceLT, decide_eq_true_eq]
    exact Ev2.now _
  | cons c rest ih =>
    intro pre hp x hx h0
    simp only [List.length_cons] at hx hp
    show Ev2 (fun N m => laws_heldStringS.l0 N m (strsP (pre ++ mt x :: markStrs (x + 1) rest)) x (pre.length : Int)) _
    have hq : pre ++ mt x :: markStrs (x + 1) rest = pre ++ mt x :: markStrs (x + 1) rest := rfl
    refine Ev2.succ ?_
    simp only [laws_heldStringS.l0_eq, at_lt hq, at_getD hq, at_next hq (by simp [markStrs_len]; omega), wrap_id (n := x + 1) (by omega) (by omega), strs_len, strs_elem, ints_len, ints_elem, items_list, fld_agg, elem_list, toStr_sc, toInt_sc, toBool_sc, headD_one, nat_int, get_bt, decide_eq_true_eq, decide_eq_false_iff_not, decide_true, decide_false, if_true, if_false, ite_self, Bool.not_true, Bool.not_false, Bool.false_eq_true, Bool.true_eq_false, Bool.true_and, Bool.false_and, Bool.and_true, Bool.and_false, not_true, not_false_iff, Option.bind_some, nn, toList_inj, Bool.not_eq_true', Bool.not_eq_false', Int.le_refl, and_self, true_and, and_true, false_and, and_false, bne_self_eq_false, beq_self_eq_true, Int.reduceEq, Nat.reduceEqDiff, List.length_singleton, List.tail_cons, Int.reduceLE, Int.reduceLT, decide_eq_true_eq]
    refine Ev2.bind (markText_ev x (by omega)) ?_
    simp only [strs_len, strs_elem, ints_len, ints_elem, items_list, fld_agg, elem_list, toStr_sc, toInt_sc, toBool_sc, headD_one, nat_int, get_bt, decide_eq_true_eq, decide_eq_false_iff_not, decide_true, decide_false, if_true, if_false, ite_self, Bool.not_true, Bool.not_false, Bool.false_eq_true, Bool.true_eq_false, Bool.true_and, Bool.false_and, Bool.and_true, Bool.and_false, not_true, not_false_iff, Option.bind_some, nn, toList_inj, Bool.not_eq_true', Bool.not_eq_false', Int.le_refl, and_self, true_and, and_true, false_and, and_false, bne_self_eq_false, beq_self_eq_true, Int.reduceEq, Nat.reduceEqDiff, List.length_singleton, List.tail_cons, Int.reduceLE, Int.reduceLT, decide_eq_true_eq]
    have := ih (pre ++ [mt x]) (by simp; omega) (x + 1) (by omega) (by omega)
    simp only [List.append_assoc, List.cons_append, List.nil_append] at this
    refine Ev2.ext this ?_
    congr 2
    simp; omega
theorem heldStringS_ev (l : List ByteArray) (x : Int) (hl : l.length ≤ 1152921504606846976) (hx : x + l.length < 4611686018427387904) (h0 : 0 ≤ x) :
    Ev (fun N => laws_heldStringS.f N [strsP (markStrs x l), intP x]) [intP (x + l.length)] := by
  simp only [laws_heldStringS.f_eq, strs_len, strs_elem, ints_len, ints_elem, items_list, fld_agg, elem_list, toStr_sc, toInt_sc, toBool_sc, headD_one, nat_int, get_bt, decide_eq_true_eq, decide_eq_false_iff_not, decide_true, decide_false, if_true, if_false, ite_self, Bool.not_true, Bool.not_false, Bool.false_eq_true, Bool.true_eq_false, Bool.true_and, Bool.false_and, Bool.and_true, Bool.and_false, not_true, not_false_iff, Option.bind_some, nn, toList_inj, Bool.not_eq_true', Bool.not_eq_false', Int.le_refl, and_self, true_and, and_true, false_and, and_false, bne_self_eq_false, beq_self_eq_true, Int.reduceEq, Nat.reduceEqDiff, List.length_singleton, List.tail_cons, Int.reduceLE, Int.reduceLT, decide_eq_true_eq]
  exact (heldStringS_loop l.length hl l [] (by simp) x hx h0).diag
/-- The law's own function answers true. -/
theorem law (ps : List PV) (h : PvOkL (PvOk Try.prog 8) [22, 9, 3] ps) : ∃ N, laws_FnExactMachineBegins.f N ps = some [boolP true] := by
  obtain ⟨p, p2, q, rfl, h1, h12, h2⟩ := pvOkL3 h
  obtain ⟨m, rfl, hm1, hm2⟩ := mach_arg (P := Try.prog) (t := 22) (e := 53) (f := 51) (b := 4) (x := 92) (i := 3) (by kernel_rfl) (by kernel_rfl) (by kernel_rfl) (by kernel_rfl) (by kernel_rfl) (by kernel_rfl) h1
  obtain ⟨ah, rfl, _⟩ := pvOk_str (P := Try.prog) (t := 9) (by kernel_rfl) h12
  obtain ⟨most, rfl, _⟩ := pvOk_int (P := Try.prog) (t := 3) (k := .i64) (by kernel_rfl) h2
  refine Ev.some ?_
  simp only [laws_FnExactMachineBegins.f_eq, strs_len, strs_elem, ints_len, ints_elem, items_list, fld_agg, elem_list, toStr_sc, toInt_sc, toBool_sc, headD_one, nat_int, get_bt, decide_eq_true_eq, decide_eq_false_iff_not, decide_true, decide_false, if_true, if_false, ite_self, Bool.not_true, Bool.not_false, Bool.false_eq_true, Bool.true_eq_false, Bool.true_and, Bool.false_and, Bool.and_true, Bool.and_false, not_true, not_false_iff, Option.bind_some, nn, toList_inj, Bool.not_eq_true', Bool.not_eq_false', Int.le_refl, and_self, true_and, and_true, false_and, and_false, bne_self_eq_false, beq_self_eq_true, Int.reduceEq, Nat.reduceEqDiff, List.length_singleton, List.tail_cons, Int.reduceLE, Int.reduceLT, decide_eq_true_eq]
  by_cases ha : (1048576 : Int) < (ah.size : Int)
  · simp only [ha, strs_len, strs_elem, ints_len, ints_elem, items_list, fld_agg, elem_list, toStr_sc, toInt_sc, toBool_sc, headD_one, nat_int, get_bt, decide_eq_true_eq, decide_eq_false_iff_not, decide_true, decide_false, if_true, if_false, ite_self, Bool.not_true, Bool.not_false, Bool.false_eq_true, Bool.true_eq_false, Bool.true_and, Bool.false_and, Bool.and_true, Bool.and_false, not_true, not_false_iff, Option.bind_some, nn, toList_inj, Bool.not_eq_true', Bool.not_eq_false', Int.le_refl, and_self, true_and, and_true, false_and, and_false, bne_self_eq_false, beq_self_eq_true, Int.reduceEq, Nat.reduceEqDiff, List.length_singleton, List.tail_cons, Int.reduceLE, Int.reduceLT, decide_eq_true_eq]; exact Ev.now _
  have ha' : ah.size ≤ 1048576 := by omega
  simp only [ha, strs_len, strs_elem, ints_len, ints_elem, items_list, fld_agg, elem_list, toStr_sc, toInt_sc, toBool_sc, headD_one, nat_int, get_bt, decide_eq_true_eq, decide_eq_false_iff_not, decide_true, decide_false, if_true, if_false, ite_self, Bool.not_true, Bool.not_false, Bool.false_eq_true, Bool.true_eq_false, Bool.true_and, Bool.false_and, Bool.and_true, Bool.and_false, not_true, not_false_iff, Option.bind_some, nn, toList_inj, Bool.not_eq_true', Bool.not_eq_false', Int.le_refl, and_self, true_and, and_true, false_and, and_false, bne_self_eq_false, beq_self_eq_true, Int.reduceEq, Nat.reduceEqDiff, List.length_singleton, List.tail_cons, Int.reduceLE, Int.reduceLT, decide_eq_true_eq]
  obtain ⟨r, hr, hv⟩ := szStates_ev m (by simp only [reachBytes] at hm1; omega) (fun s hs => by have := hm2 s hs; simp only [reachBytes] at this; omega) 1048576 (by omega) (by omega)
  refine Ev.bind hr ?_
  by_cases h0 : r < 0
  · simp only [h0, strs_len, strs_elem, ints_len, ints_elem, items_list, fld_agg, elem_list, toStr_sc, toInt_sc, toBool_sc, headD_one, nat_int, get_bt, decide_eq_true_eq, decide_eq_false_iff_not, decide_true, decide_false, if_true, if_false, ite_self, Bool.not_true, Bool.not_false, Bool.false_eq_true, Bool.true_eq_false, Bool.true_and, Bool.false_and, Bool.and_true, Bool.and_false, not_true, not_false_iff, Option.bind_some, nn, toList_inj, Bool.not_eq_true', Bool.not_eq_false', Int.le_refl, and_self, true_and, and_true, false_and, and_false, bne_self_eq_false, beq_self_eq_true, Int.reduceEq, Nat.reduceEqDiff, List.length_singleton, List.tail_cons, Int.reduceLE, Int.reduceLT, decide_eq_true_eq]; exact Ev.now _
  have hm : MachB m := ⟨by have := (hv (by omega)).1; omega, fun s hs => by have := (hv (by omega)).2 s hs; omega⟩
  have hl := bgM_len m ah most
  have hc := cntM_le m hm
  simp only [h0, strs_len, strs_elem, ints_len, ints_elem, items_list, fld_agg, elem_list, toStr_sc, toInt_sc, toBool_sc, headD_one, nat_int, get_bt, decide_eq_true_eq, decide_eq_false_iff_not, decide_true, decide_false, if_true, if_false, ite_self, Bool.not_true, Bool.not_false, Bool.false_eq_true, Bool.true_eq_false, Bool.true_and, Bool.false_and, Bool.and_true, Bool.and_false, not_true, not_false_iff, Option.bind_some, nn, toList_inj, Bool.not_eq_true', Bool.not_eq_false', Int.le_refl, and_self, true_and, and_true, false_and, and_false, bne_self_eq_false, beq_self_eq_true, Int.reduceEq, Nat.reduceEqDiff, List.length_singleton, List.tail_cons, Int.reduceLE, Int.reduceLT, decide_eq_true_eq]
  refine Ev.bind (toStates_ev m hm) ?_
  refine Ev.bind (specBegins_ev m hm ah ha' most) ?_
  refine Ev.bind (toStates_ev m hm) ?_
  refine Ev.bind (implBegins_ev m hm ah ha' most) ?_
  simp only [headD_one]
  refine Ev.bind (eqStringS_ev (bgM m ah most) (by omega)) ?_
  simp only [List.tail_cons, strs_len, strs_elem, ints_len, ints_elem, items_list, fld_agg, elem_list, toStr_sc, toInt_sc, toBool_sc, headD_one, nat_int, get_bt, decide_eq_true_eq, decide_eq_false_iff_not, decide_true, decide_false, if_true, if_false, ite_self, Bool.not_true, Bool.not_false, Bool.false_eq_true, Bool.true_eq_false, Bool.true_and, Bool.false_and, Bool.and_true, Bool.and_false, not_true, not_false_iff, Option.bind_some, nn, toList_inj, Bool.not_eq_true', Bool.not_eq_false', Int.le_refl, and_self, true_and, and_true, false_and, and_false, bne_self_eq_false, beq_self_eq_true, Int.reduceEq, Nat.reduceEqDiff, List.length_singleton, List.tail_cons, Int.reduceLE, Int.reduceLT, decide_eq_true_eq]
  refine Ev.bind (toStates_ev m hm) ?_
  refine Ev.bind (eqStates_ev m hm) ?_
  simp only [strs_len, strs_elem, ints_len, ints_elem, items_list, fld_agg, elem_list, toStr_sc, toInt_sc, toBool_sc, headD_one, nat_int, get_bt, decide_eq_true_eq, decide_eq_false_iff_not, decide_true, decide_false, if_true, if_false, ite_self, Bool.not_true, Bool.not_false, Bool.false_eq_true, Bool.true_eq_false, Bool.true_and, Bool.false_and, Bool.and_true, Bool.and_false, not_true, not_false_iff, Option.bind_some, nn, toList_inj, Bool.not_eq_true', Bool.not_eq_false', Int.le_refl, and_self, true_and, and_true, false_and, and_false, bne_self_eq_false, beq_self_eq_true, Int.reduceEq, Nat.reduceEqDiff, List.length_singleton, List.tail_cons, Int.reduceLE, Int.reduceLT, decide_eq_true_eq]
  refine Ev.bind (markS_ev m 1 hm (by omega) (by omega)) ?_
  have hneg : ¬ (1 + (cntM m : Int) < 0) := by omega
  simp only [hneg, strs_len, strs_elem, ints_len, ints_elem, items_list, fld_agg, elem_list, toStr_sc, toInt_sc, toBool_sc, headD_one, nat_int, get_bt, decide_eq_true_eq, decide_eq_false_iff_not, decide_true, decide_false, if_true, if_false, ite_self, Bool.not_true, Bool.not_false, Bool.false_eq_true, Bool.true_eq_false, Bool.true_and, Bool.false_and, Bool.and_true, Bool.and_false, not_true, not_false_iff, Option.bind_some, nn, toList_inj, Bool.not_eq_true', Bool.not_eq_false', Int.le_refl, and_self, true_and, and_true, false_and, and_false, bne_self_eq_false, beq_self_eq_true, Int.reduceEq, Nat.reduceEqDiff, List.length_singleton, List.tail_cons, Int.reduceLE, Int.reduceLT, decide_eq_true_eq]
  refine Ev.bind (eqStringS_ev (bgM m ah most) (by omega)) ?_
  simp only [strs_len, strs_elem, ints_len, ints_elem, items_list, fld_agg, elem_list, toStr_sc, toInt_sc, toBool_sc, headD_one, nat_int, get_bt, decide_eq_true_eq, decide_eq_false_iff_not, decide_true, decide_false, if_true, if_false, ite_self, Bool.not_true, Bool.not_false, Bool.false_eq_true, Bool.true_eq_false, Bool.true_and, Bool.false_and, Bool.and_true, Bool.and_false, not_true, not_false_iff, Option.bind_some, nn, toList_inj, Bool.not_eq_true', Bool.not_eq_false', Int.le_refl, and_self, true_and, and_true, false_and, and_false, bne_self_eq_false, beq_self_eq_true, Int.reduceEq, Nat.reduceEqDiff, List.length_singleton, List.tail_cons, Int.reduceLE, Int.reduceLT, decide_eq_true_eq]
  refine Ev.bind (markStringS_ev (bgM m ah most) 1 (by omega) (by omega) (by omega)) ?_
  refine Ev.bind (heldStringS_ev (bgM m ah most) 1 (by omega) (by omega) (by omega)) ?_
  have hneg2 : ¬ (1 + ((bgM m ah most).length : Int) < 0) := by omega
  simp only [hneg2, strs_len, strs_elem, ints_len, ints_elem, items_list, fld_agg, elem_list, toStr_sc, toInt_sc, toBool_sc, headD_one, nat_int, get_bt, decide_eq_true_eq, decide_eq_false_iff_not, decide_true, decide_false, if_true, if_false, ite_self, Bool.not_true, Bool.not_false, Bool.false_eq_true, Bool.true_eq_false, Bool.true_and, Bool.false_and, Bool.and_true, Bool.and_false, not_true, not_false_iff, Option.bind_some, nn, toList_inj, Bool.not_eq_true', Bool.not_eq_false', Int.le_refl, and_self, true_and, and_true, false_and, and_false, bne_self_eq_false, beq_self_eq_true, Int.reduceEq, Nat.reduceEqDiff, List.length_singleton, List.tail_cons, Int.reduceLE, Int.reduceLT, decide_eq_true_eq]
  refine Ev.bind (toStates_ev m hm) ?_
  refine Ev.bind (implBegins_ev m hm ah ha' most) ?_
  simp only [headD_one]
  refine Ev.bind (eqStringS_ev (bgM m ah most) (by omega)) ?_
  simp only [List.tail_cons, strs_len, strs_elem, ints_len, ints_elem, items_list, fld_agg, elem_list, toStr_sc, toInt_sc, toBool_sc, headD_one, nat_int, get_bt, decide_eq_true_eq, decide_eq_false_iff_not, decide_true, decide_false, if_true, if_false, ite_self, Bool.not_true, Bool.not_false, Bool.false_eq_true, Bool.true_eq_false, Bool.true_and, Bool.false_and, Bool.and_true, Bool.and_false, not_true, not_false_iff, Option.bind_some, nn, toList_inj, Bool.not_eq_true', Bool.not_eq_false', Int.le_refl, and_self, true_and, and_true, false_and, and_false, bne_self_eq_false, beq_self_eq_true, Int.reduceEq, Nat.reduceEqDiff, List.length_singleton, List.tail_cons, Int.reduceLE, Int.reduceLT, decide_eq_true_eq]
  refine Ev.bind (heldStringS_ev (bgM m ah most) 1 (by omega) (by omega) (by omega)) ?_
  simp only [hneg2, strs_len, strs_elem, ints_len, ints_elem, items_list, fld_agg, elem_list, toStr_sc, toInt_sc, toBool_sc, headD_one, nat_int, get_bt, decide_eq_true_eq, decide_eq_false_iff_not, decide_true, decide_false, if_true, if_false, ite_self, Bool.not_true, Bool.not_false, Bool.false_eq_true, Bool.true_eq_false, Bool.true_and, Bool.false_and, Bool.and_true, Bool.and_false, not_true, not_false_iff, Option.bind_some, nn, toList_inj, Bool.not_eq_true', Bool.not_eq_false', Int.le_refl, and_self, true_and, and_true, false_and, and_false, bne_self_eq_false, beq_self_eq_true, Int.reduceEq, Nat.reduceEqDiff, List.length_singleton, List.tail_cons, Int.reduceLE, Int.reduceLT, decide_eq_true_eq]
  exact Ev.now _
end Go.Proofs.Ytfbkfhdlingedaa.FnExactMachineBegins
