/- The law FnExactRingGet, over the trees that its functions compute: it answers true, for all arguments of the bounds that the row grants. -/
import Derived.Test.YtkmcdpdhnccpjaaGreatDoorFnFnExactRingGety1
set_option linter.unusedVariables false
set_option linter.unusedSimpArgs false
set_option maxRecDepth 10000
namespace Go.Proofs.YtkmcdpdhnccpjaaGreatDoor.FnExactRingGet
open Go Go.Proofs.YtkmcdpdhnccpjaaGreatDoorAm
/-! #### turns taken -/
def takeR (ks : List ByteArray) (fs : List Int) (k : ByteArray) (f : Int) (s : ByteArray) : List PV :=
  if ringM ks fs = true then (if okT ks fs k f = true ∧ turnS ks k f = s then [ringP (ks ++ [k]) (fs ++ [f]), boolP true] else [ringP ks fs, boolP false]) else [ringP [] [], boolP false]
theorem ring_none : PV.agg [PV.list [], PV.list []] = ringP [] [] := rfl
theorem implTake_ev (ks : List ByteArray) (fs : List Int) (k : ByteArray) (f : Int) (s : ByteArray) (hf : fs.length ≤ 9223372036854775807) (hk : ks.length ≤ 9223372036854775807) (hs : ∀ s ∈ ks, s.size ≤ 9223372036854775807) (hks : k.size ≤ 9223372036854775807) :
    Ev (fun N => impl_RingTake.f N [ringP ks fs, turnP k f s]) (takeR ks fs k f s) := by
  simp only [impl_RingTake.f_eq, ring_f0, ring_f1, ring_agg, turn_f0, turn_f1, turn_f2, toStr_sc, toInt_sc]
  refine Ev.bind (implRingOk_ev ks fs hf hk hs) ?_
  unfold takeR
  cases h : ringM ks fs with
  | false => simp only [strs_len, strs_elem, ints_len, ints_elem, items_list, fld_agg, elem_list, toStr_sc, toInt_sc, toBool_sc, headD_one, nat_int, get_bt, decide_eq_true_eq, decide_eq_false_iff_not, decide_true, decide_false, if_true, if_false, ite_self, Bool.not_true, Bool.not_false, Bool.false_eq_true, Bool.true_eq_false, Bool.true_and, Bool.false_and, Bool.and_true, Bool.and_false, not_true, not_false_iff, Option.bind_some, nn, toList_inj, Bool.not_eq_true', Bool.not_eq_false', Int.le_refl, and_self, true_and, and_true, false_and, and_false, bne_self_eq_false, beq_self_eq_true, Int.reduceEq, Nat.reduceEqDiff, List.length_singleton, List.tail_cons, Int.reduceLE, Int.reduceLT, decide_eq_true_eq, ring_none]; exact Ev.now _
  | true =>
    obtain ⟨n1, n2, n3⟩ := ringM_len h
    simp only [strs_len, strs_elem, ints_len, ints_elem, items_list, fld_agg, elem_list, toStr_sc, toInt_sc, toBool_sc, headD_one, nat_int, get_bt, decide_eq_true_eq, decide_eq_false_iff_not, decide_true, decide_false, if_true, if_false, ite_self, Bool.not_true, Bool.not_false, Bool.false_eq_true, Bool.true_eq_false, Bool.true_and, Bool.false_and, Bool.and_true, Bool.and_false, not_true, not_false_iff, Option.bind_some, nn, toList_inj, Bool.not_eq_true', Bool.not_eq_false', Int.le_refl, and_self, true_and, and_true, false_and, and_false, bne_self_eq_false, beq_self_eq_true, Int.reduceEq, Nat.reduceEqDiff, List.length_singleton, List.tail_cons, Int.reduceLE, Int.reduceLT, decide_eq_true_eq]
    refine Ev.bind (implTurn_ev ks fs k f hf hk hs hks) ?_
    unfold turnR noT
    cases ht : okT ks fs k f with
    | false =>
      simp only [strs_len, strs_elem, ints_len, ints_elem, items_list, fld_agg, elem_list, toStr_sc, toInt_sc, toBool_sc, headD_one, nat_int, get_bt, decide_eq_true_eq, decide_eq_false_iff_not, decide_true, decide_false, if_true, if_false, ite_self, Bool.not_true, Bool.not_false, Bool.false_eq_true, Bool.true_eq_false, Bool.true_and, Bool.false_and, Bool.and_true, Bool.and_false, not_true, not_false_iff, Option.bind_some, nn, toList_inj, Bool.not_eq_true', Bool.not_eq_false', Int.le_refl, and_self, true_and, and_true, false_and, and_false, bne_self_eq_false, beq_self_eq_true, Int.reduceEq, Nat.reduceEqDiff, List.length_singleton, List.tail_cons, Int.reduceLE, Int.reduceLT, decide_eq_true_eq, turn_f0, turn_f1, turn_f2, clone_val ks fs (by omega) (by omega), ring_f0, ring_f1, ring_agg]
      exact Ev.now _
    | true =>
      by_cases he : turnS ks k f = s
      · simp only [strs_len, strs_elem, ints_len, ints_elem, items_list, fld_agg, elem_list, toStr_sc, toInt_sc, toBool_sc, headD_one, nat_int, get_bt, decide_eq_true_eq, decide_eq_false_iff_not, decide_true, decide_false, if_true, if_false, ite_self, Bool.not_true, Bool.not_false, Bool.false_eq_true, Bool.true_eq_false, Bool.true_and, Bool.false_and, Bool.and_true, Bool.and_false, not_true, not_false_iff, Option.bind_some, nn, toList_inj, Bool.not_eq_true', Bool.not_eq_false', Int.le_refl, and_self, true_and, and_true, false_and, and_false, bne_self_eq_false, beq_self_eq_true, Int.reduceEq, Nat.reduceEqDiff, List.length_singleton, List.tail_cons, Int.reduceLE, Int.reduceLT, decide_eq_true_eq, turn_f0, turn_f1, turn_f2, he, with_val ks fs k f (by omega) (by omega), ring_f0, ring_f1, ring_agg]
        exact Ev.now _
      · simp only [strs_len, strs_elem, ints_len, ints_elem, items_list, fld_agg, elem_list, toStr_sc, toInt_sc, toBool_sc, headD_one, nat_int, get_bt, decide_eq_true_eq, decide_eq_false_iff_not, decide_true, decide_false, if_true, if_false, ite_self, Bool.not_true, Bool.not_false, Bool.false_eq_true, Bool.true_eq_false, Bool.true_and, Bool.false_and, Bool.and_true, Bool.and_false, not_true, not_false_iff, Option.bind_some, nn, toList_inj, Bool.not_eq_true', Bool.not_eq_false', Int.le_refl, and_self, true_and, and_true, false_and, and_false, bne_self_eq_false, beq_self_eq_true, Int.reduceEq, Nat.reduceEqDiff, List.length_singleton, List.tail_cons, Int.reduceLE, Int.reduceLT, decide_eq_true_eq, turn_f0, turn_f1, turn_f2, he, clone_val ks fs (by omega) (by omega), ring_f0, ring_f1, ring_agg]
        exact Ev.now _
theorem specTake_ev (ks : List ByteArray) (fs : List Int) (k : ByteArray) (f : Int) (s : ByteArray) (hf : fs.length ≤ 9223372036854775807) (hk : ks.length ≤ 9223372036854775807) (hs : ∀ s ∈ ks, s.size ≤ 9223372036854775807) (hks : k.size ≤ 9223372036854775807) :
    Ev (fun N => spec_RingTake.f N [ringP ks fs, turnP k f s]) (takeR ks fs k f s) := by
  simp only [spec_RingTake.f_eq, ring_f0, ring_f1, ring_agg, turn_f0, turn_f1, turn_f2, toStr_sc, toInt_sc]
  refine Ev.bind (specRingOk_ev ks fs hf hk hs) ?_
  unfold takeR
  cases h : ringM ks fs with
  | false => simp only [strs_len, strs_elem, ints_len, ints_elem, items_list, fld_agg, elem_list, toStr_sc, toInt_sc, toBool_sc, headD_one, nat_int, get_bt, decide_eq_true_eq, decide_eq_false_iff_not, decide_true, decide_false, if_true, if_false, ite_self, Bool.not_true, Bool.not_false, Bool.false_eq_true, Bool.true_eq_false, Bool.true_and, Bool.false_and, Bool.and_true, Bool.and_false, not_true, not_false_iff, Option.bind_some, nn, toList_inj, Bool.not_eq_true', Bool.not_eq_false', Int.le_refl, and_self, true_and, and_true, false_and, and_false, bne_self_eq_false, beq_self_eq_true, Int.reduceEq, Nat.reduceEqDiff, List.length_singleton, List.tail_cons, Int.reduceLE, Int.reduceLT, decide_eq_true_eq, ring_none]; exact Ev.now _
  | true =>
    obtain ⟨n1, n2, n3⟩ := ringM_len h
    have c1 : (ks.length + 1 ≤ 8796093022208) = True := true_of (by omega)
    have c2 : (fs.length + 1 ≤ 17592186044416) = True := true_of (by omega)
    simp only [strs_len, strs_elem, ints_len, ints_elem, items_list, fld_agg, elem_list, toStr_sc, toInt_sc, toBool_sc, headD_one, nat_int, get_bt, decide_eq_true_eq, decide_eq_false_iff_not, decide_true, decide_false, if_true, if_false, ite_self, Bool.not_true, Bool.not_false, Bool.false_eq_true, Bool.true_eq_false, Bool.true_and, Bool.false_and, Bool.and_true, Bool.and_false, not_true, not_false_iff, Option.bind_some, nn, toList_inj, Bool.not_eq_true', Bool.not_eq_false', Int.le_refl, and_self, true_and, and_true, false_and, and_false, bne_self_eq_false, beq_self_eq_true, Int.reduceEq, Nat.reduceEqDiff, List.length_singleton, List.tail_cons, Int.reduceLE, Int.reduceLT, decide_eq_true_eq]
    refine Ev.bind (specTurn_ev ks fs k f hf hk hs hks) ?_
    unfold turnR noT
    cases ht : okT ks fs k f with
    | false =>
      simp only [strs_len, strs_elem, ints_len, ints_elem, items_list, fld_agg, elem_list, toStr_sc, toInt_sc, toBool_sc, headD_one, nat_int, get_bt, decide_eq_true_eq, decide_eq_false_iff_not, decide_true, decide_false, if_true, if_false, ite_self, Bool.not_true, Bool.not_false, Bool.false_eq_true, Bool.true_eq_false, Bool.true_and, Bool.false_and, Bool.and_true, Bool.and_false, not_true, not_false_iff, Option.bind_some, nn, toList_inj, Bool.not_eq_true', Bool.not_eq_false', Int.le_refl, and_self, true_and, and_true, false_and, and_false, bne_self_eq_false, beq_self_eq_true, Int.reduceEq, Nat.reduceEqDiff, List.length_singleton, List.tail_cons, Int.reduceLE, Int.reduceLT, decide_eq_true_eq, turn_f0, turn_f1, turn_f2, copy_val ks fs (by omega) (by omega), ring_f0, ring_f1, ring_agg]
      exact Ev.now _
    | true =>
      by_cases he : turnS ks k f = s
      · simp only [strs_len, strs_elem, ints_len, ints_elem, items_list, fld_agg, elem_list, toStr_sc, toInt_sc, toBool_sc, headD_one, nat_int, get_bt, decide_eq_true_eq, decide_eq_false_iff_not, decide_true, decide_false, if_true, if_false, ite_self, Bool.not_true, Bool.not_false, Bool.false_eq_true, Bool.true_eq_false, Bool.true_and, Bool.false_and, Bool.and_true, Bool.and_false, not_true, not_false_iff, Option.bind_some, nn, toList_inj, Bool.not_eq_true', Bool.not_eq_false', Int.le_refl, and_self, true_and, and_true, false_and, and_false, bne_self_eq_false, beq_self_eq_true, Int.reduceEq, Nat.reduceEqDiff, List.length_singleton, List.tail_cons, Int.reduceLE, Int.reduceLT, decide_eq_true_eq, turn_f0, turn_f1, turn_f2, he, copy_val ks fs (by omega) (by omega), ring_f0, ring_f1, ring_agg, strs_snoc, ints_snoc, c1, c2]
        exact Ev.now _
      · simp only [strs_len, strs_elem, ints_len, ints_elem, items_list, fld_agg, elem_list, toStr_sc, toInt_sc, toBool_sc, headD_one, nat_int, get_bt, decide_eq_true_eq, decide_eq_false_iff_not, decide_true, decide_false, if_true, if_false, ite_self, Bool.not_true, Bool.not_false, Bool.false_eq_true, Bool.true_eq_false, Bool.true_and, Bool.false_and, Bool.and_true, Bool.and_false, not_true, not_false_iff, Option.bind_some, nn, toList_inj, Bool.not_eq_true', Bool.not_eq_false', Int.le_refl, and_self, true_and, and_true, false_and, and_false, bne_self_eq_false, beq_self_eq_true, Int.reduceEq, Nat.reduceEqDiff, List.length_singleton, List.tail_cons, Int.reduceLE, Int.reduceLT, decide_eq_true_eq, turn_f0, turn_f1, turn_f2, he, copy_val ks fs (by omega) (by omega), ring_f0, ring_f1, ring_agg]
        exact Ev.now _
theorem takeR_split (ks : List ByteArray) (fs : List Int) (k : ByteArray) (f : Int) (s : ByteArray) : ∃ (A : List ByteArray) (B : List Int) (b : Bool), takeR ks fs k f s = [ringP A B, boolP b] ∧ A.length ≤ ks.length + 1 ∧ B.length ≤ fs.length + 1 := by
  unfold takeR
  split
  · split
    · exact ⟨_, _, _, rfl, by simp, by simp⟩
    · exact ⟨_, _, _, rfl, by omega, by omega⟩
  · exact ⟨_, _, _, rfl, by simp, by simp⟩
/-! #### texts cut at a byte -/
def cutA (b : UInt8) : List UInt8 → List UInt8 → List (List UInt8)
  | cur, [] => [cur]
  | cur, c :: r => if c = b then cur :: cutA b [] r else cutA b (cur ++ [c]) r
def mkB (l : List UInt8) : ByteArray := ⟨l.toArray⟩
def dB (s : ByteArray) : List UInt8 := s.data.toList
def cutB (b : UInt8) (s : ByteArray) : List ByteArray := (cutA b [] (dB s)).map mkB
theorem mkB_dB (s : ByteArray) : mkB (dB s) = s := rfl
theorem dB_mkB (l : List UInt8) : dB (mkB l) = l := rfl
theorem dB_len (s : ByteArray) : (dB s).length = s.size := Array.length_toList (xs := s.data)
theorem mkB_size (l : List UInt8) : (mkB l).size = l.length := by rw [← dB_len, dB_mkB]
theorem dB_inj {a b : ByteArray} (h : dB a = dB b) : a = b := by rw [← mkB_dB a, h, mkB_dB]
theorem dB_app (a b : ByteArray) : dB (a ++ b) = dB a ++ dB b := by simp [dB, ByteArray.data_append]
theorem cutA_ne (b : UInt8) : ∀ (l cur : List UInt8), cutA b cur l ≠ []
  | [], cur => by simp [cutA]
  | c :: r, cur => by
    rw [cutA]
    split
    · simp
    · exact cutA_ne b r _
theorem cutA_at {b : UInt8} (y : List UInt8) : ∀ (x cur : List UInt8), (∀ c ∈ x, c ≠ b) → cutA b cur (x ++ b :: y) = (cur ++ x) :: cutA b [] y
  | [], cur, _ => by simp [cutA]
  | c :: x, cur, h => by
    rw [List.cons_append, cutA, if_neg (h c (by simp)), cutA_at y x _ (fun z hz => h z (by simp [hz]))]
    simp
theorem cutA_no {b : UInt8} : ∀ (x cur : List UInt8), (∀ c ∈ x, c ≠ b) → cutA b cur x = [cur ++ x]
  | [], cur, _ => by simp [cutA]
  | c :: x, cur, h => by
    rw [cutA, if_neg (h c (by simp)), cutA_no x _ (fun z hz => h z (by simp [hz]))]
    simp
theorem cutA_len (b : UInt8) : ∀ (l cur : List UInt8), (cutA b cur l).length ≤ l.length + 1
  | [], cur => by simp [cutA]
  | c :: r, cur => by
    rw [cutA]
    split
    · have := cutA_len b r []; simp; omega
    · have := cutA_len b r (cur ++ [c]); simp; omega
theorem cutA_sizes (b : UInt8) : ∀ (l cur : List UInt8), ∀ p ∈ cutA b cur l, p.length ≤ cur.length + l.length
  | [], cur, p, hp => by simp [cutA] at hp; subst hp; simp
  | c :: r, cur, p, hp => by
    rw [cutA] at hp
    split at hp
    · rcases List.mem_cons.1 hp with rfl | hp
      · omega
      · have := cutA_sizes b r [] p hp; simp at this ⊢; omega
    · have := cutA_sizes b r _ p hp; simp at this ⊢; omega
theorem cutB_ne (b : UInt8) (s : ByteArray) : cutB b s ≠ [] := by simp [cutB, cutA_ne]
theorem cutB_len (b : UInt8) (s : ByteArray) : (cutB b s).length ≤ s.size + 1 := by
  have := cutA_len b (dB s) []
  rw [dB_len] at this
  simpa [cutB] using this
theorem cutB_sizes (b : UInt8) (s : ByteArray) : ∀ p ∈ cutB b s, p.size ≤ s.size := by
  intro p hp
  obtain ⟨l, hl, rfl⟩ := List.mem_map.1 hp
  have := cutA_sizes b _ _ l hl
  rw [dB_len] at this
  rw [mkB_size]; simpa using this
theorem bytesOf_dB (s : ByteArray) : bytesOf s = (dB s).map fun b => (b.toNat : Int) := rfl
theorem at_dB {s : ByteArray} {pre rest : List UInt8} {c : UInt8} (hp : dB s = pre ++ c :: rest) : bt s pre.length = (c.toNat : Int) := by
  have h : bytesOf s = (pre.map fun b => (b.toNat : Int)) ++ (c.toNat : Int) :: rest.map fun b => (b.toNat : Int) := by rw [bytesOf_dB, hp]; simp
  have := at_bt h
  rwa [List.length_map] at this
theorem ext_dB (s : ByteArray) (i j : Nat) : dB (s.extract i j) = ((dB s).drop i).take (j - i) := by simp [dB, List.extract, ByteArray.data_extract]
theorem specCut_ev (b : UInt8) (s : ByteArray) (hs : s.size ≤ 4294967280) : Ev (fun N => spec_l1Cut.f N [strP s, .sc (.int .u8 (b.toNat : Int))]) [strsP (cutB b s)] := by
  have key : ∀ (rest cur done : List UInt8) (acc : List ByteArray), dB s = (done ++ cur) ++ rest → acc.length ≤ done.length → Ev2 (fun N n => spec_l1Cut.l0 N n s (b.toNat : Int) (done.length : Int) ((done ++ cur).length : Int) (acc.map strP)) [strsP (acc ++ (cutA b cur rest).map mkB)] := by
    intro rest
    induction rest with
    | nil =>
      intro cur done acc hp ha
      have hz := congrArg List.length hp
      rw [dB_len] at hz
      simp only [List.length_append, List.length_nil] at hz
      have e1 : (((done ++ cur).length : Int) < (s.size : Int)) = False := false_of (by simp only [List.length_append]; omega)
      have e2 : ((done.length : Int) ≤ (s.size : Int)) = True := true_of (by omega)
      have e3 : (acc.length + 1 ≤ 8796093022208) = True := true_of (by omega)
      have e4 : s.extract done.length s.size = mkB cur := by
        apply dB_inj
        rw [ext_dB, hp, dB_mkB, List.append_nil, List.drop_left' rfl]
        exact List.take_of_length_le (by omega)
      refine Ev2.succ ?_
      simp only [spec_l1Cut.l0_eq, e1, e2, e3, e4, List.length_map, strs_len, strs_elem, ints_len, ints_elem, items_list, fld_agg, elem_list, toStr_sc, toInt_sc, toBool_sc, headD_one, nat_int, get_bt, decide_eq_true_eq, decide_eq_false_iff_not, decide_true, decide_false, if_true, if_false, ite_self, Bool.not_true, Bool.not_false, Bool.false_eq_true, Bool.true_eq_false, Bool.true_and, Bool.false_and, Bool.and_true, Bool.and_false, not_true, not_false_iff, Option.bind_some, nn, toList_inj, Bool.not_eq_true', Bool.not_eq_false', Int.le_refl, and_self, true_and, and_true, false_and, and_false, bne_self_eq_false, beq_self_eq_true, Int.reduceEq, Nat.reduceEqDiff, List.length_singleton, List.tail_cons, Int.reduceLE, Int.reduceLT, decide_eq_true_eq]
      have e5 : PV.list (acc.map strP ++ [PV.sc (.string (mkB cur))]) = strsP (acc ++ (cutA b cur []).map mkB) := by simp [cutA, strsP, strP]
      rw [e5]
      exact Ev2.now _
    | cons c rest ih =>
      intro cur done acc hp ha
      have hz := congrArg List.length hp
      rw [dB_len] at hz
      simp only [List.length_append, List.length_cons] at hz
      have e1 : (((done ++ cur).length : Int) < (s.size : Int)) = True := true_of (by simp only [List.length_append]; omega)
      have e6 : (((done ++ cur).length : Int) ≤ (s.size : Int)) = True := true_of (by simp only [List.length_append]; omega)
      have e2 : ((done.length : Int) ≤ ((done ++ cur).length : Int)) = True := true_of (by simp only [List.length_append]; omega)
      have e3 : (acc.length + 1 ≤ 8796093022208) = True := true_of (by omega)
      have e4 : s.extract done.length (done ++ cur).length = mkB cur := by
        apply dB_inj
        rw [ext_dB, hp, dB_mkB, List.append_assoc, List.drop_left' rfl]
        exact List.take_left' (by simp)
      have hb := at_dB hp
      have hn : IntKind.i64.wrap (((done ++ cur).length : Int) + 1) = (((done ++ cur) ++ [c]).length : Int) := by
        rw [wrap_id (by omega) (by simp only [List.length_append]; omega)]; simp only [List.length_append, List.length_singleton]; omega
      refine Ev2.succ ?_
      by_cases hc : c = b
      · subst hc
        have ih' := ih [] ((done ++ cur) ++ [c]) (acc ++ [mkB cur]) (by rw [hp]; simp) (by simp; omega)
        simp only [spec_l1Cut.l0_eq, e1, e2, e3, e4, e6, hb, hn, List.length_map, strs_len, strs_elem, ints_len, ints_elem, items_list, fld_agg, elem_list, toStr_sc, toInt_sc, toBool_sc, headD_one, nat_int, get_bt, decide_eq_true_eq, decide_eq_false_iff_not, decide_true, decide_false, if_true, if_false, ite_self, Bool.not_true, Bool.not_false, Bool.false_eq_true, Bool.true_eq_false, Bool.true_and, Bool.false_and, Bool.and_true, Bool.and_false, not_true, not_false_iff, Option.bind_some, nn, toList_inj, Bool.not_eq_true', Bool.not_eq_false', Int.le_refl, and_self, true_and, and_true, false_and, and_false, bne_self_eq_false, beq_self_eq_true, Int.reduceEq, Nat.reduceEqDiff, List.length_singleton, List.tail_cons, Int.reduceLE, Int.reduceLT, decide_eq_true_eq]
        rw [cutA, if_pos rfl]
        have e5 : (acc ++ [mkB cur]).map strP = acc.map strP ++ [PV.sc (.string (mkB cur))] := by simp [strP]
        rw [e5, List.append_nil] at ih'
        simpa using ih'
      · have ih' := ih (cur ++ [c]) done acc (by rw [hp]; simp) ha
        have hne : ((c.toNat : Int) = (b.toNat : Int)) = False := false_of (fun h => hc (UInt8.toNat_inj.1 (by omega)))
        simp only [spec_l1Cut.l0_eq, e1, hb, hn, hne, strs_len, strs_elem, ints_len, ints_elem, items_list, fld_agg, elem_list, toStr_sc, toInt_sc, toBool_sc, headD_one, nat_int, get_bt, decide_eq_true_eq, decide_eq_false_iff_not, decide_true, decide_false, if_true, if_false, ite_self, Bool.not_true, Bool.not_false, Bool.false_eq_true, Bool.true_eq_false, Bool.true_and, Bool.false_and, Bool.and_true, Bool.and_false, not_true, not_false_iff, Option.bind_some, nn, toList_inj, Bool.not_eq_true', Bool.not_eq_false', Int.le_refl, and_self, true_and, and_true, false_and, and_false, bne_self_eq_false, beq_self_eq_true, Int.reduceEq, Nat.reduceEqDiff, List.length_singleton, List.tail_cons, Int.reduceLE, Int.reduceLT, decide_eq_true_eq]
        rw [cutA, if_neg hc]
        rw [← List.append_assoc] at ih'
        exact ih'
  simp only [strP, spec_l1Cut.f_eq, toStr_sc, toInt_sc]
  exact (key (dB s) [] [] [] rfl (Nat.le_refl _)).diag
/-! The library's Split. -/
theorem index_at {b : UInt8} {x y : List UInt8} (h : ∀ c ∈ x, c ≠ b) : Lib.index (x ++ b :: y) [b] = (x.length : Int) := by
  refine Lib.index_first (i := x.length) (by simp) ?_ (fun j hj => ?_)
  · unfold Lib.occAt
    rw [List.drop_left' rfl]
    simp [List.isPrefixOf]
  · unfold Lib.occAt
    have hd : (x ++ b :: y).drop j = x[j] :: (x.drop (j + 1) ++ b :: y) := by
      rw [List.drop_append_of_le_length (by omega), List.drop_eq_getElem_cons hj]; rfl
    rw [hd]
    have := h x[j] (List.getElem_mem hj)
    simp [List.isPrefixOf]
    exact fun e => this e.symm
theorem index_no {b : UInt8} {x : List UInt8} (h : ∀ c ∈ x, c ≠ b) : Lib.index x [b] = -1 := by
  refine Lib.index_none (fun j hj => ?_)
  unfold Lib.occAt
  by_cases hl : j < x.length
  · rw [List.drop_eq_getElem_cons hl]
    have := h x[j] (List.getElem_mem hl)
    simp [List.isPrefixOf]
    exact fun e => this e.symm
  · rw [List.drop_of_length_le (by omega)]; rfl
theorem has_or (b : UInt8) : ∀ l : List UInt8, (∀ c ∈ l, c ≠ b) ∨ ∃ x y, l = x ++ b :: y ∧ ∀ c ∈ x, c ≠ b
  | [] => .inl (by simp)
  | c :: r => by
    by_cases hc : c = b
    · exact .inr ⟨[], r, by simp [hc], by simp⟩
    · rcases has_or b r with h | ⟨x, y, rfl, h⟩
      · exact .inl (fun z hz => (List.mem_cons.1 hz).elim (fun e => e ▸ hc) (h z))
      · exact .inr ⟨c :: x, y, rfl, fun z hz => (List.mem_cons.1 hz).elim (fun e => e ▸ hc) (h z)⟩
theorem split_cutL (b : UInt8) : ∀ (n : Nat) (l : List UInt8), l.length ≤ n → splitOn (mkB l) ⟨#[b]⟩ = (cutA b [] l).map mkB
  | n, l, hn => by
    rcases has_or b l with h | ⟨x, y, rfl, h⟩
    · have hi : Lib.indexB (mkB l) ⟨#[b]⟩ = -1 := index_no h
      have hc := Lib.countB_miss (mkB l) ⟨#[b]⟩ hi
      unfold splitOn
      rw [hc, cutA_no _ _ h]; rfl
    · cases n with
      | zero => simp at hn
      | succ n =>
        have hi : Lib.indexB (mkB (x ++ b :: y)) ⟨#[b]⟩ = (x.length : Int) := index_at h
        have h1 : (ByteArray.mk #[b]).size = 1 := rfl
        have he : (mkB (x ++ b :: y)).extract (x.length + (ByteArray.mk #[b]).size) (mkB (x ++ b :: y)).size = mkB y := by
          apply dB_inj
          rw [ext_dB, dB_mkB, dB_mkB, h1, mkB_size, show x ++ b :: y = (x ++ [b]) ++ y by simp, List.drop_left' (by simp)]
          exact List.take_of_length_le (by simp; omega)
        have h0 : (mkB (x ++ b :: y)).extract 0 x.length = mkB x := by
          apply dB_inj
          rw [ext_dB, dB_mkB, dB_mkB, List.drop_zero]
          exact List.take_left' (by simp)
        have hc := Lib.countB_hit (mkB (x ++ b :: y)) ⟨#[b]⟩ x.length (by rw [h1]; omega) hi
        rw [he] at hc
        have ih := split_cutL b n y (by simp at hn; omega)
        unfold splitOn at ih ⊢
        rw [hc, Nat.add_comm 1, Lib.splitB, hi]
        have hn : (((x.length : Nat) : Int) == -1) = false := by
          cases hx : (((x.length : Nat) : Int) == -1) with
          | false => rfl
          | true => have := beq_iff_eq.1 hx; omega
        rw [hn, if_neg (by simp), nat_int, Nat.add_zero, h0, he, ih, cutA_at _ _ _ h]
        simp
theorem splitCut_val (b : UInt8) (s : ByteArray) (hs : s.size ≤ 4294967280) (N : Nat) : strings_Split.f N [strP s, strP (ByteArray.mk #[b])] = some [strsP (cutB b s)] := by
  have h : strings_Split.f N [strP s, strP (ByteArray.mk #[b])] = if (ByteArray.mk #[b]).size = 1 then (if s.size ≤ 4294967280 then some [strsP (splitOn s (ByteArray.mk #[b]))] else none) else none := rfl
  have h1 : (ByteArray.mk #[b]).size = 1 := rfl
  rw [if_pos h1, if_pos hs] at h
  rw [h, show splitOn s (ByteArray.mk #[b]) = cutB b s from split_cutL b _ (dB s) (Nat.le_refl _)]
theorem linesOf_val (s : ByteArray) (hs : s.size ≤ 1048576) (N : Nat) : impl_linesOf.f N [strP s] = some [strsP (cutB 10 s).dropLast] := by
  have h := splitCut_val 10 s (by omega) N
  have hl := cutB_len 10 s
  have h0 : 0 < (cutB 10 s).length := List.length_pos_iff.2 (cutB_ne 10 s)
  have w : IntKind.i64.wrap (((cutB 10 s).length : Int) - 1) = (((cutB 10 s).length - 1 : Nat) : Int) := nat_wrap (by omega) (by omega)
  have e1 : ((((cutB 10 s).length - 1 : Nat) : Int) ≤ ((cutB 10 s).length : Int)) = True := true_of (by omega)
  have e2 : PV.list (((strsP (cutB 10 s)).items).take ((cutB 10 s).length - 1)) = strsP (cutB 10 s).dropLast := by
    simp only [strsP, PV.items, List.dropLast_eq_take, List.map_take]
  simp only [strP] at h ⊢
  simp only [impl_linesOf.f_eq, toStr_sc, h, Option.bind_some, headD_one, strs_len, w, nn, nat_int, e1, e2, if_true]
/-! #### figures and numbers read -/
def nib (c : Int) : Int := if 48 ≤ c ∧ c ≤ 57 then c - 48 else if 97 ≤ c ∧ c ≤ 102 then c - 87 else if 65 ≤ c ∧ c ≤ 70 then c - 55 else -1
def isFig (c : Int) : Bool := decide ((48 ≤ c ∧ c ≤ 57) ∨ (97 ≤ c ∧ c ≤ 102))
theorem w8 (n : Int) : IntKind.u8.wrap n = n % 256 := by simp [IntKind.wrap, IntKind.signed, IntKind.bits]
theorem some_int {a b : Int} (h : a = b) : some [PV.sc (.int .i64 a)] = some [intP b] := by rw [h]
theorem nib_in {c : Int} (h : 0 ≤ nib c) : nib c < 16 := by
  unfold nib at h ⊢
  repeat' split at h
  all_goals simp_all
  all_goals omega
theorem nib_lt (c : Int) : nib c < 16 := by
  unfold nib
  repeat' split
  all_goals omega
theorem nib_ge (c : Int) : -1 ≤ nib c := by
  unfold nib
  repeat' split
  all_goals omega
theorem fig_nib {c : Int} (h : isFig c = true) : 0 ≤ nib c := by
  simp only [isFig, decide_eq_true_eq] at h
  unfold nib
  repeat' split
  all_goals omega
theorem implNib_val {c : Int} (h0 : 0 ≤ c) (h1 : c < 256) (N : Nat) : impl_nibble.f N [PV.sc (.int .u8 c)] = some [intP (nib c)] := by
  by_cases a1 : 48 ≤ c <;> by_cases a2 : c ≤ 57 <;> by_cases a3 : 97 ≤ c <;> by_cases a4 : c ≤ 102 <;> by_cases a5 : 65 ≤ c <;> by_cases a6 : c ≤ 70
  all_goals first
    | (exfalso; omega)
    | (simp only [impl_nibble.f_eq, toInt_sc, a1, a2, a3, a4, a5, a6, decide_true, decide_false, if_true, if_false, Bool.false_eq_true]
       refine some_int ?_; unfold nib; try simp only [w8]
       first
       | (rw [wrap_id (by omega) (by omega), if_pos (by omega)]; omega)
       | (rw [wrap_id (n := (c - 97) % 256) (by omega) (by omega), wrap_id (by omega) (by omega), if_neg (by omega), if_pos (by omega)]; omega)
       | (rw [wrap_id (n := (c - 65) % 256) (by omega) (by omega), wrap_id (by omega) (by omega), if_neg (by omega), if_neg (by omega), if_pos (by omega)]; omega)
       | (rw [if_neg (by omega), if_neg (by omega), if_neg (by omega)]))
theorem specFig_val {c : Int} (N : Nat) : spec_l6Figure.f N [PV.sc (.int .u8 c)] = some [boolP (isFig c)] := by
  by_cases a1 : 48 ≤ c <;> by_cases a2 : c ≤ 57 <;> by_cases a3 : 97 ≤ c <;> by_cases a4 : c ≤ 102
  all_goals first
    | (exfalso; omega)
    | (simp only [spec_l6Figure.f_eq, toInt_sc, isFig, a1, a2, a3, a4, decide_true, decide_false, if_true, if_false, Bool.false_eq_true, Bool.true_eq_false, and_self, and_true, and_false, true_and, false_and, or_self, or_true, or_false, true_or, false_or])
theorem specFigure_val {c : Int} (h : isFig c = true) (N : Nat) : spec_l11Figure.f N [PV.sc (.int .u8 c)] = some [intP (nib c)] := by
  simp only [isFig, decide_eq_true_eq] at h
  by_cases a2 : c ≤ 57
  · simp only [spec_l11Figure.f_eq, toInt_sc, a2, decide_true, if_true]
    refine some_int ?_
    rw [w8, wrap_id (by omega) (by omega), nib, if_pos (by omega)]; omega
  · simp only [spec_l11Figure.f_eq, toInt_sc, a2, decide_false, if_false, Bool.false_eq_true]
    refine some_int ?_
    rw [w8, wrap_id (n := (c - 97) % 256) (by omega) (by omega), wrap_id (by omega) (by omega), nib, if_neg (by omega), if_pos (by omega)]; omega
def unhexL : List Int → List Int
  | a :: b :: r => if 0 ≤ nib a ∧ 0 ≤ nib b then (16 * nib a + nib b) :: unhexL r else []
  | _ => []
def unhB (s : ByteArray) : ByteArray := bytesOfL (u8L (unhexL (bytesOf s)))
theorem unhexL_len : ∀ l : List Int, (unhexL l).length ≤ l.length
  | [] => by simp [unhexL]
  | [_] => by simp [unhexL]
  | a :: b :: r => by
    have := unhexL_len r
    rw [unhexL]
    split
    · simp; omega
    · simp
theorem unhB_size (s : ByteArray) : (unhB s).size ≤ s.size := by
  have := unhexL_len (bytesOf s)
  rw [bytesOf_len] at this
  rw [unhB, bytesOfL_size, u8_len]; exact this
theorem byte_nibs {a b : Int} (ha : 0 ≤ nib a) (hb : 0 ≤ nib b) : IntKind.u8.wrap (IntKind.i64.wrap (IntKind.i64.wrap (16 * nib a) + nib b)) = 16 * nib a + nib b := by
  have h1 := nib_lt a
  have h2 := nib_lt b
  rw [wrap_id (n := 16 * nib a) (by omega) (by omega), wrap_id (by omega) (by omega), w8]
  omega
theorem implUnhex_loop (s : ByteArray) (hs : s.size ≤ 4294967280) : ∀ (rest pre out : List Int), bytesOf s = pre ++ rest → out.length ≤ pre.length → Ev2 (fun N n => impl_unhex.l0 N n s (pre.length : Int) (u8L out)) [strP (bytesOfL (u8L (out ++ unhexL rest)))]
  | [], pre, out, hp, ho => by
    have hz := congrArg List.length hp
    rw [bytesOf_len] at hz
    simp only [List.length_append, List.length_nil] at hz
    have w : IntKind.i64.wrap ((pre.length : Int) + 1) = ((pre.length + 1 : Nat) : Int) := nat_wrap (by omega) (by omega)
    have e1 : (((pre.length + 1 : Nat) : Int) < (s.size : Int)) = False := false_of (by omega)
    refine Ev2.succ ?_
    simp only [impl_unhex.l0_eq, w, e1, strs_len, strs_elem, ints_len, ints_elem, items_list, fld_agg, elem_list, toStr_sc, toInt_sc, toBool_sc, headD_one, nat_int, get_bt, decide_eq_true_eq, decide_eq_false_iff_not, decide_true, decide_false, if_true, if_false, ite_self, Bool.not_true, Bool.not_false, Bool.false_eq_true, Bool.true_eq_false, Bool.true_and, Bool.false_and, Bool.and_true, Bool.and_false, not_true, not_false_iff, Option.bind_some, nn, toList_inj, Bool.not_eq_true', Bool.not_eq_false', Int.le_refl, and_self, true_and, and_true, false_and, and_false, bne_self_eq_false, beq_self_eq_true, Int.reduceEq, Nat.reduceEqDiff, List.length_singleton, List.tail_cons, Int.reduceLE, Int.reduceLT, decide_eq_true_eq, unhexL, List.append_nil]
    exact Ev2.now _
  | [a], pre, out, hp, ho => by
    have hz := congrArg List.length hp
    rw [bytesOf_len] at hz
    simp only [List.length_append, List.length_cons, List.length_nil] at hz
    have w : IntKind.i64.wrap ((pre.length : Int) + 1) = ((pre.length + 1 : Nat) : Int) := nat_wrap (by omega) (by omega)
    have e1 : (((pre.length + 1 : Nat) : Int) < (s.size : Int)) = False := false_of (by omega)
    refine Ev2.succ ?_
    simp only [impl_unhex.l0_eq, w, e1, strs_len, strs_elem, ints_len, ints_elem, items_list, fld_agg, elem_list, toStr_sc, toInt_sc, toBool_sc, headD_one, nat_int, get_bt, decide_eq_true_eq, decide_eq_false_iff_not, decide_true, decide_false, if_true, if_false, ite_self, Bool.not_true, Bool.not_false, Bool.false_eq_true, Bool.true_eq_false, Bool.true_and, Bool.false_and, Bool.and_true, Bool.and_false, not_true, not_false_iff, Option.bind_some, nn, toList_inj, Bool.not_eq_true', Bool.not_eq_false', Int.le_refl, and_self, true_and, and_true, false_and, and_false, bne_self_eq_false, beq_self_eq_true, Int.reduceEq, Nat.reduceEqDiff, List.length_singleton, List.tail_cons, Int.reduceLE, Int.reduceLT, decide_eq_true_eq, unhexL, List.append_nil]
    exact Ev2.now _
  | a :: b :: r, pre, out, hp, ho => by
    have hz := congrArg List.length hp
    rw [bytesOf_len] at hz
    simp only [List.length_append, List.length_cons] at hz
    have w : IntKind.i64.wrap ((pre.length : Int) + 1) = ((pre.length + 1 : Nat) : Int) := nat_wrap (by omega) (by omega)
    have w2 : IntKind.i64.wrap ((pre.length : Int) + 2) = ((pre ++ [a, b]).length : Int) := by
      rw [wrap_id (by omega) (by omega)]; simp
    have e1 : (((pre.length + 1 : Nat) : Int) < (s.size : Int)) = True := true_of (by omega)
    have e0 : ((pre.length : Int) < (s.size : Int)) = True := true_of (by omega)
    have ba := at_bt hp
    have bb : bt s (pre.length + 1) = b := by
      have h := at_bt (pre := pre ++ [a]) (rest := r) (c := b) (by rw [hp]; simp)
      rw [List.length_append] at h; exact h
    have ha := bytesOf_in (s := s) (c := a) (by rw [hp]; simp)
    have hb := bytesOf_in (s := s) (c := b) (by rw [hp]; simp)
    have na := implNib_val ha.1 ha.2
    have nb := implNib_val hb.1 hb.2
    have c1 : (out.length + 1 ≤ 140737488355328) = True := true_of (by omega)
    refine Ev2.succ ?_
    rw [unhexL]
    by_cases pa : 0 ≤ nib a
    · by_cases pb : 0 ≤ nib b
      · have ih := implUnhex_loop s hs r (pre ++ [a, b]) (out ++ [16 * nib a + nib b]) (by rw [hp]; simp) (by simp; omega)
        rw [if_pos ⟨pa, pb⟩]
        simp only [impl_unhex.l0_eq, w, w2, e0, e1, ba, bb, na, nb, eq_true pa, eq_true pb, byte_nibs pa pb, u8_snoc, u8_len, c1, strs_len, strs_elem, ints_len, ints_elem, items_list, fld_agg, elem_list, toStr_sc, toInt_sc, toBool_sc, headD_one, nat_int, get_bt, decide_eq_true_eq, decide_eq_false_iff_not, decide_true, decide_false, if_true, if_false, ite_self, Bool.not_true, Bool.not_false, Bool.false_eq_true, Bool.true_eq_false, Bool.true_and, Bool.false_and, Bool.and_true, Bool.and_false, not_true, not_false_iff, Option.bind_some, nn, toList_inj, Bool.not_eq_true', Bool.not_eq_false', Int.le_refl, and_self, true_and, and_true, false_and, and_false, bne_self_eq_false, beq_self_eq_true, Int.reduceEq, Nat.reduceEqDiff, List.length_singleton, List.tail_cons, Int.reduceLE, Int.reduceLT, decide_eq_true_eq]
        rw [List.append_assoc] at ih
        exact ih
      · rw [if_neg (fun h => pb h.2)]
        simp only [impl_unhex.l0_eq, w, e0, e1, ba, bb, na, nb, eq_true pa, eq_false pb, strs_len, strs_elem, ints_len, ints_elem, items_list, fld_agg, elem_list, toStr_sc, toInt_sc, toBool_sc, headD_one, nat_int, get_bt, decide_eq_true_eq, decide_eq_false_iff_not, decide_true, decide_false, if_true, if_false, ite_self, Bool.not_true, Bool.not_false, Bool.false_eq_true, Bool.true_eq_false, Bool.true_and, Bool.false_and, Bool.and_true, Bool.and_false, not_true, not_false_iff, Option.bind_some, nn, toList_inj, Bool.not_eq_true', Bool.not_eq_false', Int.le_refl, and_self, true_and, and_true, false_and, and_false, bne_self_eq_false, beq_self_eq_true, Int.reduceEq, Nat.reduceEqDiff, List.length_singleton, List.tail_cons, Int.reduceLE, Int.reduceLT, decide_eq_true_eq, List.append_nil]
        exact Ev2.now _
    · rw [if_neg (fun h => pa h.1)]
      simp only [impl_unhex.l0_eq, w, e0, e1, ba, bb, na, nb, eq_false pa, strs_len, strs_elem, ints_len, ints_elem, items_list, fld_agg, elem_list, toStr_sc, toInt_sc, toBool_sc, headD_one, nat_int, get_bt, decide_eq_true_eq, decide_eq_false_iff_not, decide_true, decide_false, if_true, if_false, ite_self, Bool.not_true, Bool.not_false, Bool.false_eq_true, Bool.true_eq_false, Bool.true_and, Bool.false_and, Bool.and_true, Bool.and_false, not_true, not_false_iff, Option.bind_some, nn, toList_inj, Bool.not_eq_true', Bool.not_eq_false', Int.le_refl, and_self, true_and, and_true, false_and, and_false, bne_self_eq_false, beq_self_eq_true, Int.reduceEq, Nat.reduceEqDiff, List.length_singleton, List.tail_cons, Int.reduceLE, Int.reduceLT, decide_eq_true_eq, List.append_nil]
      exact Ev2.now _
theorem implUnhex_ev (s : ByteArray) (hs : s.size ≤ 4294967280) : Ev (fun N => impl_unhex.f N [strP s]) [strP (unhB s)] := by
  simp only [strP, impl_unhex.f_eq, toStr_sc]
  exact (implUnhex_loop s hs _ [] [] rfl (Nat.le_refl _)).diag
def figs (l : List Int) : Bool := l.all isFig
def fineB (s : ByteArray) : Bool := figs (bytesOf s) && decide (s.size % 2 = 0)
def bytesR (s : ByteArray) : List PV := if figs (bytesOf s) = true then [strP (unhB s), boolP (decide (s.size % 2 = 0))] else [strP ⟨#[]⟩, boolP false]
theorem specBytes_l1 (s : ByteArray) (hs : s.size ≤ 4294967280) : ∀ (rest pre out : List Int), bytesOf s = pre ++ rest → figs rest = true → out.length ≤ pre.length → Ev2 (fun N n => spec_l11Bytes.l1 N n s (pre.length : Int) (u8L out)) [strP (bytesOfL (u8L (out ++ unhexL rest))), boolP (decide (s.size % 2 = 0))]
  | [], pre, out, hp, hf, ho => by
    have hz := congrArg List.length hp
    rw [bytesOf_len] at hz
    simp only [List.length_append, List.length_nil] at hz
    have w : IntKind.i64.wrap ((pre.length : Int) + 1) = ((pre.length + 1 : Nat) : Int) := nat_wrap (by omega) (by omega)
    have e1 : (((pre.length + 1 : Nat) : Int) < (s.size : Int)) = False := false_of (by omega)
    have e2 : (Int.tmod (s.size : Int) 2 = 0) = (s.size % 2 = 0) := by
      have : Int.tmod (s.size : Int) 2 = ((s.size % 2 : Nat) : Int) := rfl
      rw [this]; exact propext (by omega)
    have e3 : ((2 : Int) = 0) = False := false_of (by omega)
    refine Ev2.succ ?_
    simp only [spec_l11Bytes.l1_eq, w, e1, e2, e3, strs_len, strs_elem, ints_len, ints_elem, items_list, fld_agg, elem_list, toStr_sc, toInt_sc, toBool_sc, headD_one, nat_int, get_bt, decide_eq_true_eq, decide_eq_false_iff_not, decide_true, decide_false, if_true, if_false, ite_self, Bool.not_true, Bool.not_false, Bool.false_eq_true, Bool.true_eq_false, Bool.true_and, Bool.false_and, Bool.and_true, Bool.and_false, not_true, not_false_iff, Option.bind_some, nn, toList_inj, Bool.not_eq_true', Bool.not_eq_false', Int.le_refl, and_self, true_and, and_true, false_and, and_false, bne_self_eq_false, beq_self_eq_true, Int.reduceEq, Nat.reduceEqDiff, List.length_singleton, List.tail_cons, Int.reduceLE, Int.reduceLT, decide_eq_true_eq, unhexL, List.append_nil]
    exact Ev2.now _
  | [a], pre, out, hp, hf, ho => by
    have hz := congrArg List.length hp
    rw [bytesOf_len] at hz
    simp only [List.length_append, List.length_cons, List.length_nil] at hz
    have w : IntKind.i64.wrap ((pre.length : Int) + 1) = ((pre.length + 1 : Nat) : Int) := nat_wrap (by omega) (by omega)
    have e1 : (((pre.length + 1 : Nat) : Int) < (s.size : Int)) = False := false_of (by omega)
    have e2 : (Int.tmod (s.size : Int) 2 = 0) = (s.size % 2 = 0) := by
      have : Int.tmod (s.size : Int) 2 = ((s.size % 2 : Nat) : Int) := rfl
      rw [this]; exact propext (by omega)
    have e3 : ((2 : Int) = 0) = False := false_of (by omega)
    refine Ev2.succ ?_
    simp only [spec_l11Bytes.l1_eq, w, e1, e2, e3, strs_len, strs_elem, ints_len, ints_elem, items_list, fld_agg, elem_list, toStr_sc, toInt_sc, toBool_sc, headD_one, nat_int, get_bt, decide_eq_true_eq, decide_eq_false_iff_not, decide_true, decide_false, if_true, if_false, ite_self, Bool.not_true, Bool.not_false, Bool.false_eq_true, Bool.true_eq_false, Bool.true_and, Bool.false_and, Bool.and_true, Bool.and_false, not_true, not_false_iff, Option.bind_some, nn, toList_inj, Bool.not_eq_true', Bool.not_eq_false', Int.le_refl, and_self, true_and, and_true, false_and, and_false, bne_self_eq_false, beq_self_eq_true, Int.reduceEq, Nat.reduceEqDiff, List.length_singleton, List.tail_cons, Int.reduceLE, Int.reduceLT, decide_eq_true_eq, unhexL, List.append_nil]
    exact Ev2.now _
  | a :: b :: r, pre, out, hp, hf, ho => by
    have hz := congrArg List.length hp
    rw [bytesOf_len] at hz
    simp only [List.length_append, List.length_cons] at hz
    simp only [figs, List.all_cons, Bool.and_eq_true] at hf
    have w : IntKind.i64.wrap ((pre.length : Int) + 1) = ((pre.length + 1 : Nat) : Int) := nat_wrap (by omega) (by omega)
    have w2 : IntKind.i64.wrap ((pre.length : Int) + 2) = ((pre ++ [a, b]).length : Int) := by
      rw [wrap_id (by omega) (by omega)]; simp
    have e1 : (((pre.length + 1 : Nat) : Int) < (s.size : Int)) = True := true_of (by omega)
    have e0 : ((pre.length : Int) < (s.size : Int)) = True := true_of (by omega)
    have ba := at_bt hp
    have bb : bt s (pre.length + 1) = b := by
      have h := at_bt (pre := pre ++ [a]) (rest := r) (c := b) (by rw [hp]; simp)
      rw [List.length_append] at h; exact h
    have na := specFigure_val hf.1
    have nb := specFigure_val hf.2.1
    have c1 : (out.length + 1 ≤ 140737488355328) = True := true_of (by omega)
    have pa := fig_nib hf.1
    have pb := fig_nib hf.2.1
    refine Ev2.succ ?_
    rw [unhexL]
    have ih := specBytes_l1 s hs r (pre ++ [a, b]) (out ++ [16 * nib a + nib b]) (by rw [hp]; simp) hf.2.2 (by simp; omega)
    rw [if_pos ⟨pa, pb⟩]
    simp only [spec_l11Bytes.l1_eq, w, w2, e0, e1, ba, bb, na, nb, byte_nibs pa pb, u8_snoc, u8_len, c1, strs_len, strs_elem, ints_len, ints_elem, items_list, fld_agg, elem_list, toStr_sc, toInt_sc, toBool_sc, headD_one, nat_int, get_bt, decide_eq_true_eq, decide_eq_false_iff_not, decide_true, decide_false, if_true, if_false, ite_self, Bool.not_true, Bool.not_false, Bool.false_eq_true, Bool.true_eq_false, Bool.true_and, Bool.false_and, Bool.and_true, Bool.and_false, not_true, not_false_iff, Option.bind_some, nn, toList_inj, Bool.not_eq_true', Bool.not_eq_false', Int.le_refl, and_self, true_and, and_true, false_and, and_false, bne_self_eq_false, beq_self_eq_true, Int.reduceEq, Nat.reduceEqDiff, List.length_singleton, List.tail_cons, Int.reduceLE, Int.reduceLT, decide_eq_true_eq]
    rw [List.append_assoc] at ih
    exact ih
theorem specBytes_ev (s : ByteArray) (hs : s.size ≤ 4294967280) : Ev (fun N => spec_l11Bytes.f N [strP s]) (bytesR s) := by
  have key : ∀ rest pre : List Int, bytesOf s = pre ++ rest → figs pre = true → Ev2 (fun N n => spec_l11Bytes.l0 N n s (pre.length : Int) (u8L [])) (bytesR s) := by
    intro rest
    induction rest with
    | nil =>
      intro pre hp hf
      have e : bytesOf s = pre := by simpa using hp
      refine Ev2.succ ?_
      simp only [spec_l11Bytes.l0_eq, at_sizeE hp, strs_len, strs_elem, ints_len, ints_elem, items_list, fld_agg, elem_list, toStr_sc, toInt_sc, toBool_sc, headD_one, nat_int, get_bt, decide_eq_true_eq, decide_eq_false_iff_not, decide_true, decide_false, if_true, if_false, ite_self, Bool.not_true, Bool.not_false, Bool.false_eq_true, Bool.true_eq_false, Bool.true_and, Bool.false_and, Bool.and_true, Bool.and_false, not_true, not_false_iff, Option.bind_some, nn, toList_inj, Bool.not_eq_true', Bool.not_eq_false', Int.le_refl, and_self, true_and, and_true, false_and, and_false, bne_self_eq_false, beq_self_eq_true, Int.reduceEq, Nat.reduceEqDiff, List.length_singleton, List.tail_cons, Int.reduceLE, Int.reduceLT, decide_eq_true_eq]
      have h := (specBytes_l1 s hs (bytesOf s) [] [] rfl (by rw [e]; exact hf) (Nat.le_refl _)).after
      rw [bytesR, e, if_pos hf]
      rw [unhB]
      exact h
    | cons c rest ih =>
      intro pre hp hf
      have hn : IntKind.i64.wrap ((pre.length : Int) + 1) = ((pre ++ [c]).length : Int) := at_next hp (by rw [bytesOf_len]; omega)
      refine Ev2.succ ?_
      cases hc : isFig c with
      | true =>
        have ih' := ih _ (at_step hp) (by
          have e : figs (pre ++ [c]) = (figs pre && isFig c) := by simp [figs]
          rw [e, hf, hc]; rfl)
        simp only [spec_l11Bytes.l0_eq, at_size hp, at_bt hp, hn, specFig_val, hc, strs_len, strs_elem, ints_len, ints_elem, items_list, fld_agg, elem_list, toStr_sc, toInt_sc, toBool_sc, headD_one, nat_int, get_bt, decide_eq_true_eq, decide_eq_false_iff_not, decide_true, decide_false, if_true, if_false, ite_self, Bool.not_true, Bool.not_false, Bool.false_eq_true, Bool.true_eq_false, Bool.true_and, Bool.false_and, Bool.and_true, Bool.and_false, not_true, not_false_iff, Option.bind_some, nn, toList_inj, Bool.not_eq_true', Bool.not_eq_false', Int.le_refl, and_self, true_and, and_true, false_and, and_false, bne_self_eq_false, beq_self_eq_true, Int.reduceEq, Nat.reduceEqDiff, List.length_singleton, List.tail_cons, Int.reduceLE, Int.reduceLT, decide_eq_true_eq]
        exact ih'
      | false =>
        simp only [spec_l11Bytes.l0_eq, at_size hp, at_bt hp, hn, specFig_val, hc, strs_len, strs_elem, ints_len, ints_elem, items_list, fld_agg, elem_list, toStr_sc, toInt_sc, toBool_sc, headD_one, nat_int, get_bt, decide_eq_true_eq, decide_eq_false_iff_not, decide_true, decide_false, if_true, if_false, ite_self, Bool.not_true, Bool.not_false, Bool.false_eq_true, Bool.true_eq_false, Bool.true_and, Bool.false_and, Bool.and_true, Bool.and_false, not_true, not_false_iff, Option.bind_some, nn, toList_inj, Bool.not_eq_true', Bool.not_eq_false', Int.le_refl, and_self, true_and, and_true, false_and, and_false, bne_self_eq_false, beq_self_eq_true, Int.reduceEq, Nat.reduceEqDiff, List.length_singleton, List.tail_cons, Int.reduceLE, Int.reduceLT, decide_eq_true_eq]
        have hno : figs (bytesOf s) = false := by rw [hp]; simp [figs, hc]
        rw [bytesR, hno]
        exact Ev2.now _
  simp only [strP, spec_l11Bytes.f_eq, toStr_sc]
  exact (key (bytesOf s) [] rfl rfl).diag
/-! What is written is read back. -/
theorem bytesOfL_back {l : List Int} (h : ∀ x ∈ l, 0 ≤ x ∧ x < 256) : bytesOf (bytesOfL (u8L l)) = l := by
  simp only [bytesOf, bytesOfL, u8L, List.map_map]
  conv => rhs; rw [← List.map_id l]
  apply List.map_congr_left
  intro x hx
  have := h x hx
  simp only [Function.comp_def, PV.toInt, id]
  have e : UInt8.toNat (UInt8.ofNat x.toNat) = x.toNat := by simp; omega
  rw [e]; omega
theorem bytesOfL_bytesOf (s : ByteArray) : bytesOfL (u8L (bytesOf s)) = s := bytesOf_inj (bytesOfL_back (fun _ hx => bytesOf_in hx))
theorem bt_byte (s : ByteArray) (i : Nat) : 0 ≤ bt s i ∧ bt s i < 256 := by
  have := (s.get! i).toNat_lt
  unfold bt
  omega
theorem hexL_byte : ∀ (l : List Int), ∀ x ∈ hexL l, 0 ≤ x ∧ x < 256
  | [], x, hx => by simp [hexL] at hx
  | y :: r, x, hx => by
    simp only [hexL, d2, List.cons_append, List.nil_append, List.mem_cons] at hx
    rcases hx with rfl | rfl | hx
    · exact bt_byte _ _
    · exact bt_byte _ _
    · exact hexL_byte r x hx
theorem hex_bytesM (s : ByteArray) : bytesOf (hexB s) = hexL (bytesOf s) := by rw [hexB, bytesOfL_back (hexL_byte _)]
theorem hexD_back : ∀ q : Fin 16, nib (bt hexD q.val) = (q.val : Int) ∧ isFig (bt hexD q.val) = true := by decide +kernel
theorem unhex_hex : ∀ l : List Int, (∀ c ∈ l, 0 ≤ c ∧ c < 256) → unhexL (hexL l) = l ∧ figs (hexL l) = true
  | [], _ => ⟨rfl, rfl⟩
  | c :: r, h => by
    obtain ⟨h0, h1⟩ := h c (by simp)
    obtain ⟨q0, q1, r0, r1⟩ := d2_in h0 h1
    obtain ⟨i1, i2⟩ := unhex_hex r (fun x hx => h x (by simp [hx]))
    have a1 := hexD_back ⟨(IntKind.u8.wrap (Int.tdiv c 16)).toNat, by omega⟩
    have a2 := hexD_back ⟨(Int.tmod c 16).toNat, by omega⟩
    simp only at a1 a2
    have e1 : Int.tdiv c 16 = c / 16 := Int.tdiv_eq_ediv_of_nonneg h0
    have e2 : Int.tmod c 16 = c % 16 := Int.tmod_eq_emod_of_nonneg h0
    have e3 := w8 (Int.tdiv c 16)
    simp only [hexL, d2, List.cons_append, List.nil_append, unhexL, figs, List.all_cons]
    rw [a1.1, a2.1, if_pos (by omega), i1]
    refine ⟨?_, ?_⟩
    · congr 1
      omega
    · rw [a1.2, a2.2]; exact i2
theorem unhB_hex (k : ByteArray) : unhB (hexB k) = k := by
  rw [unhB, hex_bytesM, (unhex_hex _ (fun c hc => bytesOf_in hc)).1]
  exact bytesOfL_bytesOf k
theorem fineB_hex (k : ByteArray) : fineB (hexB k) = true := by
  simp only [fineB, Bool.and_eq_true, decide_eq_true_eq]
  exact ⟨by rw [hex_bytesM]; exact (unhex_hex _ (fun c hc => bytesOf_in hc)).2, by rw [hexB_size]; omega⟩
/-! Numbers. -/
def digs (l : List UInt8) : Bool := l.all fun c => decide (48 ≤ c.toNat ∧ c.toNat ≤ 57)
def digN (a : Nat) (c : UInt8) : Nat := a * 10 + (c.toNat - 48)
def foldN (acc : Nat) (l : List UInt8) : Nat := l.foldl digN acc
theorem foldN_nil (acc : Nat) : foldN acc [] = acc := rfl
theorem foldN_cons (acc : Nat) (c : UInt8) (r : List UInt8) : foldN acc (c :: r) = foldN (acc * 10 + (c.toNat - 48)) r := by simp only [foldN, List.foldl_cons, digN]
def numB (s : ByteArray) : Int := if s.size = 0 ∨ 6 < s.size then -1 else if 1 < s.size ∧ bt s 0 = 48 then -1 else if digs (dB s) = true then (foldN 0 (dB s) : Int) else -1
theorem specNum_loop (s : ByteArray) : ∀ (rest pre : List UInt8) (acc : Nat), dB s = pre ++ rest → s.size ≤ 6 → acc < 10 ^ pre.length → Ev2 (fun N n => spec_l1Num.l0 N n s (acc : Int) (pre.length : Int)) [intP (if digs rest = true then (foldN acc rest : Int) else -1)] := by
  intro rest
  induction rest with
  | nil =>
    intro pre acc hp hz ha
    have hl := congrArg List.length hp
    rw [dB_len] at hl
    simp only [List.length_append, List.length_nil] at hl
    have e1 : ((pre.length : Int) < (s.size : Int)) = False := false_of (by omega)
    refine Ev2.succ ?_
    simp only [spec_l1Num.l0_eq, e1, strs_len, strs_elem, ints_len, ints_elem, items_list, fld_agg, elem_list, toStr_sc, toInt_sc, toBool_sc, headD_one, nat_int, get_bt, decide_eq_true_eq, decide_eq_false_iff_not, decide_true, decide_false, if_true, if_false, ite_self, Bool.not_true, Bool.not_false, Bool.false_eq_true, Bool.true_eq_false, Bool.true_and, Bool.false_and, Bool.and_true, Bool.and_false, not_true, not_false_iff, Option.bind_some, nn, toList_inj, Bool.not_eq_true', Bool.not_eq_false', Int.le_refl, and_self, true_and, and_true, false_and, and_false, bne_self_eq_false, beq_self_eq_true, Int.reduceEq, Nat.reduceEqDiff, List.length_singleton, List.tail_cons, Int.reduceLE, Int.reduceLT, decide_eq_true_eq, digs, List.all_nil, foldN_nil]
    exact Ev2.now _
  | cons c rest ih =>
    intro pre acc hp hz ha
    have hl := congrArg List.length hp
    rw [dB_len] at hl
    simp only [List.length_append, List.length_cons] at hl
    have e1 : ((pre.length : Int) < (s.size : Int)) = True := true_of (by omega)
    have hb := at_dB hp
    have hlt := c.toNat_lt
    have hn : IntKind.i64.wrap ((pre.length : Int) + 1) = ((pre ++ [c]).length : Int) := by
      rw [wrap_id (by omega) (by omega)]; simp
    have hpw : 10 ^ pre.length ≤ 10 ^ 5 := Nat.pow_le_pow_right (by omega) (by omega)
    refine Ev2.succ ?_
    by_cases h1 : (c.toNat : Int) < 48
    · have hd : digs (c :: rest) = false := by
        simp only [digs, List.all_cons]
        rw [decide_eq_false (by omega), Bool.false_and]
      simp only [spec_l1Num.l0_eq, e1, hb, h1, hd, strs_len, strs_elem, ints_len, ints_elem, items_list, fld_agg, elem_list, toStr_sc, toInt_sc, toBool_sc, headD_one, nat_int, get_bt, decide_eq_true_eq, decide_eq_false_iff_not, decide_true, decide_false, if_true, if_false, ite_self, Bool.not_true, Bool.not_false, Bool.false_eq_true, Bool.true_eq_false, Bool.true_and, Bool.false_and, Bool.and_true, Bool.and_false, not_true, not_false_iff, Option.bind_some, nn, toList_inj, Bool.not_eq_true', Bool.not_eq_false', Int.le_refl, and_self, true_and, and_true, false_and, and_false, bne_self_eq_false, beq_self_eq_true, Int.reduceEq, Nat.reduceEqDiff, List.length_singleton, List.tail_cons, Int.reduceLE, Int.reduceLT, decide_eq_true_eq]
      exact Ev2.now _
    · by_cases h2 : 57 < (c.toNat : Int)
      · have hd : digs (c :: rest) = false := by
          simp only [digs, List.all_cons]
          rw [decide_eq_false (by omega), Bool.false_and]
        simp only [spec_l1Num.l0_eq, e1, hb, h1, h2, hd, strs_len, strs_elem, ints_len, ints_elem, items_list, fld_agg, elem_list, toStr_sc, toInt_sc, toBool_sc, headD_one, nat_int, get_bt, decide_eq_true_eq, decide_eq_false_iff_not, decide_true, decide_false, if_true, if_false, ite_self, Bool.not_true, Bool.not_false, Bool.false_eq_true, Bool.true_eq_false, Bool.true_and, Bool.false_and, Bool.and_true, Bool.and_false, not_true, not_false_iff, Option.bind_some, nn, toList_inj, Bool.not_eq_true', Bool.not_eq_false', Int.le_refl, and_self, true_and, and_true, false_and, and_false, bne_self_eq_false, beq_self_eq_true, Int.reduceEq, Nat.reduceEqDiff, List.length_singleton, List.tail_cons, Int.reduceLE, Int.reduceLT, decide_eq_true_eq]
        exact Ev2.now _
      · have hd : digs (c :: rest) = digs rest := by
          simp only [digs, List.all_cons]
          rw [decide_eq_true (by omega), Bool.true_and]
        have w1 : IntKind.i64.wrap ((acc : Int) * 10) = ((acc * 10 : Nat) : Int) := nat_wrap (by omega) (by omega)
        have w2 : IntKind.i64.wrap (IntKind.u8.wrap ((c.toNat : Int) - 48)) = ((c.toNat - 48 : Nat) : Int) := by
          rw [w8, wrap_id (by omega) (by omega)]; omega
        have w3 : IntKind.i64.wrap (((acc * 10 : Nat) : Int) + ((c.toNat - 48 : Nat) : Int)) = ((acc * 10 + (c.toNat - 48) : Nat) : Int) := nat_wrap (by omega) (by omega)
        have ih' := ih (pre ++ [c]) (acc * 10 + (c.toNat - 48)) (by rw [hp]; simp) hz (by rw [List.length_append, List.length_singleton, Nat.pow_succ]; omega)
        simp only [spec_l1Num.l0_eq, e1, hb, h1, h2, w1, w2, w3, hn, strs_len, strs_elem, ints_len, ints_elem, items_list, fld_agg, elem_list, toStr_sc, toInt_sc, toBool_sc, headD_one, nat_int, get_bt, decide_eq_true_eq, decide_eq_false_iff_not, decide_true, decide_false, if_true, if_false, ite_self, Bool.not_true, Bool.not_false, Bool.false_eq_true, Bool.true_eq_false, Bool.true_and, Bool.false_and, Bool.and_true, Bool.and_false, not_true, not_false_iff, Option.bind_some, nn, toList_inj, Bool.not_eq_true', Bool.not_eq_false', Int.le_refl, and_self, true_and, and_true, false_and, and_false, bne_self_eq_false, beq_self_eq_true, Int.reduceEq, Nat.reduceEqDiff, List.length_singleton, List.tail_cons, Int.reduceLE, Int.reduceLT, decide_eq_true_eq]
        rw [hd, foldN_cons]
        exact ih'
theorem specNum_ev (s : ByteArray) (hs : s.size ≤ 4294967280) : Ev (fun N => spec_l1Num.f N [strP s]) [intP (numB s)] := by
  simp only [strP, spec_l1Num.f_eq, toStr_sc]
  unfold numB
  by_cases z0 : s.size = 0
  · have e0 : ((s.size : Int) = 0) = True := true_of (by omega)
    simp only [e0, z0, strs_len, strs_elem, ints_len, ints_elem, items_list, fld_agg, elem_list, toStr_sc, toInt_sc, toBool_sc, headD_one, nat_int, get_bt, decide_eq_true_eq, decide_eq_false_iff_not, decide_true, decide_false, if_true, if_false, ite_self, Bool.not_true, Bool.not_false, Bool.false_eq_true, Bool.true_eq_false, Bool.true_and, Bool.false_and, Bool.and_true, Bool.and_false, not_true, not_false_iff, Option.bind_some, nn, toList_inj, Bool.not_eq_true', Bool.not_eq_false', Int.le_refl, and_self, true_and, and_true, false_and, and_false, bne_self_eq_false, beq_self_eq_true, Int.reduceEq, Nat.reduceEqDiff, List.length_singleton, List.tail_cons, Int.reduceLE, Int.reduceLT, decide_eq_true_eq, true_or]
    exact Ev.now _
  · have e0 : ((s.size : Int) = 0) = False := false_of (by omega)
    by_cases z6 : 6 < s.size
    · have e6 : ((6 : Int) < (s.size : Int)) = True := true_of (by omega)
      simp only [e0, e6, z6, strs_len, strs_elem, ints_len, ints_elem, items_list, fld_agg, elem_list, toStr_sc, toInt_sc, toBool_sc, headD_one, nat_int, get_bt, decide_eq_true_eq, decide_eq_false_iff_not, decide_true, decide_false, if_true, if_false, ite_self, Bool.not_true, Bool.not_false, Bool.false_eq_true, Bool.true_eq_false, Bool.true_and, Bool.false_and, Bool.and_true, Bool.and_false, not_true, not_false_iff, Option.bind_some, nn, toList_inj, Bool.not_eq_true', Bool.not_eq_false', Int.le_refl, and_self, true_and, and_true, false_and, and_false, bne_self_eq_false, beq_self_eq_true, Int.reduceEq, Nat.reduceEqDiff, List.length_singleton, List.tail_cons, Int.reduceLE, Int.reduceLT, decide_eq_true_eq, or_true]
      exact Ev.now _
    · have e6 : ((6 : Int) < (s.size : Int)) = False := false_of (by omega)
      have hne : ¬ (s.size = 0 ∨ 6 < s.size) := by omega
      have hk : Ev (fun N => spec_l1Num.l0 N N s 0 0) [intP (if digs (dB s) = true then (foldN 0 (dB s) : Int) else -1)] := (specNum_loop s (dB s) [] 0 rfl (by omega) (by decide)).diag
      have g0 : ((0 : Int) < (s.size : Int)) = True := true_of (by omega)
      have g1 : ((s.get! 0).toNat : Int) = bt s 0 := rfl
      rw [if_neg hne]
      by_cases z1 : 1 < s.size
      · have e1 : ((1 : Int) < (s.size : Int)) = True := true_of (by omega)
        by_cases z8 : bt s 0 = 48
        · simp only [e0, e6, e1, g0, g1, z1, z8, strs_len, strs_elem, ints_len, ints_elem, items_list, fld_agg, elem_list, toStr_sc, toInt_sc, toBool_sc, headD_one, nat_int, get_bt, decide_eq_true_eq, decide_eq_false_iff_not, decide_true, decide_false, if_true, if_false, ite_self, Bool.not_true, Bool.not_false, Bool.false_eq_true, Bool.true_eq_false, Bool.true_and, Bool.false_and, Bool.and_true, Bool.and_false, not_true, not_false_iff, Option.bind_some, nn, toList_inj, Bool.not_eq_true', Bool.not_eq_false', Int.le_refl, and_self, true_and, and_true, false_and, and_false, bne_self_eq_false, beq_self_eq_true, Int.reduceEq, Nat.reduceEqDiff, List.length_singleton, List.tail_cons, Int.reduceLE, Int.reduceLT, decide_eq_true_eq]
          exact Ev.now _
        · simp only [e0, e6, e1, g0, g1, z1, z8, strs_len, strs_elem, ints_len, ints_elem, items_list, fld_agg, elem_list, toStr_sc, toInt_sc, toBool_sc, headD_one, nat_int, get_bt, decide_eq_true_eq, decide_eq_false_iff_not, decide_true, decide_false, if_true, if_false, ite_self, Bool.not_true, Bool.not_false, Bool.false_eq_true, Bool.true_eq_false, Bool.true_and, Bool.false_and, Bool.and_true, Bool.and_false, not_true, not_false_iff, Option.bind_some, nn, toList_inj, Bool.not_eq_true', Bool.not_eq_false', Int.le_refl, and_self, true_and, and_true, false_and, and_false, bne_self_eq_false, beq_self_eq_true, Int.reduceEq, Nat.reduceEqDiff, List.length_singleton, List.tail_cons, Int.reduceLE, Int.reduceLT, decide_eq_true_eq]
          exact hk
      · have e1 : ((1 : Int) < (s.size : Int)) = False := false_of (by omega)
        simp only [e0, e6, e1, z1, strs_len, strs_elem, ints_len, ints_elem, items_list, fld_agg, elem_list, toStr_sc, toInt_sc, toBool_sc, headD_one, nat_int, get_bt, decide_eq_true_eq, decide_eq_false_iff_not, decide_true, decide_false, if_true, if_false, ite_self, Bool.not_true, Bool.not_false, Bool.false_eq_true, Bool.true_eq_false, Bool.true_and, Bool.false_and, Bool.and_true, Bool.and_false, not_true, not_false_iff, Option.bind_some, nn, toList_inj, Bool.not_eq_true', Bool.not_eq_false', Int.le_refl, and_self, true_and, and_true, false_and, and_false, bne_self_eq_false, beq_self_eq_true, Int.reduceEq, Nat.reduceEqDiff, List.length_singleton, List.tail_cons, Int.reduceLE, Int.reduceLT, decide_eq_true_eq]
        exact hk
theorem foldN_app : ∀ (l m : List UInt8) (acc : Nat), foldN acc (l ++ m) = foldN (foldN acc l) m
  | [], _, _ => rfl
  | c :: l, m, acc => foldN_app l m _
theorem foldN_ge : ∀ (l : List UInt8) (acc : Nat), acc ≤ foldN acc l
  | [], _ => Nat.le_refl _
  | c :: l, acc => by
    have := foldN_ge l (acc * 10 + (c.toNat - 48))
    rw [foldN_cons]; omega
theorem parse_digs : ∀ (l : List UInt8) (acc : Nat), digs l = true → foldN acc l < 1000000000 → Lib.parseUint10 acc l = .ok (foldN acc l)
  | [], _, _, _ => rfl
  | c :: l, acc, hd, hb => by
    simp only [digs, List.all_cons, Bool.and_eq_true, decide_eq_true_eq] at hd
    rw [foldN_cons] at hb ⊢
    have := foldN_ge l (acc * 10 + (c.toNat - 48))
    rw [Lib.parseUint10, if_pos hd.1, if_neg (by omega), if_neg (by omega)]
    exact parse_digs l _ hd.2 hb
theorem dec_facts : ∀ (n u : Nat), u < 10 ^ n → 0 < n → (dB (decB u)).length ≤ n ∧ digs (dB (decB u)) = true ∧ foldN 0 (dB (decB u)) = u ∧ ∃ c r, dB (decB u) = c :: r ∧ (1 ≤ u → c.toNat ≠ 48)
  | 0, u, _, h => by omega
  | n + 1, u, h, _ => by
    by_cases h10 : u < 10
    · have e : dB (decB u) = [UInt8.ofNat (48 + u)] := by
        show (Lib.decDigits u).toArray.toList = _
        rw [Lib.decDigits, dif_pos h10]
      have ec : (UInt8.ofNat (48 + u)).toNat = 48 + u := by simp; omega
      rw [e]
      refine ⟨by simp, ?_, ?_, _, _, rfl, fun h1 => by rw [ec]; omega⟩
      · simp only [digs, List.all_cons, List.all_nil, ec, Bool.and_true, decide_eq_true_eq]; omega
      · simp only [foldN_cons, foldN_nil, ec]; omega
    · have hn : 0 < n := by
        cases n with
        | zero => simp at h; omega
        | succ n => omega
      obtain ⟨i1, i2, i3, c, r, i4, i5⟩ := dec_facts n (u / 10) (by rw [Nat.pow_succ] at h; omega) hn
      have e : dB (decB u) = dB (decB (u / 10)) ++ [UInt8.ofNat (48 + u % 10)] := by
        show (Lib.decDigits u).toArray.toList = (Lib.decDigits (u / 10)).toArray.toList ++ _
        rw [Lib.decDigits, dif_neg h10]
      have ec : (UInt8.ofNat (48 + u % 10)).toNat = 48 + u % 10 := by simp; omega
      rw [e]
      refine ⟨by simp; omega, ?_, ?_, c, r ++ [UInt8.ofNat (48 + u % 10)], by rw [i4]; rfl, fun h1 => i5 (by omega)⟩
      · simp only [digs, List.all_append, List.all_cons, List.all_nil, ec, Bool.and_true, Bool.and_eq_true, decide_eq_true_eq]
        exact ⟨i2, by omega⟩
      · rw [foldN_app, i3]
        simp only [foldN_cons, foldN_nil, ec]; omega
theorem numB_dec {u : Nat} (h0 : 1 ≤ u) (h1 : u ≤ 999999) : numB (decB u) = (u : Int) := by
  obtain ⟨i1, i2, i3, c, r, i4, i5⟩ := dec_facts 6 u (by omega) (by omega)
  have hz := dB_len (decB u)
  have hb : bt (decB u) 0 = (c.toNat : Int) := at_dB (pre := []) i4
  have hlen : (dB (decB u)).length = r.length + 1 := by rw [i4]; rfl
  unfold numB
  rw [if_neg (by omega), if_neg (fun h => i5 h0 (by have := h.2; rw [hb] at this; omega)), if_pos i2, i3]
theorem atoi_dec {u : Nat} (h0 : 1 ≤ u) (h1 : u ≤ 999999) : atoiVal (decB u) = (u : Int) := by
  obtain ⟨i1, i2, i3, c, r, i4, i5⟩ := dec_facts 6 u (by omega) (by omega)
  have hp := parse_digs (dB (decB u)) 0 i2 (by rw [i3]; omega)
  rw [i3] at hp
  have hc : 48 ≤ c.toNat ∧ c.toNat ≤ 57 := by
    rw [i4] at i2
    simp only [digs, List.all_cons, Bool.and_eq_true, decide_eq_true_eq] at i2
    exact i2.1
  have ha : Lib.atoiAll (dB (decB u)) = .ok (u : Int) := by
    rw [i4, Lib.atoiAll_plain c r (by omega) (by omega), Lib.parseMag, if_neg (by simp), ← i4, hp, Lib.signless, if_neg (by omega)]
  have hx : Lib.atoiAll (decB u).data.toList = .ok (u : Int) := ha
  unfold atoiVal
  rw [hx]
/-! #### rings that are read -/
def okTake (ks : List ByteArray) (fs : List Int) (k : ByteArray) (f : Int) (s : ByteArray) : Bool := okT ks fs k f && decide (turnS ks k f = s)
abbrev RingO := Option (List ByteArray × List Int)
def stepW (num : ByteArray → Int) (fine : ByteArray → Bool) (ks : List ByteArray) (fs : List Int) : List ByteArray → RingO
  | [_, b, c, d] => if fine c = true ∧ okTake ks fs (unhB c) (num b) d = true then some (ks ++ [unhB c], fs ++ [num b]) else none
  | _ => none
def stepG (num : ByteArray → Int) (fine : ByteArray → Bool) (ks : List ByteArray) (fs : List Int) (line : ByteArray) : RingO := stepW num fine ks fs (cutB 32 line)
def readG (num : ByteArray → Int) (fine : ByteArray → Bool) : List ByteArray → List ByteArray → List Int → RingO
  | [], ks, fs => some (ks, fs)
  | l :: r, ks, fs => match stepG num fine ks fs l with
    | none => none
    | some x => readG num fine r x.1 x.2
def finG (text : ByteArray) : RingO → RingO
  | some x => if ringPutM x.1 x.2 = text then some x else none
  | none => none
def getG (num : ByteArray → Int) (fine : ByteArray → Bool) (key text : ByteArray) : RingO := if keyM key = true then finG text (readG num fine (cutB 10 text).dropLast [key] [1]) else none
def getR : RingO → List PV
  | some x => [ringP x.1 x.2, boolP true]
  | none => [ringP [] [], boolP false]
theorem stepW_ne (num : ByteArray → Int) (fine : ByteArray → Bool) (ks : List ByteArray) (fs : List Int) : ∀ (ws : List ByteArray), ws.length ≠ 4 → stepW num fine ks fs ws = none
  | [], _ => rfl
  | [_], _ => rfl
  | [_, _], _ => rfl
  | [_, _, _], _ => rfl
  | [_, _, _, _], h => absurd rfl h
  | _ :: _ :: _ :: _ :: _ :: _, _ => rfl
theorem four {ws : List ByteArray} (h : ws.length = 4) : ∃ a b c d, ws = [a, b, c, d] := by
  match ws, h with
  | [a, b, c, d], _ => exact ⟨a, b, c, d, rfl⟩
theorem okTake_ring {ks : List ByteArray} {fs : List Int} {k : ByteArray} {f : Int} {s : ByteArray} (h : okTake ks fs k f s = true) : ringM (ks ++ [k]) (fs ++ [f]) = true := by
  simp only [okTake, okT, Bool.and_eq_true] at h
  exact h.1.2
theorem stepW_ring {num : ByteArray → Int} {fine : ByteArray → Bool} {ks : List ByteArray} {fs : List Int} {ws : List ByteArray} {x : List ByteArray × List Int} (h : stepW num fine ks fs ws = some x) : ringM x.1 x.2 = true ∧ ∃ k f, x = (ks ++ [k], fs ++ [f]) := by
  by_cases h4 : ws.length = 4
  · obtain ⟨a, b, c, d, rfl⟩ := four h4
    rw [stepW] at h
    split at h
    · rename_i hc
      injection h with h; subst h
      exact ⟨okTake_ring hc.2, _, _, rfl⟩
    · cases h
  · rw [stepW_ne _ _ _ _ _ h4] at h; cases h
theorem ring_small {ks : List ByteArray} {fs : List Int} (h : ringM ks fs = true) : ks.length ≤ 5 ∧ fs.length ≤ 5 ∧ ∀ k ∈ ks, k.size ≤ 64 := by
  obtain ⟨n1, n2, n3, n4, _⟩ := ring_facts h
  exact ⟨n2, by omega, fun k hk => (n4 k hk).2⟩
theorem takeR_ok {ks : List ByteArray} {fs : List Int} (h : ringM ks fs = true) (k : ByteArray) (f : Int) (s : ByteArray) : takeR ks fs k f s = if okTake ks fs k f s = true then [ringP (ks ++ [k]) (fs ++ [f]), boolP true] else [ringP ks fs, boolP false] := by
  unfold takeR okTake
  rw [if_pos h]
  by_cases h1 : okT ks fs k f = true
  · by_cases h2 : turnS ks k f = s <;> simp [h1, h2]
  · simp [h1]
theorem implGet_loop {text : ByteArray} (ht : text.size ≤ 1048576) {L : List ByteArray} (hL : L.length ≤ 1048577) (hLs : ∀ l ∈ L, l.size ≤ 1048576) : ∀ (rest pre ks : List ByteArray) (fs : List Int), L = pre ++ rest → ringM ks fs = true →
    Ev2 (fun N n => impl_RingGet.l0 N n text (L.length : Int) (pre.length : Int) (strsP L) (strsP ks) (intsP fs)) (getR (finG text (readG atoiVal (fun _ => true) rest ks fs))) := by
  intro rest
  induction rest with
  | nil =>
    intro pre ks fs hp hr
    obtain ⟨n1, n2, n3⟩ := ring_small hr
    refine Ev2.succ ?_
    simp only [impl_RingGet.l0_eq, at_end hp, ring_agg, strs_len, strs_elem, ints_len, ints_elem, items_list, fld_agg, elem_list, toStr_sc, toInt_sc, toBool_sc, headD_one, nat_int, get_bt, decide_eq_true_eq, decide_eq_false_iff_not, decide_true, decide_false, if_true, if_false, ite_self, Bool.not_true, Bool.not_false, Bool.false_eq_true, Bool.true_eq_false, Bool.true_and, Bool.false_and, Bool.and_true, Bool.and_false, not_true, not_false_iff, Option.bind_some, nn, toList_inj, Bool.not_eq_true', Bool.not_eq_false', Int.le_refl, and_self, true_and, and_true, false_and, and_false, bne_self_eq_false, beq_self_eq_true, Int.reduceEq, Nat.reduceEqDiff, List.length_singleton, List.tail_cons, Int.reduceLE, Int.reduceLT, decide_eq_true_eq, readG, finG]
    refine Ev2.bind (implRingPut_ev ks fs (by omega) (by omega) (fun s hs => by have := n3 s hs; omega)) ?_
    by_cases he : ringPutM ks fs = text
    · simp only [he, strs_len, strs_elem, ints_len, ints_elem, items_list, fld_agg, elem_list, toStr_sc, toInt_sc, toBool_sc, headD_one, nat_int, get_bt, decide_eq_true_eq, decide_eq_false_iff_not, decide_true, decide_false, if_true, if_false, ite_self, Bool.not_true, Bool.not_false, Bool.false_eq_true, Bool.true_eq_false, Bool.true_and, Bool.false_and, Bool.and_true, Bool.and_false, not_true, not_false_iff, Option.bind_some, nn, toList_inj, Bool.not_eq_true', Bool.not_eq_false', Int.le_refl, and_self, true_and, and_true, false_and, and_false, bne_self_eq_false, beq_self_eq_true, Int.reduceEq, Nat.reduceEqDiff, List.length_singleton, List.tail_cons, Int.reduceLE, Int.reduceLT, decide_eq_true_eq, getR]; exact Ev2.now _
    · simp only [he, strs_len, strs_elem, ints_len, ints_elem, items_list, fld_agg, elem_list, toStr_sc, toInt_sc, toBool_sc, headD_one, nat_int, get_bt, decide_eq_true_eq, decide_eq_false_iff_not, decide_true, decide_false, if_true, if_false, ite_self, Bool.not_true, Bool.not_false, Bool.false_eq_true, Bool.true_eq_false, Bool.true_and, Bool.false_and, Bool.and_true, Bool.and_false, not_true, not_false_iff, Option.bind_some, nn, toList_inj, Bool.not_eq_true', Bool.not_eq_false', Int.le_refl, and_self, true_and, and_true, false_and, and_false, bne_self_eq_false, beq_self_eq_true, Int.reduceEq, Nat.reduceEqDiff, List.length_singleton, List.tail_cons, Int.reduceLE, Int.reduceLT, decide_eq_true_eq, getR, ring_none]; exact Ev2.now _
  | cons l rest ih =>
    intro pre ks fs hp hr
    obtain ⟨n1, n2, n3⟩ := ring_small hr
    have hls := hLs l (by rw [hp]; simp)
    have hsp := splitCut_val 32 l (by omega)
    have hps := cutB_sizes 32 l
    have hn := at_next hp (by omega)
    refine Ev2.succ ?_
    rw [readG, stepG]
    by_cases h4 : (cutB 32 l).length = 4
    · obtain ⟨a, b, c, d, hw⟩ := four h4
      rw [hw] at hsp hps ⊢
      have sb := hps b (by simp)
      have sc := hps c (by simp)
      have sd := hps d (by simp)
      have hat : ∀ N, strconv_Atoi.f N [strP b] = some [intP (atoiVal b), boolP (atoiErr b)] := fun N => by
        show atoiDen [strP b] = _
        have : (if b.size ≤ 281474976710656 then some [intP (atoiVal b), boolP (atoiErr b)] else none) = some [intP (atoiVal b), boolP (atoiErr b)] := if_pos (by omega)
        exact this
      have l4 : ((([a, b, c, d] : List ByteArray).length : Int) = 4) = True := true_of rfl
      have x1 : ((1 : Int) < (([a, b, c, d] : List ByteArray).length : Int)) = True := true_of (by simp)
      have x2 : ((2 : Int) < (([a, b, c, d] : List ByteArray).length : Int)) = True := true_of (by simp)
      have x3 : ((3 : Int) < (([a, b, c, d] : List ByteArray).length : Int)) = True := true_of (by simp)
      have g1 : ((strsP [a, b, c, d]).elem 1) = strP b := rfl
      have g2 : ((strsP [a, b, c, d]).elem 2) = strP c := rfl
      have g3 : ((strsP [a, b, c, d]).elem 3) = strP d := rfl
      simp only [strP] at hsp hat
      simp only [impl_RingGet.l0_eq, eq_true (at_lt hp), at_getD hp, hsp, Option.bind_some, headD_one, g1, g2, g3, strs_elem, strs_len, l4, x1, x2, x3, toStr_sc, hat, strs_len, strs_elem, ints_len, ints_elem, items_list, fld_agg, elem_list, toStr_sc, toInt_sc, toBool_sc, headD_one, nat_int, get_bt, decide_eq_true_eq, decide_eq_false_iff_not, decide_true, decide_false, if_true, if_false, ite_self, Bool.not_true, Bool.not_false, Bool.false_eq_true, Bool.true_eq_false, Bool.true_and, Bool.false_and, Bool.and_true, Bool.and_false, not_true, not_false_iff, Option.bind_some, nn, toList_inj, Bool.not_eq_true', Bool.not_eq_false', Int.le_refl, and_self, true_and, and_true, false_and, and_false, bne_self_eq_false, beq_self_eq_true, Int.reduceEq, Nat.reduceEqDiff, List.length_singleton, List.tail_cons, Int.reduceLE, Int.reduceLT, decide_eq_true_eq]
      refine Ev2.bind (implUnhex_ev c (by omega)) ?_
      simp only [headD_one, toStr_sc, toInt_sc, ring_agg, turn_agg]
      refine Ev2.bind (implTake_ev ks fs (unhB c) (atoiVal b) d (by omega) (by omega) (fun s hs => by have := n3 s hs; omega) (by have := unhB_size c; omega)) ?_
      rw [takeR_ok hr, stepW]
      cases hk : okTake ks fs (unhB c) (atoiVal b) d with
      | false =>
        simp only [strs_len, strs_elem, ints_len, ints_elem, items_list, fld_agg, elem_list, toStr_sc, toInt_sc, toBool_sc, headD_one, nat_int, get_bt, decide_eq_true_eq, decide_eq_false_iff_not, decide_true, decide_false, if_true, if_false, ite_self, Bool.not_true, Bool.not_false, Bool.false_eq_true, Bool.true_eq_false, Bool.true_and, Bool.false_and, Bool.and_true, Bool.and_false, not_true, not_false_iff, Option.bind_some, nn, toList_inj, Bool.not_eq_true', Bool.not_eq_false', Int.le_refl, and_self, true_and, and_true, false_and, and_false, bne_self_eq_false, beq_self_eq_true, Int.reduceEq, Nat.reduceEqDiff, List.length_singleton, List.tail_cons, Int.reduceLE, Int.reduceLT, decide_eq_true_eq, ring_none, finG, getR]
        exact Ev2.now _
      | true =>
        have := ih (pre ++ [l]) (ks ++ [unhB c]) (fs ++ [atoiVal b]) (by rw [hp]; simp) (okTake_ring hk)
        simp only [strs_len, strs_elem, ints_len, ints_elem, items_list, fld_agg, elem_list, toStr_sc, toInt_sc, toBool_sc, headD_one, nat_int, get_bt, decide_eq_true_eq, decide_eq_false_iff_not, decide_true, decide_false, if_true, if_false, ite_self, Bool.not_true, Bool.not_false, Bool.false_eq_true, Bool.true_eq_false, Bool.true_and, Bool.false_and, Bool.and_true, Bool.and_false, not_true, not_false_iff, Option.bind_some, nn, toList_inj, Bool.not_eq_true', Bool.not_eq_false', Int.le_refl, and_self, true_and, and_true, false_and, and_false, bne_self_eq_false, beq_self_eq_true, Int.reduceEq, Nat.reduceEqDiff, List.length_singleton, List.tail_cons, Int.reduceLE, Int.reduceLT, decide_eq_true_eq, hn, ring_f0, ring_f1]
        exact this
    · have l4 : (((cutB 32 l).length : Int) = 4) = False := false_of (by omega)
      rw [stepW_ne _ _ _ _ _ h4]
      simp only [strP] at hsp
      simp only [impl_RingGet.l0_eq, eq_true (at_lt hp), at_getD hp, hsp, l4, strs_len, strs_elem, ints_len, ints_elem, items_list, fld_agg, elem_list, toStr_sc, toInt_sc, toBool_sc, headD_one, nat_int, get_bt, decide_eq_true_eq, decide_eq_false_iff_not, decide_true, decide_false, if_true, if_false, ite_self, Bool.not_true, Bool.not_false, Bool.false_eq_true, Bool.true_eq_false, Bool.true_and, Bool.false_and, Bool.and_true, Bool.and_false, not_true, not_false_iff, Option.bind_some, nn, toList_inj, Bool.not_eq_true', Bool.not_eq_false', Int.le_refl, and_self, true_and, and_true, false_and, and_false, bne_self_eq_false, beq_self_eq_true, Int.reduceEq, Nat.reduceEqDiff, List.length_singleton, List.tail_cons, Int.reduceLE, Int.reduceLT, decide_eq_true_eq, ring_none, finG, getR]
      exact Ev2.now _
theorem new_one (k : ByteArray) : PV.agg [PV.list [PV.sc (.string k)], PV.list [PV.sc (.int .i64 1)]] = ringP [k] [1] := rfl
theorem implNewG_val (s : ByteArray) (hs : s.size ≤ 9223372036854775807) (N : Nat) : impl_RingNew.f N [strP s] = some (if keyM s = true then [ringP [s] [1], boolP true] else [ringP [] [], boolP false]) := by
  simp only [impl_RingNew.f_eq, implKey_val s hs, new_one, ring_none, strs_len, strs_elem, ints_len, ints_elem, items_list, fld_agg, elem_list, toStr_sc, toInt_sc, toBool_sc, headD_one, nat_int, get_bt, decide_eq_true_eq, decide_eq_false_iff_not, decide_true, decide_false, if_true, if_false, ite_self, Bool.not_true, Bool.not_false, Bool.false_eq_true, Bool.true_eq_false, Bool.true_and, Bool.false_and, Bool.and_true, Bool.and_false, not_true, not_false_iff, Option.bind_some, nn, toList_inj, Bool.not_eq_true', Bool.not_eq_false', Int.le_refl, and_self, true_and, and_true, false_and, and_false, bne_self_eq_false, beq_self_eq_true, Int.reduceEq, Nat.reduceEqDiff, List.length_singleton, List.tail_cons, Int.reduceLE, Int.reduceLT, decide_eq_true_eq]
  cases keyM s <;> rfl
theorem specNewG_val (s : ByteArray) (hs : s.size ≤ 9223372036854775807) (N : Nat) : spec_RingNew.f N [strP s] = some (if keyM s = true then [ringP [s] [1], boolP true] else [ringP [] [], boolP false]) := by
  simp only [spec_RingNew.f_eq, specKey_val s hs, new_one, ring_none, strs_len, strs_elem, ints_len, ints_elem, items_list, fld_agg, elem_list, toStr_sc, toInt_sc, toBool_sc, headD_one, nat_int, get_bt, decide_eq_true_eq, decide_eq_false_iff_not, decide_true, decide_false, if_true, if_false, ite_self, Bool.not_true, Bool.not_false, Bool.false_eq_true, Bool.true_eq_false, Bool.true_and, Bool.false_and, Bool.and_true, Bool.and_false, not_true, not_false_iff, Option.bind_some, nn, toList_inj, Bool.not_eq_true', Bool.not_eq_false', Int.le_refl, and_self, true_and, and_true, false_and, and_false, bne_self_eq_false, beq_self_eq_true, Int.reduceEq, Nat.reduceEqDiff, List.length_singleton, List.tail_cons, Int.reduceLE, Int.reduceLT, decide_eq_true_eq]
  cases keyM s <;> rfl
theorem ring_first {k : ByteArray} (h : keyM k = true) : ringM [k] [1] = true := by
  simp [ringM, keysM, ascF, tailM, h]
theorem implGet_ev (key text : ByteArray) (hk : key.size ≤ 1048576) (ht : text.size ≤ 1048576) : Ev (fun N => impl_RingGet.f N [strP key, strP text]) (getR (getG atoiVal (fun _ => true) key text)) := by
  have hnew := implNewG_val key (by omega)
  have hlines := linesOf_val text ht
  simp only [strP] at hnew hlines
  simp only [strP, impl_RingGet.f_eq, toStr_sc, hnew, Option.bind_some]
  unfold getG
  cases h : keyM key with
  | false => simp only [strs_len, strs_elem, ints_len, ints_elem, items_list, fld_agg, elem_list, toStr_sc, toInt_sc, toBool_sc, headD_one, nat_int, get_bt, decide_eq_true_eq, decide_eq_false_iff_not, decide_true, decide_false, if_true, if_false, ite_self, Bool.not_true, Bool.not_false, Bool.false_eq_true, Bool.true_eq_false, Bool.true_and, Bool.false_and, Bool.and_true, Bool.and_false, not_true, not_false_iff, Option.bind_some, nn, toList_inj, Bool.not_eq_true', Bool.not_eq_false', Int.le_refl, and_self, true_and, and_true, false_and, and_false, bne_self_eq_false, beq_self_eq_true, Int.reduceEq, Nat.reduceEqDiff, List.length_singleton, List.tail_cons, Int.reduceLE, Int.reduceLT, decide_eq_true_eq, ring_none, getR]; exact Ev.now _
  | true =>
    have hlen := cutB_len 10 text
    have hsz := cutB_sizes 10 text
    have := implGet_loop ht (L := (cutB 10 text).dropLast) (by rw [List.length_dropLast]; omega) (fun l hl => by have := hsz l (List.dropLast_subset _ hl); omega) (cutB 10 text).dropLast [] [key] [1] rfl (ring_first h)
    simp only [strs_len, strs_elem, ints_len, ints_elem, items_list, fld_agg, elem_list, toStr_sc, toInt_sc, toBool_sc, headD_one, nat_int, get_bt, decide_eq_true_eq, decide_eq_false_iff_not, decide_true, decide_false, if_true, if_false, ite_self, Bool.not_true, Bool.not_false, Bool.false_eq_true, Bool.true_eq_false, Bool.true_and, Bool.false_and, Bool.and_true, Bool.and_false, not_true, not_false_iff, Option.bind_some, nn, toList_inj, Bool.not_eq_true', Bool.not_eq_false', Int.le_refl, and_self, true_and, and_true, false_and, and_false, bne_self_eq_false, beq_self_eq_true, Int.reduceEq, Nat.reduceEqDiff, List.length_singleton, List.tail_cons, Int.reduceLE, Int.reduceLT, decide_eq_true_eq, hlines, ring_f0, ring_f1]
    exact this.diag
/-! #### the specification's reader -/
theorem specGet_loop {text : ByteArray} (ht : text.size ≤ 1048576) {D : List ByteArray} {z : ByteArray} (hL : D.length ≤ 1048577) (hLs : ∀ l ∈ D, l.size ≤ 1048576) : ∀ (rest pre ks : List ByteArray) (fs : List Int), D = pre ++ rest → ringM ks fs = true →
    Ev2 (fun N n => spec_RingGet.l0 N n text true (pre.length : Int) (strsP (D ++ [z])) (strsP ks) (intsP fs)) (getR (finG text (readG numB fineB rest ks fs))) := by
  intro rest
  induction rest with
  | nil =>
    intro pre ks fs hp hr
    obtain ⟨n1, n2, n3⟩ := ring_small hr
    have hz := congrArg List.length hp
    simp only [List.length_append, List.length_nil] at hz
    have w : IntKind.i64.wrap ((pre.length : Int) + 1) = ((pre.length + 1 : Nat) : Int) := nat_wrap (by omega) (by omega)
    have e1 : (((pre.length + 1 : Nat) : Int) < (((D ++ [z]).length : Nat) : Int)) = False := false_of (by rw [List.length_append, List.length_singleton]; omega)
    refine Ev2.succ ?_
    simp only [spec_RingGet.l0_eq, w, e1, ring_agg, strs_len, strs_elem, ints_len, ints_elem, items_list, fld_agg, elem_list, toStr_sc, toInt_sc, toBool_sc, headD_one, nat_int, get_bt, decide_eq_true_eq, decide_eq_false_iff_not, decide_true, decide_false, if_true, if_false, ite_self, Bool.not_true, Bool.not_false, Bool.false_eq_true, Bool.true_eq_false, Bool.true_and, Bool.false_and, Bool.and_true, Bool.and_false, not_true, not_false_iff, Option.bind_some, nn, toList_inj, Bool.not_eq_true', Bool.not_eq_false', Int.le_refl, and_self, true_and, and_true, false_and, and_false, bne_self_eq_false, beq_self_eq_true, Int.reduceEq, Nat.reduceEqDiff, List.length_singleton, List.tail_cons, Int.reduceLE, Int.reduceLT, decide_eq_true_eq, readG, finG]
    refine Ev2.bind (specRingPut_ev ks fs (by omega) (by omega) (fun s hs => by have := n3 s hs; omega)) ?_
    by_cases he : ringPutM ks fs = text
    · simp only [he, strs_len, strs_elem, ints_len, ints_elem, items_list, fld_agg, elem_list, toStr_sc, toInt_sc, toBool_sc, headD_one, nat_int, get_bt, decide_eq_true_eq, decide_eq_false_iff_not, decide_true, decide_false, if_true, if_false, ite_self, Bool.not_true, Bool.not_false, Bool.false_eq_true, Bool.true_eq_false, Bool.true_and, Bool.false_and, Bool.and_true, Bool.and_false, not_true, not_false_iff, Option.bind_some, nn, toList_inj, Bool.not_eq_true', Bool.not_eq_false', Int.le_refl, and_self, true_and, and_true, false_and, and_false, bne_self_eq_false, beq_self_eq_true, Int.reduceEq, Nat.reduceEqDiff, List.length_singleton, List.tail_cons, Int.reduceLE, Int.reduceLT, decide_eq_true_eq, getR]; exact Ev2.now _
    · simp only [he, strs_len, strs_elem, ints_len, ints_elem, items_list, fld_agg, elem_list, toStr_sc, toInt_sc, toBool_sc, headD_one, nat_int, get_bt, decide_eq_true_eq, decide_eq_false_iff_not, decide_true, decide_false, if_true, if_false, ite_self, Bool.not_true, Bool.not_false, Bool.false_eq_true, Bool.true_eq_false, Bool.true_and, Bool.false_and, Bool.and_true, Bool.and_false, not_true, not_false_iff, Option.bind_some, nn, toList_inj, Bool.not_eq_true', Bool.not_eq_false', Int.le_refl, and_self, true_and, and_true, false_and, and_false, bne_self_eq_false, beq_self_eq_true, Int.reduceEq, Nat.reduceEqDiff, List.length_singleton, List.tail_cons, Int.reduceLE, Int.reduceLT, decide_eq_true_eq, getR, ring_none]; exact Ev2.now _
  | cons l rest ih =>
    intro pre ks fs hp hr
    obtain ⟨n1, n2, n3⟩ := ring_small hr
    have hls := hLs l (by rw [hp]; simp)
    have hsp := specCut_ev 32 l (by omega)
    have hps := cutB_sizes 32 l
    have hz := congrArg List.length hp
    simp only [List.length_append, List.length_cons] at hz
    have w : IntKind.i64.wrap ((pre.length : Int) + 1) = ((pre.length + 1 : Nat) : Int) := nat_wrap (by omega) (by omega)
    have e1 : (((pre.length + 1 : Nat) : Int) < (((D ++ [z]).length : Nat) : Int)) = True := true_of (by rw [List.length_append, List.length_singleton]; omega)
    have e0 : (((pre.length : Nat) : Int) < (((D ++ [z]).length : Nat) : Int)) = True := true_of (by rw [List.length_append, List.length_singleton]; omega)
    have hg : (D ++ [z]).getD pre.length ByteArray.empty = l := at_getD (xs := D ++ [z]) (rest := rest ++ [z]) (by rw [hp]; simp)
    have e32 : (PV.sc (.int .u8 ((32 : UInt8).toNat : Int))) = PV.sc (.int .u8 32) := rfl
    have hn : ((pre ++ [l]).length : Int) = ((pre.length + 1 : Nat) : Int) := by simp
    rw [e32] at hsp
    simp only [strP] at hsp
    refine Ev2.succ ?_
    rw [readG, stepG]
    simp only [spec_RingGet.l0_eq, w, e1, e0, hg, strs_len, strs_elem, ints_len, ints_elem, items_list, fld_agg, elem_list, toStr_sc, toInt_sc, toBool_sc, headD_one, nat_int, get_bt, decide_eq_true_eq, decide_eq_false_iff_not, decide_true, decide_false, if_true, if_false, ite_self, Bool.not_true, Bool.not_false, Bool.false_eq_true, Bool.true_eq_false, Bool.true_and, Bool.false_and, Bool.and_true, Bool.and_false, not_true, not_false_iff, Option.bind_some, nn, toList_inj, Bool.not_eq_true', Bool.not_eq_false', Int.le_refl, and_self, true_and, and_true, false_and, and_false, bne_self_eq_false, beq_self_eq_true, Int.reduceEq, Nat.reduceEqDiff, List.length_singleton, List.tail_cons, Int.reduceLE, Int.reduceLT, decide_eq_true_eq]
    refine Ev2.bind hsp ?_
    by_cases h4 : (cutB 32 l).length = 4
    · obtain ⟨a, b, c, d, hw⟩ := four h4
      rw [hw] at hps ⊢
      have sb := hps b (by simp)
      have sc := hps c (by simp)
      have sd := hps d (by simp)
      have l4 : ((([a, b, c, d] : List ByteArray).length : Int) = 4) = True := true_of rfl
      have x1 : ((1 : Int) < (([a, b, c, d] : List ByteArray).length : Int)) = True := true_of (by simp)
      have x2 : ((2 : Int) < (([a, b, c, d] : List ByteArray).length : Int)) = True := true_of (by simp)
      have x3 : ((3 : Int) < (([a, b, c, d] : List ByteArray).length : Int)) = True := true_of (by simp)
      have g1 : ((strsP [a, b, c, d]).elem 1) = strP b := rfl
      have g2 : ((strsP [a, b, c, d]).elem 2) = strP c := rfl
      have g3 : ((strsP [a, b, c, d]).elem 3) = strP d := rfl
      simp only [headD_one, strs_len, g1, g2, g3, l4, x1, x2, x3, strs_len, strs_elem, ints_len, ints_elem, items_list, fld_agg, elem_list, toStr_sc, toInt_sc, toBool_sc, headD_one, nat_int, get_bt, decide_eq_true_eq, decide_eq_false_iff_not, decide_true, decide_false, if_true, if_false, ite_self, Bool.not_true, Bool.not_false, Bool.false_eq_true, Bool.true_eq_false, Bool.true_and, Bool.false_and, Bool.and_true, Bool.and_false, not_true, not_false_iff, Option.bind_some, nn, toList_inj, Bool.not_eq_true', Bool.not_eq_false', Int.le_refl, and_self, true_and, and_true, false_and, and_false, bne_self_eq_false, beq_self_eq_true, Int.reduceEq, Nat.reduceEqDiff, List.length_singleton, List.tail_cons, Int.reduceLE, Int.reduceLT, decide_eq_true_eq]
      refine Ev2.bind (specBytes_ev c (by omega)) ?_
      refine Ev2.bind (specNum_ev b (by omega)) ?_
      rw [stepW]
      cases hf : figs (bytesOf c) with
      | false =>
        have hfi : fineB c = false := by rw [fineB, hf]; rfl
        rw [bytesR, hf]
        simp only [headD_one, strs_len, strs_elem, ints_len, ints_elem, items_list, fld_agg, elem_list, toStr_sc, toInt_sc, toBool_sc, headD_one, nat_int, get_bt, decide_eq_true_eq, decide_eq_false_iff_not, decide_true, decide_false, if_true, if_false, ite_self, Bool.not_true, Bool.not_false, Bool.false_eq_true, Bool.true_eq_false, Bool.true_and, Bool.false_and, Bool.and_true, Bool.and_false, not_true, not_false_iff, Option.bind_some, nn, toList_inj, Bool.not_eq_true', Bool.not_eq_false', Int.le_refl, and_self, true_and, and_true, false_and, and_false, bne_self_eq_false, beq_self_eq_true, Int.reduceEq, Nat.reduceEqDiff, List.length_singleton, List.tail_cons, Int.reduceLE, Int.reduceLT, decide_eq_true_eq, ring_agg, turn_agg, List.headD_cons, List.tail_cons]
        refine Ev2.bind (specTake_ev ks fs ⟨#[]⟩ (numB b) d (by omega) (by omega) (fun s hs => by have := n3 s hs; omega) (by show (0 : Nat) ≤ _; omega)) ?_
        simp only [hfi, strs_len, strs_elem, ints_len, ints_elem, items_list, fld_agg, elem_list, toStr_sc, toInt_sc, toBool_sc, headD_one, nat_int, get_bt, decide_eq_true_eq, decide_eq_false_iff_not, decide_true, decide_false, if_true, if_false, ite_self, Bool.not_true, Bool.not_false, Bool.false_eq_true, Bool.true_eq_false, Bool.true_and, Bool.false_and, Bool.and_true, Bool.and_false, not_true, not_false_iff, Option.bind_some, nn, toList_inj, Bool.not_eq_true', Bool.not_eq_false', Int.le_refl, and_self, true_and, and_true, false_and, and_false, bne_self_eq_false, beq_self_eq_true, Int.reduceEq, Nat.reduceEqDiff, List.length_singleton, List.tail_cons, Int.reduceLE, Int.reduceLT, decide_eq_true_eq, ring_none, finG, getR]
        exact Ev2.now _
      | true =>
        have hfi : fineB c = decide (c.size % 2 = 0) := by rw [fineB, hf]; rfl
        rw [bytesR, if_pos hf]
        simp only [headD_one, strs_len, strs_elem, ints_len, ints_elem, items_list, fld_agg, elem_list, toStr_sc, toInt_sc, toBool_sc, headD_one, nat_int, get_bt, decide_eq_true_eq, decide_eq_false_iff_not, decide_true, decide_false, if_true, if_false, ite_self, Bool.not_true, Bool.not_false, Bool.false_eq_true, Bool.true_eq_false, Bool.true_and, Bool.false_and, Bool.and_true, Bool.and_false, not_true, not_false_iff, Option.bind_some, nn, toList_inj, Bool.not_eq_true', Bool.not_eq_false', Int.le_refl, and_self, true_and, and_true, false_and, and_false, bne_self_eq_false, beq_self_eq_true, Int.reduceEq, Nat.reduceEqDiff, List.length_singleton, List.tail_cons, Int.reduceLE, Int.reduceLT, decide_eq_true_eq, ring_agg, turn_agg, List.headD_cons, List.tail_cons]
        refine Ev2.bind (specTake_ev ks fs (unhB c) (numB b) d (by omega) (by omega) (fun s hs => by have := n3 s hs; omega) (by have := unhB_size c; omega)) ?_
        rw [takeR_ok hr]
        by_cases h2 : c.size % 2 = 0
        · cases hk : okTake ks fs (unhB c) (numB b) d with
          | false =>
            simp only [hfi, h2, strs_len, strs_elem, ints_len, ints_elem, items_list, fld_agg, elem_list, toStr_sc, toInt_sc, toBool_sc, headD_one, nat_int, get_bt, decide_eq_true_eq, decide_eq_false_iff_not, decide_true, decide_false, if_true, if_false, ite_self, Bool.not_true, Bool.not_false, Bool.false_eq_true, Bool.true_eq_false, Bool.true_and, Bool.false_and, Bool.and_true, Bool.and_false, not_true, not_false_iff, Option.bind_some, nn, toList_inj, Bool.not_eq_true', Bool.not_eq_false', Int.le_refl, and_self, true_and, and_true, false_and, and_false, bne_self_eq_false, beq_self_eq_true, Int.reduceEq, Nat.reduceEqDiff, List.length_singleton, List.tail_cons, Int.reduceLE, Int.reduceLT, decide_eq_true_eq, ring_none, finG, getR]
            exact Ev2.now _
          | true =>
            have := ih (pre ++ [l]) (ks ++ [unhB c]) (fs ++ [numB b]) (by rw [hp]; simp) (okTake_ring hk)
            rw [hn] at this
            simp only [hfi, h2, strs_len, strs_elem, ints_len, ints_elem, items_list, fld_agg, elem_list, toStr_sc, toInt_sc, toBool_sc, headD_one, nat_int, get_bt, decide_eq_true_eq, decide_eq_false_iff_not, decide_true, decide_false, if_true, if_false, ite_self, Bool.not_true, Bool.not_false, Bool.false_eq_true, Bool.true_eq_false, Bool.true_and, Bool.false_and, Bool.and_true, Bool.and_false, not_true, not_false_iff, Option.bind_some, nn, toList_inj, Bool.not_eq_true', Bool.not_eq_false', Int.le_refl, and_self, true_and, and_true, false_and, and_false, bne_self_eq_false, beq_self_eq_true, Int.reduceEq, Nat.reduceEqDiff, List.length_singleton, List.tail_cons, Int.reduceLE, Int.reduceLT, decide_eq_true_eq, ring_f0, ring_f1]
            exact this
        · simp only [hfi, h2, strs_len, strs_elem, ints_len, ints_elem, items_list, fld_agg, elem_list, toStr_sc, toInt_sc, toBool_sc, headD_one, nat_int, get_bt, decide_eq_true_eq, decide_eq_false_iff_not, decide_true, decide_false, if_true, if_false, ite_self, Bool.not_true, Bool.not_false, Bool.false_eq_true, Bool.true_eq_false, Bool.true_and, Bool.false_and, Bool.and_true, Bool.and_false, not_true, not_false_iff, Option.bind_some, nn, toList_inj, Bool.not_eq_true', Bool.not_eq_false', Int.le_refl, and_self, true_and, and_true, false_and, and_false, bne_self_eq_false, beq_self_eq_true, Int.reduceEq, Nat.reduceEqDiff, List.length_singleton, List.tail_cons, Int.reduceLE, Int.reduceLT, decide_eq_true_eq, ring_none, finG, getR]
          exact Ev2.now _
    · have l4 : (((cutB 32 l).length : Int) = 4) = False := false_of (by omega)
      rw [stepW_ne _ _ _ _ _ h4]
      simp only [headD_one, strs_len, l4, strs_len, strs_elem, ints_len, ints_elem, items_list, fld_agg, elem_list, toStr_sc, toInt_sc, toBool_sc, headD_one, nat_int, get_bt, decide_eq_true_eq, decide_eq_false_iff_not, decide_true, decide_false, if_true, if_false, ite_self, Bool.not_true, Bool.not_false, Bool.false_eq_true, Bool.true_eq_false, Bool.true_and, Bool.false_and, Bool.and_true, Bool.and_false, not_true, not_false_iff, Option.bind_some, nn, toList_inj, Bool.not_eq_true', Bool.not_eq_false', Int.le_refl, and_self, true_and, and_true, false_and, and_false, bne_self_eq_false, beq_self_eq_true, Int.reduceEq, Nat.reduceEqDiff, List.length_singleton, List.tail_cons, Int.reduceLE, Int.reduceLT, decide_eq_true_eq, ring_none, finG, getR]
      exact Ev2.now _
theorem specGet_ev (key text : ByteArray) (hk : key.size ≤ 1048576) (ht : text.size ≤ 1048576) : Ev (fun N => spec_RingGet.f N [strP key, strP text]) (getR (getG numB fineB key text)) := by
  have hnew := specNewG_val key (by omega)
  have hlines := specCut_ev 10 text (by omega)
  have e10 : (PV.sc (.int .u8 ((10 : UInt8).toNat : Int))) = PV.sc (.int .u8 10) := rfl
  rw [e10] at hlines
  simp only [strP] at hnew hlines
  simp only [strP, spec_RingGet.f_eq, toStr_sc, hnew, Option.bind_some]
  refine Ev.bind hlines ?_
  have hlen := cutB_len 10 text
  have hsz := cutB_sizes 10 text
  have hd := List.dropLast_concat_getLast (cutB_ne 10 text)
  unfold getG
  cases h : keyM key with
  | false =>
    have h0 : 0 < (cutB 10 text).length := List.length_pos_iff.2 (cutB_ne 10 text)
    have w1 : IntKind.i64.wrap ((0 : Int) + 1) = 1 := by decide
    simp only [strs_len, strs_elem, ints_len, ints_elem, items_list, fld_agg, elem_list, toStr_sc, toInt_sc, toBool_sc, headD_one, nat_int, get_bt, decide_eq_true_eq, decide_eq_false_iff_not, decide_true, decide_false, if_true, if_false, ite_self, Bool.not_true, Bool.not_false, Bool.false_eq_true, Bool.true_eq_false, Bool.true_and, Bool.false_and, Bool.and_true, Bool.and_false, not_true, not_false_iff, Option.bind_some, nn, toList_inj, Bool.not_eq_true', Bool.not_eq_false', Int.le_refl, and_self, true_and, and_true, false_and, and_false, bne_self_eq_false, beq_self_eq_true, Int.reduceEq, Nat.reduceEqDiff, List.length_singleton, List.tail_cons, Int.reduceLE, Int.reduceLT, decide_eq_true_eq, ring_none, getR, ring_f0, ring_f1]
    refine Ev2.diag (g := fun N n => spec_RingGet.l0 N n text false 0 (strsP (cutB 10 text)) (strsP []) (intsP [])) (Ev2.succ ?_)
    simp only [spec_RingGet.l0_eq, strs_len, strs_elem, ints_len, ints_elem, items_list, fld_agg, elem_list, toStr_sc, toInt_sc, toBool_sc, headD_one, nat_int, get_bt, decide_eq_true_eq, decide_eq_false_iff_not, decide_true, decide_false, if_true, if_false, ite_self, Bool.not_true, Bool.not_false, Bool.false_eq_true, Bool.true_eq_false, Bool.true_and, Bool.false_and, Bool.and_true, Bool.and_false, not_true, not_false_iff, Option.bind_some, nn, toList_inj, Bool.not_eq_true', Bool.not_eq_false', Int.le_refl, and_self, true_and, and_true, false_and, and_false, bne_self_eq_false, beq_self_eq_true, Int.reduceEq, Nat.reduceEqDiff, List.length_singleton, List.tail_cons, Int.reduceLE, Int.reduceLT, decide_eq_true_eq, ring_none]
    exact Ev2.now _
  | true =>
    have := specGet_loop ht (D := (cutB 10 text).dropLast) (z := (cutB 10 text).getLast (cutB_ne 10 text)) (by rw [List.length_dropLast]; omega) (fun l hl => by have := hsz l (List.dropLast_subset _ hl); omega) (cutB 10 text).dropLast [] [key] [1] rfl (ring_first h)
    rw [hd] at this
    simp only [strs_len, strs_elem, ints_len, ints_elem, items_list, fld_agg, elem_list, toStr_sc, toInt_sc, toBool_sc, headD_one, nat_int, get_bt, decide_eq_true_eq, decide_eq_false_iff_not, decide_true, decide_false, if_true, if_false, ite_self, Bool.not_true, Bool.not_false, Bool.false_eq_true, Bool.true_eq_false, Bool.true_and, Bool.false_and, Bool.and_true, Bool.and_false, not_true, not_false_iff, Option.bind_some, nn, toList_inj, Bool.not_eq_true', Bool.not_eq_false', Int.le_refl, and_self, true_and, and_true, false_and, and_false, bne_self_eq_false, beq_self_eq_true, Int.reduceEq, Nat.reduceEqDiff, List.length_singleton, List.tail_cons, Int.reduceLE, Int.reduceLT, decide_eq_true_eq, ring_f0, ring_f1]
    exact this.diag
/-! #### both readers give back what was put -/
structure GoodN (num : ByteArray → Int) (fine : ByteArray → Bool) : Prop where
  dec : ∀ u : Nat, 1 ≤ u → u ≤ 999999 → num (decB u) = (u : Int)
  hex : ∀ k, fine (hexB k) = true
theorem goodI : GoodN atoiVal (fun _ => true) := ⟨fun _ h0 h1 => atoi_dec h0 h1, fun _ => rfl⟩
theorem goodS : GoodN numB fineB := ⟨fun _ h0 h1 => numB_dec h0 h1, fineB_hex⟩
theorem keysM_pre : ∀ {a b pre : List ByteArray}, keysM pre (a ++ b) = true → keysM pre a = true
  | [], _, _, _ => rfl
  | c :: a, b, pre, h => by
    simp only [List.cons_append, keysM, Bool.and_eq_true] at h ⊢
    exact ⟨h.1, keysM_pre h.2⟩
theorem ascF_pre : ∀ {a b : List Int} {q : Option Int}, ascF q (a ++ b) = true → ascF q a = true
  | [], _, none, _ => rfl
  | [], _, some _, _ => rfl
  | c :: a, b, none, h => by
    simp only [List.cons_append, ascF] at h ⊢
    exact ascF_pre h
  | c :: a, b, some q, h => by
    simp only [List.cons_append, ascF, Bool.and_eq_true] at h ⊢
    exact ⟨h.1, ascF_pre h.2⟩
theorem ringM_pre {a b : List ByteArray} {x y : List Int} (h : ringM (a ++ b) (x ++ y) = true) (hl : x.length = a.length) (h1 : 1 ≤ a.length) : ringM a x = true := by
  simp only [ringM, tailM, Bool.and_eq_true, decide_eq_true_eq, List.length_append] at h ⊢
  obtain ⟨q1, q2, ⟨q3, q4⟩, q5, q6⟩ := h
  refine ⟨keysM_pre q1, ascF_pre q2, ⟨h1, by omega⟩, hl, ?_⟩
  cases x with
  | nil => simp at hl; omega
  | cons c x => exact q6
/-! What stands in a line. -/
def clean (b : UInt8) (l : List UInt8) : Prop := ∀ c ∈ l, c ≠ b
theorem clean_app {b : UInt8} {l m : List UInt8} (h1 : clean b l) (h2 : clean b m) : clean b (l ++ m) := fun c hc => (List.mem_append.1 hc).elim (h1 c) (h2 c)
theorem dec_clean {u : Nat} (h : u ≤ 999999) {b : UInt8} (hb : b = 32 ∨ b = 10) : clean b (dB (decB u)) := by
  obtain ⟨_, i2, _⟩ := dec_facts 6 u (by omega) (by omega)
  intro c hc e
  have := List.all_eq_true.1 i2 c hc
  simp only [decide_eq_true_eq] at this
  subst e
  rcases hb with rfl | rfl <;> (revert this; decide)
theorem figs_clean {s : ByteArray} (h : figs (bytesOf s) = true) {b : UInt8} (hb : b = 32 ∨ b = 10) : clean b (dB s) := by
  intro c hc e
  have hm : (c.toNat : Int) ∈ bytesOf s := by rw [bytesOf_dB]; exact List.mem_map.2 ⟨c, hc, rfl⟩
  have := List.all_eq_true.1 h _ hm
  subst e
  rcases hb with rfl | rfl <;> (revert this; decide)
theorem hex_clean (k : ByteArray) {b : UInt8} (hb : b = 32 ∨ b = 10) : clean b (dB (hexB k)) := by
  refine figs_clean ?_ hb
  rw [hex_bytesM]; exact (unhex_hex _ (fun c hc => bytesOf_in hc)).2
theorem seal_clean (k t : ByteArray) {b : UInt8} (hb : b = 32 ∨ b = 10) : clean b (dB (sealM k t)) := by
  unfold sealM
  split
  · exact hex_clean _ hb
  · intro c hc; cases hc
def bodyB (p k : ByteArray) (f : Nat) : ByteArray := (textM k f ++ ByteArray.mk #[32]) ++ sealM p (textM k f)
theorem body_bytes (p k : ByteArray) (f : Nat) : dB (bodyB p k f) = [116, 117, 114, 110] ++ 32 :: (dB (decB f) ++ 32 :: (dB (hexB k) ++ 32 :: dB (sealM p (textM k f)))) := by
  have e5 : dB (ByteArray.mk #[116, 117, 114, 110, 32]) = [116, 117, 114, 110, 32] := rfl
  have e1 : dB (ByteArray.mk #[32]) = [32] := rfl
  rw [bodyB, textM]
  simp only [dB_app, e5, e1, List.append_assoc, List.cons_append, List.nil_append]
theorem body_cut (p k : ByteArray) {f : Nat} (hf : f ≤ 999999) : cutB 32 (bodyB p k f) = [ByteArray.mk #[116, 117, 114, 110], decB f, hexB k, sealM p (textM k f)] := by
  have h0 : clean 32 [116, 117, 114, 110] := by unfold clean; decide
  rw [cutB, body_bytes, cutA_at _ _ _ h0, cutA_at _ _ _ (dec_clean hf (.inl rfl)), cutA_at _ _ _ (hex_clean k (.inl rfl)), cutA_no _ _ (seal_clean p _ (.inl rfl))]
  simp only [List.nil_append, List.map_cons, List.map_nil, mkB_dB]
  rfl
theorem body_clean (p k : ByteArray) {f : Nat} (hf : f ≤ 999999) : clean 10 (dB (bodyB p k f)) := by
  rw [body_bytes]
  have h0 : clean 10 [116, 117, 114, 110] := by unfold clean; decide
  have hs : clean 10 [32] := by unfold clean; decide
  exact clean_app h0 (clean_app hs (clean_app (dec_clean hf (.inr rfl)) (clean_app hs (clean_app (hex_clean k (.inr rfl)) (clean_app hs (seal_clean p _ (.inr rfl)))))))
/-! The lines of what is put. -/
def bodies : ByteArray → List ByteArray → List Int → List ByteArray
  | p, k :: ks, f :: fs => bodyB p k f.toNat :: bodies k ks fs
  | _, _, _ => []
def glue : List ByteArray → List UInt8
  | [] => []
  | l :: r => dB l ++ 10 :: glue r
theorem putL_bytes : ∀ (ks : List ByteArray) (acc p : ByteArray) (fs : List Int), dB (putL acc p ks fs) = dB acc ++ glue (bodies p ks fs)
  | [], acc, p, fs => by simp [putL, bodies, glue]
  | k :: ks, acc, p, [] => by simp [putL, bodies, glue]
  | k :: ks, acc, p, f :: fs => by
    have e : dB (lineB p k f.toNat) = dB (bodyB p k f.toNat) ++ [10] := by
      show dB (bodyB p k f.toNat ++ ByteArray.mk #[10]) = _
      rw [dB_app]; rfl
    rw [putL, putL_bytes ks, dB_app, e, bodies, glue]
    simp
theorem cut_glue : ∀ (ls : List ByteArray), (∀ l ∈ ls, clean 10 (dB l)) → cutA 10 [] (glue ls) = ls.map dB ++ [[]]
  | [], _ => rfl
  | l :: r, h => by
    rw [glue, cutA_at _ _ _ (h l (by simp)), cut_glue r (fun x hx => h x (by simp [hx]))]
    simp
theorem bodies_clean : ∀ {ks : List ByteArray} {fs : List Int} (p : ByteArray), (∀ f ∈ fs, f ≤ 999999) → ∀ l ∈ bodies p ks fs, clean 10 (dB l)
  | [], fs, p, _, l, hl => by simp [bodies] at hl
  | k :: ks, [], p, _, l, hl => by simp [bodies] at hl
  | k :: ks, f :: fs, p, hf, l, hl => by
    rw [bodies] at hl
    rcases List.mem_cons.1 hl with rfl | hl
    · exact body_clean p k (by have := hf f (by simp); omega)
    · exact bodies_clean k (fun x hx => hf x (by simp [hx])) l hl
theorem lines_put {k : ByteArray} {ks : List ByteArray} {f : Int} {fs : List Int} (h : ringM (k :: ks) (f :: fs) = true) : (cutB 10 (ringPutM (k :: ks) (f :: fs))).dropLast = bodies k ks fs := by
  obtain ⟨_, _, _, _, hf⟩ := ring_facts h
  rw [ringPutM, if_pos h, cutB, putL_bytes]
  have e0 : dB (⟨#[]⟩ : ByteArray) = [] := rfl
  rw [e0, List.nil_append]
  show ((cutA 10 [] (glue (bodies k ks fs))).map mkB).dropLast = _
  rw [cut_glue _ (bodies_clean k (fun x hx => (hf x (by simp [hx])).2))]
  simp only [List.map_append, List.map_map, List.map_cons, List.map_nil, List.dropLast_concat]
  exact List.map_id' _
theorem read_put {num : ByteArray → Int} {fine : ByteArray → Bool} (g : GoodN num fine) : ∀ (ks : List ByteArray) (fs : List Int) (ps : List ByteArray) (p : ByteArray) (qs : List Int), ringM ((ps ++ [p]) ++ ks) (qs ++ fs) = true → qs.length = (ps ++ [p]).length →
    readG num fine (bodies p ks fs) (ps ++ [p]) qs = some ((ps ++ [p]) ++ ks, qs ++ fs)
  | [], fs, ps, p, qs, h, hl => by
    obtain ⟨_, _, n3, _⟩ := ring_facts h
    have : fs = [] := by
      cases fs with
      | nil => rfl
      | cons f fs => simp at n3 hl; omega
    subst this
    simp [bodies, readG]
  | k :: ks, [], ps, p, qs, h, hl => by
    obtain ⟨_, _, n3, _⟩ := ring_facts h
    simp at n3 hl; omega
  | k :: ks, f :: fs, ps, p, qs, h, hl => by
    obtain ⟨_, _, _, _, hf⟩ := ring_facts h
    have hf1 := hf f (by simp)
    obtain ⟨u, rfl⟩ : ∃ u : Nat, f = (u : Int) := ⟨f.toNat, by omega⟩
    have hA : ringM (ps ++ [p]) qs = true := ringM_pre h hl (by simp)
    have h' : ringM ((ps ++ [p] ++ [k]) ++ ks) ((qs ++ [(u : Int)]) ++ fs) = true := by simpa using h
    have hB : ringM (ps ++ [p] ++ [k]) (qs ++ [(u : Int)]) = true := ringM_pre h' (by simp at hl ⊢; omega) (by simp)
    have hlast : (ps ++ [p]).getD ((ps ++ [p]).length - 1) ByteArray.empty = p := by simp
    have hok : okTake (ps ++ [p]) qs k (u : Int) (sealM p (textM k u)) = true := by
      rw [okTake, okT, hA, hB, turnS, hlast]
      simp
    have hst : stepG num fine (ps ++ [p]) qs (bodyB p k u) = some (ps ++ [p] ++ [k], qs ++ [(u : Int)]) := by
      rw [stepG, body_cut p k (by omega), stepW, unhB_hex, g.dec u (by omega) (by omega), if_pos ⟨g.hex k, hok⟩]
    rw [bodies, readG]
    have eu : ((u : Int)).toNat = u := rfl
    rw [eu, hst]
    have ih := read_put g ks fs (ps ++ [p]) k (qs ++ [(u : Int)]) h' (by simp at hl ⊢; omega)
    show readG num fine (bodies k ks fs) (ps ++ [p] ++ [k]) (qs ++ [(u : Int)]) = _
    rw [ih]
    simp
theorem readG_inv {num : ByteArray → Int} {fine : ByteArray → Bool} : ∀ (ls ks : List ByteArray) (fs : List Int) (x : List ByteArray × List Int), ringM ks fs = true → readG num fine ls ks fs = some x → ringM x.1 x.2 = true ∧ x.1.headD ByteArray.empty = ks.headD ByteArray.empty
  | [], ks, fs, x, hr, h => by
    rw [readG] at h; injection h with h; subst h; exact ⟨hr, rfl⟩
  | l :: r, ks, fs, x, hr, h => by
    rw [readG] at h
    cases hs : stepG num fine ks fs l with
    | none => rw [hs] at h; cases h
    | some y =>
      rw [hs] at h
      obtain ⟨h1, k, f, rfl⟩ := stepW_ring hs
      obtain ⟨i1, i2⟩ := readG_inv r _ _ x h1 h
      refine ⟨i1, i2.trans ?_⟩
      obtain ⟨n1, _⟩ := ring_facts hr
      cases ks with
      | nil => simp at n1
      | cons a ks => rfl
theorem ringM_keyM {k : ByteArray} {ks : List ByteArray} {fs : List Int} (h : ringM (k :: ks) fs = true) : keyM k = true := by
  simp only [ringM, keysM, Bool.and_eq_true] at h
  exact h.1.1.1
theorem getG_iff {num : ByteArray → Int} {fine : ByteArray → Bool} (g : GoodN num fine) (key text : ByteArray) (x : List ByteArray × List Int) : getG num fine key text = some x ↔ ringM x.1 x.2 = true ∧ x.1.headD ByteArray.empty = key ∧ ringPutM x.1 x.2 = text := by
  constructor
  · intro h
    unfold getG at h
    split at h
    · rename_i hk
      cases hr : readG num fine (cutB 10 text).dropLast [key] [1] with
      | none => rw [hr] at h; cases h
      | some y =>
        rw [hr, finG] at h
        split at h
        · rename_i he
          injection h with h; subst h
          obtain ⟨i1, i2⟩ := readG_inv _ _ _ _ (ring_first hk) hr
          exact ⟨i1, i2, he⟩
        · cases h
    · cases h
  · rintro ⟨h1, h2, h3⟩
    obtain ⟨ks, fs⟩ := x
    obtain ⟨n1, n2, n3, n4, n5⟩ := ring_facts h1
    cases ks with
    | nil => simp at n1
    | cons k ks =>
      cases fs with
      | nil => simp at n3
      | cons f fs =>
        have e : k = key := h2
        subst e
        have hk : keyM k = true := ringM_keyM h1
        have hf : f = 1 := by
          simp only [ringM, tailM, Bool.and_eq_true, decide_eq_true_eq] at h1
          exact h1.2.2.2.2
        subst hf
        have hr := read_put g ks fs [] k [1] h1 rfl
        unfold getG
        rw [if_pos hk, ← h3, lines_put h1]
        simp only [List.nil_append] at hr
        rw [hr]
        exact if_pos rfl
theorem getG_same (key text : ByteArray) : getG atoiVal (fun _ => true) key text = getG numB fineB key text := by
  apply Option.ext
  intro x
  rw [getG_iff goodI, getG_iff goodS]
theorem getR_split (o : RingO) (ho : ∀ x, o = some x → ringM x.1 x.2 = true) : ∃ (A : List ByteArray) (B : List Int) (b : Bool), getR o = [ringP A B, boolP b] ∧ A.length ≤ 5 ∧ B.length ≤ 5 := by
  cases o with
  | none => exact ⟨[], [], false, rfl, by simp, by simp⟩
  | some x =>
    obtain ⟨n1, n2, _⟩ := ring_small (ho x rfl)
    exact ⟨x.1, x.2, true, rfl, n1, n2⟩
/-- The law's own function answers true. -/
theorem law (ps : List PV) (h : PvOkL (PvOk Tryz.prog 8) [9, 9] ps) : ∃ N, laws_FnExactRingGet.f N ps = some [boolP true] := by
  obtain ⟨p, q, rfl, h1, h2⟩ := pvOkL2 h
  obtain ⟨key, rfl, _⟩ := pvOk_str (P := Tryz.prog) (t := 9) (by kernel_rfl) h1
  obtain ⟨text, rfl, _⟩ := pvOk_str (P := Tryz.prog) (t := 9) (by kernel_rfl) h2
  refine Ev.some ?_
  simp only [laws_FnExactRingGet.f_eq, strs_len, strs_elem, ints_len, ints_elem, items_list, fld_agg, elem_list, toStr_sc, toInt_sc, toBool_sc, headD_one, nat_int, get_bt, decide_eq_true_eq, decide_eq_false_iff_not, decide_true, decide_false, if_true, if_false, ite_self, Bool.not_true, Bool.not_false, Bool.false_eq_true, Bool.true_eq_false, Bool.true_and, Bool.false_and, Bool.and_true, Bool.and_false, not_true, not_false_iff, Option.bind_some, nn, toList_inj, Bool.not_eq_true', Bool.not_eq_false', Int.le_refl, and_self, true_and, and_true, false_and, and_false, bne_self_eq_false, beq_self_eq_true, Int.reduceEq, Nat.reduceEqDiff, List.length_singleton, List.tail_cons, Int.reduceLE, Int.reduceLT, decide_eq_true_eq]
  by_cases c1 : 1048576 < (key.size : Int)
  · simp only [c1, strs_len, strs_elem, ints_len, ints_elem, items_list, fld_agg, elem_list, toStr_sc, toInt_sc, toBool_sc, headD_one, nat_int, get_bt, decide_eq_true_eq, decide_eq_false_iff_not, decide_true, decide_false, if_true, if_false, ite_self, Bool.not_true, Bool.not_false, Bool.false_eq_true, Bool.true_eq_false, Bool.true_and, Bool.false_and, Bool.and_true, Bool.and_false, not_true, not_false_iff, Option.bind_some, nn, toList_inj, Bool.not_eq_true', Bool.not_eq_false', Int.le_refl, and_self, true_and, and_true, false_and, and_false, bne_self_eq_false, beq_self_eq_true, Int.reduceEq, Nat.reduceEqDiff, List.length_singleton, List.tail_cons, Int.reduceLE, Int.reduceLT, decide_eq_true_eq]; exact Ev.now _
  by_cases c2 : 1048576 < (text.size : Int)
  · simp only [c1, c2, strs_len, strs_elem, ints_len, ints_elem, items_list, fld_agg, elem_list, toStr_sc, toInt_sc, toBool_sc, headD_one, nat_int, get_bt, decide_eq_true_eq, decide_eq_false_iff_not, decide_true, decide_false, if_true, if_false, ite_self, Bool.not_true, Bool.not_false, Bool.false_eq_true, Bool.true_eq_false, Bool.true_and, Bool.false_and, Bool.and_true, Bool.and_false, not_true, not_false_iff, Option.bind_some, nn, toList_inj, Bool.not_eq_true', Bool.not_eq_false', Int.le_refl, and_self, true_and, and_true, false_and, and_false, bne_self_eq_false, beq_self_eq_true, Int.reduceEq, Nat.reduceEqDiff, List.length_singleton, List.tail_cons, Int.reduceLE, Int.reduceLT, decide_eq_true_eq]; exact Ev.now _
  simp only [c1, c2, strs_len, strs_elem, ints_len, ints_elem, items_list, fld_agg, elem_list, toStr_sc, toInt_sc, toBool_sc, headD_one, nat_int, get_bt, decide_eq_true_eq, decide_eq_false_iff_not, decide_true, decide_false, if_true, if_false, ite_self, Bool.not_true, Bool.not_false, Bool.false_eq_true, Bool.true_eq_false, Bool.true_and, Bool.false_and, Bool.and_true, Bool.and_false, not_true, not_false_iff, Option.bind_some, nn, toList_inj, Bool.not_eq_true', Bool.not_eq_false', Int.le_refl, and_self, true_and, and_true, false_and, and_false, bne_self_eq_false, beq_self_eq_true, Int.reduceEq, Nat.reduceEqDiff, List.length_singleton, List.tail_cons, Int.reduceLE, Int.reduceLT, decide_eq_true_eq]
  obtain ⟨A, B, b, he, hA, hB⟩ := getR_split (getG numB fineB key text) (fun x hx => ((getG_iff goodS key text x).1 hx).1)
  have hs := specGet_ev key text (by omega) (by omega)
  have hi := implGet_ev key text (by omega) (by omega)
  rw [getG_same] at hi
  rw [he] at hs hi
  simp only [strP] at hs hi
  refine Ev.bind hs ?_
  refine Ev.bind hi ?_
  simp only [strs_len, strs_elem, ints_len, ints_elem, items_list, fld_agg, elem_list, toStr_sc, toInt_sc, toBool_sc, headD_one, nat_int, get_bt, decide_eq_true_eq, decide_eq_false_iff_not, decide_true, decide_false, if_true, if_false, ite_self, Bool.not_true, Bool.not_false, Bool.false_eq_true, Bool.true_eq_false, Bool.true_and, Bool.false_and, Bool.and_true, Bool.and_false, not_true, not_false_iff, Option.bind_some, nn, toList_inj, Bool.not_eq_true', Bool.not_eq_false', Int.le_refl, and_self, true_and, and_true, false_and, and_false, bne_self_eq_false, beq_self_eq_true, Int.reduceEq, Nat.reduceEqDiff, List.length_singleton, List.tail_cons, Int.reduceLE, Int.reduceLT, decide_eq_true_eq, ring_f0, ring_f1, ring_agg]
  refine Ev.bind (eqRing_ev A B (by omega) (by omega)) ?_
  simp only [strs_len, strs_elem, ints_len, ints_elem, items_list, fld_agg, elem_list, toStr_sc, toInt_sc, toBool_sc, headD_one, nat_int, get_bt, decide_eq_true_eq, decide_eq_false_iff_not, decide_true, decide_false, if_true, if_false, ite_self, Bool.not_true, Bool.not_false, Bool.false_eq_true, Bool.true_eq_false, Bool.true_and, Bool.false_and, Bool.and_true, Bool.and_false, not_true, not_false_iff, Option.bind_some, nn, toList_inj, Bool.not_eq_true', Bool.not_eq_false', Int.le_refl, and_self, true_and, and_true, false_and, and_false, bne_self_eq_false, beq_self_eq_true, Int.reduceEq, Nat.reduceEqDiff, List.length_singleton, List.tail_cons, Int.reduceLE, Int.reduceLT, decide_eq_true_eq]
  refine Ev.bind (markRing_ev A B (by omega) (by omega)) ?_
  have e2 : ((1 + (A.length : Int) + B.length) < 0) = False := eq_false (by omega)
  simp only [strs_len, strs_elem, ints_len, ints_elem, items_list, fld_agg, elem_list, toStr_sc, toInt_sc, toBool_sc, headD_one, nat_int, get_bt, decide_eq_true_eq, decide_eq_false_iff_not, decide_true, decide_false, if_true, if_false, ite_self, Bool.not_true, Bool.not_false, Bool.false_eq_true, Bool.true_eq_false, Bool.true_and, Bool.false_and, Bool.and_true, Bool.and_false, not_true, not_false_iff, Option.bind_some, nn, toList_inj, Bool.not_eq_true', Bool.not_eq_false', Int.le_refl, and_self, true_and, and_true, false_and, and_false, bne_self_eq_false, beq_self_eq_true, Int.reduceEq, Nat.reduceEqDiff, List.length_singleton, List.tail_cons, Int.reduceLE, Int.reduceLT, decide_eq_true_eq, ring_agg]
  refine Ev.bind (heldRing_ev A B.length (by omega) (by omega)) ?_
  simp only [strs_len, strs_elem, ints_len, ints_elem, items_list, fld_agg, elem_list, toStr_sc, toInt_sc, toBool_sc, headD_one, nat_int, get_bt, decide_eq_true_eq, decide_eq_false_iff_not, decide_true, decide_false, if_true, if_false, ite_self, Bool.not_true, Bool.not_false, Bool.false_eq_true, Bool.true_eq_false, Bool.true_and, Bool.false_and, Bool.and_true, Bool.and_false, not_true, not_false_iff, Option.bind_some, nn, toList_inj, Bool.not_eq_true', Bool.not_eq_false', Int.le_refl, and_self, true_and, and_true, false_and, and_false, bne_self_eq_false, beq_self_eq_true, Int.reduceEq, Nat.reduceEqDiff, List.length_singleton, List.tail_cons, Int.reduceLE, Int.reduceLT, decide_eq_true_eq, e2]
  refine Ev.bind hi ?_
  simp only [strs_len, strs_elem, ints_len, ints_elem, items_list, fld_agg, elem_list, toStr_sc, toInt_sc, toBool_sc, headD_one, nat_int, get_bt, decide_eq_true_eq, decide_eq_false_iff_not, decide_true, decide_false, if_true, if_false, ite_self, Bool.not_true, Bool.not_false, Bool.false_eq_true, Bool.true_eq_false, Bool.true_and, Bool.false_and, Bool.and_true, Bool.and_false, not_true, not_false_iff, Option.bind_some, nn, toList_inj, Bool.not_eq_true', Bool.not_eq_false', Int.le_refl, and_self, true_and, and_true, false_and, and_false, bne_self_eq_false, beq_self_eq_true, Int.reduceEq, Nat.reduceEqDiff, List.length_singleton, List.tail_cons, Int.reduceLE, Int.reduceLT, decide_eq_true_eq, ring_f0, ring_f1, ring_agg]
  refine Ev.bind (eqRing_ev A B (by omega) (by omega)) ?_
  simp only [strs_len, strs_elem, ints_len, ints_elem, items_list, fld_agg, elem_list, toStr_sc, toInt_sc, toBool_sc, headD_one, nat_int, get_bt, decide_eq_true_eq, decide_eq_false_iff_not, decide_true, decide_false, if_true, if_false, ite_self, Bool.not_true, Bool.not_false, Bool.false_eq_true, Bool.true_eq_false, Bool.true_and, Bool.false_and, Bool.and_true, Bool.and_false, not_true, not_false_iff, Option.bind_some, nn, toList_inj, Bool.not_eq_true', Bool.not_eq_false', Int.le_refl, and_self, true_and, and_true, false_and, and_false, bne_self_eq_false, beq_self_eq_true, Int.reduceEq, Nat.reduceEqDiff, List.length_singleton, List.tail_cons, Int.reduceLE, Int.reduceLT, decide_eq_true_eq]
  refine Ev.bind (heldRing_ev A B.length (by omega) (by omega)) ?_
  simp only [strs_len, strs_elem, ints_len, ints_elem, items_list, fld_agg, elem_list, toStr_sc, toInt_sc, toBool_sc, headD_one, nat_int, get_bt, decide_eq_true_eq, decide_eq_false_iff_not, decide_true, decide_false, if_true, if_false, ite_self, Bool.not_true, Bool.not_false, Bool.false_eq_true, Bool.true_eq_false, Bool.true_and, Bool.false_and, Bool.and_true, Bool.and_false, not_true, not_false_iff, Option.bind_some, nn, toList_inj, Bool.not_eq_true', Bool.not_eq_false', Int.le_refl, and_self, true_and, and_true, false_and, and_false, bne_self_eq_false, beq_self_eq_true, Int.reduceEq, Nat.reduceEqDiff, List.length_singleton, List.tail_cons, Int.reduceLE, Int.reduceLT, decide_eq_true_eq, e2]
  exact Ev.now _
end Go.Proofs.YtkmcdpdhnccpjaaGreatDoor.FnExactRingGet
