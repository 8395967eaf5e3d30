/- The law FnRingText, over the trees that its functions compute: it answers true, for all arguments of the bounds that the row grants. -/
import Derived.Test.YtkmcdpdhnccpjaaGreatDoorFnFnRingTexty1
set_option linter.unusedVariables false
set_option linter.unusedSimpArgs false
set_option maxRecDepth 10000
namespace Go.Proofs.YtkmcdpdhnccpjaaGreatDoor.FnRingText
open Go Go.Proofs.YtkmcdpdhnccpjaaGreatDoorAm
/-! #### texts cut at a byte -/
def cutA (b : UInt8) : List UInt8 → List UInt8 → List (List UInt8)
  | cur, [] => [cur]
  | cur, c :: r => if c = b then cur :: cutA b [] r else cutA b (cur ++ [c]) r
def mkB (l : List UInt8) : ByteArray := ⟨l.toArray⟩
def dB (s : ByteArray) : List UInt8 := s.data.toList
def cutB (b : UInt8) (s : ByteArray) : List ByteArray := (cutA b [] (dB s)).map mkB
theorem mkB_dB (s : ByteArray) : mkB (dB s) = s := rfl
theorem dB_mkB (l : List UInt8) : dB (mkB l) = l := rfl
theorem dB_len (s : ByteArray) : (dB s).length = s.size := Array.length_toList (xs := s.data)
theorem mkB_size (l : List UInt8) : (mkB l).size = l.length := by rw [← dB_len, dB_mkB]
theorem dB_inj {a b : ByteArray} (h : dB a = dB b) : a = b := by rw [← mkB_dB a, h, mkB_dB]
theorem dB_app (a b : ByteArray) : dB (a ++ b) = dB a ++ dB b := by simp [dB, ByteArray.data_append]
theorem cutA_ne (b : UInt8) : ∀ (l cur : List UInt8), cutA b cur l ≠ []
  | [], cur => by simp [cutA]
  | c :: r, cur => by
    rw [cutA]
    split
    · simp
    · exact cutA_ne b r _
theorem cutA_at {b : UInt8} (y : List UInt8) : ∀ (x cur : List UInt8), (∀ c ∈ x, c ≠ b) → cutA b cur (x ++ b :: y) = (cur ++ x) :: cutA b [] y
  | [], cur, _ => by simp [cutA]
  | c :: x, cur, h => by
    rw [List.cons_append, cutA, if_neg (h c (by simp)), cutA_at y x _ (fun z hz => h z (by simp [hz]))]
    simp
theorem cutA_no {b : UInt8} : ∀ (x cur : List UInt8), (∀ c ∈ x, c ≠ b) → cutA b cur x = [cur ++ x]
  | [], cur, _ => by simp [cutA]
  | c :: x, cur, h => by
    rw [cutA, if_neg (h c (by simp)), cutA_no x _ (fun z hz => h z (by simp [hz]))]
    simp
theorem cutA_len (b : UInt8) : ∀ (l cur : List UInt8), (cutA b cur l).length ≤ l.length + 1
  | [], cur => by simp [cutA]
  | c :: r, cur => by
    rw [cutA]
    split
    · have := cutA_len b r []; simp; omega
    · have := cutA_len b r (cur ++ [c]); simp; omega
theorem cutA_sizes (b : UInt8) : ∀ (l cur : List UInt8), ∀ p ∈ cutA b cur l, p.length ≤ cur.length + l.length
  | [], cur, p, hp => by simp [cutA] at hp; subst hp; simp
  | c :: r, cur, p, hp => by
    rw [cutA] at hp
    split at hp
    · rcases List.mem_cons.1 hp with rfl | hp
      · omega
      · have := cutA_sizes b r [] p hp; simp at this ⊢; omega
    · have := cutA_sizes b r _ p hp; simp at this ⊢; omega
theorem cutB_ne (b : UInt8) (s : ByteArray) : cutB b s ≠ [] := by simp [cutB, cutA_ne]
theorem cutB_len (b : UInt8) (s : ByteArray) : (cutB b s).length ≤ s.size + 1 := by
  have := cutA_len b (dB s) []
  rw [dB_len] at this
  simpa [cutB] using this
theorem cutB_sizes (b : UInt8) (s : ByteArray) : ∀ p ∈ cutB b s, p.size ≤ s.size := by
  intro p hp
  obtain ⟨l, hl, rfl⟩ := List.mem_map.1 hp
  have := cutA_sizes b _ _ l hl
  rw [dB_len] at this
  rw [mkB_size]; simpa using this
theorem bytesOf_dB (s : ByteArray) : bytesOf s = (dB s).map fun b => (b.toNat : Int) := rfl
theorem at_dB {s : ByteArray} {pre rest : List UInt8} {c : UInt8} (hp : dB s = pre ++ c :: rest) : bt s pre.length = (c.toNat : Int) := by
  have h : bytesOf s = (pre.map fun b => (b.toNat : Int)) ++ (c.toNat : Int) :: rest.map fun b => (b.toNat : Int) := by rw [bytesOf_dB, hp]; simp
  have := at_bt h
  rwa [List.length_map] at this
theorem ext_dB (s : ByteArray) (i j : Nat) : dB (s.extract i j) = ((dB s).drop i).take (j - i) := by simp [dB, List.extract, ByteArray.data_extract]
theorem specCut_ev (b : UInt8) (s : ByteArray) (hs : s.size ≤ 4294967280) : Ev (fun N => spec_l1Cut.f N [strP s, .sc (.int .u8 (b.toNat : Int))]) [strsP (cutB b s)] := by
  have key : ∀ (rest cur done : List UInt8) (acc : List ByteArray), dB s = (done ++ cur) ++ rest → acc.length ≤ done.length → Ev2 (fun N n => spec_l1Cut.l0 N n s (b.toNat : Int) (done.length : Int) ((done ++ cur).length : Int) (acc.map strP)) [strsP (acc ++ (cutA b cur rest).map mkB)] := by
    intro rest
    induction rest with
    | nil =>
      intro cur done acc hp ha
      have hz := congrArg List.length hp
      rw [dB_len] at hz
      simp only [List.length_append, List.length_nil] at hz
      have e1 : (((done ++ cur).length : Int) < (s.size : Int)) = False := false_of (by simp only [List.length_append]; omega)
      have e2 : ((done.length : Int) ≤ (s.size : Int)) = True := true_of (by omega)
      have e3 : (acc.length + 1 ≤ 8796093022208) = True := true_of (by omega)
      have e4 : s.extract done.length s.size = mkB cur := by
        apply dB_inj
        rw [ext_dB, hp, dB_mkB, List.append_nil, List.drop_left' rfl]
        exact List.take_of_length_le (by omega)
      refine Ev2.succ ?_
      simp only [spec_l1Cut.l0_eq, e1, e2, e3, e4, List.length_map, strs_len, strs_elem, ints_len, ints_elem, items_list, fld_agg, elem_list, toStr_sc, toInt_sc, toBool_sc, headD_one, nat_int, get_bt, decide_eq_true_eq, decide_eq_false_iff_not, decide_true, decide_false, if_true, if_false, ite_self, Bool.not_true, Bool.not_false, Bool.false_eq_true, Bool.true_eq_false, Bool.true_and, Bool.false_and, Bool.and_true, Bool.and_false, not_true, not_false_iff, Option.bind_some, nn, toList_inj, Bool.not_eq_true', Bool.not_eq_false', Int.le_refl, and_self, true_and, and_true, false_and, and_false, bne_self_eq_false, beq_self_eq_true, Int.reduceEq, Nat.reduceEqDiff, List.length_singleton, List.tail_cons, Int.reduceLE, Int.reduceLT, decide_eq_true_eq]
      have e5 : PV.list (acc.map strP ++ [PV.sc (.string (mkB cur))]) = strsP (acc ++ (cutA b cur []).map mkB) := by simp [cutA, strsP, strP]
      rw [e5]
      exact Ev2.now _
    | cons c rest ih =>
      intro cur done acc hp ha
      have hz := congrArg List.length hp
      rw [dB_len] at hz
      simp only [List.length_append, List.length_cons] at hz
      have e1 : (((done ++ cur).length : Int) < (s.size : Int)) = True := true_of (by simp only [List.length_append]; omega)
      have e6 : (((done ++ cur).length : Int) ≤ (s.size : Int)) = True := true_of (by simp only [List.length_append]; omega)
      have e2 : ((done.length : Int) ≤ ((done ++ cur).length : Int)) = True := true_of (by simp only [List.length_append]; omega)
      have e3 : (acc.length + 1 ≤ 8796093022208) = True := true_of (by omega)
      have e4 : s.extract done.length (done ++ cur).length = mkB cur := by
        apply dB_inj
        rw [ext_dB, hp, dB_mkB, List.append_assoc, List.drop_left' rfl]
        exact List.take_left' (by simp)
      have hb := at_dB hp
      have hn : IntKind.i64.wrap (((done ++ cur).length : Int) + 1) = (((done ++ cur) ++ [c]).length : Int) := by
        rw [wrap_id (by omega) (by simp only [List.length_append]; omega)]; simp only [List.length_append, List.length_singleton]; omega
      refine Ev2.succ ?_
      by_cases hc : c = b
      · subst hc
        have ih' := ih [] ((done ++ cur) ++ [c]) (acc ++ [mkB cur]) (by rw [hp]; simp) (by simp; omega)
        simp only [spec_l1Cut.l0_eq, e1, e2, e3, e4, e6, hb, hn, List.length_map, strs_len, strs_elem, ints_len, ints_elem, items_list, fld_agg, elem_list, toStr_sc, toInt_sc, toBool_sc, headD_one, nat_int, get_bt, decide_eq_true_eq, decide_eq_false_iff_not, decide_true, decide_false, if_true, if_false, ite_self, Bool.not_true, Bool.not_false, Bool.false_eq_true, Bool.true_eq_false, Bool.true_and, Bool.false_and, Bool.and_true, Bool.and_false, not_true, not_false_iff, Option.bind_some, nn, toList_inj, Bool.not_eq_true', Bool.not_eq_false', Int.le_refl, and_self, true_and, and_true, false_and, and_false, bne_self_eq_false, beq_self_eq_true, Int.reduceEq, Nat.reduceEqDiff, List.length_singleton, List.tail_cons, Int.reduceLE, Int.reduceLT, decide_eq_true_eq]
        rw [cutA, if_pos rfl]
        have e5 : (acc ++ [mkB cur]).map strP = acc.map strP ++ [PV.sc (.string (mkB cur))] := by simp [strP]
        rw [e5, List.append_nil] at ih'
        simpa using ih'
      · have ih' := ih (cur ++ [c]) done acc (by rw [hp]; simp) ha
        have hne : ((c.toNat : Int) = (b.toNat : Int)) = False := false_of (fun h => hc (UInt8.toNat_inj.1 (by omega)))
        simp only [spec_l1Cut.l0_eq, e1, hb, hn, hne, strs_len, strs_elem, ints_len, ints_elem, items_list, fld_agg, elem_list, toStr_sc, toInt_sc, toBool_sc, headD_one, nat_int, get_bt, decide_eq_true_eq, decide_eq_false_iff_not, decide_true, decide_false, if_true, if_false, ite_self, Bool.not_true, Bool.not_false, Bool.false_eq_true, Bool.true_eq_false, Bool.true_and, Bool.false_and, Bool.and_true, Bool.and_false, not_true, not_false_iff, Option.bind_some, nn, toList_inj, Bool.not_eq_true', Bool.not_eq_false', Int.le_refl, and_self, true_and, and_true, false_and, and_false, bne_self_eq_false, beq_self_eq_true, Int.reduceEq, Nat.reduceEqDiff, List.length_singleton, List.tail_cons, Int.reduceLE, Int.reduceLT, decide_eq_true_eq]
        rw [cutA, if_neg hc]
        rw [← List.append_assoc] at ih'
        exact ih'
  simp only [strP, spec_l1Cut.f_eq, toStr_sc, toInt_sc]
  exact (key (dB s) [] [] [] rfl (Nat.le_refl _)).diag
/-! The library's Split. -/
theorem index_at {b : UInt8} {x y : List UInt8} (h : ∀ c ∈ x, c ≠ b) : Lib.index (x ++ b :: y) [b] = (x.length : Int) := by
  refine Lib.index_first (i := x.length) (by simp) ?_ (fun j hj => ?_)
  · unfold Lib.occAt
    rw [List.drop_left' rfl]
    simp [List.isPrefixOf]
  · unfold Lib.occAt
    have hd : (x ++ b :: y).drop j = x[j] :: (x.drop (j + 1) ++ b :: y) := by
      rw [List.drop_append_of_le_length (by omega), List.drop_eq_getElem_cons hj]; rfl
    rw [hd]
    have := h x[j] (List.getElem_mem hj)
    simp [List.isPrefixOf]
    exact fun e => this e.symm
theorem index_no {b : UInt8} {x : List UInt8} (h : ∀ c ∈ x, c ≠ b) : Lib.index x [b] = -1 := by
  refine Lib.index_none (fun j hj => ?_)
  unfold Lib.occAt
  by_cases hl : j < x.length
  · rw [List.drop_eq_getElem_cons hl]
    have := h x[j] (List.getElem_mem hl)
    simp [List.isPrefixOf]
    exact fun e => this e.symm
  · rw [List.drop_of_length_le (by omega)]; rfl
theorem has_or (b : UInt8) : ∀ l : List UInt8, (∀ c ∈ l, c ≠ b) ∨ ∃ x y, l = x ++ b :: y ∧ ∀ c ∈ x, c ≠ b
  | [] => .inl (by simp)
  | c :: r => by
    by_cases hc : c = b
    · exact .inr ⟨[], r, by simp [hc], by simp⟩
    · rcases has_or b r with h | ⟨x, y, rfl, h⟩
      · exact .inl (fun z hz => (List.mem_cons.1 hz).elim (fun e => e ▸ hc) (h z))
      · exact .inr ⟨c :: x, y, rfl, fun z hz => (List.mem_cons.1 hz).elim (fun e => e ▸ hc) (h z)⟩
theorem split_cutL (b : UInt8) : ∀ (n : Nat) (l : List UInt8), l.length ≤ n → splitOn (mkB l) ⟨#[b]⟩ = (cutA b [] l).map mkB
  | n, l, hn => by
    rcases has_or b l with h | ⟨x, y, rfl, h⟩
    · have hi : Lib.indexB (mkB l) ⟨#[b]⟩ = -1 := index_no h
      have hc := Lib.countB_miss (mkB l) ⟨#[b]⟩ hi
      unfold splitOn
      rw [hc, cutA_no _ _ h]; rfl
    · cases n with
      | zero => simp at hn
      | succ n =>
        have hi : Lib.indexB (mkB (x ++ b :: y)) ⟨#[b]⟩ = (x.length : Int) := index_at h
        have h1 : (ByteArray.mk #[b]).size = 1 := rfl
        have he : (mkB (x ++ b :: y)).extract (x.length + (ByteArray.mk #[b]).size) (mkB (x ++ b :: y)).size = mkB y := by
          apply dB_inj
          rw [ext_dB, dB_mkB, dB_mkB, h1, mkB_size, show x ++ b :: y = (x ++ [b]) ++ y by simp, List.drop_left' (by simp)]
          exact List.take_of_length_le (by simp; omega)
        have h0 : (mkB (x ++ b :: y)).extract 0 x.length = mkB x := by
          apply dB_inj
          rw [ext_dB, dB_mkB, dB_mkB, List.drop_zero]
          exact List.take_left' (by simp)
        have hc := Lib.countB_hit (mkB (x ++ b :: y)) ⟨#[b]⟩ x.length (by rw [h1]; omega) hi
        rw [he] at hc
        have ih := split_cutL b n y (by simp at hn; omega)
        unfold splitOn at ih ⊢
        rw [hc, Nat.add_comm 1, Lib.splitB, hi]
        have hn : (((x.length : Nat) : Int) == -1) = false := by
          cases hx : (((x.length : Nat) : Int) == -1) with
          | false => rfl
          | true => have := beq_iff_eq.1 hx; omega
        rw [hn, if_neg (by simp), nat_int, Nat.add_zero, h0, he, ih, cutA_at _ _ _ h]
        simp
theorem splitCut_val (b : UInt8) (s : ByteArray) (hs : s.size ≤ 4294967280) (N : Nat) : strings_Split.f N [strP s, strP (ByteArray.mk #[b])] = some [strsP (cutB b s)] := by
  have h : strings_Split.f N [strP s, strP (ByteArray.mk #[b])] = if (ByteArray.mk #[b]).size = 1 then (if s.size ≤ 4294967280 then some [strsP (splitOn s (ByteArray.mk #[b]))] else none) else none := rfl
  have h1 : (ByteArray.mk #[b]).size = 1 := rfl
  rw [if_pos h1, if_pos hs] at h
  rw [h, show splitOn s (ByteArray.mk #[b]) = cutB b s from split_cutL b _ (dB s) (Nat.le_refl _)]
theorem linesOf_val (s : ByteArray) (hs : s.size ≤ 1048576) (N : Nat) : impl_linesOf.f N [strP s] = some [strsP (cutB 10 s).dropLast] := by
  have h := splitCut_val 10 s (by omega) N
  have hl := cutB_len 10 s
  have h0 : 0 < (cutB 10 s).length := List.length_pos_iff.2 (cutB_ne 10 s)
  have w : IntKind.i64.wrap (((cutB 10 s).length : Int) - 1) = (((cutB 10 s).length - 1 : Nat) : Int) := nat_wrap (by omega) (by omega)
  have e1 : ((((cutB 10 s).length - 1 : Nat) : Int) ≤ ((cutB 10 s).length : Int)) = True := true_of (by omega)
  have e2 : PV.list (((strsP (cutB 10 s)).items).take ((cutB 10 s).length - 1)) = strsP (cutB 10 s).dropLast := by
    simp only [strsP, PV.items, List.dropLast_eq_take, List.map_take]
  simp only [strP] at h ⊢
  simp only [impl_linesOf.f_eq, toStr_sc, h, Option.bind_some, headD_one, strs_len, w, nn, nat_int, e1, e2, if_true]
/-! #### figures and numbers read -/
def nib (c : Int) : Int := if 48 ≤ c ∧ c ≤ 57 then c - 48 else if 97 ≤ c ∧ c ≤ 102 then c - 87 else if 65 ≤ c ∧ c ≤ 70 then c - 55 else -1
def isFig (c : Int) : Bool := decide ((48 ≤ c ∧ c ≤ 57) ∨ (97 ≤ c ∧ c ≤ 102))
theorem w8 (n : Int) : IntKind.u8.wrap n = n % 256 := by simp [IntKind.wrap, IntKind.signed, IntKind.bits]
theorem some_int {a b : Int} (h : a = b) : some [PV.sc (.int .i64 a)] = some [intP b] := by rw [h]
theorem nib_in {c : Int} (h : 0 ≤ nib c) : nib c < 16 := by
  unfold nib at h ⊢
  repeat' split at h
  all_goals simp_all
  all_goals omega
theorem nib_lt (c : Int) : nib c < 16 := by
  unfold nib
  repeat' split
  all_goals omega
theorem nib_ge (c : Int) : -1 ≤ nib c := by
  unfold nib
  repeat' split
  all_goals omega
theorem fig_nib {c : Int} (h : isFig c = true) : 0 ≤ nib c := by
  simp only [isFig, decide_eq_true_eq] at h
  unfold nib
  repeat' split
  all_goals omega
theorem implNib_val {c : Int} (h0 : 0 ≤ c) (h1 : c < 256) (N : Nat) : impl_nibble.f N [PV.sc (.int .u8 c)] = some [intP (nib c)] := by
  by_cases a1 : 48 ≤ c <;> by_cases a2 : c ≤ 57 <;> by_cases a3 : 97 ≤ c <;> by_cases a4 : c ≤ 102 <;> by_cases a5 : 65 ≤ c <;> by_cases a6 : c ≤ 70
  all_goals first
    | (exfalso; omega)
    | (simp only [impl_nibble.f_eq, toInt_sc, a1, a2, a3, a4, a5, a6, decide_true, decide_false, if_true, if_false, Bool.false_eq_true]
       refine some_int ?_; unfold nib; try simp only [w8]
       first
       | (rw [wrap_id (by omega) (by omega), if_pos (by omega)]; omega)
       | (rw [wrap_id (n := (c - 97) % 256) (by omega) (by omega), wrap_id (by omega) (by omega), if_neg (by omega), if_pos (by omega)]; omega)
       | (rw [wrap_id (n := (c - 65) % 256) (by omega) (by omega), wrap_id (by omega) (by omega), if_neg (by omega), if_neg (by omega), if_pos (by omega)]; omega)
       | (rw [if_neg (by omega), if_neg (by omega), if_neg (by omega)]))
theorem specFig_val {c : Int} (N : Nat) : spec_l6Figure.f N [PV.sc (.int .u8 c)] = some [boolP (isFig c)] := by
  by_cases a1 : 48 ≤ c <;> by_cases a2 : c ≤ 57 <;> by_cases a3 : 97 ≤ c <;> by_cases a4 : c ≤ 102
  all_goals first
    | (exfalso; omega)
    | (simp only [spec_l6Figure.f_eq, toInt_sc, isFig, a1, a2, a3, a4, decide_true, decide_false, if_true, if_false, Bool.false_eq_true, Bool.true_eq_false, and_self, and_true, and_false, true_and, false_and, or_self, or_true, or_false, true_or, false_or])
theorem specFigure_val {c : Int} (h : isFig c = true) (N : Nat) : spec_l11Figure.f N [PV.sc (.int .u8 c)] = some [intP (nib c)] := by
  simp only [isFig, decide_eq_true_eq] at h
  by_cases a2 : c ≤ 57
  · simp only [spec_l11Figure.f_eq, toInt_sc, a2, decide_true, if_true]
    refine some_int ?_
    rw [w8, wrap_id (by omega) (by omega), nib, if_pos (by omega)]; omega
  · simp only [spec_l11Figure.f_eq, toInt_sc, a2, decide_false, if_false, Bool.false_eq_true]
    refine some_int ?_
    rw [w8, wrap_id (n := (c - 97) % 256) (by omega) (by omega), wrap_id (by omega) (by omega), nib, if_neg (by omega), if_pos (by omega)]; omega
def unhexL : List Int → List Int
  | a :: b :: r => if 0 ≤ nib a ∧ 0 ≤ nib b then (16 * nib a + nib b) :: unhexL r else []
  | _ => []
def unhB (s : ByteArray) : ByteArray := bytesOfL (u8L (unhexL (bytesOf s)))
theorem unhexL_len : ∀ l : List Int, (unhexL l).length ≤ l.length
  | [] => by simp [unhexL]
  | [_] => by simp [unhexL]
  | a :: b :: r => by
    have := unhexL_len r
    rw [unhexL]
    split
    · simp; omega
    · simp
theorem unhB_size (s : ByteArray) : (unhB s).size ≤ s.size := by
  have := unhexL_len (bytesOf s)
  rw [bytesOf_len] at this
  rw [unhB, bytesOfL_size, u8_len]; exact this
theorem byte_nibs {a b : Int} (ha : 0 ≤ nib a) (hb : 0 ≤ nib b) : IntKind.u8.wrap (IntKind.i64.wrap (IntKind.i64.wrap (16 * nib a) + nib b)) = 16 * nib a + nib b := by
  have h1 := nib_lt a
  have h2 := nib_lt b
  rw [wrap_id (n := 16 * nib a) (by omega) (by omega), wrap_id (by omega) (by omega), w8]
  omega
theorem implUnhex_loop (s : ByteArray) (hs : s.size ≤ 4294967280) : ∀ (rest pre out : List Int), bytesOf s = pre ++ rest → out.length ≤ pre.length → Ev2 (fun N n => impl_unhex.l0 N n s (pre.length : Int) (u8L out)) [strP (bytesOfL (u8L (out ++ unhexL rest)))]
  | [], pre, out, hp, ho => by
    have hz := congrArg List.length hp
    rw [bytesOf_len] at hz
    simp only [List.length_append, List.length_nil] at hz
    have w : IntKind.i64.wrap ((pre.length : Int) + 1) = ((pre.length + 1 : Nat) : Int) := nat_wrap (by omega) (by omega)
    have e1 : (((pre.length + 1 : Nat) : Int) < (s.size : Int)) = False := false_of (by omega)
    refine Ev2.succ ?_
    simp only [impl_unhex.l0_eq, w, e1, strs_len, strs_elem, ints_len, ints_elem, items_list, fld_agg, elem_list, toStr_sc, toInt_sc, toBool_sc, headD_one, nat_int, get_bt, decide_eq_true_eq, decide_eq_false_iff_not, decide_true, decide_false, if_true, if_false, ite_self, Bool.not_true, Bool.not_false, Bool.false_eq_true, Bool.true_eq_false, Bool.true_and, Bool.false_and, Bool.and_true, Bool.and_false, not_true, not_false_iff, Option.bind_some, nn, toList_inj, Bool.not_eq_true', Bool.not_eq_false', Int.le_refl, and_self, true_and, and_true, false_and, and_false, bne_self_eq_false, beq_self_eq_true, Int.reduceEq, Nat.reduceEqDiff, List.length_singleton, List.tail_cons, Int.reduceLE, Int.reduceLT, decide_eq_true_eq, unhexL, List.append_nil]
    exact Ev2.now _
  | [a], pre, out, hp, ho => by
    have hz := congrArg List.length hp
    rw [bytesOf_len] at hz
    simp only [List.length_append, List.length_cons, List.length_nil] at hz
    have w : IntKind.i64.wrap ((pre.length : Int) + 1) = ((pre.length + 1 : Nat) : Int) := nat_wrap (by omega) (by omega)
    have e1 : (((pre.length + 1 : Nat) : Int) < (s.size : Int)) = False := false_of (by omega)
    refine Ev2.succ ?_
    simp only [impl_unhex.l0_eq, w, e1, strs_len, strs_elem, ints_len, ints_elem, items_list, fld_agg, elem_list, toStr_sc, toInt_sc, toBool_sc, headD_one, nat_int, get_bt, decide_eq_true_eq, decide_eq_false_iff_not, decide_true, decide_false, if_true, if_false, ite_self, Bool.not_true, Bool.not_false, Bool.false_eq_true, Bool.true_eq_false, Bool.true_and, Bool.false_and, Bool.and_true, Bool.and_false, not_true, not_false_iff, Option.bind_some, nn, toList_inj, Bool.not_eq_true', Bool.not_eq_false', Int.le_refl, and_self, true_and, and_true, false_and, and_false, bne_self_eq_false, beq_self_eq_true, Int.reduceEq, Nat.reduceEqDiff, List.length_singleton, List.tail_cons, Int.reduceLE, Int.reduceLT, decide_eq_true_eq, unhexL, List.append_nil]
    exact Ev2.now _
  | a :: b :: r, pre, out, hp, ho => by
    have hz := congrArg List.length hp
    rw [bytesOf_len] at hz
    simp only [List.length_append, List.length_cons] at hz
    have w : IntKind.i64.wrap ((pre.length : Int) + 1) = ((pre.length + 1 : Nat) : Int) := nat_wrap (by omega) (by omega)
    have w2 : IntKind.i64.wrap ((pre.length : Int) + 2) = ((pre ++ [a, b]).length : Int) := by
      rw [wrap_id (by omega) (by omega)]; simp
    have e1 : (((pre.length + 1 : Nat) : Int) < (s.size : Int)) = True := true_of (by omega)
    have e0 : ((pre.length : Int) < (s.size : Int)) = True := true_of (by omega)
    have ba := at_bt hp
    have bb : bt s (pre.length + 1) = b := by
      have h := at_bt (pre := pre ++ [a]) (rest := r) (c := b) (by rw [hp]; simp)
      rw [List.length_append] at h; exact h
    have ha := bytesOf_in (s := s) (c := a) (by rw [hp]; simp)
    have hb := bytesOf_in (s := s) (c := b) (by rw [hp]; simp)
    have na := implNib_val ha.1 ha.2
    have nb := implNib_val hb.1 hb.2
    have c1 : (out.length + 1 ≤ 140737488355328) = True := true_of (by omega)
    refine Ev2.succ ?_
    rw [unhexL]
    by_cases pa : 0 ≤ nib a
    · by_cases pb : 0 ≤ nib b
      · have ih := implUnhex_loop s hs r (pre ++ [a, b]) (out ++ [16 * nib a + nib b]) (by rw [hp]; simp) (by simp; omega)
        rw [if_pos ⟨pa, pb⟩]
        simp only [impl_unhex.l0_eq, w, w2, e0, e1, ba, bb, na, nb, eq_true pa, eq_true pb, byte_nibs pa pb, u8_snoc, u8_len, c1, strs_len, strs_elem, ints_len, ints_elem, items_list, fld_agg, elem_list, toStr_sc, toInt_sc, toBool_sc, headD_one, nat_int, get_bt, decide_eq_true_eq, decide_eq_false_iff_not, decide_true, decide_false, if_true, if_false, ite_self, Bool.not_true, Bool.not_false, Bool.false_eq_true, Bool.true_eq_false, Bool.true_and, Bool.false_and, Bool.and_true, Bool.and_false, not_true, not_false_iff, Option.bind_some, nn, toList_inj, Bool.not_eq_true', Bool.not_eq_false', Int.le_refl, and_self, true_and, and_true, false_and, and_false, bne_self_eq_false, beq_self_eq_true, Int.reduceEq, Nat.reduceEqDiff, List.length_singleton, List.tail_cons, Int.reduceLE, Int.reduceLT, decide_eq_true_eq]
        rw [List.append_assoc] at ih
        exact ih
      · rw [if_neg (fun h => pb h.2)]
        simp only [impl_unhex.l0_eq, w, e0, e1, ba, bb, na, nb, eq_true pa, eq_false pb, strs_len, strs_elem, ints_len, ints_elem, items_list, fld_agg, elem_list, toStr_sc, toInt_sc, toBool_sc, headD_one, nat_int, get_bt, decide_eq_true_eq, decide_eq_false_iff_not, decide_true, decide_false, if_true, if_false, ite_self, Bool.not_true, Bool.not_false, Bool.false_eq_true, Bool.true_eq_false, Bool.true_and, Bool.false_and, Bool.and_true, Bool.and_false, not_true, not_false_iff, Option.bind_some, nn, toList_inj, Bool.not_eq_true', Bool.not_eq_false', Int.le_refl, and_self, true_and, and_true, false_and, and_false, bne_self_eq_false, beq_self_eq_true, Int.reduceEq, Nat.reduceEqDiff, List.length_singleton, List.tail_cons, Int.reduceLE, Int.reduceLT, decide_eq_true_eq, List.append_nil]
        exact Ev2.now _
    · rw [if_neg (fun h => pa h.1)]
      simp only [impl_unhex.l0_eq, w, e0, e1, ba, bb, na, nb, eq_false pa, strs_len, strs_elem, ints_len, ints_elem, items_list, fld_agg, elem_list, toStr_sc, toInt_sc, toBool_sc, headD_one, nat_int, get_bt, decide_eq_true_eq, decide_eq_false_iff_not, decide_true, decide_false, if_true, if_false, ite_self, Bool.not_true, Bool.not_false, Bool.false_eq_true, Bool.true_eq_false, Bool.true_and, Bool.false_and, Bool.and_true, Bool.and_false, not_true, not_false_iff, Option.bind_some, nn, toList_inj, Bool.not_eq_true', Bool.not_eq_false', Int.le_refl, and_self, true_and, and_true, false_and, and_false, bne_self_eq_false, beq_self_eq_true, Int.reduceEq, Nat.reduceEqDiff, List.length_singleton, List.tail_cons, Int.reduceLE, Int.reduceLT, decide_eq_true_eq, List.append_nil]
      exact Ev2.now _
theorem implUnhex_ev (s : ByteArray) (hs : s.size ≤ 4294967280) : Ev (fun N => impl_unhex.f N [strP s]) [strP (unhB s)] := by
  simp only [strP, impl_unhex.f_eq, toStr_sc]
  exact (implUnhex_loop s hs _ [] [] rfl (Nat.le_refl _)).diag
def figs (l : List Int) : Bool := l.all isFig
def fineB (s : ByteArray) : Bool := figs (bytesOf s) && decide (s.size % 2 = 0)
def bytesR (s : ByteArray) : List PV := if figs (bytesOf s) = true then [strP (unhB s), boolP (decide (s.size % 2 = 0))] else [strP ⟨#[]⟩, boolP false]
theorem specBytes_l1 (s : ByteArray) (hs : s.size ≤ 4294967280) : ∀ (rest pre out : List Int), bytesOf s = pre ++ rest → figs rest = true → out.length ≤ pre.length → Ev2 (fun N n => spec_l11Bytes.l1 N n s (pre.length : Int) (u8L out)) [strP (bytesOfL (u8L (out ++ unhexL rest))), boolP (decide (s.size % 2 = 0))]
  | [], pre, out, hp, hf, ho => by
    have hz := congrArg List.length hp
    rw [bytesOf_len] at hz
    simp only [List.length_append, List.length_nil] at hz
    have w : IntKind.i64.wrap ((pre.length : Int) + 1) = ((pre.length + 1 : Nat) : Int) := nat_wrap (by omega) (by omega)
    have e1 : (((pre.length + 1 : Nat) : Int) < (s.size : Int)) = False := false_of (by omega)
    have e2 : (Int.tmod (s.size : Int) 2 = 0) = (s.size % 2 = 0) := by
      have : Int.tmod (s.size : Int) 2 = ((s.size % 2 : Nat) : Int) := rfl
      rw [this]; exact propext (by omega)
    have e3 : ((2 : Int) = 0) = False := false_of (by omega)
    refine Ev2.succ ?_
    simp only [spec_l11Bytes.l1_eq, w, e1, e2, e3, strs_len, strs_elem, ints_len, ints_elem, items_list, fld_agg, elem_list, toStr_sc, toInt_sc, toBool_sc, headD_one, nat_int, get_bt, decide_eq_true_eq, decide_eq_false_iff_not, decide_true, decide_false, if_true, if_false, ite_self, Bool.not_true, Bool.not_false, Bool.false_eq_true, Bool.true_eq_false, Bool.true_and, Bool.false_and, Bool.and_true, Bool.and_false, not_true, not_false_iff, Option.bind_some, nn, toList_inj, Bool.not_eq_true', Bool.not_eq_false', Int.le_refl, and_self, true_and, and_true, false_and, and_false, bne_self_eq_false, beq_self_eq_true, Int.reduceEq, Nat.reduceEqDiff, List.length_singleton, List.tail_cons, Int.reduceLE, Int.reduceLT, decide_eq_true_eq, unhexL, List.append_nil]
    exact Ev2.now _
  | [a], pre, out, hp, hf, ho => by
    have hz := congrArg List.length hp
    rw [bytesOf_len] at hz
    simp only [List.length_append, List.length_cons, List.length_nil] at hz
    have w : IntKind.i64.wrap ((pre.length : Int) + 1) = ((pre.length + 1 : Nat) : Int) := nat_wrap (by omega) (by omega)
    have e1 : (((pre.length + 1 : Nat) : Int) < (s.size : Int)) = False := false_of (by omega)
    have e2 : (Int.tmod (s.size : Int) 2 = 0) = (s.size % 2 = 0) := by
      have : Int.tmod (s.size : Int) 2 = ((s.size % 2 : Nat) : Int) := rfl
      rw [this]; exact propext (by omega)
    have e3 : ((2 : Int) = 0) = False := false_of (by omega)
    refine Ev2.succ ?_
    simp only [spec_l11Bytes.l1_eq, w, e1, e2, e3, strs_len, strs_elem, ints_len, ints_elem, items_list, fld_agg, elem_list, toStr_sc, toInt_sc, toBool_sc, headD_one, nat_int, get_bt, decide_eq_true_eq, decide_eq_false_iff_not, decide_true, decide_false, if_true, if_false, ite_self, Bool.not_true, Bool.not_false, Bool.false_eq_true, Bool.true_eq_false, Bool.true_and, Bool.false_and, Bool.and_true, Bool.and_false, not_true, not_false_iff, Option.bind_some, nn, toList_inj, Bool.not_eq_true', Bool.not_eq_false', Int.le_refl, and_self, true_and, and_true, false_and, and_false, bne_self_eq_false, beq_self_eq_true, Int.reduceEq, Nat.reduceEqDiff, List.length_singleton, List.tail_cons, Int.reduceLE, Int.reduceLT, decide_eq_true_eq, unhexL, List.append_nil]
    exact Ev2.now _
  | a :: b :: r, pre, out, hp, hf, ho => by
    have hz := congrArg List.length hp
    rw [bytesOf_len] at hz
    simp only [List.length_append, List.length_cons] at hz
    simp only [figs, List.all_cons, Bool.and_eq_true] at hf
    have w : IntKind.i64.wrap ((pre.length : Int) + 1) = ((pre.length + 1 : Nat) : Int) := nat_wrap (by omega) (by omega)
    have w2 : IntKind.i64.wrap ((pre.length : Int) + 2) = ((pre ++ [a, b]).length : Int) := by
      rw [wrap_id (by omega) (by omega)]; simp
    have e1 : (((pre.length + 1 : Nat) : Int) < (s.size : Int)) = True := true_of (by omega)
    have e0 : ((pre.length : Int) < (s.size : Int)) = True := true_of (by omega)
    have ba := at_bt hp
    have bb : bt s (pre.length + 1) = b := by
      have h := at_bt (pre := pre ++ [a]) (rest := r) (c := b) (by rw [hp]; simp)
      rw [List.length_append] at h; exact h
    have na := specFigure_val hf.1
    have nb := specFigure_val hf.2.1
    have c1 : (out.length + 1 ≤ 140737488355328) = True := true_of (by omega)
    have pa := fig_nib hf.1
    have pb := fig_nib hf.2.1
    refine Ev2.succ ?_
    rw [unhexL]
    have ih := specBytes_l1 s hs r (pre ++ [a, b]) (out ++ [16 * nib a + nib b]) (by rw [hp]; simp) hf.2.2 (by simp; omega)
    rw [if_pos ⟨pa, pb⟩]
    simp only [spec_l11Bytes.l1_eq, w, w2, e0, e1, ba, bb, na, nb, byte_nibs pa pb, u8_snoc, u8_len, c1, strs_len, strs_elem, ints_len, ints_elem, items_list, fld_agg, elem_list, toStr_sc, toInt_sc, toBool_sc, headD_one, nat_int, get_bt, decide_eq_true_eq, decide_eq_false_iff_not, decide_true, decide_false, if_true, if_false, ite_self, Bool.not_true, Bool.not_false, Bool.false_eq_true, Bool.true_eq_false, Bool.true_and, Bool.false_and, Bool.and_true, Bool.and_false, not_true, not_false_iff, Option.bind_some, nn, toList_inj, Bool.not_eq_true', Bool.not_eq_false', Int.le_refl, and_self, true_and, and_true, false_and, and_false, bne_self_eq_false, beq_self_eq_true, Int.reduceEq, Nat.reduceEqDiff, List.length_singleton, List.tail_cons, Int.reduceLE, Int.reduceLT, decide_eq_true_eq]
    rw [List.append_assoc] at ih
    exact ih
theorem specBytes_ev (s : ByteArray) (hs : s.size ≤ 4294967280) : Ev (fun N => spec_l11Bytes.f N [strP s]) (bytesR s) := by
  have key : ∀ rest pre : List Int, bytesOf s = pre ++ rest → figs pre = true → Ev2 (fun N n => spec_l11Bytes.l0 N n s (pre.length : Int) (u8L [])) (bytesR s) := by
    intro rest
    induction rest with
    | nil =>
      intro pre hp hf
      have e : bytesOf s = pre := by simpa using hp
      refine Ev2.succ ?_
      simp only [spec_l11Bytes.l0_eq, at_sizeE hp, strs_len, strs_elem, ints_len, ints_elem, items_list, fld_agg, elem_list, toStr_sc, toInt_sc, toBool_sc, headD_one, nat_int, get_bt, decide_eq_true_eq, decide_eq_false_iff_not, decide_true, decide_false, if_true, if_false, ite_self, Bool.not_true, Bool.not_false, Bool.false_eq_true, Bool.true_eq_false, Bool.true_and, Bool.false_and, Bool.and_true, Bool.and_false, not_true, not_false_iff, Option.bind_some, nn, toList_inj, Bool.not_eq_true', Bool.not_eq_false', Int.le_refl, and_self, true_and, and_true, false_and, and_false, bne_self_eq_false, beq_self_eq_true, Int.reduceEq, Nat.reduceEqDiff, List.length_singleton, List.tail_cons, Int.reduceLE, Int.reduceLT, decide_eq_true_eq]
      have h := (specBytes_l1 s hs (bytesOf s) [] [] rfl (by rw [e]; exact hf) (Nat.le_refl _)).after
      rw [bytesR, e, if_pos hf]
      rw [unhB]
      exact h
    | cons c rest ih =>
      intro pre hp hf
      have hn : IntKind.i64.wrap ((pre.length : Int) + 1) = ((pre ++ [c]).length : Int) := at_next hp (by rw [bytesOf_len]; omega)
      refine Ev2.succ ?_
      cases hc : isFig c with
      | true =>
        have ih' := ih _ (at_step hp) (by
          have e : figs (pre ++ [c]) = (figs pre && isFig c) := by simp [figs]
          rw [e, hf, hc]; rfl)
        simp only [spec_l11Bytes.l0_eq, at_size hp, at_bt hp, hn, specFig_val, hc, strs_len, strs_elem, ints_len, ints_elem, items_list, fld_agg, elem_list, toStr_sc, toInt_sc, toBool_sc, headD_one, nat_int, get_bt, decide_eq_true_eq, decide_eq_false_iff_not, decide_true, decide_false, if_true, if_false, ite_self, Bool.not_true, Bool.not_false, Bool.false_eq_true, Bool.true_eq_false, Bool.true_and, Bool.false_and, Bool.and_true, Bool.and_false, not_true, not_false_iff, Option.bind_some, nn, toList_inj, Bool.not_eq_true', Bool.not_eq_false', Int.le_refl, and_self, true_and, and_true, false_and, and_false, bne_self_eq_false, beq_self_eq_true, Int.reduceEq, Nat.reduceEqDiff, List.length_singleton, List.tail_cons, Int.reduceLE, Int.reduceLT, decide_eq_true_eq]
        exact ih'
      | false =>
        simp only [spec_l11Bytes.l0_eq, at_size hp, at_bt hp, hn, specFig_val, hc, strs_len, strs_elem, ints_len, ints_elem, items_list, fld_agg, elem_list, toStr_sc, toInt_sc, toBool_sc, headD_one, nat_int, get_bt, decide_eq_true_eq, decide_eq_false_iff_not, decide_true, decide_false, if_true, if_false, ite_self, Bool.not_true, Bool.not_false, Bool.false_eq_true, Bool.true_eq_false, Bool.true_and, Bool.false_and, Bool.and_true, Bool.and_false, not_true, not_false_iff, Option.bind_some, nn, toList_inj, Bool.not_eq_true', Bool.not_eq_false', Int.le_refl, and_self, true_and, and_true, false_and, and_false, bne_self_eq_false, beq_self_eq_true, Int.reduceEq, Nat.reduceEqDiff, List.length_singleton, List.tail_cons, Int.reduceLE, Int.reduceLT, decide_eq_true_eq]
        have hno : figs (bytesOf s) = false := by rw [hp]; simp [figs, hc]
        rw [bytesR, hno]
        exact Ev2.now _
  simp only [strP, spec_l11Bytes.f_eq, toStr_sc]
  exact (key (bytesOf s) [] rfl rfl).diag
/-! What is written is read back. -/
theorem bytesOfL_back {l : List Int} (h : ∀ x ∈ l, 0 ≤ x ∧ x < 256) : bytesOf (bytesOfL (u8L l)) = l := by
  simp only [bytesOf, bytesOfL, u8L, List.map_map]
  conv => rhs; rw [← List.map_id l]
  apply List.map_congr_left
  intro x hx
  have := h x hx
  simp only [Function.comp_def, PV.toInt, id]
  have e : UInt8.toNat (UInt8.ofNat x.toNat) = x.toNat := by simp; omega
  rw [e]; omega
theorem bytesOfL_bytesOf (s : ByteArray) : bytesOfL (u8L (bytesOf s)) = s := bytesOf_inj (bytesOfL_back (fun _ hx => bytesOf_in hx))
theorem bt_byte (s : ByteArray) (i : Nat) : 0 ≤ bt s i ∧ bt s i < 256 := by
  have := (s.get! i).toNat_lt
  unfold bt
  omega
theorem hexL_byte : ∀ (l : List Int), ∀ x ∈ hexL l, 0 ≤ x ∧ x < 256
  | [], x, hx => by simp [hexL] at hx
  | y :: r, x, hx => by
    simp only [hexL, d2, List.cons_append, List.nil_append, List.mem_cons] at hx
    rcases hx with rfl | rfl | hx
    · exact bt_byte _ _
    · exact bt_byte _ _
    · exact hexL_byte r x hx
theorem hex_bytesM (s : ByteArray) : bytesOf (hexB s) = hexL (bytesOf s) := by rw [hexB, bytesOfL_back (hexL_byte _)]
theorem hexD_back : ∀ q : Fin 16, nib (bt hexD q.val) = (q.val : Int) ∧ isFig (bt hexD q.val) = true := by decide +kernel
theorem unhex_hex : ∀ l : List Int, (∀ c ∈ l, 0 ≤ c ∧ c < 256) → unhexL (hexL l) = l ∧ figs (hexL l) = true
  | [], _ => ⟨rfl, rfl⟩
  | c :: r, h => by
    obtain ⟨h0, h1⟩ := h c (by simp)
    obtain ⟨q0, q1, r0, r1⟩ := d2_in h0 h1
    obtain ⟨i1, i2⟩ := unhex_hex r (fun x hx => h x (by simp [hx]))
    have a1 := hexD_back ⟨(IntKind.u8.wrap (Int.tdiv c 16)).toNat, by omega⟩
    have a2 := hexD_back ⟨(Int.tmod c 16).toNat, by omega⟩
    simp only at a1 a2
    have e1 : Int.tdiv c 16 = c / 16 := Int.tdiv_eq_ediv_of_nonneg h0
    have e2 : Int.tmod c 16 = c % 16 := Int.tmod_eq_emod_of_nonneg h0
    have e3 := w8 (Int.tdiv c 16)
    simp only [hexL, d2, List.cons_append, List.nil_append, unhexL, figs, List.all_cons]
    rw [a1.1, a2.1, if_pos (by omega), i1]
    refine ⟨?_, ?_⟩
    · congr 1
      omega
    · rw [a1.2, a2.2]; exact i2
theorem unhB_hex (k : ByteArray) : unhB (hexB k) = k := by
  rw [unhB, hex_bytesM, (unhex_hex _ (fun c hc => bytesOf_in hc)).1]
  exact bytesOfL_bytesOf k
theorem fineB_hex (k : ByteArray) : fineB (hexB k) = true := by
  simp only [fineB, Bool.and_eq_true, decide_eq_true_eq]
  exact ⟨by rw [hex_bytesM]; exact (unhex_hex _ (fun c hc => bytesOf_in hc)).2, by rw [hexB_size]; omega⟩
/-! Numbers. -/
def digs (l : List UInt8) : Bool := l.all fun c => decide (48 ≤ c.toNat ∧ c.toNat ≤ 57)
def digN (a : Nat) (c : UInt8) : Nat := a * 10 + (c.toNat - 48)
def foldN (acc : Nat) (l : List UInt8) : Nat := l.foldl digN acc
theorem foldN_nil (acc : Nat) : foldN acc [] = acc := rfl
theorem foldN_cons (acc : Nat) (c : UInt8) (r : List UInt8) : foldN acc (c :: r) = foldN (acc * 10 + (c.toNat - 48)) r := by simp only [foldN, List.foldl_cons, digN]
def numB (s : ByteArray) : Int := if s.size = 0 ∨ 6 < s.size then -1 else if 1 < s.size ∧ bt s 0 = 48 then -1 else if digs (dB s) = true then (foldN 0 (dB s) : Int) else -1
theorem specNum_loop (s : ByteArray) : ∀ (rest pre : List UInt8) (acc : Nat), dB s = pre ++ rest → s.size ≤ 6 → acc < 10 ^ pre.length → Ev2 (fun N n => spec_l1Num.l0 N n s (acc : Int) (pre.length : Int)) [intP (if digs rest = true then (foldN acc rest : Int) else -1)] := by
  intro rest
  induction rest with
  | nil =>
    intro pre acc hp hz ha
    have hl := congrArg List.length hp
    rw [dB_len] at hl
    simp only [List.length_append, List.length_nil] at hl
    have e1 : ((pre.length : Int) < (s.size : Int)) = False := false_of (by omega)
    refine Ev2.succ ?_
    simp only [spec_l1Num.l0_eq, e1, strs_len, strs_elem, ints_len, ints_elem, items_list, fld_agg, elem_list, toStr_sc, toInt_sc, toBool_sc, headD_one, nat_int, get_bt, decide_eq_true_eq, decide_eq_false_iff_not, decide_true, decide_false, if_true, if_false, ite_self, Bool.not_true, Bool.not_false, Bool.false_eq_true, Bool.true_eq_false, Bool.true_and, Bool.false_and, Bool.and_true, Bool.and_false, not_true, not_false_iff, Option.bind_some, nn, toList_inj, Bool.not_eq_true', Bool.not_eq_false', Int.le_refl, and_self, true_and, and_true, false_and, and_false, bne_self_eq_false, beq_self_eq_true, Int.reduceEq, Nat.reduceEqDiff, List.length_singleton, List.tail_cons, Int.reduceLE, Int.reduceLT, decide_eq_true_eq, digs, List.all_nil, foldN_nil]
    exact Ev2.now _
  | cons c rest ih =>
    intro pre acc hp hz ha
    have hl := congrArg List.length hp
    rw [dB_len] at hl
    simp only [List.length_append, List.length_cons] at hl
    have e1 : ((pre.length : Int) < (s.size : Int)) = True := true_of (by omega)
    have hb := at_dB hp
    have hlt := c.toNat_lt
    have hn : IntKind.i64.wrap ((pre.length : Int) + 1) = ((pre ++ [c]).length : Int) := by
      rw [wrap_id (by omega) (by omega)]; simp
    have hpw : 10 ^ pre.length ≤ 10 ^ 5 := Nat.pow_le_pow_right (by omega) (by omega)
    refine Ev2.succ ?_
    by_cases h1 : (c.toNat : Int) < 48
    · have hd : digs (c :: rest) = false := by
        simp only [digs, List.all_cons]
        rw [decide_eq_false (by omega), Bool.false_and]
      simp only [spec_l1Num.l0_eq, e1, hb, h1, hd, strs_len, strs_elem, ints_len, ints_elem, items_list, fld_agg, elem_list, toStr_sc, toInt_sc, toBool_sc, headD_one, nat_int, get_bt, decide_eq_true_eq, decide_eq_false_iff_not, decide_true, decide_false, if_true, if_false, ite_self, Bool.not_true, Bool.not_false, Bool.false_eq_true, Bool.true_eq_false, Bool.true_and, Bool.false_and, Bool.and_true, Bool.and_false, not_true, not_false_iff, Option.bind_some, nn, toList_inj, Bool.not_eq_true', Bool.not_eq_false', Int.le_refl, and_self, true_and, and_true, false_and, and_false, bne_self_eq_false, beq_self_eq_true, Int.reduceEq, Nat.reduceEqDiff, List.length_singleton, List.tail_cons, Int.reduceLE, Int.reduceLT, decide_eq_true_eq]
      exact Ev2.now _
    · by_cases h2 : 57 < (c.toNat : Int)
      · have hd : digs (c :: rest) = false := by
          simp only [digs, List.all_cons]
          rw [decide_eq_false (by omega), Bool.false_and]
        simp only [spec_l1Num.l0_eq, e1, hb, h1, h2, hd, strs_len, strs_elem, ints_len, ints_elem, items_list, fld_agg, elem_list, toStr_sc, toInt_sc, toBool_sc, headD_one, nat_int, get_bt, decide_eq_true_eq, decide_eq_false_iff_not, decide_true, decide_false, if_true, if_false, ite_self, Bool.not_true, Bool.not_false, Bool.false_eq_true, Bool.true_eq_false, Bool.true_and, Bool.false_and, Bool.and_true, Bool.and_false, not_true, not_false_iff, Option.bind_some, nn, toList_inj, Bool.not_eq_true', Bool.not_eq_false', Int.le_refl, and_self, true_and, and_true, false_and, and_false, bne_self_eq_false, beq_self_eq_true, Int.reduceEq, Nat.reduceEqDiff, List.length_singleton, List.tail_cons, Int.reduceLE, Int.reduceLT, decide_eq_true_eq]
        exact Ev2.now _
      · have hd : digs (c :: rest) = digs rest := by
          simp only [digs, List.all_cons]
          rw [decide_eq_true (by omega), Bool.true_and]
        have w1 : IntKind.i64.wrap ((acc : Int) * 10) = ((acc * 10 : Nat) : Int) := nat_wrap (by omega) (by omega)
        have w2 : IntKind.i64.wrap (IntKind.u8.wrap ((c.toNat : Int) - 48)) = ((c.toNat - 48 : Nat) : Int) := by
          rw [w8, wrap_id (by omega) (by omega)]; omega
        have w3 : IntKind.i64.wrap (((acc * 10 : Nat) : Int) + ((c.toNat - 48 : Nat) : Int)) = ((acc * 10 + (c.toNat - 48) : Nat) : Int) := nat_wrap (by omega) (by omega)
        have ih' := ih (pre ++ [c]) (acc * 10 + (c.toNat - 48)) (by rw [hp]; simp) hz (by rw [List.length_append, List.length_singleton, Nat.pow_succ]; omega)
        simp only [spec_l1Num.l0_eq, e1, hb, h1, h2, w1, w2, w3, hn, strs_len, strs_elem, ints_len, ints_elem, items_list, fld_agg, elem_list, toStr_sc, toInt_sc, toBool_sc, headD_one, nat_int, get_bt, decide_eq_true_eq, decide_eq_false_iff_not, decide_true, decide_false, if_true, if_false, ite_self, Bool.not_true, Bool.not_false, Bool.false_eq_true, Bool.true_eq_false, Bool.true_and, Bool.false_and, Bool.and_true, Bool.and_false, not_true, not_false_iff, Option.bind_some, nn, toList_inj, Bool.not_eq_true', Bool.not_eq_false', Int.le_refl, and_self, true_and, and_true, false_and, and_false, bne_self_eq_false, beq_self_eq_true, Int.reduceEq, Nat.reduceEqDiff, List.length_singleton, List.tail_cons, Int.reduceLE, Int.reduceLT, decide_eq_true_eq]
        rw [hd, foldN_cons]
        exact ih'
theorem specNum_ev (s : ByteArray) (hs : s.size ≤ 4294967280) : Ev (fun N => spec_l1Num.f N [strP s]) [intP (numB s)] := by
  simp only [strP, spec_l1Num.f_eq, toStr_sc]
  unfold numB
  by_cases z0 : s.size = 0
  · have e0 : ((s.size : Int) = 0) = True := true_of (by omega)
    simp only [e0, z0, strs_len, strs_elem, ints_len, ints_elem, items_list, fld_agg, elem_list, toStr_sc, toInt_sc, toBool_sc, headD_one, nat_int, get_bt, decide_eq_true_eq, decide_eq_false_iff_not, decide_true, decide_false, if_true, if_false, ite_self, Bool.not_true, Bool.not_false, Bool.false_eq_true, Bool.true_eq_false, Bool.true_and, Bool.false_and, Bool.and_true, Bool.and_false, not_true, not_false_iff, Option.bind_some, nn, toList_inj, Bool.not_eq_true', Bool.not_eq_false', Int.le_refl, and_self, true_and, and_true, false_and, and_false, bne_self_eq_false, beq_self_eq_true, Int.reduceEq, Nat.reduceEqDiff, List.length_singleton, List.tail_cons, Int.reduceLE, Int.reduceLT, decide_eq_true_eq, true_or]
    exact Ev.now _
  · have e0 : ((s.size : Int) = 0) = False := false_of (by omega)
    by_cases z6 : 6 < s.size
    · have e6 : ((6 : Int) < (s.size : Int)) = True := true_of (by omega)
      simp only [e0, e6, z6, strs_len, strs_elem, ints_len, ints_elem, items_list, fld_agg, elem_list, toStr_sc, toInt_sc, toBool_sc, headD_one, nat_int, get_bt, decide_eq_true_eq, decide_eq_false_iff_not, decide_true, decide_false, if_true, if_false, ite_self, Bool.not_true, Bool.not_false, Bool.false_eq_true, Bool.true_eq_false, Bool.true_and, Bool.false_and, Bool.and_true, Bool.and_false, not_true, not_false_iff, Option.bind_some, nn, toList_inj, Bool.not_eq_true', Bool.not_eq_false', Int.le_refl, and_self, true_and, and_true, false_and, and_false, bne_self_eq_false, beq_self_eq_true, Int.reduceEq, Nat.reduceEqDiff, List.length_singleton, List.tail_cons, Int.reduceLE, Int.reduceLT, decide_eq_true_eq, or_true]
      exact Ev.now _
    · have e6 : ((6 : Int) < (s.size : Int)) = False := false_of (by omega)
      have hne : ¬ (s.size = 0 ∨ 6 < s.size) := by omega
      have hk : Ev (fun N => spec_l1Num.l0 N N s 0 0) [intP (if digs (dB s) = true then (foldN 0 (dB s) : Int) else -1)] := (specNum_loop s (dB s) [] 0 rfl (by omega) (by decide)).diag
      have g0 : ((0 : Int) < (s.size : Int)) = True := true_of (by omega)
      have g1 : ((s.get! 0).toNat : Int) = bt s 0 := rfl
      rw [if_neg hne]
      by_cases z1 : 1 < s.size
      · have e1 : ((1 : Int) < (s.size : Int)) = True := true_of (by omega)
        by_cases z8 : bt s 0 = 48
        · simp only [e0, e6, e1, g0, g1, z1, z8, strs_len, strs_elem, ints_len, ints_elem, items_list, fld_agg, elem_list, toStr_sc, toInt_sc, toBool_sc, headD_one, nat_int, get_bt, decide_eq_true_eq, decide_eq_false_iff_not, decide_true, decide_false, if_true, if_false, ite_self, Bool.not_true, Bool.not_false, Bool.false_eq_true, Bool.true_eq_false, Bool.true_and, Bool.false_and, Bool.and_true, Bool.and_false, not_true, not_false_iff, Option.bind_some, nn, toList_inj, Bool.not_eq_true', Bool.not_eq_false', Int.le_refl, and_self, true_and, and_true, false_and, and_false, bne_self_eq_false, beq_self_eq_true, Int.reduceEq, Nat.reduceEqDiff, List.length_singleton, List.tail_cons, Int.reduceLE, Int.reduceLT, decide_eq_true_eq]
          exact Ev.now _
        · simp only [e0, e6, e1, g0, g1, z1, z8, strs_len, strs_elem, ints_len, ints_elem, items_list, fld_agg, elem_list, toStr_sc, toInt_sc, toBool_sc, headD_one, nat_int, get_bt, decide_eq_true_eq, decide_eq_false_iff_not, decide_true, decide_false, if_true, if_false, ite_self, Bool.not_true, Bool.not_false, Bool.false_eq_true, Bool.true_eq_false, Bool.true_and, Bool.false_and, Bool.and_true, Bool.and_false, not_true, not_false_iff, Option.bind_some, nn, toList_inj, Bool.not_eq_true', Bool.not_eq_false', Int.le_refl, and_self, true_and, and_true, false_and, and_false, bne_self_eq_false, beq_self_eq_true, Int.reduceEq, Nat.reduceEqDiff, List.length_singleton, List.tail_cons, Int.reduceLE, Int.reduceLT, decide_eq_true_eq]
          exact hk
      · have e1 : ((1 : Int) < (s.size : Int)) = False := false_of (by omega)
        simp only [e0, e6, e1, z1, strs_len, strs_elem, ints_len, ints_elem, items_list, fld_agg, elem_list, toStr_sc, toInt_sc, toBool_sc, headD_one, nat_int, get_bt, decide_eq_true_eq, decide_eq_false_iff_not, decide_true, decide_false, if_true, if_false, ite_self, Bool.not_true, Bool.not_false, Bool.false_eq_true, Bool.true_eq_false, Bool.true_and, Bool.false_and, Bool.and_true, Bool.and_false, not_true, not_false_iff, Option.bind_some, nn, toList_inj, Bool.not_eq_true', Bool.not_eq_false', Int.le_refl, and_self, true_and, and_true, false_and, and_false, bne_self_eq_false, beq_self_eq_true, Int.reduceEq, Nat.reduceEqDiff, List.length_singleton, List.tail_cons, Int.reduceLE, Int.reduceLT, decide_eq_true_eq]
        exact hk
theorem foldN_app : ∀ (l m : List UInt8) (acc : Nat), foldN acc (l ++ m) = foldN (foldN acc l) m
  | [], _, _ => rfl
  | c :: l, m, acc => foldN_app l m _
theorem foldN_ge : ∀ (l : List UInt8) (acc : Nat), acc ≤ foldN acc l
  | [], _ => Nat.le_refl _
  | c :: l, acc => by
    have := foldN_ge l (acc * 10 + (c.toNat - 48))
    rw [foldN_cons]; omega
theorem parse_digs : ∀ (l : List UInt8) (acc : Nat), digs l = true → foldN acc l < 1000000000 → Lib.parseUint10 acc l = .ok (foldN acc l)
  | [], _, _, _ => rfl
  | c :: l, acc, hd, hb => by
    simp only [digs, List.all_cons, Bool.and_eq_true, decide_eq_true_eq] at hd
    rw [foldN_cons] at hb ⊢
    have := foldN_ge l (acc * 10 + (c.toNat - 48))
    rw [Lib.parseUint10, if_pos hd.1, if_neg (by omega), if_neg (by omega)]
    exact parse_digs l _ hd.2 hb
theorem dec_facts : ∀ (n u : Nat), u < 10 ^ n → 0 < n → (dB (decB u)).length ≤ n ∧ digs (dB (decB u)) = true ∧ foldN 0 (dB (decB u)) = u ∧ ∃ c r, dB (decB u) = c :: r ∧ (1 ≤ u → c.toNat ≠ 48)
  | 0, u, _, h => by omega
  | n + 1, u, h, _ => by
    by_cases h10 : u < 10
    · have e : dB (decB u) = [UInt8.ofNat (48 + u)] := by
        show (Lib.decDigits u).toArray.toList = _
        rw [Lib.decDigits, dif_pos h10]
      have ec : (UInt8.ofNat (48 + u)).toNat = 48 + u := by simp; omega
      rw [e]
      refine ⟨by simp, ?_, ?_, _, _, rfl, fun h1 => by rw [ec]; omega⟩
      · simp only [digs, List.all_cons, List.all_nil, ec, Bool.and_true, decide_eq_true_eq]; omega
      · simp only [foldN_cons, foldN_nil, ec]; omega
    · have hn : 0 < n := by
        cases n with
        | zero => simp at h; omega
        | succ n => omega
      obtain ⟨i1, i2, i3, c, r, i4, i5⟩ := dec_facts n (u / 10) (by rw [Nat.pow_succ] at h; omega) hn
      have e : dB (decB u) = dB (decB (u / 10)) ++ [UInt8.ofNat (48 + u % 10)] := by
        show (Lib.decDigits u).toArray.toList = (Lib.decDigits (u / 10)).toArray.toList ++ _
        rw [Lib.decDigits, dif_neg h10]
      have ec : (UInt8.ofNat (48 + u % 10)).toNat = 48 + u % 10 := by simp; omega
      rw [e]
      refine ⟨by simp; omega, ?_, ?_, c, r ++ [UInt8.ofNat (48 + u % 10)], by rw [i4]; rfl, fun h1 => i5 (by omega)⟩
      · simp only [digs, List.all_append, List.all_cons, List.all_nil, ec, Bool.and_true, Bool.and_eq_true, decide_eq_true_eq]
        exact ⟨i2, by omega⟩
      · rw [foldN_app, i3]
        simp only [foldN_cons, foldN_nil, ec]; omega
theorem numB_dec {u : Nat} (h0 : 1 ≤ u) (h1 : u ≤ 999999) : numB (decB u) = (u : Int) := by
  obtain ⟨i1, i2, i3, c, r, i4, i5⟩ := dec_facts 6 u (by omega) (by omega)
  have hz := dB_len (decB u)
  have hb : bt (decB u) 0 = (c.toNat : Int) := at_dB (pre := []) i4
  have hlen : (dB (decB u)).length = r.length + 1 := by rw [i4]; rfl
  unfold numB
  rw [if_neg (by omega), if_neg (fun h => i5 h0 (by have := h.2; rw [hb] at this; omega)), if_pos i2, i3]
theorem atoi_dec {u : Nat} (h0 : 1 ≤ u) (h1 : u ≤ 999999) : atoiVal (decB u) = (u : Int) := by
  obtain ⟨i1, i2, i3, c, r, i4, i5⟩ := dec_facts 6 u (by omega) (by omega)
  have hp := parse_digs (dB (decB u)) 0 i2 (by rw [i3]; omega)
  rw [i3] at hp
  have hc : 48 ≤ c.toNat ∧ c.toNat ≤ 57 := by
    rw [i4] at i2
    simp only [digs, List.all_cons, Bool.and_eq_true, decide_eq_true_eq] at i2
    exact i2.1
  have ha : Lib.atoiAll (dB (decB u)) = .ok (u : Int) := by
    rw [i4, Lib.atoiAll_plain c r (by omega) (by omega), Lib.parseMag, if_neg (by simp), ← i4, hp, Lib.signless, if_neg (by omega)]
  have hx : Lib.atoiAll (decB u).data.toList = .ok (u : Int) := ha
  unfold atoiVal
  rw [hx]
/-! #### rings that are read -/
def okTake (ks : List ByteArray) (fs : List Int) (k : ByteArray) (f : Int) (s : ByteArray) : Bool := okT ks fs k f && decide (turnS ks k f = s)
abbrev RingO := Option (List ByteArray × List Int)
def stepW (num : ByteArray → Int) (fine : ByteArray → Bool) (ks : List ByteArray) (fs : List Int) : List ByteArray → RingO
  | [_, b, c, d] => if fine c = true ∧ okTake ks fs (unhB c) (num b) d = true then some (ks ++ [unhB c], fs ++ [num b]) else none
  | _ => none
def stepG (num : ByteArray → Int) (fine : ByteArray → Bool) (ks : List ByteArray) (fs : List Int) (line : ByteArray) : RingO := stepW num fine ks fs (cutB 32 line)
def readG (num : ByteArray → Int) (fine : ByteArray → Bool) : List ByteArray → List ByteArray → List Int → RingO
  | [], ks, fs => some (ks, fs)
  | l :: r, ks, fs => match stepG num fine ks fs l with
    | none => none
    | some x => readG num fine r x.1 x.2
def finG (text : ByteArray) : RingO → RingO
  | some x => if ringPutM x.1 x.2 = text then some x else none
  | none => none
def getG (num : ByteArray → Int) (fine : ByteArray → Bool) (key text : ByteArray) : RingO := if keyM key = true then finG text (readG num fine (cutB 10 text).dropLast [key] [1]) else none
def getR : RingO → List PV
  | some x => [ringP x.1 x.2, boolP true]
  | none => [ringP [] [], boolP false]
theorem stepW_ne (num : ByteArray → Int) (fine : ByteArray → Bool) (ks : List ByteArray) (fs : List Int) : ∀ (ws : List ByteArray), ws.length ≠ 4 → stepW num fine ks fs ws = none
  | [], _ => rfl
  | [_], _ => rfl
  | [_, _], _ => rfl
  | [_, _, _], _ => rfl
  | [_, _, _, _], h => absurd rfl h
  | _ :: _ :: _ :: _ :: _ :: _, _ => rfl
theorem four {ws : List ByteArray} (h : ws.length = 4) : ∃ a b c d, ws = [a, b, c, d] := by
  match ws, h with
  | [a, b, c, d], _ => exact ⟨a, b, c, d, rfl⟩
theorem okTake_ring {ks : List ByteArray} {fs : List Int} {k : ByteArray} {f : Int} {s : ByteArray} (h : okTake ks fs k f s = true) : ringM (ks ++ [k]) (fs ++ [f]) = true := by
  simp only [okTake, okT, Bool.and_eq_true] at h
  exact h.1.2
theorem stepW_ring {num : ByteArray → Int} {fine : ByteArray → Bool} {ks : List ByteArray} {fs : List Int} {ws : List ByteArray} {x : List ByteArray × List Int} (h : stepW num fine ks fs ws = some x) : ringM x.1 x.2 = true ∧ ∃ k f, x = (ks ++ [k], fs ++ [f]) := by
  by_cases h4 : ws.length = 4
  · obtain ⟨a, b, c, d, rfl⟩ := four h4
    rw [stepW] at h
    split at h
    · rename_i hc
      injection h with h; subst h
      exact ⟨okTake_ring hc.2, _, _, rfl⟩
    · cases h
  · rw [stepW_ne _ _ _ _ _ h4] at h; cases h
theorem ring_small {ks : List ByteArray} {fs : List Int} (h : ringM ks fs = true) : ks.length ≤ 5 ∧ fs.length ≤ 5 ∧ ∀ k ∈ ks, k.size ≤ 64 := by
  obtain ⟨n1, n2, n3, n4, _⟩ := ring_facts h
  exact ⟨n2, by omega, fun k hk => (n4 k hk).2⟩
theorem takeR_ok {ks : List ByteArray} {fs : List Int} (h : ringM ks fs = true) (k : ByteArray) (f : Int) (s : ByteArray) : takeR ks fs k f s = if okTake ks fs k f s = true then [ringP (ks ++ [k]) (fs ++ [f]), boolP true] else [ringP ks fs, boolP false] := by
  unfold takeR okTake
  rw [if_pos h]
  by_cases h1 : okT ks fs k f = true
  · by_cases h2 : turnS ks k f = s <;> simp [h1, h2]
  · simp [h1]
theorem implGet_loop {text : ByteArray} (ht : text.size ≤ 1048576) {L : List ByteArray} (hL : L.length ≤ 1048577) (hLs : ∀ l ∈ L, l.size ≤ 1048576) : ∀ (rest pre ks : List ByteArray) (fs : List Int), L = pre ++ rest → ringM ks fs = true →
    Ev2 (fun N n => impl_RingGet.l0 N n text (L.length : Int) (pre.length : Int) (strsP L) (strsP ks) (intsP fs)) (getR (finG text (readG atoiVal (fun _ => true) rest ks fs))) := by
  intro rest
  induction rest with
  | nil =>
    intro pre ks fs hp hr
    obtain ⟨n1, n2, n3⟩ := ring_small hr
    refine Ev2.succ ?_
    simp only [impl_RingGet.l0_eq, at_end hp, ring_agg, strs_len, strs_elem, ints_len, ints_elem, items_list, fld_agg, elem_list, toStr_sc, toInt_sc, toBool_sc, headD_one, nat_int, get_bt, decide_eq_true_eq, decide_eq_false_iff_not, decide_true, decide_false, if_true, if_false, ite_self, Bool.not_true, Bool.not_false, Bool.false_eq_true, Bool.true_eq_false, Bool.true_and, Bool.false_and, Bool.and_true, Bool.and_false, not_true, not_false_iff, Option.bind_some, nn, toList_inj, Bool.not_eq_true', Bool.not_eq_false', Int.le_refl, and_self, true_and, and_true, false_and, and_false, bne_self_eq_false, beq_self_eq_true, Int.reduceEq, Nat.reduceEqDiff, List.length_singleton, List.tail_cons, Int.reduceLE, Int.reduceLT, decide_eq_true_eq, readG, finG]
    refine Ev2.bind (implRingPut_ev ks fs (by omega) (by omega) (fun s hs => by have := n3 s hs; omega)) ?_
    by_cases he : ringPutM ks fs = text
    · simp only [he, strs_len, strs_elem, ints_len, ints_elem, items_list, fld_agg, elem_list, toStr_sc, toInt_sc, toBool_sc, headD_one, nat_int, get_bt, decide_eq_true_eq, decide_eq_false_iff_not, decide_true, decide_false, if_true, if_false, ite_self, Bool.not_true, Bool.not_false, Bool.false_eq_true, Bool.true_eq_false, Bool.true_and, Bool.false_and, Bool.and_true, Bool.and_false, not_true, not_false_iff, Option.bind_some, nn, toList_inj, Bool.not_eq_true', Bool.not_eq_false', Int.le_refl, and_self, true_and, and_true, false_and, and_false, bne_self_eq_false, beq_self_eq_true, Int.reduceEq, Nat.reduceEqDiff, List.length_singleton, List.tail_cons, Int.reduceLE, Int.reduceLT, decide_eq_true_eq, getR]; exact Ev2.now _
    · simp only [he, strs_len, strs_elem, ints_len, ints_elem, items_list, fld_agg, elem_list, toStr_sc, toInt_sc, toBool_sc, headD_one, nat_int, get_bt, decide_eq_true_eq, decide_eq_false_iff_not, decide_true, decide_false, if_true, if_false, ite_self, Bool.not_true, Bool.not_false, Bool.false_eq_true, Bool.true_eq_false, Bool.true_and, Bool.false_and, Bool.and_true, Bool.and_false, not_true, not_false_iff, Option.bind_some, nn, toList_inj, Bool.not_eq_true', Bool.not_eq_false', Int.le_refl, and_self, true_and, and_true, false_and, and_false, bne_self_eq_false, beq_self_eq_true, Int.reduceEq, Nat.reduceEqDiff, List.length_singleton, List.tail_cons, Int.reduceLE, Int.reduceLT, decide_eq_true_eq, getR, ring_none]; exact Ev2.now _
  | cons l rest ih =>
    intro pre ks fs hp hr
    obtain ⟨n1, n2, n3⟩ := ring_small hr
    have hls := hLs l (by rw [hp]; simp)
    have hsp := splitCut_val 32 l (by omega)
    have hps := cutB_sizes 32 l
    have hn := at_next hp (by omega)
    refine Ev2.succ ?_
    rw [readG, stepG]
    by_cases h4 : (cutB 32 l).length = 4
    · obtain ⟨a, b, c, d, hw⟩ := four h4
      rw [hw] at hsp hps ⊢
      have sb := hps b (by simp)
      have sc := hps c (by simp)
      have sd := hps d (by simp)
      have hat : ∀ N, strconv_Atoi.f N [strP b] = some [intP (atoiVal b), boolP (atoiErr b)] := fun N => by
        show atoiDen [strP b] = _
        have : (if b.size ≤ 281474976710656 then some [intP (atoiVal b), boolP (atoiErr b)] else none) = some [intP (atoiVal b), boolP (atoiErr b)] := if_pos (by omega)
        exact this
      have l4 : ((([a, b, c, d] : List ByteArray).length : Int) = 4) = True := true_of rfl
      have x1 : ((1 : Int) < (([a, b, c, d] : List ByteArray).length : Int)) = True := true_of (by simp)
      have x2 : ((2 : Int) < (([a, b, c, d] : List ByteArray).length : Int)) = True := true_of (by simp)
      have x3 : ((3 : Int) < (([a, b, c, d] : List ByteArray).length : Int)) = True := true_of (by simp)
      have g1 : ((strsP [a, b, c, d]).elem 1) = strP b := rfl
      have g2 : ((strsP [a, b, c, d]).elem 2) = strP c := rfl
      have g3 : ((strsP [a, b, c, d]).elem 3) = strP d := rfl
      simp only [strP] at hsp hat
      simp only [impl_RingGet.l0_eq, eq_true (at_lt hp), at_getD hp, hsp, Option.bind_some, headD_one, g1, g2, g3, strs_elem, strs_len, l4, x1, x2, x3, toStr_sc, hat, strs_len, strs_elem, ints_len, ints_elem, items_list, fld_agg, elem_list, toStr_sc, toInt_sc, toBool_sc, headD_one, nat_int, get_bt, decide_eq_true_eq, decide_eq_false_iff_not, decide_true, decide_false, if_true, if_false, ite_self, Bool.not_true, Bool.not_false, Bool.false_eq_true, Bool.true_eq_false, Bool.true_and, Bool.false_and, Bool.and_true, Bool.and_false, not_true, not_false_iff, Option.bind_some, nn, toList_inj, Bool.not_eq_true', Bool.not_eq_false', Int.le_refl, and_self, true_and, and_true, false_and, and_false, bne_self_eq_false, beq_self_eq_true, Int.reduceEq, Nat.reduceEqDiff, List.length_singleton, List.tail_cons, Int.reduceLE, Int.reduceLT, decide_eq_true_eq]
      refine Ev2.bind (implUnhex_ev c (by omega)) ?_
      simp only [headD_one, toStr_sc, toInt_sc, ring_agg, turn_agg]
      refine Ev2.bind (implTake_ev ks fs (unhB c) (atoiVal b) d (by omega) (by omega) (fun s hs => by have := n3 s hs; omega) (by have := unhB_size c; omega)) ?_
      rw [takeR_ok hr, stepW]
      cases hk : okTake ks fs (unhB c) (atoiVal b) d with
      | false =>
        simp only [strs_len, strs_elem, ints_len, ints_elem, items_list, fld_agg, elem_list, toStr_sc, toInt_sc, toBool_sc, headD_one, nat_int, get_bt, decide_eq_true_eq, decide_eq_false_iff_not, decide_true, decide_false, if_true, if_false, ite_self, Bool.not_true, Bool.not_false, Bool.false_eq_true, Bool.true_eq_false, Bool.true_and, Bool.false_and, Bool.and_true, Bool.and_false, not_true, not_false_iff, Option.bind_some, nn, toList_inj, Bool.not_eq_true', Bool.not_eq_false', Int.le_refl, and_self, true_and, and_true, false_and, and_false, bne_self_eq_false, beq_self_eq_true, Int.reduceEq, Nat.reduceEqDiff, List.length_singleton, List.tail_cons, Int.reduceLE, Int.reduceLT, decide_eq_true_eq, ring_none, finG, getR]
        exact Ev2.now _
      | true =>
        have := ih (pre ++ [l]) (ks ++ [unhB c]) (fs ++ [atoiVal b]) (by rw [hp]; simp) (okTake_ring hk)
        simp only [strs_len, strs_elem, ints_len, ints_elem, items_list, fld_agg, elem_list, toStr_sc, toInt_sc, toBool_sc, headD_one, nat_int, get_bt, decide_eq_true_eq, decide_eq_false_iff_not, decide_true, decide_false, if_true, if_false, ite_self, Bool.not_true, Bool.not_false, Bool.false_eq_true, Bool.true_eq_false, Bool.true_and, Bool.false_and, Bool.and_true, Bool.and_false, not_true, not_false_iff, Option.bind_some, nn, toList_inj, Bool.not_eq_true', Bool.not_eq_false', Int.le_refl, and_self, true_and, and_true, false_and, and_false, bne_self_eq_false, beq_self_eq_true, Int.reduceEq, Nat.reduceEqDiff, List.length_singleton, List.tail_cons, Int.reduceLE, Int.reduceLT, decide_eq_true_eq, hn, ring_f0, ring_f1]
        exact this
    · have l4 : (((cutB 32 l).length : Int) = 4) = False := false_of (by omega)
      rw [stepW_ne _ _ _ _ _ h4]
      simp only [strP] at hsp
      simp only [impl_RingGet.l0_eq, eq_true (at_lt hp), at_getD hp, hsp, l4, strs_len, strs_elem, ints_len, ints_elem, items_list, fld_agg, elem_list, toStr_sc, toInt_sc, toBool_sc, headD_one, nat_int, get_bt, decide_eq_true_eq, decide_eq_false_iff_not, decide_true, decide_false, if_true, if_false, ite_self, Bool.not_true, Bool.not_false, Bool.false_eq_true, Bool.true_eq_false, Bool.true_and, Bool.false_and, Bool.and_true, Bool.and_false, not_true, not_false_iff, Option.bind_some, nn, toList_inj, Bool.not_eq_true', Bool.not_eq_false', Int.le_refl, and_self, true_and, and_true, false_and, and_false, bne_self_eq_false, beq_self_eq_true, Int.reduceEq, Nat.reduceEqDiff, List.length_singleton, List.tail_cons, Int.reduceLE, Int.reduceLT, decide_eq_true_eq, ring_none, finG, getR]
      exact Ev2.now _
theorem new_one (k : ByteArray) : PV.agg [PV.list [PV.sc (.string k)], PV.list [PV.sc (.int .i64 1)]] = ringP [k] [1] := rfl
theorem implNewG_val (s : ByteArray) (hs : s.size ≤ 9223372036854775807) (N : Nat) : impl_RingNew.f N [strP s] = some (if keyM s = true then [ringP [s] [1], boolP true] else [ringP [] [], boolP false]) := by
  simp only [impl_RingNew.f_eq, implKey_val s hs, new_one, ring_none, strs_len, strs_elem, ints_len, ints_elem, items_list, fld_agg, elem_list, toStr_sc, toInt_sc, toBool_sc, headD_one, nat_int, get_bt, decide_eq_true_eq, decide_eq_false_iff_not, decide_true, decide_false, if_true, if_false, ite_self, Bool.not_true, Bool.not_false, Bool.false_eq_true, Bool.true_eq_false, Bool.true_and, Bool.false_and, Bool.and_true, Bool.and_false, not_true, not_false_iff, Option.bind_some, nn, toList_inj, Bool.not_eq_true', Bool.not_eq_false', Int.le_refl, and_self, true_and, and_true, false_and, and_false, bne_self_eq_false, beq_self_eq_true, Int.reduceEq, Nat.reduceEqDiff, List.length_singleton, List.tail_cons, Int.reduceLE, Int.reduceLT, decide_eq_true_eq]
  cases keyM s <;> rfl
theorem specNewG_val (s : ByteArray) (hs : s.size ≤ 9223372036854775807) (N : Nat) : spec_RingNew.f N [strP s] = some (if keyM s = true then [ringP [s] [1], boolP true] else [ringP [] [], boolP false]) := by
  simp only [spec_RingNew.f_eq, specKey_val s hs, new_one, ring_none, strs_len, strs_elem, ints_len, ints_elem, items_list, fld_agg, elem_list, toStr_sc, toInt_sc, toBool_sc, headD_one, nat_int, get_bt, decide_eq_true_eq, decide_eq_false_iff_not, decide_true, decide_false, if_true, if_false, ite_self, Bool.not_true, Bool.not_false, Bool.false_eq_true, Bool.true_eq_false, Bool.true_and, Bool.false_and, Bool.and_true, Bool.and_false, not_true, not_false_iff, Option.bind_some, nn, toList_inj, Bool.not_eq_true', Bool.not_eq_false', Int.le_refl, and_self, true_and, and_true, false_and, and_false, bne_self_eq_false, beq_self_eq_true, Int.reduceEq, Nat.reduceEqDiff, List.length_singleton, List.tail_cons, Int.reduceLE, Int.reduceLT, decide_eq_true_eq]
  cases keyM s <;> rfl
theorem ring_first {k : ByteArray} (h : keyM k = true) : ringM [k] [1] = true := by
  simp [ringM, keysM, ascF, tailM, h]
theorem implGet_ev (key text : ByteArray) (hk : key.size ≤ 1048576) (ht : text.size ≤ 1048576) : Ev (fun N => impl_RingGet.f N [strP key, strP text]) (getR (getG atoiVal (fun _ => true) key text)) := by
  have hnew := implNewG_val key (by omega)
  have hlines := linesOf_val text ht
  simp only [strP] at hnew hlines
  simp only [strP, impl_RingGet.f_eq, toStr_sc, hnew, Option.bind_some]
  unfold getG
  cases h : keyM key with
  | false => simp only [strs_len, strs_elem, ints_len, ints_elem, items_list, fld_agg, elem_list, toStr_sc, toInt_sc, toBool_sc, headD_one, nat_int, get_bt, decide_eq_true_eq, decide_eq_false_iff_not, decide_true, decide_false, if_true, if_false, ite_self, Bool.not_true, Bool.not_false, Bool.false_eq_true, Bool.true_eq_false, Bool.true_and, Bool.false_and, Bool.and_true, Bool.and_false, not_true, not_false_iff, Option.bind_some, nn, toList_inj, Bool.not_eq_true', Bool.not_eq_false', Int.le_refl, and_self, true_and, and_true, false_and, and_false, bne_self_eq_false, beq_self_eq_true, Int.reduceEq, Nat.reduceEqDiff, List.length_singleton, List.tail_cons, Int.reduceLE, Int.reduceLT, decide_eq_true_eq, ring_none, getR]; exact Ev.now _
  | true =>
    have hlen := cutB_len 10 text
    have hsz := cutB_sizes 10 text
    have := implGet_loop ht (L := (cutB 10 text).dropLast) (by rw [List.length_dropLast]; omega) (fun l hl => by have := hsz l (List.dropLast_subset _ hl); omega) (cutB 10 text).dropLast [] [key] [1] rfl (ring_first h)
    simp only [strs_len, strs_elem, ints_len, ints_elem, items_list, fld_agg, elem_list, toStr_sc, toInt_sc, toBool_sc, headD_one, nat_int, get_bt, decide_eq_true_eq, decide_eq_false_iff_not, decide_true, decide_false, if_true, if_false, ite_self, Bool.not_true, Bool.not_false, Bool.false_eq_true, Bool.true_eq_false, Bool.true_and, Bool.false_and, Bool.and_true, Bool.and_false, not_true, not_false_iff, Option.bind_some, nn, toList_inj, Bool.not_eq_true', Bool.not_eq_false', Int.le_refl, and_self, true_and, and_true, false_and, and_false, bne_self_eq_false, beq_self_eq_true, Int.reduceEq, Nat.reduceEqDiff, List.length_singleton, List.tail_cons, Int.reduceLE, Int.reduceLT, decide_eq_true_eq, hlines, ring_f0, ring_f1]
    exact this.diag
/-! #### the specification's reader -/
theorem specGet_loop {text : ByteArray} (ht : text.size ≤ 1048576) {D : List ByteArray} {z : ByteArray} (hL : D.length ≤ 1048577) (hLs : ∀ l ∈ D, l.size ≤ 1048576) : ∀ (rest pre ks : List ByteArray) (fs : List Int), D = pre ++ rest → ringM ks fs = true →
    Ev2 (fun N n => spec_RingGet.l0 N n text true (pre.length : Int) (strsP (D ++ [z])) (strsP ks) (intsP fs)) (getR (finG text (readG numB fineB rest ks fs))) := by
  intro rest
  induction rest with
  | nil =>
    intro pre ks fs hp hr
    obtain ⟨n1, n2, n3⟩ := ring_small hr
    have hz := congrArg List.length hp
    simp only [List.length_append, List.length_nil] at hz
    have w : IntKind.i64.wrap ((pre.length : Int) + 1) = ((pre.length + 1 : Nat) : Int) := nat_wrap (by omega) (by omega)
    have e1 : (((pre.length + 1 : Nat) : Int) < (((D ++ [z]).length : Nat) : Int)) = False := false_of (by rw [List.length_append, List.length_singleton]; omega)
    refine Ev2.succ ?_
    simp only [spec_RingGet.l0_eq, w, e1, ring_agg, strs_len, strs_elem, ints_len, ints_elem, items_list, fld_agg, elem_list, toStr_sc, toInt_sc, toBool_sc, headD_one, nat_int, get_bt, decide_eq_true_eq, decide_eq_false_iff_not, decide_true, decide_false, if_true, if_false, ite_self, Bool.not_true, Bool.not_false, Bool.false_eq_true, Bool.true_eq_false, Bool.true_and, Bool.false_and, Bool.and_true, Bool.and_false, not_true, not_false_iff, Option.bind_some, nn, toList_inj, Bool.not_eq_true', Bool.not_eq_false', Int.le_refl, and_self, true_and, and_true, false_and, and_false, bne_self_eq_false, beq_self_eq_true, Int.reduceEq, Nat.reduceEqDiff, List.length_singleton, List.tail_cons, Int.reduceLE, Int.reduceLT, decide_eq_true_eq, readG, finG]
    refine Ev2.bind (specRingPut_ev ks fs (by omega) (by omega) (fun s hs => by have := n3 s hs; omega)) ?_
    by_cases he : ringPutM ks fs = text
    · simp only [he, strs_len, strs_elem, ints_len, ints_elem, items_list, fld_agg, elem_list, toStr_sc, toInt_sc, toBool_sc, headD_one, nat_int, get_bt, decide_eq_true_eq, decide_eq_false_iff_not, decide_true, decide_false, if_true, if_false, ite_self, Bool.not_true, Bool.not_false, Bool.false_eq_true, Bool.true_eq_false, Bool.true_and, Bool.false_and, Bool.and_true, Bool.and_false, not_true, not_false_iff, Option.bind_some, nn, toList_inj, Bool.not_eq_true', Bool.not_eq_false', Int.le_refl, and_self, true_and, and_true, false_and, and_false, bne_self_eq_false, beq_self_eq_true, Int.reduceEq, Nat.reduceEqDiff, List.length_singleton, List.tail_cons, Int.reduceLE, Int.reduceLT, decide_eq_true_eq, getR]; exact Ev2.now _
    · simp only [he, strs_len, strs_elem, ints_len, ints_elem, items_list, fld_agg, elem_list, toStr_sc, toInt_sc, toBool_sc, headD_one, nat_int, get_bt, decide_eq_true_eq, decide_eq_false_iff_not, decide_true, decide_false, if_true, if_false, ite_self, Bool.not_true, Bool.not_false, Bool.false_eq_true, Bool.true_eq_false, Bool.true_and, Bool.false_and, Bool.and_true, Bool.and_false, not_true, not_false_iff, Option.bind_some, nn, toList_inj, Bool.not_eq_true', Bool.not_eq_false', Int.le_refl, and_self, true_and, and_true, false_and, and_false, bne_self_eq_false, beq_self_eq_true, Int.reduceEq, Nat.reduceEqDiff, List.length_singleton, List.tail_cons, Int.reduceLE, Int.reduceLT, decide_eq_true_eq, getR, ring_none]; exact Ev2.now _
  | cons l rest ih =>
    intro pre ks fs hp hr
    obtain ⟨n1, n2, n3⟩ := ring_small hr
    have hls := hLs l (by rw [hp]; simp)
    have hsp := specCut_ev 32 l (by omega)
    have hps := cutB_sizes 32 l
    have hz := congrArg List.length hp
    simp only [List.length_append, List.length_cons] at hz
    have w : IntKind.i64.wrap ((pre.length : Int) + 1) = ((pre.length + 1 : Nat) : Int) := nat_wrap (by omega) (by omega)
    have e1 : (((pre.length + 1 : Nat) : Int) < (((D ++ [z]).length : Nat) : Int)) = True := true_of (by rw [List.length_append, List.length_singleton]; omega)
    have e0 : (((pre.length : Nat) : Int) < (((D ++ [z]).length : Nat) : Int)) = True := true_of (by rw [List.length_append, List.length_singleton]; omega)
    have hg : (D ++ [z]).getD pre.length ByteArray.empty = l := at_getD (xs := D ++ [z]) (rest := rest ++ [z]) (by rw [hp]; simp)
    have e32 : (PV.sc (.int .u8 ((32 : UInt8).toNat : Int))) = PV.sc (.int .u8 32) := rfl
    have hn : ((pre ++ [l]).length : Int) = ((pre.length + 1 : Nat) : Int) := by simp
    rw [e32] at hsp
    simp only [strP] at hsp
    refine Ev2.succ ?_
    rw [readG, stepG]
    simp only [spec_RingGet.l0_eq, w, e1, e0, hg, strs_len, strs_elem, ints_len, ints_elem, items_list, fld_agg, elem_list, toStr_sc, toInt_sc, toBool_sc, headD_one, nat_int, get_bt, decide_eq_true_eq, decide_eq_false_iff_not, decide_true, decide_false, if_true, if_false, ite_self, Bool.not_true, Bool.not_false, Bool.false_eq_true, Bool.true_eq_false, Bool.true_and, Bool.false_and, Bool.and_true, Bool.and_false, not_true, not_false_iff, Option.bind_some, nn, toList_inj, Bool.not_eq_true', Bool.not_eq_false', Int.le_refl, and_self, true_and, and_true, false_and, and_false, bne_self_eq_false, beq_self_eq_true, Int.reduceEq, Nat.reduceEqDiff, List.length_singleton, List.tail_cons, Int.reduceLE, Int.reduceLT, decide_eq_true_eq]
    refine Ev2.bind hsp ?_
    by_cases h4 : (cutB 32 l).length = 4
    · obtain ⟨a, b, c, d, hw⟩ := four h4
      rw [hw] at hps ⊢
      have sb := hps b (by simp)
      have sc := hps c (by simp)
      have sd := hps d (by simp)
      have l4 : ((([a, b, c, d] : List ByteArray).length : Int) = 4) = True := true_of rfl
      have x1 : ((1 : Int) < (([a, b, c, d] : List ByteArray).length : Int)) = True := true_of (by simp)
      have x2 : ((2 : Int) < (([a, b, c, d] : List ByteArray).length : Int)) = True := true_of (by simp)
      have x3 : ((3 : Int) < (([a, b, c, d] : List ByteArray).length : Int)) = True := true_of (by simp)
      have g1 : ((strsP [a, b, c, d]).elem 1) = strP b := rfl
      have g2 : ((strsP [a, b, c, d]).elem 2) = strP c := rfl
      have g3 : ((strsP [a, b, c, d]).elem 3) = strP d := rfl
      simp only [headD_one, strs_len, g1, g2, g3, l4, x1, x2, x3, strs_len, strs_elem, ints_len, ints_elem, items_list, fld_agg, elem_list, toStr_sc, toInt_sc, toBool_sc, headD_one, nat_int, get_bt, decide_eq_true_eq, decide_eq_false_iff_not, decide_true, decide_false, if_true, if_false, ite_self, Bool.not_true, Bool.not_false, Bool.false_eq_true, Bool.true_eq_false, Bool.true_and, Bool.false_and, Bool.and_true, Bool.and_false, not_true, not_false_iff, Option.bind_some, nn, toList_inj, Bool.not_eq_true', Bool.not_eq_false', Int.le_refl, and_self, true_and, and_true, false_and, and_false, bne_self_eq_false, beq_self_eq_true, Int.reduceEq, Nat.reduceEqDiff, List.length_singleton, List.tail_cons, Int.reduceLE, Int.reduceLT, decide_eq_true_eq]
      refine Ev2.bind (specBytes_ev c (by omega)) ?_
      refine Ev2.bind (specNum_ev b (by omega)) ?_
      rw [stepW]
      cases hf : figs (bytesOf c) with
      | false =>
        have hfi : fineB c = false := by rw [fineB, hf]; rfl
        rw [bytesR, hf]
        simp only [headD_one, strs_len, strs_elem, ints_len, ints_elem, items_list, fld_agg, elem_list, toStr_sc, toInt_sc, toBool_sc, headD_one, nat_int, get_bt, decide_eq_true_eq, decide_eq_false_iff_not, decide_true, decide_false, if_true, if_false, ite_self, Bool.not_true, Bool.not_false, Bool.false_eq_true, Bool.true_eq_false, Bool.true_and, Bool.false_and, Bool.and_true, Bool.and_false, not_true, not_false_iff, Option.bind_some, nn, toList_inj, Bool.not_eq_true', Bool.not_eq_false', Int.le_refl, and_self, true_and, and_true, false_and, and_false, bne_self_eq_false, beq_self_eq_true, Int.reduceEq, Nat.reduceEqDiff, List.length_singleton, List.tail_cons, Int.reduceLE, Int.reduceLT, decide_eq_true_eq, ring_agg, turn_agg, List.headD_cons, List.tail_cons]
        refine Ev2.bind (specTake_ev ks fs ⟨#[]⟩ (numB b) d (by omega) (by omega) (fun s hs => by have := n3 s hs; omega) (by show (0 : Nat) ≤ _; omega)) ?_
        simp only [hfi, strs_len, strs_elem, ints_len, ints_elem, items_list, fld_agg, elem_list, toStr_sc, toInt_sc, toBool_sc, headD_one, nat_int, get_bt, decide_eq_true_eq, decide_eq_false_iff_not, decide_true, decide_false, if_true, if_false, ite_self, Bool.not_true, Bool.not_false, Bool.false_eq_true, Bool.true_eq_false, Bool.true_and, Bool.false_and, Bool.and_true, Bool.and_false, not_true, not_false_iff, Option.bind_some, nn, toList_inj, Bool.not_eq_true', Bool.not_eq_false', Int.le_refl, and_self, true_and, and_true, false_and, and_false, bne_self_eq_false, beq_self_eq_true, Int.reduceEq, Nat.reduceEqDiff, List.length_singleton, List.tail_cons, Int.reduceLE, Int.reduceLT, decide_eq_true_eq, ring_none, finG, getR]
        exact Ev2.now _
      | true =>
        have hfi : fineB c = decide (c.size % 2 = 0) := by rw [fineB, hf]; rfl
        rw [bytesR, if_pos hf]
        simp only [headD_one, strs_len, strs_elem, ints_len, ints_elem, items_list, fld_agg, elem_list, toStr_sc, toInt_sc, toBool_sc, headD_one, nat_int, get_bt, decide_eq_true_eq, decide_eq_false_iff_not, decide_true, decide_false, if_true, if_false, ite_self, Bool.not_true, Bool.not_false, Bool.false_eq_true, Bool.true_eq_false, Bool.true_and, Bool.false_and, Bool.and_true, Bool.and_false, not_true, not_false_iff, Option.bind_some, nn, toList_inj, Bool.not_eq_true', Bool.not_eq_false', Int.le_refl, and_self, true_and, and_true, false_and, and_false, bne_self_eq_false, beq_self_eq_true, Int.reduceEq, Nat.reduceEqDiff, List.length_singleton, List.tail_cons, Int.reduceLE, Int.reduceLT, decide_eq_true_eq, ring_agg, turn_agg, List.headD_cons, List.tail_cons]
        refine Ev2.bind (specTake_ev ks fs (unhB c) (numB b) d (by omega) (by omega) (fun s hs => by have := n3 s hs; omega) (by have := unhB_size c; omega)) ?_
        rw [takeR_ok hr]
        by_cases h2 : c.size % 2 = 0
        · cases hk : okTake ks fs (unhB c) (numB b) d with
          | false =>
            simp only [hfi, h2, strs_len, strs_elem, ints_len, ints_elem, items_list, fld_agg, elem_list, toStr_sc, toInt_sc, toBool_sc, headD_one, nat_int, get_bt, decide_eq_true_eq, decide_eq_false_iff_not, decide_true, decide_false, if_true, if_false, ite_self, Bool.not_true, Bool.not_false, Bool.false_eq_true, Bool.true_eq_false, Bool.true_and, Bool.false_and, Bool.and_true, Bool.and_false, not_true, not_false_iff, Option.bind_some, nn, toList_inj, Bool.not_eq_true', Bool.not_eq_false', Int.le_refl, and_self, true_and, and_true, false_and, and_false, bne_self_eq_false, beq_self_eq_true, Int.reduceEq, Nat.reduceEqDiff, List.length_singleton, List.tail_cons, Int.reduceLE, Int.reduceLT, decide_eq_true_eq, ring_none, finG, getR]
            exact Ev2.now _
          | true =>
            have := ih (pre ++ [l]) (ks ++ [unhB c]) (fs ++ [numB b]) (by rw [hp]; simp) (okTake_ring hk)
            rw [hn] at this
            simp only [hfi, h2, strs_len, strs_elem, ints_len, ints_elem, items_list, fld_agg, elem_list, toStr_sc, toInt_sc, toBool_sc, headD_one, nat_int, get_bt, decide_eq_true_eq, decide_eq_false_iff_not, decide_true, decide_false, if_true, if_false, ite_self, Bool.not_true, Bool.not_false, Bool.false_eq_true, Bool.true_eq_false, Bool.true_and, Bool.false_and, Bool.and_true, Bool.and_false, not_true, not_false_iff, Option.bind_some, nn, toList_inj, Bool.not_eq_true', Bool.not_eq_false', Int.le_refl, and_self, true_and, and_true, false_and, and_false, bne_self_eq_false, beq_self_eq_true, Int.reduceEq, Nat.reduceEqDiff, List.length_singleton, List.tail_cons, Int.reduceLE, Int.reduceLT, decide_eq_true_eq, ring_f0, ring_f1]
            exact this
        · simp only [hfi, h2, strs_len, strs_elem, ints_len, ints_elem, items_list, fld_agg, elem_list, toStr_sc, toInt_sc, toBool_sc, headD_one, nat_int, get_bt, decide_eq_true_eq, decide_eq_false_iff_not, decide_true, decide_false, if_true, if_false, ite_self, Bool.not_true, Bool.not_false, Bool.false_eq_true, Bool.true_eq_false, Bool.true_and, Bool.false_and, Bool.and_true, Bool.and_false, not_true, not_false_iff, Option.bind_some, nn, toList_inj, Bool.not_eq_true', Bool.not_eq_false', Int.le_refl, and_self, true_and, and_true, false_and, and_false, bne_self_eq_false, beq_self_eq_true, Int.reduceEq, Nat.reduceEqDiff, List.length_singleton, List.tail_cons, Int.reduceLE, Int.reduceLT, decide_eq_true_eq, ring_none, finG, getR]
          exact Ev2.now _
    · have l4 : (((cutB 32 l).length : Int) = 4) = False := false_of (by omega)
      rw [stepW_ne _ _ _ _ _ h4]
      simp only [headD_one, strs_len, l4, strs_len, strs_elem, ints_len, ints_elem, items_list, fld_agg, elem_list, toStr_sc, toInt_sc, toBool_sc, headD_one, nat_int, get_bt, decide_eq_true_eq, decide_eq_false_iff_not, decide_true, decide_false, if_true, if_false, ite_self, Bool.not_true, Bool.not_false, Bool.false_eq_true, Bool.true_eq_false, Bool.true_and, Bool.false_and, Bool.and_true, Bool.and_false, not_true, not_false_iff, Option.bind_some, nn, toList_inj, Bool.not_eq_true', Bool.not_eq_false', Int.le_refl, and_self, true_and, and_true, false_and, and_false, bne_self_eq_false, beq_self_eq_true, Int.reduceEq, Nat.reduceEqDiff, List.length_singleton, List.tail_cons, Int.reduceLE, Int.reduceLT, decide_eq_true_eq, ring_none, finG, getR]
      exact Ev2.now _
theorem specGet_ev (key text : ByteArray) (hk : key.size ≤ 1048576) (ht : text.size ≤ 1048576) : Ev (fun N => spec_RingGet.f N [strP key, strP text]) (getR (getG numB fineB key text)) := by
  have hnew := specNewG_val key (by omega)
  have hlines := specCut_ev 10 text (by omega)
  have e10 : (PV.sc (.int .u8 ((10 : UInt8).toNat : Int))) = PV.sc (.int .u8 10) := rfl
  rw [e10] at hlines
  simp only [strP] at hnew hlines
  simp only [strP, spec_RingGet.f_eq, toStr_sc, hnew, Option.bind_some]
  refine Ev.bind hlines ?_
  have hlen := cutB_len 10 text
  have hsz := cutB_sizes 10 text
  have hd := List.dropLast_concat_getLast (cutB_ne 10 text)
  unfold getG
  cases h : keyM key with
  | false =>
    have h0 : 0 < (cutB 10 text).length := List.length_pos_iff.2 (cutB_ne 10 text)
    have w1 : IntKind.i64.wrap ((0 : Int) + 1) = 1 := by decide
    simp only [strs_len, strs_elem, ints_len, ints_elem, items_list, fld_agg, elem_list, toStr_sc, toInt_sc, toBool_sc, headD_one, nat_int, get_bt, decide_eq_true_eq, decide_eq_false_iff_not, decide_true, decide_false, if_true, if_false, ite_self, Bool.not_true, Bool.not_false, Bool.false_eq_true, Bool.true_eq_false, Bool.true_and, Bool.false_and, Bool.and_true, Bool.and_false, not_true, not_false_iff, Option.bind_some, nn, toList_inj, Bool.not_eq_true', Bool.not_eq_false', Int.le_refl, and_self, true_and, and_true, false_and, and_false, bne_self_eq_false, beq_self_eq_true, Int.reduceEq, Nat.reduceEqDiff, List.length_singleton, List.tail_cons, Int.reduceLE, Int.reduceLT, decide_eq_true_eq, ring_none, getR, ring_f0, ring_f1]
    refine Ev2.diag (g := fun N n => spec_RingGet.l0 N n text false 0 (strsP (cutB 10 text)) (strsP []) (intsP [])) (Ev2.succ ?_)
    simp only [spec_RingGet.l0_eq, strs_len, strs_elem, ints_len, ints_elem, items_list, fld_agg, elem_list, toStr_sc, toInt_sc, toBool_sc, headD_one, nat_int, get_bt, decide_eq_true_eq, decide_eq_false_iff_not, decide_true, decide_false, if_true, if_false, ite_self, Bool.not_true, Bool.not_false, Bool.false_eq_true, Bool.true_eq_false, Bool.true_and, Bool.false_and, Bool.and_true, Bool.and_false, not_true, not_false_iff, Option.bind_some, nn, toList_inj, Bool.not_eq_true', Bool.not_eq_false', Int.le_refl, and_self, true_and, and_true, false_and, and_false, bne_self_eq_false, beq_self_eq_true, Int.reduceEq, Nat.reduceEqDiff, List.length_singleton, List.tail_cons, Int.reduceLE, Int.reduceLT, decide_eq_true_eq, ring_none]
    exact Ev2.now _
  | true =>
    have := specGet_loop ht (D := (cutB 10 text).dropLast) (z := (cutB 10 text).getLast (cutB_ne 10 text)) (by rw [List.length_dropLast]; omega) (fun l hl => by have := hsz l (List.dropLast_subset _ hl); omega) (cutB 10 text).dropLast [] [key] [1] rfl (ring_first h)
    rw [hd] at this
    simp only [strs_len, strs_elem, ints_len, ints_elem, items_list, fld_agg, elem_list, toStr_sc, toInt_sc, toBool_sc, headD_one, nat_int, get_bt, decide_eq_true_eq, decide_eq_false_iff_not, decide_true, decide_false, if_true, if_false, ite_self, Bool.not_true, Bool.not_false, Bool.false_eq_true, Bool.true_eq_false, Bool.true_and, Bool.false_and, Bool.and_true, Bool.and_false, not_true, not_false_iff, Option.bind_some, nn, toList_inj, Bool.not_eq_true', Bool.not_eq_false', Int.le_refl, and_self, true_and, and_true, false_and, and_false, bne_self_eq_false, beq_self_eq_true, Int.reduceEq, Nat.reduceEqDiff, List.length_singleton, List.tail_cons, Int.reduceLE, Int.reduceLT, decide_eq_true_eq, ring_f0, ring_f1]
    exact this.diag
/-! #### both readers give back what was put -/
structure GoodN (num : ByteArray → Int) (fine : ByteArray → Bool) : Prop where
  dec : ∀ u : Nat, 1 ≤ u → u ≤ 999999 → num (decB u) = (u : Int)
  hex : ∀ k, fine (hexB k) = true
theorem goodI : GoodN atoiVal (fun _ => true) := ⟨fun _ h0 h1 => atoi_dec h0 h1, fun _ => rfl⟩
theorem goodS : GoodN numB fineB := ⟨fun _ h0 h1 => numB_dec h0 h1, fineB_hex⟩
theorem keysM_pre : ∀ {a b pre : List ByteArray}, keysM pre (a ++ b) = true → keysM pre a = true
  | [], _, _, _ => rfl
  | c :: a, b, pre, h => by
    simp only [List.cons_append, keysM, Bool.and_eq_true] at h ⊢
    exact ⟨h.1, keysM_pre h.2⟩
theorem ascF_pre : ∀ {a b : List Int} {q : Option Int}, ascF q (a ++ b) = true → ascF q a = true
  | [], _, none, _ => rfl
  | [], _, some _, _ => rfl
  | c :: a, b, none, h => by
    simp only [List.cons_append, ascF] at h ⊢
    exact ascF_pre h
  | c :: a, b, some q, h => by
    simp only [List.cons_append, ascF, Bool.and_eq_true] at h ⊢
    exact ⟨h.1, ascF_pre h.2⟩
theorem ringM_pre {a b : List ByteArray} {x y : List Int} (h : ringM (a ++ b) (x ++ y) = true) (hl : x.length = a.length) (h1 : 1 ≤ a.length) : ringM a x = true := by
  simp only [ringM, tailM, Bool.and_eq_true, decide_eq_true_eq, List.length_append] at h ⊢
  obtain ⟨q1, q2, ⟨q3, q4⟩, q5, q6⟩ := h
  refine ⟨keysM_pre q1, ascF_pre q2, ⟨h1, by omega⟩, hl, ?_⟩
  cases x with
  | nil => simp at hl; omega
  | cons c x => exact q6
/-! What stands in a line. -/
def clean (b : UInt8) (l : List UInt8) : Prop := ∀ c ∈ l, c ≠ b
theorem clean_app {b : UInt8} {l m : List UInt8} (h1 : clean b l) (h2 : clean b m) : clean b (l ++ m) := fun c hc => (List.mem_append.1 hc).elim (h1 c) (h2 c)
theorem dec_clean {u : Nat} (h : u ≤ 999999) {b : UInt8} (hb : b = 32 ∨ b = 10) : clean b (dB (decB u)) := by
  obtain ⟨_, i2, _⟩ := dec_facts 6 u (by omega) (by omega)
  intro c hc e
  have := List.all_eq_true.1 i2 c hc
  simp only [decide_eq_true_eq] at this
  subst e
  rcases hb with rfl | rfl <;> (revert this; decide)
theorem figs_clean {s : ByteArray} (h : figs (bytesOf s) = true) {b : UInt8} (hb : b = 32 ∨ b = 10) : clean b (dB s) := by
  intro c hc e
  have hm : (c.toNat : Int) ∈ bytesOf s := by rw [bytesOf_dB]; exact List.mem_map.2 ⟨c, hc, rfl⟩
  have := List.all_eq_true.1 h _ hm
  subst e
  rcases hb with rfl | rfl <;> (revert this; decide)
theorem hex_clean (k : ByteArray) {b : UInt8} (hb : b = 32 ∨ b = 10) : clean b (dB (hexB k)) := by
  refine figs_clean ?_ hb
  rw [hex_bytesM]; exact (unhex_hex _ (fun c hc => bytesOf_in hc)).2
theorem seal_clean (k t : ByteArray) {b : UInt8} (hb : b = 32 ∨ b = 10) : clean b (dB (sealM k t)) := by
  unfold sealM
  split
  · exact hex_clean _ hb
  · intro c hc; cases hc
def bodyB (p k : ByteArray) (f : Nat) : ByteArray := (textM k f ++ ByteArray.mk #[32]) ++ sealM p (textM k f)
theorem body_bytes (p k : ByteArray) (f : Nat) : dB (bodyB p k f) = [116, 117, 114, 110] ++ 32 :: (dB (decB f) ++ 32 :: (dB (hexB k) ++ 32 :: dB (sealM p (textM k f)))) := by
  have e5 : dB (ByteArray.mk #[116, 117, 114, 110, 32]) = [116, 117, 114, 110, 32] := rfl
  have e1 : dB (ByteArray.mk #[32]) = [32] := rfl
  rw [bodyB, textM]
  simp only [dB_app, e5, e1, List.append_assoc, List.cons_append, List.nil_append]
theorem body_cut (p k : ByteArray) {f : Nat} (hf : f ≤ 999999) : cutB 32 (bodyB p k f) = [ByteArray.mk #[116, 117, 114, 110], decB f, hexB k, sealM p (textM k f)] := by
  have h0 : clean 32 [116, 117, 114, 110] := by unfold clean; decide
  rw [cutB, body_bytes, cutA_at _ _ _ h0, cutA_at _ _ _ (dec_clean hf (.inl rfl)), cutA_at _ _ _ (hex_clean k (.inl rfl)), cutA_no _ _ (seal_clean p _ (.inl rfl))]
  simp only [List.nil_append, List.map_cons, List.map_nil, mkB_dB]
  rfl
theorem body_clean (p k : ByteArray) {f : Nat} (hf : f ≤ 999999) : clean 10 (dB (bodyB p k f)) := by
  rw [body_bytes]
  have h0 : clean 10 [116, 117, 114, 110] := by unfold clean; decide
  have hs : clean 10 [32] := by unfold clean; decide
  exact clean_app h0 (clean_app hs (clean_app (dec_clean hf (.inr rfl)) (clean_app hs (clean_app (hex_clean k (.inr rfl)) (clean_app hs (seal_clean p _ (.inr rfl)))))))
/-! The lines of what is put. -/
def bodies : ByteArray → List ByteArray → List Int → List ByteArray
  | p, k :: ks, f :: fs => bodyB p k f.toNat :: bodies k ks fs
  | _, _, _ => []
def glue : List ByteArray → List UInt8
  | [] => []
  | l :: r => dB l ++ 10 :: glue r
theorem putL_bytes : ∀ (ks : List ByteArray) (acc p : ByteArray) (fs : List Int), dB (putL acc p ks fs) = dB acc ++ glue (bodies p ks fs)
  | [], acc, p, fs => by simp [putL, bodies, glue]
  | k :: ks, acc, p, [] => by simp [putL, bodies, glue]
  | k :: ks, acc, p, f :: fs => by
    have e : dB (lineB p k f.toNat) = dB (bodyB p k f.toNat) ++ [10] := by
      show dB (bodyB p k f.toNat ++ ByteArray.mk #[10]) = _
      rw [dB_app]; rfl
    rw [putL, putL_bytes ks, dB_app, e, bodies, glue]
    simp
theorem cut_glue : ∀ (ls : List ByteArray), (∀ l ∈ ls, clean 10 (dB l)) → cutA 10 [] (glue ls) = ls.map dB ++ [[]]
  | [], _ => rfl
  | l :: r, h => by
    rw [glue, cutA_at _ _ _ (h l (by simp)), cut_glue r (fun x hx => h x (by simp [hx]))]
    simp
theorem bodies_clean : ∀ {ks : List ByteArray} {fs : List Int} (p : ByteArray), (∀ f ∈ fs, f ≤ 999999) → ∀ l ∈ bodies p ks fs, clean 10 (dB l)
  | [], fs, p, _, l, hl => by simp [bodies] at hl
  | k :: ks, [], p, _, l, hl => by simp [bodies] at hl
  | k :: ks, f :: fs, p, hf, l, hl => by
    rw [bodies] at hl
    rcases List.mem_cons.1 hl with rfl | hl
    · exact body_clean p k (by have := hf f (by simp); omega)
    · exact bodies_clean k (fun x hx => hf x (by simp [hx])) l hl
theorem lines_put {k : ByteArray} {ks : List ByteArray} {f : Int} {fs : List Int} (h : ringM (k :: ks) (f :: fs) = true) : (cutB 10 (ringPutM (k :: ks) (f :: fs))).dropLast = bodies k ks fs := by
  obtain ⟨_, _, _, _, hf⟩ := ring_facts h
  rw [ringPutM, if_pos h, cutB, putL_bytes]
  have e0 : dB (⟨#[]⟩ : ByteArray) = [] := rfl
  rw [e0, List.nil_append]
  show ((cutA 10 [] (glue (bodies k ks fs))).map mkB).dropLast = _
  rw [cut_glue _ (bodies_clean k (fun x hx => (hf x (by simp [hx])).2))]
  simp only [List.map_append, List.map_map, List.map_cons, List.map_nil, List.dropLast_concat]
  exact List.map_id' _
theorem read_put {num : ByteArray → Int} {fine : ByteArray → Bool} (g : GoodN num fine) : ∀ (ks : List ByteArray) (fs : List Int) (ps : List ByteArray) (p : ByteArray) (qs : List Int), ringM ((ps ++ [p]) ++ ks) (qs ++ fs) = true → qs.length = (ps ++ [p]).length →
    readG num fine (bodies p ks fs) (ps ++ [p]) qs = some ((ps ++ [p]) ++ ks, qs ++ fs)
  | [], fs, ps, p, qs, h, hl => by
    obtain ⟨_, _, n3, _⟩ := ring_facts h
    have : fs = [] := by
      cases fs with
      | nil => rfl
      | cons f fs => simp at n3 hl; omega
    subst this
    simp [bodies, readG]
  | k :: ks, [], ps, p, qs, h, hl => by
    obtain ⟨_, _, n3, _⟩ := ring_facts h
    simp at n3 hl; omega
  | k :: ks, f :: fs, ps, p, qs, h, hl => by
    obtain ⟨_, _, _, _, hf⟩ := ring_facts h
    have hf1 := hf f (by simp)
    obtain ⟨u, rfl⟩ : ∃ u : Nat, f = (u : Int) := ⟨f.toNat, by omega⟩
    have hA : ringM (ps ++ [p]) qs = true := ringM_pre h hl (by simp)
    have h' : ringM ((ps ++ [p] ++ [k]) ++ ks) ((qs ++ [(u : Int)]) ++ fs) = true := by simpa using h
    have hB : ringM (ps ++ [p] ++ [k]) (qs ++ [(u : Int)]) = true := ringM_pre h' (by simp at hl ⊢; omega) (by simp)
    have hlast : (ps ++ [p]).getD ((ps ++ [p]).length - 1) ByteArray.empty = p := by simp
    have hok : okTake (ps ++ [p]) qs k (u : Int) (sealM p (textM k u)) = true := by
      rw [okTake, okT, hA, hB, turnS, hlast]
      simp
    have hst : stepG num fine (ps ++ [p]) qs (bodyB p k u) = some (ps ++ [p] ++ [k], qs ++ [(u : Int)]) := by
      rw [stepG, body_cut p k (by omega), stepW, unhB_hex, g.dec u (by omega) (by omega), if_pos ⟨g.hex k, hok⟩]
    rw [bodies, readG]
    have eu : ((u : Int)).toNat = u := rfl
    rw [eu, hst]
    have ih := read_put g ks fs (ps ++ [p]) k (qs ++ [(u : Int)]) h' (by simp at hl ⊢; omega)
    show readG num fine (bodies k ks fs) (ps ++ [p] ++ [k]) (qs ++ [(u : Int)]) = _
    rw [ih]
    simp
theorem readG_inv {num : ByteArray → Int} {fine : ByteArray → Bool} : ∀ (ls ks : List ByteArray) (fs : List Int) (x : List ByteArray × List Int), ringM ks fs = true → readG num fine ls ks fs = some x → ringM x.1 x.2 = true ∧ x.1.headD ByteArray.empty = ks.headD ByteArray.empty
  | [], ks, fs, x, hr, h => by
    rw [readG] at h; injection h with h; subst h; exact ⟨hr, rfl⟩
  | l :: r, ks, fs, x, hr, h => by
    rw [readG] at h
    cases hs : stepG num fine ks fs l with
    | none => rw [hs] at h; cases h
    | some y =>
      rw [hs] at h
      obtain ⟨h1, k, f, rfl⟩ := stepW_ring hs
      obtain ⟨i1, i2⟩ := readG_inv r _ _ x h1 h
      refine ⟨i1, i2.trans ?_⟩
      obtain ⟨n1, _⟩ := ring_facts hr
      cases ks with
      | nil => simp at n1
      | cons a ks => rfl
theorem ringM_keyM {k : ByteArray} {ks : List ByteArray} {fs : List Int} (h : ringM (k :: ks) fs = true) : keyM k = true := by
  simp only [ringM, keysM, Bool.and_eq_true] at h
  exact h.1.1.1
theorem getG_iff {num : ByteArray → Int} {fine : ByteArray → Bool} (g : GoodN num fine) (key text : ByteArray) (x : List ByteArray × List Int) : getG num fine key text = some x ↔ ringM x.1 x.2 = true ∧ x.1.headD ByteArray.empty = key ∧ ringPutM x.1 x.2 = text := by
  constructor
  · intro h
    unfold getG at h
    split at h
    · rename_i hk
      cases hr : readG num fine (cutB 10 text).dropLast [key] [1] with
      | none => rw [hr] at h; cases h
      | some y =>
        rw [hr, finG] at h
        split at h
        · rename_i he
          injection h with h; subst h
          obtain ⟨i1, i2⟩ := readG_inv _ _ _ _ (ring_first hk) hr
          exact ⟨i1, i2, he⟩
        · cases h
    · cases h
  · rintro ⟨h1, h2, h3⟩
    obtain ⟨ks, fs⟩ := x
    obtain ⟨n1, n2, n3, n4, n5⟩ := ring_facts h1
    cases ks with
    | nil => simp at n1
    | cons k ks =>
      cases fs with
      | nil => simp at n3
      | cons f fs =>
        have e : k = key := h2
        subst e
        have hk : keyM k = true := ringM_keyM h1
        have hf : f = 1 := by
          simp only [ringM, tailM, Bool.and_eq_true, decide_eq_true_eq] at h1
          exact h1.2.2.2.2
        subst hf
        have hr := read_put g ks fs [] k [1] h1 rfl
        unfold getG
        rw [if_pos hk, ← h3, lines_put h1]
        simp only [List.nil_append] at hr
        rw [hr]
        exact if_pos rfl
theorem getG_same (key text : ByteArray) : getG atoiVal (fun _ => true) key text = getG numB fineB key text := by
  apply Option.ext
  intro x
  rw [getG_iff goodI, getG_iff goodS]
/-! #### seals reckoned by the kernel -/
def padF (b : List Int) : List Int := b ++ [128] ++ List.replicate (padN b.length) 0 ++ lenB b.length
def shaF (b : List Int) : List Int := outW (blks ((padF b).length / 64) shaH (padF b))
def hmacF (k t : List Int) : List Int := shaF (xorL 92 (k ++ List.replicate (64 - k.length) 0) ++ shaF (xorL 54 (k ++ List.replicate (64 - k.length) 0) ++ t))
theorem byte_back {l : List Int} (h : ∀ x ∈ l, 0 ≤ x ∧ x < 256) : bytesOf (bytesOfL (u8L l)) = l := by
  simp only [bytesOf, bytesOfL, u8L, List.map_map]
  conv => rhs; rw [← List.map_id l]
  apply List.map_congr_left
  intro x hx
  have := h x hx
  simp only [Function.comp_def, PV.toInt, id]
  have e : UInt8.toNat (UInt8.ofNat x.toNat) = x.toNat := by simp; omega
  rw [e]; omega
theorem u8W_in (n : Int) : 0 ≤ u8W n ∧ u8W n < 256 := by
  have : u8W n = n % 256 := by simp [u8W, IntKind.wrap, IntKind.signed, IntKind.bits]
  omega
theorem outW_in : ∀ (l : List Int), ∀ x ∈ outW l, 0 ≤ x ∧ x < 256
  | [], x, hx => by simp [outW] at hx
  | y :: r, x, hx => by
    simp only [outW, List.mem_cons] at hx
    rcases hx with rfl | rfl | rfl | rfl | hx
    · exact u8W_in _
    · exact u8W_in _
    · exact u8W_in _
    · exact u8W_in _
    · exact outW_in r x hx
theorem sha_bytes (s : ByteArray) : bytesOf (shaB s) = shaF (bytesOf s) := by
  rw [shaB, byte_back (outW_in _)]
  simp only [shaF, padL, padF, bytesOf_len]
theorem bXor8_in (a b : Int) : 0 ≤ bXor .u8 a b ∧ bXor .u8 a b < 256 := by
  have : ∀ n : Int, 0 ≤ IntKind.u8.wrap n ∧ IntKind.u8.wrap n < 256 := fun n => u8W_in n
  exact this _
theorem xorL_in (w : Int) (l : List Int) : ∀ x ∈ xorL w l, 0 ≤ x ∧ x < 256 := by
  intro x hx
  simp only [xorL, List.mem_map] at hx
  obtain ⟨y, _, rfl⟩ := hx
  exact bXor8_in _ _
theorem app_bytes (a b : ByteArray) : bytesOf (a ++ b) = bytesOf a ++ bytesOf b := by simp [bytesOf]
theorem xor_bytes (w : Int) (k : ByteArray) : bytesOf (xorB w k) = xorL w (bytesOf k ++ List.replicate (64 - (bytesOf k).length) 0) := by
  rw [xorB, byte_back (xorL_in _ _), padK, bytesOf_len]
theorem hmac_bytes (k t : ByteArray) : bytesOf (hmacB k t) = hmacF (bytesOf k) (bytesOf t) := by
  rw [hmacB, sha_bytes, app_bytes, xor_bytes, sha_bytes, app_bytes, xor_bytes, hmacF]
theorem bt_in (s : ByteArray) (i : Nat) : 0 ≤ bt s i ∧ bt s i < 256 := by
  have := (s.get! i).toNat_lt
  unfold bt
  omega
theorem hexL_in : ∀ (l : List Int), ∀ x ∈ hexL l, 0 ≤ x ∧ x < 256
  | [], x, hx => by simp [hexL] at hx
  | y :: r, x, hx => by
    simp only [hexL, d2, List.cons_append, List.nil_append, List.mem_cons] at hx
    rcases hx with rfl | rfl | hx
    · exact bt_in _ _
    · exact bt_in _ _
    · exact hexL_in r x hx
theorem hex_bytes (s : ByteArray) : bytesOf (hexB s) = hexL (bytesOf s) := by rw [hexB, byte_back (hexL_in _)]
theorem seal_bytes {k : ByteArray} (h : keyM k = true) (t : ByteArray) : bytesOf (sealM k t) = hexL (hmacF (bytesOf k) (bytesOf t)) := by
  rw [sealM, if_pos h, hex_bytes, hmac_bytes]
def decF : Nat → Nat → List Int
  | 0, _ => []
  | n + 1, u => if u < 10 then [((48 + u : Nat) : Int)] else decF n (u / 10) ++ [((48 + u % 10 : Nat) : Int)]
theorem dec_bytes : ∀ (n u : Nat), u < 10 ^ n → 0 < n → bytesOf (decB u) = decF n u
  | 0, u, _, h => by omega
  | n + 1, u, h, _ => by
    rw [decF]
    by_cases h10 : u < 10
    · rw [if_pos h10, decB, Lib.decDigits, dif_pos h10]
      simp only [bytesOf, List.map_cons, List.map_nil]
      congr 1
      simp; omega
    · rw [if_neg h10]
      have hn : 0 < n := by
        cases n with
        | zero => simp at h; omega
        | succ n => omega
      rw [← dec_bytes n (u / 10) (by rw [Nat.pow_succ] at h; omega) hn, decB, Lib.decDigits, dif_neg h10, decB]
      simp only [bytesOf, List.map_append, List.map_cons, List.map_nil]
      congr 2
      simp; omega
def textF (k : List Int) (f : Nat) : List Int := ([116, 117, 114, 110, 32] ++ decF 7 f ++ [32]) ++ hexL k
theorem text_bytes (k : ByteArray) {f : Nat} (hf : f < 1000000) : bytesOf (textM k f) = textF (bytesOf k) f := by
  rw [textM, app_bytes, app_bytes, app_bytes, hex_bytes, dec_bytes 7 f (by simp; omega) (by omega)]
  rfl
/-- Seals of two keys over a turn's text differ. -/
def differ (a b k : List Int) (f : Nat) : Bool := !decide (hexL (hmacF a (textF k f)) = hexL (hmacF b (textF k f)))
theorem seals_differ {a b k : ByteArray} {f : Nat} (ha : keyM a = true) (hb : keyM b = true) (hf : f < 1000000) (h : differ (bytesOf a) (bytesOf b) (bytesOf k) f = true) : sealM a (textM k f) ≠ sealM b (textM k f) := by
  intro he
  have := congrArg bytesOf he
  rw [seal_bytes ha, seal_bytes hb, text_bytes k hf] at this
  simp only [differ, Bool.not_eq_true', decide_eq_false_iff_not] at h
  exact h this
/-! #### the same digest, reckoned faster -/
def wAt (b : List Int) (j : Nat) : Int := wNx b (wL b j) j
theorem wL_get (b : List Int) : ∀ (k j : Nat), j < k → (wL b k).getD j 0 = wAt b j
  | 0, j, h => by omega
  | k + 1, j, h => by
    rw [wL]
    by_cases hj : j < k
    · rw [getD_app1 (by rw [wL_len]; exact hj)]; exact wL_get b k j hj
    · have : j = k := by omega
      subst this
      rw [List.getD_eq_getElem?_getD, List.getElem?_append_right (by rw [wL_len]; exact Nat.le_refl _), wL_len]
      simp [wAt]
theorem wAt_next (b : List Int) (i : Nat) : wAt b (i + 16) = W32 (wAt b i + wAt b (i + 9) + sg0 (wAt b (i + 1)) + sg1 (wAt b (i + 14))) := by
  conv => lhs; rw [wAt]
  unfold wNx
  rw [if_neg (by omega), wL_get b _ _ (by omega), wL_get b _ _ (by omega), wL_get b _ _ (by omega), wL_get b _ _ (by omega)]
  congr 3
def goQ : List Int → List Int → List Int → List Int
  | [], _, v => v
  | k :: ks, [w0, w1, w2, w3, w4, w5, w6, w7, w8, w9, w10, w11, w12, w13, w14, w15], v => goQ ks [w1, w2, w3, w4, w5, w6, w7, w8, w9, w10, w11, w12, w13, w14, w15, W32 (w0 + w9 + sg0 w1 + sg1 w14)] (rnd k w0 v)
  | _, _, v => v
def winQ (b : List Int) (i : Nat) : List Int := [wAt b i, wAt b (i + 1), wAt b (i + 2), wAt b (i + 3), wAt b (i + 4), wAt b (i + 5), wAt b (i + 6), wAt b (i + 7), wAt b (i + 8), wAt b (i + 9), wAt b (i + 10), wAt b (i + 11), wAt b (i + 12), wAt b (i + 13), wAt b (i + 14), wAt b (i + 15)]
theorem goQ_eq (b h : List Int) : ∀ (ks : List Int) (i : Nat), ks = shaK.drop i → i + ks.length = 64 → goQ ks (winQ b i) (rnds shaK (wL b 64) i h) = rnds shaK (wL b 64) 64 h
  | [], i, hk, hl => by
    have : i = 64 := by simpa using hl
    subst this
    rfl
  | k :: ks, i, hk, hl => by
    simp only [List.length_cons] at hl
    have h1 : shaK.getD i 0 = k := by
      rw [List.getD_eq_getElem?_getD]
      have := congrArg (fun l => l[0]?) hk
      simp only [List.getElem?_cons_zero, List.getElem?_drop, Nat.add_zero] at this
      rw [← this]; rfl
    have h2 : ks = shaK.drop (i + 1) := by
      have := congrArg List.tail hk
      simpa [List.tail_drop] using this
    have ih := goQ_eq b h ks (i + 1) h2 (by omega)
    rw [← ih]
    unfold winQ
    rw [goQ, ← wAt_next]
    have h3 : rnds shaK (wL b 64) (i + 1) h = rnd k (wAt b i) (rnds shaK (wL b 64) i h) := by
      rw [rnds, h1, wL_get b _ _ (by omega)]
    rw [h3]
theorem wAt_low (b : List Int) {i : Nat} (h : i < 16) : wAt b i = beW b i := by unfold wAt wNx; rw [if_pos h]
/-- The words of a block, read once. -/
def wordQ (a b c d : Int) : Int := bOr .u32 (bOr .u32 (bOr .u32 (shlI .u32 (W32 a) 24) (shlI .u32 (W32 b) 16)) (shlI .u32 (W32 c) 8)) (W32 d)
def wordsQ : Nat → List Int → List Int
  | 0, _ => []
  | n + 1, a :: b :: c :: d :: r => wordQ a b c d :: wordsQ n r
  | _, _ => []
theorem wordsQ_get : ∀ (n : Nat) (b : List Int) (i : Nat), i < n → 4 * n ≤ b.length → (wordsQ n b).getD i 0 = beW b i
  | 0, b, i, h, _ => by omega
  | n + 1, [], i, h, hl => by simp at hl
  | n + 1, [_], i, h, hl => by simp at hl; omega
  | n + 1, [_, _], i, h, hl => by simp at hl; omega
  | n + 1, [_, _, _], i, h, hl => by simp at hl; omega
  | n + 1, a :: b :: c :: d :: r, 0, h, hl => rfl
  | n + 1, a :: b :: c :: d :: r, i + 1, h, hl => by
    have := wordsQ_get n r i (by omega) (by simp at hl; omega)
    show (wordsQ n r).getD i 0 = _
    rw [this]
    unfold beW
    have e : ∀ j, (a :: b :: c :: d :: r).getD (4 * (i + 1) + j) 0 = r.getD (4 * i + j) 0 := fun j => by
      rw [show 4 * (i + 1) + j = (4 * i + j) + 4 by omega]
      rfl
    rw [e 1, e 2, e 3]
    have e0 := e 0
    simp only [Nat.add_zero] at e0
    rw [e0]
theorem wordsQ_len : ∀ (n : Nat) (b : List Int), 4 * n ≤ b.length → (wordsQ n b).length = n
  | 0, b, _ => rfl
  | n + 1, [], hl => by simp at hl
  | n + 1, [_], hl => by simp at hl; omega
  | n + 1, [_, _], hl => by simp at hl; omega
  | n + 1, [_, _, _], hl => by simp at hl; omega
  | n + 1, a :: b :: c :: d :: r, hl => by simp [wordsQ, wordsQ_len n r (by simp at hl; omega)]
theorem list16 {v : List Int} (h : v.length = 16) : v = [v.getD 0 0, v.getD 1 0, v.getD 2 0, v.getD 3 0, v.getD 4 0, v.getD 5 0, v.getD 6 0, v.getD 7 0, v.getD 8 0, v.getD 9 0, v.getD 10 0, v.getD 11 0, v.getD 12 0, v.getD 13 0, v.getD 14 0, v.getD 15 0] := by
  match v, h with
  | [a, b, c, d, e, f, g, i, j, k, l, m, n, o, p, q], _ => rfl
theorem winQ_words (b : List Int) (hb : 64 ≤ b.length) : winQ b 0 = wordsQ 16 b := by
  rw [list16 (wordsQ_len 16 b (by omega))]
  unfold winQ
  rw [wordsQ_get 16 b 0 (by omega) (by omega), wordsQ_get 16 b 1 (by omega) (by omega), wordsQ_get 16 b 2 (by omega) (by omega), wordsQ_get 16 b 3 (by omega) (by omega), wordsQ_get 16 b 4 (by omega) (by omega), wordsQ_get 16 b 5 (by omega) (by omega), wordsQ_get 16 b 6 (by omega) (by omega), wordsQ_get 16 b 7 (by omega) (by omega), wordsQ_get 16 b 8 (by omega) (by omega), wordsQ_get 16 b 9 (by omega) (by omega), wordsQ_get 16 b 10 (by omega) (by omega), wordsQ_get 16 b 11 (by omega) (by omega), wordsQ_get 16 b 12 (by omega) (by omega), wordsQ_get 16 b 13 (by omega) (by omega), wordsQ_get 16 b 14 (by omega) (by omega), wordsQ_get 16 b 15 (by omega) (by omega)]
  rw [wAt_low b (by omega), wAt_low b (by omega), wAt_low b (by omega), wAt_low b (by omega), wAt_low b (by omega), wAt_low b (by omega), wAt_low b (by omega), wAt_low b (by omega), wAt_low b (by omega), wAt_low b (by omega), wAt_low b (by omega), wAt_low b (by omega), wAt_low b (by omega), wAt_low b (by omega), wAt_low b (by omega), wAt_low b (by omega)]
def blkQ (h b : List Int) : List Int := addV h (goQ shaK (wordsQ 16 b) h)
theorem blkQ_eq (h b : List Int) (hb : 64 ≤ b.length) : blkQ h b = blkW h b := by
  unfold blkQ blkW
  rw [← winQ_words b hb]
  have := goQ_eq b h shaK 0 rfl rfl
  rw [rnds] at this
  rw [this]
def blksQ : Nat → List Int → List Int → List Int
  | 0, h, _ => h
  | m + 1, h, b => blksQ m (blkQ h b) (b.drop 64)
theorem blksQ_eq : ∀ (m : Nat) (h b : List Int), 64 * m ≤ b.length → blksQ m h b = blks m h b
  | 0, h, b, _ => rfl
  | m + 1, h, b, hl => by
    rw [blksQ, blks, blkQ_eq h b (by omega), blksQ_eq m _ _ (by simp; omega)]
def shaQ (b : List Int) : List Int := outW (blksQ ((padF b).length / 64) shaH (padF b))
theorem shaQ_eq (b : List Int) : shaQ b = shaF b := by
  unfold shaQ shaF
  rw [blksQ_eq _ _ _ (by omega)]
def hmacQ (k t : List Int) : List Int := shaQ (xorL 92 (k ++ List.replicate (64 - k.length) 0) ++ shaQ (xorL 54 (k ++ List.replicate (64 - k.length) 0) ++ t))
theorem hmacQ_eq (k t : List Int) : hmacQ k t = hmacF k t := by simp only [hmacQ, hmacF, shaQ_eq]
def differQ (a b k : List Int) (f : Nat) : Bool := !decide (hexL (hmacQ a (textF k f)) = hexL (hmacQ b (textF k f)))
theorem differQ_eq (a b k : List Int) (f : Nat) : differQ a b k f = differ a b k f := by simp only [differQ, differ, hmacQ_eq]
/-! The first block apart: it is the key's alone. -/
theorem wordsQ_app : ∀ (n : Nat) (p r : List Int), 4 * n ≤ p.length → wordsQ n (p ++ r) = wordsQ n p
  | 0, p, r, _ => rfl
  | n + 1, [], r, hl => by simp at hl
  | n + 1, [_], r, hl => by simp at hl; omega
  | n + 1, [_, _], r, hl => by simp at hl; omega
  | n + 1, [_, _, _], r, hl => by simp at hl; omega
  | n + 1, a :: b :: c :: d :: q, r, hl => by
    have := wordsQ_app n q r (by simp at hl; omega)
    simp only [List.cons_append, wordsQ, this]
def restQ (t : List Int) : List Int := t ++ [128] ++ List.replicate (padN (64 + t.length)) 0 ++ lenB (64 + t.length)
def outR (h t : List Int) : List Int := outW (blksQ ((restQ t).length / 64) h (restQ t))
theorem outR_eq (p t : List Int) (hp : p.length = 64) : shaQ (p ++ t) = outR (blkQ shaH p) t := by
  have e : padF (p ++ t) = p ++ restQ t := by simp [padF, restQ, hp, List.append_assoc]
  have l : (p ++ restQ t).length / 64 = (restQ t).length / 64 + 1 := by rw [List.length_append, hp]; omega
  unfold shaQ outR
  rw [e, l, blksQ]
  congr 2
  · unfold blkQ; rw [wordsQ_app 16 p _ (by omega)]
  · rw [List.drop_append_of_le_length (by omega), List.drop_of_length_le (by omega)]; rfl
def padQ (k : List Int) : List Int := k ++ List.replicate (64 - k.length) 0
def hmacR (k t : List Int) : List Int := outR (blkQ shaH (xorL 92 (padQ k))) (outR (blkQ shaH (xorL 54 (padQ k))) t)
theorem hmacR_eq (k t : List Int) (hk : k.length ≤ 64) : hmacR k t = hmacF k t := by
  have h : ∀ w, (xorL w (padQ k)).length = 64 := fun w => by rw [xorL_len]; simp [padQ]; omega
  rw [← hmacQ_eq, hmacR, ← outR_eq _ _ (h 54), ← outR_eq _ _ (h 92)]
  rfl
def differR (a b k : List Int) (f : Nat) : Bool := !decide (hexL (hmacR a (textF k f)) = hexL (hmacR b (textF k f)))
theorem seals_differR {a b k : ByteArray} {f : Nat} (ha : keyM a = true) (hb : keyM b = true) (hf : f < 1000000) (h : differR (bytesOf a) (bytesOf b) (bytesOf k) f = true) : sealM a (textM k f) ≠ sealM b (textM k f) := by
  refine seals_differ ha hb hf ?_
  have h1 := (keyM_le ha).2
  have h2 := (keyM_le hb).2
  rw [differR, hmacR_eq _ _ (by rw [bytesOf_len]; exact h1), hmacR_eq _ _ (by rw [bytesOf_len]; exact h2)] at h
  exact h
def sbB : ByteArray := ByteArray.mk #[115, 111, 109, 101, 98, 111, 100, 121, 32, 101, 108, 115, 101]
/-! #### rings that are drawn, with what they hold -/
def keysL : List ByteArray := [ByteArray.mk #[107, 101, 121, 50], ByteArray.mk #[111, 116, 104, 101, 114], ByteArray.mk #[107], ByteArray.mk #[0, 255], ByteArray.mk #[108, 97, 115, 116]]
theorem keys_size : ∀ j, (keysL.getD j ByteArray.empty).size ≤ 5 := by
  intro j
  match j with
  | 0 => decide
  | 1 => decide
  | 2 => decide
  | 3 => decide
  | 4 => decide
  | _ + 5 => exact (by decide : ByteArray.empty.size ≤ 5)

def key0 : ByteArray := ByteArray.mk #[107, 101, 121]
def keysK : List ByteArray := [key0, ByteArray.mk #[107, 101, 121, 50], ByteArray.mk #[111, 116, 104, 101, 114], ByteArray.mk #[107], ByteArray.mk #[0, 255], ByteArray.mk #[108, 97, 115, 116], ByteArray.mk #[113]]
/-- What a ring holds while it is drawn. -/
structure RingI (fr : Nat) (ks : List ByteArray) (fs : List Int) : Prop where
  ok : ringM ks fs = true
  kin : ∀ k ∈ ks, k ∈ keysK
  hd : ks.getD 0 ByteArray.empty = key0
  one : ks.length = 1 → ks = [key0] ∧ fs = [1] ∧ fr = 1
  two : 2 ≤ ks.length → ks.getD 1 ByteArray.empty ∈ keysL ∧ 2 ≤ fs.getD 1 0 ∧ fs.getD 1 0 ≤ 4
theorem keysL_in : ∀ k ∈ keysL, k ∈ keysK := by
  intro k hk
  simp only [keysL, List.mem_cons, List.not_mem_nil, or_false] at hk
  simp only [keysK, List.mem_cons, List.not_mem_nil, or_false]
  rcases hk with rfl | rfl | rfl | rfl | rfl <;> simp
theorem ok_two : ∀ k ∈ keysL, ∀ f : Int, 2 ≤ f → f ≤ 4 → ringM [key0, k] [1, f] = true := by
  intro k hk f h2 h4
  have k0 : keyM key0 = true := by decide
  have hkk : keyM k = true := by
    simp only [keysL, List.mem_cons, List.not_mem_nil, or_false] at hk
    rcases hk with rfl | rfl | rfl | rfl | rfl <;> decide
  have hne : ¬ k = key0 := by
    simp only [keysL, List.mem_cons, List.not_mem_nil, or_false] at hk
    intro he
    have hd := congrArg (fun s => s.data.toList) he
    rcases hk with rfl | rfl | rfl | rfl | rfl <;> simp [key0] at hd
  have h1 : (1 < f) := by omega
  have h9 : f ≤ 999999 := by omega
  simp [ringM, keysM, ascF, tailM, k0, hkk, hne, h1, h9]
theorem getD_appL {α : Type} {l m : List α} {i : Nat} {d : α} (h : i < l.length) : (l ++ m).getD i d = l.getD i d := by
  simp [List.getD_eq_getElem?_getD, List.getElem?_append_left h]
theorem getD_at {α : Type} {l : List α} {x d : α} {i : Nat} (h : l.length = i) : (l ++ [x]).getD i d = x := by
  subst h; simp
theorem RingI.next {fr : Nat} {ks : List ByteArray} {fs : List Int} (h : RingI fr ks fs) {k : ByteArray} (hk : k ∈ keysL) {j : Nat} (hj : j < 3) (hr : ringM (ks ++ [k]) (fs ++ [((fr + 1 + j : Nat) : Int)]) = true) : RingI (fr + 1 + j) (ks ++ [k]) (fs ++ [((fr + 1 + j : Nat) : Int)]) := by
  obtain ⟨n1, n2, n3⟩ := ringM_len h.ok
  refine ⟨hr, fun x hx => ?_, ?_, fun hl => ?_, fun hl => ?_⟩
  · rcases List.mem_append.1 hx with hx | hx
    · exact h.kin x hx
    · rw [List.mem_singleton.1 hx]; exact keysL_in k hk
  · rw [getD_appL (by omega)]; exact h.hd
  · simp at hl; subst hl; simp at n1
  · by_cases h1 : ks.length = 1
    · obtain ⟨_, _, hfr⟩ := h.one h1
      rw [getD_at h1, getD_at (by omega)]
      exact ⟨hk, by omega, by omega⟩
    · rw [getD_appL (by omega), getD_appL (by omega)]
      exact h.two (by omega)
theorem RingI.stay {fr : Nat} {ks : List ByteArray} {fs : List Int} (h : RingI fr ks fs) {k : ByteArray} (hk : k ∈ keysL) {j : Nat} (hj : j < 3) (hr : okT ks fs k ((fr + 1 + j : Nat) : Int) = false) : RingI (fr + 1 + j) ks fs := by
  refine ⟨h.ok, h.kin, h.hd, fun hl => ?_, h.two⟩
  exfalso
  obtain ⟨h1, h2, h3⟩ := h.one hl
  have := ok_two k hk ((fr + 1 + j : Nat) : Int) (by omega) (by omega)
  rw [okT, h.ok, Bool.true_and, h1, h2] at hr
  rw [show [key0] ++ [k] = [key0, k] from rfl, show ([1] ++ [((fr + 1 + j : Nat) : Int)] : List Int) = [1, ((fr + 1 + j : Nat) : Int)] from rfl, this] at hr
  cases hr
theorem keysL_mem {k : Nat} (h : k < 5) : keysL.getD k ByteArray.empty ∈ keysL := by
  have : k = 0 ∨ k = 1 ∨ k = 2 ∨ k = 3 ∨ k = 4 := by omega
  rcases this with rfl | rfl | rfl | rfl | rfl <;> simp [keysL]
theorem ring_loop {b : PV} (hb : Code1 b) : ∀ (c p from_ : Nat) (ks : List ByteArray) (fs : List Int), p + 2 * c < 900000000 → from_ + 3 * c ≤ 1000000 → c ≤ 100 → RingI from_ ks fs →
    ∃ (ks' : List ByteArray) (fs' : List Int) (fr' q : Nat), RingI fr' ks' fs' ∧ q ≤ p + 2 * c ∧ Ev2 (fun N n => spec_l13Ring.l0 N n (from_ : Int) (c : Int) b (p : Int) (keysL.map strP) (strsP ks) (intsP fs)) [ringP ks' fs', rdP b (q : Int)] := by
  intro c
  induction c with
  | zero =>
    intro p fr ks fs hp hf hc hr
    refine ⟨ks, fs, fr, p, hr, by omega, Ev2.succ ?_⟩
    have h0 : ¬ (0 : Int) < ((0 : Nat) : Int) := by omega
    simp only [spec_l13Ring.l0_eq, h0, ring_agg, rd_agg, strs_len, strs_elem, ints_len, ints_elem, items_list, fld_agg, elem_list, toStr_sc, toInt_sc, toBool_sc, headD_one, nat_int, get_bt, decide_eq_true_eq, decide_eq_false_iff_not, decide_true, decide_false, if_true, if_false, ite_self, Bool.not_true, Bool.not_false, Bool.false_eq_true, Bool.true_eq_false, Bool.true_and, Bool.false_and, Bool.and_true, Bool.and_false, not_true, not_false_iff, Option.bind_some, nn, toList_inj, Bool.not_eq_true', Bool.not_eq_false', Int.le_refl, and_self, true_and, and_true, false_and, and_false, bne_self_eq_false, beq_self_eq_true, Int.reduceEq, Nat.reduceEqDiff, List.length_singleton, List.tail_cons, Int.reduceLE, Int.reduceLT, decide_eq_true_eq]
    exact Ev2.now _
  | succ c ih =>
    intro p fr ks fs hp hf hc hr
    have h0 : (0 : Int) < ((c + 1 : Nat) : Int) := by omega
    obtain ⟨j, hj, hf1⟩ := pick_ev hb (p := (p : Int)) (n := 3) (by omega) (by omega)
    obtain ⟨k, hk, hf2⟩ := pick_ev hb (p := (p : Int) + 1) (n := 5) (by omega) (by omega)
    obtain ⟨j, rfl⟩ := Int.eq_ofNat_of_zero_le hj.1
    obtain ⟨k, rfl⟩ := Int.eq_ofNat_of_zero_le hk.1
    have w1 : IntKind.i64.wrap ((fr : Int) + 1) = ((fr + 1 : Nat) : Int) := nat_wrap (by omega) (by omega)
    have w2 : IntKind.i64.wrap (((fr + 1 : Nat) : Int) + (j : Int)) = ((fr + 1 + j : Nat) : Int) := nat_wrap (by omega) (by omega)
    have w3 : IntKind.i64.wrap (((c + 1 : Nat) : Int) - 1) = (c : Int) := nat_wrap (by omega) (by omega)
    have hp2 : (p : Int) + 1 + 1 = ((p + 2 : Nat) : Int) := by omega
    have hkl : ((keysL.map strP).length : Int) = 5 := rfl
    have hel : (((keysL.map strP).getD k default).toStr) = keysL.getD k ByteArray.empty := strs_elem keysL k
    have hsz := keys_size k
    have hkm := keysL_mem (k := k) (by omega)
    obtain ⟨n1, n2, n3⟩ := ringM_len hr.ok
    have hks := ringM_keys hr.ok
    have hs64 : ∀ x ∈ ks, x.size ≤ 9223372036854775807 := fun x hx => by have := hks x hx; omega
    have ht := specTurn_ev ks fs (keysL.getD k ByteArray.empty) ((fr + 1 + j : Nat) : Int) (by omega) (by omega) hs64 (by omega)
    have hfr : fr + 1 + j + 3 * c ≤ 1000000 := by omega
    unfold turnR noT at ht
    cases hok : okT ks fs (keysL.getD k ByteArray.empty) ((fr + 1 + j : Nat) : Int) with
    | true =>
      rw [hok, if_pos rfl] at ht
      have hrr : ringM (ks ++ [keysL.getD k ByteArray.empty]) (fs ++ [((fr + 1 + j : Nat) : Int)]) = true := by
        rw [okT, Bool.and_eq_true] at hok; exact hok.2
      have hbv := specTake_ev ks fs (keysL.getD k ByteArray.empty) ((fr + 1 + j : Nat) : Int) (turnS ks (keysL.getD k ByteArray.empty) ((fr + 1 + j : Nat) : Int)) (by omega) (by omega) hs64 (by omega)
      unfold takeR at hbv
      rw [if_pos hr.ok, if_pos ⟨hok, rfl⟩] at hbv
      obtain ⟨ks', fs', fr', q, h1, h2, h3⟩ := ih (p + 2) (fr + 1 + j) (ks ++ [keysL.getD k ByteArray.empty]) (fs ++ [((fr + 1 + j : Nat) : Int)]) (by omega) hfr (by omega) (hr.next hkm (by omega) hrr)
      refine ⟨ks', fs', fr', q, h1, by omega, Ev2.succ ?_⟩
      simp only [spec_l13Ring.l0_eq, h0, rd_agg, ring_agg, rd_f0, rd_f1, hkl, hf1, hf2, w1, w2, w3, hk.1, hk.2, hel, strs_len, strs_elem, ints_len, ints_elem, items_list, fld_agg, elem_list, toStr_sc, toInt_sc, toBool_sc, headD_one, nat_int, get_bt, decide_eq_true_eq, decide_eq_false_iff_not, decide_true, decide_false, if_true, if_false, ite_self, Bool.not_true, Bool.not_false, Bool.false_eq_true, Bool.true_eq_false, Bool.true_and, Bool.false_and, Bool.and_true, Bool.and_false, not_true, not_false_iff, Option.bind_some, nn, toList_inj, Bool.not_eq_true', Bool.not_eq_false', Int.le_refl, and_self, true_and, and_true, false_and, and_false, bne_self_eq_false, beq_self_eq_true, Int.reduceEq, Nat.reduceEqDiff, List.length_singleton, List.tail_cons, Int.reduceLE, Int.reduceLT, decide_eq_true_eq]
      refine Ev2.bind ht ?_
      simp only [turn_f0, turn_f1, turn_f2, turn_agg, strs_len, strs_elem, ints_len, ints_elem, items_list, fld_agg, elem_list, toStr_sc, toInt_sc, toBool_sc, headD_one, nat_int, get_bt, decide_eq_true_eq, decide_eq_false_iff_not, decide_true, decide_false, if_true, if_false, ite_self, Bool.not_true, Bool.not_false, Bool.false_eq_true, Bool.true_eq_false, Bool.true_and, Bool.false_and, Bool.and_true, Bool.and_false, not_true, not_false_iff, Option.bind_some, nn, toList_inj, Bool.not_eq_true', Bool.not_eq_false', Int.le_refl, and_self, true_and, and_true, false_and, and_false, bne_self_eq_false, beq_self_eq_true, Int.reduceEq, Nat.reduceEqDiff, List.length_singleton, List.tail_cons, Int.reduceLE, Int.reduceLT, decide_eq_true_eq]
      refine Ev2.bind hbv ?_
      simp only [hp2, ring_f0, ring_f1, strs_len, strs_elem, ints_len, ints_elem, items_list, fld_agg, elem_list, toStr_sc, toInt_sc, toBool_sc, headD_one, nat_int, get_bt, decide_eq_true_eq, decide_eq_false_iff_not, decide_true, decide_false, if_true, if_false, ite_self, Bool.not_true, Bool.not_false, Bool.false_eq_true, Bool.true_eq_false, Bool.true_and, Bool.false_and, Bool.and_true, Bool.and_false, not_true, not_false_iff, Option.bind_some, nn, toList_inj, Bool.not_eq_true', Bool.not_eq_false', Int.le_refl, and_self, true_and, and_true, false_and, and_false, bne_self_eq_false, beq_self_eq_true, Int.reduceEq, Nat.reduceEqDiff, List.length_singleton, List.tail_cons, Int.reduceLE, Int.reduceLT, decide_eq_true_eq]
      exact h3
    | false =>
      rw [hok, if_neg (by simp)] at ht
      have hbv := specTake_ev ks fs ⟨#[]⟩ 0 ⟨#[]⟩ (by omega) (by omega) hs64 (by show 0 ≤ _; omega)
      have hno : okT ks fs ⟨#[]⟩ 0 = false := by
        cases h : okT ks fs ⟨#[]⟩ 0 with
        | false => rfl
        | true =>
          rw [okT, Bool.and_eq_true] at h
          have := (ring_next h.2).1
          exact absurd this (by show ¬ 1 ≤ 0; omega)
      unfold takeR at hbv
      rw [if_pos hr.ok, if_neg (by rw [hno]; simp)] at hbv
      obtain ⟨ks', fs', fr', q, h1, h2, h3⟩ := ih (p + 2) (fr + 1 + j) ks fs (by omega) hfr (by omega) (hr.stay hkm (by omega) hok)
      refine ⟨ks', fs', fr', q, h1, by omega, Ev2.succ ?_⟩
      simp only [spec_l13Ring.l0_eq, h0, rd_agg, ring_agg, rd_f0, rd_f1, hkl, hf1, hf2, w1, w2, w3, hk.1, hk.2, hel, strs_len, strs_elem, ints_len, ints_elem, items_list, fld_agg, elem_list, toStr_sc, toInt_sc, toBool_sc, headD_one, nat_int, get_bt, decide_eq_true_eq, decide_eq_false_iff_not, decide_true, decide_false, if_true, if_false, ite_self, Bool.not_true, Bool.not_false, Bool.false_eq_true, Bool.true_eq_false, Bool.true_and, Bool.false_and, Bool.and_true, Bool.and_false, not_true, not_false_iff, Option.bind_some, nn, toList_inj, Bool.not_eq_true', Bool.not_eq_false', Int.le_refl, and_self, true_and, and_true, false_and, and_false, bne_self_eq_false, beq_self_eq_true, Int.reduceEq, Nat.reduceEqDiff, List.length_singleton, List.tail_cons, Int.reduceLE, Int.reduceLT, decide_eq_true_eq]
      refine Ev2.bind ht ?_
      simp only [turn_f0, turn_f1, turn_f2, turn_agg, strs_len, strs_elem, ints_len, ints_elem, items_list, fld_agg, elem_list, toStr_sc, toInt_sc, toBool_sc, headD_one, nat_int, get_bt, decide_eq_true_eq, decide_eq_false_iff_not, decide_true, decide_false, if_true, if_false, ite_self, Bool.not_true, Bool.not_false, Bool.false_eq_true, Bool.true_eq_false, Bool.true_and, Bool.false_and, Bool.and_true, Bool.and_false, not_true, not_false_iff, Option.bind_some, nn, toList_inj, Bool.not_eq_true', Bool.not_eq_false', Int.le_refl, and_self, true_and, and_true, false_and, and_false, bne_self_eq_false, beq_self_eq_true, Int.reduceEq, Nat.reduceEqDiff, List.length_singleton, List.tail_cons, Int.reduceLE, Int.reduceLT, decide_eq_true_eq]
      refine Ev2.bind hbv ?_
      simp only [hp2, ring_f0, ring_f1, strs_len, strs_elem, ints_len, ints_elem, items_list, fld_agg, elem_list, toStr_sc, toInt_sc, toBool_sc, headD_one, nat_int, get_bt, decide_eq_true_eq, decide_eq_false_iff_not, decide_true, decide_false, if_true, if_false, ite_self, Bool.not_true, Bool.not_false, Bool.false_eq_true, Bool.true_eq_false, Bool.true_and, Bool.false_and, Bool.and_true, Bool.and_false, not_true, not_false_iff, Option.bind_some, nn, toList_inj, Bool.not_eq_true', Bool.not_eq_false', Int.le_refl, and_self, true_and, and_true, false_and, and_false, bne_self_eq_false, beq_self_eq_true, Int.reduceEq, Nat.reduceEqDiff, List.length_singleton, List.tail_cons, Int.reduceLE, Int.reduceLT, decide_eq_true_eq]
      exact h3
theorem ring_one' (s : ByteArray) : PV.agg [PV.list [PV.sc (.string s)], PV.list [PV.sc (.int .i64 1)]] = ringP [s] [1] := rfl
theorem l13Ring_ev {b : PV} (hb : Code1 b) (p : Nat) (hp : p < 800000000) : ∃ (ks : List ByteArray) (fs : List Int) (fr q : Nat), RingI fr ks fs ∧ q ≤ p + 9 ∧ Ev (fun N => spec_l13Ring.f N [rdP b (p : Int)]) [ringP ks fs, rdP b (q : Int)] := by
  obtain ⟨c, hc, hf⟩ := pick_ev hb (p := (p : Int)) (n := 5) (by omega) (by omega)
  obtain ⟨c, rfl⟩ := Int.eq_ofNat_of_zero_le hc.1
  have k0 : keyM (ByteArray.mk #[107, 101, 121]) = true := by decide
  have hr : ringM [ByteArray.mk #[107, 101, 121]] [1] = true := by simp [ringM, keysM, ascF, tailM, k0]
  obtain ⟨ks, fs, fr, q, h1, h2, h3⟩ := ring_loop hb c (p + 1) 1 [key0] [1] (by omega) (by omega) (by omega) ⟨hr, by simp [keysK], rfl, fun _ => ⟨rfl, rfl, rfl⟩, fun h => by simp at h⟩
  refine ⟨ks, fs, fr, q, h1, by omega, ?_⟩
  have hp1 : (p : Int) + 1 = ((p + 1 : Nat) : Int) := by omega
  have hn : ∀ N, spec_RingNew.f N [strP (ByteArray.mk #[107, 101, 121])] = some [ringP [ByteArray.mk #[107, 101, 121]] [1], boolP true] := fun N => by
    simp only [spec_RingNew.f_eq, specKey_val _ (by decide : (ByteArray.mk #[107, 101, 121]).size ≤ 9223372036854775807), ring_one', k0, strs_len, strs_elem, ints_len, ints_elem, items_list, fld_agg, elem_list, toStr_sc, toInt_sc, toBool_sc, headD_one, nat_int, get_bt, decide_eq_true_eq, decide_eq_false_iff_not, decide_true, decide_false, if_true, if_false, ite_self, Bool.not_true, Bool.not_false, Bool.false_eq_true, Bool.true_eq_false, Bool.true_and, Bool.false_and, Bool.and_true, Bool.and_false, not_true, not_false_iff, Option.bind_some, nn, toList_inj, Bool.not_eq_true', Bool.not_eq_false', Int.le_refl, and_self, true_and, and_true, false_and, and_false, bne_self_eq_false, beq_self_eq_true, Int.reduceEq, Nat.reduceEqDiff, List.length_singleton, List.tail_cons, Int.reduceLE, Int.reduceLT, decide_eq_true_eq]
  simp only [spec_l13Ring.f_eq, hn, rd_f0, rd_f1, rd_agg, hf, hp1, ring_f0, ring_f1, strs_len, strs_elem, ints_len, ints_elem, items_list, fld_agg, elem_list, toStr_sc, toInt_sc, toBool_sc, headD_one, nat_int, get_bt, decide_eq_true_eq, decide_eq_false_iff_not, decide_true, decide_false, if_true, if_false, ite_self, Bool.not_true, Bool.not_false, Bool.false_eq_true, Bool.true_eq_false, Bool.true_and, Bool.false_and, Bool.and_true, Bool.and_false, not_true, not_false_iff, Option.bind_some, nn, toList_inj, Bool.not_eq_true', Bool.not_eq_false', Int.le_refl, and_self, true_and, and_true, false_and, and_false, bne_self_eq_false, beq_self_eq_true, Int.reduceEq, Nat.reduceEqDiff, List.length_singleton, List.tail_cons, Int.reduceLE, Int.reduceLT, decide_eq_true_eq]
  exact h3.diag
theorem one_ev {b : PV} (hb : Code1 b) {p : Int} (hp : 0 ≤ p ∧ p < 1000000000) (l : List Int) (hl : 1 ≤ l.length ∧ l.length < 4611686018427387904) : ∃ s ∈ l, ∀ N, spec_l1Rd_one.f N [rdP b p, intsP l] = some [intP s, rdP b (p + 1)] := by
  obtain ⟨k, hk, hf⟩ := pick_ev hb hp (n := (l.length : Int)) (by omega)
  obtain ⟨j, rfl⟩ := Int.eq_ofNat_of_zero_le hk.1
  have hj : j < l.length := by omega
  refine ⟨l.getD j 0, ?_, fun N => ?_⟩
  · rw [List.getD_eq_getElem?_getD, List.getElem?_eq_getElem hj]; exact List.getElem_mem hj
  · simp only [spec_l1Rd_one.f_eq, rd_f0, rd_f1, rd_agg, hf, hk, strs_len, strs_elem, ints_len, ints_elem, items_list, fld_agg, elem_list, toStr_sc, toInt_sc, toBool_sc, headD_one, nat_int, get_bt, decide_eq_true_eq, decide_eq_false_iff_not, decide_true, decide_false, if_true, if_false, ite_self, Bool.not_true, Bool.not_false, Bool.false_eq_true, Bool.true_eq_false, Bool.true_and, Bool.false_and, Bool.and_true, Bool.and_false, not_true, not_false_iff, Option.bind_some, nn, toList_inj, Bool.not_eq_true', Bool.not_eq_false', Int.le_refl, and_self, true_and, and_true, false_and, and_false, bne_self_eq_false, beq_self_eq_true, Int.reduceEq, Nat.reduceEqDiff, List.length_singleton, List.tail_cons, Int.reduceLE, Int.reduceLT, decide_eq_true_eq]
theorem all_set {α : Type} {Q : α → Prop} {l : List α} {x : α} (i : Nat) (h : ∀ y ∈ l, Q y) (hx : Q x) : ∀ y ∈ l.set i x, Q y := by
  intro y hy
  rcases List.mem_or_eq_of_mem_set hy with hy | rfl
  · exact h y hy
  · exact hx
theorem all_snoc {α : Type} {Q : α → Prop} {l : List α} {x : α} (h : ∀ y ∈ l, Q y) (hx : Q x) : ∀ y ∈ l ++ [x], Q y := by
  intro y hy
  rcases List.mem_append.1 hy with hy | hy
  · exact h y hy
  · rw [List.mem_singleton.1 hy]; exact hx
/-- A ring of bounded size. -/
structure RingB (ks : List ByteArray) (fs : List Int) : Prop where
  nk : ks.length ≤ 6
  nf : fs.length ≤ 6
  sk : ∀ k ∈ ks, k.size ≤ 64
  sf : ∀ f ∈ fs, 0 ≤ f ∧ f ≤ 1000000
  kin : ringM ks fs = true → ∀ k ∈ ks, k ∈ keysK
  hd : ringM ks fs = true → ks.getD 0 ByteArray.empty = key0
  two : ringM ks fs = true → 2 ≤ ks.length → (ks.getD 1 ByteArray.empty ∈ keysL ∧ 2 ≤ fs.getD 1 0 ∧ fs.getD 1 0 ≤ 4) ∨ (ks.getD 1 ByteArray.empty = ByteArray.mk #[113] ∧ fs.getD 1 0 = 50)
theorem set_last_two {fs : List Int} {v : Int} (hl : fs.length - 1 = 1) (h5 : (fs.set (fs.length - 1) v).Pairwise (· < ·)) (hx : (fs.set (fs.length - 1) v).getD 0 0 = 1) (hb : v = 0 ∨ v = 1 ∨ v = 1000000) (h3 : ∀ f ∈ fs.set (fs.length - 1) v, f ≤ 999999) : False := by
  obtain ⟨x, y, rfl⟩ : ∃ x y, fs = [x, y] := by
    match fs, hl with
    | [x, y], _ => exact ⟨x, y, rfl⟩
    | [], h => simp at h
    | [_], h => simp at h
    | _ :: _ :: _ :: _, h => simp at h
  have h4 : x < v := by simpa using h5
  have hx1 : x = 1 := hx
  have := h3 v (by simp)
  omega
theorem anyRing_ev {b : PV} (hb : Code1 b) (p : Nat) (hp : p < 800000000) : ∃ (ks : List ByteArray) (fs : List Int) (q : Nat), RingB ks fs ∧ q ≤ p + 11 ∧ Ev (fun N => spec_l13AnyRing.f N [rdP b (p : Int)]) [ringP ks fs, rdP b (q : Int)] := by
  obtain ⟨ks, fs, fr, q, hi, hq, hv⟩ := l13Ring_ev hb p hp
  have hr := hi.ok
  obtain ⟨n1, n2, n3⟩ := ringM_len hr
  have hks : ∀ k ∈ ks, k.size ≤ 64 := fun k hk => (ringM_keys hr k hk).2
  have hfs : ∀ f ∈ fs, 0 ≤ f ∧ f ≤ 1000000 := fun f hf => by have := (ringM_nums hr).1 f hf; omega
  obtain ⟨k, hk, hf⟩ := pick_ev hb (p := (q : Int)) (n := 12) (by omega) (by omega)
  have hp1 : (q : Int) + 1 = ((q + 1 : Nat) : Int) := by omega
  rw [hp1] at hf
  have hcp := copy_val ks fs (by omega) (by omega)
  simp only [spec_l13AnyRing.f_eq, rd_f0, rd_f1, rd_agg]
  by_cases k0 : k = 0
  · have no0 : ringM (ks.set 0 ⟨#[]⟩) fs = true → False := fun h => by
      have hm : (⟨#[]⟩ : ByteArray) ∈ ks.set 0 ⟨#[]⟩ := by
        cases ks with
        | nil => simp at n1
        | cons a r => simp
      have := (ringM_keys h _ hm).1
      exact absurd this (by show ¬ 1 ≤ 0; omega)
    refine ⟨ks.set 0 ⟨#[]⟩, fs, q + 1, ⟨by rw [List.length_set]; omega, by omega, all_set 0 hks (by decide), hfs, fun h => (no0 h).elim, fun h => (no0 h).elim, fun h => (no0 h).elim⟩, by omega, ?_⟩
    refine Ev.bind hv ?_
    have l0 : (0 : Int) < (ks.length : Int) := by omega
    simp only [ring_f0, ring_f1, ring_agg, hcp, rd_f0, rd_f1, rd_agg, hf, k0, l0, strs_set, strs_len, strs_elem, ints_len, ints_elem, items_list, fld_agg, elem_list, toStr_sc, toInt_sc, toBool_sc, headD_one, nat_int, get_bt, decide_eq_true_eq, decide_eq_false_iff_not, decide_true, decide_false, if_true, if_false, ite_self, Bool.not_true, Bool.not_false, Bool.false_eq_true, Bool.true_eq_false, Bool.true_and, Bool.false_and, Bool.and_true, Bool.and_false, not_true, not_false_iff, Option.bind_some, nn, toList_inj, Bool.not_eq_true', Bool.not_eq_false', Int.le_refl, and_self, true_and, and_true, false_and, and_false, bne_self_eq_false, beq_self_eq_true, Int.reduceEq, Nat.reduceEqDiff, List.length_singleton, List.tail_cons, Int.reduceLE, Int.reduceLT, decide_eq_true_eq]
    exact Ev.now _
  by_cases k1 : k = 1
  · obtain ⟨v, hvm, hvv⟩ := one_ev hb (p := ((q + 1 : Nat) : Int)) (by omega) [0, 1, 1000000] (by simp)
    have hvb : 0 ≤ v ∧ v ≤ 1000000 := by simp only [List.mem_cons, List.not_mem_nil, or_false] at hvm; omega
    refine ⟨ks, fs.set (fs.length - 1) v, q + 2, ⟨by omega, by rw [List.length_set]; omega, hks, all_set _ hfs hvb, fun _ => hi.kin, fun _ => hi.hd, fun h h2 => .inl (by
      have ht := hi.two h2
      by_cases hl : fs.length - 1 = 1
      · exact (set_last_two hl (ringM_nums h).2.1 (ringM_nums h).2.2 (by simpa using hvm) (fun f hf => ((ringM_nums h).1 f hf).2)).elim
      · rw [show (fs.set (fs.length - 1) v).getD 1 0 = fs.getD 1 0 from by
          rw [List.getD_eq_getElem?_getD, List.getD_eq_getElem?_getD, List.getElem?_set_ne hl]]
        exact ht)⟩, by omega, ?_⟩
    refine Ev.bind hv ?_
    have e : PV.list [(PV.sc (.int .i64 0)), (PV.sc (.int .i64 1)), (PV.sc (.int .i64 1000000))] = intsP [0, 1, 1000000] := rfl
    have w1 : IntKind.i64.wrap ((fs.length : Int) - 1) = ((fs.length - 1 : Nat) : Int) := nat_wrap (by omega) (by omega)
    have l0 : ((fs.length - 1 : Nat) : Int) < (fs.length : Int) := by omega
    have hp2 : ((q + 1 : Nat) : Int) + 1 = ((q + 2 : Nat) : Int) := by omega
    simp only [ring_f0, ring_f1, ring_agg, hcp, rd_f0, rd_f1, rd_agg, hf, k1, e, hvv, w1, l0, hp2, ints_set, strs_len, strs_elem, ints_len, ints_elem, items_list, fld_agg, elem_list, toStr_sc, toInt_sc, toBool_sc, headD_one, nat_int, get_bt, decide_eq_true_eq, decide_eq_false_iff_not, decide_true, decide_false, if_true, if_false, ite_self, Bool.not_true, Bool.not_false, Bool.false_eq_true, Bool.true_eq_false, Bool.true_and, Bool.false_and, Bool.and_true, Bool.and_false, not_true, not_false_iff, Option.bind_some, nn, toList_inj, Bool.not_eq_true', Bool.not_eq_false', Int.le_refl, and_self, true_and, and_true, false_and, and_false, bne_self_eq_false, beq_self_eq_true, Int.reduceEq, Nat.reduceEqDiff, List.length_singleton, List.tail_cons, Int.reduceLE, Int.reduceLT, decide_eq_true_eq]
    exact Ev.now _
  by_cases k2 : k = 2
  · have no2 : ringM (ks ++ [⟨#[107, 101, 121]⟩]) fs = true → False := fun h => by
      have := (ringM_len h).2.2
      rw [List.length_append, List.length_singleton] at this
      omega
    refine ⟨ks ++ [⟨#[107, 101, 121]⟩], fs, q + 1, ⟨by rw [List.length_append, List.length_singleton]; omega, by omega, all_snoc hks (by decide), hfs, fun h => (no2 h).elim, fun h => (no2 h).elim, fun h => (no2 h).elim⟩, by omega, ?_⟩
    refine Ev.bind hv ?_
    have c1 : ks.length + 1 ≤ 8796093022208 := by omega
    simp only [ring_f0, ring_f1, ring_agg, hcp, rd_f0, rd_f1, rd_agg, hf, k2, c1, strs_snoc, strs_len, strs_elem, ints_len, ints_elem, items_list, fld_agg, elem_list, toStr_sc, toInt_sc, toBool_sc, headD_one, nat_int, get_bt, decide_eq_true_eq, decide_eq_false_iff_not, decide_true, decide_false, if_true, if_false, ite_self, Bool.not_true, Bool.not_false, Bool.false_eq_true, Bool.true_eq_false, Bool.true_and, Bool.false_and, Bool.and_true, Bool.and_false, not_true, not_false_iff, Option.bind_some, nn, toList_inj, Bool.not_eq_true', Bool.not_eq_false', Int.le_refl, and_self, true_and, and_true, false_and, and_false, bne_self_eq_false, beq_self_eq_true, Int.reduceEq, Nat.reduceEqDiff, List.length_singleton, List.tail_cons, Int.reduceLE, Int.reduceLT, decide_eq_true_eq]
    exact Ev.now _
  by_cases k3 : k = 3
  · obtain ⟨v, hvm, hvv⟩ := one_ev hb (p := ((q + 1 : Nat) : Int)) (by omega) [1, 50] (by simp)
    have hvb : 0 ≤ v ∧ v ≤ 1000000 := by simp only [List.mem_cons, List.not_mem_nil, or_false] at hvm; omega
    refine ⟨ks ++ [⟨#[113]⟩], fs ++ [v], q + 2, ⟨by rw [List.length_append, List.length_singleton]; omega, by rw [List.length_append, List.length_singleton]; omega, all_snoc hks (by decide), all_snoc hfs hvb, fun _ => all_snoc hi.kin (by simp [keysK]), fun _ => by rw [getD_appL (by omega)]; exact hi.hd, fun h h2 => by
      by_cases h1 : ks.length = 1
      · right
        rw [getD_at h1, getD_at (by omega)]
        refine ⟨rfl, ?_⟩
        have h5 := (ringM_nums h).2.1
        obtain ⟨e1, e2, _⟩ := hi.one h1
        subst e2
        simp only [List.cons_append, List.nil_append, List.pairwise_cons, List.mem_singleton, forall_eq] at h5
        simp only [List.mem_cons, List.not_mem_nil, or_false] at hvm
        have := h5.1
        omega
      · left
        rw [getD_appL (by omega), getD_appL (by omega)]
        exact hi.two (by omega)⟩, by omega, ?_⟩
    refine Ev.bind hv ?_
    have e : PV.list [(PV.sc (.int .i64 1)), (PV.sc (.int .i64 50))] = intsP [1, 50] := rfl
    have c1 : ks.length + 1 ≤ 8796093022208 := by omega
    have c2 : fs.length + 1 ≤ 17592186044416 := by omega
    have hp2 : ((q + 1 : Nat) : Int) + 1 = ((q + 2 : Nat) : Int) := by omega
    simp only [ring_f0, ring_f1, ring_agg, hcp, rd_f0, rd_f1, rd_agg, hf, k3, e, hvv, c1, c2, hp2, strs_snoc, ints_snoc, strs_len, strs_elem, ints_len, ints_elem, items_list, fld_agg, elem_list, toStr_sc, toInt_sc, toBool_sc, headD_one, nat_int, get_bt, decide_eq_true_eq, decide_eq_false_iff_not, decide_true, decide_false, if_true, if_false, ite_self, Bool.not_true, Bool.not_false, Bool.false_eq_true, Bool.true_eq_false, Bool.true_and, Bool.false_and, Bool.and_true, Bool.and_false, not_true, not_false_iff, Option.bind_some, nn, toList_inj, Bool.not_eq_true', Bool.not_eq_false', Int.le_refl, and_self, true_and, and_true, false_and, and_false, bne_self_eq_false, beq_self_eq_true, Int.reduceEq, Nat.reduceEqDiff, List.length_singleton, List.tail_cons, Int.reduceLE, Int.reduceLT, decide_eq_true_eq]
    exact Ev.now _
  · refine ⟨ks, fs, q + 1, ⟨by omega, by omega, hks, hfs, fun _ => hi.kin, fun _ => hi.hd, fun _ h2 => .inl (hi.two h2)⟩, by omega, ?_⟩
    refine Ev.bind hv ?_
    simp only [ring_f0, ring_f1, ring_agg, hcp, rd_f0, rd_f1, rd_agg, hf, k0, k1, k2, k3, strs_len, strs_elem, ints_len, ints_elem, items_list, fld_agg, elem_list, toStr_sc, toInt_sc, toBool_sc, headD_one, nat_int, get_bt, decide_eq_true_eq, decide_eq_false_iff_not, decide_true, decide_false, if_true, if_false, ite_self, Bool.not_true, Bool.not_false, Bool.false_eq_true, Bool.true_eq_false, Bool.true_and, Bool.false_and, Bool.and_true, Bool.and_false, not_true, not_false_iff, Option.bind_some, nn, toList_inj, Bool.not_eq_true', Bool.not_eq_false', Int.le_refl, and_self, true_and, and_true, false_and, and_false, bne_self_eq_false, beq_self_eq_true, Int.reduceEq, Nat.reduceEqDiff, List.length_singleton, List.tail_cons, Int.reduceLE, Int.reduceLT, decide_eq_true_eq]
    exact Ev.now _
/-! #### a key and a text, drawn -/
theorem putL_size : ∀ (ks : List ByteArray) (acc p : ByteArray) (fs : List Int), (∀ k ∈ ks, k.size ≤ 64) → (∀ f ∈ fs, f ≤ 999999) → (putL acc p ks fs).size ≤ acc.size + 300 * ks.length
  | [], acc, p, fs, _, _ => by simp [putL]
  | k :: ks, acc, p, [], _, _ => by simp [putL]
  | k :: ks, acc, p, f :: fs, hk, hf => by
    have h1 := lineB_size p (k := k) (f := f.toNat) (hk k (by simp)) (by have := hf f (by simp); omega)
    have h2 := putL_size ks (acc ++ lineB p k f.toNat) k fs (fun x hx => hk x (by simp [hx])) (fun x hx => hf x (by simp [hx]))
    rw [app_size] at h2
    rw [putL, List.length_cons]; omega
theorem ringPut_size (ks : List ByteArray) (fs : List Int) : (ringPutM ks fs).size ≤ 2000 := by
  unfold ringPutM
  split
  · rename_i h
    obtain ⟨n1, n2, n3, n4, n5⟩ := ring_facts h
    have h1 := putL_size ks.tail ⟨#[]⟩ (ks.headD ⟨#[]⟩) fs.tail (fun k hk => (n4 k (List.mem_of_mem_tail hk)).2) (fun f hf => (n5 f (List.mem_of_mem_tail hf)).2)
    have h0 : (⟨#[]⟩ : ByteArray).size = 0 := rfl
    rw [h0, List.length_tail] at h1
    omega
  · show (0 : Nat) ≤ _; omega
def cutsL : List ByteArray := [ByteArray.mk #[32], ByteArray.mk #[10], ByteArray.mk #[47], ByteArray.mk #[97], ByteArray.mk #[83], ByteArray.mk #[45], ByteArray.mk #[43], ByteArray.mk #[48]]
theorem cuts_size {s : ByteArray} (h : s ∈ cutsL) : s.size = 1 := by
  simp only [cutsL, List.mem_cons, List.not_mem_nil, or_false] at h
  rcases h with rfl | rfl | rfl | rfl | rfl | rfl | rfl | rfl <;> rfl
theorem l13Cut_ev {b : PV} (hb : Code1 b) (p : Nat) (hp : p < 800000000) (s : ByteArray) (hs : s.size ≤ 1000000000) : ∃ (t : ByteArray) (q : PV), t.size ≤ s.size + 1 ∧ ∀ N, spec_l13Cut.f N [rdP b (p : Int), strP s] = some [strP t, q] := by
  obtain ⟨k, hk, hf⟩ := pick_ev hb (p := (p : Int)) (n := (s.size : Int) + 1) (by omega) (by omega)
  obtain ⟨c, hc, hf2⟩ := pick_ev hb (p := (p : Int) + 1) (n := 5) (by omega) (by omega)
  obtain ⟨k, rfl⟩ := Int.eq_ofNat_of_zero_le hk.1
  have w1 : IntKind.i64.wrap ((s.size : Int) + 1) = (s.size : Int) + 1 := wrap_id (by omega) (by omega)
  have e1 : ((k : Int) ≤ (s.size : Int)) = True := true_of (by omega)
  by_cases c0 : c = 0
  · obtain ⟨x, hx, hf3⟩ := of_ev hb (p := (p : Int) + 1 + 1) (by omega) cutsL (by simp [cutsL])
    have e : PV.list ([(PV.sc (.string (ByteArray.mk #[32]))), (PV.sc (.string (ByteArray.mk #[10]))), (PV.sc (.string (ByteArray.mk #[47]))), (PV.sc (.string (ByteArray.mk #[97]))), (PV.sc (.string (ByteArray.mk #[83]))), (PV.sc (.string (ByteArray.mk #[45]))), (PV.sc (.string (ByteArray.mk #[43]))), (PV.sc (.string (ByteArray.mk #[48])))]) = strsP cutsL := rfl
    have xs := cuts_size hx
    have z1 : (s.extract 0 k).size = k := by rw [ByteArray.size_extract]; omega
    have z2 : (s.extract k s.size).size = s.size - k := by rw [ByteArray.size_extract]; omega
    have c1 : ((s.extract 0 k).size + x.size ≤ 9223372036854775807) = True := true_of (by omega)
    have c2 : ((s.extract 0 k ++ x).size + (s.extract k s.size).size ≤ 9223372036854775807) = True := true_of (by rw [app_size]; omega)
    refine ⟨(s.extract 0 k ++ x) ++ s.extract k s.size, rdP b ((p : Int) + 1 + 1 + 1), ?_, fun N => ?_⟩
    · rw [app_size, app_size]; omega
    · simp only [spec_l13Cut.f_eq, rd_f0, rd_f1, rd_agg, w1, hf, hf2, c0, e, hf3, e1, c1, c2, strs_len, strs_elem, ints_len, ints_elem, items_list, fld_agg, elem_list, toStr_sc, toInt_sc, toBool_sc, headD_one, nat_int, get_bt, decide_eq_true_eq, decide_eq_false_iff_not, decide_true, decide_false, if_true, if_false, ite_self, Bool.not_true, Bool.not_false, Bool.false_eq_true, Bool.true_eq_false, Bool.true_and, Bool.false_and, Bool.and_true, Bool.and_false, not_true, not_false_iff, Option.bind_some, nn, toList_inj, Bool.not_eq_true', Bool.not_eq_false', Int.le_refl, and_self, true_and, and_true, false_and, and_false, bne_self_eq_false, beq_self_eq_true, Int.reduceEq, Nat.reduceEqDiff, List.length_singleton, List.tail_cons, Int.reduceLE, Int.reduceLT, decide_eq_true_eq]
  · by_cases c1 : c = 1
    · refine ⟨s.extract 0 k, rdP b ((p : Int) + 1 + 1), by rw [ByteArray.size_extract]; omega, fun N => ?_⟩
      simp only [spec_l13Cut.f_eq, rd_f0, rd_f1, rd_agg, w1, hf, hf2, c1, e1, strs_len, strs_elem, ints_len, ints_elem, items_list, fld_agg, elem_list, toStr_sc, toInt_sc, toBool_sc, headD_one, nat_int, get_bt, decide_eq_true_eq, decide_eq_false_iff_not, decide_true, decide_false, if_true, if_false, ite_self, Bool.not_true, Bool.not_false, Bool.false_eq_true, Bool.true_eq_false, Bool.true_and, Bool.false_and, Bool.and_true, Bool.and_false, not_true, not_false_iff, Option.bind_some, nn, toList_inj, Bool.not_eq_true', Bool.not_eq_false', Int.le_refl, and_self, true_and, and_true, false_and, and_false, bne_self_eq_false, beq_self_eq_true, Int.reduceEq, Nat.reduceEqDiff, List.length_singleton, List.tail_cons, Int.reduceLE, Int.reduceLT, decide_eq_true_eq]
    · refine ⟨s, rdP b ((p : Int) + 1 + 1), by omega, fun N => ?_⟩
      simp only [spec_l13Cut.f_eq, rd_f0, rd_f1, rd_agg, w1, hf, hf2, c0, c1, strs_len, strs_elem, ints_len, ints_elem, items_list, fld_agg, elem_list, toStr_sc, toInt_sc, toBool_sc, headD_one, nat_int, get_bt, decide_eq_true_eq, decide_eq_false_iff_not, decide_true, decide_false, if_true, if_false, ite_self, Bool.not_true, Bool.not_false, Bool.false_eq_true, Bool.true_eq_false, Bool.true_and, Bool.false_and, Bool.and_true, Bool.and_false, not_true, not_false_iff, Option.bind_some, nn, toList_inj, Bool.not_eq_true', Bool.not_eq_false', Int.le_refl, and_self, true_and, and_true, false_and, and_false, bne_self_eq_false, beq_self_eq_true, Int.reduceEq, Nat.reduceEqDiff, List.length_singleton, List.tail_cons, Int.reduceLE, Int.reduceLT, decide_eq_true_eq]
def keysG : List ByteArray := [key0, key0, key0, ByteArray.mk #[111, 116, 104, 101, 114], ByteArray.mk #[]]
theorem drawGet_ev {l : List PV} (hl : l.length ≤ 1048576) (hby : ∀ j, 0 ≤ ((PV.list l).elem j).toInt ∧ ((PV.list l).elem j).toInt ≤ 255) :
    ∃ (k t : ByteArray), k.size ≤ 10 ∧ t.size ≤ 10000 ∧ Ev (fun N => spec_DrawRingGet.f N [PV.list l]) [strP k, strP t] := by
  obtain ⟨b, hb, hop⟩ := open_ev hl hby
  obtain ⟨k, hk, hof⟩ := of_ev hb (p := 0) (by omega) keysG (by simp [keysG])
  obtain ⟨ks, fs, fr, q, hr, hq, hv⟩ := l13Ring_ev hb 1 (by omega)
  obtain ⟨n1, n2, n3⟩ := ring_small hr.ok
  have hz := ringPut_size ks fs
  obtain ⟨t, r, ht, hcut⟩ := l13Cut_ev hb q (by omega) (ringPutM ks fs) (by omega)
  have hks : k.size ≤ 10 := by
    simp only [keysG, List.mem_cons, List.not_mem_nil, or_false] at hk
    rcases hk with rfl | rfl | rfl | rfl | rfl <;> decide
  have e1 : PV.list ([(PV.sc (.string (ByteArray.mk #[107, 101, 121]))), (PV.sc (.string (ByteArray.mk #[107, 101, 121]))), (PV.sc (.string (ByteArray.mk #[107, 101, 121]))), (PV.sc (.string (ByteArray.mk #[111, 116, 104, 101, 114]))), (PV.sc (.string (ByteArray.mk #[])))]) = strsP keysG := rfl
  have e2 : (0 : Int) + 1 = ((1 : Nat) : Int) := rfl
  refine ⟨k, t, hks, by omega, ?_⟩
  rw [e2] at hof
  simp only [strP] at hcut
  simp only [spec_DrawRingGet.f_eq, hop, strs_len, strs_elem, ints_len, ints_elem, items_list, fld_agg, elem_list, toStr_sc, toInt_sc, toBool_sc, headD_one, nat_int, get_bt, decide_eq_true_eq, decide_eq_false_iff_not, decide_true, decide_false, if_true, if_false, ite_self, Bool.not_true, Bool.not_false, Bool.false_eq_true, Bool.true_eq_false, Bool.true_and, Bool.false_and, Bool.and_true, Bool.and_false, not_true, not_false_iff, Option.bind_some, nn, toList_inj, Bool.not_eq_true', Bool.not_eq_false', Int.le_refl, and_self, true_and, and_true, false_and, and_false, bne_self_eq_false, beq_self_eq_true, Int.reduceEq, Nat.reduceEqDiff, List.length_singleton, List.tail_cons, Int.reduceLE, Int.reduceLT, decide_eq_true_eq, rd_f0, rd_f1, rd_agg, e1, hof]
  refine Ev.bind hv ?_
  simp only [strs_len, strs_elem, ints_len, ints_elem, items_list, fld_agg, elem_list, toStr_sc, toInt_sc, toBool_sc, headD_one, nat_int, get_bt, decide_eq_true_eq, decide_eq_false_iff_not, decide_true, decide_false, if_true, if_false, ite_self, Bool.not_true, Bool.not_false, Bool.false_eq_true, Bool.true_eq_false, Bool.true_and, Bool.false_and, Bool.and_true, Bool.and_false, not_true, not_false_iff, Option.bind_some, nn, toList_inj, Bool.not_eq_true', Bool.not_eq_false', Int.le_refl, and_self, true_and, and_true, false_and, and_false, bne_self_eq_false, beq_self_eq_true, Int.reduceEq, Nat.reduceEqDiff, List.length_singleton, List.tail_cons, Int.reduceLE, Int.reduceLT, decide_eq_true_eq, rd_f0, rd_f1, rd_agg, ring_f0, ring_f1, ring_agg]
  refine Ev.bind (specRingPut_ev ks fs (by omega) (by omega) (fun x hx => by have := n3 x hx; omega)) ?_
  simp only [strs_len, strs_elem, ints_len, ints_elem, items_list, fld_agg, elem_list, toStr_sc, toInt_sc, toBool_sc, headD_one, nat_int, get_bt, decide_eq_true_eq, decide_eq_false_iff_not, decide_true, decide_false, if_true, if_false, ite_self, Bool.not_true, Bool.not_false, Bool.false_eq_true, Bool.true_eq_false, Bool.true_and, Bool.false_and, Bool.and_true, Bool.and_false, not_true, not_false_iff, Option.bind_some, nn, toList_inj, Bool.not_eq_true', Bool.not_eq_false', Int.le_refl, and_self, true_and, and_true, false_and, and_false, bne_self_eq_false, beq_self_eq_true, Int.reduceEq, Nat.reduceEqDiff, List.length_singleton, List.tail_cons, Int.reduceLE, Int.reduceLT, decide_eq_true_eq, hcut]
  exact Ev.now _
theorem drawPut_ev {l : List PV} (hl : l.length ≤ 1048576) (hby : ∀ j, 0 ≤ ((PV.list l).elem j).toInt ∧ ((PV.list l).elem j).toInt ≤ 255) :
    ∃ (ks : List ByteArray) (fs : List Int), RingB ks fs ∧ Ev (fun N => spec_DrawRingPut.f N [PV.list l]) [ringP ks fs] := by
  obtain ⟨b, hb, hop⟩ := open_ev hl hby
  obtain ⟨ks, fs, q, hr, hq, hv⟩ := anyRing_ev hb 0 (by omega)
  refine ⟨ks, fs, hr, ?_⟩
  simp only [Int.natCast_zero] at hv
  simp only [spec_DrawRingPut.f_eq, hop, strs_len, strs_elem, ints_len, ints_elem, items_list, fld_agg, elem_list, toStr_sc, toInt_sc, toBool_sc, headD_one, nat_int, get_bt, decide_eq_true_eq, decide_eq_false_iff_not, decide_true, decide_false, if_true, if_false, ite_self, Bool.not_true, Bool.not_false, Bool.false_eq_true, Bool.true_eq_false, Bool.true_and, Bool.false_and, Bool.and_true, Bool.and_false, not_true, not_false_iff, Option.bind_some, nn, toList_inj, Bool.not_eq_true', Bool.not_eq_false', Int.le_refl, and_self, true_and, and_true, false_and, and_false, bne_self_eq_false, beq_self_eq_true, Int.reduceEq, Nat.reduceEqDiff, List.length_singleton, List.tail_cons, Int.reduceLE, Int.reduceLT, decide_eq_true_eq, rd_f0, rd_f1, rd_agg]
  refine Ev.bind hv ?_
  simp only [strs_len, strs_elem, ints_len, ints_elem, items_list, fld_agg, elem_list, toStr_sc, toInt_sc, toBool_sc, headD_one, nat_int, get_bt, decide_eq_true_eq, decide_eq_false_iff_not, decide_true, decide_false, if_true, if_false, ite_self, Bool.not_true, Bool.not_false, Bool.false_eq_true, Bool.true_eq_false, Bool.true_and, Bool.false_and, Bool.and_true, Bool.and_false, not_true, not_false_iff, Option.bind_some, nn, toList_inj, Bool.not_eq_true', Bool.not_eq_false', Int.le_refl, and_self, true_and, and_true, false_and, and_false, bne_self_eq_false, beq_self_eq_true, Int.reduceEq, Nat.reduceEqDiff, List.length_singleton, List.tail_cons, Int.reduceLE, Int.reduceLT, decide_eq_true_eq, ring_f0, ring_f1, ring_agg]
  exact Ev.now _
/-! Somebody else's key reads no ring that is drawn: reckoned. -/
def sbL : List Int := [115, 111, 109, 101, 98, 111, 100, 121, 32, 101, 108, 115, 101]
def keysLL : List (List Int) := [[107, 101, 121, 50], [111, 116, 104, 101, 114], [107], [0, 255], [108, 97, 115, 116]]
theorem sb_drawn : (([2, 3, 4] : List Nat).all fun f => keysLL.all fun k => differR sbL [107, 101, 121] k f) = true := by kernel_rfl
theorem sb_q : differR sbL [107, 101, 121] [113] 50 = true := by kernel_rfl
theorem sb_seal {k : ByteArray} {f : Nat} (h : (k ∈ keysL ∧ 2 ≤ f ∧ f ≤ 4) ∨ (k = ByteArray.mk #[113] ∧ f = 50)) : sealM sbB (textM k f) ≠ sealM key0 (textM k f) := by
  have hs : bytesOf sbB = sbL := rfl
  have h0 : bytesOf key0 = [107, 101, 121] := rfl
  refine seals_differR (by decide) (by decide) (by omega) ?_
  rw [hs, h0]
  rcases h with ⟨hk, h2, h4⟩ | ⟨rfl, rfl⟩
  · have hm : bytesOf k ∈ keysLL := by
      simp only [keysL, List.mem_cons, List.not_mem_nil, or_false] at hk
      rcases hk with rfl | rfl | rfl | rfl | rfl <;> decide
    have hf : f ∈ ([2, 3, 4] : List Nat) := by simp; omega
    exact List.all_eq_true.1 (List.all_eq_true.1 sb_drawn f hf) _ hm
  · exact sb_q
theorem hexB_inj {a b : ByteArray} (h : hexB a = hexB b) : a = b := by rw [← unhB_hex a, h, unhB_hex]
theorem put_one {k : ByteArray} {f : Int} : ringPutM [k] [f] = ⟨#[]⟩ := by
  unfold ringPutM
  split <;> rfl
theorem sb_none {ks : List ByteArray} {fs : List Int} (hr : ringM ks fs = true) (hb : RingB ks fs) (hne : ringPutM ks fs ≠ ⟨#[]⟩) : getG numB fineB sbB (ringPutM ks fs) = none := by
  cases hg : getG numB fineB sbB (ringPutM ks fs) with
  | none => rfl
  | some x =>
    exfalso
    obtain ⟨h1, h2, h3⟩ := (getG_iff goodS _ _ x).1 hg
    obtain ⟨xk, xf⟩ := x
    obtain ⟨n1, n2, n3, n4, n5⟩ := ring_facts hr
    obtain ⟨m1, m2, m3, m4, m5⟩ := ring_facts h1
    have htwo := hb.two hr
    have hhd := hb.hd hr
    match ks, fs, n1, n3 with
    | [k], [f], _, _ => exact hne put_one
    | k :: k2 :: ks, f :: f2 :: fs, _, _ =>
      match xk, xf, m1, m3 with
      | [y], [g], _, _ =>
        rw [put_one] at h3
        exact hne h3.symm
      | y :: y2 :: ys, g :: g2 :: gs, _, _ =>
        have hl1 := lines_put hr
        have hl2 := lines_put h1
        rw [h3, hl1, bodies, bodies] at hl2
        injection hl2 with hb1 _
        have e0 : k = key0 := hhd
        have e1 : y = sbB := h2
        subst e0 e1
        have hf2 := n5 f2 (by simp)
        have hg2 := m5 g2 (by simp)
        have c := congrArg (cutB 32) hb1
        rw [body_cut _ _ (by omega), body_cut _ _ (by omega)] at c
        injection c with _ c
        injection c with d1 c
        injection c with d2 c
        injection c with d3 _
        have ek := hexB_inj d2
        have ef : f2.toNat = g2.toNat := by
          have q1 := numB_dec (u := f2.toNat) (by omega) (by omega)
          have q2 := numB_dec (u := g2.toNat) (by omega) (by omega)
          rw [d1] at q1
          omega
        rw [← ek, ← ef] at d3
        refine sb_seal ?_ d3.symm
        rcases htwo (by simp) with ⟨t1, t2, t3⟩ | ⟨t1, t2⟩
        · have t2' : 2 ≤ f2 := t2
          have t3' : f2 ≤ 4 := t3
          exact .inl ⟨t1, by omega, by omega⟩
        · have t2' : f2 = 50 := t2
          exact .inr ⟨t1, by omega⟩
      | [_], [], _, h => simp at h
      | [_], _ :: _ :: _, _, h => simp at h
      | _ :: _ :: _, [], _, h => simp at h
      | _ :: _ :: _, [_], _, h => simp at h
      | [], _, h, _ => simp at h
    | [_], [], _, h => simp at h
    | [_], _ :: _ :: _, _, h => simp at h
    | _ :: _ :: _, [], _, h => simp at h
    | _ :: _ :: _, [_], _, h => simp at h
    | [], _, h, _ => simp at h
/-- The law's own function answers true. -/
theorem law (ps : List PV) (h : PvOkL (PvOk Tryz.prog 8) [31, 31] ps) : ∃ N, laws_FnRingText.f N ps = some [boolP true] := by
  obtain ⟨p, q, rfl, h1, h2⟩ := pvOkL2 h
  obtain ⟨l, hl', hby⟩ := code_args (P := Tryz.prog) (t := 31) (e := 5) (by kernel_rfl) (by kernel_rfl) (ps := [p]) ⟨h1, trivial⟩
  obtain ⟨l2, hl2', hby2⟩ := code_args (P := Tryz.prog) (t := 31) (e := 5) (by kernel_rfl) (by kernel_rfl) (ps := [q]) ⟨h2, trivial⟩
  injection hl' with e1 _; injection hl2' with e2 _; subst e1 e2
  refine Ev.some ?_
  have hit : (PV.list l).items = l := rfl
  have hit2 : (PV.list l2).items = l2 := rfl
  simp only [laws_FnRingText.f_eq, hit, hit2]
  by_cases hbig : (1048576 : Int) < (l.length : Int)
  · simp only [hbig, strs_len, strs_elem, ints_len, ints_elem, items_list, fld_agg, elem_list, toStr_sc, toInt_sc, toBool_sc, headD_one, nat_int, get_bt, decide_eq_true_eq, decide_eq_false_iff_not, decide_true, decide_false, if_true, if_false, ite_self, Bool.not_true, Bool.not_false, Bool.false_eq_true, Bool.true_eq_false, Bool.true_and, Bool.false_and, Bool.and_true, Bool.and_false, not_true, not_false_iff, Option.bind_some, nn, toList_inj, Bool.not_eq_true', Bool.not_eq_false', Int.le_refl, and_self, true_and, and_true, false_and, and_false, bne_self_eq_false, beq_self_eq_true, Int.reduceEq, Nat.reduceEqDiff, List.length_singleton, List.tail_cons, Int.reduceLE, Int.reduceLT, decide_eq_true_eq]; exact Ev.now _
  by_cases hbig2 : (1048576 : Int) < (l2.length : Int)
  · simp only [hbig, hbig2, strs_len, strs_elem, ints_len, ints_elem, items_list, fld_agg, elem_list, toStr_sc, toInt_sc, toBool_sc, headD_one, nat_int, get_bt, decide_eq_true_eq, decide_eq_false_iff_not, decide_true, decide_false, if_true, if_false, ite_self, Bool.not_true, Bool.not_false, Bool.false_eq_true, Bool.true_eq_false, Bool.true_and, Bool.false_and, Bool.and_true, Bool.and_false, not_true, not_false_iff, Option.bind_some, nn, toList_inj, Bool.not_eq_true', Bool.not_eq_false', Int.le_refl, and_self, true_and, and_true, false_and, and_false, bne_self_eq_false, beq_self_eq_true, Int.reduceEq, Nat.reduceEqDiff, List.length_singleton, List.tail_cons, Int.reduceLE, Int.reduceLT, decide_eq_true_eq]; exact Ev.now _
  obtain ⟨ks, fs, hr, hdr⟩ := drawPut_ev (l := l) (by omega) hby
  obtain ⟨key, text, hks, hts, hdg⟩ := drawGet_ev (l := l2) (by omega) hby2
  have hgs := specGet_ev key text (by omega) (by omega)
  have hgi := implGet_ev key text (by omega) (by omega)
  rw [getG_same] at hgi
  have hs : ∀ x ∈ ks, x.size ≤ 9223372036854775807 := fun x hx => by have := hr.sk x hx; omega
  have n1 := hr.nk
  have n2 := hr.nf
  have hz := ringPut_size ks fs
  simp only [strP] at hgs hgi
  simp only [hbig, hbig2, strs_len, strs_elem, ints_len, ints_elem, items_list, fld_agg, elem_list, toStr_sc, toInt_sc, toBool_sc, headD_one, nat_int, get_bt, decide_eq_true_eq, decide_eq_false_iff_not, decide_true, decide_false, if_true, if_false, ite_self, Bool.not_true, Bool.not_false, Bool.false_eq_true, Bool.true_eq_false, Bool.true_and, Bool.false_and, Bool.and_true, Bool.and_false, not_true, not_false_iff, Option.bind_some, nn, toList_inj, Bool.not_eq_true', Bool.not_eq_false', Int.le_refl, and_self, true_and, and_true, false_and, and_false, bne_self_eq_false, beq_self_eq_true, Int.reduceEq, Nat.reduceEqDiff, List.length_singleton, List.tail_cons, Int.reduceLE, Int.reduceLT, decide_eq_true_eq]
  refine Ev.bind hdr ?_
  simp only [strs_len, strs_elem, ints_len, ints_elem, items_list, fld_agg, elem_list, toStr_sc, toInt_sc, toBool_sc, headD_one, nat_int, get_bt, decide_eq_true_eq, decide_eq_false_iff_not, decide_true, decide_false, if_true, if_false, ite_self, Bool.not_true, Bool.not_false, Bool.false_eq_true, Bool.true_eq_false, Bool.true_and, Bool.false_and, Bool.and_true, Bool.and_false, not_true, not_false_iff, Option.bind_some, nn, toList_inj, Bool.not_eq_true', Bool.not_eq_false', Int.le_refl, and_self, true_and, and_true, false_and, and_false, bne_self_eq_false, beq_self_eq_true, Int.reduceEq, Nat.reduceEqDiff, List.length_singleton, List.tail_cons, Int.reduceLE, Int.reduceLT, decide_eq_true_eq, ring_f0, ring_f1, ring_agg]
  refine Ev.bind (implRingPut_ev ks fs (by omega) (by omega) hs) ?_
  refine Ev.bind (specRingPut_ev ks fs (by omega) (by omega) hs) ?_
  simp only [strs_len, strs_elem, ints_len, ints_elem, items_list, fld_agg, elem_list, toStr_sc, toInt_sc, toBool_sc, headD_one, nat_int, get_bt, decide_eq_true_eq, decide_eq_false_iff_not, decide_true, decide_false, if_true, if_false, ite_self, Bool.not_true, Bool.not_false, Bool.false_eq_true, Bool.true_eq_false, Bool.true_and, Bool.false_and, Bool.and_true, Bool.and_false, not_true, not_false_iff, Option.bind_some, nn, toList_inj, Bool.not_eq_true', Bool.not_eq_false', Int.le_refl, and_self, true_and, and_true, false_and, and_false, bne_self_eq_false, beq_self_eq_true, Int.reduceEq, Nat.reduceEqDiff, List.length_singleton, List.tail_cons, Int.reduceLE, Int.reduceLT, decide_eq_true_eq]
  refine Ev.bind (specRingOk_ev ks fs (by omega) (by omega) hs) ?_
  cases hrm : ringM ks fs with
  | false =>
    simp only [strs_len, strs_elem, ints_len, ints_elem, items_list, fld_agg, elem_list, toStr_sc, toInt_sc, toBool_sc, headD_one, nat_int, get_bt, decide_eq_true_eq, decide_eq_false_iff_not, decide_true, decide_false, if_true, if_false, ite_self, Bool.not_true, Bool.not_false, Bool.false_eq_true, Bool.true_eq_false, Bool.true_and, Bool.false_and, Bool.and_true, Bool.and_false, not_true, not_false_iff, Option.bind_some, nn, toList_inj, Bool.not_eq_true', Bool.not_eq_false', Int.le_refl, and_self, true_and, and_true, false_and, and_false, bne_self_eq_false, beq_self_eq_true, Int.reduceEq, Nat.reduceEqDiff, List.length_singleton, List.tail_cons, Int.reduceLE, Int.reduceLT, decide_eq_true_eq]
    refine Ev.bind hdg ?_
    simp only [strs_len, strs_elem, ints_len, ints_elem, items_list, fld_agg, elem_list, toStr_sc, toInt_sc, toBool_sc, headD_one, nat_int, get_bt, decide_eq_true_eq, decide_eq_false_iff_not, decide_true, decide_false, if_true, if_false, ite_self, Bool.not_true, Bool.not_false, Bool.false_eq_true, Bool.true_eq_false, Bool.true_and, Bool.false_and, Bool.and_true, Bool.and_false, not_true, not_false_iff, Option.bind_some, nn, toList_inj, Bool.not_eq_true', Bool.not_eq_false', Int.le_refl, and_self, true_and, and_true, false_and, and_false, bne_self_eq_false, beq_self_eq_true, Int.reduceEq, Nat.reduceEqDiff, List.length_singleton, List.tail_cons, Int.reduceLE, Int.reduceLT, decide_eq_true_eq]
    refine Ev.bind hgi ?_
    refine Ev.bind hgs ?_
    cases ho : getG numB fineB key text with
    | none =>
      simp only [getR, strs_len, strs_elem, ints_len, ints_elem, items_list, fld_agg, elem_list, toStr_sc, toInt_sc, toBool_sc, headD_one, nat_int, get_bt, decide_eq_true_eq, decide_eq_false_iff_not, decide_true, decide_false, if_true, if_false, ite_self, Bool.not_true, Bool.not_false, Bool.false_eq_true, Bool.true_eq_false, Bool.true_and, Bool.false_and, Bool.and_true, Bool.and_false, not_true, not_false_iff, Option.bind_some, nn, toList_inj, Bool.not_eq_true', Bool.not_eq_false', Int.le_refl, and_self, true_and, and_true, false_and, and_false, bne_self_eq_false, beq_self_eq_true, Int.reduceEq, Nat.reduceEqDiff, List.length_singleton, List.tail_cons, Int.reduceLE, Int.reduceLT, decide_eq_true_eq, ring_f0, ring_f1, ring_agg]
      refine Ev.bind (mdRing_ev [] [] (by decide) (by decide)) ?_
      simp only [strs_len, strs_elem, ints_len, ints_elem, items_list, fld_agg, elem_list, toStr_sc, toInt_sc, toBool_sc, headD_one, nat_int, get_bt, decide_eq_true_eq, decide_eq_false_iff_not, decide_true, decide_false, if_true, if_false, ite_self, Bool.not_true, Bool.not_false, Bool.false_eq_true, Bool.true_eq_false, Bool.true_and, Bool.false_and, Bool.and_true, Bool.and_false, not_true, not_false_iff, Option.bind_some, nn, toList_inj, Bool.not_eq_true', Bool.not_eq_false', Int.le_refl, and_self, true_and, and_true, false_and, and_false, bne_self_eq_false, beq_self_eq_true, Int.reduceEq, Nat.reduceEqDiff, List.length_singleton, List.tail_cons, Int.reduceLE, Int.reduceLT, decide_eq_true_eq]
      exact Ev.now _
    | some x =>
      obtain ⟨i1, i2, i3⟩ := (getG_iff goodS key text x).1 ho
      obtain ⟨xk, xf⟩ := x
      obtain ⟨l1, l2, l3⟩ := ring_small i1
      simp only at i1 i2 i3 l1 l2 l3
      obtain ⟨m1, _⟩ := ring_facts i1
      have p0 : ((0 : Int) < (xk.length : Int)) = True := true_of (by omega)
      have hd0 : xk.getD 0 ByteArray.empty = key := by rw [← i2]; cases xk <;> rfl
      simp only [getR, strs_len, strs_elem, ints_len, ints_elem, items_list, fld_agg, elem_list, toStr_sc, toInt_sc, toBool_sc, headD_one, nat_int, get_bt, decide_eq_true_eq, decide_eq_false_iff_not, decide_true, decide_false, if_true, if_false, ite_self, Bool.not_true, Bool.not_false, Bool.false_eq_true, Bool.true_eq_false, Bool.true_and, Bool.false_and, Bool.and_true, Bool.and_false, not_true, not_false_iff, Option.bind_some, nn, toList_inj, Bool.not_eq_true', Bool.not_eq_false', Int.le_refl, and_self, true_and, and_true, false_and, and_false, bne_self_eq_false, beq_self_eq_true, Int.reduceEq, Nat.reduceEqDiff, List.length_singleton, List.tail_cons, Int.reduceLE, Int.reduceLT, decide_eq_true_eq, ring_f0, ring_f1, ring_agg]
      refine Ev.bind (mdRing_ev xk xf (by omega) (by omega)) ?_
      simp only [strs_len, strs_elem, ints_len, ints_elem, items_list, fld_agg, elem_list, toStr_sc, toInt_sc, toBool_sc, headD_one, nat_int, get_bt, decide_eq_true_eq, decide_eq_false_iff_not, decide_true, decide_false, if_true, if_false, ite_self, Bool.not_true, Bool.not_false, Bool.false_eq_true, Bool.true_eq_false, Bool.true_and, Bool.false_and, Bool.and_true, Bool.and_false, not_true, not_false_iff, Option.bind_some, nn, toList_inj, Bool.not_eq_true', Bool.not_eq_false', Int.le_refl, and_self, true_and, and_true, false_and, and_false, bne_self_eq_false, beq_self_eq_true, Int.reduceEq, Nat.reduceEqDiff, List.length_singleton, List.tail_cons, Int.reduceLE, Int.reduceLT, decide_eq_true_eq]
      refine Ev.bind (implRingPut_ev xk xf (by omega) (by omega) (fun s hs => by have := l3 s hs; omega)) ?_
      simp only [i3, p0, hd0, Int.toNat_zero, strs_len, strs_elem, ints_len, ints_elem, items_list, fld_agg, elem_list, toStr_sc, toInt_sc, toBool_sc, headD_one, nat_int, get_bt, decide_eq_true_eq, decide_eq_false_iff_not, decide_true, decide_false, if_true, if_false, ite_self, Bool.not_true, Bool.not_false, Bool.false_eq_true, Bool.true_eq_false, Bool.true_and, Bool.false_and, Bool.and_true, Bool.and_false, not_true, not_false_iff, Option.bind_some, nn, toList_inj, Bool.not_eq_true', Bool.not_eq_false', Int.le_refl, and_self, true_and, and_true, false_and, and_false, bne_self_eq_false, beq_self_eq_true, Int.reduceEq, Nat.reduceEqDiff, List.length_singleton, List.tail_cons, Int.reduceLE, Int.reduceLT, decide_eq_true_eq]
      exact Ev.now _
  | true =>
    obtain ⟨m1, m2, m3, m4, m5⟩ := ring_facts hrm
    have p0 : ((0 : Int) < (ks.length : Int)) = True := true_of (by omega)
    have hk0 : (ks.getD 0 ByteArray.empty).size ≤ 64 := by
      cases ks with
      | nil => simp at m1
      | cons a r => exact (m4 a (by simp)).2
    have hg1 := implGet_ev (ks.getD 0 ByteArray.empty) (ringPutM ks fs) (by omega) (by omega)
    have hg2 := implGet_ev sbB (ringPutM ks fs) (by decide) (by omega)
    have hb1 : getG atoiVal (fun _ => true) (ks.getD 0 ByteArray.empty) (ringPutM ks fs) = some (ks, fs) := (getG_iff goodI _ _ _).2 ⟨hrm, by cases ks <;> rfl, rfl⟩
    have esb : PV.sc (.string (ByteArray.mk #[115, 111, 109, 101, 98, 111, 100, 121, 32, 101, 108, 115, 101])) = strP sbB := rfl
    have ee : PV.sc (.string (ByteArray.mk #[])) = strP ⟨#[]⟩ := rfl
    rw [hb1] at hg1
    rw [getG_same] at hg2
    simp only [getR] at hg1
    simp only [strP] at hg1 hg2 esb
    simp only [p0, esb, Int.toNat_zero, strs_len, strs_elem, ints_len, ints_elem, items_list, fld_agg, elem_list, toStr_sc, toInt_sc, toBool_sc, headD_one, nat_int, get_bt, decide_eq_true_eq, decide_eq_false_iff_not, decide_true, decide_false, if_true, if_false, ite_self, Bool.not_true, Bool.not_false, Bool.false_eq_true, Bool.true_eq_false, Bool.true_and, Bool.false_and, Bool.and_true, Bool.and_false, not_true, not_false_iff, Option.bind_some, nn, toList_inj, Bool.not_eq_true', Bool.not_eq_false', Int.le_refl, and_self, true_and, and_true, false_and, and_false, bne_self_eq_false, beq_self_eq_true, Int.reduceEq, Nat.reduceEqDiff, List.length_singleton, List.tail_cons, Int.reduceLE, Int.reduceLT, decide_eq_true_eq]
    refine Ev.bind hg1 ?_
    refine Ev.bind hg2 ?_
    by_cases hne : ringPutM ks fs = ⟨#[]⟩
    · obtain ⟨A, B, w, hw⟩ : ∃ A B w, getR (getG numB fineB sbB (ringPutM ks fs)) = [ringP A B, boolP w] := by
        cases getG numB fineB sbB (ringPutM ks fs) with
        | none => exact ⟨_, _, _, rfl⟩
        | some x => exact ⟨_, _, _, rfl⟩
      rw [hw]
      simp only [strs_len, strs_elem, ints_len, ints_elem, items_list, fld_agg, elem_list, toStr_sc, toInt_sc, toBool_sc, headD_one, nat_int, get_bt, decide_eq_true_eq, decide_eq_false_iff_not, decide_true, decide_false, if_true, if_false, ite_self, Bool.not_true, Bool.not_false, Bool.false_eq_true, Bool.true_eq_false, Bool.true_and, Bool.false_and, Bool.and_true, Bool.and_false, not_true, not_false_iff, Option.bind_some, nn, toList_inj, Bool.not_eq_true', Bool.not_eq_false', Int.le_refl, and_self, true_and, and_true, false_and, and_false, bne_self_eq_false, beq_self_eq_true, Int.reduceEq, Nat.reduceEqDiff, List.length_singleton, List.tail_cons, Int.reduceLE, Int.reduceLT, decide_eq_true_eq, ring_f0, ring_f1, ring_agg]
      refine Ev.bind (mdRing_ev ks fs (by omega) (by omega)) ?_
      cases w with
      | true =>
        simp only [hne, strs_len, strs_elem, ints_len, ints_elem, items_list, fld_agg, elem_list, toStr_sc, toInt_sc, toBool_sc, headD_one, nat_int, get_bt, decide_eq_true_eq, decide_eq_false_iff_not, decide_true, decide_false, if_true, if_false, ite_self, Bool.not_true, Bool.not_false, Bool.false_eq_true, Bool.true_eq_false, Bool.true_and, Bool.false_and, Bool.and_true, Bool.and_false, not_true, not_false_iff, Option.bind_some, nn, toList_inj, Bool.not_eq_true', Bool.not_eq_false', Int.le_refl, and_self, true_and, and_true, false_and, and_false, bne_self_eq_false, beq_self_eq_true, Int.reduceEq, Nat.reduceEqDiff, List.length_singleton, List.tail_cons, Int.reduceLE, Int.reduceLT, decide_eq_true_eq]
        refine Ev.bind hdg ?_
        simp only [strs_len, strs_elem, ints_len, ints_elem, items_list, fld_agg, elem_list, toStr_sc, toInt_sc, toBool_sc, headD_one, nat_int, get_bt, decide_eq_true_eq, decide_eq_false_iff_not, decide_true, decide_false, if_true, if_false, ite_self, Bool.not_true, Bool.not_false, Bool.false_eq_true, Bool.true_eq_false, Bool.true_and, Bool.false_and, Bool.and_true, Bool.and_false, not_true, not_false_iff, Option.bind_some, nn, toList_inj, Bool.not_eq_true', Bool.not_eq_false', Int.le_refl, and_self, true_and, and_true, false_and, and_false, bne_self_eq_false, beq_self_eq_true, Int.reduceEq, Nat.reduceEqDiff, List.length_singleton, List.tail_cons, Int.reduceLE, Int.reduceLT, decide_eq_true_eq]
        refine Ev.bind hgi ?_
        refine Ev.bind hgs ?_
        cases ho : getG numB fineB key text with
        | none =>
          simp only [getR, strs_len, strs_elem, ints_len, ints_elem, items_list, fld_agg, elem_list, toStr_sc, toInt_sc, toBool_sc, headD_one, nat_int, get_bt, decide_eq_true_eq, decide_eq_false_iff_not, decide_true, decide_false, if_true, if_false, ite_self, Bool.not_true, Bool.not_false, Bool.false_eq_true, Bool.true_eq_false, Bool.true_and, Bool.false_and, Bool.and_true, Bool.and_false, not_true, not_false_iff, Option.bind_some, nn, toList_inj, Bool.not_eq_true', Bool.not_eq_false', Int.le_refl, and_self, true_and, and_true, false_and, and_false, bne_self_eq_false, beq_self_eq_true, Int.reduceEq, Nat.reduceEqDiff, List.length_singleton, List.tail_cons, Int.reduceLE, Int.reduceLT, decide_eq_true_eq, ring_f0, ring_f1, ring_agg]
          refine Ev.bind (mdRing_ev [] [] (by decide) (by decide)) ?_
          simp only [strs_len, strs_elem, ints_len, ints_elem, items_list, fld_agg, elem_list, toStr_sc, toInt_sc, toBool_sc, headD_one, nat_int, get_bt, decide_eq_true_eq, decide_eq_false_iff_not, decide_true, decide_false, if_true, if_false, ite_self, Bool.not_true, Bool.not_false, Bool.false_eq_true, Bool.true_eq_false, Bool.true_and, Bool.false_and, Bool.and_true, Bool.and_false, not_true, not_false_iff, Option.bind_some, nn, toList_inj, Bool.not_eq_true', Bool.not_eq_false', Int.le_refl, and_self, true_and, and_true, false_and, and_false, bne_self_eq_false, beq_self_eq_true, Int.reduceEq, Nat.reduceEqDiff, List.length_singleton, List.tail_cons, Int.reduceLE, Int.reduceLT, decide_eq_true_eq]
          exact Ev.now _
        | some x =>
          obtain ⟨i1, i2, i3⟩ := (getG_iff goodS key text x).1 ho
          obtain ⟨xk, xf⟩ := x
          obtain ⟨l1, l2, l3⟩ := ring_small i1
          simp only at i1 i2 i3 l1 l2 l3
          obtain ⟨m1, _⟩ := ring_facts i1
          have p0 : ((0 : Int) < (xk.length : Int)) = True := true_of (by omega)
          have hd0 : xk.getD 0 ByteArray.empty = key := by rw [← i2]; cases xk <;> rfl
          simp only [getR, strs_len, strs_elem, ints_len, ints_elem, items_list, fld_agg, elem_list, toStr_sc, toInt_sc, toBool_sc, headD_one, nat_int, get_bt, decide_eq_true_eq, decide_eq_false_iff_not, decide_true, decide_false, if_true, if_false, ite_self, Bool.not_true, Bool.not_false, Bool.false_eq_true, Bool.true_eq_false, Bool.true_and, Bool.false_and, Bool.and_true, Bool.and_false, not_true, not_false_iff, Option.bind_some, nn, toList_inj, Bool.not_eq_true', Bool.not_eq_false', Int.le_refl, and_self, true_and, and_true, false_and, and_false, bne_self_eq_false, beq_self_eq_true, Int.reduceEq, Nat.reduceEqDiff, List.length_singleton, List.tail_cons, Int.reduceLE, Int.reduceLT, decide_eq_true_eq, ring_f0, ring_f1, ring_agg]
          refine Ev.bind (mdRing_ev xk xf (by omega) (by omega)) ?_
          simp only [strs_len, strs_elem, ints_len, ints_elem, items_list, fld_agg, elem_list, toStr_sc, toInt_sc, toBool_sc, headD_one, nat_int, get_bt, decide_eq_true_eq, decide_eq_false_iff_not, decide_true, decide_false, if_true, if_false, ite_self, Bool.not_true, Bool.not_false, Bool.false_eq_true, Bool.true_eq_false, Bool.true_and, Bool.false_and, Bool.and_true, Bool.and_false, not_true, not_false_iff, Option.bind_some, nn, toList_inj, Bool.not_eq_true', Bool.not_eq_false', Int.le_refl, and_self, true_and, and_true, false_and, and_false, bne_self_eq_false, beq_self_eq_true, Int.reduceEq, Nat.reduceEqDiff, List.length_singleton, List.tail_cons, Int.reduceLE, Int.reduceLT, decide_eq_true_eq]
          refine Ev.bind (implRingPut_ev xk xf (by omega) (by omega) (fun s hs => by have := l3 s hs; omega)) ?_
          simp only [i3, p0, hd0, Int.toNat_zero, strs_len, strs_elem, ints_len, ints_elem, items_list, fld_agg, elem_list, toStr_sc, toInt_sc, toBool_sc, headD_one, nat_int, get_bt, decide_eq_true_eq, decide_eq_false_iff_not, decide_true, decide_false, if_true, if_false, ite_self, Bool.not_true, Bool.not_false, Bool.false_eq_true, Bool.true_eq_false, Bool.true_and, Bool.false_and, Bool.and_true, Bool.and_false, not_true, not_false_iff, Option.bind_some, nn, toList_inj, Bool.not_eq_true', Bool.not_eq_false', Int.le_refl, and_self, true_and, and_true, false_and, and_false, bne_self_eq_false, beq_self_eq_true, Int.reduceEq, Nat.reduceEqDiff, List.length_singleton, List.tail_cons, Int.reduceLE, Int.reduceLT, decide_eq_true_eq]
          exact Ev.now _
      | false =>
        simp only [hne, strs_len, strs_elem, ints_len, ints_elem, items_list, fld_agg, elem_list, toStr_sc, toInt_sc, toBool_sc, headD_one, nat_int, get_bt, decide_eq_true_eq, decide_eq_false_iff_not, decide_true, decide_false, if_true, if_false, ite_self, Bool.not_true, Bool.not_false, Bool.false_eq_true, Bool.true_eq_false, Bool.true_and, Bool.false_and, Bool.and_true, Bool.and_false, not_true, not_false_iff, Option.bind_some, nn, toList_inj, Bool.not_eq_true', Bool.not_eq_false', Int.le_refl, and_self, true_and, and_true, false_and, and_false, bne_self_eq_false, beq_self_eq_true, Int.reduceEq, Nat.reduceEqDiff, List.length_singleton, List.tail_cons, Int.reduceLE, Int.reduceLT, decide_eq_true_eq]
        refine Ev.bind hdg ?_
        simp only [strs_len, strs_elem, ints_len, ints_elem, items_list, fld_agg, elem_list, toStr_sc, toInt_sc, toBool_sc, headD_one, nat_int, get_bt, decide_eq_true_eq, decide_eq_false_iff_not, decide_true, decide_false, if_true, if_false, ite_self, Bool.not_true, Bool.not_false, Bool.false_eq_true, Bool.true_eq_false, Bool.true_and, Bool.false_and, Bool.and_true, Bool.and_false, not_true, not_false_iff, Option.bind_some, nn, toList_inj, Bool.not_eq_true', Bool.not_eq_false', Int.le_refl, and_self, true_and, and_true, false_and, and_false, bne_self_eq_false, beq_self_eq_true, Int.reduceEq, Nat.reduceEqDiff, List.length_singleton, List.tail_cons, Int.reduceLE, Int.reduceLT, decide_eq_true_eq]
        refine Ev.bind hgi ?_
        refine Ev.bind hgs ?_
        cases ho : getG numB fineB key text with
        | none =>
          simp only [getR, strs_len, strs_elem, ints_len, ints_elem, items_list, fld_agg, elem_list, toStr_sc, toInt_sc, toBool_sc, headD_one, nat_int, get_bt, decide_eq_true_eq, decide_eq_false_iff_not, decide_true, decide_false, if_true, if_false, ite_self, Bool.not_true, Bool.not_false, Bool.false_eq_true, Bool.true_eq_false, Bool.true_and, Bool.false_and, Bool.and_true, Bool.and_false, not_true, not_false_iff, Option.bind_some, nn, toList_inj, Bool.not_eq_true', Bool.not_eq_false', Int.le_refl, and_self, true_and, and_true, false_and, and_false, bne_self_eq_false, beq_self_eq_true, Int.reduceEq, Nat.reduceEqDiff, List.length_singleton, List.tail_cons, Int.reduceLE, Int.reduceLT, decide_eq_true_eq, ring_f0, ring_f1, ring_agg]
          refine Ev.bind (mdRing_ev [] [] (by decide) (by decide)) ?_
          simp only [strs_len, strs_elem, ints_len, ints_elem, items_list, fld_agg, elem_list, toStr_sc, toInt_sc, toBool_sc, headD_one, nat_int, get_bt, decide_eq_true_eq, decide_eq_false_iff_not, decide_true, decide_false, if_true, if_false, ite_self, Bool.not_true, Bool.not_false, Bool.false_eq_true, Bool.true_eq_false, Bool.true_and, Bool.false_and, Bool.and_true, Bool.and_false, not_true, not_false_iff, Option.bind_some, nn, toList_inj, Bool.not_eq_true', Bool.not_eq_false', Int.le_refl, and_self, true_and, and_true, false_and, and_false, bne_self_eq_false, beq_self_eq_true, Int.reduceEq, Nat.reduceEqDiff, List.length_singleton, List.tail_cons, Int.reduceLE, Int.reduceLT, decide_eq_true_eq]
          exact Ev.now _
        | some x =>
          obtain ⟨i1, i2, i3⟩ := (getG_iff goodS key text x).1 ho
          obtain ⟨xk, xf⟩ := x
          obtain ⟨l1, l2, l3⟩ := ring_small i1
          simp only at i1 i2 i3 l1 l2 l3
          obtain ⟨m1, _⟩ := ring_facts i1
          have p0 : ((0 : Int) < (xk.length : Int)) = True := true_of (by omega)
          have hd0 : xk.getD 0 ByteArray.empty = key := by rw [← i2]; cases xk <;> rfl
          simp only [getR, strs_len, strs_elem, ints_len, ints_elem, items_list, fld_agg, elem_list, toStr_sc, toInt_sc, toBool_sc, headD_one, nat_int, get_bt, decide_eq_true_eq, decide_eq_false_iff_not, decide_true, decide_false, if_true, if_false, ite_self, Bool.not_true, Bool.not_false, Bool.false_eq_true, Bool.true_eq_false, Bool.true_and, Bool.false_and, Bool.and_true, Bool.and_false, not_true, not_false_iff, Option.bind_some, nn, toList_inj, Bool.not_eq_true', Bool.not_eq_false', Int.le_refl, and_self, true_and, and_true, false_and, and_false, bne_self_eq_false, beq_self_eq_true, Int.reduceEq, Nat.reduceEqDiff, List.length_singleton, List.tail_cons, Int.reduceLE, Int.reduceLT, decide_eq_true_eq, ring_f0, ring_f1, ring_agg]
          refine Ev.bind (mdRing_ev xk xf (by omega) (by omega)) ?_
          simp only [strs_len, strs_elem, ints_len, ints_elem, items_list, fld_agg, elem_list, toStr_sc, toInt_sc, toBool_sc, headD_one, nat_int, get_bt, decide_eq_true_eq, decide_eq_false_iff_not, decide_true, decide_false, if_true, if_false, ite_self, Bool.not_true, Bool.not_false, Bool.false_eq_true, Bool.true_eq_false, Bool.true_and, Bool.false_and, Bool.and_true, Bool.and_false, not_true, not_false_iff, Option.bind_some, nn, toList_inj, Bool.not_eq_true', Bool.not_eq_false', Int.le_refl, and_self, true_and, and_true, false_and, and_false, bne_self_eq_false, beq_self_eq_true, Int.reduceEq, Nat.reduceEqDiff, List.length_singleton, List.tail_cons, Int.reduceLE, Int.reduceLT, decide_eq_true_eq]
          refine Ev.bind (implRingPut_ev xk xf (by omega) (by omega) (fun s hs => by have := l3 s hs; omega)) ?_
          simp only [i3, p0, hd0, Int.toNat_zero, strs_len, strs_elem, ints_len, ints_elem, items_list, fld_agg, elem_list, toStr_sc, toInt_sc, toBool_sc, headD_one, nat_int, get_bt, decide_eq_true_eq, decide_eq_false_iff_not, decide_true, decide_false, if_true, if_false, ite_self, Bool.not_true, Bool.not_false, Bool.false_eq_true, Bool.true_eq_false, Bool.true_and, Bool.false_and, Bool.and_true, Bool.and_false, not_true, not_false_iff, Option.bind_some, nn, toList_inj, Bool.not_eq_true', Bool.not_eq_false', Int.le_refl, and_self, true_and, and_true, false_and, and_false, bne_self_eq_false, beq_self_eq_true, Int.reduceEq, Nat.reduceEqDiff, List.length_singleton, List.tail_cons, Int.reduceLE, Int.reduceLT, decide_eq_true_eq]
          exact Ev.now _
    · rw [sb_none hrm hr hne, getR]
      simp only [strs_len, strs_elem, ints_len, ints_elem, items_list, fld_agg, elem_list, toStr_sc, toInt_sc, toBool_sc, headD_one, nat_int, get_bt, decide_eq_true_eq, decide_eq_false_iff_not, decide_true, decide_false, if_true, if_false, ite_self, Bool.not_true, Bool.not_false, Bool.false_eq_true, Bool.true_eq_false, Bool.true_and, Bool.false_and, Bool.and_true, Bool.and_false, not_true, not_false_iff, Option.bind_some, nn, toList_inj, Bool.not_eq_true', Bool.not_eq_false', Int.le_refl, and_self, true_and, and_true, false_and, and_false, bne_self_eq_false, beq_self_eq_true, Int.reduceEq, Nat.reduceEqDiff, List.length_singleton, List.tail_cons, Int.reduceLE, Int.reduceLT, decide_eq_true_eq, ring_f0, ring_f1, ring_agg]
      refine Ev.bind (mdRing_ev ks fs (by omega) (by omega)) ?_
      simp only [strs_len, strs_elem, ints_len, ints_elem, items_list, fld_agg, elem_list, toStr_sc, toInt_sc, toBool_sc, headD_one, nat_int, get_bt, decide_eq_true_eq, decide_eq_false_iff_not, decide_true, decide_false, if_true, if_false, ite_self, Bool.not_true, Bool.not_false, Bool.false_eq_true, Bool.true_eq_false, Bool.true_and, Bool.false_and, Bool.and_true, Bool.and_false, not_true, not_false_iff, Option.bind_some, nn, toList_inj, Bool.not_eq_true', Bool.not_eq_false', Int.le_refl, and_self, true_and, and_true, false_and, and_false, bne_self_eq_false, beq_self_eq_true, Int.reduceEq, Nat.reduceEqDiff, List.length_singleton, List.tail_cons, Int.reduceLE, Int.reduceLT, decide_eq_true_eq]
      refine Ev.bind hdg ?_
      simp only [strs_len, strs_elem, ints_len, ints_elem, items_list, fld_agg, elem_list, toStr_sc, toInt_sc, toBool_sc, headD_one, nat_int, get_bt, decide_eq_true_eq, decide_eq_false_iff_not, decide_true, decide_false, if_true, if_false, ite_self, Bool.not_true, Bool.not_false, Bool.false_eq_true, Bool.true_eq_false, Bool.true_and, Bool.false_and, Bool.and_true, Bool.and_false, not_true, not_false_iff, Option.bind_some, nn, toList_inj, Bool.not_eq_true', Bool.not_eq_false', Int.le_refl, and_self, true_and, and_true, false_and, and_false, bne_self_eq_false, beq_self_eq_true, Int.reduceEq, Nat.reduceEqDiff, List.length_singleton, List.tail_cons, Int.reduceLE, Int.reduceLT, decide_eq_true_eq]
      refine Ev.bind hgi ?_
      refine Ev.bind hgs ?_
      cases ho : getG numB fineB key text with
      | none =>
        simp only [getR, strs_len, strs_elem, ints_len, ints_elem, items_list, fld_agg, elem_list, toStr_sc, toInt_sc, toBool_sc, headD_one, nat_int, get_bt, decide_eq_true_eq, decide_eq_false_iff_not, decide_true, decide_false, if_true, if_false, ite_self, Bool.not_true, Bool.not_false, Bool.false_eq_true, Bool.true_eq_false, Bool.true_and, Bool.false_and, Bool.and_true, Bool.and_false, not_true, not_false_iff, Option.bind_some, nn, toList_inj, Bool.not_eq_true', Bool.not_eq_false', Int.le_refl, and_self, true_and, and_true, false_and, and_false, bne_self_eq_false, beq_self_eq_true, Int.reduceEq, Nat.reduceEqDiff, List.length_singleton, List.tail_cons, Int.reduceLE, Int.reduceLT, decide_eq_true_eq, ring_f0, ring_f1, ring_agg]
        refine Ev.bind (mdRing_ev [] [] (by decide) (by decide)) ?_
        simp only [strs_len, strs_elem, ints_len, ints_elem, items_list, fld_agg, elem_list, toStr_sc, toInt_sc, toBool_sc, headD_one, nat_int, get_bt, decide_eq_true_eq, decide_eq_false_iff_not, decide_true, decide_false, if_true, if_false, ite_self, Bool.not_true, Bool.not_false, Bool.false_eq_true, Bool.true_eq_false, Bool.true_and, Bool.false_and, Bool.and_true, Bool.and_false, not_true, not_false_iff, Option.bind_some, nn, toList_inj, Bool.not_eq_true', Bool.not_eq_false', Int.le_refl, and_self, true_and, and_true, false_and, and_false, bne_self_eq_false, beq_self_eq_true, Int.reduceEq, Nat.reduceEqDiff, List.length_singleton, List.tail_cons, Int.reduceLE, Int.reduceLT, decide_eq_true_eq]
        exact Ev.now _
      | some x =>
        obtain ⟨i1, i2, i3⟩ := (getG_iff goodS key text x).1 ho
        obtain ⟨xk, xf⟩ := x
        obtain ⟨l1, l2, l3⟩ := ring_small i1
        simp only at i1 i2 i3 l1 l2 l3
        obtain ⟨m1, _⟩ := ring_facts i1
        have p0 : ((0 : Int) < (xk.length : Int)) = True := true_of (by omega)
        have hd0 : xk.getD 0 ByteArray.empty = key := by rw [← i2]; cases xk <;> rfl
        simp only [getR, strs_len, strs_elem, ints_len, ints_elem, items_list, fld_agg, elem_list, toStr_sc, toInt_sc, toBool_sc, headD_one, nat_int, get_bt, decide_eq_true_eq, decide_eq_false_iff_not, decide_true, decide_false, if_true, if_false, ite_self, Bool.not_true, Bool.not_false, Bool.false_eq_true, Bool.true_eq_false, Bool.true_and, Bool.false_and, Bool.and_true, Bool.and_false, not_true, not_false_iff, Option.bind_some, nn, toList_inj, Bool.not_eq_true', Bool.not_eq_false', Int.le_refl, and_self, true_and, and_true, false_and, and_false, bne_self_eq_false, beq_self_eq_true, Int.reduceEq, Nat.reduceEqDiff, List.length_singleton, List.tail_cons, Int.reduceLE, Int.reduceLT, decide_eq_true_eq, ring_f0, ring_f1, ring_agg]
        refine Ev.bind (mdRing_ev xk xf (by omega) (by omega)) ?_
        simp only [strs_len, strs_elem, ints_len, ints_elem, items_list, fld_agg, elem_list, toStr_sc, toInt_sc, toBool_sc, headD_one, nat_int, get_bt, decide_eq_true_eq, decide_eq_false_iff_not, decide_true, decide_false, if_true, if_false, ite_self, Bool.not_true, Bool.not_false, Bool.false_eq_true, Bool.true_eq_false, Bool.true_and, Bool.false_and, Bool.and_true, Bool.and_false, not_true, not_false_iff, Option.bind_some, nn, toList_inj, Bool.not_eq_true', Bool.not_eq_false', Int.le_refl, and_self, true_and, and_true, false_and, and_false, bne_self_eq_false, beq_self_eq_true, Int.reduceEq, Nat.reduceEqDiff, List.length_singleton, List.tail_cons, Int.reduceLE, Int.reduceLT, decide_eq_true_eq]
        refine Ev.bind (implRingPut_ev xk xf (by omega) (by omega) (fun s hs => by have := l3 s hs; omega)) ?_
        simp only [i3, p0, hd0, Int.toNat_zero, strs_len, strs_elem, ints_len, ints_elem, items_list, fld_agg, elem_list, toStr_sc, toInt_sc, toBool_sc, headD_one, nat_int, get_bt, decide_eq_true_eq, decide_eq_false_iff_not, decide_true, decide_false, if_true, if_false, ite_self, Bool.not_true, Bool.not_false, Bool.false_eq_true, Bool.true_eq_false, Bool.true_and, Bool.false_and, Bool.and_true, Bool.and_false, not_true, not_false_iff, Option.bind_some, nn, toList_inj, Bool.not_eq_true', Bool.not_eq_false', Int.le_refl, and_self, true_and, and_true, false_and, and_false, bne_self_eq_false, beq_self_eq_true, Int.reduceEq, Nat.reduceEqDiff, List.length_singleton, List.tail_cons, Int.reduceLE, Int.reduceLT, decide_eq_true_eq]
        exact Ev.now _
end Go.Proofs.YtkmcdpdhnccpjaaGreatDoor.FnRingText
