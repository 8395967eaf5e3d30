/- The law FnSplitBack, over the trees that its functions compute: it answers true, for all arguments of the bounds that the row grants. -/
import Derived.Test.YtanfkcmfgdeioaaDoorFnFnSplitBackx1
set_option linter.unusedVariables false
set_option linter.unusedSimpArgs false
set_option maxRecDepth 10000
namespace Go.Proofs.YtanfkcmfgdeioaaDoor.FnSplitBack
open Go Go.Proofs.YtanfkcmfgdeioaaDoorAm
/-! #### the reader of a code -/
def rdP (b : PV) (p : Int) : PV := .agg [b, intP p]
theorem rd_f0 (b : PV) (p : Int) : (rdP b p).fld 0 = b := rfl
theorem rd_f1 (b : PV) (p : Int) : (rdP b p).fld 1 = intP p := rfl
theorem rd_agg (b : PV) (p : Int) : PV.agg [b, PV.sc (.int .i64 p)] = rdP b p := rfl
/-- A code: so many bytes. -/
structure Code1 (b : PV) : Prop where
  len : b.items.length ≤ 2000
  byte : ∀ j, 0 ≤ (b.elem j).toInt ∧ (b.elem j).toInt ≤ 255
theorem bXor_pos {a b : Int} (ha : 0 ≤ a ∧ a < 9223372036854775808) (hb : 0 ≤ b ∧ b < 9223372036854775808) : 0 ≤ bXor .i64 a b := by
  obtain ⟨x, rfl⟩ := Int.eq_ofNat_of_zero_le ha.1
  obtain ⟨y, rfl⟩ := Int.eq_ofNat_of_zero_le hb.1
  have hx : x < 2 ^ 63 := by omega
  have hy : y < 2 ^ 63 := by omega
  have h : (BitVec.ofInt (IntKind.bits .i64) (x : Int) ^^^ BitVec.ofInt (IntKind.bits .i64) (y : Int)).toNat = x ^^^ y := by
    rw [BitVec.toNat_xor, BitVec.toNat_ofInt, BitVec.toNat_ofInt]
    have hx2 : ((x : Int) % ((2 ^ IntKind.i64.bits : Nat) : Int)).toNat = x := by
      have : ((2 ^ IntKind.i64.bits : Nat) : Int) = 18446744073709551616 := rfl
      rw [this]; omega
    have hy2 : ((y : Int) % ((2 ^ IntKind.i64.bits : Nat) : Int)).toNat = y := by
      have : ((2 ^ IntKind.i64.bits : Nat) : Int) = 18446744073709551616 := rfl
      rw [this]; omega
    rw [hx2, hy2]
  have hlt : x ^^^ y < 2 ^ 63 := Nat.xor_lt_two_pow hx hy
  unfold bXor
  rw [h, wrap_id (by omega) (by omega)]
  omega
theorem tmod_in {x n : Int} (hx : 0 ≤ x) (hn : 1 ≤ n) : 0 ≤ Int.tmod x n ∧ Int.tmod x n < n := by
  rw [Int.tmod_eq_emod_of_nonneg hx]
  exact ⟨Int.emod_nonneg _ (by omega), Int.emod_lt_of_pos _ (by omega)⟩
theorem tdiv_in {x n : Int} (hx : 0 ≤ x) (hn : 1 ≤ n) : 0 ≤ Int.tdiv x n ∧ Int.tdiv x n ≤ x := by
  rw [Int.tdiv_eq_ediv_of_nonneg hx]
  exact ⟨Int.ediv_nonneg hx (by omega), Int.ediv_le_self _ hx⟩
theorem pick_ev {b : PV} (hb : Code1 b) {p n : Int} (hp : 0 ≤ p ∧ p < 1000000000) (hn : 1 ≤ n ∧ n < 4611686018427387904) : ∃ k, (0 ≤ k ∧ k < n) ∧ ∀ N, spec_l1Rd_pick.f N [rdP b p, intP n] = some [intP k, rdP b (p + 1)] := by
  have hlen := hb.len
  have h0 : ¬ n < 1 := by omega
  have h00 : ¬ n = 0 := by omega
  have w1 : IntKind.i64.wrap (p + 1) = p + 1 := wrap_id (by omega) (by omega)
  have w2 : IntKind.i64.wrap (p + 1 - 1) = p := by rw [wrap_id (by omega) (by omega)]; omega
  by_cases hz : (b.items.length : Int) = 0
  · refine ⟨0, by omega, fun N => ?_⟩
    simp only [spec_l1Rd_pick.f_eq, rd_f0, rd_f1, h0, hz, w1, strs_len, strs_elem, ints_len, ints_elem, items_list, fld_agg, elem_list, toStr_sc, toInt_sc, toBool_sc, headD_one, nat_int, get_bt, decide_eq_true_eq, decide_eq_false_iff_not, decide_true, decide_false, if_true, if_false, ite_self, Bool.not_true, Bool.not_false, Bool.false_eq_true, Bool.true_eq_false, Bool.true_and, Bool.false_and, Bool.and_true, Bool.and_false, not_true, not_false_iff, Option.bind_some, nn, toList_inj, Bool.not_eq_true', Bool.not_eq_false', Int.le_refl, and_self, true_and, and_true, false_and, and_false, bne_self_eq_false, beq_self_eq_true, Int.reduceEq, Nat.reduceEqDiff, List.length_singleton, List.tail_cons, Int.reduceLE, Int.reduceLT, decide_eq_true_eq]
    rfl
  by_cases hlt : p < (b.items.length : Int)
  · have hby := hb.byte p.toNat
    have w3 : IntKind.i64.wrap ((b.elem p.toNat).toInt) = (b.elem p.toNat).toInt := wrap_id (by omega) (by omega)
    refine ⟨Int.tmod ((b.elem p.toNat).toInt) n, tmod_in hby.1 hn.1, fun N => ?_⟩
    simp only [spec_l1Rd_pick.f_eq, rd_f0, rd_f1, h0, h00, hz, hlt, hp.1, w1, w2, w3, strs_len, strs_elem, ints_len, ints_elem, items_list, fld_agg, elem_list, toStr_sc, toInt_sc, toBool_sc, headD_one, nat_int, get_bt, decide_eq_true_eq, decide_eq_false_iff_not, decide_true, decide_false, if_true, if_false, ite_self, Bool.not_true, Bool.not_false, Bool.false_eq_true, Bool.true_eq_false, Bool.true_and, Bool.false_and, Bool.and_true, Bool.and_false, not_true, not_false_iff, Option.bind_some, nn, toList_inj, Bool.not_eq_true', Bool.not_eq_false', Int.le_refl, and_self, true_and, and_true, false_and, and_false, bne_self_eq_false, beq_self_eq_true, Int.reduceEq, Nat.reduceEqDiff, List.length_singleton, List.tail_cons, Int.reduceLE, Int.reduceLT, decide_eq_true_eq]
    rfl
  · have hm : 1 ≤ (b.items.length : Int) := by omega
    have w4 : IntKind.i64.wrap (p * 7) = p * 7 := wrap_id (by omega) (by omega)
    have w5 : IntKind.i64.wrap (p * 7 + 3) = p * 7 + 3 := wrap_id (by omega) (by omega)
    have w6 : IntKind.i64.wrap (p * 29) = p * 29 := wrap_id (by omega) (by omega)
    have m1 := tmod_in (x := p) hp.1 hm
    have m2 := tmod_in (x := p * 7 + 3) (by omega) hm
    have q1 := tdiv_in (x := p) hp.1 hm
    have w7 : IntKind.i64.wrap (Int.tdiv p (b.items.length : Int)) = Int.tdiv p (b.items.length : Int) := wrap_id (by omega) (by omega)
    have w8 : IntKind.i64.wrap (Int.tdiv p (b.items.length : Int) * 53) = Int.tdiv p (b.items.length : Int) * 53 := wrap_id (by omega) (by omega)
    have e1 := hb.byte (Int.tmod p (b.items.length : Int)).toNat
    have e2 := hb.byte (Int.tmod (p * 7 + 3) (b.items.length : Int)).toNat
    have z64 : ((64 : Int) = 0) = False := by simp
    simp only [spec_l1Rd_pick.f_eq, rd_f0, rd_f1, h0, h00, hz, hlt, hp.1, w1, w2, w4, w5, w6, w7, w8, m1, m2, z64, strs_len, strs_elem, ints_len, ints_elem, items_list, fld_agg, elem_list, toStr_sc, toInt_sc, toBool_sc, headD_one, nat_int, get_bt, decide_eq_true_eq, decide_eq_false_iff_not, decide_true, decide_false, if_true, if_false, ite_self, Bool.not_true, Bool.not_false, Bool.false_eq_true, Bool.true_eq_false, Bool.true_and, Bool.false_and, Bool.and_true, Bool.and_false, not_true, not_false_iff, Option.bind_some, nn, toList_inj, Bool.not_eq_true', Bool.not_eq_false', Int.le_refl, and_self, true_and, and_true, false_and, and_false, bne_self_eq_false, beq_self_eq_true, Int.reduceEq, Nat.reduceEqDiff, List.length_singleton, List.tail_cons, Int.reduceLE, Int.reduceLT, decide_eq_true_eq]
    generalize (b.elem (Int.tmod p (b.items.length : Int)).toNat).toInt = x1 at e1 ⊢
    generalize (b.elem (Int.tmod (p * 7 + 3) (b.items.length : Int)).toNat).toInt = x2 at e2 ⊢
    generalize Int.tdiv p (b.items.length : Int) = d at q1 ⊢
    have v1 : IntKind.i64.wrap x1 = x1 := wrap_id (by omega) (by omega)
    have v2 : IntKind.i64.wrap x2 = x2 := wrap_id (by omega) (by omega)
    have v3 : IntKind.i64.wrap (x1 * 131) = x1 * 131 := wrap_id (by omega) (by omega)
    have v4 : IntKind.i64.wrap (x2 * 1117) = x2 * 1117 := wrap_id (by omega) (by omega)
    have v5 : IntKind.i64.wrap (x1 * 131 + x2 * 1117) = x1 * 131 + x2 * 1117 := wrap_id (by omega) (by omega)
    have v6 : IntKind.i64.wrap (x1 * 131 + x2 * 1117 + p * 29) = x1 * 131 + x2 * 1117 + p * 29 := wrap_id (by omega) (by omega)
    have v7 : IntKind.i64.wrap (x1 * 131 + x2 * 1117 + p * 29 + d * 53) = x1 * 131 + x2 * 1117 + p * 29 + d * 53 := wrap_id (by omega) (by omega)
    simp only [v1, v2, v3, v4, v5, v6, v7]
    generalize hy : x1 * 131 + x2 * 1117 + p * 29 + d * 53 = y
    have hyb : 0 ≤ y ∧ y < 1000000000000 := by omega
    have q2 := tdiv_in (x := y) (n := 64) hyb.1 (by omega)
    have v8 : IntKind.i64.wrap (Int.tdiv y 64) = Int.tdiv y 64 := wrap_id (by omega) (by omega)
    rw [v8]
    exact ⟨Int.tmod (bXor .i64 y (Int.tdiv y 64)) n, tmod_in (bXor_pos (by omega) (by omega)) hn.1, fun N => rfl⟩
theorem of_ev {b : PV} (hb : Code1 b) {p : Int} (hp : 0 ≤ p ∧ p < 1000000000) (l : List ByteArray) (hl : 1 ≤ l.length ∧ l.length < 4611686018427387904) : ∃ s ∈ l, ∀ N, spec_l1Rd_of.f N [rdP b p, strsP l] = some [strP s, rdP b (p + 1)] := by
  obtain ⟨k, hk, hf⟩ := pick_ev hb hp (n := (l.length : Int)) (by omega)
  obtain ⟨j, rfl⟩ := Int.eq_ofNat_of_zero_le hk.1
  have hj : j < l.length := by omega
  refine ⟨l.getD j ByteArray.empty, ?_, fun N => ?_⟩
  · rw [List.getD_eq_getElem?_getD, List.getElem?_eq_getElem hj]; exact List.getElem_mem hj
  · simp only [spec_l1Rd_of.f_eq, rd_f0, rd_f1, rd_agg, hf, hk, strs_len, strs_elem, ints_len, ints_elem, items_list, fld_agg, elem_list, toStr_sc, toInt_sc, toBool_sc, headD_one, nat_int, get_bt, decide_eq_true_eq, decide_eq_false_iff_not, decide_true, decide_false, if_true, if_false, ite_self, Bool.not_true, Bool.not_false, Bool.false_eq_true, Bool.true_eq_false, Bool.true_and, Bool.false_and, Bool.and_true, Bool.and_false, not_true, not_false_iff, Option.bind_some, nn, toList_inj, Bool.not_eq_true', Bool.not_eq_false', Int.le_refl, and_self, true_and, and_true, false_and, and_false, bne_self_eq_false, beq_self_eq_true, Int.reduceEq, Nat.reduceEqDiff, List.length_singleton, List.tail_cons, Int.reduceLE, Int.reduceLT, decide_eq_true_eq]
theorem open_ev {l : List PV} (hl : l.length ≤ 1048576) (hby : ∀ j, 0 ≤ ((PV.list l).elem j).toInt ∧ ((PV.list l).elem j).toInt ≤ 255) : ∃ b, Code1 b ∧ ∀ N, spec_l1Open.f N [PV.list l] = some [rdP b 0] := by
  by_cases h : (2000 : Int) < (l.length : Int)
  · refine ⟨PV.list (l.take 2000), ⟨by simp [PV.items]; omega, fun j => ?_⟩, fun N => ?_⟩
    · rw [elem_list, List.getD_eq_getElem?_getD, List.getElem?_take]
      have := hby j
      rw [elem_list, List.getD_eq_getElem?_getD] at this
      split
      · exact this
      · exact ⟨Int.le_refl _, by decide⟩
    · have h2 : (2000 : Int) ≤ (l.length : Int) := by omega
      simp only [spec_l1Open.f_eq, h, h2, strs_len, strs_elem, ints_len, ints_elem, items_list, fld_agg, elem_list, toStr_sc, toInt_sc, toBool_sc, headD_one, nat_int, get_bt, decide_eq_true_eq, decide_eq_false_iff_not, decide_true, decide_false, if_true, if_false, ite_self, Bool.not_true, Bool.not_false, Bool.false_eq_true, Bool.true_eq_false, Bool.true_and, Bool.false_and, Bool.and_true, Bool.and_false, not_true, not_false_iff, Option.bind_some, nn, toList_inj, Bool.not_eq_true', Bool.not_eq_false', Int.le_refl, and_self, true_and, and_true, false_and, and_false, bne_self_eq_false, beq_self_eq_true, Int.reduceEq, Nat.reduceEqDiff, List.length_singleton, List.tail_cons, Int.reduceLE, Int.reduceLT, decide_eq_true_eq]
      rfl
  · refine ⟨PV.list l, ⟨by simp [PV.items]; omega, hby⟩, fun N => ?_⟩
    simp only [spec_l1Open.f_eq, h, strs_len, strs_elem, ints_len, ints_elem, items_list, fld_agg, elem_list, toStr_sc, toInt_sc, toBool_sc, headD_one, nat_int, get_bt, decide_eq_true_eq, decide_eq_false_iff_not, decide_true, decide_false, if_true, if_false, ite_self, Bool.not_true, Bool.not_false, Bool.false_eq_true, Bool.true_eq_false, Bool.true_and, Bool.false_and, Bool.and_true, Bool.and_false, not_true, not_false_iff, Option.bind_some, nn, toList_inj, Bool.not_eq_true', Bool.not_eq_false', Int.le_refl, and_self, true_and, and_true, false_and, and_false, bne_self_eq_false, beq_self_eq_true, Int.reduceEq, Nat.reduceEqDiff, List.length_singleton, List.tail_cons, Int.reduceLE, Int.reduceLT, decide_eq_true_eq]
    rfl
theorem code_args {P : Program} {t e : TypeId} (ht : tk P t = .slice e) (he : tk P e = .int .u8) {ps : List PV} (h : PvOkL (PvOk P 8) [t] ps) : ∃ l, ps = [PV.list l] ∧ ∀ j, 0 ≤ ((PV.list l).elem j).toInt ∧ ((PV.list l).elem j).toInt ≤ 255 := by
  obtain ⟨p, rfl, h1⟩ := pvOkL1 h
  obtain ⟨l, rfl, _, h3⟩ := pvOk_slice ht h1
  refine ⟨l, rfl, fun j => ?_⟩
  rw [elem_list, List.getD_eq_getElem?_getD]
  cases hj : l[j]? with
  | none => exact ⟨Int.le_refl _, by decide⟩
  | some q =>
    obtain ⟨x, rfl, hx⟩ := pvOk_int he (h3 q (List.mem_of_getElem? hj))
    simp [Lit.wf, IntKind.min, IntKind.max, IntKind.signed, IntKind.bits] at hx
    simp [PV.toInt]; omega
theorem Ev2.bind2 {α β : Type} {r : α} {s : β} {g : Nat → Nat → Option β} {f : Nat → Nat → β → Option α} (h : Ev2 g s) (k : Ev2 (fun N n => f N n s) r) : Ev2 (fun N n => (g N n).bind (f N n)) r := by
  obtain ⟨k1, h1⟩ := h; obtain ⟨k2, h2⟩ := k
  exact ⟨max k1 k2, fun N n hN hn => by
    show (g N n).bind (f N n) = _
    rw [h1 N n (by omega) (by omega), Option.bind_some]; exact h2 N n (by omega) (by omega)⟩
theorem nat_wrap {n : Int} {m : Nat} (h : n = (m : Int)) (hm : m < 9223372036854775808) : IntKind.i64.wrap n = (m : Int) := by
  rw [h, wrap_id (by omega) (by omega)]
theorem lt_int {a b : Nat} (h : a < b) : (a : Int) < (b : Int) := Int.ofNat_lt.2 h
theorem le_int {a b : Nat} (h : a ≤ b) : (a : Int) ≤ (b : Int) := Int.ofNat_le.2 h
/-! #### words -/
def isWord (s : ByteArray) : Bool := decide (1 ≤ s.size ∧ s.size ≤ 12) && (bytesOf s).all fun c => decide (97 ≤ c ∧ c ≤ 122)
def lowB (l : List Int) : Bool := l.all fun c => decide (97 ≤ c ∧ c ≤ 122)
theorem lowB_cons (c : Int) (l : List Int) : lowB (c :: l) = (decide (97 ≤ c ∧ c ≤ 122) && lowB l) := by simp [lowB]
def bLess (a b : ByteArray) : Bool := Op.bytesLess a.toList b.toList
theorem bLess_eq (a b : ByteArray) : Op.bytesLess a.toList b.toList = bLess a b := rfl
/-- Words, ascending, behind one (or none). -/
def ascW : Option ByteArray → List ByteArray → Bool
  | _, [] => true
  | none, c :: rest => isWord c && ascW (some c) rest
  | some q, c :: rest => isWord c && bLess q c && ascW (some c) rest
def wordsM (l : List ByteArray) (most : Int) : Bool := ascW none l && decide ((l.length : Int) ≤ most)
/-- What stands ahead of a place. -/
def Ahead (pre : List ByteArray) (p : Option ByteArray) : Prop := (pre = [] ∧ p = none) ∨ ∃ pre' q, pre = pre' ++ [q] ∧ p = some q
theorem Ahead.next (pre : List ByteArray) (c : ByteArray) : Ahead (pre ++ [c]) (some c) := .inr ⟨pre, c, rfl, rfl⟩
theorem at_prev {xs pre' rest : List ByteArray} {q : ByteArray} (hp : xs = (pre' ++ [q]) ++ rest) (hx : xs.length ≤ 9223372036854775807) :
    IntKind.i64.wrap (((pre' ++ [q]).length : Int) - 1) = (pre'.length : Int) ∧ (pre'.length : Int) < (xs.length : Int) ∧ xs.getD pre'.length ByteArray.empty = q ∧ (0 : Int) < ((pre' ++ [q]).length : Int) := by
  subst hp
  simp only [List.length_append, List.length_cons, List.length_nil] at hx ⊢
  refine ⟨?_, by omega, ?_, by omega⟩
  · rw [wrap_id (by omega) (by omega)]; omega
  · simp


theorem specLetters_loop (s : ByteArray) (hs : s.size ≤ 9223372036854775807) (m : Int) : ∀ rest pre : List Int, bytesOf s = pre ++ rest → Ev2 (fun N n => spec_l1Letters.l0 N n s m (pre.length : Int)) [boolP (lowB rest && decide ((s.size : Int) ≤ m))] := by
  intro rest
  induction rest with
  | nil =>
    intro pre hp
    refine Ev2.succ ?_
    simp only [spec_l1Letters.l0_eq, at_sizeE hp, lowB, List.all_nil, strs_len, strs_elem, ints_len, ints_elem, items_list, fld_agg, elem_list, toStr_sc, toInt_sc, toBool_sc, headD_one, nat_int, get_bt, decide_eq_true_eq, decide_eq_false_iff_not, decide_true, decide_false, if_true, if_false, ite_self, Bool.not_true, Bool.not_false, Bool.false_eq_true, Bool.true_eq_false, Bool.true_and, Bool.false_and, Bool.and_true, Bool.and_false, not_true, not_false_iff, Option.bind_some, nn, toList_inj, Bool.not_eq_true', Bool.not_eq_false', Int.le_refl, and_self, true_and, and_true, false_and, and_false, bne_self_eq_false, beq_self_eq_true, Int.reduceEq, Nat.reduceEqDiff, List.length_singleton, List.tail_cons, Int.reduceLE, Int.reduceLT, decide_eq_true_eq]
    exact Ev2.now _
  | cons c rest ih =>
    intro pre hp
    refine Ev2.succ ?_
    simp only [spec_l1Letters.l0_eq, strs_len, strs_elem, ints_len, ints_elem, items_list, fld_agg, elem_list, toStr_sc, toInt_sc, toBool_sc, headD_one, nat_int, get_bt, decide_eq_true_eq, decide_eq_false_iff_not, decide_true, decide_false, if_true, if_false, ite_self, Bool.not_true, Bool.not_false, Bool.false_eq_true, Bool.true_eq_false, Bool.true_and, Bool.false_and, Bool.and_true, Bool.and_false, not_true, not_false_iff, Option.bind_some, nn, toList_inj, Bool.not_eq_true', Bool.not_eq_false', Int.le_refl, and_self, true_and, and_true, false_and, and_false, bne_self_eq_false, beq_self_eq_true, Int.reduceEq, Nat.reduceEqDiff, List.length_singleton, List.tail_cons, Int.reduceLE, Int.reduceLT, decide_eq_true_eq, at_size hp, at_bt hp, at_next hp (by rw [bytesOf_len]; omega)]
    rw [lowB_cons]
    by_cases h1 : c < 97
    · simp only [h1, eq_false (show ¬ (97 ≤ c ∧ c ≤ 122) by omega), strs_len, strs_elem, ints_len, ints_elem, items_list, fld_agg, elem_list, toStr_sc, toInt_sc, toBool_sc, headD_one, nat_int, get_bt, decide_eq_true_eq, decide_eq_false_iff_not, decide_true, decide_false, if_true, if_false, ite_self, Bool.not_true, Bool.not_false, Bool.false_eq_true, Bool.true_eq_false, Bool.true_and, Bool.false_and, Bool.and_true, Bool.and_false, not_true, not_false_iff, Option.bind_some, nn, toList_inj, Bool.not_eq_true', Bool.not_eq_false', Int.le_refl, and_self, true_and, and_true, false_and, and_false, bne_self_eq_false, beq_self_eq_true, Int.reduceEq, Nat.reduceEqDiff, List.length_singleton, List.tail_cons, Int.reduceLE, Int.reduceLT, decide_eq_true_eq]; exact Ev2.now _
    by_cases h2 : 122 < c
    · simp only [h1, h2, eq_false (show ¬ (97 ≤ c ∧ c ≤ 122) by omega), strs_len, strs_elem, ints_len, ints_elem, items_list, fld_agg, elem_list, toStr_sc, toInt_sc, toBool_sc, headD_one, nat_int, get_bt, decide_eq_true_eq, decide_eq_false_iff_not, decide_true, decide_false, if_true, if_false, ite_self, Bool.not_true, Bool.not_false, Bool.false_eq_true, Bool.true_eq_false, Bool.true_and, Bool.false_and, Bool.and_true, Bool.and_false, not_true, not_false_iff, Option.bind_some, nn, toList_inj, Bool.not_eq_true', Bool.not_eq_false', Int.le_refl, and_self, true_and, and_true, false_and, and_false, bne_self_eq_false, beq_self_eq_true, Int.reduceEq, Nat.reduceEqDiff, List.length_singleton, List.tail_cons, Int.reduceLE, Int.reduceLT, decide_eq_true_eq]; exact Ev2.now _
    simp only [h1, h2, eq_true (show (97 ≤ c ∧ c ≤ 122) by omega), strs_len, strs_elem, ints_len, ints_elem, items_list, fld_agg, elem_list, toStr_sc, toInt_sc, toBool_sc, headD_one, nat_int, get_bt, decide_eq_true_eq, decide_eq_false_iff_not, decide_true, decide_false, if_true, if_false, ite_self, Bool.not_true, Bool.not_false, Bool.false_eq_true, Bool.true_eq_false, Bool.true_and, Bool.false_and, Bool.and_true, Bool.and_false, not_true, not_false_iff, Option.bind_some, nn, toList_inj, Bool.not_eq_true', Bool.not_eq_false', Int.le_refl, and_self, true_and, and_true, false_and, and_false, bne_self_eq_false, beq_self_eq_true, Int.reduceEq, Nat.reduceEqDiff, List.length_singleton, List.tail_cons, Int.reduceLE, Int.reduceLT, decide_eq_true_eq]
    exact ih _ (at_step hp)
theorem specLetters_ev (s : ByteArray) (hs : s.size ≤ 9223372036854775807) (m : Int) : Ev (fun N => spec_l1Letters.f N [strP s, intP m]) [boolP (lowB (bytesOf s) && decide ((s.size : Int) ≤ m))] := by
  simp only [spec_l1Letters.f_eq, strs_len, strs_elem, ints_len, ints_elem, items_list, fld_agg, elem_list, toStr_sc, toInt_sc, toBool_sc, headD_one, nat_int, get_bt, decide_eq_true_eq, decide_eq_false_iff_not, decide_true, decide_false, if_true, if_false, ite_self, Bool.not_true, Bool.not_false, Bool.false_eq_true, Bool.true_eq_false, Bool.true_and, Bool.false_and, Bool.and_true, Bool.and_false, not_true, not_false_iff, Option.bind_some, nn, toList_inj, Bool.not_eq_true', Bool.not_eq_false', Int.le_refl, and_self, true_and, and_true, false_and, and_false, bne_self_eq_false, beq_self_eq_true, Int.reduceEq, Nat.reduceEqDiff, List.length_singleton, List.tail_cons, Int.reduceLE, Int.reduceLT, decide_eq_true_eq]
  exact (specLetters_loop s hs m (bytesOf s) [] rfl).diag
theorem specWord_ev (s : ByteArray) (hs : s.size ≤ 9223372036854775807) : Ev (fun N => spec_l1Word.f N [strP s]) [boolP (isWord s)] := by
  simp only [spec_l1Word.f_eq, strs_len, strs_elem, ints_len, ints_elem, items_list, fld_agg, elem_list, toStr_sc, toInt_sc, toBool_sc, headD_one, nat_int, get_bt, decide_eq_true_eq, decide_eq_false_iff_not, decide_true, decide_false, if_true, if_false, ite_self, Bool.not_true, Bool.not_false, Bool.false_eq_true, Bool.true_eq_false, Bool.true_and, Bool.false_and, Bool.and_true, Bool.and_false, not_true, not_false_iff, Option.bind_some, nn, toList_inj, Bool.not_eq_true', Bool.not_eq_false', Int.le_refl, and_self, true_and, and_true, false_and, and_false, bne_self_eq_false, beq_self_eq_true, Int.reduceEq, Nat.reduceEqDiff, List.length_singleton, List.tail_cons, Int.reduceLE, Int.reduceLT, decide_eq_true_eq]
  by_cases h : (0 : Int) < (s.size : Int)
  · simp only [h, strs_len, strs_elem, ints_len, ints_elem, items_list, fld_agg, elem_list, toStr_sc, toInt_sc, toBool_sc, headD_one, nat_int, get_bt, decide_eq_true_eq, decide_eq_false_iff_not, decide_true, decide_false, if_true, if_false, ite_self, Bool.not_true, Bool.not_false, Bool.false_eq_true, Bool.true_eq_false, Bool.true_and, Bool.false_and, Bool.and_true, Bool.and_false, not_true, not_false_iff, Option.bind_some, nn, toList_inj, Bool.not_eq_true', Bool.not_eq_false', Int.le_refl, and_self, true_and, and_true, false_and, and_false, bne_self_eq_false, beq_self_eq_true, Int.reduceEq, Nat.reduceEqDiff, List.length_singleton, List.tail_cons, Int.reduceLE, Int.reduceLT, decide_eq_true_eq]
    refine Ev.bind (specLetters_ev s hs 12) ?_
    refine Ev.ext (Ev.now _) ?_
    simp only [strs_len, strs_elem, ints_len, ints_elem, items_list, fld_agg, elem_list, toStr_sc, toInt_sc, toBool_sc, headD_one, nat_int, get_bt, decide_eq_true_eq, decide_eq_false_iff_not, decide_true, decide_false, if_true, if_false, ite_self, Bool.not_true, Bool.not_false, Bool.false_eq_true, Bool.true_eq_false, Bool.true_and, Bool.false_and, Bool.and_true, Bool.and_false, not_true, not_false_iff, Option.bind_some, nn, toList_inj, Bool.not_eq_true', Bool.not_eq_false', Int.le_refl, and_self, true_and, and_true, false_and, and_false, bne_self_eq_false, beq_self_eq_true, Int.reduceEq, Nat.reduceEqDiff, List.length_singleton, List.tail_cons, Int.reduceLE, Int.reduceLT, decide_eq_true_eq]
    unfold isWord
    rw [Bool.and_comm]
    show [boolP (_ && lowB _)] = [boolP (decide _ && lowB _)]
    have : decide ((s.size : Int) ≤ 12) = decide (1 ≤ s.size ∧ s.size ≤ 12) := decide_eq_decide.2 (by omega)
    rw [this]
  · simp only [h, strs_len, strs_elem, ints_len, ints_elem, items_list, fld_agg, elem_list, toStr_sc, toInt_sc, toBool_sc, headD_one, nat_int, get_bt, decide_eq_true_eq, decide_eq_false_iff_not, decide_true, decide_false, if_true, if_false, ite_self, Bool.not_true, Bool.not_false, Bool.false_eq_true, Bool.true_eq_false, Bool.true_and, Bool.false_and, Bool.and_true, Bool.and_false, not_true, not_false_iff, Option.bind_some, nn, toList_inj, Bool.not_eq_true', Bool.not_eq_false', Int.le_refl, and_self, true_and, and_true, false_and, and_false, bne_self_eq_false, beq_self_eq_true, Int.reduceEq, Nat.reduceEqDiff, List.length_singleton, List.tail_cons, Int.reduceLE, Int.reduceLT, decide_eq_true_eq]
    refine Ev.ext (Ev.now _) ?_
    unfold isWord
    rw [decide_eq_false (show ¬ (1 ≤ s.size ∧ s.size ≤ 12) by omega), Bool.false_and]
theorem szs_in {l : List ByteArray} {a b : Nat} (h : (l.all fun s => decide (a ≤ s.size ∧ s.size ≤ b)) = true) : ∀ s ∈ l, a ≤ s.size ∧ s.size ≤ b := fun s hs => of_decide_eq_true (List.all_eq_true.1 h s hs)
theorem least_val (a b : Int) (N : Nat) : spec_l1Least.f N [intP a, intP b] = some [intP (if a < b then a else b)] := by
  simp only [spec_l1Least.f_eq, strs_len, strs_elem, ints_len, ints_elem, items_list, fld_agg, elem_list, toStr_sc, toInt_sc, toBool_sc, headD_one, nat_int, get_bt, decide_eq_true_eq, decide_eq_false_iff_not, decide_true, decide_false, if_true, if_false, ite_self, Bool.not_true, Bool.not_false, Bool.false_eq_true, Bool.true_eq_false, Bool.true_and, Bool.false_and, Bool.and_true, Bool.and_false, not_true, not_false_iff, Option.bind_some, nn, toList_inj, Bool.not_eq_true', Bool.not_eq_false', Int.le_refl, and_self, true_and, and_true, false_and, and_false, bne_self_eq_false, beq_self_eq_true, Int.reduceEq, Nat.reduceEqDiff, List.length_singleton, List.tail_cons, Int.reduceLE, Int.reduceLT, decide_eq_true_eq]
  by_cases h : a < b <;> simp only [h, strs_len, strs_elem, ints_len, ints_elem, items_list, fld_agg, elem_list, toStr_sc, toInt_sc, toBool_sc, headD_one, nat_int, get_bt, decide_eq_true_eq, decide_eq_false_iff_not, decide_true, decide_false, if_true, if_false, ite_self, Bool.not_true, Bool.not_false, Bool.false_eq_true, Bool.true_eq_false, Bool.true_and, Bool.false_and, Bool.and_true, Bool.and_false, not_true, not_false_iff, Option.bind_some, nn, toList_inj, Bool.not_eq_true', Bool.not_eq_false', Int.le_refl, and_self, true_and, and_true, false_and, and_false, bne_self_eq_false, beq_self_eq_true, Int.reduceEq, Nat.reduceEqDiff, List.length_singleton, List.tail_cons, Int.reduceLE, Int.reduceLT, decide_eq_true_eq]
theorem extract_all (s : ByteArray) : s.extract 0 s.size = s := by
  simp
theorem word_loop {b : PV} (hb : Code1 b) : ∀ (c p : Nat) (x : ByteArray), p + c < 1000000000 → x.size + 2 * c ≤ 12 → (1 ≤ c ∨ 1 ≤ x.size) → ∃ (r : ByteArray) (q : Nat), q ≤ p + c ∧ 1 ≤ r.size ∧ r.size ≤ 12 ∧ Ev2 (fun N n => spec_l13Word.l0 N n x (c : Int) b (p : Int)) [strP r, rdP b (q : Int)] := by
  intro c
  induction c with
  | zero =>
    intro p x hp hx h1
    refine ⟨x, p, by omega, by omega, by omega, Ev2.succ ?_⟩
    have h0 : ¬ (0 : Int) < ((0 : Nat) : Int) := by omega
    have hm : (if (x.size : Int) < 12 then (x.size : Int) else 12) = (x.size : Int) := by split <;> omega
    simp only [spec_l13Word.l0_eq, h0, least_val, hm, strs_len, strs_elem, ints_len, ints_elem, items_list, fld_agg, elem_list, toStr_sc, toInt_sc, toBool_sc, headD_one, nat_int, get_bt, decide_eq_true_eq, decide_eq_false_iff_not, decide_true, decide_false, if_true, if_false, ite_self, Bool.not_true, Bool.not_false, Bool.false_eq_true, Bool.true_eq_false, Bool.true_and, Bool.false_and, Bool.and_true, Bool.and_false, not_true, not_false_iff, Option.bind_some, nn, toList_inj, Bool.not_eq_true', Bool.not_eq_false', Int.le_refl, and_self, true_and, and_true, false_and, and_false, bne_self_eq_false, beq_self_eq_true, Int.reduceEq, Nat.reduceEqDiff, List.length_singleton, List.tail_cons, Int.reduceLE, Int.reduceLT, decide_eq_true_eq, extract_all, rd_agg]
    exact Ev2.now _
  | succ c ih =>
    intro p x hp hx h1
    obtain ⟨s, hs, hf⟩ := of_ev hb (p := (p : Int)) (by omega) [ByteArray.mk #[97], ByteArray.mk #[98], ByteArray.mk #[99], ByteArray.mk #[97, 98], ByteArray.mk #[116]] (by simp)
    have hsz : 1 ≤ s.size ∧ s.size ≤ 2 := by
      have ha : ∀ s ∈ [ByteArray.mk #[97], ByteArray.mk #[98], ByteArray.mk #[99], ByteArray.mk #[97, 98], ByteArray.mk #[116]], 1 ≤ s.size ∧ s.size ≤ 2 := szs_in rfl
      exact ha s hs
    obtain ⟨r, q, h2, h3, h4, h5⟩ := ih (p + 1) (x ++ s) (by omega) (by rw [ByteArray.size_append]; omega) (.inr (by rw [ByteArray.size_append]; omega))
    refine ⟨r, q, by omega, h3, h4, Ev2.succ ?_⟩
    have h0 : (0 : Int) < ((c + 1 : Nat) : Int) := by omega
    have hw : IntKind.i64.wrap (((c + 1 : Nat) : Int) - 1) = (c : Int) := by rw [wrap_id (by omega) (by omega)]; omega
    have hl : x.size + s.size ≤ 9223372036854775807 := by omega
    have hp1 : ((p : Int) + 1) = ((p + 1 : Nat) : Int) := by omega
    have e : PV.list [PV.sc (.string (ByteArray.mk #[97])), PV.sc (.string (ByteArray.mk #[98])), PV.sc (.string (ByteArray.mk #[99])), PV.sc (.string (ByteArray.mk #[97, 98])), PV.sc (.string (ByteArray.mk #[116]))] = strsP [ByteArray.mk #[97], ByteArray.mk #[98], ByteArray.mk #[99], ByteArray.mk #[97, 98], ByteArray.mk #[116]] := rfl
    simp only [spec_l13Word.l0_eq, h0, hw, hl, e, rd_agg, hf, rd_f0, rd_f1, hp1, strs_len, strs_elem, ints_len, ints_elem, items_list, fld_agg, elem_list, toStr_sc, toInt_sc, toBool_sc, headD_one, nat_int, get_bt, decide_eq_true_eq, decide_eq_false_iff_not, decide_true, decide_false, if_true, if_false, ite_self, Bool.not_true, Bool.not_false, Bool.false_eq_true, Bool.true_eq_false, Bool.true_and, Bool.false_and, Bool.and_true, Bool.and_false, not_true, not_false_iff, Option.bind_some, nn, toList_inj, Bool.not_eq_true', Bool.not_eq_false', Int.le_refl, and_self, true_and, and_true, false_and, and_false, bne_self_eq_false, beq_self_eq_true, Int.reduceEq, Nat.reduceEqDiff, List.length_singleton, List.tail_cons, Int.reduceLE, Int.reduceLT, decide_eq_true_eq]
    exact h5
def wordsL : List ByteArray := [ByteArray.mk #[99, 97, 116], ByteArray.mk #[99, 97, 116, 115], ByteArray.mk #[97, 99, 116], ByteArray.mk #[100, 111], ByteArray.mk #[100, 111, 105, 110, 103], ByteArray.mk #[103, 111], ByteArray.mk #[117, 110, 100, 111], ByteArray.mk #[116, 114, 121], ByteArray.mk #[116, 114, 105, 101, 115], ByteArray.mk #[97], ByteArray.mk #[98, 97, 107, 101], ByteArray.mk #[98, 97, 107, 105, 110, 103], ByteArray.mk #[116, 97, 99, 116], ByteArray.mk #[99, 97, 114, 116], ByteArray.mk #[97, 98, 99, 97, 98, 99, 97, 98, 99, 97, 98, 99]]
theorem word_ev {b : PV} (hb : Code1 b) (p : Nat) (hp : p < 900000000) : ∃ (r : ByteArray) (q : Nat), q ≤ p + 10 ∧ 1 ≤ r.size ∧ r.size ≤ 12 ∧ Ev (fun N => spec_l13Word.f N [rdP b (p : Int)]) [strP r, rdP b (q : Int)] := by
  obtain ⟨k, hk, hf⟩ := pick_ev hb (p := (p : Int)) (n := 3) (by omega) (by omega)
  by_cases h0 : k = 0
  · obtain ⟨k2, hk2, hf2⟩ := pick_ev hb (p := (p : Int) + 1) (n := 5) (by omega) (by omega)
    obtain ⟨j, rfl⟩ := Int.eq_ofNat_of_zero_le hk2.1
    obtain ⟨r, q, h2, h3, h4, h5⟩ := word_loop hb (1 + j) (p + 2) ⟨#[]⟩ (by omega) (by have : (ByteArray.mk #[]).size = 0 := rfl; omega) (.inl (by omega))
    refine ⟨r, q, by omega, h3, h4, ?_⟩
    have hw : IntKind.i64.wrap (1 + (j : Int)) = ((1 + j : Nat) : Int) := by rw [wrap_id (by omega) (by omega)]; omega
    have hp1 : ((p : Int) + 1 + 1) = ((p + 2 : Nat) : Int) := by omega
    simp only [spec_l13Word.f_eq, rd_f0, rd_f1, rd_agg, hf, h0, hf2, hw, hp1, strs_len, strs_elem, ints_len, ints_elem, items_list, fld_agg, elem_list, toStr_sc, toInt_sc, toBool_sc, headD_one, nat_int, get_bt, decide_eq_true_eq, decide_eq_false_iff_not, decide_true, decide_false, if_true, if_false, ite_self, Bool.not_true, Bool.not_false, Bool.false_eq_true, Bool.true_eq_false, Bool.true_and, Bool.false_and, Bool.and_true, Bool.and_false, not_true, not_false_iff, Option.bind_some, nn, toList_inj, Bool.not_eq_true', Bool.not_eq_false', Int.le_refl, and_self, true_and, and_true, false_and, and_false, bne_self_eq_false, beq_self_eq_true, Int.reduceEq, Nat.reduceEqDiff, List.length_singleton, List.tail_cons, Int.reduceLE, Int.reduceLT, decide_eq_true_eq]
    exact h5.diag
  · obtain ⟨s, hs, hf2⟩ := of_ev hb (p := (p : Int) + 1) (by omega) wordsL (by simp [wordsL])
    have ha : ∀ s ∈ wordsL, 1 ≤ s.size ∧ s.size ≤ 12 := szs_in rfl
    refine ⟨s, p + 2, by omega, (ha s hs).1, (ha s hs).2, ?_⟩
    have hp1 : ((p : Int) + 1 + 1) = ((p + 2 : Nat) : Int) := by omega
    have e : PV.list [PV.sc (.string (ByteArray.mk #[99, 97, 116])), PV.sc (.string (ByteArray.mk #[99, 97, 116, 115])), PV.sc (.string (ByteArray.mk #[97, 99, 116])), PV.sc (.string (ByteArray.mk #[100, 111])), PV.sc (.string (ByteArray.mk #[100, 111, 105, 110, 103])), PV.sc (.string (ByteArray.mk #[103, 111])), PV.sc (.string (ByteArray.mk #[117, 110, 100, 111])), PV.sc (.string (ByteArray.mk #[116, 114, 121])), PV.sc (.string (ByteArray.mk #[116, 114, 105, 101, 115])), PV.sc (.string (ByteArray.mk #[97])), PV.sc (.string (ByteArray.mk #[98, 97, 107, 101])), PV.sc (.string (ByteArray.mk #[98, 97, 107, 105, 110, 103])), PV.sc (.string (ByteArray.mk #[116, 97, 99, 116])), PV.sc (.string (ByteArray.mk #[99, 97, 114, 116])), PV.sc (.string (ByteArray.mk #[97, 98, 99, 97, 98, 99, 97, 98, 99, 97, 98, 99]))] = strsP wordsL := rfl
    simp only [spec_l13Word.f_eq, rd_f0, rd_f1, rd_agg, hf, h0, e, hf2, hp1, strs_len, strs_elem, ints_len, ints_elem, items_list, fld_agg, elem_list, toStr_sc, toInt_sc, toBool_sc, headD_one, nat_int, get_bt, decide_eq_true_eq, decide_eq_false_iff_not, decide_true, decide_false, if_true, if_false, ite_self, Bool.not_true, Bool.not_false, Bool.false_eq_true, Bool.true_eq_false, Bool.true_and, Bool.false_and, Bool.and_true, Bool.and_false, not_true, not_false_iff, Option.bind_some, nn, toList_inj, Bool.not_eq_true', Bool.not_eq_false', Int.le_refl, and_self, true_and, and_true, false_and, and_false, bne_self_eq_false, beq_self_eq_true, Int.reduceEq, Nat.reduceEqDiff, List.length_singleton, List.tail_cons, Int.reduceLE, Int.reduceLT, decide_eq_true_eq]
    exact Ev.now _
/-! #### drawn words of one's own -/
def anyL : List ByteArray := [ByteArray.mk #[], ByteArray.mk #[67, 97, 116], ByteArray.mk #[97, 32, 98], ByteArray.mk #[97, 98, 99, 97, 98, 99, 97, 98, 99, 97, 98, 99, 97], ByteArray.mk #[120, 49], ByteArray.mk #[45]]
/-! #### drawn patterns -/
structure Pat where
  l : ByteArray
  ns : List Int
def patP (p : Pat) : PV := .agg [strP p.l, intsP p.ns]
def patsP (l : List Pat) : PV := .list (l.map patP)
theorem pat_agg (p : Pat) : PV.agg [strP p.l, intsP p.ns] = patP p := rfl
theorem pat_mk (l : ByteArray) (ns : List Int) : PV.agg [strP l, intsP ns] = patP ⟨l, ns⟩ := rfl
theorem pat_f0 (p : Pat) : (patP p).fld 0 = strP p.l := rfl
theorem pat_f1 (p : Pat) : (patP p).fld 1 = intsP p.ns := rfl
theorem pats_len (l : List Pat) : (patsP l).items.length = l.length := by simp [patsP, PV.items]
theorem pats_elem {l pre rest : List Pat} {p : Pat} (h : l = pre ++ p :: rest) : (patsP l).elem pre.length = patP p := by
  subst h
  simp [patsP, PV.elem, PV.items, List.getD_eq_getElem?_getD]
def PatB (p : Pat) : Prop := p.l.size ≤ 100 ∧ p.ns.length ≤ 100 ∧ ∀ v ∈ p.ns, -100 ≤ v ∧ v ≤ 100
def PatsB (l : List Pat) : Prop := l.length ≤ 100 ∧ ∀ p ∈ l, PatB p
theorem one_ev {b : PV} (hb : Code1 b) {p : Int} (hp : 0 ≤ p ∧ p < 1000000000) (l : List Int) (hl : 1 ≤ l.length ∧ l.length < 4611686018427387904) : ∃ v ∈ l, ∀ N, spec_l1Rd_one.f N [rdP b p, intsP l] = some [intP v, rdP b (p + 1)] := by
  obtain ⟨k, hk, hf⟩ := pick_ev hb hp (n := (l.length : Int)) (by omega)
  obtain ⟨j, rfl⟩ := Int.eq_ofNat_of_zero_le hk.1
  have hj : j < l.length := by omega
  refine ⟨l.getD j 0, ?_, fun N => ?_⟩
  · rw [List.getD_eq_getElem?_getD, List.getElem?_eq_getElem hj]; exact List.getElem_mem hj
  · simp only [spec_l1Rd_one.f_eq, rd_f0, rd_f1, rd_agg, hf, hk, strs_len, strs_elem, ints_len, ints_elem, items_list, fld_agg, elem_list, toStr_sc, toInt_sc, toBool_sc, headD_one, nat_int, get_bt, decide_eq_true_eq, decide_eq_false_iff_not, decide_true, decide_false, if_true, if_false, ite_self, Bool.not_true, Bool.not_false, Bool.false_eq_true, Bool.true_eq_false, Bool.true_and, Bool.false_and, Bool.and_true, Bool.and_false, not_true, not_false_iff, Option.bind_some, nn, toList_inj, Bool.not_eq_true', Bool.not_eq_false', Int.le_refl, and_self, true_and, and_true, false_and, and_false, bne_self_eq_false, beq_self_eq_true, Int.reduceEq, Nat.reduceEqDiff, List.length_singleton, List.tail_cons, Int.reduceLE, Int.reduceLT, decide_eq_true_eq]
def patTexts : List ByteArray := [ByteArray.mk #[49, 110, 97], ByteArray.mk #[50, 99, 116], ByteArray.mk #[97, 49, 98], ByteArray.mk #[49, 107, 105], ByteArray.mk #[46, 117, 110, 49], ByteArray.mk #[52, 116, 115, 46], ByteArray.mk #[111, 49, 105], ByteArray.mk #[99, 49, 116], ByteArray.mk #[97, 50, 98, 49, 99], ByteArray.mk #[49, 105, 110, 103, 46], ByteArray.mk #[51, 115, 46]]
def patBb (p : Pat) : Bool := decide (p.l.size ≤ 90) && decide (1 ≤ p.ns.length ∧ p.ns.length ≤ 90) && p.ns.all fun v => decide (-100 ≤ v ∧ v ≤ 100)
theorem get_mk {s : ByteArray} (p : Pat) (hb : patBb p = true) (h : ∀ n, spec_PatternGet.f (n + 30) [strP s] = some [patP p, boolP true]) :
    ∃ p : Pat, (p.l.size ≤ 90 ∧ 1 ≤ p.ns.length ∧ p.ns.length ≤ 90 ∧ ∀ v ∈ p.ns, -100 ≤ v ∧ v ≤ 100) ∧ Ev (fun N => spec_PatternGet.f N [strP s]) [patP p, boolP true] := by
  simp only [patBb, Bool.and_eq_true, decide_eq_true_eq, List.all_eq_true] at hb
  refine ⟨p, ⟨hb.1.1, hb.1.2.1, hb.1.2.2, hb.2⟩, 30, fun N hN => ?_⟩
  obtain ⟨n, rfl⟩ := Nat.exists_eq_add_of_le hN
  rw [Nat.add_comm]; exact h n
theorem get_t0 (n : Nat) : spec_PatternGet.f (n + 30) [strP (ByteArray.mk #[49, 110, 97])] = some [patP ⟨⟨#[110, 97]⟩, [1, 0, 0]⟩, boolP true] := by kernel_rfl
theorem get_t1 (n : Nat) : spec_PatternGet.f (n + 30) [strP (ByteArray.mk #[50, 99, 116])] = some [patP ⟨⟨#[99, 116]⟩, [2, 0, 0]⟩, boolP true] := by kernel_rfl
theorem get_t2 (n : Nat) : spec_PatternGet.f (n + 30) [strP (ByteArray.mk #[97, 49, 98])] = some [patP ⟨⟨#[97, 98]⟩, [0, 1, 0]⟩, boolP true] := by kernel_rfl
theorem get_t3 (n : Nat) : spec_PatternGet.f (n + 30) [strP (ByteArray.mk #[49, 107, 105])] = some [patP ⟨⟨#[107, 105]⟩, [1, 0, 0]⟩, boolP true] := by kernel_rfl
theorem get_t4 (n : Nat) : spec_PatternGet.f (n + 30) [strP (ByteArray.mk #[46, 117, 110, 49])] = some [patP ⟨⟨#[46, 117, 110]⟩, [0, 0, 0, 1]⟩, boolP true] := by kernel_rfl
theorem get_t5 (n : Nat) : spec_PatternGet.f (n + 30) [strP (ByteArray.mk #[52, 116, 115, 46])] = some [patP ⟨⟨#[116, 115, 46]⟩, [4, 0, 0, 0]⟩, boolP true] := by kernel_rfl
theorem get_t6 (n : Nat) : spec_PatternGet.f (n + 30) [strP (ByteArray.mk #[111, 49, 105])] = some [patP ⟨⟨#[111, 105]⟩, [0, 1, 0]⟩, boolP true] := by kernel_rfl
theorem get_t7 (n : Nat) : spec_PatternGet.f (n + 30) [strP (ByteArray.mk #[99, 49, 116])] = some [patP ⟨⟨#[99, 116]⟩, [0, 1, 0]⟩, boolP true] := by kernel_rfl
theorem get_t8 (n : Nat) : spec_PatternGet.f (n + 30) [strP (ByteArray.mk #[97, 50, 98, 49, 99])] = some [patP ⟨⟨#[97, 98, 99]⟩, [0, 2, 1, 0]⟩, boolP true] := by kernel_rfl
theorem get_t9 (n : Nat) : spec_PatternGet.f (n + 30) [strP (ByteArray.mk #[49, 105, 110, 103, 46])] = some [patP ⟨⟨#[105, 110, 103, 46]⟩, [1, 0, 0, 0, 0]⟩, boolP true] := by kernel_rfl
theorem get_t10 (n : Nat) : spec_PatternGet.f (n + 30) [strP (ByteArray.mk #[51, 115, 46])] = some [patP ⟨⟨#[115, 46]⟩, [3, 0, 0]⟩, boolP true] := by kernel_rfl
theorem get_text : ∀ s ∈ patTexts, ∃ p : Pat, (p.l.size ≤ 90 ∧ 1 ≤ p.ns.length ∧ p.ns.length ≤ 90 ∧ ∀ v ∈ p.ns, -100 ≤ v ∧ v ≤ 100) ∧ Ev (fun N => spec_PatternGet.f N [strP s]) [patP p, boolP true] := by
  intro s hs
  simp only [patTexts, List.mem_cons, List.not_mem_nil, or_false] at hs
  rcases hs with rfl | rfl | rfl | rfl | rfl | rfl | rfl | rfl | rfl | rfl | rfl
  · exact get_mk ⟨⟨#[110, 97]⟩, [1, 0, 0]⟩ rfl get_t0
  · exact get_mk ⟨⟨#[99, 116]⟩, [2, 0, 0]⟩ rfl get_t1
  · exact get_mk ⟨⟨#[97, 98]⟩, [0, 1, 0]⟩ rfl get_t2
  · exact get_mk ⟨⟨#[107, 105]⟩, [1, 0, 0]⟩ rfl get_t3
  · exact get_mk ⟨⟨#[46, 117, 110]⟩, [0, 0, 0, 1]⟩ rfl get_t4
  · exact get_mk ⟨⟨#[116, 115, 46]⟩, [4, 0, 0, 0]⟩ rfl get_t5
  · exact get_mk ⟨⟨#[111, 105]⟩, [0, 1, 0]⟩ rfl get_t6
  · exact get_mk ⟨⟨#[99, 116]⟩, [0, 1, 0]⟩ rfl get_t7
  · exact get_mk ⟨⟨#[97, 98, 99]⟩, [0, 2, 1, 0]⟩ rfl get_t8
  · exact get_mk ⟨⟨#[105, 110, 103, 46]⟩, [1, 0, 0, 0, 0]⟩ rfl get_t9
  · exact get_mk ⟨⟨#[115, 46]⟩, [3, 0, 0]⟩ rfl get_t10
theorem pattern_ev {b : PV} (hb : Code1 b) (q : Nat) (hq : q < 900000000) : ∃ p : Pat, (p.l.size ≤ 90 ∧ 1 ≤ p.ns.length ∧ p.ns.length ≤ 90 ∧ ∀ v ∈ p.ns, -100 ≤ v ∧ v ≤ 100) ∧ Ev (fun N => spec_l13Pattern.f N [rdP b (q : Int)]) [patP p, rdP b ((q + 1 : Nat) : Int)] := by
  obtain ⟨s, hs, hf⟩ := of_ev hb (p := (q : Int)) (by omega) patTexts (by simp [patTexts])
  obtain ⟨p, h1, h2⟩ := get_text s hs
  refine ⟨p, h1, ?_⟩
  have e : PV.list [PV.sc (.string (ByteArray.mk #[49, 110, 97])), PV.sc (.string (ByteArray.mk #[50, 99, 116])), PV.sc (.string (ByteArray.mk #[97, 49, 98])), PV.sc (.string (ByteArray.mk #[49, 107, 105])), PV.sc (.string (ByteArray.mk #[46, 117, 110, 49])), PV.sc (.string (ByteArray.mk #[52, 116, 115, 46])), PV.sc (.string (ByteArray.mk #[111, 49, 105])), PV.sc (.string (ByteArray.mk #[99, 49, 116])), PV.sc (.string (ByteArray.mk #[97, 50, 98, 49, 99])), PV.sc (.string (ByteArray.mk #[49, 105, 110, 103, 46])), PV.sc (.string (ByteArray.mk #[51, 115, 46]))] = strsP patTexts := rfl
  have hq1 : (q : Int) + 1 = ((q + 1 : Nat) : Int) := by omega
  rw [hq1] at hf
  simp only [spec_l13Pattern.f_eq, rd_f0, rd_f1, rd_agg, e, hf, List.headD_cons, List.tail_cons, headD_one, toStr_sc, toInt_sc, Option.bind_some]
  refine Ev.bind h2 ?_
  simp only [List.headD_cons, pat_f0, pat_f1, toStr_sc, pat_agg]
  exact Ev.now _
theorem anyPattern_ev {b : PV} (hb : Code1 b) (q : Nat) (hq : q < 800000000) : ∃ (p : Pat) (q' : Nat), q' ≤ q + 3 ∧ PatB p ∧ Ev (fun N => spec_l13AnyPattern.f N [rdP b (q : Int)]) [patP p, rdP b (q' : Int)] := by
  obtain ⟨p, ⟨h1, h2, h3, h4⟩, h5⟩ := pattern_ev hb q (by omega)
  obtain ⟨k, hk, hf⟩ := pick_ev hb (p := ((q + 1 : Nat) : Int)) (n := 10) (by omega) (by omega)
  have e1 : ((q + 1 : Nat) : Int) + 1 = ((q + 2 : Nat) : Int) := by omega
  have e2 : ((q + 2 : Nat) : Int) + 1 = ((q + 3 : Nat) : Int) := by omega
  rw [e1] at hf
  have hi : (intsP p.ns).items = p.ns.map intP := rfl
  have hl0 : ([] : List PV).length + (p.ns.map intP).length ≤ 17592186044416 := by simp; omega
  have hl1 : (([] : List PV) ++ p.ns.map intP).length + [PV.sc (.int .i64 1)].length ≤ 17592186044416 := by simp; omega
  simp only [spec_l13AnyPattern.f_eq, rd_f0, rd_f1, rd_agg, toInt_sc]
  by_cases k0 : k = 0
  · obtain ⟨s, hs, hg⟩ := of_ev hb (p := ((q + 2 : Nat) : Int)) (by omega) [ByteArray.mk #[], ByteArray.mk #[65], ByteArray.mk #[97, 46, 98], ByteArray.mk #[46, 46], ByteArray.mk #[97, 98, 99, 100, 101, 102, 103, 104, 105]] (by simp)
    rw [e2] at hg
    have hsz : s.size ≤ 9 := by
      simp only [List.mem_cons, List.not_mem_nil, or_false] at hs
      rcases hs with rfl | rfl | rfl | rfl | rfl <;> simp [ByteArray.size]
    have e : PV.list [PV.sc (.string (ByteArray.mk #[])), PV.sc (.string (ByteArray.mk #[65])), PV.sc (.string (ByteArray.mk #[97, 46, 98])), PV.sc (.string (ByteArray.mk #[46, 46])), PV.sc (.string (ByteArray.mk #[97, 98, 99, 100, 101, 102, 103, 104, 105]))] = strsP [ByteArray.mk #[], ByteArray.mk #[65], ByteArray.mk #[97, 46, 98], ByteArray.mk #[46, 46], ByteArray.mk #[97, 98, 99, 100, 101, 102, 103, 104, 105]] := rfl
    refine ⟨⟨s, p.ns⟩, q + 3, by omega, ⟨by show s.size ≤ 100; omega, by show p.ns.length ≤ 100; omega, h4⟩, ?_⟩
    refine Ev.bind h5 ?_
    simp only [List.headD_cons, List.tail_cons, pat_f0, pat_f1, hi, hl0, rd_f0, rd_f1, rd_agg, toInt_sc, toStr_sc, hf, k0, e, hg, List.nil_append, Option.bind_some, decide_true, if_true]
    exact Ev.now _
  by_cases k1 : k = 1
  · obtain ⟨v, hv, hg⟩ := one_ev hb (p := ((q + 2 : Nat) : Int)) (by omega) [-1, 10, 9] (by simp)
    rw [e2] at hg
    have hvv : -100 ≤ v ∧ v ≤ 100 := by
      simp only [List.mem_cons, List.not_mem_nil, or_false] at hv
      omega
    have e : PV.list [PV.sc (.int .i64 (-1)), PV.sc (.int .i64 10), PV.sc (.int .i64 9)] = intsP [-1, 10, 9] := rfl
    have z : ¬ ((1 : Int) = 0) := by omega
    have c1 : (0 : Int) < ((([] : List PV) ++ p.ns.map intP).length : Int) := by simp; omega
    have hset : PV.list ((p.ns.map intP).set 0 (intP v)) = intsP (p.ns.set 0 v) := by simp [intsP, List.map_set]
    simp only [List.nil_append] at c1
    refine ⟨⟨p.l, p.ns.set 0 v⟩, q + 3, by omega, ⟨by show p.l.size ≤ 100; omega, by show (p.ns.set 0 v).length ≤ 100; rw [List.length_set]; omega, fun x hx => ?_⟩, ?_⟩
    · rcases List.mem_or_eq_of_mem_set hx with h | h
      · exact h4 x h
      · rw [h]; exact hvv
    refine Ev.bind h5 ?_
    simp only [List.headD_cons, List.tail_cons, pat_f0, pat_f1, hi, hl0, rd_f0, rd_f1, rd_agg, toInt_sc, toStr_sc, hf, k1, z, e, hg, c1, hset, List.nil_append, Option.bind_some, decide_true, decide_false, Bool.false_eq_true, if_true, if_false, Int.le_refl, Nat.le_refl]
    exact Ev.now _
  by_cases k2 : k = 2
  · have z0 : ¬ ((2 : Int) = 0) := by omega
    have z1 : ¬ ((2 : Int) = 1) := by omega
    have happ : PV.list (p.ns.map intP ++ [PV.sc (.int .i64 1)]) = intsP (p.ns ++ [1]) := by simp [intsP]
    simp only [List.nil_append] at hl1
    refine ⟨⟨p.l, p.ns ++ [1]⟩, q + 2, by omega, ⟨by show p.l.size ≤ 100; omega, by show (p.ns ++ [1]).length ≤ 100; simp; omega, fun x hx => ?_⟩, ?_⟩
    · rcases List.mem_append.1 hx with h | h
      · exact h4 x h
      · simp only [List.mem_singleton] at h; omega
    refine Ev.bind h5 ?_
    simp only [List.headD_cons, List.tail_cons, pat_f0, pat_f1, hi, hl0, hl1, happ, rd_f0, rd_f1, rd_agg, toInt_sc, toStr_sc, hf, k2, z0, z1, List.nil_append, Option.bind_some, decide_true, decide_false, Bool.false_eq_true, if_true, if_false]
    exact Ev.now _
  · refine ⟨p, q + 2, by omega, ⟨by omega, by omega, h4⟩, ?_⟩
    refine Ev.bind h5 ?_
    have hl2 : PV.list (p.ns.map intP) = intsP p.ns := rfl
    simp only [List.headD_cons, List.tail_cons, pat_f0, pat_f1, hi, hl0, hl2, rd_f0, rd_f1, rd_agg, pat_agg, toInt_sc, toStr_sc, hf, k0, k1, k2, List.nil_append, Option.bind_some, decide_true, decide_false, Bool.false_eq_true, if_true, if_false]
    exact Ev.now _
theorem pats_app (l : List Pat) (p : Pat) : l.map patP ++ [patP p] = (l ++ [p]).map patP := by simp
theorem patterns_l1 {b : PV} (hb : Code1 b) : ∀ (d q : Nat) (l : List Pat), l.length + d = 22 → q + 3 * d < 700000000 → (∀ p ∈ l, PatB p) → ∃ (l' : List Pat) (q' : Nat), q' ≤ q + 3 * d + 1 ∧ PatsB l' ∧ Ev2 (fun N n => spec_l13Patterns.l1 N n b (q : Int) (l.map patP)) [patsP l', rdP b (q' : Int)] := by
  intro d
  induction d with
  | zero =>
    intro q l hl hq hp
    obtain ⟨k, hk, hf⟩ := pick_ev hb (p := (q : Int)) (n := 2) (by omega) (by omega)
    have e1 : (q : Int) + 1 = ((q + 1 : Nat) : Int) := by omega
    rw [e1] at hf
    refine ⟨l, q + 1, by omega, ⟨by omega, hp⟩, Ev2.succ ?_⟩
    have wk : IntKind.i64.wrap (20 + k) = 20 + k := wrap_id (by omega) (by omega)
    have z : ¬ (((l.map patP).length : Nat) : Int) < 20 + k := by rw [List.length_map]; omega
    simp only [spec_l13Patterns.l1_eq, rd_agg, hf, headD_one, List.headD_cons, List.tail_cons, rd_f1, toInt_sc, wk, z, Option.bind_some, decide_false, Bool.false_eq_true, if_false]
    exact Ev2.now _
  | succ d ih =>
    intro q l hl hq hp
    obtain ⟨k, hk, hf⟩ := pick_ev hb (p := (q : Int)) (n := 2) (by omega) (by omega)
    have e1 : (q : Int) + 1 = ((q + 1 : Nat) : Int) := by omega
    rw [e1] at hf
    have wk : IntKind.i64.wrap (20 + k) = 20 + k := wrap_id (by omega) (by omega)
    by_cases z : (((l.map patP).length : Nat) : Int) < 20 + k
    · obtain ⟨p, ⟨h1, h2, h3, h4⟩, h5⟩ := pattern_ev hb (q + 1) (by omega)
      obtain ⟨l', q', i1, i2, i3⟩ := ih (q + 1 + 1) (l ++ [p]) (by simp; omega) (by omega) (fun x hx => by
        rcases List.mem_append.1 hx with h | h
        · exact hp x h
        · simp only [List.mem_singleton] at h; subst h; exact ⟨by omega, by omega, h4⟩)
      refine ⟨l', q', by omega, i2, Ev2.succ ?_⟩
      have c1 : (l.map patP).length + [patP p].length ≤ 3518437208883 := by simp; omega
      simp only [spec_l13Patterns.l1_eq, rd_agg, hf, headD_one, List.headD_cons, List.tail_cons, rd_f1, toInt_sc, wk, z, Option.bind_some, decide_true, if_true]
      refine Ev2.bind h5 ?_
      simp only [List.headD_cons, List.tail_cons, pat_f0, pat_f1, toStr_sc, pat_agg, rd_f1, toInt_sc, c1, pats_app, if_true]
      exact i3
    · refine ⟨l, q + 1, by omega, ⟨by omega, hp⟩, Ev2.succ ?_⟩
      simp only [spec_l13Patterns.l1_eq, rd_agg, hf, headD_one, List.headD_cons, List.tail_cons, rd_f1, toInt_sc, wk, z, Option.bind_some, decide_false, Bool.false_eq_true, if_false]
      exact Ev2.now _
theorem patterns_l0 {b : PV} (hb : Code1 b) : ∀ (c q : Nat) (l : List Pat), l.length + c ≤ 10 → q + 3 * c < 600000000 → (∀ p ∈ l, PatB p) → ∃ (l' : List Pat) (q' : Nat), q' ≤ q + 3 * c + 100 ∧ PatsB l' ∧ Ev2 (fun N n => spec_l13Patterns.l0 N n (c : Int) b (q : Int) (l.map patP)) [patsP l', rdP b (q' : Int)] := by
  intro c
  induction c with
  | succ c ih =>
    intro q l hl hq hp
    obtain ⟨p, ⟨h1, h2, h3, h4⟩, h5⟩ := pattern_ev hb q (by omega)
    obtain ⟨l', q', i1, i2, i3⟩ := ih (q + 1) (l ++ [p]) (by simp; omega) (by omega) (fun x hx => by
      rcases List.mem_append.1 hx with h | h
      · exact hp x h
      · simp only [List.mem_singleton] at h; subst h; exact ⟨by omega, by omega, h4⟩)
    refine ⟨l', q', by omega, i2, Ev2.succ ?_⟩
    have z : (0 : Int) < ((c + 1 : Nat) : Int) := by omega
    have wc : IntKind.i64.wrap (((c + 1 : Nat) : Int) - 1) = (c : Int) := by rw [wrap_id (by omega) (by omega)]; omega
    have c1 : (l.map patP).length + [patP p].length ≤ 3518437208883 := by simp; omega
    simp only [spec_l13Patterns.l0_eq, z, decide_true, if_true, rd_agg]
    refine Ev2.bind h5 ?_
    simp only [List.headD_cons, List.tail_cons, pat_f0, pat_f1, toStr_sc, pat_agg, rd_f1, toInt_sc, c1, wc, pats_app, if_true]
    exact i3
  | zero =>
    intro q l hl hq hp
    obtain ⟨k, hk, hf⟩ := pick_ev hb (p := (q : Int)) (n := 20) (by omega) (by omega)
    have e1 : (q : Int) + 1 = ((q + 1 : Nat) : Int) := by omega
    rw [e1] at hf
    have z : ¬ (0 : Int) < ((0 : Nat) : Int) := by omega
    by_cases k0 : k = 0
    · obtain ⟨p, q1, h1, h2, h3⟩ := anyPattern_ev hb (q + 1) (by omega)
      obtain ⟨m, hm, hg⟩ := pick_ev hb (p := (q1 : Int)) (n := 30) (by omega) (by omega)
      have e2 : (q1 : Int) + 1 = ((q1 + 1 : Nat) : Int) := by omega
      rw [e2] at hg
      have hp' : ∀ x ∈ l ++ [p], PatB x := fun x hx => by
        rcases List.mem_append.1 hx with h | h
        · exact hp x h
        · simp only [List.mem_singleton] at h; subst h; exact h2
      have c1 : (l.map patP).length + [patP p].length ≤ 3518437208883 := by simp; omega
      by_cases m0 : m = 0
      · obtain ⟨l', q', i1, i2, i3⟩ := patterns_l1 hb (22 - (l ++ [p]).length) (q1 + 1) (l ++ [p]) (by simp; omega) (by omega) hp'
        refine ⟨l', q', by omega, i2, Ev2.succ ?_⟩
        simp only [spec_l13Patterns.l0_eq, z, rd_agg, hf, k0, headD_one, List.headD_cons, List.tail_cons, rd_f1, toInt_sc, Option.bind_some, decide_true, decide_false, Bool.false_eq_true, if_true, if_false]
        refine Ev2.bind h3 ?_
        simp only [List.headD_cons, List.tail_cons, pat_f0, pat_f1, toStr_sc, pat_agg, rd_f1, rd_agg, toInt_sc, c1, hg, m0, pats_app, Option.bind_some, decide_true, if_true]
        exact i3.after
      · refine ⟨l ++ [p], q1 + 1, by omega, ⟨by simp; omega, hp'⟩, Ev2.succ ?_⟩
        simp only [spec_l13Patterns.l0_eq, z, rd_agg, hf, k0, headD_one, List.headD_cons, List.tail_cons, rd_f1, toInt_sc, Option.bind_some, decide_true, decide_false, Bool.false_eq_true, if_true, if_false]
        refine Ev2.bind h3 ?_
        simp only [List.headD_cons, List.tail_cons, pat_f0, pat_f1, toStr_sc, pat_agg, rd_f1, rd_agg, toInt_sc, c1, hg, m0, pats_app, Option.bind_some, decide_true, decide_false, Bool.false_eq_true, if_true, if_false]
        exact Ev2.now _
    · obtain ⟨m, hm, hg⟩ := pick_ev hb (p := ((q + 1 : Nat) : Int)) (n := 30) (by omega) (by omega)
      have e2 : ((q + 1 : Nat) : Int) + 1 = ((q + 2 : Nat) : Int) := by omega
      rw [e2] at hg
      by_cases m0 : m = 0
      · obtain ⟨l', q', i1, i2, i3⟩ := patterns_l1 hb (22 - l.length) (q + 2) l (by omega) (by omega) hp
        refine ⟨l', q', by omega, i2, Ev2.succ ?_⟩
        simp only [spec_l13Patterns.l0_eq, z, rd_agg, hf, k0, hg, m0, headD_one, List.headD_cons, List.tail_cons, rd_f1, toInt_sc, Option.bind_some, decide_true, decide_false, Bool.false_eq_true, if_true, if_false]
        exact i3.after
      · refine ⟨l, q + 2, by omega, ⟨by omega, hp⟩, Ev2.succ ?_⟩
        simp only [spec_l13Patterns.l0_eq, z, rd_agg, hf, k0, hg, m0, headD_one, List.headD_cons, List.tail_cons, rd_f1, toInt_sc, Option.bind_some, decide_true, decide_false, Bool.false_eq_true, if_true, if_false]
        exact Ev2.now _
theorem patterns_ev {b : PV} (hb : Code1 b) (q : Nat) (hq : q < 500000000) : ∃ (l : List Pat) (q' : Nat), q' ≤ q + 200 ∧ PatsB l ∧ Ev (fun N => spec_l13Patterns.f N [rdP b (q : Int)]) [patsP l, rdP b (q' : Int)] := by
  obtain ⟨k, hk, hf⟩ := pick_ev hb (p := (q : Int)) (n := 8) (by omega) (by omega)
  have e1 : (q : Int) + 1 = ((q + 1 : Nat) : Int) := by omega
  rw [e1] at hf
  obtain ⟨c, rfl⟩ := Int.eq_ofNat_of_zero_le hk.1
  obtain ⟨l', q', i1, i2, i3⟩ := patterns_l0 hb c (q + 1) [] (by simp; omega) (by omega) (fun x hx => by simp at hx)
  refine ⟨l', q', by omega, i2, ?_⟩
  simp only [spec_l13Patterns.f_eq, rd_f0, rd_f1, rd_agg, toInt_sc, hf, List.headD_cons, List.tail_cons, headD_one, Option.bind_some]
  exact i3.diag
/-! #### patterns that are ok -/
def lettersG (n : Nat) : Nat → List Int → Bool
  | _, [] => true
  | i, c :: r => decide ((c = 46 ∧ (i = 0 ∨ i + 1 = n)) ∨ (97 ≤ c ∧ c ≤ 122)) && lettersG n (i + 1) r
def numsG (l : List Int) : Bool := l.all fun v => decide (0 ≤ v ∧ v ≤ 9)
theorem numsG_cons (v : Int) (l : List Int) : numsG (v :: l) = (decide (0 ≤ v ∧ v ≤ 9) && numsG l) := by simp [numsG]
def patOk (p : Pat) : Bool := lettersG p.l.size 0 (bytesOf p.l) && (numsG p.ns && (decide (1 ≤ p.l.size ∧ p.l.size ≤ 8) && decide (p.ns.length = p.l.size + 1)))
theorem ext1 (s : ByteArray) (i : Nat) (hi : i < s.size) : (s.extract i (i + 1)).size = 1 ∧ bytesOf (s.extract i (i + 1)) = [bt s i] := by
  have hb : bytesOf (s.extract i (i + 1)) = ((bytesOf s).drop i).take 1 := by
    unfold bytesOf
    rw [ByteArray.data_extract]
    simp [List.map_take, List.map_drop]
  have hl : i < (bytesOf s).length := by rw [bytesOf_len]; exact hi
  have h2 : ((bytesOf s).drop i).take 1 = [bt s i] := by
    rw [bt_bytes, List.getD_eq_getElem?_getD]
    rw [List.drop_eq_getElem_cons hl]
    simp only [List.take_succ_cons, List.take_zero, List.getElem?_eq_getElem hl, Option.getD_some]
  rw [h2] at hb
  refine ⟨?_, hb⟩
  rw [← bytesOf_len, hb]; rfl
theorem specIn_val (a b c : Int) (N : Nat) : spec_l1In.f N [.sc (.int .i64 a), .sc (.int .i64 b), .sc (.int .i64 c)] = some [boolP (decide (b ≤ a ∧ a ≤ c))] := by
  simp only [spec_l1In.f_eq, strs_len, strs_elem, ints_len, ints_elem, items_list, fld_agg, elem_list, toStr_sc, toInt_sc, toBool_sc, headD_one, nat_int, get_bt, decide_eq_true_eq, decide_eq_false_iff_not, decide_true, decide_false, if_true, if_false, ite_self, Bool.not_true, Bool.not_false, Bool.false_eq_true, Bool.true_eq_false, Bool.true_and, Bool.false_and, Bool.and_true, Bool.and_false, not_true, not_false_iff, Option.bind_some, nn, toList_inj, Bool.not_eq_true', Bool.not_eq_false', Int.le_refl, and_self, true_and, and_true, false_and, and_false, bne_self_eq_false, beq_self_eq_true, Int.reduceEq, Nat.reduceEqDiff, List.length_singleton, List.tail_cons, Int.reduceLE, Int.reduceLT, decide_eq_true_eq]
  by_cases h1 : b ≤ a <;> by_cases h2 : a ≤ c <;> simp only [h1, h2, strs_len, strs_elem, ints_len, ints_elem, items_list, fld_agg, elem_list, toStr_sc, toInt_sc, toBool_sc, headD_one, nat_int, get_bt, decide_eq_true_eq, decide_eq_false_iff_not, decide_true, decide_false, if_true, if_false, ite_self, Bool.not_true, Bool.not_false, Bool.false_eq_true, Bool.true_eq_false, Bool.true_and, Bool.false_and, Bool.and_true, Bool.and_false, not_true, not_false_iff, Option.bind_some, nn, toList_inj, Bool.not_eq_true', Bool.not_eq_false', Int.le_refl, and_self, true_and, and_true, false_and, and_false, bne_self_eq_false, beq_self_eq_true, Int.reduceEq, Nat.reduceEqDiff, List.length_singleton, List.tail_cons, Int.reduceLE, Int.reduceLT, decide_eq_true_eq]
theorem specPat_l1 (s : ByteArray) (ns : List Int) (hs : s.size ≤ 100) (hn : ns.length ≤ 100) : ∀ rest pre : List Int, ns = pre ++ rest →
    Ev2 (fun N n => spec_PatternOk.l1 N n (s.size : Int) (pre.length : Int) s (intsP ns)) [boolP (numsG rest && (decide (1 ≤ s.size ∧ s.size ≤ 8) && decide (ns.length = s.size + 1)))] := by
  intro rest
  induction rest with
  | nil =>
    intro pre hp
    refine Ev2.succ ?_
    have w : IntKind.i64.wrap ((s.size : Int) + 1) = ((s.size + 1 : Nat) : Int) := by rw [wrap_id (by omega) (by omega)]; omega
    simp only [spec_PatternOk.l1_eq, specIn_val, at_end hp, w, strs_len, strs_elem, ints_len, ints_elem, items_list, fld_agg, elem_list, toStr_sc, toInt_sc, toBool_sc, headD_one, nat_int, get_bt, decide_eq_true_eq, decide_eq_false_iff_not, decide_true, decide_false, if_true, if_false, ite_self, Bool.not_true, Bool.not_false, Bool.false_eq_true, Bool.true_eq_false, Bool.true_and, Bool.false_and, Bool.and_true, Bool.and_false, not_true, not_false_iff, Option.bind_some, nn, toList_inj, Bool.not_eq_true', Bool.not_eq_false', Int.le_refl, and_self, true_and, and_true, false_and, and_false, bne_self_eq_false, beq_self_eq_true, Int.reduceEq, Nat.reduceEqDiff, List.length_singleton, List.tail_cons, Int.reduceLE, Int.reduceLT, decide_eq_true_eq]
    refine Ev2.ext (r := if 1 ≤ s.size ∧ s.size ≤ 8 then [boolP (decide (ns.length = s.size + 1))] else [boolP false]) ?_ ?_
    · by_cases h : 1 ≤ s.size ∧ s.size ≤ 8
      · have h' : (1 : Int) ≤ (s.size : Int) ∧ (s.size : Int) ≤ 8 := by omega
        have e : (((ns.length : Nat) : Int) = ((s.size + 1 : Nat) : Int)) = (ns.length = s.size + 1) := propext ⟨fun h => by omega, fun h => by omega⟩
        rw [if_pos h]
        simp only [h', e, strs_len, strs_elem, ints_len, ints_elem, items_list, fld_agg, elem_list, toStr_sc, toInt_sc, toBool_sc, headD_one, nat_int, get_bt, decide_eq_true_eq, decide_eq_false_iff_not, decide_true, decide_false, if_true, if_false, ite_self, Bool.not_true, Bool.not_false, Bool.false_eq_true, Bool.true_eq_false, Bool.true_and, Bool.false_and, Bool.and_true, Bool.and_false, not_true, not_false_iff, Option.bind_some, nn, toList_inj, Bool.not_eq_true', Bool.not_eq_false', Int.le_refl, and_self, true_and, and_true, false_and, and_false, bne_self_eq_false, beq_self_eq_true, Int.reduceEq, Nat.reduceEqDiff, List.length_singleton, List.tail_cons, Int.reduceLE, Int.reduceLT, decide_eq_true_eq]
        exact Ev2.now _
      · have h' : ¬ ((1 : Int) ≤ (s.size : Int) ∧ (s.size : Int) ≤ 8) := by omega
        rw [if_neg h]
        simp only [h', strs_len, strs_elem, ints_len, ints_elem, items_list, fld_agg, elem_list, toStr_sc, toInt_sc, toBool_sc, headD_one, nat_int, get_bt, decide_eq_true_eq, decide_eq_false_iff_not, decide_true, decide_false, if_true, if_false, ite_self, Bool.not_true, Bool.not_false, Bool.false_eq_true, Bool.true_eq_false, Bool.true_and, Bool.false_and, Bool.and_true, Bool.and_false, not_true, not_false_iff, Option.bind_some, nn, toList_inj, Bool.not_eq_true', Bool.not_eq_false', Int.le_refl, and_self, true_and, and_true, false_and, and_false, bne_self_eq_false, beq_self_eq_true, Int.reduceEq, Nat.reduceEqDiff, List.length_singleton, List.tail_cons, Int.reduceLE, Int.reduceLT, decide_eq_true_eq]
        exact Ev2.now _
    · by_cases h : 1 ≤ s.size ∧ s.size ≤ 8
      · rw [if_pos h, decide_eq_true h]; simp [numsG]
      · rw [if_neg h, decide_eq_false h]; simp [numsG]
  | cons v rest ih =>
    intro pre hp
    refine Ev2.succ ?_
    simp only [spec_PatternOk.l1_eq, specIn_val, at_lt hp, at_getD hp, at_next hp (by omega), strs_len, strs_elem, ints_len, ints_elem, items_list, fld_agg, elem_list, toStr_sc, toInt_sc, toBool_sc, headD_one, nat_int, get_bt, decide_eq_true_eq, decide_eq_false_iff_not, decide_true, decide_false, if_true, if_false, ite_self, Bool.not_true, Bool.not_false, Bool.false_eq_true, Bool.true_eq_false, Bool.true_and, Bool.false_and, Bool.and_true, Bool.and_false, not_true, not_false_iff, Option.bind_some, nn, toList_inj, Bool.not_eq_true', Bool.not_eq_false', Int.le_refl, and_self, true_and, and_true, false_and, and_false, bne_self_eq_false, beq_self_eq_true, Int.reduceEq, Nat.reduceEqDiff, List.length_singleton, List.tail_cons, Int.reduceLE, Int.reduceLT, decide_eq_true_eq]
    rw [numsG_cons]
    by_cases h : 0 ≤ v ∧ v ≤ 9
    · simp only [h, strs_len, strs_elem, ints_len, ints_elem, items_list, fld_agg, elem_list, toStr_sc, toInt_sc, toBool_sc, headD_one, nat_int, get_bt, decide_eq_true_eq, decide_eq_false_iff_not, decide_true, decide_false, if_true, if_false, ite_self, Bool.not_true, Bool.not_false, Bool.false_eq_true, Bool.true_eq_false, Bool.true_and, Bool.false_and, Bool.and_true, Bool.and_false, not_true, not_false_iff, Option.bind_some, nn, toList_inj, Bool.not_eq_true', Bool.not_eq_false', Int.le_refl, and_self, true_and, and_true, false_and, and_false, bne_self_eq_false, beq_self_eq_true, Int.reduceEq, Nat.reduceEqDiff, List.length_singleton, List.tail_cons, Int.reduceLE, Int.reduceLT, decide_eq_true_eq]; exact ih _ (at_step hp)
    · simp only [h, strs_len, strs_elem, ints_len, ints_elem, items_list, fld_agg, elem_list, toStr_sc, toInt_sc, toBool_sc, headD_one, nat_int, get_bt, decide_eq_true_eq, decide_eq_false_iff_not, decide_true, decide_false, if_true, if_false, ite_self, Bool.not_true, Bool.not_false, Bool.false_eq_true, Bool.true_eq_false, Bool.true_and, Bool.false_and, Bool.and_true, Bool.and_false, not_true, not_false_iff, Option.bind_some, nn, toList_inj, Bool.not_eq_true', Bool.not_eq_false', Int.le_refl, and_self, true_and, and_true, false_and, and_false, bne_self_eq_false, beq_self_eq_true, Int.reduceEq, Nat.reduceEqDiff, List.length_singleton, List.tail_cons, Int.reduceLE, Int.reduceLT, decide_eq_true_eq]; exact Ev2.now _
theorem specPat_l0 (s : ByteArray) (ns : List Int) (hs : s.size ≤ 100) (hn : ns.length ≤ 100) : ∀ rest pre : List Int, bytesOf s = pre ++ rest →
    Ev2 (fun N n => spec_PatternOk.l0 N n (s.size : Int) (pre.length : Int) s (intsP ns)) [boolP (lettersG s.size pre.length rest && (numsG ns && (decide (1 ≤ s.size ∧ s.size ≤ 8) && decide (ns.length = s.size + 1))))] := by
  intro rest
  induction rest with
  | nil =>
    intro pre hp
    refine Ev2.succ ?_
    simp only [spec_PatternOk.l0_eq, at_sizeE hp, lettersG, strs_len, strs_elem, ints_len, ints_elem, items_list, fld_agg, elem_list, toStr_sc, toInt_sc, toBool_sc, headD_one, nat_int, get_bt, decide_eq_true_eq, decide_eq_false_iff_not, decide_true, decide_false, if_true, if_false, ite_self, Bool.not_true, Bool.not_false, Bool.false_eq_true, Bool.true_eq_false, Bool.true_and, Bool.false_and, Bool.and_true, Bool.and_false, not_true, not_false_iff, Option.bind_some, nn, toList_inj, Bool.not_eq_true', Bool.not_eq_false', Int.le_refl, and_self, true_and, and_true, false_and, and_false, bne_self_eq_false, beq_self_eq_true, Int.reduceEq, Nat.reduceEqDiff, List.length_singleton, List.tail_cons, Int.reduceLE, Int.reduceLT, decide_eq_true_eq]
    exact (specPat_l1 s ns hs hn ns [] rfl).after
  | cons c rest ih =>
    intro pre hp
    refine Ev2.succ ?_
    have hlt : pre.length < s.size := by have := at_size hp; omega
    have w : IntKind.i64.wrap ((s.size : Int) - 1) = (s.size : Int) - 1 := wrap_id (by omega) (by omega)
    have hnx := ih _ (at_step hp)
    have hnx' := at_next hp (by rw [bytesOf_len]; omega)
    have hlen : (pre ++ [c]).length = pre.length + 1 := by simp
    rw [hlen] at hnx
    rw [hlen] at hnx'
    simp only [spec_PatternOk.l0_eq, strs_len, strs_elem, ints_len, ints_elem, items_list, fld_agg, elem_list, toStr_sc, toInt_sc, toBool_sc, headD_one, nat_int, get_bt, decide_eq_true_eq, decide_eq_false_iff_not, decide_true, decide_false, if_true, if_false, ite_self, Bool.not_true, Bool.not_false, Bool.false_eq_true, Bool.true_eq_false, Bool.true_and, Bool.false_and, Bool.and_true, Bool.and_false, not_true, not_false_iff, Option.bind_some, nn, toList_inj, Bool.not_eq_true', Bool.not_eq_false', Int.le_refl, and_self, true_and, and_true, false_and, and_false, bne_self_eq_false, beq_self_eq_true, Int.reduceEq, Nat.reduceEqDiff, List.length_singleton, List.tail_cons, Int.reduceLE, Int.reduceLT, decide_eq_true_eq, at_size hp, at_bt hp, hnx', w]
    rw [lettersG]
    by_cases h46 : c = 46
    · by_cases h0 : ((pre.length : Nat) : Int) = 0
      · have hc : (c = 46 ∧ (pre.length = 0 ∨ pre.length + 1 = s.size)) ∨ (97 ≤ c ∧ c ≤ 122) := .inl ⟨h46, .inl (by omega)⟩
        rw [decide_eq_true hc, Bool.true_and]
        simp only [h46, h0, strs_len, strs_elem, ints_len, ints_elem, items_list, fld_agg, elem_list, toStr_sc, toInt_sc, toBool_sc, headD_one, nat_int, get_bt, decide_eq_true_eq, decide_eq_false_iff_not, decide_true, decide_false, if_true, if_false, ite_self, Bool.not_true, Bool.not_false, Bool.false_eq_true, Bool.true_eq_false, Bool.true_and, Bool.false_and, Bool.and_true, Bool.and_false, not_true, not_false_iff, Option.bind_some, nn, toList_inj, Bool.not_eq_true', Bool.not_eq_false', Int.le_refl, and_self, true_and, and_true, false_and, and_false, bne_self_eq_false, beq_self_eq_true, Int.reduceEq, Nat.reduceEqDiff, List.length_singleton, List.tail_cons, Int.reduceLE, Int.reduceLT, decide_eq_true_eq]; exact hnx
      · by_cases h1 : ((pre.length : Nat) : Int) = (s.size : Int) - 1
        · have hc : (c = 46 ∧ (pre.length = 0 ∨ pre.length + 1 = s.size)) ∨ (97 ≤ c ∧ c ≤ 122) := .inl ⟨h46, .inr (by omega)⟩
          rw [decide_eq_true hc, Bool.true_and]
          simp only [h46, h0, h1, strs_len, strs_elem, ints_len, ints_elem, items_list, fld_agg, elem_list, toStr_sc, toInt_sc, toBool_sc, headD_one, nat_int, get_bt, decide_eq_true_eq, decide_eq_false_iff_not, decide_true, decide_false, if_true, if_false, ite_self, Bool.not_true, Bool.not_false, Bool.false_eq_true, Bool.true_eq_false, Bool.true_and, Bool.false_and, Bool.and_true, Bool.and_false, not_true, not_false_iff, Option.bind_some, nn, toList_inj, Bool.not_eq_true', Bool.not_eq_false', Int.le_refl, and_self, true_and, and_true, false_and, and_false, bne_self_eq_false, beq_self_eq_true, Int.reduceEq, Nat.reduceEqDiff, List.length_singleton, List.tail_cons, Int.reduceLE, Int.reduceLT, decide_eq_true_eq]
          exact hnx
        · have hc : ¬ ((c = 46 ∧ (pre.length = 0 ∨ pre.length + 1 = s.size)) ∨ (97 ≤ c ∧ c ≤ 122)) := by omega
          rw [decide_eq_false hc, Bool.false_and]
          have h97 : (46 : Int) < 97 := by omega
          simp only [h46, h0, h1, h97, strs_len, strs_elem, ints_len, ints_elem, items_list, fld_agg, elem_list, toStr_sc, toInt_sc, toBool_sc, headD_one, nat_int, get_bt, decide_eq_true_eq, decide_eq_false_iff_not, decide_true, decide_false, if_true, if_false, ite_self, Bool.not_true, Bool.not_false, Bool.false_eq_true, Bool.true_eq_false, Bool.true_and, Bool.false_and, Bool.and_true, Bool.and_false, not_true, not_false_iff, Option.bind_some, nn, toList_inj, Bool.not_eq_true', Bool.not_eq_false', Int.le_refl, and_self, true_and, and_true, false_and, and_false, bne_self_eq_false, beq_self_eq_true, Int.reduceEq, Nat.reduceEqDiff, List.length_singleton, List.tail_cons, Int.reduceLE, Int.reduceLT, decide_eq_true_eq]; exact Ev2.now _
    · by_cases h97 : c < 97
      · have hc : ¬ ((c = 46 ∧ (pre.length = 0 ∨ pre.length + 1 = s.size)) ∨ (97 ≤ c ∧ c ≤ 122)) := by omega
        rw [decide_eq_false hc, Bool.false_and]
        simp only [h46, h97, strs_len, strs_elem, ints_len, ints_elem, items_list, fld_agg, elem_list, toStr_sc, toInt_sc, toBool_sc, headD_one, nat_int, get_bt, decide_eq_true_eq, decide_eq_false_iff_not, decide_true, decide_false, if_true, if_false, ite_self, Bool.not_true, Bool.not_false, Bool.false_eq_true, Bool.true_eq_false, Bool.true_and, Bool.false_and, Bool.and_true, Bool.and_false, not_true, not_false_iff, Option.bind_some, nn, toList_inj, Bool.not_eq_true', Bool.not_eq_false', Int.le_refl, and_self, true_and, and_true, false_and, and_false, bne_self_eq_false, beq_self_eq_true, Int.reduceEq, Nat.reduceEqDiff, List.length_singleton, List.tail_cons, Int.reduceLE, Int.reduceLT, decide_eq_true_eq]; exact Ev2.now _
      · by_cases h122 : 122 < c
        · have hc : ¬ ((c = 46 ∧ (pre.length = 0 ∨ pre.length + 1 = s.size)) ∨ (97 ≤ c ∧ c ≤ 122)) := by omega
          rw [decide_eq_false hc, Bool.false_and]
          simp only [h46, h97, h122, strs_len, strs_elem, ints_len, ints_elem, items_list, fld_agg, elem_list, toStr_sc, toInt_sc, toBool_sc, headD_one, nat_int, get_bt, decide_eq_true_eq, decide_eq_false_iff_not, decide_true, decide_false, if_true, if_false, ite_self, Bool.not_true, Bool.not_false, Bool.false_eq_true, Bool.true_eq_false, Bool.true_and, Bool.false_and, Bool.and_true, Bool.and_false, not_true, not_false_iff, Option.bind_some, nn, toList_inj, Bool.not_eq_true', Bool.not_eq_false', Int.le_refl, and_self, true_and, and_true, false_and, and_false, bne_self_eq_false, beq_self_eq_true, Int.reduceEq, Nat.reduceEqDiff, List.length_singleton, List.tail_cons, Int.reduceLE, Int.reduceLT, decide_eq_true_eq]; exact Ev2.now _
        · have hc : (c = 46 ∧ (pre.length = 0 ∨ pre.length + 1 = s.size)) ∨ (97 ≤ c ∧ c ≤ 122) := .inr (by omega)
          rw [decide_eq_true hc, Bool.true_and]
          simp only [h46, h97, h122, strs_len, strs_elem, ints_len, ints_elem, items_list, fld_agg, elem_list, toStr_sc, toInt_sc, toBool_sc, headD_one, nat_int, get_bt, decide_eq_true_eq, decide_eq_false_iff_not, decide_true, decide_false, if_true, if_false, ite_self, Bool.not_true, Bool.not_false, Bool.false_eq_true, Bool.true_eq_false, Bool.true_and, Bool.false_and, Bool.and_true, Bool.and_false, not_true, not_false_iff, Option.bind_some, nn, toList_inj, Bool.not_eq_true', Bool.not_eq_false', Int.le_refl, and_self, true_and, and_true, false_and, and_false, bne_self_eq_false, beq_self_eq_true, Int.reduceEq, Nat.reduceEqDiff, List.length_singleton, List.tail_cons, Int.reduceLE, Int.reduceLT, decide_eq_true_eq]; exact hnx
theorem specPat_ev {p : Pat} (hp : PatB p) : Ev (fun N => spec_PatternOk.f N [patP p]) [boolP (patOk p)] := by
  simp only [spec_PatternOk.f_eq, pat_f0, pat_f1, toStr_sc]
  exact (specPat_l0 p.l p.ns hp.1 hp.2.1 (bytesOf p.l) [] rfl).diag
def patsOk (l : List Pat) : Bool := l.all patOk
theorem patsOk_cons (p : Pat) (l : List Pat) : patsOk (p :: l) = (patOk p && patsOk l) := by simp [patsOk]
theorem specPats_ev {l : List Pat} (hl : PatsB l) : Ev (fun N => spec_l9Patterns.f N [patsP l]) [boolP (patsOk l && decide (l.length ≤ 20))] := by
  have hle := hl.1
  have key : ∀ rest pre : List Pat, l = pre ++ rest → Ev2 (fun N n => spec_l9Patterns.l0 N n (patsP l) (pre.length : Int)) [boolP (patsOk rest && decide (l.length ≤ 20))] := by
    intro rest
    induction rest with
    | nil =>
      intro pre hp
      refine Ev2.succ ?_
      have e : (((l.length : Nat) : Int) ≤ 20) = (l.length ≤ 20) := propext ⟨fun h => by omega, fun h => by omega⟩
      simp only [spec_l9Patterns.l0_eq, pats_len, at_end hp, e, strs_len, strs_elem, ints_len, ints_elem, items_list, fld_agg, elem_list, toStr_sc, toInt_sc, toBool_sc, headD_one, nat_int, get_bt, decide_eq_true_eq, decide_eq_false_iff_not, decide_true, decide_false, if_true, if_false, ite_self, Bool.not_true, Bool.not_false, Bool.false_eq_true, Bool.true_eq_false, Bool.true_and, Bool.false_and, Bool.and_true, Bool.and_false, not_true, not_false_iff, Option.bind_some, nn, toList_inj, Bool.not_eq_true', Bool.not_eq_false', Int.le_refl, and_self, true_and, and_true, false_and, and_false, bne_self_eq_false, beq_self_eq_true, Int.reduceEq, Nat.reduceEqDiff, List.length_singleton, List.tail_cons, Int.reduceLE, Int.reduceLT, decide_eq_true_eq]
      exact Ev2.now _
    | cons c rest ih =>
      intro pre hp
      refine Ev2.succ ?_
      have hm : PatB c := hl.2 c (by rw [hp]; simp)
      simp only [spec_l9Patterns.l0_eq, pats_len, at_lt hp, nat_int, nn, pats_elem hp, pat_f0, pat_f1, toStr_sc, pat_agg, decide_true, if_true, at_next hp (by omega)]
      refine Ev2.bind (specPat_ev hm) ?_
      rw [patsOk_cons]
      by_cases h : patOk c = true
      · simp only [h, headD_one, toBool_sc, Bool.not_true, Bool.false_eq_true, if_false, Bool.true_and]; exact ih _ (at_step hp)
      · simp only [Bool.not_eq_true] at h
        simp only [h, headD_one, toBool_sc, Bool.not_false, if_true, Bool.false_and]; exact Ev2.now _
  simp only [spec_l9Patterns.f_eq]
  exact (key l [] rfl).diag
/-! #### the greatest numbers -/
def upd (f : Nat → Int) (p : Nat) (v : Int) : Nat → Int := fun q => if q = p then maxI (f p) v else f q
def addAt : (Nat → Int) → Nat → List Int → Nat → Int
  | f, _, [] => f
  | f, k, v :: r => addAt (upd f k v) (k + 1) r
def hit (s l : ByteArray) (k : Nat) : Bool := decide (k + l.size ≤ s.size ∧ s.extract k (k + l.size) = l)
def addKs (s : ByteArray) (p : Pat) : Nat → Nat → (Nat → Int) → (Nat → Int)
  | 0, _, f => f
  | c + 1, k, f => addKs s p c (k + 1) (if hit s p.l k = true then addAt f k p.ns else f)
def addPs (s : ByteArray) : List Pat → (Nat → Int) → Nat → Int
  | [], f => f
  | p :: r, f => addPs s r (addKs s p s.size 0 f)
theorem addKs_none (s : ByteArray) (p : Pat) (f : Nat → Int) : ∀ c k, s.size < k + p.l.size → addKs s p c k f = f := by
  intro c
  induction c with
  | zero => intro k _; rfl
  | succ c ih =>
    intro k h
    have hh : hit s p.l k = false := decide_eq_false (fun h' => by omega)
    rw [addKs, hh, if_neg (by simp), ih (k + 1) (by omega)]
def rowF (L : Nat) (f : Nat → Int) : List PV := ((List.range L).map f).map intP
theorem rowF_len (L : Nat) (f : Nat → Int) : (rowF L f).length = L := by simp [rowF]
theorem rowF_at {L k : Nat} {f : Nat → Int} (hk : k < L) : ((PV.list (rowF L f)).elem k).toInt = f k := by
  have := ints_elem ((List.range L).map f) k
  have e : ((PV.list (rowF L f)).elem k).toInt = ((List.range L).map f).getD k 0 := this
  rw [e, List.getD_eq_getElem?_getD]; simp [hk]
theorem rowF_set {L k : Nat} {f : Nat → Int} (v : Int) : (rowF L f).set k (intP v) = rowF L (fun q => if q = k then v else f q) := by
  apply List.ext_getElem?
  intro j
  simp only [rowF, List.getElem?_set, List.getElem?_map, List.length_map, List.length_range]
  by_cases hj : k = j
  · subst hj
    by_cases hk : k < L
    · simp [hk]
    · simp [hk]
  · have hj' : ¬ j = k := fun h => hj h.symm
    rw [if_neg hj]
    by_cases hjm : j < L
    · simp [hjm, hj']
    · simp [hjm]
theorem rowF_congr {L : Nat} {f g : Nat → Int} (h : ∀ q, q < L → f q = g q) : rowF L f = rowF L g := by
  unfold rowF
  exact congrArg (List.map intP) (List.map_congr_left (fun q hq => h q (by simpa using hq)))
theorem rowF_zero (L : Nat) : List.replicate L (PV.sc (.int .i64 0)) = rowF L (fun _ => 0) := by simp [rowF, List.map_const']
theorem rowF_upd {L p : Nat} {f : Nat → Int} {v : Int} (h : f p < v) : (rowF L f).set p (intP v) = rowF L (upd f p v) := by
  rw [rowF_set]
  refine rowF_congr (fun q _ => ?_)
  unfold upd maxI
  rw [if_pos h]
theorem rowF_stay {L p : Nat} {f : Nat → Int} {v : Int} (h : ¬ f p < v) : rowF L f = rowF L (upd f p v) := by
  refine rowF_congr (fun q _ => ?_)
  unfold upd maxI
  rw [if_neg h]
  split
  · rename_i h; rw [h]
  · rfl
section
variable {ps pr rest : List Pat} {p : Pat} {s : ByteArray}
theorem specM_l2 (hs : s.size ≤ 50) (hps : ps = pr ++ p :: rest) (hp : PatB p) (hnl : p.ns.length = p.l.size + 1) {k : Nat} (hk : hit s p.l k = true) {R : List PV} :
    ∀ (r prn : List Int) (f : Nat → Int), p.ns = prn ++ r → Ev3 (fun N m0 n => spec_l9Marks.l1 N m0 n (patsP ps) s (pr.length : Int) (p.l.size : Int) ((k + 1 : Nat) : Int) (rowF (s.size + 1) (addAt f (k + prn.length) r))) R →
    Ev4 (fun N m0 m1 n => spec_l9Marks.l2 N m0 m1 n (patsP ps) s (pr.length : Int) (p.l.size : Int) (k : Int) (prn.length : Int) (rowF (s.size + 1) f)) R := by
  obtain ⟨hk1, hk2⟩ := of_decide_eq_true hk
  have b1 := hp.1; have b2 := hp.2.1
  have w1 : IntKind.i64.wrap ((k : Int) + 1) = ((k + 1 : Nat) : Int) := by rw [wrap_id (by omega) (by omega)]; omega
  intro r
  induction r with
  | nil =>
    intro prn f hn hR
    have hl : prn.length = p.l.size + 1 := by rw [← hnl, hn]; simp
    refine Ev4.succ ?_
    have z : ¬ ((prn.length : Nat) : Int) ≤ (p.l.size : Int) := by omega
    simp only [spec_l9Marks.l2_eq, z, w1, decide_false, Bool.false_eq_true, if_false]
    exact hR.outer
  | cons v r ih =>
    intro prn f hn hR
    have hjl : prn.length < p.ns.length := at_ltN hn
    refine Ev4.succ ?_
    have z : ((prn.length : Nat) : Int) ≤ (p.l.size : Int) := by omega
    have w2 : IntKind.i64.wrap ((k : Int) + (p.l.size : Int)) = ((k + p.l.size : Nat) : Int) := by rw [wrap_id (by omega) (by omega)]; omega
    have w3 : IntKind.i64.wrap ((k : Int) + ((prn.length : Nat) : Int)) = ((k + prn.length : Nat) : Int) := by rw [wrap_id (by omega) (by omega)]; omega
    have w4 : IntKind.i64.wrap (((prn.length : Nat) : Int) + 1) = ((prn.length + 1 : Nat) : Int) := by rw [wrap_id (by omega) (by omega)]; omega
    have q1 : (k : Int) ≤ ((k + p.l.size : Nat) : Int) := by omega
    have q2 : ((k + p.l.size : Nat) : Int) ≤ (s.size : Int) := by omega
    have q3 : ((pr.length : Nat) : Int) < (((patsP ps).items.length : Nat) : Int) := by rw [pats_len]; exact at_lt hps
    have q4 : ((prn.length : Nat) : Int) < (((intsP p.ns).items.length : Nat) : Int) := by rw [ints_len]; omega
    have q5 : ((k + prn.length : Nat) : Int) < (((rowF (s.size + 1) f).length : Nat) : Int) := by rw [rowF_len]; omega
    have e1 : ((intsP p.ns).elem prn.length).toInt = v := by rw [ints_elem]; exact at_getD hn
    have e2 := rowF_at (L := s.size + 1) (f := f) (show k + prn.length < s.size + 1 by omega)
    have hl : (prn ++ [v]).length = prn.length + 1 := by simp
    have hi := ih (prn ++ [v]) (upd f (k + prn.length) v) (at_step hn) (by rw [hl]; exact hR)
    rw [hl] at hi
    have hx : (s.extract k (k + p.l.size)).toList = p.l.toList := by rw [hk2]
    by_cases hv : f (k + prn.length) < v
    · have hset := rowF_upd (L := s.size + 1) hv
      simp only [spec_l9Marks.l2_eq, z, w1, w2, w3, w4, q1, q2, q3, q4, q5, pats_elem hps, pat_f0, pat_f1, toStr_sc, nn, nat_int, e1, e2, hx, hv, hset, decide_true, if_true]
      exact hi
    · rw [← rowF_stay hv] at hi
      simp only [spec_l9Marks.l2_eq, z, w1, w2, w3, w4, q1, q2, q3, q4, q5, pats_elem hps, pat_f0, pat_f1, toStr_sc, nn, nat_int, e1, e2, hx, hv, decide_true, decide_false, Bool.false_eq_true, if_true, if_false]
      exact hi
theorem specM_l1 (hs : s.size ≤ 50) (hps : ps = pr ++ p :: rest) (hpl : ps.length ≤ 100) (hp : PatB p) (hn1 : 1 ≤ p.l.size) (hnl : p.ns.length = p.l.size + 1) {R : List PV} :
    ∀ (c k : Nat) (f : Nat → Int), k + c = s.size → Ev2 (fun N n => spec_l9Marks.l0 N n (patsP ps) s ((pr.length + 1 : Nat) : Int) (rowF (s.size + 1) (addKs s p c k f))) R →
    Ev3 (fun N m0 n => spec_l9Marks.l1 N m0 n (patsP ps) s (pr.length : Int) (p.l.size : Int) (k : Int) (rowF (s.size + 1) f)) R := by
  have b1 := hp.1; have b2 := hp.2.1
  have hlt := at_ltN hps
  have wi : IntKind.i64.wrap (((pr.length : Nat) : Int) + 1) = ((pr.length + 1 : Nat) : Int) := by rw [wrap_id (by omega) (by omega)]; omega
  intro c
  induction c with
  | zero =>
    intro k f hk hR
    refine Ev3.succ ?_
    have w2 : IntKind.i64.wrap ((k : Int) + (p.l.size : Int)) = ((k + p.l.size : Nat) : Int) := by rw [wrap_id (by omega) (by omega)]; omega
    have z : ¬ ((k + p.l.size : Nat) : Int) ≤ (s.size : Int) := by omega
    simp only [spec_l9Marks.l1_eq, w2, z, wi, decide_false, Bool.false_eq_true, if_false]
    exact hR.outer
  | succ c ih =>
    intro k f hk hR
    refine Ev3.succ ?_
    have w2 : IntKind.i64.wrap ((k : Int) + (p.l.size : Int)) = ((k + p.l.size : Nat) : Int) := by rw [wrap_id (by omega) (by omega)]; omega
    by_cases hz : k + p.l.size ≤ s.size
    · have z : ((k + p.l.size : Nat) : Int) ≤ (s.size : Int) := by omega
      simp only [spec_l9Marks.l1_eq, w2, z, decide_true, if_true]
      rw [addKs] at hR
      by_cases hh : hit s p.l k = true
      · rw [if_pos hh] at hR
        exact (specM_l2 hs hps hp hnl hh p.ns [] f rfl (ih (k + 1) _ (by omega) hR)).start
      · rw [if_neg hh] at hR
        refine Ev4.start (g := fun N m0 m1 n => spec_l9Marks.l2 N m0 m1 n (patsP ps) s (pr.length : Int) (p.l.size : Int) (k : Int) 0 (rowF (s.size + 1) f)) (Ev4.succ ?_)
        have w1 : IntKind.i64.wrap ((k : Int) + 1) = ((k + 1 : Nat) : Int) := by rw [wrap_id (by omega) (by omega)]; omega
        have z0 : (0 : Int) ≤ (p.l.size : Int) := by omega
        have q1 : (k : Int) ≤ ((k + p.l.size : Nat) : Int) := by omega
        have q3 : ((pr.length : Nat) : Int) < (((patsP ps).items.length : Nat) : Int) := by rw [pats_len]; exact at_lt hps
        have hx : ¬ (s.extract k (k + p.l.size)) = p.l := fun h => hh (decide_eq_true ⟨hz, h⟩)
        simp only [spec_l9Marks.l2_eq, z0, w1, w2, q1, z, q3, pats_elem hps, pat_f0, toStr_sc, nn, nat_int, toList_inj, hx, decide_true, decide_false, Bool.false_eq_true, if_true, if_false]
        exact (ih (k + 1) f (by omega) hR).outer
    · have z : ¬ ((k + p.l.size : Nat) : Int) ≤ (s.size : Int) := by omega
      rw [addKs_none s p f (c + 1) k (by omega)] at hR
      simp only [spec_l9Marks.l1_eq, w2, z, wi, decide_false, Bool.false_eq_true, if_false]
      exact hR.outer
end
theorem patOk_parts {p : Pat} (h : patOk p = true) : 1 ≤ p.l.size ∧ p.ns.length = p.l.size + 1 := by
  unfold patOk at h
  simp only [Bool.and_eq_true, decide_eq_true_eq] at h
  exact ⟨h.2.2.1.1, h.2.2.2⟩
theorem specMarks_ev {ps : List Pat} {s : ByteArray} (hs : s.size ≤ 50) (hps : PatsB ps) (hok : patsOk ps = true) : Ev (fun N => spec_l9Marks.f N [patsP ps, strP s]) [PV.list (rowF (s.size + 1) (addPs s ps (fun _ => 0)))] := by
  have key : ∀ (rest pr : List Pat) (f : Nat → Int), ps = pr ++ rest → Ev2 (fun N n => spec_l9Marks.l0 N n (patsP ps) s (pr.length : Int) (rowF (s.size + 1) f)) [PV.list (rowF (s.size + 1) (addPs s rest f))] := by
    intro rest
    induction rest with
    | nil =>
      intro pr f hp
      refine Ev2.succ ?_
      simp only [spec_l9Marks.l0_eq, pats_len, at_end hp, decide_false, Bool.false_eq_true, if_false]
      exact Ev2.now _
    | cons p rest ih =>
      intro pr f hp
      refine Ev2.succ ?_
      have hm : p ∈ ps := by rw [hp]; simp
      obtain ⟨o1, o2⟩ := patOk_parts (List.all_eq_true.1 hok p hm)
      have hl : (pr ++ [p]).length = pr.length + 1 := by simp
      have hi := ih (pr ++ [p]) (addKs s p s.size 0 f) (at_step hp)
      rw [hl] at hi
      simp only [spec_l9Marks.l0_eq, pats_len, at_lt hp, pats_elem hp, pat_f0, toStr_sc, nn, nat_int, decide_true, if_true]
      exact (specM_l1 hs hp hps.1 (hps.2 p hm) o1 o2 s.size 0 f (by omega) hi).start
  have w : IntKind.i64.wrap ((s.size : Int) + 1) = ((s.size + 1 : Nat) : Int) := by rw [wrap_id (by omega) (by omega)]; omega
  have c1 : s.size + 1 ≤ 35184372088832 := by omega
  simp only [spec_l9Marks.f_eq, toStr_sc, w, nn, nat_int, Int.le_refl, c1, rowF_zero, if_true]
  exact (key ps [] (fun _ => 0) rfl).diag
/-! #### where a word may be split -/
theorem app_bytes (a b : ByteArray) : bytesOf (a ++ b) = bytesOf a ++ bytesOf b := by simp [bytesOf, ByteArray.data_append]
theorem ext_bytes (s : ByteArray) (i j : Nat) : bytesOf (s.extract i j) = ((bytesOf s).drop i).take (j - i) := by
  unfold bytesOf
  rw [ByteArray.data_extract]
  simp [List.map_take, List.map_drop]
theorem ext_ext (s : ByteArray) (k n : Nat) (h : k + n ≤ s.size) : (s.extract k s.size).extract 0 n = s.extract k (k + n) := by
  apply bytesOf_inj
  rw [ext_bytes, ext_bytes, ext_bytes]
  have hl : (bytesOf s).length = s.size := bytesOf_len s
  simp only [List.drop_zero, Nat.sub_zero, List.take_take]
  congr 1; omega
def rowG (L : Nat) (f : Nat → Int) : List PV := rowF L (fun q => f (q + 1))
section
variable {ps pr rest : List Pat} {p : Pat} {w d : ByteArray}
end
def dotW (w : ByteArray) : ByteArray := (ByteArray.mk #[46] ++ w) ++ ByteArray.mk #[46]
theorem dotW_size (w : ByteArray) : (dotW w).size = w.size + 2 := by
  have h1 : (ByteArray.mk #[46]).size = 1 := rfl
  unfold dotW; rw [ByteArray.size_append, ByteArray.size_append, h1]; omega
def placesG (f : Nat → Int) : Nat → Nat → List Int
  | 0, _ => []
  | c + 1, i => if Int.tmod (f (i + 1)) 2 = 1 then (i : Int) :: placesG f c (i + 1) else placesG f c (i + 1)
theorem placesG_in (f : Nat → Int) : ∀ c i, ∀ v ∈ placesG f c i, (i : Int) ≤ v ∧ v < (i : Int) + c := by
  intro c
  induction c with
  | zero => intro i v hv; simp [placesG] at hv
  | succ c ih =>
    intro i v hv
    rw [placesG] at hv
    split at hv
    · rcases List.mem_cons.1 hv with h | h
      · omega
      · have := ih (i + 1) v h; omega
    · have := ih (i + 1) v hv; omega
theorem placesG_len (f : Nat → Int) : ∀ c i, (placesG f c i).length ≤ c := by
  intro c
  induction c with
  | zero => intro i; simp [placesG]
  | succ c ih =>
    intro i
    have := ih (i + 1)
    rw [placesG]; split
    · simp; omega
    · omega
theorem ints_app (a : List Int) (v : Int) : a.map intP ++ [intP v] = (a ++ [v]).map intP := by simp
theorem specP_l0 {w : ByteArray} (hw : w.size ≤ 12) (f : Nat → Int) : ∀ (c i : Nat) (acc : List Int), (i + c + 1 = w.size ∨ (c = 0 ∧ w.size ≤ i + 1)) → i ≤ 20 → acc.length ≤ i →
    Ev2 (fun N n => spec_l9At.l0 N n w (i : Int) (acc.map intP) (PV.list (rowF (w.size + 3) f))) [intsP (acc ++ placesG f c i)] := by
  have w2 : IntKind.i64.wrap ((w.size : Int) - 2) = (w.size : Int) - 2 := wrap_id (by omega) (by omega)
  have t0 : ((2 : Int) = 0) = False := eq_false (by omega)
  intro c
  induction c with
  | zero =>
    intro i acc hi h20 ha
    refine Ev2.succ ?_
    have z : ¬ (i : Int) ≤ (w.size : Int) - 2 := by omega
    simp only [spec_l9At.l0_eq, w2, z, placesG, List.append_nil, decide_false, Bool.false_eq_true, if_false]
    exact Ev2.now _
  | succ c ih =>
    intro i acc hi h20 ha
    refine Ev2.succ ?_
    have z : (i : Int) ≤ (w.size : Int) - 2 := by omega
    have w1 : IntKind.i64.wrap ((i : Int) + 1) = ((i + 1 : Nat) : Int) := by rw [wrap_id (by omega) (by omega)]; omega
    have q1 : ((i + 1 : Nat) : Int) < (((rowF (w.size + 3) f).length : Nat) : Int) := by rw [rowF_len]; omega
    have e1 := rowF_at (L := w.size + 3) (f := f) (show i + 1 < w.size + 3 by omega)
    have c1 : (acc.map intP).length + [PV.sc (.int .i64 (i : Int))].length ≤ 17592186044416 := by simp; omega
    rw [placesG]
    by_cases h : Int.tmod (f (i + 1)) 2 = 1
    · have hi2 := ih (i + 1) (acc ++ [(i : Int)]) (by omega) (by omega) (by simp; omega)
      rw [if_pos h]
      simp only [spec_l9At.l0_eq, w2, w1, z, q1, e1, t0, h, c1, items_list, ints_app, nn, nat_int, decide_true, if_true, if_false]
      rw [List.append_assoc] at hi2
      exact hi2
    · rw [if_neg h]
      simp only [spec_l9At.l0_eq, w2, w1, z, q1, e1, t0, h, items_list, nn, nat_int, decide_true, decide_false, Bool.false_eq_true, if_true, if_false]
      exact ih (i + 1) acc (by omega) (by omega) (by omega)
def splitM (ps : List Pat) (w : ByteArray) : List Int :=
  if (patsOk ps = true ∧ ps.length ≤ 20) ∧ isWord w = true then placesG (addPs (dotW w) ps (fun _ => 0)) (w.size - 3) 2 else []
theorem word_in {s : ByteArray} (h : isWord s = true) : 1 ≤ s.size ∧ s.size ≤ 12 ∧ lowB (bytesOf s) = true := by
  unfold isWord at h
  simp only [Bool.and_eq_true, decide_eq_true_eq] at h
  exact ⟨h.1.1, h.1.2, h.2⟩
theorem splitM_in (ps : List Pat) (w : ByteArray) : ∀ v ∈ splitM ps w, 2 ≤ v ∧ v + 2 ≤ (w.size : Int) := by
  intro v hv
  unfold splitM at hv
  split at hv
  · have := placesG_in _ _ _ v hv
    omega
  · simp at hv
theorem splitM_len (ps : List Pat) (w : ByteArray) : (splitM ps w).length ≤ 12 := by
  unfold splitM
  split
  · rename_i h
    have := placesG_len (addPs (dotW w) ps (fun _ => 0)) (w.size - 3) 2
    have := word_in h.2
    omega
  · simp
/-- Places ascend. -/
def ascI : List Int → Bool
  | [] => true
  | [_] => true
  | a :: b :: r => decide (a < b) && ascI (b :: r)
theorem placesG_asc (f : Nat → Int) : ∀ c i, ascI (placesG f c i) = true := by
  intro c
  induction c with
  | zero => intro i; rfl
  | succ c ih =>
    intro i
    rw [placesG]
    split
    · have h := ih (i + 1)
      have hin := placesG_in f c (i + 1)
      cases hp : placesG f c (i + 1) with
      | nil => rfl
      | cons b r =>
        rw [hp] at h hin
        have := hin b (by simp)
        rw [ascI, h, decide_eq_true (show (i : Int) < b by omega)]; rfl
    · exact ih (i + 1)
theorem splitM_asc (ps : List Pat) (w : ByteArray) : ascI (splitM ps w) = true := by
  unfold splitM
  split
  · exact placesG_asc _ _ _
  · rfl
theorem specSplitAt_ev {ps : List Pat} (hps : PatsB ps) (w : ByteArray) (hw : w.size ≤ 1000000) : Ev (fun N => spec_SplitAt.f N [patsP ps, strP w]) [intsP (splitM ps w)] := by
  simp only [spec_SplitAt.f_eq, toStr_sc]
  refine Ev.bind (specPats_ev hps) ?_
  unfold splitM
  by_cases h1 : patsOk ps = true ∧ ps.length ≤ 20
  · have h1b : (patsOk ps && decide (ps.length ≤ 20)) = true := by simp [h1.1, h1.2]
    simp only [h1b, headD_one, toBool_sc, Bool.not_true, if_true]
    refine Ev.bind (specWord_ev w (by omega)) ?_
    by_cases h2 : isWord w = true
    · obtain ⟨a1, a2, a3⟩ := word_in h2
      have hd := dotW_size w
      have hb := specP_l0 a2 (addPs (dotW w) ps (fun _ => 0)) (w.size - 3) 2 [] (by omega) (by omega) (by simp)
      have hm := specMarks_ev (s := dotW w) (by omega) hps h1.1
      rw [hd] at hm
      have z1 : (ByteArray.mk #[46]).size + w.size ≤ 9223372036854775807 := by have h1 : (ByteArray.mk #[46]).size = 1 := rfl; omega
      have z2 : (ByteArray.mk #[46] ++ w).size + (ByteArray.mk #[46]).size ≤ 9223372036854775807 := by have h1 : (ByteArray.mk #[46]).size = 1 := rfl; rw [ByteArray.size_append]; omega
      have hdw : (ByteArray.mk #[46] ++ w) ++ ByteArray.mk #[46] = dotW w := rfl
      have hat : Ev (fun N => spec_l9At.f N [patsP ps, strP w]) [intsP (placesG (addPs (dotW w) ps (fun _ => 0)) (w.size - 3) 2)] := by
        simp only [spec_l9At.f_eq, toStr_sc, z1, z2, hdw, if_true]
        refine Ev.bind hm ?_
        simp only [headD_one]
        exact hb.diag
      rw [if_pos ⟨h1, h2⟩]
      simp only [h2, headD_one, toBool_sc, Bool.not_true, Bool.false_eq_true, if_false]
      refine Ev.bind hat ?_
      simp only [headD_one]
      exact Ev.now _
    · rw [if_neg (fun h => h2 h.2)]
      simp only [Bool.not_eq_true] at h2
      simp only [h2, headD_one, toBool_sc, Bool.not_false, if_true]
      exact Ev.now _
  · have h1b : (patsOk ps && decide (ps.length ≤ 20)) = false := by
      cases hx : patsOk ps
      · rfl
      · have : ¬ ps.length ≤ 20 := fun h => h1 ⟨hx, h⟩
        simp [this]
    rw [if_neg (fun h => h1 h.1)]
    simp only [h1b, headD_one, toBool_sc, Bool.not_false, Bool.true_eq_false, if_false]
    exact Ev.now _
/-! #### a word with strokes -/
def dropL (l : List Int) : List Int := l.filter fun c => decide (c ≠ 45)
theorem dropL_cons (c : Int) (l : List Int) : dropL (c :: l) = if c = 45 then dropL l else c :: dropL l := by
  unfold dropL
  by_cases h : c = 45 <;> simp [h]
theorem dropL_app (a b : List Int) : dropL (a ++ b) = dropL a ++ dropL b := by simp [dropL]
theorem dropB_bytes (s : ByteArray) : bytesOf (dropB s 45) = dropL (bytesOf s) := by
  have key : ∀ l : List UInt8, (l.filter (· != 45)).map (fun b => (b.toNat : Int)) = dropL (l.map fun b => (b.toNat : Int)) := by
    intro l
    induction l with
    | nil => rfl
    | cons c l ih =>
      rw [List.map_cons, dropL_cons, ← ih]
      by_cases h : c = 45
      · subst h; simp
      · have h2 : ¬ ((c.toNat : Int) = 45) := fun h3 => h (by
          apply UInt8.toNat_inj.1
          have : c.toNat = 45 := by omega
          rw [this]; rfl)
        have h3 : (c != 45) = true := by simpa using h
        have h4 : List.filter (fun x => x != 45) (c :: l) = c :: List.filter (fun x => x != 45) l := List.filter_cons_of_pos h3
        rw [h4, if_neg h2, List.map_cons]
  unfold bytesOf dropB
  exact key s.data.toList
def textL (w : List Int) : Nat → List Int → List Int
  | a, [] => w.drop a
  | a, p :: r => (w.drop a).take (p.toNat - a) ++ 45 :: textL w p.toNat r
/-- Places that ascend, from a place on, within a word. -/
def chainG (n : Int) : Int → List Int → Bool
  | _, [] => true
  | a, p :: r => decide (a ≤ p ∧ p ≤ n) && chainG n p r
theorem chainG_mono {n a b : Int} (h : a ≤ b) : ∀ {l : List Int}, chainG n b l = true → chainG n a l = true
  | [], _ => rfl
  | p :: r, hc => by
    rw [chainG, Bool.and_eq_true, decide_eq_true_eq] at hc
    rw [chainG, hc.2, decide_eq_true (show a ≤ p ∧ p ≤ n by omega)]; rfl
theorem placesG_chain (f : Nat → Int) (n : Int) : ∀ c i : Nat, (i : Int) + c ≤ n + 1 → chainG n (i : Int) (placesG f c i) = true := by
  intro c
  induction c with
  | zero => intro i _; rfl
  | succ c ih =>
    intro i hi
    have h := chainG_mono (show (i : Int) ≤ ((i + 1 : Nat) : Int) by omega) (ih (i + 1) (by omega))
    rw [placesG]
    split
    · rw [chainG, h, decide_eq_true (show (i : Int) ≤ (i : Int) ∧ (i : Int) ≤ n by omega)]; rfl
    · exact h
theorem splitM_chain (ps : List Pat) (w : ByteArray) : chainG (w.size : Int) 0 (splitM ps w) = true := by
  by_cases h : (patsOk ps = true ∧ ps.length ≤ 20) ∧ isWord w = true
  · unfold splitM
    rw [if_pos h]
    by_cases h3 : 3 ≤ w.size
    · exact chainG_mono (show (0 : Int) ≤ ((2 : Nat) : Int) by omega) (placesG_chain _ _ _ _ (by omega))
    · have : w.size - 3 = 0 := by omega
      rw [this]; rfl
  · unfold splitM; rw [if_neg h]; rfl
theorem textL_split {w : List Int} {p : Nat} (hp : p ≤ w.length) : ∀ {suf : List Int} {a : Nat}, a ≤ p → chainG (w.length : Int) (p : Int) suf = true → textL w a suf = (w.drop a).take (p - a) ++ textL w p suf
  | [], a, ha, _ => by
    rw [textL, textL]
    have h := List.take_append_drop (p - a) (w.drop a)
    rw [List.drop_drop] at h
    have e : a + (p - a) = p := by omega
    rw [e] at h
    exact h.symm
  | q :: r, a, ha, hc => by
    rw [chainG, Bool.and_eq_true, decide_eq_true_eq] at hc
    rw [textL, textL]
    have e : q.toNat - a = (p - a) + (q.toNat - p) := by omega
    have e2 : a + (p - a) = p := by omega
    rw [e, List.take_add, List.drop_drop, e2, List.append_assoc]
theorem textL_len {w : List Int} : ∀ {pl : List Int} {a : Nat}, a ≤ w.length → chainG (w.length : Int) (a : Int) pl = true → (textL w a pl).length = (w.length - a) + pl.length
  | [], a, ha, _ => by rw [textL]; simp
  | p :: r, a, ha, hc => by
    rw [chainG, Bool.and_eq_true, decide_eq_true_eq] at hc
    have hpa : ((p.toNat : Nat) : Int) = p := by omega
    have h := textL_len (w := w) (pl := r) (a := p.toNat) (by omega) (by rw [hpa]; exact hc.2)
    rw [textL, List.length_append, List.length_cons, h, List.length_take, List.length_drop, List.length_cons]
    omega
theorem textL_drop {w : List Int} : ∀ {pl : List Int} {a : Nat}, a ≤ w.length → chainG (w.length : Int) (a : Int) pl = true → dropL (textL w a pl) = dropL (w.drop a)
  | [], a, ha, _ => by rw [textL]
  | p :: r, a, ha, hc => by
    rw [chainG, Bool.and_eq_true, decide_eq_true_eq] at hc
    have hpa : ((p.toNat : Nat) : Int) = p := by omega
    have h := textL_drop (w := w) (pl := r) (a := p.toNat) (by omega) (by rw [hpa]; exact hc.2)
    rw [textL, dropL_app, dropL_cons, if_pos rfl, h, ← dropL_app]
    have h2 := List.take_append_drop (p.toNat - a) (w.drop a)
    rw [List.drop_drop] at h2
    have e : a + (p.toNat - a) = p.toNat := by omega
    rw [e] at h2
    rw [h2]
theorem dash_size : (ByteArray.mk #[45]).size = 1 := rfl
theorem dash_bytes : bytesOf (ByteArray.mk #[45]) = [45] := rfl
theorem specText_l0 {w : ByteArray} (hw : w.size ≤ 1000) {pl : List Int} (hpl : pl.length ≤ 12) : ∀ (rest pre : List Int) (a : Nat) (out : ByteArray), pl = pre ++ rest → a ≤ w.size → chainG (w.size : Int) (a : Int) rest = true → out.size + 1002 * (rest.length + 1) ≤ 100000 →
    ∃ t, bytesOf t = bytesOf out ++ textL (bytesOf w) a rest ∧ Ev2 (fun N n => spec_SplitText.l0 N n w out (a : Int) (pre.length : Int) (intsP pl)) [strP t] := by
  intro rest
  induction rest with
  | nil =>
    intro pre a out hp ha hc ho
    refine ⟨out ++ w.extract a w.size, ?_, Ev2.succ ?_⟩
    · rw [app_bytes, ext_bytes, textL]
      congr 1
      exact List.take_of_length_le (by rw [List.length_drop, bytesOf_len]; omega)
    · have q1 : (a : Int) ≤ (w.size : Int) := by omega
      have q2 : out.size + (w.extract a w.size).size ≤ 9223372036854775807 := by rw [ByteArray.size_extract]; omega
      simp only [spec_SplitText.l0_eq, ints_len, at_end hp, q1, q2, nn, nat_int, decide_false, Bool.false_eq_true, if_false, if_true]
      exact Ev2.now _
  | cons p rest ih =>
    intro pre a out hp ha hc ho
    rw [chainG, Bool.and_eq_true, decide_eq_true_eq] at hc
    obtain ⟨m, rfl⟩ := Int.eq_ofNat_of_zero_le (show 0 ≤ p by omega)
    have hsz : (w.extract a m).size = m - a := by rw [ByteArray.size_extract]; omega
    obtain ⟨t, h1, h2⟩ := ih (pre ++ [(m : Int)]) m ((out ++ w.extract a m) ++ ByteArray.mk #[45]) (at_step hp) (by omega) hc.2 (by
      rw [ByteArray.size_append, ByteArray.size_append, hsz, dash_size]
      simp only [List.length_cons] at ho
      omega)
    refine ⟨t, ?_, Ev2.succ ?_⟩
    · rw [h1, app_bytes, app_bytes, ext_bytes, dash_bytes, textL, nat_int]
      simp
    · have hl : (pre ++ [(m : Int)]).length = pre.length + 1 := by simp
      have hnx := at_next hp (by omega)
      have q1 : (a : Int) ≤ (m : Int) := hc.1.1
      have q2 : (m : Int) ≤ (w.size : Int) := hc.1.2
      have q3 : out.size + (w.extract a m).size ≤ 9223372036854775807 := by rw [hsz]; omega
      have q4 : (out ++ w.extract a m).size + (ByteArray.mk #[45]).size ≤ 9223372036854775807 := by rw [ByteArray.size_append, hsz, dash_size]; omega
      simp only [spec_SplitText.l0_eq, ints_len, ints_elem, at_lt hp, at_getD hp, hnx, q1, q2, q3, q4, nn, nat_int, decide_true, if_true]
      exact h2
theorem specText_ev {ps : List Pat} (hps : PatsB ps) (w : ByteArray) (hw : w.size ≤ 1000) : ∃ t, bytesOf t = textL (bytesOf w) 0 (splitM ps w) ∧ Ev (fun N => spec_SplitText.f N [patsP ps, strP w]) [strP t] := by
  obtain ⟨t, h1, h2⟩ := specText_l0 hw (splitM_len ps w) (splitM ps w) [] 0 ⟨#[]⟩ rfl (by omega) (splitM_chain ps w) (by
    have := splitM_len ps w
    have : (ByteArray.mk #[]).size = 0 := rfl
    omega)
  refine ⟨t, by rw [h1]; rfl, ?_⟩
  simp only [spec_SplitText.f_eq, toStr_sc]
  refine Ev.bind (specSplitAt_ev hps w (by omega)) ?_
  simp only [headD_one]
  exact h2.diag
theorem implBack_val (s : ByteArray) (hs : s.size ≤ 4294967280) (N : Nat) : impl_SplitBack.f N [strP s] = some [strP (dropB s 45)] := by
  have h : strings_ReplaceAll.f N [strP s, strP (ByteArray.mk #[45]), strP (ByteArray.mk #[])] = if (ByteArray.mk #[45]).size = 1 then (if (ByteArray.mk #[]).size = 0 then (if s.size ≤ 4294967280 then some [strP (dropB s ((ByteArray.mk #[45]).get! 0))] else none) else none) else none := rfl
  rw [if_pos (show (ByteArray.mk #[45]).size = 1 from rfl), if_pos (show (ByteArray.mk #[]).size = 0 from rfl), if_pos hs] at h
  simp only [impl_SplitBack.f_eq, toStr_sc, h, Option.bind_some, headD_one]
  rfl
/-! #### what is left without strokes -/
theorem dropL_rest : ∀ l : List Int, dropL (dropL l) = dropL l := fun l => by
  unfold dropL; rw [List.filter_filter]; simp
def cntL (l : List Int) : Nat := l.countP fun c => decide (c = 45)
theorem cntL_cons (c : Int) (l : List Int) : cntL (c :: l) = cntL l + if c = 45 then 1 else 0 := by
  unfold cntL; rw [List.countP_cons]; by_cases h : c = 45 <;> simp [h]
theorem drop_cnt : ∀ l : List Int, (dropL l).length + cntL l = l.length
  | [] => rfl
  | c :: l => by
    have h := drop_cnt l
    rw [dropL_cons, cntL_cons, List.length_cons]
    by_cases hc : c = 45
    · rw [if_pos hc, if_pos hc]; omega
    · rw [if_neg hc, if_neg hc, List.length_cons]; omega
theorem specBack_l0 {s : ByteArray} (hs : s.size ≤ 1000000) : ∀ (rest pre : List Int) (out : ByteArray), bytesOf s = pre ++ rest → bytesOf out = dropL pre → Ev2 (fun N n => spec_SplitBack.l0 N n s out (pre.length : Int)) [strP (dropB s 45)] := by
  intro rest
  induction rest with
  | nil =>
    intro pre out hp ho
    refine Ev2.succ ?_
    have : out = dropB s 45 := bytesOf_inj (by rw [ho, dropB_bytes, hp, List.append_nil])
    subst this
    simp only [spec_SplitBack.l0_eq, at_sizeE hp, decide_false, Bool.false_eq_true, if_false]
    exact Ev2.now _
  | cons c rest ih =>
    intro pre out hp ho
    have hlt : pre.length < s.size := by have := at_size hp; omega
    obtain ⟨x1, x2⟩ := ext1 s pre.length hlt
    have hos : out.size ≤ 1000000 := by
      have := drop_cnt pre
      rw [← bytesOf_len, ho]; omega
    have hnx := at_next hp (by rw [bytesOf_len]; omega)
    have hl : (pre ++ [c]).length = pre.length + 1 := by simp
    have q1 : ((pre.length : Nat) : Int) ≤ (((pre ++ [c]).length : Nat) : Int) := by rw [hl]; omega
    have q2 : (((pre ++ [c]).length : Nat) : Int) ≤ (s.size : Int) := by rw [hl]; omega
    refine Ev2.succ ?_
    by_cases hc : c = 45
    · have hi := ih (pre ++ [c]) out (at_step hp) (by rw [dropL_app, dropL_cons, if_pos hc, ho]; simp [dropL])
      simp only [spec_SplitBack.l0_eq, at_size hp, nn, nat_int, get_bt, at_bt hp, hnx, hc, decide_true, Bool.not_true, Bool.false_eq_true, if_true, if_false]
      rw [hc] at hi
      exact hi
    · have hi := ih (pre ++ [c]) (out ++ s.extract pre.length (pre ++ [c]).length) (at_step hp) (by
        rw [dropL_app, dropL_cons, if_neg hc, app_bytes, ho, hl, x2, at_bt hp]; rfl)
      have q3 : out.size + (s.extract pre.length (pre ++ [c]).length).size ≤ 9223372036854775807 := by rw [hl, x1]; omega
      simp only [spec_SplitBack.l0_eq, at_size hp, nn, nat_int, get_bt, at_bt hp, hnx, hc, q1, q2, q3, decide_true, decide_false, Bool.not_false, if_true]
      exact hi
theorem specBack_ev {s : ByteArray} (hs : s.size ≤ 1000000) : Ev (fun N => spec_SplitBack.f N [strP s]) [strP (dropB s 45)] := by
  simp only [spec_SplitBack.f_eq, toStr_sc]
  exact (specBack_l0 hs (bytesOf s) [] ⟨#[]⟩ rfl rfl).diag
/-- The law's own function answers true. -/
theorem law (ps : List PV) (h : PvOkL (PvOk Tryd.prog 8) [22, 22] ps) : ∃ N, laws_FnSplitBack.f N ps = some [boolP true] := by
  obtain ⟨p1, p2, rfl, hp1, hp2⟩ := pvOkL2 h
  obtain ⟨l, hx, hby⟩ := code_args (P := Tryd.prog) (t := 22) (e := 5) (ps := [p1]) (by kernel_rfl) (by kernel_rfl) ⟨hp1, trivial⟩
  obtain ⟨m, hy, hby2⟩ := code_args (P := Tryd.prog) (t := 22) (e := 5) (ps := [p2]) (by kernel_rfl) (by kernel_rfl) ⟨hp2, trivial⟩
  obtain rfl : p1 = PV.list l := by injection hx
  obtain rfl : p2 = PV.list m := by injection hy
  refine Ev.some ?_
  simp only [laws_FnSplitBack.f_eq, items_list]
  by_cases hl : (1048576 : Int) < (l.length : Int)
  · simp only [hl, strs_len, strs_elem, ints_len, ints_elem, items_list, fld_agg, elem_list, toStr_sc, toInt_sc, toBool_sc, headD_one, nat_int, get_bt, decide_eq_true_eq, decide_eq_false_iff_not, decide_true, decide_false, if_true, if_false, ite_self, Bool.not_true, Bool.not_false, Bool.false_eq_true, Bool.true_eq_false, Bool.true_and, Bool.false_and, Bool.and_true, Bool.and_false, not_true, not_false_iff, Option.bind_some, nn, toList_inj, Bool.not_eq_true', Bool.not_eq_false', Int.le_refl, and_self, true_and, and_true, false_and, and_false, bne_self_eq_false, beq_self_eq_true, Int.reduceEq, Nat.reduceEqDiff, List.length_singleton, List.tail_cons, Int.reduceLE, Int.reduceLT, decide_eq_true_eq]; exact Ev.now _
  by_cases hm : (1048576 : Int) < (m.length : Int)
  · simp only [hl, hm, strs_len, strs_elem, ints_len, ints_elem, items_list, fld_agg, elem_list, toStr_sc, toInt_sc, toBool_sc, headD_one, nat_int, get_bt, decide_eq_true_eq, decide_eq_false_iff_not, decide_true, decide_false, if_true, if_false, ite_self, Bool.not_true, Bool.not_false, Bool.false_eq_true, Bool.true_eq_false, Bool.true_and, Bool.false_and, Bool.and_true, Bool.and_false, not_true, not_false_iff, Option.bind_some, nn, toList_inj, Bool.not_eq_true', Bool.not_eq_false', Int.le_refl, and_self, true_and, and_true, false_and, and_false, bne_self_eq_false, beq_self_eq_true, Int.reduceEq, Nat.reduceEqDiff, List.length_singleton, List.tail_cons, Int.reduceLE, Int.reduceLT, decide_eq_true_eq]; exact Ev.now _
  obtain ⟨b, hb, hopen⟩ := open_ev (l := l) (by omega) hby
  obtain ⟨pl, q, hq, hpl, hf1⟩ := patterns_ev hb 0 (by omega)
  obtain ⟨w, q2, hq2, hw1, hw, hf2⟩ := word_ev hb q (by omega)
  obtain ⟨t, t1, t2⟩ := specText_ev hpl w (by omega)
  have hbl : (bytesOf w).length = w.size := bytesOf_len w
  have hch : chainG ((bytesOf w).length : Int) ((0 : Nat) : Int) (splitM pl w) = true := by rw [hbl]; exact splitM_chain pl w
  have hlen := textL_len (w := bytesOf w) (pl := splitM pl w) (a := 0) (by omega) hch
  have hsl := splitM_len pl w
  have htz : t.size ≤ 100 := by rw [← bytesOf_len, t1, hlen, hbl]; omega
  obtain ⟨s, hs, hf3⟩ := of_ev hb (p := (q2 : Int)) (by omega) [ByteArray.mk #[], ByteArray.mk #[45], ByteArray.mk #[117, 110, 45, 100, 111], ByteArray.mk #[97, 45, 45, 98], t] (by simp)
  have hsz : s.size ≤ 100 := by
    simp only [List.mem_cons, List.not_mem_nil, or_false] at hs
    rcases hs with rfl | rfl | rfl | rfl | rfl
    · decide
    · decide
    · decide
    · decide
    · exact htz
  have hdraw : Ev (fun N => spec_DrawSplitBack.f N [PV.list l]) [strP s] := by
    have e : PV.list ([PV.sc (.string (ByteArray.mk #[])), PV.sc (.string (ByteArray.mk #[45])), PV.sc (.string (ByteArray.mk #[117, 110, 45, 100, 111])), PV.sc (.string (ByteArray.mk #[97, 45, 45, 98])), PV.sc (.string t)]) = strsP [ByteArray.mk #[], ByteArray.mk #[45], ByteArray.mk #[117, 110, 45, 100, 111], ByteArray.mk #[97, 45, 45, 98], t] := rfl
    simp only [spec_DrawSplitBack.f_eq, hopen, headD_one, rd_f0, rd_f1, rd_agg, toInt_sc, Option.bind_some]
    refine Ev.bind hf1 ?_
    simp only [List.headD_cons, List.tail_cons, rd_f1, rd_agg, toInt_sc]
    refine Ev.bind hf2 ?_
    simp only [List.headD_cons, List.tail_cons, rd_f1, rd_agg, toInt_sc, toStr_sc]
    refine Ev.bind t2 ?_
    simp only [headD_one, toStr_sc, e, hf3, Option.bind_some, List.headD_cons]
    exact Ev.now _
  have wz : IntKind.i64.wrap ((s.size : Int) + 1) = ((s.size + 1 : Nat) : Int) := by rw [wrap_id (by omega) (by omega)]; omega
  have wz0 : (((s.size + 1 : Nat) : Int) = 0) = False := eq_false (by omega)
  have hk := tmod_in (x := (m.length : Int)) (n := ((s.size + 1 : Nat) : Int)) (by omega) (by omega)
  obtain ⟨k, hkk⟩ := Int.eq_ofNat_of_zero_le hk.1
  have hks : k ≤ s.size := by omega
  have hdz : (dropB s 45).size + cntL (bytesOf s) = s.size := by rw [← bytesOf_len, dropB_bytes, drop_cnt, bytesOf_len]
  have hdd : dropB (dropB s 45) 45 = dropB s 45 := bytesOf_inj (by rw [dropB_bytes, dropB_bytes, dropL_rest])
  have hcut : dropB (s.extract 0 k) 45 ++ dropB (s.extract k s.size) 45 = dropB s 45 := by
    apply bytesOf_inj
    rw [app_bytes, dropB_bytes, dropB_bytes, dropB_bytes, ext_bytes, ext_bytes, ← dropL_app, List.drop_zero, Nat.sub_zero]
    have : List.take (s.size - k) (List.drop k (bytesOf s)) = List.drop k (bytesOf s) := List.take_of_length_le (by rw [List.length_drop, bytesOf_len]; omega)
    rw [this, List.take_append_drop]
  have hle : ∀ x : ByteArray, (dropB x 45).size ≤ x.size := fun x => by
    have := drop_cnt (bytesOf x)
    rw [← bytesOf_len, dropB_bytes, ← bytesOf_len x]; omega
  have key : ∀ (rest pre : List Int), bytesOf s = pre ++ rest → Ev2 (fun N n => laws_FnSplitBack.l0 N n s (dropB s 45) (k : Int) (cntL pre : Int) (pre.length : Int)) [boolP true] := by
    intro rest
    induction rest with
    | nil =>
      intro pre hp
      refine Ev2.succ ?_
      have hpre : cntL pre = cntL (bytesOf s) := by rw [hp, List.append_nil]
      have w1 : IntKind.i64.wrap (((dropB s 45).size : Int) + (cntL pre : Int)) = (s.size : Int) := by rw [hpre, wrap_id (by omega) (by omega)]; omega
      have q1 : (k : Int) ≤ (s.size : Int) := by omega
      have z1 : (s.extract 0 k).size ≤ 100 := by rw [ByteArray.size_extract]; omega
      have z2 : (s.extract k s.size).size ≤ 100 := by rw [ByteArray.size_extract]; omega
      have y1 := hle (s.extract 0 k); have y2 := hle (s.extract k s.size); have y3 := hle s
      have q2 : (dropB (s.extract 0 k) 45).size + (dropB (s.extract k s.size) 45).size ≤ 9223372036854775807 := by omega
      simp only [laws_FnSplitBack.l0_eq, at_sizeE hp, decide_false, Bool.false_eq_true, if_false]
      refine Ev2.bind (specBack_ev (s := s) (by omega)) ?_
      simp only [headD_one, toStr_sc, w1, implBack_val (dropB s 45) (by omega), implBack_val (s.extract 0 k) (by omega), implBack_val (s.extract k s.size) (by omega), hdd, q1, q2, hcut, nn, nat_int, Option.bind_some, decide_true, if_true]
      exact Ev2.now _
    | cons c rest ih =>
      intro pre hp
      refine Ev2.succ ?_
      have hi := ih (pre ++ [c]) (at_step hp)
      have hnx := at_next hp (by rw [bytesOf_len]; omega)
      have hca : cntL (pre ++ [c]) = cntL pre + if c = 45 then 1 else 0 := by
        unfold cntL; rw [List.countP_append]; by_cases h : c = 45 <;> simp [h]
      have hcl : cntL pre ≤ 100 := by
        have h1 := drop_cnt pre
        have h2 : pre.length ≤ s.size := by have := at_size hp; omega
        omega
      by_cases hc : c = 45
      · have w1 : IntKind.i64.wrap ((cntL pre : Int) + 1) = (cntL (pre ++ [c]) : Int) := by rw [hca, if_pos hc, wrap_id (by omega) (by omega)]; omega
        rw [hc] at w1 hi hnx
        simp only [laws_FnSplitBack.l0_eq, at_size hp, nn, nat_int, get_bt, at_bt hp, hc, hnx, w1, decide_true, if_true]
        exact hi
      · rw [hca, if_neg hc, Nat.add_zero] at hi
        simp only [laws_FnSplitBack.l0_eq, at_size hp, nn, nat_int, get_bt, at_bt hp, hc, hnx, decide_true, decide_false, Bool.false_eq_true, if_true, if_false]
        exact hi
  simp only [hl, hm, decide_false, Bool.false_eq_true, if_false, if_true]
  refine Ev.bind hdraw ?_
  simp only [headD_one, toStr_sc, implBack_val s (by omega), wz, wz0, hkk, Option.bind_some, if_false]
  exact (key (bytesOf s) [] rfl).diag
end Go.Proofs.YtanfkcmfgdeioaaDoor.FnSplitBack
