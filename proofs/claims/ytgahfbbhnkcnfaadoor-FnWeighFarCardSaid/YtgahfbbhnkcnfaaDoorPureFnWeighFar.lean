/- The law FnWeighFar, over the trees that its functions compute: it answers true, for all arguments of the bounds that the row grants. -/
import Derived.Test.YtgahfbbhnkcnfaaDoorFnFnWeighFarx1
set_option linter.unusedVariables false
set_option linter.unusedSimpArgs false
set_option maxRecDepth 10000
namespace Go.Proofs.YtgahfbbhnkcnfaaDoor.FnWeighFar
open Go Go.Proofs.YtgahfbbhnkcnfaaDoorAm
/-! #### the reader of a code -/
def rdP (b : PV) (p : Int) : PV := .agg [b, intP p]
theorem rd_f0 (b : PV) (p : Int) : (rdP b p).fld 0 = b := rfl
theorem rd_f1 (b : PV) (p : Int) : (rdP b p).fld 1 = intP p := rfl
theorem rd_agg (b : PV) (p : Int) : PV.agg [b, PV.sc (.int .i64 p)] = rdP b p := rfl
/-- A code: so many bytes. -/
structure Code1 (b : PV) : Prop where
  len : b.items.length ≤ 2000
  byte : ∀ j, 0 ≤ (b.elem j).toInt ∧ (b.elem j).toInt ≤ 255
theorem bXor_pos {a b : Int} (ha : 0 ≤ a ∧ a < 9223372036854775808) (hb : 0 ≤ b ∧ b < 9223372036854775808) : 0 ≤ bXor .i64 a b := by
  obtain ⟨x, rfl⟩ := Int.eq_ofNat_of_zero_le ha.1
  obtain ⟨y, rfl⟩ := Int.eq_ofNat_of_zero_le hb.1
  have hx : x < 2 ^ 63 := by omega
  have hy : y < 2 ^ 63 := by omega
  have h : (BitVec.ofInt (IntKind.bits .i64) (x : Int) ^^^ BitVec.ofInt (IntKind.bits .i64) (y : Int)).toNat = x ^^^ y := by
    rw [BitVec.toNat_xor, BitVec.toNat_ofInt, BitVec.toNat_ofInt]
    have hx2 : ((x : Int) % ((2 ^ IntKind.i64.bits : Nat) : Int)).toNat = x := by
      have : ((2 ^ IntKind.i64.bits : Nat) : Int) = 18446744073709551616 := rfl
      rw [this]; omega
    have hy2 : ((y : Int) % ((2 ^ IntKind.i64.bits : Nat) : Int)).toNat = y := by
      have : ((2 ^ IntKind.i64.bits : Nat) : Int) = 18446744073709551616 := rfl
      rw [this]; omega
    rw [hx2, hy2]
  have hlt : x ^^^ y < 2 ^ 63 := Nat.xor_lt_two_pow hx hy
  unfold bXor
  rw [h, wrap_id (by omega) (by omega)]
  omega
theorem tmod_in {x n : Int} (hx : 0 ≤ x) (hn : 1 ≤ n) : 0 ≤ Int.tmod x n ∧ Int.tmod x n < n := by
  rw [Int.tmod_eq_emod_of_nonneg hx]
  exact ⟨Int.emod_nonneg _ (by omega), Int.emod_lt_of_pos _ (by omega)⟩
theorem tdiv_in {x n : Int} (hx : 0 ≤ x) (hn : 1 ≤ n) : 0 ≤ Int.tdiv x n ∧ Int.tdiv x n ≤ x := by
  rw [Int.tdiv_eq_ediv_of_nonneg hx]
  exact ⟨Int.ediv_nonneg hx (by omega), Int.ediv_le_self _ hx⟩
theorem pick_ev {b : PV} (hb : Code1 b) {p n : Int} (hp : 0 ≤ p ∧ p < 1000000000) (hn : 1 ≤ n ∧ n < 4611686018427387904) : ∃ k, (0 ≤ k ∧ k < n) ∧ ∀ N, spec_l1Rd_pick.f N [rdP b p, intP n] = some [intP k, rdP b (p + 1)] := by
  have hlen := hb.len
  have h0 : ¬ n < 1 := by omega
  have h00 : ¬ n = 0 := by omega
  have w1 : IntKind.i64.wrap (p + 1) = p + 1 := wrap_id (by omega) (by omega)
  have w2 : IntKind.i64.wrap (p + 1 - 1) = p := by rw [wrap_id (by omega) (by omega)]; omega
  by_cases hz : (b.items.length : Int) = 0
  · refine ⟨0, by omega, fun N => ?_⟩
    simp only [spec_l1Rd_pick.f_eq, rd_f0, rd_f1, h0, hz, w1, strs_len, strs_elem, ints_len, ints_elem, items_list, fld_agg, elem_list, toStr_sc, toInt_sc, toBool_sc, headD_one, nat_int, get_bt, decide_eq_true_eq, decide_eq_false_iff_not, decide_true, decide_false, if_true, if_false, ite_self, Bool.not_true, Bool.not_false, Bool.false_eq_true, Bool.true_eq_false, Bool.true_and, Bool.false_and, Bool.and_true, Bool.and_false, not_true, not_false_iff, Option.bind_some, nn, toList_inj, Bool.not_eq_true', Bool.not_eq_false', Int.le_refl, and_self, true_and, and_true, false_and, and_false, bne_self_eq_false, beq_self_eq_true, Int.reduceEq, Nat.reduceEqDiff, List.length_singleton, List.tail_cons, Int.reduceLE, Int.reduceLT, decide_eq_true_eq]
    rfl
  by_cases hlt : p < (b.items.length : Int)
  · have hby := hb.byte p.toNat
    have w3 : IntKind.i64.wrap ((b.elem p.toNat).toInt) = (b.elem p.toNat).toInt := wrap_id (by omega) (by omega)
    refine ⟨Int.tmod ((b.elem p.toNat).toInt) n, tmod_in hby.1 hn.1, fun N => ?_⟩
    simp only [spec_l1Rd_pick.f_eq, rd_f0, rd_f1, h0, h00, hz, hlt, hp.1, w1, w2, w3, strs_len, strs_elem, ints_len, ints_elem, items_list, fld_agg, elem_list, toStr_sc, toInt_sc, toBool_sc, headD_one, nat_int, get_bt, decide_eq_true_eq, decide_eq_false_iff_not, decide_true, decide_false, if_true, if_false, ite_self, Bool.not_true, Bool.not_false, Bool.false_eq_true, Bool.true_eq_false, Bool.true_and, Bool.false_and, Bool.and_true, Bool.and_false, not_true, not_false_iff, Option.bind_some, nn, toList_inj, Bool.not_eq_true', Bool.not_eq_false', Int.le_refl, and_self, true_and, and_true, false_and, and_false, bne_self_eq_false, beq_self_eq_true, Int.reduceEq, Nat.reduceEqDiff, List.length_singleton, List.tail_cons, Int.reduceLE, Int.reduceLT, decide_eq_true_eq]
    rfl
  · have hm : 1 ≤ (b.items.length : Int) := by omega
    have w4 : IntKind.i64.wrap (p * 7) = p * 7 := wrap_id (by omega) (by omega)
    have w5 : IntKind.i64.wrap (p * 7 + 3) = p * 7 + 3 := wrap_id (by omega) (by omega)
    have w6 : IntKind.i64.wrap (p * 29) = p * 29 := wrap_id (by omega) (by omega)
    have m1 := tmod_in (x := p) hp.1 hm
    have m2 := tmod_in (x := p * 7 + 3) (by omega) hm
    have q1 := tdiv_in (x := p) hp.1 hm
    have w7 : IntKind.i64.wrap (Int.tdiv p (b.items.length : Int)) = Int.tdiv p (b.items.length : Int) := wrap_id (by omega) (by omega)
    have w8 : IntKind.i64.wrap (Int.tdiv p (b.items.length : Int) * 53) = Int.tdiv p (b.items.length : Int) * 53 := wrap_id (by omega) (by omega)
    have e1 := hb.byte (Int.tmod p (b.items.length : Int)).toNat
    have e2 := hb.byte (Int.tmod (p * 7 + 3) (b.items.length : Int)).toNat
    have z64 : ((64 : Int) = 0) = False := by simp
    simp only [spec_l1Rd_pick.f_eq, rd_f0, rd_f1, h0, h00, hz, hlt, hp.1, w1, w2, w4, w5, w6, w7, w8, m1, m2, z64, strs_len, strs_elem, ints_len, ints_elem, items_list, fld_agg, elem_list, toStr_sc, toInt_sc, toBool_sc, headD_one, nat_int, get_bt, decide_eq_true_eq, decide_eq_false_iff_not, decide_true, decide_false, if_true, if_false, ite_self, Bool.not_true, Bool.not_false, Bool.false_eq_true, Bool.true_eq_false, Bool.true_and, Bool.false_and, Bool.and_true, Bool.and_false, not_true, not_false_iff, Option.bind_some, nn, toList_inj, Bool.not_eq_true', Bool.not_eq_false', Int.le_refl, and_self, true_and, and_true, false_and, and_false, bne_self_eq_false, beq_self_eq_true, Int.reduceEq, Nat.reduceEqDiff, List.length_singleton, List.tail_cons, Int.reduceLE, Int.reduceLT, decide_eq_true_eq]
    generalize (b.elem (Int.tmod p (b.items.length : Int)).toNat).toInt = x1 at e1 ⊢
    generalize (b.elem (Int.tmod (p * 7 + 3) (b.items.length : Int)).toNat).toInt = x2 at e2 ⊢
    generalize Int.tdiv p (b.items.length : Int) = d at q1 ⊢
    have v1 : IntKind.i64.wrap x1 = x1 := wrap_id (by omega) (by omega)
    have v2 : IntKind.i64.wrap x2 = x2 := wrap_id (by omega) (by omega)
    have v3 : IntKind.i64.wrap (x1 * 131) = x1 * 131 := wrap_id (by omega) (by omega)
    have v4 : IntKind.i64.wrap (x2 * 1117) = x2 * 1117 := wrap_id (by omega) (by omega)
    have v5 : IntKind.i64.wrap (x1 * 131 + x2 * 1117) = x1 * 131 + x2 * 1117 := wrap_id (by omega) (by omega)
    have v6 : IntKind.i64.wrap (x1 * 131 + x2 * 1117 + p * 29) = x1 * 131 + x2 * 1117 + p * 29 := wrap_id (by omega) (by omega)
    have v7 : IntKind.i64.wrap (x1 * 131 + x2 * 1117 + p * 29 + d * 53) = x1 * 131 + x2 * 1117 + p * 29 + d * 53 := wrap_id (by omega) (by omega)
    simp only [v1, v2, v3, v4, v5, v6, v7]
    generalize hy : x1 * 131 + x2 * 1117 + p * 29 + d * 53 = y
    have hyb : 0 ≤ y ∧ y < 1000000000000 := by omega
    have q2 := tdiv_in (x := y) (n := 64) hyb.1 (by omega)
    have v8 : IntKind.i64.wrap (Int.tdiv y 64) = Int.tdiv y 64 := wrap_id (by omega) (by omega)
    rw [v8]
    exact ⟨Int.tmod (bXor .i64 y (Int.tdiv y 64)) n, tmod_in (bXor_pos (by omega) (by omega)) hn.1, fun N => rfl⟩
theorem of_ev {b : PV} (hb : Code1 b) {p : Int} (hp : 0 ≤ p ∧ p < 1000000000) (l : List ByteArray) (hl : 1 ≤ l.length ∧ l.length < 4611686018427387904) : ∃ s ∈ l, ∀ N, spec_l1Rd_of.f N [rdP b p, strsP l] = some [strP s, rdP b (p + 1)] := by
  obtain ⟨k, hk, hf⟩ := pick_ev hb hp (n := (l.length : Int)) (by omega)
  obtain ⟨j, rfl⟩ := Int.eq_ofNat_of_zero_le hk.1
  have hj : j < l.length := by omega
  refine ⟨l.getD j ByteArray.empty, ?_, fun N => ?_⟩
  · rw [List.getD_eq_getElem?_getD, List.getElem?_eq_getElem hj]; exact List.getElem_mem hj
  · simp only [spec_l1Rd_of.f_eq, rd_f0, rd_f1, rd_agg, hf, hk, strs_len, strs_elem, ints_len, ints_elem, items_list, fld_agg, elem_list, toStr_sc, toInt_sc, toBool_sc, headD_one, nat_int, get_bt, decide_eq_true_eq, decide_eq_false_iff_not, decide_true, decide_false, if_true, if_false, ite_self, Bool.not_true, Bool.not_false, Bool.false_eq_true, Bool.true_eq_false, Bool.true_and, Bool.false_and, Bool.and_true, Bool.and_false, not_true, not_false_iff, Option.bind_some, nn, toList_inj, Bool.not_eq_true', Bool.not_eq_false', Int.le_refl, and_self, true_and, and_true, false_and, and_false, bne_self_eq_false, beq_self_eq_true, Int.reduceEq, Nat.reduceEqDiff, List.length_singleton, List.tail_cons, Int.reduceLE, Int.reduceLT, decide_eq_true_eq]
theorem open_ev {l : List PV} (hl : l.length ≤ 1048576) (hby : ∀ j, 0 ≤ ((PV.list l).elem j).toInt ∧ ((PV.list l).elem j).toInt ≤ 255) : ∃ b, Code1 b ∧ ∀ N, spec_l1Open.f N [PV.list l] = some [rdP b 0] := by
  by_cases h : (2000 : Int) < (l.length : Int)
  · refine ⟨PV.list (l.take 2000), ⟨by simp [PV.items]; omega, fun j => ?_⟩, fun N => ?_⟩
    · rw [elem_list, List.getD_eq_getElem?_getD, List.getElem?_take]
      have := hby j
      rw [elem_list, List.getD_eq_getElem?_getD] at this
      split
      · exact this
      · exact ⟨Int.le_refl _, by decide⟩
    · have h2 : (2000 : Int) ≤ (l.length : Int) := by omega
      simp only [spec_l1Open.f_eq, h, h2, strs_len, strs_elem, ints_len, ints_elem, items_list, fld_agg, elem_list, toStr_sc, toInt_sc, toBool_sc, headD_one, nat_int, get_bt, decide_eq_true_eq, decide_eq_false_iff_not, decide_true, decide_false, if_true, if_false, ite_self, Bool.not_true, Bool.not_false, Bool.false_eq_true, Bool.true_eq_false, Bool.true_and, Bool.false_and, Bool.and_true, Bool.and_false, not_true, not_false_iff, Option.bind_some, nn, toList_inj, Bool.not_eq_true', Bool.not_eq_false', Int.le_refl, and_self, true_and, and_true, false_and, and_false, bne_self_eq_false, beq_self_eq_true, Int.reduceEq, Nat.reduceEqDiff, List.length_singleton, List.tail_cons, Int.reduceLE, Int.reduceLT, decide_eq_true_eq]
      rfl
  · refine ⟨PV.list l, ⟨by simp [PV.items]; omega, hby⟩, fun N => ?_⟩
    simp only [spec_l1Open.f_eq, h, strs_len, strs_elem, ints_len, ints_elem, items_list, fld_agg, elem_list, toStr_sc, toInt_sc, toBool_sc, headD_one, nat_int, get_bt, decide_eq_true_eq, decide_eq_false_iff_not, decide_true, decide_false, if_true, if_false, ite_self, Bool.not_true, Bool.not_false, Bool.false_eq_true, Bool.true_eq_false, Bool.true_and, Bool.false_and, Bool.and_true, Bool.and_false, not_true, not_false_iff, Option.bind_some, nn, toList_inj, Bool.not_eq_true', Bool.not_eq_false', Int.le_refl, and_self, true_and, and_true, false_and, and_false, bne_self_eq_false, beq_self_eq_true, Int.reduceEq, Nat.reduceEqDiff, List.length_singleton, List.tail_cons, Int.reduceLE, Int.reduceLT, decide_eq_true_eq]
    rfl
theorem code_args {P : Program} {t e : TypeId} (ht : tk P t = .slice e) (he : tk P e = .int .u8) {ps : List PV} (h : PvOkL (PvOk P 8) [t] ps) : ∃ l, ps = [PV.list l] ∧ ∀ j, 0 ≤ ((PV.list l).elem j).toInt ∧ ((PV.list l).elem j).toInt ≤ 255 := by
  obtain ⟨p, rfl, h1⟩ := pvOkL1 h
  obtain ⟨l, rfl, _, h3⟩ := pvOk_slice ht h1
  refine ⟨l, rfl, fun j => ?_⟩
  rw [elem_list, List.getD_eq_getElem?_getD]
  cases hj : l[j]? with
  | none => exact ⟨Int.le_refl _, by decide⟩
  | some q =>
    obtain ⟨x, rfl, hx⟩ := pvOk_int he (h3 q (List.mem_of_getElem? hj))
    simp [Lit.wf, IntKind.min, IntKind.max, IntKind.signed, IntKind.bits] at hx
    simp [PV.toInt]; omega
theorem Ev2.bind2 {α β : Type} {r : α} {s : β} {g : Nat → Nat → Option β} {f : Nat → Nat → β → Option α} (h : Ev2 g s) (k : Ev2 (fun N n => f N n s) r) : Ev2 (fun N n => (g N n).bind (f N n)) r := by
  obtain ⟨k1, h1⟩ := h; obtain ⟨k2, h2⟩ := k
  exact ⟨max k1 k2, fun N n hN hn => by
    show (g N n).bind (f N n) = _
    rw [h1 N n (by omega) (by omega), Option.bind_some]; exact h2 N n (by omega) (by omega)⟩
theorem nat_wrap {n : Int} {m : Nat} (h : n = (m : Int)) (hm : m < 9223372036854775808) : IntKind.i64.wrap n = (m : Int) := by
  rw [h, wrap_id (by omega) (by omega)]
theorem lt_int {a b : Nat} (h : a < b) : (a : Int) < (b : Int) := Int.ofNat_lt.2 h
theorem le_int {a b : Nat} (h : a ≤ b) : (a : Int) ≤ (b : Int) := Int.ofNat_le.2 h
/-! #### words -/
def isWord (s : ByteArray) : Bool := decide (1 ≤ s.size ∧ s.size ≤ 12) && (bytesOf s).all fun c => decide (97 ≤ c ∧ c ≤ 122)
def lowB (l : List Int) : Bool := l.all fun c => decide (97 ≤ c ∧ c ≤ 122)
theorem lowB_cons (c : Int) (l : List Int) : lowB (c :: l) = (decide (97 ≤ c ∧ c ≤ 122) && lowB l) := by simp [lowB]
def bLess (a b : ByteArray) : Bool := Op.bytesLess a.toList b.toList
theorem bLess_eq (a b : ByteArray) : Op.bytesLess a.toList b.toList = bLess a b := rfl
/-- Words, ascending, behind one (or none). -/
def ascW : Option ByteArray → List ByteArray → Bool
  | _, [] => true
  | none, c :: rest => isWord c && ascW (some c) rest
  | some q, c :: rest => isWord c && bLess q c && ascW (some c) rest
def wordsM (l : List ByteArray) (most : Int) : Bool := ascW none l && decide ((l.length : Int) ≤ most)
/-- What stands ahead of a place. -/
def Ahead (pre : List ByteArray) (p : Option ByteArray) : Prop := (pre = [] ∧ p = none) ∨ ∃ pre' q, pre = pre' ++ [q] ∧ p = some q
theorem Ahead.next (pre : List ByteArray) (c : ByteArray) : Ahead (pre ++ [c]) (some c) := .inr ⟨pre, c, rfl, rfl⟩
theorem at_prev {xs pre' rest : List ByteArray} {q : ByteArray} (hp : xs = (pre' ++ [q]) ++ rest) (hx : xs.length ≤ 9223372036854775807) :
    IntKind.i64.wrap (((pre' ++ [q]).length : Int) - 1) = (pre'.length : Int) ∧ (pre'.length : Int) < (xs.length : Int) ∧ xs.getD pre'.length ByteArray.empty = q ∧ (0 : Int) < ((pre' ++ [q]).length : Int) := by
  subst hp
  simp only [List.length_append, List.length_cons, List.length_nil] at hx ⊢
  refine ⟨?_, by omega, ?_, by omega⟩
  · rw [wrap_id (by omega) (by omega)]; omega
  · simp
theorem implWithin_val (a b c : Int) (N : Nat) : impl_within.f N [.sc (.int .i64 a), .sc (.int .i64 b), .sc (.int .i64 c)] = some [boolP (decide (b ≤ a ∧ a ≤ c))] := by
  simp only [impl_within.f_eq, strs_len, strs_elem, ints_len, ints_elem, items_list, fld_agg, elem_list, toStr_sc, toInt_sc, toBool_sc, headD_one, nat_int, get_bt, decide_eq_true_eq, decide_eq_false_iff_not, decide_true, decide_false, if_true, if_false, ite_self, Bool.not_true, Bool.not_false, Bool.false_eq_true, Bool.true_eq_false, Bool.true_and, Bool.false_and, Bool.and_true, Bool.and_false, not_true, not_false_iff, Option.bind_some, nn, toList_inj, Bool.not_eq_true', Bool.not_eq_false', Int.le_refl, and_self, true_and, and_true, false_and, and_false, bne_self_eq_false, beq_self_eq_true, Int.reduceEq, Nat.reduceEqDiff, List.length_singleton, List.tail_cons, Int.reduceLE, Int.reduceLT, decide_eq_true_eq]
  by_cases h1 : b ≤ a <;> by_cases h2 : a ≤ c <;> simp only [h1, h2, strs_len, strs_elem, ints_len, ints_elem, items_list, fld_agg, elem_list, toStr_sc, toInt_sc, toBool_sc, headD_one, nat_int, get_bt, decide_eq_true_eq, decide_eq_false_iff_not, decide_true, decide_false, if_true, if_false, ite_self, Bool.not_true, Bool.not_false, Bool.false_eq_true, Bool.true_eq_false, Bool.true_and, Bool.false_and, Bool.and_true, Bool.and_false, not_true, not_false_iff, Option.bind_some, nn, toList_inj, Bool.not_eq_true', Bool.not_eq_false', Int.le_refl, and_self, true_and, and_true, false_and, and_false, bne_self_eq_false, beq_self_eq_true, Int.reduceEq, Nat.reduceEqDiff, List.length_singleton, List.tail_cons, Int.reduceLE, Int.reduceLT, decide_eq_true_eq]
theorem implLower_loop (s : ByteArray) (hs : s.size ≤ 9223372036854775807) : ∀ rest pre : List Int, bytesOf s = pre ++ rest → Ev2 (fun N n => impl_lower.l0 N n s (s.size : Int) (pre.length : Int)) [boolP (lowB rest)] := by
  intro rest
  induction rest with
  | nil =>
    intro pre hp
    refine Ev2.succ ?_
    simp only [impl_lower.l0_eq, at_sizeE hp, strs_len, strs_elem, ints_len, ints_elem, items_list, fld_agg, elem_list, toStr_sc, toInt_sc, toBool_sc, headD_one, nat_int, get_bt, decide_eq_true_eq, decide_eq_false_iff_not, decide_true, decide_false, if_true, if_false, ite_self, Bool.not_true, Bool.not_false, Bool.false_eq_true, Bool.true_eq_false, Bool.true_and, Bool.false_and, Bool.and_true, Bool.and_false, not_true, not_false_iff, Option.bind_some, nn, toList_inj, Bool.not_eq_true', Bool.not_eq_false', Int.le_refl, and_self, true_and, and_true, false_and, and_false, bne_self_eq_false, beq_self_eq_true, Int.reduceEq, Nat.reduceEqDiff, List.length_singleton, List.tail_cons, Int.reduceLE, Int.reduceLT, decide_eq_true_eq]
    exact Ev2.now _
  | cons c rest ih =>
    intro pre hp
    refine Ev2.succ ?_
    simp only [impl_lower.l0_eq, strs_len, strs_elem, ints_len, ints_elem, items_list, fld_agg, elem_list, toStr_sc, toInt_sc, toBool_sc, headD_one, nat_int, get_bt, decide_eq_true_eq, decide_eq_false_iff_not, decide_true, decide_false, if_true, if_false, ite_self, Bool.not_true, Bool.not_false, Bool.false_eq_true, Bool.true_eq_false, Bool.true_and, Bool.false_and, Bool.and_true, Bool.and_false, not_true, not_false_iff, Option.bind_some, nn, toList_inj, Bool.not_eq_true', Bool.not_eq_false', Int.le_refl, and_self, true_and, and_true, false_and, and_false, bne_self_eq_false, beq_self_eq_true, Int.reduceEq, Nat.reduceEqDiff, List.length_singleton, List.tail_cons, Int.reduceLE, Int.reduceLT, decide_eq_true_eq, at_size hp, at_bt hp, at_next hp (by rw [bytesOf_len]; omega)]
    rw [lowB_cons]
    by_cases h1 : c < 97
    · simp only [h1, eq_false (show ¬ (97 ≤ c ∧ c ≤ 122) by omega), strs_len, strs_elem, ints_len, ints_elem, items_list, fld_agg, elem_list, toStr_sc, toInt_sc, toBool_sc, headD_one, nat_int, get_bt, decide_eq_true_eq, decide_eq_false_iff_not, decide_true, decide_false, if_true, if_false, ite_self, Bool.not_true, Bool.not_false, Bool.false_eq_true, Bool.true_eq_false, Bool.true_and, Bool.false_and, Bool.and_true, Bool.and_false, not_true, not_false_iff, Option.bind_some, nn, toList_inj, Bool.not_eq_true', Bool.not_eq_false', Int.le_refl, and_self, true_and, and_true, false_and, and_false, bne_self_eq_false, beq_self_eq_true, Int.reduceEq, Nat.reduceEqDiff, List.length_singleton, List.tail_cons, Int.reduceLE, Int.reduceLT, decide_eq_true_eq]; exact Ev2.now _
    by_cases h2 : 122 < c
    · simp only [h1, h2, eq_false (show ¬ (97 ≤ c ∧ c ≤ 122) by omega), strs_len, strs_elem, ints_len, ints_elem, items_list, fld_agg, elem_list, toStr_sc, toInt_sc, toBool_sc, headD_one, nat_int, get_bt, decide_eq_true_eq, decide_eq_false_iff_not, decide_true, decide_false, if_true, if_false, ite_self, Bool.not_true, Bool.not_false, Bool.false_eq_true, Bool.true_eq_false, Bool.true_and, Bool.false_and, Bool.and_true, Bool.and_false, not_true, not_false_iff, Option.bind_some, nn, toList_inj, Bool.not_eq_true', Bool.not_eq_false', Int.le_refl, and_self, true_and, and_true, false_and, and_false, bne_self_eq_false, beq_self_eq_true, Int.reduceEq, Nat.reduceEqDiff, List.length_singleton, List.tail_cons, Int.reduceLE, Int.reduceLT, decide_eq_true_eq]; exact Ev2.now _
    simp only [h1, h2, eq_true (show (97 ≤ c ∧ c ≤ 122) by omega), strs_len, strs_elem, ints_len, ints_elem, items_list, fld_agg, elem_list, toStr_sc, toInt_sc, toBool_sc, headD_one, nat_int, get_bt, decide_eq_true_eq, decide_eq_false_iff_not, decide_true, decide_false, if_true, if_false, ite_self, Bool.not_true, Bool.not_false, Bool.false_eq_true, Bool.true_eq_false, Bool.true_and, Bool.false_and, Bool.and_true, Bool.and_false, not_true, not_false_iff, Option.bind_some, nn, toList_inj, Bool.not_eq_true', Bool.not_eq_false', Int.le_refl, and_self, true_and, and_true, false_and, and_false, bne_self_eq_false, beq_self_eq_true, Int.reduceEq, Nat.reduceEqDiff, List.length_singleton, List.tail_cons, Int.reduceLE, Int.reduceLT, decide_eq_true_eq]
    exact ih _ (at_step hp)
theorem implLower_ev (s : ByteArray) (hs : s.size ≤ 9223372036854775807) : Ev (fun N => impl_lower.f N [strP s]) [boolP (lowB (bytesOf s))] := by
  simp only [impl_lower.f_eq, strs_len, strs_elem, ints_len, ints_elem, items_list, fld_agg, elem_list, toStr_sc, toInt_sc, toBool_sc, headD_one, nat_int, get_bt, decide_eq_true_eq, decide_eq_false_iff_not, decide_true, decide_false, if_true, if_false, ite_self, Bool.not_true, Bool.not_false, Bool.false_eq_true, Bool.true_eq_false, Bool.true_and, Bool.false_and, Bool.and_true, Bool.and_false, not_true, not_false_iff, Option.bind_some, nn, toList_inj, Bool.not_eq_true', Bool.not_eq_false', Int.le_refl, and_self, true_and, and_true, false_and, and_false, bne_self_eq_false, beq_self_eq_true, Int.reduceEq, Nat.reduceEqDiff, List.length_singleton, List.tail_cons, Int.reduceLE, Int.reduceLT, decide_eq_true_eq]
  exact (implLower_loop s hs (bytesOf s) [] rfl).diag
theorem implWord_ev (s : ByteArray) (hs : s.size ≤ 9223372036854775807) : Ev (fun N => impl_WordOk.f N [strP s]) [boolP (isWord s)] := by
  simp only [impl_WordOk.f_eq, implWithin_val, strs_len, strs_elem, ints_len, ints_elem, items_list, fld_agg, elem_list, toStr_sc, toInt_sc, toBool_sc, headD_one, nat_int, get_bt, decide_eq_true_eq, decide_eq_false_iff_not, decide_true, decide_false, if_true, if_false, ite_self, Bool.not_true, Bool.not_false, Bool.false_eq_true, Bool.true_eq_false, Bool.true_and, Bool.false_and, Bool.and_true, Bool.and_false, not_true, not_false_iff, Option.bind_some, nn, toList_inj, Bool.not_eq_true', Bool.not_eq_false', Int.le_refl, and_self, true_and, and_true, false_and, and_false, bne_self_eq_false, beq_self_eq_true, Int.reduceEq, Nat.reduceEqDiff, List.length_singleton, List.tail_cons, Int.reduceLE, Int.reduceLT, decide_eq_true_eq]
  by_cases h : 1 ≤ s.size ∧ s.size ≤ 12
  · simp only [eq_true (show (1 : Int) ≤ s.size ∧ (s.size : Int) ≤ 12 by omega), strs_len, strs_elem, ints_len, ints_elem, items_list, fld_agg, elem_list, toStr_sc, toInt_sc, toBool_sc, headD_one, nat_int, get_bt, decide_eq_true_eq, decide_eq_false_iff_not, decide_true, decide_false, if_true, if_false, ite_self, Bool.not_true, Bool.not_false, Bool.false_eq_true, Bool.true_eq_false, Bool.true_and, Bool.false_and, Bool.and_true, Bool.and_false, not_true, not_false_iff, Option.bind_some, nn, toList_inj, Bool.not_eq_true', Bool.not_eq_false', Int.le_refl, and_self, true_and, and_true, false_and, and_false, bne_self_eq_false, beq_self_eq_true, Int.reduceEq, Nat.reduceEqDiff, List.length_singleton, List.tail_cons, Int.reduceLE, Int.reduceLT, decide_eq_true_eq]
    refine Ev.bind (implLower_ev s hs) ?_
    refine Ev.ext (Ev.now _) ?_
    unfold isWord
    rw [decide_eq_true h, Bool.true_and]
    rfl
  · simp only [eq_false (show ¬ ((1 : Int) ≤ s.size ∧ (s.size : Int) ≤ 12) by omega), strs_len, strs_elem, ints_len, ints_elem, items_list, fld_agg, elem_list, toStr_sc, toInt_sc, toBool_sc, headD_one, nat_int, get_bt, decide_eq_true_eq, decide_eq_false_iff_not, decide_true, decide_false, if_true, if_false, ite_self, Bool.not_true, Bool.not_false, Bool.false_eq_true, Bool.true_eq_false, Bool.true_and, Bool.false_and, Bool.and_true, Bool.and_false, not_true, not_false_iff, Option.bind_some, nn, toList_inj, Bool.not_eq_true', Bool.not_eq_false', Int.le_refl, and_self, true_and, and_true, false_and, and_false, bne_self_eq_false, beq_self_eq_true, Int.reduceEq, Nat.reduceEqDiff, List.length_singleton, List.tail_cons, Int.reduceLE, Int.reduceLT, decide_eq_true_eq]
    refine Ev.ext (Ev.now _) ?_
    unfold isWord
    rw [decide_eq_false h, Bool.false_and]
theorem specLetters_loop (s : ByteArray) (hs : s.size ≤ 9223372036854775807) (m : Int) : ∀ rest pre : List Int, bytesOf s = pre ++ rest → Ev2 (fun N n => spec_l1Letters.l0 N n s m (pre.length : Int)) [boolP (lowB rest && decide ((s.size : Int) ≤ m))] := by
  intro rest
  induction rest with
  | nil =>
    intro pre hp
    refine Ev2.succ ?_
    simp only [spec_l1Letters.l0_eq, at_sizeE hp, lowB, List.all_nil, strs_len, strs_elem, ints_len, ints_elem, items_list, fld_agg, elem_list, toStr_sc, toInt_sc, toBool_sc, headD_one, nat_int, get_bt, decide_eq_true_eq, decide_eq_false_iff_not, decide_true, decide_false, if_true, if_false, ite_self, Bool.not_true, Bool.not_false, Bool.false_eq_true, Bool.true_eq_false, Bool.true_and, Bool.false_and, Bool.and_true, Bool.and_false, not_true, not_false_iff, Option.bind_some, nn, toList_inj, Bool.not_eq_true', Bool.not_eq_false', Int.le_refl, and_self, true_and, and_true, false_and, and_false, bne_self_eq_false, beq_self_eq_true, Int.reduceEq, Nat.reduceEqDiff, List.length_singleton, List.tail_cons, Int.reduceLE, Int.reduceLT, decide_eq_true_eq]
    exact Ev2.now _
  | cons c rest ih =>
    intro pre hp
    refine Ev2.succ ?_
    simp only [spec_l1Letters.l0_eq, strs_len, strs_elem, ints_len, ints_elem, items_list, fld_agg, elem_list, toStr_sc, toInt_sc, toBool_sc, headD_one, nat_int, get_bt, decide_eq_true_eq, decide_eq_false_iff_not, decide_true, decide_false, if_true, if_false, ite_self, Bool.not_true, Bool.not_false, Bool.false_eq_true, Bool.true_eq_false, Bool.true_and, Bool.false_and, Bool.and_true, Bool.and_false, not_true, not_false_iff, Option.bind_some, nn, toList_inj, Bool.not_eq_true', Bool.not_eq_false', Int.le_refl, and_self, true_and, and_true, false_and, and_false, bne_self_eq_false, beq_self_eq_true, Int.reduceEq, Nat.reduceEqDiff, List.length_singleton, List.tail_cons, Int.reduceLE, Int.reduceLT, decide_eq_true_eq, at_size hp, at_bt hp, at_next hp (by rw [bytesOf_len]; omega)]
    rw [lowB_cons]
    by_cases h1 : c < 97
    · simp only [h1, eq_false (show ¬ (97 ≤ c ∧ c ≤ 122) by omega), strs_len, strs_elem, ints_len, ints_elem, items_list, fld_agg, elem_list, toStr_sc, toInt_sc, toBool_sc, headD_one, nat_int, get_bt, decide_eq_true_eq, decide_eq_false_iff_not, decide_true, decide_false, if_true, if_false, ite_self, Bool.not_true, Bool.not_false, Bool.false_eq_true, Bool.true_eq_false, Bool.true_and, Bool.false_and, Bool.and_true, Bool.and_false, not_true, not_false_iff, Option.bind_some, nn, toList_inj, Bool.not_eq_true', Bool.not_eq_false', Int.le_refl, and_self, true_and, and_true, false_and, and_false, bne_self_eq_false, beq_self_eq_true, Int.reduceEq, Nat.reduceEqDiff, List.length_singleton, List.tail_cons, Int.reduceLE, Int.reduceLT, decide_eq_true_eq]; exact Ev2.now _
    by_cases h2 : 122 < c
    · simp only [h1, h2, eq_false (show ¬ (97 ≤ c ∧ c ≤ 122) by omega), strs_len, strs_elem, ints_len, ints_elem, items_list, fld_agg, elem_list, toStr_sc, toInt_sc, toBool_sc, headD_one, nat_int, get_bt, decide_eq_true_eq, decide_eq_false_iff_not, decide_true, decide_false, if_true, if_false, ite_self, Bool.not_true, Bool.not_false, Bool.false_eq_true, Bool.true_eq_false, Bool.true_and, Bool.false_and, Bool.and_true, Bool.and_false, not_true, not_false_iff, Option.bind_some, nn, toList_inj, Bool.not_eq_true', Bool.not_eq_false', Int.le_refl, and_self, true_and, and_true, false_and, and_false, bne_self_eq_false, beq_self_eq_true, Int.reduceEq, Nat.reduceEqDiff, List.length_singleton, List.tail_cons, Int.reduceLE, Int.reduceLT, decide_eq_true_eq]; exact Ev2.now _
    simp only [h1, h2, eq_true (show (97 ≤ c ∧ c ≤ 122) by omega), strs_len, strs_elem, ints_len, ints_elem, items_list, fld_agg, elem_list, toStr_sc, toInt_sc, toBool_sc, headD_one, nat_int, get_bt, decide_eq_true_eq, decide_eq_false_iff_not, decide_true, decide_false, if_true, if_false, ite_self, Bool.not_true, Bool.not_false, Bool.false_eq_true, Bool.true_eq_false, Bool.true_and, Bool.false_and, Bool.and_true, Bool.and_false, not_true, not_false_iff, Option.bind_some, nn, toList_inj, Bool.not_eq_true', Bool.not_eq_false', Int.le_refl, and_self, true_and, and_true, false_and, and_false, bne_self_eq_false, beq_self_eq_true, Int.reduceEq, Nat.reduceEqDiff, List.length_singleton, List.tail_cons, Int.reduceLE, Int.reduceLT, decide_eq_true_eq]
    exact ih _ (at_step hp)
theorem specLetters_ev (s : ByteArray) (hs : s.size ≤ 9223372036854775807) (m : Int) : Ev (fun N => spec_l1Letters.f N [strP s, intP m]) [boolP (lowB (bytesOf s) && decide ((s.size : Int) ≤ m))] := by
  simp only [spec_l1Letters.f_eq, strs_len, strs_elem, ints_len, ints_elem, items_list, fld_agg, elem_list, toStr_sc, toInt_sc, toBool_sc, headD_one, nat_int, get_bt, decide_eq_true_eq, decide_eq_false_iff_not, decide_true, decide_false, if_true, if_false, ite_self, Bool.not_true, Bool.not_false, Bool.false_eq_true, Bool.true_eq_false, Bool.true_and, Bool.false_and, Bool.and_true, Bool.and_false, not_true, not_false_iff, Option.bind_some, nn, toList_inj, Bool.not_eq_true', Bool.not_eq_false', Int.le_refl, and_self, true_and, and_true, false_and, and_false, bne_self_eq_false, beq_self_eq_true, Int.reduceEq, Nat.reduceEqDiff, List.length_singleton, List.tail_cons, Int.reduceLE, Int.reduceLT, decide_eq_true_eq]
  exact (specLetters_loop s hs m (bytesOf s) [] rfl).diag
theorem specWord_ev (s : ByteArray) (hs : s.size ≤ 9223372036854775807) : Ev (fun N => spec_l1Word.f N [strP s]) [boolP (isWord s)] := by
  simp only [spec_l1Word.f_eq, strs_len, strs_elem, ints_len, ints_elem, items_list, fld_agg, elem_list, toStr_sc, toInt_sc, toBool_sc, headD_one, nat_int, get_bt, decide_eq_true_eq, decide_eq_false_iff_not, decide_true, decide_false, if_true, if_false, ite_self, Bool.not_true, Bool.not_false, Bool.false_eq_true, Bool.true_eq_false, Bool.true_and, Bool.false_and, Bool.and_true, Bool.and_false, not_true, not_false_iff, Option.bind_some, nn, toList_inj, Bool.not_eq_true', Bool.not_eq_false', Int.le_refl, and_self, true_and, and_true, false_and, and_false, bne_self_eq_false, beq_self_eq_true, Int.reduceEq, Nat.reduceEqDiff, List.length_singleton, List.tail_cons, Int.reduceLE, Int.reduceLT, decide_eq_true_eq]
  by_cases h : (0 : Int) < (s.size : Int)
  · simp only [h, strs_len, strs_elem, ints_len, ints_elem, items_list, fld_agg, elem_list, toStr_sc, toInt_sc, toBool_sc, headD_one, nat_int, get_bt, decide_eq_true_eq, decide_eq_false_iff_not, decide_true, decide_false, if_true, if_false, ite_self, Bool.not_true, Bool.not_false, Bool.false_eq_true, Bool.true_eq_false, Bool.true_and, Bool.false_and, Bool.and_true, Bool.and_false, not_true, not_false_iff, Option.bind_some, nn, toList_inj, Bool.not_eq_true', Bool.not_eq_false', Int.le_refl, and_self, true_and, and_true, false_and, and_false, bne_self_eq_false, beq_self_eq_true, Int.reduceEq, Nat.reduceEqDiff, List.length_singleton, List.tail_cons, Int.reduceLE, Int.reduceLT, decide_eq_true_eq]
    refine Ev.bind (specLetters_ev s hs 12) ?_
    refine Ev.ext (Ev.now _) ?_
    simp only [strs_len, strs_elem, ints_len, ints_elem, items_list, fld_agg, elem_list, toStr_sc, toInt_sc, toBool_sc, headD_one, nat_int, get_bt, decide_eq_true_eq, decide_eq_false_iff_not, decide_true, decide_false, if_true, if_false, ite_self, Bool.not_true, Bool.not_false, Bool.false_eq_true, Bool.true_eq_false, Bool.true_and, Bool.false_and, Bool.and_true, Bool.and_false, not_true, not_false_iff, Option.bind_some, nn, toList_inj, Bool.not_eq_true', Bool.not_eq_false', Int.le_refl, and_self, true_and, and_true, false_and, and_false, bne_self_eq_false, beq_self_eq_true, Int.reduceEq, Nat.reduceEqDiff, List.length_singleton, List.tail_cons, Int.reduceLE, Int.reduceLT, decide_eq_true_eq]
    unfold isWord
    rw [Bool.and_comm]
    show [boolP (_ && lowB _)] = [boolP (decide _ && lowB _)]
    have : decide ((s.size : Int) ≤ 12) = decide (1 ≤ s.size ∧ s.size ≤ 12) := decide_eq_decide.2 (by omega)
    rw [this]
  · simp only [h, strs_len, strs_elem, ints_len, ints_elem, items_list, fld_agg, elem_list, toStr_sc, toInt_sc, toBool_sc, headD_one, nat_int, get_bt, decide_eq_true_eq, decide_eq_false_iff_not, decide_true, decide_false, if_true, if_false, ite_self, Bool.not_true, Bool.not_false, Bool.false_eq_true, Bool.true_eq_false, Bool.true_and, Bool.false_and, Bool.and_true, Bool.and_false, not_true, not_false_iff, Option.bind_some, nn, toList_inj, Bool.not_eq_true', Bool.not_eq_false', Int.le_refl, and_self, true_and, and_true, false_and, and_false, bne_self_eq_false, beq_self_eq_true, Int.reduceEq, Nat.reduceEqDiff, List.length_singleton, List.tail_cons, Int.reduceLE, Int.reduceLT, decide_eq_true_eq]
    refine Ev.ext (Ev.now _) ?_
    unfold isWord
    rw [decide_eq_false (show ¬ (1 ≤ s.size ∧ s.size ≤ 12) by omega), Bool.false_and]
theorem szs_in {l : List ByteArray} {a b : Nat} (h : (l.all fun s => decide (a ≤ s.size ∧ s.size ≤ b)) = true) : ∀ s ∈ l, a ≤ s.size ∧ s.size ≤ b := fun s hs => of_decide_eq_true (List.all_eq_true.1 h s hs)
theorem least_val (a b : Int) (N : Nat) : spec_l1Least.f N [intP a, intP b] = some [intP (if a < b then a else b)] := by
  simp only [spec_l1Least.f_eq, strs_len, strs_elem, ints_len, ints_elem, items_list, fld_agg, elem_list, toStr_sc, toInt_sc, toBool_sc, headD_one, nat_int, get_bt, decide_eq_true_eq, decide_eq_false_iff_not, decide_true, decide_false, if_true, if_false, ite_self, Bool.not_true, Bool.not_false, Bool.false_eq_true, Bool.true_eq_false, Bool.true_and, Bool.false_and, Bool.and_true, Bool.and_false, not_true, not_false_iff, Option.bind_some, nn, toList_inj, Bool.not_eq_true', Bool.not_eq_false', Int.le_refl, and_self, true_and, and_true, false_and, and_false, bne_self_eq_false, beq_self_eq_true, Int.reduceEq, Nat.reduceEqDiff, List.length_singleton, List.tail_cons, Int.reduceLE, Int.reduceLT, decide_eq_true_eq]
  by_cases h : a < b <;> simp only [h, strs_len, strs_elem, ints_len, ints_elem, items_list, fld_agg, elem_list, toStr_sc, toInt_sc, toBool_sc, headD_one, nat_int, get_bt, decide_eq_true_eq, decide_eq_false_iff_not, decide_true, decide_false, if_true, if_false, ite_self, Bool.not_true, Bool.not_false, Bool.false_eq_true, Bool.true_eq_false, Bool.true_and, Bool.false_and, Bool.and_true, Bool.and_false, not_true, not_false_iff, Option.bind_some, nn, toList_inj, Bool.not_eq_true', Bool.not_eq_false', Int.le_refl, and_self, true_and, and_true, false_and, and_false, bne_self_eq_false, beq_self_eq_true, Int.reduceEq, Nat.reduceEqDiff, List.length_singleton, List.tail_cons, Int.reduceLE, Int.reduceLT, decide_eq_true_eq]
theorem extract_all (s : ByteArray) : s.extract 0 s.size = s := by
  simp
theorem word_loop {b : PV} (hb : Code1 b) : ∀ (c p : Nat) (x : ByteArray), p + c < 1000000000 → x.size + 2 * c ≤ 12 → (1 ≤ c ∨ 1 ≤ x.size) → ∃ (r : ByteArray) (q : Nat), q ≤ p + c ∧ 1 ≤ r.size ∧ r.size ≤ 12 ∧ Ev2 (fun N n => spec_l13Word.l0 N n x (c : Int) b (p : Int)) [strP r, rdP b (q : Int)] := by
  intro c
  induction c with
  | zero =>
    intro p x hp hx h1
    refine ⟨x, p, by omega, by omega, by omega, Ev2.succ ?_⟩
    have h0 : ¬ (0 : Int) < ((0 : Nat) : Int) := by omega
    have hm : (if (x.size : Int) < 12 then (x.size : Int) else 12) = (x.size : Int) := by split <;> omega
    simp only [spec_l13Word.l0_eq, h0, least_val, hm, strs_len, strs_elem, ints_len, ints_elem, items_list, fld_agg, elem_list, toStr_sc, toInt_sc, toBool_sc, headD_one, nat_int, get_bt, decide_eq_true_eq, decide_eq_false_iff_not, decide_true, decide_false, if_true, if_false, ite_self, Bool.not_true, Bool.not_false, Bool.false_eq_true, Bool.true_eq_false, Bool.true_and, Bool.false_and, Bool.and_true, Bool.and_false, not_true, not_false_iff, Option.bind_some, nn, toList_inj, Bool.not_eq_true', Bool.not_eq_false', Int.le_refl, and_self, true_and, and_true, false_and, and_false, bne_self_eq_false, beq_self_eq_true, Int.reduceEq, Nat.reduceEqDiff, List.length_singleton, List.tail_cons, Int.reduceLE, Int.reduceLT, decide_eq_true_eq, extract_all, rd_agg]
    exact Ev2.now _
  | succ c ih =>
    intro p x hp hx h1
    obtain ⟨s, hs, hf⟩ := of_ev hb (p := (p : Int)) (by omega) [ByteArray.mk #[97], ByteArray.mk #[98], ByteArray.mk #[99], ByteArray.mk #[97, 98], ByteArray.mk #[116]] (by simp)
    have hsz : 1 ≤ s.size ∧ s.size ≤ 2 := by
      have ha : ∀ s ∈ [ByteArray.mk #[97], ByteArray.mk #[98], ByteArray.mk #[99], ByteArray.mk #[97, 98], ByteArray.mk #[116]], 1 ≤ s.size ∧ s.size ≤ 2 := szs_in rfl
      exact ha s hs
    obtain ⟨r, q, h2, h3, h4, h5⟩ := ih (p + 1) (x ++ s) (by omega) (by rw [ByteArray.size_append]; omega) (.inr (by rw [ByteArray.size_append]; omega))
    refine ⟨r, q, by omega, h3, h4, Ev2.succ ?_⟩
    have h0 : (0 : Int) < ((c + 1 : Nat) : Int) := by omega
    have hw : IntKind.i64.wrap (((c + 1 : Nat) : Int) - 1) = (c : Int) := by rw [wrap_id (by omega) (by omega)]; omega
    have hl : x.size + s.size ≤ 9223372036854775807 := by omega
    have hp1 : ((p : Int) + 1) = ((p + 1 : Nat) : Int) := by omega
    have e : PV.list [PV.sc (.string (ByteArray.mk #[97])), PV.sc (.string (ByteArray.mk #[98])), PV.sc (.string (ByteArray.mk #[99])), PV.sc (.string (ByteArray.mk #[97, 98])), PV.sc (.string (ByteArray.mk #[116]))] = strsP [ByteArray.mk #[97], ByteArray.mk #[98], ByteArray.mk #[99], ByteArray.mk #[97, 98], ByteArray.mk #[116]] := rfl
    simp only [spec_l13Word.l0_eq, h0, hw, hl, e, rd_agg, hf, rd_f0, rd_f1, hp1, strs_len, strs_elem, ints_len, ints_elem, items_list, fld_agg, elem_list, toStr_sc, toInt_sc, toBool_sc, headD_one, nat_int, get_bt, decide_eq_true_eq, decide_eq_false_iff_not, decide_true, decide_false, if_true, if_false, ite_self, Bool.not_true, Bool.not_false, Bool.false_eq_true, Bool.true_eq_false, Bool.true_and, Bool.false_and, Bool.and_true, Bool.and_false, not_true, not_false_iff, Option.bind_some, nn, toList_inj, Bool.not_eq_true', Bool.not_eq_false', Int.le_refl, and_self, true_and, and_true, false_and, and_false, bne_self_eq_false, beq_self_eq_true, Int.reduceEq, Nat.reduceEqDiff, List.length_singleton, List.tail_cons, Int.reduceLE, Int.reduceLT, decide_eq_true_eq]
    exact h5
def wordsL : List ByteArray := [ByteArray.mk #[99, 97, 116], ByteArray.mk #[99, 97, 116, 115], ByteArray.mk #[97, 99, 116], ByteArray.mk #[100, 111], ByteArray.mk #[100, 111, 105, 110, 103], ByteArray.mk #[103, 111], ByteArray.mk #[117, 110, 100, 111], ByteArray.mk #[116, 114, 121], ByteArray.mk #[116, 114, 105, 101, 115], ByteArray.mk #[97], ByteArray.mk #[98, 97, 107, 101], ByteArray.mk #[98, 97, 107, 105, 110, 103], ByteArray.mk #[116, 97, 99, 116], ByteArray.mk #[99, 97, 114, 116], ByteArray.mk #[97, 98, 99, 97, 98, 99, 97, 98, 99, 97, 98, 99]]
theorem word_ev {b : PV} (hb : Code1 b) (p : Nat) (hp : p < 900000000) : ∃ (r : ByteArray) (q : Nat), q ≤ p + 10 ∧ 1 ≤ r.size ∧ r.size ≤ 12 ∧ Ev (fun N => spec_l13Word.f N [rdP b (p : Int)]) [strP r, rdP b (q : Int)] := by
  obtain ⟨k, hk, hf⟩ := pick_ev hb (p := (p : Int)) (n := 3) (by omega) (by omega)
  by_cases h0 : k = 0
  · obtain ⟨k2, hk2, hf2⟩ := pick_ev hb (p := (p : Int) + 1) (n := 5) (by omega) (by omega)
    obtain ⟨j, rfl⟩ := Int.eq_ofNat_of_zero_le hk2.1
    obtain ⟨r, q, h2, h3, h4, h5⟩ := word_loop hb (1 + j) (p + 2) ⟨#[]⟩ (by omega) (by have : (ByteArray.mk #[]).size = 0 := rfl; omega) (.inl (by omega))
    refine ⟨r, q, by omega, h3, h4, ?_⟩
    have hw : IntKind.i64.wrap (1 + (j : Int)) = ((1 + j : Nat) : Int) := by rw [wrap_id (by omega) (by omega)]; omega
    have hp1 : ((p : Int) + 1 + 1) = ((p + 2 : Nat) : Int) := by omega
    simp only [spec_l13Word.f_eq, rd_f0, rd_f1, rd_agg, hf, h0, hf2, hw, hp1, strs_len, strs_elem, ints_len, ints_elem, items_list, fld_agg, elem_list, toStr_sc, toInt_sc, toBool_sc, headD_one, nat_int, get_bt, decide_eq_true_eq, decide_eq_false_iff_not, decide_true, decide_false, if_true, if_false, ite_self, Bool.not_true, Bool.not_false, Bool.false_eq_true, Bool.true_eq_false, Bool.true_and, Bool.false_and, Bool.and_true, Bool.and_false, not_true, not_false_iff, Option.bind_some, nn, toList_inj, Bool.not_eq_true', Bool.not_eq_false', Int.le_refl, and_self, true_and, and_true, false_and, and_false, bne_self_eq_false, beq_self_eq_true, Int.reduceEq, Nat.reduceEqDiff, List.length_singleton, List.tail_cons, Int.reduceLE, Int.reduceLT, decide_eq_true_eq]
    exact h5.diag
  · obtain ⟨s, hs, hf2⟩ := of_ev hb (p := (p : Int) + 1) (by omega) wordsL (by simp [wordsL])
    have ha : ∀ s ∈ wordsL, 1 ≤ s.size ∧ s.size ≤ 12 := szs_in rfl
    refine ⟨s, p + 2, by omega, (ha s hs).1, (ha s hs).2, ?_⟩
    have hp1 : ((p : Int) + 1 + 1) = ((p + 2 : Nat) : Int) := by omega
    have e : PV.list [PV.sc (.string (ByteArray.mk #[99, 97, 116])), PV.sc (.string (ByteArray.mk #[99, 97, 116, 115])), PV.sc (.string (ByteArray.mk #[97, 99, 116])), PV.sc (.string (ByteArray.mk #[100, 111])), PV.sc (.string (ByteArray.mk #[100, 111, 105, 110, 103])), PV.sc (.string (ByteArray.mk #[103, 111])), PV.sc (.string (ByteArray.mk #[117, 110, 100, 111])), PV.sc (.string (ByteArray.mk #[116, 114, 121])), PV.sc (.string (ByteArray.mk #[116, 114, 105, 101, 115])), PV.sc (.string (ByteArray.mk #[97])), PV.sc (.string (ByteArray.mk #[98, 97, 107, 101])), PV.sc (.string (ByteArray.mk #[98, 97, 107, 105, 110, 103])), PV.sc (.string (ByteArray.mk #[116, 97, 99, 116])), PV.sc (.string (ByteArray.mk #[99, 97, 114, 116])), PV.sc (.string (ByteArray.mk #[97, 98, 99, 97, 98, 99, 97, 98, 99, 97, 98, 99]))] = strsP wordsL := rfl
    simp only [spec_l13Word.f_eq, rd_f0, rd_f1, rd_agg, hf, h0, e, hf2, hp1, strs_len, strs_elem, ints_len, ints_elem, items_list, fld_agg, elem_list, toStr_sc, toInt_sc, toBool_sc, headD_one, nat_int, get_bt, decide_eq_true_eq, decide_eq_false_iff_not, decide_true, decide_false, if_true, if_false, ite_self, Bool.not_true, Bool.not_false, Bool.false_eq_true, Bool.true_eq_false, Bool.true_and, Bool.false_and, Bool.and_true, Bool.and_false, not_true, not_false_iff, Option.bind_some, nn, toList_inj, Bool.not_eq_true', Bool.not_eq_false', Int.le_refl, and_self, true_and, and_true, false_and, and_false, bne_self_eq_false, beq_self_eq_true, Int.reduceEq, Nat.reduceEqDiff, List.length_singleton, List.tail_cons, Int.reduceLE, Int.reduceLT, decide_eq_true_eq]
    exact Ev.now _
/-! #### drawn words of one's own -/
def anyL : List ByteArray := [ByteArray.mk #[], ByteArray.mk #[67, 97, 116], ByteArray.mk #[97, 32, 98], ByteArray.mk #[97, 98, 99, 97, 98, 99, 97, 98, 99, 97, 98, 99, 97], ByteArray.mk #[120, 49], ByteArray.mk #[45]]
theorem anyWord_ev {b : PV} (hb : Code1 b) (p : Nat) (hp : p < 800000000) : ∃ (r : ByteArray) (q : Nat), q ≤ p + 12 ∧ r.size ≤ 13 ∧ Ev (fun N => spec_l13AnyWord.f N [rdP b (p : Int)]) [strP r, rdP b (q : Int)] := by
  obtain ⟨k, hk, hf⟩ := pick_ev hb (p := (p : Int)) (n := 16) (by omega) (by omega)
  have hp1 : (p : Int) + 1 = ((p + 1 : Nat) : Int) := by omega
  rw [hp1] at hf
  by_cases k0 : k = 0
  · obtain ⟨s, hs, hf2⟩ := of_ev hb (p := ((p + 1 : Nat) : Int)) (by omega) anyL (by simp [anyL])
    have ha : ∀ s ∈ anyL, 0 ≤ s.size ∧ s.size ≤ 13 := szs_in rfl
    have hp2 : ((p + 1 : Nat) : Int) + 1 = ((p + 2 : Nat) : Int) := by omega
    refine ⟨s, p + 2, by omega, (ha s hs).2, ?_⟩
    have e : PV.list [PV.sc (.string (ByteArray.mk #[])), PV.sc (.string (ByteArray.mk #[67, 97, 116])), PV.sc (.string (ByteArray.mk #[97, 32, 98])), PV.sc (.string (ByteArray.mk #[97, 98, 99, 97, 98, 99, 97, 98, 99, 97, 98, 99, 97])), PV.sc (.string (ByteArray.mk #[120, 49])), PV.sc (.string (ByteArray.mk #[45]))] = strsP anyL := rfl
    simp only [spec_l13AnyWord.f_eq, rd_f0, rd_f1, rd_agg, hf, k0, e, hf2, hp2, strs_len, strs_elem, ints_len, ints_elem, items_list, fld_agg, elem_list, toStr_sc, toInt_sc, toBool_sc, headD_one, nat_int, get_bt, decide_eq_true_eq, decide_eq_false_iff_not, decide_true, decide_false, if_true, if_false, ite_self, Bool.not_true, Bool.not_false, Bool.false_eq_true, Bool.true_eq_false, Bool.true_and, Bool.false_and, Bool.and_true, Bool.and_false, not_true, not_false_iff, Option.bind_some, nn, toList_inj, Bool.not_eq_true', Bool.not_eq_false', Int.le_refl, and_self, true_and, and_true, false_and, and_false, bne_self_eq_false, beq_self_eq_true, Int.reduceEq, Nat.reduceEqDiff, List.length_singleton, List.tail_cons, Int.reduceLE, Int.reduceLT, decide_eq_true_eq]
    exact Ev.now _
  · obtain ⟨r, q, h2, h3, h4, h5⟩ := word_ev hb (p + 1) (by omega)
    refine ⟨r, q, by omega, by omega, ?_⟩
    simp only [spec_l13AnyWord.f_eq, rd_f0, rd_f1, rd_agg, hf, k0, strs_len, strs_elem, ints_len, ints_elem, items_list, fld_agg, elem_list, toStr_sc, toInt_sc, toBool_sc, headD_one, nat_int, get_bt, decide_eq_true_eq, decide_eq_false_iff_not, decide_true, decide_false, if_true, if_false, ite_self, Bool.not_true, Bool.not_false, Bool.false_eq_true, Bool.true_eq_false, Bool.true_and, Bool.false_and, Bool.and_true, Bool.and_false, not_true, not_false_iff, Option.bind_some, nn, toList_inj, Bool.not_eq_true', Bool.not_eq_false', Int.le_refl, and_self, true_and, and_true, false_and, and_false, bne_self_eq_false, beq_self_eq_true, Int.reduceEq, Nat.reduceEqDiff, List.length_singleton, List.tail_cons, Int.reduceLE, Int.reduceLT, decide_eq_true_eq]
    refine Ev.bind h5 ?_
    simp only [rd_f1, strs_len, strs_elem, ints_len, ints_elem, items_list, fld_agg, elem_list, toStr_sc, toInt_sc, toBool_sc, headD_one, nat_int, get_bt, decide_eq_true_eq, decide_eq_false_iff_not, decide_true, decide_false, if_true, if_false, ite_self, Bool.not_true, Bool.not_false, Bool.false_eq_true, Bool.true_eq_false, Bool.true_and, Bool.false_and, Bool.and_true, Bool.and_false, not_true, not_false_iff, Option.bind_some, nn, toList_inj, Bool.not_eq_true', Bool.not_eq_false', Int.le_refl, and_self, true_and, and_true, false_and, and_false, bne_self_eq_false, beq_self_eq_true, Int.reduceEq, Nat.reduceEqDiff, List.length_singleton, List.tail_cons, Int.reduceLE, Int.reduceLT, decide_eq_true_eq]
    exact Ev.now _
/-! #### the keyboard -/
def idxL : List Int → Int → Int
  | [], _ => -1
  | b :: l, c => if b = c then 0 else if idxL l c = -1 then -1 else idxL l c + 1
theorem idxL_ge : ∀ (l : List Int) (c : Int), -1 ≤ idxL l c ∧ idxL l c < l.length
  | [], _ => by simp [idxL]
  | b :: l, c => by
    have := idxL_ge l c
    unfold idxL
    simp only [List.length_cons]
    split
    · omega
    · split <;> omega
theorem idx_byte : ∀ (l : List UInt8) (b : UInt8), Lib.indexByte l b = idxL (l.map fun x => (x.toNat : Int)) (b.toNat : Int)
  | [], _ => rfl
  | x :: l, b => by
    rw [Lib.indexByte, List.map_cons, idxL, idx_byte l b]
    have : ((x == b) = true) ↔ ((x.toNat : Int) = (b.toNat : Int)) := by
      rw [beq_iff_eq, ← UInt8.toNat_inj]; omega
    by_cases h : (x.toNat : Int) = (b.toNat : Int)
    · rw [if_pos (this.2 h), if_pos h]
    · rw [if_neg (fun hx => h (this.1 hx)), if_neg h]
      simp only [beq_iff_eq]
def kb0 : ByteArray := ByteArray.mk #[113, 119, 101, 114, 116, 121, 117, 105, 111, 112]
def kb1 : ByteArray := ByteArray.mk #[97, 115, 100, 102, 103, 104, 106, 107, 108]
def kb2 : ByteArray := ByteArray.mk #[122, 120, 99, 118, 98, 110, 109]
def kr0 : List Int := [113, 119, 101, 114, 116, 121, 117, 105, 111, 112]
def kr1 : List Int := [97, 115, 100, 102, 103, 104, 106, 107, 108]
def kr2 : List Int := [122, 120, 99, 118, 98, 110, 109]
theorem kb0_b : bytesOf kb0 = kr0 := rfl
theorem kb1_b : bytesOf kb1 = kr1 := rfl
theorem kb2_b : bytesOf kb2 = kr2 := rfl
def keyRow (c : Int) : Int × Int := if 0 ≤ idxL kr0 c then (0, idxL kr0 c) else if 0 ≤ idxL kr1 c then (1, idxL kr1 c) else if 0 ≤ idxL kr2 c then (2, idxL kr2 c) else (-1, -1)
theorem keyRow_in (c : Int) : -1 ≤ (keyRow c).1 ∧ (keyRow c).1 ≤ 2 ∧ -1 ≤ (keyRow c).2 ∧ (keyRow c).2 ≤ 10 := by
  have h0 := idxL_ge kr0 c; have h1 := idxL_ge kr1 c; have h2 := idxL_ge kr2 c
  have l0 : kr0.length = 10 := rfl
  have l1 : kr1.length = 9 := rfl
  have l2 : kr2.length = 7 := rfl
  unfold keyRow
  split
  · simp only []; omega
  · split
    · simp only []; omega
    · split
      · simp only []; omega
      · simp
theorem index_one (t s : ByteArray) (hs : s.size = 1) (N : Nat) : strings_Index.f N [strP t, strP s] = some [intP (idxL (bytesOf t) (bt s 0))] := by
  show indexDen _ = _
  simp only [indexDen, hs, if_true]
  rw [idx_byte]; rfl
theorem keyRowsP_eq : keyRowsP = strsP [kb0, kb1, kb2] := rfl
theorem keyAt_ev (s : ByteArray) (hs : s.size = 1) : Ev (fun N => impl_keyAt.f N [strP s]) [intP (keyRow (bt s 0)).1, intP (keyRow (bt s 0)).2] := by
  simp only [impl_keyAt.f_eq, keyRowsP_eq, strs_len, strs_len, strs_elem, ints_len, ints_elem, items_list, fld_agg, elem_list, toStr_sc, toInt_sc, toBool_sc, headD_one, nat_int, get_bt, decide_eq_true_eq, decide_eq_false_iff_not, decide_true, decide_false, if_true, if_false, ite_self, Bool.not_true, Bool.not_false, Bool.false_eq_true, Bool.true_eq_false, Bool.true_and, Bool.false_and, Bool.and_true, Bool.and_false, not_true, not_false_iff, Option.bind_some, nn, toList_inj, Bool.not_eq_true', Bool.not_eq_false', Int.le_refl, and_self, true_and, and_true, false_and, and_false, bne_self_eq_false, beq_self_eq_true, Int.reduceEq, Nat.reduceEqDiff, List.length_singleton, List.tail_cons, Int.reduceLE, Int.reduceLT, decide_eq_true_eq]
  have key : Ev2 (fun N n => impl_keyAt.l0 N n s (strsP [kb0, kb1, kb2]) (([kb0, kb1, kb2] : List ByteArray).length : Int) 0) [intP (keyRow (bt s 0)).1, intP (keyRow (bt s 0)).2] := by
    have w0 : IntKind.i64.wrap (0 + 1) = 1 := wrap_id (by omega) (by omega)
    have w1 : IntKind.i64.wrap (1 + 1) = 2 := wrap_id (by omega) (by omega)
    have w2 : IntKind.i64.wrap (2 + 1) = 3 := wrap_id (by omega) (by omega)
    have hl : (([kb0, kb1, kb2] : List ByteArray).length : Int) = 3 := rfl
    have i0 : ((0 : Int) < 3) = True := eq_true (by omega)
    have i1 : ((1 : Int) < 3) = True := eq_true (by omega)
    have i2 : ((2 : Int) < 3) = True := eq_true (by omega)
    have i3 : ((3 : Int) < 3) = False := eq_false (by omega)
    have j1 : ((0 : Int) ≤ 1) = True := eq_true (by omega)
    have j2 : ((0 : Int) ≤ 2) = True := eq_true (by omega)
    have t0 : ([kb0, kb1, kb2] : List ByteArray).getD (0 : Int).toNat ByteArray.empty = kb0 := rfl
    have t1 : ([kb0, kb1, kb2] : List ByteArray).getD (1 : Int).toNat ByteArray.empty = kb1 := rfl
    have t2 : ([kb0, kb1, kb2] : List ByteArray).getD (2 : Int).toNat ByteArray.empty = kb2 := rfl
    unfold keyRow
    refine Ev2.succ ?_
    simp only [impl_keyAt.l0_eq, strs_len, hl, i0, strs_elem, t0, index_one _ s hs, kb0_b, w0, strs_len, strs_elem, ints_len, ints_elem, items_list, fld_agg, elem_list, toStr_sc, toInt_sc, toBool_sc, headD_one, nat_int, get_bt, decide_eq_true_eq, decide_eq_false_iff_not, decide_true, decide_false, if_true, if_false, ite_self, Bool.not_true, Bool.not_false, Bool.false_eq_true, Bool.true_eq_false, Bool.true_and, Bool.false_and, Bool.and_true, Bool.and_false, not_true, not_false_iff, Option.bind_some, nn, toList_inj, Bool.not_eq_true', Bool.not_eq_false', Int.le_refl, and_self, true_and, and_true, false_and, and_false, bne_self_eq_false, beq_self_eq_true, Int.reduceEq, Nat.reduceEqDiff, List.length_singleton, List.tail_cons, Int.reduceLE, Int.reduceLT, decide_eq_true_eq]
    by_cases h0 : 0 ≤ idxL kr0 (bt s 0)
    · simp only [h0, strs_len, strs_elem, ints_len, ints_elem, items_list, fld_agg, elem_list, toStr_sc, toInt_sc, toBool_sc, headD_one, nat_int, get_bt, decide_eq_true_eq, decide_eq_false_iff_not, decide_true, decide_false, if_true, if_false, ite_self, Bool.not_true, Bool.not_false, Bool.false_eq_true, Bool.true_eq_false, Bool.true_and, Bool.false_and, Bool.and_true, Bool.and_false, not_true, not_false_iff, Option.bind_some, nn, toList_inj, Bool.not_eq_true', Bool.not_eq_false', Int.le_refl, and_self, true_and, and_true, false_and, and_false, bne_self_eq_false, beq_self_eq_true, Int.reduceEq, Nat.reduceEqDiff, List.length_singleton, List.tail_cons, Int.reduceLE, Int.reduceLT, decide_eq_true_eq]; exact Ev2.now _
    simp only [h0, strs_len, strs_elem, ints_len, ints_elem, items_list, fld_agg, elem_list, toStr_sc, toInt_sc, toBool_sc, headD_one, nat_int, get_bt, decide_eq_true_eq, decide_eq_false_iff_not, decide_true, decide_false, if_true, if_false, ite_self, Bool.not_true, Bool.not_false, Bool.false_eq_true, Bool.true_eq_false, Bool.true_and, Bool.false_and, Bool.and_true, Bool.and_false, not_true, not_false_iff, Option.bind_some, nn, toList_inj, Bool.not_eq_true', Bool.not_eq_false', Int.le_refl, and_self, true_and, and_true, false_and, and_false, bne_self_eq_false, beq_self_eq_true, Int.reduceEq, Nat.reduceEqDiff, List.length_singleton, List.tail_cons, Int.reduceLE, Int.reduceLT, decide_eq_true_eq]
    refine Ev2.succ ?_
    simp only [impl_keyAt.l0_eq, strs_len, hl, i1, j1, strs_elem, t1, index_one _ s hs, kb1_b, w1, strs_len, strs_elem, ints_len, ints_elem, items_list, fld_agg, elem_list, toStr_sc, toInt_sc, toBool_sc, headD_one, nat_int, get_bt, decide_eq_true_eq, decide_eq_false_iff_not, decide_true, decide_false, if_true, if_false, ite_self, Bool.not_true, Bool.not_false, Bool.false_eq_true, Bool.true_eq_false, Bool.true_and, Bool.false_and, Bool.and_true, Bool.and_false, not_true, not_false_iff, Option.bind_some, nn, toList_inj, Bool.not_eq_true', Bool.not_eq_false', Int.le_refl, and_self, true_and, and_true, false_and, and_false, bne_self_eq_false, beq_self_eq_true, Int.reduceEq, Nat.reduceEqDiff, List.length_singleton, List.tail_cons, Int.reduceLE, Int.reduceLT, decide_eq_true_eq]
    by_cases h1 : 0 ≤ idxL kr1 (bt s 0)
    · simp only [h1, strs_len, strs_elem, ints_len, ints_elem, items_list, fld_agg, elem_list, toStr_sc, toInt_sc, toBool_sc, headD_one, nat_int, get_bt, decide_eq_true_eq, decide_eq_false_iff_not, decide_true, decide_false, if_true, if_false, ite_self, Bool.not_true, Bool.not_false, Bool.false_eq_true, Bool.true_eq_false, Bool.true_and, Bool.false_and, Bool.and_true, Bool.and_false, not_true, not_false_iff, Option.bind_some, nn, toList_inj, Bool.not_eq_true', Bool.not_eq_false', Int.le_refl, and_self, true_and, and_true, false_and, and_false, bne_self_eq_false, beq_self_eq_true, Int.reduceEq, Nat.reduceEqDiff, List.length_singleton, List.tail_cons, Int.reduceLE, Int.reduceLT, decide_eq_true_eq]; exact Ev2.now _
    simp only [h1, strs_len, strs_elem, ints_len, ints_elem, items_list, fld_agg, elem_list, toStr_sc, toInt_sc, toBool_sc, headD_one, nat_int, get_bt, decide_eq_true_eq, decide_eq_false_iff_not, decide_true, decide_false, if_true, if_false, ite_self, Bool.not_true, Bool.not_false, Bool.false_eq_true, Bool.true_eq_false, Bool.true_and, Bool.false_and, Bool.and_true, Bool.and_false, not_true, not_false_iff, Option.bind_some, nn, toList_inj, Bool.not_eq_true', Bool.not_eq_false', Int.le_refl, and_self, true_and, and_true, false_and, and_false, bne_self_eq_false, beq_self_eq_true, Int.reduceEq, Nat.reduceEqDiff, List.length_singleton, List.tail_cons, Int.reduceLE, Int.reduceLT, decide_eq_true_eq]
    refine Ev2.succ ?_
    simp only [impl_keyAt.l0_eq, strs_len, hl, i2, j2, strs_elem, t2, index_one _ s hs, kb2_b, w2, strs_len, strs_elem, ints_len, ints_elem, items_list, fld_agg, elem_list, toStr_sc, toInt_sc, toBool_sc, headD_one, nat_int, get_bt, decide_eq_true_eq, decide_eq_false_iff_not, decide_true, decide_false, if_true, if_false, ite_self, Bool.not_true, Bool.not_false, Bool.false_eq_true, Bool.true_eq_false, Bool.true_and, Bool.false_and, Bool.and_true, Bool.and_false, not_true, not_false_iff, Option.bind_some, nn, toList_inj, Bool.not_eq_true', Bool.not_eq_false', Int.le_refl, and_self, true_and, and_true, false_and, and_false, bne_self_eq_false, beq_self_eq_true, Int.reduceEq, Nat.reduceEqDiff, List.length_singleton, List.tail_cons, Int.reduceLE, Int.reduceLT, decide_eq_true_eq]
    by_cases h2 : 0 ≤ idxL kr2 (bt s 0)
    · simp only [h2, strs_len, strs_elem, ints_len, ints_elem, items_list, fld_agg, elem_list, toStr_sc, toInt_sc, toBool_sc, headD_one, nat_int, get_bt, decide_eq_true_eq, decide_eq_false_iff_not, decide_true, decide_false, if_true, if_false, ite_self, Bool.not_true, Bool.not_false, Bool.false_eq_true, Bool.true_eq_false, Bool.true_and, Bool.false_and, Bool.and_true, Bool.and_false, not_true, not_false_iff, Option.bind_some, nn, toList_inj, Bool.not_eq_true', Bool.not_eq_false', Int.le_refl, and_self, true_and, and_true, false_and, and_false, bne_self_eq_false, beq_self_eq_true, Int.reduceEq, Nat.reduceEqDiff, List.length_singleton, List.tail_cons, Int.reduceLE, Int.reduceLT, decide_eq_true_eq]; exact Ev2.now _
    simp only [h2, strs_len, strs_elem, ints_len, ints_elem, items_list, fld_agg, elem_list, toStr_sc, toInt_sc, toBool_sc, headD_one, nat_int, get_bt, decide_eq_true_eq, decide_eq_false_iff_not, decide_true, decide_false, if_true, if_false, ite_self, Bool.not_true, Bool.not_false, Bool.false_eq_true, Bool.true_eq_false, Bool.true_and, Bool.false_and, Bool.and_true, Bool.and_false, not_true, not_false_iff, Option.bind_some, nn, toList_inj, Bool.not_eq_true', Bool.not_eq_false', Int.le_refl, and_self, true_and, and_true, false_and, and_false, bne_self_eq_false, beq_self_eq_true, Int.reduceEq, Nat.reduceEqDiff, List.length_singleton, List.tail_cons, Int.reduceLE, Int.reduceLT, decide_eq_true_eq]
    refine Ev2.succ ?_
    simp only [impl_keyAt.l0_eq, i3, hl, strs_len, strs_elem, ints_len, ints_elem, items_list, fld_agg, elem_list, toStr_sc, toInt_sc, toBool_sc, headD_one, nat_int, get_bt, decide_eq_true_eq, decide_eq_false_iff_not, decide_true, decide_false, if_true, if_false, ite_self, Bool.not_true, Bool.not_false, Bool.false_eq_true, Bool.true_eq_false, Bool.true_and, Bool.false_and, Bool.and_true, Bool.and_false, not_true, not_false_iff, Option.bind_some, nn, toList_inj, Bool.not_eq_true', Bool.not_eq_false', Int.le_refl, and_self, true_and, and_true, false_and, and_false, bne_self_eq_false, beq_self_eq_true, Int.reduceEq, Nat.reduceEqDiff, List.length_singleton, List.tail_cons, Int.reduceLE, Int.reduceLT, decide_eq_true_eq]
    exact Ev2.now _
  exact key.diag
theorem row_l1 (c : Int) (rows : List ByteArray) (hr : rows.length ≤ 3) {pr rest : List ByteArray} {t : ByteArray} (hp : rows = pr ++ t :: rest) (ht : t.size ≤ 100) (R : List PV) : ∀ (l pre : List Int), bytesOf t = pre ++ l →
    (0 ≤ idxL l c → R = [intP (pr.length : Int), intP ((pre.length : Int) + idxL l c)]) → (idxL l c = -1 → Ev2 (fun N n => spec_l10Row.l0 N n c ((pr ++ [t]).length : Int) (rows.map strP)) R) →
    Ev3 (fun N m n => spec_l10Row.l1 N m n c (pr.length : Int) (pre.length : Int) (rows.map strP)) R := by
  have hel : ((rows.map strP).getD pr.length default).toStr = t := by
    have := strs_elem rows pr.length
    simp only [strsP, elem_list] at this
    rw [this]; exact at_getD hp
  have hln : (rows.map strP).length = rows.length := by simp
  intro l
  induction l with
  | nil =>
    intro pre hl h1 h2
    refine Ev3.succ ?_
    simp only [spec_l10Row.l1_eq, hln, at_lt hp, nat_int, hel, at_sizeE hl, at_next hp (by omega), strs_len, strs_elem, ints_len, ints_elem, items_list, fld_agg, elem_list, toStr_sc, toInt_sc, toBool_sc, headD_one, nat_int, get_bt, decide_eq_true_eq, decide_eq_false_iff_not, decide_true, decide_false, if_true, if_false, ite_self, Bool.not_true, Bool.not_false, Bool.false_eq_true, Bool.true_eq_false, Bool.true_and, Bool.false_and, Bool.and_true, Bool.and_false, not_true, not_false_iff, Option.bind_some, nn, toList_inj, Bool.not_eq_true', Bool.not_eq_false', Int.le_refl, and_self, true_and, and_true, false_and, and_false, bne_self_eq_false, beq_self_eq_true, Int.reduceEq, Nat.reduceEqDiff, List.length_singleton, List.tail_cons, Int.reduceLE, Int.reduceLT, decide_eq_true_eq]
    exact (h2 rfl).outer
  | cons b l ih =>
    intro pre hl h1 h2
    have hge := idxL_ge l c
    refine Ev3.succ ?_
    simp only [spec_l10Row.l1_eq, hln, at_lt hp, nat_int, hel, at_size hl, get_bt, at_bt hl, at_next hl (by rw [bytesOf_len]; omega), strs_len, strs_elem, ints_len, ints_elem, items_list, fld_agg, elem_list, toStr_sc, toInt_sc, toBool_sc, headD_one, nat_int, get_bt, decide_eq_true_eq, decide_eq_false_iff_not, decide_true, decide_false, if_true, if_false, ite_self, Bool.not_true, Bool.not_false, Bool.false_eq_true, Bool.true_eq_false, Bool.true_and, Bool.false_and, Bool.and_true, Bool.and_false, not_true, not_false_iff, Option.bind_some, nn, toList_inj, Bool.not_eq_true', Bool.not_eq_false', Int.le_refl, and_self, true_and, and_true, false_and, and_false, bne_self_eq_false, beq_self_eq_true, Int.reduceEq, Nat.reduceEqDiff, List.length_singleton, List.tail_cons, Int.reduceLE, Int.reduceLT, decide_eq_true_eq]
    rw [idxL] at h1 h2
    by_cases hb : b = c
    · rw [if_pos hb] at h1
      rw [h1 (by omega)]
      simp only [hb, Int.add_zero, strs_len, strs_elem, ints_len, ints_elem, items_list, fld_agg, elem_list, toStr_sc, toInt_sc, toBool_sc, headD_one, nat_int, get_bt, decide_eq_true_eq, decide_eq_false_iff_not, decide_true, decide_false, if_true, if_false, ite_self, Bool.not_true, Bool.not_false, Bool.false_eq_true, Bool.true_eq_false, Bool.true_and, Bool.false_and, Bool.and_true, Bool.and_false, not_true, not_false_iff, Option.bind_some, nn, toList_inj, Bool.not_eq_true', Bool.not_eq_false', Int.le_refl, and_self, true_and, and_true, false_and, and_false, bne_self_eq_false, beq_self_eq_true, Int.reduceEq, Nat.reduceEqDiff, List.length_singleton, List.tail_cons, Int.reduceLE, Int.reduceLT, decide_eq_true_eq]
      exact Ev3.now _
    · simp only [hb, strs_len, strs_elem, ints_len, ints_elem, items_list, fld_agg, elem_list, toStr_sc, toInt_sc, toBool_sc, headD_one, nat_int, get_bt, decide_eq_true_eq, decide_eq_false_iff_not, decide_true, decide_false, if_true, if_false, ite_self, Bool.not_true, Bool.not_false, Bool.false_eq_true, Bool.true_eq_false, Bool.true_and, Bool.false_and, Bool.and_true, Bool.and_false, not_true, not_false_iff, Option.bind_some, nn, toList_inj, Bool.not_eq_true', Bool.not_eq_false', Int.le_refl, and_self, true_and, and_true, false_and, and_false, bne_self_eq_false, beq_self_eq_true, Int.reduceEq, Nat.reduceEqDiff, List.length_singleton, List.tail_cons, Int.reduceLE, Int.reduceLT, decide_eq_true_eq]
      rw [if_neg hb] at h1 h2
      refine ih (pre ++ [b]) (at_step hl) (fun h => ?_) (fun h => ?_)
      · rw [if_neg (by omega)] at h1
        rw [h1 (by omega)]; simp; omega
      · rw [if_pos h] at h2; exact h2 rfl
theorem specRow_ev (c : Int) : Ev (fun N => spec_l10Row.f N [.sc (.int .u8 c)]) [intP (keyRow c).1, intP (keyRow c).2] := by
  have e : ([PV.sc (.string (ByteArray.mk #[113, 119, 101, 114, 116, 121, 117, 105, 111, 112])), PV.sc (.string (ByteArray.mk #[97, 115, 100, 102, 103, 104, 106, 107, 108])), PV.sc (.string (ByteArray.mk #[122, 120, 99, 118, 98, 110, 109]))] : List PV) = [kb0, kb1, kb2].map strP := rfl
  simp only [spec_l10Row.f_eq, e, strs_len, strs_elem, ints_len, ints_elem, items_list, fld_agg, elem_list, toStr_sc, toInt_sc, toBool_sc, headD_one, nat_int, get_bt, decide_eq_true_eq, decide_eq_false_iff_not, decide_true, decide_false, if_true, if_false, ite_self, Bool.not_true, Bool.not_false, Bool.false_eq_true, Bool.true_eq_false, Bool.true_and, Bool.false_and, Bool.and_true, Bool.and_false, not_true, not_false_iff, Option.bind_some, nn, toList_inj, Bool.not_eq_true', Bool.not_eq_false', Int.le_refl, and_self, true_and, and_true, false_and, and_false, bne_self_eq_false, beq_self_eq_true, Int.reduceEq, Nat.reduceEqDiff, List.length_singleton, List.tail_cons, Int.reduceLE, Int.reduceLT, decide_eq_true_eq]
  have h3 : Ev2 (fun N n => spec_l10Row.l0 N n c ((([kb0, kb1] ++ [kb2] : List ByteArray)).length : Int) ([kb0, kb1, kb2].map strP)) [intP (-1), intP (-1)] := by
    refine Ev2.succ ?_
    have z : ((((([kb0, kb1] ++ [kb2] : List ByteArray)).length : Int) < ((([kb0, kb1, kb2].map strP).length : Nat) : Int))) = False := eq_false (by simp)
    simp only [spec_l10Row.l0_eq, z, strs_len, strs_elem, ints_len, ints_elem, items_list, fld_agg, elem_list, toStr_sc, toInt_sc, toBool_sc, headD_one, nat_int, get_bt, decide_eq_true_eq, decide_eq_false_iff_not, decide_true, decide_false, if_true, if_false, ite_self, Bool.not_true, Bool.not_false, Bool.false_eq_true, Bool.true_eq_false, Bool.true_and, Bool.false_and, Bool.and_true, Bool.and_false, not_true, not_false_iff, Option.bind_some, nn, toList_inj, Bool.not_eq_true', Bool.not_eq_false', Int.le_refl, and_self, true_and, and_true, false_and, and_false, bne_self_eq_false, beq_self_eq_true, Int.reduceEq, Nat.reduceEqDiff, List.length_singleton, List.tail_cons, Int.reduceLE, Int.reduceLT, decide_eq_true_eq]
    exact Ev2.now _
  unfold keyRow
  refine Ev2.diag (g := fun N n => spec_l10Row.l0 N n c 0 ([kb0, kb1, kb2].map strP)) ?_
  have s0 : ((0 : Int) < ((([kb0, kb1, kb2].map strP).length : Nat) : Int)) = True := eq_true (by simp)
  have s1 : (((([kb0] : List ByteArray).length : Int) < ((([kb0, kb1, kb2].map strP).length : Nat) : Int))) = True := eq_true (by simp)
  have s2 : (((([kb0, kb1] : List ByteArray).length : Int) < ((([kb0, kb1, kb2].map strP).length : Nat) : Int))) = True := eq_true (by simp)
  have g0 := idxL_ge kr0 c; have g1 := idxL_ge kr1 c; have g2 := idxL_ge kr2 c
  refine Ev2.succ ?_
  simp only [spec_l10Row.l0_eq, s0, strs_len, strs_elem, ints_len, ints_elem, items_list, fld_agg, elem_list, toStr_sc, toInt_sc, toBool_sc, headD_one, nat_int, get_bt, decide_eq_true_eq, decide_eq_false_iff_not, decide_true, decide_false, if_true, if_false, ite_self, Bool.not_true, Bool.not_false, Bool.false_eq_true, Bool.true_eq_false, Bool.true_and, Bool.false_and, Bool.and_true, Bool.and_false, not_true, not_false_iff, Option.bind_some, nn, toList_inj, Bool.not_eq_true', Bool.not_eq_false', Int.le_refl, and_self, true_and, and_true, false_and, and_false, bne_self_eq_false, beq_self_eq_true, Int.reduceEq, Nat.reduceEqDiff, List.length_singleton, List.tail_cons, Int.reduceLE, Int.reduceLT, decide_eq_true_eq]
  refine Ev3.start (row_l1 c [kb0, kb1, kb2] (by simp) (pr := []) (t := kb0) (rest := [kb1, kb2]) rfl (by decide) _ kr0 [] kb0_b (fun h => ?_) (fun h => ?_))
  · rw [if_pos h]; simp
  rw [if_neg (by omega)]
  refine Ev2.succ ?_
  simp only [spec_l10Row.l0_eq, List.nil_append, s1, strs_len, strs_elem, ints_len, ints_elem, items_list, fld_agg, elem_list, toStr_sc, toInt_sc, toBool_sc, headD_one, nat_int, get_bt, decide_eq_true_eq, decide_eq_false_iff_not, decide_true, decide_false, if_true, if_false, ite_self, Bool.not_true, Bool.not_false, Bool.false_eq_true, Bool.true_eq_false, Bool.true_and, Bool.false_and, Bool.and_true, Bool.and_false, not_true, not_false_iff, Option.bind_some, nn, toList_inj, Bool.not_eq_true', Bool.not_eq_false', Int.le_refl, and_self, true_and, and_true, false_and, and_false, bne_self_eq_false, beq_self_eq_true, Int.reduceEq, Nat.reduceEqDiff, List.length_singleton, List.tail_cons, Int.reduceLE, Int.reduceLT, decide_eq_true_eq]
  refine Ev3.start (row_l1 c [kb0, kb1, kb2] (by simp) (pr := [kb0]) (t := kb1) (rest := [kb2]) rfl (by decide) _ kr1 [] kb1_b (fun h => ?_) (fun h => ?_))
  · rw [if_pos h]; simp
  rw [if_neg (by omega)]
  refine Ev2.succ ?_
  simp only [spec_l10Row.l0_eq, List.cons_append, List.nil_append, s2, strs_len, strs_elem, ints_len, ints_elem, items_list, fld_agg, elem_list, toStr_sc, toInt_sc, toBool_sc, headD_one, nat_int, get_bt, decide_eq_true_eq, decide_eq_false_iff_not, decide_true, decide_false, if_true, if_false, ite_self, Bool.not_true, Bool.not_false, Bool.false_eq_true, Bool.true_eq_false, Bool.true_and, Bool.false_and, Bool.and_true, Bool.and_false, not_true, not_false_iff, Option.bind_some, nn, toList_inj, Bool.not_eq_true', Bool.not_eq_false', Int.le_refl, and_self, true_and, and_true, false_and, and_false, bne_self_eq_false, beq_self_eq_true, Int.reduceEq, Nat.reduceEqDiff, List.length_singleton, List.tail_cons, Int.reduceLE, Int.reduceLT, decide_eq_true_eq]
  refine Ev3.start (row_l1 c [kb0, kb1, kb2] (by simp) (pr := [kb0, kb1]) (t := kb2) (rest := []) rfl (by decide) _ kr2 [] kb2_b (fun h => ?_) (fun h => ?_))
  · rw [if_pos h]; simp
  rw [if_neg (by omega)]
  exact h3
theorem apart_val (a b : Int) (ha : -1 ≤ a ∧ a ≤ 10) (hb : -1 ≤ b ∧ b ≤ 10) (N : Nat) : spec_l10Apart.f N [intP a, intP b] = some [intP (if a < b then b - a else a - b)] := by
  have w1 : IntKind.i64.wrap (b - a) = b - a := wrap_id (by omega) (by omega)
  have w2 : IntKind.i64.wrap (a - b) = a - b := wrap_id (by omega) (by omega)
  simp only [spec_l10Apart.f_eq, w1, w2, strs_len, strs_elem, ints_len, ints_elem, items_list, fld_agg, elem_list, toStr_sc, toInt_sc, toBool_sc, headD_one, nat_int, get_bt, decide_eq_true_eq, decide_eq_false_iff_not, decide_true, decide_false, if_true, if_false, ite_self, Bool.not_true, Bool.not_false, Bool.false_eq_true, Bool.true_eq_false, Bool.true_and, Bool.false_and, Bool.and_true, Bool.and_false, not_true, not_false_iff, Option.bind_some, nn, toList_inj, Bool.not_eq_true', Bool.not_eq_false', Int.le_refl, and_self, true_and, and_true, false_and, and_false, bne_self_eq_false, beq_self_eq_true, Int.reduceEq, Nat.reduceEqDiff, List.length_singleton, List.tail_cons, Int.reduceLE, Int.reduceLT, decide_eq_true_eq]
  by_cases h : a < b <;> simp only [h, strs_len, strs_elem, ints_len, ints_elem, items_list, fld_agg, elem_list, toStr_sc, toInt_sc, toBool_sc, headD_one, nat_int, get_bt, decide_eq_true_eq, decide_eq_false_iff_not, decide_true, decide_false, if_true, if_false, ite_self, Bool.not_true, Bool.not_false, Bool.false_eq_true, Bool.true_eq_false, Bool.true_and, Bool.false_and, Bool.and_true, Bool.and_false, not_true, not_false_iff, Option.bind_some, nn, toList_inj, Bool.not_eq_true', Bool.not_eq_false', Int.le_refl, and_self, true_and, and_true, false_and, and_false, bne_self_eq_false, beq_self_eq_true, Int.reduceEq, Nat.reduceEqDiff, List.length_singleton, List.tail_cons, Int.reduceLE, Int.reduceLT, decide_eq_true_eq]
theorem far_eq (r s x y : Int) : minI (maxI (maxI (maxI (r - s) (s - r)) (x - y)) (y - x)) 4 =
    (if (if (if r < s then s - r else r - s) < (if x < y then y - x else x - y) then (if x < y then y - x else x - y) else (if r < s then s - r else r - s)) < 4 then (if (if r < s then s - r else r - s) < (if x < y then y - x else x - y) then (if x < y then y - x else x - y) else (if r < s then s - r else r - s)) else 4) := by
  simp only [minI, maxI]
  repeat' split
  all_goals omega
/-- How far two letters are. -/
def farK (a b : Int) : Int := minI (maxI (maxI (maxI ((keyRow a).1 - (keyRow b).1) ((keyRow b).1 - (keyRow a).1)) ((keyRow a).2 - (keyRow b).2)) ((keyRow b).2 - (keyRow a).2)) 4
theorem specKey_far (a b : Int) : Ev (fun N => spec_l10Key.f N [.sc (.int .u8 a), .sc (.int .u8 b)]) [intP (farK a b)] := by
  have ha := keyRow_in a; have hb := keyRow_in b
  simp only [spec_l10Key.f_eq, toInt_sc]
  refine Ev.bind (specRow_ev a) ?_
  refine Ev.bind (specRow_ev b) ?_
  simp only [headD_one, List.tail_cons, toInt_sc, apart_val _ _ ⟨ha.1, by omega⟩ ⟨hb.1, by omega⟩, apart_val _ _ ha.2.2 hb.2.2, Option.bind_some, least_val]
  have e := far_eq (keyRow a).1 (keyRow b).1 (keyRow a).2 (keyRow b).2
  by_cases h : (if (keyRow a).1 < (keyRow b).1 then (keyRow b).1 - (keyRow a).1 else (keyRow a).1 - (keyRow b).1) < (if (keyRow a).2 < (keyRow b).2 then (keyRow b).2 - (keyRow a).2 else (keyRow a).2 - (keyRow b).2)
  · rw [if_pos h] at e
    simp only [h, decide_true, if_true]
    unfold farK
    rw [e]; exact Ev.now _
  · rw [if_neg h] at e
    simp only [h, decide_false, if_false, Bool.false_eq_true]
    unfold farK
    rw [e]; exact Ev.now _
def keyFar (a b : ByteArray) : Int := if a.size = 1 ∧ b.size = 1 ∧ lowB (bytesOf a) = true ∧ lowB (bytesOf b) = true then farK (bt a 0) (bt b 0) else -1
theorem size_one {s : ByteArray} : (((s.size : Nat) : Int) = 1) = (s.size = 1) := propext ⟨fun h => by omega, fun h => by omega⟩
theorem implKeyFar_ev (a b : ByteArray) (ha : a.size ≤ 9223372036854775807) (hb : b.size ≤ 9223372036854775807) : Ev (fun N => impl_KeyFar.f N [strP a, strP b]) [intP (keyFar a b)] := by
  simp only [impl_KeyFar.f_eq, toStr_sc, size_one]
  unfold keyFar
  by_cases h1 : a.size = 1
  · by_cases h2 : b.size = 1
    · simp only [h1, h2, strs_len, strs_elem, ints_len, ints_elem, items_list, fld_agg, elem_list, toStr_sc, toInt_sc, toBool_sc, headD_one, nat_int, get_bt, decide_eq_true_eq, decide_eq_false_iff_not, decide_true, decide_false, if_true, if_false, ite_self, Bool.not_true, Bool.not_false, Bool.false_eq_true, Bool.true_eq_false, Bool.true_and, Bool.false_and, Bool.and_true, Bool.and_false, not_true, not_false_iff, Option.bind_some, nn, toList_inj, Bool.not_eq_true', Bool.not_eq_false', Int.le_refl, and_self, true_and, and_true, false_and, and_false, bne_self_eq_false, beq_self_eq_true, Int.reduceEq, Nat.reduceEqDiff, List.length_singleton, List.tail_cons, Int.reduceLE, Int.reduceLT, decide_eq_true_eq]
      refine Ev.bind (implLower_ev a ha) ?_
      by_cases l1 : lowB (bytesOf a) = true
      · simp only [l1, strs_len, strs_elem, ints_len, ints_elem, items_list, fld_agg, elem_list, toStr_sc, toInt_sc, toBool_sc, headD_one, nat_int, get_bt, decide_eq_true_eq, decide_eq_false_iff_not, decide_true, decide_false, if_true, if_false, ite_self, Bool.not_true, Bool.not_false, Bool.false_eq_true, Bool.true_eq_false, Bool.true_and, Bool.false_and, Bool.and_true, Bool.and_false, not_true, not_false_iff, Option.bind_some, nn, toList_inj, Bool.not_eq_true', Bool.not_eq_false', Int.le_refl, and_self, true_and, and_true, false_and, and_false, bne_self_eq_false, beq_self_eq_true, Int.reduceEq, Nat.reduceEqDiff, List.length_singleton, List.tail_cons, Int.reduceLE, Int.reduceLT, decide_eq_true_eq]
        refine Ev.bind (implLower_ev b hb) ?_
        by_cases l2 : lowB (bytesOf b) = true
        · simp only [l2, strs_len, strs_elem, ints_len, ints_elem, items_list, fld_agg, elem_list, toStr_sc, toInt_sc, toBool_sc, headD_one, nat_int, get_bt, decide_eq_true_eq, decide_eq_false_iff_not, decide_true, decide_false, if_true, if_false, ite_self, Bool.not_true, Bool.not_false, Bool.false_eq_true, Bool.true_eq_false, Bool.true_and, Bool.false_and, Bool.and_true, Bool.and_false, not_true, not_false_iff, Option.bind_some, nn, toList_inj, Bool.not_eq_true', Bool.not_eq_false', Int.le_refl, and_self, true_and, and_true, false_and, and_false, bne_self_eq_false, beq_self_eq_true, Int.reduceEq, Nat.reduceEqDiff, List.length_singleton, List.tail_cons, Int.reduceLE, Int.reduceLT, decide_eq_true_eq]
          refine Ev.bind (keyAt_ev a h1) ?_
          refine Ev.bind (keyAt_ev b h2) ?_
          have ka := keyRow_in (bt a 0); have kb := keyRow_in (bt b 0)
          have w1 : IntKind.i64.wrap ((keyRow (bt a 0)).1 - (keyRow (bt b 0)).1) = (keyRow (bt a 0)).1 - (keyRow (bt b 0)).1 := wrap_id (by omega) (by omega)
          have w2 : IntKind.i64.wrap ((keyRow (bt b 0)).1 - (keyRow (bt a 0)).1) = (keyRow (bt b 0)).1 - (keyRow (bt a 0)).1 := wrap_id (by omega) (by omega)
          have w3 : IntKind.i64.wrap ((keyRow (bt a 0)).2 - (keyRow (bt b 0)).2) = (keyRow (bt a 0)).2 - (keyRow (bt b 0)).2 := wrap_id (by omega) (by omega)
          have w4 : IntKind.i64.wrap ((keyRow (bt b 0)).2 - (keyRow (bt a 0)).2) = (keyRow (bt b 0)).2 - (keyRow (bt a 0)).2 := wrap_id (by omega) (by omega)
          simp only [List.tail_cons, w1, w2, w3, w4, strs_len, strs_elem, ints_len, ints_elem, items_list, fld_agg, elem_list, toStr_sc, toInt_sc, toBool_sc, headD_one, nat_int, get_bt, decide_eq_true_eq, decide_eq_false_iff_not, decide_true, decide_false, if_true, if_false, ite_self, Bool.not_true, Bool.not_false, Bool.false_eq_true, Bool.true_eq_false, Bool.true_and, Bool.false_and, Bool.and_true, Bool.and_false, not_true, not_false_iff, Option.bind_some, nn, toList_inj, Bool.not_eq_true', Bool.not_eq_false', Int.le_refl, and_self, true_and, and_true, false_and, and_false, bne_self_eq_false, beq_self_eq_true, Int.reduceEq, Nat.reduceEqDiff, List.length_singleton, List.tail_cons, Int.reduceLE, Int.reduceLT, decide_eq_true_eq]
          exact Ev.now _
        · simp only [Bool.not_eq_true] at l2
          simp only [l2, strs_len, strs_elem, ints_len, ints_elem, items_list, fld_agg, elem_list, toStr_sc, toInt_sc, toBool_sc, headD_one, nat_int, get_bt, decide_eq_true_eq, decide_eq_false_iff_not, decide_true, decide_false, if_true, if_false, ite_self, Bool.not_true, Bool.not_false, Bool.false_eq_true, Bool.true_eq_false, Bool.true_and, Bool.false_and, Bool.and_true, Bool.and_false, not_true, not_false_iff, Option.bind_some, nn, toList_inj, Bool.not_eq_true', Bool.not_eq_false', Int.le_refl, and_self, true_and, and_true, false_and, and_false, bne_self_eq_false, beq_self_eq_true, Int.reduceEq, Nat.reduceEqDiff, List.length_singleton, List.tail_cons, Int.reduceLE, Int.reduceLT, decide_eq_true_eq]; exact Ev.now _
      · simp only [Bool.not_eq_true] at l1
        simp only [l1, strs_len, strs_elem, ints_len, ints_elem, items_list, fld_agg, elem_list, toStr_sc, toInt_sc, toBool_sc, headD_one, nat_int, get_bt, decide_eq_true_eq, decide_eq_false_iff_not, decide_true, decide_false, if_true, if_false, ite_self, Bool.not_true, Bool.not_false, Bool.false_eq_true, Bool.true_eq_false, Bool.true_and, Bool.false_and, Bool.and_true, Bool.and_false, not_true, not_false_iff, Option.bind_some, nn, toList_inj, Bool.not_eq_true', Bool.not_eq_false', Int.le_refl, and_self, true_and, and_true, false_and, and_false, bne_self_eq_false, beq_self_eq_true, Int.reduceEq, Nat.reduceEqDiff, List.length_singleton, List.tail_cons, Int.reduceLE, Int.reduceLT, decide_eq_true_eq]; exact Ev.now _
    · simp only [h1, h2, strs_len, strs_elem, ints_len, ints_elem, items_list, fld_agg, elem_list, toStr_sc, toInt_sc, toBool_sc, headD_one, nat_int, get_bt, decide_eq_true_eq, decide_eq_false_iff_not, decide_true, decide_false, if_true, if_false, ite_self, Bool.not_true, Bool.not_false, Bool.false_eq_true, Bool.true_eq_false, Bool.true_and, Bool.false_and, Bool.and_true, Bool.and_false, not_true, not_false_iff, Option.bind_some, nn, toList_inj, Bool.not_eq_true', Bool.not_eq_false', Int.le_refl, and_self, true_and, and_true, false_and, and_false, bne_self_eq_false, beq_self_eq_true, Int.reduceEq, Nat.reduceEqDiff, List.length_singleton, List.tail_cons, Int.reduceLE, Int.reduceLT, decide_eq_true_eq]; exact Ev.now _
  · simp only [h1, strs_len, strs_elem, ints_len, ints_elem, items_list, fld_agg, elem_list, toStr_sc, toInt_sc, toBool_sc, headD_one, nat_int, get_bt, decide_eq_true_eq, decide_eq_false_iff_not, decide_true, decide_false, if_true, if_false, ite_self, Bool.not_true, Bool.not_false, Bool.false_eq_true, Bool.true_eq_false, Bool.true_and, Bool.false_and, Bool.and_true, Bool.and_false, not_true, not_false_iff, Option.bind_some, nn, toList_inj, Bool.not_eq_true', Bool.not_eq_false', Int.le_refl, and_self, true_and, and_true, false_and, and_false, bne_self_eq_false, beq_self_eq_true, Int.reduceEq, Nat.reduceEqDiff, List.length_singleton, List.tail_cons, Int.reduceLE, Int.reduceLT, decide_eq_true_eq]; exact Ev.now _
theorem isWord_one {s : ByteArray} (h : s.size = 1) : isWord s = lowB (bytesOf s) := by
  unfold isWord lowB; rw [h]; simp
theorem farK_sym (a b : Int) : farK a b = farK b a := by
  unfold farK
  generalize (keyRow a).1 = r; generalize (keyRow b).1 = s; generalize (keyRow a).2 = x; generalize (keyRow b).2 = y
  simp only [minI, maxI]
  repeat' split
  all_goals omega
theorem farK_in (a b : Int) : 0 ≤ farK a b ∧ farK a b ≤ 4 := by
  unfold farK
  generalize (keyRow a).1 = r; generalize (keyRow b).1 = s; generalize (keyRow a).2 = x; generalize (keyRow b).2 = y
  simp only [minI, maxI]
  repeat' split
  all_goals omega
theorem farK_zero {a b : Int} : farK a b = 0 ↔ keyRow a = keyRow b := by
  constructor
  · intro h
    apply Prod.ext
    · revert h
      unfold farK
      generalize (keyRow a).1 = r; generalize (keyRow b).1 = s; generalize (keyRow a).2 = x; generalize (keyRow b).2 = y
      simp only [minI, maxI]
      repeat' split
      all_goals omega
    · revert h
      unfold farK
      generalize (keyRow a).1 = r; generalize (keyRow b).1 = s; generalize (keyRow a).2 = x; generalize (keyRow b).2 = y
      simp only [minI, maxI]
      repeat' split
      all_goals omega
  · intro h
    unfold farK
    rw [h]
    generalize (keyRow b).1 = s; generalize (keyRow b).2 = y
    simp only [minI, maxI, Int.sub_self]
    rfl
theorem keyRow_inj {a b : Int} (ha : 97 ≤ a ∧ a ≤ 122) (hb : 97 ≤ b ∧ b ≤ 122) (h : keyRow a = keyRow b) : a = b := by
  have key : ∀ i j : Fin 26, keyRow (97 + (i.val : Int)) = keyRow (97 + (j.val : Int)) → i = j := by decide +kernel
  have h1 := key ⟨(a - 97).toNat, by omega⟩ ⟨(b - 97).toNat, by omega⟩
  simp only [Fin.mk.injEq] at h1
  have e1 : 97 + (((a - 97).toNat : Nat) : Int) = a := by omega
  have e2 : 97 + (((b - 97).toNat : Nat) : Int) = b := by omega
  rw [e1, e2] at h1
  have := h1 h
  omega
theorem one_low {s : ByteArray} (h : s.size = 1) (hl : lowB (bytesOf s) = true) : 97 ≤ bt s 0 ∧ bt s 0 ≤ 122 ∧ bytesOf s = [bt s 0] := by
  have hb : (bytesOf s).length = 1 := by rw [bytesOf_len]; exact h
  rw [bt_bytes]
  match hs : bytesOf s, hb with
  | [c], _ =>
    rw [hs] at hl
    simp [lowB] at hl
    exact ⟨hl.1, hl.2, rfl⟩
theorem keyFar_sym (a b : ByteArray) : keyFar a b = keyFar b a := by
  unfold keyFar
  by_cases h : a.size = 1 ∧ b.size = 1 ∧ lowB (bytesOf a) = true ∧ lowB (bytesOf b) = true
  · rw [if_pos h, if_pos ⟨h.2.1, h.1, h.2.2.2, h.2.2.1⟩, farK_sym]
  · rw [if_neg h, if_neg (fun h' => h ⟨h'.2.1, h'.1, h'.2.2.2, h'.2.2.1⟩)]
theorem keyFar_zero {a b : ByteArray} (h : 0 ≤ keyFar a b) : keyFar a b ≤ 4 ∧ (keyFar a b = 0 ↔ a = b) := by
  unfold keyFar at h ⊢
  by_cases hc : a.size = 1 ∧ b.size = 1 ∧ lowB (bytesOf a) = true ∧ lowB (bytesOf b) = true
  · rw [if_pos hc]
    obtain ⟨a1, a2, a3⟩ := one_low hc.1 hc.2.2.1
    obtain ⟨b1, b2, b3⟩ := one_low hc.2.1 hc.2.2.2
    refine ⟨(farK_in _ _).2, farK_zero.trans ⟨fun h => ?_, fun h => by rw [h]⟩⟩
    have := keyRow_inj ⟨a1, a2⟩ ⟨b1, b2⟩ h
    exact bytesOf_inj (by rw [a3, b3, this])
  · rw [if_neg hc] at h; omega
/-! #### what it costs -/
def wf (f : Nat → Nat → Int) : Nat → Nat → Int
  | 0, k => 4 * (k : Int)
  | i + 1, 0 => 4 * ((i : Int) + 1)
  | i + 1, k + 1 => minI (minI (wf f i k + f i k) (wf f i (k + 1) + 4)) (wf f (i + 1) k + 4)
theorem wf_zero (f : Nat → Nat → Int) (i : Nat) : wf f i 0 = 4 * (i : Int) := by
  cases i with
  | zero => simp [wf]
  | succ i => rw [wf]; omega
theorem wf_in {f : Nat → Nat → Int} (hf : ∀ i k, 0 ≤ f i k ∧ f i k ≤ 4) : ∀ i k : Nat, 0 ≤ wf f i k ∧ wf f i k ≤ 4 * (max i k : Nat)
  | 0, k => by rw [wf]; omega
  | i + 1, 0 => by rw [wf]; omega
  | i + 1, k + 1 => by
    have h1 := wf_in hf i k; have h2 := wf_in hf i (k + 1); have h3 := wf_in hf (i + 1) k
    have h4 := hf i k
    rw [wf]
    simp only [minI]
    repeat' split
    all_goals omega
theorem wf_sym {f g : Nat → Nat → Int} (h : ∀ i k, f i k = g k i) : ∀ i k : Nat, wf f i k = wf g k i
  | 0, k => by rw [wf_zero, wf]
  | i + 1, 0 => by rw [wf_zero, wf]
  | i + 1, k + 1 => by
    rw [wf, wf, wf_sym h i k, wf_sym h i (k + 1), wf_sym h (i + 1) k, h i k]
    simp only [minI]
    repeat' split
    all_goals omega
theorem wf_nil {f : Nat → Nat → Int} (hf : ∀ i k, 0 ≤ f i k ∧ f i k ≤ 4) : ∀ i k : Nat, wf f i k = 0 → i = k ∧ ∀ j, j < i → f j j = 0
  | 0, k => by rw [wf]; intro h; exact ⟨by omega, fun j hj => by omega⟩
  | i + 1, 0 => by rw [wf]; intro h; omega
  | i + 1, k + 1 => by
    have h1 := wf_in hf i k; have h2 := wf_in hf i (k + 1); have h3 := wf_in hf (i + 1) k
    have h4 := hf i k
    intro h
    rw [wf] at h
    simp only [minI] at h
    have h5 : wf f i k = 0 ∧ f i k = 0 := by
      revert h
      repeat' split
      all_goals intro h
      all_goals omega
    obtain ⟨h6, h7⟩ := wf_nil hf i k h5.1
    subst h6
    refine ⟨rfl, fun j hj => ?_⟩
    by_cases hj' : j = i
    · subst hj'; exact h5.2
    · exact h7 j (by omega)
theorem wf_same {f : Nat → Nat → Int} (hf : ∀ i k, 0 ≤ f i k ∧ f i k ≤ 4) : ∀ i : Nat, (∀ j, j < i → f j j = 0) → wf f i i = 0
  | 0, _ => by rw [wf]; rfl
  | i + 1, h => by
    have h1 := wf_same hf i (fun j hj => h j (by omega))
    have h2 := wf_in hf i (i + 1); have h3 := wf_in hf (i + 1) i
    rw [wf, h1, h i (by omega)]
    simp only [minI]
    repeat' split
    all_goals omega
/-! A table of numbers. -/
def matL (n m : Nat) (g : Nat → Nat → Int) : List PV := (List.range n).map fun i => intsP ((List.range m).map (g i))
theorem matL_len (n m : Nat) (g : Nat → Nat → Int) : (matL n m g).length = n := by simp [matL]
theorem matL_row {n m : Nat} {g : Nat → Nat → Int} {i : Nat} (hi : i < n) : (PV.list (matL n m g)).elem i = intsP ((List.range m).map (g i)) := by
  simp [matL, PV.elem, PV.items, List.getD_eq_getElem?_getD, hi]
theorem range_len (m : Nat) (g : Nat → Int) : ((intsP ((List.range m).map g)).items).length = m := by rw [ints_len]; simp
theorem range_at {m k : Nat} {g : Nat → Int} (hk : k < m) : ((intsP ((List.range m).map g)).elem k).toInt = g k := by
  rw [ints_elem, List.getD_eq_getElem?_getD]; simp [hk]
def updM (g : Nat → Nat → Int) (i k : Nat) (v : Int) : Nat → Nat → Int := fun i' k' => if i' = i ∧ k' = k then v else g i' k'
theorem range_set {m k : Nat} {g : Nat → Int} (v : Int) : ((intsP ((List.range m).map g)).items).set k (intP v) = ((List.range m).map (fun k' => if k' = k then v else g k')).map intP := by
  apply List.ext_getElem?
  intro j
  simp only [intsP, PV.items, List.getElem?_set, List.getElem?_map, List.length_map, List.length_range]
  by_cases hj : k = j
  · subst hj
    by_cases hk : k < m
    · simp [hk]
    · simp [hk]
  · have hj' : ¬ j = k := fun h => hj h.symm
    rw [if_neg hj]
    by_cases hjm : j < m
    · simp [hjm, hj']
    · simp [hjm]
theorem matL_set {n m : Nat} {g : Nat → Nat → Int} {i k : Nat} (hi : i < n) (v : Int) : (matL n m g).set i (PV.list (((intsP ((List.range m).map (g i))).items).set k (intP v))) = matL n m (updM g i k v) := by
  rw [range_set]
  apply List.ext_getElem?
  intro j
  simp only [matL, List.getElem?_set, List.getElem?_map, List.length_map, List.length_range]
  by_cases hj : i = j
  · subst hj
    simp [hi, intsP, updM]
  · have hj' : ¬ j = i := fun h => hj h.symm
    rw [if_neg hj]
    by_cases hjm : j < n
    · simp [hjm, hj', intsP, updM]
    · simp [hjm]
theorem matL_congr {n m : Nat} {g g' : Nat → Nat → Int} (h : ∀ i k, i < n → k < m → g i k = g' i k) : matL n m g = matL n m g' := by
  unfold matL
  refine List.map_congr_left (fun i hi => ?_)
  refine congrArg intsP (List.map_congr_left (fun k hk => ?_))
  exact h i k (by simpa using hi) (by simpa using hk)
theorem ext_one (s : ByteArray) (i : Nat) (hi : i < s.size) : (s.extract i (i + 1)).size = 1 ∧ bytesOf (s.extract i (i + 1)) = [bt s i] := by
  have hb : bytesOf (s.extract i (i + 1)) = ((bytesOf s).drop i).take 1 := by
    unfold bytesOf
    rw [ByteArray.data_extract]
    simp [List.map_take, List.map_drop]
  have hl : i < (bytesOf s).length := by rw [bytesOf_len]; exact hi
  have h2 : ((bytesOf s).drop i).take 1 = [bt s i] := by
    rw [bt_bytes, List.getD_eq_getElem?_getD]
    rw [List.drop_eq_getElem_cons hl]
    simp only [List.take_succ_cons, List.take_zero, List.getElem?_eq_getElem hl, Option.getD_some]
  rw [h2] at hb
  refine ⟨?_, hb⟩
  rw [← bytesOf_len, hb]; rfl
def fW (a b : ByteArray) (i k : Nat) : Int := farK (bt a i) (bt b k)
theorem keyFar_at {a b : ByteArray} (ha : lowB (bytesOf a) = true) (hb : lowB (bytesOf b) = true) {i k : Nat} (hi : i < a.size) (hk : k < b.size) : keyFar (a.extract i (i + 1)) (b.extract k (k + 1)) = fW a b i k := by
  obtain ⟨a1, a2⟩ := ext_one a i hi
  obtain ⟨b1, b2⟩ := ext_one b k hk
  have la : lowB (bytesOf (a.extract i (i + 1))) = true := by
    rw [a2]
    have := List.all_eq_true.1 ha (bt a i) (by rw [bt_bytes, List.getD_eq_getElem?_getD]; have hl : i < (bytesOf a).length := by rw [bytesOf_len]; exact hi
                                               rw [List.getElem?_eq_getElem hl]; exact List.getElem_mem hl)
    simp [lowB]; simpa using this
  have lb : lowB (bytesOf (b.extract k (k + 1))) = true := by
    rw [b2]
    have := List.all_eq_true.1 hb (bt b k) (by rw [bt_bytes, List.getD_eq_getElem?_getD]; have hl : k < (bytesOf b).length := by rw [bytesOf_len]; exact hk
                                               rw [List.getElem?_eq_getElem hl]; exact List.getElem_mem hl)
    simp [lowB]; simpa using this
  unfold keyFar
  rw [if_pos ⟨a1, b1, la, lb⟩]
  unfold fW
  rw [bt_bytes (a.extract i (i + 1)), bt_bytes (b.extract k (k + 1)), a2, b2]
  rfl
theorem fW_in (a b : ByteArray) (i k : Nat) : 0 ≤ fW a b i k ∧ fW a b i k ≤ 4 := farK_in _ _
theorem word_size {s : ByteArray} (h : isWord s = true) : 1 ≤ s.size ∧ s.size ≤ 12 ∧ lowB (bytesOf s) = true := by
  unfold isWord at h
  simp only [Bool.and_eq_true, decide_eq_true_eq] at h
  exact ⟨h.1.1, h.1.2, h.2⟩
theorem cast1 (i : Nat) : ((i + 1 : Nat) : Int) - 1 = (i : Int) := by omega
def ga (f : Nat → Nat → Int) (k : Nat) : Nat → Nat → Int := fun i' k' => if k' = 0 ∨ (i' = 0 ∧ k' < k) then wf f i' k' else 0
def g0 (f : Nat → Nat → Int) : Nat → Nat → Int := fun i' k' => if k' = 0 then wf f i' k' else 0
/-- The table while a place is at hand. -/
def curM (f : Nat → Nat → Int) (i k : Nat) : Nat → Nat → Int := fun i' k' => if i' = 0 ∨ k' = 0 ∨ i' < i ∨ (i' = i ∧ k' < k) then wf f i' k' else 0
theorem weigh_l3 (a b : ByteArray) (ha : isWord a = true) (hb : isWord b = true) (i : Nat) (hi : i < a.size) (R : List PV)
    (hR : Ev2 (fun N n => impl_WeighFar.l2 N n a b ((i + 1 + 1 : Nat) : Int) (matL (a.size + 1) (b.size + 1) (curM (fW a b) (i + 1 + 1) 1))) R) : ∀ (c k : Nat), k + c = b.size →
    Ev3 (fun N m0 n => impl_WeighFar.l3 N m0 n a b ((i + 1 : Nat) : Int) ((k + 1 : Nat) : Int) (matL (a.size + 1) (b.size + 1) (curM (fW a b) (i + 1) (k + 1)))) R := by
  obtain ⟨a1, a2, a3⟩ := word_size ha
  obtain ⟨b1, b2, b3⟩ := word_size hb
  intro c
  induction c with
  | zero =>
    intro k hk
    refine Ev3.succ ?_
    have z : ¬ ((k + 1 : Nat) : Int) ≤ (b.size : Int) := by omega
    have wi : IntKind.i64.wrap (((i + 1 : Nat) : Int) + 1) = ((i + 1 + 1 : Nat) : Int) := by rw [wrap_id (by omega) (by omega)]; omega
    have hm : matL (a.size + 1) (b.size + 1) (curM (fW a b) (i + 1) (k + 1)) = matL (a.size + 1) (b.size + 1) (curM (fW a b) (i + 1 + 1) 1) := matL_congr (fun i' k' h1 h2 => by
      unfold curM
      by_cases h : i' = 0 ∨ k' = 0 ∨ i' < i + 1 ∨ (i' = i + 1 ∧ k' < k + 1)
      · rw [if_pos h, if_pos (by omega)]
      · rw [if_neg h, if_neg (by omega)])
    simp only [impl_WeighFar.l3_eq, z, decide_false, Bool.false_eq_true, if_false, wi, hm]
    exact hR.outer
  | succ c ih =>
    intro k hk
    have hkb : k < b.size := by omega
    refine Ev3.succ ?_
    have z : ((k + 1 : Nat) : Int) ≤ (b.size : Int) := by omega
    have wi : IntKind.i64.wrap (((i + 1 : Nat) : Int) - 1) = (i : Int) := by rw [cast1, wrap_id (by omega) (by omega)]
    have wk : IntKind.i64.wrap (((k + 1 : Nat) : Int) - 1) = (k : Int) := by rw [cast1, wrap_id (by omega) (by omega)]
    have wk2 : IntKind.i64.wrap (((k + 1 : Nat) : Int) + 1) = ((k + 1 + 1 : Nat) : Int) := by rw [wrap_id (by omega) (by omega)]; omega
    have q1 : (i : Int) < (((matL (a.size + 1) (b.size + 1) (curM (fW a b) (i + 1) (k + 1))).length : Nat) : Int) := by rw [matL_len]; omega
    have q2 : ((i + 1 : Nat) : Int) < (((matL (a.size + 1) (b.size + 1) (curM (fW a b) (i + 1) (k + 1))).length : Nat) : Int) := by rw [matL_len]; omega
    have r1 := matL_row (n := a.size + 1) (m := b.size + 1) (g := curM (fW a b) (i + 1) (k + 1)) (show i < a.size + 1 by omega)
    have r2 := matL_row (n := a.size + 1) (m := b.size + 1) (g := curM (fW a b) (i + 1) (k + 1)) (show i + 1 < a.size + 1 by omega)
    have q3 : (k : Int) < ((b.size + 1 : Nat) : Int) := by omega
    have q4 : ((k + 1 : Nat) : Int) < ((b.size + 1 : Nat) : Int) := by omega
    have q5 : (i : Int) ≤ ((i + 1 : Nat) : Int) := by omega
    have q6 : ((i + 1 : Nat) : Int) ≤ (a.size : Int) := by omega
    have q7 : (k : Int) ≤ ((k + 1 : Nat) : Int) := by omega
    have t1 : curM (fW a b) (i + 1) (k + 1) i k = wf (fW a b) i k := by unfold curM; rw [if_pos (by omega)]
    have t2 : curM (fW a b) (i + 1) (k + 1) i (k + 1) = wf (fW a b) i (k + 1) := by unfold curM; rw [if_pos (by omega)]
    have t3 : curM (fW a b) (i + 1) (k + 1) (i + 1) k = wf (fW a b) (i + 1) k := by unfold curM; rw [if_pos (by omega)]
    have h1 := wf_in (fW_in a b) i k; have h2 := wf_in (fW_in a b) i (k + 1); have h3 := wf_in (fW_in a b) (i + 1) k
    have h4 := fW_in a b i k
    have w1 : IntKind.i64.wrap (wf (fW a b) i k + fW a b i k) = wf (fW a b) i k + fW a b i k := wrap_id (by omega) (by omega)
    have w2 : IntKind.i64.wrap (wf (fW a b) i (k + 1) + 4) = wf (fW a b) i (k + 1) + 4 := wrap_id (by omega) (by omega)
    have w3 : IntKind.i64.wrap (wf (fW a b) (i + 1) k + 4) = wf (fW a b) (i + 1) k + 4 := wrap_id (by omega) (by omega)
    have hw : minI (minI (wf (fW a b) i k + fW a b i k) (wf (fW a b) i (k + 1) + 4)) (wf (fW a b) (i + 1) k + 4) = wf (fW a b) (i + 1) (k + 1) := by rw [wf]
    have hset := matL_set (n := a.size + 1) (m := b.size + 1) (g := curM (fW a b) (i + 1) (k + 1)) (i := i + 1) (k := k + 1) (by omega) (wf (fW a b) (i + 1) (k + 1))
    have hm : matL (a.size + 1) (b.size + 1) (updM (curM (fW a b) (i + 1) (k + 1)) (i + 1) (k + 1) (wf (fW a b) (i + 1) (k + 1))) = matL (a.size + 1) (b.size + 1) (curM (fW a b) (i + 1) (k + 1 + 1)) := matL_congr (fun i' k' h1 h2 => by
      unfold updM curM
      by_cases he : i' = i + 1 ∧ k' = k + 1
      · rw [if_pos he, if_pos (by omega), he.1, he.2]
      · rw [if_neg he]
        by_cases h : i' = 0 ∨ k' = 0 ∨ i' < i + 1 ∨ (i' = i + 1 ∧ k' < k + 1)
        · rw [if_pos h, if_pos (by omega)]
        · rw [if_neg h, if_neg (by omega)])
    have hkf := implKeyFar_ev (a.extract i (i + 1)) (b.extract k (k + 1)) (by rw [(ext_one a i hi).1]; omega) (by rw [(ext_one b k hkb).1]; omega)
    rw [keyFar_at a3 b3 hi hkb] at hkf
    simp only [impl_WeighFar.l3_eq, z, wi, wk, wk2, q1, q2, r1, r2, range_len, q3, q4, q5, q6, q7, nn, nat_int, decide_true, if_true]
    refine Ev3.bind hkf ?_
    simp only [headD_one, toInt_sc, range_at (show k < b.size + 1 by omega), range_at (show k + 1 < b.size + 1 by omega), t1, t2, t3, w1, w2, w3, hw, hset, hm]
    exact ih (k + 1) (by omega)
theorem weigh_l2 (a b : ByteArray) (ha : isWord a = true) (hb : isWord b = true) : ∀ (c i : Nat), i + c = a.size →
    Ev2 (fun N n => impl_WeighFar.l2 N n a b ((i + 1 : Nat) : Int) (matL (a.size + 1) (b.size + 1) (curM (fW a b) (i + 1) 1))) [intP (wf (fW a b) a.size b.size)] := by
  obtain ⟨a1, a2, a3⟩ := word_size ha
  obtain ⟨b1, b2, b3⟩ := word_size hb
  intro c
  induction c with
  | zero =>
    intro i hi
    refine Ev2.succ ?_
    have z : ¬ ((i + 1 : Nat) : Int) ≤ (a.size : Int) := by omega
    have q1 : (a.size : Int) < (((matL (a.size + 1) (b.size + 1) (curM (fW a b) (i + 1) 1)).length : Nat) : Int) := by rw [matL_len]; omega
    have r1 := matL_row (n := a.size + 1) (m := b.size + 1) (g := curM (fW a b) (i + 1) 1) (show a.size < a.size + 1 by omega)
    have q3 : (b.size : Int) < ((b.size + 1 : Nat) : Int) := by omega
    have t1 : curM (fW a b) (i + 1) 1 a.size b.size = wf (fW a b) a.size b.size := by unfold curM; rw [if_pos (by omega)]
    simp only [impl_WeighFar.l2_eq, z, decide_false, Bool.false_eq_true, if_false, q1, r1, range_len, q3, range_at (show b.size < b.size + 1 by omega), t1, nn, if_true]
    exact Ev2.now _
  | succ c ih =>
    intro i hi
    refine Ev2.succ ?_
    have z : ((i + 1 : Nat) : Int) ≤ (a.size : Int) := by omega
    have h := weigh_l3 a b ha hb i (by omega) _ (ih (i + 1) (by omega)) b.size 0 (by omega)
    simp only [impl_WeighFar.l2_eq, z, decide_true, if_true]
    exact h.start
theorem weigh_l1 (a b : ByteArray) (ha : isWord a = true) (hb : isWord b = true) : ∀ (c k : Nat), k + c = b.size + 1 →
    Ev2 (fun N n => impl_WeighFar.l1 N n a b ((b.size + 1 : Nat) : Int) (k : Int) (matL (a.size + 1) (b.size + 1) (ga (fW a b) k))) [intP (wf (fW a b) a.size b.size)] := by
  obtain ⟨a1, a2, a3⟩ := word_size ha
  obtain ⟨b1, b2, b3⟩ := word_size hb
  intro c
  induction c with
  | zero =>
    intro k hk
    refine Ev2.succ ?_
    have z : ¬ (k : Int) < ((b.size + 1 : Nat) : Int) := by omega
    have hm : matL (a.size + 1) (b.size + 1) (ga (fW a b) k) = matL (a.size + 1) (b.size + 1) (curM (fW a b) (0 + 1) 1) := matL_congr (fun i' k' h1 h2 => by
      unfold curM ga
      by_cases h : k' = 0 ∨ (i' = 0 ∧ k' < k)
      · rw [if_pos h, if_pos (by omega)]
      · rw [if_neg h, if_neg (by omega)])
    simp only [impl_WeighFar.l1_eq, z, decide_false, Bool.false_eq_true, if_false, hm]
    exact (weigh_l2 a b ha hb a.size 0 (by omega)).after
  | succ c ih =>
    intro k hk
    refine Ev2.succ ?_
    have z : (k : Int) < ((b.size + 1 : Nat) : Int) := by omega
    have q1 : (0 : Int) < (((matL (a.size + 1) (b.size + 1) (ga (fW a b) k)).length : Nat) : Int) := by rw [matL_len]; omega
    have r1 := matL_row (n := a.size + 1) (m := b.size + 1) (g := ga (fW a b) k) (show 0 < a.size + 1 by omega)
    have w1 : IntKind.i64.wrap (4 * (k : Int)) = wf (fW a b) 0 k := by rw [wf]; exact wrap_id (by omega) (by omega)
    have wk : IntKind.i64.wrap ((k : Int) + 1) = ((k + 1 : Nat) : Int) := by rw [wrap_id (by omega) (by omega)]; omega
    have hset := matL_set (n := a.size + 1) (m := b.size + 1) (g := ga (fW a b) k) (i := 0) (k := k) (by omega) (wf (fW a b) 0 k)
    have hm : matL (a.size + 1) (b.size + 1) (updM (ga (fW a b) k) 0 k (wf (fW a b) 0 k)) = matL (a.size + 1) (b.size + 1) (ga (fW a b) (k + 1)) := matL_congr (fun i' k' h1 h2 => by
      unfold updM ga
      by_cases he : i' = 0 ∧ k' = k
      · rw [if_pos he, if_pos (by omega), he.1, he.2]
      · rw [if_neg he]
        by_cases h : k' = 0 ∨ (i' = 0 ∧ k' < k)
        · rw [if_pos h, if_pos (by omega)]
        · rw [if_neg h, if_neg (by omega)])
    simp only [impl_WeighFar.l1_eq, z, q1, r1, range_len, w1, wk, hset, hm, nn, nat_int, decide_true, if_true, Int.le_refl, Int.reduceLE, Nat.le_refl]
    exact ih (k + 1) (by omega)
theorem weigh_l0 (a b : ByteArray) (ha : isWord a = true) (hb : isWord b = true) : ∀ (c i : Nat), i + c = a.size + 1 →
    Ev2 (fun N n => impl_WeighFar.l0 N n a b ((a.size + 1 : Nat) : Int) (i : Int) ((matL i (b.size + 1) (g0 (fW a b))) ++ List.replicate c (PV.list []))) [intP (wf (fW a b) a.size b.size)] := by
  obtain ⟨a1, a2, a3⟩ := word_size ha
  obtain ⟨b1, b2, b3⟩ := word_size hb
  intro c
  induction c with
  | zero =>
    intro i hi
    have hi' : i = a.size + 1 := by omega
    subst hi'
    refine Ev2.succ ?_
    have z : ¬ ((a.size + 1 : Nat) : Int) < ((a.size + 1 : Nat) : Int) := by omega
    have q1 : (0 : Int) < (((matL (a.size + 1) (b.size + 1) (g0 (fW a b))).length : Nat) : Int) := by rw [matL_len]; omega
    have r1 := matL_row (n := a.size + 1) (m := b.size + 1) (g := g0 (fW a b)) (show 0 < a.size + 1 by omega)
    have hm : matL (a.size + 1) (b.size + 1) (g0 (fW a b)) = matL (a.size + 1) (b.size + 1) (ga (fW a b) 0) := matL_congr (fun i' k' h1 h2 => by
      unfold ga g0
      by_cases h : k' = 0
      · rw [if_pos h, if_pos (by omega)]
      · rw [if_neg h, if_neg (by omega)])
    have h := (weigh_l1 a b ha hb (b.size + 1) 0 (by omega)).after
    rw [← hm] at h
    simp only [impl_WeighFar.l0_eq, List.replicate_zero, List.append_nil, z, q1, r1, range_len, decide_false, Bool.false_eq_true, if_false, if_true, Int.le_refl, Int.reduceLE, Nat.le_refl]
    exact h
  | succ c ih =>
    intro i hi
    refine Ev2.succ ?_
    have z : (i : Int) < ((a.size + 1 : Nat) : Int) := by omega
    have wb : IntKind.i64.wrap ((b.size : Int) + 1) = ((b.size + 1 : Nat) : Int) := by rw [wrap_id (by omega) (by omega)]; omega
    have w1 : IntKind.i64.wrap (4 * (i : Int)) = 4 * (i : Int) := wrap_id (by omega) (by omega)
    have wi : IntKind.i64.wrap ((i : Int) + 1) = ((i + 1 : Nat) : Int) := by rw [wrap_id (by omega) (by omega)]; omega
    have c1 : b.size + 1 ≤ 35184372088832 := by omega
    have hlen := matL_len i (b.size + 1) (g0 (fW a b))
    have hset : ∀ x : PV, (matL i (b.size + 1) (g0 (fW a b)) ++ PV.list [] :: List.replicate c (PV.list [])).set i x = matL i (b.size + 1) (g0 (fW a b)) ++ x :: List.replicate c (PV.list []) := fun x => by
      have := set_mid (matL i (b.size + 1) (g0 (fW a b))) (PV.list []) x (List.replicate c (PV.list []))
      rwa [hlen] at this
    have hset2 : ∀ x y : PV, (matL i (b.size + 1) (g0 (fW a b)) ++ x :: List.replicate c (PV.list [])).set i y = matL i (b.size + 1) (g0 (fW a b)) ++ y :: List.replicate c (PV.list []) := fun x y => by
      have := set_mid (matL i (b.size + 1) (g0 (fW a b))) x y (List.replicate c (PV.list []))
      rwa [hlen] at this
    have hel : ∀ x : PV, (PV.list (matL i (b.size + 1) (g0 (fW a b)) ++ x :: List.replicate c (PV.list []))).elem i = x := fun x => by
      simp [PV.elem, PV.items, List.getD_eq_getElem?_getD, hlen]
    have q1 : ∀ x : PV, (i : Int) < (((matL i (b.size + 1) (g0 (fW a b)) ++ x :: List.replicate c (PV.list [])).length : Nat) : Int) := fun x => by simp [hlen]; omega
    have hz : PV.list (List.replicate (b.size + 1) (PV.sc (.int .i64 0))) = intsP ((List.range (b.size + 1)).map fun _ => (0 : Int)) := by simp [intsP, List.map_const']
    have q2 : (0 : Int) < ((b.size + 1 : Nat) : Int) := by omega
    have hrow : (((intsP ((List.range (b.size + 1)).map fun _ => (0 : Int))).items).set 0 (intP (4 * (i : Int)))) = ((List.range (b.size + 1)).map (fun k' => if k' = 0 then 4 * (i : Int) else 0)).map intP := range_set _
    have hfin : matL i (b.size + 1) (g0 (fW a b)) ++ PV.list (((List.range (b.size + 1)).map (fun k' => if k' = 0 then 4 * (i : Int) else 0)).map intP) :: List.replicate c (PV.list []) = matL (i + 1) (b.size + 1) (g0 (fW a b)) ++ List.replicate c (PV.list []) := by
      have : matL (i + 1) (b.size + 1) (g0 (fW a b)) = matL i (b.size + 1) (g0 (fW a b)) ++ [PV.list (((List.range (b.size + 1)).map (fun k' => if k' = 0 then 4 * (i : Int) else 0)).map intP)] := by
        have hr : (List.range (b.size + 1)).map (g0 (fW a b) i) = (List.range (b.size + 1)).map (fun k' => if k' = 0 then 4 * (i : Int) else 0) := List.map_congr_left (fun k' _ => by
          unfold g0
          split
          · rename_i h; subst h; rw [wf_zero]
          · rfl)
        unfold matL
        rw [List.range_succ (n := i), List.map_append, List.map_cons, List.map_nil, hr]
        rfl
      rw [this]; simp
    have hrep : List.replicate (c + 1) (PV.list []) = PV.list [] :: List.replicate c (PV.list []) := List.replicate_succ
    simp only [impl_WeighFar.l0_eq, hrep, z, wb, w1, wi, nn, nat_int, c1, hz, hset, hset2, hel, q1, range_len, q2, hrow, hfin, decide_true, if_true, Int.le_refl, Int.reduceLE, Nat.le_refl]
    exact ih (i + 1) (by omega)
def weighM (a b : ByteArray) : Int := if isWord a = true ∧ isWord b = true then wf (fW a b) a.size b.size else -1
theorem implWeigh_ev (a b : ByteArray) (hsa : a.size ≤ 9223372036854775807) (hsb : b.size ≤ 9223372036854775807) : Ev (fun N => impl_WeighFar.f N [strP a, strP b]) [intP (weighM a b)] := by
  simp only [impl_WeighFar.f_eq, toStr_sc]
  refine Ev.bind (implWord_ev a hsa) ?_
  unfold weighM
  by_cases ha : isWord a = true
  · simp only [ha, strs_len, strs_elem, ints_len, ints_elem, items_list, fld_agg, elem_list, toStr_sc, toInt_sc, toBool_sc, headD_one, nat_int, get_bt, decide_eq_true_eq, decide_eq_false_iff_not, decide_true, decide_false, if_true, if_false, ite_self, Bool.not_true, Bool.not_false, Bool.false_eq_true, Bool.true_eq_false, Bool.true_and, Bool.false_and, Bool.and_true, Bool.and_false, not_true, not_false_iff, Option.bind_some, nn, toList_inj, Bool.not_eq_true', Bool.not_eq_false', Int.le_refl, and_self, true_and, and_true, false_and, and_false, bne_self_eq_false, beq_self_eq_true, Int.reduceEq, Nat.reduceEqDiff, List.length_singleton, List.tail_cons, Int.reduceLE, Int.reduceLT, decide_eq_true_eq]
    refine Ev.bind (implWord_ev b hsb) ?_
    by_cases hb : isWord b = true
    · obtain ⟨a1, a2, a3⟩ := word_size ha
      have wa : IntKind.i64.wrap ((a.size : Int) + 1) = ((a.size + 1 : Nat) : Int) := by rw [wrap_id (by omega) (by omega)]; omega
      have c1 : a.size + 1 ≤ 11728124029610 := by omega
      have h := (weigh_l0 a b ha hb (a.size + 1) 0 (by omega)).diag
      have e : matL 0 (b.size + 1) (g0 (fW a b)) = [] := rfl
      rw [e, List.nil_append] at h
      simp only [hb, wa, nn, nat_int, c1, headD_one, toBool_sc, Bool.not_true, Bool.false_eq_true, if_false, if_true, Int.le_refl, List.length_replicate, and_self]
      exact h
    · simp only [Bool.not_eq_true] at hb
      simp only [hb, strs_len, strs_elem, ints_len, ints_elem, items_list, fld_agg, elem_list, toStr_sc, toInt_sc, toBool_sc, headD_one, nat_int, get_bt, decide_eq_true_eq, decide_eq_false_iff_not, decide_true, decide_false, if_true, if_false, ite_self, Bool.not_true, Bool.not_false, Bool.false_eq_true, Bool.true_eq_false, Bool.true_and, Bool.false_and, Bool.and_true, Bool.and_false, not_true, not_false_iff, Option.bind_some, nn, toList_inj, Bool.not_eq_true', Bool.not_eq_false', Int.le_refl, and_self, true_and, and_true, false_and, and_false, bne_self_eq_false, beq_self_eq_true, Int.reduceEq, Nat.reduceEqDiff, List.length_singleton, List.tail_cons, Int.reduceLE, Int.reduceLT, decide_eq_true_eq]; exact Ev.now _
  · simp only [Bool.not_eq_true] at ha
    simp only [ha, strs_len, strs_elem, ints_len, ints_elem, items_list, fld_agg, elem_list, toStr_sc, toInt_sc, toBool_sc, headD_one, nat_int, get_bt, decide_eq_true_eq, decide_eq_false_iff_not, decide_true, decide_false, if_true, if_false, ite_self, Bool.not_true, Bool.not_false, Bool.false_eq_true, Bool.true_eq_false, Bool.true_and, Bool.false_and, Bool.and_true, Bool.and_false, not_true, not_false_iff, Option.bind_some, nn, toList_inj, Bool.not_eq_true', Bool.not_eq_false', Int.le_refl, and_self, true_and, and_true, false_and, and_false, bne_self_eq_false, beq_self_eq_true, Int.reduceEq, Nat.reduceEqDiff, List.length_singleton, List.tail_cons, Int.reduceLE, Int.reduceLT, decide_eq_true_eq]; exact Ev.now _
/-! #### the reference's distance -/
theorem matL_more (n m : Nat) (g : Nat → Nat → Int) : matL n m g ++ [PV.list (((List.range m).map (g n)).map intP)] = matL (n + 1) m g := by
  simp [matL, List.range_succ, intsP]
theorem rowL_more (m : Nat) (g : Nat → Int) : ((List.range m).map g).map intP ++ [intP (g m)] = ((List.range (m + 1)).map g).map intP := by
  simp [List.range_succ]
theorem specW_l1 (a b : ByteArray) (ha : isWord a = true) (hb : isWord b = true) (i : Nat) (hi : i ≤ a.size) (R : List PV)
    (hR : Ev2 (fun N n => spec_l10Weigh.l0 N n a b ((i + 1 : Nat) : Int) (matL (i + 1) (b.size + 1) (wf (fW a b)))) R) : ∀ (c k : Nat), k + c = b.size + 1 →
    Ev3 (fun N m0 n => spec_l10Weigh.l1 N m0 n a b (i : Int) (k : Int) (matL i (b.size + 1) (wf (fW a b))) (((List.range k).map (wf (fW a b) i)).map intP)) R := by
  obtain ⟨a1, a2, a3⟩ := word_size ha
  obtain ⟨b1, b2, b3⟩ := word_size hb
  intro c
  induction c with
  | zero =>
    intro k hk
    have hk' : k = b.size + 1 := by omega
    subst hk'
    refine Ev3.succ ?_
    have z : ¬ ((b.size + 1 : Nat) : Int) ≤ (b.size : Int) := by omega
    have wi : IntKind.i64.wrap ((i : Int) + 1) = ((i + 1 : Nat) : Int) := by rw [wrap_id (by omega) (by omega)]; omega
    have c1 : i + 1 ≤ 5864062014805 := by omega
    have hl := matL_len i (b.size + 1) (wf (fW a b))
    have l1 : ∀ x : PV, [x].length = 1 := fun _ => rfl
    simp only [spec_l10Weigh.l1_eq, z, wi, hl, l1, c1, matL_more, decide_false, Bool.false_eq_true, if_false, if_true]
    exact hR.outer
  | succ c ih =>
    intro k hk
    have hkb : k ≤ b.size := by omega
    refine Ev3.succ ?_
    have z : (k : Int) ≤ (b.size : Int) := by omega
    have wk1 : IntKind.i64.wrap ((k : Int) + 1) = ((k + 1 : Nat) : Int) := by rw [wrap_id (by omega) (by omega)]; omega
    have hl1 : (((List.range k).map (wf (fW a b) i)).map intP).length = k := by simp
    have l1 : ∀ x : PV, [x].length = 1 := fun _ => rfl
    have c1 : k + 1 ≤ 17592186044416 := by omega
    have hnext := ih (k + 1) (by omega)
    rw [← rowL_more] at hnext
    cases i with
    | zero =>
      have w1 : IntKind.i64.wrap (4 * (k : Int)) = wf (fW a b) 0 k := by rw [wf]; exact wrap_id (by omega) (by omega)
      have zz : ((0 : Nat) : Int) = 0 := rfl
      simp only [zz] at hnext ⊢
      simp only [spec_l10Weigh.l1_eq, z, wk1, w1, hl1, l1, c1, decide_true, if_true]
      exact hnext
    | succ i =>
      have y0 : ¬ (((i + 1 : Nat) : Int) = 0) := by omega
      cases k with
      | zero =>
        have w1 : IntKind.i64.wrap (4 * ((i + 1 : Nat) : Int)) = wf (fW a b) (i + 1) 0 := by rw [wf_zero]; exact wrap_id (by omega) (by omega)
        have zz : ((0 : Nat) : Int) = 0 := rfl
        simp only [zz] at hnext wk1 z ⊢
        simp only [spec_l10Weigh.l1_eq, z, wk1, w1, hl1, l1, c1, y0, decide_true, decide_false, Bool.false_eq_true, if_false, if_true]
        exact hnext
      | succ k =>
        have y1 : ¬ (((k + 1 : Nat) : Int) = 0) := by omega
        have wi : IntKind.i64.wrap (((i + 1 : Nat) : Int) - 1) = (i : Int) := by rw [cast1, wrap_id (by omega) (by omega)]
        have wk : IntKind.i64.wrap (((k + 1 : Nat) : Int) - 1) = (k : Int) := by rw [cast1, wrap_id (by omega) (by omega)]
        have hl := matL_len (i + 1) (b.size + 1) (wf (fW a b))
        have q1 : (i : Int) < ((i + 1 : Nat) : Int) := by omega
        have r1 := matL_row (n := i + 1) (m := b.size + 1) (g := wf (fW a b)) (show i < i + 1 by omega)
        have q3 : (k : Int) < ((b.size + 1 : Nat) : Int) := by omega
        have q4 : ((k + 1 : Nat) : Int) < ((b.size + 1 : Nat) : Int) := by omega
        have q5 : (i : Int) < (a.size : Int) := by omega
        have q6 : (k : Int) < (b.size : Int) := by omega
        have q7 : (k : Int) < ((k + 1 : Nat) : Int) := by omega
        have h1 := wf_in (fW_in a b) i k; have h2 := wf_in (fW_in a b) i (k + 1); have h3 := wf_in (fW_in a b) (i + 1) k
        have h4 := fW_in a b i k
        have w1 : IntKind.i64.wrap (wf (fW a b) i k + fW a b i k) = wf (fW a b) i k + fW a b i k := wrap_id (by omega) (by omega)
        have w2 : IntKind.i64.wrap (wf (fW a b) i (k + 1) + 4) = wf (fW a b) i (k + 1) + 4 := wrap_id (by omega) (by omega)
        have w3 : IntKind.i64.wrap (wf (fW a b) (i + 1) k + 4) = wf (fW a b) (i + 1) k + 4 := wrap_id (by omega) (by omega)
        have hle : ∀ x y : Int, (if x < y then x else y) = minI x y := fun x y => by
          simp only [minI]; repeat' split
          all_goals omega
        have hw : minI (wf (fW a b) i k + fW a b i k) (minI (wf (fW a b) i (k + 1) + 4) (wf (fW a b) (i + 1) k + 4)) = wf (fW a b) (i + 1) (k + 1) := by
          rw [wf]; simp only [minI]; repeat' split
          all_goals omega
        have he : ((PV.list (((List.range (k + 1)).map (wf (fW a b) (i + 1))).map intP)).elem k).toInt = wf (fW a b) (i + 1) k := range_at (by omega)
        have hf : Ev (fun N => spec_l10Key.f N [.sc (.int .u8 ((a.get! i).toNat : Int)), .sc (.int .u8 ((b.get! k).toNat : Int))]) [intP (fW a b i k)] := by
          have := specKey_far (bt a i) (bt b k)
          rw [get_bt, get_bt]; exact this
        simp only [spec_l10Weigh.l1_eq, z, y0, y1, wi, wk, wk1, hl, hl1, l1, c1, q1, q3, q4, q5, q6, q7, r1, range_len, nn, nat_int, decide_true, decide_false, Bool.false_eq_true, if_false, if_true]
        refine Ev3.bind hf ?_
        simp only [headD_one, toInt_sc, range_at (show k < b.size + 1 by omega), range_at (show k + 1 < b.size + 1 by omega), he, w1, w2, w3, least_val, hle, hw, Option.bind_some]
        exact hnext
theorem specW_l0 (a b : ByteArray) (ha : isWord a = true) (hb : isWord b = true) : ∀ (c i : Nat), i + c = a.size + 1 →
    Ev2 (fun N n => spec_l10Weigh.l0 N n a b (i : Int) (matL i (b.size + 1) (wf (fW a b)))) [intP (wf (fW a b) a.size b.size)] := by
  obtain ⟨a1, a2, a3⟩ := word_size ha
  obtain ⟨b1, b2, b3⟩ := word_size hb
  intro c
  induction c with
  | zero =>
    intro i hi
    have hi' : i = a.size + 1 := by omega
    subst hi'
    refine Ev2.succ ?_
    have z : ¬ ((a.size + 1 : Nat) : Int) ≤ (a.size : Int) := by omega
    have hl := matL_len (a.size + 1) (b.size + 1) (wf (fW a b))
    have q1 : (a.size : Int) < ((a.size + 1 : Nat) : Int) := by omega
    have q2 : (b.size : Int) < ((b.size + 1 : Nat) : Int) := by omega
    have r1 := matL_row (n := a.size + 1) (m := b.size + 1) (g := wf (fW a b)) (show a.size < a.size + 1 by omega)
    simp only [spec_l10Weigh.l0_eq, z, hl, q1, q2, r1, range_len, range_at (show b.size < b.size + 1 by omega), nn, decide_false, Bool.false_eq_true, if_false, if_true]
    exact Ev2.now _
  | succ c ih =>
    intro i hi
    refine Ev2.succ ?_
    have z : (i : Int) ≤ (a.size : Int) := by omega
    have h := specW_l1 a b ha hb i (by omega) _ (ih (i + 1) (by omega)) (b.size + 1) 0 (by omega)
    simp only [spec_l10Weigh.l0_eq, z, decide_true, if_true]
    exact h.start
theorem specWeigh_ev (a b : ByteArray) (hsa : a.size ≤ 9223372036854775807) (hsb : b.size ≤ 9223372036854775807) : Ev (fun N => spec_WeighFar.f N [strP a, strP b]) [intP (weighM a b)] := by
  simp only [spec_WeighFar.f_eq, toStr_sc]
  refine Ev.bind (specWord_ev a hsa) ?_
  unfold weighM
  by_cases ha : isWord a = true
  · simp only [ha, strs_len, strs_elem, ints_len, ints_elem, items_list, fld_agg, elem_list, toStr_sc, toInt_sc, toBool_sc, headD_one, nat_int, get_bt, decide_eq_true_eq, decide_eq_false_iff_not, decide_true, decide_false, if_true, if_false, ite_self, Bool.not_true, Bool.not_false, Bool.false_eq_true, Bool.true_eq_false, Bool.true_and, Bool.false_and, Bool.and_true, Bool.and_false, not_true, not_false_iff, Option.bind_some, nn, toList_inj, Bool.not_eq_true', Bool.not_eq_false', Int.le_refl, and_self, true_and, and_true, false_and, and_false, bne_self_eq_false, beq_self_eq_true, Int.reduceEq, Nat.reduceEqDiff, List.length_singleton, List.tail_cons, Int.reduceLE, Int.reduceLT, decide_eq_true_eq]
    refine Ev.bind (specWord_ev b hsb) ?_
    by_cases hb : isWord b = true
    · simp only [hb, strs_len, strs_elem, ints_len, ints_elem, items_list, fld_agg, elem_list, toStr_sc, toInt_sc, toBool_sc, headD_one, nat_int, get_bt, decide_eq_true_eq, decide_eq_false_iff_not, decide_true, decide_false, if_true, if_false, ite_self, Bool.not_true, Bool.not_false, Bool.false_eq_true, Bool.true_eq_false, Bool.true_and, Bool.false_and, Bool.and_true, Bool.and_false, not_true, not_false_iff, Option.bind_some, nn, toList_inj, Bool.not_eq_true', Bool.not_eq_false', Int.le_refl, and_self, true_and, and_true, false_and, and_false, bne_self_eq_false, beq_self_eq_true, Int.reduceEq, Nat.reduceEqDiff, List.length_singleton, List.tail_cons, Int.reduceLE, Int.reduceLT, decide_eq_true_eq]
      have h := (specW_l0 a b ha hb (a.size + 1) 0 (by omega)).diag
      have h2 : Ev (fun N => spec_l10Weigh.f N [strP a, strP b]) [intP (wf (fW a b) a.size b.size)] := by
        simp only [spec_l10Weigh.f_eq, strs_len, strs_elem, ints_len, ints_elem, items_list, fld_agg, elem_list, toStr_sc, toInt_sc, toBool_sc, headD_one, nat_int, get_bt, decide_eq_true_eq, decide_eq_false_iff_not, decide_true, decide_false, if_true, if_false, ite_self, Bool.not_true, Bool.not_false, Bool.false_eq_true, Bool.true_eq_false, Bool.true_and, Bool.false_and, Bool.and_true, Bool.and_false, not_true, not_false_iff, Option.bind_some, nn, toList_inj, Bool.not_eq_true', Bool.not_eq_false', Int.le_refl, and_self, true_and, and_true, false_and, and_false, bne_self_eq_false, beq_self_eq_true, Int.reduceEq, Nat.reduceEqDiff, List.length_singleton, List.tail_cons, Int.reduceLE, Int.reduceLT, decide_eq_true_eq]; exact h
      refine Ev.bind h2 ?_
      simp only [strs_len, strs_elem, ints_len, ints_elem, items_list, fld_agg, elem_list, toStr_sc, toInt_sc, toBool_sc, headD_one, nat_int, get_bt, decide_eq_true_eq, decide_eq_false_iff_not, decide_true, decide_false, if_true, if_false, ite_self, Bool.not_true, Bool.not_false, Bool.false_eq_true, Bool.true_eq_false, Bool.true_and, Bool.false_and, Bool.and_true, Bool.and_false, not_true, not_false_iff, Option.bind_some, nn, toList_inj, Bool.not_eq_true', Bool.not_eq_false', Int.le_refl, and_self, true_and, and_true, false_and, and_false, bne_self_eq_false, beq_self_eq_true, Int.reduceEq, Nat.reduceEqDiff, List.length_singleton, List.tail_cons, Int.reduceLE, Int.reduceLT, decide_eq_true_eq]; exact Ev.now _
    · simp only [Bool.not_eq_true] at hb
      simp only [hb, strs_len, strs_elem, ints_len, ints_elem, items_list, fld_agg, elem_list, toStr_sc, toInt_sc, toBool_sc, headD_one, nat_int, get_bt, decide_eq_true_eq, decide_eq_false_iff_not, decide_true, decide_false, if_true, if_false, ite_self, Bool.not_true, Bool.not_false, Bool.false_eq_true, Bool.true_eq_false, Bool.true_and, Bool.false_and, Bool.and_true, Bool.and_false, not_true, not_false_iff, Option.bind_some, nn, toList_inj, Bool.not_eq_true', Bool.not_eq_false', Int.le_refl, and_self, true_and, and_true, false_and, and_false, bne_self_eq_false, beq_self_eq_true, Int.reduceEq, Nat.reduceEqDiff, List.length_singleton, List.tail_cons, Int.reduceLE, Int.reduceLT, decide_eq_true_eq]; exact Ev.now _
  · simp only [Bool.not_eq_true] at ha
    simp only [ha, strs_len, strs_elem, ints_len, ints_elem, items_list, fld_agg, elem_list, toStr_sc, toInt_sc, toBool_sc, headD_one, nat_int, get_bt, decide_eq_true_eq, decide_eq_false_iff_not, decide_true, decide_false, if_true, if_false, ite_self, Bool.not_true, Bool.not_false, Bool.false_eq_true, Bool.true_eq_false, Bool.true_and, Bool.false_and, Bool.and_true, Bool.and_false, not_true, not_false_iff, Option.bind_some, nn, toList_inj, Bool.not_eq_true', Bool.not_eq_false', Int.le_refl, and_self, true_and, and_true, false_and, and_false, bne_self_eq_false, beq_self_eq_true, Int.reduceEq, Nat.reduceEqDiff, List.length_singleton, List.tail_cons, Int.reduceLE, Int.reduceLT, decide_eq_true_eq]; exact Ev.now _
/-! #### words near a word -/
def AllW (l : List ByteArray) : Prop := ∀ s ∈ l, isWord s = true
theorem near_mid {α : Type} (pre rest : List α) (x : α) : ((([] : List α) ++ (((pre ++ rest).drop 0).take (pre.length - 0))) ++ [x]) ++ (((pre ++ rest).drop pre.length).take ((pre ++ rest).length - pre.length)) = pre ++ x :: rest := by
  simp
theorem nearPut (l : List ByteArray) (t : ByteArray) (hl : l.length < 1000000) (hw : AllW l) (ht : isWord t = true) :
    ∃ l', AllW l' ∧ l.length ≤ l'.length ∧ l'.length ≤ l.length + 1 ∧ 1 ≤ l'.length ∧ Ev (fun N => spec_l1Put.f N [strsP l, strP t]) [strsP l'] := by
  have ins : ∀ pre rest : List ByteArray, l = pre ++ rest → AllW (pre ++ t :: rest) ∧ l.length ≤ (pre ++ t :: rest).length ∧ (pre ++ t :: rest).length ≤ l.length + 1 ∧ 1 ≤ (pre ++ t :: rest).length := by
    intro pre rest h
    subst h
    refine ⟨fun s hs => ?_, by simp, by simp; omega, by simp; omega⟩
    simp only [List.mem_append, List.mem_cons] at hs
    rcases hs with h | rfl | h
    · exact hw s (by simp [h])
    · exact ht
    · exact hw s (by simp [h])
  have mid : ∀ pre rest : List ByteArray, l = pre ++ rest → PV.list (((([] : List PV) ++ (((strsP l).items.drop 0).take (pre.length - 0))) ++ [strP t]) ++ (((strsP l).items.drop pre.length).take ((strsP l).items.length - pre.length))) = strsP (pre ++ t :: rest) := by
    intro pre rest h
    subst h
    have := near_mid (pre.map strP) (rest.map strP) (strP t)
    simp only [List.length_map, ← List.map_append] at this
    simp only [strsP, PV.items]
    rw [show ((pre ++ rest).map strP).length = ((pre ++ rest).map strP).length from rfl] at *
    simp only [List.length_map] at this ⊢
    rw [this]; simp
  have c1 : ∀ pre rest : List ByteArray, l = pre ++ rest → (([] : List PV).length + (((strsP l).items.drop 0).take (pre.length - 0)).length ≤ 8796093022208) = True := by
    intro pre rest h; subst h; simp [strsP, PV.items]; simp at hl; omega
  have c2 : ∀ pre rest : List ByteArray, l = pre ++ rest → ((([] : List PV) ++ (((strsP l).items.drop 0).take (pre.length - 0))).length + [strP t].length ≤ 8796093022208) = True := by
    intro pre rest h; subst h; simp [strsP, PV.items]; simp at hl; omega
  have c3 : ∀ pre rest : List ByteArray, l = pre ++ rest → (((([] : List PV) ++ (((strsP l).items.drop 0).take (pre.length - 0))) ++ [strP t]).length + (((strsP l).items.drop pre.length).take ((strsP l).items.length - pre.length)).length ≤ 8796093022208) = True := by
    intro pre rest h; subst h; simp [strsP, PV.items]; simp at hl; omega
  have c4 : ∀ pre rest : List ByteArray, l = pre ++ rest → (((pre.length : Nat) : Int) ≤ (((strsP l).items.length : Nat) : Int)) = True := by
    intro pre rest h; subst h; simp [strsP, PV.items]; omega
  have key : ∀ rest pre : List ByteArray, l = pre ++ rest → ∃ l', AllW l' ∧ l.length ≤ l'.length ∧ l'.length ≤ l.length + 1 ∧ 1 ≤ l'.length ∧ Ev2 (fun N n => spec_l1Put.l0 N n t (pre.length : Int) (strsP l)) [strsP l'] := by
    intro rest
    induction rest with
    | nil =>
      intro pre hp
      obtain ⟨i1, i2, i3, i4⟩ := ins pre [] hp
      refine ⟨_, i1, i2, i3, i4, Ev2.succ ?_⟩
      have z : ¬ ((pre.length : Nat) : Int) < (((strsP l).items.length : Nat) : Int) := by rw [strs_len]; exact at_end hp
      simp only [spec_l1Put.l0_eq, z, nn, nat_int, decide_false, Bool.false_eq_true, if_false, if_true, c1 pre [] hp, c2 pre [] hp, c3 pre [] hp, c4 pre [] hp, mid pre [] hp]
      exact Ev2.now _
    | cons c rest ih =>
      intro pre hp
      have z : ((pre.length : Nat) : Int) < (((strsP l).items.length : Nat) : Int) := by rw [strs_len]; exact at_lt hp
      have he : ((strsP l).elem pre.length).toStr = c := by rw [strs_elem]; exact at_getD hp
      by_cases hb : Op.bytesLess c.toList t.toList = true
      · obtain ⟨l', i1, i2, i3, i4, i5⟩ := ih (pre ++ [c]) (at_step hp)
        refine ⟨l', i1, i2, i3, i4, Ev2.succ ?_⟩
        simp only [spec_l1Put.l0_eq, z, nn, nat_int, he, hb, decide_true, if_true, at_next hp (by omega)]
        exact i5
      · by_cases ht2 : c.toList = t.toList
        · refine ⟨l, hw, Nat.le_refl _, by omega, by have := at_ltN hp; omega, Ev2.succ ?_⟩
          simp only [spec_l1Put.l0_eq, z, nn, nat_int, he, hb, ht2, decide_true, if_true, Bool.false_eq_true, if_false]
          simp only [ht2] at hb
          simp only [hb, Bool.false_eq_true, if_false]
          exact Ev2.now _
        · obtain ⟨i1, i2, i3, i4⟩ := ins pre (c :: rest) hp
          refine ⟨_, i1, i2, i3, i4, Ev2.succ ?_⟩
          simp only [spec_l1Put.l0_eq, z, nn, nat_int, he, hb, ht2, decide_true, decide_false, Bool.false_eq_true, if_false, if_true, c1 pre (c :: rest) hp, c2 pre (c :: rest) hp, c3 pre (c :: rest) hp, c4 pre (c :: rest) hp, mid pre (c :: rest) hp]
          exact Ev2.now _
  obtain ⟨l', h1, h2, h3, h4, h5⟩ := key l [] rfl
  refine ⟨l', h1, h2, h3, h4, ?_⟩
  simp only [spec_l1Put.f_eq, toStr_sc]
  exact h5.diag
theorem nearStep (l : List ByteArray) (s t : ByteArray) (hl : l.length < 1000000) (hw : AllW l) (hsz : t.size ≤ 1000) :
    ∃ l', AllW l' ∧ l.length ≤ l'.length ∧ l'.length ≤ l.length + 1 ∧ (t ≠ s → isWord t = true → 1 ≤ l'.length) ∧ Ev (fun N => spec_l1Step.f N [strsP l, strP s, strP t]) [strsP l'] := by
  by_cases h : t = s
  · subst h
    refine ⟨l, hw, Nat.le_refl _, by omega, fun h => absurd rfl h, ?_⟩
    simp only [spec_l1Step.f_eq, strs_len, strs_elem, ints_len, ints_elem, items_list, fld_agg, elem_list, toStr_sc, toInt_sc, toBool_sc, headD_one, nat_int, get_bt, decide_eq_true_eq, decide_eq_false_iff_not, decide_true, decide_false, if_true, if_false, ite_self, Bool.not_true, Bool.not_false, Bool.false_eq_true, Bool.true_eq_false, Bool.true_and, Bool.false_and, Bool.and_true, Bool.and_false, not_true, not_false_iff, Option.bind_some, nn, toList_inj, Bool.not_eq_true', Bool.not_eq_false', Int.le_refl, and_self, true_and, and_true, false_and, and_false, bne_self_eq_false, beq_self_eq_true, Int.reduceEq, Nat.reduceEqDiff, List.length_singleton, List.tail_cons, Int.reduceLE, Int.reduceLT, decide_eq_true_eq]
    exact Ev.now _
  · by_cases hwt : isWord t = true
    · obtain ⟨l', h1, h2, h3, h4, h5⟩ := nearPut l t hl hw hwt
      refine ⟨l', h1, h2, h3, fun _ _ => h4, ?_⟩
      have hn : ¬ t.toList = s.toList := fun e => h (by simpa [toList_inj] using e)
      simp only [spec_l1Step.f_eq, toStr_sc, hn, decide_false, if_true]
      refine Ev.bind (specWord_ev t (by omega)) ?_
      simp only [hwt, strs_len, strs_elem, ints_len, ints_elem, items_list, fld_agg, elem_list, toStr_sc, toInt_sc, toBool_sc, headD_one, nat_int, get_bt, decide_eq_true_eq, decide_eq_false_iff_not, decide_true, decide_false, if_true, if_false, ite_self, Bool.not_true, Bool.not_false, Bool.false_eq_true, Bool.true_eq_false, Bool.true_and, Bool.false_and, Bool.and_true, Bool.and_false, not_true, not_false_iff, Option.bind_some, nn, toList_inj, Bool.not_eq_true', Bool.not_eq_false', Int.le_refl, and_self, true_and, and_true, false_and, and_false, bne_self_eq_false, beq_self_eq_true, Int.reduceEq, Nat.reduceEqDiff, List.length_singleton, List.tail_cons, Int.reduceLE, Int.reduceLT, decide_eq_true_eq]
      refine Ev.bind h5 ?_
      simp only [strs_len, strs_elem, ints_len, ints_elem, items_list, fld_agg, elem_list, toStr_sc, toInt_sc, toBool_sc, headD_one, nat_int, get_bt, decide_eq_true_eq, decide_eq_false_iff_not, decide_true, decide_false, if_true, if_false, ite_self, Bool.not_true, Bool.not_false, Bool.false_eq_true, Bool.true_eq_false, Bool.true_and, Bool.false_and, Bool.and_true, Bool.and_false, not_true, not_false_iff, Option.bind_some, nn, toList_inj, Bool.not_eq_true', Bool.not_eq_false', Int.le_refl, and_self, true_and, and_true, false_and, and_false, bne_self_eq_false, beq_self_eq_true, Int.reduceEq, Nat.reduceEqDiff, List.length_singleton, List.tail_cons, Int.reduceLE, Int.reduceLT, decide_eq_true_eq]
      exact Ev.now _
    · refine ⟨l, hw, Nat.le_refl _, by omega, fun _ h => absurd h hwt, ?_⟩
      have hn : ¬ t.toList = s.toList := fun e => h (by simpa [toList_inj] using e)
      simp only [spec_l1Step.f_eq, toStr_sc, hn, decide_false, if_true]
      refine Ev.bind (specWord_ev t (by omega)) ?_
      simp only [Bool.not_eq_true] at hwt
      simp only [hwt, strs_len, strs_elem, ints_len, ints_elem, items_list, fld_agg, elem_list, toStr_sc, toInt_sc, toBool_sc, headD_one, nat_int, get_bt, decide_eq_true_eq, decide_eq_false_iff_not, decide_true, decide_false, if_true, if_false, ite_self, Bool.not_true, Bool.not_false, Bool.false_eq_true, Bool.true_eq_false, Bool.true_and, Bool.false_and, Bool.and_true, Bool.and_false, not_true, not_false_iff, Option.bind_some, nn, toList_inj, Bool.not_eq_true', Bool.not_eq_false', Int.le_refl, and_self, true_and, and_true, false_and, and_false, bne_self_eq_false, beq_self_eq_true, Int.reduceEq, Nat.reduceEqDiff, List.length_singleton, List.tail_cons, Int.reduceLE, Int.reduceLT, decide_eq_true_eq]
      exact Ev.now _
theorem i32_id {n : Int} (h0 : -2147483648 ≤ n) (h1 : n < 2147483648) : IntKind.i32.wrap n = n := by
  have h : IntKind.i32.wrap n = if (n % 4294967296) ≥ 2147483648 then n % 4294967296 - 4294967296 else n % 4294967296 := by
    simp [IntKind.wrap, IntKind.signed, IntKind.bits]
  rw [h]; split <;> omega
def cbL (c : Int) : ByteArray := bytesOfL [PV.sc (.int .u8 (IntKind.u8.wrap c))]
theorem cbL_size (c : Int) : (cbL c).size = 1 := by simp [cbL, bytesOfL, ByteArray.size]
def insL (s : ByteArray) (i : Nat) (c : Int) : ByteArray := ((s.extract 0 i) ++ cbL c) ++ s.extract i s.size
def repL (s : ByteArray) (i : Nat) (c : Int) : ByteArray := ((s.extract 0 i) ++ cbL c) ++ s.extract (i + 1) s.size
def delL (s : ByteArray) (i : Nat) : ByteArray := s.extract 0 i ++ s.extract (i + 1) s.size
def swpL (s : ByteArray) (i : Nat) : ByteArray := ((s.extract 0 i ++ s.extract (i + 1) (i + 2)) ++ s.extract i (i + 1)) ++ s.extract (i + 2) s.size
def goodL (s : ByteArray) (i : Nat) (c : Int) : Prop := (insL s i c ≠ s ∧ isWord (insL s i c) = true) ∨ (i < s.size ∧ repL s i c ≠ s ∧ isWord (repL s i c) = true)
theorem near_after (s : ByteArray) (hsw : s.size ≤ 12) (i : Nat) (hi : i ≤ s.size) (B : Nat) (hB : B < 1000000) (Z : Nat)
    (hR : ∀ l, AllW l → l.length + Z ≤ B → ∃ l', AllW l' ∧ l.length ≤ l'.length ∧ l'.length ≤ B ∧ Ev2 (fun N n => spec_l1Near.l3 N n s ((i + 1 : Nat) : Int) (strsP l)) [strsP l']) :
    ∀ (k : Nat) (c : Int), c + k = 123 → 97 ≤ c → ∀ l, AllW l → l.length + 2 * k + 2 + Z ≤ B → ∃ l', AllW l' ∧ l.length ≤ l'.length ∧ l'.length ≤ B ∧ (∀ c', c ≤ c' → c' ≤ 122 → goodL s i c' → 1 ≤ l'.length) ∧
      Ev3 (fun N m0 n => spec_l1Near.l2 N m0 n s (i : Int) c (strsP l)) [strsP l'] := by
  have se : ∀ x y, (s.extract x y).size ≤ 12 := fun x y => by rw [ByteArray.size_extract]; omega
  have d1 : ∀ x y z w, ((s.extract x y).size + (s.extract z w).size ≤ 9223372036854775807) = True := fun x y z w => by
    have := se x y; have := se z w; exact eq_true (by omega)
  have d2 : ∀ x y c, ((s.extract x y).size + (cbL c).size ≤ 9223372036854775807) = True := fun x y c => by
    have := se x y; have := cbL_size c; exact eq_true (by omega)
  have d3 : ∀ x y c z w, ((s.extract x y ++ cbL c).size + (s.extract z w).size ≤ 9223372036854775807) = True := fun x y c z w => by
    have := se x y; have := se z w; have := cbL_size c; rw [ByteArray.size_append]; exact eq_true (by omega)
  have d4 : ∀ x y z w u v, ((s.extract x y ++ s.extract z w).size + (s.extract u v).size ≤ 9223372036854775807) = True := fun x y z w u v => by
    have := se x y; have := se z w; have := se u v; rw [ByteArray.size_append]; exact eq_true (by omega)
  have d5 : ∀ x y z w u v p q, (((s.extract x y ++ s.extract z w) ++ s.extract u v).size + (s.extract p q).size ≤ 9223372036854775807) = True := fun x y z w u v p q => by
    have := se x y; have := se z w; have := se u v; have := se p q; rw [ByteArray.size_append, ByteArray.size_append]; exact eq_true (by omega)
  have w1 : IntKind.i64.wrap ((i : Int) + 1) = ((i + 1 : Nat) : Int) := by rw [wrap_id (by omega) (by omega)]; omega
  have w2 : IntKind.i64.wrap ((i : Int) + 2) = ((i + 2 : Nat) : Int) := by rw [wrap_id (by omega) (by omega)]; omega
  have hle : (i : Int) ≤ (s.size : Int) := by omega
  have insz : ∀ c, (insL s i c).size ≤ 1000 := fun c => by
    have := se 0 i; have := se i s.size; have := cbL_size c; unfold insL; rw [ByteArray.size_append, ByteArray.size_append]; omega
  have repz : ∀ c, (repL s i c).size ≤ 1000 := fun c => by
    have := se 0 i; have := se (i + 1) s.size; have := cbL_size c; unfold repL; rw [ByteArray.size_append, ByteArray.size_append]; omega
  have delz : (delL s i).size ≤ 1000 := by
    have := se 0 i; have := se (i + 1) s.size; unfold delL; rw [ByteArray.size_append]; omega
  have swpz : (swpL s i).size ≤ 1000 := by
    have := se 0 i; have := se (i + 1) (i + 2); have := se i (i + 1); have := se (i + 2) s.size; unfold swpL; rw [ByteArray.size_append, ByteArray.size_append, ByteArray.size_append]; omega
  intro k
  induction k with
  | zero =>
    intro c hc hc2 l hw hl
    have z : ¬ c ≤ 122 := by omega
    have none : ∀ c', c ≤ c' → c' ≤ 122 → goodL s i c' → ∀ x : Nat, 1 ≤ x := fun c' h1 h2 _ => by omega
    by_cases hlt : i < s.size
    · obtain ⟨la, a1, a2, a3, -, a4⟩ := nearStep l s (delL s i) (by omega) hw delz
      have hlt1 : (i : Int) < (s.size : Int) := by omega
      have hle1 : ((i + 1 : Nat) : Int) ≤ (s.size : Int) := by omega
      by_cases h2 : i + 1 < s.size
      · obtain ⟨lb, b1, b2, b3, -, b4⟩ := nearStep la s (swpL s i) (by omega) a1 swpz
        obtain ⟨l', e1, e2, e3, e4⟩ := hR lb b1 (by omega)
        refine ⟨l', e1, by omega, e3, fun c' p q r => none c' p q r _, Ev3.succ ?_⟩
        have h3 : ((i + 1 : Nat) : Int) < (s.size : Int) := by omega
        have h4 : ((i + 2 : Nat) : Int) ≤ (s.size : Int) := by omega
        have h5 : ((i + 1 : Nat) : Int) ≤ ((i + 2 : Nat) : Int) := by omega
        have h6 : (i : Int) ≤ ((i + 1 : Nat) : Int) := by omega
        unfold delL at a4; unfold swpL at b4
        simp only [spec_l1Near.l2_eq, z, hlt1, hle, hle1, h3, h4, h5, h6, w1, w2, d1, d2, d3, d4, d5, nn, nat_int, decide_true, decide_false, Bool.false_eq_true, if_false, if_true]
        refine Ev3.bind a4 ?_
        simp only [headD_one]
        refine Ev3.bind b4 ?_
        simp only [headD_one]
        exact e4.outer
      · obtain ⟨l', e1, e2, e3, e4⟩ := hR la a1 (by omega)
        refine ⟨l', e1, by omega, e3, fun c' p q r => none c' p q r _, Ev3.succ ?_⟩
        have h3 : ¬ ((i + 1 : Nat) : Int) < (s.size : Int) := by omega
        unfold delL at a4
        simp only [spec_l1Near.l2_eq, z, hlt1, hle, hle1, h3, w1, w2, d1, d2, d3, d4, d5, nn, nat_int, decide_true, decide_false, Bool.false_eq_true, if_false, if_true]
        refine Ev3.bind a4 ?_
        simp only [headD_one]
        exact e4.outer
    · obtain ⟨l', e1, e2, e3, e4⟩ := hR l hw (by omega)
      refine ⟨l', e1, e2, e3, fun c' p q r => none c' p q r _, Ev3.succ ?_⟩
      have hlt1 : ¬ (i : Int) < (s.size : Int) := by omega
      have h3 : ¬ ((i + 1 : Nat) : Int) < (s.size : Int) := by omega
      simp only [spec_l1Near.l2_eq, z, hlt1, h3, w1, decide_false, Bool.false_eq_true, if_false]
      exact e4.outer
  | succ k ih =>
    intro c hc hc2 l hw hl
    have z : c ≤ 122 := by omega
    have wc : IntKind.i32.wrap (c + 1) = c + 1 := i32_id (by omega) (by omega)
    obtain ⟨la, a1, a2, a3, a5, a4⟩ := nearStep l s (insL s i c) (by omega) hw (insz c)
    have hcb : bytesOfL [PV.sc (.int .u8 (IntKind.u8.wrap c))] = cbL c := rfl
    by_cases hlt : i < s.size
    · have hlt1 : (i : Int) < (s.size : Int) := by omega
      have hle1 : ((i + 1 : Nat) : Int) ≤ (s.size : Int) := by omega
      obtain ⟨lb, b1, b2, b3, b5, b4⟩ := nearStep la s (repL s i c) (by omega) a1 (repz c)
      obtain ⟨l', e1, e2, e3, e5, e4⟩ := ih (c + 1) (by omega) (by omega) lb b1 (by omega)
      refine ⟨l', e1, by omega, e3, fun c' p q r => ?_, Ev3.succ ?_⟩
      · by_cases hcc : c' = c
        · subst hcc
          rcases r with r | r
          · have := a5 r.1 r.2; omega
          · have := b5 r.2.1 r.2.2; omega
        · exact e5 c' (by omega) q r
      · unfold insL at a4; unfold repL at b4
        simp only [spec_l1Near.l2_eq, hcb, z, hlt1, hle, hle1, wc, w1, d1, d2, d3, nn, nat_int, decide_true, if_true]
        refine Ev3.bind a4 ?_
        simp only [headD_one]
        refine Ev3.bind b4 ?_
        simp only [headD_one]
        exact e4
    · have hlt1 : ¬ (i : Int) < (s.size : Int) := by omega
      obtain ⟨l', e1, e2, e3, e5, e4⟩ := ih (c + 1) (by omega) (by omega) la a1 (by omega)
      refine ⟨l', e1, by omega, e3, fun c' p q r => ?_, Ev3.succ ?_⟩
      · by_cases hcc : c' = c
        · subst hcc
          rcases r with r | r
          · have := a5 r.1 r.2; omega
          · exact absurd r.1 hlt
        · exact e5 c' (by omega) q r
      · unfold insL at a4
        simp only [spec_l1Near.l2_eq, hcb, z, hlt1, hle, wc, d1, d2, d3, nn, nat_int, decide_true, decide_false, Bool.false_eq_true, if_false, if_true]
        refine Ev3.bind a4 ?_
        simp only [headD_one]
        exact e4
theorem near_l3 (s : ByteArray) (hsw : s.size ≤ 12) (B : Nat) (hB : B < 1000000) : ∀ (d i : Nat), i + d = s.size + 1 → ∀ l, AllW l → l.length + 100 * d ≤ B →
    ∃ l', AllW l' ∧ l.length ≤ l'.length ∧ l'.length ≤ B ∧ Ev2 (fun N n => spec_l1Near.l3 N n s (i : Int) (strsP l)) [strsP l'] := by
  intro d
  induction d with
  | zero =>
    intro i hi l hw hl
    refine ⟨l, hw, Nat.le_refl _, by omega, Ev2.succ ?_⟩
    have z : ¬ (i : Int) ≤ (s.size : Int) := by omega
    simp only [spec_l1Near.l3_eq, z, decide_false, Bool.false_eq_true, if_false]
    exact Ev2.now _
  | succ d ih =>
    intro i hi l hw hl
    obtain ⟨l', h1, h2, h3, -, h4⟩ := near_after s hsw i (by omega) B hB (100 * d) (fun l0 hw0 hl0 => ih (i + 1) (by omega) l0 hw0 hl0) 26 97 (by omega) (by omega) l hw (by omega)
    refine ⟨l', h1, h2, h3, Ev2.succ ?_⟩
    have z : (i : Int) ≤ (s.size : Int) := by omega
    simp only [spec_l1Near.l3_eq, z, decide_true, if_true]
    exact h4.start
theorem near_l0 (s : ByteArray) (hsw : s.size ≤ 12) (B : Nat) (hB : B < 1000000) (i : Nat) (hi : i ≤ s.size) (l : List ByteArray) (hw : AllW l) (hl : l.length + 100 * 14 ≤ B) :
    ∃ l', AllW l' ∧ l'.length ≤ B ∧ (∀ c', 97 ≤ c' → c' ≤ 122 → goodL s i c' → 1 ≤ l'.length) ∧ Ev2 (fun N n => spec_l1Near.l0 N n s (i : Int) (l.map strP)) [strsP l'] := by
  have se : ∀ x y, (s.extract x y).size ≤ 12 := fun x y => by rw [ByteArray.size_extract]; omega
  have d2 : ∀ x y c, ((s.extract x y).size + (cbL c).size ≤ 9223372036854775807) = True := fun x y c => by
    have := se x y; have := cbL_size c; exact eq_true (by omega)
  have d3 : ∀ x y c z w, ((s.extract x y ++ cbL c).size + (s.extract z w).size ≤ 9223372036854775807) = True := fun x y c z w => by
    have := se x y; have := se z w; have := cbL_size c; rw [ByteArray.size_append]; exact eq_true (by omega)
  have w1 : IntKind.i64.wrap ((i : Int) + 1) = ((i + 1 : Nat) : Int) := by rw [wrap_id (by omega) (by omega)]; omega
  have hle : (i : Int) ≤ (s.size : Int) := by omega
  have insz : ∀ c, (insL s i c).size ≤ 1000 := fun c => by
    have := se 0 i; have := se i s.size; have := cbL_size c; unfold insL; rw [ByteArray.size_append, ByteArray.size_append]; omega
  have repz : ∀ c, (repL s i c).size ≤ 1000 := fun c => by
    have := se 0 i; have := se (i + 1) s.size; have := cbL_size c; unfold repL; rw [ByteArray.size_append, ByteArray.size_append]; omega
  have hcb : bytesOfL [PV.sc (.int .u8 (IntKind.u8.wrap 97))] = cbL 97 := rfl
  have z : (97 : Int) ≤ 122 := by omega
  have wc : IntKind.i32.wrap (97 + 1) = 98 := i32_id (by omega) (by omega)
  have wc' : IntKind.i32.wrap 98 = 98 := i32_id (by omega) (by omega)
  have hR := near_l3 s hsw B hB (s.size - i) (i + 1) (by omega)
  obtain ⟨la, a1, a2, a3, a5, a4⟩ := nearStep l s (insL s i 97) (by omega) hw (insz 97)
  have hl1 : PV.list (l.map strP) = strsP l := rfl
  by_cases hlt : i < s.size
  · have hlt1 : (i : Int) < (s.size : Int) := by omega
    have hle1 : ((i + 1 : Nat) : Int) ≤ (s.size : Int) := by omega
    obtain ⟨lb, b1, b2, b3, b5, b4⟩ := nearStep la s (repL s i 97) (by omega) a1 (repz 97)
    obtain ⟨l', e1, e2, e3, e5, e4⟩ := near_after s hsw i hi B hB (100 * (s.size - i)) hR 25 98 (by omega) (by omega) lb b1 (by omega)
    refine ⟨l', e1, e3, fun c' p q r => ?_, Ev2.succ ?_⟩
    · by_cases hcc : c' = 97
      · subst hcc
        rcases r with r | r
        · have := a5 r.1 r.2; omega
        · have := b5 r.2.1 r.2.2; omega
      · exact e5 c' (by omega) q r
    · simp only [spec_l1Near.l0_eq, hle, decide_true, if_true]
      refine Ev3.start (g := fun N m0 n => spec_l1Near.l1 N m0 n s (i : Int) 97 (l.map strP)) (Ev3.succ ?_)
      unfold insL at a4; unfold repL at b4
      simp only [spec_l1Near.l1_eq, hcb, hl1, z, hlt1, hle, hle1, wc, w1, d2, d3, nn, nat_int, decide_true, if_true]
      refine Ev3.bind a4 ?_
      simp only [headD_one]
      refine Ev3.bind b4 ?_
      simp only [headD_one, wc, wc', Int.reduceAdd]
      exact e4
  · have hlt1 : ¬ (i : Int) < (s.size : Int) := by omega
    obtain ⟨l', e1, e2, e3, e5, e4⟩ := near_after s hsw i hi B hB (100 * (s.size - i)) hR 25 98 (by omega) (by omega) la a1 (by omega)
    refine ⟨l', e1, e3, fun c' p q r => ?_, Ev2.succ ?_⟩
    · by_cases hcc : c' = 97
      · subst hcc
        rcases r with r | r
        · have := a5 r.1 r.2; omega
        · exact absurd r.1 hlt
      · exact e5 c' (by omega) q r
    · simp only [spec_l1Near.l0_eq, hle, decide_true, if_true]
      refine Ev3.start (g := fun N m0 n => spec_l1Near.l1 N m0 n s (i : Int) 97 (l.map strP)) (Ev3.succ ?_)
      unfold insL at a4
      simp only [spec_l1Near.l1_eq, hcb, hl1, z, hlt1, hle, wc, d2, d3, nn, nat_int, decide_true, decide_false, Bool.false_eq_true, if_false, if_true]
      refine Ev3.bind a4 ?_
      simp only [headD_one, wc, wc', Int.reduceAdd]
      exact e4
theorem bytes_app (a b : ByteArray) : bytesOf (a ++ b) = bytesOf a ++ bytesOf b := by simp [bytesOf, ByteArray.data_append]
theorem bytes_ext (s : ByteArray) (i j : Nat) : bytesOf (s.extract i j) = ((bytesOf s).drop i).take (j - i) := by
  unfold bytesOf
  rw [ByteArray.data_extract]
  simp [List.map_take, List.map_drop]
theorem cbL_bytes {c : Int} (h : 97 ≤ c ∧ c ≤ 122) : bytesOf (cbL c) = [c] := by
  have hw : IntKind.u8.wrap c = c := by
    have : IntKind.u8.wrap c = c % 256 := by simp [IntKind.wrap, IntKind.signed, IntKind.bits]
    rw [this]; omega
  have e : (cbL c).data.toList = [UInt8.ofNat c.toNat] := by simp [cbL, bytesOfL, hw, PV.toInt]
  unfold bytesOf
  rw [e]
  simp
  omega
theorem isWord_of {s : ByteArray} (h1 : 1 ≤ s.size) (h2 : s.size ≤ 12) (h3 : lowB (bytesOf s) = true) : isWord s = true := by
  have h4 : ((bytesOf s).all fun c => decide (97 ≤ c ∧ c ≤ 122)) = true := h3
  unfold isWord; rw [h4]; simp [h1, h2]
theorem word_parts {s : ByteArray} (h : isWord s = true) : 1 ≤ s.size ∧ s.size ≤ 12 ∧ lowB (bytesOf s) = true := by
  unfold isWord at h
  simp only [Bool.and_eq_true, decide_eq_true_eq] at h
  exact ⟨h.1.1, h.1.2, h.2⟩
theorem good_some {s : ByteArray} (h : isWord s = true) : ∃ c, 97 ≤ c ∧ c ≤ 122 ∧ goodL s 0 c := by
  obtain ⟨s1, s2, s3⟩ := word_parts h
  have hb : (bytesOf s).length = s.size := bytesOf_len s
  by_cases h12 : s.size < 12
  · have hins : bytesOf (insL s 0 97) = 97 :: bytesOf s := by
      unfold insL
      rw [bytes_app, bytes_app, bytes_ext, bytes_ext, cbL_bytes (by omega)]
      have : List.take (s.size - 0) (bytesOf s) = bytesOf s := List.take_of_length_le (by omega)
      simp [this, ← hb]
    have hz : (insL s 0 97).size = s.size + 1 := by rw [← bytesOf_len, hins, List.length_cons, hb]
    refine ⟨97, by omega, by omega, .inl ⟨fun e => by rw [e] at hz; omega, isWord_of (by omega) (by omega) ?_⟩⟩
    rw [hins, lowB_cons, s3]; rfl
  · match hs : bytesOf s, hb with
    | [], hb => simp at hb; omega
    | x :: r, hb =>
      have key : ∀ c, 97 ≤ c → c ≤ 122 → c ≠ x → goodL s 0 c := fun c c1 c2 hc => by
        have hrep : bytesOf (repL s 0 c) = c :: r := by
          unfold repL
          rw [bytes_app, bytes_app, bytes_ext, bytes_ext, cbL_bytes ⟨c1, c2⟩, hs]
          have hr : r.length + 1 = s.size := by simpa using hb
          have : List.take (s.size - (0 + 1)) r = r := List.take_of_length_le (by omega)
          simp [this]
        have hz : (repL s 0 c).size = s.size := by rw [← bytesOf_len, hrep, ← hb]; rfl
        refine .inr ⟨by omega, fun e => ?_, isWord_of (by omega) (by omega) ?_⟩
        · rw [e, hs] at hrep; exact hc (List.cons.inj hrep).1.symm
        · rw [hs, lowB_cons] at s3
          rw [hrep, lowB_cons]
          simp only [Bool.and_eq_true] at s3
          simp [s3.2, c1, c2]
      by_cases hx : (97 : Int) = x
      · exact ⟨98, by omega, by omega, key 98 (by omega) (by omega) (by omega)⟩
      · exact ⟨97, by omega, by omega, key 97 (by omega) (by omega) hx⟩
theorem near_ev {s : ByteArray} (h : isWord s = true) : ∃ l, AllW l ∧ 1 ≤ l.length ∧ l.length ≤ 2000 ∧ Ev (fun N => spec_l1Near.f N [strP s]) [strsP l] := by
  have hh := h
  unfold isWord at hh
  simp only [Bool.and_eq_true, decide_eq_true_eq] at hh
  obtain ⟨⟨s1, s2⟩, s3⟩ := hh
  obtain ⟨l', h1, h2, h3, h4⟩ := near_l0 s s2 2000 (by omega) 0 (by omega) [] (fun x hx => by simp at hx) (by simp)
  obtain ⟨c, c1, c2, c3⟩ := good_some h
  refine ⟨l', h1, h3 c c1 c2 c3, h2, ?_⟩
  simp only [spec_l1Near.f_eq, toStr_sc]
  exact h4.diag
/-- A drawn place in a list that is not empty. -/
theorem draw_place {b : PV} (hb : Code1 b) (p : Nat) (hp : p < 900000000) {l : List ByteArray} (hw : AllW l) (h1 : 1 ≤ l.length) (h2 : l.length ≤ 2000) :
    ∃ (k k' : Int) (t : ByteArray), isWord t = true ∧ (∀ N, spec_l1Rd_pick.f N [rdP b (p : Int), intP 256] = some [intP k, rdP b ((p + 1 : Nat) : Int)]) ∧ (∀ N, spec_l1Rd_pick.f N [rdP b ((p + 1 : Nat) : Int), intP 256] = some [intP k', rdP b ((p + 2 : Nat) : Int)]) ∧
      ((((strsP l).items).length : Int) = 0) = False ∧ (0 ≤ (Int.tmod (IntKind.i64.wrap ((IntKind.i64.wrap (k * 256)) + k')) (((strsP l).items).length : Int))) = True ∧ ((Int.tmod (IntKind.i64.wrap ((IntKind.i64.wrap (k * 256)) + k')) (((strsP l).items).length : Int)) < (((strsP l).items).length : Int)) = True ∧
      ((strsP l).elem ((Int.tmod (IntKind.i64.wrap ((IntKind.i64.wrap (k * 256)) + k')) (((strsP l).items).length : Int)).toNat)).toStr = t := by
  obtain ⟨k, hk, hf⟩ := pick_ev hb (p := (p : Int)) (n := 256) (by omega) (by omega)
  obtain ⟨k', hk', hf'⟩ := pick_ev hb (p := ((p + 1 : Nat) : Int)) (n := 256) (by omega) (by omega)
  have e1 : (p : Int) + 1 = ((p + 1 : Nat) : Int) := by omega
  have e2 : ((p + 1 : Nat) : Int) + 1 = ((p + 2 : Nat) : Int) := by omega
  rw [e1] at hf
  rw [e2] at hf'
  have w1 : IntKind.i64.wrap (k * 256) = k * 256 := wrap_id (by omega) (by omega)
  have w2 : IntKind.i64.wrap (k * 256 + k') = k * 256 + k' := wrap_id (by omega) (by omega)
  have ht := tmod_in (x := k * 256 + k') (n := (l.length : Int)) (by omega) (by omega)
  obtain ⟨j, hj⟩ := Int.eq_ofNat_of_zero_le ht.1
  have hjl : j < l.length := by omega
  refine ⟨k, k', l.getD j ByteArray.empty, ?_, hf, hf', ?_, ?_, ?_, ?_⟩
  · rw [List.getD_eq_getElem?_getD, List.getElem?_eq_getElem hjl]; exact hw _ (List.getElem_mem hjl)
  · rw [strs_len]; exact eq_false (by omega)
  · rw [strs_len, w1, w2]; exact eq_true ht.1
  · rw [strs_len, w1, w2]; exact eq_true ht.2
  · rw [strs_len, w1, w2, hj, strs_elem, nat_int]
theorem other_ev {b : PV} (hb : Code1 b) (p : Nat) (hp : p < 700000000) (s : ByteArray) (hs : s.size ≤ 1000) : ∃ (r : ByteArray) (q : Nat), q ≤ p + 20 ∧ r.size ≤ 13 ∧ Ev (fun N => spec_l13Other.f N [rdP b (p : Int), strP s]) [strP r, rdP b (q : Int)] := by
  simp only [spec_l13Other.f_eq, rd_f0, rd_f1, rd_agg, toStr_sc, toInt_sc]
  by_cases hw : isWord s = true
  · obtain ⟨k, hk, hf⟩ := pick_ev hb (p := (p : Int)) (n := 2) (by omega) (by omega)
    have e1 : (p : Int) + 1 = ((p + 1 : Nat) : Int) := by omega
    rw [e1] at hf
    by_cases k0 : k = 0
    · obtain ⟨l, l1, l2, l3, l4⟩ := near_ev hw
      obtain ⟨a, a', t, ht, f1, f2, x1, x2, x3, x4⟩ := draw_place hb (p + 1) (by omega) l1 l2 l3
      obtain ⟨m, hm, hg⟩ := pick_ev hb (p := ((p + 1 + 2 : Nat) : Int)) (n := 3) (by omega) (by omega)
      have e2 : ((p + 1 + 2 : Nat) : Int) + 1 = ((p + 4 : Nat) : Int) := by omega
      rw [e2] at hg
      obtain ⟨t1, t2, t3⟩ := word_parts ht
      by_cases m0 : m = 0
      · obtain ⟨l', m1, m2, m3, m4⟩ := near_ev ht
        obtain ⟨c, c', u, hu, g1, g2, y1, y2, y3, y4⟩ := draw_place hb (p + 4) (by omega) m1 m2 m3
        obtain ⟨u1, u2, u3⟩ := word_parts hu
        refine ⟨u, p + 4 + 2, by omega, by omega, ?_⟩
        refine Ev.bind (specWord_ev s (by omega)) ?_
        simp only [hw, hf, k0, headD_one, toBool_sc, toInt_sc, List.headD_cons, List.tail_cons, rd_f0, rd_f1, Option.bind_some, decide_true, if_true]
        refine Ev.bind l4 ?_
        simp only [f1, f2, x1, x2, x3, x4, hg, m0, headD_one, toBool_sc, toInt_sc, List.headD_cons, List.tail_cons, rd_f0, rd_f1, Option.bind_some, decide_true, if_true, if_false]
        refine Ev.bind m4 ?_
        simp only [g1, g2, y1, y2, y3, y4, headD_one, toBool_sc, toInt_sc, List.headD_cons, List.tail_cons, rd_f0, rd_f1, Option.bind_some, decide_true, if_true, if_false]
        exact Ev.now _
      · refine ⟨t, p + 4, by omega, by omega, ?_⟩
        refine Ev.bind (specWord_ev s (by omega)) ?_
        simp only [hw, hf, k0, headD_one, toBool_sc, toInt_sc, List.headD_cons, List.tail_cons, rd_f0, rd_f1, Option.bind_some, decide_true, if_true]
        refine Ev.bind l4 ?_
        simp only [f1, f2, x1, x2, x3, x4, hg, m0, headD_one, toBool_sc, toInt_sc, List.headD_cons, List.tail_cons, rd_f0, rd_f1, Option.bind_some, decide_true, decide_false, Bool.false_eq_true, if_true, if_false]
        exact Ev.now _
    · obtain ⟨r, q, h1, h2, h3⟩ := anyWord_ev hb (p + 1) (by omega)
      refine ⟨r, q, by omega, h2, ?_⟩
      refine Ev.bind (specWord_ev s (by omega)) ?_
      simp only [hw, hf, k0, headD_one, toBool_sc, toInt_sc, List.headD_cons, List.tail_cons, rd_f0, rd_f1, Option.bind_some, decide_true, decide_false, Bool.false_eq_true, if_true, if_false]
      refine Ev.bind h3 ?_
      simp only [headD_one, toStr_sc, List.headD_cons, List.tail_cons, rd_f1, toInt_sc]
      exact Ev.now _
  · obtain ⟨r, q, h1, h2, h3⟩ := anyWord_ev hb p (by omega)
    refine ⟨r, q, by omega, h2, ?_⟩
    refine Ev.bind (specWord_ev s (by omega)) ?_
    simp only [Bool.not_eq_true] at hw
    simp only [hw, headD_one, toBool_sc, Bool.false_eq_true, if_false]
    refine Ev.bind h3 ?_
    simp only [headD_one, toStr_sc, List.headD_cons, List.tail_cons, rd_f1, toInt_sc]
    exact Ev.now _
theorem weighM_sym (a b : ByteArray) : weighM a b = weighM b a := by
  unfold weighM
  by_cases h : isWord a = true ∧ isWord b = true
  · rw [if_pos h, if_pos ⟨h.2, h.1⟩]
    exact wf_sym (fun i k => farK_sym _ _) _ _
  · rw [if_neg h, if_neg (fun h' => h ⟨h'.2, h'.1⟩)]
theorem bt_low {a : ByteArray} (h : lowB (bytesOf a) = true) {i : Nat} (hi : i < a.size) : 97 ≤ bt a i ∧ bt a i ≤ 122 := by
  have := List.all_eq_true.1 h (bt a i) (by
    rw [bt_bytes, List.getD_eq_getElem?_getD]
    have hl : i < (bytesOf a).length := by rw [bytesOf_len]; exact hi
    rw [List.getElem?_eq_getElem hl]; exact List.getElem_mem hl)
  simpa using this
theorem weighM_zero {a b : ByteArray} (h : 0 ≤ weighM a b) : a.size ≤ 12 ∧ b.size ≤ 12 ∧ weighM a b ≤ 4 * (max a.size b.size : Nat) ∧ (weighM a b = 0 ↔ a = b) := by
  unfold weighM at h ⊢
  by_cases hc : isWord a = true ∧ isWord b = true
  · rw [if_pos hc]
    obtain ⟨a1, a2, a3⟩ := word_size hc.1
    obtain ⟨b1, b2, b3⟩ := word_size hc.2
    refine ⟨a2, b2, (wf_in (fW_in a b) _ _).2, fun h0 => ?_, fun h0 => ?_⟩
    · obtain ⟨e1, e2⟩ := wf_nil (fW_in a b) _ _ h0
      apply bytesOf_inj
      apply List.ext_getElem?
      intro j
      by_cases hj : j < a.size
      · have h1 := e2 j hj
        have h2 := keyRow_inj (bt_low a3 hj) (bt_low b3 (by omega)) (farK_zero.1 h1)
        rw [bt_bytes, bt_bytes, List.getD_eq_getElem?_getD, List.getD_eq_getElem?_getD] at h2
        have l1 : j < (bytesOf a).length := by rw [bytesOf_len]; exact hj
        have l2 : j < (bytesOf b).length := by rw [bytesOf_len]; omega
        rw [List.getElem?_eq_getElem l1, List.getElem?_eq_getElem l2] at h2 ⊢
        simpa using h2
      · rw [List.getElem?_eq_none (by rw [bytesOf_len]; omega), List.getElem?_eq_none (by rw [bytesOf_len]; omega)]
    · subst h0
      exact wf_same (fW_in a a) _ (fun j _ => farK_zero.2 rfl)
  · rw [if_neg hc] at h; omega
/-- The law's own function answers true. -/
theorem law (ps : List PV) (h : PvOkL (PvOk Tryd.prog 8) [24] ps) : ∃ N, laws_FnWeighFar.f N ps = some [boolP true] := by
  obtain ⟨l, rfl, hby⟩ := code_args (P := Tryd.prog) (t := 24) (e := 5) (by kernel_rfl) (by kernel_rfl) h
  refine Ev.some ?_
  simp only [laws_FnWeighFar.f_eq, items_list]
  by_cases hl : (1048576 : Int) < (l.length : Int)
  · simp only [hl, strs_len, strs_elem, ints_len, ints_elem, items_list, fld_agg, elem_list, toStr_sc, toInt_sc, toBool_sc, headD_one, nat_int, get_bt, decide_eq_true_eq, decide_eq_false_iff_not, decide_true, decide_false, if_true, if_false, ite_self, Bool.not_true, Bool.not_false, Bool.false_eq_true, Bool.true_eq_false, Bool.true_and, Bool.false_and, Bool.and_true, Bool.and_false, not_true, not_false_iff, Option.bind_some, nn, toList_inj, Bool.not_eq_true', Bool.not_eq_false', Int.le_refl, and_self, true_and, and_true, false_and, and_false, bne_self_eq_false, beq_self_eq_true, Int.reduceEq, Nat.reduceEqDiff, List.length_singleton, List.tail_cons, Int.reduceLE, Int.reduceLT, decide_eq_true_eq]; exact Ev.now _
  obtain ⟨bb, hb, hopen⟩ := open_ev (l := l) (by omega) hby
  obtain ⟨a, q, hq, ha, hf1⟩ := anyWord_ev hb 0 (by omega)
  obtain ⟨b, q2, hq2, hb2, hf2⟩ := other_ev hb q (by omega) a (by omega)
  have hdraw : Ev (fun N => spec_DrawWeighFar.f N [PV.list l]) [strP a, strP b] := by
    simp only [spec_DrawWeighFar.f_eq]
    refine Ev.bind (s := [strP a, strP b]) ?_ (by simp only [headD_one, toStr_sc, List.headD_cons, List.tail_cons]; exact Ev.now _)
    simp only [spec_DrawFar.f_eq, hopen, headD_one, rd_f0, rd_f1, rd_agg, toInt_sc, Option.bind_some]
    refine Ev.bind hf1 ?_
    simp only [headD_one, toStr_sc, List.headD_cons, List.tail_cons, rd_f1, rd_agg, toInt_sc]
    refine Ev.bind hf2 ?_
    simp only [headD_one, toStr_sc, List.headD_cons, List.tail_cons]
    exact Ev.now _
  have i1 := implWeigh_ev a b (by omega) (by omega)
  have i2 := implWeigh_ev b a (by omega) (by omega)
  have p1 := specWeigh_ev a b (by omega) (by omega)
  have hsym := weighM_sym b a
  rw [hsym] at i2
  simp only [hl, decide_false, Bool.false_eq_true, if_false]
  refine Ev.bind hdraw ?_
  simp only [toStr_sc, List.headD_cons, List.tail_cons]
  refine Ev.bind i1 ?_
  refine Ev.bind p1 ?_
  by_cases hn : weighM a b < 0
  · simp only [hn, strs_len, strs_elem, ints_len, ints_elem, items_list, fld_agg, elem_list, toStr_sc, toInt_sc, toBool_sc, headD_one, nat_int, get_bt, decide_eq_true_eq, decide_eq_false_iff_not, decide_true, decide_false, if_true, if_false, ite_self, Bool.not_true, Bool.not_false, Bool.false_eq_true, Bool.true_eq_false, Bool.true_and, Bool.false_and, Bool.and_true, Bool.and_false, not_true, not_false_iff, Option.bind_some, nn, toList_inj, Bool.not_eq_true', Bool.not_eq_false', Int.le_refl, and_self, true_and, and_true, false_and, and_false, bne_self_eq_false, beq_self_eq_true, Int.reduceEq, Nat.reduceEqDiff, List.length_singleton, List.tail_cons, Int.reduceLE, Int.reduceLT, decide_eq_true_eq]
    refine Ev.bind p1 ?_
    simp only [strs_len, strs_elem, ints_len, ints_elem, items_list, fld_agg, elem_list, toStr_sc, toInt_sc, toBool_sc, headD_one, nat_int, get_bt, decide_eq_true_eq, decide_eq_false_iff_not, decide_true, decide_false, if_true, if_false, ite_self, Bool.not_true, Bool.not_false, Bool.false_eq_true, Bool.true_eq_false, Bool.true_and, Bool.false_and, Bool.and_true, Bool.and_false, not_true, not_false_iff, Option.bind_some, nn, toList_inj, Bool.not_eq_true', Bool.not_eq_false', Int.le_refl, and_self, true_and, and_true, false_and, and_false, bne_self_eq_false, beq_self_eq_true, Int.reduceEq, Nat.reduceEqDiff, List.length_singleton, List.tail_cons, Int.reduceLE, Int.reduceLT, decide_eq_true_eq]
    exact Ev.now _
  · obtain ⟨z1, z2, z3, z4⟩ := weighM_zero (show 0 ≤ weighM a b by omega)
    have hx : (decide (weighM a b = 0) == decide (a = b)) = true := by
      by_cases h : a = b
      · rw [decide_eq_true h, decide_eq_true (z4.2 h)]; rfl
      · rw [decide_eq_false h, decide_eq_false (fun h' => h (z4.1 h'))]; rfl
    have w1 : IntKind.i64.wrap (4 * (a.size : Int)) = 4 * (a.size : Int) := wrap_id (by omega) (by omega)
    have w2 : IntKind.i64.wrap (4 * (b.size : Int)) = 4 * (b.size : Int) := wrap_id (by omega) (by omega)
    by_cases hlt : (a.size : Int) < (b.size : Int)
    · have hle : weighM a b ≤ 4 * (b.size : Int) := by omega
      simp only [hn, hlt, strs_len, strs_elem, ints_len, ints_elem, items_list, fld_agg, elem_list, toStr_sc, toInt_sc, toBool_sc, headD_one, nat_int, get_bt, decide_eq_true_eq, decide_eq_false_iff_not, decide_true, decide_false, if_true, if_false, ite_self, Bool.not_true, Bool.not_false, Bool.false_eq_true, Bool.true_eq_false, Bool.true_and, Bool.false_and, Bool.and_true, Bool.and_false, not_true, not_false_iff, Option.bind_some, nn, toList_inj, Bool.not_eq_true', Bool.not_eq_false', Int.le_refl, and_self, true_and, and_true, false_and, and_false, bne_self_eq_false, beq_self_eq_true, Int.reduceEq, Nat.reduceEqDiff, List.length_singleton, List.tail_cons, Int.reduceLE, Int.reduceLT, decide_eq_true_eq]
      refine Ev.bind i2 ?_
      simp only [w2, hle, strs_len, strs_elem, ints_len, ints_elem, items_list, fld_agg, elem_list, toStr_sc, toInt_sc, toBool_sc, headD_one, nat_int, get_bt, decide_eq_true_eq, decide_eq_false_iff_not, decide_true, decide_false, if_true, if_false, ite_self, Bool.not_true, Bool.not_false, Bool.false_eq_true, Bool.true_eq_false, Bool.true_and, Bool.false_and, Bool.and_true, Bool.and_false, not_true, not_false_iff, Option.bind_some, nn, toList_inj, Bool.not_eq_true', Bool.not_eq_false', Int.le_refl, and_self, true_and, and_true, false_and, and_false, bne_self_eq_false, beq_self_eq_true, Int.reduceEq, Nat.reduceEqDiff, List.length_singleton, List.tail_cons, Int.reduceLE, Int.reduceLT, decide_eq_true_eq]
      exact Ev.congr (fun _ => if_pos hx) (Ev.now _)
    · have hle : weighM a b ≤ 4 * (a.size : Int) := by omega
      simp only [hn, hlt, strs_len, strs_elem, ints_len, ints_elem, items_list, fld_agg, elem_list, toStr_sc, toInt_sc, toBool_sc, headD_one, nat_int, get_bt, decide_eq_true_eq, decide_eq_false_iff_not, decide_true, decide_false, if_true, if_false, ite_self, Bool.not_true, Bool.not_false, Bool.false_eq_true, Bool.true_eq_false, Bool.true_and, Bool.false_and, Bool.and_true, Bool.and_false, not_true, not_false_iff, Option.bind_some, nn, toList_inj, Bool.not_eq_true', Bool.not_eq_false', Int.le_refl, and_self, true_and, and_true, false_and, and_false, bne_self_eq_false, beq_self_eq_true, Int.reduceEq, Nat.reduceEqDiff, List.length_singleton, List.tail_cons, Int.reduceLE, Int.reduceLT, decide_eq_true_eq]
      refine Ev.bind i2 ?_
      simp only [w1, hle, strs_len, strs_elem, ints_len, ints_elem, items_list, fld_agg, elem_list, toStr_sc, toInt_sc, toBool_sc, headD_one, nat_int, get_bt, decide_eq_true_eq, decide_eq_false_iff_not, decide_true, decide_false, if_true, if_false, ite_self, Bool.not_true, Bool.not_false, Bool.false_eq_true, Bool.true_eq_false, Bool.true_and, Bool.false_and, Bool.and_true, Bool.and_false, not_true, not_false_iff, Option.bind_some, nn, toList_inj, Bool.not_eq_true', Bool.not_eq_false', Int.le_refl, and_self, true_and, and_true, false_and, and_false, bne_self_eq_false, beq_self_eq_true, Int.reduceEq, Nat.reduceEqDiff, List.length_singleton, List.tail_cons, Int.reduceLE, Int.reduceLT, decide_eq_true_eq]
      exact Ev.congr (fun _ => if_pos hx) (Ev.now _)
end Go.Proofs.YtgahfbbhnkcnfaaDoor.FnWeighFar
