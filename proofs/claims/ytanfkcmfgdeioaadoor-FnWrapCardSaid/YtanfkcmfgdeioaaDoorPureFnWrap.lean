/- The law FnWrap, over the trees that its functions compute: it answers true, for all arguments of the bounds that the row grants. -/
import Derived.Test.YtanfkcmfgdeioaaDoorFnFnWrapx1
set_option linter.unusedVariables false
set_option linter.unusedSimpArgs false
set_option maxRecDepth 10000
namespace Go.Proofs.YtanfkcmfgdeioaaDoor.FnWrap
open Go Go.Proofs.YtanfkcmfgdeioaaDoorAm
/-! #### the reader of a code -/
def rdP (b : PV) (p : Int) : PV := .agg [b, intP p]
theorem rd_f0 (b : PV) (p : Int) : (rdP b p).fld 0 = b := rfl
theorem rd_f1 (b : PV) (p : Int) : (rdP b p).fld 1 = intP p := rfl
theorem rd_agg (b : PV) (p : Int) : PV.agg [b, PV.sc (.int .i64 p)] = rdP b p := rfl
/-- A code: so many bytes. -/
structure Code1 (b : PV) : Prop where
  len : b.items.length ≤ 2000
  byte : ∀ j, 0 ≤ (b.elem j).toInt ∧ (b.elem j).toInt ≤ 255
theorem bXor_pos {a b : Int} (ha : 0 ≤ a ∧ a < 9223372036854775808) (hb : 0 ≤ b ∧ b < 9223372036854775808) : 0 ≤ bXor .i64 a b := by
  obtain ⟨x, rfl⟩ := Int.eq_ofNat_of_zero_le ha.1
  obtain ⟨y, rfl⟩ := Int.eq_ofNat_of_zero_le hb.1
  have hx : x < 2 ^ 63 := by omega
  have hy : y < 2 ^ 63 := by omega
  have h : (BitVec.ofInt (IntKind.bits .i64) (x : Int) ^^^ BitVec.ofInt (IntKind.bits .i64) (y : Int)).toNat = x ^^^ y := by
    rw [BitVec.toNat_xor, BitVec.toNat_ofInt, BitVec.toNat_ofInt]
    have hx2 : ((x : Int) % ((2 ^ IntKind.i64.bits : Nat) : Int)).toNat = x := by
      have : ((2 ^ IntKind.i64.bits : Nat) : Int) = 18446744073709551616 := rfl
      rw [this]; omega
    have hy2 : ((y : Int) % ((2 ^ IntKind.i64.bits : Nat) : Int)).toNat = y := by
      have : ((2 ^ IntKind.i64.bits : Nat) : Int) = 18446744073709551616 := rfl
      rw [this]; omega
    rw [hx2, hy2]
  have hlt : x ^^^ y < 2 ^ 63 := Nat.xor_lt_two_pow hx hy
  unfold bXor
  rw [h, wrap_id (by omega) (by omega)]
  omega
theorem tmod_in {x n : Int} (hx : 0 ≤ x) (hn : 1 ≤ n) : 0 ≤ Int.tmod x n ∧ Int.tmod x n < n := by
  rw [Int.tmod_eq_emod_of_nonneg hx]
  exact ⟨Int.emod_nonneg _ (by omega), Int.emod_lt_of_pos _ (by omega)⟩
theorem tdiv_in {x n : Int} (hx : 0 ≤ x) (hn : 1 ≤ n) : 0 ≤ Int.tdiv x n ∧ Int.tdiv x n ≤ x := by
  rw [Int.tdiv_eq_ediv_of_nonneg hx]
  exact ⟨Int.ediv_nonneg hx (by omega), Int.ediv_le_self _ hx⟩
theorem pick_ev {b : PV} (hb : Code1 b) {p n : Int} (hp : 0 ≤ p ∧ p < 1000000000) (hn : 1 ≤ n ∧ n < 4611686018427387904) : ∃ k, (0 ≤ k ∧ k < n) ∧ ∀ N, spec_l1Rd_pick.f N [rdP b p, intP n] = some [intP k, rdP b (p + 1)] := by
  have hlen := hb.len
  have h0 : ¬ n < 1 := by omega
  have h00 : ¬ n = 0 := by omega
  have w1 : IntKind.i64.wrap (p + 1) = p + 1 := wrap_id (by omega) (by omega)
  have w2 : IntKind.i64.wrap (p + 1 - 1) = p := by rw [wrap_id (by omega) (by omega)]; omega
  by_cases hz : (b.items.length : Int) = 0
  · refine ⟨0, by omega, fun N => ?_⟩
    simp only [spec_l1Rd_pick.f_eq, rd_f0, rd_f1, h0, hz, w1, strs_len, strs_elem, ints_len, ints_elem, items_list, fld_agg, elem_list, toStr_sc, toInt_sc, toBool_sc, headD_one, nat_int, get_bt, decide_eq_true_eq, decide_eq_false_iff_not, decide_true, decide_false, if_true, if_false, ite_self, Bool.not_true, Bool.not_false, Bool.false_eq_true, Bool.true_eq_false, Bool.true_and, Bool.false_and, Bool.and_true, Bool.and_false, not_true, not_false_iff, Option.bind_some, nn, toList_inj, Bool.not_eq_true', Bool.not_eq_false', Int.le_refl, and_self, true_and, and_true, false_and, and_false, bne_self_eq_false, beq_self_eq_true, Int.reduceEq, Nat.reduceEqDiff, List.length_singleton, List.tail_cons, Int.reduceLE, Int.reduceLT, decide_eq_true_eq]
    rfl
  by_cases hlt : p < (b.items.length : Int)
  · have hby := hb.byte p.toNat
    have w3 : IntKind.i64.wrap ((b.elem p.toNat).toInt) = (b.elem p.toNat).toInt := wrap_id (by omega) (by omega)
    refine ⟨Int.tmod ((b.elem p.toNat).toInt) n, tmod_in hby.1 hn.1, fun N => ?_⟩
    simp only [spec_l1Rd_pick.f_eq, rd_f0, rd_f1, h0, h00, hz, hlt, hp.1, w1, w2, w3, strs_len, strs_elem, ints_len, ints_elem, items_list, fld_agg, elem_list, toStr_sc, toInt_sc, toBool_sc, headD_one, nat_int, get_bt, decide_eq_true_eq, decide_eq_false_iff_not, decide_true, decide_false, if_true, if_false, ite_self, Bool.not_true, Bool.not_false, Bool.false_eq_true, Bool.true_eq_false, Bool.true_and, Bool.false_and, Bool.and_true, Bool.and_false, not_true, not_false_iff, Option.bind_some, nn, toList_inj, Bool.not_eq_true', Bool.not_eq_false', Int.le_refl, and_self, true_and, and_true, false_and, and_false, bne_self_eq_false, beq_self_eq_true, Int.reduceEq, Nat.reduceEqDiff, List.length_singleton, List.tail_cons, Int.reduceLE, Int.reduceLT, decide_eq_true_eq]
    rfl
  · have hm : 1 ≤ (b.items.length : Int) := by omega
    have w4 : IntKind.i64.wrap (p * 7) = p * 7 := wrap_id (by omega) (by omega)
    have w5 : IntKind.i64.wrap (p * 7 + 3) = p * 7 + 3 := wrap_id (by omega) (by omega)
    have w6 : IntKind.i64.wrap (p * 29) = p * 29 := wrap_id (by omega) (by omega)
    have m1 := tmod_in (x := p) hp.1 hm
    have m2 := tmod_in (x := p * 7 + 3) (by omega) hm
    have q1 := tdiv_in (x := p) hp.1 hm
    have w7 : IntKind.i64.wrap (Int.tdiv p (b.items.length : Int)) = Int.tdiv p (b.items.length : Int) := wrap_id (by omega) (by omega)
    have w8 : IntKind.i64.wrap (Int.tdiv p (b.items.length : Int) * 53) = Int.tdiv p (b.items.length : Int) * 53 := wrap_id (by omega) (by omega)
    have e1 := hb.byte (Int.tmod p (b.items.length : Int)).toNat
    have e2 := hb.byte (Int.tmod (p * 7 + 3) (b.items.length : Int)).toNat
    have z64 : ((64 : Int) = 0) = False := by simp
    simp only [spec_l1Rd_pick.f_eq, rd_f0, rd_f1, h0, h00, hz, hlt, hp.1, w1, w2, w4, w5, w6, w7, w8, m1, m2, z64, strs_len, strs_elem, ints_len, ints_elem, items_list, fld_agg, elem_list, toStr_sc, toInt_sc, toBool_sc, headD_one, nat_int, get_bt, decide_eq_true_eq, decide_eq_false_iff_not, decide_true, decide_false, if_true, if_false, ite_self, Bool.not_true, Bool.not_false, Bool.false_eq_true, Bool.true_eq_false, Bool.true_and, Bool.false_and, Bool.and_true, Bool.and_false, not_true, not_false_iff, Option.bind_some, nn, toList_inj, Bool.not_eq_true', Bool.not_eq_false', Int.le_refl, and_self, true_and, and_true, false_and, and_false, bne_self_eq_false, beq_self_eq_true, Int.reduceEq, Nat.reduceEqDiff, List.length_singleton, List.tail_cons, Int.reduceLE, Int.reduceLT, decide_eq_true_eq]
    generalize (b.elem (Int.tmod p (b.items.length : Int)).toNat).toInt = x1 at e1 ⊢
    generalize (b.elem (Int.tmod (p * 7 + 3) (b.items.length : Int)).toNat).toInt = x2 at e2 ⊢
    generalize Int.tdiv p (b.items.length : Int) = d at q1 ⊢
    have v1 : IntKind.i64.wrap x1 = x1 := wrap_id (by omega) (by omega)
    have v2 : IntKind.i64.wrap x2 = x2 := wrap_id (by omega) (by omega)
    have v3 : IntKind.i64.wrap (x1 * 131) = x1 * 131 := wrap_id (by omega) (by omega)
    have v4 : IntKind.i64.wrap (x2 * 1117) = x2 * 1117 := wrap_id (by omega) (by omega)
    have v5 : IntKind.i64.wrap (x1 * 131 + x2 * 1117) = x1 * 131 + x2 * 1117 := wrap_id (by omega) (by omega)
    have v6 : IntKind.i64.wrap (x1 * 131 + x2 * 1117 + p * 29) = x1 * 131 + x2 * 1117 + p * 29 := wrap_id (by omega) (by omega)
    have v7 : IntKind.i64.wrap (x1 * 131 + x2 * 1117 + p * 29 + d * 53) = x1 * 131 + x2 * 1117 + p * 29 + d * 53 := wrap_id (by omega) (by omega)
    simp only [v1, v2, v3, v4, v5, v6, v7]
    generalize hy : x1 * 131 + x2 * 1117 + p * 29 + d * 53 = y
    have hyb : 0 ≤ y ∧ y < 1000000000000 := by omega
    have q2 := tdiv_in (x := y) (n := 64) hyb.1 (by omega)
    have v8 : IntKind.i64.wrap (Int.tdiv y 64) = Int.tdiv y 64 := wrap_id (by omega) (by omega)
    rw [v8]
    exact ⟨Int.tmod (bXor .i64 y (Int.tdiv y 64)) n, tmod_in (bXor_pos (by omega) (by omega)) hn.1, fun N => rfl⟩
theorem of_ev {b : PV} (hb : Code1 b) {p : Int} (hp : 0 ≤ p ∧ p < 1000000000) (l : List ByteArray) (hl : 1 ≤ l.length ∧ l.length < 4611686018427387904) : ∃ s ∈ l, ∀ N, spec_l1Rd_of.f N [rdP b p, strsP l] = some [strP s, rdP b (p + 1)] := by
  obtain ⟨k, hk, hf⟩ := pick_ev hb hp (n := (l.length : Int)) (by omega)
  obtain ⟨j, rfl⟩ := Int.eq_ofNat_of_zero_le hk.1
  have hj : j < l.length := by omega
  refine ⟨l.getD j ByteArray.empty, ?_, fun N => ?_⟩
  · rw [List.getD_eq_getElem?_getD, List.getElem?_eq_getElem hj]; exact List.getElem_mem hj
  · simp only [spec_l1Rd_of.f_eq, rd_f0, rd_f1, rd_agg, hf, hk, strs_len, strs_elem, ints_len, ints_elem, items_list, fld_agg, elem_list, toStr_sc, toInt_sc, toBool_sc, headD_one, nat_int, get_bt, decide_eq_true_eq, decide_eq_false_iff_not, decide_true, decide_false, if_true, if_false, ite_self, Bool.not_true, Bool.not_false, Bool.false_eq_true, Bool.true_eq_false, Bool.true_and, Bool.false_and, Bool.and_true, Bool.and_false, not_true, not_false_iff, Option.bind_some, nn, toList_inj, Bool.not_eq_true', Bool.not_eq_false', Int.le_refl, and_self, true_and, and_true, false_and, and_false, bne_self_eq_false, beq_self_eq_true, Int.reduceEq, Nat.reduceEqDiff, List.length_singleton, List.tail_cons, Int.reduceLE, Int.reduceLT, decide_eq_true_eq]
theorem open_ev {l : List PV} (hl : l.length ≤ 1048576) (hby : ∀ j, 0 ≤ ((PV.list l).elem j).toInt ∧ ((PV.list l).elem j).toInt ≤ 255) : ∃ b, Code1 b ∧ ∀ N, spec_l1Open.f N [PV.list l] = some [rdP b 0] := by
  by_cases h : (2000 : Int) < (l.length : Int)
  · refine ⟨PV.list (l.take 2000), ⟨by simp [PV.items]; omega, fun j => ?_⟩, fun N => ?_⟩
    · rw [elem_list, List.getD_eq_getElem?_getD, List.getElem?_take]
      have := hby j
      rw [elem_list, List.getD_eq_getElem?_getD] at this
      split
      · exact this
      · exact ⟨Int.le_refl _, by decide⟩
    · have h2 : (2000 : Int) ≤ (l.length : Int) := by omega
      simp only [spec_l1Open.f_eq, h, h2, strs_len, strs_elem, ints_len, ints_elem, items_list, fld_agg, elem_list, toStr_sc, toInt_sc, toBool_sc, headD_one, nat_int, get_bt, decide_eq_true_eq, decide_eq_false_iff_not, decide_true, decide_false, if_true, if_false, ite_self, Bool.not_true, Bool.not_false, Bool.false_eq_true, Bool.true_eq_false, Bool.true_and, Bool.false_and, Bool.and_true, Bool.and_false, not_true, not_false_iff, Option.bind_some, nn, toList_inj, Bool.not_eq_true', Bool.not_eq_false', Int.le_refl, and_self, true_and, and_true, false_and, and_false, bne_self_eq_false, beq_self_eq_true, Int.reduceEq, Nat.reduceEqDiff, List.length_singleton, List.tail_cons, Int.reduceLE, Int.reduceLT, decide_eq_true_eq]
      rfl
  · refine ⟨PV.list l, ⟨by simp [PV.items]; omega, hby⟩, fun N => ?_⟩
    simp only [spec_l1Open.f_eq, h, strs_len, strs_elem, ints_len, ints_elem, items_list, fld_agg, elem_list, toStr_sc, toInt_sc, toBool_sc, headD_one, nat_int, get_bt, decide_eq_true_eq, decide_eq_false_iff_not, decide_true, decide_false, if_true, if_false, ite_self, Bool.not_true, Bool.not_false, Bool.false_eq_true, Bool.true_eq_false, Bool.true_and, Bool.false_and, Bool.and_true, Bool.and_false, not_true, not_false_iff, Option.bind_some, nn, toList_inj, Bool.not_eq_true', Bool.not_eq_false', Int.le_refl, and_self, true_and, and_true, false_and, and_false, bne_self_eq_false, beq_self_eq_true, Int.reduceEq, Nat.reduceEqDiff, List.length_singleton, List.tail_cons, Int.reduceLE, Int.reduceLT, decide_eq_true_eq]
    rfl
theorem code_args {P : Program} {t e : TypeId} (ht : tk P t = .slice e) (he : tk P e = .int .u8) {ps : List PV} (h : PvOkL (PvOk P 8) [t] ps) : ∃ l, ps = [PV.list l] ∧ ∀ j, 0 ≤ ((PV.list l).elem j).toInt ∧ ((PV.list l).elem j).toInt ≤ 255 := by
  obtain ⟨p, rfl, h1⟩ := pvOkL1 h
  obtain ⟨l, rfl, _, h3⟩ := pvOk_slice ht h1
  refine ⟨l, rfl, fun j => ?_⟩
  rw [elem_list, List.getD_eq_getElem?_getD]
  cases hj : l[j]? with
  | none => exact ⟨Int.le_refl _, by decide⟩
  | some q =>
    obtain ⟨x, rfl, hx⟩ := pvOk_int he (h3 q (List.mem_of_getElem? hj))
    simp [Lit.wf, IntKind.min, IntKind.max, IntKind.signed, IntKind.bits] at hx
    simp [PV.toInt]; omega
theorem Ev2.bind2 {α β : Type} {r : α} {s : β} {g : Nat → Nat → Option β} {f : Nat → Nat → β → Option α} (h : Ev2 g s) (k : Ev2 (fun N n => f N n s) r) : Ev2 (fun N n => (g N n).bind (f N n)) r := by
  obtain ⟨k1, h1⟩ := h; obtain ⟨k2, h2⟩ := k
  exact ⟨max k1 k2, fun N n hN hn => by
    show (g N n).bind (f N n) = _
    rw [h1 N n (by omega) (by omega), Option.bind_some]; exact h2 N n (by omega) (by omega)⟩
theorem nat_wrap {n : Int} {m : Nat} (h : n = (m : Int)) (hm : m < 9223372036854775808) : IntKind.i64.wrap n = (m : Int) := by
  rw [h, wrap_id (by omega) (by omega)]
theorem lt_int {a b : Nat} (h : a < b) : (a : Int) < (b : Int) := Int.ofNat_lt.2 h
theorem le_int {a b : Nat} (h : a ≤ b) : (a : Int) ≤ (b : Int) := Int.ofNat_le.2 h
/-! #### words -/
def isWord (s : ByteArray) : Bool := decide (1 ≤ s.size ∧ s.size ≤ 12) && (bytesOf s).all fun c => decide (97 ≤ c ∧ c ≤ 122)
def lowB (l : List Int) : Bool := l.all fun c => decide (97 ≤ c ∧ c ≤ 122)
theorem lowB_cons (c : Int) (l : List Int) : lowB (c :: l) = (decide (97 ≤ c ∧ c ≤ 122) && lowB l) := by simp [lowB]
def bLess (a b : ByteArray) : Bool := Op.bytesLess a.toList b.toList
theorem bLess_eq (a b : ByteArray) : Op.bytesLess a.toList b.toList = bLess a b := rfl
/-- Words, ascending, behind one (or none). -/
def ascW : Option ByteArray → List ByteArray → Bool
  | _, [] => true
  | none, c :: rest => isWord c && ascW (some c) rest
  | some q, c :: rest => isWord c && bLess q c && ascW (some c) rest
def wordsM (l : List ByteArray) (most : Int) : Bool := ascW none l && decide ((l.length : Int) ≤ most)
/-- What stands ahead of a place. -/
def Ahead (pre : List ByteArray) (p : Option ByteArray) : Prop := (pre = [] ∧ p = none) ∨ ∃ pre' q, pre = pre' ++ [q] ∧ p = some q
theorem Ahead.next (pre : List ByteArray) (c : ByteArray) : Ahead (pre ++ [c]) (some c) := .inr ⟨pre, c, rfl, rfl⟩
theorem at_prev {xs pre' rest : List ByteArray} {q : ByteArray} (hp : xs = (pre' ++ [q]) ++ rest) (hx : xs.length ≤ 9223372036854775807) :
    IntKind.i64.wrap (((pre' ++ [q]).length : Int) - 1) = (pre'.length : Int) ∧ (pre'.length : Int) < (xs.length : Int) ∧ xs.getD pre'.length ByteArray.empty = q ∧ (0 : Int) < ((pre' ++ [q]).length : Int) := by
  subst hp
  simp only [List.length_append, List.length_cons, List.length_nil] at hx ⊢
  refine ⟨?_, by omega, ?_, by omega⟩
  · rw [wrap_id (by omega) (by omega)]; omega
  · simp
theorem implWithin_val (a b c : Int) (N : Nat) : impl_within.f N [.sc (.int .i64 a), .sc (.int .i64 b), .sc (.int .i64 c)] = some [boolP (decide (b ≤ a ∧ a ≤ c))] := by
  simp only [impl_within.f_eq, strs_len, strs_elem, ints_len, ints_elem, items_list, fld_agg, elem_list, toStr_sc, toInt_sc, toBool_sc, headD_one, nat_int, get_bt, decide_eq_true_eq, decide_eq_false_iff_not, decide_true, decide_false, if_true, if_false, ite_self, Bool.not_true, Bool.not_false, Bool.false_eq_true, Bool.true_eq_false, Bool.true_and, Bool.false_and, Bool.and_true, Bool.and_false, not_true, not_false_iff, Option.bind_some, nn, toList_inj, Bool.not_eq_true', Bool.not_eq_false', Int.le_refl, and_self, true_and, and_true, false_and, and_false, bne_self_eq_false, beq_self_eq_true, Int.reduceEq, Nat.reduceEqDiff, List.length_singleton, List.tail_cons, Int.reduceLE, Int.reduceLT, decide_eq_true_eq]
  by_cases h1 : b ≤ a <;> by_cases h2 : a ≤ c <;> simp only [h1, h2, strs_len, strs_elem, ints_len, ints_elem, items_list, fld_agg, elem_list, toStr_sc, toInt_sc, toBool_sc, headD_one, nat_int, get_bt, decide_eq_true_eq, decide_eq_false_iff_not, decide_true, decide_false, if_true, if_false, ite_self, Bool.not_true, Bool.not_false, Bool.false_eq_true, Bool.true_eq_false, Bool.true_and, Bool.false_and, Bool.and_true, Bool.and_false, not_true, not_false_iff, Option.bind_some, nn, toList_inj, Bool.not_eq_true', Bool.not_eq_false', Int.le_refl, and_self, true_and, and_true, false_and, and_false, bne_self_eq_false, beq_self_eq_true, Int.reduceEq, Nat.reduceEqDiff, List.length_singleton, List.tail_cons, Int.reduceLE, Int.reduceLT, decide_eq_true_eq]
theorem implLower_loop (s : ByteArray) (hs : s.size ≤ 9223372036854775807) : ∀ rest pre : List Int, bytesOf s = pre ++ rest → Ev2 (fun N n => impl_lower.l0 N n s (s.size : Int) (pre.length : Int)) [boolP (lowB rest)] := by
  intro rest
  induction rest with
  | nil =>
    intro pre hp
    refine Ev2.succ ?_
    simp only [impl_lower.l0_eq, at_sizeE hp, strs_len, strs_elem, ints_len, ints_elem, items_list, fld_agg, elem_list, toStr_sc, toInt_sc, toBool_sc, headD_one, nat_int, get_bt, decide_eq_true_eq, decide_eq_false_iff_not, decide_true, decide_false, if_true, if_false, ite_self, Bool.not_true, Bool.not_false, Bool.false_eq_true, Bool.true_eq_false, Bool.true_and, Bool.false_and, Bool.and_true, Bool.and_false, not_true, not_false_iff, Option.bind_some, nn, toList_inj, Bool.not_eq_true', Bool.not_eq_false', Int.le_refl, and_self, true_and, and_true, false_and, and_false, bne_self_eq_false, beq_self_eq_true, Int.reduceEq, Nat.reduceEqDiff, List.length_singleton, List.tail_cons, Int.reduceLE, Int.reduceLT, decide_eq_true_eq]
    exact Ev2.now _
  | cons c rest ih =>
    intro pre hp
    refine Ev2.succ ?_
    simp only [impl_lower.l0_eq, strs_len, strs_elem, ints_len, ints_elem, items_list, fld_agg, elem_list, toStr_sc, toInt_sc, toBool_sc, headD_one, nat_int, get_bt, decide_eq_true_eq, decide_eq_false_iff_not, decide_true, decide_false, if_true, if_false, ite_self, Bool.not_true, Bool.not_false, Bool.false_eq_true, Bool.true_eq_false, Bool.true_and, Bool.false_and, Bool.and_true, Bool.and_false, not_true, not_false_iff, Option.bind_some, nn, toList_inj, Bool.not_eq_true', Bool.not_eq_false', Int.le_refl, and_self, true_and, and_true, false_and, and_false, bne_self_eq_false, beq_self_eq_true, Int.reduceEq, Nat.reduceEqDiff, List.length_singleton, List.tail_cons, Int.reduceLE, Int.reduceLT, decide_eq_true_eq, at_size hp, at_bt hp, at_next hp (by rw [bytesOf_len]; omega)]
    rw [lowB_cons]
    by_cases h1 : c < 97
    · simp only [h1, eq_false (show ¬ (97 ≤ c ∧ c ≤ 122) by omega), strs_len, strs_elem, ints_len, ints_elem, items_list, fld_agg, elem_list, toStr_sc, toInt_sc, toBool_sc, headD_one, nat_int, get_bt, decide_eq_true_eq, decide_eq_false_iff_not, decide_true, decide_false, if_true, if_false, ite_self, Bool.not_true, Bool.not_false, Bool.false_eq_true, Bool.true_eq_false, Bool.true_and, Bool.false_and, Bool.and_true, Bool.and_false, not_true, not_false_iff, Option.bind_some, nn, toList_inj, Bool.not_eq_true', Bool.not_eq_false', Int.le_refl, and_self, true_and, and_true, false_and, and_false, bne_self_eq_false, beq_self_eq_true, Int.reduceEq, Nat.reduceEqDiff, List.length_singleton, List.tail_cons, Int.reduceLE, Int.reduceLT, decide_eq_true_eq]; exact Ev2.now _
    by_cases h2 : 122 < c
    · simp only [h1, h2, eq_false (show ¬ (97 ≤ c ∧ c ≤ 122) by omega), strs_len, strs_elem, ints_len, ints_elem, items_list, fld_agg, elem_list, toStr_sc, toInt_sc, toBool_sc, headD_one, nat_int, get_bt, decide_eq_true_eq, decide_eq_false_iff_not, decide_true, decide_false, if_true, if_false, ite_self, Bool.not_true, Bool.not_false, Bool.false_eq_true, Bool.true_eq_false, Bool.true_and, Bool.false_and, Bool.and_true, Bool.and_false, not_true, not_false_iff, Option.bind_some, nn, toList_inj, Bool.not_eq_true', Bool.not_eq_false', Int.le_refl, and_self, true_and, and_true, false_and, and_false, bne_self_eq_false, beq_self_eq_true, Int.reduceEq, Nat.reduceEqDiff, List.length_singleton, List.tail_cons, Int.reduceLE, Int.reduceLT, decide_eq_true_eq]; exact Ev2.now _
    simp only [h1, h2, eq_true (show (97 ≤ c ∧ c ≤ 122) by omega), strs_len, strs_elem, ints_len, ints_elem, items_list, fld_agg, elem_list, toStr_sc, toInt_sc, toBool_sc, headD_one, nat_int, get_bt, decide_eq_true_eq, decide_eq_false_iff_not, decide_true, decide_false, if_true, if_false, ite_self, Bool.not_true, Bool.not_false, Bool.false_eq_true, Bool.true_eq_false, Bool.true_and, Bool.false_and, Bool.and_true, Bool.and_false, not_true, not_false_iff, Option.bind_some, nn, toList_inj, Bool.not_eq_true', Bool.not_eq_false', Int.le_refl, and_self, true_and, and_true, false_and, and_false, bne_self_eq_false, beq_self_eq_true, Int.reduceEq, Nat.reduceEqDiff, List.length_singleton, List.tail_cons, Int.reduceLE, Int.reduceLT, decide_eq_true_eq]
    exact ih _ (at_step hp)
theorem implLower_ev (s : ByteArray) (hs : s.size ≤ 9223372036854775807) : Ev (fun N => impl_lower.f N [strP s]) [boolP (lowB (bytesOf s))] := by
  simp only [impl_lower.f_eq, strs_len, strs_elem, ints_len, ints_elem, items_list, fld_agg, elem_list, toStr_sc, toInt_sc, toBool_sc, headD_one, nat_int, get_bt, decide_eq_true_eq, decide_eq_false_iff_not, decide_true, decide_false, if_true, if_false, ite_self, Bool.not_true, Bool.not_false, Bool.false_eq_true, Bool.true_eq_false, Bool.true_and, Bool.false_and, Bool.and_true, Bool.and_false, not_true, not_false_iff, Option.bind_some, nn, toList_inj, Bool.not_eq_true', Bool.not_eq_false', Int.le_refl, and_self, true_and, and_true, false_and, and_false, bne_self_eq_false, beq_self_eq_true, Int.reduceEq, Nat.reduceEqDiff, List.length_singleton, List.tail_cons, Int.reduceLE, Int.reduceLT, decide_eq_true_eq]
  exact (implLower_loop s hs (bytesOf s) [] rfl).diag
theorem implWord_ev (s : ByteArray) (hs : s.size ≤ 9223372036854775807) : Ev (fun N => impl_WordOk.f N [strP s]) [boolP (isWord s)] := by
  simp only [impl_WordOk.f_eq, implWithin_val, strs_len, strs_elem, ints_len, ints_elem, items_list, fld_agg, elem_list, toStr_sc, toInt_sc, toBool_sc, headD_one, nat_int, get_bt, decide_eq_true_eq, decide_eq_false_iff_not, decide_true, decide_false, if_true, if_false, ite_self, Bool.not_true, Bool.not_false, Bool.false_eq_true, Bool.true_eq_false, Bool.true_and, Bool.false_and, Bool.and_true, Bool.and_false, not_true, not_false_iff, Option.bind_some, nn, toList_inj, Bool.not_eq_true', Bool.not_eq_false', Int.le_refl, and_self, true_and, and_true, false_and, and_false, bne_self_eq_false, beq_self_eq_true, Int.reduceEq, Nat.reduceEqDiff, List.length_singleton, List.tail_cons, Int.reduceLE, Int.reduceLT, decide_eq_true_eq]
  by_cases h : 1 ≤ s.size ∧ s.size ≤ 12
  · simp only [eq_true (show (1 : Int) ≤ s.size ∧ (s.size : Int) ≤ 12 by omega), strs_len, strs_elem, ints_len, ints_elem, items_list, fld_agg, elem_list, toStr_sc, toInt_sc, toBool_sc, headD_one, nat_int, get_bt, decide_eq_true_eq, decide_eq_false_iff_not, decide_true, decide_false, if_true, if_false, ite_self, Bool.not_true, Bool.not_false, Bool.false_eq_true, Bool.true_eq_false, Bool.true_and, Bool.false_and, Bool.and_true, Bool.and_false, not_true, not_false_iff, Option.bind_some, nn, toList_inj, Bool.not_eq_true', Bool.not_eq_false', Int.le_refl, and_self, true_and, and_true, false_and, and_false, bne_self_eq_false, beq_self_eq_true, Int.reduceEq, Nat.reduceEqDiff, List.length_singleton, List.tail_cons, Int.reduceLE, Int.reduceLT, decide_eq_true_eq]
    refine Ev.bind (implLower_ev s hs) ?_
    refine Ev.ext (Ev.now _) ?_
    unfold isWord
    rw [decide_eq_true h, Bool.true_and]
    rfl
  · simp only [eq_false (show ¬ ((1 : Int) ≤ s.size ∧ (s.size : Int) ≤ 12) by omega), strs_len, strs_elem, ints_len, ints_elem, items_list, fld_agg, elem_list, toStr_sc, toInt_sc, toBool_sc, headD_one, nat_int, get_bt, decide_eq_true_eq, decide_eq_false_iff_not, decide_true, decide_false, if_true, if_false, ite_self, Bool.not_true, Bool.not_false, Bool.false_eq_true, Bool.true_eq_false, Bool.true_and, Bool.false_and, Bool.and_true, Bool.and_false, not_true, not_false_iff, Option.bind_some, nn, toList_inj, Bool.not_eq_true', Bool.not_eq_false', Int.le_refl, and_self, true_and, and_true, false_and, and_false, bne_self_eq_false, beq_self_eq_true, Int.reduceEq, Nat.reduceEqDiff, List.length_singleton, List.tail_cons, Int.reduceLE, Int.reduceLT, decide_eq_true_eq]
    refine Ev.ext (Ev.now _) ?_
    unfold isWord
    rw [decide_eq_false h, Bool.false_and]
theorem specLetters_loop (s : ByteArray) (hs : s.size ≤ 9223372036854775807) (m : Int) : ∀ rest pre : List Int, bytesOf s = pre ++ rest → Ev2 (fun N n => spec_l1Letters.l0 N n s m (pre.length : Int)) [boolP (lowB rest && decide ((s.size : Int) ≤ m))] := by
  intro rest
  induction rest with
  | nil =>
    intro pre hp
    refine Ev2.succ ?_
    simp only [spec_l1Letters.l0_eq, at_sizeE hp, lowB, List.all_nil, strs_len, strs_elem, ints_len, ints_elem, items_list, fld_agg, elem_list, toStr_sc, toInt_sc, toBool_sc, headD_one, nat_int, get_bt, decide_eq_true_eq, decide_eq_false_iff_not, decide_true, decide_false, if_true, if_false, ite_self, Bool.not_true, Bool.not_false, Bool.false_eq_true, Bool.true_eq_false, Bool.true_and, Bool.false_and, Bool.and_true, Bool.and_false, not_true, not_false_iff, Option.bind_some, nn, toList_inj, Bool.not_eq_true', Bool.not_eq_false', Int.le_refl, and_self, true_and, and_true, false_and, and_false, bne_self_eq_false, beq_self_eq_true, Int.reduceEq, Nat.reduceEqDiff, List.length_singleton, List.tail_cons, Int.reduceLE, Int.reduceLT, decide_eq_true_eq]
    exact Ev2.now _
  | cons c rest ih =>
    intro pre hp
    refine Ev2.succ ?_
    simp only [spec_l1Letters.l0_eq, strs_len, strs_elem, ints_len, ints_elem, items_list, fld_agg, elem_list, toStr_sc, toInt_sc, toBool_sc, headD_one, nat_int, get_bt, decide_eq_true_eq, decide_eq_false_iff_not, decide_true, decide_false, if_true, if_false, ite_self, Bool.not_true, Bool.not_false, Bool.false_eq_true, Bool.true_eq_false, Bool.true_and, Bool.false_and, Bool.and_true, Bool.and_false, not_true, not_false_iff, Option.bind_some, nn, toList_inj, Bool.not_eq_true', Bool.not_eq_false', Int.le_refl, and_self, true_and, and_true, false_and, and_false, bne_self_eq_false, beq_self_eq_true, Int.reduceEq, Nat.reduceEqDiff, List.length_singleton, List.tail_cons, Int.reduceLE, Int.reduceLT, decide_eq_true_eq, at_size hp, at_bt hp, at_next hp (by rw [bytesOf_len]; omega)]
    rw [lowB_cons]
    by_cases h1 : c < 97
    · simp only [h1, eq_false (show ¬ (97 ≤ c ∧ c ≤ 122) by omega), strs_len, strs_elem, ints_len, ints_elem, items_list, fld_agg, elem_list, toStr_sc, toInt_sc, toBool_sc, headD_one, nat_int, get_bt, decide_eq_true_eq, decide_eq_false_iff_not, decide_true, decide_false, if_true, if_false, ite_self, Bool.not_true, Bool.not_false, Bool.false_eq_true, Bool.true_eq_false, Bool.true_and, Bool.false_and, Bool.and_true, Bool.and_false, not_true, not_false_iff, Option.bind_some, nn, toList_inj, Bool.not_eq_true', Bool.not_eq_false', Int.le_refl, and_self, true_and, and_true, false_and, and_false, bne_self_eq_false, beq_self_eq_true, Int.reduceEq, Nat.reduceEqDiff, List.length_singleton, List.tail_cons, Int.reduceLE, Int.reduceLT, decide_eq_true_eq]; exact Ev2.now _
    by_cases h2 : 122 < c
    · simp only [h1, h2, eq_false (show ¬ (97 ≤ c ∧ c ≤ 122) by omega), strs_len, strs_elem, ints_len, ints_elem, items_list, fld_agg, elem_list, toStr_sc, toInt_sc, toBool_sc, headD_one, nat_int, get_bt, decide_eq_true_eq, decide_eq_false_iff_not, decide_true, decide_false, if_true, if_false, ite_self, Bool.not_true, Bool.not_false, Bool.false_eq_true, Bool.true_eq_false, Bool.true_and, Bool.false_and, Bool.and_true, Bool.and_false, not_true, not_false_iff, Option.bind_some, nn, toList_inj, Bool.not_eq_true', Bool.not_eq_false', Int.le_refl, and_self, true_and, and_true, false_and, and_false, bne_self_eq_false, beq_self_eq_true, Int.reduceEq, Nat.reduceEqDiff, List.length_singleton, List.tail_cons, Int.reduceLE, Int.reduceLT, decide_eq_true_eq]; exact Ev2.now _
    simp only [h1, h2, eq_true (show (97 ≤ c ∧ c ≤ 122) by omega), strs_len, strs_elem, ints_len, ints_elem, items_list, fld_agg, elem_list, toStr_sc, toInt_sc, toBool_sc, headD_one, nat_int, get_bt, decide_eq_true_eq, decide_eq_false_iff_not, decide_true, decide_false, if_true, if_false, ite_self, Bool.not_true, Bool.not_false, Bool.false_eq_true, Bool.true_eq_false, Bool.true_and, Bool.false_and, Bool.and_true, Bool.and_false, not_true, not_false_iff, Option.bind_some, nn, toList_inj, Bool.not_eq_true', Bool.not_eq_false', Int.le_refl, and_self, true_and, and_true, false_and, and_false, bne_self_eq_false, beq_self_eq_true, Int.reduceEq, Nat.reduceEqDiff, List.length_singleton, List.tail_cons, Int.reduceLE, Int.reduceLT, decide_eq_true_eq]
    exact ih _ (at_step hp)
theorem specLetters_ev (s : ByteArray) (hs : s.size ≤ 9223372036854775807) (m : Int) : Ev (fun N => spec_l1Letters.f N [strP s, intP m]) [boolP (lowB (bytesOf s) && decide ((s.size : Int) ≤ m))] := by
  simp only [spec_l1Letters.f_eq, strs_len, strs_elem, ints_len, ints_elem, items_list, fld_agg, elem_list, toStr_sc, toInt_sc, toBool_sc, headD_one, nat_int, get_bt, decide_eq_true_eq, decide_eq_false_iff_not, decide_true, decide_false, if_true, if_false, ite_self, Bool.not_true, Bool.not_false, Bool.false_eq_true, Bool.true_eq_false, Bool.true_and, Bool.false_and, Bool.and_true, Bool.and_false, not_true, not_false_iff, Option.bind_some, nn, toList_inj, Bool.not_eq_true', Bool.not_eq_false', Int.le_refl, and_self, true_and, and_true, false_and, and_false, bne_self_eq_false, beq_self_eq_true, Int.reduceEq, Nat.reduceEqDiff, List.length_singleton, List.tail_cons, Int.reduceLE, Int.reduceLT, decide_eq_true_eq]
  exact (specLetters_loop s hs m (bytesOf s) [] rfl).diag
theorem specWord_ev (s : ByteArray) (hs : s.size ≤ 9223372036854775807) : Ev (fun N => spec_l1Word.f N [strP s]) [boolP (isWord s)] := by
  simp only [spec_l1Word.f_eq, strs_len, strs_elem, ints_len, ints_elem, items_list, fld_agg, elem_list, toStr_sc, toInt_sc, toBool_sc, headD_one, nat_int, get_bt, decide_eq_true_eq, decide_eq_false_iff_not, decide_true, decide_false, if_true, if_false, ite_self, Bool.not_true, Bool.not_false, Bool.false_eq_true, Bool.true_eq_false, Bool.true_and, Bool.false_and, Bool.and_true, Bool.and_false, not_true, not_false_iff, Option.bind_some, nn, toList_inj, Bool.not_eq_true', Bool.not_eq_false', Int.le_refl, and_self, true_and, and_true, false_and, and_false, bne_self_eq_false, beq_self_eq_true, Int.reduceEq, Nat.reduceEqDiff, List.length_singleton, List.tail_cons, Int.reduceLE, Int.reduceLT, decide_eq_true_eq]
  by_cases h : (0 : Int) < (s.size : Int)
  · simp only [h, strs_len, strs_elem, ints_len, ints_elem, items_list, fld_agg, elem_list, toStr_sc, toInt_sc, toBool_sc, headD_one, nat_int, get_bt, decide_eq_true_eq, decide_eq_false_iff_not, decide_true, decide_false, if_true, if_false, ite_self, Bool.not_true, Bool.not_false, Bool.false_eq_true, Bool.true_eq_false, Bool.true_and, Bool.false_and, Bool.and_true, Bool.and_false, not_true, not_false_iff, Option.bind_some, nn, toList_inj, Bool.not_eq_true', Bool.not_eq_false', Int.le_refl, and_self, true_and, and_true, false_and, and_false, bne_self_eq_false, beq_self_eq_true, Int.reduceEq, Nat.reduceEqDiff, List.length_singleton, List.tail_cons, Int.reduceLE, Int.reduceLT, decide_eq_true_eq]
    refine Ev.bind (specLetters_ev s hs 12) ?_
    refine Ev.ext (Ev.now _) ?_
    simp only [strs_len, strs_elem, ints_len, ints_elem, items_list, fld_agg, elem_list, toStr_sc, toInt_sc, toBool_sc, headD_one, nat_int, get_bt, decide_eq_true_eq, decide_eq_false_iff_not, decide_true, decide_false, if_true, if_false, ite_self, Bool.not_true, Bool.not_false, Bool.false_eq_true, Bool.true_eq_false, Bool.true_and, Bool.false_and, Bool.and_true, Bool.and_false, not_true, not_false_iff, Option.bind_some, nn, toList_inj, Bool.not_eq_true', Bool.not_eq_false', Int.le_refl, and_self, true_and, and_true, false_and, and_false, bne_self_eq_false, beq_self_eq_true, Int.reduceEq, Nat.reduceEqDiff, List.length_singleton, List.tail_cons, Int.reduceLE, Int.reduceLT, decide_eq_true_eq]
    unfold isWord
    rw [Bool.and_comm]
    show [boolP (_ && lowB _)] = [boolP (decide _ && lowB _)]
    have : decide ((s.size : Int) ≤ 12) = decide (1 ≤ s.size ∧ s.size ≤ 12) := decide_eq_decide.2 (by omega)
    rw [this]
  · simp only [h, strs_len, strs_elem, ints_len, ints_elem, items_list, fld_agg, elem_list, toStr_sc, toInt_sc, toBool_sc, headD_one, nat_int, get_bt, decide_eq_true_eq, decide_eq_false_iff_not, decide_true, decide_false, if_true, if_false, ite_self, Bool.not_true, Bool.not_false, Bool.false_eq_true, Bool.true_eq_false, Bool.true_and, Bool.false_and, Bool.and_true, Bool.and_false, not_true, not_false_iff, Option.bind_some, nn, toList_inj, Bool.not_eq_true', Bool.not_eq_false', Int.le_refl, and_self, true_and, and_true, false_and, and_false, bne_self_eq_false, beq_self_eq_true, Int.reduceEq, Nat.reduceEqDiff, List.length_singleton, List.tail_cons, Int.reduceLE, Int.reduceLT, decide_eq_true_eq]
    refine Ev.ext (Ev.now _) ?_
    unfold isWord
    rw [decide_eq_false (show ¬ (1 ≤ s.size ∧ s.size ≤ 12) by omega), Bool.false_and]
theorem szs_in {l : List ByteArray} {a b : Nat} (h : (l.all fun s => decide (a ≤ s.size ∧ s.size ≤ b)) = true) : ∀ s ∈ l, a ≤ s.size ∧ s.size ≤ b := fun s hs => of_decide_eq_true (List.all_eq_true.1 h s hs)
theorem least_val (a b : Int) (N : Nat) : spec_l1Least.f N [intP a, intP b] = some [intP (if a < b then a else b)] := by
  simp only [spec_l1Least.f_eq, strs_len, strs_elem, ints_len, ints_elem, items_list, fld_agg, elem_list, toStr_sc, toInt_sc, toBool_sc, headD_one, nat_int, get_bt, decide_eq_true_eq, decide_eq_false_iff_not, decide_true, decide_false, if_true, if_false, ite_self, Bool.not_true, Bool.not_false, Bool.false_eq_true, Bool.true_eq_false, Bool.true_and, Bool.false_and, Bool.and_true, Bool.and_false, not_true, not_false_iff, Option.bind_some, nn, toList_inj, Bool.not_eq_true', Bool.not_eq_false', Int.le_refl, and_self, true_and, and_true, false_and, and_false, bne_self_eq_false, beq_self_eq_true, Int.reduceEq, Nat.reduceEqDiff, List.length_singleton, List.tail_cons, Int.reduceLE, Int.reduceLT, decide_eq_true_eq]
  by_cases h : a < b <;> simp only [h, strs_len, strs_elem, ints_len, ints_elem, items_list, fld_agg, elem_list, toStr_sc, toInt_sc, toBool_sc, headD_one, nat_int, get_bt, decide_eq_true_eq, decide_eq_false_iff_not, decide_true, decide_false, if_true, if_false, ite_self, Bool.not_true, Bool.not_false, Bool.false_eq_true, Bool.true_eq_false, Bool.true_and, Bool.false_and, Bool.and_true, Bool.and_false, not_true, not_false_iff, Option.bind_some, nn, toList_inj, Bool.not_eq_true', Bool.not_eq_false', Int.le_refl, and_self, true_and, and_true, false_and, and_false, bne_self_eq_false, beq_self_eq_true, Int.reduceEq, Nat.reduceEqDiff, List.length_singleton, List.tail_cons, Int.reduceLE, Int.reduceLT, decide_eq_true_eq]
theorem extract_all (s : ByteArray) : s.extract 0 s.size = s := by
  simp
theorem word_loop {b : PV} (hb : Code1 b) : ∀ (c p : Nat) (x : ByteArray), p + c < 1000000000 → x.size + 2 * c ≤ 12 → (1 ≤ c ∨ 1 ≤ x.size) → ∃ (r : ByteArray) (q : Nat), q ≤ p + c ∧ 1 ≤ r.size ∧ r.size ≤ 12 ∧ Ev2 (fun N n => spec_l13Word.l0 N n x (c : Int) b (p : Int)) [strP r, rdP b (q : Int)] := by
  intro c
  induction c with
  | zero =>
    intro p x hp hx h1
    refine ⟨x, p, by omega, by omega, by omega, Ev2.succ ?_⟩
    have h0 : ¬ (0 : Int) < ((0 : Nat) : Int) := by omega
    have hm : (if (x.size : Int) < 12 then (x.size : Int) else 12) = (x.size : Int) := by split <;> omega
    simp only [spec_l13Word.l0_eq, h0, least_val, hm, strs_len, strs_elem, ints_len, ints_elem, items_list, fld_agg, elem_list, toStr_sc, toInt_sc, toBool_sc, headD_one, nat_int, get_bt, decide_eq_true_eq, decide_eq_false_iff_not, decide_true, decide_false, if_true, if_false, ite_self, Bool.not_true, Bool.not_false, Bool.false_eq_true, Bool.true_eq_false, Bool.true_and, Bool.false_and, Bool.and_true, Bool.and_false, not_true, not_false_iff, Option.bind_some, nn, toList_inj, Bool.not_eq_true', Bool.not_eq_false', Int.le_refl, and_self, true_and, and_true, false_and, and_false, bne_self_eq_false, beq_self_eq_true, Int.reduceEq, Nat.reduceEqDiff, List.length_singleton, List.tail_cons, Int.reduceLE, Int.reduceLT, decide_eq_true_eq, extract_all, rd_agg]
    exact Ev2.now _
  | succ c ih =>
    intro p x hp hx h1
    obtain ⟨s, hs, hf⟩ := of_ev hb (p := (p : Int)) (by omega) [ByteArray.mk #[97], ByteArray.mk #[98], ByteArray.mk #[99], ByteArray.mk #[97, 98], ByteArray.mk #[116]] (by simp)
    have hsz : 1 ≤ s.size ∧ s.size ≤ 2 := by
      have ha : ∀ s ∈ [ByteArray.mk #[97], ByteArray.mk #[98], ByteArray.mk #[99], ByteArray.mk #[97, 98], ByteArray.mk #[116]], 1 ≤ s.size ∧ s.size ≤ 2 := szs_in rfl
      exact ha s hs
    obtain ⟨r, q, h2, h3, h4, h5⟩ := ih (p + 1) (x ++ s) (by omega) (by rw [ByteArray.size_append]; omega) (.inr (by rw [ByteArray.size_append]; omega))
    refine ⟨r, q, by omega, h3, h4, Ev2.succ ?_⟩
    have h0 : (0 : Int) < ((c + 1 : Nat) : Int) := by omega
    have hw : IntKind.i64.wrap (((c + 1 : Nat) : Int) - 1) = (c : Int) := by rw [wrap_id (by omega) (by omega)]; omega
    have hl : x.size + s.size ≤ 9223372036854775807 := by omega
    have hp1 : ((p : Int) + 1) = ((p + 1 : Nat) : Int) := by omega
    have e : PV.list [PV.sc (.string (ByteArray.mk #[97])), PV.sc (.string (ByteArray.mk #[98])), PV.sc (.string (ByteArray.mk #[99])), PV.sc (.string (ByteArray.mk #[97, 98])), PV.sc (.string (ByteArray.mk #[116]))] = strsP [ByteArray.mk #[97], ByteArray.mk #[98], ByteArray.mk #[99], ByteArray.mk #[97, 98], ByteArray.mk #[116]] := rfl
    simp only [spec_l13Word.l0_eq, h0, hw, hl, e, rd_agg, hf, rd_f0, rd_f1, hp1, strs_len, strs_elem, ints_len, ints_elem, items_list, fld_agg, elem_list, toStr_sc, toInt_sc, toBool_sc, headD_one, nat_int, get_bt, decide_eq_true_eq, decide_eq_false_iff_not, decide_true, decide_false, if_true, if_false, ite_self, Bool.not_true, Bool.not_false, Bool.false_eq_true, Bool.true_eq_false, Bool.true_and, Bool.false_and, Bool.and_true, Bool.and_false, not_true, not_false_iff, Option.bind_some, nn, toList_inj, Bool.not_eq_true', Bool.not_eq_false', Int.le_refl, and_self, true_and, and_true, false_and, and_false, bne_self_eq_false, beq_self_eq_true, Int.reduceEq, Nat.reduceEqDiff, List.length_singleton, List.tail_cons, Int.reduceLE, Int.reduceLT, decide_eq_true_eq]
    exact h5
def wordsL : List ByteArray := [ByteArray.mk #[99, 97, 116], ByteArray.mk #[99, 97, 116, 115], ByteArray.mk #[97, 99, 116], ByteArray.mk #[100, 111], ByteArray.mk #[100, 111, 105, 110, 103], ByteArray.mk #[103, 111], ByteArray.mk #[117, 110, 100, 111], ByteArray.mk #[116, 114, 121], ByteArray.mk #[116, 114, 105, 101, 115], ByteArray.mk #[97], ByteArray.mk #[98, 97, 107, 101], ByteArray.mk #[98, 97, 107, 105, 110, 103], ByteArray.mk #[116, 97, 99, 116], ByteArray.mk #[99, 97, 114, 116], ByteArray.mk #[97, 98, 99, 97, 98, 99, 97, 98, 99, 97, 98, 99]]
theorem word_ev {b : PV} (hb : Code1 b) (p : Nat) (hp : p < 900000000) : ∃ (r : ByteArray) (q : Nat), q ≤ p + 10 ∧ 1 ≤ r.size ∧ r.size ≤ 12 ∧ Ev (fun N => spec_l13Word.f N [rdP b (p : Int)]) [strP r, rdP b (q : Int)] := by
  obtain ⟨k, hk, hf⟩ := pick_ev hb (p := (p : Int)) (n := 3) (by omega) (by omega)
  by_cases h0 : k = 0
  · obtain ⟨k2, hk2, hf2⟩ := pick_ev hb (p := (p : Int) + 1) (n := 5) (by omega) (by omega)
    obtain ⟨j, rfl⟩ := Int.eq_ofNat_of_zero_le hk2.1
    obtain ⟨r, q, h2, h3, h4, h5⟩ := word_loop hb (1 + j) (p + 2) ⟨#[]⟩ (by omega) (by have : (ByteArray.mk #[]).size = 0 := rfl; omega) (.inl (by omega))
    refine ⟨r, q, by omega, h3, h4, ?_⟩
    have hw : IntKind.i64.wrap (1 + (j : Int)) = ((1 + j : Nat) : Int) := by rw [wrap_id (by omega) (by omega)]; omega
    have hp1 : ((p : Int) + 1 + 1) = ((p + 2 : Nat) : Int) := by omega
    simp only [spec_l13Word.f_eq, rd_f0, rd_f1, rd_agg, hf, h0, hf2, hw, hp1, strs_len, strs_elem, ints_len, ints_elem, items_list, fld_agg, elem_list, toStr_sc, toInt_sc, toBool_sc, headD_one, nat_int, get_bt, decide_eq_true_eq, decide_eq_false_iff_not, decide_true, decide_false, if_true, if_false, ite_self, Bool.not_true, Bool.not_false, Bool.false_eq_true, Bool.true_eq_false, Bool.true_and, Bool.false_and, Bool.and_true, Bool.and_false, not_true, not_false_iff, Option.bind_some, nn, toList_inj, Bool.not_eq_true', Bool.not_eq_false', Int.le_refl, and_self, true_and, and_true, false_and, and_false, bne_self_eq_false, beq_self_eq_true, Int.reduceEq, Nat.reduceEqDiff, List.length_singleton, List.tail_cons, Int.reduceLE, Int.reduceLT, decide_eq_true_eq]
    exact h5.diag
  · obtain ⟨s, hs, hf2⟩ := of_ev hb (p := (p : Int) + 1) (by omega) wordsL (by simp [wordsL])
    have ha : ∀ s ∈ wordsL, 1 ≤ s.size ∧ s.size ≤ 12 := szs_in rfl
    refine ⟨s, p + 2, by omega, (ha s hs).1, (ha s hs).2, ?_⟩
    have hp1 : ((p : Int) + 1 + 1) = ((p + 2 : Nat) : Int) := by omega
    have e : PV.list [PV.sc (.string (ByteArray.mk #[99, 97, 116])), PV.sc (.string (ByteArray.mk #[99, 97, 116, 115])), PV.sc (.string (ByteArray.mk #[97, 99, 116])), PV.sc (.string (ByteArray.mk #[100, 111])), PV.sc (.string (ByteArray.mk #[100, 111, 105, 110, 103])), PV.sc (.string (ByteArray.mk #[103, 111])), PV.sc (.string (ByteArray.mk #[117, 110, 100, 111])), PV.sc (.string (ByteArray.mk #[116, 114, 121])), PV.sc (.string (ByteArray.mk #[116, 114, 105, 101, 115])), PV.sc (.string (ByteArray.mk #[97])), PV.sc (.string (ByteArray.mk #[98, 97, 107, 101])), PV.sc (.string (ByteArray.mk #[98, 97, 107, 105, 110, 103])), PV.sc (.string (ByteArray.mk #[116, 97, 99, 116])), PV.sc (.string (ByteArray.mk #[99, 97, 114, 116])), PV.sc (.string (ByteArray.mk #[97, 98, 99, 97, 98, 99, 97, 98, 99, 97, 98, 99]))] = strsP wordsL := rfl
    simp only [spec_l13Word.f_eq, rd_f0, rd_f1, rd_agg, hf, h0, e, hf2, hp1, strs_len, strs_elem, ints_len, ints_elem, items_list, fld_agg, elem_list, toStr_sc, toInt_sc, toBool_sc, headD_one, nat_int, get_bt, decide_eq_true_eq, decide_eq_false_iff_not, decide_true, decide_false, if_true, if_false, ite_self, Bool.not_true, Bool.not_false, Bool.false_eq_true, Bool.true_eq_false, Bool.true_and, Bool.false_and, Bool.and_true, Bool.and_false, not_true, not_false_iff, Option.bind_some, nn, toList_inj, Bool.not_eq_true', Bool.not_eq_false', Int.le_refl, and_self, true_and, and_true, false_and, and_false, bne_self_eq_false, beq_self_eq_true, Int.reduceEq, Nat.reduceEqDiff, List.length_singleton, List.tail_cons, Int.reduceLE, Int.reduceLT, decide_eq_true_eq]
    exact Ev.now _
/-! #### drawn words of one's own -/
def anyL : List ByteArray := [ByteArray.mk #[], ByteArray.mk #[67, 97, 116], ByteArray.mk #[97, 32, 98], ByteArray.mk #[97, 98, 99, 97, 98, 99, 97, 98, 99, 97, 98, 99, 97], ByteArray.mk #[120, 49], ByteArray.mk #[45]]
theorem anyWord_ev {b : PV} (hb : Code1 b) (p : Nat) (hp : p < 800000000) : ∃ (r : ByteArray) (q : Nat), q ≤ p + 12 ∧ r.size ≤ 13 ∧ Ev (fun N => spec_l13AnyWord.f N [rdP b (p : Int)]) [strP r, rdP b (q : Int)] := by
  obtain ⟨k, hk, hf⟩ := pick_ev hb (p := (p : Int)) (n := 16) (by omega) (by omega)
  have hp1 : (p : Int) + 1 = ((p + 1 : Nat) : Int) := by omega
  rw [hp1] at hf
  by_cases k0 : k = 0
  · obtain ⟨s, hs, hf2⟩ := of_ev hb (p := ((p + 1 : Nat) : Int)) (by omega) anyL (by simp [anyL])
    have ha : ∀ s ∈ anyL, 0 ≤ s.size ∧ s.size ≤ 13 := szs_in rfl
    have hp2 : ((p + 1 : Nat) : Int) + 1 = ((p + 2 : Nat) : Int) := by omega
    refine ⟨s, p + 2, by omega, (ha s hs).2, ?_⟩
    have e : PV.list [PV.sc (.string (ByteArray.mk #[])), PV.sc (.string (ByteArray.mk #[67, 97, 116])), PV.sc (.string (ByteArray.mk #[97, 32, 98])), PV.sc (.string (ByteArray.mk #[97, 98, 99, 97, 98, 99, 97, 98, 99, 97, 98, 99, 97])), PV.sc (.string (ByteArray.mk #[120, 49])), PV.sc (.string (ByteArray.mk #[45]))] = strsP anyL := rfl
    simp only [spec_l13AnyWord.f_eq, rd_f0, rd_f1, rd_agg, hf, k0, e, hf2, hp2, strs_len, strs_elem, ints_len, ints_elem, items_list, fld_agg, elem_list, toStr_sc, toInt_sc, toBool_sc, headD_one, nat_int, get_bt, decide_eq_true_eq, decide_eq_false_iff_not, decide_true, decide_false, if_true, if_false, ite_self, Bool.not_true, Bool.not_false, Bool.false_eq_true, Bool.true_eq_false, Bool.true_and, Bool.false_and, Bool.and_true, Bool.and_false, not_true, not_false_iff, Option.bind_some, nn, toList_inj, Bool.not_eq_true', Bool.not_eq_false', Int.le_refl, and_self, true_and, and_true, false_and, and_false, bne_self_eq_false, beq_self_eq_true, Int.reduceEq, Nat.reduceEqDiff, List.length_singleton, List.tail_cons, Int.reduceLE, Int.reduceLT, decide_eq_true_eq]
    exact Ev.now _
  · obtain ⟨r, q, h2, h3, h4, h5⟩ := word_ev hb (p + 1) (by omega)
    refine ⟨r, q, by omega, by omega, ?_⟩
    simp only [spec_l13AnyWord.f_eq, rd_f0, rd_f1, rd_agg, hf, k0, strs_len, strs_elem, ints_len, ints_elem, items_list, fld_agg, elem_list, toStr_sc, toInt_sc, toBool_sc, headD_one, nat_int, get_bt, decide_eq_true_eq, decide_eq_false_iff_not, decide_true, decide_false, if_true, if_false, ite_self, Bool.not_true, Bool.not_false, Bool.false_eq_true, Bool.true_eq_false, Bool.true_and, Bool.false_and, Bool.and_true, Bool.and_false, not_true, not_false_iff, Option.bind_some, nn, toList_inj, Bool.not_eq_true', Bool.not_eq_false', Int.le_refl, and_self, true_and, and_true, false_and, and_false, bne_self_eq_false, beq_self_eq_true, Int.reduceEq, Nat.reduceEqDiff, List.length_singleton, List.tail_cons, Int.reduceLE, Int.reduceLT, decide_eq_true_eq]
    refine Ev.bind h5 ?_
    simp only [rd_f1, strs_len, strs_elem, ints_len, ints_elem, items_list, fld_agg, elem_list, toStr_sc, toInt_sc, toBool_sc, headD_one, nat_int, get_bt, decide_eq_true_eq, decide_eq_false_iff_not, decide_true, decide_false, if_true, if_false, ite_self, Bool.not_true, Bool.not_false, Bool.false_eq_true, Bool.true_eq_false, Bool.true_and, Bool.false_and, Bool.and_true, Bool.and_false, not_true, not_false_iff, Option.bind_some, nn, toList_inj, Bool.not_eq_true', Bool.not_eq_false', Int.le_refl, and_self, true_and, and_true, false_and, and_false, bne_self_eq_false, beq_self_eq_true, Int.reduceEq, Nat.reduceEqDiff, List.length_singleton, List.tail_cons, Int.reduceLE, Int.reduceLT, decide_eq_true_eq]
    exact Ev.now _
/-! #### drawn patterns -/
structure Pat where
  l : ByteArray
  ns : List Int
def patP (p : Pat) : PV := .agg [strP p.l, intsP p.ns]
def patsP (l : List Pat) : PV := .list (l.map patP)
theorem pat_agg (p : Pat) : PV.agg [strP p.l, intsP p.ns] = patP p := rfl
theorem pat_mk (l : ByteArray) (ns : List Int) : PV.agg [strP l, intsP ns] = patP ⟨l, ns⟩ := rfl
theorem pat_f0 (p : Pat) : (patP p).fld 0 = strP p.l := rfl
theorem pat_f1 (p : Pat) : (patP p).fld 1 = intsP p.ns := rfl
theorem pats_len (l : List Pat) : (patsP l).items.length = l.length := by simp [patsP, PV.items]
theorem pats_elem {l pre rest : List Pat} {p : Pat} (h : l = pre ++ p :: rest) : (patsP l).elem pre.length = patP p := by
  subst h
  simp [patsP, PV.elem, PV.items, List.getD_eq_getElem?_getD]
def PatB (p : Pat) : Prop := p.l.size ≤ 100 ∧ p.ns.length ≤ 100 ∧ ∀ v ∈ p.ns, -100 ≤ v ∧ v ≤ 100
def PatsB (l : List Pat) : Prop := l.length ≤ 100 ∧ ∀ p ∈ l, PatB p
theorem one_ev {b : PV} (hb : Code1 b) {p : Int} (hp : 0 ≤ p ∧ p < 1000000000) (l : List Int) (hl : 1 ≤ l.length ∧ l.length < 4611686018427387904) : ∃ v ∈ l, ∀ N, spec_l1Rd_one.f N [rdP b p, intsP l] = some [intP v, rdP b (p + 1)] := by
  obtain ⟨k, hk, hf⟩ := pick_ev hb hp (n := (l.length : Int)) (by omega)
  obtain ⟨j, rfl⟩ := Int.eq_ofNat_of_zero_le hk.1
  have hj : j < l.length := by omega
  refine ⟨l.getD j 0, ?_, fun N => ?_⟩
  · rw [List.getD_eq_getElem?_getD, List.getElem?_eq_getElem hj]; exact List.getElem_mem hj
  · simp only [spec_l1Rd_one.f_eq, rd_f0, rd_f1, rd_agg, hf, hk, strs_len, strs_elem, ints_len, ints_elem, items_list, fld_agg, elem_list, toStr_sc, toInt_sc, toBool_sc, headD_one, nat_int, get_bt, decide_eq_true_eq, decide_eq_false_iff_not, decide_true, decide_false, if_true, if_false, ite_self, Bool.not_true, Bool.not_false, Bool.false_eq_true, Bool.true_eq_false, Bool.true_and, Bool.false_and, Bool.and_true, Bool.and_false, not_true, not_false_iff, Option.bind_some, nn, toList_inj, Bool.not_eq_true', Bool.not_eq_false', Int.le_refl, and_self, true_and, and_true, false_and, and_false, bne_self_eq_false, beq_self_eq_true, Int.reduceEq, Nat.reduceEqDiff, List.length_singleton, List.tail_cons, Int.reduceLE, Int.reduceLT, decide_eq_true_eq]
def patTexts : List ByteArray := [ByteArray.mk #[49, 110, 97], ByteArray.mk #[50, 99, 116], ByteArray.mk #[97, 49, 98], ByteArray.mk #[49, 107, 105], ByteArray.mk #[46, 117, 110, 49], ByteArray.mk #[52, 116, 115, 46], ByteArray.mk #[111, 49, 105], ByteArray.mk #[99, 49, 116], ByteArray.mk #[97, 50, 98, 49, 99], ByteArray.mk #[49, 105, 110, 103, 46], ByteArray.mk #[51, 115, 46]]
def patBb (p : Pat) : Bool := decide (p.l.size ≤ 90) && decide (1 ≤ p.ns.length ∧ p.ns.length ≤ 90) && p.ns.all fun v => decide (-100 ≤ v ∧ v ≤ 100)
theorem get_mk {s : ByteArray} (p : Pat) (hb : patBb p = true) (h : ∀ n, spec_PatternGet.f (n + 30) [strP s] = some [patP p, boolP true]) :
    ∃ p : Pat, (p.l.size ≤ 90 ∧ 1 ≤ p.ns.length ∧ p.ns.length ≤ 90 ∧ ∀ v ∈ p.ns, -100 ≤ v ∧ v ≤ 100) ∧ Ev (fun N => spec_PatternGet.f N [strP s]) [patP p, boolP true] := by
  simp only [patBb, Bool.and_eq_true, decide_eq_true_eq, List.all_eq_true] at hb
  refine ⟨p, ⟨hb.1.1, hb.1.2.1, hb.1.2.2, hb.2⟩, 30, fun N hN => ?_⟩
  obtain ⟨n, rfl⟩ := Nat.exists_eq_add_of_le hN
  rw [Nat.add_comm]; exact h n
theorem get_t0 (n : Nat) : spec_PatternGet.f (n + 30) [strP (ByteArray.mk #[49, 110, 97])] = some [patP ⟨⟨#[110, 97]⟩, [1, 0, 0]⟩, boolP true] := by kernel_rfl
theorem get_t1 (n : Nat) : spec_PatternGet.f (n + 30) [strP (ByteArray.mk #[50, 99, 116])] = some [patP ⟨⟨#[99, 116]⟩, [2, 0, 0]⟩, boolP true] := by kernel_rfl
theorem get_t2 (n : Nat) : spec_PatternGet.f (n + 30) [strP (ByteArray.mk #[97, 49, 98])] = some [patP ⟨⟨#[97, 98]⟩, [0, 1, 0]⟩, boolP true] := by kernel_rfl
theorem get_t3 (n : Nat) : spec_PatternGet.f (n + 30) [strP (ByteArray.mk #[49, 107, 105])] = some [patP ⟨⟨#[107, 105]⟩, [1, 0, 0]⟩, boolP true] := by kernel_rfl
theorem get_t4 (n : Nat) : spec_PatternGet.f (n + 30) [strP (ByteArray.mk #[46, 117, 110, 49])] = some [patP ⟨⟨#[46, 117, 110]⟩, [0, 0, 0, 1]⟩, boolP true] := by kernel_rfl
theorem get_t5 (n : Nat) : spec_PatternGet.f (n + 30) [strP (ByteArray.mk #[52, 116, 115, 46])] = some [patP ⟨⟨#[116, 115, 46]⟩, [4, 0, 0, 0]⟩, boolP true] := by kernel_rfl
theorem get_t6 (n : Nat) : spec_PatternGet.f (n + 30) [strP (ByteArray.mk #[111, 49, 105])] = some [patP ⟨⟨#[111, 105]⟩, [0, 1, 0]⟩, boolP true] := by kernel_rfl
theorem get_t7 (n : Nat) : spec_PatternGet.f (n + 30) [strP (ByteArray.mk #[99, 49, 116])] = some [patP ⟨⟨#[99, 116]⟩, [0, 1, 0]⟩, boolP true] := by kernel_rfl
theorem get_t8 (n : Nat) : spec_PatternGet.f (n + 30) [strP (ByteArray.mk #[97, 50, 98, 49, 99])] = some [patP ⟨⟨#[97, 98, 99]⟩, [0, 2, 1, 0]⟩, boolP true] := by kernel_rfl
theorem get_t9 (n : Nat) : spec_PatternGet.f (n + 30) [strP (ByteArray.mk #[49, 105, 110, 103, 46])] = some [patP ⟨⟨#[105, 110, 103, 46]⟩, [1, 0, 0, 0, 0]⟩, boolP true] := by kernel_rfl
theorem get_t10 (n : Nat) : spec_PatternGet.f (n + 30) [strP (ByteArray.mk #[51, 115, 46])] = some [patP ⟨⟨#[115, 46]⟩, [3, 0, 0]⟩, boolP true] := by kernel_rfl
theorem get_text : ∀ s ∈ patTexts, ∃ p : Pat, (p.l.size ≤ 90 ∧ 1 ≤ p.ns.length ∧ p.ns.length ≤ 90 ∧ ∀ v ∈ p.ns, -100 ≤ v ∧ v ≤ 100) ∧ Ev (fun N => spec_PatternGet.f N [strP s]) [patP p, boolP true] := by
  intro s hs
  simp only [patTexts, List.mem_cons, List.not_mem_nil, or_false] at hs
  rcases hs with rfl | rfl | rfl | rfl | rfl | rfl | rfl | rfl | rfl | rfl | rfl
  · exact get_mk ⟨⟨#[110, 97]⟩, [1, 0, 0]⟩ rfl get_t0
  · exact get_mk ⟨⟨#[99, 116]⟩, [2, 0, 0]⟩ rfl get_t1
  · exact get_mk ⟨⟨#[97, 98]⟩, [0, 1, 0]⟩ rfl get_t2
  · exact get_mk ⟨⟨#[107, 105]⟩, [1, 0, 0]⟩ rfl get_t3
  · exact get_mk ⟨⟨#[46, 117, 110]⟩, [0, 0, 0, 1]⟩ rfl get_t4
  · exact get_mk ⟨⟨#[116, 115, 46]⟩, [4, 0, 0, 0]⟩ rfl get_t5
  · exact get_mk ⟨⟨#[111, 105]⟩, [0, 1, 0]⟩ rfl get_t6
  · exact get_mk ⟨⟨#[99, 116]⟩, [0, 1, 0]⟩ rfl get_t7
  · exact get_mk ⟨⟨#[97, 98, 99]⟩, [0, 2, 1, 0]⟩ rfl get_t8
  · exact get_mk ⟨⟨#[105, 110, 103, 46]⟩, [1, 0, 0, 0, 0]⟩ rfl get_t9
  · exact get_mk ⟨⟨#[115, 46]⟩, [3, 0, 0]⟩ rfl get_t10
theorem pattern_ev {b : PV} (hb : Code1 b) (q : Nat) (hq : q < 900000000) : ∃ p : Pat, (p.l.size ≤ 90 ∧ 1 ≤ p.ns.length ∧ p.ns.length ≤ 90 ∧ ∀ v ∈ p.ns, -100 ≤ v ∧ v ≤ 100) ∧ Ev (fun N => spec_l13Pattern.f N [rdP b (q : Int)]) [patP p, rdP b ((q + 1 : Nat) : Int)] := by
  obtain ⟨s, hs, hf⟩ := of_ev hb (p := (q : Int)) (by omega) patTexts (by simp [patTexts])
  obtain ⟨p, h1, h2⟩ := get_text s hs
  refine ⟨p, h1, ?_⟩
  have e : PV.list [PV.sc (.string (ByteArray.mk #[49, 110, 97])), PV.sc (.string (ByteArray.mk #[50, 99, 116])), PV.sc (.string (ByteArray.mk #[97, 49, 98])), PV.sc (.string (ByteArray.mk #[49, 107, 105])), PV.sc (.string (ByteArray.mk #[46, 117, 110, 49])), PV.sc (.string (ByteArray.mk #[52, 116, 115, 46])), PV.sc (.string (ByteArray.mk #[111, 49, 105])), PV.sc (.string (ByteArray.mk #[99, 49, 116])), PV.sc (.string (ByteArray.mk #[97, 50, 98, 49, 99])), PV.sc (.string (ByteArray.mk #[49, 105, 110, 103, 46])), PV.sc (.string (ByteArray.mk #[51, 115, 46]))] = strsP patTexts := rfl
  have hq1 : (q : Int) + 1 = ((q + 1 : Nat) : Int) := by omega
  rw [hq1] at hf
  simp only [spec_l13Pattern.f_eq, rd_f0, rd_f1, rd_agg, e, hf, List.headD_cons, List.tail_cons, headD_one, toStr_sc, toInt_sc, Option.bind_some]
  refine Ev.bind h2 ?_
  simp only [List.headD_cons, pat_f0, pat_f1, toStr_sc, pat_agg]
  exact Ev.now _
theorem anyPattern_ev {b : PV} (hb : Code1 b) (q : Nat) (hq : q < 800000000) : ∃ (p : Pat) (q' : Nat), q' ≤ q + 3 ∧ PatB p ∧ Ev (fun N => spec_l13AnyPattern.f N [rdP b (q : Int)]) [patP p, rdP b (q' : Int)] := by
  obtain ⟨p, ⟨h1, h2, h3, h4⟩, h5⟩ := pattern_ev hb q (by omega)
  obtain ⟨k, hk, hf⟩ := pick_ev hb (p := ((q + 1 : Nat) : Int)) (n := 10) (by omega) (by omega)
  have e1 : ((q + 1 : Nat) : Int) + 1 = ((q + 2 : Nat) : Int) := by omega
  have e2 : ((q + 2 : Nat) : Int) + 1 = ((q + 3 : Nat) : Int) := by omega
  rw [e1] at hf
  have hi : (intsP p.ns).items = p.ns.map intP := rfl
  have hl0 : ([] : List PV).length + (p.ns.map intP).length ≤ 17592186044416 := by simp; omega
  have hl1 : (([] : List PV) ++ p.ns.map intP).length + [PV.sc (.int .i64 1)].length ≤ 17592186044416 := by simp; omega
  simp only [spec_l13AnyPattern.f_eq, rd_f0, rd_f1, rd_agg, toInt_sc]
  by_cases k0 : k = 0
  · obtain ⟨s, hs, hg⟩ := of_ev hb (p := ((q + 2 : Nat) : Int)) (by omega) [ByteArray.mk #[], ByteArray.mk #[65], ByteArray.mk #[97, 46, 98], ByteArray.mk #[46, 46], ByteArray.mk #[97, 98, 99, 100, 101, 102, 103, 104, 105]] (by simp)
    rw [e2] at hg
    have hsz : s.size ≤ 9 := by
      simp only [List.mem_cons, List.not_mem_nil, or_false] at hs
      rcases hs with rfl | rfl | rfl | rfl | rfl <;> simp [ByteArray.size]
    have e : PV.list [PV.sc (.string (ByteArray.mk #[])), PV.sc (.string (ByteArray.mk #[65])), PV.sc (.string (ByteArray.mk #[97, 46, 98])), PV.sc (.string (ByteArray.mk #[46, 46])), PV.sc (.string (ByteArray.mk #[97, 98, 99, 100, 101, 102, 103, 104, 105]))] = strsP [ByteArray.mk #[], ByteArray.mk #[65], ByteArray.mk #[97, 46, 98], ByteArray.mk #[46, 46], ByteArray.mk #[97, 98, 99, 100, 101, 102, 103, 104, 105]] := rfl
    refine ⟨⟨s, p.ns⟩, q + 3, by omega, ⟨by show s.size ≤ 100; omega, by show p.ns.length ≤ 100; omega, h4⟩, ?_⟩
    refine Ev.bind h5 ?_
    simp only [List.headD_cons, List.tail_cons, pat_f0, pat_f1, hi, hl0, rd_f0, rd_f1, rd_agg, toInt_sc, toStr_sc, hf, k0, e, hg, List.nil_append, Option.bind_some, decide_true, if_true]
    exact Ev.now _
  by_cases k1 : k = 1
  · obtain ⟨v, hv, hg⟩ := one_ev hb (p := ((q + 2 : Nat) : Int)) (by omega) [-1, 10, 9] (by simp)
    rw [e2] at hg
    have hvv : -100 ≤ v ∧ v ≤ 100 := by
      simp only [List.mem_cons, List.not_mem_nil, or_false] at hv
      omega
    have e : PV.list [PV.sc (.int .i64 (-1)), PV.sc (.int .i64 10), PV.sc (.int .i64 9)] = intsP [-1, 10, 9] := rfl
    have z : ¬ ((1 : Int) = 0) := by omega
    have c1 : (0 : Int) < ((([] : List PV) ++ p.ns.map intP).length : Int) := by simp; omega
    have hset : PV.list ((p.ns.map intP).set 0 (intP v)) = intsP (p.ns.set 0 v) := by simp [intsP, List.map_set]
    simp only [List.nil_append] at c1
    refine ⟨⟨p.l, p.ns.set 0 v⟩, q + 3, by omega, ⟨by show p.l.size ≤ 100; omega, by show (p.ns.set 0 v).length ≤ 100; rw [List.length_set]; omega, fun x hx => ?_⟩, ?_⟩
    · rcases List.mem_or_eq_of_mem_set hx with h | h
      · exact h4 x h
      · rw [h]; exact hvv
    refine Ev.bind h5 ?_
    simp only [List.headD_cons, List.tail_cons, pat_f0, pat_f1, hi, hl0, rd_f0, rd_f1, rd_agg, toInt_sc, toStr_sc, hf, k1, z, e, hg, c1, hset, List.nil_append, Option.bind_some, decide_true, decide_false, Bool.false_eq_true, if_true, if_false, Int.le_refl, Nat.le_refl]
    exact Ev.now _
  by_cases k2 : k = 2
  · have z0 : ¬ ((2 : Int) = 0) := by omega
    have z1 : ¬ ((2 : Int) = 1) := by omega
    have happ : PV.list (p.ns.map intP ++ [PV.sc (.int .i64 1)]) = intsP (p.ns ++ [1]) := by simp [intsP]
    simp only [List.nil_append] at hl1
    refine ⟨⟨p.l, p.ns ++ [1]⟩, q + 2, by omega, ⟨by show p.l.size ≤ 100; omega, by show (p.ns ++ [1]).length ≤ 100; simp; omega, fun x hx => ?_⟩, ?_⟩
    · rcases List.mem_append.1 hx with h | h
      · exact h4 x h
      · simp only [List.mem_singleton] at h; omega
    refine Ev.bind h5 ?_
    simp only [List.headD_cons, List.tail_cons, pat_f0, pat_f1, hi, hl0, hl1, happ, rd_f0, rd_f1, rd_agg, toInt_sc, toStr_sc, hf, k2, z0, z1, List.nil_append, Option.bind_some, decide_true, decide_false, Bool.false_eq_true, if_true, if_false]
    exact Ev.now _
  · refine ⟨p, q + 2, by omega, ⟨by omega, by omega, h4⟩, ?_⟩
    refine Ev.bind h5 ?_
    have hl2 : PV.list (p.ns.map intP) = intsP p.ns := rfl
    simp only [List.headD_cons, List.tail_cons, pat_f0, pat_f1, hi, hl0, hl2, rd_f0, rd_f1, rd_agg, pat_agg, toInt_sc, toStr_sc, hf, k0, k1, k2, List.nil_append, Option.bind_some, decide_true, decide_false, Bool.false_eq_true, if_true, if_false]
    exact Ev.now _
theorem pats_app (l : List Pat) (p : Pat) : l.map patP ++ [patP p] = (l ++ [p]).map patP := by simp
theorem patterns_l1 {b : PV} (hb : Code1 b) : ∀ (d q : Nat) (l : List Pat), l.length + d = 22 → q + 3 * d < 700000000 → (∀ p ∈ l, PatB p) → ∃ (l' : List Pat) (q' : Nat), q' ≤ q + 3 * d + 1 ∧ PatsB l' ∧ Ev2 (fun N n => spec_l13Patterns.l1 N n b (q : Int) (l.map patP)) [patsP l', rdP b (q' : Int)] := by
  intro d
  induction d with
  | zero =>
    intro q l hl hq hp
    obtain ⟨k, hk, hf⟩ := pick_ev hb (p := (q : Int)) (n := 2) (by omega) (by omega)
    have e1 : (q : Int) + 1 = ((q + 1 : Nat) : Int) := by omega
    rw [e1] at hf
    refine ⟨l, q + 1, by omega, ⟨by omega, hp⟩, Ev2.succ ?_⟩
    have wk : IntKind.i64.wrap (20 + k) = 20 + k := wrap_id (by omega) (by omega)
    have z : ¬ (((l.map patP).length : Nat) : Int) < 20 + k := by rw [List.length_map]; omega
    simp only [spec_l13Patterns.l1_eq, rd_agg, hf, headD_one, List.headD_cons, List.tail_cons, rd_f1, toInt_sc, wk, z, Option.bind_some, decide_false, Bool.false_eq_true, if_false]
    exact Ev2.now _
  | succ d ih =>
    intro q l hl hq hp
    obtain ⟨k, hk, hf⟩ := pick_ev hb (p := (q : Int)) (n := 2) (by omega) (by omega)
    have e1 : (q : Int) + 1 = ((q + 1 : Nat) : Int) := by omega
    rw [e1] at hf
    have wk : IntKind.i64.wrap (20 + k) = 20 + k := wrap_id (by omega) (by omega)
    by_cases z : (((l.map patP).length : Nat) : Int) < 20 + k
    · obtain ⟨p, ⟨h1, h2, h3, h4⟩, h5⟩ := pattern_ev hb (q + 1) (by omega)
      obtain ⟨l', q', i1, i2, i3⟩ := ih (q + 1 + 1) (l ++ [p]) (by simp; omega) (by omega) (fun x hx => by
        rcases List.mem_append.1 hx with h | h
        · exact hp x h
        · simp only [List.mem_singleton] at h; subst h; exact ⟨by omega, by omega, h4⟩)
      refine ⟨l', q', by omega, i2, Ev2.succ ?_⟩
      have c1 : (l.map patP).length + [patP p].length ≤ 3518437208883 := by simp; omega
      simp only [spec_l13Patterns.l1_eq, rd_agg, hf, headD_one, List.headD_cons, List.tail_cons, rd_f1, toInt_sc, wk, z, Option.bind_some, decide_true, if_true]
      refine Ev2.bind h5 ?_
      simp only [List.headD_cons, List.tail_cons, pat_f0, pat_f1, toStr_sc, pat_agg, rd_f1, toInt_sc, c1, pats_app, if_true]
      exact i3
    · refine ⟨l, q + 1, by omega, ⟨by omega, hp⟩, Ev2.succ ?_⟩
      simp only [spec_l13Patterns.l1_eq, rd_agg, hf, headD_one, List.headD_cons, List.tail_cons, rd_f1, toInt_sc, wk, z, Option.bind_some, decide_false, Bool.false_eq_true, if_false]
      exact Ev2.now _
theorem patterns_l0 {b : PV} (hb : Code1 b) : ∀ (c q : Nat) (l : List Pat), l.length + c ≤ 10 → q + 3 * c < 600000000 → (∀ p ∈ l, PatB p) → ∃ (l' : List Pat) (q' : Nat), q' ≤ q + 3 * c + 100 ∧ PatsB l' ∧ Ev2 (fun N n => spec_l13Patterns.l0 N n (c : Int) b (q : Int) (l.map patP)) [patsP l', rdP b (q' : Int)] := by
  intro c
  induction c with
  | succ c ih =>
    intro q l hl hq hp
    obtain ⟨p, ⟨h1, h2, h3, h4⟩, h5⟩ := pattern_ev hb q (by omega)
    obtain ⟨l', q', i1, i2, i3⟩ := ih (q + 1) (l ++ [p]) (by simp; omega) (by omega) (fun x hx => by
      rcases List.mem_append.1 hx with h | h
      · exact hp x h
      · simp only [List.mem_singleton] at h; subst h; exact ⟨by omega, by omega, h4⟩)
    refine ⟨l', q', by omega, i2, Ev2.succ ?_⟩
    have z : (0 : Int) < ((c + 1 : Nat) : Int) := by omega
    have wc : IntKind.i64.wrap (((c + 1 : Nat) : Int) - 1) = (c : Int) := by rw [wrap_id (by omega) (by omega)]; omega
    have c1 : (l.map patP).length + [patP p].length ≤ 3518437208883 := by simp; omega
    simp only [spec_l13Patterns.l0_eq, z, decide_true, if_true, rd_agg]
    refine Ev2.bind h5 ?_
    simp only [List.headD_cons, List.tail_cons, pat_f0, pat_f1, toStr_sc, pat_agg, rd_f1, toInt_sc, c1, wc, pats_app, if_true]
    exact i3
  | zero =>
    intro q l hl hq hp
    obtain ⟨k, hk, hf⟩ := pick_ev hb (p := (q : Int)) (n := 20) (by omega) (by omega)
    have e1 : (q : Int) + 1 = ((q + 1 : Nat) : Int) := by omega
    rw [e1] at hf
    have z : ¬ (0 : Int) < ((0 : Nat) : Int) := by omega
    by_cases k0 : k = 0
    · obtain ⟨p, q1, h1, h2, h3⟩ := anyPattern_ev hb (q + 1) (by omega)
      obtain ⟨m, hm, hg⟩ := pick_ev hb (p := (q1 : Int)) (n := 30) (by omega) (by omega)
      have e2 : (q1 : Int) + 1 = ((q1 + 1 : Nat) : Int) := by omega
      rw [e2] at hg
      have hp' : ∀ x ∈ l ++ [p], PatB x := fun x hx => by
        rcases List.mem_append.1 hx with h | h
        · exact hp x h
        · simp only [List.mem_singleton] at h; subst h; exact h2
      have c1 : (l.map patP).length + [patP p].length ≤ 3518437208883 := by simp; omega
      by_cases m0 : m = 0
      · obtain ⟨l', q', i1, i2, i3⟩ := patterns_l1 hb (22 - (l ++ [p]).length) (q1 + 1) (l ++ [p]) (by simp; omega) (by omega) hp'
        refine ⟨l', q', by omega, i2, Ev2.succ ?_⟩
        simp only [spec_l13Patterns.l0_eq, z, rd_agg, hf, k0, headD_one, List.headD_cons, List.tail_cons, rd_f1, toInt_sc, Option.bind_some, decide_true, decide_false, Bool.false_eq_true, if_true, if_false]
        refine Ev2.bind h3 ?_
        simp only [List.headD_cons, List.tail_cons, pat_f0, pat_f1, toStr_sc, pat_agg, rd_f1, rd_agg, toInt_sc, c1, hg, m0, pats_app, Option.bind_some, decide_true, if_true]
        exact i3.after
      · refine ⟨l ++ [p], q1 + 1, by omega, ⟨by simp; omega, hp'⟩, Ev2.succ ?_⟩
        simp only [spec_l13Patterns.l0_eq, z, rd_agg, hf, k0, headD_one, List.headD_cons, List.tail_cons, rd_f1, toInt_sc, Option.bind_some, decide_true, decide_false, Bool.false_eq_true, if_true, if_false]
        refine Ev2.bind h3 ?_
        simp only [List.headD_cons, List.tail_cons, pat_f0, pat_f1, toStr_sc, pat_agg, rd_f1, rd_agg, toInt_sc, c1, hg, m0, pats_app, Option.bind_some, decide_true, decide_false, Bool.false_eq_true, if_true, if_false]
        exact Ev2.now _
    · obtain ⟨m, hm, hg⟩ := pick_ev hb (p := ((q + 1 : Nat) : Int)) (n := 30) (by omega) (by omega)
      have e2 : ((q + 1 : Nat) : Int) + 1 = ((q + 2 : Nat) : Int) := by omega
      rw [e2] at hg
      by_cases m0 : m = 0
      · obtain ⟨l', q', i1, i2, i3⟩ := patterns_l1 hb (22 - l.length) (q + 2) l (by omega) (by omega) hp
        refine ⟨l', q', by omega, i2, Ev2.succ ?_⟩
        simp only [spec_l13Patterns.l0_eq, z, rd_agg, hf, k0, hg, m0, headD_one, List.headD_cons, List.tail_cons, rd_f1, toInt_sc, Option.bind_some, decide_true, decide_false, Bool.false_eq_true, if_true, if_false]
        exact i3.after
      · refine ⟨l, q + 2, by omega, ⟨by omega, hp⟩, Ev2.succ ?_⟩
        simp only [spec_l13Patterns.l0_eq, z, rd_agg, hf, k0, hg, m0, headD_one, List.headD_cons, List.tail_cons, rd_f1, toInt_sc, Option.bind_some, decide_true, decide_false, Bool.false_eq_true, if_true, if_false]
        exact Ev2.now _
theorem patterns_ev {b : PV} (hb : Code1 b) (q : Nat) (hq : q < 500000000) : ∃ (l : List Pat) (q' : Nat), q' ≤ q + 200 ∧ PatsB l ∧ Ev (fun N => spec_l13Patterns.f N [rdP b (q : Int)]) [patsP l, rdP b (q' : Int)] := by
  obtain ⟨k, hk, hf⟩ := pick_ev hb (p := (q : Int)) (n := 8) (by omega) (by omega)
  have e1 : (q : Int) + 1 = ((q + 1 : Nat) : Int) := by omega
  rw [e1] at hf
  obtain ⟨c, rfl⟩ := Int.eq_ofNat_of_zero_le hk.1
  obtain ⟨l', q', i1, i2, i3⟩ := patterns_l0 hb c (q + 1) [] (by simp; omega) (by omega) (fun x hx => by simp at hx)
  refine ⟨l', q', by omega, i2, ?_⟩
  simp only [spec_l13Patterns.f_eq, rd_f0, rd_f1, rd_agg, toInt_sc, hf, List.headD_cons, List.tail_cons, headD_one, Option.bind_some]
  exact i3.diag
/-! #### patterns that are ok -/
def lettersG (n : Nat) : Nat → List Int → Bool
  | _, [] => true
  | i, c :: r => decide ((c = 46 ∧ (i = 0 ∨ i + 1 = n)) ∨ (97 ≤ c ∧ c ≤ 122)) && lettersG n (i + 1) r
def numsG (l : List Int) : Bool := l.all fun v => decide (0 ≤ v ∧ v ≤ 9)
theorem numsG_cons (v : Int) (l : List Int) : numsG (v :: l) = (decide (0 ≤ v ∧ v ≤ 9) && numsG l) := by simp [numsG]
def patOk (p : Pat) : Bool := lettersG p.l.size 0 (bytesOf p.l) && (numsG p.ns && (decide (1 ≤ p.l.size ∧ p.l.size ≤ 8) && decide (p.ns.length = p.l.size + 1)))
theorem ext1 (s : ByteArray) (i : Nat) (hi : i < s.size) : (s.extract i (i + 1)).size = 1 ∧ bytesOf (s.extract i (i + 1)) = [bt s i] := by
  have hb : bytesOf (s.extract i (i + 1)) = ((bytesOf s).drop i).take 1 := by
    unfold bytesOf
    rw [ByteArray.data_extract]
    simp [List.map_take, List.map_drop]
  have hl : i < (bytesOf s).length := by rw [bytesOf_len]; exact hi
  have h2 : ((bytesOf s).drop i).take 1 = [bt s i] := by
    rw [bt_bytes, List.getD_eq_getElem?_getD]
    rw [List.drop_eq_getElem_cons hl]
    simp only [List.take_succ_cons, List.take_zero, List.getElem?_eq_getElem hl, Option.getD_some]
  rw [h2] at hb
  refine ⟨?_, hb⟩
  rw [← bytesOf_len, hb]; rfl
theorem specIn_val (a b c : Int) (N : Nat) : spec_l1In.f N [.sc (.int .i64 a), .sc (.int .i64 b), .sc (.int .i64 c)] = some [boolP (decide (b ≤ a ∧ a ≤ c))] := by
  simp only [spec_l1In.f_eq, strs_len, strs_elem, ints_len, ints_elem, items_list, fld_agg, elem_list, toStr_sc, toInt_sc, toBool_sc, headD_one, nat_int, get_bt, decide_eq_true_eq, decide_eq_false_iff_not, decide_true, decide_false, if_true, if_false, ite_self, Bool.not_true, Bool.not_false, Bool.false_eq_true, Bool.true_eq_false, Bool.true_and, Bool.false_and, Bool.and_true, Bool.and_false, not_true, not_false_iff, Option.bind_some, nn, toList_inj, Bool.not_eq_true', Bool.not_eq_false', Int.le_refl, and_self, true_and, and_true, false_and, and_false, bne_self_eq_false, beq_self_eq_true, Int.reduceEq, Nat.reduceEqDiff, List.length_singleton, List.tail_cons, Int.reduceLE, Int.reduceLT, decide_eq_true_eq]
  by_cases h1 : b ≤ a <;> by_cases h2 : a ≤ c <;> simp only [h1, h2, strs_len, strs_elem, ints_len, ints_elem, items_list, fld_agg, elem_list, toStr_sc, toInt_sc, toBool_sc, headD_one, nat_int, get_bt, decide_eq_true_eq, decide_eq_false_iff_not, decide_true, decide_false, if_true, if_false, ite_self, Bool.not_true, Bool.not_false, Bool.false_eq_true, Bool.true_eq_false, Bool.true_and, Bool.false_and, Bool.and_true, Bool.and_false, not_true, not_false_iff, Option.bind_some, nn, toList_inj, Bool.not_eq_true', Bool.not_eq_false', Int.le_refl, and_self, true_and, and_true, false_and, and_false, bne_self_eq_false, beq_self_eq_true, Int.reduceEq, Nat.reduceEqDiff, List.length_singleton, List.tail_cons, Int.reduceLE, Int.reduceLT, decide_eq_true_eq]
theorem specPat_l1 (s : ByteArray) (ns : List Int) (hs : s.size ≤ 100) (hn : ns.length ≤ 100) : ∀ rest pre : List Int, ns = pre ++ rest →
    Ev2 (fun N n => spec_PatternOk.l1 N n (s.size : Int) (pre.length : Int) s (intsP ns)) [boolP (numsG rest && (decide (1 ≤ s.size ∧ s.size ≤ 8) && decide (ns.length = s.size + 1)))] := by
  intro rest
  induction rest with
  | nil =>
    intro pre hp
    refine Ev2.succ ?_
    have w : IntKind.i64.wrap ((s.size : Int) + 1) = ((s.size + 1 : Nat) : Int) := by rw [wrap_id (by omega) (by omega)]; omega
    simp only [spec_PatternOk.l1_eq, specIn_val, at_end hp, w, strs_len, strs_elem, ints_len, ints_elem, items_list, fld_agg, elem_list, toStr_sc, toInt_sc, toBool_sc, headD_one, nat_int, get_bt, decide_eq_true_eq, decide_eq_false_iff_not, decide_true, decide_false, if_true, if_false, ite_self, Bool.not_true, Bool.not_false, Bool.false_eq_true, Bool.true_eq_false, Bool.true_and, Bool.false_and, Bool.and_true, Bool.and_false, not_true, not_false_iff, Option.bind_some, nn, toList_inj, Bool.not_eq_true', Bool.not_eq_false', Int.le_refl, and_self, true_and, and_true, false_and, and_false, bne_self_eq_false, beq_self_eq_true, Int.reduceEq, Nat.reduceEqDiff, List.length_singleton, List.tail_cons, Int.reduceLE, Int.reduceLT, decide_eq_true_eq]
    refine Ev2.ext (r := if 1 ≤ s.size ∧ s.size ≤ 8 then [boolP (decide (ns.length = s.size + 1))] else [boolP false]) ?_ ?_
    · by_cases h : 1 ≤ s.size ∧ s.size ≤ 8
      · have h' : (1 : Int) ≤ (s.size : Int) ∧ (s.size : Int) ≤ 8 := by omega
        have e : (((ns.length : Nat) : Int) = ((s.size + 1 : Nat) : Int)) = (ns.length = s.size + 1) := propext ⟨fun h => by omega, fun h => by omega⟩
        rw [if_pos h]
        simp only [h', e, strs_len, strs_elem, ints_len, ints_elem, items_list, fld_agg, elem_list, toStr_sc, toInt_sc, toBool_sc, headD_one, nat_int, get_bt, decide_eq_true_eq, decide_eq_false_iff_not, decide_true, decide_false, if_true, if_false, ite_self, Bool.not_true, Bool.not_false, Bool.false_eq_true, Bool.true_eq_false, Bool.true_and, Bool.false_and, Bool.and_true, Bool.and_false, not_true, not_false_iff, Option.bind_some, nn, toList_inj, Bool.not_eq_true', Bool.not_eq_false', Int.le_refl, and_self, true_and, and_true, false_and, and_false, bne_self_eq_false, beq_self_eq_true, Int.reduceEq, Nat.reduceEqDiff, List.length_singleton, List.tail_cons, Int.reduceLE, Int.reduceLT, decide_eq_true_eq]
        exact Ev2.now _
      · have h' : ¬ ((1 : Int) ≤ (s.size : Int) ∧ (s.size : Int) ≤ 8) := by omega
        rw [if_neg h]
        simp only [h', strs_len, strs_elem, ints_len, ints_elem, items_list, fld_agg, elem_list, toStr_sc, toInt_sc, toBool_sc, headD_one, nat_int, get_bt, decide_eq_true_eq, decide_eq_false_iff_not, decide_true, decide_false, if_true, if_false, ite_self, Bool.not_true, Bool.not_false, Bool.false_eq_true, Bool.true_eq_false, Bool.true_and, Bool.false_and, Bool.and_true, Bool.and_false, not_true, not_false_iff, Option.bind_some, nn, toList_inj, Bool.not_eq_true', Bool.not_eq_false', Int.le_refl, and_self, true_and, and_true, false_and, and_false, bne_self_eq_false, beq_self_eq_true, Int.reduceEq, Nat.reduceEqDiff, List.length_singleton, List.tail_cons, Int.reduceLE, Int.reduceLT, decide_eq_true_eq]
        exact Ev2.now _
    · by_cases h : 1 ≤ s.size ∧ s.size ≤ 8
      · rw [if_pos h, decide_eq_true h]; simp [numsG]
      · rw [if_neg h, decide_eq_false h]; simp [numsG]
  | cons v rest ih =>
    intro pre hp
    refine Ev2.succ ?_
    simp only [spec_PatternOk.l1_eq, specIn_val, at_lt hp, at_getD hp, at_next hp (by omega), strs_len, strs_elem, ints_len, ints_elem, items_list, fld_agg, elem_list, toStr_sc, toInt_sc, toBool_sc, headD_one, nat_int, get_bt, decide_eq_true_eq, decide_eq_false_iff_not, decide_true, decide_false, if_true, if_false, ite_self, Bool.not_true, Bool.not_false, Bool.false_eq_true, Bool.true_eq_false, Bool.true_and, Bool.false_and, Bool.and_true, Bool.and_false, not_true, not_false_iff, Option.bind_some, nn, toList_inj, Bool.not_eq_true', Bool.not_eq_false', Int.le_refl, and_self, true_and, and_true, false_and, and_false, bne_self_eq_false, beq_self_eq_true, Int.reduceEq, Nat.reduceEqDiff, List.length_singleton, List.tail_cons, Int.reduceLE, Int.reduceLT, decide_eq_true_eq]
    rw [numsG_cons]
    by_cases h : 0 ≤ v ∧ v ≤ 9
    · simp only [h, strs_len, strs_elem, ints_len, ints_elem, items_list, fld_agg, elem_list, toStr_sc, toInt_sc, toBool_sc, headD_one, nat_int, get_bt, decide_eq_true_eq, decide_eq_false_iff_not, decide_true, decide_false, if_true, if_false, ite_self, Bool.not_true, Bool.not_false, Bool.false_eq_true, Bool.true_eq_false, Bool.true_and, Bool.false_and, Bool.and_true, Bool.and_false, not_true, not_false_iff, Option.bind_some, nn, toList_inj, Bool.not_eq_true', Bool.not_eq_false', Int.le_refl, and_self, true_and, and_true, false_and, and_false, bne_self_eq_false, beq_self_eq_true, Int.reduceEq, Nat.reduceEqDiff, List.length_singleton, List.tail_cons, Int.reduceLE, Int.reduceLT, decide_eq_true_eq]; exact ih _ (at_step hp)
    · simp only [h, strs_len, strs_elem, ints_len, ints_elem, items_list, fld_agg, elem_list, toStr_sc, toInt_sc, toBool_sc, headD_one, nat_int, get_bt, decide_eq_true_eq, decide_eq_false_iff_not, decide_true, decide_false, if_true, if_false, ite_self, Bool.not_true, Bool.not_false, Bool.false_eq_true, Bool.true_eq_false, Bool.true_and, Bool.false_and, Bool.and_true, Bool.and_false, not_true, not_false_iff, Option.bind_some, nn, toList_inj, Bool.not_eq_true', Bool.not_eq_false', Int.le_refl, and_self, true_and, and_true, false_and, and_false, bne_self_eq_false, beq_self_eq_true, Int.reduceEq, Nat.reduceEqDiff, List.length_singleton, List.tail_cons, Int.reduceLE, Int.reduceLT, decide_eq_true_eq]; exact Ev2.now _
theorem specPat_l0 (s : ByteArray) (ns : List Int) (hs : s.size ≤ 100) (hn : ns.length ≤ 100) : ∀ rest pre : List Int, bytesOf s = pre ++ rest →
    Ev2 (fun N n => spec_PatternOk.l0 N n (s.size : Int) (pre.length : Int) s (intsP ns)) [boolP (lettersG s.size pre.length rest && (numsG ns && (decide (1 ≤ s.size ∧ s.size ≤ 8) && decide (ns.length = s.size + 1))))] := by
  intro rest
  induction rest with
  | nil =>
    intro pre hp
    refine Ev2.succ ?_
    simp only [spec_PatternOk.l0_eq, at_sizeE hp, lettersG, strs_len, strs_elem, ints_len, ints_elem, items_list, fld_agg, elem_list, toStr_sc, toInt_sc, toBool_sc, headD_one, nat_int, get_bt, decide_eq_true_eq, decide_eq_false_iff_not, decide_true, decide_false, if_true, if_false, ite_self, Bool.not_true, Bool.not_false, Bool.false_eq_true, Bool.true_eq_false, Bool.true_and, Bool.false_and, Bool.and_true, Bool.and_false, not_true, not_false_iff, Option.bind_some, nn, toList_inj, Bool.not_eq_true', Bool.not_eq_false', Int.le_refl, and_self, true_and, and_true, false_and, and_false, bne_self_eq_false, beq_self_eq_true, Int.reduceEq, Nat.reduceEqDiff, List.length_singleton, List.tail_cons, Int.reduceLE, Int.reduceLT, decide_eq_true_eq]
    exact (specPat_l1 s ns hs hn ns [] rfl).after
  | cons c rest ih =>
    intro pre hp
    refine Ev2.succ ?_
    have hlt : pre.length < s.size := by have := at_size hp; omega
    have w : IntKind.i64.wrap ((s.size : Int) - 1) = (s.size : Int) - 1 := wrap_id (by omega) (by omega)
    have hnx := ih _ (at_step hp)
    have hnx' := at_next hp (by rw [bytesOf_len]; omega)
    have hlen : (pre ++ [c]).length = pre.length + 1 := by simp
    rw [hlen] at hnx
    rw [hlen] at hnx'
    simp only [spec_PatternOk.l0_eq, strs_len, strs_elem, ints_len, ints_elem, items_list, fld_agg, elem_list, toStr_sc, toInt_sc, toBool_sc, headD_one, nat_int, get_bt, decide_eq_true_eq, decide_eq_false_iff_not, decide_true, decide_false, if_true, if_false, ite_self, Bool.not_true, Bool.not_false, Bool.false_eq_true, Bool.true_eq_false, Bool.true_and, Bool.false_and, Bool.and_true, Bool.and_false, not_true, not_false_iff, Option.bind_some, nn, toList_inj, Bool.not_eq_true', Bool.not_eq_false', Int.le_refl, and_self, true_and, and_true, false_and, and_false, bne_self_eq_false, beq_self_eq_true, Int.reduceEq, Nat.reduceEqDiff, List.length_singleton, List.tail_cons, Int.reduceLE, Int.reduceLT, decide_eq_true_eq, at_size hp, at_bt hp, hnx', w]
    rw [lettersG]
    by_cases h46 : c = 46
    · by_cases h0 : ((pre.length : Nat) : Int) = 0
      · have hc : (c = 46 ∧ (pre.length = 0 ∨ pre.length + 1 = s.size)) ∨ (97 ≤ c ∧ c ≤ 122) := .inl ⟨h46, .inl (by omega)⟩
        rw [decide_eq_true hc, Bool.true_and]
        simp only [h46, h0, strs_len, strs_elem, ints_len, ints_elem, items_list, fld_agg, elem_list, toStr_sc, toInt_sc, toBool_sc, headD_one, nat_int, get_bt, decide_eq_true_eq, decide_eq_false_iff_not, decide_true, decide_false, if_true, if_false, ite_self, Bool.not_true, Bool.not_false, Bool.false_eq_true, Bool.true_eq_false, Bool.true_and, Bool.false_and, Bool.and_true, Bool.and_false, not_true, not_false_iff, Option.bind_some, nn, toList_inj, Bool.not_eq_true', Bool.not_eq_false', Int.le_refl, and_self, true_and, and_true, false_and, and_false, bne_self_eq_false, beq_self_eq_true, Int.reduceEq, Nat.reduceEqDiff, List.length_singleton, List.tail_cons, Int.reduceLE, Int.reduceLT, decide_eq_true_eq]; exact hnx
      · by_cases h1 : ((pre.length : Nat) : Int) = (s.size : Int) - 1
        · have hc : (c = 46 ∧ (pre.length = 0 ∨ pre.length + 1 = s.size)) ∨ (97 ≤ c ∧ c ≤ 122) := .inl ⟨h46, .inr (by omega)⟩
          rw [decide_eq_true hc, Bool.true_and]
          simp only [h46, h0, h1, strs_len, strs_elem, ints_len, ints_elem, items_list, fld_agg, elem_list, toStr_sc, toInt_sc, toBool_sc, headD_one, nat_int, get_bt, decide_eq_true_eq, decide_eq_false_iff_not, decide_true, decide_false, if_true, if_false, ite_self, Bool.not_true, Bool.not_false, Bool.false_eq_true, Bool.true_eq_false, Bool.true_and, Bool.false_and, Bool.and_true, Bool.and_false, not_true, not_false_iff, Option.bind_some, nn, toList_inj, Bool.not_eq_true', Bool.not_eq_false', Int.le_refl, and_self, true_and, and_true, false_and, and_false, bne_self_eq_false, beq_self_eq_true, Int.reduceEq, Nat.reduceEqDiff, List.length_singleton, List.tail_cons, Int.reduceLE, Int.reduceLT, decide_eq_true_eq]
          exact hnx
        · have hc : ¬ ((c = 46 ∧ (pre.length = 0 ∨ pre.length + 1 = s.size)) ∨ (97 ≤ c ∧ c ≤ 122)) := by omega
          rw [decide_eq_false hc, Bool.false_and]
          have h97 : (46 : Int) < 97 := by omega
          simp only [h46, h0, h1, h97, strs_len, strs_elem, ints_len, ints_elem, items_list, fld_agg, elem_list, toStr_sc, toInt_sc, toBool_sc, headD_one, nat_int, get_bt, decide_eq_true_eq, decide_eq_false_iff_not, decide_true, decide_false, if_true, if_false, ite_self, Bool.not_true, Bool.not_false, Bool.false_eq_true, Bool.true_eq_false, Bool.true_and, Bool.false_and, Bool.and_true, Bool.and_false, not_true, not_false_iff, Option.bind_some, nn, toList_inj, Bool.not_eq_true', Bool.not_eq_false', Int.le_refl, and_self, true_and, and_true, false_and, and_false, bne_self_eq_false, beq_self_eq_true, Int.reduceEq, Nat.reduceEqDiff, List.length_singleton, List.tail_cons, Int.reduceLE, Int.reduceLT, decide_eq_true_eq]; exact Ev2.now _
    · by_cases h97 : c < 97
      · have hc : ¬ ((c = 46 ∧ (pre.length = 0 ∨ pre.length + 1 = s.size)) ∨ (97 ≤ c ∧ c ≤ 122)) := by omega
        rw [decide_eq_false hc, Bool.false_and]
        simp only [h46, h97, strs_len, strs_elem, ints_len, ints_elem, items_list, fld_agg, elem_list, toStr_sc, toInt_sc, toBool_sc, headD_one, nat_int, get_bt, decide_eq_true_eq, decide_eq_false_iff_not, decide_true, decide_false, if_true, if_false, ite_self, Bool.not_true, Bool.not_false, Bool.false_eq_true, Bool.true_eq_false, Bool.true_and, Bool.false_and, Bool.and_true, Bool.and_false, not_true, not_false_iff, Option.bind_some, nn, toList_inj, Bool.not_eq_true', Bool.not_eq_false', Int.le_refl, and_self, true_and, and_true, false_and, and_false, bne_self_eq_false, beq_self_eq_true, Int.reduceEq, Nat.reduceEqDiff, List.length_singleton, List.tail_cons, Int.reduceLE, Int.reduceLT, decide_eq_true_eq]; exact Ev2.now _
      · by_cases h122 : 122 < c
        · have hc : ¬ ((c = 46 ∧ (pre.length = 0 ∨ pre.length + 1 = s.size)) ∨ (97 ≤ c ∧ c ≤ 122)) := by omega
          rw [decide_eq_false hc, Bool.false_and]
          simp only [h46, h97, h122, strs_len, strs_elem, ints_len, ints_elem, items_list, fld_agg, elem_list, toStr_sc, toInt_sc, toBool_sc, headD_one, nat_int, get_bt, decide_eq_true_eq, decide_eq_false_iff_not, decide_true, decide_false, if_true, if_false, ite_self, Bool.not_true, Bool.not_false, Bool.false_eq_true, Bool.true_eq_false, Bool.true_and, Bool.false_and, Bool.and_true, Bool.and_false, not_true, not_false_iff, Option.bind_some, nn, toList_inj, Bool.not_eq_true', Bool.not_eq_false', Int.le_refl, and_self, true_and, and_true, false_and, and_false, bne_self_eq_false, beq_self_eq_true, Int.reduceEq, Nat.reduceEqDiff, List.length_singleton, List.tail_cons, Int.reduceLE, Int.reduceLT, decide_eq_true_eq]; exact Ev2.now _
        · have hc : (c = 46 ∧ (pre.length = 0 ∨ pre.length + 1 = s.size)) ∨ (97 ≤ c ∧ c ≤ 122) := .inr (by omega)
          rw [decide_eq_true hc, Bool.true_and]
          simp only [h46, h97, h122, strs_len, strs_elem, ints_len, ints_elem, items_list, fld_agg, elem_list, toStr_sc, toInt_sc, toBool_sc, headD_one, nat_int, get_bt, decide_eq_true_eq, decide_eq_false_iff_not, decide_true, decide_false, if_true, if_false, ite_self, Bool.not_true, Bool.not_false, Bool.false_eq_true, Bool.true_eq_false, Bool.true_and, Bool.false_and, Bool.and_true, Bool.and_false, not_true, not_false_iff, Option.bind_some, nn, toList_inj, Bool.not_eq_true', Bool.not_eq_false', Int.le_refl, and_self, true_and, and_true, false_and, and_false, bne_self_eq_false, beq_self_eq_true, Int.reduceEq, Nat.reduceEqDiff, List.length_singleton, List.tail_cons, Int.reduceLE, Int.reduceLT, decide_eq_true_eq]; exact hnx
theorem specPat_ev {p : Pat} (hp : PatB p) : Ev (fun N => spec_PatternOk.f N [patP p]) [boolP (patOk p)] := by
  simp only [spec_PatternOk.f_eq, pat_f0, pat_f1, toStr_sc]
  exact (specPat_l0 p.l p.ns hp.1 hp.2.1 (bytesOf p.l) [] rfl).diag
theorem implPat_l1 (ns : List Int) (hn : ns.length ≤ 100) : ∀ rest pre : List Int, ns = pre ++ rest →
    Ev2 (fun N n => impl_PatternOk.l1 N n (intsP ns) (ns.length : Int) (pre.length : Int)) [boolP (numsG rest)] := by
  intro rest
  induction rest with
  | nil =>
    intro pre hp
    refine Ev2.succ ?_
    simp only [impl_PatternOk.l1_eq, at_end hp, strs_len, strs_elem, ints_len, ints_elem, items_list, fld_agg, elem_list, toStr_sc, toInt_sc, toBool_sc, headD_one, nat_int, get_bt, decide_eq_true_eq, decide_eq_false_iff_not, decide_true, decide_false, if_true, if_false, ite_self, Bool.not_true, Bool.not_false, Bool.false_eq_true, Bool.true_eq_false, Bool.true_and, Bool.false_and, Bool.and_true, Bool.and_false, not_true, not_false_iff, Option.bind_some, nn, toList_inj, Bool.not_eq_true', Bool.not_eq_false', Int.le_refl, and_self, true_and, and_true, false_and, and_false, bne_self_eq_false, beq_self_eq_true, Int.reduceEq, Nat.reduceEqDiff, List.length_singleton, List.tail_cons, Int.reduceLE, Int.reduceLT, decide_eq_true_eq]
    exact Ev2.now _
  | cons v rest ih =>
    intro pre hp
    refine Ev2.succ ?_
    simp only [impl_PatternOk.l1_eq, implWithin_val, at_lt hp, at_getD hp, at_next hp (by omega), strs_len, strs_elem, ints_len, ints_elem, items_list, fld_agg, elem_list, toStr_sc, toInt_sc, toBool_sc, headD_one, nat_int, get_bt, decide_eq_true_eq, decide_eq_false_iff_not, decide_true, decide_false, if_true, if_false, ite_self, Bool.not_true, Bool.not_false, Bool.false_eq_true, Bool.true_eq_false, Bool.true_and, Bool.false_and, Bool.and_true, Bool.and_false, not_true, not_false_iff, Option.bind_some, nn, toList_inj, Bool.not_eq_true', Bool.not_eq_false', Int.le_refl, and_self, true_and, and_true, false_and, and_false, bne_self_eq_false, beq_self_eq_true, Int.reduceEq, Nat.reduceEqDiff, List.length_singleton, List.tail_cons, Int.reduceLE, Int.reduceLT, decide_eq_true_eq]
    rw [numsG_cons]
    by_cases h : 0 ≤ v ∧ v ≤ 9
    · simp only [h, strs_len, strs_elem, ints_len, ints_elem, items_list, fld_agg, elem_list, toStr_sc, toInt_sc, toBool_sc, headD_one, nat_int, get_bt, decide_eq_true_eq, decide_eq_false_iff_not, decide_true, decide_false, if_true, if_false, ite_self, Bool.not_true, Bool.not_false, Bool.false_eq_true, Bool.true_eq_false, Bool.true_and, Bool.false_and, Bool.and_true, Bool.and_false, not_true, not_false_iff, Option.bind_some, nn, toList_inj, Bool.not_eq_true', Bool.not_eq_false', Int.le_refl, and_self, true_and, and_true, false_and, and_false, bne_self_eq_false, beq_self_eq_true, Int.reduceEq, Nat.reduceEqDiff, List.length_singleton, List.tail_cons, Int.reduceLE, Int.reduceLT, decide_eq_true_eq]; exact ih _ (at_step hp)
    · simp only [h, strs_len, strs_elem, ints_len, ints_elem, items_list, fld_agg, elem_list, toStr_sc, toInt_sc, toBool_sc, headD_one, nat_int, get_bt, decide_eq_true_eq, decide_eq_false_iff_not, decide_true, decide_false, if_true, if_false, ite_self, Bool.not_true, Bool.not_false, Bool.false_eq_true, Bool.true_eq_false, Bool.true_and, Bool.false_and, Bool.and_true, Bool.and_false, not_true, not_false_iff, Option.bind_some, nn, toList_inj, Bool.not_eq_true', Bool.not_eq_false', Int.le_refl, and_self, true_and, and_true, false_and, and_false, bne_self_eq_false, beq_self_eq_true, Int.reduceEq, Nat.reduceEqDiff, List.length_singleton, List.tail_cons, Int.reduceLE, Int.reduceLT, decide_eq_true_eq]; exact Ev2.now _
theorem implPat_l0 (s : ByteArray) (ns : List Int) (hs : s.size ≤ 100) (hn : ns.length ≤ 100) : ∀ rest pre : List Int, bytesOf s = pre ++ rest →
    Ev2 (fun N n => impl_PatternOk.l0 N n (s.size : Int) (pre.length : Int) s (intsP ns)) [boolP (lettersG s.size pre.length rest && numsG ns)] := by
  intro rest
  induction rest with
  | nil =>
    intro pre hp
    refine Ev2.succ ?_
    simp only [impl_PatternOk.l0_eq, at_sizeE hp, lettersG, strs_len, strs_elem, ints_len, ints_elem, items_list, fld_agg, elem_list, toStr_sc, toInt_sc, toBool_sc, headD_one, nat_int, get_bt, decide_eq_true_eq, decide_eq_false_iff_not, decide_true, decide_false, if_true, if_false, ite_self, Bool.not_true, Bool.not_false, Bool.false_eq_true, Bool.true_eq_false, Bool.true_and, Bool.false_and, Bool.and_true, Bool.and_false, not_true, not_false_iff, Option.bind_some, nn, toList_inj, Bool.not_eq_true', Bool.not_eq_false', Int.le_refl, and_self, true_and, and_true, false_and, and_false, bne_self_eq_false, beq_self_eq_true, Int.reduceEq, Nat.reduceEqDiff, List.length_singleton, List.tail_cons, Int.reduceLE, Int.reduceLT, decide_eq_true_eq]
    exact (implPat_l1 ns hn ns [] rfl).after
  | cons c rest ih =>
    intro pre hp
    refine Ev2.succ ?_
    have hlt : pre.length < s.size := by have := at_size hp; omega
    have w : IntKind.i64.wrap ((s.size : Int) - 1) = (s.size : Int) - 1 := wrap_id (by omega) (by omega)
    have hnx := ih _ (at_step hp)
    have hnx' := at_next hp (by rw [bytesOf_len]; omega)
    have hlen : (pre ++ [c]).length = pre.length + 1 := by simp
    rw [hlen] at hnx
    rw [hlen] at hnx'
    have q1 : ((pre.length : Nat) : Int) ≤ ((pre.length + 1 : Nat) : Int) := by omega
    have q2 : ((pre.length + 1 : Nat) : Int) ≤ (s.size : Int) := by omega
    obtain ⟨x1, x2⟩ := ext1 s pre.length hlt
    have hlow := implLower_ev (s.extract pre.length (pre.length + 1)) (by omega)
    rw [x2, at_bt hp] at hlow
    have hlb : lowB [c] = decide (97 ≤ c ∧ c ≤ 122) := by simp [lowB]
    rw [hlb] at hlow
    have hfar : Ev2 (fun N n => (impl_lower.f N [strP (s.extract pre.length (pre.length + 1))]).bind fun t => if (!(t.headD default).toBool) = true then some [boolP false] else impl_PatternOk.l0 N n (s.size : Int) ((pre.length + 1 : Nat) : Int) s (intsP ns)) [boolP (decide (97 ≤ c ∧ c ≤ 122) && (lettersG s.size (pre.length + 1) rest && numsG ns))] := by
      refine Ev2.bind hlow ?_
      by_cases h : 97 ≤ c ∧ c ≤ 122
      · simp only [h, strs_len, strs_elem, ints_len, ints_elem, items_list, fld_agg, elem_list, toStr_sc, toInt_sc, toBool_sc, headD_one, nat_int, get_bt, decide_eq_true_eq, decide_eq_false_iff_not, decide_true, decide_false, if_true, if_false, ite_self, Bool.not_true, Bool.not_false, Bool.false_eq_true, Bool.true_eq_false, Bool.true_and, Bool.false_and, Bool.and_true, Bool.and_false, not_true, not_false_iff, Option.bind_some, nn, toList_inj, Bool.not_eq_true', Bool.not_eq_false', Int.le_refl, and_self, true_and, and_true, false_and, and_false, bne_self_eq_false, beq_self_eq_true, Int.reduceEq, Nat.reduceEqDiff, List.length_singleton, List.tail_cons, Int.reduceLE, Int.reduceLT, decide_eq_true_eq]; exact hnx
      · simp only [h, strs_len, strs_elem, ints_len, ints_elem, items_list, fld_agg, elem_list, toStr_sc, toInt_sc, toBool_sc, headD_one, nat_int, get_bt, decide_eq_true_eq, decide_eq_false_iff_not, decide_true, decide_false, if_true, if_false, ite_self, Bool.not_true, Bool.not_false, Bool.false_eq_true, Bool.true_eq_false, Bool.true_and, Bool.false_and, Bool.and_true, Bool.and_false, not_true, not_false_iff, Option.bind_some, nn, toList_inj, Bool.not_eq_true', Bool.not_eq_false', Int.le_refl, and_self, true_and, and_true, false_and, and_false, bne_self_eq_false, beq_self_eq_true, Int.reduceEq, Nat.reduceEqDiff, List.length_singleton, List.tail_cons, Int.reduceLE, Int.reduceLT, decide_eq_true_eq]; exact Ev2.now _
    simp only [impl_PatternOk.l0_eq, strs_len, strs_elem, ints_len, ints_elem, items_list, fld_agg, elem_list, toStr_sc, toInt_sc, toBool_sc, headD_one, nat_int, get_bt, decide_eq_true_eq, decide_eq_false_iff_not, decide_true, decide_false, if_true, if_false, ite_self, Bool.not_true, Bool.not_false, Bool.false_eq_true, Bool.true_eq_false, Bool.true_and, Bool.false_and, Bool.and_true, Bool.and_false, not_true, not_false_iff, Option.bind_some, nn, toList_inj, Bool.not_eq_true', Bool.not_eq_false', Int.le_refl, and_self, true_and, and_true, false_and, and_false, bne_self_eq_false, beq_self_eq_true, Int.reduceEq, Nat.reduceEqDiff, List.length_singleton, List.tail_cons, Int.reduceLE, Int.reduceLT, decide_eq_true_eq, at_size hp, at_bt hp, hnx', w, q1, q2]
    rw [lettersG]
    by_cases h46 : c = 46
    · by_cases h0 : ((pre.length : Nat) : Int) = 0
      · have hc : (c = 46 ∧ (pre.length = 0 ∨ pre.length + 1 = s.size)) ∨ (97 ≤ c ∧ c ≤ 122) := .inl ⟨h46, .inl (by omega)⟩
        rw [decide_eq_true hc, Bool.true_and]
        simp only [h46, h0, strs_len, strs_elem, ints_len, ints_elem, items_list, fld_agg, elem_list, toStr_sc, toInt_sc, toBool_sc, headD_one, nat_int, get_bt, decide_eq_true_eq, decide_eq_false_iff_not, decide_true, decide_false, if_true, if_false, ite_self, Bool.not_true, Bool.not_false, Bool.false_eq_true, Bool.true_eq_false, Bool.true_and, Bool.false_and, Bool.and_true, Bool.and_false, not_true, not_false_iff, Option.bind_some, nn, toList_inj, Bool.not_eq_true', Bool.not_eq_false', Int.le_refl, and_self, true_and, and_true, false_and, and_false, bne_self_eq_false, beq_self_eq_true, Int.reduceEq, Nat.reduceEqDiff, List.length_singleton, List.tail_cons, Int.reduceLE, Int.reduceLT, decide_eq_true_eq]; exact hnx
      · by_cases h1 : ((pre.length : Nat) : Int) = (s.size : Int) - 1
        · have hc : (c = 46 ∧ (pre.length = 0 ∨ pre.length + 1 = s.size)) ∨ (97 ≤ c ∧ c ≤ 122) := .inl ⟨h46, .inr (by omega)⟩
          rw [decide_eq_true hc, Bool.true_and]
          simp only [h46, h0, h1, strs_len, strs_elem, ints_len, ints_elem, items_list, fld_agg, elem_list, toStr_sc, toInt_sc, toBool_sc, headD_one, nat_int, get_bt, decide_eq_true_eq, decide_eq_false_iff_not, decide_true, decide_false, if_true, if_false, ite_self, Bool.not_true, Bool.not_false, Bool.false_eq_true, Bool.true_eq_false, Bool.true_and, Bool.false_and, Bool.and_true, Bool.and_false, not_true, not_false_iff, Option.bind_some, nn, toList_inj, Bool.not_eq_true', Bool.not_eq_false', Int.le_refl, and_self, true_and, and_true, false_and, and_false, bne_self_eq_false, beq_self_eq_true, Int.reduceEq, Nat.reduceEqDiff, List.length_singleton, List.tail_cons, Int.reduceLE, Int.reduceLT, decide_eq_true_eq]
          exact hnx
        · have hc : decide ((c = 46 ∧ (pre.length = 0 ∨ pre.length + 1 = s.size)) ∨ (97 ≤ c ∧ c ≤ 122)) = decide (97 ≤ c ∧ c ≤ 122) := decide_eq_decide.2 (by omega)
          rw [hc, Bool.and_assoc]
          simp only [h46, h0, h1, strs_len, strs_elem, ints_len, ints_elem, items_list, fld_agg, elem_list, toStr_sc, toInt_sc, toBool_sc, headD_one, nat_int, get_bt, decide_eq_true_eq, decide_eq_false_iff_not, decide_true, decide_false, if_true, if_false, ite_self, Bool.not_true, Bool.not_false, Bool.false_eq_true, Bool.true_eq_false, Bool.true_and, Bool.false_and, Bool.and_true, Bool.and_false, not_true, not_false_iff, Option.bind_some, nn, toList_inj, Bool.not_eq_true', Bool.not_eq_false', Int.le_refl, and_self, true_and, and_true, false_and, and_false, bne_self_eq_false, beq_self_eq_true, Int.reduceEq, Nat.reduceEqDiff, List.length_singleton, List.tail_cons, Int.reduceLE, Int.reduceLT, decide_eq_true_eq]
          have hz : decide (97 ≤ c ∧ c ≤ 122) = false := decide_eq_false (by omega)
          rw [hz, Bool.false_and] at hfar
          simpa only [Bool.not_eq_true'] using hfar
    · have hc : decide ((c = 46 ∧ (pre.length = 0 ∨ pre.length + 1 = s.size)) ∨ (97 ≤ c ∧ c ≤ 122)) = decide (97 ≤ c ∧ c ≤ 122) := decide_eq_decide.2 (by omega)
      rw [hc, Bool.and_assoc]
      simp only [h46, strs_len, strs_elem, ints_len, ints_elem, items_list, fld_agg, elem_list, toStr_sc, toInt_sc, toBool_sc, headD_one, nat_int, get_bt, decide_eq_true_eq, decide_eq_false_iff_not, decide_true, decide_false, if_true, if_false, ite_self, Bool.not_true, Bool.not_false, Bool.false_eq_true, Bool.true_eq_false, Bool.true_and, Bool.false_and, Bool.and_true, Bool.and_false, not_true, not_false_iff, Option.bind_some, nn, toList_inj, Bool.not_eq_true', Bool.not_eq_false', Int.le_refl, and_self, true_and, and_true, false_and, and_false, bne_self_eq_false, beq_self_eq_true, Int.reduceEq, Nat.reduceEqDiff, List.length_singleton, List.tail_cons, Int.reduceLE, Int.reduceLT, decide_eq_true_eq]
      simpa only [Bool.not_eq_true'] using hfar
theorem implPat_ev {p : Pat} (hp : PatB p) : Ev (fun N => impl_PatternOk.f N [patP p]) [boolP (patOk p)] := by
  have hs := hp.1; have hn := hp.2.1
  have w : IntKind.i64.wrap ((p.l.size : Int) + 1) = ((p.l.size + 1 : Nat) : Int) := by rw [wrap_id (by omega) (by omega)]; omega
  have e : (((p.ns.length : Nat) : Int) = ((p.l.size + 1 : Nat) : Int)) = (p.ns.length = p.l.size + 1) := propext ⟨fun h => by omega, fun h => by omega⟩
  simp only [impl_PatternOk.f_eq, pat_f0, pat_f1, implWithin_val, w, e, strs_len, strs_elem, ints_len, ints_elem, items_list, fld_agg, elem_list, toStr_sc, toInt_sc, toBool_sc, headD_one, nat_int, get_bt, decide_eq_true_eq, decide_eq_false_iff_not, decide_true, decide_false, if_true, if_false, ite_self, Bool.not_true, Bool.not_false, Bool.false_eq_true, Bool.true_eq_false, Bool.true_and, Bool.false_and, Bool.and_true, Bool.and_false, not_true, not_false_iff, Option.bind_some, nn, toList_inj, Bool.not_eq_true', Bool.not_eq_false', Int.le_refl, and_self, true_and, and_true, false_and, and_false, bne_self_eq_false, beq_self_eq_true, Int.reduceEq, Nat.reduceEqDiff, List.length_singleton, List.tail_cons, Int.reduceLE, Int.reduceLT, decide_eq_true_eq]
  unfold patOk
  by_cases h : 1 ≤ p.l.size ∧ p.l.size ≤ 8
  · have h' : (1 : Int) ≤ (p.l.size : Int) ∧ (p.l.size : Int) ≤ 8 := by omega
    by_cases h2 : p.ns.length = p.l.size + 1
    · simp only [h', h, h2, strs_len, strs_elem, ints_len, ints_elem, items_list, fld_agg, elem_list, toStr_sc, toInt_sc, toBool_sc, headD_one, nat_int, get_bt, decide_eq_true_eq, decide_eq_false_iff_not, decide_true, decide_false, if_true, if_false, ite_self, Bool.not_true, Bool.not_false, Bool.false_eq_true, Bool.true_eq_false, Bool.true_and, Bool.false_and, Bool.and_true, Bool.and_false, not_true, not_false_iff, Option.bind_some, nn, toList_inj, Bool.not_eq_true', Bool.not_eq_false', Int.le_refl, and_self, true_and, and_true, false_and, and_false, bne_self_eq_false, beq_self_eq_true, Int.reduceEq, Nat.reduceEqDiff, List.length_singleton, List.tail_cons, Int.reduceLE, Int.reduceLT, decide_eq_true_eq]
      have := (implPat_l0 p.l p.ns hs hn (bytesOf p.l) [] rfl).diag
      exact this
    · simp only [h', h, h2, strs_len, strs_elem, ints_len, ints_elem, items_list, fld_agg, elem_list, toStr_sc, toInt_sc, toBool_sc, headD_one, nat_int, get_bt, decide_eq_true_eq, decide_eq_false_iff_not, decide_true, decide_false, if_true, if_false, ite_self, Bool.not_true, Bool.not_false, Bool.false_eq_true, Bool.true_eq_false, Bool.true_and, Bool.false_and, Bool.and_true, Bool.and_false, not_true, not_false_iff, Option.bind_some, nn, toList_inj, Bool.not_eq_true', Bool.not_eq_false', Int.le_refl, and_self, true_and, and_true, false_and, and_false, bne_self_eq_false, beq_self_eq_true, Int.reduceEq, Nat.reduceEqDiff, List.length_singleton, List.tail_cons, Int.reduceLE, Int.reduceLT, decide_eq_true_eq]; exact Ev.now _
  · have h' : ¬ ((1 : Int) ≤ (p.l.size : Int) ∧ (p.l.size : Int) ≤ 8) := by omega
    simp only [h', h, strs_len, strs_elem, ints_len, ints_elem, items_list, fld_agg, elem_list, toStr_sc, toInt_sc, toBool_sc, headD_one, nat_int, get_bt, decide_eq_true_eq, decide_eq_false_iff_not, decide_true, decide_false, if_true, if_false, ite_self, Bool.not_true, Bool.not_false, Bool.false_eq_true, Bool.true_eq_false, Bool.true_and, Bool.false_and, Bool.and_true, Bool.and_false, not_true, not_false_iff, Option.bind_some, nn, toList_inj, Bool.not_eq_true', Bool.not_eq_false', Int.le_refl, and_self, true_and, and_true, false_and, and_false, bne_self_eq_false, beq_self_eq_true, Int.reduceEq, Nat.reduceEqDiff, List.length_singleton, List.tail_cons, Int.reduceLE, Int.reduceLT, decide_eq_true_eq]; exact Ev.now _
def patsOk (l : List Pat) : Bool := l.all patOk
theorem patsOk_cons (p : Pat) (l : List Pat) : patsOk (p :: l) = (patOk p && patsOk l) := by simp [patsOk]
theorem specPats_ev {l : List Pat} (hl : PatsB l) : Ev (fun N => spec_l9Patterns.f N [patsP l]) [boolP (patsOk l && decide (l.length ≤ 20))] := by
  have hle := hl.1
  have key : ∀ rest pre : List Pat, l = pre ++ rest → Ev2 (fun N n => spec_l9Patterns.l0 N n (patsP l) (pre.length : Int)) [boolP (patsOk rest && decide (l.length ≤ 20))] := by
    intro rest
    induction rest with
    | nil =>
      intro pre hp
      refine Ev2.succ ?_
      have e : (((l.length : Nat) : Int) ≤ 20) = (l.length ≤ 20) := propext ⟨fun h => by omega, fun h => by omega⟩
      simp only [spec_l9Patterns.l0_eq, pats_len, at_end hp, e, strs_len, strs_elem, ints_len, ints_elem, items_list, fld_agg, elem_list, toStr_sc, toInt_sc, toBool_sc, headD_one, nat_int, get_bt, decide_eq_true_eq, decide_eq_false_iff_not, decide_true, decide_false, if_true, if_false, ite_self, Bool.not_true, Bool.not_false, Bool.false_eq_true, Bool.true_eq_false, Bool.true_and, Bool.false_and, Bool.and_true, Bool.and_false, not_true, not_false_iff, Option.bind_some, nn, toList_inj, Bool.not_eq_true', Bool.not_eq_false', Int.le_refl, and_self, true_and, and_true, false_and, and_false, bne_self_eq_false, beq_self_eq_true, Int.reduceEq, Nat.reduceEqDiff, List.length_singleton, List.tail_cons, Int.reduceLE, Int.reduceLT, decide_eq_true_eq]
      exact Ev2.now _
    | cons c rest ih =>
      intro pre hp
      refine Ev2.succ ?_
      have hm : PatB c := hl.2 c (by rw [hp]; simp)
      simp only [spec_l9Patterns.l0_eq, pats_len, at_lt hp, nat_int, nn, pats_elem hp, pat_f0, pat_f1, toStr_sc, pat_agg, decide_true, if_true, at_next hp (by omega)]
      refine Ev2.bind (specPat_ev hm) ?_
      rw [patsOk_cons]
      by_cases h : patOk c = true
      · simp only [h, headD_one, toBool_sc, Bool.not_true, Bool.false_eq_true, if_false, Bool.true_and]; exact ih _ (at_step hp)
      · simp only [Bool.not_eq_true] at h
        simp only [h, headD_one, toBool_sc, Bool.not_false, if_true, Bool.false_and]; exact Ev2.now _
  simp only [spec_l9Patterns.f_eq]
  exact (key l [] rfl).diag
theorem implPats_ev {l : List Pat} (hl : PatsB l) : Ev (fun N => impl_patternsOk.f N [patsP l]) [boolP (patsOk l && decide (l.length ≤ 20))] := by
  have hle := hl.1
  have key : ∀ rest pre : List Pat, l = pre ++ rest → Ev2 (fun N n => impl_patternsOk.l0 N n (patsP l) (patsP l) (l.length : Int) (pre.length : Int)) [boolP (patsOk rest && decide (l.length ≤ 20))] := by
    intro rest
    induction rest with
    | nil =>
      intro pre hp
      refine Ev2.succ ?_
      have e : (((l.length : Nat) : Int) ≤ 20) = (l.length ≤ 20) := propext ⟨fun h => by omega, fun h => by omega⟩
      simp only [impl_patternsOk.l0_eq, pats_len, at_end hp, e, strs_len, strs_elem, ints_len, ints_elem, items_list, fld_agg, elem_list, toStr_sc, toInt_sc, toBool_sc, headD_one, nat_int, get_bt, decide_eq_true_eq, decide_eq_false_iff_not, decide_true, decide_false, if_true, if_false, ite_self, Bool.not_true, Bool.not_false, Bool.false_eq_true, Bool.true_eq_false, Bool.true_and, Bool.false_and, Bool.and_true, Bool.and_false, not_true, not_false_iff, Option.bind_some, nn, toList_inj, Bool.not_eq_true', Bool.not_eq_false', Int.le_refl, and_self, true_and, and_true, false_and, and_false, bne_self_eq_false, beq_self_eq_true, Int.reduceEq, Nat.reduceEqDiff, List.length_singleton, List.tail_cons, Int.reduceLE, Int.reduceLT, decide_eq_true_eq]
      exact Ev2.now _
    | cons c rest ih =>
      intro pre hp
      refine Ev2.succ ?_
      have hm : PatB c := hl.2 c (by rw [hp]; simp)
      simp only [impl_patternsOk.l0_eq, pats_len, at_lt hp, nat_int, nn, pats_elem hp, pat_f0, pat_f1, toStr_sc, pat_agg, decide_true, if_true, at_next hp (by omega)]
      refine Ev2.bind (implPat_ev hm) ?_
      rw [patsOk_cons]
      by_cases h : patOk c = true
      · simp only [h, headD_one, toBool_sc, Bool.not_true, Bool.false_eq_true, if_false, Bool.true_and]; exact ih _ (at_step hp)
      · simp only [Bool.not_eq_true] at h
        simp only [h, headD_one, toBool_sc, Bool.not_false, if_true, Bool.false_and]; exact Ev2.now _
  simp only [impl_patternsOk.f_eq, pats_len]
  exact (key l [] rfl).diag
/-! #### the greatest numbers -/
def upd (f : Nat → Int) (p : Nat) (v : Int) : Nat → Int := fun q => if q = p then maxI (f p) v else f q
def addAt : (Nat → Int) → Nat → List Int → Nat → Int
  | f, _, [] => f
  | f, k, v :: r => addAt (upd f k v) (k + 1) r
def hit (s l : ByteArray) (k : Nat) : Bool := decide (k + l.size ≤ s.size ∧ s.extract k (k + l.size) = l)
def addKs (s : ByteArray) (p : Pat) : Nat → Nat → (Nat → Int) → (Nat → Int)
  | 0, _, f => f
  | c + 1, k, f => addKs s p c (k + 1) (if hit s p.l k = true then addAt f k p.ns else f)
def addPs (s : ByteArray) : List Pat → (Nat → Int) → Nat → Int
  | [], f => f
  | p :: r, f => addPs s r (addKs s p s.size 0 f)
theorem addKs_none (s : ByteArray) (p : Pat) (f : Nat → Int) : ∀ c k, s.size < k + p.l.size → addKs s p c k f = f := by
  intro c
  induction c with
  | zero => intro k _; rfl
  | succ c ih =>
    intro k h
    have hh : hit s p.l k = false := decide_eq_false (fun h' => by omega)
    rw [addKs, hh, if_neg (by simp), ih (k + 1) (by omega)]
def rowF (L : Nat) (f : Nat → Int) : List PV := ((List.range L).map f).map intP
theorem rowF_len (L : Nat) (f : Nat → Int) : (rowF L f).length = L := by simp [rowF]
theorem rowF_at {L k : Nat} {f : Nat → Int} (hk : k < L) : ((PV.list (rowF L f)).elem k).toInt = f k := by
  have := ints_elem ((List.range L).map f) k
  have e : ((PV.list (rowF L f)).elem k).toInt = ((List.range L).map f).getD k 0 := this
  rw [e, List.getD_eq_getElem?_getD]; simp [hk]
theorem rowF_set {L k : Nat} {f : Nat → Int} (v : Int) : (rowF L f).set k (intP v) = rowF L (fun q => if q = k then v else f q) := by
  apply List.ext_getElem?
  intro j
  simp only [rowF, List.getElem?_set, List.getElem?_map, List.length_map, List.length_range]
  by_cases hj : k = j
  · subst hj
    by_cases hk : k < L
    · simp [hk]
    · simp [hk]
  · have hj' : ¬ j = k := fun h => hj h.symm
    rw [if_neg hj]
    by_cases hjm : j < L
    · simp [hjm, hj']
    · simp [hjm]
theorem rowF_congr {L : Nat} {f g : Nat → Int} (h : ∀ q, q < L → f q = g q) : rowF L f = rowF L g := by
  unfold rowF
  exact congrArg (List.map intP) (List.map_congr_left (fun q hq => h q (by simpa using hq)))
theorem rowF_zero (L : Nat) : List.replicate L (PV.sc (.int .i64 0)) = rowF L (fun _ => 0) := by simp [rowF, List.map_const']
theorem rowF_upd {L p : Nat} {f : Nat → Int} {v : Int} (h : f p < v) : (rowF L f).set p (intP v) = rowF L (upd f p v) := by
  rw [rowF_set]
  refine rowF_congr (fun q _ => ?_)
  unfold upd maxI
  rw [if_pos h]
theorem rowF_stay {L p : Nat} {f : Nat → Int} {v : Int} (h : ¬ f p < v) : rowF L f = rowF L (upd f p v) := by
  refine rowF_congr (fun q _ => ?_)
  unfold upd maxI
  rw [if_neg h]
  split
  · rename_i h; rw [h]
  · rfl
section
variable {ps pr rest : List Pat} {p : Pat} {s : ByteArray}
theorem specM_l2 (hs : s.size ≤ 50) (hps : ps = pr ++ p :: rest) (hp : PatB p) (hnl : p.ns.length = p.l.size + 1) {k : Nat} (hk : hit s p.l k = true) {R : List PV} :
    ∀ (r prn : List Int) (f : Nat → Int), p.ns = prn ++ r → Ev3 (fun N m0 n => spec_l9Marks.l1 N m0 n (patsP ps) s (pr.length : Int) (p.l.size : Int) ((k + 1 : Nat) : Int) (rowF (s.size + 1) (addAt f (k + prn.length) r))) R →
    Ev4 (fun N m0 m1 n => spec_l9Marks.l2 N m0 m1 n (patsP ps) s (pr.length : Int) (p.l.size : Int) (k : Int) (prn.length : Int) (rowF (s.size + 1) f)) R := by
  obtain ⟨hk1, hk2⟩ := of_decide_eq_true hk
  have b1 := hp.1; have b2 := hp.2.1
  have w1 : IntKind.i64.wrap ((k : Int) + 1) = ((k + 1 : Nat) : Int) := by rw [wrap_id (by omega) (by omega)]; omega
  intro r
  induction r with
  | nil =>
    intro prn f hn hR
    have hl : prn.length = p.l.size + 1 := by rw [← hnl, hn]; simp
    refine Ev4.succ ?_
    have z : ¬ ((prn.length : Nat) : Int) ≤ (p.l.size : Int) := by omega
    simp only [spec_l9Marks.l2_eq, z, w1, decide_false, Bool.false_eq_true, if_false]
    exact hR.outer
  | cons v r ih =>
    intro prn f hn hR
    have hjl : prn.length < p.ns.length := at_ltN hn
    refine Ev4.succ ?_
    have z : ((prn.length : Nat) : Int) ≤ (p.l.size : Int) := by omega
    have w2 : IntKind.i64.wrap ((k : Int) + (p.l.size : Int)) = ((k + p.l.size : Nat) : Int) := by rw [wrap_id (by omega) (by omega)]; omega
    have w3 : IntKind.i64.wrap ((k : Int) + ((prn.length : Nat) : Int)) = ((k + prn.length : Nat) : Int) := by rw [wrap_id (by omega) (by omega)]; omega
    have w4 : IntKind.i64.wrap (((prn.length : Nat) : Int) + 1) = ((prn.length + 1 : Nat) : Int) := by rw [wrap_id (by omega) (by omega)]; omega
    have q1 : (k : Int) ≤ ((k + p.l.size : Nat) : Int) := by omega
    have q2 : ((k + p.l.size : Nat) : Int) ≤ (s.size : Int) := by omega
    have q3 : ((pr.length : Nat) : Int) < (((patsP ps).items.length : Nat) : Int) := by rw [pats_len]; exact at_lt hps
    have q4 : ((prn.length : Nat) : Int) < (((intsP p.ns).items.length : Nat) : Int) := by rw [ints_len]; omega
    have q5 : ((k + prn.length : Nat) : Int) < (((rowF (s.size + 1) f).length : Nat) : Int) := by rw [rowF_len]; omega
    have e1 : ((intsP p.ns).elem prn.length).toInt = v := by rw [ints_elem]; exact at_getD hn
    have e2 := rowF_at (L := s.size + 1) (f := f) (show k + prn.length < s.size + 1 by omega)
    have hl : (prn ++ [v]).length = prn.length + 1 := by simp
    have hi := ih (prn ++ [v]) (upd f (k + prn.length) v) (at_step hn) (by rw [hl]; exact hR)
    rw [hl] at hi
    have hx : (s.extract k (k + p.l.size)).toList = p.l.toList := by rw [hk2]
    by_cases hv : f (k + prn.length) < v
    · have hset := rowF_upd (L := s.size + 1) hv
      simp only [spec_l9Marks.l2_eq, z, w1, w2, w3, w4, q1, q2, q3, q4, q5, pats_elem hps, pat_f0, pat_f1, toStr_sc, nn, nat_int, e1, e2, hx, hv, hset, decide_true, if_true]
      exact hi
    · rw [← rowF_stay hv] at hi
      simp only [spec_l9Marks.l2_eq, z, w1, w2, w3, w4, q1, q2, q3, q4, q5, pats_elem hps, pat_f0, pat_f1, toStr_sc, nn, nat_int, e1, e2, hx, hv, decide_true, decide_false, Bool.false_eq_true, if_true, if_false]
      exact hi
theorem specM_l1 (hs : s.size ≤ 50) (hps : ps = pr ++ p :: rest) (hpl : ps.length ≤ 100) (hp : PatB p) (hn1 : 1 ≤ p.l.size) (hnl : p.ns.length = p.l.size + 1) {R : List PV} :
    ∀ (c k : Nat) (f : Nat → Int), k + c = s.size → Ev2 (fun N n => spec_l9Marks.l0 N n (patsP ps) s ((pr.length + 1 : Nat) : Int) (rowF (s.size + 1) (addKs s p c k f))) R →
    Ev3 (fun N m0 n => spec_l9Marks.l1 N m0 n (patsP ps) s (pr.length : Int) (p.l.size : Int) (k : Int) (rowF (s.size + 1) f)) R := by
  have b1 := hp.1; have b2 := hp.2.1
  have hlt := at_ltN hps
  have wi : IntKind.i64.wrap (((pr.length : Nat) : Int) + 1) = ((pr.length + 1 : Nat) : Int) := by rw [wrap_id (by omega) (by omega)]; omega
  intro c
  induction c with
  | zero =>
    intro k f hk hR
    refine Ev3.succ ?_
    have w2 : IntKind.i64.wrap ((k : Int) + (p.l.size : Int)) = ((k + p.l.size : Nat) : Int) := by rw [wrap_id (by omega) (by omega)]; omega
    have z : ¬ ((k + p.l.size : Nat) : Int) ≤ (s.size : Int) := by omega
    simp only [spec_l9Marks.l1_eq, w2, z, wi, decide_false, Bool.false_eq_true, if_false]
    exact hR.outer
  | succ c ih =>
    intro k f hk hR
    refine Ev3.succ ?_
    have w2 : IntKind.i64.wrap ((k : Int) + (p.l.size : Int)) = ((k + p.l.size : Nat) : Int) := by rw [wrap_id (by omega) (by omega)]; omega
    by_cases hz : k + p.l.size ≤ s.size
    · have z : ((k + p.l.size : Nat) : Int) ≤ (s.size : Int) := by omega
      simp only [spec_l9Marks.l1_eq, w2, z, decide_true, if_true]
      rw [addKs] at hR
      by_cases hh : hit s p.l k = true
      · rw [if_pos hh] at hR
        exact (specM_l2 hs hps hp hnl hh p.ns [] f rfl (ih (k + 1) _ (by omega) hR)).start
      · rw [if_neg hh] at hR
        refine Ev4.start (g := fun N m0 m1 n => spec_l9Marks.l2 N m0 m1 n (patsP ps) s (pr.length : Int) (p.l.size : Int) (k : Int) 0 (rowF (s.size + 1) f)) (Ev4.succ ?_)
        have w1 : IntKind.i64.wrap ((k : Int) + 1) = ((k + 1 : Nat) : Int) := by rw [wrap_id (by omega) (by omega)]; omega
        have z0 : (0 : Int) ≤ (p.l.size : Int) := by omega
        have q1 : (k : Int) ≤ ((k + p.l.size : Nat) : Int) := by omega
        have q3 : ((pr.length : Nat) : Int) < (((patsP ps).items.length : Nat) : Int) := by rw [pats_len]; exact at_lt hps
        have hx : ¬ (s.extract k (k + p.l.size)) = p.l := fun h => hh (decide_eq_true ⟨hz, h⟩)
        simp only [spec_l9Marks.l2_eq, z0, w1, w2, q1, z, q3, pats_elem hps, pat_f0, toStr_sc, nn, nat_int, toList_inj, hx, decide_true, decide_false, Bool.false_eq_true, if_true, if_false]
        exact (ih (k + 1) f (by omega) hR).outer
    · have z : ¬ ((k + p.l.size : Nat) : Int) ≤ (s.size : Int) := by omega
      rw [addKs_none s p f (c + 1) k (by omega)] at hR
      simp only [spec_l9Marks.l1_eq, w2, z, wi, decide_false, Bool.false_eq_true, if_false]
      exact hR.outer
end
theorem patOk_parts {p : Pat} (h : patOk p = true) : 1 ≤ p.l.size ∧ p.ns.length = p.l.size + 1 := by
  unfold patOk at h
  simp only [Bool.and_eq_true, decide_eq_true_eq] at h
  exact ⟨h.2.2.1.1, h.2.2.2⟩
theorem specMarks_ev {ps : List Pat} {s : ByteArray} (hs : s.size ≤ 50) (hps : PatsB ps) (hok : patsOk ps = true) : Ev (fun N => spec_l9Marks.f N [patsP ps, strP s]) [PV.list (rowF (s.size + 1) (addPs s ps (fun _ => 0)))] := by
  have key : ∀ (rest pr : List Pat) (f : Nat → Int), ps = pr ++ rest → Ev2 (fun N n => spec_l9Marks.l0 N n (patsP ps) s (pr.length : Int) (rowF (s.size + 1) f)) [PV.list (rowF (s.size + 1) (addPs s rest f))] := by
    intro rest
    induction rest with
    | nil =>
      intro pr f hp
      refine Ev2.succ ?_
      simp only [spec_l9Marks.l0_eq, pats_len, at_end hp, decide_false, Bool.false_eq_true, if_false]
      exact Ev2.now _
    | cons p rest ih =>
      intro pr f hp
      refine Ev2.succ ?_
      have hm : p ∈ ps := by rw [hp]; simp
      obtain ⟨o1, o2⟩ := patOk_parts (List.all_eq_true.1 hok p hm)
      have hl : (pr ++ [p]).length = pr.length + 1 := by simp
      have hi := ih (pr ++ [p]) (addKs s p s.size 0 f) (at_step hp)
      rw [hl] at hi
      simp only [spec_l9Marks.l0_eq, pats_len, at_lt hp, pats_elem hp, pat_f0, toStr_sc, nn, nat_int, decide_true, if_true]
      exact (specM_l1 hs hp hps.1 (hps.2 p hm) o1 o2 s.size 0 f (by omega) hi).start
  have w : IntKind.i64.wrap ((s.size : Int) + 1) = ((s.size + 1 : Nat) : Int) := by rw [wrap_id (by omega) (by omega)]; omega
  have c1 : s.size + 1 ≤ 35184372088832 := by omega
  simp only [spec_l9Marks.f_eq, toStr_sc, w, nn, nat_int, Int.le_refl, c1, rowF_zero, if_true]
  exact (key ps [] (fun _ => 0) rfl).diag
/-! #### where a word may be split -/
theorem app_bytes (a b : ByteArray) : bytesOf (a ++ b) = bytesOf a ++ bytesOf b := by simp [bytesOf, ByteArray.data_append]
theorem ext_bytes (s : ByteArray) (i j : Nat) : bytesOf (s.extract i j) = ((bytesOf s).drop i).take (j - i) := by
  unfold bytesOf
  rw [ByteArray.data_extract]
  simp [List.map_take, List.map_drop]
theorem ext_ext (s : ByteArray) (k n : Nat) (h : k + n ≤ s.size) : (s.extract k s.size).extract 0 n = s.extract k (k + n) := by
  apply bytesOf_inj
  rw [ext_bytes, ext_bytes, ext_bytes]
  have hl : (bytesOf s).length = s.size := bytesOf_len s
  simp only [List.drop_zero, Nat.sub_zero, List.take_take]
  congr 1; omega
theorem hasPre_val (d l : ByteArray) (k : Nat) (hk : k ≤ d.size) (N : Nat) : strings_HasPrefix.f N [strP (d.extract k d.size), strP l] = some [boolP (hit d l k)] := by
  have hz : (d.extract k d.size).size = d.size - k := by rw [ByteArray.size_extract]; omega
  simp only [strings_HasPrefix.f_eq, stringslite_HasPrefix.f_eq, toStr_sc, hz]
  by_cases h : k + l.size ≤ d.size
  · have h1 : (l.size : Int) ≤ ((d.size - k : Nat) : Int) := by omega
    have e : decide (d.extract k (k + l.size) = l) = hit d l k := by unfold hit; exact decide_eq_decide.2 ⟨fun h2 => ⟨h, h2⟩, fun h2 => h2.2⟩
    simp only [h1, nn, ext_ext d k l.size h, toList_inj, e, headD_one, toBool_sc, decide_true, if_true, Option.bind_some]
  · have h1 : ¬ (l.size : Int) ≤ ((d.size - k : Nat) : Int) := by omega
    have e : hit d l k = false := decide_eq_false (fun h2 => h h2.1)
    simp only [h1, e, headD_one, toBool_sc, decide_false, Bool.false_eq_true, if_false, Option.bind_some]
def rowG (L : Nat) (f : Nat → Int) : List PV := rowF L (fun q => f (q + 1))
section
variable {ps pr rest : List Pat} {p : Pat} {w d : ByteArray}
theorem implM_l3 (hw : w.size ≤ 12) (hd : d.size = w.size + 2) (hp : PatB p) {k : Nat} (hk : k ≤ d.size) {L i : Int} {R : List PV} :
    ∀ (r prn : List Int) (f : Nat → Int), p.ns = prn ++ r → Ev3 (fun N m0 n => impl_SplitAt.l1 N m0 n w d (patsP ps) L i (d.size : Int) ((k + 1 : Nat) : Int) [] (rowG (w.size + 1) (addAt f (k + prn.length) r)) p.l (intsP p.ns)) R →
    Ev4 (fun N m0 m1 n => impl_SplitAt.l3 N m0 m1 n w d (k : Int) (patsP ps) L i (d.size : Int) (k : Int) (intsP p.ns) (p.ns.length : Int) (prn.length : Int) [] (rowG (w.size + 1) f) p.l (intsP p.ns)) R := by
  have b1 := hp.1; have b2 := hp.2.1
  have w1 : IntKind.i64.wrap ((k : Int) + 1) = ((k + 1 : Nat) : Int) := by rw [wrap_id (by omega) (by omega)]; omega
  intro r
  induction r with
  | nil =>
    intro prn f hn hR
    refine Ev4.succ ?_
    simp only [impl_SplitAt.l3_eq, at_end hn, w1, decide_false, Bool.false_eq_true, if_false]
    exact hR.outer
  | cons v r ih =>
    intro prn f hn hR
    have hjl : prn.length < p.ns.length := at_ltN hn
    refine Ev4.succ ?_
    have w4 : IntKind.i64.wrap (((prn.length : Nat) : Int) + 1) = ((prn.length + 1 : Nat) : Int) := by rw [wrap_id (by omega) (by omega)]; omega
    have w3 : IntKind.i64.wrap ((k : Int) + ((prn.length : Nat) : Int)) = ((k + prn.length : Nat) : Int) := by rw [wrap_id (by omega) (by omega)]; omega
    have w5 : IntKind.i64.wrap (((k + prn.length : Nat) : Int) - 1) = ((k + prn.length : Nat) : Int) - 1 := wrap_id (by omega) (by omega)
    have q4 : ((prn.length : Nat) : Int) < (((intsP p.ns).items.length : Nat) : Int) := by rw [ints_len]; omega
    have e1 : ((intsP p.ns).elem prn.length).toInt = v := by rw [ints_elem]; exact at_getD hn
    have hl : (prn ++ [v]).length = prn.length + 1 := by simp
    have hi := ih (prn ++ [v]) (upd f (k + prn.length) v) (at_step hn) (by rw [hl]; exact hR)
    rw [hl] at hi
    by_cases hz : 1 ≤ k + prn.length ∧ k + prn.length ≤ w.size + 1
    · obtain ⟨m, hm⟩ : ∃ m, k + prn.length = m + 1 := ⟨k + prn.length - 1, by omega⟩
      have hm2 : ((k + prn.length : Nat) : Int) - 1 = (m : Int) := by omega
      have hin : (0 : Int) ≤ (m : Int) ∧ (m : Int) ≤ (w.size : Int) := by omega
      have wm : IntKind.i64.wrap (m : Int) = (m : Int) := wrap_id (by omega) (by omega)
      have hml : (m : Int) < (((rowG (w.size + 1) f).length : Nat) : Int) := by unfold rowG; rw [rowF_len]; omega
      have hel : ((PV.list (rowG (w.size + 1) f)).elem m).toInt = f (m + 1) := rowF_at (by omega)
      have hset : (rowG (w.size + 1) f).set m (intP (maxI (f (m + 1)) v)) = rowG (w.size + 1) (upd f (m + 1) v) := by
        unfold rowG
        rw [rowF_set]
        refine rowF_congr (fun q _ => ?_)
        unfold upd
        by_cases hq : q = m
        · rw [if_pos hq, if_pos (by omega)]
        · rw [if_neg hq, if_neg (by omega)]
      rw [hm] at hi
      simp only [impl_SplitAt.l3_eq, at_lt hn, w3, w4, w5, hm2, wm, q4, e1, implWithin_val, hin, hml, hel, hset, nn, nat_int, headD_one, toBool_sc, toInt_sc, Option.bind_some, and_self, decide_true, if_true]
      exact hi
    · have hin : ¬ ((0 : Int) ≤ ((k + prn.length : Nat) : Int) - 1 ∧ ((k + prn.length : Nat) : Int) - 1 ≤ (w.size : Int)) := by omega
      have hst : rowG (w.size + 1) (upd f (k + prn.length) v) = rowG (w.size + 1) f := by
        unfold rowG
        refine rowF_congr (fun q hq => ?_)
        unfold upd
        rw [if_neg (by omega)]
      rw [hst] at hi
      simp only [impl_SplitAt.l3_eq, at_lt hn, w3, w4, w5, q4, e1, implWithin_val, hin, nn, nat_int, headD_one, toBool_sc, toInt_sc, Option.bind_some, decide_true, decide_false, Bool.false_eq_true, if_true, if_false]
      exact hi
theorem implM_l1 (hw : w.size ≤ 12) (hd : d.size = w.size + 2) (hps : ps = pr ++ p :: rest) (hpl : ps.length ≤ 100) (hp : PatB p) {R : List PV} :
    ∀ (c k : Nat) (f : Nat → Int), k + c = d.size → Ev2 (fun N n => impl_SplitAt.l0 N n w d (patsP ps) (ps.length : Int) ((pr.length + 1 : Nat) : Int) [] (rowG (w.size + 1) (addKs d p c k f))) R →
    Ev3 (fun N m0 n => impl_SplitAt.l1 N m0 n w d (patsP ps) (ps.length : Int) (pr.length : Int) (d.size : Int) (k : Int) [] (rowG (w.size + 1) f) p.l (intsP p.ns)) R := by
  have hlt := at_ltN hps
  have wi : IntKind.i64.wrap (((pr.length : Nat) : Int) + 1) = ((pr.length + 1 : Nat) : Int) := by rw [wrap_id (by omega) (by omega)]; omega
  intro c
  induction c with
  | zero =>
    intro k f hk hR
    refine Ev3.succ ?_
    have z : ¬ (k : Int) < (d.size : Int) := by omega
    simp only [impl_SplitAt.l1_eq, z, wi, decide_false, Bool.false_eq_true, if_false]
    exact hR.outer
  | succ c ih =>
    intro k f hk hR
    refine Ev3.succ ?_
    have z : (k : Int) < (d.size : Int) := by omega
    have z2 : (k : Int) ≤ (d.size : Int) := by omega
    have w1 : IntKind.i64.wrap ((k : Int) + 1) = ((k + 1 : Nat) : Int) := by rw [wrap_id (by omega) (by omega)]; omega
    rw [addKs] at hR
    simp only [impl_SplitAt.l1_eq, z, z2, w1, nn, nat_int, hasPre_val d p.l k (by omega), headD_one, toBool_sc, Option.bind_some, decide_true, if_true]
    by_cases hh : hit d p.l k = true
    · rw [if_pos hh] at hR
      simp only [hh, ints_len, Bool.not_true, Bool.false_eq_true, if_false]
      exact (implM_l3 hw hd hp (by omega) p.ns [] f rfl (ih (k + 1) _ (by omega) hR)).start
    · rw [if_neg hh] at hR
      simp only [Bool.not_eq_true] at hh
      simp only [hh, Bool.not_false, if_true]
      exact ih (k + 1) f (by omega) hR
end
def dotW (w : ByteArray) : ByteArray := (ByteArray.mk #[46] ++ w) ++ ByteArray.mk #[46]
theorem dotW_size (w : ByteArray) : (dotW w).size = w.size + 2 := by
  have h1 : (ByteArray.mk #[46]).size = 1 := rfl
  unfold dotW; rw [ByteArray.size_append, ByteArray.size_append, h1]; omega
def placesG (f : Nat → Int) : Nat → Nat → List Int
  | 0, _ => []
  | c + 1, i => if Int.tmod (f (i + 1)) 2 = 1 then (i : Int) :: placesG f c (i + 1) else placesG f c (i + 1)
theorem placesG_in (f : Nat → Int) : ∀ c i, ∀ v ∈ placesG f c i, (i : Int) ≤ v ∧ v < (i : Int) + c := by
  intro c
  induction c with
  | zero => intro i v hv; simp [placesG] at hv
  | succ c ih =>
    intro i v hv
    rw [placesG] at hv
    split at hv
    · rcases List.mem_cons.1 hv with h | h
      · omega
      · have := ih (i + 1) v h; omega
    · have := ih (i + 1) v hv; omega
theorem placesG_len (f : Nat → Int) : ∀ c i, (placesG f c i).length ≤ c := by
  intro c
  induction c with
  | zero => intro i; simp [placesG]
  | succ c ih =>
    intro i
    have := ih (i + 1)
    rw [placesG]; split
    · simp; omega
    · omega
theorem ints_app (a : List Int) (v : Int) : a.map intP ++ [intP v] = (a ++ [v]).map intP := by simp
theorem specP_l0 {w : ByteArray} (hw : w.size ≤ 12) (f : Nat → Int) : ∀ (c i : Nat) (acc : List Int), (i + c + 1 = w.size ∨ (c = 0 ∧ w.size ≤ i + 1)) → i ≤ 20 → acc.length ≤ i →
    Ev2 (fun N n => spec_l9At.l0 N n w (i : Int) (acc.map intP) (PV.list (rowF (w.size + 3) f))) [intsP (acc ++ placesG f c i)] := by
  have w2 : IntKind.i64.wrap ((w.size : Int) - 2) = (w.size : Int) - 2 := wrap_id (by omega) (by omega)
  have t0 : ((2 : Int) = 0) = False := eq_false (by omega)
  intro c
  induction c with
  | zero =>
    intro i acc hi h20 ha
    refine Ev2.succ ?_
    have z : ¬ (i : Int) ≤ (w.size : Int) - 2 := by omega
    simp only [spec_l9At.l0_eq, w2, z, placesG, List.append_nil, decide_false, Bool.false_eq_true, if_false]
    exact Ev2.now _
  | succ c ih =>
    intro i acc hi h20 ha
    refine Ev2.succ ?_
    have z : (i : Int) ≤ (w.size : Int) - 2 := by omega
    have w1 : IntKind.i64.wrap ((i : Int) + 1) = ((i + 1 : Nat) : Int) := by rw [wrap_id (by omega) (by omega)]; omega
    have q1 : ((i + 1 : Nat) : Int) < (((rowF (w.size + 3) f).length : Nat) : Int) := by rw [rowF_len]; omega
    have e1 := rowF_at (L := w.size + 3) (f := f) (show i + 1 < w.size + 3 by omega)
    have c1 : (acc.map intP).length + [PV.sc (.int .i64 (i : Int))].length ≤ 17592186044416 := by simp; omega
    rw [placesG]
    by_cases h : Int.tmod (f (i + 1)) 2 = 1
    · have hi2 := ih (i + 1) (acc ++ [(i : Int)]) (by omega) (by omega) (by simp; omega)
      rw [if_pos h]
      simp only [spec_l9At.l0_eq, w2, w1, z, q1, e1, t0, h, c1, items_list, ints_app, nn, nat_int, decide_true, if_true, if_false]
      rw [List.append_assoc] at hi2
      exact hi2
    · rw [if_neg h]
      simp only [spec_l9At.l0_eq, w2, w1, z, q1, e1, t0, h, items_list, nn, nat_int, decide_true, decide_false, Bool.false_eq_true, if_true, if_false]
      exact ih (i + 1) acc (by omega) (by omega) (by omega)
theorem implP_l2 {w : ByteArray} (hw : w.size ≤ 12) (f : Nat → Int) : ∀ (c i : Nat) (acc : List Int), (i + c + 1 = w.size ∨ (c = 0 ∧ w.size ≤ i + 1)) → i ≤ 20 → acc.length ≤ i →
    Ev2 (fun N n => impl_SplitAt.l2 N n w (i : Int) (acc.map intP) (rowG (w.size + 1) f)) [intsP (acc ++ placesG f c i)] := by
  have w2 : IntKind.i64.wrap ((w.size : Int) - 2) = (w.size : Int) - 2 := wrap_id (by omega) (by omega)
  have t0 : ((2 : Int) = 0) = False := eq_false (by omega)
  intro c
  induction c with
  | zero =>
    intro i acc hi h20 ha
    refine Ev2.succ ?_
    have z : ¬ (i : Int) ≤ (w.size : Int) - 2 := by omega
    simp only [impl_SplitAt.l2_eq, w2, z, placesG, List.append_nil, decide_false, Bool.false_eq_true, if_false]
    exact Ev2.now _
  | succ c ih =>
    intro i acc hi h20 ha
    refine Ev2.succ ?_
    have z : (i : Int) ≤ (w.size : Int) - 2 := by omega
    have w1 : IntKind.i64.wrap ((i : Int) + 1) = ((i + 1 : Nat) : Int) := by rw [wrap_id (by omega) (by omega)]; omega
    have q1 : ((i : Nat) : Int) < (((rowG (w.size + 1) f).length : Nat) : Int) := by unfold rowG; rw [rowF_len]; omega
    have e1 : ((PV.list (rowG (w.size + 1) f)).elem i).toInt = f (i + 1) := rowF_at (by omega)
    have c1 : (acc.map intP).length + [PV.sc (.int .i64 (i : Int))].length ≤ 17592186044416 := by simp; omega
    rw [placesG]
    by_cases h : Int.tmod (f (i + 1)) 2 = 1
    · have hi2 := ih (i + 1) (acc ++ [(i : Int)]) (by omega) (by omega) (by simp; omega)
      rw [if_pos h]
      simp only [impl_SplitAt.l2_eq, w2, w1, z, q1, e1, t0, h, c1, ints_app, nn, nat_int, decide_true, if_true, if_false]
      rw [List.append_assoc] at hi2
      exact hi2
    · rw [if_neg h]
      simp only [impl_SplitAt.l2_eq, w2, w1, z, q1, e1, t0, h, nn, nat_int, decide_true, decide_false, Bool.false_eq_true, if_true, if_false]
      exact ih (i + 1) acc (by omega) (by omega) (by omega)
def splitM (ps : List Pat) (w : ByteArray) : List Int :=
  if (patsOk ps = true ∧ ps.length ≤ 20) ∧ isWord w = true then placesG (addPs (dotW w) ps (fun _ => 0)) (w.size - 3) 2 else []
theorem word_in {s : ByteArray} (h : isWord s = true) : 1 ≤ s.size ∧ s.size ≤ 12 ∧ lowB (bytesOf s) = true := by
  unfold isWord at h
  simp only [Bool.and_eq_true, decide_eq_true_eq] at h
  exact ⟨h.1.1, h.1.2, h.2⟩
theorem splitM_in (ps : List Pat) (w : ByteArray) : ∀ v ∈ splitM ps w, 2 ≤ v ∧ v + 2 ≤ (w.size : Int) := by
  intro v hv
  unfold splitM at hv
  split at hv
  · have := placesG_in _ _ _ v hv
    omega
  · simp at hv
theorem splitM_len (ps : List Pat) (w : ByteArray) : (splitM ps w).length ≤ 12 := by
  unfold splitM
  split
  · rename_i h
    have := placesG_len (addPs (dotW w) ps (fun _ => 0)) (w.size - 3) 2
    have := word_in h.2
    omega
  · simp
/-- Places ascend. -/
def ascI : List Int → Bool
  | [] => true
  | [_] => true
  | a :: b :: r => decide (a < b) && ascI (b :: r)
theorem placesG_asc (f : Nat → Int) : ∀ c i, ascI (placesG f c i) = true := by
  intro c
  induction c with
  | zero => intro i; rfl
  | succ c ih =>
    intro i
    rw [placesG]
    split
    · have h := ih (i + 1)
      have hin := placesG_in f c (i + 1)
      cases hp : placesG f c (i + 1) with
      | nil => rfl
      | cons b r =>
        rw [hp] at h hin
        have := hin b (by simp)
        rw [ascI, h, decide_eq_true (show (i : Int) < b by omega)]; rfl
    · exact ih (i + 1)
theorem splitM_asc (ps : List Pat) (w : ByteArray) : ascI (splitM ps w) = true := by
  unfold splitM
  split
  · exact placesG_asc _ _ _
  · rfl
theorem implSplitAt_ev {ps : List Pat} (hps : PatsB ps) (w : ByteArray) (hw : w.size ≤ 1000000) : Ev (fun N => impl_SplitAt.f N [patsP ps, strP w]) [intsP (splitM ps w)] := by
  simp only [impl_SplitAt.f_eq, toStr_sc]
  refine Ev.bind (implPats_ev hps) ?_
  unfold splitM
  by_cases h1 : patsOk ps = true ∧ ps.length ≤ 20
  · have h1b : (patsOk ps && decide (ps.length ≤ 20)) = true := by simp [h1.1, h1.2]
    simp only [h1b, headD_one, toBool_sc, Bool.not_true, if_true]
    refine Ev.bind (implWord_ev w (by omega)) ?_
    by_cases h2 : isWord w = true
    · obtain ⟨a1, a2, a3⟩ := word_in h2
      have hd := dotW_size w
      have hb := implP_l2 a2 (addPs (dotW w) ps (fun _ => 0)) (w.size - 3) 2 [] (by omega) (by omega) (by simp)
      have z1 : (ByteArray.mk #[46]).size + w.size ≤ 9223372036854775807 := by have h1 : (ByteArray.mk #[46]).size = 1 := rfl; omega
      have z2 : (ByteArray.mk #[46] ++ w).size + (ByteArray.mk #[46]).size ≤ 9223372036854775807 := by have h1 : (ByteArray.mk #[46]).size = 1 := rfl; rw [ByteArray.size_append]; omega
      have hdw : (ByteArray.mk #[46] ++ w) ++ ByteArray.mk #[46] = dotW w := rfl
      have key : ∀ (rest pr : List Pat) (f : Nat → Int), ps = pr ++ rest → addPs (dotW w) rest f = addPs (dotW w) ps (fun _ => 0) → Ev2 (fun N n => impl_SplitAt.l0 N n w (dotW w) (patsP ps) (ps.length : Int) (pr.length : Int) [] (rowG (w.size + 1) f)) [intsP (placesG (addPs (dotW w) ps (fun _ => 0)) (w.size - 3) 2)] := by
        intro rest
        induction rest with
        | nil =>
          intro pr f hp hf
          refine Ev2.succ ?_
          simp only [impl_SplitAt.l0_eq, at_end hp, decide_false, Bool.false_eq_true, if_false]
          rw [addPs] at hf
          rw [hf]
          exact hb.after
        | cons p rest ih =>
          intro pr f hp hf
          refine Ev2.succ ?_
          have hm : p ∈ ps := by rw [hp]; simp
          have hl : (pr ++ [p]).length = pr.length + 1 := by simp
          have hi := ih (pr ++ [p]) (addKs (dotW w) p (dotW w).size 0 f) (at_step hp) hf
          rw [hl] at hi
          simp only [impl_SplitAt.l0_eq, pats_len, at_lt hp, pats_elem hp, pat_f0, pat_f1, toStr_sc, nn, nat_int, decide_true, if_true]
          exact (implM_l1 a2 hd hp hps.1 (hps.2 p hm) (dotW w).size 0 f (by omega) hi).start
      have wz : IntKind.i64.wrap ((w.size : Int) + 1) = ((w.size + 1 : Nat) : Int) := by rw [wrap_id (by omega) (by omega)]; omega
      have c1 : w.size + 1 ≤ 35184372088832 := by omega
      rw [if_pos ⟨h1, h2⟩]
      simp only [h2, headD_one, toBool_sc, Bool.not_true, Bool.false_eq_true, if_false, wz, nn, nat_int, Int.le_refl, c1, z1, z2, hdw, rowF_zero, pats_len, if_true]
      exact (key ps [] (fun _ => 0) rfl rfl).diag
    · rw [if_neg (fun h => h2 h.2)]
      simp only [Bool.not_eq_true] at h2
      simp only [h2, headD_one, toBool_sc, Bool.not_false, if_true]
      exact Ev.now _
  · have h1b : (patsOk ps && decide (ps.length ≤ 20)) = false := by
      cases hx : patsOk ps
      · rfl
      · have : ¬ ps.length ≤ 20 := fun h => h1 ⟨hx, h⟩
        simp [this]
    rw [if_neg (fun h => h1 h.1)]
    simp only [h1b, headD_one, toBool_sc, Bool.not_false, Bool.true_eq_false, if_false]
    exact Ev.now _
/-! #### a word with strokes -/
def dropL (l : List Int) : List Int := l.filter fun c => decide (c ≠ 45)
theorem dropL_cons (c : Int) (l : List Int) : dropL (c :: l) = if c = 45 then dropL l else c :: dropL l := by
  unfold dropL
  by_cases h : c = 45 <;> simp [h]
theorem dropL_app (a b : List Int) : dropL (a ++ b) = dropL a ++ dropL b := by simp [dropL]
theorem dropB_bytes (s : ByteArray) : bytesOf (dropB s 45) = dropL (bytesOf s) := by
  have key : ∀ l : List UInt8, (l.filter (· != 45)).map (fun b => (b.toNat : Int)) = dropL (l.map fun b => (b.toNat : Int)) := by
    intro l
    induction l with
    | nil => rfl
    | cons c l ih =>
      rw [List.map_cons, dropL_cons, ← ih]
      by_cases h : c = 45
      · subst h; simp
      · have h2 : ¬ ((c.toNat : Int) = 45) := fun h3 => h (by
          apply UInt8.toNat_inj.1
          have : c.toNat = 45 := by omega
          rw [this]; rfl)
        have h3 : (c != 45) = true := by simpa using h
        have h4 : List.filter (fun x => x != 45) (c :: l) = c :: List.filter (fun x => x != 45) l := List.filter_cons_of_pos h3
        rw [h4, if_neg h2, List.map_cons]
  unfold bytesOf dropB
  exact key s.data.toList
def textL (w : List Int) : Nat → List Int → List Int
  | a, [] => w.drop a
  | a, p :: r => (w.drop a).take (p.toNat - a) ++ 45 :: textL w p.toNat r
/-- Places that ascend, from a place on, within a word. -/
def chainG (n : Int) : Int → List Int → Bool
  | _, [] => true
  | a, p :: r => decide (a ≤ p ∧ p ≤ n) && chainG n p r
theorem chainG_mono {n a b : Int} (h : a ≤ b) : ∀ {l : List Int}, chainG n b l = true → chainG n a l = true
  | [], _ => rfl
  | p :: r, hc => by
    rw [chainG, Bool.and_eq_true, decide_eq_true_eq] at hc
    rw [chainG, hc.2, decide_eq_true (show a ≤ p ∧ p ≤ n by omega)]; rfl
theorem placesG_chain (f : Nat → Int) (n : Int) : ∀ c i : Nat, (i : Int) + c ≤ n + 1 → chainG n (i : Int) (placesG f c i) = true := by
  intro c
  induction c with
  | zero => intro i _; rfl
  | succ c ih =>
    intro i hi
    have h := chainG_mono (show (i : Int) ≤ ((i + 1 : Nat) : Int) by omega) (ih (i + 1) (by omega))
    rw [placesG]
    split
    · rw [chainG, h, decide_eq_true (show (i : Int) ≤ (i : Int) ∧ (i : Int) ≤ n by omega)]; rfl
    · exact h
theorem splitM_chain (ps : List Pat) (w : ByteArray) : chainG (w.size : Int) 0 (splitM ps w) = true := by
  by_cases h : (patsOk ps = true ∧ ps.length ≤ 20) ∧ isWord w = true
  · unfold splitM
    rw [if_pos h]
    by_cases h3 : 3 ≤ w.size
    · exact chainG_mono (show (0 : Int) ≤ ((2 : Nat) : Int) by omega) (placesG_chain _ _ _ _ (by omega))
    · have : w.size - 3 = 0 := by omega
      rw [this]; rfl
  · unfold splitM; rw [if_neg h]; rfl
theorem textL_split {w : List Int} {p : Nat} (hp : p ≤ w.length) : ∀ {suf : List Int} {a : Nat}, a ≤ p → chainG (w.length : Int) (p : Int) suf = true → textL w a suf = (w.drop a).take (p - a) ++ textL w p suf
  | [], a, ha, _ => by
    rw [textL, textL]
    have h := List.take_append_drop (p - a) (w.drop a)
    rw [List.drop_drop] at h
    have e : a + (p - a) = p := by omega
    rw [e] at h
    exact h.symm
  | q :: r, a, ha, hc => by
    rw [chainG, Bool.and_eq_true, decide_eq_true_eq] at hc
    rw [textL, textL]
    have e : q.toNat - a = (p - a) + (q.toNat - p) := by omega
    have e2 : a + (p - a) = p := by omega
    rw [e, List.take_add, List.drop_drop, e2, List.append_assoc]
theorem textL_len {w : List Int} : ∀ {pl : List Int} {a : Nat}, a ≤ w.length → chainG (w.length : Int) (a : Int) pl = true → (textL w a pl).length = (w.length - a) + pl.length
  | [], a, ha, _ => by rw [textL]; simp
  | p :: r, a, ha, hc => by
    rw [chainG, Bool.and_eq_true, decide_eq_true_eq] at hc
    have hpa : ((p.toNat : Nat) : Int) = p := by omega
    have h := textL_len (w := w) (pl := r) (a := p.toNat) (by omega) (by rw [hpa]; exact hc.2)
    rw [textL, List.length_append, List.length_cons, h, List.length_take, List.length_drop, List.length_cons]
    omega
theorem textL_drop {w : List Int} : ∀ {pl : List Int} {a : Nat}, a ≤ w.length → chainG (w.length : Int) (a : Int) pl = true → dropL (textL w a pl) = dropL (w.drop a)
  | [], a, ha, _ => by rw [textL]
  | p :: r, a, ha, hc => by
    rw [chainG, Bool.and_eq_true, decide_eq_true_eq] at hc
    have hpa : ((p.toNat : Nat) : Int) = p := by omega
    have h := textL_drop (w := w) (pl := r) (a := p.toNat) (by omega) (by rw [hpa]; exact hc.2)
    rw [textL, dropL_app, dropL_cons, if_pos rfl, h, ← dropL_app]
    have h2 := List.take_append_drop (p.toNat - a) (w.drop a)
    rw [List.drop_drop] at h2
    have e : a + (p.toNat - a) = p.toNat := by omega
    rw [e] at h2
    rw [h2]
theorem dash_size : (ByteArray.mk #[45]).size = 1 := rfl
theorem dash_bytes : bytesOf (ByteArray.mk #[45]) = [45] := rfl
/-! #### drawn words, patterns and a width -/
theorem strs_app1 (l : List ByteArray) (w : ByteArray) : l.map strP ++ [strP w] = (l ++ [w]).map strP := by simp
theorem strs_mk (l : List ByteArray) : PV.list (l.map strP) = strsP l := rfl
def WsB (l : List ByteArray) : Prop := l.length ≤ 60 ∧ ∀ s ∈ l, s.size ≤ 13
theorem tail_ev {b : PV} (hb : Code1 b) (q : Nat) (hq : q < 400000000) : ∃ (pl : List Pat) (v : Int) (q1 q2 : Nat), PatsB pl ∧ (11 ≤ v ∧ v ≤ 61) ∧ Ev (fun N => spec_l13Patterns.f N [rdP b (q : Int)]) [patsP pl, rdP b (q1 : Int)] ∧
    ∀ N, spec_l1Rd_one.f N [rdP b (q1 : Int), PV.list [PV.sc (.int .i64 12), PV.sc (.int .i64 13), PV.sc (.int .i64 15), PV.sc (.int .i64 20), PV.sc (.int .i64 60), PV.sc (.int .i64 11), PV.sc (.int .i64 61)]] = some [intP v, rdP b (q2 : Int)] := by
  obtain ⟨pl, q1, h1, h2, h3⟩ := patterns_ev hb q (by omega)
  obtain ⟨v, hv, hf⟩ := one_ev hb (p := (q1 : Int)) (by omega) [12, 13, 15, 20, 60, 11, 61] (by simp)
  have e : (q1 : Int) + 1 = ((q1 + 1 : Nat) : Int) := by omega
  rw [e] at hf
  refine ⟨pl, v, q1, q1 + 1, h2, ?_, h3, hf⟩
  simp only [List.mem_cons, List.not_mem_nil, or_false] at hv
  omega
theorem drawWrap_l1 {b : PV} (hb : Code1 b) : ∀ (d q : Nat) (l : List ByteArray), l.length + d = 42 → q + d < 300000000 → (∀ s ∈ l, s.size ≤ 13) → ∃ (pl : List Pat) (ws : List ByteArray) (v : Int), PatsB pl ∧ WsB ws ∧ (11 ≤ v ∧ v ≤ 61) ∧ Ev2 (fun N n => spec_DrawWrap.l1 N n b (q : Int) (l.map strP)) [patsP pl, strsP ws, intP v] := by
  intro d
  induction d with
  | zero =>
    intro q l hl hq hs
    obtain ⟨k, hk, hf⟩ := pick_ev hb (p := (q : Int)) (n := 2) (by omega) (by omega)
    have e1 : (q : Int) + 1 = ((q + 1 : Nat) : Int) := by omega
    rw [e1] at hf
    obtain ⟨pl, v, q1, q2, h1, h2, h3, h4⟩ := tail_ev hb (q + 1) (by omega)
    refine ⟨pl, l, v, h1, ⟨by omega, hs⟩, h2, Ev2.succ ?_⟩
    have wk : IntKind.i64.wrap (40 + k) = 40 + k := wrap_id (by omega) (by omega)
    have z : ¬ (((l.map strP).length : Nat) : Int) < 40 + k := by rw [List.length_map]; omega
    simp only [spec_DrawWrap.l1_eq, rd_agg, hf, List.headD_cons, List.tail_cons, rd_f1, toInt_sc, wk, z, Option.bind_some, decide_false, Bool.false_eq_true, if_false]
    refine Ev2.bind h3 ?_
    simp only [List.headD_cons, List.tail_cons, rd_f1, toInt_sc, h4, Option.bind_some, strs_mk]
    exact Ev2.now _
  | succ d ih =>
    intro q l hl hq hs
    obtain ⟨k, hk, hf⟩ := pick_ev hb (p := (q : Int)) (n := 2) (by omega) (by omega)
    have e1 : (q : Int) + 1 = ((q + 1 : Nat) : Int) := by omega
    rw [e1] at hf
    have wk : IntKind.i64.wrap (40 + k) = 40 + k := wrap_id (by omega) (by omega)
    by_cases z : (((l.map strP).length : Nat) : Int) < 40 + k
    · obtain ⟨pl, ws, v, h1, h2, h3, h4⟩ := ih (q + 1) (l ++ [ByteArray.mk #[97]]) (by simp; omega) (by omega) (fun s hs' => by
        rcases List.mem_append.1 hs' with h | h
        · exact hs s h
        · simp only [List.mem_singleton] at h; subst h; decide)
      refine ⟨pl, ws, v, h1, h2, h3, Ev2.succ ?_⟩
      have c1 : (l.map strP).length + [strP (ByteArray.mk #[97])].length ≤ 8796093022208 := by simp; omega
      simp only [spec_DrawWrap.l1_eq, rd_agg, hf, List.headD_cons, List.tail_cons, rd_f1, toInt_sc, wk, z, c1, Option.bind_some, decide_true, if_true, strs_app1]
      exact h4
    · obtain ⟨pl, v, q1, q2, h1, h2, h3, h4⟩ := tail_ev hb (q + 1) (by omega)
      refine ⟨pl, l, v, h1, ⟨by omega, hs⟩, h2, Ev2.succ ?_⟩
      simp only [spec_DrawWrap.l1_eq, rd_agg, hf, List.headD_cons, List.tail_cons, rd_f1, toInt_sc, wk, z, Option.bind_some, decide_false, Bool.false_eq_true, if_false]
      refine Ev2.bind h3 ?_
      simp only [List.headD_cons, List.tail_cons, rd_f1, toInt_sc, h4, Option.bind_some, strs_mk]
      exact Ev2.now _
theorem drawWrap_l0 {b : PV} (hb : Code1 b) : ∀ (c q : Nat) (l : List ByteArray), l.length + c ≤ 20 → q + 12 * c < 200000000 → (∀ s ∈ l, s.size ≤ 13) → ∃ (pl : List Pat) (ws : List ByteArray) (v : Int), PatsB pl ∧ WsB ws ∧ (11 ≤ v ∧ v ≤ 61) ∧ Ev2 (fun N n => spec_DrawWrap.l0 N n (c : Int) b (q : Int) (l.map strP)) [patsP pl, strsP ws, intP v] := by
  intro c
  induction c with
  | succ c ih =>
    intro q l hl hq hs
    obtain ⟨w, q', h1, h2, h3, h4⟩ := word_ev hb q (by omega)
    obtain ⟨pl, ws, v, i1, i2, i3, i4⟩ := ih q' (l ++ [w]) (by simp; omega) (by omega) (fun s hs' => by
      rcases List.mem_append.1 hs' with h | h
      · exact hs s h
      · simp only [List.mem_singleton] at h; subst h; omega)
    refine ⟨pl, ws, v, i1, i2, i3, Ev2.succ ?_⟩
    have z : (0 : Int) < ((c + 1 : Nat) : Int) := by omega
    have wc : IntKind.i64.wrap (((c + 1 : Nat) : Int) - 1) = (c : Int) := by rw [wrap_id (by omega) (by omega)]; omega
    have c1 : (l.map strP).length + [strP w].length ≤ 8796093022208 := by simp; omega
    simp only [spec_DrawWrap.l0_eq, z, decide_true, if_true, rd_agg]
    refine Ev2.bind h4 ?_
    simp only [List.headD_cons, List.tail_cons, toStr_sc, rd_f1, toInt_sc, c1, wc, strs_app1, if_true]
    exact i4
  | zero =>
    intro q l hl hq hs
    obtain ⟨k, hk, hf⟩ := pick_ev hb (p := (q : Int)) (n := 16) (by omega) (by omega)
    have e1 : (q : Int) + 1 = ((q + 1 : Nat) : Int) := by omega
    rw [e1] at hf
    have z : ¬ (0 : Int) < ((0 : Nat) : Int) := by omega
    by_cases k0 : k = 0
    · obtain ⟨w, q', h1, h2, h3⟩ := anyWord_ev hb (q + 1) (by omega)
      obtain ⟨pl, v, q1, q2, i1, i2, i3, i4⟩ := tail_ev hb q' (by omega)
      refine ⟨pl, l ++ [w], v, i1, ⟨by simp; omega, fun s hs' => ?_⟩, i2, Ev2.succ ?_⟩
      · rcases List.mem_append.1 hs' with h | h
        · exact hs s h
        · simp only [List.mem_singleton] at h; subst h; exact h2
      · have c1 : (l.map strP).length + [strP w].length ≤ 8796093022208 := by simp; omega
        simp only [spec_DrawWrap.l0_eq, z, rd_agg, hf, k0, List.headD_cons, List.tail_cons, rd_f1, toInt_sc, Option.bind_some, decide_true, decide_false, Bool.false_eq_true, if_true, if_false]
        refine Ev2.bind h3 ?_
        simp only [List.headD_cons, List.tail_cons, toStr_sc, rd_f1, toInt_sc, c1, strs_app1, if_true]
        refine Ev2.bind i3 ?_
        simp only [List.headD_cons, List.tail_cons, rd_f1, toInt_sc, i4, Option.bind_some, strs_mk]
        exact Ev2.now _
    · by_cases k1 : k = 1
      · obtain ⟨pl, ws, v, i1, i2, i3, i4⟩ := drawWrap_l1 hb (42 - l.length) (q + 1) l (by omega) (by omega) hs
        refine ⟨pl, ws, v, i1, i2, i3, Ev2.succ ?_⟩
        have z1 : ¬ ((1 : Int) = 0) := by omega
        simp only [spec_DrawWrap.l0_eq, z, rd_agg, hf, k1, z1, List.headD_cons, List.tail_cons, rd_f1, toInt_sc, Option.bind_some, decide_true, decide_false, Bool.false_eq_true, if_true, if_false]
        exact i4.after
      · obtain ⟨pl, v, q1, q2, i1, i2, i3, i4⟩ := tail_ev hb (q + 1) (by omega)
        refine ⟨pl, l, v, i1, ⟨by omega, hs⟩, i2, Ev2.succ ?_⟩
        simp only [spec_DrawWrap.l0_eq, z, rd_agg, hf, k0, k1, List.headD_cons, List.tail_cons, rd_f1, toInt_sc, Option.bind_some, decide_true, decide_false, Bool.false_eq_true, if_true, if_false]
        refine Ev2.bind i3 ?_
        simp only [List.headD_cons, List.tail_cons, rd_f1, toInt_sc, i4, Option.bind_some, strs_mk]
        exact Ev2.now _
theorem drawWrap_ev {l : List PV} (hl : l.length ≤ 1048576) (hby : ∀ j, 0 ≤ ((PV.list l).elem j).toInt ∧ ((PV.list l).elem j).toInt ≤ 255) : ∃ (pl : List Pat) (ws : List ByteArray) (v : Int), PatsB pl ∧ WsB ws ∧ (11 ≤ v ∧ v ≤ 61) ∧ Ev (fun N => spec_DrawWrap.f N [PV.list l]) [patsP pl, strsP ws, intP v] := by
  obtain ⟨b, hb, hopen⟩ := open_ev hl hby
  obtain ⟨k, hk, hf⟩ := pick_ev hb (p := ((0 : Nat) : Int)) (n := 16) (by omega) (by omega)
  have e1 : ((0 : Nat) : Int) + 1 = ((1 : Nat) : Int) := by omega
  rw [e1] at hf
  obtain ⟨c, rfl⟩ := Int.eq_ofNat_of_zero_le hk.1
  obtain ⟨pl, ws, v, i1, i2, i3, i4⟩ := drawWrap_l0 hb c 1 [] (by simp; omega) (by omega) (fun s hs => by simp at hs)
  refine ⟨pl, ws, v, i1, i2, i3, ?_⟩
  have hopen' : ∀ N, spec_l1Open.f N [PV.list l] = some [rdP b ((0 : Nat) : Int)] := hopen
  simp only [spec_DrawWrap.f_eq, hopen', headD_one, rd_f0, rd_f1, rd_agg, toInt_sc, hf, List.headD_cons, List.tail_cons, Option.bind_some]
  exact i4.diag
/-! #### lines -/
def sp : ByteArray := ByteArray.mk #[32]
def da : ByteArray := ByteArray.mk #[45]
theorem sp_size : sp.size = 1 := rfl
theorem da_size : da.size = 1 := rfl
def fitL (room : Int) : Int → List Int → Int
  | b, [] => b
  | b, p :: r => fitL room (if p + 1 ≤ room then p else b) r
theorem fitL_in {room n : Int} : ∀ {l : List Int} {b : Int}, (∀ v ∈ l, 2 ≤ v ∧ v + 2 ≤ n) → (b = 0 ∨ (2 ≤ b ∧ b + 2 ≤ n ∧ b + 1 ≤ room)) → fitL room b l = 0 ∨ (2 ≤ fitL room b l ∧ fitL room b l + 2 ≤ n ∧ fitL room b l + 1 ≤ room)
  | [], b, _, hb => hb
  | p :: r, b, hl, hb => by
    rw [fitL]
    have hp := hl p (by simp)
    refine fitL_in (fun v hv => hl v (by simp [hv])) ?_
    split
    · right; omega
    · exact hb
def lineStep (ps : List Pat) (width : Int) (line w : ByteArray) : ByteArray × List ByteArray :=
  if (line.size : Int) + 1 + (w.size : Int) ≤ width then ((line ++ sp) ++ w, [])
  else if 0 < fitL (width - line.size - 1) 0 (splitM ps w) then (w.extract (fitL (width - line.size - 1) 0 (splitM ps w)).toNat w.size, [(line ++ sp) ++ (w.extract 0 (fitL (width - line.size - 1) 0 (splitM ps w)).toNat ++ da)])
  else (w, [line])
def wrapM (ps : List Pat) (width : Int) : List ByteArray → ByteArray → List ByteArray → List ByteArray
  | [], line, out => out ++ [line]
  | w :: r, line, out => wrapM ps width r (lineStep ps width line w).1 (out ++ (lineStep ps width line w).2)
def wrapAll (ps : List Pat) (width : Int) : List ByteArray → List ByteArray
  | [] => []
  | w :: r => wrapM ps width r w []
theorem fit_loop {pl : List Int} (hlen : pl.length ≤ 12) (hall : ∀ v ∈ pl, 2 ≤ v ∧ v ≤ 1000) {room : Int} : ∀ (rest pre : List Int) (b : Int), pl = pre ++ rest → Ev2 (fun N n => spec_l9Fit.l0 N n room b (pre.length : Int) (intsP pl)) [intP (fitL room b rest)] := by
  intro rest
  induction rest with
  | nil =>
    intro pre b hp
    refine Ev2.succ ?_
    simp only [spec_l9Fit.l0_eq, ints_len, at_end hp, decide_false, Bool.false_eq_true, if_false, fitL]
    exact Ev2.now _
  | cons p rest ih =>
    intro pre b hp
    refine Ev2.succ ?_
    have hpp := hall p (by rw [hp]; simp)
    have w1 : IntKind.i64.wrap (p + 1) = p + 1 := wrap_id (by omega) (by omega)
    rw [fitL]
    by_cases h : p + 1 ≤ room
    · simp only [spec_l9Fit.l0_eq, ints_len, ints_elem, at_lt hp, at_getD hp, at_next hp (by omega), w1, h, nn, nat_int, decide_true, if_true]
      exact ih _ p (at_step hp)
    · simp only [spec_l9Fit.l0_eq, ints_len, ints_elem, at_lt hp, at_getD hp, at_next hp (by omega), w1, h, nn, nat_int, decide_true, decide_false, Bool.false_eq_true, if_true, if_false]
      exact ih _ b (at_step hp)
theorem specAt_ev {ps : List Pat} (hps : PatsB ps) (hok : patsOk ps = true ∧ ps.length ≤ 20) {w : ByteArray} (hw : isWord w = true) : Ev (fun N => spec_l9At.f N [patsP ps, strP w]) [intsP (splitM ps w)] := by
  obtain ⟨a1, a2, a3⟩ := word_in hw
  have hd := dotW_size w
  have hb := specP_l0 a2 (addPs (dotW w) ps (fun _ => 0)) (w.size - 3) 2 [] (by omega) (by omega) (by simp)
  have hm := specMarks_ev (s := dotW w) (by omega) hps hok.1
  rw [hd] at hm
  have z1 : (ByteArray.mk #[46]).size + w.size ≤ 9223372036854775807 := by have h1 : (ByteArray.mk #[46]).size = 1 := rfl; omega
  have z2 : (ByteArray.mk #[46] ++ w).size + (ByteArray.mk #[46]).size ≤ 9223372036854775807 := by have h1 : (ByteArray.mk #[46]).size = 1 := rfl; rw [ByteArray.size_append]; omega
  have hdw : (ByteArray.mk #[46] ++ w) ++ ByteArray.mk #[46] = dotW w := rfl
  unfold splitM
  rw [if_pos ⟨hok, hw⟩]
  simp only [spec_l9At.f_eq, toStr_sc, z1, z2, hdw, if_true]
  refine Ev.bind hm ?_
  simp only [headD_one]
  exact hb.diag
theorem specFit_ev {ps : List Pat} (hps : PatsB ps) (hok : patsOk ps = true ∧ ps.length ≤ 20) {w : ByteArray} (hw : isWord w = true) (room : Int) : Ev (fun N => spec_l9Fit.f N [patsP ps, strP w, intP room]) [intP (fitL room 0 (splitM ps w))] := by
  have hin := splitM_in ps w
  have hwz := word_in hw
  simp only [spec_l9Fit.f_eq, toStr_sc, toInt_sc]
  refine Ev.bind (specAt_ev hps hok hw) ?_
  simp only [headD_one]
  exact (fit_loop (splitM_len ps w) (fun v hv => by have := hin v hv; omega) (splitM ps w) [] 0 rfl).diag
theorem join_val {a b : ByteArray} (ha : 1 ≤ a.size ∧ a.size ≤ 1000) (hb : b.size ≤ 1000) (N : Nat) : spec_l9Join.f N [strP a, strP b] = some [strP ((a ++ sp) ++ b)] := by
  have hne : ¬ a = ByteArray.mk #[] := fun h => by rw [h] at ha; have : (ByteArray.mk #[]).size = 0 := rfl; omega
  have c1 : a.size + (ByteArray.mk #[32]).size ≤ 9223372036854775807 := by have : (ByteArray.mk #[32]).size = 1 := rfl; omega
  have c2 : (a ++ ByteArray.mk #[32]).size + b.size ≤ 9223372036854775807 := by have : (ByteArray.mk #[32]).size = 1 := rfl; rw [ByteArray.size_append]; omega
  simp only [spec_l9Join.f_eq, toStr_sc, toList_inj, hne, c1, c2, decide_false, Bool.false_eq_true, if_true, if_false]
  rfl
theorem join_nil (b : ByteArray) (N : Nat) : spec_l9Join.f N [strP (ByteArray.mk #[]), strP b] = some [strP b] := by
  simp only [spec_l9Join.f_eq, toStr_sc, decide_true, if_true]
theorem specWrap_l0 {ps : List Pat} (hps : PatsB ps) (hok : patsOk ps = true ∧ ps.length ≤ 20) {width : Int} (hwd : 12 ≤ width ∧ width ≤ 60) {ws : List ByteArray} (hwl : ws.length ≤ 100) (hws : ∀ w ∈ ws, isWord w = true) :
    ∀ (rest pre : List ByteArray) (line : ByteArray) (out : List ByteArray), ws = pre ++ rest → 1 ≤ line.size → (line.size : Int) ≤ width → out.length ≤ pre.length → Ev2 (fun N n => spec_l9Wrap.l0 N n (patsP ps) (strsP ws) width line (pre.length : Int) (out.map strP)) [strsP (wrapM ps width rest line out)] := by
  intro rest
  induction rest with
  | nil =>
    intro pre line out hp h1 h2 ho
    refine Ev2.succ ?_
    have hne : ¬ line = ByteArray.mk #[] := fun h => by rw [h] at h1; have : (ByteArray.mk #[]).size = 0 := rfl; omega
    have hpl : pre.length ≤ 100 := by have : ws.length = pre.length := by rw [hp]; simp
                                      omega
    have c1 : (out.map strP).length + [strP line].length ≤ 8796093022208 := by simp; omega
    simp only [spec_l9Wrap.l0_eq, strs_len, at_end hp, toList_inj, hne, c1, decide_false, Bool.not_false, Bool.false_eq_true, if_false, if_true, strs_app1, strs_mk, wrapM]
    exact Ev2.now _
  | cons w rest ih =>
    intro pre line out hp h1 h2 ho
    refine Ev2.succ ?_
    have hlt := at_ltN hp
    have hw : isWord w = true := hws w (by rw [hp]; simp)
    obtain ⟨a1, a2, a3⟩ := word_in hw
    have hne : ¬ line = ByteArray.mk #[] := fun h => by rw [h] at h1; have : (ByteArray.mk #[]).size = 0 := rfl; omega
    have he : ((strsP ws).elem pre.length).toStr = w := by rw [strs_elem]; exact at_getD hp
    have hl : (pre ++ [w]).length = pre.length + 1 := by simp
    have hnx := at_next hp (by omega)
    have w1 : IntKind.i64.wrap (width - (line.size : Int)) = width - (line.size : Int) := wrap_id (by omega) (by omega)
    have w2 : IntKind.i64.wrap (width - (line.size : Int) - 1) = width - (line.size : Int) - 1 := wrap_id (by omega) (by omega)
    have hjoin := join_val (a := line) (b := w) (by omega) (by omega)
    have c1 : (out.map strP).length + [strP line].length ≤ 8796093022208 := by simp; omega
    rw [wrapM]
    by_cases hfit : (line.size : Int) + 1 + (w.size : Int) ≤ width
    · have hfit' : (w.size : Int) ≤ width - (line.size : Int) - 1 := by omega
      have hst : lineStep ps width line w = ((line ++ sp) ++ w, []) := by unfold lineStep; rw [if_pos hfit]
      have hi := ih (pre ++ [w]) ((line ++ sp) ++ w) out (at_step hp) (by rw [ByteArray.size_append, ByteArray.size_append, sp_size]; omega) (by rw [ByteArray.size_append, ByteArray.size_append, sp_size]; omega) (by rw [hl]; omega)
      rw [hst]
      simp only [spec_l9Wrap.l0_eq, strs_len, at_lt hp, toList_inj, hne, he, nn, nat_int, w1, w2, hfit', hjoin, headD_one, toStr_sc, hnx, Option.bind_some, decide_true, decide_false, Bool.not_false, if_true, List.append_nil]
      exact hi
    · have hfit' : ¬ (w.size : Int) ≤ width - (line.size : Int) - 1 := by omega
      have hfv := fitL_in (room := width - (line.size : Int) - 1) (n := (w.size : Int)) (l := splitM ps w) (b := 0) (fun v hv => splitM_in ps w v hv) (.inl rfl)
      by_cases hk : 0 < fitL (width - (line.size : Int) - 1) 0 (splitM ps w)
      · obtain ⟨k, hkk⟩ := Int.eq_ofNat_of_zero_le (show 0 ≤ fitL (width - (line.size : Int) - 1) 0 (splitM ps w) by omega)
        have hst : lineStep ps width line w = (w.extract k w.size, [(line ++ sp) ++ (w.extract 0 k ++ da)]) := by unfold lineStep; rw [if_neg hfit, if_pos hk, hkk]; rfl
        have s1 : (w.extract 0 k).size = k := by rw [ByteArray.size_extract]; omega
        have s2 : (w.extract k w.size).size = w.size - k := by rw [ByteArray.size_extract]; omega
        have hjoin2 := join_val (a := line) (b := w.extract 0 k ++ da) (by omega) (by rw [ByteArray.size_append, s1, da_size]; omega)
        have hi := ih (pre ++ [w]) (w.extract k w.size) (out ++ [(line ++ sp) ++ (w.extract 0 k ++ da)]) (at_step hp) (by omega) (by omega) (by rw [hl]; simp; omega)
        have c2 : (out.map strP).length + [strP ((line ++ sp) ++ (w.extract 0 k ++ da))].length ≤ 8796093022208 := by simp; omega
        have c3 : (w.extract 0 k).size + (ByteArray.mk #[45]).size ≤ 9223372036854775807 := by have : (ByteArray.mk #[45]).size = 1 := rfl; omega
        have kp : (0 : Int) < (k : Int) := by omega
        have kle : (k : Int) ≤ (w.size : Int) := by omega
        have hda : ByteArray.mk #[45] = da := rfl
        have hfe := specFit_ev hps hok hw (width - (line.size : Int) - 1)
        rw [hkk] at hfe
        rw [hda] at c3
        rw [hst]
        simp only [spec_l9Wrap.l0_eq, strs_len, at_lt hp, toList_inj, hne, he, nn, nat_int, w1, w2, hfit', toStr_sc, hnx, decide_true, decide_false, Bool.not_false, Bool.false_eq_true, if_true, if_false]
        refine Ev2.bind hfe ?_
        simp only [headD_one, toInt_sc, toStr_sc, kp, kle, hda, c2, c3, hjoin2, nn, nat_int, Option.bind_some, decide_true, if_true, strs_app1]
        exact hi
      · have hst : lineStep ps width line w = (w, [line]) := by unfold lineStep; rw [if_neg hfit, if_neg hk]
        have hi := ih (pre ++ [w]) w (out ++ [line]) (at_step hp) a1 (by omega) (by rw [hl]; simp; omega)
        have hfe := specFit_ev hps hok hw (width - (line.size : Int) - 1)
        rw [hst]
        simp only [spec_l9Wrap.l0_eq, strs_len, at_lt hp, toList_inj, hne, he, nn, nat_int, w1, w2, hfit', toStr_sc, hnx, decide_true, decide_false, Bool.not_false, Bool.false_eq_true, if_true, if_false]
        refine Ev2.bind hfe ?_
        simp only [headD_one, toInt_sc, toStr_sc, hk, c1, nn, nat_int, Option.bind_some, decide_true, decide_false, Bool.false_eq_true, if_true, if_false, strs_app1]
        exact hi
theorem specL9Wrap_ev {ps : List Pat} (hps : PatsB ps) (hok : patsOk ps = true ∧ ps.length ≤ 20) {width : Int} (hwd : 12 ≤ width ∧ width ≤ 60) {ws : List ByteArray} (hwl : ws.length ≤ 100) (hws : ∀ w ∈ ws, isWord w = true) :
    Ev (fun N => spec_l9Wrap.f N [patsP ps, strsP ws, intP width]) [strsP (wrapAll ps width ws)] := by
  simp only [spec_l9Wrap.f_eq, toInt_sc]
  refine Ev2.diag (g := fun N n => spec_l9Wrap.l0 N n (patsP ps) (strsP ws) width (ByteArray.mk #[]) 0 []) ?_
  cases ws with
  | nil =>
    refine Ev2.succ ?_
    have z : ¬ (0 : Int) < (((strsP []).items.length : Nat) : Int) := by rw [strs_len]; simp
    simp only [spec_l9Wrap.l0_eq, z, decide_true, decide_false, Bool.not_true, Bool.false_eq_true, if_false]
    exact Ev2.now _
  | cons w rest =>
    have hw : isWord w = true := hws w (by simp)
    obtain ⟨a1, a2, a3⟩ := word_in hw
    refine Ev2.succ ?_
    have z : (0 : Int) < (((strsP (w :: rest)).items.length : Nat) : Int) := by rw [strs_len]; simp
    have e0 : ((ByteArray.mk #[]).size : Int) = 0 := rfl
    have w1 : IntKind.i64.wrap (width - 0) = width := by rw [wrap_id (by omega) (by omega)]; omega
    have he : ((strsP (w :: rest)).elem 0).toStr = w := by rw [strs_elem]; rfl
    have hfit : (w.size : Int) ≤ width := by omega
    have hi := specWrap_l0 hps hok hwd hwl hws rest [w] w [] rfl a1 (by omega) (by simp)
    have wn : IntKind.i64.wrap (0 + 1) = 1 := wrap_id (by omega) (by omega)
    simp only [spec_l9Wrap.l0_eq, z, e0, w1, he, hfit, join_nil, headD_one, toStr_sc, wn, Int.toNat_zero, Option.bind_some, decide_true, Bool.not_true, Bool.false_eq_true, if_true, if_false, Int.le_refl]
    exact hi
def lineOf (a line w : ByteArray) (b : Int) : ByteArray := if 0 < b then (a ++ w.extract 0 b.toNat) ++ da else line
def restOf (w : ByteArray) (b : Int) : ByteArray := if 0 < b then w.extract b.toNat w.size else w
theorem implWrap_l2 {X1 X44 : PV} {X45 X46 : Int} {ps : List Pat} {width : Int} (hwd : 12 ≤ width ∧ width ≤ 60) {line w a : ByteArray} (hw : w.size ≤ 12) (ha : a.size ≤ 100) {pl : List Int} (hlen : pl.length ≤ 12) (hall : ∀ v ∈ pl, 2 ≤ v ∧ v + 2 ≤ (w.size : Int)) {out : List ByteArray} (hout : out.length ≤ 1000) {R : List PV} :
    ∀ (rest pre : List Int) (b : Int), pl = pre ++ rest →
    Ev2 (fun N n => impl_Wrap.l1 N n (patsP ps) X1 width (restOf w (fitL (width - (a.size : Int)) b rest)) X44 X45 (IntKind.i64.wrap (X46 + 1)) ((out ++ [lineOf a line w (fitL (width - (a.size : Int)) b rest)]).map strP)) R →
    Ev3 (fun N m0 n => impl_Wrap.l2 N m0 n (patsP ps) X1 width (lineOf a line w b) w a (restOf w b) X44 X45 X46 (pl.length : Int) (pre.length : Int) (out.map strP) (intsP pl)) R := by
  intro rest
  induction rest with
  | nil =>
    intro pre b hp hR
    refine Ev3.succ ?_
    have c1 : (out.map strP).length + [strP (lineOf a line w b)].length ≤ 8796093022208 := by simp; omega
    rw [fitL] at hR
    simp only [impl_Wrap.l2_eq, at_end hp, c1, decide_false, Bool.false_eq_true, if_false, if_true, strs_app1]
    exact hR.outer
  | cons p rest ih =>
    intro pre b hp hR
    refine Ev3.succ ?_
    have hpp := hall p (by rw [hp]; simp)
    obtain ⟨k, rfl⟩ := Int.eq_ofNat_of_zero_le (show 0 ≤ p by omega)
    have w1 : IntKind.i64.wrap ((a.size : Int) + (k : Int)) = (a.size : Int) + (k : Int) := wrap_id (by omega) (by omega)
    have w2 : IntKind.i64.wrap ((a.size : Int) + (k : Int) + 1) = (a.size : Int) + (k : Int) + 1 := wrap_id (by omega) (by omega)
    rw [fitL] at hR
    by_cases h : (a.size : Int) + (k : Int) + 1 ≤ width
    · rw [if_pos (show (k : Int) + 1 ≤ width - (a.size : Int) by omega)] at hR
      have hi := ih (pre ++ [(k : Int)]) (k : Int) (at_step hp) hR
      have kp : (0 : Int) < (k : Int) := by omega
      have kle : (k : Int) ≤ (w.size : Int) := by omega
      have s1 : (w.extract 0 k).size = k := by rw [ByteArray.size_extract]; omega
      have c1 : a.size + (w.extract 0 k).size ≤ 9223372036854775807 := by omega
      have c2 : (a ++ w.extract 0 k).size + (ByteArray.mk #[45]).size ≤ 9223372036854775807 := by have : (ByteArray.mk #[45]).size = 1 := rfl; rw [ByteArray.size_append]; omega
      have hl : lineOf a line w (k : Int) = (a ++ w.extract 0 k) ++ ByteArray.mk #[45] := by unfold lineOf; rw [if_pos kp]; rfl
      have hr : restOf w (k : Int) = w.extract k w.size := by unfold restOf; rw [if_pos kp]; rfl
      rw [hl, hr] at hi
      simp only [impl_Wrap.l2_eq, ints_len, ints_elem, at_lt hp, at_getD hp, at_next hp (by omega), w1, w2, h, kle, c1, c2, nn, nat_int, decide_true, if_true]
      exact hi
    · rw [if_neg (show ¬ (k : Int) + 1 ≤ width - (a.size : Int) by omega)] at hR
      have hi := ih (pre ++ [(k : Int)]) b (at_step hp) hR
      simp only [impl_Wrap.l2_eq, ints_len, ints_elem, at_lt hp, at_getD hp, at_next hp (by omega), w1, w2, h, nn, nat_int, decide_true, decide_false, Bool.false_eq_true, if_true, if_false]
      exact hi
theorem implWrap_l1 {ps : List Pat} (hps : PatsB ps) {width : Int} (hwd : 12 ≤ width ∧ width ≤ 60) {ws : List ByteArray} (hwl : ws.length ≤ 100) (hws : ∀ w ∈ ws, isWord w = true) :
    ∀ (rest pre : List ByteArray) (line : ByteArray) (out : List ByteArray), ws = pre ++ rest → 1 ≤ pre.length → 1 ≤ line.size → (line.size : Int) ≤ width → out.length ≤ pre.length → Ev2 (fun N n => impl_Wrap.l1 N n (patsP ps) (strsP ws) width line (strsP ws) (ws.length : Int) (pre.length : Int) (out.map strP)) [strsP (wrapM ps width rest line out), boolP true] := by
  intro rest
  induction rest with
  | nil =>
    intro pre line out hp hpr h1 h2 ho
    refine Ev2.succ ?_
    have hpl : ws.length = pre.length := by rw [hp]; simp
    have c1 : (out.map strP).length + [strP line].length ≤ 8796093022208 := by simp; omega
    have z : (0 : Int) < ((ws.length : Nat) : Int) := by omega
    simp only [impl_Wrap.l1_eq, strs_len, at_end hp, z, c1, decide_true, decide_false, Bool.false_eq_true, if_false, if_true, strs_app1, strs_mk, wrapM]
    exact Ev2.now _
  | cons w rest ih =>
    intro pre line out hp hpr h1 h2 ho
    refine Ev2.succ ?_
    have hlt := at_ltN hp
    have hw : isWord w = true := hws w (by rw [hp]; simp)
    obtain ⟨a1, a2, a3⟩ := word_in hw
    have he : ((strsP ws).elem pre.length).toStr = w := by rw [strs_elem]; exact at_getD hp
    have hl : (pre ++ [w]).length = pre.length + 1 := by simp
    have hnx := at_next hp (by omega)
    have z0 : (0 : Int) < ((pre.length : Nat) : Int) := by omega
    have hsp : ByteArray.mk #[32] = sp := rfl
    have c0 : line.size + sp.size ≤ 9223372036854775807 := by rw [sp_size]; omega
    have hasz : (line ++ sp).size = line.size + 1 := by rw [ByteArray.size_append, sp_size]
    have w1 : IntKind.i64.wrap (((line.size + 1 : Nat) : Int) + (w.size : Int)) = ((line.size + 1 : Nat) : Int) + (w.size : Int) := wrap_id (by omega) (by omega)
    have c1 : (out.map strP).length + [strP line].length ≤ 8796093022208 := by simp; omega
    rw [wrapM]
    by_cases hfit : (line.size : Int) + 1 + (w.size : Int) ≤ width
    · have hfit' : ((line.size + 1 : Nat) : Int) + (w.size : Int) ≤ width := by omega
      have hst : lineStep ps width line w = ((line ++ sp) ++ w, []) := by unfold lineStep; rw [if_pos hfit]
      have hi := ih (pre ++ [w]) ((line ++ sp) ++ w) out (at_step hp) (by rw [hl]; omega) (by rw [ByteArray.size_append, hasz]; omega) (by rw [ByteArray.size_append, hasz]; omega) (by rw [hl]; omega)
      have c2 : line.size + 1 + w.size ≤ 9223372036854775807 := by omega
      rw [hst]
      simp only [impl_Wrap.l1_eq, strs_len, at_lt hp, he, z0, hsp, c0, hasz, w1, hfit', c2, nn, nat_int, hnx, decide_true, if_true, List.append_nil]
      exact hi
    · have hfit' : ¬ ((line.size + 1 : Nat) : Int) + (w.size : Int) ≤ width := by omega
      have hfv := fitL_in (room := width - (line.size : Int) - 1) (n := (w.size : Int)) (l := splitM ps w) (b := 0) (fun v hv => splitM_in ps w v hv) (.inl rfl)
      have hroom : width - (((line ++ sp).size : Nat) : Int) = width - (line.size : Int) - 1 := by rw [hasz]; omega
      have hcont : Ev2 (fun N n => impl_Wrap.l1 N n (patsP ps) (strsP ws) width (restOf w (fitL (width - (((line ++ sp).size : Nat) : Int)) 0 (splitM ps w))) (strsP ws) (ws.length : Int) (IntKind.i64.wrap (((pre.length : Nat) : Int) + 1)) ((out ++ [lineOf (line ++ sp) line w (fitL (width - (((line ++ sp).size : Nat) : Int)) 0 (splitM ps w))]).map strP))
          [strsP (wrapM ps width rest (lineStep ps width line w).1 (out ++ (lineStep ps width line w).2)), boolP true] := by
        rw [hroom, hnx]
        by_cases hk : 0 < fitL (width - (line.size : Int) - 1) 0 (splitM ps w)
        · obtain ⟨k, hkk⟩ := Int.eq_ofNat_of_zero_le (show 0 ≤ fitL (width - (line.size : Int) - 1) 0 (splitM ps w) by omega)
          have hst : lineStep ps width line w = (w.extract k w.size, [(line ++ sp) ++ (w.extract 0 k ++ da)]) := by unfold lineStep; rw [if_neg hfit, if_pos hk, hkk]; rfl
          have s2 : (w.extract k w.size).size = w.size - k := by rw [ByteArray.size_extract]; omega
          have hlo : lineOf (line ++ sp) line w (k : Int) = (line ++ sp) ++ (w.extract 0 k ++ da) := by unfold lineOf; rw [if_pos (show (0 : Int) < (k : Int) by omega), ByteArray.append_assoc]; rfl
          have hro : restOf w (k : Int) = w.extract k w.size := by unfold restOf; rw [if_pos (show (0 : Int) < (k : Int) by omega)]; rfl
          rw [hkk, hst, hlo, hro]
          exact ih (pre ++ [w]) (w.extract k w.size) (out ++ [(line ++ sp) ++ (w.extract 0 k ++ da)]) (at_step hp) (by rw [hl]; omega) (by omega) (by omega) (by rw [hl]; simp; omega)
        · have hst : lineStep ps width line w = (w, [line]) := by unfold lineStep; rw [if_neg hfit, if_neg hk]
          have hlo : lineOf (line ++ sp) line w (fitL (width - (line.size : Int) - 1) 0 (splitM ps w)) = line := by unfold lineOf; rw [if_neg hk]
          have hro : restOf w (fitL (width - (line.size : Int) - 1) 0 (splitM ps w)) = w := by unfold restOf; rw [if_neg hk]
          rw [hst, hlo, hro]
          exact ih (pre ++ [w]) w (out ++ [line]) (at_step hp) (by rw [hl]; omega) a1 (by omega) (by rw [hl]; simp; omega)
      have h2 := implWrap_l2 (ps := ps) (X1 := strsP ws) (X44 := strsP ws) (X45 := (ws.length : Int)) (X46 := (pre.length : Int)) hwd (line := line) (w := w) (a := line ++ sp) a2 (by rw [hasz]; omega) (splitM_len ps w) (splitM_in ps w) (out := out) (by omega) (splitM ps w) [] 0 rfl hcont
      have hl0 : lineOf (line ++ sp) line w 0 = line := by unfold lineOf; rw [if_neg (by omega)]
      have hr0 : restOf w 0 = w := by unfold restOf; rw [if_neg (by omega)]
      rw [hl0, hr0] at h2
      simp only [impl_Wrap.l1_eq, strs_len, at_lt hp, he, z0, hsp, c0, hasz, w1, hfit', nn, nat_int, decide_true, decide_false, Bool.false_eq_true, if_true, if_false]
      refine Ev2.bind (implSplitAt_ev hps w (by omega)) ?_
      simp only [headD_one, ints_len]
      exact h2.start
def wrapOk (ps : List Pat) (ws : List ByteArray) (width : Int) : Bool := (patsOk ps && decide (ps.length ≤ 20)) && (decide (ws.length ≤ 40) && (decide (12 ≤ width ∧ width ≤ 60) && ws.all isWord))
def wrapR (ps : List Pat) (ws : List ByteArray) (width : Int) : List PV := if wrapOk ps ws width = true then [strsP (wrapAll ps width ws), boolP true] else [strsP [], boolP false]
theorem implWrap_ev {ps : List Pat} (hps : PatsB ps) {ws : List ByteArray} (hws : WsB ws) {width : Int} (hwd : 0 ≤ width ∧ width ≤ 100) : Ev (fun N => impl_Wrap.f N [patsP ps, strsP ws, intP width]) (wrapR ps ws width) := by
  obtain ⟨hwl, hwz⟩ := hws
  simp only [impl_Wrap.f_eq, toInt_sc, strs_len, implWithin_val]
  refine Ev.bind (implPats_ev hps) ?_
  unfold wrapR wrapOk
  by_cases h1 : (patsOk ps && decide (ps.length ≤ 20)) = true
  · simp only [h1, headD_one, toBool_sc, Bool.not_true, Bool.true_and, if_true]
    by_cases h2 : (40 : Int) < ((ws.length : Nat) : Int)
    · have h2' : ¬ ws.length ≤ 40 := by omega
      simp only [h2, h2', decide_true, decide_false, Bool.true_eq_false, Bool.false_eq_true, Bool.false_and, if_false]; exact Ev.now _
    · have h2' : ws.length ≤ 40 := by omega
      simp only [h2, h2', decide_true, decide_false, Bool.true_and, if_true]
      by_cases h3 : 12 ≤ width ∧ width ≤ 60
      · simp only [h3, headD_one, toBool_sc, and_self, decide_true, Bool.not_true, Bool.true_and, Bool.false_eq_true, if_false, Option.bind_some]
        have key : ∀ (rest pre : List ByteArray), ws = pre ++ rest → (∀ w ∈ pre, isWord w = true) → Ev2 (fun N n => impl_Wrap.l0 N n (patsP ps) (strsP ws) width (strsP ws) (ws.length : Int) (pre.length : Int)) (if rest.all isWord = true then [strsP (wrapAll ps width ws), boolP true] else [strsP [], boolP false]) := by
          intro rest
          induction rest with
          | nil =>
            intro pre hp hpre
            have hpre' : ∀ w ∈ ws, isWord w = true := by rw [hp]; simpa using hpre
            refine Ev2.succ ?_
            have hx : ([] : List ByteArray).all isWord = true := rfl
            rw [if_pos hx]
            simp only [impl_Wrap.l0_eq, at_end hp, strs_len, decide_false, Bool.false_eq_true, if_false]
            refine Ev2.after (g := fun N n => impl_Wrap.l1 N n (patsP ps) (strsP ws) width (ByteArray.mk #[]) (strsP ws) (ws.length : Int) 0 []) ?_
            cases hcs : ws with
            | nil =>
              refine Ev2.succ ?_
              have z : ¬ (0 : Int) < (([] : List ByteArray).length : Int) := by simp
              simp only [impl_Wrap.l1_eq, strs_len, z, decide_false, Bool.false_eq_true, if_false]
              exact Ev2.now _
            | cons w rest =>
              have hw : isWord w = true := hpre' w (by rw [hcs]; simp)
              obtain ⟨a1, a2, a3⟩ := word_in hw
              have hi := implWrap_l1 (ps := ps) hps h3 (ws := w :: rest) (by rw [← hcs]; omega) (by rw [← hcs]; exact hpre') rest [w] w [] rfl (by simp) a1 (by omega) (by simp)
              refine Ev2.succ ?_
              have z : (0 : Int) < (((w :: rest : List ByteArray).length : Nat) : Int) := by simp
              have z2 : ¬ (0 : Int) < 0 := by omega
              have e0 : ((ByteArray.mk #[]).size : Int) = 0 := rfl
              have e1 : (ByteArray.mk #[]).size = 0 := rfl
              have he : ((strsP (w :: rest)).elem 0).toStr = w := by rw [strs_elem]; rfl
              have w1 : IntKind.i64.wrap (0 + (w.size : Int)) = (w.size : Int) := by rw [wrap_id (by omega) (by omega)]; omega
              have w1b : IntKind.i64.wrap (((0 : Nat) : Int) + (w.size : Int)) = (w.size : Int) := by rw [wrap_id (by omega) (by omega)]; omega
              have hf : (w.size : Int) ≤ width := by omega
              have c1 : 0 + w.size ≤ 9223372036854775807 := by omega
              have hap : ByteArray.mk #[] ++ w = w := bytesOf_inj (by rw [app_bytes]; rfl)
              have wn : IntKind.i64.wrap (0 + 1) = 1 := wrap_id (by omega) (by omega)
              simp only [impl_Wrap.l1_eq, strs_len, z, z2, he, e0, e1, w1, w1b, hf, c1, hap, wn, Int.toNat_zero, Int.le_refl, decide_true, decide_false, Bool.false_eq_true, if_true, if_false]
              exact hi
          | cons w rest ih =>
            intro pre hp hpre
            refine Ev2.succ ?_
            have he : ((strsP ws).elem pre.length).toStr = w := by rw [strs_elem]; exact at_getD hp
            have hwm : w.size ≤ 13 := hwz w (by rw [hp]; simp)
            simp only [impl_Wrap.l0_eq, strs_len, at_lt hp, he, nn, nat_int, at_next hp (by omega), decide_true, if_true]
            refine Ev2.bind (implWord_ev w (by omega)) ?_
            by_cases hw : isWord w = true
            · have hi := ih (pre ++ [w]) (at_step hp) (fun x hx => by
                rcases List.mem_append.1 hx with h | h
                · exact hpre x h
                · simp only [List.mem_singleton] at h; subst h; exact hw)
              simp only [hw, headD_one, toBool_sc, Bool.not_true, Bool.false_eq_true, if_false, List.all_cons, Bool.true_and]
              exact hi
            · simp only [Bool.not_eq_true] at hw
              simp only [hw, headD_one, toBool_sc, Bool.not_false, if_true, List.all_cons, Bool.false_and, Bool.false_eq_true, if_false]
              exact Ev2.now _
        exact (key ws [] rfl (fun w hw => by simp at hw)).diag
      · simp only [h3, headD_one, toBool_sc, decide_false, Bool.not_false, Bool.false_and, Bool.and_false, Bool.false_eq_true, if_true, if_false, Option.bind_some]; exact Ev.now _
  · simp only [Bool.not_eq_true] at h1
    simp only [h1, headD_one, toBool_sc, Bool.not_false, Bool.true_eq_false, Bool.false_and, Bool.false_eq_true, if_false]; exact Ev.now _
theorem specWrap_ev {ps : List Pat} (hps : PatsB ps) {ws : List ByteArray} (hws : WsB ws) {width : Int} (hwd : 0 ≤ width ∧ width ≤ 100) : Ev (fun N => spec_Wrap.f N [patsP ps, strsP ws, intP width]) (wrapR ps ws width) := by
  obtain ⟨hwl, hwz⟩ := hws
  simp only [spec_Wrap.f_eq, toInt_sc]
  unfold wrapR wrapOk
  have key : ∀ (rest pre : List ByteArray), ws = pre ++ rest → (∀ w ∈ pre, isWord w = true) → Ev2 (fun N n => spec_Wrap.l0 N n (patsP ps) (strsP ws) width (pre.length : Int)) (if ((patsOk ps && decide (ps.length ≤ 20)) && (decide (ws.length ≤ 40) && (decide (12 ≤ width ∧ width ≤ 60) && rest.all isWord))) = true then [strsP (wrapAll ps width ws), boolP true] else [strsP [], boolP false]) := by
    intro rest
    induction rest with
    | nil =>
      intro pre hp hpre
      have hpre' : ∀ w ∈ ws, isWord w = true := by rw [hp]; simpa using hpre
      refine Ev2.succ ?_
      have hx : ([] : List ByteArray).all isWord = true := rfl
      simp only [spec_Wrap.l0_eq, strs_len, at_end hp, specIn_val, hx, Bool.and_true, decide_false, Bool.false_eq_true, if_false]
      refine Ev2.bind (specPats_ev hps) ?_
      by_cases h1 : (patsOk ps && decide (ps.length ≤ 20)) = true
      · have h1' : patsOk ps = true ∧ ps.length ≤ 20 := by simpa using h1
        simp only [h1, headD_one, toBool_sc, Bool.not_true, Bool.true_and, if_true]
        by_cases h2 : (40 : Int) < ((ws.length : Nat) : Int)
        · have h2' : ¬ ws.length ≤ 40 := by omega
          simp only [h2, h2', decide_true, decide_false, Bool.true_eq_false, Bool.false_eq_true, Bool.false_and, if_false]; exact Ev2.now _
        · have h2' : ws.length ≤ 40 := by omega
          simp only [h2, h2', decide_true, decide_false, Bool.true_and, if_true]
          by_cases h3 : 12 ≤ width ∧ width ≤ 60
          · simp only [h3, headD_one, toBool_sc, and_self, decide_true, Bool.not_true, Bool.false_eq_true, if_false, if_true, Option.bind_some]
            refine Ev2.bind (specL9Wrap_ev hps h1' h3 (by omega) hpre') ?_
            simp only [headD_one]
            exact Ev2.now _
          · simp only [h3, headD_one, toBool_sc, decide_false, Bool.not_false, Bool.false_eq_true, if_true, if_false, Option.bind_some]; exact Ev2.now _
      · simp only [Bool.not_eq_true] at h1
        simp only [h1, headD_one, toBool_sc, Bool.not_false, Bool.true_eq_false, Bool.false_and, Bool.false_eq_true, if_false]; exact Ev2.now _
    | cons w rest ih =>
      intro pre hp hpre
      refine Ev2.succ ?_
      have he : ((strsP ws).elem pre.length).toStr = w := by rw [strs_elem]; exact at_getD hp
      have hwm : w.size ≤ 13 := hwz w (by rw [hp]; simp)
      simp only [spec_Wrap.l0_eq, strs_len, at_lt hp, he, nn, nat_int, at_next hp (by omega), decide_true, if_true]
      refine Ev2.bind (specWord_ev w (by omega)) ?_
      by_cases hw : isWord w = true
      · have hi := ih (pre ++ [w]) (at_step hp) (fun x hx => by
          rcases List.mem_append.1 hx with h | h
          · exact hpre x h
          · simp only [List.mem_singleton] at h; subst h; exact hw)
        simp only [hw, headD_one, toBool_sc, Bool.not_true, Bool.false_eq_true, if_false, List.all_cons, Bool.true_and]
        exact hi
      · simp only [Bool.not_eq_true] at hw
        simp only [hw, headD_one, toBool_sc, Bool.not_false, if_true, List.all_cons, Bool.false_and, Bool.and_false, Bool.false_eq_true, if_false]
        exact Ev2.now _
  exact (key ws [] rfl (fun w hw => by simp at hw)).diag
/-! #### the words come back -/
structure Rep where
  ini : List ByteArray
  q : ByteArray
  d : Bool
def joinB : List ByteArray → ByteArray
  | [] => ByteArray.mk #[]
  | [x] => x
  | x :: y :: r => (x ++ sp) ++ joinB (y :: r)
theorem joinB_snoc (w : ByteArray) : ∀ {l : List ByteArray}, l ≠ [] → joinB (l ++ [w]) = (joinB l ++ sp) ++ w
  | [], h => absurd rfl h
  | [x], _ => rfl
  | x :: y :: r, _ => by
    have h := joinB_snoc w (l := y :: r) (by simp)
    show (x ++ sp) ++ joinB ((y :: r) ++ [w]) = (((x ++ sp) ++ joinB (y :: r)) ++ sp) ++ w
    rw [h]
    simp only [ByteArray.append_assoc]
def repT (r : Rep) : ByteArray := joinB (r.ini ++ [if r.d then r.q ++ da else r.q])
def lowNE (x : ByteArray) : Prop := 1 ≤ x.size ∧ x.size ≤ 60 ∧ lowB (bytesOf x) = true
def GoodR (width : Int) (r : Rep) : Prop := ((∀ x ∈ r.ini, lowNE x) ∧ lowNE r.q ∧ r.ini.length ≤ 99) ∧ 1 ≤ (repT r).size ∧ ((repT r).size : Int) ≤ width
def eB : ByteArray := ByteArray.mk #[]
theorem eB_app (x : ByteArray) : eB ++ x = x := bytesOf_inj (by rw [app_bytes]; rfl)
def addF (c : ByteArray) : List ByteArray → List ByteArray
  | [] => []
  | x :: r => (c ++ x) :: r
theorem addF_app (c : ByteArray) {l m : List ByteArray} (h : l ≠ []) : addF c (l ++ m) = addF c l ++ m := by
  cases l with
  | nil => exact absurd rfl h
  | cons x r => rfl
theorem addF_len (c : ByteArray) (l : List ByteArray) : (addF c l).length = l.length := by cases l <;> rfl
def pairU (c : ByteArray) (ini : List ByteArray) (q : ByteArray) : List ByteArray × ByteArray := match ini with
  | [] => ([], c ++ q)
  | x :: t => ((c ++ x) :: t, q)
theorem addF_pair (c : ByteArray) (ini : List ByteArray) (q : ByteArray) : addF c (ini ++ [q ++ da]) = (pairU c ini q).1 ++ [(pairU c ini q).2 ++ da] := by
  cases ini with
  | nil => simp [addF, pairU, ByteArray.append_assoc]
  | cons x t => simp [addF, pairU]
theorem pairU_ne (c : ByteArray) {ini : List ByteArray} (q : ByteArray) (h : ini ≠ []) : pairU c ini q = (addF c ini, q) := by
  cases ini with
  | nil => exact absurd rfl h
  | cons x t => rfl
def stepU (s : List ByteArray × ByteArray) (r : Rep) : List ByteArray × ByteArray :=
  if r.d then (s.1 ++ (pairU s.2 r.ini r.q).1, (pairU s.2 r.ini r.q).2) else (s.1 ++ addF s.2 (r.ini ++ [r.q]), eB)
def foldU : List ByteArray × ByteArray → List Rep → List ByteArray × ByteArray
  | s, [] => s
  | s, r :: t => foldU (stepU s r) t
theorem foldU_snoc (r : Rep) : ∀ (R : List Rep) (s : List ByteArray × ByteArray), foldU s (R ++ [r]) = stepU (foldU s R) r
  | [], s => rfl
  | x :: R, s => foldU_snoc r R (stepU s x)
theorem low_ext {w : ByteArray} (hw : isWord w = true) {i j : Nat} (h : i < j) (hj : j ≤ w.size) : lowNE (w.extract i j) := by
  obtain ⟨a1, a2, a3⟩ := word_in hw
  refine ⟨by rw [ByteArray.size_extract]; omega, by rw [ByteArray.size_extract]; omega, ?_⟩
  rw [ext_bytes]
  unfold lowB
  rw [List.all_eq_true]
  intro c hc
  exact List.all_eq_true.1 a3 c (List.mem_of_mem_drop (List.mem_of_mem_take hc))
theorem cut_app (w : ByteArray) (k : Nat) (hk : k ≤ w.size) : w.extract 0 k ++ w.extract k w.size = w := by
  apply bytesOf_inj
  rw [app_bytes, ext_bytes, ext_bytes, List.drop_zero, Nat.sub_zero]
  have : List.take (w.size - k) (List.drop k (bytesOf w)) = List.drop k (bytesOf w) := List.take_of_length_le (by rw [List.length_drop, bytesOf_len]; omega)
  rw [this, List.take_append_drop]
theorem word_lowNE {w : ByteArray} (hw : isWord w = true) : lowNE w := by
  obtain ⟨a1, a2, a3⟩ := word_in hw
  exact ⟨a1, by omega, a3⟩
theorem wrapM_reps {ps : List Pat} {width : Int} (hwd : 12 ≤ width ∧ width ≤ 60) : ∀ (rest : List ByteArray) (R : List Rep) (ini : List ByteArray) (q : ByteArray) (W : List ByteArray), (∀ w ∈ rest, isWord w = true) → (∀ r ∈ R, GoodR width r) → (∀ x ∈ ini, lowNE x) → lowNE q →
    ini.length + rest.length ≤ 99 → 1 ≤ (joinB (ini ++ [q])).size → ((joinB (ini ++ [q])).size : Int) ≤ width → W = (foldU ([], eB) R).1 ++ addF (foldU ([], eB) R).2 (ini ++ [q]) →
    ∃ (R0 : List Rep) (r0 : Rep), wrapM ps width rest (joinB (ini ++ [q])) (R.map repT) = (R0 ++ [r0]).map repT ∧ (∀ r ∈ R0 ++ [r0], GoodR width r) ∧ r0.d = false ∧ (foldU ([], eB) (R0 ++ [r0])).1 = W ++ rest ∧ (R0 ++ [r0]).length ≤ R.length + rest.length + 1 := by
  intro rest
  induction rest with
  | nil =>
    intro R ini q W _ hR hini hq hlen h1 h2 hW
    have hrt : repT ⟨ini, q, false⟩ = joinB (ini ++ [q]) := rfl
    refine ⟨R, ⟨ini, q, false⟩, ?_, ?_, rfl, ?_, by simp⟩
    · rw [wrapM]; simp [hrt]
    · intro r hr
      rcases List.mem_append.1 hr with h | h
      · exact hR r h
      · simp only [List.mem_singleton] at h; subst h; exact ⟨⟨hini, hq, by simpa using hlen⟩, h1, h2⟩
    · rw [foldU_snoc, hW, List.append_nil]; rfl
  | cons w rest ih =>
    intro R ini q W hws hR hini hq hlen h1 h2 hW
    have hw := hws w (by simp)
    obtain ⟨a1, a2, a3⟩ := word_in hw
    have hne : ini ++ [q] ≠ [] := by simp
    have hrest : ∀ x ∈ rest, isWord x = true := fun x hx => hws x (by simp [hx])
    have hiniq : ∀ x ∈ ini ++ [q], lowNE x := fun x hx => by
      rcases List.mem_append.1 hx with h | h
      · exact hini x h
      · simp only [List.mem_singleton] at h; subst h; exact hq
    simp only [List.length_cons] at hlen
    rw [wrapM]
    by_cases hfit : ((joinB (ini ++ [q])).size : Int) + 1 + (w.size : Int) ≤ width
    · have hst : lineStep ps width (joinB (ini ++ [q])) w = ((joinB (ini ++ [q]) ++ sp) ++ w, []) := by unfold lineStep; rw [if_pos hfit]
      have hz : ((joinB (ini ++ [q]) ++ sp) ++ w).size = (joinB (ini ++ [q])).size + 1 + w.size := by rw [ByteArray.size_append, ByteArray.size_append, sp_size]
      obtain ⟨R0, r0, i1, i2, i3, i4, i5⟩ := ih R (ini ++ [q]) w (W ++ [w]) hrest hR hiniq (word_lowNE hw) (by simp; omega) (by rw [joinB_snoc w hne, hz]; omega) (by rw [joinB_snoc w hne, hz]; omega) (by rw [addF_app _ hne, hW]; simp)
      refine ⟨R0, r0, ?_, i2, i3, ?_, ?_⟩
      · rw [hst, ← joinB_snoc w hne, List.append_nil]; exact i1
      · rw [i4]; simp
      · simp only [List.length_cons]; omega
    · have hfv := fitL_in (room := width - ((joinB (ini ++ [q])).size : Int) - 1) (n := (w.size : Int)) (l := splitM ps w) (b := 0) (fun v hv => splitM_in ps w v hv) (.inl rfl)
      by_cases hk : 0 < fitL (width - ((joinB (ini ++ [q])).size : Int) - 1) 0 (splitM ps w)
      · obtain ⟨k, hkk⟩ := Int.eq_ofNat_of_zero_le (show 0 ≤ fitL (width - ((joinB (ini ++ [q])).size : Int) - 1) 0 (splitM ps w) by omega)
        have hst : lineStep ps width (joinB (ini ++ [q])) w = (w.extract k w.size, [(joinB (ini ++ [q]) ++ sp) ++ (w.extract 0 k ++ da)]) := by unfold lineStep; rw [if_neg hfit, if_pos hk, hkk]; rfl
        have hrt : repT ⟨ini ++ [q], w.extract 0 k, true⟩ = (joinB (ini ++ [q]) ++ sp) ++ (w.extract 0 k ++ da) := joinB_snoc _ hne
        have s1 : (w.extract 0 k).size = k := by rw [ByteArray.size_extract]; omega
        have s2 : (w.extract k w.size).size = w.size - k := by rw [ByteArray.size_extract]; omega
        have hz : (repT ⟨ini ++ [q], w.extract 0 k, true⟩).size = (joinB (ini ++ [q])).size + 1 + (k + 1) := by rw [hrt, ByteArray.size_append, ByteArray.size_append, ByteArray.size_append, sp_size, da_size, s1]
        have hl0 : lowNE (w.extract 0 k) := low_ext hw (by omega) (by omega)
        have hl1 : lowNE (w.extract k w.size) := low_ext hw (by omega) (by omega)
        have hgood : ∀ r ∈ R ++ [⟨ini ++ [q], w.extract 0 k, true⟩], GoodR width r := fun r hr => by
          rcases List.mem_append.1 hr with h | h
          · exact hR r h
          · simp only [List.mem_singleton] at h; subst h
            exact ⟨⟨hiniq, hl0, by show (ini ++ [q]).length ≤ 99; simp; omega⟩, by omega, by omega⟩
        have hfold : foldU ([], eB) (R ++ [⟨ini ++ [q], w.extract 0 k, true⟩]) = (W, w.extract 0 k) := by
          rw [foldU_snoc]
          unfold stepU
          rw [if_pos rfl, pairU_ne _ _ hne, hW]
        obtain ⟨R0, r0, i1, i2, i3, i4, i5⟩ := ih (R ++ [⟨ini ++ [q], w.extract 0 k, true⟩]) [] (w.extract k w.size) (W ++ [w]) hrest hgood (fun x hx => by simp at hx) hl1 (by simp; omega) (by show 1 ≤ (w.extract k w.size).size; omega) (by show ((w.extract k w.size).size : Int) ≤ width; omega) (by
          rw [hfold]
          show W ++ [w] = W ++ [w.extract 0 k ++ w.extract k w.size]
          rw [cut_app w k (by omega)])
        refine ⟨R0, r0, ?_, i2, i3, ?_, ?_⟩
        · rw [hst]
          rw [List.map_append] at i1
          have : List.map repT [⟨ini ++ [q], w.extract 0 k, true⟩] = [(joinB (ini ++ [q]) ++ sp) ++ (w.extract 0 k ++ da)] := by rw [List.map_cons, hrt]; rfl
          rw [this] at i1
          exact i1
        · rw [i4]; simp
        · simp only [List.length_append, List.length_cons, List.length_nil] at i5 ⊢; omega
      · have hst : lineStep ps width (joinB (ini ++ [q])) w = (w, [joinB (ini ++ [q])]) := by unfold lineStep; rw [if_neg hfit, if_neg hk]
        have hrt : repT ⟨ini, q, false⟩ = joinB (ini ++ [q]) := rfl
        have hgood : ∀ r ∈ R ++ [⟨ini, q, false⟩], GoodR width r := fun r hr => by
          rcases List.mem_append.1 hr with h | h
          · exact hR r h
          · simp only [List.mem_singleton] at h; subst h
            exact ⟨⟨hini, hq, by show ini.length ≤ 99; omega⟩, h1, h2⟩
        have hfold : foldU ([], eB) (R ++ [⟨ini, q, false⟩]) = (W, eB) := by
          rw [foldU_snoc, hW]; rfl
        obtain ⟨R0, r0, i1, i2, i3, i4, i5⟩ := ih (R ++ [⟨ini, q, false⟩]) [] w (W ++ [w]) hrest hgood (fun x hx => by simp at hx) (word_lowNE hw) (by simp; omega) a1 (by show (w.size : Int) ≤ width; omega) (by rw [hfold]; simp [addF, eB_app])
        refine ⟨R0, r0, ?_, i2, i3, ?_, ?_⟩
        · rw [hst]
          rw [List.map_append] at i1
          exact i1
        · rw [i4]; simp
        · simp only [List.length_append, List.length_cons, List.length_nil] at i5 ⊢; omega
/-! Cutting at spaces. -/
def no32 (x : ByteArray) : Prop := ∀ b ∈ x.data.toList, b ≠ 32
theorem sp_data : sp.data.toList = [32] := rfl
theorem index_at {x y : List UInt8} (h : ∀ b ∈ x, b ≠ 32) : Lib.index (x ++ 32 :: y) [32] = (x.length : Int) := by
  refine Lib.index_first (i := x.length) (by simp) ?_ (fun j hj => ?_)
  · unfold Lib.occAt
    rw [List.drop_left' rfl]
    rfl
  · unfold Lib.occAt
    have hd : (x ++ 32 :: y).drop j = x[j] :: (x.drop (j + 1) ++ 32 :: y) := by
      rw [List.drop_append_of_le_length (by omega), List.drop_eq_getElem_cons hj]; rfl
    rw [hd]
    have := h x[j] (List.getElem_mem hj)
    simp [List.isPrefixOf]
    exact fun e => this e.symm
theorem index_no {x : List UInt8} (h : ∀ b ∈ x, b ≠ 32) : Lib.index x [32] = -1 := by
  refine Lib.index_none (fun j hj => ?_)
  unfold Lib.occAt
  by_cases hl : j < x.length
  · rw [List.drop_eq_getElem_cons hl]
    have := h x[j] (List.getElem_mem hl)
    simp [List.isPrefixOf]
    exact fun e => this e.symm
  · rw [List.drop_of_length_le (by omega)]; rfl
theorem app_data (a b : ByteArray) : (a ++ b).data.toList = a.data.toList ++ b.data.toList := by simp [ByteArray.data_append]
theorem size_data (a : ByteArray) : a.size = a.data.toList.length := (Array.length_toList (xs := a.data)).symm
theorem split_join : ∀ (l : List ByteArray), l ≠ [] → (∀ x ∈ l, no32 x) → splitOn (joinB l) sp = l
  | [], h, _ => absurd rfl h
  | [x], _, hx => by
    have hi : Lib.indexB x sp = -1 := index_no (hx x (by simp))
    have hc := Lib.countB_miss x sp hi
    unfold splitOn
    show Lib.splitB sp 0 (Lib.countB x sp) x = [x]
    rw [hc]; rfl
  | x :: y :: r, _, hx => by
    have hi : Lib.indexB (joinB (x :: y :: r)) sp = (x.size : Int) := by
      show Lib.index (((x ++ sp) ++ joinB (y :: r))).data.toList sp.data.toList = _
      rw [app_data, app_data, sp_data, List.append_assoc, size_data]
      exact index_at (hx x (by simp))
    have he : (joinB (x :: y :: r)).extract (x.size + sp.size) (joinB (x :: y :: r)).size = joinB (y :: r) := by
      apply bytesOf_inj
      have hb : bytesOf (joinB (x :: y :: r)) = (bytesOf x ++ bytesOf sp) ++ bytesOf (joinB (y :: r)) := by
        show bytesOf ((x ++ sp) ++ joinB (y :: r)) = _
        rw [app_bytes, app_bytes]
      rw [ext_bytes, hb, List.drop_left' (by rw [List.length_append, bytesOf_len, bytesOf_len])]
      refine List.take_of_length_le ?_
      have : (joinB (x :: y :: r)).size = x.size + sp.size + (joinB (y :: r)).size := by
        show ((x ++ sp) ++ joinB (y :: r)).size = _
        rw [ByteArray.size_append, ByteArray.size_append]
      rw [this, bytesOf_len]; omega
    have h0 : (joinB (x :: y :: r)).extract 0 x.size = x := by
      apply bytesOf_inj
      have hb : bytesOf (joinB (x :: y :: r)) = bytesOf x ++ (bytesOf sp ++ bytesOf (joinB (y :: r))) := by
        show bytesOf ((x ++ sp) ++ joinB (y :: r)) = _
        rw [app_bytes, app_bytes, List.append_assoc]
      rw [ext_bytes, hb, List.drop_zero, Nat.sub_zero, ← bytesOf_len x, List.take_left' rfl]
    have hc := Lib.countB_hit (joinB (x :: y :: r)) sp x.size (by rw [sp_size]; omega) hi
    rw [he] at hc
    have ih := split_join (y :: r) (by simp) (fun z hz => hx z (by simp [hz]))
    unfold splitOn at ih ⊢
    rw [hc, Nat.add_comm 1, Lib.splitB, hi]
    have hn : (((x.size : Nat) : Int) == -1) = false := by
      cases hx : (((x.size : Nat) : Int) == -1) with
      | false => rfl
      | true => have := beq_iff_eq.1 hx; omega
    rw [hn, if_neg (by simp), nat_int, Nat.add_zero, h0, he, ih]
theorem low_no32 {x : ByteArray} (h : lowB (bytesOf x) = true) : no32 x := by
  intro b hb hh
  have hm : (b.toNat : Int) ∈ bytesOf x := by unfold bytesOf; exact List.mem_map.2 ⟨b, hb, rfl⟩
  have := List.all_eq_true.1 h _ hm
  rw [hh] at this
  revert this; decide
theorem no32_da {x : ByteArray} (h : no32 x) : no32 (x ++ da) := by
  intro b hb
  rw [app_data] at hb
  rcases List.mem_append.1 hb with h1 | h1
  · exact h b h1
  · have e : da.data.toList = [45] := rfl
    rw [e] at h1
    simp only [List.mem_singleton] at h1
    rw [h1]; decide
theorem split_val (s : ByteArray) (hs : s.size ≤ 4294967280) (N : Nat) : strings_Split.f N [strP s, strP sp] = some [strsP (splitOn s sp)] := by
  have h : strings_Split.f N [strP s, strP sp] = if sp.size = 1 then (if s.size ≤ 4294967280 then some [strsP (splitOn s sp)] else none) else none := rfl
  rw [if_pos sp_size, if_pos hs] at h
  exact h
theorem suf_val (s : ByteArray) (hs : 1 ≤ s.size) (hs2 : s.size ≤ 1000000) (N : Nat) : strings_HasSuffix.f N [strP s, strP da] = some [boolP (decide (s.extract (s.size - 1) s.size = da))] := by
  have q1 : (da.size : Int) ≤ (s.size : Int) := by rw [da_size]; omega
  have w1 : IntKind.i64.wrap ((s.size : Int) - (da.size : Int)) = ((s.size - 1 : Nat) : Int) := by rw [da_size, wrap_id (by omega) (by omega)]; omega
  have q2 : ((s.size - 1 : Nat) : Int) ≤ (s.size : Int) := by omega
  simp only [strings_HasSuffix.f_eq, stringslite_HasSuffix.f_eq, toStr_sc, q1, w1, q2, nn, nat_int, toList_inj, headD_one, toBool_sc, decide_true, if_true, Option.bind_some]
theorem suf_da (x : ByteArray) : (x ++ da).extract ((x ++ da).size - 1) (x ++ da).size = da := by
  apply bytesOf_inj
  have hz : (x ++ da).size = x.size + 1 := by rw [ByteArray.size_append, da_size]
  rw [ext_bytes, hz, app_bytes, List.drop_left' (by rw [bytesOf_len]; omega)]
  exact List.take_of_length_le (by rw [bytesOf_len, da_size]; omega)
theorem pre_da (x : ByteArray) : (x ++ da).extract 0 ((x ++ da).size - 1) = x := by
  apply bytesOf_inj
  have hz : (x ++ da).size = x.size + 1 := by rw [ByteArray.size_append, da_size]
  rw [ext_bytes, hz, app_bytes, List.drop_zero]
  exact List.take_left' (by rw [bytesOf_len]; omega)
theorem suf_low (x q : ByteArray) (hq : lowNE q) : ¬ (x ++ q).extract ((x ++ q).size - 1) (x ++ q).size = da := by
  intro h
  have hb := congrArg bytesOf h
  have hz : (x ++ q).size = x.size + q.size := by rw [ByteArray.size_append]
  have h1 := hq.1
  rw [ext_bytes, hz, app_bytes] at hb
  have e : x.size + q.size - 1 = (bytesOf x).length + (q.size - 1) := by rw [bytesOf_len]; omega
  rw [e, List.drop_append] at hb
  have hd : List.drop ((bytesOf x).length + (q.size - 1)) (bytesOf x) = [] := List.drop_of_length_le (by omega)
  rw [hd, List.nil_append] at hb
  have hm : (45 : Int) ∈ bytesOf da := by show (45 : Int) ∈ [45]; simp
  rw [← hb] at hm
  have hm2 := List.mem_of_mem_drop (List.mem_of_mem_take hm)
  have := List.all_eq_true.1 hq.2.2 _ hm2
  revert this; decide
theorem trim_val (x : ByteArray) (hx : x.size ≤ 1000000) (N : Nat) : strings_TrimSuffix.f N [strP (x ++ da), strP da] = some [strP x] := by
  have hz : (x ++ da).size = x.size + 1 := by rw [ByteArray.size_append, da_size]
  have q1 : (da.size : Int) ≤ (((x ++ da).size : Nat) : Int) := by rw [da_size]; omega
  have w1 : IntKind.i64.wrap ((((x ++ da).size : Nat) : Int) - (da.size : Int)) = (((x ++ da).size - 1 : Nat) : Int) := by rw [da_size, wrap_id (by omega) (by omega)]; omega
  have q2 : (((x ++ da).size - 1 : Nat) : Int) ≤ (((x ++ da).size : Nat) : Int) := by omega
  simp only [strings_TrimSuffix.f_eq, stringslite_TrimSuffix.f_eq, stringslite_HasSuffix.f_eq, toStr_sc, q1, w1, q2, nn, nat_int, toList_inj, suf_da, pre_da, headD_one, toBool_sc, decide_true, if_true, Option.bind_some]
theorem set_addF (c : ByteArray) {ws : List ByteArray} (h : ws ≠ []) : ((strsP ws).items).set 0 (strP (c ++ ((strsP ws).elem 0).toStr)) = (addF c ws).map strP := by
  cases ws with
  | nil => exact absurd rfl h
  | cons x r => rfl
theorem rep_split {width : Int} {r : Rep} (h : GoodR width r) : splitOn (repT r) sp = r.ini ++ [if r.d then r.q ++ da else r.q] := by
  refine split_join _ (by simp) (fun x hx => ?_)
  rcases List.mem_append.1 hx with h1 | h1
  · exact low_no32 (h.1.1 x h1).2.2
  · simp only [List.mem_singleton] at h1
    subst h1
    have := low_no32 h.1.2.1.2.2
    split
    · exact no32_da this
    · exact this
theorem rep_last (ini : List ByteArray) (q : ByteArray) : ∃ X, ∀ t, joinB (ini ++ [q ++ t]) = (X ++ q) ++ t := by
  cases ini with
  | nil => exact ⟨eB, fun t => by rw [eB_app]; rfl⟩
  | cons x r => exact ⟨joinB (x :: r) ++ sp, fun t => by rw [joinB_snoc _ (by simp)]; simp only [ByteArray.append_assoc]⟩
theorem rep_suf {width : Int} (hwd : width ≤ 60) {r : Rep} (h : GoodR width r) (N : Nat) : strings_HasSuffix.f N [strP (repT r), strP da] = some [boolP r.d] := by
  obtain ⟨h0, h1, h2⟩ := h
  rw [suf_val _ h1 (by omega)]
  obtain ⟨X, hX⟩ := rep_last r.ini r.q
  cases hd : r.d with
  | true =>
    have e : repT r = (X ++ r.q) ++ da := by unfold repT; rw [hd]; exact hX da
    rw [e, suf_da]; simp
  | false =>
    have e : repT r = X ++ r.q := by
      unfold repT; rw [hd]
      have h3 := hX eB
      have e2 : ∀ y : ByteArray, y ++ eB = y := fun y => bytesOf_inj (by rw [app_bytes]; exact List.append_nil _)
      rw [e2, e2] at h3
      exact h3
    rw [e, decide_eq_false (suf_low X r.q h0.2.1)]
theorem pairU_len (c : ByteArray) (ini : List ByteArray) (q : ByteArray) : (pairU c ini q).1.length = ini.length := by cases ini <;> rfl
theorem pairU_size (c : ByteArray) (ini : List ByteArray) (q : ByteArray) : (pairU c ini q).2.size ≤ c.size + q.size := by
  cases ini with
  | nil => show (c ++ q).size ≤ _; rw [ByteArray.size_append]; omega
  | cons x t => show q.size ≤ _; omega
theorem unwrap_l0 {width : Int} (hwd : width ≤ 60) {R : List Rep} (hR : ∀ r ∈ R, GoodR width r) (hRl : R.length ≤ 100) (hlast : ∀ r ∈ R.getLast?, r.d = false) : ∀ (rest pre : List Rep) (acc : List ByteArray) (c : ByteArray), R = pre ++ rest → acc.length ≤ 200 * pre.length → c.size ≤ 100 * pre.length →
    Ev2 (fun N n => impl_Unwrap.l0 N n (strsP (R.map repT)) c (strsP (R.map repT)) (R.length : Int) (pre.length : Int) (acc.map strP)) [strsP (foldU (acc, c) rest).1] := by
  intro rest
  induction rest with
  | nil =>
    intro pre acc c hp ha hc
    refine Ev2.succ ?_
    simp only [impl_Unwrap.l0_eq, at_end hp, decide_false, Bool.false_eq_true, if_false]
    exact Ev2.now _
  | cons r rest ih =>
    intro pre acc c hp ha hc
    refine Ev2.succ ?_
    have hlt := at_ltN hp
    have hg := hR r (by rw [hp]; simp)
    have hpm : R.map repT = pre.map repT ++ repT r :: rest.map repT := by rw [hp]; simp
    have he : ((strsP (R.map repT)).elem pre.length).toStr = repT r := by
      rw [strs_elem]
      have := at_getD (d := ByteArray.empty) hpm
      rw [List.length_map] at this; exact this
    have hRn : (strsP (R.map repT)).items.length = R.length := by rw [strs_len, List.length_map]
    have hl : (pre ++ [r]).length = pre.length + 1 := by simp
    have hnx := at_next hp (by omega)
    rw [hl] at hnx
    have hrz : (repT r).size ≤ 60 := by have := hg.2.2; omega
    have hsv := split_val (repT r) (by omega)
    rw [rep_split hg] at hsv
    have hsp : ByteArray.mk #[32] = sp := rfl
    have hda : ByteArray.mk #[45] = da := rfl
    have heB : ByteArray.mk #[] = eB := rfl
    generalize hws : r.ini ++ [if r.d then r.q ++ da else r.q] = ws at hsv
    have hne : ws ≠ [] := by rw [← hws]; simp
    have hwl : ws.length = r.ini.length + 1 := by rw [← hws]; simp
    have hil := hg.1.2.2
    have hqz := hg.1.2.1.2.1
    have hset := set_addF c hne
    have e0 : (((strsP ws).elem 0).toStr).size ≤ 100 := by
      rw [strs_elem, ← hws]
      cases hini : r.ini with
      | nil =>
        show (if r.d then r.q ++ da else r.q).size ≤ 100
        split
        · rw [ByteArray.size_append, da_size]; omega
        · omega
      | cons x t => show x.size ≤ 100; have := (hg.1.1 x (by rw [hini]; simp)).2.1; omega
    have c1 : c.size + (((strsP ws).elem 0).toStr).size ≤ 9223372036854775807 := by omega
    have q0 : (0 : Int) < (((strsP ws).items.length : Nat) : Int) := by rw [strs_len]; omega
    have wl : IntKind.i64.wrap ((R.length : Int) - 1) = (R.length : Int) - 1 := wrap_id (by omega) (by omega)
    have c2 : (acc.map strP).length + ((addF c ws).map strP).length ≤ 8796093022208 := by rw [List.length_map, List.length_map, addF_len]; omega
    have hmapapp : acc.map strP ++ (addF c ws).map strP = (acc ++ addF c ws).map strP := by simp
    have hfin : r.d = false → Ev2 (fun N n => impl_Unwrap.l0 N n (strsP (R.map repT)) eB (strsP (R.map repT)) (R.length : Int) ((pre.length + 1 : Nat) : Int) ((acc ++ addF c ws).map strP)) [strsP (foldU (acc, c) (r :: rest)).1] := by
      intro hd
      have hi := ih (pre ++ [r]) (acc ++ addF c ws) eB (at_step hp) (by rw [hl, List.length_append, addF_len]; omega) (by show (0 : Nat) ≤ _; omega)
      rw [hl] at hi
      have hfu : foldU (acc, c) (r :: rest) = foldU (acc ++ addF c ws, eB) rest := by
        rw [foldU]; unfold stepU; rw [if_neg (by simp [hd]), ← hws, hd]; rfl
      rw [hfu]; exact hi
    by_cases hlst : ((pre.length : Nat) : Int) < (R.length : Int) - 1
    · cases hd : r.d with
      | false =>
        simp only [impl_Unwrap.l0_eq, hRn, at_lt hp, he, hsp, hda, heB, hsv, q0, c1, hset, wl, hlst, rep_suf hwd hg, hd, c2, hmapapp, hnx, nn, nat_int, Int.le_refl, headD_one, toBool_sc, Option.bind_some, decide_true, if_true, Bool.false_eq_true, if_false]
        exact hfin hd
      | true =>
        have hwsd : ws = r.ini ++ [r.q ++ da] := by rw [← hws, hd]; rfl
        have hap := addF_pair c r.ini r.q
        rw [← hwsd] at hap
        have hal : ((addF c ws).map strP).length = r.ini.length + 1 := by rw [List.length_map, addF_len, hwl]
        have wk : IntKind.i64.wrap ((((r.ini.length + 1 : Nat)) : Int) - 1) = (r.ini.length : Int) := by rw [wrap_id (by omega) (by omega)]; omega
        have k1 : (r.ini.length : Int) < ((r.ini.length + 1 : Nat) : Int) := by omega
        have k2 : (r.ini.length : Int) ≤ ((r.ini.length + 1 : Nat) : Int) := by omega
        have hel : ((PV.list ((addF c ws).map strP)).elem r.ini.length).toStr = (pairU c r.ini r.q).2 ++ da := by
          have h1 : ((PV.list ((addF c ws).map strP)).elem r.ini.length).toStr = (addF c ws).getD r.ini.length ByteArray.empty := strs_elem _ _
          rw [h1, hap, List.getD_eq_getElem?_getD, ← pairU_len c r.ini r.q]
          simp
        have htk : (((addF c ws).map strP).drop 0).take (r.ini.length - 0) = (pairU c r.ini r.q).1.map strP := by
          rw [hap, List.drop_zero, Nat.sub_zero, List.map_append, List.take_left' (by rw [List.length_map, pairU_len])]
        have hpz := pairU_size c r.ini r.q
        have c3 : (acc.map strP).length + ((pairU c r.ini r.q).1.map strP).length ≤ 8796093022208 := by rw [List.length_map, List.length_map, pairU_len]; omega
        have hma : acc.map strP ++ (pairU c r.ini r.q).1.map strP = (acc ++ (pairU c r.ini r.q).1).map strP := by simp
        have hi := ih (pre ++ [r]) (acc ++ (pairU c r.ini r.q).1) (pairU c r.ini r.q).2 (at_step hp) (by rw [hl, List.length_append, pairU_len]; omega) (by rw [hl]; omega)
        rw [hl] at hi
        have hfu : foldU (acc, c) (r :: rest) = foldU (acc ++ (pairU c r.ini r.q).1, (pairU c r.ini r.q).2) rest := by
          rw [foldU]; unfold stepU; rw [if_pos hd]
        rw [hfu]
        simp only [impl_Unwrap.l0_eq, hRn, at_lt hp, he, hsp, hda, heB, hsv, q0, c1, hset, wl, hlst, rep_suf hwd hg, hd, hal, wk, k1, k2, hel, trim_val _ (show (pairU c r.ini r.q).2.size ≤ 1000000 by omega), htk, c3, hma, hnx, nn, nat_int, Int.le_refl, headD_one, toBool_sc, toStr_sc, Option.bind_some, decide_true, if_true]
        exact hi
    · have hd : r.d = false := by
        have hrn : rest = [] := by
          cases rest with
          | nil => rfl
          | cons a b => have : R.length = pre.length + (b.length + 2) := by rw [hp]; simp
                        omega
        exact hlast r (by rw [hp, hrn]; simp)
      simp only [impl_Unwrap.l0_eq, hRn, at_lt hp, he, hsp, heB, hsv, q0, c1, hset, wl, hlst, c2, hmapapp, hnx, nn, nat_int, Int.le_refl, headD_one, toBool_sc, Option.bind_some, decide_true, decide_false, if_true, Bool.false_eq_true, if_false]
      exact hfin hd
/-- Lines that have just the words. -/
theorem wrap_back (ps : List Pat) {width : Int} (hwd : 12 ≤ width ∧ width ≤ 60) {ws : List ByteArray} (hwl : ws.length ≤ 40) (hws : ∀ w ∈ ws, isWord w = true) :
    (∀ x ∈ wrapAll ps width ws, 1 ≤ x.size ∧ (x.size : Int) ≤ width) ∧ (wrapAll ps width ws).length ≤ ws.length + 1 ∧ Ev (fun N => impl_Unwrap.f N [strsP (wrapAll ps width ws)]) [strsP ws] := by
  cases ws with
  | nil =>
    refine ⟨fun x hx => by simp [wrapAll] at hx, by simp [wrapAll], ?_⟩
    simp only [impl_Unwrap.f_eq]
    refine Ev2.diag (g := fun N n => impl_Unwrap.l0 N n (strsP []) (ByteArray.mk #[]) (strsP []) (((strsP []).items.length : Nat) : Int) 0 []) (Ev2.succ ?_)
    have z : ¬ (0 : Int) < (((strsP []).items.length : Nat) : Int) := by rw [strs_len]; simp
    simp only [impl_Unwrap.l0_eq, z, decide_false, Bool.false_eq_true, if_false]
    exact Ev2.now _
  | cons w rest =>
    have hw := hws w (by simp)
    obtain ⟨a1, a2, a3⟩ := word_in hw
    simp only [List.length_cons] at hwl
    obtain ⟨R0, r0, i1, i2, i3, i4, i5⟩ := wrapM_reps (ps := ps) hwd rest [] [] w [w] (fun x hx => hws x (by simp [hx])) (fun r hr => by simp at hr) (fun x hx => by simp at hx) (word_lowNE hw) (by simp; omega) a1 (by show (w.size : Int) ≤ width; omega) (by
      show [w] = [] ++ addF eB ([] ++ [w])
      simp [addF, eB_app])
    have e : wrapAll ps width (w :: rest) = (R0 ++ [r0]).map repT := i1
    rw [e]
    simp only [List.length_nil, Nat.zero_add] at i5
    refine ⟨fun x hx => ?_, by rw [List.length_map, List.length_cons]; omega, ?_⟩
    · obtain ⟨r, hr, rfl⟩ := List.mem_map.1 hx
      exact ⟨(i2 r hr).2.1, (i2 r hr).2.2⟩
    · have h := unwrap_l0 hwd.2 (R := R0 ++ [r0]) i2 (by omega) (fun r hr => by
        rw [List.getLast?_concat] at hr
        simp at hr
        rw [← hr]; exact i3) (R0 ++ [r0]) [] [] eB rfl (by simp) (by show (0 : Nat) ≤ _; omega)
      rw [i4] at h
      simp only [impl_Unwrap.f_eq, strs_len, List.length_map]
      exact h.diag
theorem mdTexts_loop (a : List ByteArray) (ha : a.length ≤ 9223372036854775807) : ∀ rest pre : List ByteArray, a = pre ++ rest → Ev2 (fun N n => laws_mdTexts.l0 N n (strsP a) (strsP a) (pre.length : Int)) [boolP true] := by
  intro rest
  induction rest with
  | nil =>
    intro pre hp
    refine Ev2.succ ?_
    simp only [laws_mdTexts.l0_eq, at_end hp, strs_len, strs_elem, ints_len, ints_elem, items_list, fld_agg, elem_list, toStr_sc, toInt_sc, toBool_sc, headD_one, nat_int, get_bt, decide_eq_true_eq, decide_eq_false_iff_not, decide_true, decide_false, if_true, if_false, ite_self, Bool.not_true, Bool.not_false, Bool.false_eq_true, Bool.true_eq_false, Bool.true_and, Bool.false_and, Bool.and_true, Bool.and_false, not_true, not_false_iff, Option.bind_some, nn, toList_inj, Bool.not_eq_true', Bool.not_eq_false', Int.le_refl, and_self, true_and, and_true, false_and, and_false, bne_self_eq_false, beq_self_eq_true, Int.reduceEq, Nat.reduceEqDiff, List.length_singleton, List.tail_cons, Int.reduceLE, Int.reduceLT, decide_eq_true_eq]
    exact Ev2.now _
  | cons c rest ih =>
    intro pre hp
    refine Ev2.succ ?_
    simp only [laws_mdTexts.l0_eq, at_lt hp, at_next hp ha, strs_len, strs_elem, ints_len, ints_elem, items_list, fld_agg, elem_list, toStr_sc, toInt_sc, toBool_sc, headD_one, nat_int, get_bt, decide_eq_true_eq, decide_eq_false_iff_not, decide_true, decide_false, if_true, if_false, ite_self, Bool.not_true, Bool.not_false, Bool.false_eq_true, Bool.true_eq_false, Bool.true_and, Bool.false_and, Bool.and_true, Bool.and_false, not_true, not_false_iff, Option.bind_some, nn, toList_inj, Bool.not_eq_true', Bool.not_eq_false', Int.le_refl, and_self, true_and, and_true, false_and, and_false, bne_self_eq_false, beq_self_eq_true, Int.reduceEq, Nat.reduceEqDiff, List.length_singleton, List.tail_cons, Int.reduceLE, Int.reduceLT, decide_eq_true_eq]
    exact ih _ (at_step hp)
theorem mdTexts_ev (a : List ByteArray) (ha : a.length ≤ 9223372036854775807) : Ev (fun N => laws_mdTexts.f N [strsP a, strsP a]) [boolP true] := by
  simp only [laws_mdTexts.f_eq, strs_len, strs_elem, ints_len, ints_elem, items_list, fld_agg, elem_list, toStr_sc, toInt_sc, toBool_sc, headD_one, nat_int, get_bt, decide_eq_true_eq, decide_eq_false_iff_not, decide_true, decide_false, if_true, if_false, ite_self, Bool.not_true, Bool.not_false, Bool.false_eq_true, Bool.true_eq_false, Bool.true_and, Bool.false_and, Bool.and_true, Bool.and_false, not_true, not_false_iff, Option.bind_some, nn, toList_inj, Bool.not_eq_true', Bool.not_eq_false', Int.le_refl, and_self, true_and, and_true, false_and, and_false, bne_self_eq_false, beq_self_eq_true, Int.reduceEq, Nat.reduceEqDiff, List.length_singleton, List.tail_cons, Int.reduceLE, Int.reduceLT, decide_eq_true_eq]
  exact (mdTexts_loop a ha a [] rfl).diag
/-- The law's own function answers true. -/
theorem law (ps : List PV) (h : PvOkL (PvOk Tryd.prog 8) [22] ps) : ∃ N, laws_FnWrap.f N ps = some [boolP true] := by
  obtain ⟨l, rfl, hby⟩ := code_args (P := Tryd.prog) (t := 22) (e := 5) (by kernel_rfl) (by kernel_rfl) h
  refine Ev.some ?_
  simp only [laws_FnWrap.f_eq, items_list]
  by_cases hl : (1048576 : Int) < (l.length : Int)
  · simp only [hl, decide_true, if_true]; exact Ev.now _
  obtain ⟨pl, ws, v, h1, h2, h3, h4⟩ := drawWrap_ev (l := l) (by omega) hby
  simp only [hl, decide_false, Bool.false_eq_true, if_false]
  refine Ev.bind h4 ?_
  simp only [List.headD_cons, List.tail_cons, toInt_sc]
  refine Ev.bind (implWrap_ev h1 h2 (by omega)) ?_
  refine Ev.bind (specWrap_ev h1 h2 (by omega)) ?_
  unfold wrapR
  by_cases hok : wrapOk pl ws v = true
  · have hparts := hok
    unfold wrapOk at hparts
    simp only [Bool.and_eq_true, decide_eq_true_eq] at hparts
    obtain ⟨⟨p1, p2⟩, p3, p4, p5⟩ := hparts
    have hws : ∀ w ∈ ws, isWord w = true := List.all_eq_true.1 p5
    obtain ⟨b1, b2, b3⟩ := wrap_back pl p4 p3 hws
    obtain ⟨n1, n2, n3⟩ := wrap_back [] p4 p3 hws
    have hok0 : wrapOk [] ws v = true := by
      unfold wrapOk
      rw [p5, decide_eq_true p3, decide_eq_true p4]; rfl
    have hplain : Ev (fun N => impl_Wrap.f N [PV.list [], strsP ws, intP v]) [strsP (wrapAll [] v ws), boolP true] := by
      have := implWrap_ev (ps := []) ⟨by simp, fun p hp => by simp at hp⟩ h2 (width := v) (by omega)
      unfold wrapR at this
      rw [if_pos hok0] at this
      exact this
    rw [if_pos hok]
    simp only [List.headD_cons, List.tail_cons, toBool_sc, bne_self_eq_false, if_true]
    refine Ev.bind (mdTexts_ev (wrapAll pl v ws) (by omega)) ?_
    simp only [List.headD_cons, toBool_sc, Bool.not_true, Bool.false_eq_true, if_true, if_false]
    have key : ∀ (rest pre : List ByteArray), wrapAll pl v ws = pre ++ rest → Ev2 (fun N n => laws_FnWrap.l0 N n v (pre.length : Int) (strsP ws) (strsP (wrapAll pl v ws))) [boolP true] := by
      intro rest
      induction rest with
      | nil =>
        intro pre hp
        refine Ev2.succ ?_
        have wz : IntKind.i64.wrap (((ws.length : Nat) : Int) + 1) = ((ws.length : Nat) : Int) + 1 := wrap_id (by omega) (by omega)
        have hle : (((wrapAll pl v ws).length : Nat) : Int) ≤ ((ws.length : Nat) : Int) + 1 := by omega
        simp only [laws_FnWrap.l0_eq, strs_len, at_end hp, decide_false, Bool.false_eq_true, if_false]
        refine Ev2.bind hplain ?_
        refine Ev2.bind b3 ?_
        simp only [List.headD_cons]
        refine Ev2.bind (mdTexts_ev ws (by omega)) ?_
        simp only [List.headD_cons, toBool_sc, if_true]
        refine Ev2.bind n3 ?_
        simp only [List.headD_cons]
        refine Ev2.bind (mdTexts_ev ws (by omega)) ?_
        simp only [List.headD_cons, toBool_sc, wz, hle, decide_true, if_true]
        exact Ev2.now _
      | cons x rest ih =>
        intro pre hp
        refine Ev2.succ ?_
        have hx := b1 x (by rw [hp]; simp)
        have he : ((strsP (wrapAll pl v ws)).elem pre.length).toStr = x := by rw [strs_elem]; exact at_getD hp
        have z1 : ¬ v < (x.size : Int) := by omega
        have z2 : ¬ (x.size : Int) = 0 := by omega
        simp only [laws_FnWrap.l0_eq, strs_len, at_lt hp, he, z1, z2, nn, nat_int, at_next hp (by omega), decide_true, decide_false, Bool.false_eq_true, if_true, if_false]
        exact ih _ (at_step hp)
    exact (key (wrapAll pl v ws) [] rfl).diag
  · rw [if_neg hok]
    simp only [List.headD_cons, List.tail_cons, toBool_sc, bne_self_eq_false, if_true]
    refine Ev.bind (mdTexts_ev [] (by simp)) ?_
    simp only [List.headD_cons, toBool_sc, Bool.not_true, Bool.not_false, beq_self_eq_true, if_true]
    refine Ev.bind (mdTexts_ev [] (by simp)) ?_
    simp only [List.headD_cons, toBool_sc]
    exact Ev.now _
end Go.Proofs.YtanfkcmfgdeioaaDoor.FnWrap
