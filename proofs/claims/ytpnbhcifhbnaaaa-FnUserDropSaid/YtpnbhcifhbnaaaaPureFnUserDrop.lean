/- The law FnUserDrop, over the trees that its functions compute: it answers true, for all arguments of the bounds that the row grants. -/
import Derived.Test.YtpnbhcifhbnaaaaFnFnUserDropx1
set_option linter.unusedVariables false
set_option linter.unusedSimpArgs false
set_option maxRecDepth 10000
namespace Go.Proofs.Ytpnbhcifhbnaaaa.FnUserDrop
open Go Go.Proofs.YtpnbhcifhbnaaaaAm
/-! #### the reader of a code -/
def rdP (b : PV) (p : Int) : PV := .agg [b, intP p]
theorem rd_f0 (b : PV) (p : Int) : (rdP b p).fld 0 = b := rfl
theorem rd_f1 (b : PV) (p : Int) : (rdP b p).fld 1 = intP p := rfl
theorem rd_agg (b : PV) (p : Int) : PV.agg [b, PV.sc (.int .i64 p)] = rdP b p := rfl
/-- A code: so many bytes. -/
structure Code1 (b : PV) : Prop where
  len : b.items.length ≤ 2000
  byte : ∀ j, 0 ≤ (b.elem j).toInt ∧ (b.elem j).toInt ≤ 255
theorem bXor_pos {a b : Int} (ha : 0 ≤ a ∧ a < 9223372036854775808) (hb : 0 ≤ b ∧ b < 9223372036854775808) : 0 ≤ bXor .i64 a b := by
  obtain ⟨x, rfl⟩ := Int.eq_ofNat_of_zero_le ha.1
  obtain ⟨y, rfl⟩ := Int.eq_ofNat_of_zero_le hb.1
  have hx : x < 2 ^ 63 := by omega
  have hy : y < 2 ^ 63 := by omega
  have h : (BitVec.ofInt (IntKind.bits .i64) (x : Int) ^^^ BitVec.ofInt (IntKind.bits .i64) (y : Int)).toNat = x ^^^ y := by
    rw [BitVec.toNat_xor, BitVec.toNat_ofInt, BitVec.toNat_ofInt]
    have hx2 : ((x : Int) % ((2 ^ IntKind.i64.bits : Nat) : Int)).toNat = x := by
      have : ((2 ^ IntKind.i64.bits : Nat) : Int) = 18446744073709551616 := rfl
      rw [this]; omega
    have hy2 : ((y : Int) % ((2 ^ IntKind.i64.bits : Nat) : Int)).toNat = y := by
      have : ((2 ^ IntKind.i64.bits : Nat) : Int) = 18446744073709551616 := rfl
      rw [this]; omega
    rw [hx2, hy2]
  have hlt : x ^^^ y < 2 ^ 63 := Nat.xor_lt_two_pow hx hy
  unfold bXor
  rw [h, wrap_id (by omega) (by omega)]
  omega
theorem tmod_in {x n : Int} (hx : 0 ≤ x) (hn : 1 ≤ n) : 0 ≤ Int.tmod x n ∧ Int.tmod x n < n := by
  rw [Int.tmod_eq_emod_of_nonneg hx]
  exact ⟨Int.emod_nonneg _ (by omega), Int.emod_lt_of_pos _ (by omega)⟩
theorem tdiv_in {x n : Int} (hx : 0 ≤ x) (hn : 1 ≤ n) : 0 ≤ Int.tdiv x n ∧ Int.tdiv x n ≤ x := by
  rw [Int.tdiv_eq_ediv_of_nonneg hx]
  exact ⟨Int.ediv_nonneg hx (by omega), Int.ediv_le_self _ hx⟩
theorem pick_ev {b : PV} (hb : Code1 b) {p n : Int} (hp : 0 ≤ p ∧ p < 1000000000) (hn : 1 ≤ n ∧ n < 4611686018427387904) : ∃ k, (0 ≤ k ∧ k < n) ∧ ∀ N, spec_l1Rd_pick.f N [rdP b p, intP n] = some [intP k, rdP b (p + 1)] := by
  have hlen := hb.len
  have h0 : ¬ n < 1 := by omega
  have h00 : ¬ n = 0 := by omega
  have w1 : IntKind.i64.wrap (p + 1) = p + 1 := wrap_id (by omega) (by omega)
  have w2 : IntKind.i64.wrap (p + 1 - 1) = p := by rw [wrap_id (by omega) (by omega)]; omega
  by_cases hz : (b.items.length : Int) = 0
  · refine ⟨0, by omega, fun N => ?_⟩
    simp only [spec_l1Rd_pick.f_eq, rd_f0, rd_f1, h0, hz, w1, strs_len, strs_elem, ints_len, ints_elem, items_list, fld_agg, elem_list, toStr_sc, toInt_sc, toBool_sc, headD_one, nat_int, get_bt, decide_eq_true_eq, decide_eq_false_iff_not, decide_true, decide_false, if_true, if_false, ite_self, Bool.not_true, Bool.not_false, Bool.false_eq_true, Bool.true_eq_false, Bool.true_and, Bool.false_and, Bool.and_true, Bool.and_false, not_true, not_false_iff, Option.bind_some, nn, toList_inj, Bool.not_eq_true', Bool.not_eq_false', Int.le_refl, and_self, true_and, and_true, false_and, and_false, bne_self_eq_false, beq_self_eq_true, Int.reduceEq, Nat.reduceEqDiff, List.length_singleton, List.tail_cons, Int.reduceLE, Int.reduceLT, decide_eq_true_eq]
    rfl
  by_cases hlt : p < (b.items.length : Int)
  · have hby := hb.byte p.toNat
    have w3 : IntKind.i64.wrap ((b.elem p.toNat).toInt) = (b.elem p.toNat).toInt := wrap_id (by omega) (by omega)
    refine ⟨Int.tmod ((b.elem p.toNat).toInt) n, tmod_in hby.1 hn.1, fun N => ?_⟩
    simp only [spec_l1Rd_pick.f_eq, rd_f0, rd_f1, h0, h00, hz, hlt, hp.1, w1, w2, w3, strs_len, strs_elem, ints_len, ints_elem, items_list, fld_agg, elem_list, toStr_sc, toInt_sc, toBool_sc, headD_one, nat_int, get_bt, decide_eq_true_eq, decide_eq_false_iff_not, decide_true, decide_false, if_true, if_false, ite_self, Bool.not_true, Bool.not_false, Bool.false_eq_true, Bool.true_eq_false, Bool.true_and, Bool.false_and, Bool.and_true, Bool.and_false, not_true, not_false_iff, Option.bind_some, nn, toList_inj, Bool.not_eq_true', Bool.not_eq_false', Int.le_refl, and_self, true_and, and_true, false_and, and_false, bne_self_eq_false, beq_self_eq_true, Int.reduceEq, Nat.reduceEqDiff, List.length_singleton, List.tail_cons, Int.reduceLE, Int.reduceLT, decide_eq_true_eq]
    rfl
  · have hm : 1 ≤ (b.items.length : Int) := by omega
    have w4 : IntKind.i64.wrap (p * 7) = p * 7 := wrap_id (by omega) (by omega)
    have w5 : IntKind.i64.wrap (p * 7 + 3) = p * 7 + 3 := wrap_id (by omega) (by omega)
    have w6 : IntKind.i64.wrap (p * 29) = p * 29 := wrap_id (by omega) (by omega)
    have m1 := tmod_in (x := p) hp.1 hm
    have m2 := tmod_in (x := p * 7 + 3) (by omega) hm
    have q1 := tdiv_in (x := p) hp.1 hm
    have w7 : IntKind.i64.wrap (Int.tdiv p (b.items.length : Int)) = Int.tdiv p (b.items.length : Int) := wrap_id (by omega) (by omega)
    have w8 : IntKind.i64.wrap (Int.tdiv p (b.items.length : Int) * 53) = Int.tdiv p (b.items.length : Int) * 53 := wrap_id (by omega) (by omega)
    have e1 := hb.byte (Int.tmod p (b.items.length : Int)).toNat
    have e2 := hb.byte (Int.tmod (p * 7 + 3) (b.items.length : Int)).toNat
    have z64 : ((64 : Int) = 0) = False := by simp
    simp only [spec_l1Rd_pick.f_eq, rd_f0, rd_f1, h0, h00, hz, hlt, hp.1, w1, w2, w4, w5, w6, w7, w8, m1, m2, z64, strs_len, strs_elem, ints_len, ints_elem, items_list, fld_agg, elem_list, toStr_sc, toInt_sc, toBool_sc, headD_one, nat_int, get_bt, decide_eq_true_eq, decide_eq_false_iff_not, decide_true, decide_false, if_true, if_false, ite_self, Bool.not_true, Bool.not_false, Bool.false_eq_true, Bool.true_eq_false, Bool.true_and, Bool.false_and, Bool.and_true, Bool.and_false, not_true, not_false_iff, Option.bind_some, nn, toList_inj, Bool.not_eq_true', Bool.not_eq_false', Int.le_refl, and_self, true_and, and_true, false_and, and_false, bne_self_eq_false, beq_self_eq_true, Int.reduceEq, Nat.reduceEqDiff, List.length_singleton, List.tail_cons, Int.reduceLE, Int.reduceLT, decide_eq_true_eq]
    generalize (b.elem (Int.tmod p (b.items.length : Int)).toNat).toInt = x1 at e1 ⊢
    generalize (b.elem (Int.tmod (p * 7 + 3) (b.items.length : Int)).toNat).toInt = x2 at e2 ⊢
    generalize Int.tdiv p (b.items.length : Int) = d at q1 ⊢
    have v1 : IntKind.i64.wrap x1 = x1 := wrap_id (by omega) (by omega)
    have v2 : IntKind.i64.wrap x2 = x2 := wrap_id (by omega) (by omega)
    have v3 : IntKind.i64.wrap (x1 * 131) = x1 * 131 := wrap_id (by omega) (by omega)
    have v4 : IntKind.i64.wrap (x2 * 1117) = x2 * 1117 := wrap_id (by omega) (by omega)
    have v5 : IntKind.i64.wrap (x1 * 131 + x2 * 1117) = x1 * 131 + x2 * 1117 := wrap_id (by omega) (by omega)
    have v6 : IntKind.i64.wrap (x1 * 131 + x2 * 1117 + p * 29) = x1 * 131 + x2 * 1117 + p * 29 := wrap_id (by omega) (by omega)
    have v7 : IntKind.i64.wrap (x1 * 131 + x2 * 1117 + p * 29 + d * 53) = x1 * 131 + x2 * 1117 + p * 29 + d * 53 := wrap_id (by omega) (by omega)
    simp only [v1, v2, v3, v4, v5, v6, v7]
    generalize hy : x1 * 131 + x2 * 1117 + p * 29 + d * 53 = y
    have hyb : 0 ≤ y ∧ y < 1000000000000 := by omega
    have q2 := tdiv_in (x := y) (n := 64) hyb.1 (by omega)
    have v8 : IntKind.i64.wrap (Int.tdiv y 64) = Int.tdiv y 64 := wrap_id (by omega) (by omega)
    rw [v8]
    exact ⟨Int.tmod (bXor .i64 y (Int.tdiv y 64)) n, tmod_in (bXor_pos (by omega) (by omega)) hn.1, fun N => rfl⟩
theorem of_ev {b : PV} (hb : Code1 b) {p : Int} (hp : 0 ≤ p ∧ p < 1000000000) (l : List ByteArray) (hl : 1 ≤ l.length ∧ l.length < 4611686018427387904) : ∃ s ∈ l, ∀ N, spec_l1Rd_of.f N [rdP b p, strsP l] = some [strP s, rdP b (p + 1)] := by
  obtain ⟨k, hk, hf⟩ := pick_ev hb hp (n := (l.length : Int)) (by omega)
  obtain ⟨j, rfl⟩ := Int.eq_ofNat_of_zero_le hk.1
  have hj : j < l.length := by omega
  refine ⟨l.getD j ByteArray.empty, ?_, fun N => ?_⟩
  · rw [List.getD_eq_getElem?_getD, List.getElem?_eq_getElem hj]; exact List.getElem_mem hj
  · simp only [spec_l1Rd_of.f_eq, rd_f0, rd_f1, rd_agg, hf, hk, strs_len, strs_elem, ints_len, ints_elem, items_list, fld_agg, elem_list, toStr_sc, toInt_sc, toBool_sc, headD_one, nat_int, get_bt, decide_eq_true_eq, decide_eq_false_iff_not, decide_true, decide_false, if_true, if_false, ite_self, Bool.not_true, Bool.not_false, Bool.false_eq_true, Bool.true_eq_false, Bool.true_and, Bool.false_and, Bool.and_true, Bool.and_false, not_true, not_false_iff, Option.bind_some, nn, toList_inj, Bool.not_eq_true', Bool.not_eq_false', Int.le_refl, and_self, true_and, and_true, false_and, and_false, bne_self_eq_false, beq_self_eq_true, Int.reduceEq, Nat.reduceEqDiff, List.length_singleton, List.tail_cons, Int.reduceLE, Int.reduceLT, decide_eq_true_eq]
theorem open_ev {l : List PV} (hl : l.length ≤ 1048576) (hby : ∀ j, 0 ≤ ((PV.list l).elem j).toInt ∧ ((PV.list l).elem j).toInt ≤ 255) : ∃ b, Code1 b ∧ ∀ N, spec_l1Open.f N [PV.list l] = some [rdP b 0] := by
  by_cases h : (2000 : Int) < (l.length : Int)
  · refine ⟨PV.list (l.take 2000), ⟨by simp [PV.items]; omega, fun j => ?_⟩, fun N => ?_⟩
    · rw [elem_list, List.getD_eq_getElem?_getD, List.getElem?_take]
      have := hby j
      rw [elem_list, List.getD_eq_getElem?_getD] at this
      split
      · exact this
      · exact ⟨Int.le_refl _, by decide⟩
    · have h2 : (2000 : Int) ≤ (l.length : Int) := by omega
      simp only [spec_l1Open.f_eq, h, h2, strs_len, strs_elem, ints_len, ints_elem, items_list, fld_agg, elem_list, toStr_sc, toInt_sc, toBool_sc, headD_one, nat_int, get_bt, decide_eq_true_eq, decide_eq_false_iff_not, decide_true, decide_false, if_true, if_false, ite_self, Bool.not_true, Bool.not_false, Bool.false_eq_true, Bool.true_eq_false, Bool.true_and, Bool.false_and, Bool.and_true, Bool.and_false, not_true, not_false_iff, Option.bind_some, nn, toList_inj, Bool.not_eq_true', Bool.not_eq_false', Int.le_refl, and_self, true_and, and_true, false_and, and_false, bne_self_eq_false, beq_self_eq_true, Int.reduceEq, Nat.reduceEqDiff, List.length_singleton, List.tail_cons, Int.reduceLE, Int.reduceLT, decide_eq_true_eq]
      rfl
  · refine ⟨PV.list l, ⟨by simp [PV.items]; omega, hby⟩, fun N => ?_⟩
    simp only [spec_l1Open.f_eq, h, strs_len, strs_elem, ints_len, ints_elem, items_list, fld_agg, elem_list, toStr_sc, toInt_sc, toBool_sc, headD_one, nat_int, get_bt, decide_eq_true_eq, decide_eq_false_iff_not, decide_true, decide_false, if_true, if_false, ite_self, Bool.not_true, Bool.not_false, Bool.false_eq_true, Bool.true_eq_false, Bool.true_and, Bool.false_and, Bool.and_true, Bool.and_false, not_true, not_false_iff, Option.bind_some, nn, toList_inj, Bool.not_eq_true', Bool.not_eq_false', Int.le_refl, and_self, true_and, and_true, false_and, and_false, bne_self_eq_false, beq_self_eq_true, Int.reduceEq, Nat.reduceEqDiff, List.length_singleton, List.tail_cons, Int.reduceLE, Int.reduceLT, decide_eq_true_eq]
    rfl
theorem code_args {P : Program} {t e : TypeId} (ht : tk P t = .slice e) (he : tk P e = .int .u8) {ps : List PV} (h : PvOkL (PvOk P 8) [t] ps) : ∃ l, ps = [PV.list l] ∧ ∀ j, 0 ≤ ((PV.list l).elem j).toInt ∧ ((PV.list l).elem j).toInt ≤ 255 := by
  obtain ⟨p, rfl, h1⟩ := pvOkL1 h
  obtain ⟨l, rfl, _, h3⟩ := pvOk_slice ht h1
  refine ⟨l, rfl, fun j => ?_⟩
  rw [elem_list, List.getD_eq_getElem?_getD]
  cases hj : l[j]? with
  | none => exact ⟨Int.le_refl _, by decide⟩
  | some q =>
    obtain ⟨x, rfl, hx⟩ := pvOk_int he (h3 q (List.mem_of_getElem? hj))
    simp [Lit.wf, IntKind.min, IntKind.max, IntKind.signed, IntKind.bits] at hx
    simp [PV.toInt]; omega
theorem Ev2.bind2 {α β : Type} {r : α} {s : β} {g : Nat → Nat → Option β} {f : Nat → Nat → β → Option α} (h : Ev2 g s) (k : Ev2 (fun N n => f N n s) r) : Ev2 (fun N n => (g N n).bind (f N n)) r := by
  obtain ⟨k1, h1⟩ := h; obtain ⟨k2, h2⟩ := k
  exact ⟨max k1 k2, fun N n hN hn => by
    show (g N n).bind (f N n) = _
    rw [h1 N n (by omega) (by omega), Option.bind_some]; exact h2 N n (by omega) (by omega)⟩
theorem nat_wrap {n : Int} {m : Nat} (h : n = (m : Int)) (hm : m < 9223372036854775808) : IntKind.i64.wrap n = (m : Int) := by
  rw [h, wrap_id (by omega) (by omega)]
theorem lt_int {a b : Nat} (h : a < b) : (a : Int) < (b : Int) := Int.ofNat_lt.2 h
theorem le_int {a b : Nat} (h : a ≤ b) : (a : Int) ≤ (b : Int) := Int.ofNat_le.2 h
/-! #### words -/
def isWord (s : ByteArray) : Bool := decide (1 ≤ s.size ∧ s.size ≤ 12) && (bytesOf s).all fun c => decide (97 ≤ c ∧ c ≤ 122)
def lowB (l : List Int) : Bool := l.all fun c => decide (97 ≤ c ∧ c ≤ 122)
theorem lowB_cons (c : Int) (l : List Int) : lowB (c :: l) = (decide (97 ≤ c ∧ c ≤ 122) && lowB l) := by simp [lowB]
def bLess (a b : ByteArray) : Bool := Op.bytesLess a.toList b.toList
theorem bLess_eq (a b : ByteArray) : Op.bytesLess a.toList b.toList = bLess a b := rfl
/-- Words, ascending, behind one (or none). -/
def ascW : Option ByteArray → List ByteArray → Bool
  | _, [] => true
  | none, c :: rest => isWord c && ascW (some c) rest
  | some q, c :: rest => isWord c && bLess q c && ascW (some c) rest
def wordsM (l : List ByteArray) (most : Int) : Bool := ascW none l && decide ((l.length : Int) ≤ most)
/-- What stands ahead of a place. -/
def Ahead (pre : List ByteArray) (p : Option ByteArray) : Prop := (pre = [] ∧ p = none) ∨ ∃ pre' q, pre = pre' ++ [q] ∧ p = some q
theorem Ahead.next (pre : List ByteArray) (c : ByteArray) : Ahead (pre ++ [c]) (some c) := .inr ⟨pre, c, rfl, rfl⟩
theorem at_prev {xs pre' rest : List ByteArray} {q : ByteArray} (hp : xs = (pre' ++ [q]) ++ rest) (hx : xs.length ≤ 9223372036854775807) :
    IntKind.i64.wrap (((pre' ++ [q]).length : Int) - 1) = (pre'.length : Int) ∧ (pre'.length : Int) < (xs.length : Int) ∧ xs.getD pre'.length ByteArray.empty = q ∧ (0 : Int) < ((pre' ++ [q]).length : Int) := by
  subst hp
  simp only [List.length_append, List.length_cons, List.length_nil] at hx ⊢
  refine ⟨?_, by omega, ?_, by omega⟩
  · rw [wrap_id (by omega) (by omega)]; omega
  · simp
theorem implWithin_val (a b c : Int) (N : Nat) : impl_within.f N [.sc (.int .i64 a), .sc (.int .i64 b), .sc (.int .i64 c)] = some [boolP (decide (b ≤ a ∧ a ≤ c))] := by
  simp only [impl_within.f_eq, strs_len, strs_elem, ints_len, ints_elem, items_list, fld_agg, elem_list, toStr_sc, toInt_sc, toBool_sc, headD_one, nat_int, get_bt, decide_eq_true_eq, decide_eq_false_iff_not, decide_true, decide_false, if_true, if_false, ite_self, Bool.not_true, Bool.not_false, Bool.false_eq_true, Bool.true_eq_false, Bool.true_and, Bool.false_and, Bool.and_true, Bool.and_false, not_true, not_false_iff, Option.bind_some, nn, toList_inj, Bool.not_eq_true', Bool.not_eq_false', Int.le_refl, and_self, true_and, and_true, false_and, and_false, bne_self_eq_false, beq_self_eq_true, Int.reduceEq, Nat.reduceEqDiff, List.length_singleton, List.tail_cons, Int.reduceLE, Int.reduceLT, decide_eq_true_eq]
  by_cases h1 : b ≤ a <;> by_cases h2 : a ≤ c <;> simp only [h1, h2, strs_len, strs_elem, ints_len, ints_elem, items_list, fld_agg, elem_list, toStr_sc, toInt_sc, toBool_sc, headD_one, nat_int, get_bt, decide_eq_true_eq, decide_eq_false_iff_not, decide_true, decide_false, if_true, if_false, ite_self, Bool.not_true, Bool.not_false, Bool.false_eq_true, Bool.true_eq_false, Bool.true_and, Bool.false_and, Bool.and_true, Bool.and_false, not_true, not_false_iff, Option.bind_some, nn, toList_inj, Bool.not_eq_true', Bool.not_eq_false', Int.le_refl, and_self, true_and, and_true, false_and, and_false, bne_self_eq_false, beq_self_eq_true, Int.reduceEq, Nat.reduceEqDiff, List.length_singleton, List.tail_cons, Int.reduceLE, Int.reduceLT, decide_eq_true_eq]
theorem implLower_loop (s : ByteArray) (hs : s.size ≤ 9223372036854775807) : ∀ rest pre : List Int, bytesOf s = pre ++ rest → Ev2 (fun N n => impl_lower.l0 N n s (s.size : Int) (pre.length : Int)) [boolP (lowB rest)] := by
  intro rest
  induction rest with
  | nil =>
    intro pre hp
    refine Ev2.succ ?_
    simp only [impl_lower.l0_eq, at_sizeE hp, strs_len, strs_elem, ints_len, ints_elem, items_list, fld_agg, elem_list, toStr_sc, toInt_sc, toBool_sc, headD_one, nat_int, get_bt, decide_eq_true_eq, decide_eq_false_iff_not, decide_true, decide_false, if_true, if_false, ite_self, Bool.not_true, Bool.not_false, Bool.false_eq_true, Bool.true_eq_false, Bool.true_and, Bool.false_and, Bool.and_true, Bool.and_false, not_true, not_false_iff, Option.bind_some, nn, toList_inj, Bool.not_eq_true', Bool.not_eq_false', Int.le_refl, and_self, true_and, and_true, false_and, and_false, bne_self_eq_false, beq_self_eq_true, Int.reduceEq, Nat.reduceEqDiff, List.length_singleton, List.tail_cons, Int.reduceLE, Int.reduceLT, decide_eq_true_eq]
    exact Ev2.now _
  | cons c rest ih =>
    intro pre hp
    refine Ev2.succ ?_
    simp only [impl_lower.l0_eq, strs_len, strs_elem, ints_len, ints_elem, items_list, fld_agg, elem_list, toStr_sc, toInt_sc, toBool_sc, headD_one, nat_int, get_bt, decide_eq_true_eq, decide_eq_false_iff_not, decide_true, decide_false, if_true, if_false, ite_self, Bool.not_true, Bool.not_false, Bool.false_eq_true, Bool.true_eq_false, Bool.true_and, Bool.false_and, Bool.and_true, Bool.and_false, not_true, not_false_iff, Option.bind_some, nn, toList_inj, Bool.not_eq_true', Bool.not_eq_false', Int.le_refl, and_self, true_and, and_true, false_and, and_false, bne_self_eq_false, beq_self_eq_true, Int.reduceEq, Nat.reduceEqDiff, List.length_singleton, List.tail_cons, Int.reduceLE, Int.reduceLT, decide_eq_true_eq, at_size hp, at_bt hp, at_next hp (by rw [bytesOf_len]; omega)]
    rw [lowB_cons]
    by_cases h1 : c < 97
    · simp only [h1, eq_false (show ¬ (97 ≤ c ∧ c ≤ 122) by omega), strs_len, strs_elem, ints_len, ints_elem, items_list, fld_agg, elem_list, toStr_sc, toInt_sc, toBool_sc, headD_one, nat_int, get_bt, decide_eq_true_eq, decide_eq_false_iff_not, decide_true, decide_false, if_true, if_false, ite_self, Bool.not_true, Bool.not_false, Bool.false_eq_true, Bool.true_eq_false, Bool.true_and, Bool.false_and, Bool.and_true, Bool.and_false, not_true, not_false_iff, Option.bind_some, nn, toList_inj, Bool.not_eq_true', Bool.not_eq_false', Int.le_refl, and_self, true_and, and_true, false_and, and_false, bne_self_eq_false, beq_self_eq_true, Int.reduceEq, Nat.reduceEqDiff, List.length_singleton, List.tail_cons, Int.reduceLE, Int.reduceLT, decide_eq_true_eq]; exact Ev2.now _
    by_cases h2 : 122 < c
    · simp only [h1, h2, eq_false (show ¬ (97 ≤ c ∧ c ≤ 122) by omega), strs_len, strs_elem, ints_len, ints_elem, items_list, fld_agg, elem_list, toStr_sc, toInt_sc, toBool_sc, headD_one, nat_int, get_bt, decide_eq_true_eq, decide_eq_false_iff_not, decide_true, decide_false, if_true, if_false, ite_self, Bool.not_true, Bool.not_false, Bool.false_eq_true, Bool.true_eq_false, Bool.true_and, Bool.false_and, Bool.and_true, Bool.and_false, not_true, not_false_iff, Option.bind_some, nn, toList_inj, Bool.not_eq_true', Bool.not_eq_false', Int.le_refl, and_self, true_and, and_true, false_and, and_false, bne_self_eq_false, beq_self_eq_true, Int.reduceEq, Nat.reduceEqDiff, List.length_singleton, List.tail_cons, Int.reduceLE, Int.reduceLT, decide_eq_true_eq]; exact Ev2.now _
    simp only [h1, h2, eq_true (show (97 ≤ c ∧ c ≤ 122) by omega), strs_len, strs_elem, ints_len, ints_elem, items_list, fld_agg, elem_list, toStr_sc, toInt_sc, toBool_sc, headD_one, nat_int, get_bt, decide_eq_true_eq, decide_eq_false_iff_not, decide_true, decide_false, if_true, if_false, ite_self, Bool.not_true, Bool.not_false, Bool.false_eq_true, Bool.true_eq_false, Bool.true_and, Bool.false_and, Bool.and_true, Bool.and_false, not_true, not_false_iff, Option.bind_some, nn, toList_inj, Bool.not_eq_true', Bool.not_eq_false', Int.le_refl, and_self, true_and, and_true, false_and, and_false, bne_self_eq_false, beq_self_eq_true, Int.reduceEq, Nat.reduceEqDiff, List.length_singleton, List.tail_cons, Int.reduceLE, Int.reduceLT, decide_eq_true_eq]
    exact ih _ (at_step hp)
theorem implLower_ev (s : ByteArray) (hs : s.size ≤ 9223372036854775807) : Ev (fun N => impl_lower.f N [strP s]) [boolP (lowB (bytesOf s))] := by
  simp only [impl_lower.f_eq, strs_len, strs_elem, ints_len, ints_elem, items_list, fld_agg, elem_list, toStr_sc, toInt_sc, toBool_sc, headD_one, nat_int, get_bt, decide_eq_true_eq, decide_eq_false_iff_not, decide_true, decide_false, if_true, if_false, ite_self, Bool.not_true, Bool.not_false, Bool.false_eq_true, Bool.true_eq_false, Bool.true_and, Bool.false_and, Bool.and_true, Bool.and_false, not_true, not_false_iff, Option.bind_some, nn, toList_inj, Bool.not_eq_true', Bool.not_eq_false', Int.le_refl, and_self, true_and, and_true, false_and, and_false, bne_self_eq_false, beq_self_eq_true, Int.reduceEq, Nat.reduceEqDiff, List.length_singleton, List.tail_cons, Int.reduceLE, Int.reduceLT, decide_eq_true_eq]
  exact (implLower_loop s hs (bytesOf s) [] rfl).diag
theorem implWord_ev (s : ByteArray) (hs : s.size ≤ 9223372036854775807) : Ev (fun N => impl_WordOk.f N [strP s]) [boolP (isWord s)] := by
  simp only [impl_WordOk.f_eq, implWithin_val, strs_len, strs_elem, ints_len, ints_elem, items_list, fld_agg, elem_list, toStr_sc, toInt_sc, toBool_sc, headD_one, nat_int, get_bt, decide_eq_true_eq, decide_eq_false_iff_not, decide_true, decide_false, if_true, if_false, ite_self, Bool.not_true, Bool.not_false, Bool.false_eq_true, Bool.true_eq_false, Bool.true_and, Bool.false_and, Bool.and_true, Bool.and_false, not_true, not_false_iff, Option.bind_some, nn, toList_inj, Bool.not_eq_true', Bool.not_eq_false', Int.le_refl, and_self, true_and, and_true, false_and, and_false, bne_self_eq_false, beq_self_eq_true, Int.reduceEq, Nat.reduceEqDiff, List.length_singleton, List.tail_cons, Int.reduceLE, Int.reduceLT, decide_eq_true_eq]
  by_cases h : 1 ≤ s.size ∧ s.size ≤ 12
  · simp only [eq_true (show (1 : Int) ≤ s.size ∧ (s.size : Int) ≤ 12 by omega), strs_len, strs_elem, ints_len, ints_elem, items_list, fld_agg, elem_list, toStr_sc, toInt_sc, toBool_sc, headD_one, nat_int, get_bt, decide_eq_true_eq, decide_eq_false_iff_not, decide_true, decide_false, if_true, if_false, ite_self, Bool.not_true, Bool.not_false, Bool.false_eq_true, Bool.true_eq_false, Bool.true_and, Bool.false_and, Bool.and_true, Bool.and_false, not_true, not_false_iff, Option.bind_some, nn, toList_inj, Bool.not_eq_true', Bool.not_eq_false', Int.le_refl, and_self, true_and, and_true, false_and, and_false, bne_self_eq_false, beq_self_eq_true, Int.reduceEq, Nat.reduceEqDiff, List.length_singleton, List.tail_cons, Int.reduceLE, Int.reduceLT, decide_eq_true_eq]
    refine Ev.bind (implLower_ev s hs) ?_
    refine Ev.ext (Ev.now _) ?_
    unfold isWord
    rw [decide_eq_true h, Bool.true_and]
    rfl
  · simp only [eq_false (show ¬ ((1 : Int) ≤ s.size ∧ (s.size : Int) ≤ 12) by omega), strs_len, strs_elem, ints_len, ints_elem, items_list, fld_agg, elem_list, toStr_sc, toInt_sc, toBool_sc, headD_one, nat_int, get_bt, decide_eq_true_eq, decide_eq_false_iff_not, decide_true, decide_false, if_true, if_false, ite_self, Bool.not_true, Bool.not_false, Bool.false_eq_true, Bool.true_eq_false, Bool.true_and, Bool.false_and, Bool.and_true, Bool.and_false, not_true, not_false_iff, Option.bind_some, nn, toList_inj, Bool.not_eq_true', Bool.not_eq_false', Int.le_refl, and_self, true_and, and_true, false_and, and_false, bne_self_eq_false, beq_self_eq_true, Int.reduceEq, Nat.reduceEqDiff, List.length_singleton, List.tail_cons, Int.reduceLE, Int.reduceLT, decide_eq_true_eq]
    refine Ev.ext (Ev.now _) ?_
    unfold isWord
    rw [decide_eq_false h, Bool.false_and]
theorem implWords_loop (a : List ByteArray) (m : Int) (ha : a.length ≤ 9223372036854775807) (hs : ∀ s ∈ a, s.size ≤ 9223372036854775807) : ∀ (rest pre : List ByteArray) (p : Option ByteArray), a = pre ++ rest → Ahead pre p →
    Ev2 (fun N n => impl_wordsOk.l0 N n (strsP a) m (strsP a) (a.length : Int) (pre.length : Int)) [boolP (ascW p rest && decide ((a.length : Int) ≤ m))] := by
  intro rest
  induction rest with
  | nil =>
    intro pre p hp _
    refine Ev2.succ ?_
    simp only [impl_wordsOk.l0_eq, strs_len, strs_elem, ints_len, ints_elem, items_list, fld_agg, elem_list, toStr_sc, toInt_sc, toBool_sc, headD_one, nat_int, get_bt, decide_eq_true_eq, decide_eq_false_iff_not, decide_true, decide_false, if_true, if_false, ite_self, Bool.not_true, Bool.not_false, Bool.false_eq_true, Bool.true_eq_false, Bool.true_and, Bool.false_and, Bool.and_true, Bool.and_false, not_true, not_false_iff, Option.bind_some, nn, toList_inj, Bool.not_eq_true', Bool.not_eq_false', Int.le_refl, and_self, true_and, and_true, false_and, and_false, bne_self_eq_false, beq_self_eq_true, Int.reduceEq, Nat.reduceEqDiff, List.length_singleton, List.tail_cons, Int.reduceLE, Int.reduceLT, decide_eq_true_eq, at_end hp, ascW]
    exact Ev2.now _
  | cons c rest ih =>
    intro pre p hp hA
    have hc : c.size ≤ 9223372036854775807 := hs c (by rw [hp]; simp)
    refine Ev2.succ ?_
    simp only [impl_wordsOk.l0_eq, strs_len, strs_elem, ints_len, ints_elem, items_list, fld_agg, elem_list, toStr_sc, toInt_sc, toBool_sc, headD_one, nat_int, get_bt, decide_eq_true_eq, decide_eq_false_iff_not, decide_true, decide_false, if_true, if_false, ite_self, Bool.not_true, Bool.not_false, Bool.false_eq_true, Bool.true_eq_false, Bool.true_and, Bool.false_and, Bool.and_true, Bool.and_false, not_true, not_false_iff, Option.bind_some, nn, toList_inj, Bool.not_eq_true', Bool.not_eq_false', Int.le_refl, and_self, true_and, and_true, false_and, and_false, bne_self_eq_false, beq_self_eq_true, Int.reduceEq, Nat.reduceEqDiff, List.length_singleton, List.tail_cons, Int.reduceLE, Int.reduceLT, decide_eq_true_eq, at_lt hp, at_getD hp, at_next hp ha]
    refine Ev2.bind (implWord_ev c hc) ?_
    have hnext := ih (pre ++ [c]) (some c) (at_step hp) (Ahead.next pre c)
    simp only [strs_len, strs_elem, ints_len, ints_elem, items_list, fld_agg, elem_list, toStr_sc, toInt_sc, toBool_sc, headD_one, nat_int, get_bt, decide_eq_true_eq, decide_eq_false_iff_not, decide_true, decide_false, if_true, if_false, ite_self, Bool.not_true, Bool.not_false, Bool.false_eq_true, Bool.true_eq_false, Bool.true_and, Bool.false_and, Bool.and_true, Bool.and_false, not_true, not_false_iff, Option.bind_some, nn, toList_inj, Bool.not_eq_true', Bool.not_eq_false', Int.le_refl, and_self, true_and, and_true, false_and, and_false, bne_self_eq_false, beq_self_eq_true, Int.reduceEq, Nat.reduceEqDiff, List.length_singleton, List.tail_cons, Int.reduceLE, Int.reduceLT, decide_eq_true_eq]
    rcases hA with ⟨rfl, rfl⟩ | ⟨pre', q, rfl, rfl⟩
    · rw [ascW]
      cases hw : isWord c with
      | false => simp only [strs_len, strs_elem, ints_len, ints_elem, items_list, fld_agg, elem_list, toStr_sc, toInt_sc, toBool_sc, headD_one, nat_int, get_bt, decide_eq_true_eq, decide_eq_false_iff_not, decide_true, decide_false, if_true, if_false, ite_self, Bool.not_true, Bool.not_false, Bool.false_eq_true, Bool.true_eq_false, Bool.true_and, Bool.false_and, Bool.and_true, Bool.and_false, not_true, not_false_iff, Option.bind_some, nn, toList_inj, Bool.not_eq_true', Bool.not_eq_false', Int.le_refl, and_self, true_and, and_true, false_and, and_false, bne_self_eq_false, beq_self_eq_true, Int.reduceEq, Nat.reduceEqDiff, List.length_singleton, List.tail_cons, Int.reduceLE, Int.reduceLT, decide_eq_true_eq]; exact Ev2.now _
      | true =>
        simp only [List.length_nil, Int.natCast_zero, Int.lt_irrefl, strs_len, strs_elem, ints_len, ints_elem, items_list, fld_agg, elem_list, toStr_sc, toInt_sc, toBool_sc, headD_one, nat_int, get_bt, decide_eq_true_eq, decide_eq_false_iff_not, decide_true, decide_false, if_true, if_false, ite_self, Bool.not_true, Bool.not_false, Bool.false_eq_true, Bool.true_eq_false, Bool.true_and, Bool.false_and, Bool.and_true, Bool.and_false, not_true, not_false_iff, Option.bind_some, nn, toList_inj, Bool.not_eq_true', Bool.not_eq_false', Int.le_refl, and_self, true_and, and_true, false_and, and_false, bne_self_eq_false, beq_self_eq_true, Int.reduceEq, Nat.reduceEqDiff, List.length_singleton, List.tail_cons, Int.reduceLE, Int.reduceLT, decide_eq_true_eq]
        exact hnext
    · obtain ⟨h1, h2, h3, h4⟩ := at_prev hp ha
      rw [ascW]
      cases hw : isWord c with
      | false => simp only [strs_len, strs_elem, ints_len, ints_elem, items_list, fld_agg, elem_list, toStr_sc, toInt_sc, toBool_sc, headD_one, nat_int, get_bt, decide_eq_true_eq, decide_eq_false_iff_not, decide_true, decide_false, if_true, if_false, ite_self, Bool.not_true, Bool.not_false, Bool.false_eq_true, Bool.true_eq_false, Bool.true_and, Bool.false_and, Bool.and_true, Bool.and_false, not_true, not_false_iff, Option.bind_some, nn, toList_inj, Bool.not_eq_true', Bool.not_eq_false', Int.le_refl, and_self, true_and, and_true, false_and, and_false, bne_self_eq_false, beq_self_eq_true, Int.reduceEq, Nat.reduceEqDiff, List.length_singleton, List.tail_cons, Int.reduceLE, Int.reduceLT, decide_eq_true_eq]; exact Ev2.now _
      | true =>
        simp only [h4, h1, h2, h3, bLess_eq, strs_len, strs_elem, ints_len, ints_elem, items_list, fld_agg, elem_list, toStr_sc, toInt_sc, toBool_sc, headD_one, nat_int, get_bt, decide_eq_true_eq, decide_eq_false_iff_not, decide_true, decide_false, if_true, if_false, ite_self, Bool.not_true, Bool.not_false, Bool.false_eq_true, Bool.true_eq_false, Bool.true_and, Bool.false_and, Bool.and_true, Bool.and_false, not_true, not_false_iff, Option.bind_some, nn, toList_inj, Bool.not_eq_true', Bool.not_eq_false', Int.le_refl, and_self, true_and, and_true, false_and, and_false, bne_self_eq_false, beq_self_eq_true, Int.reduceEq, Nat.reduceEqDiff, List.length_singleton, List.tail_cons, Int.reduceLE, Int.reduceLT, decide_eq_true_eq]
        cases hb : bLess q c with
        | false => simp only [strs_len, strs_elem, ints_len, ints_elem, items_list, fld_agg, elem_list, toStr_sc, toInt_sc, toBool_sc, headD_one, nat_int, get_bt, decide_eq_true_eq, decide_eq_false_iff_not, decide_true, decide_false, if_true, if_false, ite_self, Bool.not_true, Bool.not_false, Bool.false_eq_true, Bool.true_eq_false, Bool.true_and, Bool.false_and, Bool.and_true, Bool.and_false, not_true, not_false_iff, Option.bind_some, nn, toList_inj, Bool.not_eq_true', Bool.not_eq_false', Int.le_refl, and_self, true_and, and_true, false_and, and_false, bne_self_eq_false, beq_self_eq_true, Int.reduceEq, Nat.reduceEqDiff, List.length_singleton, List.tail_cons, Int.reduceLE, Int.reduceLT, decide_eq_true_eq]; exact Ev2.now _
        | true => simp only [strs_len, strs_elem, ints_len, ints_elem, items_list, fld_agg, elem_list, toStr_sc, toInt_sc, toBool_sc, headD_one, nat_int, get_bt, decide_eq_true_eq, decide_eq_false_iff_not, decide_true, decide_false, if_true, if_false, ite_self, Bool.not_true, Bool.not_false, Bool.false_eq_true, Bool.true_eq_false, Bool.true_and, Bool.false_and, Bool.and_true, Bool.and_false, not_true, not_false_iff, Option.bind_some, nn, toList_inj, Bool.not_eq_true', Bool.not_eq_false', Int.le_refl, and_self, true_and, and_true, false_and, and_false, bne_self_eq_false, beq_self_eq_true, Int.reduceEq, Nat.reduceEqDiff, List.length_singleton, List.tail_cons, Int.reduceLE, Int.reduceLT, decide_eq_true_eq]; exact hnext
theorem implWords_ev (a : List ByteArray) (m : Int) (ha : a.length ≤ 9223372036854775807) (hs : ∀ s ∈ a, s.size ≤ 9223372036854775807) : Ev (fun N => impl_wordsOk.f N [strsP a, intP m]) [boolP (wordsM a m)] := by
  simp only [impl_wordsOk.f_eq, strs_len, strs_elem, ints_len, ints_elem, items_list, fld_agg, elem_list, toStr_sc, toInt_sc, toBool_sc, headD_one, nat_int, get_bt, decide_eq_true_eq, decide_eq_false_iff_not, decide_true, decide_false, if_true, if_false, ite_self, Bool.not_true, Bool.not_false, Bool.false_eq_true, Bool.true_eq_false, Bool.true_and, Bool.false_and, Bool.and_true, Bool.and_false, not_true, not_false_iff, Option.bind_some, nn, toList_inj, Bool.not_eq_true', Bool.not_eq_false', Int.le_refl, and_self, true_and, and_true, false_and, and_false, bne_self_eq_false, beq_self_eq_true, Int.reduceEq, Nat.reduceEqDiff, List.length_singleton, List.tail_cons, Int.reduceLE, Int.reduceLT, decide_eq_true_eq]
  exact (implWords_loop a m ha hs a [] none rfl (.inl ⟨rfl, rfl⟩)).diag
theorem specLetters_loop (s : ByteArray) (hs : s.size ≤ 9223372036854775807) (m : Int) : ∀ rest pre : List Int, bytesOf s = pre ++ rest → Ev2 (fun N n => spec_l1Letters.l0 N n s m (pre.length : Int)) [boolP (lowB rest && decide ((s.size : Int) ≤ m))] := by
  intro rest
  induction rest with
  | nil =>
    intro pre hp
    refine Ev2.succ ?_
    simp only [spec_l1Letters.l0_eq, at_sizeE hp, lowB, List.all_nil, strs_len, strs_elem, ints_len, ints_elem, items_list, fld_agg, elem_list, toStr_sc, toInt_sc, toBool_sc, headD_one, nat_int, get_bt, decide_eq_true_eq, decide_eq_false_iff_not, decide_true, decide_false, if_true, if_false, ite_self, Bool.not_true, Bool.not_false, Bool.false_eq_true, Bool.true_eq_false, Bool.true_and, Bool.false_and, Bool.and_true, Bool.and_false, not_true, not_false_iff, Option.bind_some, nn, toList_inj, Bool.not_eq_true', Bool.not_eq_false', Int.le_refl, and_self, true_and, and_true, false_and, and_false, bne_self_eq_false, beq_self_eq_true, Int.reduceEq, Nat.reduceEqDiff, List.length_singleton, List.tail_cons, Int.reduceLE, Int.reduceLT, decide_eq_true_eq]
    exact Ev2.now _
  | cons c rest ih =>
    intro pre hp
    refine Ev2.succ ?_
    simp only [spec_l1Letters.l0_eq, strs_len, strs_elem, ints_len, ints_elem, items_list, fld_agg, elem_list, toStr_sc, toInt_sc, toBool_sc, headD_one, nat_int, get_bt, decide_eq_true_eq, decide_eq_false_iff_not, decide_true, decide_false, if_true, if_false, ite_self, Bool.not_true, Bool.not_false, Bool.false_eq_true, Bool.true_eq_false, Bool.true_and, Bool.false_and, Bool.and_true, Bool.and_false, not_true, not_false_iff, Option.bind_some, nn, toList_inj, Bool.not_eq_true', Bool.not_eq_false', Int.le_refl, and_self, true_and, and_true, false_and, and_false, bne_self_eq_false, beq_self_eq_true, Int.reduceEq, Nat.reduceEqDiff, List.length_singleton, List.tail_cons, Int.reduceLE, Int.reduceLT, decide_eq_true_eq, at_size hp, at_bt hp, at_next hp (by rw [bytesOf_len]; omega)]
    rw [lowB_cons]
    by_cases h1 : c < 97
    · simp only [h1, eq_false (show ¬ (97 ≤ c ∧ c ≤ 122) by omega), strs_len, strs_elem, ints_len, ints_elem, items_list, fld_agg, elem_list, toStr_sc, toInt_sc, toBool_sc, headD_one, nat_int, get_bt, decide_eq_true_eq, decide_eq_false_iff_not, decide_true, decide_false, if_true, if_false, ite_self, Bool.not_true, Bool.not_false, Bool.false_eq_true, Bool.true_eq_false, Bool.true_and, Bool.false_and, Bool.and_true, Bool.and_false, not_true, not_false_iff, Option.bind_some, nn, toList_inj, Bool.not_eq_true', Bool.not_eq_false', Int.le_refl, and_self, true_and, and_true, false_and, and_false, bne_self_eq_false, beq_self_eq_true, Int.reduceEq, Nat.reduceEqDiff, List.length_singleton, List.tail_cons, Int.reduceLE, Int.reduceLT, decide_eq_true_eq]; exact Ev2.now _
    by_cases h2 : 122 < c
    · simp only [h1, h2, eq_false (show ¬ (97 ≤ c ∧ c ≤ 122) by omega), strs_len, strs_elem, ints_len, ints_elem, items_list, fld_agg, elem_list, toStr_sc, toInt_sc, toBool_sc, headD_one, nat_int, get_bt, decide_eq_true_eq, decide_eq_false_iff_not, decide_true, decide_false, if_true, if_false, ite_self, Bool.not_true, Bool.not_false, Bool.false_eq_true, Bool.true_eq_false, Bool.true_and, Bool.false_and, Bool.and_true, Bool.and_false, not_true, not_false_iff, Option.bind_some, nn, toList_inj, Bool.not_eq_true', Bool.not_eq_false', Int.le_refl, and_self, true_and, and_true, false_and, and_false, bne_self_eq_false, beq_self_eq_true, Int.reduceEq, Nat.reduceEqDiff, List.length_singleton, List.tail_cons, Int.reduceLE, Int.reduceLT, decide_eq_true_eq]; exact Ev2.now _
    simp only [h1, h2, eq_true (show (97 ≤ c ∧ c ≤ 122) by omega), strs_len, strs_elem, ints_len, ints_elem, items_list, fld_agg, elem_list, toStr_sc, toInt_sc, toBool_sc, headD_one, nat_int, get_bt, decide_eq_true_eq, decide_eq_false_iff_not, decide_true, decide_false, if_true, if_false, ite_self, Bool.not_true, Bool.not_false, Bool.false_eq_true, Bool.true_eq_false, Bool.true_and, Bool.false_and, Bool.and_true, Bool.and_false, not_true, not_false_iff, Option.bind_some, nn, toList_inj, Bool.not_eq_true', Bool.not_eq_false', Int.le_refl, and_self, true_and, and_true, false_and, and_false, bne_self_eq_false, beq_self_eq_true, Int.reduceEq, Nat.reduceEqDiff, List.length_singleton, List.tail_cons, Int.reduceLE, Int.reduceLT, decide_eq_true_eq]
    exact ih _ (at_step hp)
theorem specLetters_ev (s : ByteArray) (hs : s.size ≤ 9223372036854775807) (m : Int) : Ev (fun N => spec_l1Letters.f N [strP s, intP m]) [boolP (lowB (bytesOf s) && decide ((s.size : Int) ≤ m))] := by
  simp only [spec_l1Letters.f_eq, strs_len, strs_elem, ints_len, ints_elem, items_list, fld_agg, elem_list, toStr_sc, toInt_sc, toBool_sc, headD_one, nat_int, get_bt, decide_eq_true_eq, decide_eq_false_iff_not, decide_true, decide_false, if_true, if_false, ite_self, Bool.not_true, Bool.not_false, Bool.false_eq_true, Bool.true_eq_false, Bool.true_and, Bool.false_and, Bool.and_true, Bool.and_false, not_true, not_false_iff, Option.bind_some, nn, toList_inj, Bool.not_eq_true', Bool.not_eq_false', Int.le_refl, and_self, true_and, and_true, false_and, and_false, bne_self_eq_false, beq_self_eq_true, Int.reduceEq, Nat.reduceEqDiff, List.length_singleton, List.tail_cons, Int.reduceLE, Int.reduceLT, decide_eq_true_eq]
  exact (specLetters_loop s hs m (bytesOf s) [] rfl).diag
theorem specWord_ev (s : ByteArray) (hs : s.size ≤ 9223372036854775807) : Ev (fun N => spec_l1Word.f N [strP s]) [boolP (isWord s)] := by
  simp only [spec_l1Word.f_eq, strs_len, strs_elem, ints_len, ints_elem, items_list, fld_agg, elem_list, toStr_sc, toInt_sc, toBool_sc, headD_one, nat_int, get_bt, decide_eq_true_eq, decide_eq_false_iff_not, decide_true, decide_false, if_true, if_false, ite_self, Bool.not_true, Bool.not_false, Bool.false_eq_true, Bool.true_eq_false, Bool.true_and, Bool.false_and, Bool.and_true, Bool.and_false, not_true, not_false_iff, Option.bind_some, nn, toList_inj, Bool.not_eq_true', Bool.not_eq_false', Int.le_refl, and_self, true_and, and_true, false_and, and_false, bne_self_eq_false, beq_self_eq_true, Int.reduceEq, Nat.reduceEqDiff, List.length_singleton, List.tail_cons, Int.reduceLE, Int.reduceLT, decide_eq_true_eq]
  by_cases h : (0 : Int) < (s.size : Int)
  · simp only [h, strs_len, strs_elem, ints_len, ints_elem, items_list, fld_agg, elem_list, toStr_sc, toInt_sc, toBool_sc, headD_one, nat_int, get_bt, decide_eq_true_eq, decide_eq_false_iff_not, decide_true, decide_false, if_true, if_false, ite_self, Bool.not_true, Bool.not_false, Bool.false_eq_true, Bool.true_eq_false, Bool.true_and, Bool.false_and, Bool.and_true, Bool.and_false, not_true, not_false_iff, Option.bind_some, nn, toList_inj, Bool.not_eq_true', Bool.not_eq_false', Int.le_refl, and_self, true_and, and_true, false_and, and_false, bne_self_eq_false, beq_self_eq_true, Int.reduceEq, Nat.reduceEqDiff, List.length_singleton, List.tail_cons, Int.reduceLE, Int.reduceLT, decide_eq_true_eq]
    refine Ev.bind (specLetters_ev s hs 12) ?_
    refine Ev.ext (Ev.now _) ?_
    simp only [strs_len, strs_elem, ints_len, ints_elem, items_list, fld_agg, elem_list, toStr_sc, toInt_sc, toBool_sc, headD_one, nat_int, get_bt, decide_eq_true_eq, decide_eq_false_iff_not, decide_true, decide_false, if_true, if_false, ite_self, Bool.not_true, Bool.not_false, Bool.false_eq_true, Bool.true_eq_false, Bool.true_and, Bool.false_and, Bool.and_true, Bool.and_false, not_true, not_false_iff, Option.bind_some, nn, toList_inj, Bool.not_eq_true', Bool.not_eq_false', Int.le_refl, and_self, true_and, and_true, false_and, and_false, bne_self_eq_false, beq_self_eq_true, Int.reduceEq, Nat.reduceEqDiff, List.length_singleton, List.tail_cons, Int.reduceLE, Int.reduceLT, decide_eq_true_eq]
    unfold isWord
    rw [Bool.and_comm]
    show [boolP (_ && lowB _)] = [boolP (decide _ && lowB _)]
    have : decide ((s.size : Int) ≤ 12) = decide (1 ≤ s.size ∧ s.size ≤ 12) := decide_eq_decide.2 (by omega)
    rw [this]
  · simp only [h, strs_len, strs_elem, ints_len, ints_elem, items_list, fld_agg, elem_list, toStr_sc, toInt_sc, toBool_sc, headD_one, nat_int, get_bt, decide_eq_true_eq, decide_eq_false_iff_not, decide_true, decide_false, if_true, if_false, ite_self, Bool.not_true, Bool.not_false, Bool.false_eq_true, Bool.true_eq_false, Bool.true_and, Bool.false_and, Bool.and_true, Bool.and_false, not_true, not_false_iff, Option.bind_some, nn, toList_inj, Bool.not_eq_true', Bool.not_eq_false', Int.le_refl, and_self, true_and, and_true, false_and, and_false, bne_self_eq_false, beq_self_eq_true, Int.reduceEq, Nat.reduceEqDiff, List.length_singleton, List.tail_cons, Int.reduceLE, Int.reduceLT, decide_eq_true_eq]
    refine Ev.ext (Ev.now _) ?_
    unfold isWord
    rw [decide_eq_false (show ¬ (1 ≤ s.size ∧ s.size ≤ 12) by omega), Bool.false_and]
theorem specWords_loop (a : List ByteArray) (ha : a.length ≤ 9223372036854775807) (hs : ∀ s ∈ a, s.size ≤ 9223372036854775807) : ∀ (rest pre : List ByteArray) (p : Option ByteArray), a = pre ++ rest → Ahead pre p →
    Ev2 (fun N n => spec_l3Words.l0 N n (strsP a) (pre.length : Int)) [boolP (ascW p rest && decide ((a.length : Int) ≤ 300))] := by
  intro rest
  induction rest with
  | nil =>
    intro pre p hp _
    refine Ev2.succ ?_
    simp only [spec_l3Words.l0_eq, strs_len, strs_elem, ints_len, ints_elem, items_list, fld_agg, elem_list, toStr_sc, toInt_sc, toBool_sc, headD_one, nat_int, get_bt, decide_eq_true_eq, decide_eq_false_iff_not, decide_true, decide_false, if_true, if_false, ite_self, Bool.not_true, Bool.not_false, Bool.false_eq_true, Bool.true_eq_false, Bool.true_and, Bool.false_and, Bool.and_true, Bool.and_false, not_true, not_false_iff, Option.bind_some, nn, toList_inj, Bool.not_eq_true', Bool.not_eq_false', Int.le_refl, and_self, true_and, and_true, false_and, and_false, bne_self_eq_false, beq_self_eq_true, Int.reduceEq, Nat.reduceEqDiff, List.length_singleton, List.tail_cons, Int.reduceLE, Int.reduceLT, decide_eq_true_eq, at_end hp, ascW]
    exact Ev2.now _
  | cons c rest ih =>
    intro pre p hp hA
    have hc : c.size ≤ 9223372036854775807 := hs c (by rw [hp]; simp)
    refine Ev2.succ ?_
    simp only [spec_l3Words.l0_eq, strs_len, strs_elem, ints_len, ints_elem, items_list, fld_agg, elem_list, toStr_sc, toInt_sc, toBool_sc, headD_one, nat_int, get_bt, decide_eq_true_eq, decide_eq_false_iff_not, decide_true, decide_false, if_true, if_false, ite_self, Bool.not_true, Bool.not_false, Bool.false_eq_true, Bool.true_eq_false, Bool.true_and, Bool.false_and, Bool.and_true, Bool.and_false, not_true, not_false_iff, Option.bind_some, nn, toList_inj, Bool.not_eq_true', Bool.not_eq_false', Int.le_refl, and_self, true_and, and_true, false_and, and_false, bne_self_eq_false, beq_self_eq_true, Int.reduceEq, Nat.reduceEqDiff, List.length_singleton, List.tail_cons, Int.reduceLE, Int.reduceLT, decide_eq_true_eq, at_lt hp, at_getD hp, at_next hp ha]
    refine Ev2.bind (specWord_ev c hc) ?_
    have hnext := ih (pre ++ [c]) (some c) (at_step hp) (Ahead.next pre c)
    simp only [strs_len, strs_elem, ints_len, ints_elem, items_list, fld_agg, elem_list, toStr_sc, toInt_sc, toBool_sc, headD_one, nat_int, get_bt, decide_eq_true_eq, decide_eq_false_iff_not, decide_true, decide_false, if_true, if_false, ite_self, Bool.not_true, Bool.not_false, Bool.false_eq_true, Bool.true_eq_false, Bool.true_and, Bool.false_and, Bool.and_true, Bool.and_false, not_true, not_false_iff, Option.bind_some, nn, toList_inj, Bool.not_eq_true', Bool.not_eq_false', Int.le_refl, and_self, true_and, and_true, false_and, and_false, bne_self_eq_false, beq_self_eq_true, Int.reduceEq, Nat.reduceEqDiff, List.length_singleton, List.tail_cons, Int.reduceLE, Int.reduceLT, decide_eq_true_eq]
    rcases hA with ⟨rfl, rfl⟩ | ⟨pre', q, rfl, rfl⟩
    · rw [ascW]
      cases hw : isWord c with
      | false => simp only [strs_len, strs_elem, ints_len, ints_elem, items_list, fld_agg, elem_list, toStr_sc, toInt_sc, toBool_sc, headD_one, nat_int, get_bt, decide_eq_true_eq, decide_eq_false_iff_not, decide_true, decide_false, if_true, if_false, ite_self, Bool.not_true, Bool.not_false, Bool.false_eq_true, Bool.true_eq_false, Bool.true_and, Bool.false_and, Bool.and_true, Bool.and_false, not_true, not_false_iff, Option.bind_some, nn, toList_inj, Bool.not_eq_true', Bool.not_eq_false', Int.le_refl, and_self, true_and, and_true, false_and, and_false, bne_self_eq_false, beq_self_eq_true, Int.reduceEq, Nat.reduceEqDiff, List.length_singleton, List.tail_cons, Int.reduceLE, Int.reduceLT, decide_eq_true_eq]; exact Ev2.now _
      | true =>
        simp only [List.length_nil, Int.natCast_zero, Int.lt_irrefl, strs_len, strs_elem, ints_len, ints_elem, items_list, fld_agg, elem_list, toStr_sc, toInt_sc, toBool_sc, headD_one, nat_int, get_bt, decide_eq_true_eq, decide_eq_false_iff_not, decide_true, decide_false, if_true, if_false, ite_self, Bool.not_true, Bool.not_false, Bool.false_eq_true, Bool.true_eq_false, Bool.true_and, Bool.false_and, Bool.and_true, Bool.and_false, not_true, not_false_iff, Option.bind_some, nn, toList_inj, Bool.not_eq_true', Bool.not_eq_false', Int.le_refl, and_self, true_and, and_true, false_and, and_false, bne_self_eq_false, beq_self_eq_true, Int.reduceEq, Nat.reduceEqDiff, List.length_singleton, List.tail_cons, Int.reduceLE, Int.reduceLT, decide_eq_true_eq]
        exact hnext
    · obtain ⟨h1, h2, h3, h4⟩ := at_prev hp ha
      rw [ascW]
      cases hw : isWord c with
      | false => simp only [strs_len, strs_elem, ints_len, ints_elem, items_list, fld_agg, elem_list, toStr_sc, toInt_sc, toBool_sc, headD_one, nat_int, get_bt, decide_eq_true_eq, decide_eq_false_iff_not, decide_true, decide_false, if_true, if_false, ite_self, Bool.not_true, Bool.not_false, Bool.false_eq_true, Bool.true_eq_false, Bool.true_and, Bool.false_and, Bool.and_true, Bool.and_false, not_true, not_false_iff, Option.bind_some, nn, toList_inj, Bool.not_eq_true', Bool.not_eq_false', Int.le_refl, and_self, true_and, and_true, false_and, and_false, bne_self_eq_false, beq_self_eq_true, Int.reduceEq, Nat.reduceEqDiff, List.length_singleton, List.tail_cons, Int.reduceLE, Int.reduceLT, decide_eq_true_eq]; exact Ev2.now _
      | true =>
        simp only [h4, h1, h2, h3, bLess_eq, strs_len, strs_elem, ints_len, ints_elem, items_list, fld_agg, elem_list, toStr_sc, toInt_sc, toBool_sc, headD_one, nat_int, get_bt, decide_eq_true_eq, decide_eq_false_iff_not, decide_true, decide_false, if_true, if_false, ite_self, Bool.not_true, Bool.not_false, Bool.false_eq_true, Bool.true_eq_false, Bool.true_and, Bool.false_and, Bool.and_true, Bool.and_false, not_true, not_false_iff, Option.bind_some, nn, toList_inj, Bool.not_eq_true', Bool.not_eq_false', Int.le_refl, and_self, true_and, and_true, false_and, and_false, bne_self_eq_false, beq_self_eq_true, Int.reduceEq, Nat.reduceEqDiff, List.length_singleton, List.tail_cons, Int.reduceLE, Int.reduceLT, decide_eq_true_eq]
        cases hb : bLess q c with
        | false => simp only [strs_len, strs_elem, ints_len, ints_elem, items_list, fld_agg, elem_list, toStr_sc, toInt_sc, toBool_sc, headD_one, nat_int, get_bt, decide_eq_true_eq, decide_eq_false_iff_not, decide_true, decide_false, if_true, if_false, ite_self, Bool.not_true, Bool.not_false, Bool.false_eq_true, Bool.true_eq_false, Bool.true_and, Bool.false_and, Bool.and_true, Bool.and_false, not_true, not_false_iff, Option.bind_some, nn, toList_inj, Bool.not_eq_true', Bool.not_eq_false', Int.le_refl, and_self, true_and, and_true, false_and, and_false, bne_self_eq_false, beq_self_eq_true, Int.reduceEq, Nat.reduceEqDiff, List.length_singleton, List.tail_cons, Int.reduceLE, Int.reduceLT, decide_eq_true_eq]; exact Ev2.now _
        | true => simp only [strs_len, strs_elem, ints_len, ints_elem, items_list, fld_agg, elem_list, toStr_sc, toInt_sc, toBool_sc, headD_one, nat_int, get_bt, decide_eq_true_eq, decide_eq_false_iff_not, decide_true, decide_false, if_true, if_false, ite_self, Bool.not_true, Bool.not_false, Bool.false_eq_true, Bool.true_eq_false, Bool.true_and, Bool.false_and, Bool.and_true, Bool.and_false, not_true, not_false_iff, Option.bind_some, nn, toList_inj, Bool.not_eq_true', Bool.not_eq_false', Int.le_refl, and_self, true_and, and_true, false_and, and_false, bne_self_eq_false, beq_self_eq_true, Int.reduceEq, Nat.reduceEqDiff, List.length_singleton, List.tail_cons, Int.reduceLE, Int.reduceLT, decide_eq_true_eq]; exact hnext
theorem specWords_ev (a : List ByteArray) (ha : a.length ≤ 9223372036854775807) (hs : ∀ s ∈ a, s.size ≤ 9223372036854775807) : Ev (fun N => spec_l3Words.f N [strsP a]) [boolP (wordsM a 300)] := by
  simp only [spec_l3Words.f_eq]
  exact (specWords_loop a ha hs a [] none rfl (.inl ⟨rfl, rfl⟩)).diag
theorem specOwn_ev (a : List ByteArray) (ha : a.length ≤ 9223372036854775807) (hs : ∀ s ∈ a, s.size ≤ 9223372036854775807) : Ev (fun N => spec_l10Own.f N [strsP a]) [boolP (wordsM a 10)] := by
  simp only [spec_l10Own.f_eq, strs_len, strs_elem, ints_len, ints_elem, items_list, fld_agg, elem_list, toStr_sc, toInt_sc, toBool_sc, headD_one, nat_int, get_bt, decide_eq_true_eq, decide_eq_false_iff_not, decide_true, decide_false, if_true, if_false, ite_self, Bool.not_true, Bool.not_false, Bool.false_eq_true, Bool.true_eq_false, Bool.true_and, Bool.false_and, Bool.and_true, Bool.and_false, not_true, not_false_iff, Option.bind_some, nn, toList_inj, Bool.not_eq_true', Bool.not_eq_false', Int.le_refl, and_self, true_and, and_true, false_and, and_false, bne_self_eq_false, beq_self_eq_true, Int.reduceEq, Nat.reduceEqDiff, List.length_singleton, List.tail_cons, Int.reduceLE, Int.reduceLT, decide_eq_true_eq]
  refine Ev.bind (specWords_ev a ha hs) ?_
  unfold wordsM
  cases h : ascW none a with
  | false => simp only [strs_len, strs_elem, ints_len, ints_elem, items_list, fld_agg, elem_list, toStr_sc, toInt_sc, toBool_sc, headD_one, nat_int, get_bt, decide_eq_true_eq, decide_eq_false_iff_not, decide_true, decide_false, if_true, if_false, ite_self, Bool.not_true, Bool.not_false, Bool.false_eq_true, Bool.true_eq_false, Bool.true_and, Bool.false_and, Bool.and_true, Bool.and_false, not_true, not_false_iff, Option.bind_some, nn, toList_inj, Bool.not_eq_true', Bool.not_eq_false', Int.le_refl, and_self, true_and, and_true, false_and, and_false, bne_self_eq_false, beq_self_eq_true, Int.reduceEq, Nat.reduceEqDiff, List.length_singleton, List.tail_cons, Int.reduceLE, Int.reduceLT, decide_eq_true_eq]; exact Ev.now _
  | true =>
    simp only [strs_len, strs_elem, ints_len, ints_elem, items_list, fld_agg, elem_list, toStr_sc, toInt_sc, toBool_sc, headD_one, nat_int, get_bt, decide_eq_true_eq, decide_eq_false_iff_not, decide_true, decide_false, if_true, if_false, ite_self, Bool.not_true, Bool.not_false, Bool.false_eq_true, Bool.true_eq_false, Bool.true_and, Bool.false_and, Bool.and_true, Bool.and_false, not_true, not_false_iff, Option.bind_some, nn, toList_inj, Bool.not_eq_true', Bool.not_eq_false', Int.le_refl, and_self, true_and, and_true, false_and, and_false, bne_self_eq_false, beq_self_eq_true, Int.reduceEq, Nat.reduceEqDiff, List.length_singleton, List.tail_cons, Int.reduceLE, Int.reduceLT, decide_eq_true_eq]
    by_cases h3 : (a.length : Int) ≤ 300
    · simp only [h3, strs_len, strs_elem, ints_len, ints_elem, items_list, fld_agg, elem_list, toStr_sc, toInt_sc, toBool_sc, headD_one, nat_int, get_bt, decide_eq_true_eq, decide_eq_false_iff_not, decide_true, decide_false, if_true, if_false, ite_self, Bool.not_true, Bool.not_false, Bool.false_eq_true, Bool.true_eq_false, Bool.true_and, Bool.false_and, Bool.and_true, Bool.and_false, not_true, not_false_iff, Option.bind_some, nn, toList_inj, Bool.not_eq_true', Bool.not_eq_false', Int.le_refl, and_self, true_and, and_true, false_and, and_false, bne_self_eq_false, beq_self_eq_true, Int.reduceEq, Nat.reduceEqDiff, List.length_singleton, List.tail_cons, Int.reduceLE, Int.reduceLT, decide_eq_true_eq]; exact Ev.now _
    · simp only [h3, eq_false (show ¬ (a.length : Int) ≤ 10 by omega), strs_len, strs_elem, ints_len, ints_elem, items_list, fld_agg, elem_list, toStr_sc, toInt_sc, toBool_sc, headD_one, nat_int, get_bt, decide_eq_true_eq, decide_eq_false_iff_not, decide_true, decide_false, if_true, if_false, ite_self, Bool.not_true, Bool.not_false, Bool.false_eq_true, Bool.true_eq_false, Bool.true_and, Bool.false_and, Bool.and_true, Bool.and_false, not_true, not_false_iff, Option.bind_some, nn, toList_inj, Bool.not_eq_true', Bool.not_eq_false', Int.le_refl, and_self, true_and, and_true, false_and, and_false, bne_self_eq_false, beq_self_eq_true, Int.reduceEq, Nat.reduceEqDiff, List.length_singleton, List.tail_cons, Int.reduceLE, Int.reduceLT, decide_eq_true_eq]; exact Ev.now _
/-! #### the order of texts, and what sorting makes -/
theorem bLess_iff (a b : ByteArray) : bLess a b = true ↔ encB a < encB b := by
  unfold bLess encB
  rw [ByteArray.toList_eq, ByteArray.toList_eq, bytesLess_eq]
  simp
theorem ll_trans {a b c : List UInt8} (h1 : a < b) (h2 : b < c) : a < c := List.lt_trans h1 h2
theorem ll_irrefl (a : List UInt8) : ¬ a < a := List.lt_irrefl a
theorem ll_le {a b : List UInt8} : a ≤ b ↔ ¬ b < a := by rw [← List.not_lt]
theorem ll_tri {a b : List UInt8} (h1 : ¬ a < b) (h2 : ¬ b < a) : a = b := List.le_antisymm (ll_le.2 h2) (ll_le.2 h1)
theorem ll_lt_of_le_of_ne {a b : List UInt8} (h1 : a ≤ b) (h2 : a ≠ b) : a < b := Classical.byContradiction fun h => h2 (ll_tri h (ll_le.1 h1))
theorem ll_lt_of_le_of_lt {a b c : List UInt8} (h1 : a ≤ b) (h2 : b < c) : a < c := by
  by_cases h : a = b
  · rw [h]; exact h2
  · exact ll_trans (ll_lt_of_le_of_ne h1 h) h2
theorem asc_ext : ∀ {a b : List (List UInt8)}, a.Pairwise (· < ·) → b.Pairwise (· < ·) → (∀ x, x ∈ a ↔ x ∈ b) → a = b
  | [], [], _, _, _ => rfl
  | [], y :: b, _, _, h => absurd ((h y).2 (by simp)) (by simp)
  | x :: a, [], _, _, h => absurd ((h x).1 (by simp)) (by simp)
  | x :: a, y :: b, ha, hb, h => by
    rw [List.pairwise_cons] at ha hb
    have e : x = y := by
      rcases List.mem_cons.1 ((h x).1 (by simp)) with h1 | h1
      · exact h1
      rcases List.mem_cons.1 ((h y).2 (by simp)) with h2 | h2
      · exact h2.symm
      · exact absurd (ll_trans (hb.1 x h1) (ha.1 y h2)) (ll_irrefl y)
    subst e
    have : a = b := asc_ext ha.2 hb.2 (fun z => by
      constructor
      · intro hz
        rcases List.mem_cons.1 ((h z).1 (by simp [hz])) with rfl | h1
        · exact absurd (ha.1 z hz) (ll_irrefl z)
        · exact h1
      · intro hz
        rcases List.mem_cons.1 ((h z).2 (by simp [hz])) with rfl | h1
        · exact absurd (hb.1 z hz) (ll_irrefl z)
        · exact h1)
    rw [this]
theorem sorted_pair (zs : List (List UInt8)) : (zs.mergeSort fun x y => decide (x ≤ y)).Pairwise (· ≤ ·) := by
  have h := List.pairwise_mergeSort (le := fun x y : List UInt8 => decide (x ≤ y)) (fun a b c h1 h2 => by
    simp only [decide_eq_true_eq] at *
    exact List.le_trans h1 h2) (fun a b => by
    simp only [Bool.or_eq_true, decide_eq_true_eq]
    exact List.le_total a b) zs
  exact h.imp (fun h => by simpa using h)
theorem keeps_at {zs : List (List UInt8)} (hs : zs.Pairwise (· ≤ ·)) {j k : Nat} (hk : k < zs.length) (hj : j < k) (hkeep : Lib.keeps zs.toArray k = true) : zs.toArray[j]! < zs.toArray[k]! := by
  have hj2 : j < zs.length := by omega
  have hk1 : k - 1 < zs.length := by omega
  rw [List.pairwise_iff_getElem] at hs
  have e1 : ∀ i (h : i < zs.length), zs.toArray[i]! = zs[i] := fun i h => by rw [getElem!_pos _ i (by simpa using h)]; simp
  rw [e1 j hj2, e1 k hk]
  have hne : zs[k - 1] ≠ zs[k] := by
    have := hkeep
    unfold Lib.keeps at this
    simp only [Bool.or_eq_true, decide_eq_true_eq, bne_iff_ne, beq_iff_eq] at this
    rcases this with h | h
    · omega
    · rw [e1 k hk, e1 (k - 1) hk1] at h
      exact fun he => h he.symm
  have hle : zs[k - 1] ≤ zs[k] := hs (k - 1) k hk1 hk (by omega)
  have hlt := ll_lt_of_le_of_ne hle hne
  by_cases hj3 : j = k - 1
  · subst hj3; exact hlt
  · exact ll_lt_of_le_of_lt (hs j (k - 1) hj2 hk1 (by omega)) hlt
theorem compact_pair {zs : List (List UInt8)} (hs : zs.Pairwise (· ≤ ·)) : (Lib.compact zs).Pairwise (· < ·) := by
  unfold Lib.compact Lib.compactUpTo
  rw [List.pairwise_map, List.pairwise_filter]
  refine List.Pairwise.imp_of_mem (R := (· < ·)) ?_ List.pairwise_lt_range
  intro i k hi hk hik h1 h2
  exact keeps_at hs (by simpa using hk) hik h2
theorem compact_mem {zs : List (List UInt8)} (x : List UInt8) : x ∈ Lib.compact zs ↔ x ∈ zs := by
  unfold Lib.compact Lib.compactUpTo
  simp only [List.mem_map, List.mem_filter, List.mem_range]
  have e1 : ∀ i (h : i < zs.length), zs.toArray[i]! = zs[i] := fun i h => by rw [getElem!_pos _ i (by simpa using h)]; simp
  constructor
  · rintro ⟨i, ⟨hi, _⟩, rfl⟩
    rw [e1 i hi]; exact List.getElem_mem hi
  · intro hx
    obtain ⟨i, hi, rfl⟩ := List.mem_iff_getElem.1 hx
    suffices h : ∀ m i, i ≤ m → ∀ hi : i < zs.length, ∃ j, (j < zs.length ∧ Lib.keeps zs.toArray j = true) ∧ zs.toArray[j]! = zs[i] from h i i (Nat.le_refl _) hi
    intro m
    induction m with
    | zero =>
      intro i h0 hi
      have : i = 0 := by omega
      subst this
      exact ⟨0, ⟨hi, by simp [Lib.keeps]⟩, e1 0 hi⟩
    | succ m ih =>
      intro i h0 hi
      by_cases hk : Lib.keeps zs.toArray i = true
      · exact ⟨i, ⟨hi, hk⟩, e1 i hi⟩
      · have hne : i ≠ 0 := by rintro rfl; exact hk (by simp [Lib.keeps])
        have hi1 : i - 1 < zs.length := by omega
        have heq : zs[i - 1] = zs[i] := by
          have h2 := hk
          unfold Lib.keeps at h2
          simp only [Bool.or_eq_true, decide_eq_true_eq, bne_iff_ne, beq_iff_eq, not_or, Classical.not_not] at h2
          have h3 := h2.2
          rw [e1 i hi, e1 (i - 1) hi1] at h3
          exact h3.symm
        obtain ⟨j, h1, h2⟩ := ih (i - 1) (by omega) hi1
        exact ⟨j, h1, h2.trans heq⟩
/-- What the reference's l1Put makes. -/
def insM (s : ByteArray) : List ByteArray → List ByteArray
  | [] => [s]
  | c :: r => if bLess c s = true then c :: insM s r else if c = s then c :: r else s :: c :: r
theorem encB_inj {a b : ByteArray} (h : encB a = encB b) : a = b := by
  have := congrArg decB h
  rwa [decB_encB, decB_encB] at this
theorem insM_mem (s : ByteArray) : ∀ (l : List ByteArray) (x : ByteArray), x ∈ insM s l ↔ x = s ∨ x ∈ l
  | [], x => by simp [insM]
  | c :: r, x => by
    unfold insM
    split
    · simp only [List.mem_cons, insM_mem s r x]
      constructor
      · rintro (h | h | h)
        · exact .inr (.inl h)
        · exact .inl h
        · exact .inr (.inr h)
      · rintro (h | h | h)
        · exact .inr (.inl h)
        · exact .inl h
        · exact .inr (.inr h)
    · split
      · rename_i he
        subst he
        simp
      · simp
theorem insM_asc (s : ByteArray) : ∀ {l : List ByteArray}, (l.map encB).Pairwise (· < ·) → ((insM s l).map encB).Pairwise (· < ·)
  | [], _ => by simp [insM]
  | c :: r, h => by
    rw [List.map_cons, List.pairwise_cons] at h
    unfold insM
    split
    · rename_i hlt
      rw [List.map_cons, List.pairwise_cons]
      refine ⟨fun z hz => ?_, insM_asc s h.2⟩
      obtain ⟨y, hy, rfl⟩ := List.mem_map.1 hz
      rcases (insM_mem s r y).1 hy with rfl | hy
      · exact (bLess_iff c y).1 hlt
      · exact h.1 _ (List.mem_map.2 ⟨y, hy, rfl⟩)
    · rename_i hlt
      split
      · rw [List.map_cons, List.pairwise_cons]; exact h
      · rename_i hne
        have hsc : encB s < encB c := by
          refine Classical.byContradiction fun hn => hne (encB_inj (ll_tri (fun h => hlt ((bLess_iff c s).2 h)) hn))
        rw [List.map_cons, List.pairwise_cons]
        refine ⟨fun z hz => ?_, by rw [List.map_cons, List.pairwise_cons]; exact h⟩
        rw [List.map_cons] at hz
        rcases List.mem_cons.1 hz with rfl | hz
        · exact hsc
        · exact ll_trans hsc (h.1 z hz)
theorem sorted_ins (l : List ByteArray) (s : ByteArray) (h : (l.map encB).Pairwise (· < ·)) : compactM (sortM (l ++ [s])) = insM s l := by
  have e : (compactM (sortM (l ++ [s]))).map encB = (insM s l).map encB := by
    unfold compactM
    rw [List.map_map, show encB ∘ decB = id from funext fun x => by simp [encB, decB], List.map_id, sortM_enc]
    refine asc_ext (compact_pair (sorted_pair _)) (insM_asc s h) (fun x => ?_)
    rw [compact_mem, (List.mergeSort_perm _ _).mem_iff]
    simp only [List.mem_map, List.mem_append, List.mem_singleton]
    constructor
    · rintro ⟨y, hy, rfl⟩
      exact ⟨y, (insM_mem s l y).2 (hy.elim .inr .inl), rfl⟩
    · rintro ⟨y, hy, rfl⟩
      exact ⟨y, ((insM_mem s l y).1 hy).elim .inr .inl, rfl⟩
  have := congrArg (List.map decB) e
  rwa [List.map_map, List.map_map, show decB ∘ encB = id from funext decB_encB, List.map_id, List.map_id] at this
/-- Words that ascend. -/
theorem ascW_pair : ∀ {l : List ByteArray} {q : ByteArray}, ascW (some q) l = true → (∀ x ∈ l, encB q < encB x) ∧ (l.map encB).Pairwise (· < ·)
  | [], _, _ => ⟨by simp, by simp⟩
  | c :: l, q, h => by
    simp only [ascW, Bool.and_eq_true] at h
    have h1 := (bLess_iff q c).1 h.1.2
    obtain ⟨h2, h3⟩ := ascW_pair h.2
    refine ⟨fun x hx => ?_, ?_⟩
    · rcases List.mem_cons.1 hx with rfl | hx
      · exact h1
      · exact ll_trans h1 (h2 x hx)
    · rw [List.map_cons, List.pairwise_cons]
      refine ⟨fun z hz => ?_, h3⟩
      obtain ⟨y, hy, rfl⟩ := List.mem_map.1 hz
      exact h2 y hy
theorem wordsM_pair {l : List ByteArray} {m : Int} (h : wordsM l m = true) : (l.map encB).Pairwise (· < ·) := by
  simp only [wordsM, Bool.and_eq_true] at h
  cases l with
  | nil => simp
  | cons c l =>
    have h1 := h.1
    simp only [ascW, Bool.and_eq_true] at h1
    obtain ⟨h2, h3⟩ := ascW_pair h1.2
    rw [List.map_cons, List.pairwise_cons]
    refine ⟨fun z hz => ?_, h3⟩
    obtain ⟨y, hy, rfl⟩ := List.mem_map.1 hz
    exact h2 y hy
/-! #### l1Put -/
theorem strs_full (a : List ByteArray) : PV.list (([] : List PV) ++ (strsP a).items) = strsP a := rfl
theorem ins_split (s : ByteArray) : ∀ (pre rest : List ByteArray), (∀ c ∈ pre, bLess c s = true) → insM s (pre ++ rest) = pre ++ insM s rest
  | [], rest, _ => rfl
  | c :: pre, rest, h => by
    rw [List.cons_append, insM, if_pos (h c (by simp)), ins_split s pre rest (fun x hx => h x (by simp [hx]))]; rfl
theorem put_loop (a : List ByteArray) (s : ByteArray) (ha : a.length ≤ 1000000000) : ∀ (rest pre : List ByteArray), a = pre ++ rest → (∀ c ∈ pre, bLess c s = true) →
    Ev2 (fun N n => spec_l1Put.l0 N n s (pre.length : Int) (strsP a)) [strsP (insM s a)] := by
  intro rest
  have parts : ∀ (pre rest : List ByteArray), a = pre ++ rest → (strsP a).items.take pre.length = pre.map strP ∧ (strsP a).items.drop pre.length = rest.map strP := fun pre rest hp => by
    subst hp; simp [strsP, PV.items]
  induction rest with
  | nil =>
    intro pre hp hpre
    obtain ⟨p1, p2⟩ := parts pre [] hp
    have e : insM s a = pre ++ [s] := by rw [hp, ins_split s pre [] hpre]; rfl
    have hl : a.length = pre.length := by rw [hp]; simp
    have c0 : pre.length ≤ 8796093022208 := by omega
    have c1 : pre.length + 1 ≤ 8796093022208 := by omega
    have c2 : (pre.length : Int) ≤ (a.length : Int) := by omega
    have z : a.length - pre.length = 0 := by omega
    refine Ev2.succ ?_
    have e2 : PV.list (pre.map strP ++ [strP s]) = strsP (pre ++ [s]) := by simp [strsP]
    simp only [spec_l1Put.l0_eq, strs_len, at_end hp, c2, z, List.drop_zero, Nat.sub_zero, p1, p2, List.nil_append, List.length_nil, List.length_map, List.length_append, List.map_nil, List.take_nil, List.append_nil, Nat.zero_add, Nat.add_zero, c0, c1, e, e2, strs_len, strs_elem, ints_len, ints_elem, items_list, fld_agg, elem_list, toStr_sc, toInt_sc, toBool_sc, headD_one, nat_int, get_bt, decide_eq_true_eq, decide_eq_false_iff_not, decide_true, decide_false, if_true, if_false, ite_self, Bool.not_true, Bool.not_false, Bool.false_eq_true, Bool.true_eq_false, Bool.true_and, Bool.false_and, Bool.and_true, Bool.and_false, not_true, not_false_iff, Option.bind_some, nn, toList_inj, Bool.not_eq_true', Bool.not_eq_false', Int.le_refl, and_self, true_and, and_true, false_and, and_false, bne_self_eq_false, beq_self_eq_true, Int.reduceEq, Nat.reduceEqDiff, List.length_singleton, List.tail_cons, Int.reduceLE, Int.reduceLT, decide_eq_true_eq]
    exact Ev2.now _
  | cons c rest ih =>
    intro pre hp hpre
    obtain ⟨p1, p2⟩ := parts pre (c :: rest) hp
    have hl : a.length = pre.length + 1 + rest.length := by rw [hp]; simp; omega
    refine Ev2.succ ?_
    by_cases hlt : bLess c s = true
    · simp only [spec_l1Put.l0_eq, at_lt hp, at_getD hp, bLess_eq, hlt, at_next hp (by omega), strs_len, strs_elem, ints_len, ints_elem, items_list, fld_agg, elem_list, toStr_sc, toInt_sc, toBool_sc, headD_one, nat_int, get_bt, decide_eq_true_eq, decide_eq_false_iff_not, decide_true, decide_false, if_true, if_false, ite_self, Bool.not_true, Bool.not_false, Bool.false_eq_true, Bool.true_eq_false, Bool.true_and, Bool.false_and, Bool.and_true, Bool.and_false, not_true, not_false_iff, Option.bind_some, nn, toList_inj, Bool.not_eq_true', Bool.not_eq_false', Int.le_refl, and_self, true_and, and_true, false_and, and_false, bne_self_eq_false, beq_self_eq_true, Int.reduceEq, Nat.reduceEqDiff, List.length_singleton, List.tail_cons, Int.reduceLE, Int.reduceLT, decide_eq_true_eq]
      refine ih _ (at_step hp) (fun x hx => ?_)
      rcases List.mem_append.1 hx with hx | hx
      · exact hpre x hx
      · rw [List.mem_singleton.1 hx]; exact hlt
    · have e : insM s a = pre ++ (if c = s then c :: rest else s :: c :: rest) := by rw [hp, ins_split s pre _ hpre, insM, if_neg hlt]
      by_cases hc : c = s
      · have e3 : insM s a = a := by rw [e, if_pos hc, ← hp]
        subst hc
        simp only [spec_l1Put.l0_eq, at_lt hp, at_getD hp, bLess_eq, hlt, e3, strs_len, strs_elem, ints_len, ints_elem, items_list, fld_agg, elem_list, toStr_sc, toInt_sc, toBool_sc, headD_one, nat_int, get_bt, decide_eq_true_eq, decide_eq_false_iff_not, decide_true, decide_false, if_true, if_false, ite_self, Bool.not_true, Bool.not_false, Bool.false_eq_true, Bool.true_eq_false, Bool.true_and, Bool.false_and, Bool.and_true, Bool.and_false, not_true, not_false_iff, Option.bind_some, nn, toList_inj, Bool.not_eq_true', Bool.not_eq_false', Int.le_refl, and_self, true_and, and_true, false_and, and_false, bne_self_eq_false, beq_self_eq_true, Int.reduceEq, Nat.reduceEqDiff, List.length_singleton, List.tail_cons, Int.reduceLE, Int.reduceLT, decide_eq_true_eq]
        exact Ev2.now _
      · rw [if_neg hc] at e
        have c0 : pre.length ≤ 8796093022208 := by omega
        have c1 : pre.length + 1 ≤ 8796093022208 := by omega
        have c2 : (pre.length : Int) ≤ (a.length : Int) := by omega
        have c3 : pre.length + 1 + (rest.length + 1) ≤ 8796093022208 := by omega
        have z : a.length - pre.length = rest.length + 1 := by omega
        have t1 : List.take (rest.length + 1) (strP c :: rest.map strP) = strP c :: rest.map strP := List.take_of_length_le (by simp)
        have e2 : PV.list (pre.map strP ++ [strP s] ++ strP c :: rest.map strP) = strsP (pre ++ s :: c :: rest) := by simp [strsP]
        simp only [spec_l1Put.l0_eq, strs_len, at_lt hp, at_getD hp, bLess_eq, hlt, hc, c2, List.drop_zero, Nat.sub_zero, p1, p2, z, t1, List.nil_append, List.length_nil, List.length_map, List.length_append, List.length_cons, List.map_cons, Nat.zero_add, c0, c1, c3, e, e2, strs_len, strs_elem, ints_len, ints_elem, items_list, fld_agg, elem_list, toStr_sc, toInt_sc, toBool_sc, headD_one, nat_int, get_bt, decide_eq_true_eq, decide_eq_false_iff_not, decide_true, decide_false, if_true, if_false, ite_self, Bool.not_true, Bool.not_false, Bool.false_eq_true, Bool.true_eq_false, Bool.true_and, Bool.false_and, Bool.and_true, Bool.and_false, not_true, not_false_iff, Option.bind_some, nn, toList_inj, Bool.not_eq_true', Bool.not_eq_false', Int.le_refl, and_self, true_and, and_true, false_and, and_false, bne_self_eq_false, beq_self_eq_true, Int.reduceEq, Nat.reduceEqDiff, List.length_singleton, List.tail_cons, Int.reduceLE, Int.reduceLT, decide_eq_true_eq]
        exact Ev2.now _
theorem put_ev (a : List ByteArray) (s : ByteArray) (ha : a.length ≤ 1000000000) : Ev (fun N => spec_l1Put.f N [strsP a, strP s]) [strsP (insM s a)] := by
  simp only [spec_l1Put.f_eq, strs_len, strs_elem, ints_len, ints_elem, items_list, fld_agg, elem_list, toStr_sc, toInt_sc, toBool_sc, headD_one, nat_int, get_bt, decide_eq_true_eq, decide_eq_false_iff_not, decide_true, decide_false, if_true, if_false, ite_self, Bool.not_true, Bool.not_false, Bool.false_eq_true, Bool.true_eq_false, Bool.true_and, Bool.false_and, Bool.and_true, Bool.and_false, not_true, not_false_iff, Option.bind_some, nn, toList_inj, Bool.not_eq_true', Bool.not_eq_false', Int.le_refl, and_self, true_and, and_true, false_and, and_false, bne_self_eq_false, beq_self_eq_true, Int.reduceEq, Nat.reduceEqDiff, List.length_singleton, List.tail_cons, Int.reduceLE, Int.reduceLT, decide_eq_true_eq]
  exact (put_loop a s ha a [] rfl (by simp)).diag
theorem insM_len (s : ByteArray) : ∀ l : List ByteArray, (insM s l).length ≤ l.length + 1
  | [] => by simp [insM]
  | c :: r => by
    unfold insM
    have := insM_len s r
    split
    · simp; omega
    · split <;> simp
/-! #### UserAdd -/
theorem sort_val (l : List ByteArray) (h1 : 1 ≤ l.length) (h2 : l.length ≤ 1000000000) (N : Nat) : slices_Sort_string_string.f N [strsP l] = some [strsP (sortM l)] := by
  cases l with
  | nil => simp at h1
  | cons x l =>
    show sortDen [strsP (x :: l)] = _
    simp only [strsP, List.map_cons, sortDen]
    have e1 : List.map PV.toStr (strP x :: List.map strP l) = x :: l := by simp [Function.comp_def, PV.toStr]
    simp only [List.map_cons] at e1
    rw [e1]
    have h3 : (strP x :: l.map strP).length < 4611686018427387904 := by simp at h2 ⊢; omega
    rw [if_pos h3]
theorem compact_val (l : List ByteArray) (h2 : l.length ≤ 1000000000) (N : Nat) : slices_Compact_string_string.f N [strsP l] = some [strsP (compactM l)] := by
  show compactDen [strsP l] = _
  simp only [strsP, compactDen, List.length_map]
  rw [toStr_strs, if_pos (by omega)]
theorem sorted_val (l : List ByteArray) (h1 : 1 ≤ l.length) (h2 : l.length ≤ 1000000000) (N : Nat) : impl_sorted.f N [strsP l] = some [strsP (compactM (sortM l))] := by
  have c1 : l.length ≤ 8796093022208 := by omega
  have hl := compactM_len (sortM l)
  rw [sortM_len] at hl
  have c2 : (compactM (sortM l)).length ≤ 8796093022208 := by omega
  have hc := compact_val (sortM l) (by rw [sortM_len]; exact h2)
  simp only [impl_sorted.f_eq, strs_len, strs_full, List.length_nil, Nat.zero_add, c1, c2, sort_val l h1 h2, hc, headD_one, Option.bind_some, if_true]
theorem implAdd_ev (a : List ByteArray) (s : ByteArray) (ha : a.length ≤ 1048576) (hs : ∀ x ∈ a, x.size ≤ 9223372036854775807) (hss : s.size ≤ 9223372036854775807) :
    Ev (fun N => impl_UserAdd.f N [strsP a, strP s]) (if wordsM a 10 = true then (if wordsM (insM s a) 10 = true then [strsP (insM s a), boolP true] else [strsP a, boolP false]) else [strsP [], boolP false]) := by
  simp only [impl_UserAdd.f_eq, strs_len, strs_elem, ints_len, ints_elem, items_list, fld_agg, elem_list, toStr_sc, toInt_sc, toBool_sc, headD_one, nat_int, get_bt, decide_eq_true_eq, decide_eq_false_iff_not, decide_true, decide_false, if_true, if_false, ite_self, Bool.not_true, Bool.not_false, Bool.false_eq_true, Bool.true_eq_false, Bool.true_and, Bool.false_and, Bool.and_true, Bool.and_false, not_true, not_false_iff, Option.bind_some, nn, toList_inj, Bool.not_eq_true', Bool.not_eq_false', Int.le_refl, and_self, true_and, and_true, false_and, and_false, bne_self_eq_false, beq_self_eq_true, Int.reduceEq, Nat.reduceEqDiff, List.length_singleton, List.tail_cons, Int.reduceLE, Int.reduceLT, decide_eq_true_eq]
  refine Ev.bind (implWords_ev a 10 (by omega) hs) ?_
  cases hw : wordsM a 10 with
  | false => simp only [strs_len, strs_elem, ints_len, ints_elem, items_list, fld_agg, elem_list, toStr_sc, toInt_sc, toBool_sc, headD_one, nat_int, get_bt, decide_eq_true_eq, decide_eq_false_iff_not, decide_true, decide_false, if_true, if_false, ite_self, Bool.not_true, Bool.not_false, Bool.false_eq_true, Bool.true_eq_false, Bool.true_and, Bool.false_and, Bool.and_true, Bool.and_false, not_true, not_false_iff, Option.bind_some, nn, toList_inj, Bool.not_eq_true', Bool.not_eq_false', Int.le_refl, and_self, true_and, and_true, false_and, and_false, bne_self_eq_false, beq_self_eq_true, Int.reduceEq, Nat.reduceEqDiff, List.length_singleton, List.tail_cons, Int.reduceLE, Int.reduceLT, decide_eq_true_eq]; exact Ev.now _
  | true =>
    have c1 : a.length ≤ 8796093022208 := by omega
    have c2 : a.length + 1 ≤ 8796093022208 := by omega
    have e2 : PV.list ((strsP a).items ++ [strP s]) = strsP (a ++ [s]) := by simp [strsP, PV.items]
    have hv := sorted_val (a ++ [s]) (by simp) (by rw [List.length_append, List.length_singleton]; omega)
    rw [sorted_ins a s (wordsM_pair hw)] at hv
    have hln := insM_len s a
    simp only [strs_len, strs_full, e2, List.nil_append, List.length_nil, Nat.zero_add, c1, c2, hv, strs_len, strs_elem, ints_len, ints_elem, items_list, fld_agg, elem_list, toStr_sc, toInt_sc, toBool_sc, headD_one, nat_int, get_bt, decide_eq_true_eq, decide_eq_false_iff_not, decide_true, decide_false, if_true, if_false, ite_self, Bool.not_true, Bool.not_false, Bool.false_eq_true, Bool.true_eq_false, Bool.true_and, Bool.false_and, Bool.and_true, Bool.and_false, not_true, not_false_iff, Option.bind_some, nn, toList_inj, Bool.not_eq_true', Bool.not_eq_false', Int.le_refl, and_self, true_and, and_true, false_and, and_false, bne_self_eq_false, beq_self_eq_true, Int.reduceEq, Nat.reduceEqDiff, List.length_singleton, List.tail_cons, Int.reduceLE, Int.reduceLT, decide_eq_true_eq]
    refine Ev.bind (implWords_ev (insM s a) 10 (by omega) (fun x hx => by
      rcases (insM_mem s a x).1 hx with rfl | hx
      · exact hss
      · exact hs x hx)) ?_
    cases hw2 : wordsM (insM s a) 10 with
    | false => simp only [strs_len, strs_elem, ints_len, ints_elem, items_list, fld_agg, elem_list, toStr_sc, toInt_sc, toBool_sc, headD_one, nat_int, get_bt, decide_eq_true_eq, decide_eq_false_iff_not, decide_true, decide_false, if_true, if_false, ite_self, Bool.not_true, Bool.not_false, Bool.false_eq_true, Bool.true_eq_false, Bool.true_and, Bool.false_and, Bool.and_true, Bool.and_false, not_true, not_false_iff, Option.bind_some, nn, toList_inj, Bool.not_eq_true', Bool.not_eq_false', Int.le_refl, and_self, true_and, and_true, false_and, and_false, bne_self_eq_false, beq_self_eq_true, Int.reduceEq, Nat.reduceEqDiff, List.length_singleton, List.tail_cons, Int.reduceLE, Int.reduceLT, decide_eq_true_eq]; exact Ev.now _
    | true => simp only [strs_len, strs_elem, ints_len, ints_elem, items_list, fld_agg, elem_list, toStr_sc, toInt_sc, toBool_sc, headD_one, nat_int, get_bt, decide_eq_true_eq, decide_eq_false_iff_not, decide_true, decide_false, if_true, if_false, ite_self, Bool.not_true, Bool.not_false, Bool.false_eq_true, Bool.true_eq_false, Bool.true_and, Bool.false_and, Bool.and_true, Bool.and_false, not_true, not_false_iff, Option.bind_some, nn, toList_inj, Bool.not_eq_true', Bool.not_eq_false', Int.le_refl, and_self, true_and, and_true, false_and, and_false, bne_self_eq_false, beq_self_eq_true, Int.reduceEq, Nat.reduceEqDiff, List.length_singleton, List.tail_cons, Int.reduceLE, Int.reduceLT, decide_eq_true_eq]; exact Ev.now _
/-! #### UserDrop -/
def dropM (own : List ByteArray) (w : ByteArray) : List ByteArray × Bool :=
  if wordsM own 10 = true then (own.filter (fun s => decide (s ≠ w)), decide (((own.filter (fun s => decide (s ≠ w))).length : Int) < own.length)) else ([], false)
def dropP (own : List ByteArray) (w : ByteArray) : List PV := [strsP (dropM own w).1, boolP (dropM own w).2]
theorem dropM_len (a : List ByteArray) (w : ByteArray) : (dropM a w).1.length ≤ a.length := by
  unfold dropM
  split
  · exact List.length_filter_le _ _
  · simp
theorem specDrop_loop (a : List ByteArray) (w : ByteArray) (ha : a.length ≤ 1048576) : ∀ (rest pre : List ByteArray), a = pre ++ rest → ∀ out : List ByteArray, out.length ≤ pre.length →
    Ev2 (fun N n => spec_UserDrop.l0 N n (strsP a) w (pre.length : Int) (out.map strP)) [strsP (out ++ rest.filter (fun s => decide (s ≠ w))), boolP (decide (((out ++ rest.filter (fun s => decide (s ≠ w))).length : Int) < a.length))] := by
  intro rest
  induction rest with
  | nil =>
    intro pre hp out ho
    refine Ev2.succ ?_
    simp only [spec_UserDrop.l0_eq, at_end hp, List.filter_nil, List.append_nil, List.length_map, strs_len, strs_elem, ints_len, ints_elem, items_list, fld_agg, elem_list, toStr_sc, toInt_sc, toBool_sc, headD_one, nat_int, get_bt, decide_eq_true_eq, decide_eq_false_iff_not, decide_true, decide_false, if_true, if_false, ite_self, Bool.not_true, Bool.not_false, Bool.false_eq_true, Bool.true_eq_false, Bool.true_and, Bool.false_and, Bool.and_true, Bool.and_false, not_true, not_false_iff, Option.bind_some, nn, toList_inj, Bool.not_eq_true', Bool.not_eq_false', Int.le_refl, and_self, true_and, and_true, false_and, and_false, bne_self_eq_false, beq_self_eq_true, Int.reduceEq, Nat.reduceEqDiff, List.length_singleton, List.tail_cons, Int.reduceLE, Int.reduceLT, decide_eq_true_eq]
    exact Ev2.now _
  | cons c rest ih =>
    intro pre hp out ho
    have hl := at_lt hp
    have hlim : (out.map strP).length + 1 ≤ 8796093022208 := by rw [List.length_map]; omega
    refine Ev2.succ ?_
    simp only [spec_UserDrop.l0_eq, at_lt hp, at_getD hp, at_next hp (by omega), hlim, strs_len, strs_elem, ints_len, ints_elem, items_list, fld_agg, elem_list, toStr_sc, toInt_sc, toBool_sc, headD_one, nat_int, get_bt, decide_eq_true_eq, decide_eq_false_iff_not, decide_true, decide_false, if_true, if_false, ite_self, Bool.not_true, Bool.not_false, Bool.false_eq_true, Bool.true_eq_false, Bool.true_and, Bool.false_and, Bool.and_true, Bool.and_false, not_true, not_false_iff, Option.bind_some, nn, toList_inj, Bool.not_eq_true', Bool.not_eq_false', Int.le_refl, and_self, true_and, and_true, false_and, and_false, bne_self_eq_false, beq_self_eq_true, Int.reduceEq, Nat.reduceEqDiff, List.length_singleton, List.tail_cons, Int.reduceLE, Int.reduceLT, decide_eq_true_eq]
    by_cases hc : c = w
    · simp only [hc, ne_eq, List.filter_cons, strs_len, strs_elem, ints_len, ints_elem, items_list, fld_agg, elem_list, toStr_sc, toInt_sc, toBool_sc, headD_one, nat_int, get_bt, decide_eq_true_eq, decide_eq_false_iff_not, decide_true, decide_false, if_true, if_false, ite_self, Bool.not_true, Bool.not_false, Bool.false_eq_true, Bool.true_eq_false, Bool.true_and, Bool.false_and, Bool.and_true, Bool.and_false, not_true, not_false_iff, Option.bind_some, nn, toList_inj, Bool.not_eq_true', Bool.not_eq_false', Int.le_refl, and_self, true_and, and_true, false_and, and_false, bne_self_eq_false, beq_self_eq_true, Int.reduceEq, Nat.reduceEqDiff, List.length_singleton, List.tail_cons, Int.reduceLE, Int.reduceLT, decide_eq_true_eq]
      have := ih _ (at_step hp) out (by simp; omega)
      rw [hc] at this
      exact this
    · simp only [hc, ne_eq, List.filter_cons, strs_len, strs_elem, ints_len, ints_elem, items_list, fld_agg, elem_list, toStr_sc, toInt_sc, toBool_sc, headD_one, nat_int, get_bt, decide_eq_true_eq, decide_eq_false_iff_not, decide_true, decide_false, if_true, if_false, ite_self, Bool.not_true, Bool.not_false, Bool.false_eq_true, Bool.true_eq_false, Bool.true_and, Bool.false_and, Bool.and_true, Bool.and_false, not_true, not_false_iff, Option.bind_some, nn, toList_inj, Bool.not_eq_true', Bool.not_eq_false', Int.le_refl, and_self, true_and, and_true, false_and, and_false, bne_self_eq_false, beq_self_eq_true, Int.reduceEq, Nat.reduceEqDiff, List.length_singleton, List.tail_cons, Int.reduceLE, Int.reduceLT, decide_eq_true_eq]
      have := ih _ (at_step hp) (out ++ [c]) (by simp; omega)
      simpa using this
theorem specDrop_ev (a : List ByteArray) (w : ByteArray) (ha : a.length ≤ 1048576) (hs : ∀ s ∈ a, s.size ≤ 9223372036854775807) : Ev (fun N => spec_UserDrop.f N [strsP a, strP w]) (dropP a w) := by
  simp only [spec_UserDrop.f_eq, strs_len, strs_elem, ints_len, ints_elem, items_list, fld_agg, elem_list, toStr_sc, toInt_sc, toBool_sc, headD_one, nat_int, get_bt, decide_eq_true_eq, decide_eq_false_iff_not, decide_true, decide_false, if_true, if_false, ite_self, Bool.not_true, Bool.not_false, Bool.false_eq_true, Bool.true_eq_false, Bool.true_and, Bool.false_and, Bool.and_true, Bool.and_false, not_true, not_false_iff, Option.bind_some, nn, toList_inj, Bool.not_eq_true', Bool.not_eq_false', Int.le_refl, and_self, true_and, and_true, false_and, and_false, bne_self_eq_false, beq_self_eq_true, Int.reduceEq, Nat.reduceEqDiff, List.length_singleton, List.tail_cons, Int.reduceLE, Int.reduceLT, decide_eq_true_eq]
  refine Ev.bind (specOwn_ev a (by omega) hs) ?_
  unfold dropP dropM
  cases wordsM a 10 with
  | false => simp only [strs_len, strs_elem, ints_len, ints_elem, items_list, fld_agg, elem_list, toStr_sc, toInt_sc, toBool_sc, headD_one, nat_int, get_bt, decide_eq_true_eq, decide_eq_false_iff_not, decide_true, decide_false, if_true, if_false, ite_self, Bool.not_true, Bool.not_false, Bool.false_eq_true, Bool.true_eq_false, Bool.true_and, Bool.false_and, Bool.and_true, Bool.and_false, not_true, not_false_iff, Option.bind_some, nn, toList_inj, Bool.not_eq_true', Bool.not_eq_false', Int.le_refl, and_self, true_and, and_true, false_and, and_false, bne_self_eq_false, beq_self_eq_true, Int.reduceEq, Nat.reduceEqDiff, List.length_singleton, List.tail_cons, Int.reduceLE, Int.reduceLT, decide_eq_true_eq]; exact Ev.now _
  | true => simp only [strs_len, strs_elem, ints_len, ints_elem, items_list, fld_agg, elem_list, toStr_sc, toInt_sc, toBool_sc, headD_one, nat_int, get_bt, decide_eq_true_eq, decide_eq_false_iff_not, decide_true, decide_false, if_true, if_false, ite_self, Bool.not_true, Bool.not_false, Bool.false_eq_true, Bool.true_eq_false, Bool.true_and, Bool.false_and, Bool.and_true, Bool.and_false, not_true, not_false_iff, Option.bind_some, nn, toList_inj, Bool.not_eq_true', Bool.not_eq_false', Int.le_refl, and_self, true_and, and_true, false_and, and_false, bne_self_eq_false, beq_self_eq_true, Int.reduceEq, Nat.reduceEqDiff, List.length_singleton, List.tail_cons, Int.reduceLE, Int.reduceLT, decide_eq_true_eq]; exact (specDrop_loop a w ha a [] rfl [] (Nat.le_refl _)).diag
theorem implDrop_loop (a : List ByteArray) (w : ByteArray) (ha : a.length ≤ 1048576) : ∀ (rest pre : List ByteArray), a = pre ++ rest → ∀ out : List ByteArray, out.length ≤ pre.length →
    Ev2 (fun N n => impl_UserDrop.l0 N n (strsP a) w (strsP a) (a.length : Int) (pre.length : Int) (out.map strP)) [strsP (out ++ rest.filter (fun s => decide (s ≠ w))), boolP (decide (((out ++ rest.filter (fun s => decide (s ≠ w))).length : Int) < a.length))] := by
  intro rest
  induction rest with
  | nil =>
    intro pre hp out ho
    refine Ev2.succ ?_
    simp only [impl_UserDrop.l0_eq, at_end hp, List.filter_nil, List.append_nil, List.length_map, strs_len, strs_elem, ints_len, ints_elem, items_list, fld_agg, elem_list, toStr_sc, toInt_sc, toBool_sc, headD_one, nat_int, get_bt, decide_eq_true_eq, decide_eq_false_iff_not, decide_true, decide_false, if_true, if_false, ite_self, Bool.not_true, Bool.not_false, Bool.false_eq_true, Bool.true_eq_false, Bool.true_and, Bool.false_and, Bool.and_true, Bool.and_false, not_true, not_false_iff, Option.bind_some, nn, toList_inj, Bool.not_eq_true', Bool.not_eq_false', Int.le_refl, and_self, true_and, and_true, false_and, and_false, bne_self_eq_false, beq_self_eq_true, Int.reduceEq, Nat.reduceEqDiff, List.length_singleton, List.tail_cons, Int.reduceLE, Int.reduceLT, decide_eq_true_eq]
    exact Ev2.now _
  | cons c rest ih =>
    intro pre hp out ho
    have hl := at_lt hp
    have hlim : (out.map strP).length + 1 ≤ 8796093022208 := by rw [List.length_map]; omega
    refine Ev2.succ ?_
    simp only [impl_UserDrop.l0_eq, at_lt hp, at_getD hp, at_next hp (by omega), hlim, strs_len, strs_elem, ints_len, ints_elem, items_list, fld_agg, elem_list, toStr_sc, toInt_sc, toBool_sc, headD_one, nat_int, get_bt, decide_eq_true_eq, decide_eq_false_iff_not, decide_true, decide_false, if_true, if_false, ite_self, Bool.not_true, Bool.not_false, Bool.false_eq_true, Bool.true_eq_false, Bool.true_and, Bool.false_and, Bool.and_true, Bool.and_false, not_true, not_false_iff, Option.bind_some, nn, toList_inj, Bool.not_eq_true', Bool.not_eq_false', Int.le_refl, and_self, true_and, and_true, false_and, and_false, bne_self_eq_false, beq_self_eq_true, Int.reduceEq, Nat.reduceEqDiff, List.length_singleton, List.tail_cons, Int.reduceLE, Int.reduceLT, decide_eq_true_eq]
    by_cases hc : c = w
    · simp only [hc, ne_eq, List.filter_cons, strs_len, strs_elem, ints_len, ints_elem, items_list, fld_agg, elem_list, toStr_sc, toInt_sc, toBool_sc, headD_one, nat_int, get_bt, decide_eq_true_eq, decide_eq_false_iff_not, decide_true, decide_false, if_true, if_false, ite_self, Bool.not_true, Bool.not_false, Bool.false_eq_true, Bool.true_eq_false, Bool.true_and, Bool.false_and, Bool.and_true, Bool.and_false, not_true, not_false_iff, Option.bind_some, nn, toList_inj, Bool.not_eq_true', Bool.not_eq_false', Int.le_refl, and_self, true_and, and_true, false_and, and_false, bne_self_eq_false, beq_self_eq_true, Int.reduceEq, Nat.reduceEqDiff, List.length_singleton, List.tail_cons, Int.reduceLE, Int.reduceLT, decide_eq_true_eq]
      have := ih _ (at_step hp) out (by simp; omega)
      rw [hc] at this
      exact this
    · simp only [hc, ne_eq, List.filter_cons, strs_len, strs_elem, ints_len, ints_elem, items_list, fld_agg, elem_list, toStr_sc, toInt_sc, toBool_sc, headD_one, nat_int, get_bt, decide_eq_true_eq, decide_eq_false_iff_not, decide_true, decide_false, if_true, if_false, ite_self, Bool.not_true, Bool.not_false, Bool.false_eq_true, Bool.true_eq_false, Bool.true_and, Bool.false_and, Bool.and_true, Bool.and_false, not_true, not_false_iff, Option.bind_some, nn, toList_inj, Bool.not_eq_true', Bool.not_eq_false', Int.le_refl, and_self, true_and, and_true, false_and, and_false, bne_self_eq_false, beq_self_eq_true, Int.reduceEq, Nat.reduceEqDiff, List.length_singleton, List.tail_cons, Int.reduceLE, Int.reduceLT, decide_eq_true_eq]
      have := ih _ (at_step hp) (out ++ [c]) (by simp; omega)
      simpa using this
theorem implDrop_ev (a : List ByteArray) (w : ByteArray) (ha : a.length ≤ 1048576) (hs : ∀ s ∈ a, s.size ≤ 9223372036854775807) : Ev (fun N => impl_UserDrop.f N [strsP a, strP w]) (dropP a w) := by
  simp only [impl_UserDrop.f_eq, strs_len, strs_elem, ints_len, ints_elem, items_list, fld_agg, elem_list, toStr_sc, toInt_sc, toBool_sc, headD_one, nat_int, get_bt, decide_eq_true_eq, decide_eq_false_iff_not, decide_true, decide_false, if_true, if_false, ite_self, Bool.not_true, Bool.not_false, Bool.false_eq_true, Bool.true_eq_false, Bool.true_and, Bool.false_and, Bool.and_true, Bool.and_false, not_true, not_false_iff, Option.bind_some, nn, toList_inj, Bool.not_eq_true', Bool.not_eq_false', Int.le_refl, and_self, true_and, and_true, false_and, and_false, bne_self_eq_false, beq_self_eq_true, Int.reduceEq, Nat.reduceEqDiff, List.length_singleton, List.tail_cons, Int.reduceLE, Int.reduceLT, decide_eq_true_eq]
  refine Ev.bind (implWords_ev a 10 (by omega) hs) ?_
  unfold dropP dropM
  cases wordsM a 10 with
  | false => simp only [strs_len, strs_elem, ints_len, ints_elem, items_list, fld_agg, elem_list, toStr_sc, toInt_sc, toBool_sc, headD_one, nat_int, get_bt, decide_eq_true_eq, decide_eq_false_iff_not, decide_true, decide_false, if_true, if_false, ite_self, Bool.not_true, Bool.not_false, Bool.false_eq_true, Bool.true_eq_false, Bool.true_and, Bool.false_and, Bool.and_true, Bool.and_false, not_true, not_false_iff, Option.bind_some, nn, toList_inj, Bool.not_eq_true', Bool.not_eq_false', Int.le_refl, and_self, true_and, and_true, false_and, and_false, bne_self_eq_false, beq_self_eq_true, Int.reduceEq, Nat.reduceEqDiff, List.length_singleton, List.tail_cons, Int.reduceLE, Int.reduceLT, decide_eq_true_eq]; exact Ev.now _
  | true => simp only [strs_len, strs_elem, ints_len, ints_elem, items_list, fld_agg, elem_list, toStr_sc, toInt_sc, toBool_sc, headD_one, nat_int, get_bt, decide_eq_true_eq, decide_eq_false_iff_not, decide_true, decide_false, if_true, if_false, ite_self, Bool.not_true, Bool.not_false, Bool.false_eq_true, Bool.true_eq_false, Bool.true_and, Bool.false_and, Bool.and_true, Bool.and_false, not_true, not_false_iff, Option.bind_some, nn, toList_inj, Bool.not_eq_true', Bool.not_eq_false', Int.le_refl, and_self, true_and, and_true, false_and, and_false, bne_self_eq_false, beq_self_eq_true, Int.reduceEq, Nat.reduceEqDiff, List.length_singleton, List.tail_cons, Int.reduceLE, Int.reduceLT, decide_eq_true_eq]; exact (implDrop_loop a w ha a [] rfl [] (Nat.le_refl _)).diag
theorem szs_in {l : List ByteArray} {a b : Nat} (h : (l.all fun s => decide (a ≤ s.size ∧ s.size ≤ b)) = true) : ∀ s ∈ l, a ≤ s.size ∧ s.size ≤ b := fun s hs => of_decide_eq_true (List.all_eq_true.1 h s hs)
theorem least_val (a b : Int) (N : Nat) : spec_l1Least.f N [intP a, intP b] = some [intP (if a < b then a else b)] := by
  simp only [spec_l1Least.f_eq, strs_len, strs_elem, ints_len, ints_elem, items_list, fld_agg, elem_list, toStr_sc, toInt_sc, toBool_sc, headD_one, nat_int, get_bt, decide_eq_true_eq, decide_eq_false_iff_not, decide_true, decide_false, if_true, if_false, ite_self, Bool.not_true, Bool.not_false, Bool.false_eq_true, Bool.true_eq_false, Bool.true_and, Bool.false_and, Bool.and_true, Bool.and_false, not_true, not_false_iff, Option.bind_some, nn, toList_inj, Bool.not_eq_true', Bool.not_eq_false', Int.le_refl, and_self, true_and, and_true, false_and, and_false, bne_self_eq_false, beq_self_eq_true, Int.reduceEq, Nat.reduceEqDiff, List.length_singleton, List.tail_cons, Int.reduceLE, Int.reduceLT, decide_eq_true_eq]
  by_cases h : a < b <;> simp only [h, strs_len, strs_elem, ints_len, ints_elem, items_list, fld_agg, elem_list, toStr_sc, toInt_sc, toBool_sc, headD_one, nat_int, get_bt, decide_eq_true_eq, decide_eq_false_iff_not, decide_true, decide_false, if_true, if_false, ite_self, Bool.not_true, Bool.not_false, Bool.false_eq_true, Bool.true_eq_false, Bool.true_and, Bool.false_and, Bool.and_true, Bool.and_false, not_true, not_false_iff, Option.bind_some, nn, toList_inj, Bool.not_eq_true', Bool.not_eq_false', Int.le_refl, and_self, true_and, and_true, false_and, and_false, bne_self_eq_false, beq_self_eq_true, Int.reduceEq, Nat.reduceEqDiff, List.length_singleton, List.tail_cons, Int.reduceLE, Int.reduceLT, decide_eq_true_eq]
theorem extract_all (s : ByteArray) : s.extract 0 s.size = s := by
  simp
theorem word_loop {b : PV} (hb : Code1 b) : ∀ (c p : Nat) (x : ByteArray), p + c < 1000000000 → x.size + 2 * c ≤ 12 → (1 ≤ c ∨ 1 ≤ x.size) → ∃ (r : ByteArray) (q : Nat), q ≤ p + c ∧ 1 ≤ r.size ∧ r.size ≤ 12 ∧ Ev2 (fun N n => spec_l13Word.l0 N n x (c : Int) b (p : Int)) [strP r, rdP b (q : Int)] := by
  intro c
  induction c with
  | zero =>
    intro p x hp hx h1
    refine ⟨x, p, by omega, by omega, by omega, Ev2.succ ?_⟩
    have h0 : ¬ (0 : Int) < ((0 : Nat) : Int) := by omega
    have hm : (if (x.size : Int) < 12 then (x.size : Int) else 12) = (x.size : Int) := by split <;> omega
    simp only [spec_l13Word.l0_eq, h0, least_val, hm, strs_len, strs_elem, ints_len, ints_elem, items_list, fld_agg, elem_list, toStr_sc, toInt_sc, toBool_sc, headD_one, nat_int, get_bt, decide_eq_true_eq, decide_eq_false_iff_not, decide_true, decide_false, if_true, if_false, ite_self, Bool.not_true, Bool.not_false, Bool.false_eq_true, Bool.true_eq_false, Bool.true_and, Bool.false_and, Bool.and_true, Bool.and_false, not_true, not_false_iff, Option.bind_some, nn, toList_inj, Bool.not_eq_true', Bool.not_eq_false', Int.le_refl, and_self, true_and, and_true, false_and, and_false, bne_self_eq_false, beq_self_eq_true, Int.reduceEq, Nat.reduceEqDiff, List.length_singleton, List.tail_cons, Int.reduceLE, Int.reduceLT, decide_eq_true_eq, extract_all, rd_agg]
    exact Ev2.now _
  | succ c ih =>
    intro p x hp hx h1
    obtain ⟨s, hs, hf⟩ := of_ev hb (p := (p : Int)) (by omega) [ByteArray.mk #[97], ByteArray.mk #[98], ByteArray.mk #[99], ByteArray.mk #[97, 98], ByteArray.mk #[116]] (by simp)
    have hsz : 1 ≤ s.size ∧ s.size ≤ 2 := by
      have ha : ∀ s ∈ [ByteArray.mk #[97], ByteArray.mk #[98], ByteArray.mk #[99], ByteArray.mk #[97, 98], ByteArray.mk #[116]], 1 ≤ s.size ∧ s.size ≤ 2 := szs_in rfl
      exact ha s hs
    obtain ⟨r, q, h2, h3, h4, h5⟩ := ih (p + 1) (x ++ s) (by omega) (by rw [ByteArray.size_append]; omega) (.inr (by rw [ByteArray.size_append]; omega))
    refine ⟨r, q, by omega, h3, h4, Ev2.succ ?_⟩
    have h0 : (0 : Int) < ((c + 1 : Nat) : Int) := by omega
    have hw : IntKind.i64.wrap (((c + 1 : Nat) : Int) - 1) = (c : Int) := by rw [wrap_id (by omega) (by omega)]; omega
    have hl : x.size + s.size ≤ 9223372036854775807 := by omega
    have hp1 : ((p : Int) + 1) = ((p + 1 : Nat) : Int) := by omega
    have e : PV.list [PV.sc (.string (ByteArray.mk #[97])), PV.sc (.string (ByteArray.mk #[98])), PV.sc (.string (ByteArray.mk #[99])), PV.sc (.string (ByteArray.mk #[97, 98])), PV.sc (.string (ByteArray.mk #[116]))] = strsP [ByteArray.mk #[97], ByteArray.mk #[98], ByteArray.mk #[99], ByteArray.mk #[97, 98], ByteArray.mk #[116]] := rfl
    simp only [spec_l13Word.l0_eq, h0, hw, hl, e, rd_agg, hf, rd_f0, rd_f1, hp1, strs_len, strs_elem, ints_len, ints_elem, items_list, fld_agg, elem_list, toStr_sc, toInt_sc, toBool_sc, headD_one, nat_int, get_bt, decide_eq_true_eq, decide_eq_false_iff_not, decide_true, decide_false, if_true, if_false, ite_self, Bool.not_true, Bool.not_false, Bool.false_eq_true, Bool.true_eq_false, Bool.true_and, Bool.false_and, Bool.and_true, Bool.and_false, not_true, not_false_iff, Option.bind_some, nn, toList_inj, Bool.not_eq_true', Bool.not_eq_false', Int.le_refl, and_self, true_and, and_true, false_and, and_false, bne_self_eq_false, beq_self_eq_true, Int.reduceEq, Nat.reduceEqDiff, List.length_singleton, List.tail_cons, Int.reduceLE, Int.reduceLT, decide_eq_true_eq]
    exact h5
def wordsL : List ByteArray := [ByteArray.mk #[99, 97, 116], ByteArray.mk #[99, 97, 116, 115], ByteArray.mk #[97, 99, 116], ByteArray.mk #[100, 111], ByteArray.mk #[100, 111, 105, 110, 103], ByteArray.mk #[103, 111], ByteArray.mk #[117, 110, 100, 111], ByteArray.mk #[116, 114, 121], ByteArray.mk #[116, 114, 105, 101, 115], ByteArray.mk #[97], ByteArray.mk #[98, 97, 107, 101], ByteArray.mk #[98, 97, 107, 105, 110, 103], ByteArray.mk #[116, 97, 99, 116], ByteArray.mk #[99, 97, 114, 116], ByteArray.mk #[97, 98, 99, 97, 98, 99, 97, 98, 99, 97, 98, 99]]
theorem word_ev {b : PV} (hb : Code1 b) (p : Nat) (hp : p < 900000000) : ∃ (r : ByteArray) (q : Nat), q ≤ p + 10 ∧ 1 ≤ r.size ∧ r.size ≤ 12 ∧ Ev (fun N => spec_l13Word.f N [rdP b (p : Int)]) [strP r, rdP b (q : Int)] := by
  obtain ⟨k, hk, hf⟩ := pick_ev hb (p := (p : Int)) (n := 3) (by omega) (by omega)
  by_cases h0 : k = 0
  · obtain ⟨k2, hk2, hf2⟩ := pick_ev hb (p := (p : Int) + 1) (n := 5) (by omega) (by omega)
    obtain ⟨j, rfl⟩ := Int.eq_ofNat_of_zero_le hk2.1
    obtain ⟨r, q, h2, h3, h4, h5⟩ := word_loop hb (1 + j) (p + 2) ⟨#[]⟩ (by omega) (by have : (ByteArray.mk #[]).size = 0 := rfl; omega) (.inl (by omega))
    refine ⟨r, q, by omega, h3, h4, ?_⟩
    have hw : IntKind.i64.wrap (1 + (j : Int)) = ((1 + j : Nat) : Int) := by rw [wrap_id (by omega) (by omega)]; omega
    have hp1 : ((p : Int) + 1 + 1) = ((p + 2 : Nat) : Int) := by omega
    simp only [spec_l13Word.f_eq, rd_f0, rd_f1, rd_agg, hf, h0, hf2, hw, hp1, strs_len, strs_elem, ints_len, ints_elem, items_list, fld_agg, elem_list, toStr_sc, toInt_sc, toBool_sc, headD_one, nat_int, get_bt, decide_eq_true_eq, decide_eq_false_iff_not, decide_true, decide_false, if_true, if_false, ite_self, Bool.not_true, Bool.not_false, Bool.false_eq_true, Bool.true_eq_false, Bool.true_and, Bool.false_and, Bool.and_true, Bool.and_false, not_true, not_false_iff, Option.bind_some, nn, toList_inj, Bool.not_eq_true', Bool.not_eq_false', Int.le_refl, and_self, true_and, and_true, false_and, and_false, bne_self_eq_false, beq_self_eq_true, Int.reduceEq, Nat.reduceEqDiff, List.length_singleton, List.tail_cons, Int.reduceLE, Int.reduceLT, decide_eq_true_eq]
    exact h5.diag
  · obtain ⟨s, hs, hf2⟩ := of_ev hb (p := (p : Int) + 1) (by omega) wordsL (by simp [wordsL])
    have ha : ∀ s ∈ wordsL, 1 ≤ s.size ∧ s.size ≤ 12 := szs_in rfl
    refine ⟨s, p + 2, by omega, (ha s hs).1, (ha s hs).2, ?_⟩
    have hp1 : ((p : Int) + 1 + 1) = ((p + 2 : Nat) : Int) := by omega
    have e : PV.list [PV.sc (.string (ByteArray.mk #[99, 97, 116])), PV.sc (.string (ByteArray.mk #[99, 97, 116, 115])), PV.sc (.string (ByteArray.mk #[97, 99, 116])), PV.sc (.string (ByteArray.mk #[100, 111])), PV.sc (.string (ByteArray.mk #[100, 111, 105, 110, 103])), PV.sc (.string (ByteArray.mk #[103, 111])), PV.sc (.string (ByteArray.mk #[117, 110, 100, 111])), PV.sc (.string (ByteArray.mk #[116, 114, 121])), PV.sc (.string (ByteArray.mk #[116, 114, 105, 101, 115])), PV.sc (.string (ByteArray.mk #[97])), PV.sc (.string (ByteArray.mk #[98, 97, 107, 101])), PV.sc (.string (ByteArray.mk #[98, 97, 107, 105, 110, 103])), PV.sc (.string (ByteArray.mk #[116, 97, 99, 116])), PV.sc (.string (ByteArray.mk #[99, 97, 114, 116])), PV.sc (.string (ByteArray.mk #[97, 98, 99, 97, 98, 99, 97, 98, 99, 97, 98, 99]))] = strsP wordsL := rfl
    simp only [spec_l13Word.f_eq, rd_f0, rd_f1, rd_agg, hf, h0, e, hf2, hp1, strs_len, strs_elem, ints_len, ints_elem, items_list, fld_agg, elem_list, toStr_sc, toInt_sc, toBool_sc, headD_one, nat_int, get_bt, decide_eq_true_eq, decide_eq_false_iff_not, decide_true, decide_false, if_true, if_false, ite_self, Bool.not_true, Bool.not_false, Bool.false_eq_true, Bool.true_eq_false, Bool.true_and, Bool.false_and, Bool.and_true, Bool.and_false, not_true, not_false_iff, Option.bind_some, nn, toList_inj, Bool.not_eq_true', Bool.not_eq_false', Int.le_refl, and_self, true_and, and_true, false_and, and_false, bne_self_eq_false, beq_self_eq_true, Int.reduceEq, Nat.reduceEqDiff, List.length_singleton, List.tail_cons, Int.reduceLE, Int.reduceLT, decide_eq_true_eq]
    exact Ev.now _
theorem mdTexts_loop (a : List ByteArray) (ha : a.length ≤ 9223372036854775807) : ∀ rest pre : List ByteArray, a = pre ++ rest → Ev2 (fun N n => laws_mdTexts.l0 N n (strsP a) (strsP a) (pre.length : Int)) [boolP true] := by
  intro rest
  induction rest with
  | nil =>
    intro pre hp
    refine Ev2.succ ?_
    simp only [laws_mdTexts.l0_eq, at_end hp, strs_len, strs_elem, ints_len, ints_elem, items_list, fld_agg, elem_list, toStr_sc, toInt_sc, toBool_sc, headD_one, nat_int, get_bt, decide_eq_true_eq, decide_eq_false_iff_not, decide_true, decide_false, if_true, if_false, ite_self, Bool.not_true, Bool.not_false, Bool.false_eq_true, Bool.true_eq_false, Bool.true_and, Bool.false_and, Bool.and_true, Bool.and_false, not_true, not_false_iff, Option.bind_some, nn, toList_inj, Bool.not_eq_true', Bool.not_eq_false', Int.le_refl, and_self, true_and, and_true, false_and, and_false, bne_self_eq_false, beq_self_eq_true, Int.reduceEq, Nat.reduceEqDiff, List.length_singleton, List.tail_cons, Int.reduceLE, Int.reduceLT, decide_eq_true_eq]
    exact Ev2.now _
  | cons c rest ih =>
    intro pre hp
    refine Ev2.succ ?_
    simp only [laws_mdTexts.l0_eq, at_lt hp, at_next hp ha, strs_len, strs_elem, ints_len, ints_elem, items_list, fld_agg, elem_list, toStr_sc, toInt_sc, toBool_sc, headD_one, nat_int, get_bt, decide_eq_true_eq, decide_eq_false_iff_not, decide_true, decide_false, if_true, if_false, ite_self, Bool.not_true, Bool.not_false, Bool.false_eq_true, Bool.true_eq_false, Bool.true_and, Bool.false_and, Bool.and_true, Bool.and_false, not_true, not_false_iff, Option.bind_some, nn, toList_inj, Bool.not_eq_true', Bool.not_eq_false', Int.le_refl, and_self, true_and, and_true, false_and, and_false, bne_self_eq_false, beq_self_eq_true, Int.reduceEq, Nat.reduceEqDiff, List.length_singleton, List.tail_cons, Int.reduceLE, Int.reduceLT, decide_eq_true_eq]
    exact ih _ (at_step hp)
theorem mdTexts_ev (a : List ByteArray) (ha : a.length ≤ 9223372036854775807) : Ev (fun N => laws_mdTexts.f N [strsP a, strsP a]) [boolP true] := by
  simp only [laws_mdTexts.f_eq, strs_len, strs_elem, ints_len, ints_elem, items_list, fld_agg, elem_list, toStr_sc, toInt_sc, toBool_sc, headD_one, nat_int, get_bt, decide_eq_true_eq, decide_eq_false_iff_not, decide_true, decide_false, if_true, if_false, ite_self, Bool.not_true, Bool.not_false, Bool.false_eq_true, Bool.true_eq_false, Bool.true_and, Bool.false_and, Bool.and_true, Bool.and_false, not_true, not_false_iff, Option.bind_some, nn, toList_inj, Bool.not_eq_true', Bool.not_eq_false', Int.le_refl, and_self, true_and, and_true, false_and, and_false, bne_self_eq_false, beq_self_eq_true, Int.reduceEq, Nat.reduceEqDiff, List.length_singleton, List.tail_cons, Int.reduceLE, Int.reduceLT, decide_eq_true_eq]
  exact (mdTexts_loop a ha a [] rfl).diag
theorem strs_snoc (a : List ByteArray) (k : ByteArray) : PV.list ((strsP a).items ++ [strP k]) = strsP (a ++ [k]) := by simp [strsP, PV.items]
theorem all_snoc {α : Type} {Q : α → Prop} {l : List α} {x : α} (h : ∀ y ∈ l, Q y) (hx : Q x) : ∀ y ∈ l ++ [x], Q y := by
  intro y hy
  rcases List.mem_append.1 hy with hy | hy
  · exact h y hy
  · rw [List.mem_singleton.1 hy]; exact hx
/-! #### words that ascend, with one more, with one less -/
theorem ascW_iff : ∀ {l : List ByteArray}, ascW none l = true ↔ (∀ c ∈ l, isWord c = true) ∧ (l.map encB).Pairwise (· < ·) := by
  have step : ∀ {l : List ByteArray} {q : ByteArray}, ascW (some q) l = true ↔ (∀ c ∈ l, isWord c = true) ∧ (∀ c ∈ l, encB q < encB c) ∧ (l.map encB).Pairwise (· < ·) := by
    intro l
    induction l with
    | nil => intro q; simp [ascW]
    | cons c l ih =>
      intro q
      simp only [ascW, Bool.and_eq_true, ih, bLess_iff, List.map_cons, List.pairwise_cons, List.mem_cons, forall_eq_or_imp, List.mem_map]
      constructor
      · rintro ⟨⟨h1, h2⟩, h3, h4, h5⟩
        exact ⟨⟨h1, h3⟩, ⟨h2, fun x hx => ll_trans h2 (h4 x hx)⟩, by rintro _ ⟨y, hy, rfl⟩; exact h4 y hy, h5⟩
      · rintro ⟨⟨h1, h3⟩, ⟨h2, _⟩, h4, h5⟩
        exact ⟨⟨h1, h2⟩, h3, fun x hx => h4 _ ⟨x, hx, rfl⟩, h5⟩
  intro l
  cases l with
  | nil => simp [ascW]
  | cons c l =>
    simp only [ascW, Bool.and_eq_true, step, List.map_cons, List.pairwise_cons, List.mem_cons, forall_eq_or_imp, List.mem_map]
    constructor
    · rintro ⟨h1, h3, h4, h5⟩
      exact ⟨⟨h1, h3⟩, by rintro _ ⟨y, hy, rfl⟩; exact h4 y hy, h5⟩
    · rintro ⟨⟨h1, h3⟩, h4, h5⟩
      exact ⟨h1, h3, fun x hx => h4 _ ⟨x, hx, rfl⟩, h5⟩
theorem wordsM_iff {l : List ByteArray} {m : Int} : wordsM l m = true ↔ ((∀ c ∈ l, isWord c = true) ∧ (l.map encB).Pairwise (· < ·)) ∧ (l.length : Int) ≤ m := by
  simp only [wordsM, Bool.and_eq_true, ascW_iff, decide_eq_true_eq]
theorem asc_same {a b : List ByteArray} (ha : (a.map encB).Pairwise (· < ·)) (hb : (b.map encB).Pairwise (· < ·)) (h : ∀ x, x ∈ a ↔ x ∈ b) : a = b := by
  have e := asc_ext ha hb (fun x => by
    simp only [List.mem_map]
    constructor
    · rintro ⟨y, hy, rfl⟩; exact ⟨y, (h y).1 hy, rfl⟩
    · rintro ⟨y, hy, rfl⟩; exact ⟨y, (h y).2 hy, rfl⟩)
  have := congrArg (List.map decB) e
  rwa [List.map_map, List.map_map, show decB ∘ encB = id from funext decB_encB, List.map_id, List.map_id] at this
theorem insM_same {s : ByteArray} {l : List ByteArray} (h : (l.map encB).Pairwise (· < ·)) (hs : s ∈ l) : insM s l = l :=
  asc_same (insM_asc s h) h (fun x => by rw [insM_mem]; exact ⟨fun h => h.elim (fun e => e ▸ hs) id, .inr⟩)
theorem filter_asc {s : ByteArray} {l : List ByteArray} (h : (l.map encB).Pairwise (· < ·)) : ((l.filter fun x => decide (x ≠ s)).map encB).Pairwise (· < ·) := by
  rw [List.pairwise_map] at h ⊢
  exact h.sublist List.filter_sublist
theorem drop_ins {s : ByteArray} {l : List ByteArray} (h : (l.map encB).Pairwise (· < ·)) (hs : s ∉ l) : (insM s l).filter (fun x => decide (x ≠ s)) = l :=
  asc_same (filter_asc (insM_asc s h)) h (fun x => by
    simp only [List.mem_filter, insM_mem, decide_eq_true_eq]
    constructor
    · rintro ⟨h1, h2⟩; exact h1.resolve_left h2
    · intro hx; exact ⟨.inr hx, fun e => hs (e ▸ hx)⟩)
theorem ins_drop {s : ByteArray} {l : List ByteArray} (h : (l.map encB).Pairwise (· < ·)) (hs : s ∈ l) : insM s (l.filter fun x => decide (x ≠ s)) = l :=
  asc_same (insM_asc s (filter_asc h)) h (fun x => by
    simp only [List.mem_filter, insM_mem, decide_eq_true_eq]
    constructor
    · rintro (rfl | ⟨h1, _⟩)
      · exact hs
      · exact h1
    · intro hx
      by_cases e : x = s
      · exact .inl e
      · exact .inr ⟨hx, e⟩)
theorem insM_new {s : ByteArray} : ∀ {l : List ByteArray}, s ∉ l → (insM s l).length = l.length + 1
  | [], _ => rfl
  | c :: r, h => by
    unfold insM
    split
    · rw [List.length_cons, insM_new (fun hh => h (by simp [hh])), List.length_cons]
    · rw [if_neg (fun e => h (by simp [e]))]; rfl
theorem mdHas_loop (a : List ByteArray) (s : ByteArray) (ha : a.length ≤ 9223372036854775807) : ∀ rest pre : List ByteArray, a = pre ++ rest → Ev2 (fun N n => laws_mdHas.l0 N n (strsP a) s (pre.length : Int)) [boolP (decide (s ∈ rest))] := by
  intro rest
  induction rest with
  | nil =>
    intro pre hp
    refine Ev2.succ ?_
    simp only [laws_mdHas.l0_eq, at_end hp, List.not_mem_nil, strs_len, strs_elem, ints_len, ints_elem, items_list, fld_agg, elem_list, toStr_sc, toInt_sc, toBool_sc, headD_one, nat_int, get_bt, decide_eq_true_eq, decide_eq_false_iff_not, decide_true, decide_false, if_true, if_false, ite_self, Bool.not_true, Bool.not_false, Bool.false_eq_true, Bool.true_eq_false, Bool.true_and, Bool.false_and, Bool.and_true, Bool.and_false, not_true, not_false_iff, Option.bind_some, nn, toList_inj, Bool.not_eq_true', Bool.not_eq_false', Int.le_refl, and_self, true_and, and_true, false_and, and_false, bne_self_eq_false, beq_self_eq_true, Int.reduceEq, Nat.reduceEqDiff, List.length_singleton, List.tail_cons, Int.reduceLE, Int.reduceLT, decide_eq_true_eq]
    exact Ev2.now _
  | cons c rest ih =>
    intro pre hp
    refine Ev2.succ ?_
    by_cases e : c = s
    · have hm : (s ∈ c :: rest) = True := eq_true (by simp [e])
      simp only [laws_mdHas.l0_eq, at_lt hp, at_getD hp, e, hm, strs_len, strs_elem, ints_len, ints_elem, items_list, fld_agg, elem_list, toStr_sc, toInt_sc, toBool_sc, headD_one, nat_int, get_bt, decide_eq_true_eq, decide_eq_false_iff_not, decide_true, decide_false, if_true, if_false, ite_self, Bool.not_true, Bool.not_false, Bool.false_eq_true, Bool.true_eq_false, Bool.true_and, Bool.false_and, Bool.and_true, Bool.and_false, not_true, not_false_iff, Option.bind_some, nn, toList_inj, Bool.not_eq_true', Bool.not_eq_false', Int.le_refl, and_self, true_and, and_true, false_and, and_false, bne_self_eq_false, beq_self_eq_true, Int.reduceEq, Nat.reduceEqDiff, List.length_singleton, List.tail_cons, Int.reduceLE, Int.reduceLT, decide_eq_true_eq]
      simp only [e] at hm
      simp only [hm, strs_len, strs_elem, ints_len, ints_elem, items_list, fld_agg, elem_list, toStr_sc, toInt_sc, toBool_sc, headD_one, nat_int, get_bt, decide_eq_true_eq, decide_eq_false_iff_not, decide_true, decide_false, if_true, if_false, ite_self, Bool.not_true, Bool.not_false, Bool.false_eq_true, Bool.true_eq_false, Bool.true_and, Bool.false_and, Bool.and_true, Bool.and_false, not_true, not_false_iff, Option.bind_some, nn, toList_inj, Bool.not_eq_true', Bool.not_eq_false', Int.le_refl, and_self, true_and, and_true, false_and, and_false, bne_self_eq_false, beq_self_eq_true, Int.reduceEq, Nat.reduceEqDiff, List.length_singleton, List.tail_cons, Int.reduceLE, Int.reduceLT, decide_eq_true_eq]
      exact Ev2.now _
    · simp only [laws_mdHas.l0_eq, at_lt hp, at_getD hp, e, at_next hp ha, strs_len, strs_elem, ints_len, ints_elem, items_list, fld_agg, elem_list, toStr_sc, toInt_sc, toBool_sc, headD_one, nat_int, get_bt, decide_eq_true_eq, decide_eq_false_iff_not, decide_true, decide_false, if_true, if_false, ite_self, Bool.not_true, Bool.not_false, Bool.false_eq_true, Bool.true_eq_false, Bool.true_and, Bool.false_and, Bool.and_true, Bool.and_false, not_true, not_false_iff, Option.bind_some, nn, toList_inj, Bool.not_eq_true', Bool.not_eq_false', Int.le_refl, and_self, true_and, and_true, false_and, and_false, bne_self_eq_false, beq_self_eq_true, Int.reduceEq, Nat.reduceEqDiff, List.length_singleton, List.tail_cons, Int.reduceLE, Int.reduceLT, decide_eq_true_eq]
      refine Ev2.ext (ih _ (at_step hp)) ?_
      have : (s ∈ c :: rest) ↔ s ∈ rest := by simp [Ne.symm e]
      exact congrArg (fun b => [boolP b]) (decide_eq_decide.2 this.symm)
theorem mdHas_ev (a : List ByteArray) (s : ByteArray) (ha : a.length ≤ 9223372036854775807) : Ev (fun N => laws_mdHas.f N [strsP a, strP s]) [boolP (decide (s ∈ a))] := by
  simp only [laws_mdHas.f_eq, strs_len, strs_elem, ints_len, ints_elem, items_list, fld_agg, elem_list, toStr_sc, toInt_sc, toBool_sc, headD_one, nat_int, get_bt, decide_eq_true_eq, decide_eq_false_iff_not, decide_true, decide_false, if_true, if_false, ite_self, Bool.not_true, Bool.not_false, Bool.false_eq_true, Bool.true_eq_false, Bool.true_and, Bool.false_and, Bool.and_true, Bool.and_false, not_true, not_false_iff, Option.bind_some, nn, toList_inj, Bool.not_eq_true', Bool.not_eq_false', Int.le_refl, and_self, true_and, and_true, false_and, and_false, bne_self_eq_false, beq_self_eq_true, Int.reduceEq, Nat.reduceEqDiff, List.length_singleton, List.tail_cons, Int.reduceLE, Int.reduceLT, decide_eq_true_eq]
  exact (mdHas_loop a s ha a [] rfl).diag
/-! #### drawn words of one's own -/
def anyL : List ByteArray := [ByteArray.mk #[], ByteArray.mk #[67, 97, 116], ByteArray.mk #[97, 32, 98], ByteArray.mk #[97, 98, 99, 97, 98, 99, 97, 98, 99, 97, 98, 99, 97], ByteArray.mk #[120, 49], ByteArray.mk #[45]]
theorem anyWord_ev {b : PV} (hb : Code1 b) (p : Nat) (hp : p < 800000000) : ∃ (r : ByteArray) (q : Nat), q ≤ p + 12 ∧ r.size ≤ 13 ∧ Ev (fun N => spec_l13AnyWord.f N [rdP b (p : Int)]) [strP r, rdP b (q : Int)] := by
  obtain ⟨k, hk, hf⟩ := pick_ev hb (p := (p : Int)) (n := 16) (by omega) (by omega)
  have hp1 : (p : Int) + 1 = ((p + 1 : Nat) : Int) := by omega
  rw [hp1] at hf
  by_cases k0 : k = 0
  · obtain ⟨s, hs, hf2⟩ := of_ev hb (p := ((p + 1 : Nat) : Int)) (by omega) anyL (by simp [anyL])
    have ha : ∀ s ∈ anyL, 0 ≤ s.size ∧ s.size ≤ 13 := szs_in rfl
    have hp2 : ((p + 1 : Nat) : Int) + 1 = ((p + 2 : Nat) : Int) := by omega
    refine ⟨s, p + 2, by omega, (ha s hs).2, ?_⟩
    have e : PV.list [PV.sc (.string (ByteArray.mk #[])), PV.sc (.string (ByteArray.mk #[67, 97, 116])), PV.sc (.string (ByteArray.mk #[97, 32, 98])), PV.sc (.string (ByteArray.mk #[97, 98, 99, 97, 98, 99, 97, 98, 99, 97, 98, 99, 97])), PV.sc (.string (ByteArray.mk #[120, 49])), PV.sc (.string (ByteArray.mk #[45]))] = strsP anyL := rfl
    simp only [spec_l13AnyWord.f_eq, rd_f0, rd_f1, rd_agg, hf, k0, e, hf2, hp2, strs_len, strs_elem, ints_len, ints_elem, items_list, fld_agg, elem_list, toStr_sc, toInt_sc, toBool_sc, headD_one, nat_int, get_bt, decide_eq_true_eq, decide_eq_false_iff_not, decide_true, decide_false, if_true, if_false, ite_self, Bool.not_true, Bool.not_false, Bool.false_eq_true, Bool.true_eq_false, Bool.true_and, Bool.false_and, Bool.and_true, Bool.and_false, not_true, not_false_iff, Option.bind_some, nn, toList_inj, Bool.not_eq_true', Bool.not_eq_false', Int.le_refl, and_self, true_and, and_true, false_and, and_false, bne_self_eq_false, beq_self_eq_true, Int.reduceEq, Nat.reduceEqDiff, List.length_singleton, List.tail_cons, Int.reduceLE, Int.reduceLT, decide_eq_true_eq]
    exact Ev.now _
  · obtain ⟨r, q, h2, h3, h4, h5⟩ := word_ev hb (p + 1) (by omega)
    refine ⟨r, q, by omega, by omega, ?_⟩
    simp only [spec_l13AnyWord.f_eq, rd_f0, rd_f1, rd_agg, hf, k0, strs_len, strs_elem, ints_len, ints_elem, items_list, fld_agg, elem_list, toStr_sc, toInt_sc, toBool_sc, headD_one, nat_int, get_bt, decide_eq_true_eq, decide_eq_false_iff_not, decide_true, decide_false, if_true, if_false, ite_self, Bool.not_true, Bool.not_false, Bool.false_eq_true, Bool.true_eq_false, Bool.true_and, Bool.false_and, Bool.and_true, Bool.and_false, not_true, not_false_iff, Option.bind_some, nn, toList_inj, Bool.not_eq_true', Bool.not_eq_false', Int.le_refl, and_self, true_and, and_true, false_and, and_false, bne_self_eq_false, beq_self_eq_true, Int.reduceEq, Nat.reduceEqDiff, List.length_singleton, List.tail_cons, Int.reduceLE, Int.reduceLT, decide_eq_true_eq]
    refine Ev.bind h5 ?_
    simp only [rd_f1, strs_len, strs_elem, ints_len, ints_elem, items_list, fld_agg, elem_list, toStr_sc, toInt_sc, toBool_sc, headD_one, nat_int, get_bt, decide_eq_true_eq, decide_eq_false_iff_not, decide_true, decide_false, if_true, if_false, ite_self, Bool.not_true, Bool.not_false, Bool.false_eq_true, Bool.true_eq_false, Bool.true_and, Bool.false_and, Bool.and_true, Bool.and_false, not_true, not_false_iff, Option.bind_some, nn, toList_inj, Bool.not_eq_true', Bool.not_eq_false', Int.le_refl, and_self, true_and, and_true, false_and, and_false, bne_self_eq_false, beq_self_eq_true, Int.reduceEq, Nat.reduceEqDiff, List.length_singleton, List.tail_cons, Int.reduceLE, Int.reduceLT, decide_eq_true_eq]
    exact Ev.now _
/-- Words of bounded size. -/
structure WordsB (l : List ByteArray) (n : Nat) : Prop where
  n : l.length ≤ n
  s : ∀ x ∈ l, x.size ≤ 13
def tenL : List ByteArray := [ByteArray.mk #[97], ByteArray.mk #[98], ByteArray.mk #[99], ByteArray.mk #[100], ByteArray.mk #[101], ByteArray.mk #[102], ByteArray.mk #[103], ByteArray.mk #[104], ByteArray.mk #[105], ByteArray.mk #[106]]
theorem ten_b (n : Nat) : WordsB tenL (n + 10) := ⟨by simp [tenL], fun x hx => (szs_in (l := tenL) (a := 0) (b := 13) rfl x hx).2⟩
theorem ten_e : PV.list [PV.sc (.string (ByteArray.mk #[97])), PV.sc (.string (ByteArray.mk #[98])), PV.sc (.string (ByteArray.mk #[99])), PV.sc (.string (ByteArray.mk #[100])), PV.sc (.string (ByteArray.mk #[101])), PV.sc (.string (ByteArray.mk #[102])), PV.sc (.string (ByteArray.mk #[103])), PV.sc (.string (ByteArray.mk #[104])), PV.sc (.string (ByteArray.mk #[105])), PV.sc (.string (ByteArray.mk #[106]))] = strsP tenL := rfl
theorem own_l1 {b : PV} (hb : Code1 b) : ∀ (c p : Nat) (l : List ByteArray), p + 20 * c < 700000000 → WordsB l 100 → l.length + c ≤ 80 → ∃ (r : List ByteArray) (q : Nat), q ≤ p + 20 * c + 20 ∧ WordsB r 200 ∧ Ev2 (fun N n => spec_l13Own.l1 N n (c : Int) b (p : Int) (strsP l)) [strsP r, rdP b (q : Int)] := by
  intro c
  induction c with
  | zero =>
    intro p l hp hl hlc
    have h0 : ¬ (0 : Int) < ((0 : Nat) : Int) := by omega
    obtain ⟨k, hk, hf⟩ := pick_ev hb (p := (p : Int)) (n := 20) (by omega) (by omega)
    have hp1 : (p : Int) + 1 = ((p + 1 : Nat) : Int) := by omega
    rw [hp1] at hf
    by_cases k0 : k = 0
    · obtain ⟨w, q, hq, hw, hv⟩ := anyWord_ev hb (p + 1) (by omega)
      obtain ⟨m, hm, hf2⟩ := pick_ev hb (p := (q : Int)) (n := 20) (by omega) (by omega)
      have hq1 : (q : Int) + 1 = ((q + 1 : Nat) : Int) := by omega
      rw [hq1] at hf2
      have c1 : l.length + 1 ≤ 8796093022208 := by omega
      by_cases m0 : m = 0
      · refine ⟨tenL, q + 1, by omega, ten_b 190, Ev2.succ ?_⟩
        simp only [spec_l13Own.l1_eq, h0, rd_agg, rd_f0, rd_f1, hf, k0, strs_len, strs_elem, ints_len, ints_elem, items_list, fld_agg, elem_list, toStr_sc, toInt_sc, toBool_sc, headD_one, nat_int, get_bt, decide_eq_true_eq, decide_eq_false_iff_not, decide_true, decide_false, if_true, if_false, ite_self, Bool.not_true, Bool.not_false, Bool.false_eq_true, Bool.true_eq_false, Bool.true_and, Bool.false_and, Bool.and_true, Bool.and_false, not_true, not_false_iff, Option.bind_some, nn, toList_inj, Bool.not_eq_true', Bool.not_eq_false', Int.le_refl, and_self, true_and, and_true, false_and, and_false, bne_self_eq_false, beq_self_eq_true, Int.reduceEq, Nat.reduceEqDiff, List.length_singleton, List.tail_cons, Int.reduceLE, Int.reduceLT, decide_eq_true_eq]
        refine Ev2.bind hv ?_
        simp only [rd_agg, rd_f0, rd_f1, c1, hf2, m0, ten_e, strs_len, strs_elem, ints_len, ints_elem, items_list, fld_agg, elem_list, toStr_sc, toInt_sc, toBool_sc, headD_one, nat_int, get_bt, decide_eq_true_eq, decide_eq_false_iff_not, decide_true, decide_false, if_true, if_false, ite_self, Bool.not_true, Bool.not_false, Bool.false_eq_true, Bool.true_eq_false, Bool.true_and, Bool.false_and, Bool.and_true, Bool.and_false, not_true, not_false_iff, Option.bind_some, nn, toList_inj, Bool.not_eq_true', Bool.not_eq_false', Int.le_refl, and_self, true_and, and_true, false_and, and_false, bne_self_eq_false, beq_self_eq_true, Int.reduceEq, Nat.reduceEqDiff, List.length_singleton, List.tail_cons, Int.reduceLE, Int.reduceLT, decide_eq_true_eq]
        exact Ev2.now _
      · refine ⟨l ++ [w], q + 1, by omega, ⟨by rw [List.length_append, List.length_singleton]; omega, all_snoc hl.s hw⟩, Ev2.succ ?_⟩
        simp only [spec_l13Own.l1_eq, h0, rd_agg, rd_f0, rd_f1, hf, k0, strs_len, strs_elem, ints_len, ints_elem, items_list, fld_agg, elem_list, toStr_sc, toInt_sc, toBool_sc, headD_one, nat_int, get_bt, decide_eq_true_eq, decide_eq_false_iff_not, decide_true, decide_false, if_true, if_false, ite_self, Bool.not_true, Bool.not_false, Bool.false_eq_true, Bool.true_eq_false, Bool.true_and, Bool.false_and, Bool.and_true, Bool.and_false, not_true, not_false_iff, Option.bind_some, nn, toList_inj, Bool.not_eq_true', Bool.not_eq_false', Int.le_refl, and_self, true_and, and_true, false_and, and_false, bne_self_eq_false, beq_self_eq_true, Int.reduceEq, Nat.reduceEqDiff, List.length_singleton, List.tail_cons, Int.reduceLE, Int.reduceLT, decide_eq_true_eq]
        refine Ev2.bind hv ?_
        simp only [rd_agg, rd_f0, rd_f1, c1, hf2, m0, strs_snoc, strs_len, strs_elem, ints_len, ints_elem, items_list, fld_agg, elem_list, toStr_sc, toInt_sc, toBool_sc, headD_one, nat_int, get_bt, decide_eq_true_eq, decide_eq_false_iff_not, decide_true, decide_false, if_true, if_false, ite_self, Bool.not_true, Bool.not_false, Bool.false_eq_true, Bool.true_eq_false, Bool.true_and, Bool.false_and, Bool.and_true, Bool.and_false, not_true, not_false_iff, Option.bind_some, nn, toList_inj, Bool.not_eq_true', Bool.not_eq_false', Int.le_refl, and_self, true_and, and_true, false_and, and_false, bne_self_eq_false, beq_self_eq_true, Int.reduceEq, Nat.reduceEqDiff, List.length_singleton, List.tail_cons, Int.reduceLE, Int.reduceLT, decide_eq_true_eq]
        exact Ev2.now _
    · obtain ⟨m, hm, hf2⟩ := pick_ev hb (p := ((p + 1 : Nat) : Int)) (n := 20) (by omega) (by omega)
      have hq1 : ((p + 1 : Nat) : Int) + 1 = ((p + 2 : Nat) : Int) := by omega
      rw [hq1] at hf2
      by_cases m0 : m = 0
      · refine ⟨tenL, p + 2, by omega, ten_b 190, Ev2.succ ?_⟩
        simp only [spec_l13Own.l1_eq, h0, rd_agg, rd_f0, rd_f1, hf, k0, hf2, m0, ten_e, strs_len, strs_elem, ints_len, ints_elem, items_list, fld_agg, elem_list, toStr_sc, toInt_sc, toBool_sc, headD_one, nat_int, get_bt, decide_eq_true_eq, decide_eq_false_iff_not, decide_true, decide_false, if_true, if_false, ite_self, Bool.not_true, Bool.not_false, Bool.false_eq_true, Bool.true_eq_false, Bool.true_and, Bool.false_and, Bool.and_true, Bool.and_false, not_true, not_false_iff, Option.bind_some, nn, toList_inj, Bool.not_eq_true', Bool.not_eq_false', Int.le_refl, and_self, true_and, and_true, false_and, and_false, bne_self_eq_false, beq_self_eq_true, Int.reduceEq, Nat.reduceEqDiff, List.length_singleton, List.tail_cons, Int.reduceLE, Int.reduceLT, decide_eq_true_eq]
        exact Ev2.now _
      · refine ⟨l, p + 2, by omega, ⟨by have := hl.n; omega, hl.s⟩, Ev2.succ ?_⟩
        simp only [spec_l13Own.l1_eq, h0, rd_agg, rd_f0, rd_f1, hf, k0, hf2, m0, strs_len, strs_elem, ints_len, ints_elem, items_list, fld_agg, elem_list, toStr_sc, toInt_sc, toBool_sc, headD_one, nat_int, get_bt, decide_eq_true_eq, decide_eq_false_iff_not, decide_true, decide_false, if_true, if_false, ite_self, Bool.not_true, Bool.not_false, Bool.false_eq_true, Bool.true_eq_false, Bool.true_and, Bool.false_and, Bool.and_true, Bool.and_false, not_true, not_false_iff, Option.bind_some, nn, toList_inj, Bool.not_eq_true', Bool.not_eq_false', Int.le_refl, and_self, true_and, and_true, false_and, and_false, bne_self_eq_false, beq_self_eq_true, Int.reduceEq, Nat.reduceEqDiff, List.length_singleton, List.tail_cons, Int.reduceLE, Int.reduceLT, decide_eq_true_eq]
        exact Ev2.now _
  | succ c ih =>
    intro p l hp hl hlc
    have h0 : (0 : Int) < ((c + 1 : Nat) : Int) := by omega
    obtain ⟨w, q, h2, h3, h4, h5⟩ := word_ev hb p (by omega)
    have hil := insM_len w l
    obtain ⟨r, q2, a1, a2, a3⟩ := ih q (insM w l) (by omega) ⟨by have := hl.n; omega, fun x hx => by
      rcases (insM_mem w l x).1 hx with rfl | hx
      · omega
      · exact hl.s x hx⟩ (by omega)
    refine ⟨r, q2, by omega, a2, Ev2.succ ?_⟩
    have w1 : IntKind.i64.wrap (((c + 1 : Nat) : Int) - 1) = (c : Int) := nat_wrap (by omega) (by omega)
    simp only [spec_l13Own.l1_eq, h0, rd_agg, strs_len, strs_elem, ints_len, ints_elem, items_list, fld_agg, elem_list, toStr_sc, toInt_sc, toBool_sc, headD_one, nat_int, get_bt, decide_eq_true_eq, decide_eq_false_iff_not, decide_true, decide_false, if_true, if_false, ite_self, Bool.not_true, Bool.not_false, Bool.false_eq_true, Bool.true_eq_false, Bool.true_and, Bool.false_and, Bool.and_true, Bool.and_false, not_true, not_false_iff, Option.bind_some, nn, toList_inj, Bool.not_eq_true', Bool.not_eq_false', Int.le_refl, and_self, true_and, and_true, false_and, and_false, bne_self_eq_false, beq_self_eq_true, Int.reduceEq, Nat.reduceEqDiff, List.length_singleton, List.tail_cons, Int.reduceLE, Int.reduceLT, decide_eq_true_eq]
    refine Ev2.bind h5 ?_
    simp only [strs_len, strs_elem, ints_len, ints_elem, items_list, fld_agg, elem_list, toStr_sc, toInt_sc, toBool_sc, headD_one, nat_int, get_bt, decide_eq_true_eq, decide_eq_false_iff_not, decide_true, decide_false, if_true, if_false, ite_self, Bool.not_true, Bool.not_false, Bool.false_eq_true, Bool.true_eq_false, Bool.true_and, Bool.false_and, Bool.and_true, Bool.and_false, not_true, not_false_iff, Option.bind_some, nn, toList_inj, Bool.not_eq_true', Bool.not_eq_false', Int.le_refl, and_self, true_and, and_true, false_and, and_false, bne_self_eq_false, beq_self_eq_true, Int.reduceEq, Nat.reduceEqDiff, List.length_singleton, List.tail_cons, Int.reduceLE, Int.reduceLT, decide_eq_true_eq]
    refine Ev2.bind (put_ev l w (by omega)) ?_
    simp only [w1, rd_f1, strs_len, strs_elem, ints_len, ints_elem, items_list, fld_agg, elem_list, toStr_sc, toInt_sc, toBool_sc, headD_one, nat_int, get_bt, decide_eq_true_eq, decide_eq_false_iff_not, decide_true, decide_false, if_true, if_false, ite_self, Bool.not_true, Bool.not_false, Bool.false_eq_true, Bool.true_eq_false, Bool.true_and, Bool.false_and, Bool.and_true, Bool.and_false, not_true, not_false_iff, Option.bind_some, nn, toList_inj, Bool.not_eq_true', Bool.not_eq_false', Int.le_refl, and_self, true_and, and_true, false_and, and_false, bne_self_eq_false, beq_self_eq_true, Int.reduceEq, Nat.reduceEqDiff, List.length_singleton, List.tail_cons, Int.reduceLE, Int.reduceLT, decide_eq_true_eq]
    exact a3
theorem own_ev {b : PV} (hb : Code1 b) (p : Nat) (hp : p < 600000000) : ∃ (r : List ByteArray) (q : Nat), q ≤ p + 200 ∧ WordsB r 200 ∧ Ev (fun N => spec_l13Own.f N [rdP b (p : Int)]) [strsP r, rdP b (q : Int)] := by
  obtain ⟨c, hc, hf⟩ := pick_ev hb (p := (p : Int)) (n := 4) (by omega) (by omega)
  obtain ⟨c, rfl⟩ := Int.eq_ofNat_of_zero_le hc.1
  have hp1 : (p : Int) + 1 = ((p + 1 : Nat) : Int) := by omega
  rw [hp1] at hf
  have hnil : PV.list [] = strsP [] := rfl
  obtain ⟨r, q, h1, h2, h3⟩ : ∃ (r : List ByteArray) (q : Nat), q ≤ p + 200 ∧ WordsB r 200 ∧ Ev2 (fun N n => spec_l13Own.l0 N n (c : Int) b ((p + 1 : Nat) : Int) []) [strsP r, rdP b (q : Int)] := by
    cases c with
    | succ c =>
      have h0 : (0 : Int) < ((c + 1 : Nat) : Int) := by omega
      obtain ⟨w, q, h2, h3, h4, h5⟩ := word_ev hb (p + 1) (by omega)
      obtain ⟨r, q2, a1, a2, a3⟩ := own_l1 hb c q (insM w []) (by omega) ⟨by simp [insM], fun x hx => by
        rcases (insM_mem w [] x).1 hx with rfl | hx
        · omega
        · cases hx⟩ (by simp [insM]; omega)
      refine ⟨r, q2, by omega, a2, Ev2.succ ?_⟩
      have w1 : IntKind.i64.wrap (((c + 1 : Nat) : Int) - 1) = (c : Int) := nat_wrap (by omega) (by omega)
      simp only [spec_l13Own.l0_eq, h0, rd_agg, hnil, strs_len, strs_elem, ints_len, ints_elem, items_list, fld_agg, elem_list, toStr_sc, toInt_sc, toBool_sc, headD_one, nat_int, get_bt, decide_eq_true_eq, decide_eq_false_iff_not, decide_true, decide_false, if_true, if_false, ite_self, Bool.not_true, Bool.not_false, Bool.false_eq_true, Bool.true_eq_false, Bool.true_and, Bool.false_and, Bool.and_true, Bool.and_false, not_true, not_false_iff, Option.bind_some, nn, toList_inj, Bool.not_eq_true', Bool.not_eq_false', Int.le_refl, and_self, true_and, and_true, false_and, and_false, bne_self_eq_false, beq_self_eq_true, Int.reduceEq, Nat.reduceEqDiff, List.length_singleton, List.tail_cons, Int.reduceLE, Int.reduceLT, decide_eq_true_eq]
      refine Ev2.bind h5 ?_
      simp only [strs_len, strs_elem, ints_len, ints_elem, items_list, fld_agg, elem_list, toStr_sc, toInt_sc, toBool_sc, headD_one, nat_int, get_bt, decide_eq_true_eq, decide_eq_false_iff_not, decide_true, decide_false, if_true, if_false, ite_self, Bool.not_true, Bool.not_false, Bool.false_eq_true, Bool.true_eq_false, Bool.true_and, Bool.false_and, Bool.and_true, Bool.and_false, not_true, not_false_iff, Option.bind_some, nn, toList_inj, Bool.not_eq_true', Bool.not_eq_false', Int.le_refl, and_self, true_and, and_true, false_and, and_false, bne_self_eq_false, beq_self_eq_true, Int.reduceEq, Nat.reduceEqDiff, List.length_singleton, List.tail_cons, Int.reduceLE, Int.reduceLT, decide_eq_true_eq]
      refine Ev2.bind (put_ev [] w (by simp)) ?_
      simp only [w1, rd_f1, strs_len, strs_elem, ints_len, ints_elem, items_list, fld_agg, elem_list, toStr_sc, toInt_sc, toBool_sc, headD_one, nat_int, get_bt, decide_eq_true_eq, decide_eq_false_iff_not, decide_true, decide_false, if_true, if_false, ite_self, Bool.not_true, Bool.not_false, Bool.false_eq_true, Bool.true_eq_false, Bool.true_and, Bool.false_and, Bool.and_true, Bool.and_false, not_true, not_false_iff, Option.bind_some, nn, toList_inj, Bool.not_eq_true', Bool.not_eq_false', Int.le_refl, and_self, true_and, and_true, false_and, and_false, bne_self_eq_false, beq_self_eq_true, Int.reduceEq, Nat.reduceEqDiff, List.length_singleton, List.tail_cons, Int.reduceLE, Int.reduceLT, decide_eq_true_eq]
      exact a3
    | zero =>
      have h0 : ¬ (0 : Int) < ((0 : Nat) : Int) := by omega
      obtain ⟨k, hk, hf⟩ := pick_ev hb (p := ((p + 1 : Nat) : Int)) (n := 20) (by omega) (by omega)
      have hp1 : ((p + 1 : Nat) : Int) + 1 = ((p + 2 : Nat) : Int) := by omega
      rw [hp1] at hf
      by_cases k0 : k = 0
      · obtain ⟨w, q, hq, hw, hv⟩ := anyWord_ev hb (p + 2) (by omega)
        obtain ⟨m, hm, hf2⟩ := pick_ev hb (p := (q : Int)) (n := 20) (by omega) (by omega)
        have hq1 : (q : Int) + 1 = ((q + 1 : Nat) : Int) := by omega
        rw [hq1] at hf2
        have c1 : 0 + 1 ≤ 8796093022208 := by omega
        have e1 : PV.list [strP w] = strsP [w] := rfl
        by_cases m0 : m = 0
        · refine ⟨tenL, q + 1, by omega, ten_b 190, Ev2.succ ?_⟩
          simp only [spec_l13Own.l0_eq, h0, rd_agg, rd_f0, rd_f1, hf, k0, strs_len, strs_elem, ints_len, ints_elem, items_list, fld_agg, elem_list, toStr_sc, toInt_sc, toBool_sc, headD_one, nat_int, get_bt, decide_eq_true_eq, decide_eq_false_iff_not, decide_true, decide_false, if_true, if_false, ite_self, Bool.not_true, Bool.not_false, Bool.false_eq_true, Bool.true_eq_false, Bool.true_and, Bool.false_and, Bool.and_true, Bool.and_false, not_true, not_false_iff, Option.bind_some, nn, toList_inj, Bool.not_eq_true', Bool.not_eq_false', Int.le_refl, and_self, true_and, and_true, false_and, and_false, bne_self_eq_false, beq_self_eq_true, Int.reduceEq, Nat.reduceEqDiff, List.length_singleton, List.tail_cons, Int.reduceLE, Int.reduceLT, decide_eq_true_eq]
          refine Ev2.bind hv ?_
          simp only [rd_agg, rd_f0, rd_f1, List.length_nil, c1, hf2, m0, ten_e, strs_len, strs_elem, ints_len, ints_elem, items_list, fld_agg, elem_list, toStr_sc, toInt_sc, toBool_sc, headD_one, nat_int, get_bt, decide_eq_true_eq, decide_eq_false_iff_not, decide_true, decide_false, if_true, if_false, ite_self, Bool.not_true, Bool.not_false, Bool.false_eq_true, Bool.true_eq_false, Bool.true_and, Bool.false_and, Bool.and_true, Bool.and_false, not_true, not_false_iff, Option.bind_some, nn, toList_inj, Bool.not_eq_true', Bool.not_eq_false', Int.le_refl, and_self, true_and, and_true, false_and, and_false, bne_self_eq_false, beq_self_eq_true, Int.reduceEq, Nat.reduceEqDiff, List.length_singleton, List.tail_cons, Int.reduceLE, Int.reduceLT, decide_eq_true_eq]
          exact Ev2.now _
        · refine ⟨[w], q + 1, by omega, ⟨by simp, by simpa using hw⟩, Ev2.succ ?_⟩
          simp only [spec_l13Own.l0_eq, h0, rd_agg, rd_f0, rd_f1, hf, k0, strs_len, strs_elem, ints_len, ints_elem, items_list, fld_agg, elem_list, toStr_sc, toInt_sc, toBool_sc, headD_one, nat_int, get_bt, decide_eq_true_eq, decide_eq_false_iff_not, decide_true, decide_false, if_true, if_false, ite_self, Bool.not_true, Bool.not_false, Bool.false_eq_true, Bool.true_eq_false, Bool.true_and, Bool.false_and, Bool.and_true, Bool.and_false, not_true, not_false_iff, Option.bind_some, nn, toList_inj, Bool.not_eq_true', Bool.not_eq_false', Int.le_refl, and_self, true_and, and_true, false_and, and_false, bne_self_eq_false, beq_self_eq_true, Int.reduceEq, Nat.reduceEqDiff, List.length_singleton, List.tail_cons, Int.reduceLE, Int.reduceLT, decide_eq_true_eq]
          refine Ev2.bind hv ?_
          simp only [rd_agg, rd_f0, rd_f1, List.length_nil, List.nil_append, c1, hf2, m0, e1, strs_len, strs_elem, ints_len, ints_elem, items_list, fld_agg, elem_list, toStr_sc, toInt_sc, toBool_sc, headD_one, nat_int, get_bt, decide_eq_true_eq, decide_eq_false_iff_not, decide_true, decide_false, if_true, if_false, ite_self, Bool.not_true, Bool.not_false, Bool.false_eq_true, Bool.true_eq_false, Bool.true_and, Bool.false_and, Bool.and_true, Bool.and_false, not_true, not_false_iff, Option.bind_some, nn, toList_inj, Bool.not_eq_true', Bool.not_eq_false', Int.le_refl, and_self, true_and, and_true, false_and, and_false, bne_self_eq_false, beq_self_eq_true, Int.reduceEq, Nat.reduceEqDiff, List.length_singleton, List.tail_cons, Int.reduceLE, Int.reduceLT, decide_eq_true_eq]
          exact Ev2.now _
      · obtain ⟨m, hm, hf2⟩ := pick_ev hb (p := ((p + 2 : Nat) : Int)) (n := 20) (by omega) (by omega)
        have hq1 : ((p + 2 : Nat) : Int) + 1 = ((p + 3 : Nat) : Int) := by omega
        rw [hq1] at hf2
        by_cases m0 : m = 0
        · refine ⟨tenL, p + 3, by omega, ten_b 190, Ev2.succ ?_⟩
          simp only [spec_l13Own.l0_eq, h0, rd_agg, rd_f0, rd_f1, hf, k0, hf2, m0, ten_e, strs_len, strs_elem, ints_len, ints_elem, items_list, fld_agg, elem_list, toStr_sc, toInt_sc, toBool_sc, headD_one, nat_int, get_bt, decide_eq_true_eq, decide_eq_false_iff_not, decide_true, decide_false, if_true, if_false, ite_self, Bool.not_true, Bool.not_false, Bool.false_eq_true, Bool.true_eq_false, Bool.true_and, Bool.false_and, Bool.and_true, Bool.and_false, not_true, not_false_iff, Option.bind_some, nn, toList_inj, Bool.not_eq_true', Bool.not_eq_false', Int.le_refl, and_self, true_and, and_true, false_and, and_false, bne_self_eq_false, beq_self_eq_true, Int.reduceEq, Nat.reduceEqDiff, List.length_singleton, List.tail_cons, Int.reduceLE, Int.reduceLT, decide_eq_true_eq]
          exact Ev2.now _
        · refine ⟨[], p + 3, by omega, ⟨by simp, by simp⟩, Ev2.succ ?_⟩
          simp only [spec_l13Own.l0_eq, h0, rd_agg, rd_f0, rd_f1, hf, k0, hf2, m0, hnil, strs_len, strs_elem, ints_len, ints_elem, items_list, fld_agg, elem_list, toStr_sc, toInt_sc, toBool_sc, headD_one, nat_int, get_bt, decide_eq_true_eq, decide_eq_false_iff_not, decide_true, decide_false, if_true, if_false, ite_self, Bool.not_true, Bool.not_false, Bool.false_eq_true, Bool.true_eq_false, Bool.true_and, Bool.false_and, Bool.and_true, Bool.and_false, not_true, not_false_iff, Option.bind_some, nn, toList_inj, Bool.not_eq_true', Bool.not_eq_false', Int.le_refl, and_self, true_and, and_true, false_and, and_false, bne_self_eq_false, beq_self_eq_true, Int.reduceEq, Nat.reduceEqDiff, List.length_singleton, List.tail_cons, Int.reduceLE, Int.reduceLT, decide_eq_true_eq]
          exact Ev2.now _
  refine ⟨r, q, h1, h2, ?_⟩
  simp only [spec_l13Own.f_eq, rd_f0, rd_f1, rd_agg, hf, strs_len, strs_elem, ints_len, ints_elem, items_list, fld_agg, elem_list, toStr_sc, toInt_sc, toBool_sc, headD_one, nat_int, get_bt, decide_eq_true_eq, decide_eq_false_iff_not, decide_true, decide_false, if_true, if_false, ite_self, Bool.not_true, Bool.not_false, Bool.false_eq_true, Bool.true_eq_false, Bool.true_and, Bool.false_and, Bool.and_true, Bool.and_false, not_true, not_false_iff, Option.bind_some, nn, toList_inj, Bool.not_eq_true', Bool.not_eq_false', Int.le_refl, and_self, true_and, and_true, false_and, and_false, bne_self_eq_false, beq_self_eq_true, Int.reduceEq, Nat.reduceEqDiff, List.length_singleton, List.tail_cons, Int.reduceLE, Int.reduceLT, decide_eq_true_eq]
  exact h3.diag
theorem drawDrop_ev {l : List PV} (hl : l.length ≤ 1048576) (hby : ∀ j, 0 ≤ ((PV.list l).elem j).toInt ∧ ((PV.list l).elem j).toInt ≤ 255) : ∃ (own : List ByteArray) (s : ByteArray), WordsB own 200 ∧ s.size ≤ 13 ∧ Ev (fun N => spec_DrawUserDrop.f N [PV.list l]) [strsP own, strP s] := by
  obtain ⟨b, hb, ho⟩ := open_ev hl hby
  obtain ⟨own, q, hq, hB, hov⟩ := own_ev hb 0 (by omega)
  have hn := hB.n
  by_cases h0 : (0 : Int) < (own.length : Int)
  · obtain ⟨k, hk, hf⟩ := pick_ev hb (p := (q : Int)) (n := 2) (by omega) (by omega)
    have hq1 : (q : Int) + 1 = ((q + 1 : Nat) : Int) := by omega
    rw [hq1] at hf
    by_cases k0 : k = 0
    · obtain ⟨m, hm, hf2⟩ := pick_ev hb (p := ((q + 1 : Nat) : Int)) (n := (own.length : Int)) (by omega) (by omega)
      obtain ⟨m, rfl⟩ := Int.eq_ofNat_of_zero_le hm.1
      have hml : m < own.length := by omega
      have hme : own.getD m ByteArray.empty ∈ own := by
        rw [List.getD_eq_getElem?_getD, List.getElem?_eq_getElem hml]; exact List.getElem_mem hml
      refine ⟨own, own.getD m ByteArray.empty, hB, hB.s _ hme, ?_⟩
      simp only [spec_DrawUserDrop.f_eq, ho, rd_f0, rd_f1, rd_agg, strs_len, strs_elem, ints_len, ints_elem, items_list, fld_agg, elem_list, toStr_sc, toInt_sc, toBool_sc, headD_one, nat_int, get_bt, decide_eq_true_eq, decide_eq_false_iff_not, decide_true, decide_false, if_true, if_false, ite_self, Bool.not_true, Bool.not_false, Bool.false_eq_true, Bool.true_eq_false, Bool.true_and, Bool.false_and, Bool.and_true, Bool.and_false, not_true, not_false_iff, Option.bind_some, nn, toList_inj, Bool.not_eq_true', Bool.not_eq_false', Int.le_refl, and_self, true_and, and_true, false_and, and_false, bne_self_eq_false, beq_self_eq_true, Int.reduceEq, Nat.reduceEqDiff, List.length_singleton, List.tail_cons, Int.reduceLE, Int.reduceLT, decide_eq_true_eq]
      refine Ev.bind hov ?_
      simp only [h0, rd_f0, rd_f1, rd_agg, hf, k0, hf2, hm.2, strs_len, strs_elem, ints_len, ints_elem, items_list, fld_agg, elem_list, toStr_sc, toInt_sc, toBool_sc, headD_one, nat_int, get_bt, decide_eq_true_eq, decide_eq_false_iff_not, decide_true, decide_false, if_true, if_false, ite_self, Bool.not_true, Bool.not_false, Bool.false_eq_true, Bool.true_eq_false, Bool.true_and, Bool.false_and, Bool.and_true, Bool.and_false, not_true, not_false_iff, Option.bind_some, nn, toList_inj, Bool.not_eq_true', Bool.not_eq_false', Int.le_refl, and_self, true_and, and_true, false_and, and_false, bne_self_eq_false, beq_self_eq_true, Int.reduceEq, Nat.reduceEqDiff, List.length_singleton, List.tail_cons, Int.reduceLE, Int.reduceLT, decide_eq_true_eq]
      exact Ev.now _
    · obtain ⟨s, q2, hq2, hss, hsv⟩ := anyWord_ev hb (q + 1) (by omega)
      refine ⟨own, s, hB, hss, ?_⟩
      simp only [spec_DrawUserDrop.f_eq, ho, rd_f0, rd_f1, rd_agg, strs_len, strs_elem, ints_len, ints_elem, items_list, fld_agg, elem_list, toStr_sc, toInt_sc, toBool_sc, headD_one, nat_int, get_bt, decide_eq_true_eq, decide_eq_false_iff_not, decide_true, decide_false, if_true, if_false, ite_self, Bool.not_true, Bool.not_false, Bool.false_eq_true, Bool.true_eq_false, Bool.true_and, Bool.false_and, Bool.and_true, Bool.and_false, not_true, not_false_iff, Option.bind_some, nn, toList_inj, Bool.not_eq_true', Bool.not_eq_false', Int.le_refl, and_self, true_and, and_true, false_and, and_false, bne_self_eq_false, beq_self_eq_true, Int.reduceEq, Nat.reduceEqDiff, List.length_singleton, List.tail_cons, Int.reduceLE, Int.reduceLT, decide_eq_true_eq]
      refine Ev.bind hov ?_
      simp only [h0, rd_f0, rd_f1, rd_agg, hf, k0, strs_len, strs_elem, ints_len, ints_elem, items_list, fld_agg, elem_list, toStr_sc, toInt_sc, toBool_sc, headD_one, nat_int, get_bt, decide_eq_true_eq, decide_eq_false_iff_not, decide_true, decide_false, if_true, if_false, ite_self, Bool.not_true, Bool.not_false, Bool.false_eq_true, Bool.true_eq_false, Bool.true_and, Bool.false_and, Bool.and_true, Bool.and_false, not_true, not_false_iff, Option.bind_some, nn, toList_inj, Bool.not_eq_true', Bool.not_eq_false', Int.le_refl, and_self, true_and, and_true, false_and, and_false, bne_self_eq_false, beq_self_eq_true, Int.reduceEq, Nat.reduceEqDiff, List.length_singleton, List.tail_cons, Int.reduceLE, Int.reduceLT, decide_eq_true_eq]
      refine Ev.bind hsv ?_
      exact Ev.now _
  · obtain ⟨s, q2, hq2, hss, hsv⟩ := anyWord_ev hb q (by omega)
    refine ⟨own, s, hB, hss, ?_⟩
    simp only [spec_DrawUserDrop.f_eq, ho, rd_f0, rd_f1, rd_agg, strs_len, strs_elem, ints_len, ints_elem, items_list, fld_agg, elem_list, toStr_sc, toInt_sc, toBool_sc, headD_one, nat_int, get_bt, decide_eq_true_eq, decide_eq_false_iff_not, decide_true, decide_false, if_true, if_false, ite_self, Bool.not_true, Bool.not_false, Bool.false_eq_true, Bool.true_eq_false, Bool.true_and, Bool.false_and, Bool.and_true, Bool.and_false, not_true, not_false_iff, Option.bind_some, nn, toList_inj, Bool.not_eq_true', Bool.not_eq_false', Int.le_refl, and_self, true_and, and_true, false_and, and_false, bne_self_eq_false, beq_self_eq_true, Int.reduceEq, Nat.reduceEqDiff, List.length_singleton, List.tail_cons, Int.reduceLE, Int.reduceLT, decide_eq_true_eq]
    refine Ev.bind hov ?_
    simp only [h0, rd_f0, rd_f1, rd_agg, strs_len, strs_elem, ints_len, ints_elem, items_list, fld_agg, elem_list, toStr_sc, toInt_sc, toBool_sc, headD_one, nat_int, get_bt, decide_eq_true_eq, decide_eq_false_iff_not, decide_true, decide_false, if_true, if_false, ite_self, Bool.not_true, Bool.not_false, Bool.false_eq_true, Bool.true_eq_false, Bool.true_and, Bool.false_and, Bool.and_true, Bool.and_false, not_true, not_false_iff, Option.bind_some, nn, toList_inj, Bool.not_eq_true', Bool.not_eq_false', Int.le_refl, and_self, true_and, and_true, false_and, and_false, bne_self_eq_false, beq_self_eq_true, Int.reduceEq, Nat.reduceEqDiff, List.length_singleton, List.tail_cons, Int.reduceLE, Int.reduceLT, decide_eq_true_eq]
    refine Ev.bind hsv ?_
    exact Ev.now _
/-- The law's own function answers true. -/
theorem law (ps : List PV) (h : PvOkL (PvOk Try.prog 8) [29] ps) : ∃ N, laws_FnUserDrop.f N ps = some [boolP true] := by
  obtain ⟨l, rfl, hby⟩ := code_args (P := Try.prog) (t := 29) (e := 5) (by kernel_rfl) (by kernel_rfl) h
  refine Ev.some ?_
  simp only [laws_FnUserDrop.f_eq, strs_len, strs_elem, ints_len, ints_elem, items_list, fld_agg, elem_list, toStr_sc, toInt_sc, toBool_sc, headD_one, nat_int, get_bt, decide_eq_true_eq, decide_eq_false_iff_not, decide_true, decide_false, if_true, if_false, ite_self, Bool.not_true, Bool.not_false, Bool.false_eq_true, Bool.true_eq_false, Bool.true_and, Bool.false_and, Bool.and_true, Bool.and_false, not_true, not_false_iff, Option.bind_some, nn, toList_inj, Bool.not_eq_true', Bool.not_eq_false', Int.le_refl, and_self, true_and, and_true, false_and, and_false, bne_self_eq_false, beq_self_eq_true, Int.reduceEq, Nat.reduceEqDiff, List.length_singleton, List.tail_cons, Int.reduceLE, Int.reduceLT, decide_eq_true_eq]
  by_cases hl : (1048576 : Int) < (l.length : Int)
  · simp only [hl, strs_len, strs_elem, ints_len, ints_elem, items_list, fld_agg, elem_list, toStr_sc, toInt_sc, toBool_sc, headD_one, nat_int, get_bt, decide_eq_true_eq, decide_eq_false_iff_not, decide_true, decide_false, if_true, if_false, ite_self, Bool.not_true, Bool.not_false, Bool.false_eq_true, Bool.true_eq_false, Bool.true_and, Bool.false_and, Bool.and_true, Bool.and_false, not_true, not_false_iff, Option.bind_some, nn, toList_inj, Bool.not_eq_true', Bool.not_eq_false', Int.le_refl, and_self, true_and, and_true, false_and, and_false, bne_self_eq_false, beq_self_eq_true, Int.reduceEq, Nat.reduceEqDiff, List.length_singleton, List.tail_cons, Int.reduceLE, Int.reduceLT, decide_eq_true_eq]; exact Ev.now _
  obtain ⟨own, s, hB, hss, hd⟩ := drawDrop_ev (l := l) (by omega) hby
  have hn := hB.n
  have hs : ∀ x ∈ own, x.size ≤ 9223372036854775807 := fun x hx => by have := hB.s x hx; omega
  have hi := implDrop_ev own s (by omega) hs
  have hsp := specDrop_ev own s (by omega) hs
  have hdl := dropM_len own s
  simp only [hl, strs_len, strs_elem, ints_len, ints_elem, items_list, fld_agg, elem_list, toStr_sc, toInt_sc, toBool_sc, headD_one, nat_int, get_bt, decide_eq_true_eq, decide_eq_false_iff_not, decide_true, decide_false, if_true, if_false, ite_self, Bool.not_true, Bool.not_false, Bool.false_eq_true, Bool.true_eq_false, Bool.true_and, Bool.false_and, Bool.and_true, Bool.and_false, not_true, not_false_iff, Option.bind_some, nn, toList_inj, Bool.not_eq_true', Bool.not_eq_false', Int.le_refl, and_self, true_and, and_true, false_and, and_false, bne_self_eq_false, beq_self_eq_true, Int.reduceEq, Nat.reduceEqDiff, List.length_singleton, List.tail_cons, Int.reduceLE, Int.reduceLT, decide_eq_true_eq]
  refine Ev.bind hd ?_
  simp only [strs_len, strs_elem, ints_len, ints_elem, items_list, fld_agg, elem_list, toStr_sc, toInt_sc, toBool_sc, headD_one, nat_int, get_bt, decide_eq_true_eq, decide_eq_false_iff_not, decide_true, decide_false, if_true, if_false, ite_self, Bool.not_true, Bool.not_false, Bool.false_eq_true, Bool.true_eq_false, Bool.true_and, Bool.false_and, Bool.and_true, Bool.and_false, not_true, not_false_iff, Option.bind_some, nn, toList_inj, Bool.not_eq_true', Bool.not_eq_false', Int.le_refl, and_self, true_and, and_true, false_and, and_false, bne_self_eq_false, beq_self_eq_true, Int.reduceEq, Nat.reduceEqDiff, List.length_singleton, List.tail_cons, Int.reduceLE, Int.reduceLT, decide_eq_true_eq]
  refine Ev.bind hi ?_
  refine Ev.bind hsp ?_
  simp only [dropP, strs_len, strs_elem, ints_len, ints_elem, items_list, fld_agg, elem_list, toStr_sc, toInt_sc, toBool_sc, headD_one, nat_int, get_bt, decide_eq_true_eq, decide_eq_false_iff_not, decide_true, decide_false, if_true, if_false, ite_self, Bool.not_true, Bool.not_false, Bool.false_eq_true, Bool.true_eq_false, Bool.true_and, Bool.false_and, Bool.and_true, Bool.and_false, not_true, not_false_iff, Option.bind_some, nn, toList_inj, Bool.not_eq_true', Bool.not_eq_false', Int.le_refl, and_self, true_and, and_true, false_and, and_false, bne_self_eq_false, beq_self_eq_true, Int.reduceEq, Nat.reduceEqDiff, List.length_singleton, List.tail_cons, Int.reduceLE, Int.reduceLT, decide_eq_true_eq]
  refine Ev.bind (mdTexts_ev _ (by omega)) ?_
  cases hok : (dropM own s).2 with
  | false =>
    simp only [strs_len, strs_elem, ints_len, ints_elem, items_list, fld_agg, elem_list, toStr_sc, toInt_sc, toBool_sc, headD_one, nat_int, get_bt, decide_eq_true_eq, decide_eq_false_iff_not, decide_true, decide_false, if_true, if_false, ite_self, Bool.not_true, Bool.not_false, Bool.false_eq_true, Bool.true_eq_false, Bool.true_and, Bool.false_and, Bool.and_true, Bool.and_false, not_true, not_false_iff, Option.bind_some, nn, toList_inj, Bool.not_eq_true', Bool.not_eq_false', Int.le_refl, and_self, true_and, and_true, false_and, and_false, bne_self_eq_false, beq_self_eq_true, Int.reduceEq, Nat.reduceEqDiff, List.length_singleton, List.tail_cons, Int.reduceLE, Int.reduceLT, decide_eq_true_eq]
    refine Ev.bind (mdTexts_ev _ (by omega)) ?_
    exact Ev.now _
  | true =>
    have hw : wordsM own 10 = true := by
      refine Classical.byContradiction fun hn => ?_
      unfold dropM at hok
      rw [if_neg hn] at hok
      cases hok
    have hx : (dropM own s).1 = own.filter fun x => decide (x ≠ s) := by unfold dropM; rw [if_pos hw]
    have hlt : (own.filter fun x => decide (x ≠ s)).length < own.length := by
      unfold dropM at hok
      rw [if_pos hw] at hok
      have h2 := of_decide_eq_true hok
      omega
    have hasc := wordsM_pair hw
    have hmem : s ∈ own := Classical.byContradiction fun hm => by
      have : own.filter (fun x => decide (x ≠ s)) = own := List.filter_eq_self.2 (fun x hx => by
        have : x ≠ s := fun e => hm (e ▸ hx)
        simpa using this)
      rw [this] at hlt; omega
    have hnm : s ∉ own.filter fun x => decide (x ≠ s) := by simp
    have hins := ins_drop hasc hmem
    have hlen : (own.filter fun x => decide (x ≠ s)).length + 1 = own.length := by
      have := insM_new hnm
      rw [hins] at this
      omega
    have hwx : wordsM (own.filter fun x => decide (x ≠ s)) 10 = true := by
      rw [wordsM_iff] at hw ⊢
      exact ⟨⟨fun c hc => hw.1.1 c (List.mem_filter.1 hc).1, filter_asc hw.1.2⟩, by omega⟩
    have hadd := implAdd_ev (own.filter fun x => decide (x ≠ s)) s (by omega) (fun x hx => hs x (List.mem_filter.1 hx).1) (by omega)
    rw [if_pos hwx, hins, if_pos hw] at hadd
    rw [hx]
    have w1 : IntKind.i64.wrap ((((own.filter fun x => decide (x ≠ s)).length : Nat) : Int) + 1) = (own.length : Int) := by
      rw [wrap_id (by omega) (by omega)]; omega
    have m2 : (s ∈ own.filter fun x => decide (x ≠ s)) = False := eq_false hnm
    simp only [strs_len, strs_elem, ints_len, ints_elem, items_list, fld_agg, elem_list, toStr_sc, toInt_sc, toBool_sc, headD_one, nat_int, get_bt, decide_eq_true_eq, decide_eq_false_iff_not, decide_true, decide_false, if_true, if_false, ite_self, Bool.not_true, Bool.not_false, Bool.false_eq_true, Bool.true_eq_false, Bool.true_and, Bool.false_and, Bool.and_true, Bool.and_false, not_true, not_false_iff, Option.bind_some, nn, toList_inj, Bool.not_eq_true', Bool.not_eq_false', Int.le_refl, and_self, true_and, and_true, false_and, and_false, bne_self_eq_false, beq_self_eq_true, Int.reduceEq, Nat.reduceEqDiff, List.length_singleton, List.tail_cons, Int.reduceLE, Int.reduceLT, decide_eq_true_eq]
    refine Ev.bind hadd ?_
    refine Ev.bind (mdHas_ev _ s (by omega)) ?_
    simp only [m2, w1, strs_len, strs_elem, ints_len, ints_elem, items_list, fld_agg, elem_list, toStr_sc, toInt_sc, toBool_sc, headD_one, nat_int, get_bt, decide_eq_true_eq, decide_eq_false_iff_not, decide_true, decide_false, if_true, if_false, ite_self, Bool.not_true, Bool.not_false, Bool.false_eq_true, Bool.true_eq_false, Bool.true_and, Bool.false_and, Bool.and_true, Bool.and_false, not_true, not_false_iff, Option.bind_some, nn, toList_inj, Bool.not_eq_true', Bool.not_eq_false', Int.le_refl, and_self, true_and, and_true, false_and, and_false, bne_self_eq_false, beq_self_eq_true, Int.reduceEq, Nat.reduceEqDiff, List.length_singleton, List.tail_cons, Int.reduceLE, Int.reduceLT, decide_eq_true_eq]
    refine Ev.bind (mdTexts_ev own (by omega)) ?_
    exact Ev.now _
end Go.Proofs.Ytpnbhcifhbnaaaa.FnUserDrop
