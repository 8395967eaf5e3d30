/- The law FnRingNew, over the trees that its functions compute: it answers true, for all arguments of the bounds that the row grants. -/
import Derived.Test.YtbmpmkklopbejaaFnFnRingNewx1
set_option linter.unusedVariables false
set_option linter.unusedSimpArgs false
set_option maxRecDepth 10000
namespace Go.Proofs.Ytbmpmkklopbejaa.FnRingNew
open Go Go.Proofs.YtbmpmkklopbejaaAm
/-! #### the reader of a code -/
def rdP (b : PV) (p : Int) : PV := .agg [b, intP p]
theorem rd_f0 (b : PV) (p : Int) : (rdP b p).fld 0 = b := rfl
theorem rd_f1 (b : PV) (p : Int) : (rdP b p).fld 1 = intP p := rfl
theorem rd_agg (b : PV) (p : Int) : PV.agg [b, PV.sc (.int .i64 p)] = rdP b p := rfl
/-- A code: so many bytes. -/
structure Code1 (b : PV) : Prop where
  len : b.items.length ≤ 2000
  byte : ∀ j, 0 ≤ (b.elem j).toInt ∧ (b.elem j).toInt ≤ 255
theorem bXor_pos {a b : Int} (ha : 0 ≤ a ∧ a < 9223372036854775808) (hb : 0 ≤ b ∧ b < 9223372036854775808) : 0 ≤ bXor .i64 a b := by
  obtain ⟨x, rfl⟩ := Int.eq_ofNat_of_zero_le ha.1
  obtain ⟨y, rfl⟩ := Int.eq_ofNat_of_zero_le hb.1
  have hx : x < 2 ^ 63 := by omega
  have hy : y < 2 ^ 63 := by omega
  have h : (BitVec.ofInt (IntKind.bits .i64) (x : Int) ^^^ BitVec.ofInt (IntKind.bits .i64) (y : Int)).toNat = x ^^^ y := by
    rw [BitVec.toNat_xor, BitVec.toNat_ofInt, BitVec.toNat_ofInt]
    have hx2 : ((x : Int) % ((2 ^ IntKind.i64.bits : Nat) : Int)).toNat = x := by
      have : ((2 ^ IntKind.i64.bits : Nat) : Int) = 18446744073709551616 := rfl
      rw [this]; omega
    have hy2 : ((y : Int) % ((2 ^ IntKind.i64.bits : Nat) : Int)).toNat = y := by
      have : ((2 ^ IntKind.i64.bits : Nat) : Int) = 18446744073709551616 := rfl
      rw [this]; omega
    rw [hx2, hy2]
  have hlt : x ^^^ y < 2 ^ 63 := Nat.xor_lt_two_pow hx hy
  unfold bXor
  rw [h, wrap_id (by omega) (by omega)]
  omega
theorem tmod_in {x n : Int} (hx : 0 ≤ x) (hn : 1 ≤ n) : 0 ≤ Int.tmod x n ∧ Int.tmod x n < n := by
  rw [Int.tmod_eq_emod_of_nonneg hx]
  exact ⟨Int.emod_nonneg _ (by omega), Int.emod_lt_of_pos _ (by omega)⟩
theorem tdiv_in {x n : Int} (hx : 0 ≤ x) (hn : 1 ≤ n) : 0 ≤ Int.tdiv x n ∧ Int.tdiv x n ≤ x := by
  rw [Int.tdiv_eq_ediv_of_nonneg hx]
  exact ⟨Int.ediv_nonneg hx (by omega), Int.ediv_le_self _ hx⟩
theorem pick_ev {b : PV} (hb : Code1 b) {p n : Int} (hp : 0 ≤ p ∧ p < 1000000000) (hn : 1 ≤ n ∧ n < 4611686018427387904) : ∃ k, (0 ≤ k ∧ k < n) ∧ ∀ N, spec_l1Rd_pick.f N [rdP b p, intP n] = some [intP k, rdP b (p + 1)] := by
  have hlen := hb.len
  have h0 : ¬ n < 1 := by omega
  have h00 : ¬ n = 0 := by omega
  have w1 : IntKind.i64.wrap (p + 1) = p + 1 := wrap_id (by omega) (by omega)
  have w2 : IntKind.i64.wrap (p + 1 - 1) = p := by rw [wrap_id (by omega) (by omega)]; omega
  by_cases hz : (b.items.length : Int) = 0
  · refine ⟨0, by omega, fun N => ?_⟩
    simp only [spec_l1Rd_pick.f_eq, rd_f0, rd_f1, h0, hz, w1, strs_len, strs_elem, ints_len, ints_elem, items_list, fld_agg, elem_list, toStr_sc, toInt_sc, toBool_sc, headD_one, nat_int, get_bt, decide_eq_true_eq, decide_eq_false_iff_not, decide_true, decide_false, if_true, if_false, ite_self, Bool.not_true, Bool.not_false, Bool.false_eq_true, Bool.true_eq_false, Bool.true_and, Bool.false_and, Bool.and_true, Bool.and_false, not_true, not_false_iff, Option.bind_some, nn, toList_inj, Bool.not_eq_true', Bool.not_eq_false', Int.le_refl, and_self, true_and, and_true, false_and, and_false, bne_self_eq_false, beq_self_eq_true, List.tail_cons, Int.reduceLE, Int.reduceLT, decide_eq_true_eq]
    rfl
  by_cases hlt : p < (b.items.length : Int)
  · have hby := hb.byte p.toNat
    have w3 : IntKind.i64.wrap ((b.elem p.toNat).toInt) = (b.elem p.toNat).toInt := wrap_id (by omega) (by omega)
    refine ⟨Int.tmod ((b.elem p.toNat).toInt) n, tmod_in hby.1 hn.1, fun N => ?_⟩
    simp only [spec_l1Rd_pick.f_eq, rd_f0, rd_f1, h0, h00, hz, hlt, hp.1, w1, w2, w3, strs_len, strs_elem, ints_len, ints_elem, items_list, fld_agg, elem_list, toStr_sc, toInt_sc, toBool_sc, headD_one, nat_int, get_bt, decide_eq_true_eq, decide_eq_false_iff_not, decide_true, decide_false, if_true, if_false, ite_self, Bool.not_true, Bool.not_false, Bool.false_eq_true, Bool.true_eq_false, Bool.true_and, Bool.false_and, Bool.and_true, Bool.and_false, not_true, not_false_iff, Option.bind_some, nn, toList_inj, Bool.not_eq_true', Bool.not_eq_false', Int.le_refl, and_self, true_and, and_true, false_and, and_false, bne_self_eq_false, beq_self_eq_true, List.tail_cons, Int.reduceLE, Int.reduceLT, decide_eq_true_eq]
    rfl
  · have hm : 1 ≤ (b.items.length : Int) := by omega
    have w4 : IntKind.i64.wrap (p * 7) = p * 7 := wrap_id (by omega) (by omega)
    have w5 : IntKind.i64.wrap (p * 7 + 3) = p * 7 + 3 := wrap_id (by omega) (by omega)
    have w6 : IntKind.i64.wrap (p * 29) = p * 29 := wrap_id (by omega) (by omega)
    have m1 := tmod_in (x := p) hp.1 hm
    have m2 := tmod_in (x := p * 7 + 3) (by omega) hm
    have q1 := tdiv_in (x := p) hp.1 hm
    have w7 : IntKind.i64.wrap (Int.tdiv p (b.items.length : Int)) = Int.tdiv p (b.items.length : Int) := wrap_id (by omega) (by omega)
    have w8 : IntKind.i64.wrap (Int.tdiv p (b.items.length : Int) * 53) = Int.tdiv p (b.items.length : Int) * 53 := wrap_id (by omega) (by omega)
    have e1 := hb.byte (Int.tmod p (b.items.length : Int)).toNat
    have e2 := hb.byte (Int.tmod (p * 7 + 3) (b.items.length : Int)).toNat
    have z64 : ((64 : Int) = 0) = False := by simp
    simp only [spec_l1Rd_pick.f_eq, rd_f0, rd_f1, h0, h00, hz, hlt, hp.1, w1, w2, w4, w5, w6, w7, w8, m1, m2, z64, strs_len, strs_elem, ints_len, ints_elem, items_list, fld_agg, elem_list, toStr_sc, toInt_sc, toBool_sc, headD_one, nat_int, get_bt, decide_eq_true_eq, decide_eq_false_iff_not, decide_true, decide_false, if_true, if_false, ite_self, Bool.not_true, Bool.not_false, Bool.false_eq_true, Bool.true_eq_false, Bool.true_and, Bool.false_and, Bool.and_true, Bool.and_false, not_true, not_false_iff, Option.bind_some, nn, toList_inj, Bool.not_eq_true', Bool.not_eq_false', Int.le_refl, and_self, true_and, and_true, false_and, and_false, bne_self_eq_false, beq_self_eq_true, List.tail_cons, Int.reduceLE, Int.reduceLT, decide_eq_true_eq]
    generalize (b.elem (Int.tmod p (b.items.length : Int)).toNat).toInt = x1 at e1 ⊢
    generalize (b.elem (Int.tmod (p * 7 + 3) (b.items.length : Int)).toNat).toInt = x2 at e2 ⊢
    generalize Int.tdiv p (b.items.length : Int) = d at q1 ⊢
    have v1 : IntKind.i64.wrap x1 = x1 := wrap_id (by omega) (by omega)
    have v2 : IntKind.i64.wrap x2 = x2 := wrap_id (by omega) (by omega)
    have v3 : IntKind.i64.wrap (x1 * 131) = x1 * 131 := wrap_id (by omega) (by omega)
    have v4 : IntKind.i64.wrap (x2 * 1117) = x2 * 1117 := wrap_id (by omega) (by omega)
    have v5 : IntKind.i64.wrap (x1 * 131 + x2 * 1117) = x1 * 131 + x2 * 1117 := wrap_id (by omega) (by omega)
    have v6 : IntKind.i64.wrap (x1 * 131 + x2 * 1117 + p * 29) = x1 * 131 + x2 * 1117 + p * 29 := wrap_id (by omega) (by omega)
    have v7 : IntKind.i64.wrap (x1 * 131 + x2 * 1117 + p * 29 + d * 53) = x1 * 131 + x2 * 1117 + p * 29 + d * 53 := wrap_id (by omega) (by omega)
    simp only [v1, v2, v3, v4, v5, v6, v7]
    generalize hy : x1 * 131 + x2 * 1117 + p * 29 + d * 53 = y
    have hyb : 0 ≤ y ∧ y < 1000000000000 := by omega
    have q2 := tdiv_in (x := y) (n := 64) hyb.1 (by omega)
    have v8 : IntKind.i64.wrap (Int.tdiv y 64) = Int.tdiv y 64 := wrap_id (by omega) (by omega)
    rw [v8]
    exact ⟨Int.tmod (bXor .i64 y (Int.tdiv y 64)) n, tmod_in (bXor_pos (by omega) (by omega)) hn.1, fun N => rfl⟩
theorem of_ev {b : PV} (hb : Code1 b) {p : Int} (hp : 0 ≤ p ∧ p < 1000000000) (l : List ByteArray) (hl : 1 ≤ l.length ∧ l.length < 4611686018427387904) : ∃ s ∈ l, ∀ N, spec_l1Rd_of.f N [rdP b p, strsP l] = some [strP s, rdP b (p + 1)] := by
  obtain ⟨k, hk, hf⟩ := pick_ev hb hp (n := (l.length : Int)) (by omega)
  obtain ⟨j, rfl⟩ := Int.eq_ofNat_of_zero_le hk.1
  have hj : j < l.length := by omega
  refine ⟨l.getD j ByteArray.empty, ?_, fun N => ?_⟩
  · rw [List.getD_eq_getElem?_getD, List.getElem?_eq_getElem hj]; exact List.getElem_mem hj
  · simp only [spec_l1Rd_of.f_eq, rd_f0, rd_f1, rd_agg, hf, hk, strs_len, strs_elem, ints_len, ints_elem, items_list, fld_agg, elem_list, toStr_sc, toInt_sc, toBool_sc, headD_one, nat_int, get_bt, decide_eq_true_eq, decide_eq_false_iff_not, decide_true, decide_false, if_true, if_false, ite_self, Bool.not_true, Bool.not_false, Bool.false_eq_true, Bool.true_eq_false, Bool.true_and, Bool.false_and, Bool.and_true, Bool.and_false, not_true, not_false_iff, Option.bind_some, nn, toList_inj, Bool.not_eq_true', Bool.not_eq_false', Int.le_refl, and_self, true_and, and_true, false_and, and_false, bne_self_eq_false, beq_self_eq_true, List.tail_cons, Int.reduceLE, Int.reduceLT, decide_eq_true_eq]
theorem open_ev {l : List PV} (hl : l.length ≤ 1048576) (hby : ∀ j, 0 ≤ ((PV.list l).elem j).toInt ∧ ((PV.list l).elem j).toInt ≤ 255) : ∃ b, Code1 b ∧ ∀ N, spec_l1Open.f N [PV.list l] = some [rdP b 0] := by
  by_cases h : (2000 : Int) < (l.length : Int)
  · refine ⟨PV.list (l.take 2000), ⟨by simp [PV.items]; omega, fun j => ?_⟩, fun N => ?_⟩
    · rw [elem_list, List.getD_eq_getElem?_getD, List.getElem?_take]
      have := hby j
      rw [elem_list, List.getD_eq_getElem?_getD] at this
      split
      · exact this
      · exact ⟨Int.le_refl _, by decide⟩
    · have h2 : (2000 : Int) ≤ (l.length : Int) := by omega
      simp only [spec_l1Open.f_eq, h, h2, strs_len, strs_elem, ints_len, ints_elem, items_list, fld_agg, elem_list, toStr_sc, toInt_sc, toBool_sc, headD_one, nat_int, get_bt, decide_eq_true_eq, decide_eq_false_iff_not, decide_true, decide_false, if_true, if_false, ite_self, Bool.not_true, Bool.not_false, Bool.false_eq_true, Bool.true_eq_false, Bool.true_and, Bool.false_and, Bool.and_true, Bool.and_false, not_true, not_false_iff, Option.bind_some, nn, toList_inj, Bool.not_eq_true', Bool.not_eq_false', Int.le_refl, and_self, true_and, and_true, false_and, and_false, bne_self_eq_false, beq_self_eq_true, List.tail_cons, Int.reduceLE, Int.reduceLT, decide_eq_true_eq]
      rfl
  · refine ⟨PV.list l, ⟨by simp [PV.items]; omega, hby⟩, fun N => ?_⟩
    simp only [spec_l1Open.f_eq, h, strs_len, strs_elem, ints_len, ints_elem, items_list, fld_agg, elem_list, toStr_sc, toInt_sc, toBool_sc, headD_one, nat_int, get_bt, decide_eq_true_eq, decide_eq_false_iff_not, decide_true, decide_false, if_true, if_false, ite_self, Bool.not_true, Bool.not_false, Bool.false_eq_true, Bool.true_eq_false, Bool.true_and, Bool.false_and, Bool.and_true, Bool.and_false, not_true, not_false_iff, Option.bind_some, nn, toList_inj, Bool.not_eq_true', Bool.not_eq_false', Int.le_refl, and_self, true_and, and_true, false_and, and_false, bne_self_eq_false, beq_self_eq_true, List.tail_cons, Int.reduceLE, Int.reduceLT, decide_eq_true_eq]
    rfl
theorem code_args {P : Program} {t e : TypeId} (ht : tk P t = .slice e) (he : tk P e = .int .u8) {ps : List PV} (h : PvOkL (PvOk P 8) [t] ps) : ∃ l, ps = [PV.list l] ∧ ∀ j, 0 ≤ ((PV.list l).elem j).toInt ∧ ((PV.list l).elem j).toInt ≤ 255 := by
  obtain ⟨p, rfl, h1⟩ := pvOkL1 h
  obtain ⟨l, rfl, _, h3⟩ := pvOk_slice ht h1
  refine ⟨l, rfl, fun j => ?_⟩
  rw [elem_list, List.getD_eq_getElem?_getD]
  cases hj : l[j]? with
  | none => exact ⟨Int.le_refl _, by decide⟩
  | some q =>
    obtain ⟨x, rfl, hx⟩ := pvOk_int he (h3 q (List.mem_of_getElem? hj))
    simp [Lit.wf, IntKind.min, IntKind.max, IntKind.signed, IntKind.bits] at hx
    simp [PV.toInt]; omega
theorem many_loop (B : Nat) (hB : B ≤ 1099511627776) : ∀ (n k : Nat) (x t : ByteArray), k ≤ n → k ≤ 4611686018427387904 → x.size * k + t.size ≤ B → x.size ≤ B → ∃ r, Ev2 (fun N m => spec_l1Many.l0 N m x (k : Int) t) [strP r] ∧ r.size ≤ B := by
  intro n
  induction n with
  | zero =>
    intro k x t hk _ hs _
    obtain rfl : k = 0 := by omega
    refine ⟨t, Ev2.succ ?_, by omega⟩
    have h0 : ¬ (0 : Int) < ((0 : Nat) : Int) := by omega
    simp only [spec_l1Many.l0_eq, h0, strs_len, strs_elem, ints_len, ints_elem, items_list, fld_agg, elem_list, toStr_sc, toInt_sc, toBool_sc, headD_one, nat_int, get_bt, decide_eq_true_eq, decide_eq_false_iff_not, decide_true, decide_false, if_true, if_false, ite_self, Bool.not_true, Bool.not_false, Bool.false_eq_true, Bool.true_eq_false, Bool.true_and, Bool.false_and, Bool.and_true, Bool.and_false, not_true, not_false_iff, Option.bind_some, nn, toList_inj, Bool.not_eq_true', Bool.not_eq_false', Int.le_refl, and_self, true_and, and_true, false_and, and_false, bne_self_eq_false, beq_self_eq_true, List.tail_cons, Int.reduceLE, Int.reduceLT, decide_eq_true_eq]
    exact Ev2.now _
  | succ n ih =>
    intro k x t hk hk2 hs hx
    by_cases h0 : k = 0
    · subst h0
      refine ⟨t, Ev2.succ ?_, by omega⟩
      have h0 : ¬ (0 : Int) < ((0 : Nat) : Int) := by omega
      simp only [spec_l1Many.l0_eq, h0, strs_len, strs_elem, ints_len, ints_elem, items_list, fld_agg, elem_list, toStr_sc, toInt_sc, toBool_sc, headD_one, nat_int, get_bt, decide_eq_true_eq, decide_eq_false_iff_not, decide_true, decide_false, if_true, if_false, ite_self, Bool.not_true, Bool.not_false, Bool.false_eq_true, Bool.true_eq_false, Bool.true_and, Bool.false_and, Bool.and_true, Bool.and_false, not_true, not_false_iff, Option.bind_some, nn, toList_inj, Bool.not_eq_true', Bool.not_eq_false', Int.le_refl, and_self, true_and, and_true, false_and, and_false, bne_self_eq_false, beq_self_eq_true, List.tail_cons, Int.reduceLE, Int.reduceLT, decide_eq_true_eq]
      exact Ev2.now _
    have hpos : (0 : Int) < (k : Int) := by omega
    have two : ((2 : Int) = 0) = False := by simp
    have hd : IntKind.i64.wrap (Int.tdiv (k : Int) 2) = ((k / 2 : Nat) : Int) := by
      rw [Int.tdiv_eq_ediv_of_nonneg (by omega), wrap_id (by omega) (by omega)]; omega
    have hm : Int.tmod (k : Int) 2 = ((k % 2 : Nat) : Int) := by rw [Int.tmod_eq_emod_of_nonneg (by omega)]; omega
    have hmul : x.size * k = (x.size + x.size) * (k / 2) + x.size * (k % 2) := by
      have h1 : k = 2 * (k / 2) + k % 2 := by omega
      calc x.size * k = x.size * (2 * (k / 2) + k % 2) := by rw [← h1]
        _ = (x.size + x.size) * (k / 2) + x.size * (k % 2) := by rw [Nat.mul_add, ← Nat.mul_assoc, Nat.mul_comm x.size 2, Nat.two_mul]
    have hxx : x.size + x.size ≤ 9223372036854775807 := by omega
    by_cases h1 : k % 2 = 1
    · rw [h1, Nat.mul_one] at hmul
      have htx : t.size + x.size ≤ 9223372036854775807 := by omega
      by_cases hk1 : k / 2 = 0
      · refine ⟨t ++ x, Ev2.succ ?_, by rw [ByteArray.size_append]; omega⟩
        have hi : ((k % 2 : Nat) : Int) = 1 := by omega
        simp only [spec_l1Many.l0_eq, hpos, two, hd, hm, hi, htx, hxx, hk1, strs_len, strs_elem, ints_len, ints_elem, items_list, fld_agg, elem_list, toStr_sc, toInt_sc, toBool_sc, headD_one, nat_int, get_bt, decide_eq_true_eq, decide_eq_false_iff_not, decide_true, decide_false, if_true, if_false, ite_self, Bool.not_true, Bool.not_false, Bool.false_eq_true, Bool.true_eq_false, Bool.true_and, Bool.false_and, Bool.and_true, Bool.and_false, not_true, not_false_iff, Option.bind_some, nn, toList_inj, Bool.not_eq_true', Bool.not_eq_false', Int.le_refl, and_self, true_and, and_true, false_and, and_false, bne_self_eq_false, beq_self_eq_true, List.tail_cons, Int.reduceLE, Int.reduceLT, decide_eq_true_eq]
        refine Ev2.succ ?_
        have h0 : ¬ (0 : Int) < ((0 : Nat) : Int) := by omega
        simp only [spec_l1Many.l0_eq, h0, strs_len, strs_elem, ints_len, ints_elem, items_list, fld_agg, elem_list, toStr_sc, toInt_sc, toBool_sc, headD_one, nat_int, get_bt, decide_eq_true_eq, decide_eq_false_iff_not, decide_true, decide_false, if_true, if_false, ite_self, Bool.not_true, Bool.not_false, Bool.false_eq_true, Bool.true_eq_false, Bool.true_and, Bool.false_and, Bool.and_true, Bool.and_false, not_true, not_false_iff, Option.bind_some, nn, toList_inj, Bool.not_eq_true', Bool.not_eq_false', Int.le_refl, and_self, true_and, and_true, false_and, and_false, bne_self_eq_false, beq_self_eq_true, List.tail_cons, Int.reduceLE, Int.reduceLT, decide_eq_true_eq]
        exact Ev2.now _
      · have hle : x.size + x.size ≤ (x.size + x.size) * (k / 2) := Nat.le_mul_of_pos_right _ (by omega)
        obtain ⟨r, hr, hrs⟩ := ih (k / 2) (x ++ x) (t ++ x) (by omega) (by omega) (by rw [ByteArray.size_append, ByteArray.size_append]; omega) (by rw [ByteArray.size_append]; omega)
        refine ⟨r, Ev2.succ ?_, hrs⟩
        have hi : ((k % 2 : Nat) : Int) = 1 := by omega
        simp only [spec_l1Many.l0_eq, hpos, two, hd, hm, hi, htx, hxx, strs_len, strs_elem, ints_len, ints_elem, items_list, fld_agg, elem_list, toStr_sc, toInt_sc, toBool_sc, headD_one, nat_int, get_bt, decide_eq_true_eq, decide_eq_false_iff_not, decide_true, decide_false, if_true, if_false, ite_self, Bool.not_true, Bool.not_false, Bool.false_eq_true, Bool.true_eq_false, Bool.true_and, Bool.false_and, Bool.and_true, Bool.and_false, not_true, not_false_iff, Option.bind_some, nn, toList_inj, Bool.not_eq_true', Bool.not_eq_false', Int.le_refl, and_self, true_and, and_true, false_and, and_false, bne_self_eq_false, beq_self_eq_true, List.tail_cons, Int.reduceLE, Int.reduceLT, decide_eq_true_eq]
        exact hr
    · have h2 : k % 2 = 0 := by omega
      rw [h2, Nat.mul_zero] at hmul
      have hle : x.size + x.size ≤ (x.size + x.size) * (k / 2) := Nat.le_mul_of_pos_right _ (by omega)
      obtain ⟨r, hr, hrs⟩ := ih (k / 2) (x ++ x) t (by omega) (by omega) (by rw [ByteArray.size_append]; omega) (by rw [ByteArray.size_append]; omega)
      refine ⟨r, Ev2.succ ?_, hrs⟩
      have hi : ¬ ((k % 2 : Nat) : Int) = 1 := by omega
      simp only [spec_l1Many.l0_eq, hpos, two, hd, hm, hi, hxx, strs_len, strs_elem, ints_len, ints_elem, items_list, fld_agg, elem_list, toStr_sc, toInt_sc, toBool_sc, headD_one, nat_int, get_bt, decide_eq_true_eq, decide_eq_false_iff_not, decide_true, decide_false, if_true, if_false, ite_self, Bool.not_true, Bool.not_false, Bool.false_eq_true, Bool.true_eq_false, Bool.true_and, Bool.false_and, Bool.and_true, Bool.and_false, not_true, not_false_iff, Option.bind_some, nn, toList_inj, Bool.not_eq_true', Bool.not_eq_false', Int.le_refl, and_self, true_and, and_true, false_and, and_false, bne_self_eq_false, beq_self_eq_true, List.tail_cons, Int.reduceLE, Int.reduceLT, decide_eq_true_eq]
      exact hr
theorem many_ev (x : ByteArray) (k : Nat) (hk : k ≤ 4611686018427387904) (h : x.size * k ≤ 1099511627776) (hx : x.size ≤ 1099511627776) : ∃ r, Ev (fun N => spec_l1Many.f N [strP x, intP (k : Int)]) [strP r] ∧ r.size ≤ 1099511627776 := by
  obtain ⟨r, hr, hs⟩ := many_loop 1099511627776 (Nat.le_refl _) k k x (ByteArray.mk #[]) (Nat.le_refl _) hk (by have : (ByteArray.mk #[]).size = 0 := rfl; omega) hx
  refine ⟨r, ?_, hs⟩
  simp only [spec_l1Many.f_eq, strs_len, strs_elem, ints_len, ints_elem, items_list, fld_agg, elem_list, toStr_sc, toInt_sc, toBool_sc, headD_one, nat_int, get_bt, decide_eq_true_eq, decide_eq_false_iff_not, decide_true, decide_false, if_true, if_false, ite_self, Bool.not_true, Bool.not_false, Bool.false_eq_true, Bool.true_eq_false, Bool.true_and, Bool.false_and, Bool.and_true, Bool.and_false, not_true, not_false_iff, Option.bind_some, nn, toList_inj, Bool.not_eq_true', Bool.not_eq_false', Int.le_refl, and_self, true_and, and_true, false_and, and_false, bne_self_eq_false, beq_self_eq_true, List.tail_cons, Int.reduceLE, Int.reduceLT, decide_eq_true_eq]
  exact hr.diag
theorem drawNew_ev {l : List PV} (hl : l.length ≤ 1048576) (hby : ∀ j, 0 ≤ ((PV.list l).elem j).toInt ∧ ((PV.list l).elem j).toInt ≤ 255) : ∃ s : ByteArray, s.size ≤ 1099511627776 ∧ Ev (fun N => spec_DrawClientNew.f N [PV.list l]) [strP s] := by
  obtain ⟨b, hb, ho⟩ := open_ev hl hby
  have k1 : (ByteArray.mk #[107]).size = 1 := rfl
  obtain ⟨r, hr, hrs⟩ := many_ev (ByteArray.mk #[107]) 65 (by omega) (by omega) (by omega)
  obtain ⟨s, hs, hf⟩ := of_ev hb (p := 0) (by omega) [ByteArray.mk #[107, 101, 121], ByteArray.mk #[], ByteArray.mk #[107], r] (by simp)
  refine ⟨s, ?_, ?_⟩
  · simp only [List.mem_cons, List.not_mem_nil, or_false] at hs
    rcases hs with rfl | rfl | rfl | rfl
    · have : (ByteArray.mk #[107, 101, 121]).size = 3 := rfl
      omega
    · have : (ByteArray.mk #[]).size = 0 := rfl
      omega
    · omega
    · exact hrs
  · simp only [spec_DrawClientNew.f_eq, ho, rd_f0, rd_f1, rd_agg, strs_len, strs_elem, ints_len, ints_elem, items_list, fld_agg, elem_list, toStr_sc, toInt_sc, toBool_sc, headD_one, nat_int, get_bt, decide_eq_true_eq, decide_eq_false_iff_not, decide_true, decide_false, if_true, if_false, ite_self, Bool.not_true, Bool.not_false, Bool.false_eq_true, Bool.true_eq_false, Bool.true_and, Bool.false_and, Bool.and_true, Bool.and_false, not_true, not_false_iff, Option.bind_some, nn, toList_inj, Bool.not_eq_true', Bool.not_eq_false', Int.le_refl, and_self, true_and, and_true, false_and, and_false, bne_self_eq_false, beq_self_eq_true, List.tail_cons, Int.reduceLE, Int.reduceLT, decide_eq_true_eq]
    refine Ev.bind hr ?_
    have hp : PV.list [PV.sc (.string (ByteArray.mk #[107, 101, 121])), PV.sc (.string (ByteArray.mk #[])), PV.sc (.string (ByteArray.mk #[107])), PV.sc (.string r)] = strsP [ByteArray.mk #[107, 101, 121], ByteArray.mk #[], ByteArray.mk #[107], r] := rfl
    simp only [hp, hf, strs_len, strs_elem, ints_len, ints_elem, items_list, fld_agg, elem_list, toStr_sc, toInt_sc, toBool_sc, headD_one, nat_int, get_bt, decide_eq_true_eq, decide_eq_false_iff_not, decide_true, decide_false, if_true, if_false, ite_self, Bool.not_true, Bool.not_false, Bool.false_eq_true, Bool.true_eq_false, Bool.true_and, Bool.false_and, Bool.and_true, Bool.and_false, not_true, not_false_iff, Option.bind_some, nn, toList_inj, Bool.not_eq_true', Bool.not_eq_false', Int.le_refl, and_self, true_and, and_true, false_and, and_false, bne_self_eq_false, beq_self_eq_true, List.tail_cons, Int.reduceLE, Int.reduceLT, decide_eq_true_eq]
    exact Ev.now _
/-! #### keys -/
def keyM (a : ByteArray) : Bool := decide (1 ≤ a.size ∧ a.size ≤ 64) && !decide (bt a (a.size - 1) = 0)
theorem key_byte {a : ByteArray} (h1 : 1 ≤ a.size) (h2 : a.size ≤ 9223372036854775807) : IntKind.i64.wrap ((a.size : Int) - 1) = ((a.size - 1 : Nat) : Int) := by
  rw [wrap_id (by omega) (by omega)]; omega
theorem specIn_val (a b c : Int) (N : Nat) : spec_l1In.f N [.sc (.int .i64 a), .sc (.int .i64 b), .sc (.int .i64 c)] = some [boolP (decide (b ≤ a ∧ a ≤ c))] := by
  simp only [spec_l1In.f_eq, strs_len, strs_elem, ints_len, ints_elem, items_list, fld_agg, elem_list, toStr_sc, toInt_sc, toBool_sc, headD_one, nat_int, get_bt, decide_eq_true_eq, decide_eq_false_iff_not, decide_true, decide_false, if_true, if_false, ite_self, Bool.not_true, Bool.not_false, Bool.false_eq_true, Bool.true_eq_false, Bool.true_and, Bool.false_and, Bool.and_true, Bool.and_false, not_true, not_false_iff, Option.bind_some, nn, toList_inj, Bool.not_eq_true', Bool.not_eq_false', Int.le_refl, and_self, true_and, and_true, false_and, and_false, bne_self_eq_false, beq_self_eq_true, List.tail_cons, Int.reduceLE, Int.reduceLT, decide_eq_true_eq]
  by_cases h1 : b ≤ a <;> by_cases h2 : a ≤ c <;> simp only [h1, h2, strs_len, strs_elem, ints_len, ints_elem, items_list, fld_agg, elem_list, toStr_sc, toInt_sc, toBool_sc, headD_one, nat_int, get_bt, decide_eq_true_eq, decide_eq_false_iff_not, decide_true, decide_false, if_true, if_false, ite_self, Bool.not_true, Bool.not_false, Bool.false_eq_true, Bool.true_eq_false, Bool.true_and, Bool.false_and, Bool.and_true, Bool.and_false, not_true, not_false_iff, Option.bind_some, nn, toList_inj, Bool.not_eq_true', Bool.not_eq_false', Int.le_refl, and_self, true_and, and_true, false_and, and_false, bne_self_eq_false, beq_self_eq_true, List.tail_cons, Int.reduceLE, Int.reduceLT, decide_eq_true_eq]
theorem specKey_val (a : ByteArray) (ha : a.size ≤ 9223372036854775807) (N : Nat) : spec_l6Key.f N [strP a] = some [boolP (keyM a)] := by
  simp only [spec_l6Key.f_eq, specIn_val, strs_len, strs_elem, ints_len, ints_elem, items_list, fld_agg, elem_list, toStr_sc, toInt_sc, toBool_sc, headD_one, nat_int, get_bt, decide_eq_true_eq, decide_eq_false_iff_not, decide_true, decide_false, if_true, if_false, ite_self, Bool.not_true, Bool.not_false, Bool.false_eq_true, Bool.true_eq_false, Bool.true_and, Bool.false_and, Bool.and_true, Bool.and_false, not_true, not_false_iff, Option.bind_some, nn, toList_inj, Bool.not_eq_true', Bool.not_eq_false', Int.le_refl, and_self, true_and, and_true, false_and, and_false, bne_self_eq_false, beq_self_eq_true, List.tail_cons, Int.reduceLE, Int.reduceLT, decide_eq_true_eq, keyM]
  by_cases h1 : 1 ≤ a.size ∧ a.size ≤ 64
  · have e1 : (((a.size - 1 : Nat) : Int) < (a.size : Int)) = True := eq_true (by omega)
    simp only [h1, eq_true (show (1 : Int) ≤ a.size ∧ (a.size : Int) ≤ 64 by omega), key_byte h1.1 ha, e1, strs_len, strs_elem, ints_len, ints_elem, items_list, fld_agg, elem_list, toStr_sc, toInt_sc, toBool_sc, headD_one, nat_int, get_bt, decide_eq_true_eq, decide_eq_false_iff_not, decide_true, decide_false, if_true, if_false, ite_self, Bool.not_true, Bool.not_false, Bool.false_eq_true, Bool.true_eq_false, Bool.true_and, Bool.false_and, Bool.and_true, Bool.and_false, not_true, not_false_iff, Option.bind_some, nn, toList_inj, Bool.not_eq_true', Bool.not_eq_false', Int.le_refl, and_self, true_and, and_true, false_and, and_false, bne_self_eq_false, beq_self_eq_true, List.tail_cons, Int.reduceLE, Int.reduceLT, decide_eq_true_eq]
  · simp only [h1, eq_false (show ¬ ((1 : Int) ≤ a.size ∧ (a.size : Int) ≤ 64) by omega), strs_len, strs_elem, ints_len, ints_elem, items_list, fld_agg, elem_list, toStr_sc, toInt_sc, toBool_sc, headD_one, nat_int, get_bt, decide_eq_true_eq, decide_eq_false_iff_not, decide_true, decide_false, if_true, if_false, ite_self, Bool.not_true, Bool.not_false, Bool.false_eq_true, Bool.true_eq_false, Bool.true_and, Bool.false_and, Bool.and_true, Bool.and_false, not_true, not_false_iff, Option.bind_some, nn, toList_inj, Bool.not_eq_true', Bool.not_eq_false', Int.le_refl, and_self, true_and, and_true, false_and, and_false, bne_self_eq_false, beq_self_eq_true, List.tail_cons, Int.reduceLE, Int.reduceLT, decide_eq_true_eq]
theorem implWithin_val (a b c : Int) (N : Nat) : impl_within.f N [.sc (.int .i64 a), .sc (.int .i64 b), .sc (.int .i64 c)] = some [boolP (decide (b ≤ a ∧ a ≤ c))] := by
  simp only [impl_within.f_eq, strs_len, strs_elem, ints_len, ints_elem, items_list, fld_agg, elem_list, toStr_sc, toInt_sc, toBool_sc, headD_one, nat_int, get_bt, decide_eq_true_eq, decide_eq_false_iff_not, decide_true, decide_false, if_true, if_false, ite_self, Bool.not_true, Bool.not_false, Bool.false_eq_true, Bool.true_eq_false, Bool.true_and, Bool.false_and, Bool.and_true, Bool.and_false, not_true, not_false_iff, Option.bind_some, nn, toList_inj, Bool.not_eq_true', Bool.not_eq_false', Int.le_refl, and_self, true_and, and_true, false_and, and_false, bne_self_eq_false, beq_self_eq_true, List.tail_cons, Int.reduceLE, Int.reduceLT, decide_eq_true_eq]
  by_cases h1 : b ≤ a <;> by_cases h2 : a ≤ c <;> simp only [h1, h2, strs_len, strs_elem, ints_len, ints_elem, items_list, fld_agg, elem_list, toStr_sc, toInt_sc, toBool_sc, headD_one, nat_int, get_bt, decide_eq_true_eq, decide_eq_false_iff_not, decide_true, decide_false, if_true, if_false, ite_self, Bool.not_true, Bool.not_false, Bool.false_eq_true, Bool.true_eq_false, Bool.true_and, Bool.false_and, Bool.and_true, Bool.and_false, not_true, not_false_iff, Option.bind_some, nn, toList_inj, Bool.not_eq_true', Bool.not_eq_false', Int.le_refl, and_self, true_and, and_true, false_and, and_false, bne_self_eq_false, beq_self_eq_true, List.tail_cons, Int.reduceLE, Int.reduceLT, decide_eq_true_eq]
theorem implKey_val (a : ByteArray) (ha : a.size ≤ 9223372036854775807) (N : Nat) : impl_keyOk.f N [strP a] = some [boolP (keyM a)] := by
  simp only [impl_keyOk.f_eq, implWithin_val, strs_len, strs_elem, ints_len, ints_elem, items_list, fld_agg, elem_list, toStr_sc, toInt_sc, toBool_sc, headD_one, nat_int, get_bt, decide_eq_true_eq, decide_eq_false_iff_not, decide_true, decide_false, if_true, if_false, ite_self, Bool.not_true, Bool.not_false, Bool.false_eq_true, Bool.true_eq_false, Bool.true_and, Bool.false_and, Bool.and_true, Bool.and_false, not_true, not_false_iff, Option.bind_some, nn, toList_inj, Bool.not_eq_true', Bool.not_eq_false', Int.le_refl, and_self, true_and, and_true, false_and, and_false, bne_self_eq_false, beq_self_eq_true, List.tail_cons, Int.reduceLE, Int.reduceLT, decide_eq_true_eq, keyM]
  by_cases h1 : 1 ≤ a.size ∧ a.size ≤ 64
  · have e1 : (((a.size - 1 : Nat) : Int) < (a.size : Int)) = True := eq_true (by omega)
    simp only [h1, eq_true (show (1 : Int) ≤ a.size ∧ (a.size : Int) ≤ 64 by omega), key_byte h1.1 ha, e1, strs_len, strs_elem, ints_len, ints_elem, items_list, fld_agg, elem_list, toStr_sc, toInt_sc, toBool_sc, headD_one, nat_int, get_bt, decide_eq_true_eq, decide_eq_false_iff_not, decide_true, decide_false, if_true, if_false, ite_self, Bool.not_true, Bool.not_false, Bool.false_eq_true, Bool.true_eq_false, Bool.true_and, Bool.false_and, Bool.and_true, Bool.and_false, not_true, not_false_iff, Option.bind_some, nn, toList_inj, Bool.not_eq_true', Bool.not_eq_false', Int.le_refl, and_self, true_and, and_true, false_and, and_false, bne_self_eq_false, beq_self_eq_true, List.tail_cons, Int.reduceLE, Int.reduceLT, decide_eq_true_eq]
  · simp only [h1, eq_false (show ¬ ((1 : Int) ≤ a.size ∧ (a.size : Int) ≤ 64) by omega), strs_len, strs_elem, ints_len, ints_elem, items_list, fld_agg, elem_list, toStr_sc, toInt_sc, toBool_sc, headD_one, nat_int, get_bt, decide_eq_true_eq, decide_eq_false_iff_not, decide_true, decide_false, if_true, if_false, ite_self, Bool.not_true, Bool.not_false, Bool.false_eq_true, Bool.true_eq_false, Bool.true_and, Bool.false_and, Bool.and_true, Bool.and_false, not_true, not_false_iff, Option.bind_some, nn, toList_inj, Bool.not_eq_true', Bool.not_eq_false', Int.le_refl, and_self, true_and, and_true, false_and, and_false, bne_self_eq_false, beq_self_eq_true, List.tail_cons, Int.reduceLE, Int.reduceLT, decide_eq_true_eq]
/-! #### rings -/
def ringP (a : List ByteArray) (b : List Int) : PV := .agg [strsP a, intsP b]
theorem ring_f0 (a : List ByteArray) (b : List Int) : (ringP a b).fld 0 = strsP a := rfl
theorem ring_f1 (a : List ByteArray) (b : List Int) : (ringP a b).fld 1 = intsP b := rfl
theorem ring_agg (a : List ByteArray) (b : List Int) : PV.agg [strsP a, intsP b] = ringP a b := rfl
/-! #### rings that are ok -/
def keysM : List ByteArray → List ByteArray → Bool
  | _, [] => true
  | pre, c :: rest => keyM c && !decide (c ∈ pre) && keysM (pre ++ [c]) rest
def ascF : Option Int → List Int → Bool
  | _, [] => true
  | none, c :: rest => ascF (some c) rest
  | some q, c :: rest => decide (q < c) && decide (c ≤ 999999) && ascF (some c) rest
def tailM (ks : List ByteArray) (fs : List Int) : Bool := decide (1 ≤ ks.length ∧ ks.length ≤ 5) && (decide (fs.length = ks.length) && decide (fs.getD 0 0 = 1))
def ringM (ks : List ByteArray) (fs : List Int) : Bool := keysM [] ks && (ascF none fs && tailM ks fs)
def AheadI (pre : List Int) (p : Option Int) : Prop := (pre = [] ∧ p = none) ∨ ∃ pre' q, pre = pre' ++ [q] ∧ p = some q
theorem AheadI.next (pre : List Int) (c : Int) : AheadI (pre ++ [c]) (some c) := .inr ⟨pre, c, rfl, rfl⟩
theorem at_prevI {xs pre' rest : List Int} {q : Int} (hp : xs = (pre' ++ [q]) ++ rest) (hx : xs.length ≤ 9223372036854775807) :
    IntKind.i64.wrap (((pre' ++ [q]).length : Int) - 1) = (pre'.length : Int) ∧ (pre'.length : Int) < (xs.length : Int) ∧ xs.getD pre'.length 0 = q := by
  subst hp
  simp only [List.length_append, List.length_cons, List.length_nil] at hx ⊢
  refine ⟨?_, by omega, ?_⟩
  · rw [wrap_id (by omega) (by omega)]; omega
  · simp
theorem index_loop (a : List ByteArray) (c : ByteArray) (ha : a.length ≤ 9223372036854775807) : ∀ (rest pre : List ByteArray), a = pre ++ rest →
    ∃ r : Int, Ev2 (fun N n => slices_Index_string_string.l0 N n (strsP a) c (a.length : Int) (pre.length : Int)) [intP r] ∧ (0 ≤ r ↔ c ∈ rest) := by
  intro rest
  induction rest with
  | nil =>
    intro pre hp
    refine ⟨-1, Ev2.succ ?_, by simp⟩
    simp only [slices_Index_string_string.l0_eq, at_end hp, strs_len, strs_elem, ints_len, ints_elem, items_list, fld_agg, elem_list, toStr_sc, toInt_sc, toBool_sc, headD_one, nat_int, get_bt, decide_eq_true_eq, decide_eq_false_iff_not, decide_true, decide_false, if_true, if_false, ite_self, Bool.not_true, Bool.not_false, Bool.false_eq_true, Bool.true_eq_false, Bool.true_and, Bool.false_and, Bool.and_true, Bool.and_false, not_true, not_false_iff, Option.bind_some, nn, toList_inj, Bool.not_eq_true', Bool.not_eq_false', Int.le_refl, and_self, true_and, and_true, false_and, and_false, bne_self_eq_false, beq_self_eq_true, List.tail_cons, Int.reduceLE, Int.reduceLT, decide_eq_true_eq]
    exact Ev2.now _
  | cons x rest ih =>
    intro pre hp
    by_cases e : c = x
    · refine ⟨pre.length, Ev2.succ ?_, by simp [e]⟩
      simp only [slices_Index_string_string.l0_eq, at_lt hp, at_getD hp, e, strs_len, strs_elem, ints_len, ints_elem, items_list, fld_agg, elem_list, toStr_sc, toInt_sc, toBool_sc, headD_one, nat_int, get_bt, decide_eq_true_eq, decide_eq_false_iff_not, decide_true, decide_false, if_true, if_false, ite_self, Bool.not_true, Bool.not_false, Bool.false_eq_true, Bool.true_eq_false, Bool.true_and, Bool.false_and, Bool.and_true, Bool.and_false, not_true, not_false_iff, Option.bind_some, nn, toList_inj, Bool.not_eq_true', Bool.not_eq_false', Int.le_refl, and_self, true_and, and_true, false_and, and_false, bne_self_eq_false, beq_self_eq_true, List.tail_cons, Int.reduceLE, Int.reduceLT, decide_eq_true_eq]
      exact Ev2.now _
    · obtain ⟨r, hr, hv⟩ := ih _ (at_step hp)
      refine ⟨r, Ev2.succ ?_, by rw [hv]; simp [e]⟩
      simp only [slices_Index_string_string.l0_eq, at_lt hp, at_getD hp, e, at_next hp ha, strs_len, strs_elem, ints_len, ints_elem, items_list, fld_agg, elem_list, toStr_sc, toInt_sc, toBool_sc, headD_one, nat_int, get_bt, decide_eq_true_eq, decide_eq_false_iff_not, decide_true, decide_false, if_true, if_false, ite_self, Bool.not_true, Bool.not_false, Bool.false_eq_true, Bool.true_eq_false, Bool.true_and, Bool.false_and, Bool.and_true, Bool.and_false, not_true, not_false_iff, Option.bind_some, nn, toList_inj, Bool.not_eq_true', Bool.not_eq_false', Int.le_refl, and_self, true_and, and_true, false_and, and_false, bne_self_eq_false, beq_self_eq_true, List.tail_cons, Int.reduceLE, Int.reduceLT, decide_eq_true_eq]
      exact hr
theorem contains_ev (a : List ByteArray) (c : ByteArray) (ha : a.length ≤ 9223372036854775807) : Ev (fun N => slices_Contains_string_string.f N [strsP a, strP c]) [boolP (decide (c ∈ a))] := by
  obtain ⟨r, hr, hv⟩ := index_loop a c ha a [] rfl
  simp only [slices_Contains_string_string.f_eq, slices_Index_string_string.f_eq, strs_len, strs_elem, ints_len, ints_elem, items_list, fld_agg, elem_list, toStr_sc, toInt_sc, toBool_sc, headD_one, nat_int, get_bt, decide_eq_true_eq, decide_eq_false_iff_not, decide_true, decide_false, if_true, if_false, ite_self, Bool.not_true, Bool.not_false, Bool.false_eq_true, Bool.true_eq_false, Bool.true_and, Bool.false_and, Bool.and_true, Bool.and_false, not_true, not_false_iff, Option.bind_some, nn, toList_inj, Bool.not_eq_true', Bool.not_eq_false', Int.le_refl, and_self, true_and, and_true, false_and, and_false, bne_self_eq_false, beq_self_eq_true, List.tail_cons, Int.reduceLE, Int.reduceLT, decide_eq_true_eq]
  refine Ev.bind hr.diag ?_
  refine Ev.ext (Ev.now _) ?_
  simp only [strs_len, strs_elem, ints_len, ints_elem, items_list, fld_agg, elem_list, toStr_sc, toInt_sc, toBool_sc, headD_one, nat_int, get_bt, decide_eq_true_eq, decide_eq_false_iff_not, decide_true, decide_false, if_true, if_false, ite_self, Bool.not_true, Bool.not_false, Bool.false_eq_true, Bool.true_eq_false, Bool.true_and, Bool.false_and, Bool.and_true, Bool.and_false, not_true, not_false_iff, Option.bind_some, nn, toList_inj, Bool.not_eq_true', Bool.not_eq_false', Int.le_refl, and_self, true_and, and_true, false_and, and_false, bne_self_eq_false, beq_self_eq_true, List.tail_cons, Int.reduceLE, Int.reduceLT, decide_eq_true_eq]
  exact congrArg (fun b => [boolP b]) (decide_eq_decide.2 hv)
theorem implRing_l0 (ks : List ByteArray) (fs : List Int) (hl : fs.length = ks.length) (hk : ks.length ≤ 5) (hs : ∀ s ∈ ks, s.size ≤ 9223372036854775807) : ∀ (rest pre : List ByteArray) (frest fpre : List Int) (p : Option Int), ks = pre ++ rest → fs = fpre ++ frest → fpre.length = pre.length → AheadI fpre p →
    (p = none → ∀ f ∈ frest.head?, f ≤ 999999) →
    Ev2 (fun N n => impl_RingOk.l0 N n (strsP ks) (ks.length : Int) (pre.length : Int) (strsP ks) (intsP fs)) [boolP (keysM pre rest && ascF p frest)] := by
  intro rest
  induction rest with
  | nil =>
    intro pre frest fpre p hp hf hfl _ _
    obtain rfl : frest = [] := by
      have h1 := congrArg List.length hp
      have h2 := congrArg List.length hf
      simp at h1 h2
      exact List.eq_nil_of_length_eq_zero (by omega)
    refine Ev2.succ ?_
    simp only [impl_RingOk.l0_eq, at_end hp, keysM, strs_len, strs_elem, ints_len, ints_elem, items_list, fld_agg, elem_list, toStr_sc, toInt_sc, toBool_sc, headD_one, nat_int, get_bt, decide_eq_true_eq, decide_eq_false_iff_not, decide_true, decide_false, if_true, if_false, ite_self, Bool.not_true, Bool.not_false, Bool.false_eq_true, Bool.true_eq_false, Bool.true_and, Bool.false_and, Bool.and_true, Bool.and_false, not_true, not_false_iff, Option.bind_some, nn, toList_inj, Bool.not_eq_true', Bool.not_eq_false', Int.le_refl, and_self, true_and, and_true, false_and, and_false, bne_self_eq_false, beq_self_eq_true, List.tail_cons, Int.reduceLE, Int.reduceLT, decide_eq_true_eq]
    cases p <;> simp only [ascF] <;> exact Ev2.now _
  | cons c rest ih =>
    intro pre frest fpre p hp hf hfl hA hfirst
    obtain ⟨f, frest, rfl⟩ : ∃ f fr, frest = f :: fr := by
      cases frest with
      | cons f fr => exact ⟨f, fr, rfl⟩
      | nil =>
        have h1 := congrArg List.length hp
        have h2 := congrArg List.length hf
        simp at h1 h2
        omega
    have hlt := at_lt hp
    have hle : (pre.length : Int) ≤ (ks.length : Int) := by omega
    have hflt : (pre.length : Int) < fs.length := by have := at_lt hf; omega
    have hfg : fs.getD pre.length 0 = f := by rw [← hfl]; exact at_getD hf
    have hnext := ih _ frest _ (some f) (at_step hp) (at_step hf) (by simp [hfl]) (AheadI.next fpre f) (by simp)
    have htake : ((ks.drop 0).take (pre.length - 0)) = pre := by rw [hp]; simp
    refine Ev2.succ ?_
    simp only [impl_RingOk.l0_eq, hlt, hle, at_getD hp, at_next hp (by omega), hflt, hfg, strs_take, htake, strs_len, strs_elem, ints_len, ints_elem, items_list, fld_agg, elem_list, toStr_sc, toInt_sc, toBool_sc, headD_one, nat_int, get_bt, decide_eq_true_eq, decide_eq_false_iff_not, decide_true, decide_false, if_true, if_false, ite_self, Bool.not_true, Bool.not_false, Bool.false_eq_true, Bool.true_eq_false, Bool.true_and, Bool.false_and, Bool.and_true, Bool.and_false, not_true, not_false_iff, Option.bind_some, nn, toList_inj, Bool.not_eq_true', Bool.not_eq_false', Int.le_refl, and_self, true_and, and_true, false_and, and_false, bne_self_eq_false, beq_self_eq_true, List.tail_cons, Int.reduceLE, Int.reduceLT, decide_eq_true_eq]
    refine Ev2.bind (Ev.of (implKey_val c (hs c (by rw [hp]; simp)))) ?_
    rw [keysM]
    simp only [strs_len, strs_elem, ints_len, ints_elem, items_list, fld_agg, elem_list, toStr_sc, toInt_sc, toBool_sc, headD_one, nat_int, get_bt, decide_eq_true_eq, decide_eq_false_iff_not, decide_true, decide_false, if_true, if_false, ite_self, Bool.not_true, Bool.not_false, Bool.false_eq_true, Bool.true_eq_false, Bool.true_and, Bool.false_and, Bool.and_true, Bool.and_false, not_true, not_false_iff, Option.bind_some, nn, toList_inj, Bool.not_eq_true', Bool.not_eq_false', Int.le_refl, and_self, true_and, and_true, false_and, and_false, bne_self_eq_false, beq_self_eq_true, List.tail_cons, Int.reduceLE, Int.reduceLT, decide_eq_true_eq]
    cases keyM c with
    | false => simp only [strs_len, strs_elem, ints_len, ints_elem, items_list, fld_agg, elem_list, toStr_sc, toInt_sc, toBool_sc, headD_one, nat_int, get_bt, decide_eq_true_eq, decide_eq_false_iff_not, decide_true, decide_false, if_true, if_false, ite_self, Bool.not_true, Bool.not_false, Bool.false_eq_true, Bool.true_eq_false, Bool.true_and, Bool.false_and, Bool.and_true, Bool.and_false, not_true, not_false_iff, Option.bind_some, nn, toList_inj, Bool.not_eq_true', Bool.not_eq_false', Int.le_refl, and_self, true_and, and_true, false_and, and_false, bne_self_eq_false, beq_self_eq_true, List.tail_cons, Int.reduceLE, Int.reduceLT, decide_eq_true_eq]; exact Ev2.now _
    | true =>
      simp only [strs_len, strs_elem, ints_len, ints_elem, items_list, fld_agg, elem_list, toStr_sc, toInt_sc, toBool_sc, headD_one, nat_int, get_bt, decide_eq_true_eq, decide_eq_false_iff_not, decide_true, decide_false, if_true, if_false, ite_self, Bool.not_true, Bool.not_false, Bool.false_eq_true, Bool.true_eq_false, Bool.true_and, Bool.false_and, Bool.and_true, Bool.and_false, not_true, not_false_iff, Option.bind_some, nn, toList_inj, Bool.not_eq_true', Bool.not_eq_false', Int.le_refl, and_self, true_and, and_true, false_and, and_false, bne_self_eq_false, beq_self_eq_true, List.tail_cons, Int.reduceLE, Int.reduceLT, decide_eq_true_eq]
      refine Ev2.bind (contains_ev pre c (by omega)) ?_
      simp only [strs_len, strs_elem, ints_len, ints_elem, items_list, fld_agg, elem_list, toStr_sc, toInt_sc, toBool_sc, headD_one, nat_int, get_bt, decide_eq_true_eq, decide_eq_false_iff_not, decide_true, decide_false, if_true, if_false, ite_self, Bool.not_true, Bool.not_false, Bool.false_eq_true, Bool.true_eq_false, Bool.true_and, Bool.false_and, Bool.and_true, Bool.and_false, not_true, not_false_iff, Option.bind_some, nn, toList_inj, Bool.not_eq_true', Bool.not_eq_false', Int.le_refl, and_self, true_and, and_true, false_and, and_false, bne_self_eq_false, beq_self_eq_true, List.tail_cons, Int.reduceLE, Int.reduceLT, decide_eq_true_eq]
      by_cases hm : c ∈ pre
      · simp only [hm, strs_len, strs_elem, ints_len, ints_elem, items_list, fld_agg, elem_list, toStr_sc, toInt_sc, toBool_sc, headD_one, nat_int, get_bt, decide_eq_true_eq, decide_eq_false_iff_not, decide_true, decide_false, if_true, if_false, ite_self, Bool.not_true, Bool.not_false, Bool.false_eq_true, Bool.true_eq_false, Bool.true_and, Bool.false_and, Bool.and_true, Bool.and_false, not_true, not_false_iff, Option.bind_some, nn, toList_inj, Bool.not_eq_true', Bool.not_eq_false', Int.le_refl, and_self, true_and, and_true, false_and, and_false, bne_self_eq_false, beq_self_eq_true, List.tail_cons, Int.reduceLE, Int.reduceLT, decide_eq_true_eq]; exact Ev2.now _
      simp only [hm, strs_len, strs_elem, ints_len, ints_elem, items_list, fld_agg, elem_list, toStr_sc, toInt_sc, toBool_sc, headD_one, nat_int, get_bt, decide_eq_true_eq, decide_eq_false_iff_not, decide_true, decide_false, if_true, if_false, ite_self, Bool.not_true, Bool.not_false, Bool.false_eq_true, Bool.true_eq_false, Bool.true_and, Bool.false_and, Bool.and_true, Bool.and_false, not_true, not_false_iff, Option.bind_some, nn, toList_inj, Bool.not_eq_true', Bool.not_eq_false', Int.le_refl, and_self, true_and, and_true, false_and, and_false, bne_self_eq_false, beq_self_eq_true, List.tail_cons, Int.reduceLE, Int.reduceLT, decide_eq_true_eq]
      rcases hA with ⟨rfl, rfl⟩ | ⟨pre', q, rfl, rfl⟩
      · have := hfirst rfl f (by simp)
        have h0 : pre.length = 0 := by simpa using hfl.symm
        simp only [eq_false (show ¬ 999999 < f by omega), h0, Int.natCast_zero, Int.lt_irrefl, ascF, strs_len, strs_elem, ints_len, ints_elem, items_list, fld_agg, elem_list, toStr_sc, toInt_sc, toBool_sc, headD_one, nat_int, get_bt, decide_eq_true_eq, decide_eq_false_iff_not, decide_true, decide_false, if_true, if_false, ite_self, Bool.not_true, Bool.not_false, Bool.false_eq_true, Bool.true_eq_false, Bool.true_and, Bool.false_and, Bool.and_true, Bool.and_false, not_true, not_false_iff, Option.bind_some, nn, toList_inj, Bool.not_eq_true', Bool.not_eq_false', Int.le_refl, and_self, true_and, and_true, false_and, and_false, bne_self_eq_false, beq_self_eq_true, List.tail_cons, Int.reduceLE, Int.reduceLT, decide_eq_true_eq]
        have e : ((pre ++ [c]).length : Int) = 0 + 1 := by simp [h0]
        have e2 : IntKind.i64.wrap (0 + 1) = 0 + 1 := wrap_id (by omega) (by omega)
        rw [e] at hnext
        simpa only [e] using hnext
      · obtain ⟨h1, h2, h3⟩ := at_prevI hf (by omega)
        rw [hfl] at h1
        rw [ascF]
        by_cases c2 : 999999 < f
        · simp only [c2, eq_false (show ¬ f ≤ 999999 by omega), strs_len, strs_elem, ints_len, ints_elem, items_list, fld_agg, elem_list, toStr_sc, toInt_sc, toBool_sc, headD_one, nat_int, get_bt, decide_eq_true_eq, decide_eq_false_iff_not, decide_true, decide_false, if_true, if_false, ite_self, Bool.not_true, Bool.not_false, Bool.false_eq_true, Bool.true_eq_false, Bool.true_and, Bool.false_and, Bool.and_true, Bool.and_false, not_true, not_false_iff, Option.bind_some, nn, toList_inj, Bool.not_eq_true', Bool.not_eq_false', Int.le_refl, and_self, true_and, and_true, false_and, and_false, bne_self_eq_false, beq_self_eq_true, List.tail_cons, Int.reduceLE, Int.reduceLT, decide_eq_true_eq]
          exact Ev2.now _
        have hpos : (0 : Int) < (pre.length : Int) := by rw [← hfl]; simp
        simp only [c2, hpos, h1, h2, h3, strs_len, strs_elem, ints_len, ints_elem, items_list, fld_agg, elem_list, toStr_sc, toInt_sc, toBool_sc, headD_one, nat_int, get_bt, decide_eq_true_eq, decide_eq_false_iff_not, decide_true, decide_false, if_true, if_false, ite_self, Bool.not_true, Bool.not_false, Bool.false_eq_true, Bool.true_eq_false, Bool.true_and, Bool.false_and, Bool.and_true, Bool.and_false, not_true, not_false_iff, Option.bind_some, nn, toList_inj, Bool.not_eq_true', Bool.not_eq_false', Int.le_refl, and_self, true_and, and_true, false_and, and_false, bne_self_eq_false, beq_self_eq_true, List.tail_cons, Int.reduceLE, Int.reduceLT, decide_eq_true_eq]
        by_cases c1 : f ≤ q
        · simp only [c1, eq_false (show ¬ q < f by omega), strs_len, strs_elem, ints_len, ints_elem, items_list, fld_agg, elem_list, toStr_sc, toInt_sc, toBool_sc, headD_one, nat_int, get_bt, decide_eq_true_eq, decide_eq_false_iff_not, decide_true, decide_false, if_true, if_false, ite_self, Bool.not_true, Bool.not_false, Bool.false_eq_true, Bool.true_eq_false, Bool.true_and, Bool.false_and, Bool.and_true, Bool.and_false, not_true, not_false_iff, Option.bind_some, nn, toList_inj, Bool.not_eq_true', Bool.not_eq_false', Int.le_refl, and_self, true_and, and_true, false_and, and_false, bne_self_eq_false, beq_self_eq_true, List.tail_cons, Int.reduceLE, Int.reduceLT, decide_eq_true_eq]; exact Ev2.now _
        simp only [c1, eq_true (show q < f by omega), eq_true (show f ≤ 999999 by omega), strs_len, strs_elem, ints_len, ints_elem, items_list, fld_agg, elem_list, toStr_sc, toInt_sc, toBool_sc, headD_one, nat_int, get_bt, decide_eq_true_eq, decide_eq_false_iff_not, decide_true, decide_false, if_true, if_false, ite_self, Bool.not_true, Bool.not_false, Bool.false_eq_true, Bool.true_eq_false, Bool.true_and, Bool.false_and, Bool.and_true, Bool.and_false, not_true, not_false_iff, Option.bind_some, nn, toList_inj, Bool.not_eq_true', Bool.not_eq_false', Int.le_refl, and_self, true_and, and_true, false_and, and_false, bne_self_eq_false, beq_self_eq_true, List.tail_cons, Int.reduceLE, Int.reduceLT, decide_eq_true_eq]
        exact hnext
theorem implRingOk_ev (ks : List ByteArray) (fs : List Int) (hf : fs.length ≤ 9223372036854775807) (hk : ks.length ≤ 9223372036854775807) (hs : ∀ s ∈ ks, s.size ≤ 9223372036854775807) :
    Ev (fun N => impl_RingOk.f N [ringP ks fs]) [boolP (ringM ks fs)] := by
  simp only [impl_RingOk.f_eq, ring_f0, ring_f1, implWithin_val, ringM, tailM, strs_len, strs_elem, ints_len, ints_elem, items_list, fld_agg, elem_list, toStr_sc, toInt_sc, toBool_sc, headD_one, nat_int, get_bt, decide_eq_true_eq, decide_eq_false_iff_not, decide_true, decide_false, if_true, if_false, ite_self, Bool.not_true, Bool.not_false, Bool.false_eq_true, Bool.true_eq_false, Bool.true_and, Bool.false_and, Bool.and_true, Bool.and_false, not_true, not_false_iff, Option.bind_some, nn, toList_inj, Bool.not_eq_true', Bool.not_eq_false', Int.le_refl, and_self, true_and, and_true, false_and, and_false, bne_self_eq_false, beq_self_eq_true, List.tail_cons, Int.reduceLE, Int.reduceLT, decide_eq_true_eq]
  by_cases h1 : 1 ≤ ks.length ∧ ks.length ≤ 5
  · have h1' : (1 : Int) ≤ ks.length ∧ (ks.length : Int) ≤ 5 := by omega
    by_cases h2 : fs.length = ks.length
    · have h4 : (0 : Int) < (ks.length : Int) := by omega
      by_cases h3 : fs.getD 0 0 = 1
      · simp only [h1, h1', h2, h3, h4, strs_len, strs_elem, ints_len, ints_elem, items_list, fld_agg, elem_list, toStr_sc, toInt_sc, toBool_sc, headD_one, nat_int, get_bt, decide_eq_true_eq, decide_eq_false_iff_not, decide_true, decide_false, if_true, if_false, ite_self, Bool.not_true, Bool.not_false, Bool.false_eq_true, Bool.true_eq_false, Bool.true_and, Bool.false_and, Bool.and_true, Bool.and_false, not_true, not_false_iff, Option.bind_some, nn, toList_inj, Bool.not_eq_true', Bool.not_eq_false', Int.le_refl, and_self, true_and, and_true, false_and, and_false, bne_self_eq_false, beq_self_eq_true, List.tail_cons, Int.reduceLE, Int.reduceLT, decide_eq_true_eq]
        have := implRing_l0 ks fs h2 h1.2 hs ks [] fs [] none rfl rfl rfl (.inl ⟨rfl, rfl⟩) (fun _ f hfm => by
          cases fs with
          | nil => simp at hfm
          | cons g fs =>
            simp at hfm h3
            omega)
        exact this.diag
      · simp only [h1, h1', h2, h3, h4, strs_len, strs_elem, ints_len, ints_elem, items_list, fld_agg, elem_list, toStr_sc, toInt_sc, toBool_sc, headD_one, nat_int, get_bt, decide_eq_true_eq, decide_eq_false_iff_not, decide_true, decide_false, if_true, if_false, ite_self, Bool.not_true, Bool.not_false, Bool.false_eq_true, Bool.true_eq_false, Bool.true_and, Bool.false_and, Bool.and_true, Bool.and_false, not_true, not_false_iff, Option.bind_some, nn, toList_inj, Bool.not_eq_true', Bool.not_eq_false', Int.le_refl, and_self, true_and, and_true, false_and, and_false, bne_self_eq_false, beq_self_eq_true, List.tail_cons, Int.reduceLE, Int.reduceLT, decide_eq_true_eq]
        exact Ev.now _
    · simp only [h1, h1', h2, eq_false (show ¬ (fs.length : Int) = ks.length by omega), strs_len, strs_elem, ints_len, ints_elem, items_list, fld_agg, elem_list, toStr_sc, toInt_sc, toBool_sc, headD_one, nat_int, get_bt, decide_eq_true_eq, decide_eq_false_iff_not, decide_true, decide_false, if_true, if_false, ite_self, Bool.not_true, Bool.not_false, Bool.false_eq_true, Bool.true_eq_false, Bool.true_and, Bool.false_and, Bool.and_true, Bool.and_false, not_true, not_false_iff, Option.bind_some, nn, toList_inj, Bool.not_eq_true', Bool.not_eq_false', Int.le_refl, and_self, true_and, and_true, false_and, and_false, bne_self_eq_false, beq_self_eq_true, List.tail_cons, Int.reduceLE, Int.reduceLT, decide_eq_true_eq]
      exact Ev.now _
  · simp only [h1, eq_false (show ¬ ((1 : Int) ≤ ks.length ∧ (ks.length : Int) ≤ 5) by omega), strs_len, strs_elem, ints_len, ints_elem, items_list, fld_agg, elem_list, toStr_sc, toInt_sc, toBool_sc, headD_one, nat_int, get_bt, decide_eq_true_eq, decide_eq_false_iff_not, decide_true, decide_false, if_true, if_false, ite_self, Bool.not_true, Bool.not_false, Bool.false_eq_true, Bool.true_eq_false, Bool.true_and, Bool.false_and, Bool.and_true, Bool.and_false, not_true, not_false_iff, Option.bind_some, nn, toList_inj, Bool.not_eq_true', Bool.not_eq_false', Int.le_refl, and_self, true_and, and_true, false_and, and_false, bne_self_eq_false, beq_self_eq_true, List.tail_cons, Int.reduceLE, Int.reduceLT, decide_eq_true_eq]
    exact Ev.now _
/-! #### RingKey -/
def lastKey (n : Int) : ByteArray → List ByteArray → List Int → ByteArray
  | out, k :: ks, f :: fs => lastKey n (if f ≤ n then k else out) ks fs
  | out, _, _ => out
def ringKeyM (ks : List ByteArray) (fs : List Int) (n : Int) : ByteArray := if ringM ks fs = true then lastKey n ⟨#[]⟩ ks fs else ⟨#[]⟩
theorem ringM_len {ks : List ByteArray} {fs : List Int} (h : ringM ks fs = true) : 1 ≤ ks.length ∧ ks.length ≤ 5 ∧ fs.length = ks.length := by
  unfold ringM tailM at h
  simp only [Bool.and_eq_true, decide_eq_true_eq] at h
  omega
theorem implKey_loop (ks : List ByteArray) (fs : List Int) (n : Int) (hl : fs.length = ks.length) (hk : ks.length ≤ 9223372036854775807) : ∀ (rest pre : List ByteArray) (frest fpre : List Int), ks = pre ++ rest → fs = fpre ++ frest → fpre.length = pre.length → ∀ out : ByteArray,
    Ev2 (fun N m => impl_RingKey.l0 N m n out (intsP fs) (fs.length : Int) (fpre.length : Int) (strsP ks) (intsP fs)) [strP (lastKey n out rest frest)] := by
  intro rest
  induction rest with
  | nil =>
    intro pre frest fpre hp hf hfl out
    obtain rfl : frest = [] := by
      have h1 := congrArg List.length hp
      have h2 := congrArg List.length hf
      simp at h1 h2
      exact List.eq_nil_of_length_eq_zero (by omega)
    refine Ev2.succ ?_
    simp only [impl_RingKey.l0_eq, at_end hf, lastKey, strs_len, strs_elem, ints_len, ints_elem, items_list, fld_agg, elem_list, toStr_sc, toInt_sc, toBool_sc, headD_one, nat_int, get_bt, decide_eq_true_eq, decide_eq_false_iff_not, decide_true, decide_false, if_true, if_false, ite_self, Bool.not_true, Bool.not_false, Bool.false_eq_true, Bool.true_eq_false, Bool.true_and, Bool.false_and, Bool.and_true, Bool.and_false, not_true, not_false_iff, Option.bind_some, nn, toList_inj, Bool.not_eq_true', Bool.not_eq_false', Int.le_refl, and_self, true_and, and_true, false_and, and_false, bne_self_eq_false, beq_self_eq_true, List.tail_cons, Int.reduceLE, Int.reduceLT, decide_eq_true_eq]
    exact Ev2.now _
  | cons c rest ih =>
    intro pre frest fpre hp hf hfl out
    obtain ⟨f, frest, rfl⟩ : ∃ f fr, frest = f :: fr := by
      cases frest with
      | cons f fr => exact ⟨f, fr, rfl⟩
      | nil =>
        have h1 := congrArg List.length hp
        have h2 := congrArg List.length hf
        simp at h1 h2
        omega
    have hklt : (fpre.length : Int) < ks.length := by have := at_lt hp; omega
    have hkg : ks.getD fpre.length ByteArray.empty = c := by rw [hfl]; exact at_getD hp
    refine Ev2.succ ?_
    simp only [impl_RingKey.l0_eq, at_lt hf, hklt, hkg, at_getD hf, at_next hf (by omega), lastKey, strs_len, strs_elem, ints_len, ints_elem, items_list, fld_agg, elem_list, toStr_sc, toInt_sc, toBool_sc, headD_one, nat_int, get_bt, decide_eq_true_eq, decide_eq_false_iff_not, decide_true, decide_false, if_true, if_false, ite_self, Bool.not_true, Bool.not_false, Bool.false_eq_true, Bool.true_eq_false, Bool.true_and, Bool.false_and, Bool.and_true, Bool.and_false, not_true, not_false_iff, Option.bind_some, nn, toList_inj, Bool.not_eq_true', Bool.not_eq_false', Int.le_refl, and_self, true_and, and_true, false_and, and_false, bne_self_eq_false, beq_self_eq_true, List.tail_cons, Int.reduceLE, Int.reduceLT, decide_eq_true_eq]
    by_cases h : f ≤ n
    · simp only [h, strs_len, strs_elem, ints_len, ints_elem, items_list, fld_agg, elem_list, toStr_sc, toInt_sc, toBool_sc, headD_one, nat_int, get_bt, decide_eq_true_eq, decide_eq_false_iff_not, decide_true, decide_false, if_true, if_false, ite_self, Bool.not_true, Bool.not_false, Bool.false_eq_true, Bool.true_eq_false, Bool.true_and, Bool.false_and, Bool.and_true, Bool.and_false, not_true, not_false_iff, Option.bind_some, nn, toList_inj, Bool.not_eq_true', Bool.not_eq_false', Int.le_refl, and_self, true_and, and_true, false_and, and_false, bne_self_eq_false, beq_self_eq_true, List.tail_cons, Int.reduceLE, Int.reduceLT, decide_eq_true_eq]; exact ih _ _ _ (at_step hp) (at_step hf) (by simp [hfl]) _
    · simp only [h, strs_len, strs_elem, ints_len, ints_elem, items_list, fld_agg, elem_list, toStr_sc, toInt_sc, toBool_sc, headD_one, nat_int, get_bt, decide_eq_true_eq, decide_eq_false_iff_not, decide_true, decide_false, if_true, if_false, ite_self, Bool.not_true, Bool.not_false, Bool.false_eq_true, Bool.true_eq_false, Bool.true_and, Bool.false_and, Bool.and_true, Bool.and_false, not_true, not_false_iff, Option.bind_some, nn, toList_inj, Bool.not_eq_true', Bool.not_eq_false', Int.le_refl, and_self, true_and, and_true, false_and, and_false, bne_self_eq_false, beq_self_eq_true, List.tail_cons, Int.reduceLE, Int.reduceLT, decide_eq_true_eq]; exact ih _ _ _ (at_step hp) (at_step hf) (by simp [hfl]) _
theorem implRingKey_ev (ks : List ByteArray) (fs : List Int) (n : Int) (hf : fs.length ≤ 9223372036854775807) (hk : ks.length ≤ 9223372036854775807) (hs : ∀ s ∈ ks, s.size ≤ 9223372036854775807) :
    Ev (fun N => impl_RingKey.f N [ringP ks fs, intP n]) [strP (ringKeyM ks fs n)] := by
  simp only [impl_RingKey.f_eq, ring_f0, ring_f1, ring_agg, ringKeyM, strs_len, strs_elem, ints_len, ints_elem, items_list, fld_agg, elem_list, toStr_sc, toInt_sc, toBool_sc, headD_one, nat_int, get_bt, decide_eq_true_eq, decide_eq_false_iff_not, decide_true, decide_false, if_true, if_false, ite_self, Bool.not_true, Bool.not_false, Bool.false_eq_true, Bool.true_eq_false, Bool.true_and, Bool.false_and, Bool.and_true, Bool.and_false, not_true, not_false_iff, Option.bind_some, nn, toList_inj, Bool.not_eq_true', Bool.not_eq_false', Int.le_refl, and_self, true_and, and_true, false_and, and_false, bne_self_eq_false, beq_self_eq_true, List.tail_cons, Int.reduceLE, Int.reduceLT, decide_eq_true_eq]
  refine Ev.bind (implRingOk_ev ks fs hf hk hs) ?_
  cases h : ringM ks fs with
  | false => simp only [strs_len, strs_elem, ints_len, ints_elem, items_list, fld_agg, elem_list, toStr_sc, toInt_sc, toBool_sc, headD_one, nat_int, get_bt, decide_eq_true_eq, decide_eq_false_iff_not, decide_true, decide_false, if_true, if_false, ite_self, Bool.not_true, Bool.not_false, Bool.false_eq_true, Bool.true_eq_false, Bool.true_and, Bool.false_and, Bool.and_true, Bool.and_false, not_true, not_false_iff, Option.bind_some, nn, toList_inj, Bool.not_eq_true', Bool.not_eq_false', Int.le_refl, and_self, true_and, and_true, false_and, and_false, bne_self_eq_false, beq_self_eq_true, List.tail_cons, Int.reduceLE, Int.reduceLT, decide_eq_true_eq]; exact Ev.now _
  | true =>
    simp only [strs_len, strs_elem, ints_len, ints_elem, items_list, fld_agg, elem_list, toStr_sc, toInt_sc, toBool_sc, headD_one, nat_int, get_bt, decide_eq_true_eq, decide_eq_false_iff_not, decide_true, decide_false, if_true, if_false, ite_self, Bool.not_true, Bool.not_false, Bool.false_eq_true, Bool.true_eq_false, Bool.true_and, Bool.false_and, Bool.and_true, Bool.and_false, not_true, not_false_iff, Option.bind_some, nn, toList_inj, Bool.not_eq_true', Bool.not_eq_false', Int.le_refl, and_self, true_and, and_true, false_and, and_false, bne_self_eq_false, beq_self_eq_true, List.tail_cons, Int.reduceLE, Int.reduceLT, decide_eq_true_eq]
    exact (implKey_loop ks fs n (ringM_len h).2.2 hk ks [] fs [] rfl rfl rfl _).diag
theorem mdTexts_loop (a : List ByteArray) (ha : a.length ≤ 9223372036854775807) : ∀ rest pre : List ByteArray, a = pre ++ rest → Ev2 (fun N n => laws_mdTexts.l0 N n (strsP a) (strsP a) (pre.length : Int)) [boolP true] := by
  intro rest
  induction rest with
  | nil =>
    intro pre hp
    refine Ev2.succ ?_
    simp only [laws_mdTexts.l0_eq, at_end hp, strs_len, strs_elem, ints_len, ints_elem, items_list, fld_agg, elem_list, toStr_sc, toInt_sc, toBool_sc, headD_one, nat_int, get_bt, decide_eq_true_eq, decide_eq_false_iff_not, decide_true, decide_false, if_true, if_false, ite_self, Bool.not_true, Bool.not_false, Bool.false_eq_true, Bool.true_eq_false, Bool.true_and, Bool.false_and, Bool.and_true, Bool.and_false, not_true, not_false_iff, Option.bind_some, nn, toList_inj, Bool.not_eq_true', Bool.not_eq_false', Int.le_refl, and_self, true_and, and_true, false_and, and_false, bne_self_eq_false, beq_self_eq_true, List.tail_cons, Int.reduceLE, Int.reduceLT, decide_eq_true_eq]
    exact Ev2.now _
  | cons c rest ih =>
    intro pre hp
    refine Ev2.succ ?_
    simp only [laws_mdTexts.l0_eq, at_lt hp, at_next hp ha, strs_len, strs_elem, ints_len, ints_elem, items_list, fld_agg, elem_list, toStr_sc, toInt_sc, toBool_sc, headD_one, nat_int, get_bt, decide_eq_true_eq, decide_eq_false_iff_not, decide_true, decide_false, if_true, if_false, ite_self, Bool.not_true, Bool.not_false, Bool.false_eq_true, Bool.true_eq_false, Bool.true_and, Bool.false_and, Bool.and_true, Bool.and_false, not_true, not_false_iff, Option.bind_some, nn, toList_inj, Bool.not_eq_true', Bool.not_eq_false', Int.le_refl, and_self, true_and, and_true, false_and, and_false, bne_self_eq_false, beq_self_eq_true, List.tail_cons, Int.reduceLE, Int.reduceLT, decide_eq_true_eq]
    exact ih _ (at_step hp)
theorem mdTexts_ev (a : List ByteArray) (ha : a.length ≤ 9223372036854775807) : Ev (fun N => laws_mdTexts.f N [strsP a, strsP a]) [boolP true] := by
  simp only [laws_mdTexts.f_eq, strs_len, strs_elem, ints_len, ints_elem, items_list, fld_agg, elem_list, toStr_sc, toInt_sc, toBool_sc, headD_one, nat_int, get_bt, decide_eq_true_eq, decide_eq_false_iff_not, decide_true, decide_false, if_true, if_false, ite_self, Bool.not_true, Bool.not_false, Bool.false_eq_true, Bool.true_eq_false, Bool.true_and, Bool.false_and, Bool.and_true, Bool.and_false, not_true, not_false_iff, Option.bind_some, nn, toList_inj, Bool.not_eq_true', Bool.not_eq_false', Int.le_refl, and_self, true_and, and_true, false_and, and_false, bne_self_eq_false, beq_self_eq_true, List.tail_cons, Int.reduceLE, Int.reduceLT, decide_eq_true_eq]
  exact (mdTexts_loop a ha a [] rfl).diag
theorem mdRing_loop (k : PV) (a : List Int) (ha : a.length ≤ 9223372036854775807) : ∀ rest pre : List Int, a = pre ++ rest → Ev2 (fun N n => laws_mdRing.l0 N n (pre.length : Int) k (intsP a) k (intsP a)) [boolP true] := by
  intro rest
  induction rest with
  | nil =>
    intro pre hp
    refine Ev2.succ ?_
    simp only [laws_mdRing.l0_eq, at_end hp, strs_len, strs_elem, ints_len, ints_elem, items_list, fld_agg, elem_list, toStr_sc, toInt_sc, toBool_sc, headD_one, nat_int, get_bt, decide_eq_true_eq, decide_eq_false_iff_not, decide_true, decide_false, if_true, if_false, ite_self, Bool.not_true, Bool.not_false, Bool.false_eq_true, Bool.true_eq_false, Bool.true_and, Bool.false_and, Bool.and_true, Bool.and_false, not_true, not_false_iff, Option.bind_some, nn, toList_inj, Bool.not_eq_true', Bool.not_eq_false', Int.le_refl, and_self, true_and, and_true, false_and, and_false, bne_self_eq_false, beq_self_eq_true, List.tail_cons, Int.reduceLE, Int.reduceLT, decide_eq_true_eq]
    exact Ev2.now _
  | cons c rest ih =>
    intro pre hp
    refine Ev2.succ ?_
    simp only [laws_mdRing.l0_eq, at_lt hp, at_next hp ha, strs_len, strs_elem, ints_len, ints_elem, items_list, fld_agg, elem_list, toStr_sc, toInt_sc, toBool_sc, headD_one, nat_int, get_bt, decide_eq_true_eq, decide_eq_false_iff_not, decide_true, decide_false, if_true, if_false, ite_self, Bool.not_true, Bool.not_false, Bool.false_eq_true, Bool.true_eq_false, Bool.true_and, Bool.false_and, Bool.and_true, Bool.and_false, not_true, not_false_iff, Option.bind_some, nn, toList_inj, Bool.not_eq_true', Bool.not_eq_false', Int.le_refl, and_self, true_and, and_true, false_and, and_false, bne_self_eq_false, beq_self_eq_true, List.tail_cons, Int.reduceLE, Int.reduceLT, decide_eq_true_eq]
    exact ih _ (at_step hp)
theorem mdRing_ev (a : List ByteArray) (b : List Int) (ha : a.length ≤ 9223372036854775807) (hb : b.length ≤ 9223372036854775807) : Ev (fun N => laws_mdRing.f N [ringP a b, ringP a b]) [boolP true] := by
  simp only [laws_mdRing.f_eq, ring_f0, ring_f1]
  refine Ev.bind (mdTexts_ev a ha) ?_
  simp only [strs_len, strs_elem, ints_len, ints_elem, items_list, fld_agg, elem_list, toStr_sc, toInt_sc, toBool_sc, headD_one, nat_int, get_bt, decide_eq_true_eq, decide_eq_false_iff_not, decide_true, decide_false, if_true, if_false, ite_self, Bool.not_true, Bool.not_false, Bool.false_eq_true, Bool.true_eq_false, Bool.true_and, Bool.false_and, Bool.and_true, Bool.and_false, not_true, not_false_iff, Option.bind_some, nn, toList_inj, Bool.not_eq_true', Bool.not_eq_false', Int.le_refl, and_self, true_and, and_true, false_and, and_false, bne_self_eq_false, beq_self_eq_true, List.tail_cons, Int.reduceLE, Int.reduceLT, decide_eq_true_eq]
  exact (mdRing_loop _ b hb b [] rfl).diag
theorem ring_one (s : ByteArray) : PV.agg [PV.list [PV.sc (.string s)], PV.list [PV.sc (.int .i64 1)]] = ringP [s] [1] := rfl
theorem ring_none : PV.agg [PV.list [], PV.list []] = ringP [] [] := rfl
theorem specNew_val (s : ByteArray) (hs : s.size ≤ 9223372036854775807) (N : Nat) : spec_RingNew.f N [strP s] = some (if keyM s = true then [ringP [s] [1], boolP true] else [ringP [] [], boolP false]) := by
  simp only [spec_RingNew.f_eq, specKey_val s hs, ring_one, ring_none, strs_len, strs_elem, ints_len, ints_elem, items_list, fld_agg, elem_list, toStr_sc, toInt_sc, toBool_sc, headD_one, nat_int, get_bt, decide_eq_true_eq, decide_eq_false_iff_not, decide_true, decide_false, if_true, if_false, ite_self, Bool.not_true, Bool.not_false, Bool.false_eq_true, Bool.true_eq_false, Bool.true_and, Bool.false_and, Bool.and_true, Bool.and_false, not_true, not_false_iff, Option.bind_some, nn, toList_inj, Bool.not_eq_true', Bool.not_eq_false', Int.le_refl, and_self, true_and, and_true, false_and, and_false, bne_self_eq_false, beq_self_eq_true, List.tail_cons, Int.reduceLE, Int.reduceLT, decide_eq_true_eq]
  cases keyM s <;> simp only [strs_len, strs_elem, ints_len, ints_elem, items_list, fld_agg, elem_list, toStr_sc, toInt_sc, toBool_sc, headD_one, nat_int, get_bt, decide_eq_true_eq, decide_eq_false_iff_not, decide_true, decide_false, if_true, if_false, ite_self, Bool.not_true, Bool.not_false, Bool.false_eq_true, Bool.true_eq_false, Bool.true_and, Bool.false_and, Bool.and_true, Bool.and_false, not_true, not_false_iff, Option.bind_some, nn, toList_inj, Bool.not_eq_true', Bool.not_eq_false', Int.le_refl, and_self, true_and, and_true, false_and, and_false, bne_self_eq_false, beq_self_eq_true, List.tail_cons, Int.reduceLE, Int.reduceLT, decide_eq_true_eq]
theorem implNew_val (s : ByteArray) (hs : s.size ≤ 9223372036854775807) (N : Nat) : impl_RingNew.f N [strP s] = some (if keyM s = true then [ringP [s] [1], boolP true] else [ringP [] [], boolP false]) := by
  simp only [impl_RingNew.f_eq, implKey_val s hs, ring_one, ring_none, strs_len, strs_elem, ints_len, ints_elem, items_list, fld_agg, elem_list, toStr_sc, toInt_sc, toBool_sc, headD_one, nat_int, get_bt, decide_eq_true_eq, decide_eq_false_iff_not, decide_true, decide_false, if_true, if_false, ite_self, Bool.not_true, Bool.not_false, Bool.false_eq_true, Bool.true_eq_false, Bool.true_and, Bool.false_and, Bool.and_true, Bool.and_false, not_true, not_false_iff, Option.bind_some, nn, toList_inj, Bool.not_eq_true', Bool.not_eq_false', Int.le_refl, and_self, true_and, and_true, false_and, and_false, bne_self_eq_false, beq_self_eq_true, List.tail_cons, Int.reduceLE, Int.reduceLT, decide_eq_true_eq]
  cases keyM s <;> simp only [strs_len, strs_elem, ints_len, ints_elem, items_list, fld_agg, elem_list, toStr_sc, toInt_sc, toBool_sc, headD_one, nat_int, get_bt, decide_eq_true_eq, decide_eq_false_iff_not, decide_true, decide_false, if_true, if_false, ite_self, Bool.not_true, Bool.not_false, Bool.false_eq_true, Bool.true_eq_false, Bool.true_and, Bool.false_and, Bool.and_true, Bool.and_false, not_true, not_false_iff, Option.bind_some, nn, toList_inj, Bool.not_eq_true', Bool.not_eq_false', Int.le_refl, and_self, true_and, and_true, false_and, and_false, bne_self_eq_false, beq_self_eq_true, List.tail_cons, Int.reduceLE, Int.reduceLT, decide_eq_true_eq]
/-- The law's own function answers true. -/
theorem law (ps : List PV) (h : PvOkL (PvOk Try.prog 8) [32] ps) : ∃ N, laws_FnRingNew.f N ps = some [boolP true] := by
  obtain ⟨l, rfl, hby⟩ := code_args (P := Try.prog) (t := 32) (e := 5) (by kernel_rfl) (by kernel_rfl) h
  refine Ev.some ?_
  simp only [laws_FnRingNew.f_eq, strs_len, strs_elem, ints_len, ints_elem, items_list, fld_agg, elem_list, toStr_sc, toInt_sc, toBool_sc, headD_one, nat_int, get_bt, decide_eq_true_eq, decide_eq_false_iff_not, decide_true, decide_false, if_true, if_false, ite_self, Bool.not_true, Bool.not_false, Bool.false_eq_true, Bool.true_eq_false, Bool.true_and, Bool.false_and, Bool.and_true, Bool.and_false, not_true, not_false_iff, Option.bind_some, nn, toList_inj, Bool.not_eq_true', Bool.not_eq_false', Int.le_refl, and_self, true_and, and_true, false_and, and_false, bne_self_eq_false, beq_self_eq_true, List.tail_cons, Int.reduceLE, Int.reduceLT, decide_eq_true_eq]
  by_cases hl : (1048576 : Int) < (l.length : Int)
  · simp only [hl, strs_len, strs_elem, ints_len, ints_elem, items_list, fld_agg, elem_list, toStr_sc, toInt_sc, toBool_sc, headD_one, nat_int, get_bt, decide_eq_true_eq, decide_eq_false_iff_not, decide_true, decide_false, if_true, if_false, ite_self, Bool.not_true, Bool.not_false, Bool.false_eq_true, Bool.true_eq_false, Bool.true_and, Bool.false_and, Bool.and_true, Bool.and_false, not_true, not_false_iff, Option.bind_some, nn, toList_inj, Bool.not_eq_true', Bool.not_eq_false', Int.le_refl, and_self, true_and, and_true, false_and, and_false, bne_self_eq_false, beq_self_eq_true, List.tail_cons, Int.reduceLE, Int.reduceLT, decide_eq_true_eq]; exact Ev.now _
  simp only [hl, spec_DrawRingNew.f_eq, strs_len, strs_elem, ints_len, ints_elem, items_list, fld_agg, elem_list, toStr_sc, toInt_sc, toBool_sc, headD_one, nat_int, get_bt, decide_eq_true_eq, decide_eq_false_iff_not, decide_true, decide_false, if_true, if_false, ite_self, Bool.not_true, Bool.not_false, Bool.false_eq_true, Bool.true_eq_false, Bool.true_and, Bool.false_and, Bool.and_true, Bool.and_false, not_true, not_false_iff, Option.bind_some, nn, toList_inj, Bool.not_eq_true', Bool.not_eq_false', Int.le_refl, and_self, true_and, and_true, false_and, and_false, bne_self_eq_false, beq_self_eq_true, List.tail_cons, Int.reduceLE, Int.reduceLT, decide_eq_true_eq]
  obtain ⟨s, hs, hd⟩ := drawNew_ev (l := l) (by omega) hby
  have hs' : s.size ≤ 9223372036854775807 := by omega
  refine Ev.bind (Ev.bind hd (Ev.now _)) ?_
  simp only [implNew_val s hs', specNew_val s hs', strs_len, strs_elem, ints_len, ints_elem, items_list, fld_agg, elem_list, toStr_sc, toInt_sc, toBool_sc, headD_one, nat_int, get_bt, decide_eq_true_eq, decide_eq_false_iff_not, decide_true, decide_false, if_true, if_false, ite_self, Bool.not_true, Bool.not_false, Bool.false_eq_true, Bool.true_eq_false, Bool.true_and, Bool.false_and, Bool.and_true, Bool.and_false, not_true, not_false_iff, Option.bind_some, nn, toList_inj, Bool.not_eq_true', Bool.not_eq_false', Int.le_refl, and_self, true_and, and_true, false_and, and_false, bne_self_eq_false, beq_self_eq_true, List.tail_cons, Int.reduceLE, Int.reduceLT, decide_eq_true_eq]
  cases hk : keyM s with
  | false =>
    simp only [strs_len, strs_elem, ints_len, ints_elem, items_list, fld_agg, elem_list, toStr_sc, toInt_sc, toBool_sc, headD_one, nat_int, get_bt, decide_eq_true_eq, decide_eq_false_iff_not, decide_true, decide_false, if_true, if_false, ite_self, Bool.not_true, Bool.not_false, Bool.false_eq_true, Bool.true_eq_false, Bool.true_and, Bool.false_and, Bool.and_true, Bool.and_false, not_true, not_false_iff, Option.bind_some, nn, toList_inj, Bool.not_eq_true', Bool.not_eq_false', Int.le_refl, and_self, true_and, and_true, false_and, and_false, bne_self_eq_false, beq_self_eq_true, List.tail_cons, Int.reduceLE, Int.reduceLT, decide_eq_true_eq, ring_f0, ring_f1, ring_agg]
    refine Ev.bind (mdRing_ev [] [] (by simp) (by simp)) ?_
    refine Ev.bind (mdRing_ev [] [] (by simp) (by simp)) ?_
    simp only [strs_len, strs_elem, ints_len, ints_elem, items_list, fld_agg, elem_list, toStr_sc, toInt_sc, toBool_sc, headD_one, nat_int, get_bt, decide_eq_true_eq, decide_eq_false_iff_not, decide_true, decide_false, if_true, if_false, ite_self, Bool.not_true, Bool.not_false, Bool.false_eq_true, Bool.true_eq_false, Bool.true_and, Bool.false_and, Bool.and_true, Bool.and_false, not_true, not_false_iff, Option.bind_some, nn, toList_inj, Bool.not_eq_true', Bool.not_eq_false', Int.le_refl, and_self, true_and, and_true, false_and, and_false, bne_self_eq_false, beq_self_eq_true, List.tail_cons, Int.reduceLE, Int.reduceLT, decide_eq_true_eq]
    exact Ev.now _
  | true =>
    have hok : ringM [s] [1] = true := by simp [ringM, keysM, ascF, tailM, hk]
    have hss : ∀ x ∈ [s], x.size ≤ 9223372036854775807 := by simpa using hs'
    have k1 : ringKeyM [s] [1] 1 = s := by simp [ringKeyM, hok, lastKey]
    have k2 : ringKeyM [s] [1] 999999 = s := by simp [ringKeyM, hok, lastKey]
    have k3 : ringKeyM [s] [1] 0 = ⟨#[]⟩ := by simp [ringKeyM, hok, lastKey]
    simp only [strs_len, strs_elem, ints_len, ints_elem, items_list, fld_agg, elem_list, toStr_sc, toInt_sc, toBool_sc, headD_one, nat_int, get_bt, decide_eq_true_eq, decide_eq_false_iff_not, decide_true, decide_false, if_true, if_false, ite_self, Bool.not_true, Bool.not_false, Bool.false_eq_true, Bool.true_eq_false, Bool.true_and, Bool.false_and, Bool.and_true, Bool.and_false, not_true, not_false_iff, Option.bind_some, nn, toList_inj, Bool.not_eq_true', Bool.not_eq_false', Int.le_refl, and_self, true_and, and_true, false_and, and_false, bne_self_eq_false, beq_self_eq_true, List.tail_cons, Int.reduceLE, Int.reduceLT, decide_eq_true_eq, ring_f0, ring_f1, ring_agg]
    refine Ev.bind (mdRing_ev [s] [1] (by simp) (by simp)) ?_
    simp only [strs_len, strs_elem, ints_len, ints_elem, items_list, fld_agg, elem_list, toStr_sc, toInt_sc, toBool_sc, headD_one, nat_int, get_bt, decide_eq_true_eq, decide_eq_false_iff_not, decide_true, decide_false, if_true, if_false, ite_self, Bool.not_true, Bool.not_false, Bool.false_eq_true, Bool.true_eq_false, Bool.true_and, Bool.false_and, Bool.and_true, Bool.and_false, not_true, not_false_iff, Option.bind_some, nn, toList_inj, Bool.not_eq_true', Bool.not_eq_false', Int.le_refl, and_self, true_and, and_true, false_and, and_false, bne_self_eq_false, beq_self_eq_true, List.tail_cons, Int.reduceLE, Int.reduceLT, decide_eq_true_eq]
    refine Ev.bind (implRingOk_ev [s] [1] (by simp) (by simp) hss) ?_
    simp only [hok, strs_len, strs_elem, ints_len, ints_elem, items_list, fld_agg, elem_list, toStr_sc, toInt_sc, toBool_sc, headD_one, nat_int, get_bt, decide_eq_true_eq, decide_eq_false_iff_not, decide_true, decide_false, if_true, if_false, ite_self, Bool.not_true, Bool.not_false, Bool.false_eq_true, Bool.true_eq_false, Bool.true_and, Bool.false_and, Bool.and_true, Bool.and_false, not_true, not_false_iff, Option.bind_some, nn, toList_inj, Bool.not_eq_true', Bool.not_eq_false', Int.le_refl, and_self, true_and, and_true, false_and, and_false, bne_self_eq_false, beq_self_eq_true, List.tail_cons, Int.reduceLE, Int.reduceLT, decide_eq_true_eq]
    refine Ev.bind (implRingKey_ev [s] [1] 1 (by simp) (by simp) hss) ?_
    simp only [k1, strs_len, strs_elem, ints_len, ints_elem, items_list, fld_agg, elem_list, toStr_sc, toInt_sc, toBool_sc, headD_one, nat_int, get_bt, decide_eq_true_eq, decide_eq_false_iff_not, decide_true, decide_false, if_true, if_false, ite_self, Bool.not_true, Bool.not_false, Bool.false_eq_true, Bool.true_eq_false, Bool.true_and, Bool.false_and, Bool.and_true, Bool.and_false, not_true, not_false_iff, Option.bind_some, nn, toList_inj, Bool.not_eq_true', Bool.not_eq_false', Int.le_refl, and_self, true_and, and_true, false_and, and_false, bne_self_eq_false, beq_self_eq_true, List.tail_cons, Int.reduceLE, Int.reduceLT, decide_eq_true_eq]
    refine Ev.bind (implRingKey_ev [s] [1] 999999 (by simp) (by simp) hss) ?_
    simp only [k2, strs_len, strs_elem, ints_len, ints_elem, items_list, fld_agg, elem_list, toStr_sc, toInt_sc, toBool_sc, headD_one, nat_int, get_bt, decide_eq_true_eq, decide_eq_false_iff_not, decide_true, decide_false, if_true, if_false, ite_self, Bool.not_true, Bool.not_false, Bool.false_eq_true, Bool.true_eq_false, Bool.true_and, Bool.false_and, Bool.and_true, Bool.and_false, not_true, not_false_iff, Option.bind_some, nn, toList_inj, Bool.not_eq_true', Bool.not_eq_false', Int.le_refl, and_self, true_and, and_true, false_and, and_false, bne_self_eq_false, beq_self_eq_true, List.tail_cons, Int.reduceLE, Int.reduceLT, decide_eq_true_eq]
    refine Ev.bind (implRingKey_ev [s] [1] 0 (by simp) (by simp) hss) ?_
    simp only [k3, strs_len, strs_elem, ints_len, ints_elem, items_list, fld_agg, elem_list, toStr_sc, toInt_sc, toBool_sc, headD_one, nat_int, get_bt, decide_eq_true_eq, decide_eq_false_iff_not, decide_true, decide_false, if_true, if_false, ite_self, Bool.not_true, Bool.not_false, Bool.false_eq_true, Bool.true_eq_false, Bool.true_and, Bool.false_and, Bool.and_true, Bool.and_false, not_true, not_false_iff, Option.bind_some, nn, toList_inj, Bool.not_eq_true', Bool.not_eq_false', Int.le_refl, and_self, true_and, and_true, false_and, and_false, bne_self_eq_false, beq_self_eq_true, List.tail_cons, Int.reduceLE, Int.reduceLT, decide_eq_true_eq]
    exact Ev.now _
end Go.Proofs.Ytbmpmkklopbejaa.FnRingNew
