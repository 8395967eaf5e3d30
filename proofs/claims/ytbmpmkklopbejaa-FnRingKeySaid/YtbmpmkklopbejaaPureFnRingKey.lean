/- The law FnRingKey, over the trees that its functions compute: it answers true, for all arguments of the bounds that the row grants. -/
import Derived.Test.YtbmpmkklopbejaaFnFnRingKeyx1
set_option linter.unusedVariables false
set_option linter.unusedSimpArgs false
set_option maxRecDepth 10000
namespace Go.Proofs.Ytbmpmkklopbejaa.FnRingKey
open Go Go.Proofs.YtbmpmkklopbejaaAm
/-! #### the reader of a code -/
def rdP (b : PV) (p : Int) : PV := .agg [b, intP p]
theorem rd_f0 (b : PV) (p : Int) : (rdP b p).fld 0 = b := rfl
theorem rd_f1 (b : PV) (p : Int) : (rdP b p).fld 1 = intP p := rfl
theorem rd_agg (b : PV) (p : Int) : PV.agg [b, PV.sc (.int .i64 p)] = rdP b p := rfl
/-- A code: so many bytes. -/
structure Code1 (b : PV) : Prop where
  len : b.items.length ≤ 2000
  byte : ∀ j, 0 ≤ (b.elem j).toInt ∧ (b.elem j).toInt ≤ 255
theorem bXor_pos {a b : Int} (ha : 0 ≤ a ∧ a < 9223372036854775808) (hb : 0 ≤ b ∧ b < 9223372036854775808) : 0 ≤ bXor .i64 a b := by
  obtain ⟨x, rfl⟩ := Int.eq_ofNat_of_zero_le ha.1
  obtain ⟨y, rfl⟩ := Int.eq_ofNat_of_zero_le hb.1
  have hx : x < 2 ^ 63 := by omega
  have hy : y < 2 ^ 63 := by omega
  have h : (BitVec.ofInt (IntKind.bits .i64) (x : Int) ^^^ BitVec.ofInt (IntKind.bits .i64) (y : Int)).toNat = x ^^^ y := by
    rw [BitVec.toNat_xor, BitVec.toNat_ofInt, BitVec.toNat_ofInt]
    have hx2 : ((x : Int) % ((2 ^ IntKind.i64.bits : Nat) : Int)).toNat = x := by
      have : ((2 ^ IntKind.i64.bits : Nat) : Int) = 18446744073709551616 := rfl
      rw [this]; omega
    have hy2 : ((y : Int) % ((2 ^ IntKind.i64.bits : Nat) : Int)).toNat = y := by
      have : ((2 ^ IntKind.i64.bits : Nat) : Int) = 18446744073709551616 := rfl
      rw [this]; omega
    rw [hx2, hy2]
  have hlt : x ^^^ y < 2 ^ 63 := Nat.xor_lt_two_pow hx hy
  unfold bXor
  rw [h, wrap_id (by omega) (by omega)]
  omega
theorem tmod_in {x n : Int} (hx : 0 ≤ x) (hn : 1 ≤ n) : 0 ≤ Int.tmod x n ∧ Int.tmod x n < n := by
  rw [Int.tmod_eq_emod_of_nonneg hx]
  exact ⟨Int.emod_nonneg _ (by omega), Int.emod_lt_of_pos _ (by omega)⟩
theorem tdiv_in {x n : Int} (hx : 0 ≤ x) (hn : 1 ≤ n) : 0 ≤ Int.tdiv x n ∧ Int.tdiv x n ≤ x := by
  rw [Int.tdiv_eq_ediv_of_nonneg hx]
  exact ⟨Int.ediv_nonneg hx (by omega), Int.ediv_le_self _ hx⟩
theorem pick_ev {b : PV} (hb : Code1 b) {p n : Int} (hp : 0 ≤ p ∧ p < 1000000000) (hn : 1 ≤ n ∧ n < 4611686018427387904) : ∃ k, (0 ≤ k ∧ k < n) ∧ ∀ N, spec_l1Rd_pick.f N [rdP b p, intP n] = some [intP k, rdP b (p + 1)] := by
  have hlen := hb.len
  have h0 : ¬ n < 1 := by omega
  have h00 : ¬ n = 0 := by omega
  have w1 : IntKind.i64.wrap (p + 1) = p + 1 := wrap_id (by omega) (by omega)
  have w2 : IntKind.i64.wrap (p + 1 - 1) = p := by rw [wrap_id (by omega) (by omega)]; omega
  by_cases hz : (b.items.length : Int) = 0
  · refine ⟨0, by omega, fun N => ?_⟩
    simp only [spec_l1Rd_pick.f_eq, rd_f0, rd_f1, h0, hz, w1, strs_len, strs_elem, ints_len, ints_elem, items_list, fld_agg, elem_list, toStr_sc, toInt_sc, toBool_sc, headD_one, nat_int, get_bt, decide_eq_true_eq, decide_eq_false_iff_not, decide_true, decide_false, if_true, if_false, ite_self, Bool.not_true, Bool.not_false, Bool.false_eq_true, Bool.true_eq_false, Bool.true_and, Bool.false_and, Bool.and_true, Bool.and_false, not_true, not_false_iff, Option.bind_some, nn, toList_inj, Bool.not_eq_true', Bool.not_eq_false', Int.le_refl, and_self, true_and, and_true, false_and, and_false, bne_self_eq_false, beq_self_eq_true, Int.reduceEq, List.length_singleton, List.tail_cons, Int.reduceLE, Int.reduceLT, decide_eq_true_eq]
    rfl
  by_cases hlt : p < (b.items.length : Int)
  · have hby := hb.byte p.toNat
    have w3 : IntKind.i64.wrap ((b.elem p.toNat).toInt) = (b.elem p.toNat).toInt := wrap_id (by omega) (by omega)
    refine ⟨Int.tmod ((b.elem p.toNat).toInt) n, tmod_in hby.1 hn.1, fun N => ?_⟩
    simp only [spec_l1Rd_pick.f_eq, rd_f0, rd_f1, h0, h00, hz, hlt, hp.1, w1, w2, w3, strs_len, strs_elem, ints_len, ints_elem, items_list, fld_agg, elem_list, toStr_sc, toInt_sc, toBool_sc, headD_one, nat_int, get_bt, decide_eq_true_eq, decide_eq_false_iff_not, decide_true, decide_false, if_true, if_false, ite_self, Bool.not_true, Bool.not_false, Bool.false_eq_true, Bool.true_eq_false, Bool.true_and, Bool.false_and, Bool.and_true, Bool.and_false, not_true, not_false_iff, Option.bind_some, nn, toList_inj, Bool.not_eq_true', Bool.not_eq_false', Int.le_refl, and_self, true_and, and_true, false_and, and_false, bne_self_eq_false, beq_self_eq_true, Int.reduceEq, List.length_singleton, List.tail_cons, Int.reduceLE, Int.reduceLT, decide_eq_true_eq]
    rfl
  · have hm : 1 ≤ (b.items.length : Int) := by omega
    have w4 : IntKind.i64.wrap (p * 7) = p * 7 := wrap_id (by omega) (by omega)
    have w5 : IntKind.i64.wrap (p * 7 + 3) = p * 7 + 3 := wrap_id (by omega) (by omega)
    have w6 : IntKind.i64.wrap (p * 29) = p * 29 := wrap_id (by omega) (by omega)
    have m1 := tmod_in (x := p) hp.1 hm
    have m2 := tmod_in (x := p * 7 + 3) (by omega) hm
    have q1 := tdiv_in (x := p) hp.1 hm
    have w7 : IntKind.i64.wrap (Int.tdiv p (b.items.length : Int)) = Int.tdiv p (b.items.length : Int) := wrap_id (by omega) (by omega)
    have w8 : IntKind.i64.wrap (Int.tdiv p (b.items.length : Int) * 53) = Int.tdiv p (b.items.length : Int) * 53 := wrap_id (by omega) (by omega)
    have e1 := hb.byte (Int.tmod p (b.items.length : Int)).toNat
    have e2 := hb.byte (Int.tmod (p * 7 + 3) (b.items.length : Int)).toNat
    have z64 : ((64 : Int) = 0) = False := by simp
    simp only [spec_l1Rd_pick.f_eq, rd_f0, rd_f1, h0, h00, hz, hlt, hp.1, w1, w2, w4, w5, w6, w7, w8, m1, m2, z64, strs_len, strs_elem, ints_len, ints_elem, items_list, fld_agg, elem_list, toStr_sc, toInt_sc, toBool_sc, headD_one, nat_int, get_bt, decide_eq_true_eq, decide_eq_false_iff_not, decide_true, decide_false, if_true, if_false, ite_self, Bool.not_true, Bool.not_false, Bool.false_eq_true, Bool.true_eq_false, Bool.true_and, Bool.false_and, Bool.and_true, Bool.and_false, not_true, not_false_iff, Option.bind_some, nn, toList_inj, Bool.not_eq_true', Bool.not_eq_false', Int.le_refl, and_self, true_and, and_true, false_and, and_false, bne_self_eq_false, beq_self_eq_true, Int.reduceEq, List.length_singleton, List.tail_cons, Int.reduceLE, Int.reduceLT, decide_eq_true_eq]
    generalize (b.elem (Int.tmod p (b.items.length : Int)).toNat).toInt = x1 at e1 ⊢
    generalize (b.elem (Int.tmod (p * 7 + 3) (b.items.length : Int)).toNat).toInt = x2 at e2 ⊢
    generalize Int.tdiv p (b.items.length : Int) = d at q1 ⊢
    have v1 : IntKind.i64.wrap x1 = x1 := wrap_id (by omega) (by omega)
    have v2 : IntKind.i64.wrap x2 = x2 := wrap_id (by omega) (by omega)
    have v3 : IntKind.i64.wrap (x1 * 131) = x1 * 131 := wrap_id (by omega) (by omega)
    have v4 : IntKind.i64.wrap (x2 * 1117) = x2 * 1117 := wrap_id (by omega) (by omega)
    have v5 : IntKind.i64.wrap (x1 * 131 + x2 * 1117) = x1 * 131 + x2 * 1117 := wrap_id (by omega) (by omega)
    have v6 : IntKind.i64.wrap (x1 * 131 + x2 * 1117 + p * 29) = x1 * 131 + x2 * 1117 + p * 29 := wrap_id (by omega) (by omega)
    have v7 : IntKind.i64.wrap (x1 * 131 + x2 * 1117 + p * 29 + d * 53) = x1 * 131 + x2 * 1117 + p * 29 + d * 53 := wrap_id (by omega) (by omega)
    simp only [v1, v2, v3, v4, v5, v6, v7]
    generalize hy : x1 * 131 + x2 * 1117 + p * 29 + d * 53 = y
    have hyb : 0 ≤ y ∧ y < 1000000000000 := by omega
    have q2 := tdiv_in (x := y) (n := 64) hyb.1 (by omega)
    have v8 : IntKind.i64.wrap (Int.tdiv y 64) = Int.tdiv y 64 := wrap_id (by omega) (by omega)
    rw [v8]
    exact ⟨Int.tmod (bXor .i64 y (Int.tdiv y 64)) n, tmod_in (bXor_pos (by omega) (by omega)) hn.1, fun N => rfl⟩
theorem open_ev {l : List PV} (hl : l.length ≤ 1048576) (hby : ∀ j, 0 ≤ ((PV.list l).elem j).toInt ∧ ((PV.list l).elem j).toInt ≤ 255) : ∃ b, Code1 b ∧ ∀ N, spec_l1Open.f N [PV.list l] = some [rdP b 0] := by
  by_cases h : (2000 : Int) < (l.length : Int)
  · refine ⟨PV.list (l.take 2000), ⟨by simp [PV.items]; omega, fun j => ?_⟩, fun N => ?_⟩
    · rw [elem_list, List.getD_eq_getElem?_getD, List.getElem?_take]
      have := hby j
      rw [elem_list, List.getD_eq_getElem?_getD] at this
      split
      · exact this
      · exact ⟨Int.le_refl _, by decide⟩
    · have h2 : (2000 : Int) ≤ (l.length : Int) := by omega
      simp only [spec_l1Open.f_eq, h, h2, strs_len, strs_elem, ints_len, ints_elem, items_list, fld_agg, elem_list, toStr_sc, toInt_sc, toBool_sc, headD_one, nat_int, get_bt, decide_eq_true_eq, decide_eq_false_iff_not, decide_true, decide_false, if_true, if_false, ite_self, Bool.not_true, Bool.not_false, Bool.false_eq_true, Bool.true_eq_false, Bool.true_and, Bool.false_and, Bool.and_true, Bool.and_false, not_true, not_false_iff, Option.bind_some, nn, toList_inj, Bool.not_eq_true', Bool.not_eq_false', Int.le_refl, and_self, true_and, and_true, false_and, and_false, bne_self_eq_false, beq_self_eq_true, Int.reduceEq, List.length_singleton, List.tail_cons, Int.reduceLE, Int.reduceLT, decide_eq_true_eq]
      rfl
  · refine ⟨PV.list l, ⟨by simp [PV.items]; omega, hby⟩, fun N => ?_⟩
    simp only [spec_l1Open.f_eq, h, strs_len, strs_elem, ints_len, ints_elem, items_list, fld_agg, elem_list, toStr_sc, toInt_sc, toBool_sc, headD_one, nat_int, get_bt, decide_eq_true_eq, decide_eq_false_iff_not, decide_true, decide_false, if_true, if_false, ite_self, Bool.not_true, Bool.not_false, Bool.false_eq_true, Bool.true_eq_false, Bool.true_and, Bool.false_and, Bool.and_true, Bool.and_false, not_true, not_false_iff, Option.bind_some, nn, toList_inj, Bool.not_eq_true', Bool.not_eq_false', Int.le_refl, and_self, true_and, and_true, false_and, and_false, bne_self_eq_false, beq_self_eq_true, Int.reduceEq, List.length_singleton, List.tail_cons, Int.reduceLE, Int.reduceLT, decide_eq_true_eq]
    rfl
theorem code_args {P : Program} {t e : TypeId} (ht : tk P t = .slice e) (he : tk P e = .int .u8) {ps : List PV} (h : PvOkL (PvOk P 8) [t] ps) : ∃ l, ps = [PV.list l] ∧ ∀ j, 0 ≤ ((PV.list l).elem j).toInt ∧ ((PV.list l).elem j).toInt ≤ 255 := by
  obtain ⟨p, rfl, h1⟩ := pvOkL1 h
  obtain ⟨l, rfl, _, h3⟩ := pvOk_slice ht h1
  refine ⟨l, rfl, fun j => ?_⟩
  rw [elem_list, List.getD_eq_getElem?_getD]
  cases hj : l[j]? with
  | none => exact ⟨Int.le_refl _, by decide⟩
  | some q =>
    obtain ⟨x, rfl, hx⟩ := pvOk_int he (h3 q (List.mem_of_getElem? hj))
    simp [Lit.wf, IntKind.min, IntKind.max, IntKind.signed, IntKind.bits] at hx
    simp [PV.toInt]; omega
theorem Ev2.bind2 {α β : Type} {r : α} {s : β} {g : Nat → Nat → Option β} {f : Nat → Nat → β → Option α} (h : Ev2 g s) (k : Ev2 (fun N n => f N n s) r) : Ev2 (fun N n => (g N n).bind (f N n)) r := by
  obtain ⟨k1, h1⟩ := h; obtain ⟨k2, h2⟩ := k
  exact ⟨max k1 k2, fun N n hN hn => by
    show (g N n).bind (f N n) = _
    rw [h1 N n (by omega) (by omega), Option.bind_some]; exact h2 N n (by omega) (by omega)⟩
theorem nat_wrap {n : Int} {m : Nat} (h : n = (m : Int)) (hm : m < 9223372036854775808) : IntKind.i64.wrap n = (m : Int) := by
  rw [h, wrap_id (by omega) (by omega)]
theorem lt_int {a b : Nat} (h : a < b) : (a : Int) < (b : Int) := Int.ofNat_lt.2 h
theorem le_int {a b : Nat} (h : a ≤ b) : (a : Int) ≤ (b : Int) := Int.ofNat_le.2 h
/-! #### sums: a sum there is, of 32 bytes -/
def turnM (x n : Int) : Int := bOr .u32 (shrI .u32 x n) (shlI .u32 x (IntKind.i64.wrap (32 - n)))
theorem turn_val (x n : Int) (h : 0 ≤ n ∧ n ≤ 32) (N : Nat) : spec_l6Turn.f N [.sc (.int .u32 x), .sc (.int .i64 n)] = some [.sc (.int .u32 (turnM x n))] := by
  have h1 : 0 ≤ IntKind.i64.wrap (32 - n) := by rw [wrap_id (by omega) (by omega)]; omega
  simp only [spec_l6Turn.f_eq, h.1, h1, turnM, strs_len, strs_elem, ints_len, ints_elem, items_list, fld_agg, elem_list, toStr_sc, toInt_sc, toBool_sc, headD_one, nat_int, get_bt, decide_eq_true_eq, decide_eq_false_iff_not, decide_true, decide_false, if_true, if_false, ite_self, Bool.not_true, Bool.not_false, Bool.false_eq_true, Bool.true_eq_false, Bool.true_and, Bool.false_and, Bool.and_true, Bool.and_false, not_true, not_false_iff, Option.bind_some, nn, toList_inj, Bool.not_eq_true', Bool.not_eq_false', Int.le_refl, and_self, true_and, and_true, false_and, and_false, bne_self_eq_false, beq_self_eq_true, Int.reduceEq, List.length_singleton, List.tail_cons, Int.reduceLE, Int.reduceLT, decide_eq_true_eq]
theorem words_l1 : ∀ (d i : Nat) (y : List PV), i + d = 64 → 16 ≤ i → y.length = i → ∃ r : List PV, r.length = 64 ∧ Ev2 (fun N n => spec_l6Words.l1 N n (i : Int) y) [PV.list r] := by
  intro d
  induction d with
  | zero =>
    intro i y hi h16 hy
    refine ⟨y, by omega, Ev2.succ ?_⟩
    have h0 : ¬ (i : Int) < 64 := by omega
    simp only [spec_l6Words.l1_eq, h0, strs_len, strs_elem, ints_len, ints_elem, items_list, fld_agg, elem_list, toStr_sc, toInt_sc, toBool_sc, headD_one, nat_int, get_bt, decide_eq_true_eq, decide_eq_false_iff_not, decide_true, decide_false, if_true, if_false, ite_self, Bool.not_true, Bool.not_false, Bool.false_eq_true, Bool.true_eq_false, Bool.true_and, Bool.false_and, Bool.and_true, Bool.and_false, not_true, not_false_iff, Option.bind_some, nn, toList_inj, Bool.not_eq_true', Bool.not_eq_false', Int.le_refl, and_self, true_and, and_true, false_and, and_false, bne_self_eq_false, beq_self_eq_true, Int.reduceEq, List.length_singleton, List.tail_cons, Int.reduceLE, Int.reduceLT, decide_eq_true_eq]
    exact Ev2.now _
  | succ d ih =>
    intro i y hi h16 hy
    obtain ⟨e, he⟩ : ∃ e, ∀ N n, spec_l6Words.l1 N (n + 1) (i : Int) y = spec_l6Words.l1 N n ((i + 1 : Nat) : Int) (y ++ [e]) := by
      refine ⟨?e, fun N n => ?h⟩
      case h =>
        have h0 : (i : Int) < 64 := by omega
        have w1 : IntKind.i64.wrap ((i : Int) - 15) = ((i - 15 : Nat) : Int) := nat_wrap (by omega) (by omega)
        have w2 : IntKind.i64.wrap ((i : Int) - 2) = ((i - 2 : Nat) : Int) := nat_wrap (by omega) (by omega)
        have w3 : IntKind.i64.wrap ((i : Int) - 16) = ((i - 16 : Nat) : Int) := nat_wrap (by omega) (by omega)
        have w4 : IntKind.i64.wrap ((i : Int) - 7) = ((i - 7 : Nat) : Int) := nat_wrap (by omega) (by omega)
        have w5 : IntKind.i64.wrap ((i : Int) + 1) = ((i + 1 : Nat) : Int) := nat_wrap (by omega) (by omega)
        have l1 : ((i - 15 : Nat) : Int) < (y.length : Int) := by omega
        have l2 : ((i - 2 : Nat) : Int) < (y.length : Int) := by omega
        have l3 : ((i - 16 : Nat) : Int) < (y.length : Int) := by omega
        have l4 : ((i - 7 : Nat) : Int) < (y.length : Int) := by omega
        have l5 : y.length + 1 ≤ 35184372088832 := by omega
        simp only [spec_l6Words.l1_eq, h0, w1, w2, w3, w4, w5, l1, l2, l3, l4, l5, turn_val, strs_len, strs_elem, ints_len, ints_elem, items_list, fld_agg, elem_list, toStr_sc, toInt_sc, toBool_sc, headD_one, nat_int, get_bt, decide_eq_true_eq, decide_eq_false_iff_not, decide_true, decide_false, if_true, if_false, ite_self, Bool.not_true, Bool.not_false, Bool.false_eq_true, Bool.true_eq_false, Bool.true_and, Bool.false_and, Bool.and_true, Bool.and_false, not_true, not_false_iff, Option.bind_some, nn, toList_inj, Bool.not_eq_true', Bool.not_eq_false', Int.le_refl, and_self, true_and, and_true, false_and, and_false, bne_self_eq_false, beq_self_eq_true, Int.reduceEq, List.length_singleton, List.tail_cons, Int.reduceLE, Int.reduceLT, decide_eq_true_eq]
        rfl
    obtain ⟨r, hr, hv⟩ := ih (i + 1) (y ++ [e]) (by omega) (by omega) (by simp [hy])
    exact ⟨r, hr, Ev2.succ (Ev2.congr (fun N n => he N n) hv)⟩
theorem words_l0 (b : PV) (hb : b.items.length = 64) : ∀ (d i : Nat) (y : List PV), i + d = 16 → y.length = i → ∃ r : List PV, r.length = 64 ∧ Ev2 (fun N n => spec_l6Words.l0 N n b (i : Int) y) [PV.list r] := by
  intro d
  induction d with
  | zero =>
    intro i y hi hy
    obtain ⟨r, hr, hv⟩ := words_l1 48 16 y (by omega) (by omega) (by omega)
    refine ⟨r, hr, Ev2.succ ?_⟩
    have h0 : ¬ (i : Int) < 16 := by omega
    simp only [spec_l6Words.l0_eq, h0, strs_len, strs_elem, ints_len, ints_elem, items_list, fld_agg, elem_list, toStr_sc, toInt_sc, toBool_sc, headD_one, nat_int, get_bt, decide_eq_true_eq, decide_eq_false_iff_not, decide_true, decide_false, if_true, if_false, ite_self, Bool.not_true, Bool.not_false, Bool.false_eq_true, Bool.true_eq_false, Bool.true_and, Bool.false_and, Bool.and_true, Bool.and_false, not_true, not_false_iff, Option.bind_some, nn, toList_inj, Bool.not_eq_true', Bool.not_eq_false', Int.le_refl, and_self, true_and, and_true, false_and, and_false, bne_self_eq_false, beq_self_eq_true, Int.reduceEq, List.length_singleton, List.tail_cons, Int.reduceLE, Int.reduceLT, decide_eq_true_eq]
    exact hv.after
  | succ d ih =>
    intro i y hi hy
    obtain ⟨e, he⟩ : ∃ e, ∀ N n, spec_l6Words.l0 N (n + 1) b (i : Int) y = spec_l6Words.l0 N n b ((i + 1 : Nat) : Int) (y ++ [e]) := by
      refine ⟨?e, fun N n => ?h⟩
      case h =>
        have h0 : (i : Int) < 16 := by omega
        have w0 : IntKind.i64.wrap (4 * (i : Int)) = ((4 * i : Nat) : Int) := nat_wrap (by omega) (by omega)
        have w1 : IntKind.i64.wrap (((4 * i : Nat) : Int) + 1) = ((4 * i + 1 : Nat) : Int) := nat_wrap (by omega) (by omega)
        have w2 : IntKind.i64.wrap (((4 * i : Nat) : Int) + 2) = ((4 * i + 2 : Nat) : Int) := nat_wrap (by omega) (by omega)
        have w3 : IntKind.i64.wrap (((4 * i : Nat) : Int) + 3) = ((4 * i + 3 : Nat) : Int) := nat_wrap (by omega) (by omega)
        have w5 : IntKind.i64.wrap ((i : Int) + 1) = ((i + 1 : Nat) : Int) := nat_wrap (by omega) (by omega)
        have l0 : ((4 * i : Nat) : Int) < (b.items.length : Int) := by omega
        have l1 : ((4 * i + 1 : Nat) : Int) < (b.items.length : Int) := by omega
        have l2 : ((4 * i + 2 : Nat) : Int) < (b.items.length : Int) := by omega
        have l3 : ((4 * i + 3 : Nat) : Int) < (b.items.length : Int) := by omega
        have l5 : y.length + 1 ≤ 35184372088832 := by omega
        simp only [spec_l6Words.l0_eq, h0, w0, w1, w2, w3, w5, l0, l1, l2, l3, l5, strs_len, strs_elem, ints_len, ints_elem, items_list, fld_agg, elem_list, toStr_sc, toInt_sc, toBool_sc, headD_one, nat_int, get_bt, decide_eq_true_eq, decide_eq_false_iff_not, decide_true, decide_false, if_true, if_false, ite_self, Bool.not_true, Bool.not_false, Bool.false_eq_true, Bool.true_eq_false, Bool.true_and, Bool.false_and, Bool.and_true, Bool.and_false, not_true, not_false_iff, Option.bind_some, nn, toList_inj, Bool.not_eq_true', Bool.not_eq_false', Int.le_refl, and_self, true_and, and_true, false_and, and_false, bne_self_eq_false, beq_self_eq_true, Int.reduceEq, List.length_singleton, List.tail_cons, Int.reduceLE, Int.reduceLT, decide_eq_true_eq]
        rfl
    obtain ⟨r, hr, hv⟩ := ih (i + 1) (y ++ [e]) (by omega) (by simp [hy])
    exact ⟨r, hr, Ev2.succ (Ev2.congr (fun N n => he N n) hv)⟩
theorem words_ev (b : PV) (hb : b.items.length = 64) : ∃ r : List PV, r.length = 64 ∧ Ev (fun N => spec_l6Words.f N [b]) [PV.list r] := by
  obtain ⟨r, hr, hv⟩ := words_l0 b hb 16 0 (List.replicate 0 (PV.sc (.int .u32 0))) (by omega) rfl
  refine ⟨r, hr, ?_⟩
  simp only [spec_l6Words.f_eq, strs_len, strs_elem, ints_len, ints_elem, items_list, fld_agg, elem_list, toStr_sc, toInt_sc, toBool_sc, headD_one, nat_int, get_bt, decide_eq_true_eq, decide_eq_false_iff_not, decide_true, decide_false, if_true, if_false, ite_self, Bool.not_true, Bool.not_false, Bool.false_eq_true, Bool.true_eq_false, Bool.true_and, Bool.false_and, Bool.and_true, Bool.and_false, not_true, not_false_iff, Option.bind_some, nn, toList_inj, Bool.not_eq_true', Bool.not_eq_false', Int.le_refl, and_self, true_and, and_true, false_and, and_false, bne_self_eq_false, beq_self_eq_true, Int.reduceEq, List.length_singleton, List.tail_cons, Int.reduceLE, Int.reduceLT, decide_eq_true_eq]
  exact hv.diag
theorem block_l2 (h : PV) (hh : h.items.length = 8) (s : List PV) (hs : s.length = 8) : ∀ (d i : Nat) (y : List PV), i + d = 8 → y.length = i → ∃ r : List PV, r.length = 8 ∧ Ev2 (fun N n => spec_l6Block.l2 N n h (i : Int) s y) [PV.list r] := by
  intro d
  induction d with
  | zero =>
    intro i y hi hy
    refine ⟨y, by omega, Ev2.succ ?_⟩
    have h0 : ¬ (i : Int) < 8 := by omega
    simp only [spec_l6Block.l2_eq, h0, strs_len, strs_elem, ints_len, ints_elem, items_list, fld_agg, elem_list, toStr_sc, toInt_sc, toBool_sc, headD_one, nat_int, get_bt, decide_eq_true_eq, decide_eq_false_iff_not, decide_true, decide_false, if_true, if_false, ite_self, Bool.not_true, Bool.not_false, Bool.false_eq_true, Bool.true_eq_false, Bool.true_and, Bool.false_and, Bool.and_true, Bool.and_false, not_true, not_false_iff, Option.bind_some, nn, toList_inj, Bool.not_eq_true', Bool.not_eq_false', Int.le_refl, and_self, true_and, and_true, false_and, and_false, bne_self_eq_false, beq_self_eq_true, Int.reduceEq, List.length_singleton, List.tail_cons, Int.reduceLE, Int.reduceLT, decide_eq_true_eq]
    exact Ev2.now _
  | succ d ih =>
    intro i y hi hy
    obtain ⟨e, he⟩ : ∃ e, ∀ N n, spec_l6Block.l2 N (n + 1) h (i : Int) s y = spec_l6Block.l2 N n h ((i + 1 : Nat) : Int) s (y ++ [e]) := by
      refine ⟨?e, fun N n => ?h⟩
      case h =>
        have h0 : (i : Int) < 8 := by omega
        have w5 : IntKind.i64.wrap ((i : Int) + 1) = ((i + 1 : Nat) : Int) := nat_wrap (by omega) (by omega)
        have l0 : (i : Int) < (h.items.length : Int) := by omega
        have l1 : (i : Int) < (s.length : Int) := by omega
        have l5 : y.length + 1 ≤ 35184372088832 := by omega
        simp only [spec_l6Block.l2_eq, h0, w5, l0, l1, l5, strs_len, strs_elem, ints_len, ints_elem, items_list, fld_agg, elem_list, toStr_sc, toInt_sc, toBool_sc, headD_one, nat_int, get_bt, decide_eq_true_eq, decide_eq_false_iff_not, decide_true, decide_false, if_true, if_false, ite_self, Bool.not_true, Bool.not_false, Bool.false_eq_true, Bool.true_eq_false, Bool.true_and, Bool.false_and, Bool.and_true, Bool.and_false, not_true, not_false_iff, Option.bind_some, nn, toList_inj, Bool.not_eq_true', Bool.not_eq_false', Int.le_refl, and_self, true_and, and_true, false_and, and_false, bne_self_eq_false, beq_self_eq_true, Int.reduceEq, List.length_singleton, List.tail_cons, Int.reduceLE, Int.reduceLT, decide_eq_true_eq]
        rfl
    obtain ⟨r, hr, hv⟩ := ih (i + 1) (y ++ [e]) (by omega) (by simp [hy])
    exact ⟨r, hr, Ev2.succ (Ev2.congr (fun N n => he N n) hv)⟩
theorem block_l1 (h w k : PV) (i : Int) (t a m : Int) (hnext : ∀ y : List PV, y.length = 8 → ∃ r : List PV, r.length = 8 ∧ Ev2 (fun N n => spec_l6Block.l0 N n h (IntKind.i64.wrap (i + 1)) w k y) [PV.list r]) :
    ∀ (j : Nat) (y : List PV), j ≤ 7 → y.length = 8 → ∃ r : List PV, r.length = 8 ∧ Ev3 (fun N m0 n => spec_l6Block.l1 N m0 n h i t a m (j : Int) w k y) [PV.list r] := by
  intro j
  induction j with
  | zero =>
    intro y hj hy
    obtain ⟨y', hy', he⟩ : ∃ y' : List PV, y'.length = 8 ∧ ∀ N m0 n, spec_l6Block.l1 N m0 (n + 1) h i t a m ((0 : Nat) : Int) w k y = spec_l6Block.l0 N m0 h (IntKind.i64.wrap (i + 1)) w k y' := by
      refine ⟨?y, ?h1, fun N m0 n => ?h⟩
      case h =>
        have h0 : ¬ (0 : Int) < ((0 : Nat) : Int) := by omega
        have l4 : (4 : Int) < (y.length : Int) := by omega
        have l0 : (0 : Int) < (y.length : Int) := by omega
        simp only [spec_l6Block.l1_eq, h0, l4, l0, List.length_set, strs_len, strs_elem, ints_len, ints_elem, items_list, fld_agg, elem_list, toStr_sc, toInt_sc, toBool_sc, headD_one, nat_int, get_bt, decide_eq_true_eq, decide_eq_false_iff_not, decide_true, decide_false, if_true, if_false, ite_self, Bool.not_true, Bool.not_false, Bool.false_eq_true, Bool.true_eq_false, Bool.true_and, Bool.false_and, Bool.and_true, Bool.and_false, not_true, not_false_iff, Option.bind_some, nn, toList_inj, Bool.not_eq_true', Bool.not_eq_false', Int.le_refl, and_self, true_and, and_true, false_and, and_false, bne_self_eq_false, beq_self_eq_true, Int.reduceEq, List.length_singleton, List.tail_cons, Int.reduceLE, Int.reduceLT, decide_eq_true_eq]
        rfl
      case h1 => simp [hy]
    obtain ⟨r, hr, hv⟩ := hnext y' hy'
    exact ⟨r, hr, Ev3.succ (Ev3.congr (fun N m0 n => he N m0 n) hv.outer)⟩
  | succ j ih =>
    intro y hj hy
    obtain ⟨e, he⟩ : ∃ e, ∀ N m0 n, spec_l6Block.l1 N m0 (n + 1) h i t a m ((j + 1 : Nat) : Int) w k y = spec_l6Block.l1 N m0 n h i t a m (j : Int) w k (y.set (j + 1) e) := by
      refine ⟨?e, fun N m0 n => ?h⟩
      case h =>
        have h0 : (0 : Int) < ((j + 1 : Nat) : Int) := by omega
        have w1 : IntKind.i64.wrap (((j + 1 : Nat) : Int) - 1) = (j : Int) := nat_wrap (by omega) (by omega)
        have l1 : (j : Int) < (y.length : Int) := by omega
        have l2 : ((j + 1 : Nat) : Int) < (y.length : Int) := by omega
        simp only [spec_l6Block.l1_eq, h0, w1, l1, l2, strs_len, strs_elem, ints_len, ints_elem, items_list, fld_agg, elem_list, toStr_sc, toInt_sc, toBool_sc, headD_one, nat_int, get_bt, decide_eq_true_eq, decide_eq_false_iff_not, decide_true, decide_false, if_true, if_false, ite_self, Bool.not_true, Bool.not_false, Bool.false_eq_true, Bool.true_eq_false, Bool.true_and, Bool.false_and, Bool.and_true, Bool.and_false, not_true, not_false_iff, Option.bind_some, nn, toList_inj, Bool.not_eq_true', Bool.not_eq_false', Int.le_refl, and_self, true_and, and_true, false_and, and_false, bne_self_eq_false, beq_self_eq_true, Int.reduceEq, List.length_singleton, List.tail_cons, Int.reduceLE, Int.reduceLT, decide_eq_true_eq]
        rfl
    obtain ⟨r, hr, hv⟩ := ih (y.set (j + 1) e) (by omega) (by simp [hy])
    exact ⟨r, hr, Ev3.succ (Ev3.congr (fun N m0 n => he N m0 n) hv)⟩
theorem block_l0 (h : PV) (hh : h.items.length = 8) (w k : PV) (hw : w.items.length = 64) (hk : k.items.length = 64) : ∀ (d i : Nat) (y : List PV), i + d = 64 → y.length = 8 → ∃ r : List PV, r.length = 8 ∧ Ev2 (fun N n => spec_l6Block.l0 N n h (i : Int) w k y) [PV.list r] := by
  intro d
  induction d with
  | zero =>
    intro i y hi hy
    obtain ⟨r, hr, hv⟩ := block_l2 h hh y hy 8 0 [] (by omega) rfl
    refine ⟨r, hr, Ev2.succ ?_⟩
    have h0 : ¬ (i : Int) < 64 := by omega
    simp only [spec_l6Block.l0_eq, h0, strs_len, strs_elem, ints_len, ints_elem, items_list, fld_agg, elem_list, toStr_sc, toInt_sc, toBool_sc, headD_one, nat_int, get_bt, decide_eq_true_eq, decide_eq_false_iff_not, decide_true, decide_false, if_true, if_false, ite_self, Bool.not_true, Bool.not_false, Bool.false_eq_true, Bool.true_eq_false, Bool.true_and, Bool.false_and, Bool.and_true, Bool.and_false, not_true, not_false_iff, Option.bind_some, nn, toList_inj, Bool.not_eq_true', Bool.not_eq_false', Int.le_refl, and_self, true_and, and_true, false_and, and_false, bne_self_eq_false, beq_self_eq_true, Int.reduceEq, List.length_singleton, List.tail_cons, Int.reduceLE, Int.reduceLT, decide_eq_true_eq]
    exact hv.after
  | succ d ih =>
    intro i y hi hy
    have w5 : IntKind.i64.wrap ((i : Int) + 1) = ((i + 1 : Nat) : Int) := nat_wrap (by omega) (by omega)
    obtain ⟨t, a, m, he⟩ : ∃ t a m, ∀ N n, spec_l6Block.l0 N (n + 1) h (i : Int) w k y = spec_l6Block.l1 N n N h (i : Int) t a m ((7 : Nat) : Int) w k y := by
      refine ⟨?e1, ?e2, ?e3, fun N n => ?h⟩
      case h =>
        have h0 : (i : Int) < 64 := by omega
        have l0 : (0 : Int) < (y.length : Int) := by omega
        have l1 : (1 : Int) < (y.length : Int) := by omega
        have l2 : (2 : Int) < (y.length : Int) := by omega
        have l4 : (4 : Int) < (y.length : Int) := by omega
        have l5 : (5 : Int) < (y.length : Int) := by omega
        have l6 : (6 : Int) < (y.length : Int) := by omega
        have l7 : (7 : Int) < (y.length : Int) := by omega
        have lw : (i : Int) < (w.items.length : Int) := by omega
        have lk : (i : Int) < (k.items.length : Int) := by omega
        simp only [spec_l6Block.l0_eq, h0, l0, l1, l2, l4, l5, l6, l7, lw, lk, turn_val, strs_len, strs_elem, ints_len, ints_elem, items_list, fld_agg, elem_list, toStr_sc, toInt_sc, toBool_sc, headD_one, nat_int, get_bt, decide_eq_true_eq, decide_eq_false_iff_not, decide_true, decide_false, if_true, if_false, ite_self, Bool.not_true, Bool.not_false, Bool.false_eq_true, Bool.true_eq_false, Bool.true_and, Bool.false_and, Bool.and_true, Bool.and_false, not_true, not_false_iff, Option.bind_some, nn, toList_inj, Bool.not_eq_true', Bool.not_eq_false', Int.le_refl, and_self, true_and, and_true, false_and, and_false, bne_self_eq_false, beq_self_eq_true, Int.reduceEq, List.length_singleton, List.tail_cons, Int.reduceLE, Int.reduceLT, decide_eq_true_eq]
        rfl
    obtain ⟨r, hr, hv⟩ := block_l1 h w k (i : Int) t a m (fun y hy => by rw [w5]; exact ih (i + 1) y (by omega) hy) 7 y (by omega) hy
    exact ⟨r, hr, Ev2.succ (Ev2.congr (fun N n => he N n) hv.start)⟩
theorem block_ev (h b : PV) (hh : h.items.length = 8) (hb : b.items.length = 64) : ∃ r : List PV, r.length = 8 ∧ Ev (fun N => spec_l6Block.f N [h, b]) [PV.list r] := by
  obtain ⟨w, hw, hv⟩ := words_ev b hb
  obtain ⟨k, hk, hkv⟩ : ∃ k : List PV, k.length = 64 ∧ ∀ N, spec_l6Consts.f N [] = some [PV.list k] := ⟨_, rfl, fun N => spec_l6Consts.f_eq N⟩
  obtain ⟨r, hr, hrv⟩ := block_l0 h hh (PV.list w) (PV.list k) hw hk 64 0 h.items (by omega) hh
  refine ⟨r, hr, ?_⟩
  have hl : ([] : List PV).length + h.items.length ≤ 35184372088832 := by simp [hh]
  simp only [spec_l6Block.f_eq, strs_len, strs_elem, ints_len, ints_elem, items_list, fld_agg, elem_list, toStr_sc, toInt_sc, toBool_sc, headD_one, nat_int, get_bt, decide_eq_true_eq, decide_eq_false_iff_not, decide_true, decide_false, if_true, if_false, ite_self, Bool.not_true, Bool.not_false, Bool.false_eq_true, Bool.true_eq_false, Bool.true_and, Bool.false_and, Bool.and_true, Bool.and_false, not_true, not_false_iff, Option.bind_some, nn, toList_inj, Bool.not_eq_true', Bool.not_eq_false', Int.le_refl, and_self, true_and, and_true, false_and, and_false, bne_self_eq_false, beq_self_eq_true, Int.reduceEq, List.length_singleton, List.tail_cons, Int.reduceLE, Int.reduceLT, decide_eq_true_eq, hkv]
  refine Ev.bind hv ?_
  simp only [strs_len, strs_elem, ints_len, ints_elem, items_list, fld_agg, elem_list, toStr_sc, toInt_sc, toBool_sc, headD_one, nat_int, get_bt, decide_eq_true_eq, decide_eq_false_iff_not, decide_true, decide_false, if_true, if_false, ite_self, Bool.not_true, Bool.not_false, Bool.false_eq_true, Bool.true_eq_false, Bool.true_and, Bool.false_and, Bool.and_true, Bool.and_false, not_true, not_false_iff, Option.bind_some, nn, toList_inj, Bool.not_eq_true', Bool.not_eq_false', Int.le_refl, and_self, true_and, and_true, false_and, and_false, bne_self_eq_false, beq_self_eq_true, Int.reduceEq, List.length_singleton, List.tail_cons, Int.reduceLE, Int.reduceLT, decide_eq_true_eq, hl, List.nil_append]
  exact hrv.diag
theorem padded_l1 (n8 : Int) : ∀ (j : Nat) (y : List PV), j ≤ 8 → y.length + j ≤ 70368744177664 → ∃ r : List PV, r.length = y.length + j ∧ Ev2 (fun N n => spec_l6Padded.l1 N n n8 ((j : Int) - 1) y) [PV.list r] := by
  intro j
  induction j with
  | zero =>
    intro y hj hy
    refine ⟨y, by omega, Ev2.succ ?_⟩
    have h0 : ¬ (0 : Int) ≤ ((0 : Nat) : Int) - 1 := by omega
    simp only [spec_l6Padded.l1_eq, h0, strs_len, strs_elem, ints_len, ints_elem, items_list, fld_agg, elem_list, toStr_sc, toInt_sc, toBool_sc, headD_one, nat_int, get_bt, decide_eq_true_eq, decide_eq_false_iff_not, decide_true, decide_false, if_true, if_false, ite_self, Bool.not_true, Bool.not_false, Bool.false_eq_true, Bool.true_eq_false, Bool.true_and, Bool.false_and, Bool.and_true, Bool.and_false, not_true, not_false_iff, Option.bind_some, nn, toList_inj, Bool.not_eq_true', Bool.not_eq_false', Int.le_refl, and_self, true_and, and_true, false_and, and_false, bne_self_eq_false, beq_self_eq_true, Int.reduceEq, List.length_singleton, List.tail_cons, Int.reduceLE, Int.reduceLT, decide_eq_true_eq]
    exact Ev2.now _
  | succ j ih =>
    intro y hj hy
    obtain ⟨e, he⟩ : ∃ e, ∀ N n, spec_l6Padded.l1 N (n + 1) n8 (((j + 1 : Nat) : Int) - 1) y = spec_l6Padded.l1 N n n8 ((j : Int) - 1) (y ++ [e]) := by
      refine ⟨?e, fun N n => ?h⟩
      case h =>
        have h0 : (0 : Int) ≤ ((j + 1 : Nat) : Int) - 1 := by omega
        have w1 : IntKind.i64.wrap (8 * (((j + 1 : Nat) : Int) - 1)) = ((8 * j : Nat) : Int) := nat_wrap (by omega) (by omega)
        have w2 : IntKind.i64.wrap (((j + 1 : Nat) : Int) - 1 - 1) = (j : Int) - 1 := by rw [wrap_id (by omega) (by omega)]; omega
        have l5 : y.length + 1 ≤ 140737488355328 := by omega
        simp only [spec_l6Padded.l1_eq, h0, w1, w2, l5, strs_len, strs_elem, ints_len, ints_elem, items_list, fld_agg, elem_list, toStr_sc, toInt_sc, toBool_sc, headD_one, nat_int, get_bt, decide_eq_true_eq, decide_eq_false_iff_not, decide_true, decide_false, if_true, if_false, ite_self, Bool.not_true, Bool.not_false, Bool.false_eq_true, Bool.true_eq_false, Bool.true_and, Bool.false_and, Bool.and_true, Bool.and_false, not_true, not_false_iff, Option.bind_some, nn, toList_inj, Bool.not_eq_true', Bool.not_eq_false', Int.le_refl, and_self, true_and, and_true, false_and, and_false, bne_self_eq_false, beq_self_eq_true, Int.reduceEq, List.length_singleton, List.tail_cons, Int.reduceLE, Int.reduceLT, decide_eq_true_eq]
        rfl
    have hl : (y ++ [e]).length = y.length + 1 := by simp
    obtain ⟨r, hr, hv⟩ := ih (y ++ [e]) (by omega) (by omega)
    exact ⟨r, by omega, Ev2.succ (Ev2.congr (fun N n => he N n) hv)⟩
theorem padded_l0 (s : ByteArray) : ∀ (d : Nat) (y : List PV), d < 64 → (y.length + d) % 64 = 56 → y.length + d ≤ 1099511627776 → ∃ r : List PV, r.length = y.length + d + 8 ∧ Ev2 (fun N n => spec_l6Padded.l0 N n s y) [PV.list r] := by
  intro d
  induction d with
  | zero =>
    intro y hd hm hy
    obtain ⟨r, hr, hv⟩ := padded_l1 (IntKind.i64.wrap ((s.size : Int) * 8)) 8 y (by omega) (by omega)
    refine ⟨r, by omega, Ev2.succ ?_⟩
    have ht : Int.tmod (y.length : Int) 64 = 56 := by rw [Int.tmod_eq_emod_of_nonneg (by omega)]; omega
    simp only [spec_l6Padded.l0_eq, ht, strs_len, strs_elem, ints_len, ints_elem, items_list, fld_agg, elem_list, toStr_sc, toInt_sc, toBool_sc, headD_one, nat_int, get_bt, decide_eq_true_eq, decide_eq_false_iff_not, decide_true, decide_false, if_true, if_false, ite_self, Bool.not_true, Bool.not_false, Bool.false_eq_true, Bool.true_eq_false, Bool.true_and, Bool.false_and, Bool.and_true, Bool.and_false, not_true, not_false_iff, Option.bind_some, nn, toList_inj, Bool.not_eq_true', Bool.not_eq_false', Int.le_refl, and_self, true_and, and_true, false_and, and_false, bne_self_eq_false, beq_self_eq_true, Int.reduceEq, List.length_singleton, List.tail_cons, Int.reduceLE, Int.reduceLT, decide_eq_true_eq]
    exact hv.after
  | succ d ih =>
    intro y hd hm hy
    have ht : ¬ Int.tmod (y.length : Int) 64 = 56 := by rw [Int.tmod_eq_emod_of_nonneg (by omega)]; omega
    have hl : (y ++ [PV.sc (.int .u8 0)]).length = y.length + 1 := by simp
    have l5 : y.length + 1 ≤ 140737488355328 := by omega
    obtain ⟨r, h1, hv⟩ := ih (y ++ [PV.sc (.int .u8 0)]) (by omega) (by rw [hl]; omega) (by omega)
    refine ⟨r, by omega, Ev2.succ ?_⟩
    simp only [spec_l6Padded.l0_eq, ht, l5, strs_len, strs_elem, ints_len, ints_elem, items_list, fld_agg, elem_list, toStr_sc, toInt_sc, toBool_sc, headD_one, nat_int, get_bt, decide_eq_true_eq, decide_eq_false_iff_not, decide_true, decide_false, if_true, if_false, ite_self, Bool.not_true, Bool.not_false, Bool.false_eq_true, Bool.true_eq_false, Bool.true_and, Bool.false_and, Bool.and_true, Bool.and_false, not_true, not_false_iff, Option.bind_some, nn, toList_inj, Bool.not_eq_true', Bool.not_eq_false', Int.le_refl, and_self, true_and, and_true, false_and, and_false, bne_self_eq_false, beq_self_eq_true, Int.reduceEq, List.length_singleton, List.tail_cons, Int.reduceLE, Int.reduceLT, decide_eq_true_eq]
    exact hv
/-! #### keys -/
def keyM (a : ByteArray) : Bool := decide (1 ≤ a.size ∧ a.size ≤ 64) && !decide (bt a (a.size - 1) = 0)
theorem key_byte {a : ByteArray} (h1 : 1 ≤ a.size) (h2 : a.size ≤ 9223372036854775807) : IntKind.i64.wrap ((a.size : Int) - 1) = ((a.size - 1 : Nat) : Int) := by
  rw [wrap_id (by omega) (by omega)]; omega
theorem specIn_val (a b c : Int) (N : Nat) : spec_l1In.f N [.sc (.int .i64 a), .sc (.int .i64 b), .sc (.int .i64 c)] = some [boolP (decide (b ≤ a ∧ a ≤ c))] := by
  simp only [spec_l1In.f_eq, strs_len, strs_elem, ints_len, ints_elem, items_list, fld_agg, elem_list, toStr_sc, toInt_sc, toBool_sc, headD_one, nat_int, get_bt, decide_eq_true_eq, decide_eq_false_iff_not, decide_true, decide_false, if_true, if_false, ite_self, Bool.not_true, Bool.not_false, Bool.false_eq_true, Bool.true_eq_false, Bool.true_and, Bool.false_and, Bool.and_true, Bool.and_false, not_true, not_false_iff, Option.bind_some, nn, toList_inj, Bool.not_eq_true', Bool.not_eq_false', Int.le_refl, and_self, true_and, and_true, false_and, and_false, bne_self_eq_false, beq_self_eq_true, Int.reduceEq, List.length_singleton, List.tail_cons, Int.reduceLE, Int.reduceLT, decide_eq_true_eq]
  by_cases h1 : b ≤ a <;> by_cases h2 : a ≤ c <;> simp only [h1, h2, strs_len, strs_elem, ints_len, ints_elem, items_list, fld_agg, elem_list, toStr_sc, toInt_sc, toBool_sc, headD_one, nat_int, get_bt, decide_eq_true_eq, decide_eq_false_iff_not, decide_true, decide_false, if_true, if_false, ite_self, Bool.not_true, Bool.not_false, Bool.false_eq_true, Bool.true_eq_false, Bool.true_and, Bool.false_and, Bool.and_true, Bool.and_false, not_true, not_false_iff, Option.bind_some, nn, toList_inj, Bool.not_eq_true', Bool.not_eq_false', Int.le_refl, and_self, true_and, and_true, false_and, and_false, bne_self_eq_false, beq_self_eq_true, Int.reduceEq, List.length_singleton, List.tail_cons, Int.reduceLE, Int.reduceLT, decide_eq_true_eq]
theorem specKey_val (a : ByteArray) (ha : a.size ≤ 9223372036854775807) (N : Nat) : spec_l6Key.f N [strP a] = some [boolP (keyM a)] := by
  simp only [spec_l6Key.f_eq, specIn_val, strs_len, strs_elem, ints_len, ints_elem, items_list, fld_agg, elem_list, toStr_sc, toInt_sc, toBool_sc, headD_one, nat_int, get_bt, decide_eq_true_eq, decide_eq_false_iff_not, decide_true, decide_false, if_true, if_false, ite_self, Bool.not_true, Bool.not_false, Bool.false_eq_true, Bool.true_eq_false, Bool.true_and, Bool.false_and, Bool.and_true, Bool.and_false, not_true, not_false_iff, Option.bind_some, nn, toList_inj, Bool.not_eq_true', Bool.not_eq_false', Int.le_refl, and_self, true_and, and_true, false_and, and_false, bne_self_eq_false, beq_self_eq_true, Int.reduceEq, List.length_singleton, List.tail_cons, Int.reduceLE, Int.reduceLT, decide_eq_true_eq, keyM]
  by_cases h1 : 1 ≤ a.size ∧ a.size ≤ 64
  · have e1 : (((a.size - 1 : Nat) : Int) < (a.size : Int)) = True := eq_true (by omega)
    simp only [h1, eq_true (show (1 : Int) ≤ a.size ∧ (a.size : Int) ≤ 64 by omega), key_byte h1.1 ha, e1, strs_len, strs_elem, ints_len, ints_elem, items_list, fld_agg, elem_list, toStr_sc, toInt_sc, toBool_sc, headD_one, nat_int, get_bt, decide_eq_true_eq, decide_eq_false_iff_not, decide_true, decide_false, if_true, if_false, ite_self, Bool.not_true, Bool.not_false, Bool.false_eq_true, Bool.true_eq_false, Bool.true_and, Bool.false_and, Bool.and_true, Bool.and_false, not_true, not_false_iff, Option.bind_some, nn, toList_inj, Bool.not_eq_true', Bool.not_eq_false', Int.le_refl, and_self, true_and, and_true, false_and, and_false, bne_self_eq_false, beq_self_eq_true, Int.reduceEq, List.length_singleton, List.tail_cons, Int.reduceLE, Int.reduceLT, decide_eq_true_eq]
  · simp only [h1, eq_false (show ¬ ((1 : Int) ≤ a.size ∧ (a.size : Int) ≤ 64) by omega), strs_len, strs_elem, ints_len, ints_elem, items_list, fld_agg, elem_list, toStr_sc, toInt_sc, toBool_sc, headD_one, nat_int, get_bt, decide_eq_true_eq, decide_eq_false_iff_not, decide_true, decide_false, if_true, if_false, ite_self, Bool.not_true, Bool.not_false, Bool.false_eq_true, Bool.true_eq_false, Bool.true_and, Bool.false_and, Bool.and_true, Bool.and_false, not_true, not_false_iff, Option.bind_some, nn, toList_inj, Bool.not_eq_true', Bool.not_eq_false', Int.le_refl, and_self, true_and, and_true, false_and, and_false, bne_self_eq_false, beq_self_eq_true, Int.reduceEq, List.length_singleton, List.tail_cons, Int.reduceLE, Int.reduceLT, decide_eq_true_eq]
theorem implWithin_val (a b c : Int) (N : Nat) : impl_within.f N [.sc (.int .i64 a), .sc (.int .i64 b), .sc (.int .i64 c)] = some [boolP (decide (b ≤ a ∧ a ≤ c))] := by
  simp only [impl_within.f_eq, strs_len, strs_elem, ints_len, ints_elem, items_list, fld_agg, elem_list, toStr_sc, toInt_sc, toBool_sc, headD_one, nat_int, get_bt, decide_eq_true_eq, decide_eq_false_iff_not, decide_true, decide_false, if_true, if_false, ite_self, Bool.not_true, Bool.not_false, Bool.false_eq_true, Bool.true_eq_false, Bool.true_and, Bool.false_and, Bool.and_true, Bool.and_false, not_true, not_false_iff, Option.bind_some, nn, toList_inj, Bool.not_eq_true', Bool.not_eq_false', Int.le_refl, and_self, true_and, and_true, false_and, and_false, bne_self_eq_false, beq_self_eq_true, Int.reduceEq, List.length_singleton, List.tail_cons, Int.reduceLE, Int.reduceLT, decide_eq_true_eq]
  by_cases h1 : b ≤ a <;> by_cases h2 : a ≤ c <;> simp only [h1, h2, strs_len, strs_elem, ints_len, ints_elem, items_list, fld_agg, elem_list, toStr_sc, toInt_sc, toBool_sc, headD_one, nat_int, get_bt, decide_eq_true_eq, decide_eq_false_iff_not, decide_true, decide_false, if_true, if_false, ite_self, Bool.not_true, Bool.not_false, Bool.false_eq_true, Bool.true_eq_false, Bool.true_and, Bool.false_and, Bool.and_true, Bool.and_false, not_true, not_false_iff, Option.bind_some, nn, toList_inj, Bool.not_eq_true', Bool.not_eq_false', Int.le_refl, and_self, true_and, and_true, false_and, and_false, bne_self_eq_false, beq_self_eq_true, Int.reduceEq, List.length_singleton, List.tail_cons, Int.reduceLE, Int.reduceLT, decide_eq_true_eq]
theorem implKey_val (a : ByteArray) (ha : a.size ≤ 9223372036854775807) (N : Nat) : impl_keyOk.f N [strP a] = some [boolP (keyM a)] := by
  simp only [impl_keyOk.f_eq, implWithin_val, strs_len, strs_elem, ints_len, ints_elem, items_list, fld_agg, elem_list, toStr_sc, toInt_sc, toBool_sc, headD_one, nat_int, get_bt, decide_eq_true_eq, decide_eq_false_iff_not, decide_true, decide_false, if_true, if_false, ite_self, Bool.not_true, Bool.not_false, Bool.false_eq_true, Bool.true_eq_false, Bool.true_and, Bool.false_and, Bool.and_true, Bool.and_false, not_true, not_false_iff, Option.bind_some, nn, toList_inj, Bool.not_eq_true', Bool.not_eq_false', Int.le_refl, and_self, true_and, and_true, false_and, and_false, bne_self_eq_false, beq_self_eq_true, Int.reduceEq, List.length_singleton, List.tail_cons, Int.reduceLE, Int.reduceLT, decide_eq_true_eq, keyM]
  by_cases h1 : 1 ≤ a.size ∧ a.size ≤ 64
  · have e1 : (((a.size - 1 : Nat) : Int) < (a.size : Int)) = True := eq_true (by omega)
    simp only [h1, eq_true (show (1 : Int) ≤ a.size ∧ (a.size : Int) ≤ 64 by omega), key_byte h1.1 ha, e1, strs_len, strs_elem, ints_len, ints_elem, items_list, fld_agg, elem_list, toStr_sc, toInt_sc, toBool_sc, headD_one, nat_int, get_bt, decide_eq_true_eq, decide_eq_false_iff_not, decide_true, decide_false, if_true, if_false, ite_self, Bool.not_true, Bool.not_false, Bool.false_eq_true, Bool.true_eq_false, Bool.true_and, Bool.false_and, Bool.and_true, Bool.and_false, not_true, not_false_iff, Option.bind_some, nn, toList_inj, Bool.not_eq_true', Bool.not_eq_false', Int.le_refl, and_self, true_and, and_true, false_and, and_false, bne_self_eq_false, beq_self_eq_true, Int.reduceEq, List.length_singleton, List.tail_cons, Int.reduceLE, Int.reduceLT, decide_eq_true_eq]
  · simp only [h1, eq_false (show ¬ ((1 : Int) ≤ a.size ∧ (a.size : Int) ≤ 64) by omega), strs_len, strs_elem, ints_len, ints_elem, items_list, fld_agg, elem_list, toStr_sc, toInt_sc, toBool_sc, headD_one, nat_int, get_bt, decide_eq_true_eq, decide_eq_false_iff_not, decide_true, decide_false, if_true, if_false, ite_self, Bool.not_true, Bool.not_false, Bool.false_eq_true, Bool.true_eq_false, Bool.true_and, Bool.false_and, Bool.and_true, Bool.and_false, not_true, not_false_iff, Option.bind_some, nn, toList_inj, Bool.not_eq_true', Bool.not_eq_false', Int.le_refl, and_self, true_and, and_true, false_and, and_false, bne_self_eq_false, beq_self_eq_true, Int.reduceEq, List.length_singleton, List.tail_cons, Int.reduceLE, Int.reduceLT, decide_eq_true_eq]
/-! #### rings -/
def ringP (a : List ByteArray) (b : List Int) : PV := .agg [strsP a, intsP b]
theorem ring_f0 (a : List ByteArray) (b : List Int) : (ringP a b).fld 0 = strsP a := rfl
theorem ring_f1 (a : List ByteArray) (b : List Int) : (ringP a b).fld 1 = intsP b := rfl
theorem ring_agg (a : List ByteArray) (b : List Int) : PV.agg [strsP a, intsP b] = ringP a b := rfl
/-! #### rings that are ok -/
def keysM : List ByteArray → List ByteArray → Bool
  | _, [] => true
  | pre, c :: rest => keyM c && !decide (c ∈ pre) && keysM (pre ++ [c]) rest
def ascF : Option Int → List Int → Bool
  | _, [] => true
  | none, c :: rest => ascF (some c) rest
  | some q, c :: rest => decide (q < c) && decide (c ≤ 999999) && ascF (some c) rest
def tailM (ks : List ByteArray) (fs : List Int) : Bool := decide (1 ≤ ks.length ∧ ks.length ≤ 5) && (decide (fs.length = ks.length) && decide (fs.getD 0 0 = 1))
def ringM (ks : List ByteArray) (fs : List Int) : Bool := keysM [] ks && (ascF none fs && tailM ks fs)
def AheadI (pre : List Int) (p : Option Int) : Prop := (pre = [] ∧ p = none) ∨ ∃ pre' q, pre = pre' ++ [q] ∧ p = some q
theorem AheadI.next (pre : List Int) (c : Int) : AheadI (pre ++ [c]) (some c) := .inr ⟨pre, c, rfl, rfl⟩
theorem at_prevI {xs pre' rest : List Int} {q : Int} (hp : xs = (pre' ++ [q]) ++ rest) (hx : xs.length ≤ 9223372036854775807) :
    IntKind.i64.wrap (((pre' ++ [q]).length : Int) - 1) = (pre'.length : Int) ∧ (pre'.length : Int) < (xs.length : Int) ∧ xs.getD pre'.length 0 = q := by
  subst hp
  simp only [List.length_append, List.length_cons, List.length_nil] at hx ⊢
  refine ⟨?_, by omega, ?_⟩
  · rw [wrap_id (by omega) (by omega)]; omega
  · simp
/-! #### RingKey -/
def lastKey (n : Int) : ByteArray → List ByteArray → List Int → ByteArray
  | out, k :: ks, f :: fs => lastKey n (if f ≤ n then k else out) ks fs
  | out, _, _ => out
def ringKeyM (ks : List ByteArray) (fs : List Int) (n : Int) : ByteArray := if ringM ks fs = true then lastKey n ⟨#[]⟩ ks fs else ⟨#[]⟩
theorem ringM_len {ks : List ByteArray} {fs : List Int} (h : ringM ks fs = true) : 1 ≤ ks.length ∧ ks.length ≤ 5 ∧ fs.length = ks.length := by
  unfold ringM tailM at h
  simp only [Bool.and_eq_true, decide_eq_true_eq] at h
  omega
theorem specRing_tail (ks : List ByteArray) (fs : List Int) (hf : fs.length ≤ 9223372036854775807) (hk : ks.length ≤ 9223372036854775807) : ∀ (rest pre' : List Int) (q : Int), fs = (pre' ++ [q]) ++ rest →
    Ev2 (fun N n => spec_RingOk.l2 N n ((pre' ++ [q]).length : Int) (strsP ks) (intsP fs)) [boolP (ascF (some q) rest && tailM ks fs)] := by
  intro rest
  induction rest with
  | nil =>
    intro pre' q hp
    have hpos : 0 < fs.length := by rw [hp]; simp
    refine Ev2.succ ?_
    have hpos' : (0 : Int) < (fs.length : Int) := by omega
    simp only [spec_RingOk.l2_eq, specIn_val, strs_len, strs_elem, ints_len, ints_elem, items_list, fld_agg, elem_list, toStr_sc, toInt_sc, toBool_sc, headD_one, nat_int, get_bt, decide_eq_true_eq, decide_eq_false_iff_not, decide_true, decide_false, if_true, if_false, ite_self, Bool.not_true, Bool.not_false, Bool.false_eq_true, Bool.true_eq_false, Bool.true_and, Bool.false_and, Bool.and_true, Bool.and_false, not_true, not_false_iff, Option.bind_some, nn, toList_inj, Bool.not_eq_true', Bool.not_eq_false', Int.le_refl, and_self, true_and, and_true, false_and, and_false, bne_self_eq_false, beq_self_eq_true, Int.reduceEq, List.length_singleton, List.tail_cons, Int.reduceLE, Int.reduceLT, decide_eq_true_eq, at_end hp, ascF, tailM, hpos']
    by_cases h1 : 1 ≤ ks.length ∧ ks.length ≤ 5
    · by_cases h3 : fs.length = ks.length
      · simp only [h3, h1, eq_true (show (1 : Int) ≤ ks.length ∧ (ks.length : Int) ≤ 5 by omega), strs_len, strs_elem, ints_len, ints_elem, items_list, fld_agg, elem_list, toStr_sc, toInt_sc, toBool_sc, headD_one, nat_int, get_bt, decide_eq_true_eq, decide_eq_false_iff_not, decide_true, decide_false, if_true, if_false, ite_self, Bool.not_true, Bool.not_false, Bool.false_eq_true, Bool.true_eq_false, Bool.true_and, Bool.false_and, Bool.and_true, Bool.and_false, not_true, not_false_iff, Option.bind_some, nn, toList_inj, Bool.not_eq_true', Bool.not_eq_false', Int.le_refl, and_self, true_and, and_true, false_and, and_false, bne_self_eq_false, beq_self_eq_true, Int.reduceEq, List.length_singleton, List.tail_cons, Int.reduceLE, Int.reduceLT, decide_eq_true_eq]; exact Ev2.now _
      · simp only [h3, h1, eq_true (show (1 : Int) ≤ ks.length ∧ (ks.length : Int) ≤ 5 by omega), eq_false (show ¬ (fs.length : Int) = ks.length by omega), strs_len, strs_elem, ints_len, ints_elem, items_list, fld_agg, elem_list, toStr_sc, toInt_sc, toBool_sc, headD_one, nat_int, get_bt, decide_eq_true_eq, decide_eq_false_iff_not, decide_true, decide_false, if_true, if_false, ite_self, Bool.not_true, Bool.not_false, Bool.false_eq_true, Bool.true_eq_false, Bool.true_and, Bool.false_and, Bool.and_true, Bool.and_false, not_true, not_false_iff, Option.bind_some, nn, toList_inj, Bool.not_eq_true', Bool.not_eq_false', Int.le_refl, and_self, true_and, and_true, false_and, and_false, bne_self_eq_false, beq_self_eq_true, Int.reduceEq, List.length_singleton, List.tail_cons, Int.reduceLE, Int.reduceLT, decide_eq_true_eq]; exact Ev2.now _
    · simp only [h1, eq_false (show ¬ ((1 : Int) ≤ ks.length ∧ (ks.length : Int) ≤ 5) by omega), strs_len, strs_elem, ints_len, ints_elem, items_list, fld_agg, elem_list, toStr_sc, toInt_sc, toBool_sc, headD_one, nat_int, get_bt, decide_eq_true_eq, decide_eq_false_iff_not, decide_true, decide_false, if_true, if_false, ite_self, Bool.not_true, Bool.not_false, Bool.false_eq_true, Bool.true_eq_false, Bool.true_and, Bool.false_and, Bool.and_true, Bool.and_false, not_true, not_false_iff, Option.bind_some, nn, toList_inj, Bool.not_eq_true', Bool.not_eq_false', Int.le_refl, and_self, true_and, and_true, false_and, and_false, bne_self_eq_false, beq_self_eq_true, Int.reduceEq, List.length_singleton, List.tail_cons, Int.reduceLE, Int.reduceLT, decide_eq_true_eq]; exact Ev2.now _
  | cons c rest ih =>
    intro pre' q hp
    obtain ⟨h1, h2, h3⟩ := at_prevI hp hf
    refine Ev2.succ ?_
    simp only [spec_RingOk.l2_eq, strs_len, ints_len, ints_elem, decide_eq_true_eq, decide_eq_false_iff_not, at_lt hp, h1, nn, h2, h3, nat_int, at_getD hp, at_next hp hf, if_true]
    rw [ascF]
    by_cases c1 : c ≤ q
    · simp only [c1, not_true, if_false, decide_eq_false (show ¬ q < c by omega), Bool.false_and]; exact Ev2.now _
    by_cases c2 : 999999 < c
    · simp only [c1, c2, not_false_iff, if_true, decide_eq_true (show q < c by omega), decide_eq_false (show ¬ c ≤ 999999 by omega), Bool.false_and, Bool.true_and]; exact Ev2.now _
    simp only [c1, c2, not_false_iff, if_true, if_false, decide_eq_true (show q < c by omega), decide_eq_true (show c ≤ 999999 by omega), Bool.true_and]
    exact ih _ c (at_step hp)
/-- Behind the keys: the numbers, and how many. -/
theorem specRing_l2 (ks : List ByteArray) (fs : List Int) (hf : fs.length ≤ 9223372036854775807) (hk : ks.length ≤ 9223372036854775807) :
    Ev2 (fun N n => spec_RingOk.l2 N n 1 (strsP ks) (intsP fs)) [boolP (ascF none fs && tailM ks fs)] := by
  cases fs with
  | cons q fs => exact specRing_tail ks (q :: fs) hf hk fs [] q rfl
  | nil =>
    refine Ev2.succ ?_
    have h0 : ¬ (1 : Int) < (([] : List Int).length : Int) := by simp
    simp only [spec_RingOk.l2_eq, specIn_val, strs_len, strs_elem, ints_len, ints_elem, items_list, fld_agg, elem_list, toStr_sc, toInt_sc, toBool_sc, headD_one, nat_int, get_bt, decide_eq_true_eq, decide_eq_false_iff_not, decide_true, decide_false, if_true, if_false, ite_self, Bool.not_true, Bool.not_false, Bool.false_eq_true, Bool.true_eq_false, Bool.true_and, Bool.false_and, Bool.and_true, Bool.and_false, not_true, not_false_iff, Option.bind_some, nn, toList_inj, Bool.not_eq_true', Bool.not_eq_false', Int.le_refl, and_self, true_and, and_true, false_and, and_false, bne_self_eq_false, beq_self_eq_true, Int.reduceEq, List.length_singleton, List.tail_cons, Int.reduceLE, Int.reduceLT, decide_eq_true_eq, h0, ascF, tailM]
    by_cases h1 : 1 ≤ ks.length ∧ ks.length ≤ 5
    · have h3 : ¬ ([] : List Int).length = ks.length := by simp; omega
      have h3' : ¬ (([] : List Int).length : Int) = ks.length := by simp; omega
      simp only [h3, h3', h1, eq_true (show (1 : Int) ≤ ks.length ∧ (ks.length : Int) ≤ 5 by omega), strs_len, strs_elem, ints_len, ints_elem, items_list, fld_agg, elem_list, toStr_sc, toInt_sc, toBool_sc, headD_one, nat_int, get_bt, decide_eq_true_eq, decide_eq_false_iff_not, decide_true, decide_false, if_true, if_false, ite_self, Bool.not_true, Bool.not_false, Bool.false_eq_true, Bool.true_eq_false, Bool.true_and, Bool.false_and, Bool.and_true, Bool.and_false, not_true, not_false_iff, Option.bind_some, nn, toList_inj, Bool.not_eq_true', Bool.not_eq_false', Int.le_refl, and_self, true_and, and_true, false_and, and_false, bne_self_eq_false, beq_self_eq_true, Int.reduceEq, List.length_singleton, List.tail_cons, Int.reduceLE, Int.reduceLT, decide_eq_true_eq]; exact Ev2.now _
    · simp only [h1, eq_false (show ¬ ((1 : Int) ≤ ks.length ∧ (ks.length : Int) ≤ 5) by omega), strs_len, strs_elem, ints_len, ints_elem, items_list, fld_agg, elem_list, toStr_sc, toInt_sc, toBool_sc, headD_one, nat_int, get_bt, decide_eq_true_eq, decide_eq_false_iff_not, decide_true, decide_false, if_true, if_false, ite_self, Bool.not_true, Bool.not_false, Bool.false_eq_true, Bool.true_eq_false, Bool.true_and, Bool.false_and, Bool.and_true, Bool.and_false, not_true, not_false_iff, Option.bind_some, nn, toList_inj, Bool.not_eq_true', Bool.not_eq_false', Int.le_refl, and_self, true_and, and_true, false_and, and_false, bne_self_eq_false, beq_self_eq_true, Int.reduceEq, List.length_singleton, List.tail_cons, Int.reduceLE, Int.reduceLT, decide_eq_true_eq]; exact Ev2.now _
theorem specRing_l1 (ks : List ByteArray) (fs : List Int) (hk : ks.length ≤ 9223372036854775807) (pre rest : List ByteArray) (c : ByteArray) (hp : ks = pre ++ c :: rest) (R : Bool) (hR : Ev2 (fun N n => spec_RingOk.l0 N n ((pre ++ [c]).length : Int) (strsP ks) (intsP fs)) [boolP R]) :
    ∀ (q2 p2 : List ByteArray), pre = p2 ++ q2 → Ev3 (fun N m n => spec_RingOk.l1 N m n (pre.length : Int) (p2.length : Int) (strsP ks) (intsP fs)) [boolP (!decide (c ∈ q2) && R)] := by
  intro q2
  induction q2 with
  | nil =>
    intro p2 h2
    refine Ev3.succ ?_
    simp only [spec_RingOk.l1_eq, strs_len, decide_eq_true_eq, if_neg (at_end h2), at_next hp hk]
    simp only [List.not_mem_nil, decide_false, Bool.not_false, Bool.true_and]
    exact hR.outer
  | cons x q2 ih =>
    intro p2 h2
    have hk2 : ks = p2 ++ x :: (q2 ++ c :: rest) := by rw [hp, h2]; simp
    have hl := at_lt hp
    refine Ev3.succ ?_
    simp only [spec_RingOk.l1_eq, strs_len, strs_elem, nat_int, decide_eq_true_eq, at_lt h2, nn, at_lt hk2, hl, at_getD hk2, at_getD hp, toList_inj, at_next h2 (by omega), if_true]
    by_cases e : x = c
    · simp only [e, if_true, List.mem_cons, true_or, decide_true, Bool.not_true, Bool.false_and]
      exact Ev3.now _
    · simp only [e, if_false, List.mem_cons, show (c = x) = False from eq_false (fun h => e h.symm), false_or]
      exact ih _ (at_step h2)
theorem specRing_l0 (ks : List ByteArray) (fs : List Int) (hf : fs.length ≤ 9223372036854775807) (hk : ks.length ≤ 9223372036854775807) (hs : ∀ s ∈ ks, s.size ≤ 9223372036854775807) : ∀ (rest pre : List ByteArray), ks = pre ++ rest →
    Ev2 (fun N n => spec_RingOk.l0 N n (pre.length : Int) (strsP ks) (intsP fs)) [boolP (keysM pre rest && (ascF none fs && tailM ks fs))] := by
  intro rest
  induction rest with
  | nil =>
    intro pre hp
    refine Ev2.succ ?_
    simp only [spec_RingOk.l0_eq, strs_len, decide_eq_true_eq, if_neg (at_end hp), keysM, Bool.true_and]
    exact (specRing_l2 ks fs hf hk).after
  | cons c rest ih =>
    intro pre hp
    refine Ev2.succ ?_
    simp only [spec_RingOk.l0_eq, strs_len, strs_elem, nat_int, decide_eq_true_eq, at_lt hp, nn, at_getD hp, if_true]
    refine Ev2.bind (Ev.of (specKey_val c (hs c (by rw [hp]; simp)))) ?_
    rw [keysM]
    simp only [headD_one, toBool_sc]
    cases keyM c with
    | false => simp only [Bool.not_false, if_true, Bool.false_and]; exact Ev2.now _
    | true =>
      simp only [Bool.not_true, Bool.false_eq_true, if_false, Bool.true_and]
      have := specRing_l1 ks fs hk pre rest c hp _ (ih _ (at_step hp)) pre [] rfl
      rw [Bool.and_assoc]
      exact this.start
theorem specRingOk_ev (ks : List ByteArray) (fs : List Int) (hf : fs.length ≤ 9223372036854775807) (hk : ks.length ≤ 9223372036854775807) (hs : ∀ s ∈ ks, s.size ≤ 9223372036854775807) :
    Ev (fun N => spec_RingOk.f N [ringP ks fs]) [boolP (ringM ks fs)] := by
  simp only [spec_RingOk.f_eq, ring_f0, ring_f1]
  exact (specRing_l0 ks fs hf hk hs ks [] rfl).diag
theorem specL11_loop (ks : List ByteArray) (fs : List Int) (n : Int) (hl : fs.length = ks.length) (hk : ks.length ≤ 9223372036854775807) : ∀ (rest pre : List ByteArray) (frest fpre : List Int), ks = pre ++ rest → fs = fpre ++ frest → fpre.length = pre.length → ∀ out : ByteArray,
    Ev2 (fun N m => spec_l11Key.l0 N m n out (pre.length : Int) (strsP ks) (intsP fs)) [strP (lastKey n out rest frest)] := by
  intro rest
  induction rest with
  | nil =>
    intro pre frest fpre hp hf hfl out
    refine Ev2.succ ?_
    simp only [spec_l11Key.l0_eq, at_end hp, lastKey, strs_len, strs_elem, ints_len, ints_elem, items_list, fld_agg, elem_list, toStr_sc, toInt_sc, toBool_sc, headD_one, nat_int, get_bt, decide_eq_true_eq, decide_eq_false_iff_not, decide_true, decide_false, if_true, if_false, ite_self, Bool.not_true, Bool.not_false, Bool.false_eq_true, Bool.true_eq_false, Bool.true_and, Bool.false_and, Bool.and_true, Bool.and_false, not_true, not_false_iff, Option.bind_some, nn, toList_inj, Bool.not_eq_true', Bool.not_eq_false', Int.le_refl, and_self, true_and, and_true, false_and, and_false, bne_self_eq_false, beq_self_eq_true, Int.reduceEq, List.length_singleton, List.tail_cons, Int.reduceLE, Int.reduceLT, decide_eq_true_eq]
    exact Ev2.now _
  | cons c rest ih =>
    intro pre frest fpre hp hf hfl out
    obtain ⟨f, frest, rfl⟩ : ∃ f fr, frest = f :: fr := by
      cases frest with
      | cons f fr => exact ⟨f, fr, rfl⟩
      | nil =>
        have h1 := congrArg List.length hp
        have h2 := congrArg List.length hf
        simp at h1 h2
        omega
    have hflt : (pre.length : Int) < fs.length := by have := at_lt hf; omega
    have hfg : fs.getD pre.length 0 = f := by rw [← hfl]; exact at_getD hf
    refine Ev2.succ ?_
    simp only [spec_l11Key.l0_eq, at_lt hp, hflt, hfg, at_getD hp, at_next hp hk, lastKey, strs_len, strs_elem, ints_len, ints_elem, items_list, fld_agg, elem_list, toStr_sc, toInt_sc, toBool_sc, headD_one, nat_int, get_bt, decide_eq_true_eq, decide_eq_false_iff_not, decide_true, decide_false, if_true, if_false, ite_self, Bool.not_true, Bool.not_false, Bool.false_eq_true, Bool.true_eq_false, Bool.true_and, Bool.false_and, Bool.and_true, Bool.and_false, not_true, not_false_iff, Option.bind_some, nn, toList_inj, Bool.not_eq_true', Bool.not_eq_false', Int.le_refl, and_self, true_and, and_true, false_and, and_false, bne_self_eq_false, beq_self_eq_true, Int.reduceEq, List.length_singleton, List.tail_cons, Int.reduceLE, Int.reduceLT, decide_eq_true_eq]
    by_cases h : f ≤ n
    · simp only [h, strs_len, strs_elem, ints_len, ints_elem, items_list, fld_agg, elem_list, toStr_sc, toInt_sc, toBool_sc, headD_one, nat_int, get_bt, decide_eq_true_eq, decide_eq_false_iff_not, decide_true, decide_false, if_true, if_false, ite_self, Bool.not_true, Bool.not_false, Bool.false_eq_true, Bool.true_eq_false, Bool.true_and, Bool.false_and, Bool.and_true, Bool.and_false, not_true, not_false_iff, Option.bind_some, nn, toList_inj, Bool.not_eq_true', Bool.not_eq_false', Int.le_refl, and_self, true_and, and_true, false_and, and_false, bne_self_eq_false, beq_self_eq_true, Int.reduceEq, List.length_singleton, List.tail_cons, Int.reduceLE, Int.reduceLT, decide_eq_true_eq]; exact ih _ _ _ (at_step hp) (at_step hf) (by simp [hfl]) _
    · simp only [h, strs_len, strs_elem, ints_len, ints_elem, items_list, fld_agg, elem_list, toStr_sc, toInt_sc, toBool_sc, headD_one, nat_int, get_bt, decide_eq_true_eq, decide_eq_false_iff_not, decide_true, decide_false, if_true, if_false, ite_self, Bool.not_true, Bool.not_false, Bool.false_eq_true, Bool.true_eq_false, Bool.true_and, Bool.false_and, Bool.and_true, Bool.and_false, not_true, not_false_iff, Option.bind_some, nn, toList_inj, Bool.not_eq_true', Bool.not_eq_false', Int.le_refl, and_self, true_and, and_true, false_and, and_false, bne_self_eq_false, beq_self_eq_true, Int.reduceEq, List.length_singleton, List.tail_cons, Int.reduceLE, Int.reduceLT, decide_eq_true_eq]; exact ih _ _ _ (at_step hp) (at_step hf) (by simp [hfl]) _
theorem specRingKey_ev (ks : List ByteArray) (fs : List Int) (n : Int) (hf : fs.length ≤ 9223372036854775807) (hk : ks.length ≤ 9223372036854775807) (hs : ∀ s ∈ ks, s.size ≤ 9223372036854775807) :
    Ev (fun N => spec_RingKey.f N [ringP ks fs, intP n]) [strP (ringKeyM ks fs n)] := by
  simp only [spec_RingKey.f_eq, ring_f0, ring_f1, ring_agg, ringKeyM, strs_len, strs_elem, ints_len, ints_elem, items_list, fld_agg, elem_list, toStr_sc, toInt_sc, toBool_sc, headD_one, nat_int, get_bt, decide_eq_true_eq, decide_eq_false_iff_not, decide_true, decide_false, if_true, if_false, ite_self, Bool.not_true, Bool.not_false, Bool.false_eq_true, Bool.true_eq_false, Bool.true_and, Bool.false_and, Bool.and_true, Bool.and_false, not_true, not_false_iff, Option.bind_some, nn, toList_inj, Bool.not_eq_true', Bool.not_eq_false', Int.le_refl, and_self, true_and, and_true, false_and, and_false, bne_self_eq_false, beq_self_eq_true, Int.reduceEq, List.length_singleton, List.tail_cons, Int.reduceLE, Int.reduceLT, decide_eq_true_eq]
  refine Ev.bind (specRingOk_ev ks fs hf hk hs) ?_
  cases h : ringM ks fs with
  | false => simp only [strs_len, strs_elem, ints_len, ints_elem, items_list, fld_agg, elem_list, toStr_sc, toInt_sc, toBool_sc, headD_one, nat_int, get_bt, decide_eq_true_eq, decide_eq_false_iff_not, decide_true, decide_false, if_true, if_false, ite_self, Bool.not_true, Bool.not_false, Bool.false_eq_true, Bool.true_eq_false, Bool.true_and, Bool.false_and, Bool.and_true, Bool.and_false, not_true, not_false_iff, Option.bind_some, nn, toList_inj, Bool.not_eq_true', Bool.not_eq_false', Int.le_refl, and_self, true_and, and_true, false_and, and_false, bne_self_eq_false, beq_self_eq_true, Int.reduceEq, List.length_singleton, List.tail_cons, Int.reduceLE, Int.reduceLT, decide_eq_true_eq]; exact Ev.now _
  | true =>
    simp only [spec_l11Key.f_eq, ring_f0, ring_f1, strs_len, strs_elem, ints_len, ints_elem, items_list, fld_agg, elem_list, toStr_sc, toInt_sc, toBool_sc, headD_one, nat_int, get_bt, decide_eq_true_eq, decide_eq_false_iff_not, decide_true, decide_false, if_true, if_false, ite_self, Bool.not_true, Bool.not_false, Bool.false_eq_true, Bool.true_eq_false, Bool.true_and, Bool.false_and, Bool.and_true, Bool.and_false, not_true, not_false_iff, Option.bind_some, nn, toList_inj, Bool.not_eq_true', Bool.not_eq_false', Int.le_refl, and_self, true_and, and_true, false_and, and_false, bne_self_eq_false, beq_self_eq_true, Int.reduceEq, List.length_singleton, List.tail_cons, Int.reduceLE, Int.reduceLT, decide_eq_true_eq]
    refine Ev.bind (specL11_loop ks fs n (ringM_len h).2.2 hk ks [] fs [] rfl rfl rfl _).diag ?_
    simp only [strs_len, strs_elem, ints_len, ints_elem, items_list, fld_agg, elem_list, toStr_sc, toInt_sc, toBool_sc, headD_one, nat_int, get_bt, decide_eq_true_eq, decide_eq_false_iff_not, decide_true, decide_false, if_true, if_false, ite_self, Bool.not_true, Bool.not_false, Bool.false_eq_true, Bool.true_eq_false, Bool.true_and, Bool.false_and, Bool.and_true, Bool.and_false, not_true, not_false_iff, Option.bind_some, nn, toList_inj, Bool.not_eq_true', Bool.not_eq_false', Int.le_refl, and_self, true_and, and_true, false_and, and_false, bne_self_eq_false, beq_self_eq_true, Int.reduceEq, List.length_singleton, List.tail_cons, Int.reduceLE, Int.reduceLT, decide_eq_true_eq]
    exact Ev.now _
theorem index_loop (a : List ByteArray) (c : ByteArray) (ha : a.length ≤ 9223372036854775807) : ∀ (rest pre : List ByteArray), a = pre ++ rest →
    ∃ r : Int, Ev2 (fun N n => slices_Index_string_string.l0 N n (strsP a) c (a.length : Int) (pre.length : Int)) [intP r] ∧ (0 ≤ r ↔ c ∈ rest) := by
  intro rest
  induction rest with
  | nil =>
    intro pre hp
    refine ⟨-1, Ev2.succ ?_, by simp⟩
    simp only [slices_Index_string_string.l0_eq, at_end hp, strs_len, strs_elem, ints_len, ints_elem, items_list, fld_agg, elem_list, toStr_sc, toInt_sc, toBool_sc, headD_one, nat_int, get_bt, decide_eq_true_eq, decide_eq_false_iff_not, decide_true, decide_false, if_true, if_false, ite_self, Bool.not_true, Bool.not_false, Bool.false_eq_true, Bool.true_eq_false, Bool.true_and, Bool.false_and, Bool.and_true, Bool.and_false, not_true, not_false_iff, Option.bind_some, nn, toList_inj, Bool.not_eq_true', Bool.not_eq_false', Int.le_refl, and_self, true_and, and_true, false_and, and_false, bne_self_eq_false, beq_self_eq_true, Int.reduceEq, List.length_singleton, List.tail_cons, Int.reduceLE, Int.reduceLT, decide_eq_true_eq]
    exact Ev2.now _
  | cons x rest ih =>
    intro pre hp
    by_cases e : c = x
    · refine ⟨pre.length, Ev2.succ ?_, by simp [e]⟩
      simp only [slices_Index_string_string.l0_eq, at_lt hp, at_getD hp, e, strs_len, strs_elem, ints_len, ints_elem, items_list, fld_agg, elem_list, toStr_sc, toInt_sc, toBool_sc, headD_one, nat_int, get_bt, decide_eq_true_eq, decide_eq_false_iff_not, decide_true, decide_false, if_true, if_false, ite_self, Bool.not_true, Bool.not_false, Bool.false_eq_true, Bool.true_eq_false, Bool.true_and, Bool.false_and, Bool.and_true, Bool.and_false, not_true, not_false_iff, Option.bind_some, nn, toList_inj, Bool.not_eq_true', Bool.not_eq_false', Int.le_refl, and_self, true_and, and_true, false_and, and_false, bne_self_eq_false, beq_self_eq_true, Int.reduceEq, List.length_singleton, List.tail_cons, Int.reduceLE, Int.reduceLT, decide_eq_true_eq]
      exact Ev2.now _
    · obtain ⟨r, hr, hv⟩ := ih _ (at_step hp)
      refine ⟨r, Ev2.succ ?_, by rw [hv]; simp [e]⟩
      simp only [slices_Index_string_string.l0_eq, at_lt hp, at_getD hp, e, at_next hp ha, strs_len, strs_elem, ints_len, ints_elem, items_list, fld_agg, elem_list, toStr_sc, toInt_sc, toBool_sc, headD_one, nat_int, get_bt, decide_eq_true_eq, decide_eq_false_iff_not, decide_true, decide_false, if_true, if_false, ite_self, Bool.not_true, Bool.not_false, Bool.false_eq_true, Bool.true_eq_false, Bool.true_and, Bool.false_and, Bool.and_true, Bool.and_false, not_true, not_false_iff, Option.bind_some, nn, toList_inj, Bool.not_eq_true', Bool.not_eq_false', Int.le_refl, and_self, true_and, and_true, false_and, and_false, bne_self_eq_false, beq_self_eq_true, Int.reduceEq, List.length_singleton, List.tail_cons, Int.reduceLE, Int.reduceLT, decide_eq_true_eq]
      exact hr
theorem contains_ev (a : List ByteArray) (c : ByteArray) (ha : a.length ≤ 9223372036854775807) : Ev (fun N => slices_Contains_string_string.f N [strsP a, strP c]) [boolP (decide (c ∈ a))] := by
  obtain ⟨r, hr, hv⟩ := index_loop a c ha a [] rfl
  simp only [slices_Contains_string_string.f_eq, slices_Index_string_string.f_eq, strs_len, strs_elem, ints_len, ints_elem, items_list, fld_agg, elem_list, toStr_sc, toInt_sc, toBool_sc, headD_one, nat_int, get_bt, decide_eq_true_eq, decide_eq_false_iff_not, decide_true, decide_false, if_true, if_false, ite_self, Bool.not_true, Bool.not_false, Bool.false_eq_true, Bool.true_eq_false, Bool.true_and, Bool.false_and, Bool.and_true, Bool.and_false, not_true, not_false_iff, Option.bind_some, nn, toList_inj, Bool.not_eq_true', Bool.not_eq_false', Int.le_refl, and_self, true_and, and_true, false_and, and_false, bne_self_eq_false, beq_self_eq_true, Int.reduceEq, List.length_singleton, List.tail_cons, Int.reduceLE, Int.reduceLT, decide_eq_true_eq]
  refine Ev.bind hr.diag ?_
  refine Ev.ext (Ev.now _) ?_
  simp only [strs_len, strs_elem, ints_len, ints_elem, items_list, fld_agg, elem_list, toStr_sc, toInt_sc, toBool_sc, headD_one, nat_int, get_bt, decide_eq_true_eq, decide_eq_false_iff_not, decide_true, decide_false, if_true, if_false, ite_self, Bool.not_true, Bool.not_false, Bool.false_eq_true, Bool.true_eq_false, Bool.true_and, Bool.false_and, Bool.and_true, Bool.and_false, not_true, not_false_iff, Option.bind_some, nn, toList_inj, Bool.not_eq_true', Bool.not_eq_false', Int.le_refl, and_self, true_and, and_true, false_and, and_false, bne_self_eq_false, beq_self_eq_true, Int.reduceEq, List.length_singleton, List.tail_cons, Int.reduceLE, Int.reduceLT, decide_eq_true_eq]
  exact congrArg (fun b => [boolP b]) (decide_eq_decide.2 hv)
theorem implRing_l0 (ks : List ByteArray) (fs : List Int) (hl : fs.length = ks.length) (hk : ks.length ≤ 5) (hs : ∀ s ∈ ks, s.size ≤ 9223372036854775807) : ∀ (rest pre : List ByteArray) (frest fpre : List Int) (p : Option Int), ks = pre ++ rest → fs = fpre ++ frest → fpre.length = pre.length → AheadI fpre p →
    (p = none → ∀ f ∈ frest.head?, f ≤ 999999) →
    Ev2 (fun N n => impl_RingOk.l0 N n (strsP ks) (ks.length : Int) (pre.length : Int) (strsP ks) (intsP fs)) [boolP (keysM pre rest && ascF p frest)] := by
  intro rest
  induction rest with
  | nil =>
    intro pre frest fpre p hp hf hfl _ _
    obtain rfl : frest = [] := by
      have h1 := congrArg List.length hp
      have h2 := congrArg List.length hf
      simp at h1 h2
      exact List.eq_nil_of_length_eq_zero (by omega)
    refine Ev2.succ ?_
    simp only [impl_RingOk.l0_eq, at_end hp, keysM, strs_len, strs_elem, ints_len, ints_elem, items_list, fld_agg, elem_list, toStr_sc, toInt_sc, toBool_sc, headD_one, nat_int, get_bt, decide_eq_true_eq, decide_eq_false_iff_not, decide_true, decide_false, if_true, if_false, ite_self, Bool.not_true, Bool.not_false, Bool.false_eq_true, Bool.true_eq_false, Bool.true_and, Bool.false_and, Bool.and_true, Bool.and_false, not_true, not_false_iff, Option.bind_some, nn, toList_inj, Bool.not_eq_true', Bool.not_eq_false', Int.le_refl, and_self, true_and, and_true, false_and, and_false, bne_self_eq_false, beq_self_eq_true, Int.reduceEq, List.length_singleton, List.tail_cons, Int.reduceLE, Int.reduceLT, decide_eq_true_eq]
    cases p <;> simp only [ascF] <;> exact Ev2.now _
  | cons c rest ih =>
    intro pre frest fpre p hp hf hfl hA hfirst
    obtain ⟨f, frest, rfl⟩ : ∃ f fr, frest = f :: fr := by
      cases frest with
      | cons f fr => exact ⟨f, fr, rfl⟩
      | nil =>
        have h1 := congrArg List.length hp
        have h2 := congrArg List.length hf
        simp at h1 h2
        omega
    have hlt := at_lt hp
    have hle : (pre.length : Int) ≤ (ks.length : Int) := by omega
    have hflt : (pre.length : Int) < fs.length := by have := at_lt hf; omega
    have hfg : fs.getD pre.length 0 = f := by rw [← hfl]; exact at_getD hf
    have hnext := ih _ frest _ (some f) (at_step hp) (at_step hf) (by simp [hfl]) (AheadI.next fpre f) (by simp)
    have htake : ((ks.drop 0).take (pre.length - 0)) = pre := by rw [hp]; simp
    refine Ev2.succ ?_
    simp only [impl_RingOk.l0_eq, hlt, hle, at_getD hp, at_next hp (by omega), hflt, hfg, strs_take, htake, strs_len, strs_elem, ints_len, ints_elem, items_list, fld_agg, elem_list, toStr_sc, toInt_sc, toBool_sc, headD_one, nat_int, get_bt, decide_eq_true_eq, decide_eq_false_iff_not, decide_true, decide_false, if_true, if_false, ite_self, Bool.not_true, Bool.not_false, Bool.false_eq_true, Bool.true_eq_false, Bool.true_and, Bool.false_and, Bool.and_true, Bool.and_false, not_true, not_false_iff, Option.bind_some, nn, toList_inj, Bool.not_eq_true', Bool.not_eq_false', Int.le_refl, and_self, true_and, and_true, false_and, and_false, bne_self_eq_false, beq_self_eq_true, Int.reduceEq, List.length_singleton, List.tail_cons, Int.reduceLE, Int.reduceLT, decide_eq_true_eq]
    refine Ev2.bind (Ev.of (implKey_val c (hs c (by rw [hp]; simp)))) ?_
    rw [keysM]
    simp only [strs_len, strs_elem, ints_len, ints_elem, items_list, fld_agg, elem_list, toStr_sc, toInt_sc, toBool_sc, headD_one, nat_int, get_bt, decide_eq_true_eq, decide_eq_false_iff_not, decide_true, decide_false, if_true, if_false, ite_self, Bool.not_true, Bool.not_false, Bool.false_eq_true, Bool.true_eq_false, Bool.true_and, Bool.false_and, Bool.and_true, Bool.and_false, not_true, not_false_iff, Option.bind_some, nn, toList_inj, Bool.not_eq_true', Bool.not_eq_false', Int.le_refl, and_self, true_and, and_true, false_and, and_false, bne_self_eq_false, beq_self_eq_true, Int.reduceEq, List.length_singleton, List.tail_cons, Int.reduceLE, Int.reduceLT, decide_eq_true_eq]
    cases keyM c with
    | false => simp only [strs_len, strs_elem, ints_len, ints_elem, items_list, fld_agg, elem_list, toStr_sc, toInt_sc, toBool_sc, headD_one, nat_int, get_bt, decide_eq_true_eq, decide_eq_false_iff_not, decide_true, decide_false, if_true, if_false, ite_self, Bool.not_true, Bool.not_false, Bool.false_eq_true, Bool.true_eq_false, Bool.true_and, Bool.false_and, Bool.and_true, Bool.and_false, not_true, not_false_iff, Option.bind_some, nn, toList_inj, Bool.not_eq_true', Bool.not_eq_false', Int.le_refl, and_self, true_and, and_true, false_and, and_false, bne_self_eq_false, beq_self_eq_true, Int.reduceEq, List.length_singleton, List.tail_cons, Int.reduceLE, Int.reduceLT, decide_eq_true_eq]; exact Ev2.now _
    | true =>
      simp only [strs_len, strs_elem, ints_len, ints_elem, items_list, fld_agg, elem_list, toStr_sc, toInt_sc, toBool_sc, headD_one, nat_int, get_bt, decide_eq_true_eq, decide_eq_false_iff_not, decide_true, decide_false, if_true, if_false, ite_self, Bool.not_true, Bool.not_false, Bool.false_eq_true, Bool.true_eq_false, Bool.true_and, Bool.false_and, Bool.and_true, Bool.and_false, not_true, not_false_iff, Option.bind_some, nn, toList_inj, Bool.not_eq_true', Bool.not_eq_false', Int.le_refl, and_self, true_and, and_true, false_and, and_false, bne_self_eq_false, beq_self_eq_true, Int.reduceEq, List.length_singleton, List.tail_cons, Int.reduceLE, Int.reduceLT, decide_eq_true_eq]
      refine Ev2.bind (contains_ev pre c (by omega)) ?_
      simp only [strs_len, strs_elem, ints_len, ints_elem, items_list, fld_agg, elem_list, toStr_sc, toInt_sc, toBool_sc, headD_one, nat_int, get_bt, decide_eq_true_eq, decide_eq_false_iff_not, decide_true, decide_false, if_true, if_false, ite_self, Bool.not_true, Bool.not_false, Bool.false_eq_true, Bool.true_eq_false, Bool.true_and, Bool.false_and, Bool.and_true, Bool.and_false, not_true, not_false_iff, Option.bind_some, nn, toList_inj, Bool.not_eq_true', Bool.not_eq_false', Int.le_refl, and_self, true_and, and_true, false_and, and_false, bne_self_eq_false, beq_self_eq_true, Int.reduceEq, List.length_singleton, List.tail_cons, Int.reduceLE, Int.reduceLT, decide_eq_true_eq]
      by_cases hm : c ∈ pre
      · simp only [hm, strs_len, strs_elem, ints_len, ints_elem, items_list, fld_agg, elem_list, toStr_sc, toInt_sc, toBool_sc, headD_one, nat_int, get_bt, decide_eq_true_eq, decide_eq_false_iff_not, decide_true, decide_false, if_true, if_false, ite_self, Bool.not_true, Bool.not_false, Bool.false_eq_true, Bool.true_eq_false, Bool.true_and, Bool.false_and, Bool.and_true, Bool.and_false, not_true, not_false_iff, Option.bind_some, nn, toList_inj, Bool.not_eq_true', Bool.not_eq_false', Int.le_refl, and_self, true_and, and_true, false_and, and_false, bne_self_eq_false, beq_self_eq_true, Int.reduceEq, List.length_singleton, List.tail_cons, Int.reduceLE, Int.reduceLT, decide_eq_true_eq]; exact Ev2.now _
      simp only [hm, strs_len, strs_elem, ints_len, ints_elem, items_list, fld_agg, elem_list, toStr_sc, toInt_sc, toBool_sc, headD_one, nat_int, get_bt, decide_eq_true_eq, decide_eq_false_iff_not, decide_true, decide_false, if_true, if_false, ite_self, Bool.not_true, Bool.not_false, Bool.false_eq_true, Bool.true_eq_false, Bool.true_and, Bool.false_and, Bool.and_true, Bool.and_false, not_true, not_false_iff, Option.bind_some, nn, toList_inj, Bool.not_eq_true', Bool.not_eq_false', Int.le_refl, and_self, true_and, and_true, false_and, and_false, bne_self_eq_false, beq_self_eq_true, Int.reduceEq, List.length_singleton, List.tail_cons, Int.reduceLE, Int.reduceLT, decide_eq_true_eq]
      rcases hA with ⟨rfl, rfl⟩ | ⟨pre', q, rfl, rfl⟩
      · have := hfirst rfl f (by simp)
        have h0 : pre.length = 0 := by simpa using hfl.symm
        simp only [eq_false (show ¬ 999999 < f by omega), h0, Int.natCast_zero, Int.lt_irrefl, ascF, strs_len, strs_elem, ints_len, ints_elem, items_list, fld_agg, elem_list, toStr_sc, toInt_sc, toBool_sc, headD_one, nat_int, get_bt, decide_eq_true_eq, decide_eq_false_iff_not, decide_true, decide_false, if_true, if_false, ite_self, Bool.not_true, Bool.not_false, Bool.false_eq_true, Bool.true_eq_false, Bool.true_and, Bool.false_and, Bool.and_true, Bool.and_false, not_true, not_false_iff, Option.bind_some, nn, toList_inj, Bool.not_eq_true', Bool.not_eq_false', Int.le_refl, and_self, true_and, and_true, false_and, and_false, bne_self_eq_false, beq_self_eq_true, Int.reduceEq, List.length_singleton, List.tail_cons, Int.reduceLE, Int.reduceLT, decide_eq_true_eq]
        have e : ((pre ++ [c]).length : Int) = 0 + 1 := by simp [h0]
        have e2 : IntKind.i64.wrap (0 + 1) = 0 + 1 := wrap_id (by omega) (by omega)
        rw [e] at hnext
        simpa only [e] using hnext
      · obtain ⟨h1, h2, h3⟩ := at_prevI hf (by omega)
        rw [hfl] at h1
        rw [ascF]
        by_cases c2 : 999999 < f
        · simp only [c2, eq_false (show ¬ f ≤ 999999 by omega), strs_len, strs_elem, ints_len, ints_elem, items_list, fld_agg, elem_list, toStr_sc, toInt_sc, toBool_sc, headD_one, nat_int, get_bt, decide_eq_true_eq, decide_eq_false_iff_not, decide_true, decide_false, if_true, if_false, ite_self, Bool.not_true, Bool.not_false, Bool.false_eq_true, Bool.true_eq_false, Bool.true_and, Bool.false_and, Bool.and_true, Bool.and_false, not_true, not_false_iff, Option.bind_some, nn, toList_inj, Bool.not_eq_true', Bool.not_eq_false', Int.le_refl, and_self, true_and, and_true, false_and, and_false, bne_self_eq_false, beq_self_eq_true, Int.reduceEq, List.length_singleton, List.tail_cons, Int.reduceLE, Int.reduceLT, decide_eq_true_eq]
          exact Ev2.now _
        have hpos : (0 : Int) < (pre.length : Int) := by rw [← hfl]; simp
        simp only [c2, hpos, h1, h2, h3, strs_len, strs_elem, ints_len, ints_elem, items_list, fld_agg, elem_list, toStr_sc, toInt_sc, toBool_sc, headD_one, nat_int, get_bt, decide_eq_true_eq, decide_eq_false_iff_not, decide_true, decide_false, if_true, if_false, ite_self, Bool.not_true, Bool.not_false, Bool.false_eq_true, Bool.true_eq_false, Bool.true_and, Bool.false_and, Bool.and_true, Bool.and_false, not_true, not_false_iff, Option.bind_some, nn, toList_inj, Bool.not_eq_true', Bool.not_eq_false', Int.le_refl, and_self, true_and, and_true, false_and, and_false, bne_self_eq_false, beq_self_eq_true, Int.reduceEq, List.length_singleton, List.tail_cons, Int.reduceLE, Int.reduceLT, decide_eq_true_eq]
        by_cases c1 : f ≤ q
        · simp only [c1, eq_false (show ¬ q < f by omega), strs_len, strs_elem, ints_len, ints_elem, items_list, fld_agg, elem_list, toStr_sc, toInt_sc, toBool_sc, headD_one, nat_int, get_bt, decide_eq_true_eq, decide_eq_false_iff_not, decide_true, decide_false, if_true, if_false, ite_self, Bool.not_true, Bool.not_false, Bool.false_eq_true, Bool.true_eq_false, Bool.true_and, Bool.false_and, Bool.and_true, Bool.and_false, not_true, not_false_iff, Option.bind_some, nn, toList_inj, Bool.not_eq_true', Bool.not_eq_false', Int.le_refl, and_self, true_and, and_true, false_and, and_false, bne_self_eq_false, beq_self_eq_true, Int.reduceEq, List.length_singleton, List.tail_cons, Int.reduceLE, Int.reduceLT, decide_eq_true_eq]; exact Ev2.now _
        simp only [c1, eq_true (show q < f by omega), eq_true (show f ≤ 999999 by omega), strs_len, strs_elem, ints_len, ints_elem, items_list, fld_agg, elem_list, toStr_sc, toInt_sc, toBool_sc, headD_one, nat_int, get_bt, decide_eq_true_eq, decide_eq_false_iff_not, decide_true, decide_false, if_true, if_false, ite_self, Bool.not_true, Bool.not_false, Bool.false_eq_true, Bool.true_eq_false, Bool.true_and, Bool.false_and, Bool.and_true, Bool.and_false, not_true, not_false_iff, Option.bind_some, nn, toList_inj, Bool.not_eq_true', Bool.not_eq_false', Int.le_refl, and_self, true_and, and_true, false_and, and_false, bne_self_eq_false, beq_self_eq_true, Int.reduceEq, List.length_singleton, List.tail_cons, Int.reduceLE, Int.reduceLT, decide_eq_true_eq]
        exact hnext
theorem implRingOk_ev (ks : List ByteArray) (fs : List Int) (hf : fs.length ≤ 9223372036854775807) (hk : ks.length ≤ 9223372036854775807) (hs : ∀ s ∈ ks, s.size ≤ 9223372036854775807) :
    Ev (fun N => impl_RingOk.f N [ringP ks fs]) [boolP (ringM ks fs)] := by
  simp only [impl_RingOk.f_eq, ring_f0, ring_f1, implWithin_val, ringM, tailM, strs_len, strs_elem, ints_len, ints_elem, items_list, fld_agg, elem_list, toStr_sc, toInt_sc, toBool_sc, headD_one, nat_int, get_bt, decide_eq_true_eq, decide_eq_false_iff_not, decide_true, decide_false, if_true, if_false, ite_self, Bool.not_true, Bool.not_false, Bool.false_eq_true, Bool.true_eq_false, Bool.true_and, Bool.false_and, Bool.and_true, Bool.and_false, not_true, not_false_iff, Option.bind_some, nn, toList_inj, Bool.not_eq_true', Bool.not_eq_false', Int.le_refl, and_self, true_and, and_true, false_and, and_false, bne_self_eq_false, beq_self_eq_true, Int.reduceEq, List.length_singleton, List.tail_cons, Int.reduceLE, Int.reduceLT, decide_eq_true_eq]
  by_cases h1 : 1 ≤ ks.length ∧ ks.length ≤ 5
  · have h1' : (1 : Int) ≤ ks.length ∧ (ks.length : Int) ≤ 5 := by omega
    by_cases h2 : fs.length = ks.length
    · have h4 : (0 : Int) < (ks.length : Int) := by omega
      by_cases h3 : fs.getD 0 0 = 1
      · simp only [h1, h1', h2, h3, h4, strs_len, strs_elem, ints_len, ints_elem, items_list, fld_agg, elem_list, toStr_sc, toInt_sc, toBool_sc, headD_one, nat_int, get_bt, decide_eq_true_eq, decide_eq_false_iff_not, decide_true, decide_false, if_true, if_false, ite_self, Bool.not_true, Bool.not_false, Bool.false_eq_true, Bool.true_eq_false, Bool.true_and, Bool.false_and, Bool.and_true, Bool.and_false, not_true, not_false_iff, Option.bind_some, nn, toList_inj, Bool.not_eq_true', Bool.not_eq_false', Int.le_refl, and_self, true_and, and_true, false_and, and_false, bne_self_eq_false, beq_self_eq_true, Int.reduceEq, List.length_singleton, List.tail_cons, Int.reduceLE, Int.reduceLT, decide_eq_true_eq]
        have := implRing_l0 ks fs h2 h1.2 hs ks [] fs [] none rfl rfl rfl (.inl ⟨rfl, rfl⟩) (fun _ f hfm => by
          cases fs with
          | nil => simp at hfm
          | cons g fs =>
            simp at hfm h3
            omega)
        exact this.diag
      · simp only [h1, h1', h2, h3, h4, strs_len, strs_elem, ints_len, ints_elem, items_list, fld_agg, elem_list, toStr_sc, toInt_sc, toBool_sc, headD_one, nat_int, get_bt, decide_eq_true_eq, decide_eq_false_iff_not, decide_true, decide_false, if_true, if_false, ite_self, Bool.not_true, Bool.not_false, Bool.false_eq_true, Bool.true_eq_false, Bool.true_and, Bool.false_and, Bool.and_true, Bool.and_false, not_true, not_false_iff, Option.bind_some, nn, toList_inj, Bool.not_eq_true', Bool.not_eq_false', Int.le_refl, and_self, true_and, and_true, false_and, and_false, bne_self_eq_false, beq_self_eq_true, Int.reduceEq, List.length_singleton, List.tail_cons, Int.reduceLE, Int.reduceLT, decide_eq_true_eq]
        exact Ev.now _
    · simp only [h1, h1', h2, eq_false (show ¬ (fs.length : Int) = ks.length by omega), strs_len, strs_elem, ints_len, ints_elem, items_list, fld_agg, elem_list, toStr_sc, toInt_sc, toBool_sc, headD_one, nat_int, get_bt, decide_eq_true_eq, decide_eq_false_iff_not, decide_true, decide_false, if_true, if_false, ite_self, Bool.not_true, Bool.not_false, Bool.false_eq_true, Bool.true_eq_false, Bool.true_and, Bool.false_and, Bool.and_true, Bool.and_false, not_true, not_false_iff, Option.bind_some, nn, toList_inj, Bool.not_eq_true', Bool.not_eq_false', Int.le_refl, and_self, true_and, and_true, false_and, and_false, bne_self_eq_false, beq_self_eq_true, Int.reduceEq, List.length_singleton, List.tail_cons, Int.reduceLE, Int.reduceLT, decide_eq_true_eq]
      exact Ev.now _
  · simp only [h1, eq_false (show ¬ ((1 : Int) ≤ ks.length ∧ (ks.length : Int) ≤ 5) by omega), strs_len, strs_elem, ints_len, ints_elem, items_list, fld_agg, elem_list, toStr_sc, toInt_sc, toBool_sc, headD_one, nat_int, get_bt, decide_eq_true_eq, decide_eq_false_iff_not, decide_true, decide_false, if_true, if_false, ite_self, Bool.not_true, Bool.not_false, Bool.false_eq_true, Bool.true_eq_false, Bool.true_and, Bool.false_and, Bool.and_true, Bool.and_false, not_true, not_false_iff, Option.bind_some, nn, toList_inj, Bool.not_eq_true', Bool.not_eq_false', Int.le_refl, and_self, true_and, and_true, false_and, and_false, bne_self_eq_false, beq_self_eq_true, Int.reduceEq, List.length_singleton, List.tail_cons, Int.reduceLE, Int.reduceLT, decide_eq_true_eq]
    exact Ev.now _
theorem implKey_loop (ks : List ByteArray) (fs : List Int) (n : Int) (hl : fs.length = ks.length) (hk : ks.length ≤ 9223372036854775807) : ∀ (rest pre : List ByteArray) (frest fpre : List Int), ks = pre ++ rest → fs = fpre ++ frest → fpre.length = pre.length → ∀ out : ByteArray,
    Ev2 (fun N m => impl_RingKey.l0 N m n out (intsP fs) (fs.length : Int) (fpre.length : Int) (strsP ks) (intsP fs)) [strP (lastKey n out rest frest)] := by
  intro rest
  induction rest with
  | nil =>
    intro pre frest fpre hp hf hfl out
    obtain rfl : frest = [] := by
      have h1 := congrArg List.length hp
      have h2 := congrArg List.length hf
      simp at h1 h2
      exact List.eq_nil_of_length_eq_zero (by omega)
    refine Ev2.succ ?_
    simp only [impl_RingKey.l0_eq, at_end hf, lastKey, strs_len, strs_elem, ints_len, ints_elem, items_list, fld_agg, elem_list, toStr_sc, toInt_sc, toBool_sc, headD_one, nat_int, get_bt, decide_eq_true_eq, decide_eq_false_iff_not, decide_true, decide_false, if_true, if_false, ite_self, Bool.not_true, Bool.not_false, Bool.false_eq_true, Bool.true_eq_false, Bool.true_and, Bool.false_and, Bool.and_true, Bool.and_false, not_true, not_false_iff, Option.bind_some, nn, toList_inj, Bool.not_eq_true', Bool.not_eq_false', Int.le_refl, and_self, true_and, and_true, false_and, and_false, bne_self_eq_false, beq_self_eq_true, Int.reduceEq, List.length_singleton, List.tail_cons, Int.reduceLE, Int.reduceLT, decide_eq_true_eq]
    exact Ev2.now _
  | cons c rest ih =>
    intro pre frest fpre hp hf hfl out
    obtain ⟨f, frest, rfl⟩ : ∃ f fr, frest = f :: fr := by
      cases frest with
      | cons f fr => exact ⟨f, fr, rfl⟩
      | nil =>
        have h1 := congrArg List.length hp
        have h2 := congrArg List.length hf
        simp at h1 h2
        omega
    have hklt : (fpre.length : Int) < ks.length := by have := at_lt hp; omega
    have hkg : ks.getD fpre.length ByteArray.empty = c := by rw [hfl]; exact at_getD hp
    refine Ev2.succ ?_
    simp only [impl_RingKey.l0_eq, at_lt hf, hklt, hkg, at_getD hf, at_next hf (by omega), lastKey, strs_len, strs_elem, ints_len, ints_elem, items_list, fld_agg, elem_list, toStr_sc, toInt_sc, toBool_sc, headD_one, nat_int, get_bt, decide_eq_true_eq, decide_eq_false_iff_not, decide_true, decide_false, if_true, if_false, ite_self, Bool.not_true, Bool.not_false, Bool.false_eq_true, Bool.true_eq_false, Bool.true_and, Bool.false_and, Bool.and_true, Bool.and_false, not_true, not_false_iff, Option.bind_some, nn, toList_inj, Bool.not_eq_true', Bool.not_eq_false', Int.le_refl, and_self, true_and, and_true, false_and, and_false, bne_self_eq_false, beq_self_eq_true, Int.reduceEq, List.length_singleton, List.tail_cons, Int.reduceLE, Int.reduceLT, decide_eq_true_eq]
    by_cases h : f ≤ n
    · simp only [h, strs_len, strs_elem, ints_len, ints_elem, items_list, fld_agg, elem_list, toStr_sc, toInt_sc, toBool_sc, headD_one, nat_int, get_bt, decide_eq_true_eq, decide_eq_false_iff_not, decide_true, decide_false, if_true, if_false, ite_self, Bool.not_true, Bool.not_false, Bool.false_eq_true, Bool.true_eq_false, Bool.true_and, Bool.false_and, Bool.and_true, Bool.and_false, not_true, not_false_iff, Option.bind_some, nn, toList_inj, Bool.not_eq_true', Bool.not_eq_false', Int.le_refl, and_self, true_and, and_true, false_and, and_false, bne_self_eq_false, beq_self_eq_true, Int.reduceEq, List.length_singleton, List.tail_cons, Int.reduceLE, Int.reduceLT, decide_eq_true_eq]; exact ih _ _ _ (at_step hp) (at_step hf) (by simp [hfl]) _
    · simp only [h, strs_len, strs_elem, ints_len, ints_elem, items_list, fld_agg, elem_list, toStr_sc, toInt_sc, toBool_sc, headD_one, nat_int, get_bt, decide_eq_true_eq, decide_eq_false_iff_not, decide_true, decide_false, if_true, if_false, ite_self, Bool.not_true, Bool.not_false, Bool.false_eq_true, Bool.true_eq_false, Bool.true_and, Bool.false_and, Bool.and_true, Bool.and_false, not_true, not_false_iff, Option.bind_some, nn, toList_inj, Bool.not_eq_true', Bool.not_eq_false', Int.le_refl, and_self, true_and, and_true, false_and, and_false, bne_self_eq_false, beq_self_eq_true, Int.reduceEq, List.length_singleton, List.tail_cons, Int.reduceLE, Int.reduceLT, decide_eq_true_eq]; exact ih _ _ _ (at_step hp) (at_step hf) (by simp [hfl]) _
theorem implRingKey_ev (ks : List ByteArray) (fs : List Int) (n : Int) (hf : fs.length ≤ 9223372036854775807) (hk : ks.length ≤ 9223372036854775807) (hs : ∀ s ∈ ks, s.size ≤ 9223372036854775807) :
    Ev (fun N => impl_RingKey.f N [ringP ks fs, intP n]) [strP (ringKeyM ks fs n)] := by
  simp only [impl_RingKey.f_eq, ring_f0, ring_f1, ring_agg, ringKeyM, strs_len, strs_elem, ints_len, ints_elem, items_list, fld_agg, elem_list, toStr_sc, toInt_sc, toBool_sc, headD_one, nat_int, get_bt, decide_eq_true_eq, decide_eq_false_iff_not, decide_true, decide_false, if_true, if_false, ite_self, Bool.not_true, Bool.not_false, Bool.false_eq_true, Bool.true_eq_false, Bool.true_and, Bool.false_and, Bool.and_true, Bool.and_false, not_true, not_false_iff, Option.bind_some, nn, toList_inj, Bool.not_eq_true', Bool.not_eq_false', Int.le_refl, and_self, true_and, and_true, false_and, and_false, bne_self_eq_false, beq_self_eq_true, Int.reduceEq, List.length_singleton, List.tail_cons, Int.reduceLE, Int.reduceLT, decide_eq_true_eq]
  refine Ev.bind (implRingOk_ev ks fs hf hk hs) ?_
  cases h : ringM ks fs with
  | false => simp only [strs_len, strs_elem, ints_len, ints_elem, items_list, fld_agg, elem_list, toStr_sc, toInt_sc, toBool_sc, headD_one, nat_int, get_bt, decide_eq_true_eq, decide_eq_false_iff_not, decide_true, decide_false, if_true, if_false, ite_self, Bool.not_true, Bool.not_false, Bool.false_eq_true, Bool.true_eq_false, Bool.true_and, Bool.false_and, Bool.and_true, Bool.and_false, not_true, not_false_iff, Option.bind_some, nn, toList_inj, Bool.not_eq_true', Bool.not_eq_false', Int.le_refl, and_self, true_and, and_true, false_and, and_false, bne_self_eq_false, beq_self_eq_true, Int.reduceEq, List.length_singleton, List.tail_cons, Int.reduceLE, Int.reduceLT, decide_eq_true_eq]; exact Ev.now _
  | true =>
    simp only [strs_len, strs_elem, ints_len, ints_elem, items_list, fld_agg, elem_list, toStr_sc, toInt_sc, toBool_sc, headD_one, nat_int, get_bt, decide_eq_true_eq, decide_eq_false_iff_not, decide_true, decide_false, if_true, if_false, ite_self, Bool.not_true, Bool.not_false, Bool.false_eq_true, Bool.true_eq_false, Bool.true_and, Bool.false_and, Bool.and_true, Bool.and_false, not_true, not_false_iff, Option.bind_some, nn, toList_inj, Bool.not_eq_true', Bool.not_eq_false', Int.le_refl, and_self, true_and, and_true, false_and, and_false, bne_self_eq_false, beq_self_eq_true, Int.reduceEq, List.length_singleton, List.tail_cons, Int.reduceLE, Int.reduceLT, decide_eq_true_eq]
    exact (implKey_loop ks fs n (ringM_len h).2.2 hk ks [] fs [] rfl rfl rfl _).diag
theorem padded_ev (s : ByteArray) (hs : s.size ≤ 549755813888) : ∃ (r : List PV) (K : Nat), r.length = 64 * K ∧ 1 ≤ K ∧ K ≤ 8589934600 ∧ Ev (fun N => spec_l6Padded.f N [strP s]) [PV.list r] := by
  have hl : (bytesL s).length = s.size := by simp [bytesL]
  have hl2 : (bytesL s ++ [PV.sc (.int .u8 128)]).length = s.size + 1 := by simp [hl]
  obtain ⟨r, h1, hv⟩ := padded_l0 s ((119 - (s.size % 64)) % 64) (bytesL s ++ [PV.sc (.int .u8 128)]) (by omega) (by rw [hl2]; omega) (by omega)
  have h3 : s.size ≤ 9223372036854775807 := by omega
  have h4 : s.size + 1 ≤ 140737488355328 := by omega
  refine ⟨r, r.length / 64, by omega, by omega, by omega, ?_⟩
  simp only [spec_l6Padded.f_eq, hl, h3, h4, strs_len, strs_elem, ints_len, ints_elem, items_list, fld_agg, elem_list, toStr_sc, toInt_sc, toBool_sc, headD_one, nat_int, get_bt, decide_eq_true_eq, decide_eq_false_iff_not, decide_true, decide_false, if_true, if_false, ite_self, Bool.not_true, Bool.not_false, Bool.false_eq_true, Bool.true_eq_false, Bool.true_and, Bool.false_and, Bool.and_true, Bool.and_false, not_true, not_false_iff, Option.bind_some, nn, toList_inj, Bool.not_eq_true', Bool.not_eq_false', Int.le_refl, and_self, true_and, and_true, false_and, and_false, bne_self_eq_false, beq_self_eq_true, Int.reduceEq, List.length_singleton, List.tail_cons, Int.reduceLE, Int.reduceLT, decide_eq_true_eq]
  exact hv.diag
theorem bytesOfL_size (l : List PV) : (bytesOfL l).size = l.length := by simp [bytesOfL, ByteArray.size]
theorem sum_l3 (h : PV) (hh : h.items.length = 8) : ∀ (d i : Nat) (y : List PV), i + d = 8 → y.length = 4 * i → ∃ r : ByteArray, r.size = 32 ∧ Ev2 (fun N n => spec_l6Sum.l3 N n (i : Int) h y) [strP r] := by
  intro d
  induction d with
  | zero =>
    intro i y hi hy
    refine ⟨bytesOfL y, by rw [bytesOfL_size]; omega, Ev2.succ ?_⟩
    have h0 : ¬ (i : Int) < 8 := by omega
    simp only [spec_l6Sum.l3_eq, h0, strs_len, strs_elem, ints_len, ints_elem, items_list, fld_agg, elem_list, toStr_sc, toInt_sc, toBool_sc, headD_one, nat_int, get_bt, decide_eq_true_eq, decide_eq_false_iff_not, decide_true, decide_false, if_true, if_false, ite_self, Bool.not_true, Bool.not_false, Bool.false_eq_true, Bool.true_eq_false, Bool.true_and, Bool.false_and, Bool.and_true, Bool.and_false, not_true, not_false_iff, Option.bind_some, nn, toList_inj, Bool.not_eq_true', Bool.not_eq_false', Int.le_refl, and_self, true_and, and_true, false_and, and_false, bne_self_eq_false, beq_self_eq_true, Int.reduceEq, List.length_singleton, List.tail_cons, Int.reduceLE, Int.reduceLT, decide_eq_true_eq]
    exact Ev2.now _
  | succ d ih =>
    intro i y hi hy
    obtain ⟨l, hl, he⟩ : ∃ l : List PV, l.length = 4 ∧ ∀ N n, spec_l6Sum.l3 N (n + 1) (i : Int) h y = spec_l6Sum.l3 N n ((i + 1 : Nat) : Int) h (y ++ l) := by
      refine ⟨?l, ?hl, fun N n => ?h⟩
      case h =>
        have h0 : (i : Int) < 8 := by omega
        have w1 : IntKind.i64.wrap ((i : Int) + 1) = ((i + 1 : Nat) : Int) := nat_wrap (by omega) (by omega)
        have l1 : (i : Int) < (h.items.length : Int) := by omega
        have l5 : y.length + 4 ≤ 140737488355328 := by omega
        simp only [spec_l6Sum.l3_eq, h0, w1, l1, l5, List.length_cons, List.length_nil, Nat.zero_add, Nat.reduceAdd, strs_len, strs_elem, ints_len, ints_elem, items_list, fld_agg, elem_list, toStr_sc, toInt_sc, toBool_sc, headD_one, nat_int, get_bt, decide_eq_true_eq, decide_eq_false_iff_not, decide_true, decide_false, if_true, if_false, ite_self, Bool.not_true, Bool.not_false, Bool.false_eq_true, Bool.true_eq_false, Bool.true_and, Bool.false_and, Bool.and_true, Bool.and_false, not_true, not_false_iff, Option.bind_some, nn, toList_inj, Bool.not_eq_true', Bool.not_eq_false', Int.le_refl, and_self, true_and, and_true, false_and, and_false, bne_self_eq_false, beq_self_eq_true, Int.reduceEq, List.length_singleton, List.tail_cons, Int.reduceLE, Int.reduceLT, decide_eq_true_eq]
        rfl
      case hl => rfl
    obtain ⟨r, hr, hv⟩ := ih (i + 1) (y ++ l) (by omega) (by rw [List.length_append]; omega)
    exact ⟨r, hr, Ev2.succ (Ev2.congr (fun N n => he N n) hv)⟩
theorem sum_part {b : List PV} {K i : Nat} (hb : b.length = 64 * K) (hi : i < K) : (PV.list ((b.drop (64 * i)).take (64 * (i + 1) - 64 * i))).items.length = 64 := by
  simp only [PV.items, List.length_take, List.length_drop]; omega
theorem sum_l1 (b : List PV) (K : Nat) (hb : b.length = 64 * K) (hK : K ≤ 8589934600) : ∀ (d i : Nat) (h : PV), i + d = K → h.items.length = 8 → ∃ r : ByteArray, r.size = 32 ∧ Ev2 (fun N n => spec_l6Sum.l1 N n ((64 * i : Nat) : Int) h (PV.list b)) [strP r] := by
  intro d
  induction d with
  | zero =>
    intro i h hi hh
    obtain ⟨r, hr, hv⟩ := sum_l3 h hh 8 0 [] (by omega) rfl
    refine ⟨r, hr, Ev2.succ ?_⟩
    have h0 : ¬ ((64 * i : Nat) : Int) < (b.length : Int) := by omega
    simp only [spec_l6Sum.l1_eq, h0, strs_len, strs_elem, ints_len, ints_elem, items_list, fld_agg, elem_list, toStr_sc, toInt_sc, toBool_sc, headD_one, nat_int, get_bt, decide_eq_true_eq, decide_eq_false_iff_not, decide_true, decide_false, if_true, if_false, ite_self, Bool.not_true, Bool.not_false, Bool.false_eq_true, Bool.true_eq_false, Bool.true_and, Bool.false_and, Bool.and_true, Bool.and_false, not_true, not_false_iff, Option.bind_some, nn, toList_inj, Bool.not_eq_true', Bool.not_eq_false', Int.le_refl, and_self, true_and, and_true, false_and, and_false, bne_self_eq_false, beq_self_eq_true, Int.reduceEq, List.length_singleton, List.tail_cons, Int.reduceLE, Int.reduceLT, decide_eq_true_eq]
    exact hv.after
  | succ d ih =>
    intro i h hi hh
    obtain ⟨h2, hh2, hv2⟩ := block_ev h _ hh (sum_part hb (show i < K by omega))
    obtain ⟨r, hr, hv⟩ := ih (i + 1) (PV.list h2) (by omega) hh2
    refine ⟨r, hr, Ev2.succ ?_⟩
    have h0 : ((64 * i : Nat) : Int) < (b.length : Int) := by omega
    have w1 : IntKind.i64.wrap (((64 * i : Nat) : Int) + 64) = ((64 * (i + 1) : Nat) : Int) := nat_wrap (by omega) (by omega)
    have l1 : ((64 * i : Nat) : Int) ≤ ((64 * (i + 1) : Nat) : Int) := by omega
    have l2 : ((64 * (i + 1) : Nat) : Int) ≤ (b.length : Int) := by omega
    simp only [spec_l6Sum.l1_eq, h0, w1, l1, l2, strs_len, strs_elem, ints_len, ints_elem, items_list, fld_agg, elem_list, toStr_sc, toInt_sc, toBool_sc, headD_one, nat_int, get_bt, decide_eq_true_eq, decide_eq_false_iff_not, decide_true, decide_false, if_true, if_false, ite_self, Bool.not_true, Bool.not_false, Bool.false_eq_true, Bool.true_eq_false, Bool.true_and, Bool.false_and, Bool.and_true, Bool.and_false, not_true, not_false_iff, Option.bind_some, nn, toList_inj, Bool.not_eq_true', Bool.not_eq_false', Int.le_refl, and_self, true_and, and_true, false_and, and_false, bne_self_eq_false, beq_self_eq_true, Int.reduceEq, List.length_singleton, List.tail_cons, Int.reduceLE, Int.reduceLT, decide_eq_true_eq]
    refine Ev2.bind hv2 ?_
    simp only [strs_len, strs_elem, ints_len, ints_elem, items_list, fld_agg, elem_list, toStr_sc, toInt_sc, toBool_sc, headD_one, nat_int, get_bt, decide_eq_true_eq, decide_eq_false_iff_not, decide_true, decide_false, if_true, if_false, ite_self, Bool.not_true, Bool.not_false, Bool.false_eq_true, Bool.true_eq_false, Bool.true_and, Bool.false_and, Bool.and_true, Bool.and_false, not_true, not_false_iff, Option.bind_some, nn, toList_inj, Bool.not_eq_true', Bool.not_eq_false', Int.le_refl, and_self, true_and, and_true, false_and, and_false, bne_self_eq_false, beq_self_eq_true, Int.reduceEq, List.length_singleton, List.tail_cons, Int.reduceLE, Int.reduceLT, decide_eq_true_eq]
    exact hv
theorem sum_ev (s : ByteArray) (hs : s.size ≤ 549755813888) : ∃ r : ByteArray, r.size = 32 ∧ Ev (fun N => spec_l6Sum.f N [strP s]) [strP r] := by
  obtain ⟨b, K, hb, hK1, hK, hp⟩ := padded_ev s hs
  obtain ⟨h2, hh2, hv2⟩ := block_ev (PV.list [(PV.sc (.int .u32 1779033703)), (PV.sc (.int .u32 3144134277)), (PV.sc (.int .u32 1013904242)), (PV.sc (.int .u32 2773480762)), (PV.sc (.int .u32 1359893119)), (PV.sc (.int .u32 2600822924)), (PV.sc (.int .u32 528734635)), (PV.sc (.int .u32 1541459225))]) (PV.list ((b.drop 0).take (64 - 0))) rfl (by simp only [PV.items, List.length_take, List.length_drop]; omega)
  obtain ⟨r, hr, hv⟩ := sum_l1 b K hb hK (K - 1) 1 (PV.list h2) (by omega) hh2
  refine ⟨r, hr, ?_⟩
  simp only [spec_l6Sum.f_eq, strs_len, strs_elem, ints_len, ints_elem, items_list, fld_agg, elem_list, toStr_sc, toInt_sc, toBool_sc, headD_one, nat_int, get_bt, decide_eq_true_eq, decide_eq_false_iff_not, decide_true, decide_false, if_true, if_false, ite_self, Bool.not_true, Bool.not_false, Bool.false_eq_true, Bool.true_eq_false, Bool.true_and, Bool.false_and, Bool.and_true, Bool.and_false, not_true, not_false_iff, Option.bind_some, nn, toList_inj, Bool.not_eq_true', Bool.not_eq_false', Int.le_refl, and_self, true_and, and_true, false_and, and_false, bne_self_eq_false, beq_self_eq_true, Int.reduceEq, List.length_singleton, List.tail_cons, Int.reduceLE, Int.reduceLT, decide_eq_true_eq]
  refine Ev.bind hp ?_
  have h0 : (0 : Int) < (b.length : Int) := by omega
  have w1 : IntKind.i64.wrap ((0 : Int) + 64) = ((64 : Nat) : Int) := nat_wrap (by omega) (by omega)
  have l1 : (0 : Int) ≤ ((64 : Nat) : Int) := by omega
  have l2 : ((64 : Nat) : Int) ≤ (b.length : Int) := by omega
  refine Ev2.diag (g := fun N n => spec_l6Sum.l0 N n 0 [(PV.sc (.int .u32 1779033703)), (PV.sc (.int .u32 3144134277)), (PV.sc (.int .u32 1013904242)), (PV.sc (.int .u32 2773480762)), (PV.sc (.int .u32 1359893119)), (PV.sc (.int .u32 2600822924)), (PV.sc (.int .u32 528734635)), (PV.sc (.int .u32 1541459225))] (PV.list b)) (Ev2.succ ?_)
  simp only [spec_l6Sum.l0_eq, h0, w1, l1, l2, strs_len, strs_elem, ints_len, ints_elem, items_list, fld_agg, elem_list, toStr_sc, toInt_sc, toBool_sc, headD_one, nat_int, get_bt, decide_eq_true_eq, decide_eq_false_iff_not, decide_true, decide_false, if_true, if_false, ite_self, Bool.not_true, Bool.not_false, Bool.false_eq_true, Bool.true_eq_false, Bool.true_and, Bool.false_and, Bool.and_true, Bool.and_false, not_true, not_false_iff, Option.bind_some, nn, toList_inj, Bool.not_eq_true', Bool.not_eq_false', Int.le_refl, and_self, true_and, and_true, false_and, and_false, bne_self_eq_false, beq_self_eq_true, Int.reduceEq, List.length_singleton, List.tail_cons, Int.reduceLE, Int.reduceLT, decide_eq_true_eq]
  refine Ev2.bind hv2 ?_
  simp only [strs_len, strs_elem, ints_len, ints_elem, items_list, fld_agg, elem_list, toStr_sc, toInt_sc, toBool_sc, headD_one, nat_int, get_bt, decide_eq_true_eq, decide_eq_false_iff_not, decide_true, decide_false, if_true, if_false, ite_self, Bool.not_true, Bool.not_false, Bool.false_eq_true, Bool.true_eq_false, Bool.true_and, Bool.false_and, Bool.and_true, Bool.and_false, not_true, not_false_iff, Option.bind_some, nn, toList_inj, Bool.not_eq_true', Bool.not_eq_false', Int.le_refl, and_self, true_and, and_true, false_and, and_false, bne_self_eq_false, beq_self_eq_true, Int.reduceEq, List.length_singleton, List.tail_cons, Int.reduceLE, Int.reduceLT, decide_eq_true_eq]
  exact hv
theorem pad_l0 (s : ByteArray) (w : Int) : ∀ (d i : Nat) (y : List PV), i + d = 64 → y.length = i → ∃ r : ByteArray, r.size = 64 ∧ Ev2 (fun N n => spec_l6Pad.l0 N n s w (i : Int) y) [strP r] := by
  intro d
  induction d with
  | zero =>
    intro i y hi hy
    refine ⟨bytesOfL y, by rw [bytesOfL_size]; omega, Ev2.succ ?_⟩
    have h0 : ¬ (i : Int) < 64 := by omega
    simp only [spec_l6Pad.l0_eq, h0, strs_len, strs_elem, ints_len, ints_elem, items_list, fld_agg, elem_list, toStr_sc, toInt_sc, toBool_sc, headD_one, nat_int, get_bt, decide_eq_true_eq, decide_eq_false_iff_not, decide_true, decide_false, if_true, if_false, ite_self, Bool.not_true, Bool.not_false, Bool.false_eq_true, Bool.true_eq_false, Bool.true_and, Bool.false_and, Bool.and_true, Bool.and_false, not_true, not_false_iff, Option.bind_some, nn, toList_inj, Bool.not_eq_true', Bool.not_eq_false', Int.le_refl, and_self, true_and, and_true, false_and, and_false, bne_self_eq_false, beq_self_eq_true, Int.reduceEq, List.length_singleton, List.tail_cons, Int.reduceLE, Int.reduceLT, decide_eq_true_eq]
    exact Ev2.now _
  | succ d ih =>
    intro i y hi hy
    obtain ⟨e, he⟩ : ∃ e, ∀ N n, spec_l6Pad.l0 N (n + 1) s w (i : Int) y = spec_l6Pad.l0 N n s w ((i + 1 : Nat) : Int) (y ++ [e]) := by
      have h0 : (i : Int) < 64 := by omega
      have w1 : IntKind.i64.wrap ((i : Int) + 1) = ((i + 1 : Nat) : Int) := nat_wrap (by omega) (by omega)
      have l5 : y.length + 1 ≤ 140737488355328 := by omega
      by_cases l1 : (i : Int) < (s.size : Int)
      · refine ⟨?e, fun N n => ?h⟩
        case h =>
          simp only [spec_l6Pad.l0_eq, h0, w1, l1, l5, strs_len, strs_elem, ints_len, ints_elem, items_list, fld_agg, elem_list, toStr_sc, toInt_sc, toBool_sc, headD_one, nat_int, get_bt, decide_eq_true_eq, decide_eq_false_iff_not, decide_true, decide_false, if_true, if_false, ite_self, Bool.not_true, Bool.not_false, Bool.false_eq_true, Bool.true_eq_false, Bool.true_and, Bool.false_and, Bool.and_true, Bool.and_false, not_true, not_false_iff, Option.bind_some, nn, toList_inj, Bool.not_eq_true', Bool.not_eq_false', Int.le_refl, and_self, true_and, and_true, false_and, and_false, bne_self_eq_false, beq_self_eq_true, Int.reduceEq, List.length_singleton, List.tail_cons, Int.reduceLE, Int.reduceLT, decide_eq_true_eq]
          rfl
      · refine ⟨?e2, fun N n => ?h2⟩
        case h2 =>
          simp only [spec_l6Pad.l0_eq, h0, w1, l1, l5, strs_len, strs_elem, ints_len, ints_elem, items_list, fld_agg, elem_list, toStr_sc, toInt_sc, toBool_sc, headD_one, nat_int, get_bt, decide_eq_true_eq, decide_eq_false_iff_not, decide_true, decide_false, if_true, if_false, ite_self, Bool.not_true, Bool.not_false, Bool.false_eq_true, Bool.true_eq_false, Bool.true_and, Bool.false_and, Bool.and_true, Bool.and_false, not_true, not_false_iff, Option.bind_some, nn, toList_inj, Bool.not_eq_true', Bool.not_eq_false', Int.le_refl, and_self, true_and, and_true, false_and, and_false, bne_self_eq_false, beq_self_eq_true, Int.reduceEq, List.length_singleton, List.tail_cons, Int.reduceLE, Int.reduceLT, decide_eq_true_eq]
          rfl
    obtain ⟨r, hr, hv⟩ := ih (i + 1) (y ++ [e]) (by omega) (by rw [List.length_append, List.length_singleton]; omega)
    exact ⟨r, hr, Ev2.succ (Ev2.congr (fun N n => he N n) hv)⟩
theorem pad_ev (s : ByteArray) (w : Int) : ∃ r : ByteArray, r.size = 64 ∧ Ev (fun N => spec_l6Pad.f N [strP s, .sc (.int .u8 w)]) [strP r] := by
  obtain ⟨r, hr, hv⟩ := pad_l0 s w 64 0 [] (by omega) rfl
  refine ⟨r, hr, ?_⟩
  simp only [spec_l6Pad.f_eq, strs_len, strs_elem, ints_len, ints_elem, items_list, fld_agg, elem_list, toStr_sc, toInt_sc, toBool_sc, headD_one, nat_int, get_bt, decide_eq_true_eq, decide_eq_false_iff_not, decide_true, decide_false, if_true, if_false, ite_self, Bool.not_true, Bool.not_false, Bool.false_eq_true, Bool.true_eq_false, Bool.true_and, Bool.false_and, Bool.and_true, Bool.and_false, not_true, not_false_iff, Option.bind_some, nn, toList_inj, Bool.not_eq_true', Bool.not_eq_false', Int.le_refl, and_self, true_and, and_true, false_and, and_false, bne_self_eq_false, beq_self_eq_true, Int.reduceEq, List.length_singleton, List.tail_cons, Int.reduceLE, Int.reduceLT, decide_eq_true_eq]
  exact hv.diag
theorem u8_id {n : Int} (h0 : 0 ≤ n) (h1 : n ≤ 255) : IntKind.u8.wrap n = n := by
  have : IntKind.u8.wrap n = n % 256 := by simp [IntKind.wrap, IntKind.signed, IntKind.bits]
  rw [this]; omega
theorem bt_range (s : ByteArray) (i : Nat) : 0 ≤ bt s i ∧ bt s i ≤ 255 := by
  unfold bt
  have := (s.get! i).toNat_lt
  omega
theorem hex_l0 (s h : ByteArray) (hh : h.size = 16) (hs : s.size ≤ 1099511627776) : ∀ (d i : Nat) (y : List PV), i + d = s.size → y.length = 2 * i → ∃ r : ByteArray, r.size = 2 * s.size ∧ Ev2 (fun N n => spec_l6Hex.l0 N n s h (i : Int) y) [strP r] := by
  intro d
  induction d with
  | zero =>
    intro i y hi hy
    refine ⟨bytesOfL y, by rw [bytesOfL_size]; omega, Ev2.succ ?_⟩
    have h0 : ¬ (i : Int) < (s.size : Int) := by omega
    simp only [spec_l6Hex.l0_eq, h0, strs_len, strs_elem, ints_len, ints_elem, items_list, fld_agg, elem_list, toStr_sc, toInt_sc, toBool_sc, headD_one, nat_int, get_bt, decide_eq_true_eq, decide_eq_false_iff_not, decide_true, decide_false, if_true, if_false, ite_self, Bool.not_true, Bool.not_false, Bool.false_eq_true, Bool.true_eq_false, Bool.true_and, Bool.false_and, Bool.and_true, Bool.and_false, not_true, not_false_iff, Option.bind_some, nn, toList_inj, Bool.not_eq_true', Bool.not_eq_false', Int.le_refl, and_self, true_and, and_true, false_and, and_false, bne_self_eq_false, beq_self_eq_true, Int.reduceEq, List.length_singleton, List.tail_cons, Int.reduceLE, Int.reduceLT, decide_eq_true_eq]
    exact Ev2.now _
  | succ d ih =>
    intro i y hi hy
    obtain ⟨l, hl, he⟩ : ∃ l : List PV, l.length = 2 ∧ ∀ N n, spec_l6Hex.l0 N (n + 1) s h (i : Int) y = spec_l6Hex.l0 N n s h ((i + 1 : Nat) : Int) (y ++ l) := by
      refine ⟨?l, ?hl, fun N n => ?h⟩
      case h =>
        have h0 : (i : Int) < (s.size : Int) := by omega
        have w1 : IntKind.i64.wrap ((i : Int) + 1) = ((i + 1 : Nat) : Int) := nat_wrap (by omega) (by omega)
        have hb := bt_range s i
        have d1 : Int.tdiv (bt s i) 16 = bt s i / 16 := Int.tdiv_eq_ediv_of_nonneg hb.1
        have d2 : Int.tmod (bt s i) 16 = bt s i % 16 := Int.tmod_eq_emod_of_nonneg hb.1
        have d3 : IntKind.u8.wrap (bt s i / 16) = bt s i / 16 := u8_id (by omega) (by omega)
        have d4 : 0 ≤ bt s i / 16 := by omega
        have d5 : bt s i / 16 < (h.size : Int) := by omega
        have d6 : 0 ≤ bt s i % 16 := by omega
        have d7 : bt s i % 16 < (h.size : Int) := by omega
        have l5 : y.length + 2 ≤ 140737488355328 := by omega
        simp only [spec_l6Hex.l0_eq, h0, w1, d1, d2, d3, d4, d5, d6, d7, l5, List.length_cons, List.length_nil, Nat.zero_add, Nat.reduceAdd, strs_len, strs_elem, ints_len, ints_elem, items_list, fld_agg, elem_list, toStr_sc, toInt_sc, toBool_sc, headD_one, nat_int, get_bt, decide_eq_true_eq, decide_eq_false_iff_not, decide_true, decide_false, if_true, if_false, ite_self, Bool.not_true, Bool.not_false, Bool.false_eq_true, Bool.true_eq_false, Bool.true_and, Bool.false_and, Bool.and_true, Bool.and_false, not_true, not_false_iff, Option.bind_some, nn, toList_inj, Bool.not_eq_true', Bool.not_eq_false', Int.le_refl, and_self, true_and, and_true, false_and, and_false, bne_self_eq_false, beq_self_eq_true, Int.reduceEq, List.length_singleton, List.tail_cons, Int.reduceLE, Int.reduceLT, decide_eq_true_eq]
        rfl
      case hl => rfl
    obtain ⟨r, hr, hv⟩ := ih (i + 1) (y ++ l) (by omega) (by rw [List.length_append]; omega)
    exact ⟨r, hr, Ev2.succ (Ev2.congr (fun N n => he N n) hv)⟩
theorem hex_ev (s : ByteArray) (hs : s.size ≤ 1099511627776) : ∃ r : ByteArray, r.size = 2 * s.size ∧ Ev (fun N => spec_l6Hex.f N [strP s]) [strP r] := by
  obtain ⟨r, hr, hv⟩ := hex_l0 s (ByteArray.mk #[48, 49, 50, 51, 52, 53, 54, 55, 56, 57, 97, 98, 99, 100, 101, 102]) rfl hs s.size 0 [] (by omega) rfl
  refine ⟨r, hr, ?_⟩
  simp only [spec_l6Hex.f_eq, strs_len, strs_elem, ints_len, ints_elem, items_list, fld_agg, elem_list, toStr_sc, toInt_sc, toBool_sc, headD_one, nat_int, get_bt, decide_eq_true_eq, decide_eq_false_iff_not, decide_true, decide_false, if_true, if_false, ite_self, Bool.not_true, Bool.not_false, Bool.false_eq_true, Bool.true_eq_false, Bool.true_and, Bool.false_and, Bool.and_true, Bool.and_false, not_true, not_false_iff, Option.bind_some, nn, toList_inj, Bool.not_eq_true', Bool.not_eq_false', Int.le_refl, and_self, true_and, and_true, false_and, and_false, bne_self_eq_false, beq_self_eq_true, Int.reduceEq, List.length_singleton, List.tail_cons, Int.reduceLE, Int.reduceLT, decide_eq_true_eq]
  exact hv.diag
theorem seal_ev (k t : ByteArray) (hk : k.size ≤ 9223372036854775807) (ht : t.size ≤ 549755813000) : ∃ r : ByteArray, r.size ≤ 64 ∧ Ev (fun N => spec_SealOf.f N [strP k, strP t]) [strP r] := by
  simp only [spec_SealOf.f_eq, specKey_val k hk, strs_len, strs_elem, ints_len, ints_elem, items_list, fld_agg, elem_list, toStr_sc, toInt_sc, toBool_sc, headD_one, nat_int, get_bt, decide_eq_true_eq, decide_eq_false_iff_not, decide_true, decide_false, if_true, if_false, ite_self, Bool.not_true, Bool.not_false, Bool.false_eq_true, Bool.true_eq_false, Bool.true_and, Bool.false_and, Bool.and_true, Bool.and_false, not_true, not_false_iff, Option.bind_some, nn, toList_inj, Bool.not_eq_true', Bool.not_eq_false', Int.le_refl, and_self, true_and, and_true, false_and, and_false, bne_self_eq_false, beq_self_eq_true, Int.reduceEq, List.length_singleton, List.tail_cons, Int.reduceLE, Int.reduceLT, decide_eq_true_eq]
  cases hkey : keyM k with
  | false =>
    refine ⟨ByteArray.mk #[], Nat.zero_le _, ?_⟩
    simp only [strs_len, strs_elem, ints_len, ints_elem, items_list, fld_agg, elem_list, toStr_sc, toInt_sc, toBool_sc, headD_one, nat_int, get_bt, decide_eq_true_eq, decide_eq_false_iff_not, decide_true, decide_false, if_true, if_false, ite_self, Bool.not_true, Bool.not_false, Bool.false_eq_true, Bool.true_eq_false, Bool.true_and, Bool.false_and, Bool.and_true, Bool.and_false, not_true, not_false_iff, Option.bind_some, nn, toList_inj, Bool.not_eq_true', Bool.not_eq_false', Int.le_refl, and_self, true_and, and_true, false_and, and_false, bne_self_eq_false, beq_self_eq_true, Int.reduceEq, List.length_singleton, List.tail_cons, Int.reduceLE, Int.reduceLT, decide_eq_true_eq]
    exact Ev.now _
  | true =>
    obtain ⟨p1, hp1, h1⟩ := pad_ev k 92
    obtain ⟨p2, hp2, h2⟩ := pad_ev k 54
    obtain ⟨s1, hs1, h3⟩ := sum_ev (p2 ++ t) (by rw [ByteArray.size_append]; omega)
    obtain ⟨s2, hs2, h4⟩ := sum_ev (p1 ++ s1) (by rw [ByteArray.size_append]; omega)
    obtain ⟨r, hr, h5⟩ := hex_ev s2 (by omega)
    refine ⟨r, by omega, ?_⟩
    simp only [strs_len, strs_elem, ints_len, ints_elem, items_list, fld_agg, elem_list, toStr_sc, toInt_sc, toBool_sc, headD_one, nat_int, get_bt, decide_eq_true_eq, decide_eq_false_iff_not, decide_true, decide_false, if_true, if_false, ite_self, Bool.not_true, Bool.not_false, Bool.false_eq_true, Bool.true_eq_false, Bool.true_and, Bool.false_and, Bool.and_true, Bool.and_false, not_true, not_false_iff, Option.bind_some, nn, toList_inj, Bool.not_eq_true', Bool.not_eq_false', Int.le_refl, and_self, true_and, and_true, false_and, and_false, bne_self_eq_false, beq_self_eq_true, Int.reduceEq, List.length_singleton, List.tail_cons, Int.reduceLE, Int.reduceLT, decide_eq_true_eq]
    refine Ev.bind h1 (Ev.bind h2 ?_)
    have c1 : p2.size + t.size ≤ 9223372036854775807 := by omega
    simp only [c1, strs_len, strs_elem, ints_len, ints_elem, items_list, fld_agg, elem_list, toStr_sc, toInt_sc, toBool_sc, headD_one, nat_int, get_bt, decide_eq_true_eq, decide_eq_false_iff_not, decide_true, decide_false, if_true, if_false, ite_self, Bool.not_true, Bool.not_false, Bool.false_eq_true, Bool.true_eq_false, Bool.true_and, Bool.false_and, Bool.and_true, Bool.and_false, not_true, not_false_iff, Option.bind_some, nn, toList_inj, Bool.not_eq_true', Bool.not_eq_false', Int.le_refl, and_self, true_and, and_true, false_and, and_false, bne_self_eq_false, beq_self_eq_true, Int.reduceEq, List.length_singleton, List.tail_cons, Int.reduceLE, Int.reduceLT, decide_eq_true_eq]
    refine Ev.bind h3 ?_
    have c2 : p1.size + s1.size ≤ 9223372036854775807 := by omega
    simp only [c2, strs_len, strs_elem, ints_len, ints_elem, items_list, fld_agg, elem_list, toStr_sc, toInt_sc, toBool_sc, headD_one, nat_int, get_bt, decide_eq_true_eq, decide_eq_false_iff_not, decide_true, decide_false, if_true, if_false, ite_self, Bool.not_true, Bool.not_false, Bool.false_eq_true, Bool.true_eq_false, Bool.true_and, Bool.false_and, Bool.and_true, Bool.and_false, not_true, not_false_iff, Option.bind_some, nn, toList_inj, Bool.not_eq_true', Bool.not_eq_false', Int.le_refl, and_self, true_and, and_true, false_and, and_false, bne_self_eq_false, beq_self_eq_true, Int.reduceEq, List.length_singleton, List.tail_cons, Int.reduceLE, Int.reduceLT, decide_eq_true_eq]
    refine Ev.bind h4 (Ev.bind h5 ?_)
    exact Ev.now _
theorem dec_g : ∀ (k : Nat) (n : Nat), k ≤ 18 → n < 10 ^ (k + 1) → n < 9223372036854775808 → ∃ r : ByteArray, r.size ≤ k + 1 ∧ Ev2 (fun N d => spec_l1Dec.g N d [intP (n : Int)]) [strP r] := by
  intro k
  induction k with
  | zero =>
    intro n hk hn h63
    have h1 : ¬ (n : Int) < -9223372036854775807 := by omega
    have h2 : ¬ (n : Int) < 0 := by omega
    have h3 : (n : Int) < 10 := by omega
    refine ⟨?r, ?hs, Ev2.succ ?h⟩
    case h =>
      simp only [spec_l1Dec.g_eq, h1, h2, h3, strs_len, strs_elem, ints_len, ints_elem, items_list, fld_agg, elem_list, toStr_sc, toInt_sc, toBool_sc, headD_one, nat_int, get_bt, decide_eq_true_eq, decide_eq_false_iff_not, decide_true, decide_false, if_true, if_false, ite_self, Bool.not_true, Bool.not_false, Bool.false_eq_true, Bool.true_eq_false, Bool.true_and, Bool.false_and, Bool.and_true, Bool.and_false, not_true, not_false_iff, Option.bind_some, nn, toList_inj, Bool.not_eq_true', Bool.not_eq_false', Int.le_refl, and_self, true_and, and_true, false_and, and_false, bne_self_eq_false, beq_self_eq_true, Int.reduceEq, List.length_singleton, List.tail_cons, Int.reduceLE, Int.reduceLT, decide_eq_true_eq]
      exact Ev2.now _
    case hs => rw [bytesOfL_size]; simp
  | succ k ih =>
    intro n hk hn h63
    have h1 : ¬ (n : Int) < -9223372036854775807 := by omega
    have h2 : ¬ (n : Int) < 0 := by omega
    by_cases h3 : (n : Int) < 10
    · refine ⟨?r3, ?hs3, Ev2.succ ?h4⟩
      case h4 =>
        simp only [spec_l1Dec.g_eq, h1, h2, h3, strs_len, strs_elem, ints_len, ints_elem, items_list, fld_agg, elem_list, toStr_sc, toInt_sc, toBool_sc, headD_one, nat_int, get_bt, decide_eq_true_eq, decide_eq_false_iff_not, decide_true, decide_false, if_true, if_false, ite_self, Bool.not_true, Bool.not_false, Bool.false_eq_true, Bool.true_eq_false, Bool.true_and, Bool.false_and, Bool.and_true, Bool.and_false, not_true, not_false_iff, Option.bind_some, nn, toList_inj, Bool.not_eq_true', Bool.not_eq_false', Int.le_refl, and_self, true_and, and_true, false_and, and_false, bne_self_eq_false, beq_self_eq_true, Int.reduceEq, List.length_singleton, List.tail_cons, Int.reduceLE, Int.reduceLT, decide_eq_true_eq]
        exact Ev2.now _
      case hs3 => rw [bytesOfL_size]; simp
    · obtain ⟨r, hr, hv⟩ := ih (n / 10) (by omega) (by rw [Nat.pow_succ] at hn; omega) (by omega)
      have w1 : IntKind.i64.wrap (Int.tdiv (n : Int) 10) = ((n / 10 : Nat) : Int) := nat_wrap (by rw [Int.tdiv_eq_ediv_of_nonneg (by omega)]; omega) (by omega)
      refine ⟨?r2, ?hs2, Ev2.succ ?h2⟩
      case h2 =>
        simp only [spec_l1Dec.g_eq, h1, h2, h3, w1, strs_len, strs_elem, ints_len, ints_elem, items_list, fld_agg, elem_list, toStr_sc, toInt_sc, toBool_sc, headD_one, nat_int, get_bt, decide_eq_true_eq, decide_eq_false_iff_not, decide_true, decide_false, if_true, if_false, ite_self, Bool.not_true, Bool.not_false, Bool.false_eq_true, Bool.true_eq_false, Bool.true_and, Bool.false_and, Bool.and_true, Bool.and_false, not_true, not_false_iff, Option.bind_some, nn, toList_inj, Bool.not_eq_true', Bool.not_eq_false', Int.le_refl, and_self, true_and, and_true, false_and, and_false, bne_self_eq_false, beq_self_eq_true, Int.reduceEq, List.length_singleton, List.tail_cons, Int.reduceLE, Int.reduceLT, decide_eq_true_eq]
        refine Ev2.bind2 hv ?_
        have hc : r.size + 1 ≤ 9223372036854775807 := by omega
        simp only [bytesOfL_size, hc, strs_len, strs_elem, ints_len, ints_elem, items_list, fld_agg, elem_list, toStr_sc, toInt_sc, toBool_sc, headD_one, nat_int, get_bt, decide_eq_true_eq, decide_eq_false_iff_not, decide_true, decide_false, if_true, if_false, ite_self, Bool.not_true, Bool.not_false, Bool.false_eq_true, Bool.true_eq_false, Bool.true_and, Bool.false_and, Bool.and_true, Bool.and_false, not_true, not_false_iff, Option.bind_some, nn, toList_inj, Bool.not_eq_true', Bool.not_eq_false', Int.le_refl, and_self, true_and, and_true, false_and, and_false, bne_self_eq_false, beq_self_eq_true, Int.reduceEq, List.length_singleton, List.tail_cons, Int.reduceLE, Int.reduceLT, decide_eq_true_eq]
        exact Ev2.now _
      case hs2 => rw [ByteArray.size_append, bytesOfL_size]; simp; omega
theorem dec_ev (n : Int) (h0 : -9223372036854775808 ≤ n) (h1 : n < 9223372036854775808) : ∃ r : ByteArray, r.size ≤ 20 ∧ Ev (fun N => spec_l1Dec.f N [intP n]) [strP r] := by
  simp only [spec_l1Dec.f_eq]
  by_cases c1 : n < -9223372036854775807
  · refine ⟨ByteArray.mk #[45, 57, 50, 50, 51, 51, 55, 50, 48, 51, 54, 56, 53, 52, 55, 55, 53, 56, 48, 56], by decide, ?_⟩
    refine Ev2.diag (g := fun N d => spec_l1Dec.g N d [intP n]) (Ev2.succ ?_)
    simp only [spec_l1Dec.g_eq, c1, strs_len, strs_elem, ints_len, ints_elem, items_list, fld_agg, elem_list, toStr_sc, toInt_sc, toBool_sc, headD_one, nat_int, get_bt, decide_eq_true_eq, decide_eq_false_iff_not, decide_true, decide_false, if_true, if_false, ite_self, Bool.not_true, Bool.not_false, Bool.false_eq_true, Bool.true_eq_false, Bool.true_and, Bool.false_and, Bool.and_true, Bool.and_false, not_true, not_false_iff, Option.bind_some, nn, toList_inj, Bool.not_eq_true', Bool.not_eq_false', Int.le_refl, and_self, true_and, and_true, false_and, and_false, bne_self_eq_false, beq_self_eq_true, Int.reduceEq, List.length_singleton, List.tail_cons, Int.reduceLE, Int.reduceLT, decide_eq_true_eq]
    exact Ev2.now _
  by_cases c2 : n < 0
  · obtain ⟨m, hm⟩ := Int.eq_ofNat_of_zero_le (show 0 ≤ 0 - n by omega)
    obtain ⟨r, hr, hv⟩ := dec_g 18 m (by omega) (by omega) (by omega)
    refine ⟨ByteArray.mk #[45] ++ r, by rw [ByteArray.size_append]; have : (ByteArray.mk #[45]).size = 1 := rfl; omega, ?_⟩
    refine Ev2.diag (g := fun N d => spec_l1Dec.g N d [intP n]) (Ev2.succ ?_)
    have w1 : IntKind.i64.wrap (0 - n) = (m : Int) := nat_wrap hm (by omega)
    have hc : (ByteArray.mk #[45]).size + r.size ≤ 9223372036854775807 := by have : (ByteArray.mk #[45]).size = 1 := rfl; omega
    simp only [spec_l1Dec.g_eq, c1, c2, w1, strs_len, strs_elem, ints_len, ints_elem, items_list, fld_agg, elem_list, toStr_sc, toInt_sc, toBool_sc, headD_one, nat_int, get_bt, decide_eq_true_eq, decide_eq_false_iff_not, decide_true, decide_false, if_true, if_false, ite_self, Bool.not_true, Bool.not_false, Bool.false_eq_true, Bool.true_eq_false, Bool.true_and, Bool.false_and, Bool.and_true, Bool.and_false, not_true, not_false_iff, Option.bind_some, nn, toList_inj, Bool.not_eq_true', Bool.not_eq_false', Int.le_refl, and_self, true_and, and_true, false_and, and_false, bne_self_eq_false, beq_self_eq_true, Int.reduceEq, List.length_singleton, List.tail_cons, Int.reduceLE, Int.reduceLT, decide_eq_true_eq]
    refine Ev2.bind2 hv ?_
    simp only [hc, strs_len, strs_elem, ints_len, ints_elem, items_list, fld_agg, elem_list, toStr_sc, toInt_sc, toBool_sc, headD_one, nat_int, get_bt, decide_eq_true_eq, decide_eq_false_iff_not, decide_true, decide_false, if_true, if_false, ite_self, Bool.not_true, Bool.not_false, Bool.false_eq_true, Bool.true_eq_false, Bool.true_and, Bool.false_and, Bool.and_true, Bool.and_false, not_true, not_false_iff, Option.bind_some, nn, toList_inj, Bool.not_eq_true', Bool.not_eq_false', Int.le_refl, and_self, true_and, and_true, false_and, and_false, bne_self_eq_false, beq_self_eq_true, Int.reduceEq, List.length_singleton, List.tail_cons, Int.reduceLE, Int.reduceLT, decide_eq_true_eq]
    exact Ev2.now _
  · obtain ⟨m, rfl⟩ := Int.eq_ofNat_of_zero_le (show 0 ≤ n by omega)
    obtain ⟨r, hr, hv⟩ := dec_g 18 m (by omega) (by omega) (by omega)
    exact ⟨r, by omega, hv.diag⟩
theorem text_ev (k s : ByteArray) (n : Int) (hk : k.size ≤ 1000) (h0 : -9223372036854775808 ≤ n) (h1 : n < 9223372036854775808) : ∃ r : ByteArray, r.size ≤ 2100 ∧ Ev (fun N => spec_l11Text.f N [.agg [strP k, intP n, strP s]]) [strP r] := by
  obtain ⟨d, hd, h2⟩ := dec_ev n h0 h1
  obtain ⟨x, hx, h3⟩ := hex_ev k (by omega)
  have e1 : (ByteArray.mk #[116, 117, 114, 110, 32]).size = 5 := rfl
  have e2 : (ByteArray.mk #[32]).size = 1 := rfl
  have f0 : (PV.agg [strP k, intP n, strP s]).fld 0 = strP k := rfl
  have f1 : (PV.agg [strP k, intP n, strP s]).fld 1 = intP n := rfl
  refine ⟨(((ByteArray.mk #[116, 117, 114, 110, 32]) ++ d) ++ (ByteArray.mk #[32])) ++ x, by simp only [ByteArray.size_append]; omega, ?_⟩
  have c1 : (ByteArray.mk #[116, 117, 114, 110, 32]).size + d.size ≤ 9223372036854775807 := by omega
  have c2 : ((ByteArray.mk #[116, 117, 114, 110, 32]) ++ d).size + (ByteArray.mk #[32]).size ≤ 9223372036854775807 := by simp only [ByteArray.size_append]; omega
  have c3 : (((ByteArray.mk #[116, 117, 114, 110, 32]) ++ d) ++ (ByteArray.mk #[32])).size + x.size ≤ 9223372036854775807 := by simp only [ByteArray.size_append]; omega
  simp only [spec_l11Text.f_eq, f0, f1, strs_len, strs_elem, ints_len, ints_elem, items_list, fld_agg, elem_list, toStr_sc, toInt_sc, toBool_sc, headD_one, nat_int, get_bt, decide_eq_true_eq, decide_eq_false_iff_not, decide_true, decide_false, if_true, if_false, ite_self, Bool.not_true, Bool.not_false, Bool.false_eq_true, Bool.true_eq_false, Bool.true_and, Bool.false_and, Bool.and_true, Bool.and_false, not_true, not_false_iff, Option.bind_some, nn, toList_inj, Bool.not_eq_true', Bool.not_eq_false', Int.le_refl, and_self, true_and, and_true, false_and, and_false, bne_self_eq_false, beq_self_eq_true, Int.reduceEq, List.length_singleton, List.tail_cons, Int.reduceLE, Int.reduceLT, decide_eq_true_eq]
  refine Ev.bind h2 ?_
  simp only [c1, c2, strs_len, strs_elem, ints_len, ints_elem, items_list, fld_agg, elem_list, toStr_sc, toInt_sc, toBool_sc, headD_one, nat_int, get_bt, decide_eq_true_eq, decide_eq_false_iff_not, decide_true, decide_false, if_true, if_false, ite_self, Bool.not_true, Bool.not_false, Bool.false_eq_true, Bool.true_eq_false, Bool.true_and, Bool.false_and, Bool.and_true, Bool.and_false, not_true, not_false_iff, Option.bind_some, nn, toList_inj, Bool.not_eq_true', Bool.not_eq_false', Int.le_refl, and_self, true_and, and_true, false_and, and_false, bne_self_eq_false, beq_self_eq_true, Int.reduceEq, List.length_singleton, List.tail_cons, Int.reduceLE, Int.reduceLT, decide_eq_true_eq]
  refine Ev.bind h3 ?_
  simp only [c3, strs_len, strs_elem, ints_len, ints_elem, items_list, fld_agg, elem_list, toStr_sc, toInt_sc, toBool_sc, headD_one, nat_int, get_bt, decide_eq_true_eq, decide_eq_false_iff_not, decide_true, decide_false, if_true, if_false, ite_self, Bool.not_true, Bool.not_false, Bool.false_eq_true, Bool.true_eq_false, Bool.true_and, Bool.false_and, Bool.and_true, Bool.and_false, not_true, not_false_iff, Option.bind_some, nn, toList_inj, Bool.not_eq_true', Bool.not_eq_false', Int.le_refl, and_self, true_and, and_true, false_and, and_false, bne_self_eq_false, beq_self_eq_true, Int.reduceEq, List.length_singleton, List.tail_cons, Int.reduceLE, Int.reduceLT, decide_eq_true_eq]
  exact Ev.now _
/-! #### rings that are drawn -/
theorem copy_val (a : List ByteArray) (b : List Int) (ha : a.length ≤ 8796093022208) (hb : b.length ≤ 17592186044416) (N : Nat) : spec_l11Copy.f N [ringP a b] = some [ringP a b] := by
  have e1 : PV.list ((strsP a).items) = strsP a := rfl
  have e2 : PV.list ((intsP b).items) = intsP b := rfl
  simp only [spec_l11Copy.f_eq, ring_f0, ring_f1, strs_len, ints_len, List.length_nil, Nat.zero_add, ha, hb, List.nil_append, e1, e2, ring_agg, if_true]
theorem strs_snoc (a : List ByteArray) (k : ByteArray) : PV.list ((strsP a).items ++ [strP k]) = strsP (a ++ [k]) := by simp [strsP, PV.items]
theorem ints_snoc (a : List Int) (k : Int) : PV.list ((intsP a).items ++ [intP k]) = intsP (a ++ [k]) := by simp [intsP, PV.items]
theorem strs_set (a : List ByteArray) (i : Nat) (k : ByteArray) : PV.list ((strsP a).items.set i (strP k)) = strsP (a.set i k) := by simp [strsP, PV.items, List.map_set]
theorem ints_set (a : List Int) (i : Nat) (k : Int) : PV.list ((intsP a).items.set i (intP k)) = intsP (a.set i k) := by simp [intsP, PV.items, List.map_set]
theorem keysM_all : ∀ {ks pre : List ByteArray}, keysM pre ks = true → ∀ k ∈ ks, keyM k = true
  | [], _, _, k, hk => absurd hk (by simp)
  | c :: ks, pre, h, k, hk => by
    simp only [keysM, Bool.and_eq_true] at h
    rcases List.mem_cons.1 hk with rfl | hk
    · exact h.1.1
    · exact keysM_all h.2 k hk
theorem keyM_size {k : ByteArray} (h : keyM k = true) : 1 ≤ k.size ∧ k.size ≤ 64 := by
  simp only [keyM, Bool.and_eq_true, decide_eq_true_eq] at h
  exact h.1
theorem ringM_keys {ks : List ByteArray} {fs : List Int} (h : ringM ks fs = true) : ∀ k ∈ ks, 1 ≤ k.size ∧ k.size ≤ 64 := by
  simp only [ringM, Bool.and_eq_true] at h
  exact fun k hk => keyM_size (keysM_all h.1 k hk)
theorem asc_all : ∀ {fs : List Int} {q : Int}, ascF (some q) fs = true → (∀ f ∈ fs, q < f ∧ f ≤ 999999) ∧ fs.Pairwise (· < ·)
  | [], _, _ => ⟨by simp, .nil⟩
  | c :: fs, q, h => by
    simp only [ascF, Bool.and_eq_true, decide_eq_true_eq] at h
    have := asc_all h.2
    refine ⟨fun f hf => ?_, List.pairwise_cons.2 ⟨fun f hf => (this.1 f hf).1, this.2⟩⟩
    rcases List.mem_cons.1 hf with rfl | hf
    · exact h.1
    · have := this.1 f hf; omega
theorem ringM_nums {ks : List ByteArray} {fs : List Int} (h : ringM ks fs = true) : (∀ f ∈ fs, 1 ≤ f ∧ f ≤ 999999) ∧ fs.Pairwise (· < ·) ∧ fs.getD 0 0 = 1 := by
  simp only [ringM, tailM, Bool.and_eq_true, decide_eq_true_eq] at h
  obtain ⟨_, h2, h3, h4, h5⟩ := h
  cases fs with
  | nil => simp at h5
  | cons q fs =>
    have e : q = 1 := h5
    subst e
    have := asc_all (q := 1) (fs := fs) h2
    refine ⟨fun f hf => ?_, List.pairwise_cons.2 ⟨fun f hf => (this.1 f hf).1, this.2⟩, rfl⟩
    rcases List.mem_cons.1 hf with rfl | hf
    · omega
    · have := this.1 f hf; omega
def turnP (k : ByteArray) (f : Int) (s : ByteArray) : PV := .agg [strP k, intP f, strP s]
theorem turn_f0 (k : ByteArray) (f : Int) (s : ByteArray) : (turnP k f s).fld 0 = strP k := rfl
theorem turn_f1 (k : ByteArray) (f : Int) (s : ByteArray) : (turnP k f s).fld 1 = intP f := rfl
theorem turn_f2 (k : ByteArray) (f : Int) (s : ByteArray) : (turnP k f s).fld 2 = strP s := rfl
theorem turn_agg (k : ByteArray) (f : Int) (s : ByteArray) : PV.agg [PV.sc (.string k), PV.sc (.int .i64 f), PV.sc (.string s)] = turnP k f s := rfl
theorem last_val {ks : List ByteArray} (fs : List Int) (h1 : 1 ≤ ks.length) (h2 : ks.length ≤ 1000000) (N : Nat) : spec_l11Last.f N [ringP ks fs] = some [strP (ks.getD (ks.length - 1) ByteArray.empty)] := by
  have w1 : IntKind.i64.wrap ((ks.length : Int) - 1) = ((ks.length - 1 : Nat) : Int) := nat_wrap (by omega) (by omega)
  have l1 : ((ks.length - 1 : Nat) : Int) < (ks.length : Int) := by omega
  simp only [spec_l11Last.f_eq, ring_f0, ring_f1, w1, l1, strs_len, strs_elem, ints_len, ints_elem, items_list, fld_agg, elem_list, toStr_sc, toInt_sc, toBool_sc, headD_one, nat_int, get_bt, decide_eq_true_eq, decide_eq_false_iff_not, decide_true, decide_false, if_true, if_false, ite_self, Bool.not_true, Bool.not_false, Bool.false_eq_true, Bool.true_eq_false, Bool.true_and, Bool.false_and, Bool.and_true, Bool.and_false, not_true, not_false_iff, Option.bind_some, nn, toList_inj, Bool.not_eq_true', Bool.not_eq_false', Int.le_refl, and_self, true_and, and_true, false_and, and_false, bne_self_eq_false, beq_self_eq_true, Int.reduceEq, List.length_singleton, List.tail_cons, Int.reduceLE, Int.reduceLT, decide_eq_true_eq]
theorem sizes_snoc {ks : List ByteArray} {k : ByteArray} {B : Nat} (h : ∀ x ∈ ks, x.size ≤ B) (hk : k.size ≤ B) : ∀ x ∈ ks ++ [k], x.size ≤ B := by
  intro x hx
  rcases List.mem_append.1 hx with hx | hx
  · exact h x hx
  · rw [List.mem_singleton.1 hx]; exact hk
/-- A turn of a ring that is ok. -/
theorem turnOf_ev {ks : List ByteArray} {fs : List Int} (h : ringM ks fs = true) (k : ByteArray) (f : Int) (hk : k.size ≤ 1000) (h0 : -9223372036854775808 ≤ f) (h1 : f < 9223372036854775808) :
    ∃ s : ByteArray, s.size ≤ 64 ∧ Ev (fun N => spec_TurnOf.f N [ringP ks fs, strP k, intP f]) (if ringM (ks ++ [k]) (fs ++ [f]) = true then [turnP k f s, boolP true] else [turnP ⟨#[]⟩ 0 ⟨#[]⟩, boolP false]) := by
  obtain ⟨n1, n2, n3⟩ := ringM_len h
  have hks := ringM_keys h
  obtain ⟨t, ht, htv⟩ := text_ev k ⟨#[]⟩ f hk h0 h1
  have hlast : (ks.getD (ks.length - 1) ByteArray.empty).size ≤ 64 := by
    have hm : ks.getD (ks.length - 1) ByteArray.empty ∈ ks := by
      rw [List.getD_eq_getElem?_getD, List.getElem?_eq_getElem (by omega)]; exact List.getElem_mem _
    exact (hks _ hm).2
  obtain ⟨s, hs, hsv⟩ := seal_ev (ks.getD (ks.length - 1) ByteArray.empty) t (by omega) (by omega)
  refine ⟨s, hs, ?_⟩
  simp only [spec_TurnOf.f_eq, ring_f0, ring_f1, ring_agg]
  refine Ev.bind (specRingOk_ev ks fs (by omega) (by omega) (fun x hx => by have := hks x hx; omega)) ?_
  have c1 : ks.length + 1 ≤ 8796093022208 := by omega
  have c2 : fs.length + 1 ≤ 17592186044416 := by omega
  simp only [h, copy_val ks fs (by omega) (by omega), ring_f0, ring_f1, ring_agg, strs_snoc, ints_snoc, c1, c2, strs_len, strs_elem, ints_len, ints_elem, items_list, fld_agg, elem_list, toStr_sc, toInt_sc, toBool_sc, headD_one, nat_int, get_bt, decide_eq_true_eq, decide_eq_false_iff_not, decide_true, decide_false, if_true, if_false, ite_self, Bool.not_true, Bool.not_false, Bool.false_eq_true, Bool.true_eq_false, Bool.true_and, Bool.false_and, Bool.and_true, Bool.and_false, not_true, not_false_iff, Option.bind_some, nn, toList_inj, Bool.not_eq_true', Bool.not_eq_false', Int.le_refl, and_self, true_and, and_true, false_and, and_false, bne_self_eq_false, beq_self_eq_true, Int.reduceEq, List.length_singleton, List.tail_cons, Int.reduceLE, Int.reduceLT, decide_eq_true_eq]
  refine Ev.bind (specRingOk_ev (ks ++ [k]) (fs ++ [f]) (by rw [List.length_append, List.length_singleton]; omega) (by rw [List.length_append, List.length_singleton]; omega) (sizes_snoc (fun x hx => by have := hks x hx; omega) (by omega))) ?_
  cases hr : ringM (ks ++ [k]) (fs ++ [f]) with
  | false => simp only [strs_len, strs_elem, ints_len, ints_elem, items_list, fld_agg, elem_list, toStr_sc, toInt_sc, toBool_sc, headD_one, nat_int, get_bt, decide_eq_true_eq, decide_eq_false_iff_not, decide_true, decide_false, if_true, if_false, ite_self, Bool.not_true, Bool.not_false, Bool.false_eq_true, Bool.true_eq_false, Bool.true_and, Bool.false_and, Bool.and_true, Bool.and_false, not_true, not_false_iff, Option.bind_some, nn, toList_inj, Bool.not_eq_true', Bool.not_eq_false', Int.le_refl, and_self, true_and, and_true, false_and, and_false, bne_self_eq_false, beq_self_eq_true, Int.reduceEq, List.length_singleton, List.tail_cons, Int.reduceLE, Int.reduceLT, decide_eq_true_eq]; exact Ev.now _
  | true =>
    simp only [last_val fs n1 (by omega), turn_agg, strs_len, strs_elem, ints_len, ints_elem, items_list, fld_agg, elem_list, toStr_sc, toInt_sc, toBool_sc, headD_one, nat_int, get_bt, decide_eq_true_eq, decide_eq_false_iff_not, decide_true, decide_false, if_true, if_false, ite_self, Bool.not_true, Bool.not_false, Bool.false_eq_true, Bool.true_eq_false, Bool.true_and, Bool.false_and, Bool.and_true, Bool.and_false, not_true, not_false_iff, Option.bind_some, nn, toList_inj, Bool.not_eq_true', Bool.not_eq_false', Int.le_refl, and_self, true_and, and_true, false_and, and_false, bne_self_eq_false, beq_self_eq_true, Int.reduceEq, List.length_singleton, List.tail_cons, Int.reduceLE, Int.reduceLT, decide_eq_true_eq]
    refine Ev.bind htv ?_
    refine Ev.bind hsv ?_
    exact Ev.now _
/-- A ring that is ok stays ok. -/
theorem take_ev {ks : List ByteArray} {fs : List Int} (h : ringM ks fs = true) (k : ByteArray) (f : Int) (s : ByteArray) (hk : k.size ≤ 1000) (h0 : -9223372036854775808 ≤ f) (h1 : f < 9223372036854775808) :
    ∃ b : Bool, (b = true → ringM (ks ++ [k]) (fs ++ [f]) = true) ∧ Ev (fun N => spec_RingTake.f N [ringP ks fs, turnP k f s]) (if b = true then [ringP (ks ++ [k]) (fs ++ [f]), boolP true] else [ringP ks fs, boolP false]) := by
  obtain ⟨n1, n2, n3⟩ := ringM_len h
  have hks := ringM_keys h
  obtain ⟨s', hs', ht⟩ := turnOf_ev h k f hk h0 h1
  have c1 : ks.length + 1 ≤ 8796093022208 := by omega
  have c2 : fs.length + 1 ≤ 17592186044416 := by omega
  refine ⟨ringM (ks ++ [k]) (fs ++ [f]) && decide (s' = s), fun hb => (Bool.and_eq_true _ _ ▸ hb).1, ?_⟩
  simp only [spec_RingTake.f_eq, ring_f0, ring_f1, ring_agg, turn_f0, turn_f1, turn_f2, strs_len, strs_elem, ints_len, ints_elem, items_list, fld_agg, elem_list, toStr_sc, toInt_sc, toBool_sc, headD_one, nat_int, get_bt, decide_eq_true_eq, decide_eq_false_iff_not, decide_true, decide_false, if_true, if_false, ite_self, Bool.not_true, Bool.not_false, Bool.false_eq_true, Bool.true_eq_false, Bool.true_and, Bool.false_and, Bool.and_true, Bool.and_false, not_true, not_false_iff, Option.bind_some, nn, toList_inj, Bool.not_eq_true', Bool.not_eq_false', Int.le_refl, and_self, true_and, and_true, false_and, and_false, bne_self_eq_false, beq_self_eq_true, Int.reduceEq, List.length_singleton, List.tail_cons, Int.reduceLE, Int.reduceLT, decide_eq_true_eq]
  refine Ev.bind (specRingOk_ev ks fs (by omega) (by omega) (fun x hx => by have := hks x hx; omega)) ?_
  simp only [h, strs_len, strs_elem, ints_len, ints_elem, items_list, fld_agg, elem_list, toStr_sc, toInt_sc, toBool_sc, headD_one, nat_int, get_bt, decide_eq_true_eq, decide_eq_false_iff_not, decide_true, decide_false, if_true, if_false, ite_self, Bool.not_true, Bool.not_false, Bool.false_eq_true, Bool.true_eq_false, Bool.true_and, Bool.false_and, Bool.and_true, Bool.and_false, not_true, not_false_iff, Option.bind_some, nn, toList_inj, Bool.not_eq_true', Bool.not_eq_false', Int.le_refl, and_self, true_and, and_true, false_and, and_false, bne_self_eq_false, beq_self_eq_true, Int.reduceEq, List.length_singleton, List.tail_cons, Int.reduceLE, Int.reduceLT, decide_eq_true_eq]
  refine Ev.bind ht ?_
  cases hr : ringM (ks ++ [k]) (fs ++ [f]) with
  | false =>
    simp only [copy_val ks fs (by omega) (by omega), ring_f0, ring_f1, ring_agg, turn_f2, strs_len, strs_elem, ints_len, ints_elem, items_list, fld_agg, elem_list, toStr_sc, toInt_sc, toBool_sc, headD_one, nat_int, get_bt, decide_eq_true_eq, decide_eq_false_iff_not, decide_true, decide_false, if_true, if_false, ite_self, Bool.not_true, Bool.not_false, Bool.false_eq_true, Bool.true_eq_false, Bool.true_and, Bool.false_and, Bool.and_true, Bool.and_false, not_true, not_false_iff, Option.bind_some, nn, toList_inj, Bool.not_eq_true', Bool.not_eq_false', Int.le_refl, and_self, true_and, and_true, false_and, and_false, bne_self_eq_false, beq_self_eq_true, Int.reduceEq, List.length_singleton, List.tail_cons, Int.reduceLE, Int.reduceLT, decide_eq_true_eq]
    exact Ev.now _
  | true =>
    by_cases e : s' = s
    · simp only [e, copy_val ks fs (by omega) (by omega), ring_f0, ring_f1, ring_agg, turn_f2, strs_snoc, ints_snoc, c1, c2, strs_len, strs_elem, ints_len, ints_elem, items_list, fld_agg, elem_list, toStr_sc, toInt_sc, toBool_sc, headD_one, nat_int, get_bt, decide_eq_true_eq, decide_eq_false_iff_not, decide_true, decide_false, if_true, if_false, ite_self, Bool.not_true, Bool.not_false, Bool.false_eq_true, Bool.true_eq_false, Bool.true_and, Bool.false_and, Bool.and_true, Bool.and_false, not_true, not_false_iff, Option.bind_some, nn, toList_inj, Bool.not_eq_true', Bool.not_eq_false', Int.le_refl, and_self, true_and, and_true, false_and, and_false, bne_self_eq_false, beq_self_eq_true, Int.reduceEq, List.length_singleton, List.tail_cons, Int.reduceLE, Int.reduceLT, decide_eq_true_eq]
      exact Ev.now _
    · simp only [e, copy_val ks fs (by omega) (by omega), ring_f0, ring_f1, ring_agg, turn_f2, strs_len, strs_elem, ints_len, ints_elem, items_list, fld_agg, elem_list, toStr_sc, toInt_sc, toBool_sc, headD_one, nat_int, get_bt, decide_eq_true_eq, decide_eq_false_iff_not, decide_true, decide_false, if_true, if_false, ite_self, Bool.not_true, Bool.not_false, Bool.false_eq_true, Bool.true_eq_false, Bool.true_and, Bool.false_and, Bool.and_true, Bool.and_false, not_true, not_false_iff, Option.bind_some, nn, toList_inj, Bool.not_eq_true', Bool.not_eq_false', Int.le_refl, and_self, true_and, and_true, false_and, and_false, bne_self_eq_false, beq_self_eq_true, Int.reduceEq, List.length_singleton, List.tail_cons, Int.reduceLE, Int.reduceLT, decide_eq_true_eq]
      exact Ev.now _
def keysL : List ByteArray := [ByteArray.mk #[107, 101, 121, 50], ByteArray.mk #[111, 116, 104, 101, 114], ByteArray.mk #[107], ByteArray.mk #[0, 255], ByteArray.mk #[108, 97, 115, 116]]
theorem keys_size : ∀ j, (keysL.getD j ByteArray.empty).size ≤ 5 := by
  intro j
  match j with
  | 0 => decide
  | 1 => decide
  | 2 => decide
  | 3 => decide
  | 4 => decide
  | _ + 5 => exact (by decide : ByteArray.empty.size ≤ 5)
theorem ring_loop {b : PV} (hb : Code1 b) : ∀ (c p from_ : Nat) (ks : List ByteArray) (fs : List Int), p + 2 * c < 900000000 → from_ + 3 * c ≤ 1000000 → c ≤ 100 → ringM ks fs = true →
    ∃ (ks' : List ByteArray) (fs' : List Int) (q : Nat), ringM ks' fs' = true ∧ q ≤ p + 2 * c ∧ Ev2 (fun N n => spec_l13Ring.l0 N n (from_ : Int) (c : Int) b (p : Int) (keysL.map strP) (strsP ks) (intsP fs)) [ringP ks' fs', rdP b (q : Int)] := by
  intro c
  induction c with
  | zero =>
    intro p fr ks fs hp hf hc hr
    refine ⟨ks, fs, p, hr, by omega, Ev2.succ ?_⟩
    have h0 : ¬ (0 : Int) < ((0 : Nat) : Int) := by omega
    simp only [spec_l13Ring.l0_eq, h0, ring_agg, rd_agg, strs_len, strs_elem, ints_len, ints_elem, items_list, fld_agg, elem_list, toStr_sc, toInt_sc, toBool_sc, headD_one, nat_int, get_bt, decide_eq_true_eq, decide_eq_false_iff_not, decide_true, decide_false, if_true, if_false, ite_self, Bool.not_true, Bool.not_false, Bool.false_eq_true, Bool.true_eq_false, Bool.true_and, Bool.false_and, Bool.and_true, Bool.and_false, not_true, not_false_iff, Option.bind_some, nn, toList_inj, Bool.not_eq_true', Bool.not_eq_false', Int.le_refl, and_self, true_and, and_true, false_and, and_false, bne_self_eq_false, beq_self_eq_true, Int.reduceEq, List.length_singleton, List.tail_cons, Int.reduceLE, Int.reduceLT, decide_eq_true_eq]
    exact Ev2.now _
  | succ c ih =>
    intro p fr ks fs hp hf hc hr
    have h0 : (0 : Int) < ((c + 1 : Nat) : Int) := by omega
    obtain ⟨j, hj, hf1⟩ := pick_ev hb (p := (p : Int)) (n := 3) (by omega) (by omega)
    obtain ⟨k, hk, hf2⟩ := pick_ev hb (p := (p : Int) + 1) (n := 5) (by omega) (by omega)
    obtain ⟨j, rfl⟩ := Int.eq_ofNat_of_zero_le hj.1
    obtain ⟨k, rfl⟩ := Int.eq_ofNat_of_zero_le hk.1
    have w1 : IntKind.i64.wrap ((fr : Int) + 1) = ((fr + 1 : Nat) : Int) := nat_wrap (by omega) (by omega)
    have w2 : IntKind.i64.wrap (((fr + 1 : Nat) : Int) + (j : Int)) = ((fr + 1 + j : Nat) : Int) := nat_wrap (by omega) (by omega)
    have w3 : IntKind.i64.wrap (((c + 1 : Nat) : Int) - 1) = (c : Int) := nat_wrap (by omega) (by omega)
    have hp2 : (p : Int) + 1 + 1 = ((p + 2 : Nat) : Int) := by omega
    have hkl : ((keysL.map strP).length : Int) = 5 := rfl
    have hel : (((keysL.map strP).getD k default).toStr) = keysL.getD k ByteArray.empty := strs_elem keysL k
    have hsz := keys_size k
    obtain ⟨s, hs, ht⟩ := turnOf_ev hr (keysL.getD k ByteArray.empty) ((fr + 1 + j : Nat) : Int) (by omega) (by omega) (by omega)
    have hfr : fr + 1 + j + 3 * c ≤ 1000000 := by omega
    cases hrr : ringM (ks ++ [keysL.getD k ByteArray.empty]) (fs ++ [((fr + 1 + j : Nat) : Int)]) with
    | true =>
      rw [hrr, if_pos rfl] at ht
      obtain ⟨bb, hbb, hbv⟩ := take_ev hr (keysL.getD k ByteArray.empty) ((fr + 1 + j : Nat) : Int) s (by omega) (by omega) (by omega)
      cases bb with
      | true =>
        obtain ⟨ks', fs', q, h1, h2, h3⟩ := ih (p + 2) (fr + 1 + j) (ks ++ [keysL.getD k ByteArray.empty]) (fs ++ [((fr + 1 + j : Nat) : Int)]) (by omega) hfr (by omega) hrr
        refine ⟨ks', fs', q, h1, by omega, Ev2.succ ?_⟩
        simp only [spec_l13Ring.l0_eq, h0, rd_agg, ring_agg, rd_f0, rd_f1, hkl, hf1, hf2, w1, w2, w3, hk.1, hk.2, hel, strs_len, strs_elem, ints_len, ints_elem, items_list, fld_agg, elem_list, toStr_sc, toInt_sc, toBool_sc, headD_one, nat_int, get_bt, decide_eq_true_eq, decide_eq_false_iff_not, decide_true, decide_false, if_true, if_false, ite_self, Bool.not_true, Bool.not_false, Bool.false_eq_true, Bool.true_eq_false, Bool.true_and, Bool.false_and, Bool.and_true, Bool.and_false, not_true, not_false_iff, Option.bind_some, nn, toList_inj, Bool.not_eq_true', Bool.not_eq_false', Int.le_refl, and_self, true_and, and_true, false_and, and_false, bne_self_eq_false, beq_self_eq_true, Int.reduceEq, List.length_singleton, List.tail_cons, Int.reduceLE, Int.reduceLT, decide_eq_true_eq]
        refine Ev2.bind ht ?_
        simp only [turn_f0, turn_f1, turn_f2, turn_agg, strs_len, strs_elem, ints_len, ints_elem, items_list, fld_agg, elem_list, toStr_sc, toInt_sc, toBool_sc, headD_one, nat_int, get_bt, decide_eq_true_eq, decide_eq_false_iff_not, decide_true, decide_false, if_true, if_false, ite_self, Bool.not_true, Bool.not_false, Bool.false_eq_true, Bool.true_eq_false, Bool.true_and, Bool.false_and, Bool.and_true, Bool.and_false, not_true, not_false_iff, Option.bind_some, nn, toList_inj, Bool.not_eq_true', Bool.not_eq_false', Int.le_refl, and_self, true_and, and_true, false_and, and_false, bne_self_eq_false, beq_self_eq_true, Int.reduceEq, List.length_singleton, List.tail_cons, Int.reduceLE, Int.reduceLT, decide_eq_true_eq]
        refine Ev2.bind hbv ?_
        simp only [hp2, ring_f0, ring_f1, strs_len, strs_elem, ints_len, ints_elem, items_list, fld_agg, elem_list, toStr_sc, toInt_sc, toBool_sc, headD_one, nat_int, get_bt, decide_eq_true_eq, decide_eq_false_iff_not, decide_true, decide_false, if_true, if_false, ite_self, Bool.not_true, Bool.not_false, Bool.false_eq_true, Bool.true_eq_false, Bool.true_and, Bool.false_and, Bool.and_true, Bool.and_false, not_true, not_false_iff, Option.bind_some, nn, toList_inj, Bool.not_eq_true', Bool.not_eq_false', Int.le_refl, and_self, true_and, and_true, false_and, and_false, bne_self_eq_false, beq_self_eq_true, Int.reduceEq, List.length_singleton, List.tail_cons, Int.reduceLE, Int.reduceLT, decide_eq_true_eq]
        exact h3
      | false =>
        obtain ⟨ks', fs', q, h1, h2, h3⟩ := ih (p + 2) (fr + 1 + j) ks fs (by omega) hfr (by omega) hr
        refine ⟨ks', fs', q, h1, by omega, Ev2.succ ?_⟩
        simp only [spec_l13Ring.l0_eq, h0, rd_agg, ring_agg, rd_f0, rd_f1, hkl, hf1, hf2, w1, w2, w3, hk.1, hk.2, hel, strs_len, strs_elem, ints_len, ints_elem, items_list, fld_agg, elem_list, toStr_sc, toInt_sc, toBool_sc, headD_one, nat_int, get_bt, decide_eq_true_eq, decide_eq_false_iff_not, decide_true, decide_false, if_true, if_false, ite_self, Bool.not_true, Bool.not_false, Bool.false_eq_true, Bool.true_eq_false, Bool.true_and, Bool.false_and, Bool.and_true, Bool.and_false, not_true, not_false_iff, Option.bind_some, nn, toList_inj, Bool.not_eq_true', Bool.not_eq_false', Int.le_refl, and_self, true_and, and_true, false_and, and_false, bne_self_eq_false, beq_self_eq_true, Int.reduceEq, List.length_singleton, List.tail_cons, Int.reduceLE, Int.reduceLT, decide_eq_true_eq]
        refine Ev2.bind ht ?_
        simp only [turn_f0, turn_f1, turn_f2, turn_agg, strs_len, strs_elem, ints_len, ints_elem, items_list, fld_agg, elem_list, toStr_sc, toInt_sc, toBool_sc, headD_one, nat_int, get_bt, decide_eq_true_eq, decide_eq_false_iff_not, decide_true, decide_false, if_true, if_false, ite_self, Bool.not_true, Bool.not_false, Bool.false_eq_true, Bool.true_eq_false, Bool.true_and, Bool.false_and, Bool.and_true, Bool.and_false, not_true, not_false_iff, Option.bind_some, nn, toList_inj, Bool.not_eq_true', Bool.not_eq_false', Int.le_refl, and_self, true_and, and_true, false_and, and_false, bne_self_eq_false, beq_self_eq_true, Int.reduceEq, List.length_singleton, List.tail_cons, Int.reduceLE, Int.reduceLT, decide_eq_true_eq]
        refine Ev2.bind hbv ?_
        simp only [hp2, ring_f0, ring_f1, strs_len, strs_elem, ints_len, ints_elem, items_list, fld_agg, elem_list, toStr_sc, toInt_sc, toBool_sc, headD_one, nat_int, get_bt, decide_eq_true_eq, decide_eq_false_iff_not, decide_true, decide_false, if_true, if_false, ite_self, Bool.not_true, Bool.not_false, Bool.false_eq_true, Bool.true_eq_false, Bool.true_and, Bool.false_and, Bool.and_true, Bool.and_false, not_true, not_false_iff, Option.bind_some, nn, toList_inj, Bool.not_eq_true', Bool.not_eq_false', Int.le_refl, and_self, true_and, and_true, false_and, and_false, bne_self_eq_false, beq_self_eq_true, Int.reduceEq, List.length_singleton, List.tail_cons, Int.reduceLE, Int.reduceLT, decide_eq_true_eq]
        exact h3
    | false =>
      rw [hrr, if_neg (by simp)] at ht
      obtain ⟨bb, hbb, hbv⟩ := take_ev hr ⟨#[]⟩ 0 ⟨#[]⟩ (by decide) (by omega) (by omega)
      cases bb with
      | true =>
        obtain ⟨ks', fs', q, h1, h2, h3⟩ := ih (p + 2) (fr + 1 + j) (ks ++ [⟨#[]⟩]) (fs ++ [0]) (by omega) hfr (by omega) (hbb rfl)
        refine ⟨ks', fs', q, h1, by omega, Ev2.succ ?_⟩
        simp only [spec_l13Ring.l0_eq, h0, rd_agg, ring_agg, rd_f0, rd_f1, hkl, hf1, hf2, w1, w2, w3, hk.1, hk.2, hel, strs_len, strs_elem, ints_len, ints_elem, items_list, fld_agg, elem_list, toStr_sc, toInt_sc, toBool_sc, headD_one, nat_int, get_bt, decide_eq_true_eq, decide_eq_false_iff_not, decide_true, decide_false, if_true, if_false, ite_self, Bool.not_true, Bool.not_false, Bool.false_eq_true, Bool.true_eq_false, Bool.true_and, Bool.false_and, Bool.and_true, Bool.and_false, not_true, not_false_iff, Option.bind_some, nn, toList_inj, Bool.not_eq_true', Bool.not_eq_false', Int.le_refl, and_self, true_and, and_true, false_and, and_false, bne_self_eq_false, beq_self_eq_true, Int.reduceEq, List.length_singleton, List.tail_cons, Int.reduceLE, Int.reduceLT, decide_eq_true_eq]
        refine Ev2.bind ht ?_
        simp only [turn_f0, turn_f1, turn_f2, turn_agg, strs_len, strs_elem, ints_len, ints_elem, items_list, fld_agg, elem_list, toStr_sc, toInt_sc, toBool_sc, headD_one, nat_int, get_bt, decide_eq_true_eq, decide_eq_false_iff_not, decide_true, decide_false, if_true, if_false, ite_self, Bool.not_true, Bool.not_false, Bool.false_eq_true, Bool.true_eq_false, Bool.true_and, Bool.false_and, Bool.and_true, Bool.and_false, not_true, not_false_iff, Option.bind_some, nn, toList_inj, Bool.not_eq_true', Bool.not_eq_false', Int.le_refl, and_self, true_and, and_true, false_and, and_false, bne_self_eq_false, beq_self_eq_true, Int.reduceEq, List.length_singleton, List.tail_cons, Int.reduceLE, Int.reduceLT, decide_eq_true_eq]
        refine Ev2.bind hbv ?_
        simp only [hp2, ring_f0, ring_f1, strs_len, strs_elem, ints_len, ints_elem, items_list, fld_agg, elem_list, toStr_sc, toInt_sc, toBool_sc, headD_one, nat_int, get_bt, decide_eq_true_eq, decide_eq_false_iff_not, decide_true, decide_false, if_true, if_false, ite_self, Bool.not_true, Bool.not_false, Bool.false_eq_true, Bool.true_eq_false, Bool.true_and, Bool.false_and, Bool.and_true, Bool.and_false, not_true, not_false_iff, Option.bind_some, nn, toList_inj, Bool.not_eq_true', Bool.not_eq_false', Int.le_refl, and_self, true_and, and_true, false_and, and_false, bne_self_eq_false, beq_self_eq_true, Int.reduceEq, List.length_singleton, List.tail_cons, Int.reduceLE, Int.reduceLT, decide_eq_true_eq]
        exact h3
      | false =>
        obtain ⟨ks', fs', q, h1, h2, h3⟩ := ih (p + 2) (fr + 1 + j) ks fs (by omega) hfr (by omega) hr
        refine ⟨ks', fs', q, h1, by omega, Ev2.succ ?_⟩
        simp only [spec_l13Ring.l0_eq, h0, rd_agg, ring_agg, rd_f0, rd_f1, hkl, hf1, hf2, w1, w2, w3, hk.1, hk.2, hel, strs_len, strs_elem, ints_len, ints_elem, items_list, fld_agg, elem_list, toStr_sc, toInt_sc, toBool_sc, headD_one, nat_int, get_bt, decide_eq_true_eq, decide_eq_false_iff_not, decide_true, decide_false, if_true, if_false, ite_self, Bool.not_true, Bool.not_false, Bool.false_eq_true, Bool.true_eq_false, Bool.true_and, Bool.false_and, Bool.and_true, Bool.and_false, not_true, not_false_iff, Option.bind_some, nn, toList_inj, Bool.not_eq_true', Bool.not_eq_false', Int.le_refl, and_self, true_and, and_true, false_and, and_false, bne_self_eq_false, beq_self_eq_true, Int.reduceEq, List.length_singleton, List.tail_cons, Int.reduceLE, Int.reduceLT, decide_eq_true_eq]
        refine Ev2.bind ht ?_
        simp only [turn_f0, turn_f1, turn_f2, turn_agg, strs_len, strs_elem, ints_len, ints_elem, items_list, fld_agg, elem_list, toStr_sc, toInt_sc, toBool_sc, headD_one, nat_int, get_bt, decide_eq_true_eq, decide_eq_false_iff_not, decide_true, decide_false, if_true, if_false, ite_self, Bool.not_true, Bool.not_false, Bool.false_eq_true, Bool.true_eq_false, Bool.true_and, Bool.false_and, Bool.and_true, Bool.and_false, not_true, not_false_iff, Option.bind_some, nn, toList_inj, Bool.not_eq_true', Bool.not_eq_false', Int.le_refl, and_self, true_and, and_true, false_and, and_false, bne_self_eq_false, beq_self_eq_true, Int.reduceEq, List.length_singleton, List.tail_cons, Int.reduceLE, Int.reduceLT, decide_eq_true_eq]
        refine Ev2.bind hbv ?_
        simp only [hp2, ring_f0, ring_f1, strs_len, strs_elem, ints_len, ints_elem, items_list, fld_agg, elem_list, toStr_sc, toInt_sc, toBool_sc, headD_one, nat_int, get_bt, decide_eq_true_eq, decide_eq_false_iff_not, decide_true, decide_false, if_true, if_false, ite_self, Bool.not_true, Bool.not_false, Bool.false_eq_true, Bool.true_eq_false, Bool.true_and, Bool.false_and, Bool.and_true, Bool.and_false, not_true, not_false_iff, Option.bind_some, nn, toList_inj, Bool.not_eq_true', Bool.not_eq_false', Int.le_refl, and_self, true_and, and_true, false_and, and_false, bne_self_eq_false, beq_self_eq_true, Int.reduceEq, List.length_singleton, List.tail_cons, Int.reduceLE, Int.reduceLT, decide_eq_true_eq]
        exact h3
theorem ring_one' (s : ByteArray) : PV.agg [PV.list [PV.sc (.string s)], PV.list [PV.sc (.int .i64 1)]] = ringP [s] [1] := rfl
theorem l13Ring_ev {b : PV} (hb : Code1 b) (p : Nat) (hp : p < 800000000) : ∃ (ks : List ByteArray) (fs : List Int) (q : Nat), ringM ks fs = true ∧ q ≤ p + 9 ∧ Ev (fun N => spec_l13Ring.f N [rdP b (p : Int)]) [ringP ks fs, rdP b (q : Int)] := by
  obtain ⟨c, hc, hf⟩ := pick_ev hb (p := (p : Int)) (n := 5) (by omega) (by omega)
  obtain ⟨c, rfl⟩ := Int.eq_ofNat_of_zero_le hc.1
  have k0 : keyM (ByteArray.mk #[107, 101, 121]) = true := by decide
  have hr : ringM [ByteArray.mk #[107, 101, 121]] [1] = true := by simp [ringM, keysM, ascF, tailM, k0]
  obtain ⟨ks, fs, q, h1, h2, h3⟩ := ring_loop hb c (p + 1) 1 _ _ (by omega) (by omega) (by omega) hr
  refine ⟨ks, fs, q, h1, by omega, ?_⟩
  have hp1 : (p : Int) + 1 = ((p + 1 : Nat) : Int) := by omega
  have hn : ∀ N, spec_RingNew.f N [strP (ByteArray.mk #[107, 101, 121])] = some [ringP [ByteArray.mk #[107, 101, 121]] [1], boolP true] := fun N => by
    simp only [spec_RingNew.f_eq, specKey_val _ (by decide : (ByteArray.mk #[107, 101, 121]).size ≤ 9223372036854775807), ring_one', k0, strs_len, strs_elem, ints_len, ints_elem, items_list, fld_agg, elem_list, toStr_sc, toInt_sc, toBool_sc, headD_one, nat_int, get_bt, decide_eq_true_eq, decide_eq_false_iff_not, decide_true, decide_false, if_true, if_false, ite_self, Bool.not_true, Bool.not_false, Bool.false_eq_true, Bool.true_eq_false, Bool.true_and, Bool.false_and, Bool.and_true, Bool.and_false, not_true, not_false_iff, Option.bind_some, nn, toList_inj, Bool.not_eq_true', Bool.not_eq_false', Int.le_refl, and_self, true_and, and_true, false_and, and_false, bne_self_eq_false, beq_self_eq_true, Int.reduceEq, List.length_singleton, List.tail_cons, Int.reduceLE, Int.reduceLT, decide_eq_true_eq]
  simp only [spec_l13Ring.f_eq, hn, rd_f0, rd_f1, rd_agg, hf, hp1, ring_f0, ring_f1, strs_len, strs_elem, ints_len, ints_elem, items_list, fld_agg, elem_list, toStr_sc, toInt_sc, toBool_sc, headD_one, nat_int, get_bt, decide_eq_true_eq, decide_eq_false_iff_not, decide_true, decide_false, if_true, if_false, ite_self, Bool.not_true, Bool.not_false, Bool.false_eq_true, Bool.true_eq_false, Bool.true_and, Bool.false_and, Bool.and_true, Bool.and_false, not_true, not_false_iff, Option.bind_some, nn, toList_inj, Bool.not_eq_true', Bool.not_eq_false', Int.le_refl, and_self, true_and, and_true, false_and, and_false, bne_self_eq_false, beq_self_eq_true, Int.reduceEq, List.length_singleton, List.tail_cons, Int.reduceLE, Int.reduceLT, decide_eq_true_eq]
  exact h3.diag
theorem one_ev {b : PV} (hb : Code1 b) {p : Int} (hp : 0 ≤ p ∧ p < 1000000000) (l : List Int) (hl : 1 ≤ l.length ∧ l.length < 4611686018427387904) : ∃ s ∈ l, ∀ N, spec_l1Rd_one.f N [rdP b p, intsP l] = some [intP s, rdP b (p + 1)] := by
  obtain ⟨k, hk, hf⟩ := pick_ev hb hp (n := (l.length : Int)) (by omega)
  obtain ⟨j, rfl⟩ := Int.eq_ofNat_of_zero_le hk.1
  have hj : j < l.length := by omega
  refine ⟨l.getD j 0, ?_, fun N => ?_⟩
  · rw [List.getD_eq_getElem?_getD, List.getElem?_eq_getElem hj]; exact List.getElem_mem hj
  · simp only [spec_l1Rd_one.f_eq, rd_f0, rd_f1, rd_agg, hf, hk, strs_len, strs_elem, ints_len, ints_elem, items_list, fld_agg, elem_list, toStr_sc, toInt_sc, toBool_sc, headD_one, nat_int, get_bt, decide_eq_true_eq, decide_eq_false_iff_not, decide_true, decide_false, if_true, if_false, ite_self, Bool.not_true, Bool.not_false, Bool.false_eq_true, Bool.true_eq_false, Bool.true_and, Bool.false_and, Bool.and_true, Bool.and_false, not_true, not_false_iff, Option.bind_some, nn, toList_inj, Bool.not_eq_true', Bool.not_eq_false', Int.le_refl, and_self, true_and, and_true, false_and, and_false, bne_self_eq_false, beq_self_eq_true, Int.reduceEq, List.length_singleton, List.tail_cons, Int.reduceLE, Int.reduceLT, decide_eq_true_eq]
theorem all_set {α : Type} {Q : α → Prop} {l : List α} {x : α} (i : Nat) (h : ∀ y ∈ l, Q y) (hx : Q x) : ∀ y ∈ l.set i x, Q y := by
  intro y hy
  rcases List.mem_or_eq_of_mem_set hy with hy | rfl
  · exact h y hy
  · exact hx
theorem all_snoc {α : Type} {Q : α → Prop} {l : List α} {x : α} (h : ∀ y ∈ l, Q y) (hx : Q x) : ∀ y ∈ l ++ [x], Q y := by
  intro y hy
  rcases List.mem_append.1 hy with hy | hy
  · exact h y hy
  · rw [List.mem_singleton.1 hy]; exact hx
/-- A ring of bounded size. -/
structure RingB (ks : List ByteArray) (fs : List Int) : Prop where
  nk : ks.length ≤ 6
  nf : fs.length ≤ 6
  sk : ∀ k ∈ ks, k.size ≤ 64
  sf : ∀ f ∈ fs, 0 ≤ f ∧ f ≤ 1000000
theorem anyRing_ev {b : PV} (hb : Code1 b) (p : Nat) (hp : p < 800000000) : ∃ (ks : List ByteArray) (fs : List Int) (q : Nat), RingB ks fs ∧ q ≤ p + 11 ∧ Ev (fun N => spec_l13AnyRing.f N [rdP b (p : Int)]) [ringP ks fs, rdP b (q : Int)] := by
  obtain ⟨ks, fs, q, hr, hq, hv⟩ := l13Ring_ev hb p hp
  obtain ⟨n1, n2, n3⟩ := ringM_len hr
  have hks : ∀ k ∈ ks, k.size ≤ 64 := fun k hk => (ringM_keys hr k hk).2
  have hfs : ∀ f ∈ fs, 0 ≤ f ∧ f ≤ 1000000 := fun f hf => by have := (ringM_nums hr).1 f hf; omega
  obtain ⟨k, hk, hf⟩ := pick_ev hb (p := (q : Int)) (n := 12) (by omega) (by omega)
  have hp1 : (q : Int) + 1 = ((q + 1 : Nat) : Int) := by omega
  rw [hp1] at hf
  have hcp := copy_val ks fs (by omega) (by omega)
  simp only [spec_l13AnyRing.f_eq, rd_f0, rd_f1, rd_agg]
  by_cases k0 : k = 0
  · refine ⟨ks.set 0 ⟨#[]⟩, fs, q + 1, ⟨by rw [List.length_set]; omega, by omega, all_set 0 hks (by decide), hfs⟩, by omega, ?_⟩
    refine Ev.bind hv ?_
    have l0 : (0 : Int) < (ks.length : Int) := by omega
    simp only [ring_f0, ring_f1, ring_agg, hcp, rd_f0, rd_f1, rd_agg, hf, k0, l0, strs_set, strs_len, strs_elem, ints_len, ints_elem, items_list, fld_agg, elem_list, toStr_sc, toInt_sc, toBool_sc, headD_one, nat_int, get_bt, decide_eq_true_eq, decide_eq_false_iff_not, decide_true, decide_false, if_true, if_false, ite_self, Bool.not_true, Bool.not_false, Bool.false_eq_true, Bool.true_eq_false, Bool.true_and, Bool.false_and, Bool.and_true, Bool.and_false, not_true, not_false_iff, Option.bind_some, nn, toList_inj, Bool.not_eq_true', Bool.not_eq_false', Int.le_refl, and_self, true_and, and_true, false_and, and_false, bne_self_eq_false, beq_self_eq_true, Int.reduceEq, List.length_singleton, List.tail_cons, Int.reduceLE, Int.reduceLT, decide_eq_true_eq]
    exact Ev.now _
  by_cases k1 : k = 1
  · obtain ⟨v, hvm, hvv⟩ := one_ev hb (p := ((q + 1 : Nat) : Int)) (by omega) [0, 1, 1000000] (by simp)
    have hvb : 0 ≤ v ∧ v ≤ 1000000 := by simp only [List.mem_cons, List.not_mem_nil, or_false] at hvm; omega
    refine ⟨ks, fs.set (fs.length - 1) v, q + 2, ⟨by omega, by rw [List.length_set]; omega, hks, all_set _ hfs hvb⟩, by omega, ?_⟩
    refine Ev.bind hv ?_
    have e : PV.list [(PV.sc (.int .i64 0)), (PV.sc (.int .i64 1)), (PV.sc (.int .i64 1000000))] = intsP [0, 1, 1000000] := rfl
    have w1 : IntKind.i64.wrap ((fs.length : Int) - 1) = ((fs.length - 1 : Nat) : Int) := nat_wrap (by omega) (by omega)
    have l0 : ((fs.length - 1 : Nat) : Int) < (fs.length : Int) := by omega
    have hp2 : ((q + 1 : Nat) : Int) + 1 = ((q + 2 : Nat) : Int) := by omega
    simp only [ring_f0, ring_f1, ring_agg, hcp, rd_f0, rd_f1, rd_agg, hf, k1, e, hvv, w1, l0, hp2, ints_set, strs_len, strs_elem, ints_len, ints_elem, items_list, fld_agg, elem_list, toStr_sc, toInt_sc, toBool_sc, headD_one, nat_int, get_bt, decide_eq_true_eq, decide_eq_false_iff_not, decide_true, decide_false, if_true, if_false, ite_self, Bool.not_true, Bool.not_false, Bool.false_eq_true, Bool.true_eq_false, Bool.true_and, Bool.false_and, Bool.and_true, Bool.and_false, not_true, not_false_iff, Option.bind_some, nn, toList_inj, Bool.not_eq_true', Bool.not_eq_false', Int.le_refl, and_self, true_and, and_true, false_and, and_false, bne_self_eq_false, beq_self_eq_true, Int.reduceEq, List.length_singleton, List.tail_cons, Int.reduceLE, Int.reduceLT, decide_eq_true_eq]
    exact Ev.now _
  by_cases k2 : k = 2
  · refine ⟨ks ++ [⟨#[107, 101, 121]⟩], fs, q + 1, ⟨by rw [List.length_append, List.length_singleton]; omega, by omega, all_snoc hks (by decide), hfs⟩, by omega, ?_⟩
    refine Ev.bind hv ?_
    have c1 : ks.length + 1 ≤ 8796093022208 := by omega
    simp only [ring_f0, ring_f1, ring_agg, hcp, rd_f0, rd_f1, rd_agg, hf, k2, c1, strs_snoc, strs_len, strs_elem, ints_len, ints_elem, items_list, fld_agg, elem_list, toStr_sc, toInt_sc, toBool_sc, headD_one, nat_int, get_bt, decide_eq_true_eq, decide_eq_false_iff_not, decide_true, decide_false, if_true, if_false, ite_self, Bool.not_true, Bool.not_false, Bool.false_eq_true, Bool.true_eq_false, Bool.true_and, Bool.false_and, Bool.and_true, Bool.and_false, not_true, not_false_iff, Option.bind_some, nn, toList_inj, Bool.not_eq_true', Bool.not_eq_false', Int.le_refl, and_self, true_and, and_true, false_and, and_false, bne_self_eq_false, beq_self_eq_true, Int.reduceEq, List.length_singleton, List.tail_cons, Int.reduceLE, Int.reduceLT, decide_eq_true_eq]
    exact Ev.now _
  by_cases k3 : k = 3
  · obtain ⟨v, hvm, hvv⟩ := one_ev hb (p := ((q + 1 : Nat) : Int)) (by omega) [1, 50] (by simp)
    have hvb : 0 ≤ v ∧ v ≤ 1000000 := by simp only [List.mem_cons, List.not_mem_nil, or_false] at hvm; omega
    refine ⟨ks ++ [⟨#[113]⟩], fs ++ [v], q + 2, ⟨by rw [List.length_append, List.length_singleton]; omega, by rw [List.length_append, List.length_singleton]; omega, all_snoc hks (by decide), all_snoc hfs hvb⟩, by omega, ?_⟩
    refine Ev.bind hv ?_
    have e : PV.list [(PV.sc (.int .i64 1)), (PV.sc (.int .i64 50))] = intsP [1, 50] := rfl
    have c1 : ks.length + 1 ≤ 8796093022208 := by omega
    have c2 : fs.length + 1 ≤ 17592186044416 := by omega
    have hp2 : ((q + 1 : Nat) : Int) + 1 = ((q + 2 : Nat) : Int) := by omega
    simp only [ring_f0, ring_f1, ring_agg, hcp, rd_f0, rd_f1, rd_agg, hf, k3, e, hvv, c1, c2, hp2, strs_snoc, ints_snoc, strs_len, strs_elem, ints_len, ints_elem, items_list, fld_agg, elem_list, toStr_sc, toInt_sc, toBool_sc, headD_one, nat_int, get_bt, decide_eq_true_eq, decide_eq_false_iff_not, decide_true, decide_false, if_true, if_false, ite_self, Bool.not_true, Bool.not_false, Bool.false_eq_true, Bool.true_eq_false, Bool.true_and, Bool.false_and, Bool.and_true, Bool.and_false, not_true, not_false_iff, Option.bind_some, nn, toList_inj, Bool.not_eq_true', Bool.not_eq_false', Int.le_refl, and_self, true_and, and_true, false_and, and_false, bne_self_eq_false, beq_self_eq_true, Int.reduceEq, List.length_singleton, List.tail_cons, Int.reduceLE, Int.reduceLT, decide_eq_true_eq]
    exact Ev.now _
  · refine ⟨ks, fs, q + 1, ⟨by omega, by omega, hks, hfs⟩, by omega, ?_⟩
    refine Ev.bind hv ?_
    simp only [ring_f0, ring_f1, ring_agg, hcp, rd_f0, rd_f1, rd_agg, hf, k0, k1, k2, k3, strs_len, strs_elem, ints_len, ints_elem, items_list, fld_agg, elem_list, toStr_sc, toInt_sc, toBool_sc, headD_one, nat_int, get_bt, decide_eq_true_eq, decide_eq_false_iff_not, decide_true, decide_false, if_true, if_false, ite_self, Bool.not_true, Bool.not_false, Bool.false_eq_true, Bool.true_eq_false, Bool.true_and, Bool.false_and, Bool.and_true, Bool.and_false, not_true, not_false_iff, Option.bind_some, nn, toList_inj, Bool.not_eq_true', Bool.not_eq_false', Int.le_refl, and_self, true_and, and_true, false_and, and_false, bne_self_eq_false, beq_self_eq_true, Int.reduceEq, List.length_singleton, List.tail_cons, Int.reduceLE, Int.reduceLT, decide_eq_true_eq]
    exact Ev.now _
theorem last_none {n : Int} : ∀ {ks : List ByteArray} {fs : List Int} {out : ByteArray}, (∀ f ∈ fs, n < f) → lastKey n out ks fs = out
  | [], _, _, _ => by unfold lastKey; rfl
  | _ :: _, [], _, _ => by unfold lastKey; rfl
  | k :: ks, f :: fs, out, h => by
    have hf : ¬ f ≤ n := by have := h f (by simp); omega
    rw [lastKey, if_neg hf]
    exact last_none (fun g hg => h g (by simp [hg]))
theorem last_app {n : Int} : ∀ {ks ks2 : List ByteArray} {fs fs2 : List Int} {out : ByteArray}, ks.length = fs.length → lastKey n out (ks ++ ks2) (fs ++ fs2) = lastKey n (lastKey n out ks fs) ks2 fs2
  | [], ks2, [], fs2, out, _ => by simp [lastKey]
  | k :: ks, ks2, f :: fs, fs2, out, h => by
    simp only [List.cons_append, lastKey]
    exact last_app (by simpa using h)
  | [], _, _ :: _, _, _, h => by simp at h
  | _ :: _, _, [], _, _, h => by simp at h
theorem last_at {n : Int} {ks ks2 : List ByteArray} {fs fs2 : List Int} {k out : ByteArray} {f : Int} (hl : ks.length = fs.length) (h1 : f ≤ n) (h2 : ∀ g ∈ fs2, n < g) : lastKey n out (ks ++ k :: ks2) (fs ++ f :: fs2) = k := by
  rw [last_app hl, lastKey, if_pos h1, last_none h2]
theorem asc_mid {fs fs2 : List Int} {f : Int} (h : (fs ++ f :: fs2).Pairwise (· < ·)) : (∀ g ∈ fs, g < f) ∧ ∀ g ∈ fs2, f < g := by
  rw [List.pairwise_append] at h
  exact ⟨fun g hg => h.2.2 g hg f (by simp), fun g hg => (List.pairwise_cons.1 h.2.1).1 g hg⟩
theorem ringKey_at {ks1 ks2 : List ByteArray} {fs1 fs2 : List Int} {k : ByteArray} {f n : Int} (hr : ringM (ks1 ++ k :: ks2) (fs1 ++ f :: fs2) = true) (hl : ks1.length = fs1.length) (h1 : f ≤ n) (h2 : ∀ g ∈ fs2, n < g) : ringKeyM (ks1 ++ k :: ks2) (fs1 ++ f :: fs2) n = k := by
  unfold ringKeyM
  rw [if_pos hr, last_at hl h1 h2]
theorem law_loop (n : Int) (key : ByteArray) (ks : List ByteArray) (fs : List Int) (hr : ringM ks fs = true) (hs : ∀ s ∈ ks, s.size ≤ 64) (hkey : (key = ByteArray.mk #[]) ↔ n < 1) : ∀ (rest pre : List ByteArray) (frest fpre : List Int), ks = pre ++ rest → fs = fpre ++ frest → pre.length = fpre.length →
    Ev2 (fun N m => laws_FnRingKey.l0 N m n key (pre.length : Int) (strsP ks) (intsP fs)) [boolP true] := by
  have hn := ringM_len hr
  have hp := (ringM_nums hr).2.1
  have hb := (ringM_nums hr).1
  have hs' : ∀ s ∈ ks, s.size ≤ 9223372036854775807 := fun s h => by have := hs s h; omega
  intro rest
  induction rest with
  | nil =>
    intro pre frest fpre h1 h2 hl
    refine Ev2.succ ?_
    have e : (decide (key = ByteArray.mk #[]) == decide (n < 1)) = true := by
      rw [beq_iff_eq]; exact decide_eq_decide.2 hkey
    simp only [laws_FnRingKey.l0_eq, at_end h1, e, strs_len, strs_elem, ints_len, ints_elem, items_list, fld_agg, elem_list, toStr_sc, toInt_sc, toBool_sc, headD_one, nat_int, get_bt, decide_eq_true_eq, decide_eq_false_iff_not, decide_true, decide_false, if_true, if_false, ite_self, Bool.not_true, Bool.not_false, Bool.false_eq_true, Bool.true_eq_false, Bool.true_and, Bool.false_and, Bool.and_true, Bool.and_false, not_true, not_false_iff, Option.bind_some, nn, toList_inj, Bool.not_eq_true', Bool.not_eq_false', Int.le_refl, and_self, true_and, and_true, false_and, and_false, bne_self_eq_false, beq_self_eq_true, Int.reduceEq, List.length_singleton, List.tail_cons, Int.reduceLE, Int.reduceLT, decide_eq_true_eq]
    exact Ev2.now _
  | cons k rest ih =>
    intro pre frest fpre h1 h2 hl
    cases frest with
    | nil =>
      exfalso
      have a1 := congrArg List.length h1
      have a2 := congrArg List.length h2
      simp at a1 a2; omega
    | cons f frest =>
      have a2 : (pre.length : Int) < (fs.length : Int) := by rw [hl]; exact at_lt h2
      have g2 : fs.getD pre.length 0 = f := by rw [hl]; exact at_getD h2
      have hf := hb f (by rw [h2]; simp)
      have hmid := asc_mid (h2 ▸ hp)
      have hr' := hr
      rw [h1, h2] at hr'
      have k1 : ringKeyM ks fs f = k := by rw [h1, h2]; exact ringKey_at hr' hl (Int.le_refl _) hmid.2
      refine Ev2.succ ?_
      simp only [laws_FnRingKey.l0_eq, at_lt h1, at_getD h1, a2, g2, ring_agg, at_next h1 (by omega), strs_len, strs_elem, ints_len, ints_elem, items_list, fld_agg, elem_list, toStr_sc, toInt_sc, toBool_sc, headD_one, nat_int, get_bt, decide_eq_true_eq, decide_eq_false_iff_not, decide_true, decide_false, if_true, if_false, ite_self, Bool.not_true, Bool.not_false, Bool.false_eq_true, Bool.true_eq_false, Bool.true_and, Bool.false_and, Bool.and_true, Bool.and_false, not_true, not_false_iff, Option.bind_some, nn, toList_inj, Bool.not_eq_true', Bool.not_eq_false', Int.le_refl, and_self, true_and, and_true, false_and, and_false, bne_self_eq_false, beq_self_eq_true, Int.reduceEq, List.length_singleton, List.tail_cons, Int.reduceLE, Int.reduceLT, decide_eq_true_eq]
      refine Ev2.bind (implRingKey_ev ks fs f (by omega) (by omega) hs') ?_
      simp only [k1, strs_len, strs_elem, ints_len, ints_elem, items_list, fld_agg, elem_list, toStr_sc, toInt_sc, toBool_sc, headD_one, nat_int, get_bt, decide_eq_true_eq, decide_eq_false_iff_not, decide_true, decide_false, if_true, if_false, ite_self, Bool.not_true, Bool.not_false, Bool.false_eq_true, Bool.true_eq_false, Bool.true_and, Bool.false_and, Bool.and_true, Bool.and_false, not_true, not_false_iff, Option.bind_some, nn, toList_inj, Bool.not_eq_true', Bool.not_eq_false', Int.le_refl, and_self, true_and, and_true, false_and, and_false, bne_self_eq_false, beq_self_eq_true, Int.reduceEq, List.length_singleton, List.tail_cons, Int.reduceLE, Int.reduceLT, decide_eq_true_eq]
      by_cases h0 : (0 : Int) < (pre.length : Int)
      · obtain ⟨pre', p, rfl⟩ : ∃ pre' p, pre = pre' ++ [p] := by
          rcases List.eq_nil_or_concat pre with rfl | ⟨a, b, rfl⟩
          · simp at h0
          · exact ⟨a, b, by simp⟩
        obtain ⟨fpre', q, rfl⟩ : ∃ fpre' q, fpre = fpre' ++ [q] := by
          rcases List.eq_nil_or_concat fpre with rfl | ⟨a, b, rfl⟩
          · simp at hl
          · exact ⟨a, b, by simp⟩
        have hl' : pre'.length = fpre'.length := by simpa using hl
        have hq : q < f := hmid.1 q (by simp)
        have w1 : IntKind.i64.wrap (f - 1) = f - 1 := wrap_id (by omega) (by omega)
        have e1 : ks = pre' ++ p :: (k :: rest) := by rw [h1]; simp
        have e2 : fs = fpre' ++ q :: (f :: frest) := by rw [h2]; simp
        have w2 : IntKind.i64.wrap (((pre' ++ [p]).length : Int) - 1) = (pre'.length : Int) := nat_wrap (by simp) (by have := congrArg List.length h1; simp at this; omega)
        have k2 : ringKeyM ks fs (f - 1) = p := by
          have hr2 := hr
          rw [e1, e2] at hr2 ⊢
          exact ringKey_at hr2 hl' (by omega) (fun g hg => by
            rcases List.mem_cons.1 hg with rfl | hg
            · omega
            · have := hmid.2 g hg; omega)
        simp only [h0, w1, w2, at_lt e1, at_getD e1, strs_len, strs_elem, ints_len, ints_elem, items_list, fld_agg, elem_list, toStr_sc, toInt_sc, toBool_sc, headD_one, nat_int, get_bt, decide_eq_true_eq, decide_eq_false_iff_not, decide_true, decide_false, if_true, if_false, ite_self, Bool.not_true, Bool.not_false, Bool.false_eq_true, Bool.true_eq_false, Bool.true_and, Bool.false_and, Bool.and_true, Bool.and_false, not_true, not_false_iff, Option.bind_some, nn, toList_inj, Bool.not_eq_true', Bool.not_eq_false', Int.le_refl, and_self, true_and, and_true, false_and, and_false, bne_self_eq_false, beq_self_eq_true, Int.reduceEq, List.length_singleton, List.tail_cons, Int.reduceLE, Int.reduceLT, decide_eq_true_eq]
        refine Ev2.bind (implRingKey_ev ks fs (f - 1) (by omega) (by omega) hs') ?_
        simp only [k2, strs_len, strs_elem, ints_len, ints_elem, items_list, fld_agg, elem_list, toStr_sc, toInt_sc, toBool_sc, headD_one, nat_int, get_bt, decide_eq_true_eq, decide_eq_false_iff_not, decide_true, decide_false, if_true, if_false, ite_self, Bool.not_true, Bool.not_false, Bool.false_eq_true, Bool.true_eq_false, Bool.true_and, Bool.false_and, Bool.and_true, Bool.and_false, not_true, not_false_iff, Option.bind_some, nn, toList_inj, Bool.not_eq_true', Bool.not_eq_false', Int.le_refl, and_self, true_and, and_true, false_and, and_false, bne_self_eq_false, beq_self_eq_true, Int.reduceEq, List.length_singleton, List.tail_cons, Int.reduceLE, Int.reduceLT, decide_eq_true_eq]
        exact ih _ _ _ (at_step h1) (at_step h2) (by simpa using hl')
      · simp only [h0, strs_len, strs_elem, ints_len, ints_elem, items_list, fld_agg, elem_list, toStr_sc, toInt_sc, toBool_sc, headD_one, nat_int, get_bt, decide_eq_true_eq, decide_eq_false_iff_not, decide_true, decide_false, if_true, if_false, ite_self, Bool.not_true, Bool.not_false, Bool.false_eq_true, Bool.true_eq_false, Bool.true_and, Bool.false_and, Bool.and_true, Bool.and_false, not_true, not_false_iff, Option.bind_some, nn, toList_inj, Bool.not_eq_true', Bool.not_eq_false', Int.le_refl, and_self, true_and, and_true, false_and, and_false, bne_self_eq_false, beq_self_eq_true, Int.reduceEq, List.length_singleton, List.tail_cons, Int.reduceLE, Int.reduceLT, decide_eq_true_eq]
        exact ih _ _ _ (at_step h1) (at_step h2) (by simpa using hl)
/-- The law's own function answers true. -/
theorem law (ps : List PV) (h : PvOkL (PvOk Try.prog 8) [32] ps) : ∃ N, laws_FnRingKey.f N ps = some [boolP true] := by
  obtain ⟨l, rfl, hby⟩ := code_args (P := Try.prog) (t := 32) (e := 5) (by kernel_rfl) (by kernel_rfl) h
  refine Ev.some ?_
  simp only [laws_FnRingKey.f_eq, strs_len, strs_elem, ints_len, ints_elem, items_list, fld_agg, elem_list, toStr_sc, toInt_sc, toBool_sc, headD_one, nat_int, get_bt, decide_eq_true_eq, decide_eq_false_iff_not, decide_true, decide_false, if_true, if_false, ite_self, Bool.not_true, Bool.not_false, Bool.false_eq_true, Bool.true_eq_false, Bool.true_and, Bool.false_and, Bool.and_true, Bool.and_false, not_true, not_false_iff, Option.bind_some, nn, toList_inj, Bool.not_eq_true', Bool.not_eq_false', Int.le_refl, and_self, true_and, and_true, false_and, and_false, bne_self_eq_false, beq_self_eq_true, Int.reduceEq, List.length_singleton, List.tail_cons, Int.reduceLE, Int.reduceLT, decide_eq_true_eq]
  by_cases hl : (1048576 : Int) < (l.length : Int)
  · simp only [hl, strs_len, strs_elem, ints_len, ints_elem, items_list, fld_agg, elem_list, toStr_sc, toInt_sc, toBool_sc, headD_one, nat_int, get_bt, decide_eq_true_eq, decide_eq_false_iff_not, decide_true, decide_false, if_true, if_false, ite_self, Bool.not_true, Bool.not_false, Bool.false_eq_true, Bool.true_eq_false, Bool.true_and, Bool.false_and, Bool.and_true, Bool.and_false, not_true, not_false_iff, Option.bind_some, nn, toList_inj, Bool.not_eq_true', Bool.not_eq_false', Int.le_refl, and_self, true_and, and_true, false_and, and_false, bne_self_eq_false, beq_self_eq_true, Int.reduceEq, List.length_singleton, List.tail_cons, Int.reduceLE, Int.reduceLT, decide_eq_true_eq]; exact Ev.now _
  obtain ⟨b, hb, ho⟩ := open_ev (l := l) (by omega) hby
  obtain ⟨ks, fs, q, hB, hq, hv⟩ := anyRing_ev hb 0 (by omega)
  obtain ⟨m, hm, hf⟩ := pick_ev hb (p := (q : Int)) (n := 14) (by omega) (by omega)
  have w1 : IntKind.i64.wrap (m - 1) = m - 1 := wrap_id (by omega) (by omega)
  have hk1 := hB.nk
  have hk2 := hB.nf
  have hs' : ∀ s ∈ ks, s.size ≤ 9223372036854775807 := fun s h => by have := hB.sk s h; omega
  have hd : Ev (fun N => spec_DrawRingKey.f N [PV.list l]) [ringP ks fs, intP (m - 1)] := by
    simp only [spec_DrawRingKey.f_eq, ho, rd_f0, rd_f1, rd_agg, strs_len, strs_elem, ints_len, ints_elem, items_list, fld_agg, elem_list, toStr_sc, toInt_sc, toBool_sc, headD_one, nat_int, get_bt, decide_eq_true_eq, decide_eq_false_iff_not, decide_true, decide_false, if_true, if_false, ite_self, Bool.not_true, Bool.not_false, Bool.false_eq_true, Bool.true_eq_false, Bool.true_and, Bool.false_and, Bool.and_true, Bool.and_false, not_true, not_false_iff, Option.bind_some, nn, toList_inj, Bool.not_eq_true', Bool.not_eq_false', Int.le_refl, and_self, true_and, and_true, false_and, and_false, bne_self_eq_false, beq_self_eq_true, Int.reduceEq, List.length_singleton, List.tail_cons, Int.reduceLE, Int.reduceLT, decide_eq_true_eq]
    refine Ev.bind hv ?_
    simp only [hf, rd_f0, rd_f1, rd_agg, ring_f0, ring_f1, ring_agg, w1, strs_len, strs_elem, ints_len, ints_elem, items_list, fld_agg, elem_list, toStr_sc, toInt_sc, toBool_sc, headD_one, nat_int, get_bt, decide_eq_true_eq, decide_eq_false_iff_not, decide_true, decide_false, if_true, if_false, ite_self, Bool.not_true, Bool.not_false, Bool.false_eq_true, Bool.true_eq_false, Bool.true_and, Bool.false_and, Bool.and_true, Bool.and_false, not_true, not_false_iff, Option.bind_some, nn, toList_inj, Bool.not_eq_true', Bool.not_eq_false', Int.le_refl, and_self, true_and, and_true, false_and, and_false, bne_self_eq_false, beq_self_eq_true, Int.reduceEq, List.length_singleton, List.tail_cons, Int.reduceLE, Int.reduceLT, decide_eq_true_eq]
    exact Ev.now _
  have hik := fun n => implRingKey_ev ks fs n (by omega) (by omega) hs'
  have hsk := fun n => specRingKey_ev ks fs n (by omega) (by omega) hs'
  have hio := implRingOk_ev ks fs (by omega) (by omega) hs'
  have hso := specRingOk_ev ks fs (by omega) (by omega) hs'
  simp only [hl, strs_len, strs_elem, ints_len, ints_elem, items_list, fld_agg, elem_list, toStr_sc, toInt_sc, toBool_sc, headD_one, nat_int, get_bt, decide_eq_true_eq, decide_eq_false_iff_not, decide_true, decide_false, if_true, if_false, ite_self, Bool.not_true, Bool.not_false, Bool.false_eq_true, Bool.true_eq_false, Bool.true_and, Bool.false_and, Bool.and_true, Bool.and_false, not_true, not_false_iff, Option.bind_some, nn, toList_inj, Bool.not_eq_true', Bool.not_eq_false', Int.le_refl, and_self, true_and, and_true, false_and, and_false, bne_self_eq_false, beq_self_eq_true, Int.reduceEq, List.length_singleton, List.tail_cons, Int.reduceLE, Int.reduceLT, decide_eq_true_eq]
  refine Ev.bind hd ?_
  simp only [ring_f0, ring_f1, ring_agg, strs_len, strs_elem, ints_len, ints_elem, items_list, fld_agg, elem_list, toStr_sc, toInt_sc, toBool_sc, headD_one, nat_int, get_bt, decide_eq_true_eq, decide_eq_false_iff_not, decide_true, decide_false, if_true, if_false, ite_self, Bool.not_true, Bool.not_false, Bool.false_eq_true, Bool.true_eq_false, Bool.true_and, Bool.false_and, Bool.and_true, Bool.and_false, not_true, not_false_iff, Option.bind_some, nn, toList_inj, Bool.not_eq_true', Bool.not_eq_false', Int.le_refl, and_self, true_and, and_true, false_and, and_false, bne_self_eq_false, beq_self_eq_true, Int.reduceEq, List.length_singleton, List.tail_cons, Int.reduceLE, Int.reduceLT, decide_eq_true_eq]
  refine Ev.bind (hik _) ?_
  refine Ev.bind (hsk _) ?_
  simp only [strs_len, strs_elem, ints_len, ints_elem, items_list, fld_agg, elem_list, toStr_sc, toInt_sc, toBool_sc, headD_one, nat_int, get_bt, decide_eq_true_eq, decide_eq_false_iff_not, decide_true, decide_false, if_true, if_false, ite_self, Bool.not_true, Bool.not_false, Bool.false_eq_true, Bool.true_eq_false, Bool.true_and, Bool.false_and, Bool.and_true, Bool.and_false, not_true, not_false_iff, Option.bind_some, nn, toList_inj, Bool.not_eq_true', Bool.not_eq_false', Int.le_refl, and_self, true_and, and_true, false_and, and_false, bne_self_eq_false, beq_self_eq_true, Int.reduceEq, List.length_singleton, List.tail_cons, Int.reduceLE, Int.reduceLT, decide_eq_true_eq]
  refine Ev.bind hio ?_
  refine Ev.bind hso ?_
  simp only [strs_len, strs_elem, ints_len, ints_elem, items_list, fld_agg, elem_list, toStr_sc, toInt_sc, toBool_sc, headD_one, nat_int, get_bt, decide_eq_true_eq, decide_eq_false_iff_not, decide_true, decide_false, if_true, if_false, ite_self, Bool.not_true, Bool.not_false, Bool.false_eq_true, Bool.true_eq_false, Bool.true_and, Bool.false_and, Bool.and_true, Bool.and_false, not_true, not_false_iff, Option.bind_some, nn, toList_inj, Bool.not_eq_true', Bool.not_eq_false', Int.le_refl, and_self, true_and, and_true, false_and, and_false, bne_self_eq_false, beq_self_eq_true, Int.reduceEq, List.length_singleton, List.tail_cons, Int.reduceLE, Int.reduceLT, decide_eq_true_eq]
  refine Ev.bind hso ?_
  cases hr : ringM ks fs with
  | false =>
    rw [hr] at hso hio
    simp only [strs_len, strs_elem, ints_len, ints_elem, items_list, fld_agg, elem_list, toStr_sc, toInt_sc, toBool_sc, headD_one, nat_int, get_bt, decide_eq_true_eq, decide_eq_false_iff_not, decide_true, decide_false, if_true, if_false, ite_self, Bool.not_true, Bool.not_false, Bool.false_eq_true, Bool.true_eq_false, Bool.true_and, Bool.false_and, Bool.and_true, Bool.and_false, not_true, not_false_iff, Option.bind_some, nn, toList_inj, Bool.not_eq_true', Bool.not_eq_false', Int.le_refl, and_self, true_and, and_true, false_and, and_false, bne_self_eq_false, beq_self_eq_true, Int.reduceEq, List.length_singleton, List.tail_cons, Int.reduceLE, Int.reduceLT, decide_eq_true_eq]
    refine Ev.bind (hsk _) ?_
    simp only [strs_len, strs_elem, ints_len, ints_elem, items_list, fld_agg, elem_list, toStr_sc, toInt_sc, toBool_sc, headD_one, nat_int, get_bt, decide_eq_true_eq, decide_eq_false_iff_not, decide_true, decide_false, if_true, if_false, ite_self, Bool.not_true, Bool.not_false, Bool.false_eq_true, Bool.true_eq_false, Bool.true_and, Bool.false_and, Bool.and_true, Bool.and_false, not_true, not_false_iff, Option.bind_some, nn, toList_inj, Bool.not_eq_true', Bool.not_eq_false', Int.le_refl, and_self, true_and, and_true, false_and, and_false, bne_self_eq_false, beq_self_eq_true, Int.reduceEq, List.length_singleton, List.tail_cons, Int.reduceLE, Int.reduceLT, decide_eq_true_eq]
    refine Ev.bind hio ?_
    refine Ev.bind hso ?_
    exact Ev.now _
  | true =>
    simp only [strs_len, strs_elem, ints_len, ints_elem, items_list, fld_agg, elem_list, toStr_sc, toInt_sc, toBool_sc, headD_one, nat_int, get_bt, decide_eq_true_eq, decide_eq_false_iff_not, decide_true, decide_false, if_true, if_false, ite_self, Bool.not_true, Bool.not_false, Bool.false_eq_true, Bool.true_eq_false, Bool.true_and, Bool.false_and, Bool.and_true, Bool.and_false, not_true, not_false_iff, Option.bind_some, nn, toList_inj, Bool.not_eq_true', Bool.not_eq_false', Int.le_refl, and_self, true_and, and_true, false_and, and_false, bne_self_eq_false, beq_self_eq_true, Int.reduceEq, List.length_singleton, List.tail_cons, Int.reduceLE, Int.reduceLT, decide_eq_true_eq]
    refine (law_loop (m - 1) _ ks fs hr hB.sk ?_ ks [] fs [] rfl rfl rfl).diag
    have hn := ringM_len hr
    obtain ⟨b1, b2, b3⟩ := ringM_nums hr
    have hks := ringM_keys hr
    cases fs with
    | nil => simp at hn; omega
    | cons f fs =>
      have e1 : f = 1 := b3
      subst e1
      cases ks with
      | nil => simp at hn
      | cons k ks =>
        unfold ringKeyM
        rw [if_pos hr]
        constructor
        · intro h0
          refine Classical.byContradiction fun hge => ?_
          have hmem : ∀ (ks : List ByteArray) (fs : List Int) (out : ByteArray), 1 ≤ out.size → (∀ x ∈ ks, 1 ≤ x.size) → 1 ≤ (lastKey (m - 1) out ks fs).size := by
            intro ks
            induction ks with
            | nil => intro fs out h1 _; unfold lastKey; exact h1
            | cons x ks ih =>
              intro fs out h1 h2
              cases fs with
              | nil => unfold lastKey; exact h1
              | cons g fs =>
                rw [lastKey]
                refine ih fs _ ?_ (fun y hy => h2 y (by simp [hy]))
                split
                · exact h2 x (by simp)
                · exact h1
          rw [lastKey, if_pos (by omega)] at h0
          have := hmem ks fs k (hks k (by simp)).1 (fun x hx => (hks x (by simp [hx])).1)
          rw [h0] at this
          exact absurd this (by decide)
        · intro h0
          exact last_none (fun g hg => by have := b1 g hg; omega)
end Go.Proofs.Ytbmpmkklopbejaa.FnRingKey
