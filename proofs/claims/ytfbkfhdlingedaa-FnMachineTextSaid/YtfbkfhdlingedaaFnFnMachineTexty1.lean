import Derived.Test.YtfbkfhdlingedaaFnFnMachineTextx1
set_option linter.unusedVariables false
set_option linter.unusedSimpArgs false
set_option maxRecDepth 10000
namespace Go.Proofs.Ytfbkfhdlingedaa.FnMachineText
open Go Go.Proofs.YtfbkfhdlingedaaAm
theorem stk : (∀ l : List ByteArray, (strsP l).items.length = l.length) ∧ (∀ (l : List ByteArray) (i : Nat), ((strsP l).elem i).toStr = l.getD i ByteArray.empty) ∧ (∀ l : List Int, (intsP l).items.length = l.length) ∧ (∀ (l : List Int) (i : Nat), ((intsP l).elem i).toInt = l.getD i 0) ∧ (∀ l : List PV, (PV.list l).items = l) ∧ (∀ (l : List PV) (i : Nat), (PV.agg l).fld i = l.getD i default) ∧ (∀ (l : List PV) (i : Nat), (PV.list l).elem i = l.getD i default) ∧ (∀ s : ByteArray, (PV.sc (.string s)).toStr = s) ∧ (∀ (k : IntKind) (n : Int), (PV.sc (.int k n)).toInt = n) ∧ (∀ b : Bool, (PV.sc (.bool b)).toBool = b) ∧ (∀ (v : PV) (l : List PV), (v :: l).headD default = v) ∧ (∀ n : Nat, (n : Int).toNat = n) ∧ (∀ (s : ByteArray) (i : Nat), (((s.get! i).toNat : Nat) : Int) = bt s i) ∧ (∀ n : Nat, (0 : Int) ≤ (n : Int)) ∧ (∀ s t : ByteArray, s.toList = t.toList ↔ s = t) ∧ ((!true) = false) ∧ ((!false) = true) ∧ (∀ b : Bool, (true && b) = b) ∧ (∀ b : Bool, (false && b) = false) ∧ (∀ b : Bool, (b && true) = b) ∧ (∀ b : Bool, (b && false) = false) ∧ (∀ b : Bool, ((!b) = true) = (b = false)) ∧ (∀ b : Bool, ((!b) = false) = (b = true)) ∧ ((false = true) = False) ∧ ((true = false) = False) ∧ (¬True ↔ False) ∧ (¬False ↔ True) ∧ (∀ a : Int, a ≤ a) ∧ (∀ p : Prop, (p ∧ p) = p) ∧ (∀ p : Prop, (True ∧ p) = p) ∧ (∀ p : Prop, (p ∧ True) = p) ∧ (∀ p : Prop, (False ∧ p) = False) ∧ (∀ p : Prop, (p ∧ False) = False) ∧ (∀ (p : Prop) [Decidable p], (decide p = true) = p) ∧ (∀ (p : Prop) (_ : Decidable p), decide p = false ↔ ¬p) ∧ (∀ h : Decidable True, @decide True h = true) ∧ (∀ h : Decidable False, @decide False h = false) ∧ (∀ (α : Type) (x y : α), (if True then x else y) = x) ∧ (∀ (α : Type) (x y : α), (if False then x else y) = y) ∧ (∀ (α : Type) (c : Prop) [Decidable c] (x : α), (if c then x else x) = x) ∧ (∀ (α β : Type) (f : α → Option β) (a : α), (some a).bind f = f a) ∧ (∀ b : Bool, (b != b) = false) ∧ (∀ b : Bool, (b == b) = true) ∧ (∀ v : PV, [v].length = 1) ∧ (∀ (v : PV) (l : List PV), (v :: l).tail = l) :=
  ⟨strs_len, strs_elem, ints_len, ints_elem, items_list, fld_agg, elem_list, toStr_sc, toInt_sc, toBool_sc, headD_one, nat_int, get_bt, fun _ => nn, fun _ _ => toList_inj, Bool.not_true, Bool.not_false, Bool.true_and, Bool.false_and, Bool.and_true, Bool.and_false, Bool.not_eq_true', Bool.not_eq_false', Bool.false_eq_true, Bool.true_eq_false, not_true, not_false_iff, Int.le_refl, and_self, true_and, and_true, false_and, and_false, fun _ => decide_eq_true_eq, fun _ _ => decide_eq_false_iff_not, decide_true, decide_false, fun _ _ _ => if_pos trivial, fun _ _ _ => if_neg id, fun _ _ _ _ => ite_self _, fun _ _ _ _ => rfl, fun b => by cases b <;> rfl, fun b => by cases b <;> rfl, fun _ => rfl, fun _ _ => rfl⟩
def rdP (b : PV) (p : Int) : PV := .agg [b, intP p]
theorem rd_f0 (b : PV) (p : Int) : (rdP b p).fld 0 = b := rfl
theorem rd_f1 (b : PV) (p : Int) : (rdP b p).fld 1 = intP p := rfl
theorem rd_agg (b : PV) (p : Int) : PV.agg [b, PV.sc (.int .i64 p)] = rdP b p := rfl
structure Code1 (b : PV) : Prop where
  len : b.items.length ≤ 2000
  byte : ∀ j, 0 ≤ (b.elem j).toInt ∧ (b.elem j).toInt ≤ 255
theorem bXor_pos {a b : Int} (ha : 0 ≤ a ∧ a < 9223372036854775808) (hb : 0 ≤ b ∧ b < 9223372036854775808) : 0 ≤ bXor .i64 a b := by
  obtain ⟨x, rfl⟩ := Int.eq_ofNat_of_zero_le ha.1
  obtain ⟨y, rfl⟩ := Int.eq_ofNat_of_zero_le hb.1
  have hx : x < 2 ^ 63 := by omega
  have hy : y < 2 ^ 63 := by omega
  have h : (BitVec.ofInt (IntKind.bits .i64) (x : Int) ^^^ BitVec.ofInt (IntKind.bits .i64) (y : Int)).toNat = x ^^^ y := by
    rw [BitVec.toNat_xor, BitVec.toNat_ofInt, BitVec.toNat_ofInt]
    have hx2 : ((x : Int) % ((2 ^ IntKind.i64.bits : Nat) : Int)).toNat = x := by
      have : ((2 ^ IntKind.i64.bits : Nat) : Int) = 18446744073709551616 := rfl
      rw [this]; omega
    have hy2 : ((y : Int) % ((2 ^ IntKind.i64.bits : Nat) : Int)).toNat = y := by
      have : ((2 ^ IntKind.i64.bits : Nat) : Int) = 18446744073709551616 := rfl
      rw [this]; omega
    rw [hx2, hy2]
  have hlt : x ^^^ y < 2 ^ 63 := Nat.xor_lt_two_pow hx hy
  unfold bXor
  rw [h, wrap_id (by omega) (by omega)]
  omega
theorem tmod_in {x n : Int} (hx : 0 ≤ x) (hn : 1 ≤ n) : 0 ≤ Int.tmod x n ∧ Int.tmod x n < n := by
  rw [Int.tmod_eq_emod_of_nonneg hx]
  exact ⟨Int.emod_nonneg _ (by omega), Int.emod_lt_of_pos _ (by omega)⟩
theorem tdiv_in {x n : Int} (hx : 0 ≤ x) (hn : 1 ≤ n) : 0 ≤ Int.tdiv x n ∧ Int.tdiv x n ≤ x := by
  rw [Int.tdiv_eq_ediv_of_nonneg hx]
  exact ⟨Int.ediv_nonneg hx (by omega), Int.ediv_le_self _ hx⟩
theorem pick_ev {b : PV} (hb : Code1 b) {p n : Int} (hp : 0 ≤ p ∧ p < 1000000000) (hn : 1 ≤ n ∧ n < 4611686018427387904) : ∃ k, (0 ≤ k ∧ k < n) ∧ ∀ N, spec_l1Rd_pick.f N [rdP b p, intP n] = some [intP k, rdP b (p + 1)] := by
  have hlen := hb.len
  have h0 : ¬ n < 1 := by omega
  have h00 : ¬ n = 0 := by omega
  have w1 : IntKind.i64.wrap (p + 1) = p + 1 := wrap_id (by omega) (by omega)
  have w2 : IntKind.i64.wrap (p + 1 - 1) = p := by rw [wrap_id (by omega) (by omega)]; omega
  by_cases hz : (b.items.length : Int) = 0
  · refine ⟨0, by omega, fun N => ?_⟩
    simp only [spec_l1Rd_pick.f_eq, rd_f0, rd_f1, h0, hz, w1, stk, Int.reduceEq, Nat.reduceEqDiff, Int.reduceLE, Int.reduceLT]
    rfl
  by_cases hlt : p < (b.items.length : Int)
  · have hby := hb.byte p.toNat
    have w3 : IntKind.i64.wrap ((b.elem p.toNat).toInt) = (b.elem p.toNat).toInt := wrap_id (by omega) (by omega)
    refine ⟨Int.tmod ((b.elem p.toNat).toInt) n, tmod_in hby.1 hn.1, fun N => ?_⟩
    simp only [spec_l1Rd_pick.f_eq, rd_f0, rd_f1, h0, h00, hz, hlt, hp.1, w1, w2, w3, stk, Int.reduceEq, Nat.reduceEqDiff, Int.reduceLE, Int.reduceLT]
    rfl
  · have hm : 1 ≤ (b.items.length : Int) := by omega
    have w4 : IntKind.i64.wrap (p * 7) = p * 7 := wrap_id (by omega) (by omega)
    have w5 : IntKind.i64.wrap (p * 7 + 3) = p * 7 + 3 := wrap_id (by omega) (by omega)
    have w6 : IntKind.i64.wrap (p * 29) = p * 29 := wrap_id (by omega) (by omega)
    have m1 := tmod_in (x := p) hp.1 hm
    have m2 := tmod_in (x := p * 7 + 3) (by omega) hm
    have q1 := tdiv_in (x := p) hp.1 hm
    have w7 : IntKind.i64.wrap (Int.tdiv p (b.items.length : Int)) = Int.tdiv p (b.items.length : Int) := wrap_id (by omega) (by omega)
    have w8 : IntKind.i64.wrap (Int.tdiv p (b.items.length : Int) * 53) = Int.tdiv p (b.items.length : Int) * 53 := wrap_id (by omega) (by omega)
    have e1 := hb.byte (Int.tmod p (b.items.length : Int)).toNat
    have e2 := hb.byte (Int.tmod (p * 7 + 3) (b.items.length : Int)).toNat
    have z64 : ((64 : Int) = 0) = False := by simp
    simp only [spec_l1Rd_pick.f_eq, rd_f0, rd_f1, h0, h00, hz, hlt, hp.1, w1, w2, w4, w5, w6, w7, w8, m1, m2, z64, stk, Int.reduceEq, Nat.reduceEqDiff, Int.reduceLE, Int.reduceLT]
    generalize (b.elem (Int.tmod p (b.items.length : Int)).toNat).toInt = x1 at e1 ⊢
    generalize (b.elem (Int.tmod (p * 7 + 3) (b.items.length : Int)).toNat).toInt = x2 at e2 ⊢
    generalize Int.tdiv p (b.items.length : Int) = d at q1 ⊢
    have v1 : IntKind.i64.wrap x1 = x1 := wrap_id (by omega) (by omega)
    have v2 : IntKind.i64.wrap x2 = x2 := wrap_id (by omega) (by omega)
    have v3 : IntKind.i64.wrap (x1 * 131) = x1 * 131 := wrap_id (by omega) (by omega)
    have v4 : IntKind.i64.wrap (x2 * 1117) = x2 * 1117 := wrap_id (by omega) (by omega)
    have v5 : IntKind.i64.wrap (x1 * 131 + x2 * 1117) = x1 * 131 + x2 * 1117 := wrap_id (by omega) (by omega)
    have v6 : IntKind.i64.wrap (x1 * 131 + x2 * 1117 + p * 29) = x1 * 131 + x2 * 1117 + p * 29 := wrap_id (by omega) (by omega)
    have v7 : IntKind.i64.wrap (x1 * 131 + x2 * 1117 + p * 29 + d * 53) = x1 * 131 + x2 * 1117 + p * 29 + d * 53 := wrap_id (by omega) (by omega)
    simp only [v1, v2, v3, v4, v5, v6, v7]
    generalize hy : x1 * 131 + x2 * 1117 + p * 29 + d * 53 = y
    have hyb : 0 ≤ y ∧ y < 1000000000000 := by omega
    have q2 := tdiv_in (x := y) (n := 64) hyb.1 (by omega)
    have v8 : IntKind.i64.wrap (Int.tdiv y 64) = Int.tdiv y 64 := wrap_id (by omega) (by omega)
    rw [v8]
    exact ⟨Int.tmod (bXor .i64 y (Int.tdiv y 64)) n, tmod_in (bXor_pos (by omega) (by omega)) hn.1, fun N => rfl⟩
theorem of_ev {b : PV} (hb : Code1 b) {p : Int} (hp : 0 ≤ p ∧ p < 1000000000) (l : List ByteArray) (hl : 1 ≤ l.length ∧ l.length < 4611686018427387904) : ∃ s ∈ l, ∀ N, spec_l1Rd_of.f N [rdP b p, strsP l] = some [strP s, rdP b (p + 1)] := by
  obtain ⟨k, hk, hf⟩ := pick_ev hb hp (n := (l.length : Int)) (by omega)
  obtain ⟨j, rfl⟩ := Int.eq_ofNat_of_zero_le hk.1
  have hj : j < l.length := by omega
  refine ⟨l.getD j ByteArray.empty, ?_, fun N => ?_⟩
  · rw [List.getD_eq_getElem?_getD, List.getElem?_eq_getElem hj]; exact List.getElem_mem hj
  · simp only [spec_l1Rd_of.f_eq, rd_f0, rd_f1, rd_agg, hf, hk, stk, Int.reduceEq, Nat.reduceEqDiff, Int.reduceLE, Int.reduceLT]
theorem open_ev {l : List PV} (hl : l.length ≤ 1048576) (hby : ∀ j, 0 ≤ ((PV.list l).elem j).toInt ∧ ((PV.list l).elem j).toInt ≤ 255) : ∃ b, Code1 b ∧ ∀ N, spec_l1Open.f N [PV.list l] = some [rdP b 0] := by
  by_cases h : (2000 : Int) < (l.length : Int)
  · refine ⟨PV.list (l.take 2000), ⟨by simp [PV.items]; omega, fun j => ?_⟩, fun N => ?_⟩
    · rw [elem_list, List.getD_eq_getElem?_getD, List.getElem?_take]
      have := hby j
      rw [elem_list, List.getD_eq_getElem?_getD] at this
      split
      · exact this
      · exact ⟨Int.le_refl _, by decide⟩
    · have h2 : (2000 : Int) ≤ (l.length : Int) := by omega
      simp only [spec_l1Open.f_eq, h, h2, stk, Int.reduceEq, Nat.reduceEqDiff, Int.reduceLE, Int.reduceLT]
      rfl
  · refine ⟨PV.list l, ⟨by simp [PV.items]; omega, hby⟩, fun N => ?_⟩
    simp only [spec_l1Open.f_eq, h, stk, Int.reduceEq, Nat.reduceEqDiff, Int.reduceLE, Int.reduceLT]
    rfl
theorem code_args {P : Program} {t e : TypeId} (ht : tk P t = .slice e) (he : tk P e = .int .u8) {ps : List PV} (h : PvOkL (PvOk P 8) [t] ps) : ∃ l, ps = [PV.list l] ∧ ∀ j, 0 ≤ ((PV.list l).elem j).toInt ∧ ((PV.list l).elem j).toInt ≤ 255 := by
  obtain ⟨p, rfl, h1⟩ := pvOkL1 h
  obtain ⟨l, rfl, _, h3⟩ := pvOk_slice ht h1
  refine ⟨l, rfl, fun j => ?_⟩
  rw [elem_list, List.getD_eq_getElem?_getD]
  cases hj : l[j]? with
  | none => exact ⟨Int.le_refl _, by decide⟩
  | some q =>
    obtain ⟨x, rfl, hx⟩ := pvOk_int he (h3 q (List.mem_of_getElem? hj))
    simp [Lit.wf, IntKind.min, IntKind.max, IntKind.signed, IntKind.bits] at hx
    simp [PV.toInt]; omega
theorem nat_wrap {n : Int} {m : Nat} (h : n = (m : Int)) (hm : m < 9223372036854775808) : IntKind.i64.wrap n = (m : Int) := by
  rw [h, wrap_id (by omega) (by omega)]
def isWord (s : ByteArray) : Bool := decide (1 ≤ s.size ∧ s.size ≤ 12) && (bytesOf s).all fun c => decide (97 ≤ c ∧ c ≤ 122)
def lowB (l : List Int) : Bool := l.all fun c => decide (97 ≤ c ∧ c ≤ 122)
theorem lowB_cons (c : Int) (l : List Int) : lowB (c :: l) = (decide (97 ≤ c ∧ c ≤ 122) && lowB l) := by simp [lowB]
def bLess (a b : ByteArray) : Bool := Op.bytesLess a.toList b.toList
theorem bLess_eq (a b : ByteArray) : Op.bytesLess a.toList b.toList = bLess a b := rfl
def ascW : Option ByteArray → List ByteArray → Bool
  | _, [] => true
  | none, c :: rest => isWord c && ascW (some c) rest
  | some q, c :: rest => isWord c && bLess q c && ascW (some c) rest
def wordsM (l : List ByteArray) (most : Int) : Bool := ascW none l && decide ((l.length : Int) ≤ most)
def Ahead (pre : List ByteArray) (p : Option ByteArray) : Prop := (pre = [] ∧ p = none) ∨ ∃ pre' q, pre = pre' ++ [q] ∧ p = some q
theorem Ahead.next (pre : List ByteArray) (c : ByteArray) : Ahead (pre ++ [c]) (some c) := .inr ⟨pre, c, rfl, rfl⟩
theorem at_prev {xs pre' rest : List ByteArray} {q : ByteArray} (hp : xs = (pre' ++ [q]) ++ rest) (hx : xs.length ≤ 9223372036854775807) :
    IntKind.i64.wrap (((pre' ++ [q]).length : Int) - 1) = (pre'.length : Int) ∧ (pre'.length : Int) < (xs.length : Int) ∧ xs.getD pre'.length ByteArray.empty = q ∧ (0 : Int) < ((pre' ++ [q]).length : Int) := by
  subst hp
  simp only [List.length_append, List.length_cons, List.length_nil] at hx ⊢
  refine ⟨?_, by omega, ?_, by omega⟩
  · rw [wrap_id (by omega) (by omega)]; omega
  · simp
theorem specLetters_loop (s : ByteArray) (hs : s.size ≤ 9223372036854775807) (m : Int) : ∀ rest pre : List Int, bytesOf s = pre ++ rest → Ev2 (fun N n => spec_l1Letters.l0 N n s m (pre.length : Int)) [boolP (lowB rest && decide ((s.size : Int) ≤ m))] := by
  intro rest
  induction rest with
  | nil =>
    intro pre hp
    refine Ev2.succ ?_
    simp only [spec_l1Letters.l0_eq, at_sizeE hp, lowB, List.all_nil, stk, Int.reduceEq, Nat.reduceEqDiff, Int.reduceLE, Int.reduceLT]
    exact Ev2.now _
  | cons c rest ih =>
    intro pre hp
    refine Ev2.succ ?_
    simp only [spec_l1Letters.l0_eq, stk, Int.reduceEq, Nat.reduceEqDiff, Int.reduceLE, Int.reduceLT, at_size hp, at_bt hp, at_next hp (by rw [bytesOf_len]; omega)]
    rw [lowB_cons]
    by_cases h1 : c < 97
    · simp only [h1, eq_false (show ¬ (97 ≤ c ∧ c ≤ 122) by omega), stk, Int.reduceEq, Nat.reduceEqDiff, Int.reduceLE, Int.reduceLT]; exact Ev2.now _
    by_cases h2 : 122 < c
    · simp only [h1, h2, eq_false (show ¬ (97 ≤ c ∧ c ≤ 122) by omega), stk, Int.reduceEq, Nat.reduceEqDiff, Int.reduceLE, Int.reduceLT]; exact Ev2.now _
    simp only [h1, h2, eq_true (show (97 ≤ c ∧ c ≤ 122) by omega), stk, Int.reduceEq, Nat.reduceEqDiff, Int.reduceLE, Int.reduceLT]
    exact ih _ (at_step hp)
theorem specLetters_ev (s : ByteArray) (hs : s.size ≤ 9223372036854775807) (m : Int) : Ev (fun N => spec_l1Letters.f N [strP s, intP m]) [boolP (lowB (bytesOf s) && decide ((s.size : Int) ≤ m))] := by
  simp only [spec_l1Letters.f_eq, stk, Int.reduceEq, Nat.reduceEqDiff, Int.reduceLE, Int.reduceLT]
  exact (specLetters_loop s hs m (bytesOf s) [] rfl).diag
theorem specWord_ev (s : ByteArray) (hs : s.size ≤ 9223372036854775807) : Ev (fun N => spec_l1Word.f N [strP s]) [boolP (isWord s)] := by
  simp only [spec_l1Word.f_eq, stk, Int.reduceEq, Nat.reduceEqDiff, Int.reduceLE, Int.reduceLT]
  by_cases h : (0 : Int) < (s.size : Int)
  · simp only [h, stk, Int.reduceEq, Nat.reduceEqDiff, Int.reduceLE, Int.reduceLT]
    refine Ev.bind (specLetters_ev s hs 12) ?_
    refine Ev.ext (Ev.now _) ?_
    simp only [stk, Int.reduceEq, Nat.reduceEqDiff, Int.reduceLE, Int.reduceLT]
    unfold isWord
    rw [Bool.and_comm]
    show [boolP (_ && lowB _)] = [boolP (decide _ && lowB _)]
    have : decide ((s.size : Int) ≤ 12) = decide (1 ≤ s.size ∧ s.size ≤ 12) := decide_eq_decide.2 (by omega)
    rw [this]
  · simp only [h, stk, Int.reduceEq, Nat.reduceEqDiff, Int.reduceLE, Int.reduceLT]
    refine Ev.ext (Ev.now _) ?_
    unfold isWord
    rw [decide_eq_false (show ¬ (1 ≤ s.size ∧ s.size ≤ 12) by omega), Bool.false_and]
theorem specWords_loop (a : List ByteArray) (ha : a.length ≤ 9223372036854775807) (hs : ∀ s ∈ a, s.size ≤ 9223372036854775807) : ∀ (rest pre : List ByteArray) (p : Option ByteArray), a = pre ++ rest → Ahead pre p →
    Ev2 (fun N n => spec_l3Words.l0 N n (strsP a) (pre.length : Int)) [boolP (ascW p rest && decide ((a.length : Int) ≤ 300))] := by
  intro rest
  induction rest with
  | nil =>
    intro pre p hp _
    refine Ev2.succ ?_
    simp only [spec_l3Words.l0_eq, stk, Int.reduceEq, Nat.reduceEqDiff, Int.reduceLE, Int.reduceLT, at_end hp, ascW]
    exact Ev2.now _
  | cons c rest ih =>
    intro pre p hp hA
    have hc : c.size ≤ 9223372036854775807 := hs c (by rw [hp]; simp)
    refine Ev2.succ ?_
    simp only [spec_l3Words.l0_eq, stk, Int.reduceEq, Nat.reduceEqDiff, Int.reduceLE, Int.reduceLT, at_lt hp, at_getD hp, at_next hp ha]
    refine Ev2.bind (specWord_ev c hc) ?_
    have hnext := ih (pre ++ [c]) (some c) (at_step hp) (Ahead.next pre c)
    simp only [stk, Int.reduceEq, Nat.reduceEqDiff, Int.reduceLE, Int.reduceLT]
    rcases hA with ⟨rfl, rfl⟩ | ⟨pre', q, rfl, rfl⟩
    · rw [ascW]
      cases hw : isWord c with
      | false => simp only [stk, Int.reduceEq, Nat.reduceEqDiff, Int.reduceLE, Int.reduceLT]; exact Ev2.now _
      | true =>
        simp only [List.length_nil, Int.natCast_zero, Int.lt_irrefl, stk, Int.reduceEq, Nat.reduceEqDiff, Int.reduceLE, Int.reduceLT]
        exact hnext
    · obtain ⟨h1, h2, h3, h4⟩ := at_prev hp ha
      rw [ascW]
      cases hw : isWord c with
      | false => simp only [stk, Int.reduceEq, Nat.reduceEqDiff, Int.reduceLE, Int.reduceLT]; exact Ev2.now _
      | true =>
        simp only [h4, h1, h2, h3, bLess_eq, stk, Int.reduceEq, Nat.reduceEqDiff, Int.reduceLE, Int.reduceLT]
        cases hb : bLess q c with
        | false => simp only [stk, Int.reduceEq, Nat.reduceEqDiff, Int.reduceLE, Int.reduceLT]; exact Ev2.now _
        | true => simp only [stk, Int.reduceEq, Nat.reduceEqDiff, Int.reduceLE, Int.reduceLT]; exact hnext
theorem specWords_ev (a : List ByteArray) (ha : a.length ≤ 9223372036854775807) (hs : ∀ s ∈ a, s.size ≤ 9223372036854775807) : Ev (fun N => spec_l3Words.f N [strsP a]) [boolP (wordsM a 300)] := by
  simp only [spec_l3Words.f_eq]
  exact (specWords_loop a ha hs a [] none rfl (.inl ⟨rfl, rfl⟩)).diag
def insM (s : ByteArray) : List ByteArray → List ByteArray
  | [] => [s]
  | c :: r => if bLess c s = true then c :: insM s r else if c = s then c :: r else s :: c :: r
theorem insM_mem (s : ByteArray) : ∀ (l : List ByteArray) (x : ByteArray), x ∈ insM s l ↔ x = s ∨ x ∈ l
  | [], x => by simp [insM]
  | c :: r, x => by
    unfold insM
    split
    · simp only [List.mem_cons, insM_mem s r x]
      constructor
      · rintro (h | h | h)
        · exact .inr (.inl h)
        · exact .inl h
        · exact .inr (.inr h)
      · rintro (h | h | h)
        · exact .inr (.inl h)
        · exact .inl h
        · exact .inr (.inr h)
    · split
      · rename_i he
        subst he
        simp
      · simp
theorem all_snoc {α : Type} {Q : α → Prop} {l : List α} {x : α} (h : ∀ y ∈ l, Q y) (hx : Q x) : ∀ y ∈ l ++ [x], Q y := by
  intro y hy
  rcases List.mem_append.1 hy with hy | hy
  · exact h y hy
  · rw [List.mem_singleton.1 hy]; exact hx
theorem ins_split (s : ByteArray) : ∀ (pre rest : List ByteArray), (∀ c ∈ pre, bLess c s = true) → insM s (pre ++ rest) = pre ++ insM s rest
  | [], rest, _ => rfl
  | c :: pre, rest, h => by
    rw [List.cons_append, insM, if_pos (h c (by simp)), ins_split s pre rest (fun x hx => h x (by simp [hx]))]; rfl
theorem put_loop (a : List ByteArray) (s : ByteArray) (ha : a.length ≤ 1000000000) : ∀ (rest pre : List ByteArray), a = pre ++ rest → (∀ c ∈ pre, bLess c s = true) →
    Ev2 (fun N n => spec_l1Put.l0 N n s (pre.length : Int) (strsP a)) [strsP (insM s a)] := by
  intro rest
  have parts : ∀ (pre rest : List ByteArray), a = pre ++ rest → (strsP a).items.take pre.length = pre.map strP ∧ (strsP a).items.drop pre.length = rest.map strP := fun pre rest hp => by
    subst hp; simp [strsP, PV.items]
  induction rest with
  | nil =>
    intro pre hp hpre
    obtain ⟨p1, p2⟩ := parts pre [] hp
    have e : insM s a = pre ++ [s] := by rw [hp, ins_split s pre [] hpre]; rfl
    have hl : a.length = pre.length := by rw [hp]; simp
    have c0 : pre.length ≤ 8796093022208 := by omega
    have c1 : pre.length + 1 ≤ 8796093022208 := by omega
    have c2 : (pre.length : Int) ≤ (a.length : Int) := by omega
    have z : a.length - pre.length = 0 := by omega
    refine Ev2.succ ?_
    have e2 : PV.list (pre.map strP ++ [strP s]) = strsP (pre ++ [s]) := by simp [strsP]
    simp only [spec_l1Put.l0_eq, strs_len, at_end hp, c2, z, List.drop_zero, Nat.sub_zero, p1, p2, List.nil_append, List.length_nil, List.length_map, List.length_append, List.map_nil, List.take_nil, List.append_nil, Nat.zero_add, Nat.add_zero, c0, c1, e, e2, stk, Int.reduceEq, Nat.reduceEqDiff, Int.reduceLE, Int.reduceLT]
    exact Ev2.now _
  | cons c rest ih =>
    intro pre hp hpre
    obtain ⟨p1, p2⟩ := parts pre (c :: rest) hp
    have hl : a.length = pre.length + 1 + rest.length := by rw [hp]; simp; omega
    refine Ev2.succ ?_
    by_cases hlt : bLess c s = true
    · simp only [spec_l1Put.l0_eq, at_lt hp, at_getD hp, bLess_eq, hlt, at_next hp (by omega), stk, Int.reduceEq, Nat.reduceEqDiff, Int.reduceLE, Int.reduceLT]
      refine ih _ (at_step hp) (fun x hx => ?_)
      rcases List.mem_append.1 hx with hx | hx
      · exact hpre x hx
      · rw [List.mem_singleton.1 hx]; exact hlt
    · have e : insM s a = pre ++ (if c = s then c :: rest else s :: c :: rest) := by rw [hp, ins_split s pre _ hpre, insM, if_neg hlt]
      by_cases hc : c = s
      · have e3 : insM s a = a := by rw [e, if_pos hc, ← hp]
        subst hc
        simp only [spec_l1Put.l0_eq, at_lt hp, at_getD hp, bLess_eq, hlt, e3, stk, Int.reduceEq, Nat.reduceEqDiff, Int.reduceLE, Int.reduceLT]
        exact Ev2.now _
      · rw [if_neg hc] at e
        have c0 : pre.length ≤ 8796093022208 := by omega
        have c1 : pre.length + 1 ≤ 8796093022208 := by omega
        have c2 : (pre.length : Int) ≤ (a.length : Int) := by omega
        have c3 : pre.length + 1 + (rest.length + 1) ≤ 8796093022208 := by omega
        have z : a.length - pre.length = rest.length + 1 := by omega
        have t1 : List.take (rest.length + 1) (strP c :: rest.map strP) = strP c :: rest.map strP := List.take_of_length_le (by simp)
        have e2 : PV.list (pre.map strP ++ [strP s] ++ strP c :: rest.map strP) = strsP (pre ++ s :: c :: rest) := by simp [strsP]
        simp only [spec_l1Put.l0_eq, strs_len, at_lt hp, at_getD hp, bLess_eq, hlt, hc, c2, List.drop_zero, Nat.sub_zero, p1, p2, z, t1, List.nil_append, List.length_nil, List.length_map, List.length_append, List.length_cons, List.map_cons, Nat.zero_add, c0, c1, c3, e, e2, stk, Int.reduceEq, Nat.reduceEqDiff, Int.reduceLE, Int.reduceLT]
        exact Ev2.now _
theorem put_ev (a : List ByteArray) (s : ByteArray) (ha : a.length ≤ 1000000000) : Ev (fun N => spec_l1Put.f N [strsP a, strP s]) [strsP (insM s a)] := by
  simp only [spec_l1Put.f_eq, stk, Int.reduceEq, Nat.reduceEqDiff, Int.reduceLE, Int.reduceLT]
  exact (put_loop a s ha a [] rfl (by simp)).diag
theorem insM_len (s : ByteArray) : ∀ l : List ByteArray, (insM s l).length ≤ l.length + 1
  | [] => by simp [insM]
  | c :: r => by
    unfold insM
    have := insM_len s r
    split
    · simp; omega
    · split <;> simp
theorem szs_in {l : List ByteArray} {a b : Nat} (h : (l.all fun s => decide (a ≤ s.size ∧ s.size ≤ b)) = true) : ∀ s ∈ l, a ≤ s.size ∧ s.size ≤ b := fun s hs => of_decide_eq_true (List.all_eq_true.1 h s hs)
theorem least_val (a b : Int) (N : Nat) : spec_l1Least.f N [intP a, intP b] = some [intP (if a < b then a else b)] := by
  simp only [spec_l1Least.f_eq, stk, Int.reduceEq, Nat.reduceEqDiff, Int.reduceLE, Int.reduceLT]
  by_cases h : a < b <;> simp only [h, stk, Int.reduceEq, Nat.reduceEqDiff, Int.reduceLE, Int.reduceLT]
theorem extract_all (s : ByteArray) : s.extract 0 s.size = s := by
  simp
theorem word_loop {b : PV} (hb : Code1 b) : ∀ (c p : Nat) (x : ByteArray), p + c < 1000000000 → x.size + 2 * c ≤ 12 → (1 ≤ c ∨ 1 ≤ x.size) → ∃ (r : ByteArray) (q : Nat), q ≤ p + c ∧ 1 ≤ r.size ∧ r.size ≤ 12 ∧ Ev2 (fun N n => spec_l13Word.l0 N n x (c : Int) b (p : Int)) [strP r, rdP b (q : Int)] := by
  intro c
  induction c with
  | zero =>
    intro p x hp hx h1
    refine ⟨x, p, by omega, by omega, by omega, Ev2.succ ?_⟩
    have h0 : ¬ (0 : Int) < ((0 : Nat) : Int) := by omega
    have hm : (if (x.size : Int) < 12 then (x.size : Int) else 12) = (x.size : Int) := by split <;> omega
    simp only [spec_l13Word.l0_eq, h0, least_val, hm, stk, Int.reduceEq, Nat.reduceEqDiff, Int.reduceLE, Int.reduceLT, extract_all, rd_agg]
    exact Ev2.now _
  | succ c ih =>
    intro p x hp hx h1
    obtain ⟨s, hs, hf⟩ := of_ev hb (p := (p : Int)) (by omega) [ByteArray.mk #[97], ByteArray.mk #[98], ByteArray.mk #[99], ByteArray.mk #[97, 98], ByteArray.mk #[116]] (by simp)
    have hsz : 1 ≤ s.size ∧ s.size ≤ 2 := by
      have ha : ∀ s ∈ [ByteArray.mk #[97], ByteArray.mk #[98], ByteArray.mk #[99], ByteArray.mk #[97, 98], ByteArray.mk #[116]], 1 ≤ s.size ∧ s.size ≤ 2 := szs_in rfl
      exact ha s hs
    obtain ⟨r, q, h2, h3, h4, h5⟩ := ih (p + 1) (x ++ s) (by omega) (by rw [ByteArray.size_append]; omega) (.inr (by rw [ByteArray.size_append]; omega))
    refine ⟨r, q, by omega, h3, h4, Ev2.succ ?_⟩
    have h0 : (0 : Int) < ((c + 1 : Nat) : Int) := by omega
    have hw : IntKind.i64.wrap (((c + 1 : Nat) : Int) - 1) = (c : Int) := by rw [wrap_id (by omega) (by omega)]; omega
    have hl : x.size + s.size ≤ 9223372036854775807 := by omega
    have hp1 : ((p : Int) + 1) = ((p + 1 : Nat) : Int) := by omega
    have e : PV.list [PV.sc (.string (ByteArray.mk #[97])), PV.sc (.string (ByteArray.mk #[98])), PV.sc (.string (ByteArray.mk #[99])), PV.sc (.string (ByteArray.mk #[97, 98])), PV.sc (.string (ByteArray.mk #[116]))] = strsP [ByteArray.mk #[97], ByteArray.mk #[98], ByteArray.mk #[99], ByteArray.mk #[97, 98], ByteArray.mk #[116]] := rfl
    simp only [spec_l13Word.l0_eq, h0, hw, hl, e, rd_agg, hf, rd_f0, rd_f1, hp1, stk, Int.reduceEq, Nat.reduceEqDiff, Int.reduceLE, Int.reduceLT]
    exact h5
def wordsL : List ByteArray := [ByteArray.mk #[99, 97, 116], ByteArray.mk #[99, 97, 116, 115], ByteArray.mk #[97, 99, 116], ByteArray.mk #[100, 111], ByteArray.mk #[100, 111, 105, 110, 103], ByteArray.mk #[103, 111], ByteArray.mk #[117, 110, 100, 111], ByteArray.mk #[116, 114, 121], ByteArray.mk #[116, 114, 105, 101, 115], ByteArray.mk #[97], ByteArray.mk #[98, 97, 107, 101], ByteArray.mk #[98, 97, 107, 105, 110, 103], ByteArray.mk #[116, 97, 99, 116], ByteArray.mk #[99, 97, 114, 116], ByteArray.mk #[97, 98, 99, 97, 98, 99, 97, 98, 99, 97, 98, 99]]
theorem word_ev {b : PV} (hb : Code1 b) (p : Nat) (hp : p < 900000000) : ∃ (r : ByteArray) (q : Nat), q ≤ p + 10 ∧ 1 ≤ r.size ∧ r.size ≤ 12 ∧ Ev (fun N => spec_l13Word.f N [rdP b (p : Int)]) [strP r, rdP b (q : Int)] := by
  obtain ⟨k, hk, hf⟩ := pick_ev hb (p := (p : Int)) (n := 3) (by omega) (by omega)
  by_cases h0 : k = 0
  · obtain ⟨k2, hk2, hf2⟩ := pick_ev hb (p := (p : Int) + 1) (n := 5) (by omega) (by omega)
    obtain ⟨j, rfl⟩ := Int.eq_ofNat_of_zero_le hk2.1
    obtain ⟨r, q, h2, h3, h4, h5⟩ := word_loop hb (1 + j) (p + 2) ⟨#[]⟩ (by omega) (by have : (ByteArray.mk #[]).size = 0 := rfl; omega) (.inl (by omega))
    refine ⟨r, q, by omega, h3, h4, ?_⟩
    have hw : IntKind.i64.wrap (1 + (j : Int)) = ((1 + j : Nat) : Int) := by rw [wrap_id (by omega) (by omega)]; omega
    have hp1 : ((p : Int) + 1 + 1) = ((p + 2 : Nat) : Int) := by omega
    simp only [spec_l13Word.f_eq, rd_f0, rd_f1, rd_agg, hf, h0, hf2, hw, hp1, stk, Int.reduceEq, Nat.reduceEqDiff, Int.reduceLE, Int.reduceLT]
    exact h5.diag
  · obtain ⟨s, hs, hf2⟩ := of_ev hb (p := (p : Int) + 1) (by omega) wordsL (by simp [wordsL])
    have ha : ∀ s ∈ wordsL, 1 ≤ s.size ∧ s.size ≤ 12 := szs_in rfl
    refine ⟨s, p + 2, by omega, (ha s hs).1, (ha s hs).2, ?_⟩
    have hp1 : ((p : Int) + 1 + 1) = ((p + 2 : Nat) : Int) := by omega
    have e : PV.list [PV.sc (.string (ByteArray.mk #[99, 97, 116])), PV.sc (.string (ByteArray.mk #[99, 97, 116, 115])), PV.sc (.string (ByteArray.mk #[97, 99, 116])), PV.sc (.string (ByteArray.mk #[100, 111])), PV.sc (.string (ByteArray.mk #[100, 111, 105, 110, 103])), PV.sc (.string (ByteArray.mk #[103, 111])), PV.sc (.string (ByteArray.mk #[117, 110, 100, 111])), PV.sc (.string (ByteArray.mk #[116, 114, 121])), PV.sc (.string (ByteArray.mk #[116, 114, 105, 101, 115])), PV.sc (.string (ByteArray.mk #[97])), PV.sc (.string (ByteArray.mk #[98, 97, 107, 101])), PV.sc (.string (ByteArray.mk #[98, 97, 107, 105, 110, 103])), PV.sc (.string (ByteArray.mk #[116, 97, 99, 116])), PV.sc (.string (ByteArray.mk #[99, 97, 114, 116])), PV.sc (.string (ByteArray.mk #[97, 98, 99, 97, 98, 99, 97, 98, 99, 97, 98, 99]))] = strsP wordsL := rfl
    simp only [spec_l13Word.f_eq, rd_f0, rd_f1, rd_agg, hf, h0, e, hf2, hp1, stk, Int.reduceEq, Nat.reduceEqDiff, Int.reduceLE, Int.reduceLT]
    exact Ev.now _
structure Aff where
  flag : ByteArray
  front : Bool
  strip : ByteArray
  add : ByteArray
  cond : ByteArray
def affP (a : Aff) : PV := .agg [strP a.flag, boolP a.front, strP a.strip, strP a.add, strP a.cond]
def affsP (l : List Aff) : PV := .list (l.map affP)
theorem aff_f0 (a : Aff) : (affP a).fld 0 = strP a.flag := rfl
theorem aff_f1 (a : Aff) : (affP a).fld 1 = boolP a.front := rfl
theorem aff_f2 (a : Aff) : (affP a).fld 2 = strP a.strip := rfl
theorem aff_f3 (a : Aff) : (affP a).fld 3 = strP a.add := rfl
theorem aff_f4 (a : Aff) : (affP a).fld 4 = strP a.cond := rfl
theorem aff_agg (a : Aff) : PV.agg [PV.sc (.string a.flag), PV.sc (.bool a.front), PV.sc (.string a.strip), PV.sc (.string a.add), PV.sc (.string a.cond)] = affP a := rfl
theorem affs_len (l : List Aff) : (affsP l).items.length = l.length := by simp [affsP, PV.items]
theorem affs_elem {l pre rest : List Aff} {a : Aff} (h : l = pre ++ a :: rest) : (affsP l).elem pre.length = affP a := by
  subst h
  simp [affsP, PV.elem, PV.items, List.getD_eq_getElem?_getD]
structure Ent where
  stem : ByteArray
  flags : ByteArray
def entP (e : Ent) : PV := .agg [strP e.stem, strP e.flags]
def entsP (l : List Ent) : PV := .list (l.map entP)
theorem ent_f0 (e : Ent) : (entP e).fld 0 = strP e.stem := rfl
theorem ent_f1 (e : Ent) : (entP e).fld 1 = strP e.flags := rfl
theorem ent_agg (e : Ent) : PV.agg [PV.sc (.string e.stem), PV.sc (.string e.flags)] = entP e := rfl
theorem ents_len (l : List Ent) : (entsP l).items.length = l.length := by simp [entsP, PV.items]
theorem ents_elem {l pre rest : List Ent} {a : Ent} (h : l = pre ++ a :: rest) : (entsP l).elem pre.length = entP a := by
  subst h
  simp [entsP, PV.elem, PV.items, List.getD_eq_getElem?_getD]
def bookP (af : List Aff) (es : List Ent) : PV := .agg [affsP af, entsP es]
theorem book_f0 (af : List Aff) (es : List Ent) : (bookP af es).fld 0 = affsP af := rfl
theorem book_f1 (af : List Aff) (es : List Ent) : (bookP af es).fld 1 = entsP es := rfl
theorem book_agg (af : List Aff) (es : List Ent) : PV.agg [affsP af, entsP es] = bookP af es := rfl
def begB (s p : ByteArray) : Bool := decide (p.size ≤ s.size) && decide (s.extract 0 p.size = p)
def endB (s p : ByteArray) : Bool := decide (p.size ≤ s.size) && decide (s.extract (s.size - p.size) s.size = p)
theorem l2Begins_val (s p : ByteArray) (N : Nat) : spec_l2Begins.f N [strP s, strP p] = some [boolP (begB s p)] := by
  by_cases h : p.size ≤ s.size
  · have h1 : ((p.size : Int) ≤ (s.size : Int)) = True := eq_true (by omega)
    simp only [spec_l2Begins.f_eq, h1, begB, h, nn, stk, Int.reduceEq, Nat.reduceEqDiff, Int.reduceLE, Int.reduceLT]
  · have h1 : ((p.size : Int) ≤ (s.size : Int)) = False := eq_false (by omega)
    simp only [spec_l2Begins.f_eq, h1, begB, h, stk, Int.reduceEq, Nat.reduceEqDiff, Int.reduceLE, Int.reduceLT]
theorem l2Ends_val (s p : ByteArray) (hs : s.size ≤ 9223372036854775807) (N : Nat) : spec_l2Ends.f N [strP s, strP p] = some [boolP (endB s p)] := by
  by_cases h : p.size ≤ s.size
  · have h1 : ((p.size : Int) ≤ (s.size : Int)) = True := eq_true (by omega)
    have w1 : IntKind.i64.wrap ((s.size : Int) - (p.size : Int)) = ((s.size - p.size : Nat) : Int) := nat_wrap (by omega) (by omega)
    have h2 : (((s.size - p.size : Nat) : Int) ≤ (s.size : Int)) = True := eq_true (by omega)
    simp only [spec_l2Ends.f_eq, h1, h2, w1, endB, h, nn, stk, Int.reduceEq, Nat.reduceEqDiff, Int.reduceLE, Int.reduceLT]
  · have h1 : ((p.size : Int) ≤ (s.size : Int)) = False := eq_false (by omega)
    simp only [spec_l2Ends.f_eq, h1, endB, h, stk, Int.reduceEq, Nat.reduceEqDiff, Int.reduceLE, Int.reduceLT]
def hasFrom (flags flag : ByteArray) : Nat → Nat → Bool
  | 0, _ => false
  | d + 1, i => decide (flags.extract i (i + 1) = flag) || hasFrom flags flag d (i + 1)
def hasB (flags flag : ByteArray) : Bool := hasFrom flags flag flags.size 0
theorem l2Has_loop (flags flag : ByteArray) (hs : flags.size ≤ 1000000) : ∀ d i : Nat, i + d = flags.size → Ev2 (fun N n => spec_l2Has.l0 N n flags flag (i : Int)) [boolP (hasFrom flags flag d i)] := by
  intro d
  induction d with
  | zero =>
    intro i hi
    refine Ev2.succ ?_
    have h0 : ((i : Int) < (flags.size : Int)) = False := eq_false (by omega)
    simp only [spec_l2Has.l0_eq, h0, hasFrom, stk, Int.reduceEq, Nat.reduceEqDiff, Int.reduceLE, Int.reduceLT]
    exact Ev2.now _
  | succ d ih =>
    intro i hi
    refine Ev2.succ ?_
    have h0 : ((i : Int) < (flags.size : Int)) = True := eq_true (by omega)
    have w1 : IntKind.i64.wrap ((i : Int) + 1) = ((i + 1 : Nat) : Int) := nat_wrap (by omega) (by omega)
    have h1 : ((i : Int) ≤ ((i + 1 : Nat) : Int)) = True := eq_true (by omega)
    have h2 : (((i + 1 : Nat) : Int) ≤ (flags.size : Int)) = True := eq_true (by omega)
    by_cases he : flags.extract i (i + 1) = flag
    · simp only [spec_l2Has.l0_eq, h0, h1, h2, w1, nn, hasFrom, he, Bool.true_or, stk, Int.reduceEq, Nat.reduceEqDiff, Int.reduceLE, Int.reduceLT]
      exact Ev2.now _
    · simp only [spec_l2Has.l0_eq, h0, h1, h2, w1, nn, hasFrom, he, Bool.false_or, stk, Int.reduceEq, Nat.reduceEqDiff, Int.reduceLE, Int.reduceLT]
      exact ih (i + 1) (by omega)
theorem l2Has_ev (flags flag : ByteArray) (hs : flags.size ≤ 1000000) : Ev (fun N => spec_l2Has.f N [strP flags, strP flag]) [boolP (hasB flags flag)] := by
  simp only [spec_l2Has.f_eq, stk, Int.reduceEq, Nat.reduceEqDiff, Int.reduceLE, Int.reduceLT]
  exact (l2Has_loop flags flag hs flags.size 0 (by omega)).diag
def formB (a : Aff) (s : ByteArray) : ByteArray := if a.front = true then a.add ++ s.extract a.strip.size s.size else s.extract 0 (s.size - a.strip.size) ++ a.add
def fitB (a : Aff) (s : ByteArray) : Bool := if a.front = true then begB s a.cond else endB s a.cond
def doB (a : Aff) (s : ByteArray) : Option ByteArray := if fitB a s = true then (if isWord (formB a s) = true then some (formB a s) else none) else none
def doR (a : Aff) (s : ByteArray) : List PV := if fitB a s = true then [strP (formB a s), boolP (isWord (formB a s))] else [strP ⟨#[]⟩, boolP false]
structure AffG (a : Aff) : Prop where
  strip : a.strip.size ≤ a.cond.size
  add : a.add.size ≤ 1000000
theorem l2Do_ev {a : Aff} (hg : AffG a) (s : ByteArray) (hs : s.size ≤ 1000000) : Ev (fun N => spec_l2Do.f N [affP a, strP s]) (doR a s) := by
  have h1 := hg.strip
  have h2 := hg.add
  have hE := l2Ends_val s a.cond (by omega)
  have hB := l2Begins_val s a.cond
  simp only [strP] at hE hB
  cases hf : a.front with
  | true =>
    have e1 : fitB a s = begB s a.cond := by simp [fitB, hf]
    have e2 : formB a s = a.add ++ s.extract a.strip.size s.size := by simp [formB, hf]
    unfold doR
    rw [e1, e2]
    cases hb : begB s a.cond with
    | false =>
      simp only [spec_l2Do.f_eq, aff_f0, aff_f1, aff_f2, aff_f3, aff_f4, hf, hB, hb, stk, Int.reduceEq, Nat.reduceEqDiff, Int.reduceLE, Int.reduceLT]
      exact Ev.now _
    | true =>
      have hz : a.cond.size ≤ s.size := by
        simp only [begB, Bool.and_eq_true, decide_eq_true_eq] at hb; exact hb.1
      have c1 : ((a.strip.size : Int) ≤ (s.size : Int)) = True := eq_true (by omega)
      have c2 : (a.add.size + (s.extract a.strip.size s.size).size ≤ 9223372036854775807) = True := eq_true (by rw [ByteArray.size_extract]; omega)
      have hw := specWord_ev (a.add ++ s.extract a.strip.size s.size) (by rw [ByteArray.size_append, ByteArray.size_extract]; omega)
      simp only [spec_l2Do.f_eq, aff_f0, aff_f1, aff_f2, aff_f3, aff_f4, hf, hB, hb, c1, c2, nn, stk, Int.reduceEq, Nat.reduceEqDiff, Int.reduceLE, Int.reduceLT]
      simp only [strP] at hw
      refine Ev.bind hw ?_
      simp only [stk, Int.reduceEq, Nat.reduceEqDiff, Int.reduceLE, Int.reduceLT]
      exact Ev.now _
  | false =>
    have e1 : fitB a s = endB s a.cond := by simp [fitB, hf]
    have e2 : formB a s = s.extract 0 (s.size - a.strip.size) ++ a.add := by simp [formB, hf]
    unfold doR
    rw [e1, e2]
    cases hb : endB s a.cond with
    | false =>
      simp only [spec_l2Do.f_eq, aff_f0, aff_f1, aff_f2, aff_f3, aff_f4, hf, hE, hb, stk, Int.reduceEq, Nat.reduceEqDiff, Int.reduceLE, Int.reduceLT]
      exact Ev.now _
    | true =>
      have hz : a.cond.size ≤ s.size := by
        simp only [endB, Bool.and_eq_true, decide_eq_true_eq] at hb; exact hb.1
      have w1 : IntKind.i64.wrap ((s.size : Int) - (a.strip.size : Int)) = ((s.size - a.strip.size : Nat) : Int) := nat_wrap (by omega) (by omega)
      have c1 : (((s.size - a.strip.size : Nat) : Int) ≤ (s.size : Int)) = True := eq_true (by omega)
      have c2 : ((s.extract 0 (s.size - a.strip.size)).size + a.add.size ≤ 9223372036854775807) = True := eq_true (by rw [ByteArray.size_extract]; omega)
      have hw := specWord_ev (s.extract 0 (s.size - a.strip.size) ++ a.add) (by rw [ByteArray.size_append, ByteArray.size_extract]; omega)
      simp only [spec_l2Do.f_eq, aff_f0, aff_f1, aff_f2, aff_f3, aff_f4, hf, hE, hb, w1, c1, c2, nn, stk, Int.reduceEq, Nat.reduceEqDiff, Int.reduceLE, Int.reduceLT]
      simp only [strP] at hw
      refine Ev.bind hw ?_
      simp only [stk, Int.reduceEq, Nat.reduceEqDiff, Int.reduceLE, Int.reduceLT]
      exact Ev.now _
def putO (o : Option ByteArray) (acc : List ByteArray) : List ByteArray := match o with
  | some x => insM x acc
  | none => acc
def oneL (a : Aff) : List ByteArray → List ByteArray → List ByteArray
  | [], acc => acc
  | w :: r, acc => oneL a r (putO (doB a w) acc)
def oneA (flags : ByteArray) (front : Bool) (ws : List ByteArray) : List Aff → List ByteArray → List ByteArray
  | [], acc => acc
  | a :: r, acc => oneA flags front ws r (if a.front = front ∧ hasB flags a.flag = true then oneL a ws acc else acc)
theorem putO_len (o : Option ByteArray) (acc : List ByteArray) : (putO o acc).length ≤ acc.length + 1 := by
  cases o with
  | none => simp [putO]
  | some x => exact insM_len x acc
theorem oneL_len (a : Aff) : ∀ (ws acc : List ByteArray), (oneL a ws acc).length ≤ acc.length + ws.length
  | [], acc => by simp [oneL]
  | w :: r, acc => by
    have h1 := oneL_len a r (putO (doB a w) acc)
    have h2 := putO_len (doB a w) acc
    rw [oneL, List.length_cons]; omega
theorem oneA_len (flags : ByteArray) (front : Bool) (ws : List ByteArray) : ∀ (af : List Aff) (acc : List ByteArray), (oneA flags front ws af acc).length ≤ acc.length + ws.length * af.length
  | [], acc => by simp [oneA]
  | a :: r, acc => by
    have h2 := oneL_len a ws acc
    rw [oneA, List.length_cons, Nat.mul_add, Nat.mul_one]
    split
    · have h1 := oneA_len flags front ws r (oneL a ws acc); omega
    · have h1 := oneA_len flags front ws r acc; omega
theorem doB_word {a : Aff} {w x : ByteArray} (h : doB a w = some x) : isWord x = true := by
  unfold doB at h
  split at h
  · split at h
    · rename_i hw; injection h with h; rw [← h]; exact hw
    · cases h
  · cases h
theorem oneL_mem (a : Aff) : ∀ (ws acc : List ByteArray) (x : ByteArray), x ∈ oneL a ws acc ↔ x ∈ acc ∨ ∃ w ∈ ws, doB a w = some x
  | [], acc, x => by simp [oneL]
  | w :: r, acc, x => by
    rw [oneL, oneL_mem a r]
    have hp : x ∈ putO (doB a w) acc ↔ x ∈ acc ∨ doB a w = some x := by
      cases hd : doB a w with
      | none => simp [putO]
      | some y =>
        simp only [putO, insM_mem, Option.some.injEq]
        constructor
        · rintro (h | h)
          · exact .inr h.symm
          · exact .inl h
        · rintro (h | h)
          · exact .inr h
          · exact .inl h.symm
    rw [hp]
    constructor
    · rintro ((h | h) | ⟨v, hv, h⟩)
      · exact .inl h
      · exact .inr ⟨w, by simp, h⟩
      · exact .inr ⟨v, by simp [hv], h⟩
    · rintro (h | ⟨v, hv, h⟩)
      · exact .inl (.inl h)
      · rcases List.mem_cons.1 hv with rfl | hv
        · exact .inl (.inr h)
        · exact .inr ⟨v, hv, h⟩
theorem oneA_mem (flags : ByteArray) (front : Bool) (ws : List ByteArray) : ∀ (af : List Aff) (acc : List ByteArray) (x : ByteArray), x ∈ oneA flags front ws af acc ↔ x ∈ acc ∨ ∃ a ∈ af, (a.front = front ∧ hasB flags a.flag = true) ∧ ∃ w ∈ ws, doB a w = some x
  | [], acc, x => by simp [oneA]
  | a :: r, acc, x => by
    rw [oneA, oneA_mem flags front ws r]
    split
    · rename_i hc
      rw [oneL_mem]
      constructor
      · rintro ((h | h) | ⟨b, hb, h⟩)
        · exact .inl h
        · exact .inr ⟨a, by simp, hc, h⟩
        · exact .inr ⟨b, by simp [hb], h⟩
      · rintro (h | ⟨b, hb, h1, h2⟩)
        · exact .inl (.inl h)
        · rcases List.mem_cons.1 hb with rfl | hb
          · exact .inl (.inr h2)
          · exact .inr ⟨b, hb, h1, h2⟩
    · rename_i hc
      constructor
      · rintro (h | ⟨b, hb, h⟩)
        · exact .inl h
        · exact .inr ⟨b, by simp [hb], h⟩
      · rintro (h | ⟨b, hb, h1, h2⟩)
        · exact .inl h
        · rcases List.mem_cons.1 hb with rfl | hb
          · exact absurd h1 hc
          · exact .inr ⟨b, hb, h1, h2⟩
theorem strs_mapL (l : List ByteArray) : PV.list (l.map strP) = strsP l := rfl
theorem one_l2 {af : List Aff} {flags : ByteArray} {front : Bool} {ws : List ByteArray} (hws : ∀ x ∈ ws, x.size ≤ 1000000) (hwl : ws.length ≤ 1000000) {pa ra : List Aff} {a : Aff} (ha : af = pa ++ a :: ra) (hg : AffG a) (hal : af.length ≤ 1000000) {r : List PV} :
    ∀ (rest pre acc : List ByteArray), ws = pre ++ rest → acc.length + rest.length ≤ 100000000 → Ev2 (fun N m => spec_l2One.l3 N m (affsP af) flags front (strsP ws) ((pa ++ [a]).length : Int) (strsP (oneL a rest acc))) r →
    Ev3 (fun N m n => spec_l2One.l2 N m n (affsP af) flags front (strsP ws) (pa.length : Int) (pre.length : Int) (strsP acc)) r := by
  intro rest
  induction rest with
  | nil =>
    intro pre acc hp hl hc
    refine Ev3.succ ?_
    simp only [spec_l2One.l2_eq, at_end hp, at_next ha (by omega), stk, Int.reduceEq, Nat.reduceEqDiff, Int.reduceLE, Int.reduceLT]
    exact hc.outer
  | cons w rest ih =>
    intro pre acc hp hl hc
    have hw : w.size ≤ 1000000 := hws w (by rw [hp]; simp)
    have hln := insM_len
    refine Ev3.succ ?_
    simp only [spec_l2One.l2_eq, at_lt hp, affs_len, affs_elem ha, at_lt ha, aff_f0, aff_f1, aff_f2, aff_f3, aff_f4, aff_agg, at_getD hp, at_next hp (by omega), stk, Int.reduceEq, Nat.reduceEqDiff, Int.reduceLE, Int.reduceLT]
    refine Ev3.bind (l2Do_ev hg w hw) ?_
    rw [oneL] at hc
    have hd := l2Do_ev hg w hw
    cases hf : fitB a w with
    | false =>
      have e : doB a w = none := by simp [doB, hf]
      rw [e] at hc
      simp only [doR, hf, stk, Int.reduceEq, Nat.reduceEqDiff, Int.reduceLE, Int.reduceLT]
      exact ih _ acc (at_step hp) (by rw [List.length_cons] at hl; omega) hc
    | true =>
      cases hi : isWord (formB a w) with
      | false =>
        have e : doB a w = none := by simp [doB, hf, hi]
        rw [e] at hc
        simp only [doR, hf, hi, stk, Int.reduceEq, Nat.reduceEqDiff, Int.reduceLE, Int.reduceLT]
        exact ih _ acc (at_step hp) (by rw [List.length_cons] at hl; omega) hc
      | true =>
        have e : doB a w = some (formB a w) := by simp [doB, hf, hi]
        rw [e] at hc
        have h3 := hln (formB a w) acc
        rw [List.length_cons] at hl
        simp only [doR, hf, hi, stk, Int.reduceEq, Nat.reduceEqDiff, Int.reduceLE, Int.reduceLT]
        refine Ev3.bind (put_ev acc (formB a w) (by omega)) ?_
        simp only [stk, Int.reduceEq, Nat.reduceEqDiff, Int.reduceLE, Int.reduceLT]
        exact ih _ _ (at_step hp) (by omega) hc
theorem one_l3 {af : List Aff} {flags : ByteArray} {front : Bool} {ws : List ByteArray} (hfl : flags.size ≤ 1000000) (hws : ∀ x ∈ ws, x.size ≤ 1000000) (hwl : ws.length ≤ 1000000) (hg : ∀ a ∈ af, AffG a) (hal : af.length ≤ 1000000) :
    ∀ (ra pa : List Aff) (acc : List ByteArray), af = pa ++ ra → acc.length + ws.length * ra.length ≤ 100000000 →
    Ev2 (fun N n => spec_l2One.l3 N n (affsP af) flags front (strsP ws) (pa.length : Int) (strsP acc)) [strsP (oneA flags front ws ra acc)] := by
  intro ra
  induction ra with
  | nil =>
    intro pa acc ha hl
    refine Ev2.succ ?_
    simp only [spec_l2One.l3_eq, affs_len, at_end ha, oneA, stk, Int.reduceEq, Nat.reduceEqDiff, Int.reduceLE, Int.reduceLT]
    exact Ev2.now _
  | cons a ra ih =>
    intro pa acc ha hl
    rw [List.length_cons, Nat.mul_add, Nat.mul_one] at hl
    have hga := hg a (by rw [ha]; simp)
    have hlen := oneL_len a ws acc
    refine Ev2.succ ?_
    simp only [spec_l2One.l3_eq, affs_len, affs_elem ha, at_lt ha, aff_f0, aff_f1, oneA, stk, Int.reduceEq, Nat.reduceEqDiff, Int.reduceLE, Int.reduceLT]
    by_cases hf : a.front = front
    · simp only [hf, true_and, stk, Int.reduceEq, Nat.reduceEqDiff, Int.reduceLE, Int.reduceLT]
      refine Ev2.bind (l2Has_ev flags a.flag hfl) ?_
      cases hh : hasB flags a.flag with
      | false =>
        simp only [at_next ha (by omega), stk, Int.reduceEq, Nat.reduceEqDiff, Int.reduceLE, Int.reduceLT]
        exact ih _ acc (at_step ha) (by omega)
      | true =>
        simp only [stk, Int.reduceEq, Nat.reduceEqDiff, Int.reduceLE, Int.reduceLT]
        exact (one_l2 hws hwl ha hga hal ws [] acc rfl (by omega) (ih _ _ (at_step ha) (by omega))).start
    · have hne : (a.front != front) = true := by simp [hf]
      simp only [hf, hne, false_and, at_next ha (by omega), stk, Int.reduceEq, Nat.reduceEqDiff, Int.reduceLE, Int.reduceLT]
      exact ih _ acc (at_step ha) (by omega)
theorem one_l1 {af : List Aff} {flags : ByteArray} {front : Bool} {ws : List ByteArray} (hws : ∀ x ∈ ws, x.size ≤ 1000000) (hwl : ws.length ≤ 1000000) {pa ra : List Aff} {a : Aff} (ha : af = pa ++ a :: ra) (hg : AffG a) (hal : af.length ≤ 1000000) {r : List PV} :
    ∀ (rest pre acc : List ByteArray), ws = pre ++ rest → acc.length + rest.length ≤ 100000000 → Ev2 (fun N m => spec_l2One.l3 N m (affsP af) flags front (strsP ws) ((pa ++ [a]).length : Int) (strsP (oneL a rest acc))) r →
    Ev2 (fun N m => spec_l2One.l0 N m (affsP af) flags front (strsP ws) ((pa ++ [a]).length : Int) ((oneL a rest acc).map strP)) r →
    Ev3 (fun N m n => spec_l2One.l1 N m n (affsP af) flags front (strsP ws) (pa.length : Int) (pre.length : Int) (acc.map strP)) r := by
  intro rest
  induction rest with
  | nil =>
    intro pre acc hp hl hc hc0
    refine Ev3.succ ?_
    simp only [spec_l2One.l1_eq, at_end hp, at_next ha (by omega), stk, Int.reduceEq, Nat.reduceEqDiff, Int.reduceLE, Int.reduceLT]
    exact hc0.outer
  | cons w rest ih =>
    intro pre acc hp hl hc hc0
    have hw : w.size ≤ 1000000 := hws w (by rw [hp]; simp)
    have hln := insM_len
    refine Ev3.succ ?_
    simp only [spec_l2One.l1_eq, at_lt hp, affs_len, affs_elem ha, at_lt ha, aff_f0, aff_f1, aff_f2, aff_f3, aff_f4, aff_agg, at_getD hp, at_next hp (by omega), strs_mapL, stk, Int.reduceEq, Nat.reduceEqDiff, Int.reduceLE, Int.reduceLT]
    refine Ev3.bind (l2Do_ev hg w hw) ?_
    rw [oneL] at hc hc0
    cases hf : fitB a w with
    | false =>
      have e : doB a w = none := by simp [doB, hf]
      rw [e] at hc hc0
      simp only [doR, hf, stk, Int.reduceEq, Nat.reduceEqDiff, Int.reduceLE, Int.reduceLT]
      exact ih _ acc (at_step hp) (by rw [List.length_cons] at hl; omega) hc hc0
    | true =>
      cases hi : isWord (formB a w) with
      | false =>
        have e : doB a w = none := by simp [doB, hf, hi]
        rw [e] at hc hc0
        simp only [doR, hf, hi, stk, Int.reduceEq, Nat.reduceEqDiff, Int.reduceLE, Int.reduceLT]
        exact ih _ acc (at_step hp) (by rw [List.length_cons] at hl; omega) hc hc0
      | true =>
        have e : doB a w = some (formB a w) := by simp [doB, hf, hi]
        rw [e] at hc
        have h3 := hln (formB a w) acc
        rw [List.length_cons] at hl
        simp only [doR, hf, hi, stk, Int.reduceEq, Nat.reduceEqDiff, Int.reduceLE, Int.reduceLT]
        refine Ev3.bind (put_ev acc (formB a w) (by omega)) ?_
        simp only [stk, Int.reduceEq, Nat.reduceEqDiff, Int.reduceLE, Int.reduceLT]
        exact one_l2 hws hwl ha hg hal rest _ _ (at_step hp) (by omega) hc
theorem one_l0 {af : List Aff} {flags : ByteArray} {front : Bool} {ws : List ByteArray} (hfl : flags.size ≤ 1000000) (hws : ∀ x ∈ ws, x.size ≤ 1000000) (hwl : ws.length ≤ 1000000) (hg : ∀ a ∈ af, AffG a) (hal : af.length ≤ 1000000) :
    ∀ (ra pa : List Aff) (acc : List ByteArray), af = pa ++ ra → acc.length + ws.length * ra.length ≤ 100000000 →
    Ev2 (fun N n => spec_l2One.l0 N n (affsP af) flags front (strsP ws) (pa.length : Int) (acc.map strP)) [strsP (oneA flags front ws ra acc)] := by
  intro ra
  induction ra with
  | nil =>
    intro pa acc ha hl
    refine Ev2.succ ?_
    simp only [spec_l2One.l0_eq, affs_len, at_end ha, oneA, strs_mapL, stk, Int.reduceEq, Nat.reduceEqDiff, Int.reduceLE, Int.reduceLT]
    exact Ev2.now _
  | cons a ra ih =>
    intro pa acc ha hl
    rw [List.length_cons, Nat.mul_add, Nat.mul_one] at hl
    have hga := hg a (by rw [ha]; simp)
    have hlen := oneL_len a ws acc
    refine Ev2.succ ?_
    simp only [spec_l2One.l0_eq, affs_len, affs_elem ha, at_lt ha, aff_f0, aff_f1, oneA, stk, Int.reduceEq, Nat.reduceEqDiff, Int.reduceLE, Int.reduceLT]
    by_cases hf : a.front = front
    · simp only [hf, true_and, stk, Int.reduceEq, Nat.reduceEqDiff, Int.reduceLE, Int.reduceLT]
      refine Ev2.bind (l2Has_ev flags a.flag hfl) ?_
      cases hh : hasB flags a.flag with
      | false =>
        simp only [at_next ha (by omega), stk, Int.reduceEq, Nat.reduceEqDiff, Int.reduceLE, Int.reduceLT]
        exact ih _ acc (at_step ha) (by omega)
      | true =>
        simp only [stk, Int.reduceEq, Nat.reduceEqDiff, Int.reduceLE, Int.reduceLT]
        exact (one_l1 hws hwl ha hga hal ws [] acc rfl (by omega) (one_l3 hfl hws hwl hg hal ra _ _ (at_step ha) (by omega)) (ih _ _ (at_step ha) (by omega))).start
    · have hne : (a.front != front) = true := by simp [hf]
      simp only [hf, hne, false_and, at_next ha (by omega), stk, Int.reduceEq, Nat.reduceEqDiff, Int.reduceLE, Int.reduceLT]
      exact ih _ acc (at_step ha) (by omega)
theorem one_ev {af : List Aff} {flags : ByteArray} {front : Bool} {ws : List ByteArray} (hfl : flags.size ≤ 1000000) (hws : ∀ x ∈ ws, x.size ≤ 1000000) (hwl : ws.length ≤ 10000) (hg : ∀ a ∈ af, AffG a) (hal : af.length ≤ 1000) :
    Ev (fun N => spec_l2One.f N [affsP af, strP flags, boolP front, strsP ws]) [strsP (oneA flags front ws af ws)] := by
  have c1 : (([] : List PV).length + ws.length ≤ 8796093022208) = True := eq_true (by simp; omega)
  have e : ([] : List PV) ++ (strsP ws).items = ws.map strP := rfl
  have hm : ws.length * af.length ≤ 10000 * 1000 := Nat.mul_le_mul hwl hal
  simp only [spec_l2One.f_eq, strs_len, c1, e, stk, Int.reduceEq, Nat.reduceEqDiff, Int.reduceLE, Int.reduceLT]
  exact (one_l0 hfl hws (by omega) hg (by omega) af [] ws rfl (by omega)).diag
def formsB (af : List Aff) (e : Ent) : List ByteArray := oneA e.flags true (oneA e.flags false [e.stem] af [e.stem]) af (oneA e.flags false [e.stem] af [e.stem])
theorem word_size {s : ByteArray} (h : isWord s = true) : s.size ≤ 12 := by
  simp only [isWord, Bool.and_eq_true, decide_eq_true_eq] at h; exact h.1.2
theorem formsB_mem {af : List Aff} {e : Ent} {x : ByteArray} (h : x ∈ formsB af e) : x = e.stem ∨ isWord x = true := by
  rw [formsB, oneA_mem] at h
  rcases h with h | ⟨a, _, _, w, _, hd⟩
  · rw [oneA_mem] at h
    rcases h with h | ⟨a, _, _, w, _, hd⟩
    · exact .inl (List.mem_singleton.1 h)
    · exact .inr (doB_word hd)
  · exact .inr (doB_word hd)
theorem formsB_len (af : List Aff) (e : Ent) : (formsB af e).length ≤ (1 + af.length) * (1 + af.length) := by
  have h1 := oneA_len e.flags false [e.stem] af [e.stem]
  have h2 := oneA_len e.flags true (oneA e.flags false [e.stem] af [e.stem]) af (oneA e.flags false [e.stem] af [e.stem])
  simp only [List.length_singleton, Nat.one_mul] at h1
  have h3 : (oneA e.flags false [e.stem] af [e.stem]).length * af.length ≤ (1 + af.length) * af.length := Nat.mul_le_mul_right _ h1
  have h4 : (1 + af.length) * (1 + af.length) = (1 + af.length) + (1 + af.length) * af.length := by rw [Nat.mul_add, Nat.mul_one]
  unfold formsB
  omega
theorem forms_ev {af : List Aff} (hg : ∀ a ∈ af, AffG a) (hal : af.length ≤ 100) (e : Ent) (hs : e.stem.size ≤ 1000000) (hf : e.flags.size ≤ 1000000) :
    Ev (fun N => spec_l2Forms.f N [affsP af, entP e]) [strsP (formsB af e)] := by
  have h1 := oneA_len e.flags false [e.stem] af [e.stem]
  simp only [List.length_singleton, Nat.one_mul] at h1
  have es : PV.list [PV.sc (.string e.stem)] = strsP [e.stem] := rfl
  simp only [spec_l2Forms.f_eq, ent_f0, ent_f1, es, stk, Int.reduceEq, Nat.reduceEqDiff, Int.reduceLE, Int.reduceLT]
  refine Ev.bind (one_ev (front := false) hf (by simpa using hs) (by simp) hg (by omega)) ?_
  simp only [stk, Int.reduceEq, Nat.reduceEqDiff, Int.reduceLE, Int.reduceLT]
  refine Ev.bind (one_ev (front := true) hf (fun x hx => ?_) (by omega) hg (by omega)) ?_
  · rw [oneA_mem] at hx
    rcases hx with hx | ⟨a, _, _, w, _, hd⟩
    · rw [List.mem_singleton.1 hx]; exact hs
    · have := word_size (doB_word hd); omega
  · simp only [stk, Int.reduceEq, Nat.reduceEqDiff, Int.reduceLE, Int.reduceLT]
    exact Ev.now _
def putL : List ByteArray → List ByteArray → List ByteArray
  | [], acc => acc
  | x :: r, acc => putL r (insM x acc)
theorem putL_mem : ∀ (l acc : List ByteArray) (x : ByteArray), x ∈ putL l acc ↔ x ∈ acc ∨ x ∈ l
  | [], acc, x => by simp [putL]
  | y :: r, acc, x => by
    rw [putL, putL_mem r, insM_mem, List.mem_cons]
    constructor
    · rintro ((h | h) | h)
      · exact .inr (.inl h)
      · exact .inl h
      · exact .inr (.inr h)
    · rintro (h | h | h)
      · exact .inl (.inr h)
      · exact .inl (.inl h)
      · exact .inr h
theorem putL_len : ∀ (l acc : List ByteArray), (putL l acc).length ≤ acc.length + l.length
  | [], acc => by simp [putL]
  | y :: r, acc => by
    have h1 := putL_len r (insM y acc)
    have h2 := insM_len y acc
    rw [putL, List.length_cons]; omega
def wordsL2 (af : List Aff) : List Ent → List ByteArray → List ByteArray
  | [], acc => acc
  | e :: r, acc => wordsL2 af r (putL (formsB af e) acc)
def bookW (af : List Aff) (es : List Ent) : List ByteArray := wordsL2 af es []
theorem wordsL2_mem (af : List Aff) : ∀ (es : List Ent) (acc : List ByteArray) (x : ByteArray), x ∈ wordsL2 af es acc ↔ x ∈ acc ∨ ∃ e ∈ es, x ∈ formsB af e
  | [], acc, x => by simp [wordsL2]
  | e :: r, acc, x => by
    rw [wordsL2, wordsL2_mem af r, putL_mem]
    constructor
    · rintro ((h | h) | ⟨f, hf, h⟩)
      · exact .inl h
      · exact .inr ⟨e, by simp, h⟩
      · exact .inr ⟨f, by simp [hf], h⟩
    · rintro (h | ⟨f, hf, h⟩)
      · exact .inl (.inl h)
      · rcases List.mem_cons.1 hf with rfl | hf
        · exact .inl (.inr h)
        · exact .inr ⟨f, hf, h⟩
theorem wordsL2_len (af : List Aff) : ∀ (es : List Ent) (acc : List ByteArray), (wordsL2 af es acc).length ≤ acc.length + es.length * ((1 + af.length) * (1 + af.length))
  | [], acc => by simp [wordsL2]
  | e :: r, acc => by
    have h1 := wordsL2_len af r (putL (formsB af e) acc)
    have h2 := putL_len (formsB af e) acc
    have h3 := formsB_len af e
    rw [wordsL2, List.length_cons, Nat.add_mul, Nat.one_mul]; omega
theorem words_l2 {af : List Aff} {es : List Ent} {fs : List ByteArray} (hfl : fs.length ≤ 1000000) {pe re : List Ent} {e : Ent} (he : es = pe ++ e :: re) (hel : es.length ≤ 1000000) {r : List PV} :
    ∀ (rest pre acc : List ByteArray), fs = pre ++ rest → acc.length + rest.length ≤ 100000000 → Ev2 (fun N m => spec_l2Words.l3 N m ((pe ++ [e]).length : Int) (affsP af) (entsP es) (strsP (putL rest acc))) r →
    Ev3 (fun N m n => spec_l2Words.l2 N m n (pe.length : Int) (pre.length : Int) (affsP af) (entsP es) (strsP acc) (strsP fs)) r := by
  intro rest
  induction rest with
  | nil =>
    intro pre acc hp hl hc
    refine Ev3.succ ?_
    simp only [spec_l2Words.l2_eq, at_end hp, at_next he (by omega), stk, Int.reduceEq, Nat.reduceEqDiff, Int.reduceLE, Int.reduceLT]
    exact hc.outer
  | cons w rest ih =>
    intro pre acc hp hl hc
    have h3 := insM_len w acc
    rw [List.length_cons] at hl
    refine Ev3.succ ?_
    simp only [spec_l2Words.l2_eq, at_lt hp, at_getD hp, at_next hp (by omega), stk, Int.reduceEq, Nat.reduceEqDiff, Int.reduceLE, Int.reduceLT]
    refine Ev3.bind (put_ev acc w (by omega)) ?_
    simp only [stk, Int.reduceEq, Nat.reduceEqDiff, Int.reduceLE, Int.reduceLT]
    exact ih _ _ (at_step hp) (by omega) hc
theorem words_l3 {af : List Aff} {es : List Ent} (hg : ∀ a ∈ af, AffG a) (hal : af.length ≤ 100) (hes : ∀ e ∈ es, e.stem.size ≤ 1000000 ∧ e.flags.size ≤ 1000000) (hel : es.length ≤ 1000) :
    ∀ (re pe : List Ent) (acc : List ByteArray), es = pe ++ re → acc.length + re.length * 12000 ≤ 50000000 →
    Ev2 (fun N n => spec_l2Words.l3 N n (pe.length : Int) (affsP af) (entsP es) (strsP acc)) [strsP (wordsL2 af re acc)] := by
  intro re
  induction re with
  | nil =>
    intro pe acc he hl
    refine Ev2.succ ?_
    simp only [spec_l2Words.l3_eq, ents_len, at_end he, wordsL2, stk, Int.reduceEq, Nat.reduceEqDiff, Int.reduceLE, Int.reduceLT]
    exact Ev2.now _
  | cons e re ih =>
    intro pe acc he hl
    obtain ⟨z1, z2⟩ := hes e (by rw [he]; simp)
    have h3 := formsB_len af e
    have h4 : (1 + af.length) * (1 + af.length) ≤ 101 * 101 := Nat.mul_le_mul (by omega) (by omega)
    have h5 := putL_len (formsB af e) acc
    rw [List.length_cons] at hl
    refine Ev2.succ ?_
    simp only [spec_l2Words.l3_eq, ents_len, ents_elem he, at_lt he, ent_f0, ent_f1, ent_agg, wordsL2, stk, Int.reduceEq, Nat.reduceEqDiff, Int.reduceLE, Int.reduceLT]
    refine Ev2.bind (forms_ev hg hal e z1 z2) ?_
    simp only [stk, Int.reduceEq, Nat.reduceEqDiff, Int.reduceLE, Int.reduceLT]
    exact (words_l2 (fs := formsB af e) (by omega) he (by omega) (formsB af e) [] acc rfl (by omega) (ih _ _ (at_step he) (by omega))).start
theorem words_l1 {af : List Aff} {es : List Ent} {fs : List ByteArray} (hfl : fs.length ≤ 1000000) {pe re : List Ent} {e : Ent} (he : es = pe ++ e :: re) (hel : es.length ≤ 1000000) {r : List PV} (acc : List ByteArray) (hl : acc.length + fs.length ≤ 100000000)
    (hc : Ev2 (fun N m => spec_l2Words.l3 N m ((pe ++ [e]).length : Int) (affsP af) (entsP es) (strsP (putL fs acc))) r) (hc0 : Ev2 (fun N m => spec_l2Words.l0 N m ((pe ++ [e]).length : Int) (affsP af) (entsP es) ((putL fs acc).map strP)) r) :
    Ev3 (fun N m n => spec_l2Words.l1 N m n (pe.length : Int) 0 (affsP af) (entsP es) (acc.map strP) (strsP fs)) r := by
  cases fs with
  | nil =>
    refine Ev3.succ ?_
    have h0 : ((0 : Int) < (([] : List ByteArray).length : Int)) = False := eq_false (by simp)
    simp only [spec_l2Words.l1_eq, strs_len, h0, at_next he (by omega), stk, Int.reduceEq, Nat.reduceEqDiff, Int.reduceLE, Int.reduceLT]
    exact hc0.outer
  | cons w rest =>
    have h3 := insM_len w acc
    rw [List.length_cons] at hl
    have hp : w :: rest = [] ++ w :: rest := rfl
    have e0 : (0 : Int) = (([] : List ByteArray).length : Int) := rfl
    have e0' : (0 : Int).toNat = ([] : List ByteArray).length := rfl
    refine Ev3.succ ?_
    rw [e0]
    simp only [spec_l2Words.l1_eq, at_lt hp, at_getD hp, at_next hp (by omega), strs_mapL, stk, Int.reduceEq, Nat.reduceEqDiff, Int.reduceLE, Int.reduceLT]
    refine Ev3.bind (put_ev acc w (by omega)) ?_
    simp only [stk, Int.reduceEq, Nat.reduceEqDiff, Int.reduceLE, Int.reduceLT]
    exact words_l2 hfl he hel rest _ _ (at_step hp) (by omega) hc
theorem words_l0 {af : List Aff} {es : List Ent} (hg : ∀ a ∈ af, AffG a) (hal : af.length ≤ 100) (hes : ∀ e ∈ es, e.stem.size ≤ 1000000 ∧ e.flags.size ≤ 1000000) (hel : es.length ≤ 1000) :
    ∀ (re pe : List Ent) (acc : List ByteArray), es = pe ++ re → acc.length + re.length * 12000 ≤ 50000000 →
    Ev2 (fun N n => spec_l2Words.l0 N n (pe.length : Int) (affsP af) (entsP es) (acc.map strP)) [strsP (wordsL2 af re acc)] := by
  intro re
  induction re with
  | nil =>
    intro pe acc he hl
    refine Ev2.succ ?_
    simp only [spec_l2Words.l0_eq, ents_len, at_end he, wordsL2, strs_mapL, stk, Int.reduceEq, Nat.reduceEqDiff, Int.reduceLE, Int.reduceLT]
    exact Ev2.now _
  | cons e re ih =>
    intro pe acc he hl
    obtain ⟨z1, z2⟩ := hes e (by rw [he]; simp)
    have h3 := formsB_len af e
    have h4 : (1 + af.length) * (1 + af.length) ≤ 101 * 101 := Nat.mul_le_mul (by omega) (by omega)
    have h5 := putL_len (formsB af e) acc
    rw [List.length_cons] at hl
    refine Ev2.succ ?_
    simp only [spec_l2Words.l0_eq, ents_len, ents_elem he, at_lt he, ent_f0, ent_f1, ent_agg, wordsL2, stk, Int.reduceEq, Nat.reduceEqDiff, Int.reduceLE, Int.reduceLT]
    refine Ev2.bind (forms_ev hg hal e z1 z2) ?_
    simp only [stk, Int.reduceEq, Nat.reduceEqDiff, Int.reduceLE, Int.reduceLT]
    exact (words_l1 (fs := formsB af e) (by omega) he (by omega) acc (by omega) (words_l3 hg hal hes hel re _ _ (at_step he) (by omega)) (ih _ _ (at_step he) (by omega))).start
theorem bookW_ev {af : List Aff} {es : List Ent} (hg : ∀ a ∈ af, AffG a) (hal : af.length ≤ 100) (hes : ∀ e ∈ es, e.stem.size ≤ 1000000 ∧ e.flags.size ≤ 1000000) (hel : es.length ≤ 1000) :
    Ev (fun N => spec_l2Words.f N [bookP af es]) [strsP (bookW af es)] := by
  simp only [spec_l2Words.f_eq, book_f0, book_f1]
  exact (words_l0 hg hal hes hel es [] [] rfl (by simp; omega)).diag
def noW (s : ByteArray) : Bool := s.data.toList.all fun c => c != 119
theorem noW_app {a b : ByteArray} (ha : noW a = true) (hb : noW b = true) : noW (a ++ b) = true := by
  unfold noW at *
  rw [ByteArray.data_append, Array.toList_append, List.all_append, ha, hb]; rfl
theorem noW_in {l : List ByteArray} (h : l.all noW = true) {s : ByteArray} (hs : s ∈ l) : noW s = true := List.all_eq_true.1 h s hs
theorem wordX_loop {b : PV} (hb : Code1 b) : ∀ (c p : Nat) (x : ByteArray), p + c < 1000000000 → x.size + 2 * c ≤ 12 → (1 ≤ c ∨ 1 ≤ x.size) → noW x = true → ∃ (r : ByteArray) (q : Nat), q ≤ p + c ∧ 1 ≤ r.size ∧ r.size ≤ 12 ∧ noW r = true ∧ Ev2 (fun N n => spec_l13Word.l0 N n x (c : Int) b (p : Int)) [strP r, rdP b (q : Int)] := by
  intro c
  induction c with
  | zero =>
    intro p x hp hx h1 hno
    refine ⟨x, p, by omega, by omega, by omega, hno, Ev2.succ ?_⟩
    have h0 : ¬ (0 : Int) < ((0 : Nat) : Int) := by omega
    have hm : (if (x.size : Int) < 12 then (x.size : Int) else 12) = (x.size : Int) := by split <;> omega
    simp only [spec_l13Word.l0_eq, h0, least_val, hm, stk, Int.reduceEq, Nat.reduceEqDiff, Int.reduceLE, Int.reduceLT, extract_all, rd_agg]
    exact Ev2.now _
  | succ c ih =>
    intro p x hp hx h1 hno
    obtain ⟨s, hs, hf⟩ := of_ev hb (p := (p : Int)) (by omega) [ByteArray.mk #[97], ByteArray.mk #[98], ByteArray.mk #[99], ByteArray.mk #[97, 98], ByteArray.mk #[116]] (by simp)
    have hsz : 1 ≤ s.size ∧ s.size ≤ 2 := by
      have ha : ∀ s ∈ [ByteArray.mk #[97], ByteArray.mk #[98], ByteArray.mk #[99], ByteArray.mk #[97, 98], ByteArray.mk #[116]], 1 ≤ s.size ∧ s.size ≤ 2 := szs_in rfl
      exact ha s hs
    have hsn : noW s = true := noW_in (l := [ByteArray.mk #[97], ByteArray.mk #[98], ByteArray.mk #[99], ByteArray.mk #[97, 98], ByteArray.mk #[116]]) (by decide) hs
    obtain ⟨r, q, h2, h3, h4, h6, h5⟩ := ih (p + 1) (x ++ s) (by omega) (by rw [ByteArray.size_append]; omega) (.inr (by rw [ByteArray.size_append]; omega)) (noW_app hno hsn)
    refine ⟨r, q, by omega, h3, h4, h6, Ev2.succ ?_⟩
    have h0 : (0 : Int) < ((c + 1 : Nat) : Int) := by omega
    have hw : IntKind.i64.wrap (((c + 1 : Nat) : Int) - 1) = (c : Int) := by rw [wrap_id (by omega) (by omega)]; omega
    have hl : x.size + s.size ≤ 9223372036854775807 := by omega
    have hp1 : ((p : Int) + 1) = ((p + 1 : Nat) : Int) := by omega
    have e : PV.list [PV.sc (.string (ByteArray.mk #[97])), PV.sc (.string (ByteArray.mk #[98])), PV.sc (.string (ByteArray.mk #[99])), PV.sc (.string (ByteArray.mk #[97, 98])), PV.sc (.string (ByteArray.mk #[116]))] = strsP [ByteArray.mk #[97], ByteArray.mk #[98], ByteArray.mk #[99], ByteArray.mk #[97, 98], ByteArray.mk #[116]] := rfl
    simp only [spec_l13Word.l0_eq, h0, hw, hl, e, rd_agg, hf, rd_f0, rd_f1, hp1, stk, Int.reduceEq, Nat.reduceEqDiff, Int.reduceLE, Int.reduceLT]
    exact h5
theorem wordX_ev {b : PV} (hb : Code1 b) (p : Nat) (hp : p < 900000000) : ∃ (r : ByteArray) (q : Nat), q ≤ p + 10 ∧ 1 ≤ r.size ∧ r.size ≤ 12 ∧ noW r = true ∧ Ev (fun N => spec_l13Word.f N [rdP b (p : Int)]) [strP r, rdP b (q : Int)] := by
  obtain ⟨k, hk, hf⟩ := pick_ev hb (p := (p : Int)) (n := 3) (by omega) (by omega)
  by_cases h0 : k = 0
  · obtain ⟨k2, hk2, hf2⟩ := pick_ev hb (p := (p : Int) + 1) (n := 5) (by omega) (by omega)
    obtain ⟨j, rfl⟩ := Int.eq_ofNat_of_zero_le hk2.1
    obtain ⟨r, q, h2, h3, h4, h6, h5⟩ := wordX_loop hb (1 + j) (p + 2) ⟨#[]⟩ (by omega) (by have : (ByteArray.mk #[]).size = 0 := rfl; omega) (.inl (by omega)) rfl
    refine ⟨r, q, by omega, h3, h4, h6, ?_⟩
    have hw : IntKind.i64.wrap (1 + (j : Int)) = ((1 + j : Nat) : Int) := by rw [wrap_id (by omega) (by omega)]; omega
    have hp1 : ((p : Int) + 1 + 1) = ((p + 2 : Nat) : Int) := by omega
    simp only [spec_l13Word.f_eq, rd_f0, rd_f1, rd_agg, hf, h0, hf2, hw, hp1, stk, Int.reduceEq, Nat.reduceEqDiff, Int.reduceLE, Int.reduceLT]
    exact h5.diag
  · obtain ⟨s, hs, hf2⟩ := of_ev hb (p := (p : Int) + 1) (by omega) wordsL (by simp [wordsL])
    have ha : ∀ s ∈ wordsL, 1 ≤ s.size ∧ s.size ≤ 12 := szs_in rfl
    refine ⟨s, p + 2, by omega, (ha s hs).1, (ha s hs).2, noW_in (l := wordsL) (by decide) hs, ?_⟩
    have hp1 : ((p : Int) + 1 + 1) = ((p + 2 : Nat) : Int) := by omega
    have e : PV.list [PV.sc (.string (ByteArray.mk #[99, 97, 116])), PV.sc (.string (ByteArray.mk #[99, 97, 116, 115])), PV.sc (.string (ByteArray.mk #[97, 99, 116])), PV.sc (.string (ByteArray.mk #[100, 111])), PV.sc (.string (ByteArray.mk #[100, 111, 105, 110, 103])), PV.sc (.string (ByteArray.mk #[103, 111])), PV.sc (.string (ByteArray.mk #[117, 110, 100, 111])), PV.sc (.string (ByteArray.mk #[116, 114, 121])), PV.sc (.string (ByteArray.mk #[116, 114, 105, 101, 115])), PV.sc (.string (ByteArray.mk #[97])), PV.sc (.string (ByteArray.mk #[98, 97, 107, 101])), PV.sc (.string (ByteArray.mk #[98, 97, 107, 105, 110, 103])), PV.sc (.string (ByteArray.mk #[116, 97, 99, 116])), PV.sc (.string (ByteArray.mk #[99, 97, 114, 116])), PV.sc (.string (ByteArray.mk #[97, 98, 99, 97, 98, 99, 97, 98, 99, 97, 98, 99]))] = strsP wordsL := rfl
    simp only [spec_l13Word.f_eq, rd_f0, rd_f1, rd_agg, hf, h0, e, hf2, hp1, stk, Int.reduceEq, Nat.reduceEqDiff, Int.reduceLE, Int.reduceLT]
    exact Ev.now _
def affLL : List Aff := [⟨⟨#[83]⟩, false, ⟨#[]⟩, ⟨#[115]⟩, ⟨#[]⟩⟩, ⟨⟨#[83]⟩, false, ⟨#[121]⟩, ⟨#[105, 101, 115]⟩, ⟨#[121]⟩⟩, ⟨⟨#[71]⟩, false, ⟨#[]⟩, ⟨#[105, 110, 103]⟩, ⟨#[]⟩⟩, ⟨⟨#[71]⟩, false, ⟨#[101]⟩, ⟨#[105, 110, 103]⟩, ⟨#[101]⟩⟩, ⟨⟨#[85]⟩, true, ⟨#[]⟩, ⟨#[117, 110]⟩, ⟨#[]⟩⟩, ⟨⟨#[82]⟩, true, ⟨#[97]⟩, ⟨#[98]⟩, ⟨#[97]⟩⟩, ⟨⟨#[84]⟩, false, ⟨#[]⟩, ⟨#[116]⟩, ⟨#[97, 99]⟩⟩, ⟨⟨#[67]⟩, false, ⟨#[]⟩, ⟨#[97, 98, 99]⟩, ⟨#[]⟩⟩]
theorem affLL_good : ∀ a ∈ affLL, AffG a := fun a ha => by
  have h : (affLL.all fun a => decide (a.strip.size ≤ a.cond.size ∧ a.add.size ≤ 1000000)) = true := rfl
  have := of_decide_eq_true (List.all_eq_true.1 h a ha)
  exact ⟨this.1, this.2⟩
theorem affix_ev {b : PV} (hb : Code1 b) (p : Nat) (hp : p < 900000000) : ∃ a ∈ affLL, ∀ N, spec_l13Affix.f N [rdP b (p : Int)] = some [affP a, rdP b ((p + 1 : Nat) : Int)] := by
  obtain ⟨k, hk, hf⟩ := pick_ev hb (p := (p : Int)) (n := (8 : Int)) (by omega) (by omega)
  obtain ⟨j, rfl⟩ := Int.eq_ofNat_of_zero_le hk.1
  have hj : j < affLL.length := by have : affLL.length = 8 := rfl; omega
  have hj8 : ((j : Int) < 8) = True := eq_true (by omega)
  have hp1 : (p : Int) + 1 = ((p + 1 : Nat) : Int) := by omega
  rw [hp1] at hf
  obtain ⟨pre, rest, hpr, hpl⟩ : ∃ pre rest, affLL = pre ++ affLL[j] :: rest ∧ pre.length = j := ⟨affLL.take j, affLL.drop (j + 1), by rw [← List.drop_eq_getElem_cons hj, List.take_append_drop], by rw [List.length_take]; omega⟩
  have he := affs_elem hpr
  rw [hpl] at he
  refine ⟨affLL[j], List.getElem_mem hj, fun N => ?_⟩
  have e8 : ((affLL.map affP).length : Int) = 8 := rfl
  have hall : spec_l13Affix.f N [rdP b (p : Int)] = (spec_l1Rd_pick.f N [rdP b (p : Int), intP ((affLL.map affP).length : Int)]).bind fun t1 => if 0 ≤ ((t1.headD default).toInt) then (if ((t1.headD default).toInt) < ((affLL.map affP).length : Int) then (some [(PV.agg [(PV.sc (.string ((((affsP affLL).elem (((t1.headD default).toInt).toNat)).fld 0).toStr))), (PV.sc (.bool ((((affsP affLL).elem (((t1.headD default).toInt).toNat)).fld 1).toBool))), (PV.sc (.string ((((affsP affLL).elem (((t1.headD default).toInt).toNat)).fld 2).toStr))), (PV.sc (.string ((((affsP affLL).elem (((t1.headD default).toInt).toNat)).fld 3).toStr))), (PV.sc (.string ((((affsP affLL).elem (((t1.headD default).toInt).toNat)).fld 4).toStr)))]), (PV.agg [(rdP b (p : Int)).fld 0, (PV.sc (.int .i64 (((t1.tail.headD default).fld 1).toInt)))])]) else none) else none := spec_l13Affix.f_eq N _
  rw [hall, e8, hf]
  simp only [hj8, nn, he, aff_f0, aff_f1, aff_f2, aff_f3, aff_f4, aff_agg, rd_f0, rd_f1, rd_agg, stk, Int.reduceEq, Nat.reduceEqDiff, Int.reduceLE, Int.reduceLT]
structure AffsB (l : List Aff) (n : Nat) : Prop where
  n : l.length ≤ n
  s : ∀ a ∈ l, a ∈ affLL
theorem affs_snoc (l : List Aff) (a : Aff) : l.map affP ++ [affP a] = (l ++ [a]).map affP := by simp
theorem affixes_l1 {b : PV} (l : List Aff) (hl : l.length ≤ 100) (a : Aff) (c q : Nat) (hc : c < 100) {Q : List Aff → List PV → Prop}
    (hnext : ∀ l', l' = l ∨ l' = l ++ [a] → ∃ r, Q l' r ∧ Ev2 (fun N m => spec_l13Affixes.l0 N m (c : Int) b (q : Int) (l'.map affP)) r) :
    ∀ (rest pre : List Aff) (known : Bool), l = pre ++ rest → ∃ l', (l' = l ∨ l' = l ++ [a]) ∧ ∃ r, Q l' r ∧ Ev3 (fun N m n => spec_l13Affixes.l1 N m n ((c + 1 : Nat) : Int) known (pre.length : Int) b (q : Int) (l.map affP) a.flag a.front a.strip a.add a.cond) r := by
  have w1 : IntKind.i64.wrap (((c + 1 : Nat) : Int) - 1) = (c : Int) := nat_wrap (by omega) (by omega)
  have c1 : (l.length + 1 ≤ 1954687338268) = True := eq_true (by omega)
  intro rest
  induction rest with
  | nil =>
    intro pre known hp
    cases known with
    | true =>
      obtain ⟨r, hq, hv⟩ := hnext l (.inl rfl)
      refine ⟨l, .inl rfl, r, hq, Ev3.succ ?_⟩
      simp only [spec_l13Affixes.l1_eq, List.length_map, at_end hp, w1, stk, Int.reduceEq, Nat.reduceEqDiff, Int.reduceLE, Int.reduceLT]
      exact hv.outer
    | false =>
      obtain ⟨r, hq, hv⟩ := hnext (l ++ [a]) (.inr rfl)
      refine ⟨l ++ [a], .inr rfl, r, hq, Ev3.succ ?_⟩
      simp only [spec_l13Affixes.l1_eq, List.length_map, at_end hp, w1, c1, aff_agg, affs_snoc, stk, Int.reduceEq, Nat.reduceEqDiff, Int.reduceLE, Int.reduceLT]
      exact hv.outer
  | cons x rest ih =>
    intro pre known hp
    cases known with
    | true =>
      obtain ⟨l', h1, r, h2, h3⟩ := ih _ true (at_step hp)
      refine ⟨l', h1, r, h2, Ev3.succ ?_⟩
      simp only [spec_l13Affixes.l1_eq, List.length_map, at_lt hp, at_next hp (by omega), stk, Int.reduceEq, Nat.reduceEqDiff, Int.reduceLE, Int.reduceLT]
      exact h3
    | false =>
      have e : PV.list (l.map affP) = affsP l := rfl
      obtain ⟨kn, hkn⟩ : ∃ kn : Bool, kn = ((decide ((((affP x).fld 0).toStr).toList = a.flag.toList) && ((((affP x).fld 1).toBool == a.front) && (decide ((((affP x).fld 2).toStr).toList = a.strip.toList) && (decide ((((affP x).fld 3).toStr).toList = a.add.toList) && (decide ((((affP x).fld 4).toStr).toList = a.cond.toList) && true)))))) := ⟨_, rfl⟩
      obtain ⟨l', h1, r, h2, h3⟩ := ih _ kn (at_step hp)
      refine ⟨l', h1, r, h2, Ev3.succ ?_⟩
      simp only [spec_l13Affixes.l1_eq, List.length_map, at_lt hp, at_next hp (by omega), e, nat_int, affs_elem hp, ← hkn, nn, if_true, if_false, decide_true, decide_false, Bool.false_eq_true, Bool.true_eq_false]
      exact h3
theorem affixes_l0 {b : PV} (hb : Code1 b) : ∀ (c p : Nat) (l : List Aff), p + c < 800000000 → c < 100 → AffsB l (100 - c) → ∃ (r : List Aff) (q : Nat), q ≤ p + c ∧ AffsB r 100 ∧ r.length ≤ l.length + c ∧ Ev2 (fun N n => spec_l13Affixes.l0 N n (c : Int) b (p : Int) (l.map affP)) [affsP r, rdP b (q : Int)] := by
  intro c
  induction c with
  | zero =>
    intro p l hp hc hl
    refine ⟨l, p, by omega, ⟨by have := hl.n; omega, hl.s⟩, by omega, Ev2.succ ?_⟩
    have h0 : ¬ (0 : Int) < ((0 : Nat) : Int) := by omega
    have e : PV.list (l.map affP) = affsP l := rfl
    simp only [spec_l13Affixes.l0_eq, h0, e, rd_agg, stk, Int.reduceEq, Nat.reduceEqDiff, Int.reduceLE, Int.reduceLT]
    exact Ev2.now _
  | succ c ih =>
    intro p l hp hc hl
    have h0 : (0 : Int) < ((c + 1 : Nat) : Int) := by omega
    have hln := hl.n
    obtain ⟨a, ha, hf⟩ := affix_ev hb p (by omega)
    obtain ⟨l', hl', r, ⟨r', q, h1, h2, h3, h4⟩, hv⟩ := affixes_l1 (b := b) l (by omega) a c (p + 1) (by omega) (Q := fun l' r => ∃ r' q, q ≤ p + 1 + c ∧ AffsB r' 100 ∧ r'.length ≤ l.length + 1 + c ∧ r = [affsP r', rdP b ((q : Nat) : Int)])
      (fun l' hl' => by
        have hB : AffsB l' (100 - c) ∧ l'.length ≤ l.length + 1 := by
          rcases hl' with rfl | rfl
          · exact ⟨⟨by omega, hl.s⟩, by omega⟩
          · refine ⟨⟨by rw [List.length_append, List.length_singleton]; omega, all_snoc hl.s ha⟩, by rw [List.length_append, List.length_singleton]; omega⟩
        obtain ⟨r', q, h1, h2, h3, h4⟩ := ih (p + 1) l' (by omega) (by omega) hB.1
        exact ⟨_, ⟨r', q, h1, h2, by have := hB.2; omega, rfl⟩, h4⟩) l [] false rfl
    refine ⟨r', q, by omega, h2, by omega, Ev2.succ ?_⟩
    rw [h4] at hv
    simp only [spec_l13Affixes.l0_eq, h0, rd_agg, hf, rd_f1, aff_f0, aff_f1, aff_f2, aff_f3, aff_f4, stk, Int.reduceEq, Nat.reduceEqDiff, Int.reduceLE, Int.reduceLT]
    exact hv.start
theorem affixes_ev {b : PV} (hb : Code1 b) (p : Nat) (hp : p < 700000000) : ∃ (r : List Aff) (q : Nat), q ≤ p + 10 ∧ AffsB r 4 ∧ Ev (fun N => spec_l13Affixes.f N [rdP b (p : Int)]) [affsP r, rdP b (q : Int)] := by
  obtain ⟨c, hc, hf⟩ := pick_ev hb (p := (p : Int)) (n := 5) (by omega) (by omega)
  obtain ⟨c, rfl⟩ := Int.eq_ofNat_of_zero_le hc.1
  have hp1 : (p : Int) + 1 = ((p + 1 : Nat) : Int) := by omega
  rw [hp1] at hf
  obtain ⟨r, q, h1, h2, h3, h4⟩ := affixes_l0 hb c (p + 1) [] (by omega) (by omega) ⟨by simp, by simp⟩
  refine ⟨r, q, by omega, ⟨by simp at h3; omega, h2.s⟩, ?_⟩
  simp only [spec_l13Affixes.f_eq, rd_f0, rd_f1, rd_agg, hf, stk, Int.reduceEq, Nat.reduceEqDiff, Int.reduceLE, Int.reduceLT]
  exact h4.diag
def flagsL : List ByteArray := [⟨#[]⟩, ⟨#[]⟩, ⟨#[83]⟩, ⟨#[71, 83]⟩, ⟨#[85]⟩, ⟨#[71, 85]⟩, ⟨#[82]⟩, ⟨#[84]⟩, ⟨#[67, 82, 83, 85]⟩]
theorem flags_size {s : ByteArray} (h : s ∈ flagsL) : s.size ≤ 4 := (szs_in (l := flagsL) (a := 0) (b := 4) rfl s h).2
theorem entry_ev {b : PV} (hb : Code1 b) (p : Nat) (hp : p < 900000000) (s : ByteArray) : ∃ f ∈ flagsL, ∀ N, spec_l13Entry.f N [rdP b (p : Int), strP s] = some [entP ⟨s, f⟩, rdP b ((p + 1 : Nat) : Int)] := by
  obtain ⟨f, hm, hf⟩ := of_ev hb (p := (p : Int)) (by omega) flagsL (by simp [flagsL])
  have e : PV.list [PV.sc (.string (ByteArray.mk #[])), PV.sc (.string (ByteArray.mk #[])), PV.sc (.string (ByteArray.mk #[83])), PV.sc (.string (ByteArray.mk #[71, 83])), PV.sc (.string (ByteArray.mk #[85])), PV.sc (.string (ByteArray.mk #[71, 85])), PV.sc (.string (ByteArray.mk #[82])), PV.sc (.string (ByteArray.mk #[84])), PV.sc (.string (ByteArray.mk #[67, 82, 83, 85]))] = strsP flagsL := rfl
  have hp1 : (p : Int) + 1 = ((p + 1 : Nat) : Int) := by omega
  rw [hp1] at hf
  have e2 : PV.agg [PV.sc (.string s), PV.sc (.string f)] = entP ⟨s, f⟩ := rfl
  refine ⟨f, hm, fun N => ?_⟩
  simp only [spec_l13Entry.f_eq, rd_f0, rd_f1, rd_agg, e, hf, e2, stk, Int.reduceEq, Nat.reduceEqDiff, Int.reduceLE, Int.reduceLT]
structure BookB (af : List Aff) (es : List Ent) : Prop where
  a : AffsB af 4
  n : es.length ≤ 24
  s : ∀ e ∈ es, e.stem.size ≤ 12 ∧ e.flags ∈ flagsL
theorem ents_snoc (l : List Ent) (e : Ent) : l.map entP ++ [entP e] = (l ++ [e]).map entP := by simp
theorem book_l7 {b : PV} (hb : Code1 b) (af : List Aff) (ws : List ByteArray) (hwl : ws.length ≤ 100) (hws : ∀ x ∈ ws, x.size ≤ 12) : ∀ (rest pre : List ByteArray) (es : List Ent) (p : Nat), ws = pre ++ rest → p + rest.length < 900000000 → es.length = pre.length → (∀ e ∈ es, e.stem.size ≤ 12 ∧ e.flags ∈ flagsL) →
    ∃ (r : List Ent) (q : Nat), q ≤ p + rest.length ∧ r.length = ws.length ∧ (∀ e ∈ r, e.stem.size ≤ 12 ∧ e.flags ∈ flagsL) ∧ Ev2 (fun N n => spec_l13Book.l7 N n (pre.length : Int) b (p : Int) (strsP ws) (affsP af) (es.map entP)) [bookP af r, rdP b (q : Int)] := by
  intro rest
  induction rest with
  | nil =>
    intro pre es p hp hpb hl hes
    refine ⟨es, p, by omega, by rw [hp, hl]; simp, hes, Ev2.succ ?_⟩
    have e : PV.agg [affsP af, PV.list (es.map entP)] = bookP af es := rfl
    simp only [spec_l13Book.l7_eq, at_end hp, e, rd_agg, stk, Int.reduceEq, Nat.reduceEqDiff, Int.reduceLE, Int.reduceLT]
    exact Ev2.now _
  | cons w rest ih =>
    intro pre es p hp hpb hl hes
    rw [List.length_cons] at hpb
    have hw := hws w (by rw [hp]; simp)
    obtain ⟨f, hm, hf⟩ := entry_ev hb p (by omega) w
    simp only [strP] at hf
    have hln := at_ltN hp
    have c1 : (es.length + 1 ≤ 4398046511104) = True := eq_true (by omega)
    obtain ⟨r, q, h1, h2, h3, h4⟩ := ih _ (es ++ [⟨w, f⟩]) (p + 1) (at_step hp) (by omega) (by simp [hl]) (all_snoc hes ⟨hw, hm⟩)
    refine ⟨r, q, by rw [List.length_cons]; omega, h2, h3, Ev2.succ ?_⟩
    simp only [spec_l13Book.l7_eq, at_lt hp, at_getD hp, at_next hp (by omega), hf, rd_agg, rd_f1, ent_f0, ent_f1, List.length_map, c1, stk, Int.reduceEq, Nat.reduceEqDiff, Int.reduceLE, Int.reduceLT]
    rw [ent_agg ⟨w, f⟩, ents_snoc]
    exact h4
theorem book_l5 {b : PV} (hb : Code1 b) (af : List Aff) (ws : List ByteArray) (hwl : ws.length ≤ 100) (hws : ∀ x ∈ ws, x.size ≤ 12) (p : Nat) (hpb : p < 800000000) :
    ∃ (r : List Ent) (q : Nat), q ≤ p + ws.length ∧ r.length = ws.length ∧ (∀ e ∈ r, e.stem.size ≤ 12 ∧ e.flags ∈ flagsL) ∧ Ev2 (fun N n => spec_l13Book.l5 N n 0 b (p : Int) (strsP ws) (affsP af)) [bookP af r, rdP b (q : Int)] := by
  cases ws with
  | nil =>
    have e : PV.agg [affsP af, PV.list []] = bookP af [] := rfl
    have h0 : ((0 : Int) < (([] : List ByteArray).length : Int)) = False := eq_false (by simp)
    refine ⟨[], p, by omega, rfl, by simp, Ev2.succ ?_⟩
    simp only [spec_l13Book.l5_eq, strs_len, h0, e, rd_agg, stk, Int.reduceEq, Nat.reduceEqDiff, Int.reduceLE, Int.reduceLT]
    exact Ev2.now _
  | cons w rest =>
    have hw := hws w (by simp)
    have hp : w :: rest = [] ++ w :: rest := rfl
    have e0 : (0 : Int) = (([] : List ByteArray).length : Int) := rfl
    rw [List.length_cons] at hwl
    obtain ⟨f, hm, hf⟩ := entry_ev hb p (by omega) w
    simp only [strP] at hf
    obtain ⟨r, q, h1, h2, h3, h4⟩ := book_l7 hb af (w :: rest) (by rw [List.length_cons]; omega) hws rest [w] [⟨w, f⟩] (p + 1) rfl (by omega) rfl (by simpa using ⟨hw, hm⟩)
    refine ⟨r, q, by rw [List.length_cons]; omega, h2, h3, Ev2.succ ?_⟩
    have c1 : (([] : List PV).length + 1 ≤ 4398046511104) = True := eq_true (by simp)
    rw [e0]
    simp only [spec_l13Book.l5_eq, at_lt hp, at_getD hp, at_next hp (by rw [List.length_cons]; omega), hf, rd_agg, rd_f1, ent_f0, ent_f1, c1, List.nil_append, stk, Int.reduceEq, Nat.reduceEqDiff, Int.reduceLE, Int.reduceLT]
    rw [ent_agg ⟨w, f⟩]
    exact h4
def wB (k : Nat) : ByteArray := (ByteArray.mk #[119]) ++ (bytesOfL [(PV.sc (.int .u8 (IntKind.u8.wrap (IntKind.i64.wrap (97 + (k : Int))))))])
theorem wB_data {k : Nat} (hk : k < 100) : (wB k).data.toList = [119, UInt8.ofNat (97 + k)] := by
  have e1 : IntKind.i64.wrap (97 + (k : Int)) = ((97 + k : Nat) : Int) := nat_wrap (by omega) (by omega)
  have e2 : IntKind.u8.wrap ((97 + k : Nat) : Int) = ((97 + k : Nat) : Int) := by simp [IntKind.wrap, IntKind.signed, IntKind.bits]; omega
  unfold wB
  rw [e1, e2, ByteArray.data_append, Array.toList_append]
  rfl
theorem wB_size (k : Nat) : (wB k).size = 2 := by
  unfold wB
  rw [ByteArray.size_append]
  have : ∀ l : List PV, (bytesOfL l).size = l.length := fun l => by simp [bytesOfL, ByteArray.size]
  rw [this]; rfl
theorem wB_noW {k : Nat} (hk : k < 100) : noW (wB k) = false := by
  unfold noW
  rw [wB_data hk]; rfl
theorem wB_inj {j k : Nat} (hj : j < 100) (hk : k < 100) (h : wB j = wB k) : j = k := by
  have h1 := congrArg (fun s : ByteArray => s.data.toList) h
  simp only [wB_data hj, wB_data hk] at h1
  injection h1 with _ h1
  injection h1 with h1 _
  have h2 := congrArg UInt8.toNat h1
  simp only [UInt8.toNat_ofNat'] at h2
  omega
theorem insM_new (s : ByteArray) : ∀ {l : List ByteArray}, s ∉ l → (insM s l).length = l.length + 1
  | [], _ => by simp [insM]
  | c :: r, h => by
    rw [List.mem_cons, not_or] at h
    unfold insM
    split
    · rw [List.length_cons, insM_new s h.2, List.length_cons]
    · rw [if_neg (fun e => h.1 e.symm)]; simp
def WInv (ws : List ByteArray) (k : Nat) : Prop := ∀ x ∈ ws, x.size ≤ 12 ∧ (noW x = true ∨ ∃ j, j < k ∧ x = wB j)
theorem book_l4 {b : PV} (hb : Code1 b) (af : List Aff) (p : Nat) (hpb : p < 700000000) : ∀ (d k : Nat) (ws : List ByteArray), ws.length + d = 24 → k + d ≤ 24 → WInv ws k →
    ∃ (r : List Ent) (q : Nat), q ≤ p + 24 ∧ r.length ≤ 24 ∧ (∀ e ∈ r, e.stem.size ≤ 12 ∧ e.flags ∈ flagsL) ∧ Ev2 (fun N n => spec_l13Book.l4 N n (k : Int) b (p : Int) (strsP ws) (affsP af)) [bookP af r, rdP b (q : Int)] := by
  intro d
  induction d with
  | zero =>
    intro k ws hl hk hi
    obtain ⟨r, q, h1, h2, h3, h4⟩ := book_l5 hb af ws (by omega) (fun x hx => (hi x hx).1) p (by omega)
    have h0 : ((ws.length : Int) < 24) = False := eq_false (by omega)
    refine ⟨r, q, by omega, by omega, h3, Ev2.succ ?_⟩
    simp only [spec_l13Book.l4_eq, strs_len, h0, stk, Int.reduceEq, Nat.reduceEqDiff, Int.reduceLE, Int.reduceLT]
    exact h4.after
  | succ d ih =>
    intro k ws hl hk hi
    have h0 : ((ws.length : Int) < 24) = True := eq_true (by omega)
    have hnot : wB k ∉ ws := fun hm => by
      rcases (hi _ hm).2 with h | ⟨j, hj, h⟩
      · rw [wB_noW (by omega)] at h; cases h
      · have := wB_inj (by omega) (by omega) h; omega
    obtain ⟨r, q, h1, h2, h3, h4⟩ := ih (k + 1) (insM (wB k) ws) (by rw [insM_new _ hnot]; omega) (by omega) (fun x hx => by
      rcases (insM_mem _ ws x).1 hx with rfl | hx
      · exact ⟨by rw [wB_size]; omega, .inr ⟨k, by omega, rfl⟩⟩
      · obtain ⟨z, h⟩ := hi x hx
        exact ⟨z, h.imp id (fun ⟨j, hj, e⟩ => ⟨j, by omega, e⟩)⟩)
    have w1 : IntKind.i64.wrap ((k : Int) + 1) = ((k + 1 : Nat) : Int) := nat_wrap (by omega) (by omega)
    have hz := wB_size k
    unfold wB at hz
    rw [ByteArray.size_append] at hz
    have c1 : ((ByteArray.mk #[119]).size + (bytesOfL [(PV.sc (.int .u8 (IntKind.u8.wrap (IntKind.i64.wrap (97 + (k : Int))))))]).size ≤ 9223372036854775807) = True := eq_true (by omega)
    refine ⟨r, q, h1, h2, h3, Ev2.succ ?_⟩
    simp only [spec_l13Book.l4_eq, strs_len, h0, c1, if_true, decide_true]
    refine Ev2.bind (put_ev ws (wB k) (by omega)) ?_
    simp only [w1, stk, Int.reduceEq, Nat.reduceEqDiff, Int.reduceLE, Int.reduceLT]
    exact h4
theorem book_l1 {b : PV} (hb : Code1 b) (af : List Aff) : ∀ (c p : Nat) (ws : List ByteArray), p + 20 * c < 600000000 → ws.length + c ≤ 20 → WInv ws 0 →
    ∃ (r : List Ent) (q : Nat), q ≤ p + 20 * c + 50 ∧ r.length ≤ 24 ∧ (∀ e ∈ r, e.stem.size ≤ 12 ∧ e.flags ∈ flagsL) ∧ Ev2 (fun N n => spec_l13Book.l1 N n (c : Int) b (p : Int) (strsP ws) (affsP af)) [bookP af r, rdP b (q : Int)] := by
  intro c
  induction c with
  | zero =>
    intro p ws hp hl hi
    have h0 : ¬ (0 : Int) < ((0 : Nat) : Int) := by omega
    obtain ⟨k, hk, hf⟩ := pick_ev hb (p := (p : Int)) (n := 30) (by omega) (by omega)
    have hp1 : (p : Int) + 1 = ((p + 1 : Nat) : Int) := by omega
    rw [hp1] at hf
    by_cases k0 : k = 0
    · obtain ⟨r, q, h1, h2, h3, h4⟩ := book_l4 hb af (p + 1) (by omega) (24 - ws.length) 0 ws (by omega) (by omega) hi
      refine ⟨r, q, by omega, h2, h3, Ev2.succ ?_⟩
      simp only [spec_l13Book.l1_eq, h0, rd_agg, rd_f1, hf, k0, stk, Int.reduceEq, Nat.reduceEqDiff, Int.reduceLE, Int.reduceLT]
      exact h4.after
    · obtain ⟨r, q, h1, h2, h3, h4⟩ := book_l5 hb af ws (by omega) (fun x hx => (hi x hx).1) (p + 1) (by omega)
      refine ⟨r, q, by omega, by omega, h3, Ev2.succ ?_⟩
      simp only [spec_l13Book.l1_eq, h0, rd_agg, rd_f1, hf, k0, stk, Int.reduceEq, Nat.reduceEqDiff, Int.reduceLE, Int.reduceLT]
      exact h4.after
  | succ c ih =>
    intro p ws hp hl hi
    have h0 : (0 : Int) < ((c + 1 : Nat) : Int) := by omega
    obtain ⟨w, q, h2, h3, h4, hno, h5⟩ := wordX_ev hb p (by omega)
    have hil := insM_len w ws
    obtain ⟨r, q2, a1, a2, a3, a4⟩ := ih q (insM w ws) (by omega) (by omega) (fun x hx => by
      rcases (insM_mem w ws x).1 hx with rfl | hx
      · exact ⟨h4, .inl hno⟩
      · exact hi x hx)
    refine ⟨r, q2, by omega, a2, a3, Ev2.succ ?_⟩
    have w1 : IntKind.i64.wrap (((c + 1 : Nat) : Int) - 1) = (c : Int) := nat_wrap (by omega) (by omega)
    simp only [spec_l13Book.l1_eq, h0, rd_agg, stk, Int.reduceEq, Nat.reduceEqDiff, Int.reduceLE, Int.reduceLT]
    refine Ev2.bind h5 ?_
    simp only [stk, Int.reduceEq, Nat.reduceEqDiff, Int.reduceLE, Int.reduceLT]
    refine Ev2.bind (put_ev ws w (by omega)) ?_
    simp only [w1, rd_f1, stk, Int.reduceEq, Nat.reduceEqDiff, Int.reduceLE, Int.reduceLT]
    exact a4
theorem book_ev {b : PV} (hb : Code1 b) (p : Nat) (hp : p < 500000000) : ∃ (af : List Aff) (es : List Ent) (q : Nat), q ≤ p + 250 ∧ BookB af es ∧ Ev (fun N => spec_l13Book.f N [rdP b (p : Int)]) [bookP af es, rdP b (q : Int)] := by
  obtain ⟨af, q0, b1, b2, b3⟩ := affixes_ev hb p (by omega)
  obtain ⟨c, hc, hf⟩ := pick_ev hb (p := (q0 : Int)) (n := 7) (by omega) (by omega)
  obtain ⟨c, rfl⟩ := Int.eq_ofNat_of_zero_le hc.1
  have hp1 : (q0 : Int) + 1 = ((q0 + 1 : Nat) : Int) := by omega
  rw [hp1] at hf
  have hnil : PV.list [] = strsP [] := rfl
  obtain ⟨r, q, h1, h2, h3, h4⟩ : ∃ (r : List Ent) (q : Nat), q ≤ q0 + 240 ∧ r.length ≤ 24 ∧ (∀ e ∈ r, e.stem.size ≤ 12 ∧ e.flags ∈ flagsL) ∧ Ev2 (fun N n => spec_l13Book.l0 N n (c : Int) b ((q0 + 1 : Nat) : Int) [] (affsP af)) [bookP af r, rdP b (q : Int)] := by
    cases c with
    | succ c =>
      have h0 : (0 : Int) < ((c + 1 : Nat) : Int) := by omega
      obtain ⟨w, q, h2, h3, h4, hno, h5⟩ := wordX_ev hb (q0 + 1) (by omega)
      have hil := insM_len w []
      obtain ⟨r, q2, a1, a2, a3, a4⟩ := book_l1 hb af c q (insM w []) (by omega) (by simp at hil; omega) (fun x hx => by
        rcases (insM_mem w [] x).1 hx with rfl | hx
        · exact ⟨h4, .inl hno⟩
        · cases hx)
      refine ⟨r, q2, by omega, a2, a3, Ev2.succ ?_⟩
      have w1 : IntKind.i64.wrap (((c + 1 : Nat) : Int) - 1) = (c : Int) := nat_wrap (by omega) (by omega)
      simp only [spec_l13Book.l0_eq, h0, rd_agg, hnil, stk, Int.reduceEq, Nat.reduceEqDiff, Int.reduceLE, Int.reduceLT]
      refine Ev2.bind h5 ?_
      simp only [stk, Int.reduceEq, Nat.reduceEqDiff, Int.reduceLE, Int.reduceLT]
      refine Ev2.bind (put_ev [] w (by simp)) ?_
      simp only [w1, rd_f1, stk, Int.reduceEq, Nat.reduceEqDiff, Int.reduceLE, Int.reduceLT]
      exact a4
    | zero =>
      have h0 : ¬ (0 : Int) < ((0 : Nat) : Int) := by omega
      obtain ⟨k, hk, hf⟩ := pick_ev hb (p := ((q0 + 1 : Nat) : Int)) (n := 30) (by omega) (by omega)
      have hp1 : ((q0 + 1 : Nat) : Int) + 1 = ((q0 + 2 : Nat) : Int) := by omega
      rw [hp1] at hf
      by_cases k0 : k = 0
      · have w1 : IntKind.i64.wrap ((0 : Int) + 1) = ((1 : Nat) : Int) := nat_wrap (by omega) (by omega)
        obtain ⟨r, q, h1, h2, h3, h4⟩ := book_l4 hb af (q0 + 2) (by omega) 23 1 (insM (wB 0) []) rfl (by omega) (fun x hx => by
          rcases (insM_mem _ [] x).1 hx with rfl | hx
          · exact ⟨by rw [wB_size]; omega, .inr ⟨0, by omega, rfl⟩⟩
          · cases hx)
        refine ⟨r, q, by omega, h2, h3, Ev2.succ ?_⟩
        simp only [spec_l13Book.l0_eq, h0, rd_agg, rd_f1, hf, k0, stk, Int.reduceEq, Nat.reduceEqDiff, Int.reduceLE, Int.reduceLT]
        refine Ev2.after (g := fun N n => spec_l13Book.l2 N n 0 b ((q0 + 2 : Nat) : Int) [] (affsP af)) (Ev2.succ ?_)
        have hz := wB_size 0
        unfold wB at hz
        rw [ByteArray.size_append] at hz
        have c1 : ((ByteArray.mk #[119]).size + (bytesOfL [(PV.sc (.int .u8 (IntKind.u8.wrap (IntKind.i64.wrap (97 + (0 : Int))))))]).size ≤ 9223372036854775807) = True := eq_true (by
          have : (((0 : Nat) : Int)) = 0 := rfl
          rw [this] at hz; omega)
        have c0 : ((([] : List PV).length : Int) < 24) = True := eq_true (by simp)
        simp only [spec_l13Book.l2_eq, c0, c1, hnil, if_true, decide_true]
        refine Ev2.bind (put_ev [] (wB 0) (by simp)) ?_
        simp only [w1, stk, Int.reduceEq, Nat.reduceEqDiff, Int.reduceLE, Int.reduceLT]
        exact h4
      · refine ⟨[], q0 + 2, by omega, by simp, by simp, Ev2.succ ?_⟩
        simp only [spec_l13Book.l0_eq, h0, rd_agg, rd_f1, hf, k0, stk, Int.reduceEq, Nat.reduceEqDiff, Int.reduceLE, Int.reduceLT]
        refine Ev2.after (g := fun N n => spec_l13Book.l3 N n 0 b ((q0 + 2 : Nat) : Int) [] (affsP af)) (Ev2.succ ?_)
        have c0 : ((0 : Int) < (([] : List PV).length : Int)) = False := eq_false (by simp)
        have e : PV.agg [affsP af, PV.list []] = bookP af [] := rfl
        simp only [spec_l13Book.l3_eq, c0, e, rd_agg, stk, Int.reduceEq, Nat.reduceEqDiff, Int.reduceLE, Int.reduceLT]
        exact Ev2.now _
  refine ⟨af, r, q, by omega, ⟨b2, h2, h3⟩, ?_⟩
  simp only [spec_l13Book.f_eq, rd_f0, rd_f1, rd_agg, stk, Int.reduceEq, Nat.reduceEqDiff, Int.reduceLE, Int.reduceLT]
  refine Ev.bind b3 ?_
  simp only [rd_f1, rd_agg, hf, stk, Int.reduceEq, Nat.reduceEqDiff, Int.reduceLE, Int.reduceLT]
  exact h4.diag
theorem bookW_b {af : List Aff} {es : List Ent} (h : BookB af es) : (bookW af es).length ≤ 600 ∧ ∀ x ∈ bookW af es, x.size ≤ 12 := by
  have h1 := wordsL2_len af es []
  have h2 := h.n
  have h3 := h.a.n
  have h4 : (1 + af.length) * (1 + af.length) ≤ 5 * 5 := Nat.mul_le_mul (by omega) (by omega)
  have h5 : es.length * ((1 + af.length) * (1 + af.length)) ≤ 24 * 25 := Nat.mul_le_mul h2 h4
  refine ⟨by unfold bookW; simp only [List.length_nil] at h1; omega, fun x hx => ?_⟩
  unfold bookW at hx
  rw [wordsL2_mem] at hx
  rcases hx with hx | ⟨e, he, hx⟩
  · cases hx
  · rcases formsB_mem hx with rfl | hw
    · exact (h.s e he).1
    · exact word_size hw
theorem bookW_draw {af : List Aff} {es : List Ent} (h : BookB af es) : Ev (fun N => spec_l2Words.f N [bookP af es]) [strsP (bookW af es)] :=
  bookW_ev (fun a ha => affLL_good a (h.a.s a ha)) (by have := h.a.n; omega) (fun e he => ⟨by have := (h.s e he).1; omega, by have := flags_size (h.s e he).2; omega⟩) (by have := h.n; omega)
structure WordsD (l : List ByteArray) (n : Nat) : Prop where
  n : l.length ≤ n
  s : ∀ x ∈ l, x.size ≤ 13
theorem words_tail {b : PV} (hb : Code1 b) (p : Nat) (hp : p < 400000000) (l : List ByteArray) (hl : WordsD l 20) :
    ∃ (r : List ByteArray) (q : Nat), q ≤ p + 300 ∧ WordsD r 40 ∧ ∀ c : Int, ¬ 0 < c → Ev2 (fun N n => spec_l13Words.l1 N n c b (p : Int) (strsP l)) [strsP r, rdP b (q : Int)] ∧ Ev2 (fun N n => spec_l13Words.l0 N n c b (p : Int) (l.map strP)) [strsP r, rdP b (q : Int)] := by
  obtain ⟨k, hk, hf⟩ := pick_ev hb (p := (p : Int)) (n := 3) (by omega) (by omega)
  have hp1 : (p : Int) + 1 = ((p + 1 : Nat) : Int) := by omega
  rw [hp1] at hf
  have hln := hl.n
  have b0 : ((40 : Int) < (l.length : Int)) = False := eq_false (by omega)
  by_cases k0 : k = 0
  · obtain ⟨af, es, q, h1, h2, h3⟩ := book_ev hb (p + 1) (by omega)
    obtain ⟨z1, z2⟩ := bookW_b h2
    have hw := bookW_draw h2
    have e2 : ∀ l : List ByteArray, (strsP l).items.take 40 = (l.take 40).map strP := fun l => by simp [strsP, PV.items]
    by_cases hbig : (bookW af es).length ≤ 40
    · have c1 : ((40 : Int) < ((bookW af es).length : Int)) = False := eq_false (by omega)
      refine ⟨bookW af es, q, by omega, ⟨hbig, fun x hx => by have := z2 x hx; omega⟩, fun c hc => ⟨Ev2.succ ?_, Ev2.succ ?_⟩⟩
      · simp only [spec_l13Words.l1_eq, hc, rd_agg, rd_f1, hf, k0, stk, Int.reduceEq, Nat.reduceEqDiff, Int.reduceLE, Int.reduceLT]
        refine Ev2.bind h3 ?_
        simp only [book_f0, book_f1, book_agg, rd_f1, stk, Int.reduceEq, Nat.reduceEqDiff, Int.reduceLE, Int.reduceLT]
        refine Ev2.bind hw ?_
        simp only [c1, stk, Int.reduceEq, Nat.reduceEqDiff, Int.reduceLE, Int.reduceLT]
        exact Ev2.now _
      · simp only [spec_l13Words.l0_eq, hc, rd_agg, rd_f1, hf, k0, stk, Int.reduceEq, Nat.reduceEqDiff, Int.reduceLE, Int.reduceLT]
        refine Ev2.bind h3 ?_
        simp only [book_f0, book_f1, book_agg, rd_f1, stk, Int.reduceEq, Nat.reduceEqDiff, Int.reduceLE, Int.reduceLT]
        refine Ev2.bind hw ?_
        simp only [c1, stk, Int.reduceEq, Nat.reduceEqDiff, Int.reduceLE, Int.reduceLT]
        exact Ev2.now _
    · have c1 : ((40 : Int) < ((bookW af es).length : Int)) = True := eq_true (by omega)
      have c2 : ((40 : Int) ≤ ((bookW af es).length : Int)) = True := eq_true (by omega)
      refine ⟨(bookW af es).take 40, q, by omega, ⟨by rw [List.length_take]; omega, fun x hx => by have := z2 x (List.mem_of_mem_take hx); omega⟩, fun c hc => ⟨Ev2.succ ?_, Ev2.succ ?_⟩⟩
      · simp only [spec_l13Words.l1_eq, hc, rd_agg, rd_f1, hf, k0, stk, Int.reduceEq, Nat.reduceEqDiff, Int.reduceLE, Int.reduceLT]
        refine Ev2.bind h3 ?_
        simp only [book_f0, book_f1, book_agg, rd_f1, stk, Int.reduceEq, Nat.reduceEqDiff, Int.reduceLE, Int.reduceLT]
        refine Ev2.bind hw ?_
        simp only [c1, c2, e2, strs_mapL, stk, Int.reduceEq, Nat.reduceEqDiff, Int.reduceLE, Int.reduceLT]
        exact Ev2.now _
      · simp only [spec_l13Words.l0_eq, hc, rd_agg, rd_f1, hf, k0, stk, Int.reduceEq, Nat.reduceEqDiff, Int.reduceLE, Int.reduceLT]
        refine Ev2.bind h3 ?_
        simp only [book_f0, book_f1, book_agg, rd_f1, stk, Int.reduceEq, Nat.reduceEqDiff, Int.reduceLE, Int.reduceLT]
        refine Ev2.bind hw ?_
        simp only [c1, c2, e2, strs_mapL, stk, Int.reduceEq, Nat.reduceEqDiff, Int.reduceLE, Int.reduceLT]
        exact Ev2.now _
  · refine ⟨l, p + 1, by omega, ⟨by omega, hl.s⟩, fun c hc => ⟨Ev2.succ ?_, Ev2.succ ?_⟩⟩
    · simp only [spec_l13Words.l1_eq, hc, rd_agg, rd_f1, hf, k0, b0, stk, Int.reduceEq, Nat.reduceEqDiff, Int.reduceLE, Int.reduceLT]
      exact Ev2.now _
    · simp only [spec_l13Words.l0_eq, hc, rd_agg, rd_f1, hf, k0, b0, List.length_map, strs_mapL, stk, Int.reduceEq, Nat.reduceEqDiff, Int.reduceLE, Int.reduceLT]
      exact Ev2.now _
theorem words_d1 {b : PV} (hb : Code1 b) : ∀ (c p : Nat) (l : List ByteArray), p + 20 * c < 300000000 → WordsD l (20 - c) → c ≤ 10 → ∃ (r : List ByteArray) (q : Nat), q ≤ p + 20 * c + 300 ∧ WordsD r 40 ∧ Ev2 (fun N n => spec_l13Words.l1 N n (c : Int) b (p : Int) (strsP l)) [strsP r, rdP b (q : Int)] := by
  intro c
  induction c with
  | zero =>
    intro p l hp hl hc
    obtain ⟨r, q, h1, h2, h3⟩ := words_tail hb p (by omega) l ⟨by have := hl.n; omega, hl.s⟩
    exact ⟨r, q, by omega, h2, (h3 _ (by omega)).1⟩
  | succ c ih =>
    intro p l hp hl hc
    have h0 : (0 : Int) < ((c + 1 : Nat) : Int) := by omega
    have hln := hl.n
    obtain ⟨w, q, h2, h3, h4, h5⟩ := word_ev hb p (by omega)
    have hil := insM_len w l
    obtain ⟨r, q2, a1, a2, a3⟩ := ih q (insM w l) (by omega) ⟨by omega, fun x hx => by
      rcases (insM_mem w l x).1 hx with rfl | hx
      · omega
      · exact hl.s x hx⟩ (by omega)
    refine ⟨r, q2, by omega, a2, Ev2.succ ?_⟩
    have w1 : IntKind.i64.wrap (((c + 1 : Nat) : Int) - 1) = (c : Int) := nat_wrap (by omega) (by omega)
    simp only [spec_l13Words.l1_eq, h0, rd_agg, stk, Int.reduceEq, Nat.reduceEqDiff, Int.reduceLE, Int.reduceLT]
    refine Ev2.bind h5 ?_
    simp only [stk, Int.reduceEq, Nat.reduceEqDiff, Int.reduceLE, Int.reduceLT]
    refine Ev2.bind (put_ev l w (by omega)) ?_
    simp only [w1, rd_f1, stk, Int.reduceEq, Nat.reduceEqDiff, Int.reduceLE, Int.reduceLT]
    exact a3
theorem l13Words_ev {b : PV} (hb : Code1 b) (p : Nat) (hp : p < 200000000) : ∃ (r : List ByteArray) (q : Nat), q ≤ p + 500 ∧ WordsD r 40 ∧ Ev (fun N => spec_l13Words.f N [rdP b (p : Int)]) [strsP r, rdP b (q : Int)] := by
  obtain ⟨c, hc, hf⟩ := pick_ev hb (p := (p : Int)) (n := 9) (by omega) (by omega)
  obtain ⟨c, rfl⟩ := Int.eq_ofNat_of_zero_le hc.1
  have hp1 : (p : Int) + 1 = ((p + 1 : Nat) : Int) := by omega
  rw [hp1] at hf
  have hnil : PV.list [] = strsP [] := rfl
  obtain ⟨r, q, h1, h2, h3⟩ : ∃ (r : List ByteArray) (q : Nat), q ≤ p + 500 ∧ WordsD r 40 ∧ Ev2 (fun N n => spec_l13Words.l0 N n (c : Int) b ((p + 1 : Nat) : Int) []) [strsP r, rdP b (q : Int)] := by
    cases c with
    | zero =>
      obtain ⟨r, q, h1, h2, h3⟩ := words_tail hb (p + 1) (by omega) [] ⟨by simp, by simp⟩
      exact ⟨r, q, by omega, h2, (h3 _ (by omega)).2⟩
    | succ c =>
      have h0 : (0 : Int) < ((c + 1 : Nat) : Int) := by omega
      obtain ⟨w, q, h2, h3, h4, h5⟩ := word_ev hb (p + 1) (by omega)
      have hil := insM_len w []
      obtain ⟨r, q2, a1, a2, a3⟩ := words_d1 hb c q (insM w []) (by omega) ⟨by simp at hil; omega, fun x hx => by
        rcases (insM_mem w [] x).1 hx with rfl | hx
        · omega
        · cases hx⟩ (by omega)
      refine ⟨r, q2, by omega, a2, Ev2.succ ?_⟩
      have w1 : IntKind.i64.wrap (((c + 1 : Nat) : Int) - 1) = (c : Int) := nat_wrap (by omega) (by omega)
      simp only [spec_l13Words.l0_eq, h0, rd_agg, hnil, stk, Int.reduceEq, Nat.reduceEqDiff, Int.reduceLE, Int.reduceLT]
      refine Ev2.bind h5 ?_
      simp only [stk, Int.reduceEq, Nat.reduceEqDiff, Int.reduceLE, Int.reduceLT]
      refine Ev2.bind (put_ev [] w (by simp)) ?_
      simp only [w1, rd_f1, stk, Int.reduceEq, Nat.reduceEqDiff, Int.reduceLE, Int.reduceLT]
      exact a3
  refine ⟨r, q, h1, h2, ?_⟩
  simp only [spec_l13Words.f_eq, rd_f0, rd_f1, rd_agg, hf, stk, Int.reduceEq, Nat.reduceEqDiff, Int.reduceLE, Int.reduceLT]
  exact h3.diag
abbrev Ed := Int × Int
abbrev St := Bool × List Ed
def edgeP (e : Ed) : PV := .agg [intP e.1, intP e.2]
def edgesP (l : List Ed) : PV := .list (l.map edgeP)
def stP (s : St) : PV := .agg [boolP s.1, edgesP s.2]
def machP (m : List St) : PV := .list (m.map stP)
theorem edge_f0 (e : Ed) : (edgeP e).fld 0 = intP e.1 := rfl
theorem edge_f1 (e : Ed) : (edgeP e).fld 1 = intP e.2 := rfl
theorem st_f0 (s : St) : (stP s).fld 0 = boolP s.1 := rfl
theorem st_f1 (s : St) : (stP s).fld 1 = edgesP s.2 := rfl
theorem edges_len (l : List Ed) : (edgesP l).items.length = l.length := by simp [edgesP, PV.items]
theorem mach_len (l : List St) : (machP l).items.length = l.length := by simp [machP, PV.items]
theorem edges_at {l pre rest : List Ed} {e : Ed} (h : l = pre ++ e :: rest) : (edgesP l).elem pre.length = edgeP e := by
  subst h; simp [edgesP, PV.elem, PV.items, List.getD_eq_getElem?_getD]
theorem mach_at {l pre rest : List St} {s : St} (h : l = pre ++ s :: rest) : (machP l).elem pre.length = stP s := by
  subst h; simp [machP, PV.elem, PV.items, List.getD_eq_getElem?_getD]
structure MachB (m : List St) : Prop where
  n : m.length ≤ 1048576
  e : ∀ s ∈ m, s.2.length ≤ 1048576
def edgeOk (n i : Nat) (p : Option Int) (e : Ed) : Bool := decide (97 ≤ e.1 ∧ e.1 ≤ 122) && (decide ((i : Int) + 1 ≤ e.2 ∧ e.2 ≤ (n : Int) - 1) && (match p with | none => true | some q => decide (q < e.1)))
def edgesOk (n i : Nat) : Option Int → List Ed → Bool
  | _, [] => true
  | p, e :: es => edgeOk n i p e && edgesOk n i (some e.1) es
def stOk (n i : Nat) (s : St) : Bool := edgesOk n i none s.2 && (decide (i = 0) || (s.1 || decide (s.2 ≠ [])))
def stsOk (n : Nat) : Nat → List St → Bool
  | _, [] => true
  | i, s :: r => stOk n i s && stsOk n (i + 1) r
def depE (i : Nat) (T : List Int) : List Ed → Int → Int
  | [], a => a
  | e :: es, a => depE i T es (if a < T.getD (e.2.toNat - (i + 1)) 0 + 1 then T.getD (e.2.toNat - (i + 1)) 0 + 1 else a)
def depL (i : Nat) : List St → List Int
  | [] => []
  | s :: r => depE i (depL (i + 1) r) s.2 0 :: depL (i + 1) r
def okM (m : List St) : Bool := decide (1 ≤ m.length ∧ m.length ≤ 400) && (stsOk m.length 0 m && decide ((depL 0 m).getD 0 0 ≤ 12))
theorem stsOk_app (n : Nat) : ∀ (a b : List St) (i : Nat), stsOk n i (a ++ b) = (stsOk n i a && stsOk n (i + a.length) b)
  | [], b, i => by simp [stsOk]
  | s :: a, b, i => by
    simp only [List.cons_append, stsOk, List.length_cons]
    rw [stsOk_app n a b (i + 1), Bool.and_assoc]
    have : i + 1 + a.length = i + (a.length + 1) := by omega
    rw [this]
theorem edgesOk_to {n i : Nat} : ∀ {es : List Ed} {p : Option Int}, edgesOk n i p es = true → ∀ e ∈ es, (97 ≤ e.1 ∧ e.1 ≤ 122) ∧ (i : Int) + 1 ≤ e.2 ∧ e.2 ≤ (n : Int) - 1
  | [], _, _, e, he => absurd he (by simp)
  | c :: es, p, h, e, he => by
    simp only [edgesOk, edgeOk, Bool.and_eq_true, decide_eq_true_eq] at h
    rcases List.mem_cons.1 he with rfl | he
    · exact ⟨h.1.1, h.1.2.1⟩
    · exact edgesOk_to h.2 e he
theorem depL_len : ∀ (m : List St) (i : Nat), (depL i m).length = m.length
  | [], _ => rfl
  | s :: r, i => by simp [depL, depL_len r (i + 1)]
theorem getD_range {T : List Int} {B : Int} (h : ∀ x ∈ T, 0 ≤ x ∧ x ≤ B) (h0 : 0 ≤ B) (j : Nat) : 0 ≤ T.getD j 0 ∧ T.getD j 0 ≤ B := by
  rw [List.getD_eq_getElem?_getD]
  cases hj : T[j]? with
  | none => exact ⟨Int.le_refl _, h0⟩
  | some x => exact h x (List.mem_of_getElem? hj)
theorem depE_range {i : Nat} {T : List Int} {B : Int} (h : ∀ x ∈ T, 0 ≤ x ∧ x ≤ B) (h0 : 0 ≤ B) : ∀ (es : List Ed) (a : Int), a ≤ B + 1 → a ≤ depE i T es a ∧ depE i T es a ≤ B + 1
  | [], a, ha => ⟨Int.le_refl _, ha⟩
  | e :: es, a, ha => by
    have hg := getD_range h h0 (e.2.toNat - (i + 1))
    unfold depE
    split
    · have := depE_range (i := i) h h0 es (T.getD (e.2.toNat - (i + 1)) 0 + 1) (by omega); omega
    · exact depE_range h h0 es a ha
theorem depL_range : ∀ (m : List St) (i : Nat), ∀ x ∈ depL i m, 0 ≤ x ∧ x ≤ (m.length : Int)
  | [], _, x, hx => absurd hx (by simp [depL])
  | s :: r, i, x, hx => by
    have ih := depL_range r (i + 1)
    simp only [depL, List.mem_cons] at hx
    rcases hx with rfl | hx
    · have := depE_range (i := i) ih (Int.natCast_nonneg _) s.2 0 (by omega)
      simp only [List.length_cons]; omega
    · have := ih x hx
      simp only [List.length_cons]; omega
def arr (i : Nat) (a : Int) (T : List Int) : List PV := (List.replicate i (0 : Int) ++ a :: T).map intP
theorem arr_len (i : Nat) (a : Int) (T : List Int) : (arr i a T).length = i + 1 + T.length := by simp [arr]; omega
theorem arr_here (i : Nat) (a : Int) (T : List Int) : ((PV.list (arr i a T)).elem i).toInt = a := by
  have h := ints_elem (List.replicate i (0 : Int) ++ a :: T) i
  simp only [intsP] at h
  unfold arr
  rw [h]; simp [List.getD_eq_getElem?_getD]
theorem arr_at (i j : Nat) (a : Int) (T : List Int) (h : i + 1 ≤ j) : ((PV.list (arr i a T)).elem j).toInt = T.getD (j - (i + 1)) 0 := by
  have h2 := ints_elem (List.replicate i (0 : Int) ++ a :: T) j
  simp only [intsP] at h2
  unfold arr
  rw [h2, List.getD_eq_getElem?_getD, List.getD_eq_getElem?_getD, List.getElem?_append_right (by simp; omega)]
  obtain ⟨k, rfl⟩ : ∃ k, j = i + 1 + k := ⟨j - (i + 1), by omega⟩
  have e1 : i + 1 + k - (List.replicate i (0 : Int)).length = k + 1 := by simp; omega
  have e2 : i + 1 + k - (i + 1) = k := by omega
  rw [e1, e2, List.getElem?_cons_succ]
theorem arr_set (i : Nat) (a x : Int) (T : List Int) : (arr i a T).set i (intP x) = arr i x T := by
  unfold arr
  rw [← List.map_set]
  congr 1
  have := set_mid (List.replicate i (0 : Int)) a x T
  rwa [List.length_replicate] at this
theorem arr_zero (i : Nat) (T : List Int) : (List.replicate (i + 1) (0 : Int) ++ T).map intP = arr i 0 T := by
  unfold arr; rw [List.replicate_succ', List.append_assoc]; rfl
theorem at_prevN {α : Type} {xs pre' rest : List α} {q : α} (hp : xs = (pre' ++ [q]) ++ rest) (hx : xs.length ≤ 9223372036854775807) : IntKind.i64.wrap (((pre' ++ [q]).length : Int) - 1) = (pre'.length : Int) ∧ (pre'.length : Int) < (xs.length : Int) := by
  subst hp
  simp only [List.length_append, List.length_cons, List.length_nil] at hx ⊢
  refine ⟨?_, by omega⟩
  rw [wrap_id (by omega) (by omega)]; omega
theorem deep_l1 (m : List St) (hm : MachB m) {pre rest : List St} {s : St} (hp : m = pre ++ s :: rest) (T : List Int) (hT : T.length = rest.length) (hTr : ∀ x ∈ T, 0 ≤ x ∧ x ≤ 1048576) (R : Int) (hes : ∀ e ∈ s.2, (pre.length : Int) + 1 ≤ e.2 ∧ e.2 ≤ (m.length : Int) - 1) :
    ∀ (es epre : List Ed), s.2 = epre ++ es → ∀ a : Int, 0 ≤ a → a ≤ 1048577 →
    (Ev2 (fun N n => spec_l3Deep.l0 N n (machP m) (IntKind.i64.wrap ((pre.length : Int) - 1)) (arr pre.length (depE pre.length T es a) T)) [intP R]) →
    Ev3 (fun N m0 n => spec_l3Deep.l1 N m0 n (machP m) (pre.length : Int) (epre.length : Int) (arr pre.length a T)) [intP R] := by
  have hn := hm.n
  have hse := hm.e s (by rw [hp]; simp)
  have hlm : m.length = pre.length + 1 + rest.length := by rw [hp]; simp; omega
  intro es
  induction es with
  | nil =>
    intro epre he a _ _ hk
    refine Ev3.succ ?_
    simp only [spec_l3Deep.l1_eq, mach_len, at_lt hp, mach_at hp, st_f1, edges_len, at_end he, stk, Int.reduceEq, Nat.reduceEqDiff, Int.reduceLE, Int.reduceLT]
    exact hk.outer
  | cons e es ih =>
    intro epre he a ha0 ha1 hk
    obtain ⟨h1, h2⟩ := hes e (by rw [he]; simp)
    obtain ⟨t, ht⟩ := Int.eq_ofNat_of_zero_le (show 0 ≤ e.2 by omega)
    have hge : pre.length + 1 ≤ t := by omega
    have ht' : t < pre.length + 1 + T.length := by omega
    have hl1 : (t : Int) < (((arr pre.length a T).length : Nat) : Int) := by rw [arr_len]; omega
    have hl2 : (pre.length : Int) < (((arr pre.length a T).length : Nat) : Int) := by rw [arr_len]; omega
    have hg := getD_range hTr (by omega) (t - (pre.length + 1))
    have hw : IntKind.i64.wrap (T.getD (t - (pre.length + 1)) 0 + 1) = T.getD (t - (pre.length + 1)) 0 + 1 := wrap_id (by omega) (by omega)
    refine Ev3.succ ?_
    have htn : (e.2).toNat = t := by rw [ht]; rfl
    have a1 := arr_at pre.length t a T hge
    have a2 := arr_here pre.length a T
    unfold depE at hk
    rw [htn] at hk
    by_cases hlt : a < T.getD (t - (pre.length + 1)) 0 + 1
    · rw [if_pos hlt] at hk
      have := ih (epre ++ [e]) (at_step he) (T.getD (t - (pre.length + 1)) 0 + 1) (by omega) (by omega) hk
      simp only [spec_l3Deep.l1_eq, mach_len, at_lt hp, mach_at hp, st_f1, edges_len, at_lt he, edges_at he, edge_f1, ht, hl1, hl2, a1, a2, hw, hlt, arr_set, at_next he (by omega), nat_int, nn, toInt_sc, decide_true, if_true, htn]
      exact this
    · rw [if_neg hlt] at hk
      have := ih (epre ++ [e]) (at_step he) a ha0 ha1 hk
      simp only [spec_l3Deep.l1_eq, mach_len, at_lt hp, mach_at hp, st_f1, edges_len, at_lt he, edges_at he, edge_f1, ht, hl1, hl2, a1, a2, hw, hlt, at_next he (by omega), nat_int, nn, toInt_sc, decide_true, decide_false, if_true, if_false, Bool.false_eq_true, htn]
      exact this
theorem deep_l0 (m : List St) (hm : MachB m) (hne : 0 < m.length) (hok : stsOk m.length 0 m = true) : ∀ (k : Nat) (pre rest : List St), pre.length = k → m = pre ++ rest →
    Ev2 (fun N n => spec_l3Deep.l0 N n (machP m) ((k : Int) - 1) ((List.replicate k (0 : Int) ++ depL k rest).map intP)) [intP ((depL 0 m).getD 0 0)] := by
  have hn := hm.n
  intro k
  induction k with
  | zero =>
    intro pre rest hk hp
    obtain rfl : pre = [] := List.eq_nil_of_length_eq_zero hk
    rw [List.nil_append] at hp
    subst hp
    refine Ev2.succ ?_
    have h0 : ¬ (0 : Int) ≤ ((0 : Nat) : Int) - 1 := by omega
    have hl : (0 : Int) < ((((List.replicate 0 (0 : Int) ++ depL 0 m).map intP).length : Nat) : Int) := by simp [depL_len]; omega
    have he : ((PV.list ((List.replicate 0 (0 : Int) ++ depL 0 m).map intP)).elem 0).toInt = (depL 0 m).getD 0 0 := by
      have h2 := ints_elem (List.replicate 0 (0 : Int) ++ depL 0 m) 0
      simp only [intsP] at h2
      rw [h2]; simp
    simp only [spec_l3Deep.l0_eq, h0, hl, he, decide_false, if_true, if_false, Bool.false_eq_true, Int.le_refl]
    exact Ev2.now _
  | succ k ih =>
    intro pre rest hk hp
    obtain ⟨pre', s, rfl⟩ : ∃ pre' s, pre = pre' ++ [s] := by
      rcases List.eq_nil_or_concat pre with rfl | ⟨a, b, rfl⟩
      · simp at hk
      · exact ⟨a, b, by simp⟩
    have hk' : pre'.length = k := by simpa using hk
    subst hk'
    have hp' : m = pre' ++ s :: rest := by rw [hp]; simp
    have hso : stOk m.length pre'.length s = true := by
      have h := hok
      rw [hp', stsOk_app, ← hp'] at h
      simp only [stsOk, Bool.and_eq_true, Nat.zero_add] at h
      exact h.2.1
    have heo : edgesOk m.length pre'.length none s.2 = true := by
      simp only [stOk, Bool.and_eq_true] at hso
      exact hso.1
    have hes := fun e he => (edgesOk_to heo e he).2
    have hr := depL_range rest (pre'.length + 1)
    have hlm : m.length = pre'.length + 1 + rest.length := by rw [hp']; simp; omega
    have hw : IntKind.i64.wrap ((pre'.length : Int) - 1) = (pre'.length : Int) - 1 := wrap_id (by omega) (by omega)
    have hih := ih pre' (s :: rest) rfl hp'
    refine Ev2.succ ?_
    have h0 : (0 : Int) ≤ (((pre'.length + 1 : Nat)) : Int) - 1 := by omega
    have h1 : (((pre'.length + 1 : Nat)) : Int) - 1 = (pre'.length : Int) := by omega
    simp only [spec_l3Deep.l0_eq, h0, h1, arr_zero, decide_true, if_true, nn]
    refine Ev3.start (deep_l1 m hm hp' (depL (pre'.length + 1) rest) (depL_len _ _) (fun x hx => by have := hr x hx; omega) _ hes s.2 [] rfl 0 (Int.le_refl _) (by omega) ?_)
    rw [hw]
    exact hih
theorem deep_ev (m : List St) (hm : MachB m) (hne : 0 < m.length) (hok : stsOk m.length 0 m = true) : Ev (fun N => spec_l3Deep.f N [machP m]) [intP ((depL 0 m).getD 0 0)] := by
  have hn := hm.n
  have c1 : m.length ≤ 35184372088832 := by omega
  have hw : IntKind.i64.wrap ((m.length : Int) - 1) = (m.length : Int) - 1 := wrap_id (by omega) (by omega)
  have h := (deep_l0 m hm hne hok m.length m [] rfl (by simp)).diag
  have e : (List.replicate m.length (0 : Int) ++ depL m.length []).map intP = List.replicate m.length (intP 0) := by simp [depL]
  rw [e] at h
  simp only [spec_l3Deep.f_eq, mach_len, c1, hw, stk, Int.reduceEq, Nat.reduceEqDiff, Int.reduceLE, Int.reduceLT]
  exact h
theorem specIn_val (a b c : Int) (N : Nat) : spec_l1In.f N [.sc (.int .i64 a), .sc (.int .i64 b), .sc (.int .i64 c)] = some [boolP (decide (b ≤ a ∧ a ≤ c))] := by
  simp only [spec_l1In.f_eq, stk, Int.reduceEq, Nat.reduceEqDiff, Int.reduceLE, Int.reduceLT]
  by_cases h1 : b ≤ a <;> by_cases h2 : a ≤ c <;> simp only [h1, h2, stk, Int.reduceEq, Nat.reduceEqDiff, Int.reduceLE, Int.reduceLT]
def AheadE (pre : List Ed) (p : Option Int) : Prop := (pre = [] ∧ p = none) ∨ ∃ pre' q, pre = pre' ++ [q] ∧ p = some q.1
theorem specOk_l1 (m : List St) (hm : MachB m) {pre rest : List St} {s : St} (hp : m = pre ++ s :: rest) (R : Bool) (hR : stOk m.length pre.length s = true → Ev2 (fun N n => spec_MachineOk.l0 N n (machP m) ((pre ++ [s]).length : Int)) [boolP R]) :
    ∀ (es epre : List Ed) (p : Option Int), s.2 = epre ++ es → AheadE epre p → edgesOk m.length pre.length none s.2 = edgesOk m.length pre.length p es →
    Ev3 (fun N m0 n => spec_MachineOk.l1 N m0 n (machP m) (pre.length : Int) (epre.length : Int)) [boolP (edgesOk m.length pre.length p es && ((decide (pre.length = 0) || (s.1 || decide (s.2 ≠ []))) && R))] := by
  have hn := hm.n
  have hse := hm.e s (by rw [hp]; simp)
  have hlm : m.length = pre.length + 1 + rest.length := by rw [hp]; simp; omega
  intro es
  induction es with
  | nil =>
    intro epre p he _ hE
    refine Ev3.succ ?_
    have hst : (decide (pre.length = 0) || (s.1 || decide (s.2 ≠ []))) = true → stOk m.length pre.length s = true := fun h => by
      unfold stOk
      rw [hE, h]; rfl
    simp only [spec_MachineOk.l1_eq, mach_len, at_lt hp, mach_at hp, st_f0, st_f1, edges_len, at_end he, at_next hp (by omega), edgesOk, stk, Int.reduceEq, Nat.reduceEqDiff, Int.reduceLE, Int.reduceLT]
    by_cases h0 : (0 : Int) < (pre.length : Int)
    · have h0' : ¬ pre.length = 0 := by omega
      simp only [h0, h0', stk, Int.reduceEq, Nat.reduceEqDiff, Int.reduceLE, Int.reduceLT]
      cases h1 : s.1 with
      | true => simp only [stk, Int.reduceEq, Nat.reduceEqDiff, Int.reduceLE, Int.reduceLT, Bool.true_or]; exact (hR (hst (by simp [h1]))).outer
      | false =>
        by_cases h2 : s.2 = []
        · have h3 : ((s.2.length : Int) = 0) = True := eq_true (by rw [h2]; rfl)
          simp only [h2, h3, Bool.or_false, Bool.false_or, ne_eq, not_true, List.length_nil, Int.natCast_zero, stk, Int.reduceEq, Nat.reduceEqDiff, Int.reduceLE, Int.reduceLT]; exact Ev3.now _
        · have h3 : ¬ (s.2.length : Int) = 0 := by have := List.length_pos_iff.2 h2; omega
          simp only [h2, h3, Bool.false_or, ne_eq, not_false_iff, stk, Int.reduceEq, Nat.reduceEqDiff, Int.reduceLE, Int.reduceLT]; exact (hR (hst (by simp [h2]))).outer
    · have h0' : pre.length = 0 := by omega
      have h0e : (pre.length = 0) = True := eq_true h0'
      simp only [h0, h0e, Bool.true_or, stk, Int.reduceEq, Nat.reduceEqDiff, Int.reduceLE, Int.reduceLT]
      exact (hR (hst (by simp [h0']))).outer
  | cons e es ih =>
    intro epre p he ha hE
    have w1 : IntKind.i64.wrap ((pre.length : Int) + 1) = (pre.length : Int) + 1 := wrap_id (by omega) (by omega)
    have w2 : IntKind.i64.wrap ((m.length : Int) - 1) = (m.length : Int) - 1 := wrap_id (by omega) (by omega)
    have hih := ih (epre ++ [e]) (some e.1) (at_step he) (.inr ⟨epre, e, rfl, rfl⟩)
    refine Ev3.succ ?_
    rw [edgesOk] at hE ⊢
    rw [edgeOk.eq_def] at hE ⊢
    simp only [spec_MachineOk.l1_eq, mach_len, at_lt hp, mach_at hp, st_f0, st_f1, edges_len, at_lt he, edges_at he, edge_f0, edge_f1, specIn_val, w1, w2, at_next he (by omega), stk, Int.reduceEq, Nat.reduceEqDiff, Int.reduceLE, Int.reduceLT]
    by_cases c1 : 97 ≤ e.1 ∧ e.1 ≤ 122
    · by_cases c2 : (pre.length : Int) + 1 ≤ e.2 ∧ e.2 ≤ (m.length : Int) - 1
      · rcases ha with ⟨rfl, rfl⟩ | ⟨epre', q, rfl, rfl⟩
        · have h0 : ¬ (0 : Int) < ((([] : List Ed).length : Nat) : Int) := by simp
          simp only [c1, c2, and_self, decide_true, Bool.true_and] at hE
          simp only [c1, c2, h0, stk, Int.reduceEq, Nat.reduceEqDiff, Int.reduceLE, Int.reduceLT]
          exact hih hE
        · have h0 : (0 : Int) < (((epre' ++ [q]).length : Nat) : Int) := by rw [List.length_append, List.length_singleton]; omega
          obtain ⟨w3, w4⟩ := at_prevN he (by omega)
          have he' : s.2 = epre' ++ q :: (e :: es) := by rw [he]; simp
          by_cases c3 : e.1 ≤ q.1
          · have c3' : ¬ q.1 < e.1 := by omega
            simp only [c1, c2, c3, c3', h0, w3, w4, edges_at he', edge_f0, stk, Int.reduceEq, Nat.reduceEqDiff, Int.reduceLE, Int.reduceLT]
            exact Ev3.now _
          · have c3' : q.1 < e.1 := by omega
            simp only [c1, c2, c3', and_self, decide_true, Bool.true_and] at hE
            simp only [c1, c2, c3, c3', h0, w3, w4, edges_at he', edge_f0, stk, Int.reduceEq, Nat.reduceEqDiff, Int.reduceLE, Int.reduceLT]
            exact hih hE
      · simp only [c1, c2, stk, Int.reduceEq, Nat.reduceEqDiff, Int.reduceLE, Int.reduceLT]
        exact Ev3.now _
    · simp only [c1, stk, Int.reduceEq, Nat.reduceEqDiff, Int.reduceLE, Int.reduceLT]
      exact Ev3.now _
theorem specOk_l0 (m : List St) (hm : MachB m) : ∀ (rest pre : List St), m = pre ++ rest → (stsOk m.length 0 pre = true) →
    Ev2 (fun N n => spec_MachineOk.l0 N n (machP m) (pre.length : Int)) [boolP (stsOk m.length pre.length rest && (decide (1 ≤ m.length ∧ m.length ≤ 400) && decide ((depL 0 m).getD 0 0 ≤ 12)))] := by
  have hn := hm.n
  intro rest
  induction rest with
  | nil =>
    intro pre hp hok
    refine Ev2.succ ?_
    have hpm : pre = m := by rw [hp]; simp
    subst hpm
    simp only [spec_MachineOk.l0_eq, mach_len, at_end hp, specIn_val, stsOk, stk, Int.reduceEq, Nat.reduceEqDiff, Int.reduceLE, Int.reduceLT]
    by_cases h1 : 1 ≤ pre.length ∧ pre.length ≤ 400
    · have h1' : (1 : Int) ≤ (pre.length : Int) ∧ (pre.length : Int) ≤ 400 := by omega
      simp only [h1, h1', stk, Int.reduceEq, Nat.reduceEqDiff, Int.reduceLE, Int.reduceLT]
      refine Ev2.bind (deep_ev pre hm (by omega) hok) ?_
      simp only [stk, Int.reduceEq, Nat.reduceEqDiff, Int.reduceLE, Int.reduceLT]
      exact Ev2.now _
    · have h1' : ¬ ((1 : Int) ≤ (pre.length : Int) ∧ (pre.length : Int) ≤ 400) := by omega
      simp only [h1, h1', stk, Int.reduceEq, Nat.reduceEqDiff, Int.reduceLE, Int.reduceLT]
      exact Ev2.now _
  | cons s rest ih =>
    intro pre hp hok
    refine Ev2.succ ?_
    simp only [spec_MachineOk.l0_eq, mach_len, at_lt hp, stk, Int.reduceEq, Nat.reduceEqDiff, Int.reduceLE, Int.reduceLT]
    rw [stsOk, stOk]
    have := specOk_l1 m hm hp (stsOk m.length (pre.length + 1) rest && (decide (1 ≤ m.length ∧ m.length ≤ 400) && decide ((depL 0 m).getD 0 0 ≤ 12))) (fun hso => by
      have hok' : stsOk m.length 0 (pre ++ [s]) = true := by
        rw [stsOk_app, hok, Nat.zero_add]
        simp [stsOk, hso]
      have h := ih (pre ++ [s]) (at_step hp) hok'
      have hl : (pre ++ [s]).length = pre.length + 1 := by simp
      rw [hl] at h ⊢
      exact h) s.2 [] none rfl (.inl ⟨rfl, rfl⟩) rfl
    refine Ev2.ext this.start ?_
    simp only [Bool.and_assoc]
theorem specOk_ev (m : List St) (hm : MachB m) : Ev (fun N => spec_MachineOk.f N [machP m]) [boolP (okM m)] := by
  simp only [spec_MachineOk.f_eq]
  refine Ev.ext (specOk_l0 m hm m [] rfl rfl).diag ?_
  refine congrArg (fun b => [boolP b]) ?_
  unfold okM
  simp only [List.length_nil]
  rw [← Bool.and_assoc, ← Bool.and_assoc, Bool.and_comm (stsOk _ _ _)]
theorem implWithin_val (a b c : Int) (N : Nat) : impl_within.f N [.sc (.int .i64 a), .sc (.int .i64 b), .sc (.int .i64 c)] = some [boolP (decide (b ≤ a ∧ a ≤ c))] := by
  simp only [impl_within.f_eq, stk, Int.reduceEq, Nat.reduceEqDiff, Int.reduceLE, Int.reduceLT]
  by_cases h1 : b ≤ a <;> by_cases h2 : a ≤ c <;> simp only [h1, h2, stk, Int.reduceEq, Nat.reduceEqDiff, Int.reduceLE, Int.reduceLT]
def lonE (i : Nat) (T : List Int) : List Ed → Int → Int
  | [], a => a
  | e :: es, a => lonE i T es (maxI a (T.getD (e.2.toNat - (i + 1)) 0 + 1))
theorem lonE_depE (i : Nat) (T : List Int) : ∀ (es : List Ed) (a : Int), lonE i T es a = depE i T es a
  | [], a => rfl
  | e :: es, a => by
    unfold lonE depE maxI
    by_cases h : a < T.getD (e.2.toNat - (i + 1)) 0 + 1
    · simp only [gt_iff_lt, h, if_true]; exact lonE_depE i T es _
    · simp only [gt_iff_lt, h, if_false]; exact lonE_depE i T es _
theorem depE_neg (i : Nat) (T : List Int) (hT : ∀ x ∈ T, 0 ≤ x ∧ x ≤ 1048576) : ∀ (es : List Ed), es ≠ [] → depE i T es (-1) = depE i T es 0
  | [], h => absurd rfl h
  | e :: es, _ => by
    have hg := getD_range hT (by omega) (e.2.toNat - (i + 1))
    unfold depE
    rw [if_pos (by omega), if_pos (by omega)]
theorem implOk_l1 (m : List St) (hm : MachB m) {pre rest : List St} {s : St} (hp : m = pre ++ s :: rest) (T : List Int) (hT : T.length = rest.length) (hTr : ∀ x ∈ T, 0 ≤ x ∧ x ≤ 1048576) (R : Bool) (b0 : Bool) :
    ∀ (es epre : List Ed) (p : Option Int), s.2 = epre ++ es → AheadE epre p → ∀ a : Int, -1 ≤ a → a ≤ 1048577 →
    (edgesOk m.length pre.length p es = true → Ev2 (fun N n => impl_MachineOk.l0 N n (machP m) (IntKind.i64.wrap ((pre.length : Int) - 1)) (arr pre.length (lonE pre.length T es a) T)) [boolP R]) →
    Ev3 (fun N m0 n => impl_MachineOk.l1 N m0 n (machP m) (pre.length : Int) (edgesP s.2) (s.2.length : Int) (epre.length : Int) (arr pre.length a T) b0 (edgesP s.2)) [boolP (edgesOk m.length pre.length p es && R)] := by
  have hn := hm.n
  have hse := hm.e s (by rw [hp]; simp)
  have hlm : m.length = pre.length + 1 + rest.length := by rw [hp]; simp; omega
  intro es
  induction es with
  | nil =>
    intro epre p he _ a _ _ hk
    refine Ev3.succ ?_
    simp only [impl_MachineOk.l1_eq, at_end he, edgesOk, stk, Int.reduceEq, Nat.reduceEqDiff, Int.reduceLE, Int.reduceLT]
    exact (hk rfl).outer
  | cons e es ih =>
    intro epre p he ha a ha0 ha1 hk
    have w1 : IntKind.i64.wrap ((pre.length : Int) + 1) = (pre.length : Int) + 1 := wrap_id (by omega) (by omega)
    have w2 : IntKind.i64.wrap ((m.length : Int) - 1) = (m.length : Int) - 1 := wrap_id (by omega) (by omega)
    refine Ev3.succ ?_
    rw [edgesOk] at hk ⊢
    rw [edgeOk.eq_def] at hk ⊢
    by_cases c1 : 97 ≤ e.1 ∧ e.1 ≤ 122
    · by_cases c2 : (pre.length : Int) + 1 ≤ e.2 ∧ e.2 ≤ (m.length : Int) - 1
      · obtain ⟨t, ht⟩ := Int.eq_ofNat_of_zero_le (show 0 ≤ e.2 by omega)
        have hge : pre.length + 1 ≤ t := by omega
        have ht' : t < pre.length + 1 + T.length := by omega
        have hl1 : (t : Int) < (((arr pre.length a T).length : Nat) : Int) := by rw [arr_len]; omega
        have hl2 : (pre.length : Int) < (((arr pre.length a T).length : Nat) : Int) := by rw [arr_len]; omega
        have hg := getD_range hTr (by omega) (t - (pre.length + 1))
        have hw : IntKind.i64.wrap (T.getD (t - (pre.length + 1)) 0 + 1) = T.getD (t - (pre.length + 1)) 0 + 1 := wrap_id (by omega) (by omega)
        have htn : (e.2).toNat = t := by rw [ht]; rfl
        have a1 := arr_at pre.length t a T hge
        have a2 := arr_here pre.length a T
        have hmx : -1 ≤ maxI a (T.getD (t - (pre.length + 1)) 0 + 1) ∧ maxI a (T.getD (t - (pre.length + 1)) 0 + 1) ≤ 1048577 := by unfold maxI; split <;> omega
        have hih := ih (epre ++ [e]) (some e.1) (at_step he) (.inr ⟨epre, e, rfl, rfl⟩) (maxI a (T.getD (t - (pre.length + 1)) 0 + 1)) hmx.1 hmx.2
        unfold lonE at hk
        rw [htn] at hk
        have c2' := c2
        rw [ht] at c2'
        rcases ha with ⟨rfl, rfl⟩ | ⟨epre', q, rfl, rfl⟩
        · have h0 : ¬ (0 : Int) < ((([] : List Ed).length : Nat) : Int) := by simp
          simp only [c1, c2, and_self, decide_true, Bool.true_and] at hk
          simp only [impl_MachineOk.l1_eq, mach_len, edges_len, at_lt he, edges_at he, edge_f0, edge_f1, implWithin_val, w1, w2, at_next he (by omega), c1, c2, c2', h0, ht, hl1, hl2, a1, a2, hw, hg.1, arr_set, nat_int, nn, headD_one, Option.bind_some, toInt_sc, toBool_sc, decide_true, decide_false, Bool.not_true, Bool.not_false, Bool.false_eq_true, if_true, if_false, and_self, Bool.true_and]
          exact hih hk
        · have h0 : (0 : Int) < (((epre' ++ [q]).length : Nat) : Int) := by rw [List.length_append, List.length_singleton]; omega
          obtain ⟨w3, w4⟩ := at_prevN he (by omega)
          have he' : s.2 = epre' ++ q :: (e :: es) := by rw [he]; simp
          by_cases c3 : e.1 ≤ q.1
          · have c3' : ¬ q.1 < e.1 := by omega
            simp only [impl_MachineOk.l1_eq, mach_len, edges_len, at_lt he, edges_at he, edges_at he', edge_f0, edge_f1, implWithin_val, w1, w2, w3, w4, c1, c2, c2', c3, c3', h0, nat_int, nn, headD_one, Option.bind_some, toInt_sc, toBool_sc, decide_true, decide_false, Bool.not_true, Bool.not_false, Bool.false_eq_true, Bool.true_eq_false, if_true, if_false, and_self, Bool.true_and, Bool.false_and, Bool.and_false]
            exact Ev3.now _
          · have c3' : q.1 < e.1 := by omega
            simp only [c1, c2, c3', and_self, decide_true, Bool.true_and] at hk
            simp only [impl_MachineOk.l1_eq, mach_len, edges_len, at_lt he, edges_at he, edges_at he', edge_f0, edge_f1, implWithin_val, w1, w2, w3, w4, at_next he (by omega), c1, c2, c2', c3, c3', h0, ht, hl1, hl2, a1, a2, hw, hg.1, arr_set, nat_int, nn, headD_one, Option.bind_some, toInt_sc, toBool_sc, decide_true, decide_false, Bool.not_true, Bool.not_false, Bool.false_eq_true, if_true, if_false, and_self, Bool.true_and]
            exact hih hk
      · rcases ha with ⟨rfl, rfl⟩ | ⟨epre', q, rfl, rfl⟩
        · have h0 : ¬ (0 : Int) < ((([] : List Ed).length : Nat) : Int) := by simp
          simp only [impl_MachineOk.l1_eq, mach_len, edges_len, at_lt he, edges_at he, edge_f0, edge_f1, implWithin_val, w1, w2, c1, c2, h0, stk, Int.reduceEq, Nat.reduceEqDiff, Int.reduceLE, Int.reduceLT]
          exact Ev3.now _
        · have h0 : (0 : Int) < (((epre' ++ [q]).length : Nat) : Int) := by rw [List.length_append, List.length_singleton]; omega
          obtain ⟨w3, w4⟩ := at_prevN he (by omega)
          have he' : s.2 = epre' ++ q :: (e :: es) := by rw [he]; simp
          by_cases c3 : e.1 ≤ q.1
          · simp only [impl_MachineOk.l1_eq, mach_len, edges_len, at_lt he, edges_at he, edges_at he', edge_f0, edge_f1, implWithin_val, w1, w2, w3, w4, c1, c2, c3, h0, stk, Int.reduceEq, Nat.reduceEqDiff, Int.reduceLE, Int.reduceLT]
            exact Ev3.now _
          · simp only [impl_MachineOk.l1_eq, mach_len, edges_len, at_lt he, edges_at he, edges_at he', edge_f0, edge_f1, implWithin_val, w1, w2, w3, w4, c1, c2, c3, h0, stk, Int.reduceEq, Nat.reduceEqDiff, Int.reduceLE, Int.reduceLT]
            exact Ev3.now _
    · simp only [impl_MachineOk.l1_eq, mach_len, edges_len, at_lt he, edges_at he, edge_f0, edge_f1, implWithin_val, c1, stk, Int.reduceEq, Nat.reduceEqDiff, Int.reduceLE, Int.reduceLT]
      exact Ev3.now _
theorem implOk_l0 (m : List St) (hm : MachB m) (hne : 0 < m.length) : ∀ (k : Nat) (pre rest : List St) (h0 : Int), pre.length = k → m = pre ++ rest → stsOk m.length k rest = true →
    (k = 0 → (h0 ≤ 12 ↔ (depL 0 m).getD 0 0 ≤ 12)) → ∀ T : List Int, T.length = rest.length → (0 < k → T = depL k rest) → (k = 0 → T.getD 0 0 = h0) →
    Ev2 (fun N n => impl_MachineOk.l0 N n (machP m) ((k : Int) - 1) ((List.replicate k (0 : Int) ++ T).map intP)) [boolP (stsOk m.length 0 pre && decide ((depL 0 m).getD 0 0 ≤ 12))] := by
  have hn := hm.n
  intro k
  induction k with
  | zero =>
    intro pre rest hd hk hp hok hiff T hTl _ hTd
    obtain rfl : pre = [] := List.eq_nil_of_length_eq_zero hk
    rw [List.nil_append] at hp
    subst hp
    refine Ev2.succ ?_
    have h0 : ¬ (0 : Int) ≤ ((0 : Nat) : Int) - 1 := by omega
    have hl : (0 : Int) < ((((List.replicate 0 (0 : Int) ++ T).map intP).length : Nat) : Int) := by simp; omega
    have he : ((PV.list ((List.replicate 0 (0 : Int) ++ T).map intP)).elem 0).toInt = hd := by
      have h2 := ints_elem (List.replicate 0 (0 : Int) ++ T) 0
      simp only [intsP] at h2
      rw [h2, ← hTd rfl]; simp
    have hdec : decide (hd ≤ 12) = decide ((depL 0 m).getD 0 0 ≤ 12) := decide_eq_decide.2 (hiff rfl)
    simp only [impl_MachineOk.l0_eq, h0, hl, he, hdec, stsOk, Bool.true_and, decide_false, if_true, if_false, Bool.false_eq_true, Int.le_refl]
    exact Ev2.now _
  | succ k ih =>
    intro pre rest hd hk hp hok hiff T hTl hTe hTd
    obtain ⟨pre', s, rfl⟩ : ∃ pre' s, pre = pre' ++ [s] := by
      rcases List.eq_nil_or_concat pre with rfl | ⟨a, b, rfl⟩
      · simp at hk
      · exact ⟨a, b, by simp⟩
    have hk' : pre'.length = k := by simpa using hk
    subst hk'
    obtain rfl := hTe (by omega)
    have hp' : m = pre' ++ s :: rest := by rw [hp]; simp
    have hr := depL_range rest (pre'.length + 1)
    have hlm : m.length = pre'.length + 1 + rest.length := by rw [hp']; simp; omega
    have hTr : ∀ x ∈ depL (pre'.length + 1) rest, 0 ≤ x ∧ x ≤ 1048576 := fun x hx => by have := hr x hx; omega
    have hw : IntKind.i64.wrap ((pre'.length : Int) - 1) = (pre'.length : Int) - 1 := wrap_id (by omega) (by omega)
    have hw2 : IntKind.i64.wrap (((pre'.length + 1 : Nat) : Int) - 1) = (pre'.length : Int) := nat_wrap (by omega) (by omega)
    have e1 : stsOk m.length 0 (pre' ++ [s]) = (stsOk m.length 0 pre' && stOk m.length pre'.length s) := by
      rw [stsOk_app, Nat.zero_add]; simp [stsOk]
    rw [e1]
    refine Ev2.succ ?_
    have h0 : (0 : Int) ≤ (((pre'.length + 1 : Nat)) : Int) - 1 := by omega
    have h1 : (((pre'.length + 1 : Nat)) : Int) - 1 = (pre'.length : Int) := by omega
    have hlen0 : (pre'.length : Int) < ((arr pre'.length 0 (depL (pre'.length + 1) rest)).length : Int) := by rw [arr_len]; omega
    have hlen1 : (pre'.length : Int) < ((arr pre'.length (-1) (depL (pre'.length + 1) rest)).length : Int) := by rw [arr_len]; omega
    have hempty : ((s.2.length : Int) = 0) = (s.2 = []) := by
      apply propext; constructor
      · intro h; exact List.eq_nil_of_length_eq_zero (by omega)
      · intro h; rw [h]; rfl
    have hcont : ∀ a : Int, (a = 0 ∨ a = -1) → (0 < pre'.length → a = 0 ∨ s.2 ≠ []) → stOk m.length pre'.length s = true →
        Ev2 (fun N n => impl_MachineOk.l0 N n (machP m) (IntKind.i64.wrap ((pre'.length : Int) - 1)) (arr pre'.length (lonE pre'.length (depL (pre'.length + 1) rest) s.2 a) (depL (pre'.length + 1) rest))) [boolP (stsOk m.length 0 pre' && decide ((depL 0 m).getD 0 0 ≤ 12))] := by
      intro a ha hpos hso
      rw [hw, lonE_depE]
      have heq : (0 < pre'.length ∨ s.2 ≠ [] ∨ a = 0) → depE pre'.length (depL (pre'.length + 1) rest) s.2 a = depE pre'.length (depL (pre'.length + 1) rest) s.2 0 := by
        intro h
        rcases ha with rfl | rfl
        · rfl
        · refine depE_neg _ _ hTr _ ?_
          rcases h with h | h | h
          · rcases hpos h with h | h
            · omega
            · exact h
          · exact h
          · omega
      have hih := ih pre' (s :: rest) (depE pre'.length (depL (pre'.length + 1) rest) s.2 a) rfl hp' (by rw [stsOk, hso, hok]; rfl) (fun hz => by
        have hpe : pre' = [] := List.eq_nil_of_length_eq_zero hz
        subst hpe
        rw [List.nil_append] at hp'
        rw [hp']
        show depE 0 (depL 1 rest) s.2 a ≤ 12 ↔ depE 0 (depL 1 rest) s.2 0 ≤ 12
        by_cases hs2 : s.2 = []
        · rw [hs2]; unfold depE; omega
        · rw [show depE 0 (depL 1 rest) s.2 a = depE 0 (depL 1 rest) s.2 0 from heq (.inr (.inl hs2))])
        (depE pre'.length (depL (pre'.length + 1) rest) s.2 a :: depL (pre'.length + 1) rest) (by simp [depL_len]) (fun hz => by rw [heq (.inl hz)]; rfl) (fun _ => rfl)
      exact hih
    have hl1 : ∀ a : Int, (a = 0 ∨ a = -1) → (0 < pre'.length → a = 0 ∨ s.2 ≠ []) → (decide (pre'.length = 0) || (s.1 || decide (s.2 ≠ []))) = true → ∀ b0, Ev2 (fun N n => impl_MachineOk.l1 N n N (machP m) (pre'.length : Int) (edgesP s.2) (s.2.length : Int) 0 (arr pre'.length a (depL (pre'.length + 1) rest)) b0 (edgesP s.2)) [boolP (stsOk m.length 0 pre' && stOk m.length pre'.length s && decide ((depL 0 m).getD 0 0 ≤ 12))] := by
      intro a ha hpos hcond b0
      have h := implOk_l1 m hm hp' (depL (pre'.length + 1) rest) (depL_len _ _) hTr (stsOk m.length 0 pre' && decide ((depL 0 m).getD 0 0 ≤ 12)) b0 s.2 [] none rfl (.inl ⟨rfl, rfl⟩) a (by omega) (by omega) (fun heo => hcont a ha hpos (by unfold stOk; rw [heo, hcond]; rfl))
      refine Ev2.ext h.start ?_
      refine congrArg (fun b => [boolP b]) ?_
      unfold stOk
      rw [hcond, Bool.and_true]
      cases edgesOk m.length pre'.length none s.2 <;> cases stsOk m.length 0 pre' <;> simp
    simp only [impl_MachineOk.l0_eq, h0, h1, arr_zero, mach_len, at_lt hp', mach_at hp', st_f0, st_f1, edges_len, hempty, hlen0, hlen1, arr_set, nat_int, nn, toBool_sc, decide_true, decide_false, Bool.not_true, Bool.not_false, Bool.false_eq_true, if_true, if_false, decide_eq_true_eq]
    cases hs1 : s.1 with
    | true =>
      have h := hl1 0 (.inl rfl) (fun _ => .inl rfl) (by simp [hs1]) true
      by_cases hz : (0 : Int) < (pre'.length : Int)
      · simp only [hz, Bool.not_true, Bool.false_eq_true, if_true, if_false, hlen1, arr_set]
        exact h
      · simp only [hz, Bool.not_true, Bool.false_eq_true, if_true, if_false, hlen1, arr_set]
        exact h
    | false =>
      by_cases hs2 : s.2 = []
      · by_cases hz : (0 : Int) < (pre'.length : Int)
        · have hf : stOk m.length pre'.length s = false := by
            have : ¬ pre'.length = 0 := by omega
            unfold stOk; simp [hs1, hs2, this]
          simp only [hz, hs2, hf, Bool.not_false, Bool.and_false, Bool.false_and, if_true, if_false]
          exact Ev2.now _
        · have hz0 : pre'.length = 0 := by omega
          have h := hl1 (-1) (.inr rfl) (fun h => absurd h (by omega)) (by simp [hz0]) false
          simp only [hz, Bool.not_false, Bool.false_eq_true, if_true, if_false]
          exact h
      · have h := hl1 (-1) (.inr rfl) (fun _ => .inr hs2) (by simp [hs2]) false
        by_cases hz : (0 : Int) < (pre'.length : Int)
        · simp only [hz, hs2, Bool.not_false, Bool.false_eq_true, if_true, if_false]
          exact h
        · simp only [hz, Bool.not_false, Bool.false_eq_true, if_true, if_false]
          exact h
theorem implOk_ev (m : List St) (hm : MachB m) : Ev (fun N => impl_MachineOk.f N [machP m]) [boolP (okM m)] := by
  have hn := hm.n
  simp only [impl_MachineOk.f_eq, mach_len, implWithin_val, stk, Int.reduceEq, Nat.reduceEqDiff, Int.reduceLE, Int.reduceLT]
  unfold okM
  by_cases h1 : 1 ≤ m.length ∧ m.length ≤ 400
  · have h1' : (1 : Int) ≤ (m.length : Int) ∧ (m.length : Int) ≤ 400 := by omega
    have c1 : m.length ≤ 35184372088832 := by omega
    have hw : IntKind.i64.wrap ((m.length : Int) - 1) = (m.length : Int) - 1 := wrap_id (by omega) (by omega)
    have h := (implOk_l0 m hm (by omega) m.length m [] 0 rfl (by simp) rfl (fun h => absurd h (by omega)) [] rfl (fun _ => rfl) (fun h => absurd h (by omega))).diag
    have e : (List.replicate m.length (0 : Int) ++ []).map intP = List.replicate m.length (intP 0) := by simp
    rw [e] at h
    simp only [h1, h1', c1, hw, stk, Int.reduceEq, Nat.reduceEqDiff, Int.reduceLE, Int.reduceLT]
    exact h
  · have h1' : ¬ ((1 : Int) ≤ (m.length : Int) ∧ (m.length : Int) ≤ 400) := by omega
    simp only [h1, h1', stk, Int.reduceEq, Nat.reduceEqDiff, Int.reduceLE, Int.reduceLT]
    exact Ev.now _
theorem split_at {α : Type} (m : List α) (j : Nat) (h : j < m.length) : ∃ pre s rest, m = pre ++ s :: rest ∧ pre.length = j :=
  ⟨m.take j, m[j], m.drop (j + 1), by simp, by simp; omega⟩
def txt (l : List Int) : ByteArray := ⟨(l.map fun x => UInt8.ofNat x.toNat).toArray⟩
theorem u8_low {c : Int} (h : 97 ≤ c ∧ c ≤ 122) : IntKind.u8.wrap c = c := by
  have : IntKind.u8.wrap c = c % 256 := by simp [IntKind.wrap, IntKind.signed, IntKind.bits]
  rw [this]; omega
theorem txt_size (l : List Int) : (txt l).size = l.length := by simp [txt, ByteArray.size]
theorem okM_sts {m : List St} (h : okM m = true) : 1 ≤ m.length ∧ m.length ≤ 400 ∧ stsOk m.length 0 m = true ∧ (depL 0 m).getD 0 0 ≤ 12 := by
  simp only [okM, Bool.and_eq_true, decide_eq_true_eq] at h
  exact ⟨h.1.1, h.1.2, h.2.1, h.2.2⟩
theorem byte_wrap {c : Int} (h : 0 ≤ c ∧ c ≤ 255) : IntKind.i64.wrap c = c := wrap_id (by omega) (by omega)
theorem bytesOf_rng {s : ByteArray} : ∀ c ∈ bytesOf s, 0 ≤ c ∧ c ≤ 255 := fun c hc => by
  unfold bytesOf at hc
  obtain ⟨b, _, rfl⟩ := List.mem_map.1 hc
  have := b.toNat_lt
  omega
abbrev u8P (n : Int) : PV := .sc (.int .u8 n)
theorem bytesOfL_app (a b : List PV) : bytesOfL (a ++ b) = bytesOfL a ++ bytesOfL b := by
  simp only [bytesOfL, List.map_append]
  apply ByteArray.ext
  simp [ByteArray.data_append]
theorem bytesOfL_size (l : List PV) : (bytesOfL l).size = l.length := by simp [bytesOfL, ByteArray.size]
def numL (n : Int) : List PV := if n < 128 then [u8P (IntKind.u8.wrap n)] else [u8P (IntKind.u8.wrap (IntKind.i64.wrap (Int.tmod n 128 + 128))), u8P (IntKind.u8.wrap (IntKind.i64.wrap (Int.tdiv n 128)))]
theorem numL_len (n : Int) : 1 ≤ (numL n).length ∧ (numL n).length ≤ 2 := by unfold numL; split <;> simp
def cntS (s : St) : Int := if s.1 = true then IntKind.i64.wrap (IntKind.i64.wrap (2 * (s.2.length : Int)) + 1) else IntKind.i64.wrap (2 * (s.2.length : Int))
def putE (i : Nat) : List Ed → List PV
  | [] => []
  | e :: es => (u8P (IntKind.u8.wrap e.1) :: numL (IntKind.i64.wrap (e.2 - (i : Int)))) ++ putE i es
def mputL (i : Nat) : List St → List PV
  | [] => []
  | s :: r => numL (cntS s) ++ (putE i s.2 ++ mputL (i + 1) r)
theorem specBytes_val (n : Int) (N : Nat) : spec_l12Bytes.f N [intP n] = some [strP (bytesOfL (numL n))] := by
  simp only [spec_l12Bytes.f_eq, numL, stk, Int.reduceEq, Nat.reduceEqDiff, Int.reduceLE, Int.reduceLT]
  by_cases h : n < 128 <;> simp only [h, stk, Int.reduceEq, Nat.reduceEqDiff, Int.reduceLE, Int.reduceLT]
theorem specPut_l1 (m : List St) (hm : MachB m) {pre rest : List St} {s : St} (hp : m = pre ++ s :: rest) (R : ByteArray) :
    ∀ (es epre : List Ed) (L : List PV), s.2 = epre ++ es → L.length ≤ 8000000 * pre.length + 10 + 3 * epre.length →
    (∀ L', L' = L ++ putE pre.length es → L'.length ≤ 8000000 * (pre.length + 1) + 8 → Ev2 (fun N n => spec_l12Put.l0 N n (machP m) (bytesOfL L') ((pre ++ [s]).length : Int)) [strP R]) →
    Ev3 (fun N m0 n => spec_l12Put.l1 N m0 n (machP m) (bytesOfL L) (pre.length : Int) (epre.length : Int)) [strP R] := by
  have hn := hm.n
  have hse := hm.e s (by rw [hp]; simp)
  have hlm : m.length = pre.length + 1 + rest.length := by rw [hp]; simp; omega
  intro es
  induction es with
  | nil =>
    intro epre L he hL hk
    have hel : epre.length = s.2.length := by rw [he]; simp
    refine Ev3.succ ?_
    simp only [spec_l12Put.l1_eq, mach_len, at_lt hp, mach_at hp, st_f1, edges_len, at_end he, at_next hp (by omega), stk, Int.reduceEq, Nat.reduceEqDiff, Int.reduceLE, Int.reduceLT]
    exact (hk L (by simp [putE]) (by omega)).outer
  | cons e es ih =>
    intro epre L he hL hk
    have hle : epre.length < s.2.length := at_ltN he
    have hnl := numL_len (IntKind.i64.wrap (e.2 - (pre.length : Int)))
    have c1 : (bytesOfL L).size + (bytesOfL [u8P (IntKind.u8.wrap e.1)]).size ≤ 9223372036854775807 := by rw [bytesOfL_size, bytesOfL_size]; simp; omega
    have c2 : (bytesOfL L ++ bytesOfL [u8P (IntKind.u8.wrap e.1)]).size + (bytesOfL (numL (IntKind.i64.wrap (e.2 - (pre.length : Int))))).size ≤ 9223372036854775807 := by
      rw [ByteArray.size_append, bytesOfL_size, bytesOfL_size, bytesOfL_size]; simp; omega
    have e1 : bytesOfL L ++ bytesOfL [u8P (IntKind.u8.wrap e.1)] ++ bytesOfL (numL (IntKind.i64.wrap (e.2 - (pre.length : Int)))) = bytesOfL (L ++ u8P (IntKind.u8.wrap e.1) :: numL (IntKind.i64.wrap (e.2 - (pre.length : Int)))) := by
      rw [← bytesOfL_app, ← bytesOfL_app]; simp
    have hih := ih (epre ++ [e]) (L ++ u8P (IntKind.u8.wrap e.1) :: numL (IntKind.i64.wrap (e.2 - (pre.length : Int)))) (at_step he) (by simp; omega) (fun L' hL' hb => hk L' (by rw [hL', putE]; simp) hb)
    refine Ev3.succ ?_
    simp only [spec_l12Put.l1_eq, mach_len, at_lt hp, mach_at hp, st_f1, edges_len, at_lt he, edges_at he, edge_f0, edge_f1, specBytes_val, at_next he (by omega), c1, c2, e1, stk, Int.reduceEq, Nat.reduceEqDiff, Int.reduceLE, Int.reduceLT]
    exact hih
theorem specPut_l0 (m : List St) (hm : MachB m) : ∀ (rest pre : List St) (L : List PV), m = pre ++ rest → L.length ≤ 8000000 * pre.length + 8 →
    Ev2 (fun N n => spec_l12Put.l0 N n (machP m) (bytesOfL L) (pre.length : Int)) [strP (bytesOfL (L ++ mputL pre.length rest))] := by
  have hn := hm.n
  intro rest
  induction rest with
  | nil =>
    intro pre L hp hL
    refine Ev2.succ ?_
    simp only [spec_l12Put.l0_eq, mach_len, at_end hp, mputL, List.append_nil, stk, Int.reduceEq, Nat.reduceEqDiff, Int.reduceLE, Int.reduceLT]
    exact Ev2.now _
  | cons s rest ih =>
    intro pre L hp hL
    have hle : pre.length < m.length := at_ltN hp
    have hnl := numL_len (cntS s)
    have c1 : (bytesOfL L).size + (bytesOfL (numL (cntS s))).size ≤ 9223372036854775807 := by rw [bytesOfL_size, bytesOfL_size]; omega
    have hl : (pre ++ [s]).length = pre.length + 1 := by simp
    have h1 := (specPut_l1 m hm hp (bytesOfL (L ++ mputL pre.length (s :: rest))) s.2 [] (L ++ numL (cntS s)) rfl (by rw [List.length_append, List.length_nil]; omega) (fun L' hL' hb => by
      have h := ih (pre ++ [s]) L' (at_step hp) (by rw [hl]; omega)
      have e : L' ++ mputL (pre ++ [s]).length rest = L ++ mputL pre.length (s :: rest) := by rw [hl, hL', mputL]; simp
      rw [e] at h
      exact h)).start
    rw [bytesOfL_app] at h1
    refine Ev2.succ ?_
    simp only [spec_l12Put.l0_eq, mach_len, at_lt hp, mach_at hp, st_f0, st_f1, edges_len, specBytes_val, stk, Int.reduceEq, Nat.reduceEqDiff, Int.reduceLE, Int.reduceLT]
    unfold cntS at c1 h1
    by_cases hs1 : s.1 = true
    · rw [if_pos hs1] at c1 h1
      simp only [hs1, c1, stk, Int.reduceEq, Nat.reduceEqDiff, Int.reduceLE, Int.reduceLT]
      exact h1
    · rw [if_neg hs1] at c1 h1
      simp only [hs1, c1, stk, Int.reduceEq, Nat.reduceEqDiff, Int.reduceLE, Int.reduceLT]
      exact h1
def putM (m : List St) : List PV := numL (m.length : Int) ++ mputL 0 m
theorem specPut_ev (m : List St) (hm : MachB m) : Ev (fun N => spec_l12Put.f N [machP m]) [strP (bytesOfL (putM m))] := by
  have hnl := numL_len (m.length : Int)
  simp only [spec_l12Put.f_eq, mach_len, specBytes_val, stk, Int.reduceEq, Nat.reduceEqDiff, Int.reduceLE, Int.reduceLT]
  exact (specPut_l0 m hm m [] (numL (m.length : Int)) rfl (by rw [List.length_nil]; omega)).diag
theorem implNum_val (L : List PV) (n : Int) (hL : L.length ≤ 140737488355000) (N : Nat) : impl_putNumber.f N [PV.list L, intP n] = some [PV.list (L ++ numL n)] := by
  have c1 : L.length + 1 ≤ 140737488355328 := by omega
  have c2 : L.length + 2 ≤ 140737488355328 := by omega
  simp only [impl_putNumber.f_eq, numL, List.length_cons, List.length_nil, Nat.zero_add, Nat.reduceAdd, stk, Int.reduceEq, Nat.reduceEqDiff, Int.reduceLE, Int.reduceLT]
  by_cases h : n < 128 <;> simp only [h, c1, c2, stk, Int.reduceEq, Nat.reduceEqDiff, Int.reduceLE, Int.reduceLT]
theorem implPut_l1 (m : List St) (hm : MachB m) {pre rest : List St} {s : St} (hp : m = pre ++ s :: rest) (R : ByteArray) :
    ∀ (es epre : List Ed) (L : List PV), s.2 = epre ++ es → L.length ≤ 8000000 * pre.length + 10 + 3 * epre.length →
    (∀ L', L' = L ++ putE pre.length es → L'.length ≤ 8000000 * (pre.length + 1) + 8 → Ev2 (fun N n => impl_MachinePut.l0 N n (machP m) (m.length : Int) ((pre ++ [s]).length : Int) (PV.list L')) [strP R]) →
    Ev3 (fun N m0 n => impl_MachinePut.l1 N m0 n (pre.length : Int) (machP m) (m.length : Int) (pre.length : Int) (edgesP s.2) (s.2.length : Int) (epre.length : Int) (PV.list L)) [strP R] := by
  have hn := hm.n
  have hse := hm.e s (by rw [hp]; simp)
  have hlm : m.length = pre.length + 1 + rest.length := by rw [hp]; simp; omega
  intro es
  induction es with
  | nil =>
    intro epre L he hL hk
    have hel : epre.length = s.2.length := by rw [he]; simp
    refine Ev3.succ ?_
    simp only [impl_MachinePut.l1_eq, at_end he, at_next hp (by omega), stk, Int.reduceEq, Nat.reduceEqDiff, Int.reduceLE, Int.reduceLT]
    exact (hk L (by simp [putE]) (by omega)).outer
  | cons e es ih =>
    intro epre L he hL hk
    have hle : epre.length < s.2.length := at_ltN he
    have hnl := numL_len (IntKind.i64.wrap (e.2 - (pre.length : Int)))
    have c1 : L.length + 1 ≤ 140737488355328 := by omega
    have e1 : (L ++ [u8P (IntKind.u8.wrap e.1)]) ++ numL (IntKind.i64.wrap (e.2 - (pre.length : Int))) = L ++ u8P (IntKind.u8.wrap e.1) :: numL (IntKind.i64.wrap (e.2 - (pre.length : Int))) := by simp
    have hih := ih (epre ++ [e]) (L ++ u8P (IntKind.u8.wrap e.1) :: numL (IntKind.i64.wrap (e.2 - (pre.length : Int)))) (at_step he) (by simp; omega) (fun L' hL' hb => hk L' (by rw [hL', putE]; simp) hb)
    have hnv := implNum_val (L ++ [u8P (IntKind.u8.wrap e.1)]) (IntKind.i64.wrap (e.2 - (pre.length : Int))) (by simp; omega)
    refine Ev3.succ ?_
    simp only [impl_MachinePut.l1_eq, edges_len, at_lt he, edges_at he, edge_f0, edge_f1, hnv, at_next he (by omega), c1, e1, stk, Int.reduceEq, Nat.reduceEqDiff, Int.reduceLE, Int.reduceLT]
    exact hih
theorem implPut_l0 (m : List St) (hm : MachB m) : ∀ (rest pre : List St) (L : List PV), m = pre ++ rest → L.length ≤ 8000000 * pre.length + 8 →
    Ev2 (fun N n => impl_MachinePut.l0 N n (machP m) (m.length : Int) (pre.length : Int) (PV.list L)) [strP (if 4000 < (L ++ mputL pre.length rest).length then ⟨#[]⟩ else bytesOfL (L ++ mputL pre.length rest))] := by
  have hn := hm.n
  intro rest
  induction rest with
  | nil =>
    intro pre L hp hL
    refine Ev2.succ ?_
    simp only [impl_MachinePut.l0_eq, mach_len, at_end hp, mputL, List.append_nil, stk, Int.reduceEq, Nat.reduceEqDiff, Int.reduceLE, Int.reduceLT]
    by_cases h : 4000 < L.length
    · have h' : (4000 : Int) < (L.length : Int) := by omega
      simp only [h, h', stk, Int.reduceEq, Nat.reduceEqDiff, Int.reduceLE, Int.reduceLT]; exact Ev2.now _
    · have h' : ¬ (4000 : Int) < (L.length : Int) := by omega
      simp only [h, h', stk, Int.reduceEq, Nat.reduceEqDiff, Int.reduceLE, Int.reduceLT]; exact Ev2.now _
  | cons s rest ih =>
    intro pre L hp hL
    have hle : pre.length < m.length := at_ltN hp
    have hnl := numL_len (cntS s)
    have hl : (pre ++ [s]).length = pre.length + 1 := by simp
    have h1 := (implPut_l1 m hm hp (if 4000 < (L ++ mputL pre.length (s :: rest)).length then ⟨#[]⟩ else bytesOfL (L ++ mputL pre.length (s :: rest))) s.2 [] (L ++ numL (cntS s)) rfl (by rw [List.length_append, List.length_nil]; omega) (fun L' hL' hb => by
      have h := ih (pre ++ [s]) L' (at_step hp) (by rw [hl]; omega)
      have e : L' ++ mputL (pre ++ [s]).length rest = L ++ mputL pre.length (s :: rest) := by rw [hl, hL', mputL]; simp
      rw [e] at h
      exact h)).start
    refine Ev2.succ ?_
    have hnv := fun n => implNum_val L n (by omega)
    simp only [impl_MachinePut.l0_eq, mach_len, at_lt hp, mach_at hp, st_f0, st_f1, edges_len, hnv, stk, Int.reduceEq, Nat.reduceEqDiff, Int.reduceLE, Int.reduceLT]
    unfold cntS at h1
    by_cases hs1 : s.1 = true
    · rw [if_pos hs1] at h1
      simp only [hs1, stk, Int.reduceEq, Nat.reduceEqDiff, Int.reduceLE, Int.reduceLT]
      exact h1
    · rw [if_neg hs1] at h1
      simp only [hs1, stk, Int.reduceEq, Nat.reduceEqDiff, Int.reduceLE, Int.reduceLT]
      exact h1
def putT (m : List St) : ByteArray := if okM m = true then (if 4000 < (putM m).length then ⟨#[]⟩ else bytesOfL (putM m)) else ⟨#[]⟩
theorem implPut_ev (m : List St) (hm : MachB m) : Ev (fun N => impl_MachinePut.f N [machP m]) [strP (putT m)] := by
  have hnl := numL_len (m.length : Int)
  simp only [impl_MachinePut.f_eq]
  refine Ev.bind (implOk_ev m hm) ?_
  unfold putT
  cases okM m with
  | false => simp only [stk, Int.reduceEq, Nat.reduceEqDiff, Int.reduceLE, Int.reduceLT]; exact Ev.now _
  | true =>
    have hnv := implNum_val [] (m.length : Int) (by simp)
    simp only [mach_len, hnv, List.nil_append, stk, Int.reduceEq, Nat.reduceEqDiff, Int.reduceLE, Int.reduceLT]
    exact (implPut_l0 m hm m [] (numL (m.length : Int)) rfl (by rw [List.length_nil]; omega)).diag
theorem specMPut_ev (m : List St) (hm : MachB m) : Ev (fun N => spec_MachinePut.f N [machP m]) [strP (putT m)] := by
  simp only [spec_MachinePut.f_eq]
  refine Ev.bind (specOk_ev m hm) ?_
  unfold putT
  cases okM m with
  | false => simp only [stk, Int.reduceEq, Nat.reduceEqDiff, Int.reduceLE, Int.reduceLT]; exact Ev.now _
  | true =>
    simp only [stk, Int.reduceEq, Nat.reduceEqDiff, Int.reduceLE, Int.reduceLT]
    refine Ev.bind (specPut_ev m hm) ?_
    by_cases h : 4000 < (putM m).length
    · have h' : (4000 : Int) < (((bytesOfL (putM m)).size : Nat) : Int) := by rw [bytesOfL_size]; omega
      simp only [h, h', stk, Int.reduceEq, Nat.reduceEqDiff, Int.reduceLE, Int.reduceLT]; exact Ev.now _
    · have h' : ¬ (4000 : Int) < (((bytesOfL (putM m)).size : Nat) : Int) := by rw [bytesOfL_size]; omega
      simp only [h, h', stk, Int.reduceEq, Nat.reduceEqDiff, Int.reduceLE, Int.reduceLT]; exact Ev.now _
def isB (l : List Int) : Prop := ∀ c ∈ l, 0 ≤ c ∧ c ≤ 255
theorem isB_tail {c : Int} {l : List Int} (h : isB (c :: l)) : isB l := fun x hx => h x (by simp [hx])
def rdB (st : List Int × Bool) : Int × (List Int × Bool) := match st.1 with
  | [] => (0, ([], true))
  | c :: r => (c, (r, st.2))
def rdN (st : List Int × Bool) : Int × (List Int × Bool) :=
  if 128 ≤ (rdB st).1 then ((rdB st).1 + 128 * (rdB (rdB st).2).1 - 128, (rdB (rdB st).2).2) else ((rdB st).1, (rdB st).2)
def rdE (k : Int) : Nat → List Int × Bool → List Ed × (List Int × Bool)
  | 0, st => ([], st)
  | c + 1, st => if st.2 = true then ([], st) else (((rdB st).1, k + (rdN (rdB st).2).1) :: (rdE k c (rdN (rdB st).2).2).1, (rdE k c (rdN (rdB st).2).2).2)
def rdS : Nat → Nat → List Int × Bool → List St × (List Int × Bool)
  | _, 0, st => ([], st)
  | k, c + 1, st => if st.2 = true then ([], st) else if 400 ≤ k then ([], st) else
    ((decide ((rdN st).1 % 2 = 1), (rdE k ((rdN st).1 / 2).toNat (rdN st).2).1) :: (rdS (k + 1) c (rdE k ((rdN st).1 / 2).toNat (rdN st).2).2).1, (rdS (k + 1) c (rdE k ((rdN st).1 / 2).toNat (rdN st).2).2).2)
def Suf (s : ByteArray) (l : List Int) : Prop := ∃ pre, bytesOf s = pre ++ l
theorem Suf.isB {s : ByteArray} {l : List Int} (h : Suf s l) : isB l := by
  obtain ⟨pre, h⟩ := h
  exact fun c hc => bytesOf_rng c (by rw [h]; simp [hc])
theorem rdB_suf {s : ByteArray} {st : List Int × Bool} (h : Suf s st.1) : Suf s (rdB st).2.1 ∧ 0 ≤ (rdB st).1 ∧ (rdB st).1 ≤ 255 := by
  obtain ⟨l, b⟩ := st
  cases l with
  | nil => exact ⟨h, by simp [rdB], by simp [rdB]⟩
  | cons c r =>
    have hb := h.isB c (by simp)
    obtain ⟨pre, h⟩ := h
    exact ⟨⟨pre ++ [c], by simp [rdB, h]⟩, hb⟩
theorem rdN_suf {s : ByteArray} {st : List Int × Bool} (h : Suf s st.1) : Suf s (rdN st).2.1 ∧ 0 ≤ (rdN st).1 ∧ (rdN st).1 ≤ 32895 := by
  obtain ⟨h1, h2, h3⟩ := rdB_suf h
  unfold rdN
  split
  · obtain ⟨h4, h5, h6⟩ := rdB_suf h1
    exact ⟨h4, by simp only []; omega, by simp only []; omega⟩
  · exact ⟨h1, h2, by simp only []; omega⟩
theorem rdE_suf {s : ByteArray} (k : Int) : ∀ (c : Nat) {st : List Int × Bool}, Suf s st.1 → Suf s (rdE k c st).2.1 ∧ (rdE k c st).1.length ≤ c
  | 0, st, h => ⟨h, by simp [rdE]⟩
  | c + 1, st, h => by
    unfold rdE
    split
    · exact ⟨h, by simp⟩
    · have := rdE_suf k c (rdN_suf (rdB_suf h).1).1
      exact ⟨this.1, by simp only [List.length_cons]; omega⟩
def scP (s : ByteArray) (st : List Int × Bool) : PV := .agg [strP s, intP ((s.size : Int) - (st.1.length : Int)), boolP st.2]
theorem scP_f0 (s : ByteArray) (st : List Int × Bool) : (scP s st).fld 0 = strP s := rfl
theorem scP_f1 (s : ByteArray) (st : List Int × Bool) : (scP s st).fld 1 = intP ((s.size : Int) - (st.1.length : Int)) := rfl
theorem scP_f2 (s : ByteArray) (st : List Int × Bool) : (scP s st).fld 2 = boolP st.2 := rfl
theorem scP_agg (s : ByteArray) (st : List Int × Bool) : PV.agg [PV.sc (.string s), PV.sc (.int .i64 ((s.size : Int) - (st.1.length : Int))), PV.sc (.bool st.2)] = scP s st := rfl
theorem byte_val (s : ByteArray) (hs : s.size ≤ 1048576) (st : List Int × Bool) (h : Suf s st.1) (N : Nat) : impl_scanner_byte.f N [scP s st] = some [intP (rdB st).1, scP s (rdB st).2] := by
  obtain ⟨l, b⟩ := st
  obtain ⟨pre, hp⟩ := h
  have hl : pre.length + l.length = s.size := by rw [← bytesOf_len, hp]; simp
  simp only [impl_scanner_byte.f_eq, scP_f0, scP_f1, scP_f2, stk, Int.reduceEq, Nat.reduceEqDiff, Int.reduceLE, Int.reduceLT]
  cases l with
  | nil =>
    have z : (s.size : Int) ≤ (s.size : Int) - ((([] : List Int).length : Nat) : Int) := by simp
    simp only [z, stk, Int.reduceEq, Nat.reduceEqDiff, Int.reduceLE, Int.reduceLT] <;> rfl
  | cons c r =>
    simp only [List.length_cons] at hl
    have z : ¬ (s.size : Int) ≤ (s.size : Int) - (((c :: r).length : Nat) : Int) := by simp only [List.length_cons]; omega
    have hc := bytesOf_rng c (by rw [hp]; simp)
    have w1 : IntKind.i64.wrap ((s.size : Int) - (((c :: r).length : Nat) : Int) + 1) = (pre.length : Int) + 1 := by rw [wrap_id] <;> simp only [List.length_cons] <;> omega
    have w2 : IntKind.i64.wrap ((pre.length : Int) + 1 - 1) = (pre.length : Int) := by rw [wrap_id] <;> omega
    have w3 : (pre.length : Int) + 1 = (s.size : Int) - (r.length : Int) := by omega
    have w4 := byte_wrap hc
    simp only [z, w1, w2, at_size hp, nat_int, get_bt, at_bt hp, w4, stk, Int.reduceEq, Nat.reduceEqDiff, Int.reduceLE, Int.reduceLT]
    rw [w3]; rfl
theorem number_val (s : ByteArray) (hs : s.size ≤ 1048576) (st : List Int × Bool) (h : Suf s st.1) (N : Nat) : impl_scanner_number.f N [scP s st] = some [intP (rdN st).1, scP s (rdN st).2] := by
  obtain ⟨h1, h2, h3⟩ := rdB_suf h
  obtain ⟨h4, h5, h6⟩ := rdB_suf h1
  unfold rdN
  simp only [impl_scanner_number.f_eq, scP_f0, scP_f1, scP_f2, scP_agg, toStr_sc, toInt_sc, toBool_sc, byte_val s hs st h, Option.bind_some, headD_one, List.tail_cons]
  by_cases hb : 128 ≤ (rdB st).1
  · have w1 : IntKind.i64.wrap (128 * (rdB (rdB st).2).1) = 128 * (rdB (rdB st).2).1 := wrap_id (by omega) (by omega)
    have w2 : IntKind.i64.wrap (128 * (rdB (rdB st).2).1 - 128) = 128 * (rdB (rdB st).2).1 - 128 := wrap_id (by omega) (by omega)
    have w3 : IntKind.i64.wrap ((rdB st).1 + (128 * (rdB (rdB st).2).1 - 128)) = (rdB st).1 + 128 * (rdB (rdB st).2).1 - 128 := by rw [wrap_id] <;> omega
    simp only [hb, byte_val s hs _ h1, w1, w2, w3, scP_f0, scP_f1, scP_f2, scP_agg, stk, Int.reduceEq, Nat.reduceEqDiff, Int.reduceLE, Int.reduceLT, headD_one, List.tail_cons]
  · simp only [hb, scP_f0, scP_f1, scP_f2, scP_agg, stk, Int.reduceEq, Nat.reduceEqDiff, Int.reduceLE, Int.reduceLT, headD_one, List.tail_cons]
def finM (s : ByteArray) (m : List St) (bad : Bool) : List St × Bool := if bad = false ∧ s ≠ ⟨#[]⟩ ∧ putT m = s then (m, true) else ([], false)
def getM (s : ByteArray) : List St × Bool :=
  finM s (rdS 0 (rdN (bytesOf s, false)).1.toNat (rdN (bytesOf s, false)).2).1 (rdS 0 (rdN (bytesOf s, false)).1.toNat (rdN (bytesOf s, false)).2).2.2
theorem two_zero : ((2 : Int) = 0) = False := by simp
theorem machP_nil : machP [] = PV.list [] := rfl
theorem get_fin (s : ByteArray) (m : List St) (hm : MachB m) (bad : Bool) : Ev (fun N => if bad = false then (if decide (s.toList = (ByteArray.mk #[]).toList) = false then ((impl_MachinePut.f N [PV.list (m.map stP)]).bind fun t3 => if (!decide (((t3.headD default).toStr).toList = s.toList)) = true then (some [(PV.list []), (PV.sc (.bool false))]) else (some [(PV.list (m.map stP)), (PV.sc (.bool true))])) else (some [(PV.list []), (PV.sc (.bool false))])) else (some [(PV.list []), (PV.sc (.bool false))])) [machP (finM s m bad).1, boolP (finM s m bad).2] := by
  unfold finM
  cases bad with
  | true => simp only [machP_nil, stk, Int.reduceEq, Nat.reduceEqDiff, Int.reduceLE, Int.reduceLT]; exact Ev.now _
  | false =>
    by_cases hs : s = ⟨#[]⟩
    · simp only [hs, ne_eq, machP_nil, stk, Int.reduceEq, Nat.reduceEqDiff, Int.reduceLE, Int.reduceLT]; exact Ev.now _
    · simp only [hs, ne_eq, stk, Int.reduceEq, Nat.reduceEqDiff, Int.reduceLE, Int.reduceLT]
      have hput := implPut_ev m hm
      simp only [machP] at hput
      refine Ev.bind hput ?_
      by_cases he : putT m = s
      · simp only [he, stk, Int.reduceEq, Nat.reduceEqDiff, Int.reduceLE, Int.reduceLT]; exact Ev.now _
      · simp only [he, machP_nil, stk, Int.reduceEq, Nat.reduceEqDiff, Int.reduceLE, Int.reduceLT]; exact Ev.now _
theorem get_l1 (s : ByteArray) (hs : s.size ≤ 1048576) (many : Int) (k : Nat) (hk : k < 400) (n : Int) (hn : 0 ≤ n ∧ n ≤ 32895) (m : List St) (hm : m.length ≤ 400) (ends : Bool) (R : List PV) :
    ∀ (c : Nat) (st : List Int × Bool) (es : List Ed), Suf s st.1 → es.length + c = (n / 2).toNat →
    (Ev2 (fun N j => impl_MachineGet.l0 N j s many ((k : Int) + 1) s ((s.size : Int) - ((rdE k c st).2.1.length : Int)) (rdE k c st).2.2 ((m ++ [(ends, es ++ (rdE k c st).1)]).map stP)) R) →
    Ev3 (fun N m0 j => impl_MachineGet.l1 N m0 j s many (k : Int) n (es.length : Int) s ((s.size : Int) - (st.1.length : Int)) st.2 (m.map stP) ends (es.map edgeP)) R := by
  have hdiv : IntKind.i64.wrap (Int.tdiv n 2) = n / 2 := by
    rw [Int.tdiv_eq_ediv_of_nonneg hn.1]; exact wrap_id (by omega) (by omega)
  have wk : IntKind.i64.wrap ((k : Int) + 1) = (k : Int) + 1 := wrap_id (by omega) (by omega)
  have done : ∀ (st : List Int × Bool) (es : List Ed), (Ev2 (fun N j => impl_MachineGet.l0 N j s many ((k : Int) + 1) s ((s.size : Int) - (st.1.length : Int)) st.2 ((m ++ [(ends, es)]).map stP)) R) →
      Ev3 (fun N m0 j => impl_MachineGet.l0 N m0 s many ((k : Int) + 1) s ((s.size : Int) - (st.1.length : Int)) st.2 (m.map stP ++ [stP (ends, es)])) R := fun st es h => by
    have := h.outer
    simpa using this
  intro c
  induction c with
  | zero =>
    intro st es hsuf hc hR
    refine Ev3.succ ?_
    have z : ¬ (es.length : Int) < n / 2 := by omega
    have c1 : (m.map stP).length + 1 ≤ 4398046511104 := by simp; omega
    have e1 : PV.agg [PV.sc (.bool ends), PV.list (es.map edgeP)] = stP (ends, es) := rfl
    simp only [impl_MachineGet.l1_eq, two_zero, hdiv, z, e1, c1, wk, stk, Int.reduceEq, Nat.reduceEqDiff, Int.reduceLE, Int.reduceLT]
    simp only [rdE, List.append_nil] at hR
    exact done st es hR
  | succ c ih =>
    intro st es hsuf hc hR
    refine Ev3.succ ?_
    have z : (es.length : Int) < n / 2 := by omega
    have c1 : (m.map stP).length + 1 ≤ 4398046511104 := by simp; omega
    have e1 : PV.agg [PV.sc (.bool ends), PV.list (es.map edgeP)] = stP (ends, es) := rfl
    rw [rdE] at hR
    by_cases hb : st.2 = true
    · rw [if_pos hb] at hR
      simp only [List.append_nil] at hR
      simp only [impl_MachineGet.l1_eq, two_zero, hdiv, z, hb, e1, c1, wk, stk, Int.reduceEq, Nat.reduceEqDiff, Int.reduceLE, Int.reduceLT]
      have := done st es hR
      rw [hb] at this
      exact this
    · have hb' : st.2 = false := by simpa using hb
      rw [if_neg hb] at hR
      obtain ⟨g1, g2, g3⟩ := rdB_suf hsuf
      obtain ⟨g4, g5, g6⟩ := rdN_suf g1
      have wt : IntKind.i64.wrap ((k : Int) + (rdN (rdB st).2).1) = (k : Int) + (rdN (rdB st).2).1 := wrap_id (by omega) (by omega)
      have wj : IntKind.i64.wrap ((es.length : Int) + 1) = ((es ++ [((rdB st).1, (k : Int) + (rdN (rdB st).2).1)]).length : Int) := by rw [wrap_id (by omega) (by omega)]; simp
      have c2 : (es.map edgeP).length + 1 ≤ 8796093022208 := by simp; omega
      have e2 : es.map edgeP ++ [edgeP ((rdB st).1, (k : Int) + (rdN (rdB st).2).1)] = (es ++ [((rdB st).1, (k : Int) + (rdN (rdB st).2).1)]).map edgeP := by simp
      have e3 : PV.agg [PV.sc (.int .i64 (rdB st).1), PV.sc (.int .i64 ((k : Int) + (rdN (rdB st).2).1))] = edgeP ((rdB st).1, (k : Int) + (rdN (rdB st).2).1) := rfl
      have hsc : PV.agg [PV.sc (.string s), PV.sc (.int .i64 ((s.size : Int) - (st.1.length : Int))), PV.sc (.bool false)] = scP s st := by rw [← hb']; rfl
      have hih := ih (rdN (rdB st).2).2 (es ++ [((rdB st).1, (k : Int) + (rdN (rdB st).2).1)]) g4 (by simp; omega) (by simpa using hR)
      simp only [impl_MachineGet.l1_eq, two_zero, hdiv, z, hb', Bool.not_false, if_true, if_false, decide_true, hsc, byte_val s hs st hsuf, number_val s hs _ g1, Option.bind_some, headD_one, List.tail_cons, toInt_sc, toStr_sc, toBool_sc, scP_f0, scP_f1, scP_f2, scP_agg, wt, wj, e3, List.length_singleton, c2, e2]
      exact hih
theorem get_l0 (s : ByteArray) (hs : s.size ≤ 1048576) (many : Int) (hmany : 0 ≤ many ∧ many ≤ 32895) : ∀ (c : Nat) (k : Nat) (st : List Int × Bool) (m : List St), Suf s st.1 → k + c = many.toNat → k ≤ 400 → MachB m → m.length ≤ k →
    Ev2 (fun N j => impl_MachineGet.l0 N j s many (k : Int) s ((s.size : Int) - (st.1.length : Int)) st.2 (m.map stP)) [machP (finM s (m ++ (rdS k c st).1) (rdS k c st).2.2).1, boolP (finM s (m ++ (rdS k c st).1) (rdS k c st).2.2).2] := by
  intro c
  induction c with
  | zero =>
    intro k st m hsuf hc hk hm hml
    refine Ev2.succ ?_
    have z : ¬ (k : Int) < many := by omega
    simp only [impl_MachineGet.l0_eq, z, rdS, List.append_nil, decide_false, Bool.false_eq_true, if_false]
    exact (get_fin s m hm st.2).up
  | succ c ih =>
    intro k st m hsuf hc hk hm hml
    refine Ev2.succ ?_
    have z : (k : Int) < many := by omega
    rw [rdS]
    by_cases hb : st.2 = true
    · rw [if_pos hb]
      have hf := get_fin s m hm st.2
      rw [hb] at hf
      simp only [impl_MachineGet.l0_eq, z, hb, List.append_nil, Bool.not_true, Bool.false_eq_true, if_false, decide_true, if_true]
      exact hf.up
    · have hb' : st.2 = false := by simpa using hb
      rw [if_neg hb]
      by_cases hk4 : 400 ≤ k
      · rw [if_pos hk4]
        have z4 : ¬ (k : Int) < 400 := by omega
        have hf := get_fin s m hm st.2
        rw [hb'] at hf
        simp only [impl_MachineGet.l0_eq, z, z4, hb', List.append_nil, Bool.not_false, Bool.false_eq_true, decide_false, if_false, decide_true, if_true]
        exact hf.up
      · rw [if_neg hk4]
        have z4 : (k : Int) < 400 := by omega
        obtain ⟨g1, g2, g3⟩ := rdN_suf hsuf
        have g4 := rdE_suf k ((rdN st).1 / 2).toNat g1
        have hmod : Int.tmod (rdN st).1 2 = (rdN st).1 % 2 := Int.tmod_eq_emod_of_nonneg g2
        have hsc : PV.agg [PV.sc (.string s), PV.sc (.int .i64 ((s.size : Int) - (st.1.length : Int))), PV.sc (.bool false)] = scP s st := by rw [← hb']; rfl
        have hm' : MachB (m ++ [(decide ((rdN st).1 % 2 = 1), (rdE k ((rdN st).1 / 2).toNat (rdN st).2).1)]) := ⟨by simp; omega, fun t ht => by
          rcases List.mem_append.1 ht with ht | ht
          · exact hm.e t ht
          · simp at ht; subst ht; simp only []; omega⟩
        have hih := ih (k + 1) (rdE k ((rdN st).1 / 2).toNat (rdN st).2).2 (m ++ [(decide ((rdN st).1 % 2 = 1), (rdE k ((rdN st).1 / 2).toNat (rdN st).2).1)]) g4.1 (by omega) (by omega) hm' (by simp; omega)
        have hcast : ((k + 1 : Nat) : Int) = (k : Int) + 1 := by omega
        rw [hcast] at hih
        have hl1 := get_l1 s hs many k (by omega) (rdN st).1 ⟨g2, g3⟩ m (by omega) (decide ((rdN st).1 % 2 = 1)) _ ((rdN st).1 / 2).toNat (rdN st).2 [] g1 (by simp) (by simpa using hih)
        simp only [List.length_nil, Int.natCast_zero, List.map_nil] at hl1
        simp only [impl_MachineGet.l0_eq, z, z4, hb', hsc, two_zero, Bool.not_false, if_true, if_false, decide_true, number_val s hs st hsuf, Option.bind_some, headD_one, List.tail_cons, toInt_sc, toStr_sc, toBool_sc, scP_f0, scP_f1, scP_f2, hmod]
        refine Ev2.ext hl1.start ?_
        simp
theorem implGet_ev (s : ByteArray) (hs : s.size ≤ 1048576) : Ev (fun N => impl_MachineGet.f N [strP s]) [machP (getM s).1, boolP (getM s).2] := by
  have hsuf : Suf s (bytesOf s, false).1 := ⟨[], rfl⟩
  obtain ⟨g1, g2, g3⟩ := rdN_suf hsuf
  have hsc : PV.agg [PV.sc (.string s), PV.sc (.int .i64 0), PV.sc (.bool false)] = scP s (bytesOf s, false) := by simp [scP, bytesOf_len]
  have h := (get_l0 s hs (rdN (bytesOf s, false)).1 ⟨g2, g3⟩ (rdN (bytesOf s, false)).1.toNat 0 (rdN (bytesOf s, false)).2 [] g1 (by omega) (by omega) ⟨by simp, by simp⟩ (by simp)).diag
  simp only [impl_MachineGet.f_eq, toStr_sc, hsc, number_val s hs _ hsuf, Option.bind_some, headD_one, List.tail_cons, toInt_sc, toBool_sc, scP_f0, scP_f1, scP_f2]
  exact h
def numB (n : Int) : List Int := if n < 128 then [n] else [n % 128 + 128, n / 128]
def putEB (i : Nat) : List Ed → List Int
  | [] => []
  | e :: es => e.1 :: (numB (e.2 - (i : Int)) ++ putEB i es)
def putLB (i : Nat) : List St → List Int
  | [] => []
  | s :: r => numB (2 * (s.2.length : Int) + (if s.1 = true then 1 else 0)) ++ (putEB i s.2 ++ putLB (i + 1) r)
theorem bytesOf_ofL (L : List PV) (l : List Int) (h : L = l.map u8P) (hb : isB l) : bytesOf (bytesOfL L) = l := by
  subst h
  unfold bytesOf bytesOfL
  simp only [List.map_map]
  rw [← List.map_map, ← List.map_map]
  simp only [List.map_map, List.toList_toArray]
  conv => rhs; rw [← List.map_id l]
  refine List.map_congr_left (fun c hc => ?_)
  have := hb c hc
  simp only [Function.comp, PV.toInt, u8P, UInt8.toNat_ofNat', id]
  omega
theorem numL_B {n : Int} (h0 : 0 ≤ n) (h1 : n ≤ 32767) : numL n = (numB n).map u8P := by
  unfold numL numB
  have hm : Int.tmod n 128 = n % 128 := Int.tmod_eq_emod_of_nonneg h0
  have hd : Int.tdiv n 128 = n / 128 := Int.tdiv_eq_ediv_of_nonneg h0
  have w : ∀ c : Int, 0 ≤ c → c ≤ 255 → IntKind.u8.wrap c = c := fun c h0 h1 => by
    have : IntKind.u8.wrap c = c % 256 := by simp [IntKind.wrap, IntKind.signed, IntKind.bits]
    rw [this]; omega
  by_cases h : n < 128
  · simp only [h, if_true, List.map_cons, List.map_nil]; rw [w n h0 (by omega)]
  · simp only [h, if_false, List.map_cons, List.map_nil, hm, hd]
    rw [wrap_id (by omega) (by omega), wrap_id (by omega) (by omega), w _ (by omega) (by omega), w _ (by omega) (by omega)]
theorem numB_isB {n : Int} (h0 : 0 ≤ n) (h1 : n ≤ 32767) : isB (numB n) := by
  unfold numB isB
  split <;> intro c hc <;> simp at hc <;> omega
theorem isB_app {a b : List Int} (ha : isB a) (hb : isB b) : isB (a ++ b) := fun c hc => (List.mem_append.1 hc).elim (ha c) (hb c)
def EdB (n i : Nat) (es : List Ed) : Prop := n ≤ 400 ∧ es.length ≤ 26 ∧ ∀ e ∈ es, (97 ≤ e.1 ∧ e.1 ≤ 122) ∧ (i : Int) + 1 ≤ e.2 ∧ e.2 ≤ (n : Int) - 1
theorem edgesOk_len {n i : Nat} : ∀ {es : List Ed} {q : Int}, 96 ≤ q → q ≤ 122 → edgesOk n i (some q) es = true → q + es.length ≤ 122
  | [], _, _, h, _ => by simpa using h
  | e :: es, q, h0, h1, h => by
    simp only [edgesOk, edgeOk, Bool.and_eq_true, decide_eq_true_eq] at h
    have := edgesOk_len (n := n) (i := i) (es := es) (q := e.1) (by omega) (by omega) h.2
    simp only [List.length_cons]; omega
theorem edgesOk_len0 {n i : Nat} {es : List Ed} (h : edgesOk n i none es = true) : es.length ≤ 26 := by
  cases es with
  | nil => simp
  | cons e es =>
    simp only [edgesOk, edgeOk, Bool.and_eq_true, decide_eq_true_eq] at h
    have := edgesOk_len (n := n) (i := i) (es := es) (q := e.1) (by omega) (by omega) h.2
    simp only [List.length_cons]; omega
theorem putE_B {n i : Nat} : ∀ {es : List Ed}, EdB n i es → putE i es = (putEB i es).map u8P ∧ isB (putEB i es)
  | [], _ => ⟨rfl, by intro c hc; simp [putEB] at hc⟩
  | e :: es, ⟨h0, h1, h2⟩ => by
    obtain ⟨ha, hb⟩ := putE_B (n := n) (i := i) (es := es) ⟨h0, by simp at h1; omega, fun x hx => h2 x (by simp [hx])⟩
    obtain ⟨hc, h3, h4⟩ := h2 e (by simp)
    have w1 : IntKind.i64.wrap (e.2 - (i : Int)) = e.2 - (i : Int) := wrap_id (by omega) (by omega)
    refine ⟨?_, ?_⟩
    · rw [putE, putEB, w1, numL_B (by omega) (by omega), ha, u8_low hc]; simp
    · rw [putEB]
      intro c hc'
      rcases List.mem_cons.1 hc' with rfl | hc'
      · omega
      · exact isB_app (numB_isB (by omega) (by omega)) hb c hc'
theorem cntS_B {s : St} (h : s.2.length ≤ 26) : cntS s = 2 * (s.2.length : Int) + (if s.1 = true then 1 else 0) := by
  unfold cntS
  have w1 : IntKind.i64.wrap (2 * (s.2.length : Int)) = 2 * (s.2.length : Int) := wrap_id (by omega) (by omega)
  rw [w1]
  split
  · exact wrap_id (by omega) (by omega)
  · omega
def StsB (n : Nat) : Nat → List St → Prop
  | _, [] => True
  | i, s :: r => EdB n i s.2 ∧ StsB n (i + 1) r
theorem stsB_of {n : Nat} (hn : n ≤ 400) : ∀ {m : List St} {i : Nat}, stsOk n i m = true → StsB n i m
  | [], _, _ => trivial
  | s :: r, i, h => by
    simp only [stsOk, stOk, Bool.and_eq_true] at h
    exact ⟨⟨hn, edgesOk_len0 h.1.1, edgesOk_to h.1.1⟩, stsB_of hn h.2⟩
theorem mputL_B {n : Nat} : ∀ {m : List St} {i : Nat}, StsB n i m → mputL i m = (putLB i m).map u8P ∧ isB (putLB i m)
  | [], _, _ => ⟨rfl, by intro c hc; simp [putLB] at hc⟩
  | s :: r, i, ⟨h1, h2⟩ => by
    obtain ⟨ha, hb⟩ := mputL_B h2
    obtain ⟨hc, hd⟩ := putE_B h1
    have hl := h1.2.1
    have h0 : 0 ≤ 2 * (s.2.length : Int) + (if s.1 = true then 1 else 0) ∧ 2 * (s.2.length : Int) + (if s.1 = true then 1 else 0) ≤ 53 := by split <;> omega
    refine ⟨?_, ?_⟩
    · rw [mputL, putLB, cntS_B hl, numL_B h0.1 (by omega), ha, hc]; simp
    · rw [putLB]; exact isB_app (numB_isB h0.1 (by omega)) (isB_app hd hb)
theorem put_bytes {m : List St} (h : okM m = true) : bytesOf (bytesOfL (putM m)) = numB (m.length : Int) ++ putLB 0 m := by
  obtain ⟨h1, h2, h3, _⟩ := okM_sts h
  obtain ⟨ha, hb⟩ := mputL_B (stsB_of h2 h3)
  refine bytesOf_ofL _ _ ?_ (isB_app (numB_isB (by omega) (by omega)) hb)
  rw [putM, numL_B (by omega) (by omega), ha]; simp
theorem rdN_num {n : Int} (h0 : 0 ≤ n) (h1 : n ≤ 32767) (r : List Int) : rdN (numB n ++ r, false) = (n, (r, false)) := by
  unfold numB rdN
  by_cases h : n < 128
  · simp only [h, if_true, List.cons_append, List.nil_append, rdB]
    rw [if_neg (by omega)]
  · simp only [h, if_false, List.cons_append, List.nil_append, rdB]
    rw [if_pos (by omega)]
    congr 1; omega
theorem rdE_put {n i : Nat} : ∀ {es : List Ed}, EdB n i es → ∀ r : List Int, rdE i es.length (putEB i es ++ r, false) = (es, (r, false))
  | [], _, r => rfl
  | e :: es, ⟨h0, h1, h2⟩, r => by
    obtain ⟨hc, h3, h4⟩ := h2 e (by simp)
    have ih := rdE_put (n := n) (i := i) (es := es) ⟨h0, by simp at h1; omega, fun x hx => h2 x (by simp [hx])⟩ r
    have e1 : rdB (putEB i (e :: es) ++ r, false) = (e.1, (numB (e.2 - (i : Int)) ++ (putEB i es ++ r), false)) := by simp [putEB, rdB]
    rw [List.length_cons, rdE]
    rw [if_neg (by simp), e1]
    simp only []
    rw [rdN_num (by omega) (by omega)]
    simp only []
    rw [ih]
    simp only []
    congr 2
    ext <;> simp <;> omega
theorem rdS_put {n : Nat} (hn : n ≤ 400) : ∀ {m : List St} {i : Nat}, StsB n i m → i + m.length ≤ n → ∀ r : List Int, rdS i m.length (putLB i m ++ r, false) = (m, (r, false))
  | [], _, _, _, r => rfl
  | s :: m, i, ⟨h1, h2⟩, hi, r => by
    simp only [List.length_cons] at hi
    have ih := rdS_put hn h2 (by omega) r
    have hl := h1.2.1
    have hN : 0 ≤ 2 * (s.2.length : Int) + (if s.1 = true then 1 else 0) ∧ 2 * (s.2.length : Int) + (if s.1 = true then 1 else 0) ≤ 53 := by split <;> omega
    have e1 : rdN (putLB i (s :: m) ++ r, false) = (2 * (s.2.length : Int) + (if s.1 = true then 1 else 0), (putEB i s.2 ++ (putLB (i + 1) m ++ r), false)) := by
      rw [putLB, List.append_assoc, List.append_assoc]
      exact rdN_num hN.1 (by omega) _
    have e2 : ((2 * (s.2.length : Int) + (if s.1 = true then 1 else 0)) / 2).toNat = s.2.length := by split <;> omega
    have e3 : decide ((2 * (s.2.length : Int) + (if s.1 = true then 1 else 0)) % 2 = 1) = s.1 := by
      by_cases hs : s.1 = true
      · rw [if_pos hs, hs]; simp
      · rw [if_neg hs]; simp only [Bool.not_eq_true] at hs; rw [hs]; simp
    rw [List.length_cons, rdS, if_neg (by simp), if_neg (by omega), e1]
    simp only []
    rw [e2, e3, rdE_put h1]
    simp only []
    rw [ih]
theorem putT_some {m : List St} {s : ByteArray} (h : putT m = s) (hs : s ≠ ⟨#[]⟩) : okM m = true ∧ (putM m).length ≤ 4000 ∧ s = bytesOfL (putM m) := by
  unfold putT at h
  by_cases ho : okM m = true
  · rw [if_pos ho] at h
    by_cases hl : 4000 < (putM m).length
    · rw [if_pos hl] at h; exact absurd h.symm hs
    · rw [if_neg hl] at h; exact ⟨ho, by omega, h.symm⟩
  · rw [if_neg ho] at h; exact absurd h.symm hs
theorem putM_ne {m : List St} (h : okM m = true) : bytesOfL (putM m) ≠ ⟨#[]⟩ := fun he => by
  have := congrArg ByteArray.size he
  rw [bytesOfL_size] at this
  have h2 := numL_len (m.length : Int)
  have h3 : (putM m).length = (numL (m.length : Int)).length + (mputL 0 m).length := by simp [putM]
  have h4 : (⟨#[]⟩ : ByteArray).size = 0 := rfl
  omega
theorem getM_put {m : List St} (h : okM m = true) (hl : (putM m).length ≤ 4000) : getM (bytesOfL (putM m)) = (m, true) := by
  obtain ⟨h1, h2, h3, _⟩ := okM_sts h
  have hb := put_bytes h
  have e0 : rdN (bytesOf (bytesOfL (putM m)), false) = ((m.length : Int), (putLB 0 m, false)) := by rw [hb]; exact rdN_num (by omega) (by omega) _
  have e1 := rdS_put h2 (stsB_of h2 h3) (by omega) []
  rw [List.append_nil] at e1
  have hp : putT m = bytesOfL (putM m) := by unfold putT; rw [if_pos h, if_neg (by omega)]
  have e2 : ((m.length : Int)).toNat = m.length := by omega
  unfold getM
  rw [e0]
  simp only []
  rw [e2, e1]
  simp only []
  unfold finM
  rw [if_pos ⟨rfl, putM_ne h, hp⟩]
theorem getM_true {s : ByteArray} (h : (getM s).2 = true) : ∃ m, okM m = true ∧ (putM m).length ≤ 4000 ∧ s = bytesOfL (putM m) ∧ getM s = (m, true) := by
  unfold getM finM at h ⊢
  split at h
  · rename_i hc
    obtain ⟨h1, h2, h3⟩ := putT_some hc.2.2 hc.2.1
    rw [if_pos hc]
    exact ⟨_, h1, h2, h3, rfl⟩
  · cases h
theorem getM_false {s : ByteArray} (h : (getM s).2 = false) : getM s = ([], false) := by
  unfold getM finM at h ⊢
  split at h
  · cases h
  · rename_i hc; rw [if_neg hc]
def sNum : List Int → Int × List Int
  | [] => (-1, [])
  | [c] => if 128 ≤ c then (-1, []) else (c, [])
  | c :: d :: r => if c < 128 then (c, d :: r) else (c - 128 + 128 * d, r)
def sE (k : Int) : Nat → List Int → Option (List Ed × List Int)
  | 0, l => some ([], l)
  | c + 1, l => if l.length < 2 then none else (sE k c (sNum (l.drop 1)).2).map fun x => ((l.getD 0 0, k + (sNum (l.drop 1)).1) :: x.1, x.2)
def sS (k : Nat) : Nat → List Int → Option (List St × List Int)
  | 0, l => some ([], l)
  | c + 1, l => if (sNum l).1 < 0 then none else (sE k ((sNum l).1 / 2).toNat (sNum l).2).bind fun x => (sS (k + 1) c x.2).map fun y => ((decide ((sNum l).1 % 2 = 1), x.1) :: y.1, y.2)
theorem sNum_num {n : Int} (h0 : 0 ≤ n) (h1 : n ≤ 32767) (r : List Int) : sNum (numB n ++ r) = (n, r) := by
  unfold numB
  by_cases h : n < 128
  · simp only [h, if_true, List.cons_append, List.nil_append]
    cases r with
    | nil => rw [sNum, if_neg (by omega)]
    | cons d r => rw [sNum, if_pos h]
  · simp only [h, if_false, List.cons_append, List.nil_append, sNum]
    rw [if_neg (by omega)]
    congr 1; omega
theorem sE_put {n i : Nat} : ∀ {es : List Ed}, EdB n i es → ∀ r : List Int, sE i es.length (putEB i es ++ r) = some (es, r)
  | [], _, r => rfl
  | e :: es, ⟨h0, h1, h2⟩, r => by
    obtain ⟨hc, h3, h4⟩ := h2 e (by simp)
    have ih := sE_put (n := n) (i := i) (es := es) ⟨h0, by simp at h1; omega, fun x hx => h2 x (by simp [hx])⟩ r
    have hlen : ¬ (putEB i (e :: es) ++ r).length < 2 := by
      have : 1 ≤ (numB (e.2 - (i : Int))).length := by unfold numB; split <;> simp
      simp [putEB]; omega
    have hd : (putEB i (e :: es) ++ r).drop 1 = numB (e.2 - (i : Int)) ++ (putEB i es ++ r) := by simp [putEB]
    have h00 : (putEB i (e :: es) ++ r).getD 0 0 = e.1 := by simp [putEB]
    rw [List.length_cons, sE, if_neg hlen, hd, sNum_num (by omega) (by omega), h00]
    simp only []
    rw [ih]
    simp only [Option.map_some]
    congr 3
    ext <;> simp <;> omega
theorem sS_put {n : Nat} (hn : n ≤ 400) : ∀ {m : List St} {i : Nat}, StsB n i m → ∀ r : List Int, sS i m.length (putLB i m ++ r) = some (m, r)
  | [], _, _, r => rfl
  | s :: m, i, ⟨h1, h2⟩, r => by
    have ih := sS_put hn h2 r
    have hl := h1.2.1
    have hN : 0 ≤ 2 * (s.2.length : Int) + (if s.1 = true then 1 else 0) ∧ 2 * (s.2.length : Int) + (if s.1 = true then 1 else 0) ≤ 53 := by split <;> omega
    have e1 : sNum (putLB i (s :: m) ++ r) = (2 * (s.2.length : Int) + (if s.1 = true then 1 else 0), putEB i s.2 ++ (putLB (i + 1) m ++ r)) := by
      rw [putLB, List.append_assoc, List.append_assoc]
      exact sNum_num hN.1 (by omega) _
    have e2 : ((2 * (s.2.length : Int) + (if s.1 = true then 1 else 0)) / 2).toNat = s.2.length := by split <;> omega
    have e3 : decide ((2 * (s.2.length : Int) + (if s.1 = true then 1 else 0)) % 2 = 1) = s.1 := by
      by_cases hs : s.1 = true
      · rw [if_pos hs, hs]; simp
      · rw [if_neg hs]; simp only [Bool.not_eq_true] at hs; rw [hs]; simp
    rw [List.length_cons, sS, e1]
    simp only []
    rw [if_neg (by omega), e2, e3, sE_put h1]
    simp only [Option.bind_some]
    rw [ih]
    rfl
def sFin (s : ByteArray) (x : Option (List St × List Int)) : List St × Bool := match x with
  | some (m, []) => if okM m = true ∧ bytesOfL (putM m) = s then (m, true) else ([], false)
  | _ => ([], false)
def sGet (s : ByteArray) : List St × Bool :=
  if 4000 < s.size then ([], false) else if 1 ≤ (sNum (bytesOf s)).1 ∧ (sNum (bytesOf s)).1 ≤ 400 then sFin s (sS 0 (sNum (bytesOf s)).1.toNat (sNum (bytesOf s)).2) else ([], false)
theorem sGet_eq (s : ByteArray) : sGet s = getM s := by
  cases hg : (getM s).2 with
  | true =>
    obtain ⟨m, h1, h2, h3, h4⟩ := getM_true hg
    obtain ⟨k1, k2, k3, _⟩ := okM_sts h1
    rw [h4, h3]
    have e0 : sNum (bytesOf (bytesOfL (putM m))) = ((m.length : Int), putLB 0 m) := by rw [put_bytes h1]; exact sNum_num (by omega) (by omega) _
    have e1 := sS_put k2 (stsB_of k2 k3) []
    rw [List.append_nil] at e1
    have e2 : ((m.length : Int)).toNat = m.length := by omega
    unfold sGet
    rw [bytesOfL_size, if_neg (by omega), e0]
    simp only []
    rw [if_pos (by omega), e2, e1]
    simp only [sFin]
    rw [if_pos ⟨h1, trivial⟩]
  | false =>
    rw [getM_false hg]
    unfold sGet
    split
    · rfl
    · rename_i hsz
      split
      · rename_i hn
        unfold sFin
        split
        · rename_i m _
          split
          · rename_i hc
            have := getM_put hc.1 (by have h := hc.2; have := congrArg ByteArray.size h; rw [bytesOfL_size] at this; omega)
            rw [hc.2] at this
            rw [this] at hg; cases hg
          · rfl
        · rfl
      · rfl
theorem txt_bytes {l : List Int} (h : isB l) : bytesOf (txt l) = l := by
  unfold bytesOf txt
  simp only [List.toList_toArray, List.map_map]
  conv => rhs; rw [← List.map_id l]
  refine List.map_congr_left (fun c hc => ?_)
  have := h c hc
  simp only [Function.comp, UInt8.toNat_ofNat', id]
  omega
theorem bytes_txt (s : ByteArray) : txt (bytesOf s) = s := bytesOf_inj (txt_bytes bytesOf_rng)
theorem txt_bt {l : List Int} (h : isB l) (i : Nat) : bt (txt l) i = l.getD i 0 := by rw [bt_bytes, txt_bytes h]
theorem txt_drop {l : List Int} (h : isB l) (k : Nat) : (txt l).extract k (txt l).size = txt (l.drop k) := by
  apply bytesOf_inj
  rw [txt_bytes (fun c hc => h c (List.drop_subset _ _ hc))]
  rw [txt_size]
  have : bytesOf ((txt l).extract k l.length) = ((bytesOf (txt l)).drop k).take (l.length - k) := by
    unfold bytesOf
    rw [ByteArray.data_extract]
    simp [List.map_take, List.map_drop, List.take_drop]
  rw [this, txt_bytes h]
  exact List.take_of_length_le (by simp)
theorem isB_drop {l : List Int} (h : isB l) (k : Nat) : isB (l.drop k) := fun c hc => h c (List.drop_subset _ _ hc)
theorem sNum_B {l : List Int} (h : isB l) : isB (sNum l).2 ∧ -1 ≤ (sNum l).1 ∧ (sNum l).1 ≤ 32895 := by
  match l, h with
  | [], h => exact ⟨h, by simp [sNum], by simp [sNum]⟩
  | [c], h =>
    have hc := h c (by simp)
    rw [sNum]
    split
    · exact ⟨fun x hx => by simp at hx, by simp only []; omega, by simp only []; omega⟩
    · exact ⟨fun x hx => by simp at hx, by simp only []; omega, by simp only []; omega⟩
  | c :: d :: r, h =>
    have hc := h c (by simp); have hd := h d (by simp)
    rw [sNum]
    split
    · exact ⟨isB_tail h, by simp only []; omega, by simp only []; omega⟩
    · exact ⟨isB_tail (isB_tail h), by simp only []; omega, by simp only []; omega⟩
theorem num_val (l : List Int) (h : isB l) (N : Nat) : spec_l12Num.f N [strP (txt l)] = some [intP (sNum l).1, strP (txt (sNum l).2)] := by
  simp only [spec_l12Num.f_eq, toStr_sc, get_bt, txt_bt h, txt_size, Int.le_refl, if_true]
  match l, h with
  | [], h => rfl
  | [c], h =>
    have hc := h c (by simp)
    have z1 : ¬ ((([c] : List Int).length : Nat) : Int) = 0 := by simp
    have z2 : (0 : Int) < ((([c] : List Int).length : Nat) : Int) := by simp
    have z3 : ((([c] : List Int).length : Nat) : Int) = 1 := by simp
    have z4 : (1 : Int) ≤ ((([c] : List Int).length : Nat) : Int) := by simp
    have e0 : ([c] : List Int).getD 0 0 = c := rfl
    have w := byte_wrap hc
    have hd := txt_drop h 1
    rw [txt_size] at hd
    simp only [z1, z2, e0, decide_false, if_true, sNum]
    by_cases hb : 128 ≤ c
    · have hb2 : ¬ c < 128 := by omega
      simp only [hb, z3, decide_true, if_true]
      rfl
    · have hb2 : c < 128 := by omega
      simp only [hb, hb2, z4, w, hd, decide_true, decide_false, if_true, if_false, Bool.false_eq_true]
      simp
  | c :: d :: r, h =>
    have hc := h c (by simp); have hdd := h d (by simp)
    have hlen : ((c :: d :: r).length : Int) = (r.length : Int) + 2 := by simp; omega
    have z1 : ¬ ((c :: d :: r).length : Int) = 0 := by omega
    have z2 : (0 : Int) < ((c :: d :: r).length : Int) := by omega
    have z3 : ¬ ((c :: d :: r).length : Int) = 1 := by omega
    have z4 : (1 : Int) ≤ ((c :: d :: r).length : Int) := by omega
    have z5 : (1 : Int) < ((c :: d :: r).length : Int) := by omega
    have z6 : (2 : Int) ≤ ((c :: d :: r).length : Int) := by omega
    have n1 : ¬ (0 : Int) = 1 := by omega
    have t0 : (0 : Int) ≤ 1 := by omega
    have t1 : (0 : Int) ≤ 2 := by omega
    have e0 : (c :: d :: r).getD 0 0 = c := rfl
    have e1 : (c :: d :: r).getD 1 0 = d := rfl
    have w := byte_wrap hc
    have w2 := byte_wrap hdd
    have hd1 := txt_drop h 1
    have hd2 := txt_drop h 2
    rw [txt_size] at hd1 hd2
    by_cases hb : c < 128
    · have hb2 : ¬ 128 ≤ c := by omega
      simp only [z1, z2, z4, e0, hb, hb2, w, hd1, t0, decide_true, decide_false, if_true, if_false, Bool.false_eq_true, sNum]
      rfl
    · have hb2 : 128 ≤ c := by omega
      have w3 : IntKind.u8.wrap (c - 128) = c - 128 := by
        have : IntKind.u8.wrap (c - 128) = (c - 128) % 256 := by simp [IntKind.wrap, IntKind.signed, IntKind.bits]
        rw [this]; omega
      have w4 : IntKind.i64.wrap (c - 128) = c - 128 := wrap_id (by omega) (by omega)
      have w5 : IntKind.i64.wrap (128 * d) = 128 * d := wrap_id (by omega) (by omega)
      have w6 : IntKind.i64.wrap (c - 128 + 128 * d) = c - 128 + 128 * d := wrap_id (by omega) (by omega)
      simp only [z1, z2, z3, z4, z5, z6, e0, e1, hb, hb2, w2, w3, w4, w5, w6, hd2, t0, t1, decide_true, decide_false, if_true, if_false, Bool.false_eq_true, sNum]
      rfl
theorem sE_B (k : Int) : ∀ (c : Nat) {l : List Int} {x : List Ed × List Int}, isB l → sE k c l = some x → isB x.2 ∧ x.1.length = c
  | 0, l, x, h, he => by simp [sE] at he; subst he; exact ⟨h, rfl⟩
  | c + 1, l, x, h, he => by
    rw [sE] at he
    split at he
    · cases he
    · cases hx : sE k c (sNum (l.drop 1)).2 with
      | none => rw [hx] at he; cases he
      | some y =>
        rw [hx] at he
        simp at he
        obtain ⟨a, b⟩ := sE_B k c (sNum_B (isB_drop h 1)).1 hx
        rw [← he]
        exact ⟨a, by simp [b]⟩
def noneM : List PV := [PV.list [], PV.sc (.bool false)]
theorem sget_l2 (s : ByteArray) (many : Int) (k : Nat) (hk : k < 400) (n : Int) (hn : 0 ≤ n ∧ n ≤ 32895) (m : List St) (hm : m.length ≤ 400) (ends : Bool) (R : List PV) :
    ∀ (c : Nat) (l : List Int) (es : List Ed), isB l → l.length ≤ 1048576 → es.length + c = (n / 2).toNat →
    (match sE k c l with
      | none => R = noneM
      | some x => Ev2 (fun N j => spec_MachineGet.l0 N j s many (txt x.2) ((k : Int) + 1) [] ((m ++ [(ends, es ++ x.1)]).map stP)) R) →
    Ev3 (fun N m0 j => spec_MachineGet.l2 N m0 j s many (k : Int) n (txt l) (es.length : Int) [] (m.map stP) ends (es.map edgeP)) R := by
  have hdiv : IntKind.i64.wrap (Int.tdiv n 2) = n / 2 := by
    rw [Int.tdiv_eq_ediv_of_nonneg hn.1]; exact wrap_id (by omega) (by omega)
  have wk : IntKind.i64.wrap ((k : Int) + 1) = (k : Int) + 1 := wrap_id (by omega) (by omega)
  intro c
  induction c with
  | zero =>
    intro l es hb hl hc hR
    refine Ev3.succ ?_
    have z : ¬ (es.length : Int) < n / 2 := by omega
    have c1 : (m.map stP).length + 1 ≤ 4398046511104 := by simp; omega
    have e1 : PV.agg [PV.sc (.bool ends), PV.list (es.map edgeP)] = stP (ends, es) := rfl
    simp only [spec_MachineGet.l2_eq, two_zero, hdiv, z, e1, c1, wk, stk, Int.reduceEq, Nat.reduceEqDiff, Int.reduceLE, Int.reduceLT]
    simp only [sE, List.append_nil] at hR
    have := hR.outer
    simpa using this
  | succ c ih =>
    intro l es hb hl hc hR
    refine Ev3.succ ?_
    have z : (es.length : Int) < n / 2 := by omega
    rw [sE] at hR
    by_cases hl2 : l.length < 2
    · rw [if_pos hl2] at hR
      have z2 : (l.length : Int) < 2 := by omega
      simp only [] at hR
      subst hR
      simp only [spec_MachineGet.l2_eq, two_zero, hdiv, z, txt_size, z2, stk, Int.reduceEq, Nat.reduceEqDiff, Int.reduceLE, Int.reduceLT]
      exact Ev3.now _
    · rw [if_neg hl2] at hR
      have z2 : ¬ (l.length : Int) < 2 := by omega
      have z3 : (1 : Int) ≤ (l.length : Int) := by omega
      have z4 : (0 : Int) < (l.length : Int) := by omega
      have t0 : (0 : Int) ≤ 1 := by omega
      obtain ⟨g1, g2, g3⟩ := sNum_B (isB_drop hb 1)
      have hd := txt_drop hb 1
      rw [txt_size] at hd
      have hc0 : 0 ≤ l.getD 0 0 ∧ l.getD 0 0 ≤ 255 := by
        cases l with
        | nil => simp at hl2
        | cons x r => exact hb x (by simp)
      have w0 := byte_wrap hc0
      have wt : IntKind.i64.wrap ((k : Int) + (sNum (l.drop 1)).1) = (k : Int) + (sNum (l.drop 1)).1 := wrap_id (by omega) (by omega)
      have wj : IntKind.i64.wrap ((es.length : Int) + 1) = ((es ++ [(l.getD 0 0, (k : Int) + (sNum (l.drop 1)).1)]).length : Int) := by rw [wrap_id (by omega) (by omega)]; simp
      have c2 : (es.map edgeP).length + 1 ≤ 8796093022208 := by simp; omega
      have e2 : es.map edgeP ++ [edgeP (l.getD 0 0, (k : Int) + (sNum (l.drop 1)).1)] = (es ++ [(l.getD 0 0, (k : Int) + (sNum (l.drop 1)).1)]).map edgeP := by simp
      have e3 : PV.agg [PV.sc (.int .i64 (l.getD 0 0)), PV.sc (.int .i64 ((k : Int) + (sNum (l.drop 1)).1))] = edgeP (l.getD 0 0, (k : Int) + (sNum (l.drop 1)).1) := rfl
      have hll : (sNum (l.drop 1)).2.length ≤ 1048576 := by
        have : ∀ q : List Int, (sNum q).2.length ≤ q.length := fun q => by
          match q with
          | [] => simp [sNum]
          | [c] => rw [sNum]; split <;> simp
          | c :: d :: r => rw [sNum]; split <;> simp <;> omega
        have h2 := this (l.drop 1)
        rw [List.length_drop] at h2; omega
      have hih := ih (sNum (l.drop 1)).2 (es ++ [(l.getD 0 0, (k : Int) + (sNum (l.drop 1)).1)]) g1 hll (by simp; omega) (by
        cases hx : sE k c (sNum (l.drop 1)).2 with
        | none => rw [hx] at hR; simpa using hR
        | some y => rw [hx] at hR; simpa using hR)
      simp only [spec_MachineGet.l2_eq, two_zero, hdiv, z, txt_size, z2, z3, z4, t0, hd, num_val _ (isB_drop hb 1), Option.bind_some, headD_one, List.tail_cons, toInt_sc, toStr_sc, get_bt, txt_bt hb, w0, wt, wj, e3, List.length_singleton, c2, e2, decide_true, decide_false, if_true, if_false, Bool.false_eq_true, Int.le_refl]
      exact hih
theorem sget_l1 (s : ByteArray) (many : Int) (k : Nat) (hk : k < 400) (n : Int) (hn : 0 ≤ n ∧ n ≤ 32895) (m : List St) (hm : m.length ≤ 400) (ends : Bool) (R : List PV) (l : List Int) (hb : isB l) (hl : l.length ≤ 1048576)
    (hR : match sE k (n / 2).toNat l with
      | none => R = noneM
      | some x => Ev2 (fun N j => spec_MachineGet.l0 N j s many (txt x.2) ((k : Int) + 1) [] ((m ++ [(ends, x.1)]).map stP)) R) :
    Ev3 (fun N m0 j => spec_MachineGet.l1 N m0 j s many (k : Int) n (txt l) 0 [] (m.map stP) ends) R := by
  have h := sget_l2 s many k hk n hn m hm ends R (n / 2).toNat l [] hb hl (by simp) (by simpa using hR)
  simp only [List.length_nil, Int.natCast_zero, List.map_nil] at h
  refine Ev3.congr (fun N m0 j => ?_) h
  cases j with
  | zero => rfl
  | succ j => rw [spec_MachineGet.l1_eq, spec_MachineGet.l2_eq]
theorem txt_nil_iff {l : List Int} : (txt l = ⟨#[]⟩) ↔ l = [] := by
  constructor
  · intro h
    have := congrArg ByteArray.size h
    rw [txt_size] at this
    exact List.eq_nil_of_length_eq_zero (this.trans rfl)
  · rintro rfl; rfl
theorem sget_l0 (s : ByteArray) (hs : s.size ≤ 4000) (many : Int) (hmany : 1 ≤ many ∧ many ≤ 400) : ∀ (c : Nat) (k : Nat) (l : List Int) (m : List St), isB l → l.length ≤ 1048576 → k + c = many.toNat → MachB m → m.length ≤ k →
    Ev2 (fun N j => spec_MachineGet.l0 N j s many (txt l) (k : Int) [] (m.map stP)) [machP (sFin s ((sS k c l).map fun x => (m ++ x.1, x.2))).1, boolP (sFin s ((sS k c l).map fun x => (m ++ x.1, x.2))).2] := by
  intro c
  induction c with
  | zero =>
    intro k l m hb hl hc hm hml
    refine Ev2.succ ?_
    have z : ¬ (k : Int) < many := by omega
    simp only [spec_MachineGet.l0_eq, z, sS, Option.map_some, List.append_nil, toList_inj, txt_nil_iff, decide_false, Bool.false_eq_true, if_false]
    cases l with
    | cons x r => simp only [sFin, machP_nil, reduceCtorEq, decide_false, Bool.not_false, Bool.true_eq_false, if_false]; exact Ev2.now _
    | nil =>
      simp only [decide_true, Bool.not_true, if_true, sFin]
      have h1 := specOk_ev m hm
      have h2 := specPut_ev m hm
      simp only [machP] at h1 h2
      refine Ev2.bind h1 ?_
      cases ho : okM m with
      | false => simp only [machP_nil, stk, Int.reduceEq, Nat.reduceEqDiff, Int.reduceLE, Int.reduceLT]; exact Ev2.now _
      | true =>
        simp only [stk, Int.reduceEq, Nat.reduceEqDiff, Int.reduceLE, Int.reduceLT]
        refine Ev2.bind h2 ?_
        by_cases he : bytesOfL (putM m) = s
        · simp only [he, machP, stk, Int.reduceEq, Nat.reduceEqDiff, Int.reduceLE, Int.reduceLT]; exact Ev2.now _
        · simp only [he, machP_nil, stk, Int.reduceEq, Nat.reduceEqDiff, Int.reduceLE, Int.reduceLT]; exact Ev2.now _
  | succ c ih =>
    intro k l m hb hl hc hm hml
    refine Ev2.succ ?_
    have z : (k : Int) < many := by omega
    obtain ⟨g1, g2, g3⟩ := sNum_B hb
    rw [sS]
    simp only [spec_MachineGet.l0_eq, z, num_val l hb, two_zero, Option.bind_some, headD_one, List.tail_cons, toInt_sc, toStr_sc, decide_true, if_true, if_false]
    by_cases hneg : (sNum l).1 < 0
    · rw [if_pos hneg]
      simp only [hneg, Option.map_none, sFin, machP_nil, decide_true, if_true]
      exact Ev2.now _
    · rw [if_neg hneg]
      have hmod : Int.tmod (sNum l).1 2 = (sNum l).1 % 2 := Int.tmod_eq_emod_of_nonneg (by omega)
      simp only [hneg, hmod, decide_false, Bool.false_eq_true, if_false]
      have hll : (sNum l).2.length ≤ 1048576 := by
        have : ∀ q : List Int, (sNum q).2.length ≤ q.length := fun q => by
          match q with
          | [] => simp [sNum]
          | [c] => rw [sNum]; split <;> simp
          | c :: d :: r => rw [sNum]; split <;> simp <;> omega
        have h2 := this l
        omega
      refine Ev3.start (sget_l1 s many k (by omega) (sNum l).1 ⟨by omega, g3⟩ m (by omega) _ _ (sNum l).2 g1 hll ?_)
      cases hx : sE k ((sNum l).1 / 2).toNat (sNum l).2 with
      | none => simp only [Option.bind_none, Option.map_none, sFin, noneM, machP_nil]
      | some x =>
        obtain ⟨b1, b2⟩ := sE_B k _ g1 hx
        have hm' : MachB (m ++ [(decide ((sNum l).1 % 2 = 1), x.1)]) := ⟨by simp; omega, fun t ht => by
          rcases List.mem_append.1 ht with ht | ht
          · exact hm.e t ht
          · simp at ht; subst ht; simp only []; omega⟩
        have hsE : ∀ (k : Int) (c : Nat) (l : List Int) (x : List Ed × List Int), sE k c l = some x → x.2.length ≤ l.length := by
          intro k c
          induction c with
          | zero => intro l x h; simp [sE] at h; subst h; exact Nat.le_refl _
          | succ c ihc =>
            intro l x h
            rw [sE] at h
            split at h
            · cases h
            · cases hy : sE k c (sNum (l.drop 1)).2 with
              | none => rw [hy] at h; cases h
              | some y =>
                rw [hy] at h
                simp at h
                have := ihc _ _ hy
                have hq : ∀ q : List Int, (sNum q).2.length ≤ q.length := fun q => by
                  match q with
                  | [] => simp [sNum]
                  | [c] => rw [sNum]; split <;> simp
                  | c :: d :: r => rw [sNum]; split <;> simp <;> omega
                have h2 := hq (l.drop 1)
                rw [← h]
                rw [List.length_drop] at h2
                simp only []; omega
        have hih := ih (k + 1) x.2 (m ++ [(decide ((sNum l).1 % 2 = 1), x.1)]) b1 (by have := hsE _ _ _ _ hx; omega) (by omega) hm' (by simp; omega)
        have hcast : ((k + 1 : Nat) : Int) = (k : Int) + 1 := by omega
        rw [hcast] at hih
        simp only [Option.bind_some]
        refine Ev2.ext hih ?_
        cases sS (k + 1) c x.2 <;> simp
theorem specGet_ev (s : ByteArray) (hs : s.size ≤ 1048576) : Ev (fun N => spec_MachineGet.f N [strP s]) [machP (getM s).1, boolP (getM s).2] := by
  rw [← sGet_eq]
  unfold sGet
  have hb : isB (bytesOf s) := bytesOf_rng
  have hnum := fun N => num_val (bytesOf s) hb N
  simp only [bytes_txt] at hnum
  obtain ⟨g1, g2, g3⟩ := sNum_B hb
  simp only [spec_MachineGet.f_eq, toStr_sc, hnum, Option.bind_some, headD_one, List.tail_cons, toInt_sc]
  by_cases h4 : 4000 < s.size
  · have h4' : (4000 : Int) < (s.size : Int) := by omega
    rw [if_pos h4]
    simp only [h4', machP_nil, decide_true, Bool.true_eq_false, if_false]
    exact Ev.now _
  · have h4' : ¬ (4000 : Int) < (s.size : Int) := by omega
    rw [if_neg h4]
    simp only [h4', specIn_val, decide_false, if_true, Option.bind_some, headD_one, toBool_sc]
    by_cases hn : 1 ≤ (sNum (bytesOf s)).1 ∧ (sNum (bytesOf s)).1 ≤ 400
    · rw [if_pos hn]
      simp only [hn, and_self, decide_true, Bool.not_true, Bool.false_eq_true, if_false]
      have hll : (sNum (bytesOf s)).2.length ≤ (bytesOf s).length := by
        generalize bytesOf s = q
        match q with
        | [] => simp [sNum]
        | [c] => rw [sNum]; split <;> simp
        | c :: d :: r => rw [sNum]; split <;> simp <;> omega
      rw [bytesOf_len] at hll
      have h := (sget_l0 s (by omega) (sNum (bytesOf s)).1 hn (sNum (bytesOf s)).1.toNat 0 (sNum (bytesOf s)).2 [] g1 (by omega) (by omega) ⟨by simp, by simp⟩ (by simp)).diag
      simp only [List.nil_append, Int.natCast_zero, List.map_nil] at h
      refine Ev.ext h ?_
      cases sS 0 (sNum (bytesOf s)).1.toNat (sNum (bytesOf s)).2 <;> simp
    · rw [if_neg hn]
      simp only [hn, machP_nil, decide_false, Bool.not_false, if_true]
      exact Ev.now _
theorem getM_B (s : ByteArray) : MachB (getM s).1 := by
  cases hg : (getM s).2 with
  | true =>
    obtain ⟨m, h1, h2, h3, h4⟩ := getM_true hg
    obtain ⟨k1, k2, k3, _⟩ := okM_sts h1
    rw [h4]
    refine ⟨by simp only []; omega, fun t ht => ?_⟩
    have : ∀ (n : Nat) (l : List St) (i : Nat), StsB n i l → ∀ t ∈ l, t.2.length ≤ 26 := by
      intro n l
      induction l with
      | nil => intro i _ t ht; simp at ht
      | cons a l ih =>
        intro i h t ht
        rcases List.mem_cons.1 ht with rfl | ht
        · exact h.1.2.1
        · exact ih _ h.2 t ht
    have := this _ _ _ (stsB_of k2 k3) t ht
    omega
  | false => rw [getM_false hg]; exact ⟨by simp, by simp⟩
theorem ptru {p : Prop} (h : p) : p = True := eq_true h
theorem pfls {p : Prop} (h : ¬ p) : p = False := eq_false h
def endsM (c : Int) : List ByteArray → List ByteArray
  | [] => []
  | s :: r => if 0 < s.size ∧ bt s 0 = c then s.extract 1 s.size :: endsM c r else endsM c r
theorem endsM_len (c : Int) : ∀ l : List ByteArray, (endsM c l).length ≤ l.length
  | [] => Nat.le_refl _
  | s :: r => by
    have := endsM_len c r
    unfold endsM
    split <;> simp only [List.length_cons] <;> omega
def wtS : List ByteArray → Nat
  | [] => 0
  | s :: r => s.size + 1 + wtS r
def costM (c : Int) (l : List ByteArray) : Nat := if endsM c l = [] then 0 else 1 + wtS (endsM c l)
def hitM (c : Int) (s : ByteArray) : Nat := if 0 < s.size ∧ bt s 0 = c then s.size + 1 else 0
theorem cost_cons (c : Int) (s : ByteArray) (r : List ByteArray) : costM c (s :: r) ≤ costM c r + hitM c s := by
  unfold costM hitM
  by_cases h : 0 < s.size ∧ bt s 0 = c
  · have he : endsM c (s :: r) = s.extract 1 s.size :: endsM c r := by rw [endsM, if_pos h]
    have hz : (s.extract 1 s.size).size = s.size - 1 := by rw [ByteArray.size_extract, Nat.min_self]
    rw [he, if_neg (by simp), if_pos h, wtS, hz]
    split
    · rename_i h0; rw [h0]; simp only [wtS]; omega
    · omega
  · have he : endsM c (s :: r) = endsM c r := by rw [endsM, if_neg h]
    rw [he, if_neg h]; omega
def costsM (l : List ByteArray) : Nat → Int → Nat
  | 0, _ => 0
  | k + 1, c => costM c l + costsM l k (c + 1)
def hitsM (s : ByteArray) : Nat → Int → Nat
  | 0, _ => 0
  | k + 1, c => hitM c s + hitsM s k (c + 1)
theorem hits_zero (s : ByteArray) : ∀ (k : Nat) (c : Int), bt s 0 < c → hitsM s k c = 0
  | 0, _, _ => rfl
  | k + 1, c, h => by
    unfold hitsM hitM
    rw [if_neg (by omega), hits_zero s k (c + 1) (by omega)]
theorem hits_le (s : ByteArray) : ∀ (k : Nat) (c : Int), hitsM s k c ≤ s.size + 1
  | 0, _ => Nat.zero_le _
  | k + 1, c => by
    unfold hitsM hitM
    split
    · rename_i h; rw [hits_zero s k (c + 1) (by omega)]; omega
    · have := hits_le s k (c + 1); omega
theorem costs_cons (s : ByteArray) (r : List ByteArray) : ∀ (k : Nat) (c : Int), costsM (s :: r) k c ≤ costsM r k c + hitsM s k c
  | 0, _ => Nat.le_refl _
  | k + 1, c => by
    have h1 := cost_cons c s r
    have h2 := costs_cons s r k (c + 1)
    unfold costsM hitsM
    omega
theorem costs_le : ∀ (l : List ByteArray) (k : Nat) (c : Int), costsM l k c ≤ wtS l
  | [], k, c => by
    have h0 : ∀ (k : Nat) (c : Int), costsM [] k c = 0 := fun k => by
      induction k with
      | zero => intro c; rfl
      | succ k ih => intro c; unfold costsM; rw [ih]; rfl
    rw [h0]; exact Nat.zero_le _
  | s :: r, k, c => by
    have h1 := costs_cons s r k c
    have h2 := costs_le r k c
    have h3 := hits_le s k c
    rw [wtS]; omega
theorem ends_loop {l : List ByteArray} (hl : l.length ≤ 1000000000) (c : Int) : ∀ (rest pre out : List ByteArray), l = pre ++ rest → out.length + rest.length ≤ 1000000000 →
    Ev2 (fun N n => spec_l3Ends.l0 N n (strsP l) c (pre.length : Int) (out.map strP)) [strsP (out ++ endsM c rest)] := by
  intro rest
  induction rest with
  | nil =>
    intro pre out hp hz
    refine Ev2.succ ?_
    simp only [spec_l3Ends.l0_eq, strs_len, at_end hp, endsM, List.append_nil, stk, Int.reduceEq, Nat.reduceEqDiff, Int.reduceLE, Int.reduceLT]
    exact Ev2.now _
  | cons s rest ih =>
    intro pre out hp hz
    rw [List.length_cons] at hz
    have hcl : ((out.map strP).length + 1 ≤ 8796093022208) = True := ptru (by rw [List.length_map]; omega)
    have i1 := ih (pre ++ [s]) out (at_step hp) (by omega)
    have i2 := ih (pre ++ [s]) (out ++ [s.extract 1 s.size]) (at_step hp) (by rw [List.length_append, List.length_singleton]; omega)
    rw [List.map_append, List.append_assoc] at i2
    refine Ev2.succ ?_
    simp only [spec_l3Ends.l0_eq, strs_len, strs_elem, at_getD hp, at_lt hp, at_next hp (by omega), endsM, stk, Int.reduceEq, Nat.reduceEqDiff, Int.reduceLE, Int.reduceLT]
    by_cases h0 : 0 < s.size
    · have c0 : ((0 : Int) < (s.size : Int)) = True := ptru (by omega)
      have c1 : ((1 : Int) ≤ (s.size : Int)) = True := ptru (by omega)
      by_cases h1 : bt s 0 = c
      · simp only [c0, c1, h0, h1, hcl, and_self, stk, Int.reduceEq, Nat.reduceEqDiff, Int.reduceLE, Int.reduceLT]
        exact i2
      · simp only [c0, h1, and_false, stk, Int.reduceEq, Nat.reduceEqDiff, Int.reduceLE, Int.reduceLT]
        exact i1
    · have c0 : ((0 : Int) < (s.size : Int)) = False := pfls (by omega)
      simp only [c0, h0, false_and, stk, Int.reduceEq, Nat.reduceEqDiff, Int.reduceLE, Int.reduceLT]
      exact i1
theorem ends_ev {l : List ByteArray} (hl : l.length ≤ 1000000000) (c : Int) : Ev (fun N => spec_l3Ends.f N [strsP l, .sc (.int .u8 c)]) [strsP (endsM c l)] := by
  have := (ends_loop hl c l [] [] rfl (by simp; omega)).diag
  simp only [spec_l3Ends.f_eq, stk, Int.reduceEq, Nat.reduceEqDiff, Int.reduceLE, Int.reduceLT]
  exact this
end Go.Proofs.Ytfbkfhdlingedaa.FnMachineText
