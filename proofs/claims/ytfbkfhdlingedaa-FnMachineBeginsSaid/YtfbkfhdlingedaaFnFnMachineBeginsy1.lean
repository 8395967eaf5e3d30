import Derived.Test.YtfbkfhdlingedaaFnFnMachineBeginsx1
set_option linter.unusedVariables false
set_option linter.unusedSimpArgs false
set_option maxRecDepth 10000
namespace Go.Proofs.Ytfbkfhdlingedaa.FnMachineBegins
open Go Go.Proofs.YtfbkfhdlingedaaAm
theorem stk : (∀ l : List ByteArray, (strsP l).items.length = l.length) ∧ (∀ (l : List ByteArray) (i : Nat), ((strsP l).elem i).toStr = l.getD i ByteArray.empty) ∧ (∀ l : List Int, (intsP l).items.length = l.length) ∧ (∀ (l : List Int) (i : Nat), ((intsP l).elem i).toInt = l.getD i 0) ∧ (∀ l : List PV, (PV.list l).items = l) ∧ (∀ (l : List PV) (i : Nat), (PV.agg l).fld i = l.getD i default) ∧ (∀ (l : List PV) (i : Nat), (PV.list l).elem i = l.getD i default) ∧ (∀ s : ByteArray, (PV.sc (.string s)).toStr = s) ∧ (∀ (k : IntKind) (n : Int), (PV.sc (.int k n)).toInt = n) ∧ (∀ b : Bool, (PV.sc (.bool b)).toBool = b) ∧ (∀ (v : PV) (l : List PV), (v :: l).headD default = v) ∧ (∀ n : Nat, (n : Int).toNat = n) ∧ (∀ (s : ByteArray) (i : Nat), (((s.get! i).toNat : Nat) : Int) = bt s i) ∧ (∀ n : Nat, (0 : Int) ≤ (n : Int)) ∧ (∀ s t : ByteArray, s.toList = t.toList ↔ s = t) ∧ ((!true) = false) ∧ ((!false) = true) ∧ (∀ b : Bool, (true && b) = b) ∧ (∀ b : Bool, (false && b) = false) ∧ (∀ b : Bool, (b && true) = b) ∧ (∀ b : Bool, (b && false) = false) ∧ (∀ b : Bool, ((!b) = true) = (b = false)) ∧ (∀ b : Bool, ((!b) = false) = (b = true)) ∧ ((false = true) = False) ∧ ((true = false) = False) ∧ (¬True ↔ False) ∧ (¬False ↔ True) ∧ (∀ a : Int, a ≤ a) ∧ (∀ p : Prop, (p ∧ p) = p) ∧ (∀ p : Prop, (True ∧ p) = p) ∧ (∀ p : Prop, (p ∧ True) = p) ∧ (∀ p : Prop, (False ∧ p) = False) ∧ (∀ p : Prop, (p ∧ False) = False) ∧ (∀ (p : Prop) [Decidable p], (decide p = true) = p) ∧ (∀ (p : Prop) (_ : Decidable p), decide p = false ↔ ¬p) ∧ (∀ h : Decidable True, @decide True h = true) ∧ (∀ h : Decidable False, @decide False h = false) ∧ (∀ (α : Type) (x y : α), (if True then x else y) = x) ∧ (∀ (α : Type) (x y : α), (if False then x else y) = y) ∧ (∀ (α : Type) (c : Prop) [Decidable c] (x : α), (if c then x else x) = x) ∧ (∀ (α β : Type) (f : α → Option β) (a : α), (some a).bind f = f a) ∧ (∀ b : Bool, (b != b) = false) ∧ (∀ b : Bool, (b == b) = true) ∧ (∀ v : PV, [v].length = 1) ∧ (∀ (v : PV) (l : List PV), (v :: l).tail = l) :=
  ⟨strs_len, strs_elem, ints_len, ints_elem, items_list, fld_agg, elem_list, toStr_sc, toInt_sc, toBool_sc, headD_one, nat_int, get_bt, fun _ => nn, fun _ _ => toList_inj, Bool.not_true, Bool.not_false, Bool.true_and, Bool.false_and, Bool.and_true, Bool.and_false, Bool.not_eq_true', Bool.not_eq_false', Bool.false_eq_true, Bool.true_eq_false, not_true, not_false_iff, Int.le_refl, and_self, true_and, and_true, false_and, and_false, fun _ => decide_eq_true_eq, fun _ _ => decide_eq_false_iff_not, decide_true, decide_false, fun _ _ _ => if_pos trivial, fun _ _ _ => if_neg id, fun _ _ _ _ => ite_self _, fun _ _ _ _ => rfl, fun b => by cases b <;> rfl, fun b => by cases b <;> rfl, fun _ => rfl, fun _ _ => rfl⟩
def rdP (b : PV) (p : Int) : PV := .agg [b, intP p]
theorem rd_f0 (b : PV) (p : Int) : (rdP b p).fld 0 = b := rfl
theorem rd_f1 (b : PV) (p : Int) : (rdP b p).fld 1 = intP p := rfl
theorem rd_agg (b : PV) (p : Int) : PV.agg [b, PV.sc (.int .i64 p)] = rdP b p := rfl
structure Code1 (b : PV) : Prop where
  len : b.items.length ≤ 2000
  byte : ∀ j, 0 ≤ (b.elem j).toInt ∧ (b.elem j).toInt ≤ 255
theorem bXor_pos {a b : Int} (ha : 0 ≤ a ∧ a < 9223372036854775808) (hb : 0 ≤ b ∧ b < 9223372036854775808) : 0 ≤ bXor .i64 a b := by
  obtain ⟨x, rfl⟩ := Int.eq_ofNat_of_zero_le ha.1
  obtain ⟨y, rfl⟩ := Int.eq_ofNat_of_zero_le hb.1
  have hx : x < 2 ^ 63 := by omega
  have hy : y < 2 ^ 63 := by omega
  have h : (BitVec.ofInt (IntKind.bits .i64) (x : Int) ^^^ BitVec.ofInt (IntKind.bits .i64) (y : Int)).toNat = x ^^^ y := by
    rw [BitVec.toNat_xor, BitVec.toNat_ofInt, BitVec.toNat_ofInt]
    have hx2 : ((x : Int) % ((2 ^ IntKind.i64.bits : Nat) : Int)).toNat = x := by
      have : ((2 ^ IntKind.i64.bits : Nat) : Int) = 18446744073709551616 := rfl
      rw [this]; omega
    have hy2 : ((y : Int) % ((2 ^ IntKind.i64.bits : Nat) : Int)).toNat = y := by
      have : ((2 ^ IntKind.i64.bits : Nat) : Int) = 18446744073709551616 := rfl
      rw [this]; omega
    rw [hx2, hy2]
  have hlt : x ^^^ y < 2 ^ 63 := Nat.xor_lt_two_pow hx hy
  unfold bXor
  rw [h, wrap_id (by omega) (by omega)]
  omega
theorem tmod_in {x n : Int} (hx : 0 ≤ x) (hn : 1 ≤ n) : 0 ≤ Int.tmod x n ∧ Int.tmod x n < n := by
  rw [Int.tmod_eq_emod_of_nonneg hx]
  exact ⟨Int.emod_nonneg _ (by omega), Int.emod_lt_of_pos _ (by omega)⟩
theorem tdiv_in {x n : Int} (hx : 0 ≤ x) (hn : 1 ≤ n) : 0 ≤ Int.tdiv x n ∧ Int.tdiv x n ≤ x := by
  rw [Int.tdiv_eq_ediv_of_nonneg hx]
  exact ⟨Int.ediv_nonneg hx (by omega), Int.ediv_le_self _ hx⟩
theorem pick_ev {b : PV} (hb : Code1 b) {p n : Int} (hp : 0 ≤ p ∧ p < 1000000000) (hn : 1 ≤ n ∧ n < 4611686018427387904) : ∃ k, (0 ≤ k ∧ k < n) ∧ ∀ N, spec_l1Rd_pick.f N [rdP b p, intP n] = some [intP k, rdP b (p + 1)] := by
  have hlen := hb.len
  have h0 : ¬ n < 1 := by omega
  have h00 : ¬ n = 0 := by omega
  have w1 : IntKind.i64.wrap (p + 1) = p + 1 := wrap_id (by omega) (by omega)
  have w2 : IntKind.i64.wrap (p + 1 - 1) = p := by rw [wrap_id (by omega) (by omega)]; omega
  by_cases hz : (b.items.length : Int) = 0
  · refine ⟨0, by omega, fun N => ?_⟩
    simp only [spec_l1Rd_pick.f_eq, rd_f0, rd_f1, h0, hz, w1, stk, Int.reduceEq, Nat.reduceEqDiff, Int.reduceLE, Int.reduceLT]
    rfl
  by_cases hlt : p < (b.items.length : Int)
  · have hby := hb.byte p.toNat
    have w3 : IntKind.i64.wrap ((b.elem p.toNat).toInt) = (b.elem p.toNat).toInt := wrap_id (by omega) (by omega)
    refine ⟨Int.tmod ((b.elem p.toNat).toInt) n, tmod_in hby.1 hn.1, fun N => ?_⟩
    simp only [spec_l1Rd_pick.f_eq, rd_f0, rd_f1, h0, h00, hz, hlt, hp.1, w1, w2, w3, stk, Int.reduceEq, Nat.reduceEqDiff, Int.reduceLE, Int.reduceLT]
    rfl
  · have hm : 1 ≤ (b.items.length : Int) := by omega
    have w4 : IntKind.i64.wrap (p * 7) = p * 7 := wrap_id (by omega) (by omega)
    have w5 : IntKind.i64.wrap (p * 7 + 3) = p * 7 + 3 := wrap_id (by omega) (by omega)
    have w6 : IntKind.i64.wrap (p * 29) = p * 29 := wrap_id (by omega) (by omega)
    have m1 := tmod_in (x := p) hp.1 hm
    have m2 := tmod_in (x := p * 7 + 3) (by omega) hm
    have q1 := tdiv_in (x := p) hp.1 hm
    have w7 : IntKind.i64.wrap (Int.tdiv p (b.items.length : Int)) = Int.tdiv p (b.items.length : Int) := wrap_id (by omega) (by omega)
    have w8 : IntKind.i64.wrap (Int.tdiv p (b.items.length : Int) * 53) = Int.tdiv p (b.items.length : Int) * 53 := wrap_id (by omega) (by omega)
    have e1 := hb.byte (Int.tmod p (b.items.length : Int)).toNat
    have e2 := hb.byte (Int.tmod (p * 7 + 3) (b.items.length : Int)).toNat
    have z64 : ((64 : Int) = 0) = False := by simp
    simp only [spec_l1Rd_pick.f_eq, rd_f0, rd_f1, h0, h00, hz, hlt, hp.1, w1, w2, w4, w5, w6, w7, w8, m1, m2, z64, stk, Int.reduceEq, Nat.reduceEqDiff, Int.reduceLE, Int.reduceLT]
    generalize (b.elem (Int.tmod p (b.items.length : Int)).toNat).toInt = x1 at e1 ⊢
    generalize (b.elem (Int.tmod (p * 7 + 3) (b.items.length : Int)).toNat).toInt = x2 at e2 ⊢
    generalize Int.tdiv p (b.items.length : Int) = d at q1 ⊢
    have v1 : IntKind.i64.wrap x1 = x1 := wrap_id (by omega) (by omega)
    have v2 : IntKind.i64.wrap x2 = x2 := wrap_id (by omega) (by omega)
    have v3 : IntKind.i64.wrap (x1 * 131) = x1 * 131 := wrap_id (by omega) (by omega)
    have v4 : IntKind.i64.wrap (x2 * 1117) = x2 * 1117 := wrap_id (by omega) (by omega)
    have v5 : IntKind.i64.wrap (x1 * 131 + x2 * 1117) = x1 * 131 + x2 * 1117 := wrap_id (by omega) (by omega)
    have v6 : IntKind.i64.wrap (x1 * 131 + x2 * 1117 + p * 29) = x1 * 131 + x2 * 1117 + p * 29 := wrap_id (by omega) (by omega)
    have v7 : IntKind.i64.wrap (x1 * 131 + x2 * 1117 + p * 29 + d * 53) = x1 * 131 + x2 * 1117 + p * 29 + d * 53 := wrap_id (by omega) (by omega)
    simp only [v1, v2, v3, v4, v5, v6, v7]
    generalize hy : x1 * 131 + x2 * 1117 + p * 29 + d * 53 = y
    have hyb : 0 ≤ y ∧ y < 1000000000000 := by omega
    have q2 := tdiv_in (x := y) (n := 64) hyb.1 (by omega)
    have v8 : IntKind.i64.wrap (Int.tdiv y 64) = Int.tdiv y 64 := wrap_id (by omega) (by omega)
    rw [v8]
    exact ⟨Int.tmod (bXor .i64 y (Int.tdiv y 64)) n, tmod_in (bXor_pos (by omega) (by omega)) hn.1, fun N => rfl⟩
theorem of_ev {b : PV} (hb : Code1 b) {p : Int} (hp : 0 ≤ p ∧ p < 1000000000) (l : List ByteArray) (hl : 1 ≤ l.length ∧ l.length < 4611686018427387904) : ∃ s ∈ l, ∀ N, spec_l1Rd_of.f N [rdP b p, strsP l] = some [strP s, rdP b (p + 1)] := by
  obtain ⟨k, hk, hf⟩ := pick_ev hb hp (n := (l.length : Int)) (by omega)
  obtain ⟨j, rfl⟩ := Int.eq_ofNat_of_zero_le hk.1
  have hj : j < l.length := by omega
  refine ⟨l.getD j ByteArray.empty, ?_, fun N => ?_⟩
  · rw [List.getD_eq_getElem?_getD, List.getElem?_eq_getElem hj]; exact List.getElem_mem hj
  · simp only [spec_l1Rd_of.f_eq, rd_f0, rd_f1, rd_agg, hf, hk, stk, Int.reduceEq, Nat.reduceEqDiff, Int.reduceLE, Int.reduceLT]
theorem open_ev {l : List PV} (hl : l.length ≤ 1048576) (hby : ∀ j, 0 ≤ ((PV.list l).elem j).toInt ∧ ((PV.list l).elem j).toInt ≤ 255) : ∃ b, Code1 b ∧ ∀ N, spec_l1Open.f N [PV.list l] = some [rdP b 0] := by
  by_cases h : (2000 : Int) < (l.length : Int)
  · refine ⟨PV.list (l.take 2000), ⟨by simp [PV.items]; omega, fun j => ?_⟩, fun N => ?_⟩
    · rw [elem_list, List.getD_eq_getElem?_getD, List.getElem?_take]
      have := hby j
      rw [elem_list, List.getD_eq_getElem?_getD] at this
      split
      · exact this
      · exact ⟨Int.le_refl _, by decide⟩
    · have h2 : (2000 : Int) ≤ (l.length : Int) := by omega
      simp only [spec_l1Open.f_eq, h, h2, stk, Int.reduceEq, Nat.reduceEqDiff, Int.reduceLE, Int.reduceLT]
      rfl
  · refine ⟨PV.list l, ⟨by simp [PV.items]; omega, hby⟩, fun N => ?_⟩
    simp only [spec_l1Open.f_eq, h, stk, Int.reduceEq, Nat.reduceEqDiff, Int.reduceLE, Int.reduceLT]
    rfl
theorem code_args {P : Program} {t e : TypeId} (ht : tk P t = .slice e) (he : tk P e = .int .u8) {ps : List PV} (h : PvOkL (PvOk P 8) [t] ps) : ∃ l, ps = [PV.list l] ∧ ∀ j, 0 ≤ ((PV.list l).elem j).toInt ∧ ((PV.list l).elem j).toInt ≤ 255 := by
  obtain ⟨p, rfl, h1⟩ := pvOkL1 h
  obtain ⟨l, rfl, _, h3⟩ := pvOk_slice ht h1
  refine ⟨l, rfl, fun j => ?_⟩
  rw [elem_list, List.getD_eq_getElem?_getD]
  cases hj : l[j]? with
  | none => exact ⟨Int.le_refl _, by decide⟩
  | some q =>
    obtain ⟨x, rfl, hx⟩ := pvOk_int he (h3 q (List.mem_of_getElem? hj))
    simp [Lit.wf, IntKind.min, IntKind.max, IntKind.signed, IntKind.bits] at hx
    simp [PV.toInt]; omega
theorem nat_wrap {n : Int} {m : Nat} (h : n = (m : Int)) (hm : m < 9223372036854775808) : IntKind.i64.wrap n = (m : Int) := by
  rw [h, wrap_id (by omega) (by omega)]
def isWord (s : ByteArray) : Bool := decide (1 ≤ s.size ∧ s.size ≤ 12) && (bytesOf s).all fun c => decide (97 ≤ c ∧ c ≤ 122)
def lowB (l : List Int) : Bool := l.all fun c => decide (97 ≤ c ∧ c ≤ 122)
theorem lowB_cons (c : Int) (l : List Int) : lowB (c :: l) = (decide (97 ≤ c ∧ c ≤ 122) && lowB l) := by simp [lowB]
def bLess (a b : ByteArray) : Bool := Op.bytesLess a.toList b.toList
theorem bLess_eq (a b : ByteArray) : Op.bytesLess a.toList b.toList = bLess a b := rfl
def ascW : Option ByteArray → List ByteArray → Bool
  | _, [] => true
  | none, c :: rest => isWord c && ascW (some c) rest
  | some q, c :: rest => isWord c && bLess q c && ascW (some c) rest
def wordsM (l : List ByteArray) (most : Int) : Bool := ascW none l && decide ((l.length : Int) ≤ most)
def Ahead (pre : List ByteArray) (p : Option ByteArray) : Prop := (pre = [] ∧ p = none) ∨ ∃ pre' q, pre = pre' ++ [q] ∧ p = some q
theorem Ahead.next (pre : List ByteArray) (c : ByteArray) : Ahead (pre ++ [c]) (some c) := .inr ⟨pre, c, rfl, rfl⟩
theorem at_prev {xs pre' rest : List ByteArray} {q : ByteArray} (hp : xs = (pre' ++ [q]) ++ rest) (hx : xs.length ≤ 9223372036854775807) :
    IntKind.i64.wrap (((pre' ++ [q]).length : Int) - 1) = (pre'.length : Int) ∧ (pre'.length : Int) < (xs.length : Int) ∧ xs.getD pre'.length ByteArray.empty = q ∧ (0 : Int) < ((pre' ++ [q]).length : Int) := by
  subst hp
  simp only [List.length_append, List.length_cons, List.length_nil] at hx ⊢
  refine ⟨?_, by omega, ?_, by omega⟩
  · rw [wrap_id (by omega) (by omega)]; omega
  · simp
theorem specLetters_loop (s : ByteArray) (hs : s.size ≤ 9223372036854775807) (m : Int) : ∀ rest pre : List Int, bytesOf s = pre ++ rest → Ev2 (fun N n => spec_l1Letters.l0 N n s m (pre.length : Int)) [boolP (lowB rest && decide ((s.size : Int) ≤ m))] := by
  intro rest
  induction rest with
  | nil =>
    intro pre hp
    refine Ev2.succ ?_
    simp only [spec_l1Letters.l0_eq, at_sizeE hp, lowB, List.all_nil, stk, Int.reduceEq, Nat.reduceEqDiff, Int.reduceLE, Int.reduceLT]
    exact Ev2.now _
  | cons c rest ih =>
    intro pre hp
    refine Ev2.succ ?_
    simp only [spec_l1Letters.l0_eq, stk, Int.reduceEq, Nat.reduceEqDiff, Int.reduceLE, Int.reduceLT, at_size hp, at_bt hp, at_next hp (by rw [bytesOf_len]; omega)]
    rw [lowB_cons]
    by_cases h1 : c < 97
    · simp only [h1, eq_false (show ¬ (97 ≤ c ∧ c ≤ 122) by omega), stk, Int.reduceEq, Nat.reduceEqDiff, Int.reduceLE, Int.reduceLT]; exact Ev2.now _
    by_cases h2 : 122 < c
    · simp only [h1, h2, eq_false (show ¬ (97 ≤ c ∧ c ≤ 122) by omega), stk, Int.reduceEq, Nat.reduceEqDiff, Int.reduceLE, Int.reduceLT]; exact Ev2.now _
    simp only [h1, h2, eq_true (show (97 ≤ c ∧ c ≤ 122) by omega), stk, Int.reduceEq, Nat.reduceEqDiff, Int.reduceLE, Int.reduceLT]
    exact ih _ (at_step hp)
theorem specLetters_ev (s : ByteArray) (hs : s.size ≤ 9223372036854775807) (m : Int) : Ev (fun N => spec_l1Letters.f N [strP s, intP m]) [boolP (lowB (bytesOf s) && decide ((s.size : Int) ≤ m))] := by
  simp only [spec_l1Letters.f_eq, stk, Int.reduceEq, Nat.reduceEqDiff, Int.reduceLE, Int.reduceLT]
  exact (specLetters_loop s hs m (bytesOf s) [] rfl).diag
theorem specWord_ev (s : ByteArray) (hs : s.size ≤ 9223372036854775807) : Ev (fun N => spec_l1Word.f N [strP s]) [boolP (isWord s)] := by
  simp only [spec_l1Word.f_eq, stk, Int.reduceEq, Nat.reduceEqDiff, Int.reduceLE, Int.reduceLT]
  by_cases h : (0 : Int) < (s.size : Int)
  · simp only [h, stk, Int.reduceEq, Nat.reduceEqDiff, Int.reduceLE, Int.reduceLT]
    refine Ev.bind (specLetters_ev s hs 12) ?_
    refine Ev.ext (Ev.now _) ?_
    simp only [stk, Int.reduceEq, Nat.reduceEqDiff, Int.reduceLE, Int.reduceLT]
    unfold isWord
    rw [Bool.and_comm]
    show [boolP (_ && lowB _)] = [boolP (decide _ && lowB _)]
    have : decide ((s.size : Int) ≤ 12) = decide (1 ≤ s.size ∧ s.size ≤ 12) := decide_eq_decide.2 (by omega)
    rw [this]
  · simp only [h, stk, Int.reduceEq, Nat.reduceEqDiff, Int.reduceLE, Int.reduceLT]
    refine Ev.ext (Ev.now _) ?_
    unfold isWord
    rw [decide_eq_false (show ¬ (1 ≤ s.size ∧ s.size ≤ 12) by omega), Bool.false_and]
theorem specWords_loop (a : List ByteArray) (ha : a.length ≤ 9223372036854775807) (hs : ∀ s ∈ a, s.size ≤ 9223372036854775807) : ∀ (rest pre : List ByteArray) (p : Option ByteArray), a = pre ++ rest → Ahead pre p →
    Ev2 (fun N n => spec_l3Words.l0 N n (strsP a) (pre.length : Int)) [boolP (ascW p rest && decide ((a.length : Int) ≤ 300))] := by
  intro rest
  induction rest with
  | nil =>
    intro pre p hp _
    refine Ev2.succ ?_
    simp only [spec_l3Words.l0_eq, stk, Int.reduceEq, Nat.reduceEqDiff, Int.reduceLE, Int.reduceLT, at_end hp, ascW]
    exact Ev2.now _
  | cons c rest ih =>
    intro pre p hp hA
    have hc : c.size ≤ 9223372036854775807 := hs c (by rw [hp]; simp)
    refine Ev2.succ ?_
    simp only [spec_l3Words.l0_eq, stk, Int.reduceEq, Nat.reduceEqDiff, Int.reduceLE, Int.reduceLT, at_lt hp, at_getD hp, at_next hp ha]
    refine Ev2.bind (specWord_ev c hc) ?_
    have hnext := ih (pre ++ [c]) (some c) (at_step hp) (Ahead.next pre c)
    simp only [stk, Int.reduceEq, Nat.reduceEqDiff, Int.reduceLE, Int.reduceLT]
    rcases hA with ⟨rfl, rfl⟩ | ⟨pre', q, rfl, rfl⟩
    · rw [ascW]
      cases hw : isWord c with
      | false => simp only [stk, Int.reduceEq, Nat.reduceEqDiff, Int.reduceLE, Int.reduceLT]; exact Ev2.now _
      | true =>
        simp only [List.length_nil, Int.natCast_zero, Int.lt_irrefl, stk, Int.reduceEq, Nat.reduceEqDiff, Int.reduceLE, Int.reduceLT]
        exact hnext
    · obtain ⟨h1, h2, h3, h4⟩ := at_prev hp ha
      rw [ascW]
      cases hw : isWord c with
      | false => simp only [stk, Int.reduceEq, Nat.reduceEqDiff, Int.reduceLE, Int.reduceLT]; exact Ev2.now _
      | true =>
        simp only [h4, h1, h2, h3, bLess_eq, stk, Int.reduceEq, Nat.reduceEqDiff, Int.reduceLE, Int.reduceLT]
        cases hb : bLess q c with
        | false => simp only [stk, Int.reduceEq, Nat.reduceEqDiff, Int.reduceLE, Int.reduceLT]; exact Ev2.now _
        | true => simp only [stk, Int.reduceEq, Nat.reduceEqDiff, Int.reduceLE, Int.reduceLT]; exact hnext
theorem specWords_ev (a : List ByteArray) (ha : a.length ≤ 9223372036854775807) (hs : ∀ s ∈ a, s.size ≤ 9223372036854775807) : Ev (fun N => spec_l3Words.f N [strsP a]) [boolP (wordsM a 300)] := by
  simp only [spec_l3Words.f_eq]
  exact (specWords_loop a ha hs a [] none rfl (.inl ⟨rfl, rfl⟩)).diag
def insM (s : ByteArray) : List ByteArray → List ByteArray
  | [] => [s]
  | c :: r => if bLess c s = true then c :: insM s r else if c = s then c :: r else s :: c :: r
theorem insM_mem (s : ByteArray) : ∀ (l : List ByteArray) (x : ByteArray), x ∈ insM s l ↔ x = s ∨ x ∈ l
  | [], x => by simp [insM]
  | c :: r, x => by
    unfold insM
    split
    · simp only [List.mem_cons, insM_mem s r x]
      constructor
      · rintro (h | h | h)
        · exact .inr (.inl h)
        · exact .inl h
        · exact .inr (.inr h)
      · rintro (h | h | h)
        · exact .inr (.inl h)
        · exact .inl h
        · exact .inr (.inr h)
    · split
      · rename_i he
        subst he
        simp
      · simp
theorem all_snoc {α : Type} {Q : α → Prop} {l : List α} {x : α} (h : ∀ y ∈ l, Q y) (hx : Q x) : ∀ y ∈ l ++ [x], Q y := by
  intro y hy
  rcases List.mem_append.1 hy with hy | hy
  · exact h y hy
  · rw [List.mem_singleton.1 hy]; exact hx
theorem ins_split (s : ByteArray) : ∀ (pre rest : List ByteArray), (∀ c ∈ pre, bLess c s = true) → insM s (pre ++ rest) = pre ++ insM s rest
  | [], rest, _ => rfl
  | c :: pre, rest, h => by
    rw [List.cons_append, insM, if_pos (h c (by simp)), ins_split s pre rest (fun x hx => h x (by simp [hx]))]; rfl
theorem put_loop (a : List ByteArray) (s : ByteArray) (ha : a.length ≤ 1000000000) : ∀ (rest pre : List ByteArray), a = pre ++ rest → (∀ c ∈ pre, bLess c s = true) →
    Ev2 (fun N n => spec_l1Put.l0 N n s (pre.length : Int) (strsP a)) [strsP (insM s a)] := by
  intro rest
  have parts : ∀ (pre rest : List ByteArray), a = pre ++ rest → (strsP a).items.take pre.length = pre.map strP ∧ (strsP a).items.drop pre.length = rest.map strP := fun pre rest hp => by
    subst hp; simp [strsP, PV.items]
  induction rest with
  | nil =>
    intro pre hp hpre
    obtain ⟨p1, p2⟩ := parts pre [] hp
    have e : insM s a = pre ++ [s] := by rw [hp, ins_split s pre [] hpre]; rfl
    have hl : a.length = pre.length := by rw [hp]; simp
    have c0 : pre.length ≤ 8796093022208 := by omega
    have c1 : pre.length + 1 ≤ 8796093022208 := by omega
    have c2 : (pre.length : Int) ≤ (a.length : Int) := by omega
    have z : a.length - pre.length = 0 := by omega
    refine Ev2.succ ?_
    have e2 : PV.list (pre.map strP ++ [strP s]) = strsP (pre ++ [s]) := by simp [strsP]
    simp only [spec_l1Put.l0_eq, strs_len, at_end hp, c2, z, List.drop_zero, Nat.sub_zero, p1, p2, List.nil_append, List.length_nil, List.length_map, List.length_append, List.map_nil, List.take_nil, List.append_nil, Nat.zero_add, Nat.add_zero, c0, c1, e, e2, stk, Int.reduceEq, Nat.reduceEqDiff, Int.reduceLE, Int.reduceLT]
    exact Ev2.now _
  | cons c rest ih =>
    intro pre hp hpre
    obtain ⟨p1, p2⟩ := parts pre (c :: rest) hp
    have hl : a.length = pre.length + 1 + rest.length := by rw [hp]; simp; omega
    refine Ev2.succ ?_
    by_cases hlt : bLess c s = true
    · simp only [spec_l1Put.l0_eq, at_lt hp, at_getD hp, bLess_eq, hlt, at_next hp (by omega), stk, Int.reduceEq, Nat.reduceEqDiff, Int.reduceLE, Int.reduceLT]
      refine ih _ (at_step hp) (fun x hx => ?_)
      rcases List.mem_append.1 hx with hx | hx
      · exact hpre x hx
      · rw [List.mem_singleton.1 hx]; exact hlt
    · have e : insM s a = pre ++ (if c = s then c :: rest else s :: c :: rest) := by rw [hp, ins_split s pre _ hpre, insM, if_neg hlt]
      by_cases hc : c = s
      · have e3 : insM s a = a := by rw [e, if_pos hc, ← hp]
        subst hc
        simp only [spec_l1Put.l0_eq, at_lt hp, at_getD hp, bLess_eq, hlt, e3, stk, Int.reduceEq, Nat.reduceEqDiff, Int.reduceLE, Int.reduceLT]
        exact Ev2.now _
      · rw [if_neg hc] at e
        have c0 : pre.length ≤ 8796093022208 := by omega
        have c1 : pre.length + 1 ≤ 8796093022208 := by omega
        have c2 : (pre.length : Int) ≤ (a.length : Int) := by omega
        have c3 : pre.length + 1 + (rest.length + 1) ≤ 8796093022208 := by omega
        have z : a.length - pre.length = rest.length + 1 := by omega
        have t1 : List.take (rest.length + 1) (strP c :: rest.map strP) = strP c :: rest.map strP := List.take_of_length_le (by simp)
        have e2 : PV.list (pre.map strP ++ [strP s] ++ strP c :: rest.map strP) = strsP (pre ++ s :: c :: rest) := by simp [strsP]
        simp only [spec_l1Put.l0_eq, strs_len, at_lt hp, at_getD hp, bLess_eq, hlt, hc, c2, List.drop_zero, Nat.sub_zero, p1, p2, z, t1, List.nil_append, List.length_nil, List.length_map, List.length_append, List.length_cons, List.map_cons, Nat.zero_add, c0, c1, c3, e, e2, stk, Int.reduceEq, Nat.reduceEqDiff, Int.reduceLE, Int.reduceLT]
        exact Ev2.now _
theorem put_ev (a : List ByteArray) (s : ByteArray) (ha : a.length ≤ 1000000000) : Ev (fun N => spec_l1Put.f N [strsP a, strP s]) [strsP (insM s a)] := by
  simp only [spec_l1Put.f_eq, stk, Int.reduceEq, Nat.reduceEqDiff, Int.reduceLE, Int.reduceLT]
  exact (put_loop a s ha a [] rfl (by simp)).diag
theorem insM_len (s : ByteArray) : ∀ l : List ByteArray, (insM s l).length ≤ l.length + 1
  | [] => by simp [insM]
  | c :: r => by
    unfold insM
    have := insM_len s r
    split
    · simp; omega
    · split <;> simp
theorem szs_in {l : List ByteArray} {a b : Nat} (h : (l.all fun s => decide (a ≤ s.size ∧ s.size ≤ b)) = true) : ∀ s ∈ l, a ≤ s.size ∧ s.size ≤ b := fun s hs => of_decide_eq_true (List.all_eq_true.1 h s hs)
theorem least_val (a b : Int) (N : Nat) : spec_l1Least.f N [intP a, intP b] = some [intP (if a < b then a else b)] := by
  simp only [spec_l1Least.f_eq, stk, Int.reduceEq, Nat.reduceEqDiff, Int.reduceLE, Int.reduceLT]
  by_cases h : a < b <;> simp only [h, stk, Int.reduceEq, Nat.reduceEqDiff, Int.reduceLE, Int.reduceLT]
theorem extract_all (s : ByteArray) : s.extract 0 s.size = s := by
  simp
theorem word_loop {b : PV} (hb : Code1 b) : ∀ (c p : Nat) (x : ByteArray), p + c < 1000000000 → x.size + 2 * c ≤ 12 → (1 ≤ c ∨ 1 ≤ x.size) → ∃ (r : ByteArray) (q : Nat), q ≤ p + c ∧ 1 ≤ r.size ∧ r.size ≤ 12 ∧ Ev2 (fun N n => spec_l13Word.l0 N n x (c : Int) b (p : Int)) [strP r, rdP b (q : Int)] := by
  intro c
  induction c with
  | zero =>
    intro p x hp hx h1
    refine ⟨x, p, by omega, by omega, by omega, Ev2.succ ?_⟩
    have h0 : ¬ (0 : Int) < ((0 : Nat) : Int) := by omega
    have hm : (if (x.size : Int) < 12 then (x.size : Int) else 12) = (x.size : Int) := by split <;> omega
    simp only [spec_l13Word.l0_eq, h0, least_val, hm, stk, Int.reduceEq, Nat.reduceEqDiff, Int.reduceLE, Int.reduceLT, extract_all, rd_agg]
    exact Ev2.now _
  | succ c ih =>
    intro p x hp hx h1
    obtain ⟨s, hs, hf⟩ := of_ev hb (p := (p : Int)) (by omega) [ByteArray.mk #[97], ByteArray.mk #[98], ByteArray.mk #[99], ByteArray.mk #[97, 98], ByteArray.mk #[116]] (by simp)
    have hsz : 1 ≤ s.size ∧ s.size ≤ 2 := by
      have ha : ∀ s ∈ [ByteArray.mk #[97], ByteArray.mk #[98], ByteArray.mk #[99], ByteArray.mk #[97, 98], ByteArray.mk #[116]], 1 ≤ s.size ∧ s.size ≤ 2 := szs_in rfl
      exact ha s hs
    obtain ⟨r, q, h2, h3, h4, h5⟩ := ih (p + 1) (x ++ s) (by omega) (by rw [ByteArray.size_append]; omega) (.inr (by rw [ByteArray.size_append]; omega))
    refine ⟨r, q, by omega, h3, h4, Ev2.succ ?_⟩
    have h0 : (0 : Int) < ((c + 1 : Nat) : Int) := by omega
    have hw : IntKind.i64.wrap (((c + 1 : Nat) : Int) - 1) = (c : Int) := by rw [wrap_id (by omega) (by omega)]; omega
    have hl : x.size + s.size ≤ 9223372036854775807 := by omega
    have hp1 : ((p : Int) + 1) = ((p + 1 : Nat) : Int) := by omega
    have e : PV.list [PV.sc (.string (ByteArray.mk #[97])), PV.sc (.string (ByteArray.mk #[98])), PV.sc (.string (ByteArray.mk #[99])), PV.sc (.string (ByteArray.mk #[97, 98])), PV.sc (.string (ByteArray.mk #[116]))] = strsP [ByteArray.mk #[97], ByteArray.mk #[98], ByteArray.mk #[99], ByteArray.mk #[97, 98], ByteArray.mk #[116]] := rfl
    simp only [spec_l13Word.l0_eq, h0, hw, hl, e, rd_agg, hf, rd_f0, rd_f1, hp1, stk, Int.reduceEq, Nat.reduceEqDiff, Int.reduceLE, Int.reduceLT]
    exact h5
def wordsL : List ByteArray := [ByteArray.mk #[99, 97, 116], ByteArray.mk #[99, 97, 116, 115], ByteArray.mk #[97, 99, 116], ByteArray.mk #[100, 111], ByteArray.mk #[100, 111, 105, 110, 103], ByteArray.mk #[103, 111], ByteArray.mk #[117, 110, 100, 111], ByteArray.mk #[116, 114, 121], ByteArray.mk #[116, 114, 105, 101, 115], ByteArray.mk #[97], ByteArray.mk #[98, 97, 107, 101], ByteArray.mk #[98, 97, 107, 105, 110, 103], ByteArray.mk #[116, 97, 99, 116], ByteArray.mk #[99, 97, 114, 116], ByteArray.mk #[97, 98, 99, 97, 98, 99, 97, 98, 99, 97, 98, 99]]
theorem word_ev {b : PV} (hb : Code1 b) (p : Nat) (hp : p < 900000000) : ∃ (r : ByteArray) (q : Nat), q ≤ p + 10 ∧ 1 ≤ r.size ∧ r.size ≤ 12 ∧ Ev (fun N => spec_l13Word.f N [rdP b (p : Int)]) [strP r, rdP b (q : Int)] := by
  obtain ⟨k, hk, hf⟩ := pick_ev hb (p := (p : Int)) (n := 3) (by omega) (by omega)
  by_cases h0 : k = 0
  · obtain ⟨k2, hk2, hf2⟩ := pick_ev hb (p := (p : Int) + 1) (n := 5) (by omega) (by omega)
    obtain ⟨j, rfl⟩ := Int.eq_ofNat_of_zero_le hk2.1
    obtain ⟨r, q, h2, h3, h4, h5⟩ := word_loop hb (1 + j) (p + 2) ⟨#[]⟩ (by omega) (by have : (ByteArray.mk #[]).size = 0 := rfl; omega) (.inl (by omega))
    refine ⟨r, q, by omega, h3, h4, ?_⟩
    have hw : IntKind.i64.wrap (1 + (j : Int)) = ((1 + j : Nat) : Int) := by rw [wrap_id (by omega) (by omega)]; omega
    have hp1 : ((p : Int) + 1 + 1) = ((p + 2 : Nat) : Int) := by omega
    simp only [spec_l13Word.f_eq, rd_f0, rd_f1, rd_agg, hf, h0, hf2, hw, hp1, stk, Int.reduceEq, Nat.reduceEqDiff, Int.reduceLE, Int.reduceLT]
    exact h5.diag
  · obtain ⟨s, hs, hf2⟩ := of_ev hb (p := (p : Int) + 1) (by omega) wordsL (by simp [wordsL])
    have ha : ∀ s ∈ wordsL, 1 ≤ s.size ∧ s.size ≤ 12 := szs_in rfl
    refine ⟨s, p + 2, by omega, (ha s hs).1, (ha s hs).2, ?_⟩
    have hp1 : ((p : Int) + 1 + 1) = ((p + 2 : Nat) : Int) := by omega
    have e : PV.list [PV.sc (.string (ByteArray.mk #[99, 97, 116])), PV.sc (.string (ByteArray.mk #[99, 97, 116, 115])), PV.sc (.string (ByteArray.mk #[97, 99, 116])), PV.sc (.string (ByteArray.mk #[100, 111])), PV.sc (.string (ByteArray.mk #[100, 111, 105, 110, 103])), PV.sc (.string (ByteArray.mk #[103, 111])), PV.sc (.string (ByteArray.mk #[117, 110, 100, 111])), PV.sc (.string (ByteArray.mk #[116, 114, 121])), PV.sc (.string (ByteArray.mk #[116, 114, 105, 101, 115])), PV.sc (.string (ByteArray.mk #[97])), PV.sc (.string (ByteArray.mk #[98, 97, 107, 101])), PV.sc (.string (ByteArray.mk #[98, 97, 107, 105, 110, 103])), PV.sc (.string (ByteArray.mk #[116, 97, 99, 116])), PV.sc (.string (ByteArray.mk #[99, 97, 114, 116])), PV.sc (.string (ByteArray.mk #[97, 98, 99, 97, 98, 99, 97, 98, 99, 97, 98, 99]))] = strsP wordsL := rfl
    simp only [spec_l13Word.f_eq, rd_f0, rd_f1, rd_agg, hf, h0, e, hf2, hp1, stk, Int.reduceEq, Nat.reduceEqDiff, Int.reduceLE, Int.reduceLT]
    exact Ev.now _
structure Aff where
  flag : ByteArray
  front : Bool
  strip : ByteArray
  add : ByteArray
  cond : ByteArray
def affP (a : Aff) : PV := .agg [strP a.flag, boolP a.front, strP a.strip, strP a.add, strP a.cond]
def affsP (l : List Aff) : PV := .list (l.map affP)
theorem aff_f0 (a : Aff) : (affP a).fld 0 = strP a.flag := rfl
theorem aff_f1 (a : Aff) : (affP a).fld 1 = boolP a.front := rfl
theorem aff_f2 (a : Aff) : (affP a).fld 2 = strP a.strip := rfl
theorem aff_f3 (a : Aff) : (affP a).fld 3 = strP a.add := rfl
theorem aff_f4 (a : Aff) : (affP a).fld 4 = strP a.cond := rfl
theorem aff_agg (a : Aff) : PV.agg [PV.sc (.string a.flag), PV.sc (.bool a.front), PV.sc (.string a.strip), PV.sc (.string a.add), PV.sc (.string a.cond)] = affP a := rfl
theorem affs_len (l : List Aff) : (affsP l).items.length = l.length := by simp [affsP, PV.items]
theorem affs_elem {l pre rest : List Aff} {a : Aff} (h : l = pre ++ a :: rest) : (affsP l).elem pre.length = affP a := by
  subst h
  simp [affsP, PV.elem, PV.items, List.getD_eq_getElem?_getD]
structure Ent where
  stem : ByteArray
  flags : ByteArray
def entP (e : Ent) : PV := .agg [strP e.stem, strP e.flags]
def entsP (l : List Ent) : PV := .list (l.map entP)
theorem ent_f0 (e : Ent) : (entP e).fld 0 = strP e.stem := rfl
theorem ent_f1 (e : Ent) : (entP e).fld 1 = strP e.flags := rfl
theorem ent_agg (e : Ent) : PV.agg [PV.sc (.string e.stem), PV.sc (.string e.flags)] = entP e := rfl
theorem ents_len (l : List Ent) : (entsP l).items.length = l.length := by simp [entsP, PV.items]
theorem ents_elem {l pre rest : List Ent} {a : Ent} (h : l = pre ++ a :: rest) : (entsP l).elem pre.length = entP a := by
  subst h
  simp [entsP, PV.elem, PV.items, List.getD_eq_getElem?_getD]
def bookP (af : List Aff) (es : List Ent) : PV := .agg [affsP af, entsP es]
theorem book_f0 (af : List Aff) (es : List Ent) : (bookP af es).fld 0 = affsP af := rfl
theorem book_f1 (af : List Aff) (es : List Ent) : (bookP af es).fld 1 = entsP es := rfl
theorem book_agg (af : List Aff) (es : List Ent) : PV.agg [affsP af, entsP es] = bookP af es := rfl
def begB (s p : ByteArray) : Bool := decide (p.size ≤ s.size) && decide (s.extract 0 p.size = p)
def endB (s p : ByteArray) : Bool := decide (p.size ≤ s.size) && decide (s.extract (s.size - p.size) s.size = p)
theorem l2Begins_val (s p : ByteArray) (N : Nat) : spec_l2Begins.f N [strP s, strP p] = some [boolP (begB s p)] := by
  by_cases h : p.size ≤ s.size
  · have h1 : ((p.size : Int) ≤ (s.size : Int)) = True := eq_true (by omega)
    simp only [spec_l2Begins.f_eq, h1, begB, h, nn, stk, Int.reduceEq, Nat.reduceEqDiff, Int.reduceLE, Int.reduceLT]
  · have h1 : ((p.size : Int) ≤ (s.size : Int)) = False := eq_false (by omega)
    simp only [spec_l2Begins.f_eq, h1, begB, h, stk, Int.reduceEq, Nat.reduceEqDiff, Int.reduceLE, Int.reduceLT]
theorem l2Ends_val (s p : ByteArray) (hs : s.size ≤ 9223372036854775807) (N : Nat) : spec_l2Ends.f N [strP s, strP p] = some [boolP (endB s p)] := by
  by_cases h : p.size ≤ s.size
  · have h1 : ((p.size : Int) ≤ (s.size : Int)) = True := eq_true (by omega)
    have w1 : IntKind.i64.wrap ((s.size : Int) - (p.size : Int)) = ((s.size - p.size : Nat) : Int) := nat_wrap (by omega) (by omega)
    have h2 : (((s.size - p.size : Nat) : Int) ≤ (s.size : Int)) = True := eq_true (by omega)
    simp only [spec_l2Ends.f_eq, h1, h2, w1, endB, h, nn, stk, Int.reduceEq, Nat.reduceEqDiff, Int.reduceLE, Int.reduceLT]
  · have h1 : ((p.size : Int) ≤ (s.size : Int)) = False := eq_false (by omega)
    simp only [spec_l2Ends.f_eq, h1, endB, h, stk, Int.reduceEq, Nat.reduceEqDiff, Int.reduceLE, Int.reduceLT]
def hasFrom (flags flag : ByteArray) : Nat → Nat → Bool
  | 0, _ => false
  | d + 1, i => decide (flags.extract i (i + 1) = flag) || hasFrom flags flag d (i + 1)
def hasB (flags flag : ByteArray) : Bool := hasFrom flags flag flags.size 0
theorem l2Has_loop (flags flag : ByteArray) (hs : flags.size ≤ 1000000) : ∀ d i : Nat, i + d = flags.size → Ev2 (fun N n => spec_l2Has.l0 N n flags flag (i : Int)) [boolP (hasFrom flags flag d i)] := by
  intro d
  induction d with
  | zero =>
    intro i hi
    refine Ev2.succ ?_
    have h0 : ((i : Int) < (flags.size : Int)) = False := eq_false (by omega)
    simp only [spec_l2Has.l0_eq, h0, hasFrom, stk, Int.reduceEq, Nat.reduceEqDiff, Int.reduceLE, Int.reduceLT]
    exact Ev2.now _
  | succ d ih =>
    intro i hi
    refine Ev2.succ ?_
    have h0 : ((i : Int) < (flags.size : Int)) = True := eq_true (by omega)
    have w1 : IntKind.i64.wrap ((i : Int) + 1) = ((i + 1 : Nat) : Int) := nat_wrap (by omega) (by omega)
    have h1 : ((i : Int) ≤ ((i + 1 : Nat) : Int)) = True := eq_true (by omega)
    have h2 : (((i + 1 : Nat) : Int) ≤ (flags.size : Int)) = True := eq_true (by omega)
    by_cases he : flags.extract i (i + 1) = flag
    · simp only [spec_l2Has.l0_eq, h0, h1, h2, w1, nn, hasFrom, he, Bool.true_or, stk, Int.reduceEq, Nat.reduceEqDiff, Int.reduceLE, Int.reduceLT]
      exact Ev2.now _
    · simp only [spec_l2Has.l0_eq, h0, h1, h2, w1, nn, hasFrom, he, Bool.false_or, stk, Int.reduceEq, Nat.reduceEqDiff, Int.reduceLE, Int.reduceLT]
      exact ih (i + 1) (by omega)
theorem l2Has_ev (flags flag : ByteArray) (hs : flags.size ≤ 1000000) : Ev (fun N => spec_l2Has.f N [strP flags, strP flag]) [boolP (hasB flags flag)] := by
  simp only [spec_l2Has.f_eq, stk, Int.reduceEq, Nat.reduceEqDiff, Int.reduceLE, Int.reduceLT]
  exact (l2Has_loop flags flag hs flags.size 0 (by omega)).diag
def formB (a : Aff) (s : ByteArray) : ByteArray := if a.front = true then a.add ++ s.extract a.strip.size s.size else s.extract 0 (s.size - a.strip.size) ++ a.add
def fitB (a : Aff) (s : ByteArray) : Bool := if a.front = true then begB s a.cond else endB s a.cond
def doB (a : Aff) (s : ByteArray) : Option ByteArray := if fitB a s = true then (if isWord (formB a s) = true then some (formB a s) else none) else none
def doR (a : Aff) (s : ByteArray) : List PV := if fitB a s = true then [strP (formB a s), boolP (isWord (formB a s))] else [strP ⟨#[]⟩, boolP false]
structure AffG (a : Aff) : Prop where
  strip : a.strip.size ≤ a.cond.size
  add : a.add.size ≤ 1000000
theorem l2Do_ev {a : Aff} (hg : AffG a) (s : ByteArray) (hs : s.size ≤ 1000000) : Ev (fun N => spec_l2Do.f N [affP a, strP s]) (doR a s) := by
  have h1 := hg.strip
  have h2 := hg.add
  have hE := l2Ends_val s a.cond (by omega)
  have hB := l2Begins_val s a.cond
  simp only [strP] at hE hB
  cases hf : a.front with
  | true =>
    have e1 : fitB a s = begB s a.cond := by simp [fitB, hf]
    have e2 : formB a s = a.add ++ s.extract a.strip.size s.size := by simp [formB, hf]
    unfold doR
    rw [e1, e2]
    cases hb : begB s a.cond with
    | false =>
      simp only [spec_l2Do.f_eq, aff_f0, aff_f1, aff_f2, aff_f3, aff_f4, hf, hB, hb, stk, Int.reduceEq, Nat.reduceEqDiff, Int.reduceLE, Int.reduceLT]
      exact Ev.now _
    | true =>
      have hz : a.cond.size ≤ s.size := by
        simp only [begB, Bool.and_eq_true, decide_eq_true_eq] at hb; exact hb.1
      have c1 : ((a.strip.size : Int) ≤ (s.size : Int)) = True := eq_true (by omega)
      have c2 : (a.add.size + (s.extract a.strip.size s.size).size ≤ 9223372036854775807) = True := eq_true (by rw [ByteArray.size_extract]; omega)
      have hw := specWord_ev (a.add ++ s.extract a.strip.size s.size) (by rw [ByteArray.size_append, ByteArray.size_extract]; omega)
      simp only [spec_l2Do.f_eq, aff_f0, aff_f1, aff_f2, aff_f3, aff_f4, hf, hB, hb, c1, c2, nn, stk, Int.reduceEq, Nat.reduceEqDiff, Int.reduceLE, Int.reduceLT]
      simp only [strP] at hw
      refine Ev.bind hw ?_
      simp only [stk, Int.reduceEq, Nat.reduceEqDiff, Int.reduceLE, Int.reduceLT]
      exact Ev.now _
  | false =>
    have e1 : fitB a s = endB s a.cond := by simp [fitB, hf]
    have e2 : formB a s = s.extract 0 (s.size - a.strip.size) ++ a.add := by simp [formB, hf]
    unfold doR
    rw [e1, e2]
    cases hb : endB s a.cond with
    | false =>
      simp only [spec_l2Do.f_eq, aff_f0, aff_f1, aff_f2, aff_f3, aff_f4, hf, hE, hb, stk, Int.reduceEq, Nat.reduceEqDiff, Int.reduceLE, Int.reduceLT]
      exact Ev.now _
    | true =>
      have hz : a.cond.size ≤ s.size := by
        simp only [endB, Bool.and_eq_true, decide_eq_true_eq] at hb; exact hb.1
      have w1 : IntKind.i64.wrap ((s.size : Int) - (a.strip.size : Int)) = ((s.size - a.strip.size : Nat) : Int) := nat_wrap (by omega) (by omega)
      have c1 : (((s.size - a.strip.size : Nat) : Int) ≤ (s.size : Int)) = True := eq_true (by omega)
      have c2 : ((s.extract 0 (s.size - a.strip.size)).size + a.add.size ≤ 9223372036854775807) = True := eq_true (by rw [ByteArray.size_extract]; omega)
      have hw := specWord_ev (s.extract 0 (s.size - a.strip.size) ++ a.add) (by rw [ByteArray.size_append, ByteArray.size_extract]; omega)
      simp only [spec_l2Do.f_eq, aff_f0, aff_f1, aff_f2, aff_f3, aff_f4, hf, hE, hb, w1, c1, c2, nn, stk, Int.reduceEq, Nat.reduceEqDiff, Int.reduceLE, Int.reduceLT]
      simp only [strP] at hw
      refine Ev.bind hw ?_
      simp only [stk, Int.reduceEq, Nat.reduceEqDiff, Int.reduceLE, Int.reduceLT]
      exact Ev.now _
def putO (o : Option ByteArray) (acc : List ByteArray) : List ByteArray := match o with
  | some x => insM x acc
  | none => acc
def oneL (a : Aff) : List ByteArray → List ByteArray → List ByteArray
  | [], acc => acc
  | w :: r, acc => oneL a r (putO (doB a w) acc)
def oneA (flags : ByteArray) (front : Bool) (ws : List ByteArray) : List Aff → List ByteArray → List ByteArray
  | [], acc => acc
  | a :: r, acc => oneA flags front ws r (if a.front = front ∧ hasB flags a.flag = true then oneL a ws acc else acc)
theorem putO_len (o : Option ByteArray) (acc : List ByteArray) : (putO o acc).length ≤ acc.length + 1 := by
  cases o with
  | none => simp [putO]
  | some x => exact insM_len x acc
theorem oneL_len (a : Aff) : ∀ (ws acc : List ByteArray), (oneL a ws acc).length ≤ acc.length + ws.length
  | [], acc => by simp [oneL]
  | w :: r, acc => by
    have h1 := oneL_len a r (putO (doB a w) acc)
    have h2 := putO_len (doB a w) acc
    rw [oneL, List.length_cons]; omega
theorem oneA_len (flags : ByteArray) (front : Bool) (ws : List ByteArray) : ∀ (af : List Aff) (acc : List ByteArray), (oneA flags front ws af acc).length ≤ acc.length + ws.length * af.length
  | [], acc => by simp [oneA]
  | a :: r, acc => by
    have h2 := oneL_len a ws acc
    rw [oneA, List.length_cons, Nat.mul_add, Nat.mul_one]
    split
    · have h1 := oneA_len flags front ws r (oneL a ws acc); omega
    · have h1 := oneA_len flags front ws r acc; omega
theorem doB_word {a : Aff} {w x : ByteArray} (h : doB a w = some x) : isWord x = true := by
  unfold doB at h
  split at h
  · split at h
    · rename_i hw; injection h with h; rw [← h]; exact hw
    · cases h
  · cases h
theorem oneL_mem (a : Aff) : ∀ (ws acc : List ByteArray) (x : ByteArray), x ∈ oneL a ws acc ↔ x ∈ acc ∨ ∃ w ∈ ws, doB a w = some x
  | [], acc, x => by simp [oneL]
  | w :: r, acc, x => by
    rw [oneL, oneL_mem a r]
    have hp : x ∈ putO (doB a w) acc ↔ x ∈ acc ∨ doB a w = some x := by
      cases hd : doB a w with
      | none => simp [putO]
      | some y =>
        simp only [putO, insM_mem, Option.some.injEq]
        constructor
        · rintro (h | h)
          · exact .inr h.symm
          · exact .inl h
        · rintro (h | h)
          · exact .inr h
          · exact .inl h.symm
    rw [hp]
    constructor
    · rintro ((h | h) | ⟨v, hv, h⟩)
      · exact .inl h
      · exact .inr ⟨w, by simp, h⟩
      · exact .inr ⟨v, by simp [hv], h⟩
    · rintro (h | ⟨v, hv, h⟩)
      · exact .inl (.inl h)
      · rcases List.mem_cons.1 hv with rfl | hv
        · exact .inl (.inr h)
        · exact .inr ⟨v, hv, h⟩
theorem oneA_mem (flags : ByteArray) (front : Bool) (ws : List ByteArray) : ∀ (af : List Aff) (acc : List ByteArray) (x : ByteArray), x ∈ oneA flags front ws af acc ↔ x ∈ acc ∨ ∃ a ∈ af, (a.front = front ∧ hasB flags a.flag = true) ∧ ∃ w ∈ ws, doB a w = some x
  | [], acc, x => by simp [oneA]
  | a :: r, acc, x => by
    rw [oneA, oneA_mem flags front ws r]
    split
    · rename_i hc
      rw [oneL_mem]
      constructor
      · rintro ((h | h) | ⟨b, hb, h⟩)
        · exact .inl h
        · exact .inr ⟨a, by simp, hc, h⟩
        · exact .inr ⟨b, by simp [hb], h⟩
      · rintro (h | ⟨b, hb, h1, h2⟩)
        · exact .inl (.inl h)
        · rcases List.mem_cons.1 hb with rfl | hb
          · exact .inl (.inr h2)
          · exact .inr ⟨b, hb, h1, h2⟩
    · rename_i hc
      constructor
      · rintro (h | ⟨b, hb, h⟩)
        · exact .inl h
        · exact .inr ⟨b, by simp [hb], h⟩
      · rintro (h | ⟨b, hb, h1, h2⟩)
        · exact .inl h
        · rcases List.mem_cons.1 hb with rfl | hb
          · exact absurd h1 hc
          · exact .inr ⟨b, hb, h1, h2⟩
theorem strs_mapL (l : List ByteArray) : PV.list (l.map strP) = strsP l := rfl
theorem one_l2 {af : List Aff} {flags : ByteArray} {front : Bool} {ws : List ByteArray} (hws : ∀ x ∈ ws, x.size ≤ 1000000) (hwl : ws.length ≤ 1000000) {pa ra : List Aff} {a : Aff} (ha : af = pa ++ a :: ra) (hg : AffG a) (hal : af.length ≤ 1000000) {r : List PV} :
    ∀ (rest pre acc : List ByteArray), ws = pre ++ rest → acc.length + rest.length ≤ 100000000 → Ev2 (fun N m => spec_l2One.l3 N m (affsP af) flags front (strsP ws) ((pa ++ [a]).length : Int) (strsP (oneL a rest acc))) r →
    Ev3 (fun N m n => spec_l2One.l2 N m n (affsP af) flags front (strsP ws) (pa.length : Int) (pre.length : Int) (strsP acc)) r := by
  intro rest
  induction rest with
  | nil =>
    intro pre acc hp hl hc
    refine Ev3.succ ?_
    simp only [spec_l2One.l2_eq, at_end hp, at_next ha (by omega), stk, Int.reduceEq, Nat.reduceEqDiff, Int.reduceLE, Int.reduceLT]
    exact hc.outer
  | cons w rest ih =>
    intro pre acc hp hl hc
    have hw : w.size ≤ 1000000 := hws w (by rw [hp]; simp)
    have hln := insM_len
    refine Ev3.succ ?_
    simp only [spec_l2One.l2_eq, at_lt hp, affs_len, affs_elem ha, at_lt ha, aff_f0, aff_f1, aff_f2, aff_f3, aff_f4, aff_agg, at_getD hp, at_next hp (by omega), stk, Int.reduceEq, Nat.reduceEqDiff, Int.reduceLE, Int.reduceLT]
    refine Ev3.bind (l2Do_ev hg w hw) ?_
    rw [oneL] at hc
    have hd := l2Do_ev hg w hw
    cases hf : fitB a w with
    | false =>
      have e : doB a w = none := by simp [doB, hf]
      rw [e] at hc
      simp only [doR, hf, stk, Int.reduceEq, Nat.reduceEqDiff, Int.reduceLE, Int.reduceLT]
      exact ih _ acc (at_step hp) (by rw [List.length_cons] at hl; omega) hc
    | true =>
      cases hi : isWord (formB a w) with
      | false =>
        have e : doB a w = none := by simp [doB, hf, hi]
        rw [e] at hc
        simp only [doR, hf, hi, stk, Int.reduceEq, Nat.reduceEqDiff, Int.reduceLE, Int.reduceLT]
        exact ih _ acc (at_step hp) (by rw [List.length_cons] at hl; omega) hc
      | true =>
        have e : doB a w = some (formB a w) := by simp [doB, hf, hi]
        rw [e] at hc
        have h3 := hln (formB a w) acc
        rw [List.length_cons] at hl
        simp only [doR, hf, hi, stk, Int.reduceEq, Nat.reduceEqDiff, Int.reduceLE, Int.reduceLT]
        refine Ev3.bind (put_ev acc (formB a w) (by omega)) ?_
        simp only [stk, Int.reduceEq, Nat.reduceEqDiff, Int.reduceLE, Int.reduceLT]
        exact ih _ _ (at_step hp) (by omega) hc
theorem one_l3 {af : List Aff} {flags : ByteArray} {front : Bool} {ws : List ByteArray} (hfl : flags.size ≤ 1000000) (hws : ∀ x ∈ ws, x.size ≤ 1000000) (hwl : ws.length ≤ 1000000) (hg : ∀ a ∈ af, AffG a) (hal : af.length ≤ 1000000) :
    ∀ (ra pa : List Aff) (acc : List ByteArray), af = pa ++ ra → acc.length + ws.length * ra.length ≤ 100000000 →
    Ev2 (fun N n => spec_l2One.l3 N n (affsP af) flags front (strsP ws) (pa.length : Int) (strsP acc)) [strsP (oneA flags front ws ra acc)] := by
  intro ra
  induction ra with
  | nil =>
    intro pa acc ha hl
    refine Ev2.succ ?_
    simp only [spec_l2One.l3_eq, affs_len, at_end ha, oneA, stk, Int.reduceEq, Nat.reduceEqDiff, Int.reduceLE, Int.reduceLT]
    exact Ev2.now _
  | cons a ra ih =>
    intro pa acc ha hl
    rw [List.length_cons, Nat.mul_add, Nat.mul_one] at hl
    have hga := hg a (by rw [ha]; simp)
    have hlen := oneL_len a ws acc
    refine Ev2.succ ?_
    simp only [spec_l2One.l3_eq, affs_len, affs_elem ha, at_lt ha, aff_f0, aff_f1, oneA, stk, Int.reduceEq, Nat.reduceEqDiff, Int.reduceLE, Int.reduceLT]
    by_cases hf : a.front = front
    · simp only [hf, true_and, stk, Int.reduceEq, Nat.reduceEqDiff, Int.reduceLE, Int.reduceLT]
      refine Ev2.bind (l2Has_ev flags a.flag hfl) ?_
      cases hh : hasB flags a.flag with
      | false =>
        simp only [at_next ha (by omega), stk, Int.reduceEq, Nat.reduceEqDiff, Int.reduceLE, Int.reduceLT]
        exact ih _ acc (at_step ha) (by omega)
      | true =>
        simp only [stk, Int.reduceEq, Nat.reduceEqDiff, Int.reduceLE, Int.reduceLT]
        exact (one_l2 hws hwl ha hga hal ws [] acc rfl (by omega) (ih _ _ (at_step ha) (by omega))).start
    · have hne : (a.front != front) = true := by simp [hf]
      simp only [hf, hne, false_and, at_next ha (by omega), stk, Int.reduceEq, Nat.reduceEqDiff, Int.reduceLE, Int.reduceLT]
      exact ih _ acc (at_step ha) (by omega)
theorem one_l1 {af : List Aff} {flags : ByteArray} {front : Bool} {ws : List ByteArray} (hws : ∀ x ∈ ws, x.size ≤ 1000000) (hwl : ws.length ≤ 1000000) {pa ra : List Aff} {a : Aff} (ha : af = pa ++ a :: ra) (hg : AffG a) (hal : af.length ≤ 1000000) {r : List PV} :
    ∀ (rest pre acc : List ByteArray), ws = pre ++ rest → acc.length + rest.length ≤ 100000000 → Ev2 (fun N m => spec_l2One.l3 N m (affsP af) flags front (strsP ws) ((pa ++ [a]).length : Int) (strsP (oneL a rest acc))) r →
    Ev2 (fun N m => spec_l2One.l0 N m (affsP af) flags front (strsP ws) ((pa ++ [a]).length : Int) ((oneL a rest acc).map strP)) r →
    Ev3 (fun N m n => spec_l2One.l1 N m n (affsP af) flags front (strsP ws) (pa.length : Int) (pre.length : Int) (acc.map strP)) r := by
  intro rest
  induction rest with
  | nil =>
    intro pre acc hp hl hc hc0
    refine Ev3.succ ?_
    simp only [spec_l2One.l1_eq, at_end hp, at_next ha (by omega), stk, Int.reduceEq, Nat.reduceEqDiff, Int.reduceLE, Int.reduceLT]
    exact hc0.outer
  | cons w rest ih =>
    intro pre acc hp hl hc hc0
    have hw : w.size ≤ 1000000 := hws w (by rw [hp]; simp)
    have hln := insM_len
    refine Ev3.succ ?_
    simp only [spec_l2One.l1_eq, at_lt hp, affs_len, affs_elem ha, at_lt ha, aff_f0, aff_f1, aff_f2, aff_f3, aff_f4, aff_agg, at_getD hp, at_next hp (by omega), strs_mapL, stk, Int.reduceEq, Nat.reduceEqDiff, Int.reduceLE, Int.reduceLT]
    refine Ev3.bind (l2Do_ev hg w hw) ?_
    rw [oneL] at hc hc0
    cases hf : fitB a w with
    | false =>
      have e : doB a w = none := by simp [doB, hf]
      rw [e] at hc hc0
      simp only [doR, hf, stk, Int.reduceEq, Nat.reduceEqDiff, Int.reduceLE, Int.reduceLT]
      exact ih _ acc (at_step hp) (by rw [List.length_cons] at hl; omega) hc hc0
    | true =>
      cases hi : isWord (formB a w) with
      | false =>
        have e : doB a w = none := by simp [doB, hf, hi]
        rw [e] at hc hc0
        simp only [doR, hf, hi, stk, Int.reduceEq, Nat.reduceEqDiff, Int.reduceLE, Int.reduceLT]
        exact ih _ acc (at_step hp) (by rw [List.length_cons] at hl; omega) hc hc0
      | true =>
        have e : doB a w = some (formB a w) := by simp [doB, hf, hi]
        rw [e] at hc
        have h3 := hln (formB a w) acc
        rw [List.length_cons] at hl
        simp only [doR, hf, hi, stk, Int.reduceEq, Nat.reduceEqDiff, Int.reduceLE, Int.reduceLT]
        refine Ev3.bind (put_ev acc (formB a w) (by omega)) ?_
        simp only [stk, Int.reduceEq, Nat.reduceEqDiff, Int.reduceLE, Int.reduceLT]
        exact one_l2 hws hwl ha hg hal rest _ _ (at_step hp) (by omega) hc
theorem one_l0 {af : List Aff} {flags : ByteArray} {front : Bool} {ws : List ByteArray} (hfl : flags.size ≤ 1000000) (hws : ∀ x ∈ ws, x.size ≤ 1000000) (hwl : ws.length ≤ 1000000) (hg : ∀ a ∈ af, AffG a) (hal : af.length ≤ 1000000) :
    ∀ (ra pa : List Aff) (acc : List ByteArray), af = pa ++ ra → acc.length + ws.length * ra.length ≤ 100000000 →
    Ev2 (fun N n => spec_l2One.l0 N n (affsP af) flags front (strsP ws) (pa.length : Int) (acc.map strP)) [strsP (oneA flags front ws ra acc)] := by
  intro ra
  induction ra with
  | nil =>
    intro pa acc ha hl
    refine Ev2.succ ?_
    simp only [spec_l2One.l0_eq, affs_len, at_end ha, oneA, strs_mapL, stk, Int.reduceEq, Nat.reduceEqDiff, Int.reduceLE, Int.reduceLT]
    exact Ev2.now _
  | cons a ra ih =>
    intro pa acc ha hl
    rw [List.length_cons, Nat.mul_add, Nat.mul_one] at hl
    have hga := hg a (by rw [ha]; simp)
    have hlen := oneL_len a ws acc
    refine Ev2.succ ?_
    simp only [spec_l2One.l0_eq, affs_len, affs_elem ha, at_lt ha, aff_f0, aff_f1, oneA, stk, Int.reduceEq, Nat.reduceEqDiff, Int.reduceLE, Int.reduceLT]
    by_cases hf : a.front = front
    · simp only [hf, true_and, stk, Int.reduceEq, Nat.reduceEqDiff, Int.reduceLE, Int.reduceLT]
      refine Ev2.bind (l2Has_ev flags a.flag hfl) ?_
      cases hh : hasB flags a.flag with
      | false =>
        simp only [at_next ha (by omega), stk, Int.reduceEq, Nat.reduceEqDiff, Int.reduceLE, Int.reduceLT]
        exact ih _ acc (at_step ha) (by omega)
      | true =>
        simp only [stk, Int.reduceEq, Nat.reduceEqDiff, Int.reduceLE, Int.reduceLT]
        exact (one_l1 hws hwl ha hga hal ws [] acc rfl (by omega) (one_l3 hfl hws hwl hg hal ra _ _ (at_step ha) (by omega)) (ih _ _ (at_step ha) (by omega))).start
    · have hne : (a.front != front) = true := by simp [hf]
      simp only [hf, hne, false_and, at_next ha (by omega), stk, Int.reduceEq, Nat.reduceEqDiff, Int.reduceLE, Int.reduceLT]
      exact ih _ acc (at_step ha) (by omega)
theorem one_ev {af : List Aff} {flags : ByteArray} {front : Bool} {ws : List ByteArray} (hfl : flags.size ≤ 1000000) (hws : ∀ x ∈ ws, x.size ≤ 1000000) (hwl : ws.length ≤ 10000) (hg : ∀ a ∈ af, AffG a) (hal : af.length ≤ 1000) :
    Ev (fun N => spec_l2One.f N [affsP af, strP flags, boolP front, strsP ws]) [strsP (oneA flags front ws af ws)] := by
  have c1 : (([] : List PV).length + ws.length ≤ 8796093022208) = True := eq_true (by simp; omega)
  have e : ([] : List PV) ++ (strsP ws).items = ws.map strP := rfl
  have hm : ws.length * af.length ≤ 10000 * 1000 := Nat.mul_le_mul hwl hal
  simp only [spec_l2One.f_eq, strs_len, c1, e, stk, Int.reduceEq, Nat.reduceEqDiff, Int.reduceLE, Int.reduceLT]
  exact (one_l0 hfl hws (by omega) hg (by omega) af [] ws rfl (by omega)).diag
def formsB (af : List Aff) (e : Ent) : List ByteArray := oneA e.flags true (oneA e.flags false [e.stem] af [e.stem]) af (oneA e.flags false [e.stem] af [e.stem])
theorem word_size {s : ByteArray} (h : isWord s = true) : s.size ≤ 12 := by
  simp only [isWord, Bool.and_eq_true, decide_eq_true_eq] at h; exact h.1.2
theorem formsB_mem {af : List Aff} {e : Ent} {x : ByteArray} (h : x ∈ formsB af e) : x = e.stem ∨ isWord x = true := by
  rw [formsB, oneA_mem] at h
  rcases h with h | ⟨a, _, _, w, _, hd⟩
  · rw [oneA_mem] at h
    rcases h with h | ⟨a, _, _, w, _, hd⟩
    · exact .inl (List.mem_singleton.1 h)
    · exact .inr (doB_word hd)
  · exact .inr (doB_word hd)
theorem formsB_len (af : List Aff) (e : Ent) : (formsB af e).length ≤ (1 + af.length) * (1 + af.length) := by
  have h1 := oneA_len e.flags false [e.stem] af [e.stem]
  have h2 := oneA_len e.flags true (oneA e.flags false [e.stem] af [e.stem]) af (oneA e.flags false [e.stem] af [e.stem])
  simp only [List.length_singleton, Nat.one_mul] at h1
  have h3 : (oneA e.flags false [e.stem] af [e.stem]).length * af.length ≤ (1 + af.length) * af.length := Nat.mul_le_mul_right _ h1
  have h4 : (1 + af.length) * (1 + af.length) = (1 + af.length) + (1 + af.length) * af.length := by rw [Nat.mul_add, Nat.mul_one]
  unfold formsB
  omega
theorem forms_ev {af : List Aff} (hg : ∀ a ∈ af, AffG a) (hal : af.length ≤ 100) (e : Ent) (hs : e.stem.size ≤ 1000000) (hf : e.flags.size ≤ 1000000) :
    Ev (fun N => spec_l2Forms.f N [affsP af, entP e]) [strsP (formsB af e)] := by
  have h1 := oneA_len e.flags false [e.stem] af [e.stem]
  simp only [List.length_singleton, Nat.one_mul] at h1
  have es : PV.list [PV.sc (.string e.stem)] = strsP [e.stem] := rfl
  simp only [spec_l2Forms.f_eq, ent_f0, ent_f1, es, stk, Int.reduceEq, Nat.reduceEqDiff, Int.reduceLE, Int.reduceLT]
  refine Ev.bind (one_ev (front := false) hf (by simpa using hs) (by simp) hg (by omega)) ?_
  simp only [stk, Int.reduceEq, Nat.reduceEqDiff, Int.reduceLE, Int.reduceLT]
  refine Ev.bind (one_ev (front := true) hf (fun x hx => ?_) (by omega) hg (by omega)) ?_
  · rw [oneA_mem] at hx
    rcases hx with hx | ⟨a, _, _, w, _, hd⟩
    · rw [List.mem_singleton.1 hx]; exact hs
    · have := word_size (doB_word hd); omega
  · simp only [stk, Int.reduceEq, Nat.reduceEqDiff, Int.reduceLE, Int.reduceLT]
    exact Ev.now _
def putL : List ByteArray → List ByteArray → List ByteArray
  | [], acc => acc
  | x :: r, acc => putL r (insM x acc)
theorem putL_mem : ∀ (l acc : List ByteArray) (x : ByteArray), x ∈ putL l acc ↔ x ∈ acc ∨ x ∈ l
  | [], acc, x => by simp [putL]
  | y :: r, acc, x => by
    rw [putL, putL_mem r, insM_mem, List.mem_cons]
    constructor
    · rintro ((h | h) | h)
      · exact .inr (.inl h)
      · exact .inl h
      · exact .inr (.inr h)
    · rintro (h | h | h)
      · exact .inl (.inr h)
      · exact .inl (.inl h)
      · exact .inr h
theorem putL_len : ∀ (l acc : List ByteArray), (putL l acc).length ≤ acc.length + l.length
  | [], acc => by simp [putL]
  | y :: r, acc => by
    have h1 := putL_len r (insM y acc)
    have h2 := insM_len y acc
    rw [putL, List.length_cons]; omega
def wordsL2 (af : List Aff) : List Ent → List ByteArray → List ByteArray
  | [], acc => acc
  | e :: r, acc => wordsL2 af r (putL (formsB af e) acc)
def bookW (af : List Aff) (es : List Ent) : List ByteArray := wordsL2 af es []
theorem wordsL2_mem (af : List Aff) : ∀ (es : List Ent) (acc : List ByteArray) (x : ByteArray), x ∈ wordsL2 af es acc ↔ x ∈ acc ∨ ∃ e ∈ es, x ∈ formsB af e
  | [], acc, x => by simp [wordsL2]
  | e :: r, acc, x => by
    rw [wordsL2, wordsL2_mem af r, putL_mem]
    constructor
    · rintro ((h | h) | ⟨f, hf, h⟩)
      · exact .inl h
      · exact .inr ⟨e, by simp, h⟩
      · exact .inr ⟨f, by simp [hf], h⟩
    · rintro (h | ⟨f, hf, h⟩)
      · exact .inl (.inl h)
      · rcases List.mem_cons.1 hf with rfl | hf
        · exact .inl (.inr h)
        · exact .inr ⟨f, hf, h⟩
theorem wordsL2_len (af : List Aff) : ∀ (es : List Ent) (acc : List ByteArray), (wordsL2 af es acc).length ≤ acc.length + es.length * ((1 + af.length) * (1 + af.length))
  | [], acc => by simp [wordsL2]
  | e :: r, acc => by
    have h1 := wordsL2_len af r (putL (formsB af e) acc)
    have h2 := putL_len (formsB af e) acc
    have h3 := formsB_len af e
    rw [wordsL2, List.length_cons, Nat.add_mul, Nat.one_mul]; omega
theorem words_l2 {af : List Aff} {es : List Ent} {fs : List ByteArray} (hfl : fs.length ≤ 1000000) {pe re : List Ent} {e : Ent} (he : es = pe ++ e :: re) (hel : es.length ≤ 1000000) {r : List PV} :
    ∀ (rest pre acc : List ByteArray), fs = pre ++ rest → acc.length + rest.length ≤ 100000000 → Ev2 (fun N m => spec_l2Words.l3 N m ((pe ++ [e]).length : Int) (affsP af) (entsP es) (strsP (putL rest acc))) r →
    Ev3 (fun N m n => spec_l2Words.l2 N m n (pe.length : Int) (pre.length : Int) (affsP af) (entsP es) (strsP acc) (strsP fs)) r := by
  intro rest
  induction rest with
  | nil =>
    intro pre acc hp hl hc
    refine Ev3.succ ?_
    simp only [spec_l2Words.l2_eq, at_end hp, at_next he (by omega), stk, Int.reduceEq, Nat.reduceEqDiff, Int.reduceLE, Int.reduceLT]
    exact hc.outer
  | cons w rest ih =>
    intro pre acc hp hl hc
    have h3 := insM_len w acc
    rw [List.length_cons] at hl
    refine Ev3.succ ?_
    simp only [spec_l2Words.l2_eq, at_lt hp, at_getD hp, at_next hp (by omega), stk, Int.reduceEq, Nat.reduceEqDiff, Int.reduceLE, Int.reduceLT]
    refine Ev3.bind (put_ev acc w (by omega)) ?_
    simp only [stk, Int.reduceEq, Nat.reduceEqDiff, Int.reduceLE, Int.reduceLT]
    exact ih _ _ (at_step hp) (by omega) hc
theorem words_l3 {af : List Aff} {es : List Ent} (hg : ∀ a ∈ af, AffG a) (hal : af.length ≤ 100) (hes : ∀ e ∈ es, e.stem.size ≤ 1000000 ∧ e.flags.size ≤ 1000000) (hel : es.length ≤ 1000) :
    ∀ (re pe : List Ent) (acc : List ByteArray), es = pe ++ re → acc.length + re.length * 12000 ≤ 50000000 →
    Ev2 (fun N n => spec_l2Words.l3 N n (pe.length : Int) (affsP af) (entsP es) (strsP acc)) [strsP (wordsL2 af re acc)] := by
  intro re
  induction re with
  | nil =>
    intro pe acc he hl
    refine Ev2.succ ?_
    simp only [spec_l2Words.l3_eq, ents_len, at_end he, wordsL2, stk, Int.reduceEq, Nat.reduceEqDiff, Int.reduceLE, Int.reduceLT]
    exact Ev2.now _
  | cons e re ih =>
    intro pe acc he hl
    obtain ⟨z1, z2⟩ := hes e (by rw [he]; simp)
    have h3 := formsB_len af e
    have h4 : (1 + af.length) * (1 + af.length) ≤ 101 * 101 := Nat.mul_le_mul (by omega) (by omega)
    have h5 := putL_len (formsB af e) acc
    rw [List.length_cons] at hl
    refine Ev2.succ ?_
    simp only [spec_l2Words.l3_eq, ents_len, ents_elem he, at_lt he, ent_f0, ent_f1, ent_agg, wordsL2, stk, Int.reduceEq, Nat.reduceEqDiff, Int.reduceLE, Int.reduceLT]
    refine Ev2.bind (forms_ev hg hal e z1 z2) ?_
    simp only [stk, Int.reduceEq, Nat.reduceEqDiff, Int.reduceLE, Int.reduceLT]
    exact (words_l2 (fs := formsB af e) (by omega) he (by omega) (formsB af e) [] acc rfl (by omega) (ih _ _ (at_step he) (by omega))).start
theorem words_l1 {af : List Aff} {es : List Ent} {fs : List ByteArray} (hfl : fs.length ≤ 1000000) {pe re : List Ent} {e : Ent} (he : es = pe ++ e :: re) (hel : es.length ≤ 1000000) {r : List PV} (acc : List ByteArray) (hl : acc.length + fs.length ≤ 100000000)
    (hc : Ev2 (fun N m => spec_l2Words.l3 N m ((pe ++ [e]).length : Int) (affsP af) (entsP es) (strsP (putL fs acc))) r) (hc0 : Ev2 (fun N m => spec_l2Words.l0 N m ((pe ++ [e]).length : Int) (affsP af) (entsP es) ((putL fs acc).map strP)) r) :
    Ev3 (fun N m n => spec_l2Words.l1 N m n (pe.length : Int) 0 (affsP af) (entsP es) (acc.map strP) (strsP fs)) r := by
  cases fs with
  | nil =>
    refine Ev3.succ ?_
    have h0 : ((0 : Int) < (([] : List ByteArray).length : Int)) = False := eq_false (by simp)
    simp only [spec_l2Words.l1_eq, strs_len, h0, at_next he (by omega), stk, Int.reduceEq, Nat.reduceEqDiff, Int.reduceLE, Int.reduceLT]
    exact hc0.outer
  | cons w rest =>
    have h3 := insM_len w acc
    rw [List.length_cons] at hl
    have hp : w :: rest = [] ++ w :: rest := rfl
    have e0 : (0 : Int) = (([] : List ByteArray).length : Int) := rfl
    have e0' : (0 : Int).toNat = ([] : List ByteArray).length := rfl
    refine Ev3.succ ?_
    rw [e0]
    simp only [spec_l2Words.l1_eq, at_lt hp, at_getD hp, at_next hp (by omega), strs_mapL, stk, Int.reduceEq, Nat.reduceEqDiff, Int.reduceLE, Int.reduceLT]
    refine Ev3.bind (put_ev acc w (by omega)) ?_
    simp only [stk, Int.reduceEq, Nat.reduceEqDiff, Int.reduceLE, Int.reduceLT]
    exact words_l2 hfl he hel rest _ _ (at_step hp) (by omega) hc
theorem words_l0 {af : List Aff} {es : List Ent} (hg : ∀ a ∈ af, AffG a) (hal : af.length ≤ 100) (hes : ∀ e ∈ es, e.stem.size ≤ 1000000 ∧ e.flags.size ≤ 1000000) (hel : es.length ≤ 1000) :
    ∀ (re pe : List Ent) (acc : List ByteArray), es = pe ++ re → acc.length + re.length * 12000 ≤ 50000000 →
    Ev2 (fun N n => spec_l2Words.l0 N n (pe.length : Int) (affsP af) (entsP es) (acc.map strP)) [strsP (wordsL2 af re acc)] := by
  intro re
  induction re with
  | nil =>
    intro pe acc he hl
    refine Ev2.succ ?_
    simp only [spec_l2Words.l0_eq, ents_len, at_end he, wordsL2, strs_mapL, stk, Int.reduceEq, Nat.reduceEqDiff, Int.reduceLE, Int.reduceLT]
    exact Ev2.now _
  | cons e re ih =>
    intro pe acc he hl
    obtain ⟨z1, z2⟩ := hes e (by rw [he]; simp)
    have h3 := formsB_len af e
    have h4 : (1 + af.length) * (1 + af.length) ≤ 101 * 101 := Nat.mul_le_mul (by omega) (by omega)
    have h5 := putL_len (formsB af e) acc
    rw [List.length_cons] at hl
    refine Ev2.succ ?_
    simp only [spec_l2Words.l0_eq, ents_len, ents_elem he, at_lt he, ent_f0, ent_f1, ent_agg, wordsL2, stk, Int.reduceEq, Nat.reduceEqDiff, Int.reduceLE, Int.reduceLT]
    refine Ev2.bind (forms_ev hg hal e z1 z2) ?_
    simp only [stk, Int.reduceEq, Nat.reduceEqDiff, Int.reduceLE, Int.reduceLT]
    exact (words_l1 (fs := formsB af e) (by omega) he (by omega) acc (by omega) (words_l3 hg hal hes hel re _ _ (at_step he) (by omega)) (ih _ _ (at_step he) (by omega))).start
theorem bookW_ev {af : List Aff} {es : List Ent} (hg : ∀ a ∈ af, AffG a) (hal : af.length ≤ 100) (hes : ∀ e ∈ es, e.stem.size ≤ 1000000 ∧ e.flags.size ≤ 1000000) (hel : es.length ≤ 1000) :
    Ev (fun N => spec_l2Words.f N [bookP af es]) [strsP (bookW af es)] := by
  simp only [spec_l2Words.f_eq, book_f0, book_f1]
  exact (words_l0 hg hal hes hel es [] [] rfl (by simp; omega)).diag
def noW (s : ByteArray) : Bool := s.data.toList.all fun c => c != 119
theorem noW_app {a b : ByteArray} (ha : noW a = true) (hb : noW b = true) : noW (a ++ b) = true := by
  unfold noW at *
  rw [ByteArray.data_append, Array.toList_append, List.all_append, ha, hb]; rfl
theorem noW_in {l : List ByteArray} (h : l.all noW = true) {s : ByteArray} (hs : s ∈ l) : noW s = true := List.all_eq_true.1 h s hs
theorem wordX_loop {b : PV} (hb : Code1 b) : ∀ (c p : Nat) (x : ByteArray), p + c < 1000000000 → x.size + 2 * c ≤ 12 → (1 ≤ c ∨ 1 ≤ x.size) → noW x = true → ∃ (r : ByteArray) (q : Nat), q ≤ p + c ∧ 1 ≤ r.size ∧ r.size ≤ 12 ∧ noW r = true ∧ Ev2 (fun N n => spec_l13Word.l0 N n x (c : Int) b (p : Int)) [strP r, rdP b (q : Int)] := by
  intro c
  induction c with
  | zero =>
    intro p x hp hx h1 hno
    refine ⟨x, p, by omega, by omega, by omega, hno, Ev2.succ ?_⟩
    have h0 : ¬ (0 : Int) < ((0 : Nat) : Int) := by omega
    have hm : (if (x.size : Int) < 12 then (x.size : Int) else 12) = (x.size : Int) := by split <;> omega
    simp only [spec_l13Word.l0_eq, h0, least_val, hm, stk, Int.reduceEq, Nat.reduceEqDiff, Int.reduceLE, Int.reduceLT, extract_all, rd_agg]
    exact Ev2.now _
  | succ c ih =>
    intro p x hp hx h1 hno
    obtain ⟨s, hs, hf⟩ := of_ev hb (p := (p : Int)) (by omega) [ByteArray.mk #[97], ByteArray.mk #[98], ByteArray.mk #[99], ByteArray.mk #[97, 98], ByteArray.mk #[116]] (by simp)
    have hsz : 1 ≤ s.size ∧ s.size ≤ 2 := by
      have ha : ∀ s ∈ [ByteArray.mk #[97], ByteArray.mk #[98], ByteArray.mk #[99], ByteArray.mk #[97, 98], ByteArray.mk #[116]], 1 ≤ s.size ∧ s.size ≤ 2 := szs_in rfl
      exact ha s hs
    have hsn : noW s = true := noW_in (l := [ByteArray.mk #[97], ByteArray.mk #[98], ByteArray.mk #[99], ByteArray.mk #[97, 98], ByteArray.mk #[116]]) (by decide) hs
    obtain ⟨r, q, h2, h3, h4, h6, h5⟩ := ih (p + 1) (x ++ s) (by omega) (by rw [ByteArray.size_append]; omega) (.inr (by rw [ByteArray.size_append]; omega)) (noW_app hno hsn)
    refine ⟨r, q, by omega, h3, h4, h6, Ev2.succ ?_⟩
    have h0 : (0 : Int) < ((c + 1 : Nat) : Int) := by omega
    have hw : IntKind.i64.wrap (((c + 1 : Nat) : Int) - 1) = (c : Int) := by rw [wrap_id (by omega) (by omega)]; omega
    have hl : x.size + s.size ≤ 9223372036854775807 := by omega
    have hp1 : ((p : Int) + 1) = ((p + 1 : Nat) : Int) := by omega
    have e : PV.list [PV.sc (.string (ByteArray.mk #[97])), PV.sc (.string (ByteArray.mk #[98])), PV.sc (.string (ByteArray.mk #[99])), PV.sc (.string (ByteArray.mk #[97, 98])), PV.sc (.string (ByteArray.mk #[116]))] = strsP [ByteArray.mk #[97], ByteArray.mk #[98], ByteArray.mk #[99], ByteArray.mk #[97, 98], ByteArray.mk #[116]] := rfl
    simp only [spec_l13Word.l0_eq, h0, hw, hl, e, rd_agg, hf, rd_f0, rd_f1, hp1, stk, Int.reduceEq, Nat.reduceEqDiff, Int.reduceLE, Int.reduceLT]
    exact h5
theorem wordX_ev {b : PV} (hb : Code1 b) (p : Nat) (hp : p < 900000000) : ∃ (r : ByteArray) (q : Nat), q ≤ p + 10 ∧ 1 ≤ r.size ∧ r.size ≤ 12 ∧ noW r = true ∧ Ev (fun N => spec_l13Word.f N [rdP b (p : Int)]) [strP r, rdP b (q : Int)] := by
  obtain ⟨k, hk, hf⟩ := pick_ev hb (p := (p : Int)) (n := 3) (by omega) (by omega)
  by_cases h0 : k = 0
  · obtain ⟨k2, hk2, hf2⟩ := pick_ev hb (p := (p : Int) + 1) (n := 5) (by omega) (by omega)
    obtain ⟨j, rfl⟩ := Int.eq_ofNat_of_zero_le hk2.1
    obtain ⟨r, q, h2, h3, h4, h6, h5⟩ := wordX_loop hb (1 + j) (p + 2) ⟨#[]⟩ (by omega) (by have : (ByteArray.mk #[]).size = 0 := rfl; omega) (.inl (by omega)) rfl
    refine ⟨r, q, by omega, h3, h4, h6, ?_⟩
    have hw : IntKind.i64.wrap (1 + (j : Int)) = ((1 + j : Nat) : Int) := by rw [wrap_id (by omega) (by omega)]; omega
    have hp1 : ((p : Int) + 1 + 1) = ((p + 2 : Nat) : Int) := by omega
    simp only [spec_l13Word.f_eq, rd_f0, rd_f1, rd_agg, hf, h0, hf2, hw, hp1, stk, Int.reduceEq, Nat.reduceEqDiff, Int.reduceLE, Int.reduceLT]
    exact h5.diag
  · obtain ⟨s, hs, hf2⟩ := of_ev hb (p := (p : Int) + 1) (by omega) wordsL (by simp [wordsL])
    have ha : ∀ s ∈ wordsL, 1 ≤ s.size ∧ s.size ≤ 12 := szs_in rfl
    refine ⟨s, p + 2, by omega, (ha s hs).1, (ha s hs).2, noW_in (l := wordsL) (by decide) hs, ?_⟩
    have hp1 : ((p : Int) + 1 + 1) = ((p + 2 : Nat) : Int) := by omega
    have e : PV.list [PV.sc (.string (ByteArray.mk #[99, 97, 116])), PV.sc (.string (ByteArray.mk #[99, 97, 116, 115])), PV.sc (.string (ByteArray.mk #[97, 99, 116])), PV.sc (.string (ByteArray.mk #[100, 111])), PV.sc (.string (ByteArray.mk #[100, 111, 105, 110, 103])), PV.sc (.string (ByteArray.mk #[103, 111])), PV.sc (.string (ByteArray.mk #[117, 110, 100, 111])), PV.sc (.string (ByteArray.mk #[116, 114, 121])), PV.sc (.string (ByteArray.mk #[116, 114, 105, 101, 115])), PV.sc (.string (ByteArray.mk #[97])), PV.sc (.string (ByteArray.mk #[98, 97, 107, 101])), PV.sc (.string (ByteArray.mk #[98, 97, 107, 105, 110, 103])), PV.sc (.string (ByteArray.mk #[116, 97, 99, 116])), PV.sc (.string (ByteArray.mk #[99, 97, 114, 116])), PV.sc (.string (ByteArray.mk #[97, 98, 99, 97, 98, 99, 97, 98, 99, 97, 98, 99]))] = strsP wordsL := rfl
    simp only [spec_l13Word.f_eq, rd_f0, rd_f1, rd_agg, hf, h0, e, hf2, hp1, stk, Int.reduceEq, Nat.reduceEqDiff, Int.reduceLE, Int.reduceLT]
    exact Ev.now _
def affLL : List Aff := [⟨⟨#[83]⟩, false, ⟨#[]⟩, ⟨#[115]⟩, ⟨#[]⟩⟩, ⟨⟨#[83]⟩, false, ⟨#[121]⟩, ⟨#[105, 101, 115]⟩, ⟨#[121]⟩⟩, ⟨⟨#[71]⟩, false, ⟨#[]⟩, ⟨#[105, 110, 103]⟩, ⟨#[]⟩⟩, ⟨⟨#[71]⟩, false, ⟨#[101]⟩, ⟨#[105, 110, 103]⟩, ⟨#[101]⟩⟩, ⟨⟨#[85]⟩, true, ⟨#[]⟩, ⟨#[117, 110]⟩, ⟨#[]⟩⟩, ⟨⟨#[82]⟩, true, ⟨#[97]⟩, ⟨#[98]⟩, ⟨#[97]⟩⟩, ⟨⟨#[84]⟩, false, ⟨#[]⟩, ⟨#[116]⟩, ⟨#[97, 99]⟩⟩, ⟨⟨#[67]⟩, false, ⟨#[]⟩, ⟨#[97, 98, 99]⟩, ⟨#[]⟩⟩]
theorem affLL_good : ∀ a ∈ affLL, AffG a := fun a ha => by
  have h : (affLL.all fun a => decide (a.strip.size ≤ a.cond.size ∧ a.add.size ≤ 1000000)) = true := rfl
  have := of_decide_eq_true (List.all_eq_true.1 h a ha)
  exact ⟨this.1, this.2⟩
theorem affix_ev {b : PV} (hb : Code1 b) (p : Nat) (hp : p < 900000000) : ∃ a ∈ affLL, ∀ N, spec_l13Affix.f N [rdP b (p : Int)] = some [affP a, rdP b ((p + 1 : Nat) : Int)] := by
  obtain ⟨k, hk, hf⟩ := pick_ev hb (p := (p : Int)) (n := (8 : Int)) (by omega) (by omega)
  obtain ⟨j, rfl⟩ := Int.eq_ofNat_of_zero_le hk.1
  have hj : j < affLL.length := by have : affLL.length = 8 := rfl; omega
  have hj8 : ((j : Int) < 8) = True := eq_true (by omega)
  have hp1 : (p : Int) + 1 = ((p + 1 : Nat) : Int) := by omega
  rw [hp1] at hf
  obtain ⟨pre, rest, hpr, hpl⟩ : ∃ pre rest, affLL = pre ++ affLL[j] :: rest ∧ pre.length = j := ⟨affLL.take j, affLL.drop (j + 1), by rw [← List.drop_eq_getElem_cons hj, List.take_append_drop], by rw [List.length_take]; omega⟩
  have he := affs_elem hpr
  rw [hpl] at he
  refine ⟨affLL[j], List.getElem_mem hj, fun N => ?_⟩
  have e8 : ((affLL.map affP).length : Int) = 8 := rfl
  have hall : spec_l13Affix.f N [rdP b (p : Int)] = (spec_l1Rd_pick.f N [rdP b (p : Int), intP ((affLL.map affP).length : Int)]).bind fun t1 => if 0 ≤ ((t1.headD default).toInt) then (if ((t1.headD default).toInt) < ((affLL.map affP).length : Int) then (some [(PV.agg [(PV.sc (.string ((((affsP affLL).elem (((t1.headD default).toInt).toNat)).fld 0).toStr))), (PV.sc (.bool ((((affsP affLL).elem (((t1.headD default).toInt).toNat)).fld 1).toBool))), (PV.sc (.string ((((affsP affLL).elem (((t1.headD default).toInt).toNat)).fld 2).toStr))), (PV.sc (.string ((((affsP affLL).elem (((t1.headD default).toInt).toNat)).fld 3).toStr))), (PV.sc (.string ((((affsP affLL).elem (((t1.headD default).toInt).toNat)).fld 4).toStr)))]), (PV.agg [(rdP b (p : Int)).fld 0, (PV.sc (.int .i64 (((t1.tail.headD default).fld 1).toInt)))])]) else none) else none := spec_l13Affix.f_eq N _
  rw [hall, e8, hf]
  simp only [hj8, nn, he, aff_f0, aff_f1, aff_f2, aff_f3, aff_f4, aff_agg, rd_f0, rd_f1, rd_agg, stk, Int.reduceEq, Nat.reduceEqDiff, Int.reduceLE, Int.reduceLT]
structure AffsB (l : List Aff) (n : Nat) : Prop where
  n : l.length ≤ n
  s : ∀ a ∈ l, a ∈ affLL
theorem affs_snoc (l : List Aff) (a : Aff) : l.map affP ++ [affP a] = (l ++ [a]).map affP := by simp
theorem affixes_l1 {b : PV} (l : List Aff) (hl : l.length ≤ 100) (a : Aff) (c q : Nat) (hc : c < 100) {Q : List Aff → List PV → Prop}
    (hnext : ∀ l', l' = l ∨ l' = l ++ [a] → ∃ r, Q l' r ∧ Ev2 (fun N m => spec_l13Affixes.l0 N m (c : Int) b (q : Int) (l'.map affP)) r) :
    ∀ (rest pre : List Aff) (known : Bool), l = pre ++ rest → ∃ l', (l' = l ∨ l' = l ++ [a]) ∧ ∃ r, Q l' r ∧ Ev3 (fun N m n => spec_l13Affixes.l1 N m n ((c + 1 : Nat) : Int) known (pre.length : Int) b (q : Int) (l.map affP) a.flag a.front a.strip a.add a.cond) r := by
  have w1 : IntKind.i64.wrap (((c + 1 : Nat) : Int) - 1) = (c : Int) := nat_wrap (by omega) (by omega)
  have c1 : (l.length + 1 ≤ 1954687338268) = True := eq_true (by omega)
  intro rest
  induction rest with
  | nil =>
    intro pre known hp
    cases known with
    | true =>
      obtain ⟨r, hq, hv⟩ := hnext l (.inl rfl)
      refine ⟨l, .inl rfl, r, hq, Ev3.succ ?_⟩
      simp only [spec_l13Affixes.l1_eq, List.length_map, at_end hp, w1, stk, Int.reduceEq, Nat.reduceEqDiff, Int.reduceLE, Int.reduceLT]
      exact hv.outer
    | false =>
      obtain ⟨r, hq, hv⟩ := hnext (l ++ [a]) (.inr rfl)
      refine ⟨l ++ [a], .inr rfl, r, hq, Ev3.succ ?_⟩
      simp only [spec_l13Affixes.l1_eq, List.length_map, at_end hp, w1, c1, aff_agg, affs_snoc, stk, Int.reduceEq, Nat.reduceEqDiff, Int.reduceLE, Int.reduceLT]
      exact hv.outer
  | cons x rest ih =>
    intro pre known hp
    cases known with
    | true =>
      obtain ⟨l', h1, r, h2, h3⟩ := ih _ true (at_step hp)
      refine ⟨l', h1, r, h2, Ev3.succ ?_⟩
      simp only [spec_l13Affixes.l1_eq, List.length_map, at_lt hp, at_next hp (by omega), stk, Int.reduceEq, Nat.reduceEqDiff, Int.reduceLE, Int.reduceLT]
      exact h3
    | false =>
      have e : PV.list (l.map affP) = affsP l := rfl
      obtain ⟨kn, hkn⟩ : ∃ kn : Bool, kn = ((decide ((((affP x).fld 0).toStr).toList = a.flag.toList) && ((((affP x).fld 1).toBool == a.front) && (decide ((((affP x).fld 2).toStr).toList = a.strip.toList) && (decide ((((affP x).fld 3).toStr).toList = a.add.toList) && (decide ((((affP x).fld 4).toStr).toList = a.cond.toList) && true)))))) := ⟨_, rfl⟩
      obtain ⟨l', h1, r, h2, h3⟩ := ih _ kn (at_step hp)
      refine ⟨l', h1, r, h2, Ev3.succ ?_⟩
      simp only [spec_l13Affixes.l1_eq, List.length_map, at_lt hp, at_next hp (by omega), e, nat_int, affs_elem hp, ← hkn, nn, if_true, if_false, decide_true, decide_false, Bool.false_eq_true, Bool.true_eq_false]
      exact h3
theorem affixes_l0 {b : PV} (hb : Code1 b) : ∀ (c p : Nat) (l : List Aff), p + c < 800000000 → c < 100 → AffsB l (100 - c) → ∃ (r : List Aff) (q : Nat), q ≤ p + c ∧ AffsB r 100 ∧ r.length ≤ l.length + c ∧ Ev2 (fun N n => spec_l13Affixes.l0 N n (c : Int) b (p : Int) (l.map affP)) [affsP r, rdP b (q : Int)] := by
  intro c
  induction c with
  | zero =>
    intro p l hp hc hl
    refine ⟨l, p, by omega, ⟨by have := hl.n; omega, hl.s⟩, by omega, Ev2.succ ?_⟩
    have h0 : ¬ (0 : Int) < ((0 : Nat) : Int) := by omega
    have e : PV.list (l.map affP) = affsP l := rfl
    simp only [spec_l13Affixes.l0_eq, h0, e, rd_agg, stk, Int.reduceEq, Nat.reduceEqDiff, Int.reduceLE, Int.reduceLT]
    exact Ev2.now _
  | succ c ih =>
    intro p l hp hc hl
    have h0 : (0 : Int) < ((c + 1 : Nat) : Int) := by omega
    have hln := hl.n
    obtain ⟨a, ha, hf⟩ := affix_ev hb p (by omega)
    obtain ⟨l', hl', r, ⟨r', q, h1, h2, h3, h4⟩, hv⟩ := affixes_l1 (b := b) l (by omega) a c (p + 1) (by omega) (Q := fun l' r => ∃ r' q, q ≤ p + 1 + c ∧ AffsB r' 100 ∧ r'.length ≤ l.length + 1 + c ∧ r = [affsP r', rdP b ((q : Nat) : Int)])
      (fun l' hl' => by
        have hB : AffsB l' (100 - c) ∧ l'.length ≤ l.length + 1 := by
          rcases hl' with rfl | rfl
          · exact ⟨⟨by omega, hl.s⟩, by omega⟩
          · refine ⟨⟨by rw [List.length_append, List.length_singleton]; omega, all_snoc hl.s ha⟩, by rw [List.length_append, List.length_singleton]; omega⟩
        obtain ⟨r', q, h1, h2, h3, h4⟩ := ih (p + 1) l' (by omega) (by omega) hB.1
        exact ⟨_, ⟨r', q, h1, h2, by have := hB.2; omega, rfl⟩, h4⟩) l [] false rfl
    refine ⟨r', q, by omega, h2, by omega, Ev2.succ ?_⟩
    rw [h4] at hv
    simp only [spec_l13Affixes.l0_eq, h0, rd_agg, hf, rd_f1, aff_f0, aff_f1, aff_f2, aff_f3, aff_f4, stk, Int.reduceEq, Nat.reduceEqDiff, Int.reduceLE, Int.reduceLT]
    exact hv.start
theorem affixes_ev {b : PV} (hb : Code1 b) (p : Nat) (hp : p < 700000000) : ∃ (r : List Aff) (q : Nat), q ≤ p + 10 ∧ AffsB r 4 ∧ Ev (fun N => spec_l13Affixes.f N [rdP b (p : Int)]) [affsP r, rdP b (q : Int)] := by
  obtain ⟨c, hc, hf⟩ := pick_ev hb (p := (p : Int)) (n := 5) (by omega) (by omega)
  obtain ⟨c, rfl⟩ := Int.eq_ofNat_of_zero_le hc.1
  have hp1 : (p : Int) + 1 = ((p + 1 : Nat) : Int) := by omega
  rw [hp1] at hf
  obtain ⟨r, q, h1, h2, h3, h4⟩ := affixes_l0 hb c (p + 1) [] (by omega) (by omega) ⟨by simp, by simp⟩
  refine ⟨r, q, by omega, ⟨by simp at h3; omega, h2.s⟩, ?_⟩
  simp only [spec_l13Affixes.f_eq, rd_f0, rd_f1, rd_agg, hf, stk, Int.reduceEq, Nat.reduceEqDiff, Int.reduceLE, Int.reduceLT]
  exact h4.diag
def flagsL : List ByteArray := [⟨#[]⟩, ⟨#[]⟩, ⟨#[83]⟩, ⟨#[71, 83]⟩, ⟨#[85]⟩, ⟨#[71, 85]⟩, ⟨#[82]⟩, ⟨#[84]⟩, ⟨#[67, 82, 83, 85]⟩]
theorem flags_size {s : ByteArray} (h : s ∈ flagsL) : s.size ≤ 4 := (szs_in (l := flagsL) (a := 0) (b := 4) rfl s h).2
theorem entry_ev {b : PV} (hb : Code1 b) (p : Nat) (hp : p < 900000000) (s : ByteArray) : ∃ f ∈ flagsL, ∀ N, spec_l13Entry.f N [rdP b (p : Int), strP s] = some [entP ⟨s, f⟩, rdP b ((p + 1 : Nat) : Int)] := by
  obtain ⟨f, hm, hf⟩ := of_ev hb (p := (p : Int)) (by omega) flagsL (by simp [flagsL])
  have e : PV.list [PV.sc (.string (ByteArray.mk #[])), PV.sc (.string (ByteArray.mk #[])), PV.sc (.string (ByteArray.mk #[83])), PV.sc (.string (ByteArray.mk #[71, 83])), PV.sc (.string (ByteArray.mk #[85])), PV.sc (.string (ByteArray.mk #[71, 85])), PV.sc (.string (ByteArray.mk #[82])), PV.sc (.string (ByteArray.mk #[84])), PV.sc (.string (ByteArray.mk #[67, 82, 83, 85]))] = strsP flagsL := rfl
  have hp1 : (p : Int) + 1 = ((p + 1 : Nat) : Int) := by omega
  rw [hp1] at hf
  have e2 : PV.agg [PV.sc (.string s), PV.sc (.string f)] = entP ⟨s, f⟩ := rfl
  refine ⟨f, hm, fun N => ?_⟩
  simp only [spec_l13Entry.f_eq, rd_f0, rd_f1, rd_agg, e, hf, e2, stk, Int.reduceEq, Nat.reduceEqDiff, Int.reduceLE, Int.reduceLT]
structure BookB (af : List Aff) (es : List Ent) : Prop where
  a : AffsB af 4
  n : es.length ≤ 24
  s : ∀ e ∈ es, e.stem.size ≤ 12 ∧ e.flags ∈ flagsL
theorem ents_snoc (l : List Ent) (e : Ent) : l.map entP ++ [entP e] = (l ++ [e]).map entP := by simp
theorem book_l7 {b : PV} (hb : Code1 b) (af : List Aff) (ws : List ByteArray) (hwl : ws.length ≤ 100) (hws : ∀ x ∈ ws, x.size ≤ 12) : ∀ (rest pre : List ByteArray) (es : List Ent) (p : Nat), ws = pre ++ rest → p + rest.length < 900000000 → es.length = pre.length → (∀ e ∈ es, e.stem.size ≤ 12 ∧ e.flags ∈ flagsL) →
    ∃ (r : List Ent) (q : Nat), q ≤ p + rest.length ∧ r.length = ws.length ∧ (∀ e ∈ r, e.stem.size ≤ 12 ∧ e.flags ∈ flagsL) ∧ Ev2 (fun N n => spec_l13Book.l7 N n (pre.length : Int) b (p : Int) (strsP ws) (affsP af) (es.map entP)) [bookP af r, rdP b (q : Int)] := by
  intro rest
  induction rest with
  | nil =>
    intro pre es p hp hpb hl hes
    refine ⟨es, p, by omega, by rw [hp, hl]; simp, hes, Ev2.succ ?_⟩
    have e : PV.agg [affsP af, PV.list (es.map entP)] = bookP af es := rfl
    simp only [spec_l13Book.l7_eq, at_end hp, e, rd_agg, stk, Int.reduceEq, Nat.reduceEqDiff, Int.reduceLE, Int.reduceLT]
    exact Ev2.now _
  | cons w rest ih =>
    intro pre es p hp hpb hl hes
    rw [List.length_cons] at hpb
    have hw := hws w (by rw [hp]; simp)
    obtain ⟨f, hm, hf⟩ := entry_ev hb p (by omega) w
    simp only [strP] at hf
    have hln := at_ltN hp
    have c1 : (es.length + 1 ≤ 4398046511104) = True := eq_true (by omega)
    obtain ⟨r, q, h1, h2, h3, h4⟩ := ih _ (es ++ [⟨w, f⟩]) (p + 1) (at_step hp) (by omega) (by simp [hl]) (all_snoc hes ⟨hw, hm⟩)
    refine ⟨r, q, by rw [List.length_cons]; omega, h2, h3, Ev2.succ ?_⟩
    simp only [spec_l13Book.l7_eq, at_lt hp, at_getD hp, at_next hp (by omega), hf, rd_agg, rd_f1, ent_f0, ent_f1, List.length_map, c1, stk, Int.reduceEq, Nat.reduceEqDiff, Int.reduceLE, Int.reduceLT]
    rw [ent_agg ⟨w, f⟩, ents_snoc]
    exact h4
theorem book_l5 {b : PV} (hb : Code1 b) (af : List Aff) (ws : List ByteArray) (hwl : ws.length ≤ 100) (hws : ∀ x ∈ ws, x.size ≤ 12) (p : Nat) (hpb : p < 800000000) :
    ∃ (r : List Ent) (q : Nat), q ≤ p + ws.length ∧ r.length = ws.length ∧ (∀ e ∈ r, e.stem.size ≤ 12 ∧ e.flags ∈ flagsL) ∧ Ev2 (fun N n => spec_l13Book.l5 N n 0 b (p : Int) (strsP ws) (affsP af)) [bookP af r, rdP b (q : Int)] := by
  cases ws with
  | nil =>
    have e : PV.agg [affsP af, PV.list []] = bookP af [] := rfl
    have h0 : ((0 : Int) < (([] : List ByteArray).length : Int)) = False := eq_false (by simp)
    refine ⟨[], p, by omega, rfl, by simp, Ev2.succ ?_⟩
    simp only [spec_l13Book.l5_eq, strs_len, h0, e, rd_agg, stk, Int.reduceEq, Nat.reduceEqDiff, Int.reduceLE, Int.reduceLT]
    exact Ev2.now _
  | cons w rest =>
    have hw := hws w (by simp)
    have hp : w :: rest = [] ++ w :: rest := rfl
    have e0 : (0 : Int) = (([] : List ByteArray).length : Int) := rfl
    rw [List.length_cons] at hwl
    obtain ⟨f, hm, hf⟩ := entry_ev hb p (by omega) w
    simp only [strP] at hf
    obtain ⟨r, q, h1, h2, h3, h4⟩ := book_l7 hb af (w :: rest) (by rw [List.length_cons]; omega) hws rest [w] [⟨w, f⟩] (p + 1) rfl (by omega) rfl (by simpa using ⟨hw, hm⟩)
    refine ⟨r, q, by rw [List.length_cons]; omega, h2, h3, Ev2.succ ?_⟩
    have c1 : (([] : List PV).length + 1 ≤ 4398046511104) = True := eq_true (by simp)
    rw [e0]
    simp only [spec_l13Book.l5_eq, at_lt hp, at_getD hp, at_next hp (by rw [List.length_cons]; omega), hf, rd_agg, rd_f1, ent_f0, ent_f1, c1, List.nil_append, stk, Int.reduceEq, Nat.reduceEqDiff, Int.reduceLE, Int.reduceLT]
    rw [ent_agg ⟨w, f⟩]
    exact h4
def wB (k : Nat) : ByteArray := (ByteArray.mk #[119]) ++ (bytesOfL [(PV.sc (.int .u8 (IntKind.u8.wrap (IntKind.i64.wrap (97 + (k : Int))))))])
theorem wB_data {k : Nat} (hk : k < 100) : (wB k).data.toList = [119, UInt8.ofNat (97 + k)] := by
  have e1 : IntKind.i64.wrap (97 + (k : Int)) = ((97 + k : Nat) : Int) := nat_wrap (by omega) (by omega)
  have e2 : IntKind.u8.wrap ((97 + k : Nat) : Int) = ((97 + k : Nat) : Int) := by simp [IntKind.wrap, IntKind.signed, IntKind.bits]; omega
  unfold wB
  rw [e1, e2, ByteArray.data_append, Array.toList_append]
  rfl
theorem wB_size (k : Nat) : (wB k).size = 2 := by
  unfold wB
  rw [ByteArray.size_append]
  have : ∀ l : List PV, (bytesOfL l).size = l.length := fun l => by simp [bytesOfL, ByteArray.size]
  rw [this]; rfl
theorem wB_noW {k : Nat} (hk : k < 100) : noW (wB k) = false := by
  unfold noW
  rw [wB_data hk]; rfl
theorem wB_inj {j k : Nat} (hj : j < 100) (hk : k < 100) (h : wB j = wB k) : j = k := by
  have h1 := congrArg (fun s : ByteArray => s.data.toList) h
  simp only [wB_data hj, wB_data hk] at h1
  injection h1 with _ h1
  injection h1 with h1 _
  have h2 := congrArg UInt8.toNat h1
  simp only [UInt8.toNat_ofNat'] at h2
  omega
theorem insM_new (s : ByteArray) : ∀ {l : List ByteArray}, s ∉ l → (insM s l).length = l.length + 1
  | [], _ => by simp [insM]
  | c :: r, h => by
    rw [List.mem_cons, not_or] at h
    unfold insM
    split
    · rw [List.length_cons, insM_new s h.2, List.length_cons]
    · rw [if_neg (fun e => h.1 e.symm)]; simp
def WInv (ws : List ByteArray) (k : Nat) : Prop := ∀ x ∈ ws, x.size ≤ 12 ∧ (noW x = true ∨ ∃ j, j < k ∧ x = wB j)
theorem book_l4 {b : PV} (hb : Code1 b) (af : List Aff) (p : Nat) (hpb : p < 700000000) : ∀ (d k : Nat) (ws : List ByteArray), ws.length + d = 24 → k + d ≤ 24 → WInv ws k →
    ∃ (r : List Ent) (q : Nat), q ≤ p + 24 ∧ r.length ≤ 24 ∧ (∀ e ∈ r, e.stem.size ≤ 12 ∧ e.flags ∈ flagsL) ∧ Ev2 (fun N n => spec_l13Book.l4 N n (k : Int) b (p : Int) (strsP ws) (affsP af)) [bookP af r, rdP b (q : Int)] := by
  intro d
  induction d with
  | zero =>
    intro k ws hl hk hi
    obtain ⟨r, q, h1, h2, h3, h4⟩ := book_l5 hb af ws (by omega) (fun x hx => (hi x hx).1) p (by omega)
    have h0 : ((ws.length : Int) < 24) = False := eq_false (by omega)
    refine ⟨r, q, by omega, by omega, h3, Ev2.succ ?_⟩
    simp only [spec_l13Book.l4_eq, strs_len, h0, stk, Int.reduceEq, Nat.reduceEqDiff, Int.reduceLE, Int.reduceLT]
    exact h4.after
  | succ d ih =>
    intro k ws hl hk hi
    have h0 : ((ws.length : Int) < 24) = True := eq_true (by omega)
    have hnot : wB k ∉ ws := fun hm => by
      rcases (hi _ hm).2 with h | ⟨j, hj, h⟩
      · rw [wB_noW (by omega)] at h; cases h
      · have := wB_inj (by omega) (by omega) h; omega
    obtain ⟨r, q, h1, h2, h3, h4⟩ := ih (k + 1) (insM (wB k) ws) (by rw [insM_new _ hnot]; omega) (by omega) (fun x hx => by
      rcases (insM_mem _ ws x).1 hx with rfl | hx
      · exact ⟨by rw [wB_size]; omega, .inr ⟨k, by omega, rfl⟩⟩
      · obtain ⟨z, h⟩ := hi x hx
        exact ⟨z, h.imp id (fun ⟨j, hj, e⟩ => ⟨j, by omega, e⟩)⟩)
    have w1 : IntKind.i64.wrap ((k : Int) + 1) = ((k + 1 : Nat) : Int) := nat_wrap (by omega) (by omega)
    have hz := wB_size k
    unfold wB at hz
    rw [ByteArray.size_append] at hz
    have c1 : ((ByteArray.mk #[119]).size + (bytesOfL [(PV.sc (.int .u8 (IntKind.u8.wrap (IntKind.i64.wrap (97 + (k : Int))))))]).size ≤ 9223372036854775807) = True := eq_true (by omega)
    refine ⟨r, q, h1, h2, h3, Ev2.succ ?_⟩
    simp only [spec_l13Book.l4_eq, strs_len, h0, c1, if_true, decide_true]
    refine Ev2.bind (put_ev ws (wB k) (by omega)) ?_
    simp only [w1, stk, Int.reduceEq, Nat.reduceEqDiff, Int.reduceLE, Int.reduceLT]
    exact h4
theorem book_l1 {b : PV} (hb : Code1 b) (af : List Aff) : ∀ (c p : Nat) (ws : List ByteArray), p + 20 * c < 600000000 → ws.length + c ≤ 20 → WInv ws 0 →
    ∃ (r : List Ent) (q : Nat), q ≤ p + 20 * c + 50 ∧ r.length ≤ 24 ∧ (∀ e ∈ r, e.stem.size ≤ 12 ∧ e.flags ∈ flagsL) ∧ Ev2 (fun N n => spec_l13Book.l1 N n (c : Int) b (p : Int) (strsP ws) (affsP af)) [bookP af r, rdP b (q : Int)] := by
  intro c
  induction c with
  | zero =>
    intro p ws hp hl hi
    have h0 : ¬ (0 : Int) < ((0 : Nat) : Int) := by omega
    obtain ⟨k, hk, hf⟩ := pick_ev hb (p := (p : Int)) (n := 30) (by omega) (by omega)
    have hp1 : (p : Int) + 1 = ((p + 1 : Nat) : Int) := by omega
    rw [hp1] at hf
    by_cases k0 : k = 0
    · obtain ⟨r, q, h1, h2, h3, h4⟩ := book_l4 hb af (p + 1) (by omega) (24 - ws.length) 0 ws (by omega) (by omega) hi
      refine ⟨r, q, by omega, h2, h3, Ev2.succ ?_⟩
      simp only [spec_l13Book.l1_eq, h0, rd_agg, rd_f1, hf, k0, stk, Int.reduceEq, Nat.reduceEqDiff, Int.reduceLE, Int.reduceLT]
      exact h4.after
    · obtain ⟨r, q, h1, h2, h3, h4⟩ := book_l5 hb af ws (by omega) (fun x hx => (hi x hx).1) (p + 1) (by omega)
      refine ⟨r, q, by omega, by omega, h3, Ev2.succ ?_⟩
      simp only [spec_l13Book.l1_eq, h0, rd_agg, rd_f1, hf, k0, stk, Int.reduceEq, Nat.reduceEqDiff, Int.reduceLE, Int.reduceLT]
      exact h4.after
  | succ c ih =>
    intro p ws hp hl hi
    have h0 : (0 : Int) < ((c + 1 : Nat) : Int) := by omega
    obtain ⟨w, q, h2, h3, h4, hno, h5⟩ := wordX_ev hb p (by omega)
    have hil := insM_len w ws
    obtain ⟨r, q2, a1, a2, a3, a4⟩ := ih q (insM w ws) (by omega) (by omega) (fun x hx => by
      rcases (insM_mem w ws x).1 hx with rfl | hx
      · exact ⟨h4, .inl hno⟩
      · exact hi x hx)
    refine ⟨r, q2, by omega, a2, a3, Ev2.succ ?_⟩
    have w1 : IntKind.i64.wrap (((c + 1 : Nat) : Int) - 1) = (c : Int) := nat_wrap (by omega) (by omega)
    simp only [spec_l13Book.l1_eq, h0, rd_agg, stk, Int.reduceEq, Nat.reduceEqDiff, Int.reduceLE, Int.reduceLT]
    refine Ev2.bind h5 ?_
    simp only [stk, Int.reduceEq, Nat.reduceEqDiff, Int.reduceLE, Int.reduceLT]
    refine Ev2.bind (put_ev ws w (by omega)) ?_
    simp only [w1, rd_f1, stk, Int.reduceEq, Nat.reduceEqDiff, Int.reduceLE, Int.reduceLT]
    exact a4
theorem book_ev {b : PV} (hb : Code1 b) (p : Nat) (hp : p < 500000000) : ∃ (af : List Aff) (es : List Ent) (q : Nat), q ≤ p + 250 ∧ BookB af es ∧ Ev (fun N => spec_l13Book.f N [rdP b (p : Int)]) [bookP af es, rdP b (q : Int)] := by
  obtain ⟨af, q0, b1, b2, b3⟩ := affixes_ev hb p (by omega)
  obtain ⟨c, hc, hf⟩ := pick_ev hb (p := (q0 : Int)) (n := 7) (by omega) (by omega)
  obtain ⟨c, rfl⟩ := Int.eq_ofNat_of_zero_le hc.1
  have hp1 : (q0 : Int) + 1 = ((q0 + 1 : Nat) : Int) := by omega
  rw [hp1] at hf
  have hnil : PV.list [] = strsP [] := rfl
  obtain ⟨r, q, h1, h2, h3, h4⟩ : ∃ (r : List Ent) (q : Nat), q ≤ q0 + 240 ∧ r.length ≤ 24 ∧ (∀ e ∈ r, e.stem.size ≤ 12 ∧ e.flags ∈ flagsL) ∧ Ev2 (fun N n => spec_l13Book.l0 N n (c : Int) b ((q0 + 1 : Nat) : Int) [] (affsP af)) [bookP af r, rdP b (q : Int)] := by
    cases c with
    | succ c =>
      have h0 : (0 : Int) < ((c + 1 : Nat) : Int) := by omega
      obtain ⟨w, q, h2, h3, h4, hno, h5⟩ := wordX_ev hb (q0 + 1) (by omega)
      have hil := insM_len w []
      obtain ⟨r, q2, a1, a2, a3, a4⟩ := book_l1 hb af c q (insM w []) (by omega) (by simp at hil; omega) (fun x hx => by
        rcases (insM_mem w [] x).1 hx with rfl | hx
        · exact ⟨h4, .inl hno⟩
        · cases hx)
      refine ⟨r, q2, by omega, a2, a3, Ev2.succ ?_⟩
      have w1 : IntKind.i64.wrap (((c + 1 : Nat) : Int) - 1) = (c : Int) := nat_wrap (by omega) (by omega)
      simp only [spec_l13Book.l0_eq, h0, rd_agg, hnil, stk, Int.reduceEq, Nat.reduceEqDiff, Int.reduceLE, Int.reduceLT]
      refine Ev2.bind h5 ?_
      simp only [stk, Int.reduceEq, Nat.reduceEqDiff, Int.reduceLE, Int.reduceLT]
      refine Ev2.bind (put_ev [] w (by simp)) ?_
      simp only [w1, rd_f1, stk, Int.reduceEq, Nat.reduceEqDiff, Int.reduceLE, Int.reduceLT]
      exact a4
    | zero =>
      have h0 : ¬ (0 : Int) < ((0 : Nat) : Int) := by omega
      obtain ⟨k, hk, hf⟩ := pick_ev hb (p := ((q0 + 1 : Nat) : Int)) (n := 30) (by omega) (by omega)
      have hp1 : ((q0 + 1 : Nat) : Int) + 1 = ((q0 + 2 : Nat) : Int) := by omega
      rw [hp1] at hf
      by_cases k0 : k = 0
      · have w1 : IntKind.i64.wrap ((0 : Int) + 1) = ((1 : Nat) : Int) := nat_wrap (by omega) (by omega)
        obtain ⟨r, q, h1, h2, h3, h4⟩ := book_l4 hb af (q0 + 2) (by omega) 23 1 (insM (wB 0) []) rfl (by omega) (fun x hx => by
          rcases (insM_mem _ [] x).1 hx with rfl | hx
          · exact ⟨by rw [wB_size]; omega, .inr ⟨0, by omega, rfl⟩⟩
          · cases hx)
        refine ⟨r, q, by omega, h2, h3, Ev2.succ ?_⟩
        simp only [spec_l13Book.l0_eq, h0, rd_agg, rd_f1, hf, k0, stk, Int.reduceEq, Nat.reduceEqDiff, Int.reduceLE, Int.reduceLT]
        refine Ev2.after (g := fun N n => spec_l13Book.l2 N n 0 b ((q0 + 2 : Nat) : Int) [] (affsP af)) (Ev2.succ ?_)
        have hz := wB_size 0
        unfold wB at hz
        rw [ByteArray.size_append] at hz
        have c1 : ((ByteArray.mk #[119]).size + (bytesOfL [(PV.sc (.int .u8 (IntKind.u8.wrap (IntKind.i64.wrap (97 + (0 : Int))))))]).size ≤ 9223372036854775807) = True := eq_true (by
          have : (((0 : Nat) : Int)) = 0 := rfl
          rw [this] at hz; omega)
        have c0 : ((([] : List PV).length : Int) < 24) = True := eq_true (by simp)
        simp only [spec_l13Book.l2_eq, c0, c1, hnil, if_true, decide_true]
        refine Ev2.bind (put_ev [] (wB 0) (by simp)) ?_
        simp only [w1, stk, Int.reduceEq, Nat.reduceEqDiff, Int.reduceLE, Int.reduceLT]
        exact h4
      · refine ⟨[], q0 + 2, by omega, by simp, by simp, Ev2.succ ?_⟩
        simp only [spec_l13Book.l0_eq, h0, rd_agg, rd_f1, hf, k0, stk, Int.reduceEq, Nat.reduceEqDiff, Int.reduceLE, Int.reduceLT]
        refine Ev2.after (g := fun N n => spec_l13Book.l3 N n 0 b ((q0 + 2 : Nat) : Int) [] (affsP af)) (Ev2.succ ?_)
        have c0 : ((0 : Int) < (([] : List PV).length : Int)) = False := eq_false (by simp)
        have e : PV.agg [affsP af, PV.list []] = bookP af [] := rfl
        simp only [spec_l13Book.l3_eq, c0, e, rd_agg, stk, Int.reduceEq, Nat.reduceEqDiff, Int.reduceLE, Int.reduceLT]
        exact Ev2.now _
  refine ⟨af, r, q, by omega, ⟨b2, h2, h3⟩, ?_⟩
  simp only [spec_l13Book.f_eq, rd_f0, rd_f1, rd_agg, stk, Int.reduceEq, Nat.reduceEqDiff, Int.reduceLE, Int.reduceLT]
  refine Ev.bind b3 ?_
  simp only [rd_f1, rd_agg, hf, stk, Int.reduceEq, Nat.reduceEqDiff, Int.reduceLE, Int.reduceLT]
  exact h4.diag
theorem bookW_b {af : List Aff} {es : List Ent} (h : BookB af es) : (bookW af es).length ≤ 600 ∧ ∀ x ∈ bookW af es, x.size ≤ 12 := by
  have h1 := wordsL2_len af es []
  have h2 := h.n
  have h3 := h.a.n
  have h4 : (1 + af.length) * (1 + af.length) ≤ 5 * 5 := Nat.mul_le_mul (by omega) (by omega)
  have h5 : es.length * ((1 + af.length) * (1 + af.length)) ≤ 24 * 25 := Nat.mul_le_mul h2 h4
  refine ⟨by unfold bookW; simp only [List.length_nil] at h1; omega, fun x hx => ?_⟩
  unfold bookW at hx
  rw [wordsL2_mem] at hx
  rcases hx with hx | ⟨e, he, hx⟩
  · cases hx
  · rcases formsB_mem hx with rfl | hw
    · exact (h.s e he).1
    · exact word_size hw
theorem bookW_draw {af : List Aff} {es : List Ent} (h : BookB af es) : Ev (fun N => spec_l2Words.f N [bookP af es]) [strsP (bookW af es)] :=
  bookW_ev (fun a ha => affLL_good a (h.a.s a ha)) (by have := h.a.n; omega) (fun e he => ⟨by have := (h.s e he).1; omega, by have := flags_size (h.s e he).2; omega⟩) (by have := h.n; omega)
structure WordsD (l : List ByteArray) (n : Nat) : Prop where
  n : l.length ≤ n
  s : ∀ x ∈ l, x.size ≤ 13
theorem words_tail {b : PV} (hb : Code1 b) (p : Nat) (hp : p < 400000000) (l : List ByteArray) (hl : WordsD l 20) :
    ∃ (r : List ByteArray) (q : Nat), q ≤ p + 300 ∧ WordsD r 40 ∧ ∀ c : Int, ¬ 0 < c → Ev2 (fun N n => spec_l13Words.l1 N n c b (p : Int) (strsP l)) [strsP r, rdP b (q : Int)] ∧ Ev2 (fun N n => spec_l13Words.l0 N n c b (p : Int) (l.map strP)) [strsP r, rdP b (q : Int)] := by
  obtain ⟨k, hk, hf⟩ := pick_ev hb (p := (p : Int)) (n := 3) (by omega) (by omega)
  have hp1 : (p : Int) + 1 = ((p + 1 : Nat) : Int) := by omega
  rw [hp1] at hf
  have hln := hl.n
  have b0 : ((40 : Int) < (l.length : Int)) = False := eq_false (by omega)
  by_cases k0 : k = 0
  · obtain ⟨af, es, q, h1, h2, h3⟩ := book_ev hb (p + 1) (by omega)
    obtain ⟨z1, z2⟩ := bookW_b h2
    have hw := bookW_draw h2
    have e2 : ∀ l : List ByteArray, (strsP l).items.take 40 = (l.take 40).map strP := fun l => by simp [strsP, PV.items]
    by_cases hbig : (bookW af es).length ≤ 40
    · have c1 : ((40 : Int) < ((bookW af es).length : Int)) = False := eq_false (by omega)
      refine ⟨bookW af es, q, by omega, ⟨hbig, fun x hx => by have := z2 x hx; omega⟩, fun c hc => ⟨Ev2.succ ?_, Ev2.succ ?_⟩⟩
      · simp only [spec_l13Words.l1_eq, hc, rd_agg, rd_f1, hf, k0, stk, Int.reduceEq, Nat.reduceEqDiff, Int.reduceLE, Int.reduceLT]
        refine Ev2.bind h3 ?_
        simp only [book_f0, book_f1, book_agg, rd_f1, stk, Int.reduceEq, Nat.reduceEqDiff, Int.reduceLE, Int.reduceLT]
        refine Ev2.bind hw ?_
        simp only [c1, stk, Int.reduceEq, Nat.reduceEqDiff, Int.reduceLE, Int.reduceLT]
        exact Ev2.now _
      · simp only [spec_l13Words.l0_eq, hc, rd_agg, rd_f1, hf, k0, stk, Int.reduceEq, Nat.reduceEqDiff, Int.reduceLE, Int.reduceLT]
        refine Ev2.bind h3 ?_
        simp only [book_f0, book_f1, book_agg, rd_f1, stk, Int.reduceEq, Nat.reduceEqDiff, Int.reduceLE, Int.reduceLT]
        refine Ev2.bind hw ?_
        simp only [c1, stk, Int.reduceEq, Nat.reduceEqDiff, Int.reduceLE, Int.reduceLT]
        exact Ev2.now _
    · have c1 : ((40 : Int) < ((bookW af es).length : Int)) = True := eq_true (by omega)
      have c2 : ((40 : Int) ≤ ((bookW af es).length : Int)) = True := eq_true (by omega)
      refine ⟨(bookW af es).take 40, q, by omega, ⟨by rw [List.length_take]; omega, fun x hx => by have := z2 x (List.mem_of_mem_take hx); omega⟩, fun c hc => ⟨Ev2.succ ?_, Ev2.succ ?_⟩⟩
      · simp only [spec_l13Words.l1_eq, hc, rd_agg, rd_f1, hf, k0, stk, Int.reduceEq, Nat.reduceEqDiff, Int.reduceLE, Int.reduceLT]
        refine Ev2.bind h3 ?_
        simp only [book_f0, book_f1, book_agg, rd_f1, stk, Int.reduceEq, Nat.reduceEqDiff, Int.reduceLE, Int.reduceLT]
        refine Ev2.bind hw ?_
        simp only [c1, c2, e2, strs_mapL, stk, Int.reduceEq, Nat.reduceEqDiff, Int.reduceLE, Int.reduceLT]
        exact Ev2.now _
      · simp only [spec_l13Words.l0_eq, hc, rd_agg, rd_f1, hf, k0, stk, Int.reduceEq, Nat.reduceEqDiff, Int.reduceLE, Int.reduceLT]
        refine Ev2.bind h3 ?_
        simp only [book_f0, book_f1, book_agg, rd_f1, stk, Int.reduceEq, Nat.reduceEqDiff, Int.reduceLE, Int.reduceLT]
        refine Ev2.bind hw ?_
        simp only [c1, c2, e2, strs_mapL, stk, Int.reduceEq, Nat.reduceEqDiff, Int.reduceLE, Int.reduceLT]
        exact Ev2.now _
  · refine ⟨l, p + 1, by omega, ⟨by omega, hl.s⟩, fun c hc => ⟨Ev2.succ ?_, Ev2.succ ?_⟩⟩
    · simp only [spec_l13Words.l1_eq, hc, rd_agg, rd_f1, hf, k0, b0, stk, Int.reduceEq, Nat.reduceEqDiff, Int.reduceLE, Int.reduceLT]
      exact Ev2.now _
    · simp only [spec_l13Words.l0_eq, hc, rd_agg, rd_f1, hf, k0, b0, List.length_map, strs_mapL, stk, Int.reduceEq, Nat.reduceEqDiff, Int.reduceLE, Int.reduceLT]
      exact Ev2.now _
theorem words_d1 {b : PV} (hb : Code1 b) : ∀ (c p : Nat) (l : List ByteArray), p + 20 * c < 300000000 → WordsD l (20 - c) → c ≤ 10 → ∃ (r : List ByteArray) (q : Nat), q ≤ p + 20 * c + 300 ∧ WordsD r 40 ∧ Ev2 (fun N n => spec_l13Words.l1 N n (c : Int) b (p : Int) (strsP l)) [strsP r, rdP b (q : Int)] := by
  intro c
  induction c with
  | zero =>
    intro p l hp hl hc
    obtain ⟨r, q, h1, h2, h3⟩ := words_tail hb p (by omega) l ⟨by have := hl.n; omega, hl.s⟩
    exact ⟨r, q, by omega, h2, (h3 _ (by omega)).1⟩
  | succ c ih =>
    intro p l hp hl hc
    have h0 : (0 : Int) < ((c + 1 : Nat) : Int) := by omega
    have hln := hl.n
    obtain ⟨w, q, h2, h3, h4, h5⟩ := word_ev hb p (by omega)
    have hil := insM_len w l
    obtain ⟨r, q2, a1, a2, a3⟩ := ih q (insM w l) (by omega) ⟨by omega, fun x hx => by
      rcases (insM_mem w l x).1 hx with rfl | hx
      · omega
      · exact hl.s x hx⟩ (by omega)
    refine ⟨r, q2, by omega, a2, Ev2.succ ?_⟩
    have w1 : IntKind.i64.wrap (((c + 1 : Nat) : Int) - 1) = (c : Int) := nat_wrap (by omega) (by omega)
    simp only [spec_l13Words.l1_eq, h0, rd_agg, stk, Int.reduceEq, Nat.reduceEqDiff, Int.reduceLE, Int.reduceLT]
    refine Ev2.bind h5 ?_
    simp only [stk, Int.reduceEq, Nat.reduceEqDiff, Int.reduceLE, Int.reduceLT]
    refine Ev2.bind (put_ev l w (by omega)) ?_
    simp only [w1, rd_f1, stk, Int.reduceEq, Nat.reduceEqDiff, Int.reduceLE, Int.reduceLT]
    exact a3
theorem l13Words_ev {b : PV} (hb : Code1 b) (p : Nat) (hp : p < 200000000) : ∃ (r : List ByteArray) (q : Nat), q ≤ p + 500 ∧ WordsD r 40 ∧ Ev (fun N => spec_l13Words.f N [rdP b (p : Int)]) [strsP r, rdP b (q : Int)] := by
  obtain ⟨c, hc, hf⟩ := pick_ev hb (p := (p : Int)) (n := 9) (by omega) (by omega)
  obtain ⟨c, rfl⟩ := Int.eq_ofNat_of_zero_le hc.1
  have hp1 : (p : Int) + 1 = ((p + 1 : Nat) : Int) := by omega
  rw [hp1] at hf
  have hnil : PV.list [] = strsP [] := rfl
  obtain ⟨r, q, h1, h2, h3⟩ : ∃ (r : List ByteArray) (q : Nat), q ≤ p + 500 ∧ WordsD r 40 ∧ Ev2 (fun N n => spec_l13Words.l0 N n (c : Int) b ((p + 1 : Nat) : Int) []) [strsP r, rdP b (q : Int)] := by
    cases c with
    | zero =>
      obtain ⟨r, q, h1, h2, h3⟩ := words_tail hb (p + 1) (by omega) [] ⟨by simp, by simp⟩
      exact ⟨r, q, by omega, h2, (h3 _ (by omega)).2⟩
    | succ c =>
      have h0 : (0 : Int) < ((c + 1 : Nat) : Int) := by omega
      obtain ⟨w, q, h2, h3, h4, h5⟩ := word_ev hb (p + 1) (by omega)
      have hil := insM_len w []
      obtain ⟨r, q2, a1, a2, a3⟩ := words_d1 hb c q (insM w []) (by omega) ⟨by simp at hil; omega, fun x hx => by
        rcases (insM_mem w [] x).1 hx with rfl | hx
        · omega
        · cases hx⟩ (by omega)
      refine ⟨r, q2, by omega, a2, Ev2.succ ?_⟩
      have w1 : IntKind.i64.wrap (((c + 1 : Nat) : Int) - 1) = (c : Int) := nat_wrap (by omega) (by omega)
      simp only [spec_l13Words.l0_eq, h0, rd_agg, hnil, stk, Int.reduceEq, Nat.reduceEqDiff, Int.reduceLE, Int.reduceLT]
      refine Ev2.bind h5 ?_
      simp only [stk, Int.reduceEq, Nat.reduceEqDiff, Int.reduceLE, Int.reduceLT]
      refine Ev2.bind (put_ev [] w (by simp)) ?_
      simp only [w1, rd_f1, stk, Int.reduceEq, Nat.reduceEqDiff, Int.reduceLE, Int.reduceLT]
      exact a3
  refine ⟨r, q, h1, h2, ?_⟩
  simp only [spec_l13Words.f_eq, rd_f0, rd_f1, rd_agg, hf, stk, Int.reduceEq, Nat.reduceEqDiff, Int.reduceLE, Int.reduceLT]
  exact h3.diag
theorem mdTexts_loop (a : List ByteArray) (ha : a.length ≤ 9223372036854775807) : ∀ rest pre : List ByteArray, a = pre ++ rest → Ev2 (fun N n => laws_mdTexts.l0 N n (strsP a) (strsP a) (pre.length : Int)) [boolP true] := by
  intro rest
  induction rest with
  | nil =>
    intro pre hp
    refine Ev2.succ ?_
    simp only [laws_mdTexts.l0_eq, at_end hp, stk, Int.reduceEq, Nat.reduceEqDiff, Int.reduceLE, Int.reduceLT]
    exact Ev2.now _
  | cons c rest ih =>
    intro pre hp
    refine Ev2.succ ?_
    simp only [laws_mdTexts.l0_eq, at_lt hp, at_next hp ha, stk, Int.reduceEq, Nat.reduceEqDiff, Int.reduceLE, Int.reduceLT]
    exact ih _ (at_step hp)
theorem mdTexts_ev (a : List ByteArray) (ha : a.length ≤ 9223372036854775807) : Ev (fun N => laws_mdTexts.f N [strsP a, strsP a]) [boolP true] := by
  simp only [laws_mdTexts.f_eq, stk, Int.reduceEq, Nat.reduceEqDiff, Int.reduceLE, Int.reduceLT]
  exact (mdTexts_loop a ha a [] rfl).diag
abbrev Ed := Int × Int
abbrev St := Bool × List Ed
def edgeP (e : Ed) : PV := .agg [intP e.1, intP e.2]
def edgesP (l : List Ed) : PV := .list (l.map edgeP)
def stP (s : St) : PV := .agg [boolP s.1, edgesP s.2]
def machP (m : List St) : PV := .list (m.map stP)
theorem edge_f0 (e : Ed) : (edgeP e).fld 0 = intP e.1 := rfl
theorem edge_f1 (e : Ed) : (edgeP e).fld 1 = intP e.2 := rfl
theorem st_f0 (s : St) : (stP s).fld 0 = boolP s.1 := rfl
theorem st_f1 (s : St) : (stP s).fld 1 = edgesP s.2 := rfl
theorem edges_len (l : List Ed) : (edgesP l).items.length = l.length := by simp [edgesP, PV.items]
theorem mach_len (l : List St) : (machP l).items.length = l.length := by simp [machP, PV.items]
theorem edges_at {l pre rest : List Ed} {e : Ed} (h : l = pre ++ e :: rest) : (edgesP l).elem pre.length = edgeP e := by
  subst h; simp [edgesP, PV.elem, PV.items, List.getD_eq_getElem?_getD]
theorem mach_at {l pre rest : List St} {s : St} (h : l = pre ++ s :: rest) : (machP l).elem pre.length = stP s := by
  subst h; simp [machP, PV.elem, PV.items, List.getD_eq_getElem?_getD]
structure MachB (m : List St) : Prop where
  n : m.length ≤ 1048576
  e : ∀ s ∈ m, s.2.length ≤ 1048576
def edgeOk (n i : Nat) (p : Option Int) (e : Ed) : Bool := decide (97 ≤ e.1 ∧ e.1 ≤ 122) && (decide ((i : Int) + 1 ≤ e.2 ∧ e.2 ≤ (n : Int) - 1) && (match p with | none => true | some q => decide (q < e.1)))
def edgesOk (n i : Nat) : Option Int → List Ed → Bool
  | _, [] => true
  | p, e :: es => edgeOk n i p e && edgesOk n i (some e.1) es
def stOk (n i : Nat) (s : St) : Bool := edgesOk n i none s.2 && (decide (i = 0) || (s.1 || decide (s.2 ≠ [])))
def stsOk (n : Nat) : Nat → List St → Bool
  | _, [] => true
  | i, s :: r => stOk n i s && stsOk n (i + 1) r
def depE (i : Nat) (T : List Int) : List Ed → Int → Int
  | [], a => a
  | e :: es, a => depE i T es (if a < T.getD (e.2.toNat - (i + 1)) 0 + 1 then T.getD (e.2.toNat - (i + 1)) 0 + 1 else a)
def depL (i : Nat) : List St → List Int
  | [] => []
  | s :: r => depE i (depL (i + 1) r) s.2 0 :: depL (i + 1) r
def okM (m : List St) : Bool := decide (1 ≤ m.length ∧ m.length ≤ 400) && (stsOk m.length 0 m && decide ((depL 0 m).getD 0 0 ≤ 12))
theorem stsOk_app (n : Nat) : ∀ (a b : List St) (i : Nat), stsOk n i (a ++ b) = (stsOk n i a && stsOk n (i + a.length) b)
  | [], b, i => by simp [stsOk]
  | s :: a, b, i => by
    simp only [List.cons_append, stsOk, List.length_cons]
    rw [stsOk_app n a b (i + 1), Bool.and_assoc]
    have : i + 1 + a.length = i + (a.length + 1) := by omega
    rw [this]
theorem edgesOk_to {n i : Nat} : ∀ {es : List Ed} {p : Option Int}, edgesOk n i p es = true → ∀ e ∈ es, (97 ≤ e.1 ∧ e.1 ≤ 122) ∧ (i : Int) + 1 ≤ e.2 ∧ e.2 ≤ (n : Int) - 1
  | [], _, _, e, he => absurd he (by simp)
  | c :: es, p, h, e, he => by
    simp only [edgesOk, edgeOk, Bool.and_eq_true, decide_eq_true_eq] at h
    rcases List.mem_cons.1 he with rfl | he
    · exact ⟨h.1.1, h.1.2.1⟩
    · exact edgesOk_to h.2 e he
theorem depL_len : ∀ (m : List St) (i : Nat), (depL i m).length = m.length
  | [], _ => rfl
  | s :: r, i => by simp [depL, depL_len r (i + 1)]
theorem getD_range {T : List Int} {B : Int} (h : ∀ x ∈ T, 0 ≤ x ∧ x ≤ B) (h0 : 0 ≤ B) (j : Nat) : 0 ≤ T.getD j 0 ∧ T.getD j 0 ≤ B := by
  rw [List.getD_eq_getElem?_getD]
  cases hj : T[j]? with
  | none => exact ⟨Int.le_refl _, h0⟩
  | some x => exact h x (List.mem_of_getElem? hj)
theorem depE_range {i : Nat} {T : List Int} {B : Int} (h : ∀ x ∈ T, 0 ≤ x ∧ x ≤ B) (h0 : 0 ≤ B) : ∀ (es : List Ed) (a : Int), a ≤ B + 1 → a ≤ depE i T es a ∧ depE i T es a ≤ B + 1
  | [], a, ha => ⟨Int.le_refl _, ha⟩
  | e :: es, a, ha => by
    have hg := getD_range h h0 (e.2.toNat - (i + 1))
    unfold depE
    split
    · have := depE_range (i := i) h h0 es (T.getD (e.2.toNat - (i + 1)) 0 + 1) (by omega); omega
    · exact depE_range h h0 es a ha
theorem depL_range : ∀ (m : List St) (i : Nat), ∀ x ∈ depL i m, 0 ≤ x ∧ x ≤ (m.length : Int)
  | [], _, x, hx => absurd hx (by simp [depL])
  | s :: r, i, x, hx => by
    have ih := depL_range r (i + 1)
    simp only [depL, List.mem_cons] at hx
    rcases hx with rfl | hx
    · have := depE_range (i := i) ih (Int.natCast_nonneg _) s.2 0 (by omega)
      simp only [List.length_cons]; omega
    · have := ih x hx
      simp only [List.length_cons]; omega
def arr (i : Nat) (a : Int) (T : List Int) : List PV := (List.replicate i (0 : Int) ++ a :: T).map intP
theorem arr_len (i : Nat) (a : Int) (T : List Int) : (arr i a T).length = i + 1 + T.length := by simp [arr]; omega
theorem arr_here (i : Nat) (a : Int) (T : List Int) : ((PV.list (arr i a T)).elem i).toInt = a := by
  have h := ints_elem (List.replicate i (0 : Int) ++ a :: T) i
  simp only [intsP] at h
  unfold arr
  rw [h]; simp [List.getD_eq_getElem?_getD]
theorem arr_at (i j : Nat) (a : Int) (T : List Int) (h : i + 1 ≤ j) : ((PV.list (arr i a T)).elem j).toInt = T.getD (j - (i + 1)) 0 := by
  have h2 := ints_elem (List.replicate i (0 : Int) ++ a :: T) j
  simp only [intsP] at h2
  unfold arr
  rw [h2, List.getD_eq_getElem?_getD, List.getD_eq_getElem?_getD, List.getElem?_append_right (by simp; omega)]
  obtain ⟨k, rfl⟩ : ∃ k, j = i + 1 + k := ⟨j - (i + 1), by omega⟩
  have e1 : i + 1 + k - (List.replicate i (0 : Int)).length = k + 1 := by simp; omega
  have e2 : i + 1 + k - (i + 1) = k := by omega
  rw [e1, e2, List.getElem?_cons_succ]
theorem arr_set (i : Nat) (a x : Int) (T : List Int) : (arr i a T).set i (intP x) = arr i x T := by
  unfold arr
  rw [← List.map_set]
  congr 1
  have := set_mid (List.replicate i (0 : Int)) a x T
  rwa [List.length_replicate] at this
theorem arr_zero (i : Nat) (T : List Int) : (List.replicate (i + 1) (0 : Int) ++ T).map intP = arr i 0 T := by
  unfold arr; rw [List.replicate_succ', List.append_assoc]; rfl
theorem at_prevN {α : Type} {xs pre' rest : List α} {q : α} (hp : xs = (pre' ++ [q]) ++ rest) (hx : xs.length ≤ 9223372036854775807) : IntKind.i64.wrap (((pre' ++ [q]).length : Int) - 1) = (pre'.length : Int) ∧ (pre'.length : Int) < (xs.length : Int) := by
  subst hp
  simp only [List.length_append, List.length_cons, List.length_nil] at hx ⊢
  refine ⟨?_, by omega⟩
  rw [wrap_id (by omega) (by omega)]; omega
theorem deep_l1 (m : List St) (hm : MachB m) {pre rest : List St} {s : St} (hp : m = pre ++ s :: rest) (T : List Int) (hT : T.length = rest.length) (hTr : ∀ x ∈ T, 0 ≤ x ∧ x ≤ 1048576) (R : Int) (hes : ∀ e ∈ s.2, (pre.length : Int) + 1 ≤ e.2 ∧ e.2 ≤ (m.length : Int) - 1) :
    ∀ (es epre : List Ed), s.2 = epre ++ es → ∀ a : Int, 0 ≤ a → a ≤ 1048577 →
    (Ev2 (fun N n => spec_l3Deep.l0 N n (machP m) (IntKind.i64.wrap ((pre.length : Int) - 1)) (arr pre.length (depE pre.length T es a) T)) [intP R]) →
    Ev3 (fun N m0 n => spec_l3Deep.l1 N m0 n (machP m) (pre.length : Int) (epre.length : Int) (arr pre.length a T)) [intP R] := by
  have hn := hm.n
  have hse := hm.e s (by rw [hp]; simp)
  have hlm : m.length = pre.length + 1 + rest.length := by rw [hp]; simp; omega
  intro es
  induction es with
  | nil =>
    intro epre he a _ _ hk
    refine Ev3.succ ?_
    simp only [spec_l3Deep.l1_eq, mach_len, at_lt hp, mach_at hp, st_f1, edges_len, at_end he, stk, Int.reduceEq, Nat.reduceEqDiff, Int.reduceLE, Int.reduceLT]
    exact hk.outer
  | cons e es ih =>
    intro epre he a ha0 ha1 hk
    obtain ⟨h1, h2⟩ := hes e (by rw [he]; simp)
    obtain ⟨t, ht⟩ := Int.eq_ofNat_of_zero_le (show 0 ≤ e.2 by omega)
    have hge : pre.length + 1 ≤ t := by omega
    have ht' : t < pre.length + 1 + T.length := by omega
    have hl1 : (t : Int) < (((arr pre.length a T).length : Nat) : Int) := by rw [arr_len]; omega
    have hl2 : (pre.length : Int) < (((arr pre.length a T).length : Nat) : Int) := by rw [arr_len]; omega
    have hg := getD_range hTr (by omega) (t - (pre.length + 1))
    have hw : IntKind.i64.wrap (T.getD (t - (pre.length + 1)) 0 + 1) = T.getD (t - (pre.length + 1)) 0 + 1 := wrap_id (by omega) (by omega)
    refine Ev3.succ ?_
    have htn : (e.2).toNat = t := by rw [ht]; rfl
    have a1 := arr_at pre.length t a T hge
    have a2 := arr_here pre.length a T
    unfold depE at hk
    rw [htn] at hk
    by_cases hlt : a < T.getD (t - (pre.length + 1)) 0 + 1
    · rw [if_pos hlt] at hk
      have := ih (epre ++ [e]) (at_step he) (T.getD (t - (pre.length + 1)) 0 + 1) (by omega) (by omega) hk
      simp only [spec_l3Deep.l1_eq, mach_len, at_lt hp, mach_at hp, st_f1, edges_len, at_lt he, edges_at he, edge_f1, ht, hl1, hl2, a1, a2, hw, hlt, arr_set, at_next he (by omega), nat_int, nn, toInt_sc, decide_true, if_true, htn]
      exact this
    · rw [if_neg hlt] at hk
      have := ih (epre ++ [e]) (at_step he) a ha0 ha1 hk
      simp only [spec_l3Deep.l1_eq, mach_len, at_lt hp, mach_at hp, st_f1, edges_len, at_lt he, edges_at he, edge_f1, ht, hl1, hl2, a1, a2, hw, hlt, at_next he (by omega), nat_int, nn, toInt_sc, decide_true, decide_false, if_true, if_false, Bool.false_eq_true, htn]
      exact this
theorem deep_l0 (m : List St) (hm : MachB m) (hne : 0 < m.length) (hok : stsOk m.length 0 m = true) : ∀ (k : Nat) (pre rest : List St), pre.length = k → m = pre ++ rest →
    Ev2 (fun N n => spec_l3Deep.l0 N n (machP m) ((k : Int) - 1) ((List.replicate k (0 : Int) ++ depL k rest).map intP)) [intP ((depL 0 m).getD 0 0)] := by
  have hn := hm.n
  intro k
  induction k with
  | zero =>
    intro pre rest hk hp
    obtain rfl : pre = [] := List.eq_nil_of_length_eq_zero hk
    rw [List.nil_append] at hp
    subst hp
    refine Ev2.succ ?_
    have h0 : ¬ (0 : Int) ≤ ((0 : Nat) : Int) - 1 := by omega
    have hl : (0 : Int) < ((((List.replicate 0 (0 : Int) ++ depL 0 m).map intP).length : Nat) : Int) := by simp [depL_len]; omega
    have he : ((PV.list ((List.replicate 0 (0 : Int) ++ depL 0 m).map intP)).elem 0).toInt = (depL 0 m).getD 0 0 := by
      have h2 := ints_elem (List.replicate 0 (0 : Int) ++ depL 0 m) 0
      simp only [intsP] at h2
      rw [h2]; simp
    simp only [spec_l3Deep.l0_eq, h0, hl, he, decide_false, if_true, if_false, Bool.false_eq_true, Int.le_refl]
    exact Ev2.now _
  | succ k ih =>
    intro pre rest hk hp
    obtain ⟨pre', s, rfl⟩ : ∃ pre' s, pre = pre' ++ [s] := by
      rcases List.eq_nil_or_concat pre with rfl | ⟨a, b, rfl⟩
      · simp at hk
      · exact ⟨a, b, by simp⟩
    have hk' : pre'.length = k := by simpa using hk
    subst hk'
    have hp' : m = pre' ++ s :: rest := by rw [hp]; simp
    have hso : stOk m.length pre'.length s = true := by
      have h := hok
      rw [hp', stsOk_app, ← hp'] at h
      simp only [stsOk, Bool.and_eq_true, Nat.zero_add] at h
      exact h.2.1
    have heo : edgesOk m.length pre'.length none s.2 = true := by
      simp only [stOk, Bool.and_eq_true] at hso
      exact hso.1
    have hes := fun e he => (edgesOk_to heo e he).2
    have hr := depL_range rest (pre'.length + 1)
    have hlm : m.length = pre'.length + 1 + rest.length := by rw [hp']; simp; omega
    have hw : IntKind.i64.wrap ((pre'.length : Int) - 1) = (pre'.length : Int) - 1 := wrap_id (by omega) (by omega)
    have hih := ih pre' (s :: rest) rfl hp'
    refine Ev2.succ ?_
    have h0 : (0 : Int) ≤ (((pre'.length + 1 : Nat)) : Int) - 1 := by omega
    have h1 : (((pre'.length + 1 : Nat)) : Int) - 1 = (pre'.length : Int) := by omega
    simp only [spec_l3Deep.l0_eq, h0, h1, arr_zero, decide_true, if_true, nn]
    refine Ev3.start (deep_l1 m hm hp' (depL (pre'.length + 1) rest) (depL_len _ _) (fun x hx => by have := hr x hx; omega) _ hes s.2 [] rfl 0 (Int.le_refl _) (by omega) ?_)
    rw [hw]
    exact hih
theorem deep_ev (m : List St) (hm : MachB m) (hne : 0 < m.length) (hok : stsOk m.length 0 m = true) : Ev (fun N => spec_l3Deep.f N [machP m]) [intP ((depL 0 m).getD 0 0)] := by
  have hn := hm.n
  have c1 : m.length ≤ 35184372088832 := by omega
  have hw : IntKind.i64.wrap ((m.length : Int) - 1) = (m.length : Int) - 1 := wrap_id (by omega) (by omega)
  have h := (deep_l0 m hm hne hok m.length m [] rfl (by simp)).diag
  have e : (List.replicate m.length (0 : Int) ++ depL m.length []).map intP = List.replicate m.length (intP 0) := by simp [depL]
  rw [e] at h
  simp only [spec_l3Deep.f_eq, mach_len, c1, hw, stk, Int.reduceEq, Nat.reduceEqDiff, Int.reduceLE, Int.reduceLT]
  exact h
theorem specIn_val (a b c : Int) (N : Nat) : spec_l1In.f N [.sc (.int .i64 a), .sc (.int .i64 b), .sc (.int .i64 c)] = some [boolP (decide (b ≤ a ∧ a ≤ c))] := by
  simp only [spec_l1In.f_eq, stk, Int.reduceEq, Nat.reduceEqDiff, Int.reduceLE, Int.reduceLT]
  by_cases h1 : b ≤ a <;> by_cases h2 : a ≤ c <;> simp only [h1, h2, stk, Int.reduceEq, Nat.reduceEqDiff, Int.reduceLE, Int.reduceLT]
def AheadE (pre : List Ed) (p : Option Int) : Prop := (pre = [] ∧ p = none) ∨ ∃ pre' q, pre = pre' ++ [q] ∧ p = some q.1
theorem specOk_l1 (m : List St) (hm : MachB m) {pre rest : List St} {s : St} (hp : m = pre ++ s :: rest) (R : Bool) (hR : stOk m.length pre.length s = true → Ev2 (fun N n => spec_MachineOk.l0 N n (machP m) ((pre ++ [s]).length : Int)) [boolP R]) :
    ∀ (es epre : List Ed) (p : Option Int), s.2 = epre ++ es → AheadE epre p → edgesOk m.length pre.length none s.2 = edgesOk m.length pre.length p es →
    Ev3 (fun N m0 n => spec_MachineOk.l1 N m0 n (machP m) (pre.length : Int) (epre.length : Int)) [boolP (edgesOk m.length pre.length p es && ((decide (pre.length = 0) || (s.1 || decide (s.2 ≠ []))) && R))] := by
  have hn := hm.n
  have hse := hm.e s (by rw [hp]; simp)
  have hlm : m.length = pre.length + 1 + rest.length := by rw [hp]; simp; omega
  intro es
  induction es with
  | nil =>
    intro epre p he _ hE
    refine Ev3.succ ?_
    have hst : (decide (pre.length = 0) || (s.1 || decide (s.2 ≠ []))) = true → stOk m.length pre.length s = true := fun h => by
      unfold stOk
      rw [hE, h]; rfl
    simp only [spec_MachineOk.l1_eq, mach_len, at_lt hp, mach_at hp, st_f0, st_f1, edges_len, at_end he, at_next hp (by omega), edgesOk, stk, Int.reduceEq, Nat.reduceEqDiff, Int.reduceLE, Int.reduceLT]
    by_cases h0 : (0 : Int) < (pre.length : Int)
    · have h0' : ¬ pre.length = 0 := by omega
      simp only [h0, h0', stk, Int.reduceEq, Nat.reduceEqDiff, Int.reduceLE, Int.reduceLT]
      cases h1 : s.1 with
      | true => simp only [stk, Int.reduceEq, Nat.reduceEqDiff, Int.reduceLE, Int.reduceLT, Bool.true_or]; exact (hR (hst (by simp [h1]))).outer
      | false =>
        by_cases h2 : s.2 = []
        · have h3 : ((s.2.length : Int) = 0) = True := eq_true (by rw [h2]; rfl)
          simp only [h2, h3, Bool.or_false, Bool.false_or, ne_eq, not_true, List.length_nil, Int.natCast_zero, stk, Int.reduceEq, Nat.reduceEqDiff, Int.reduceLE, Int.reduceLT]; exact Ev3.now _
        · have h3 : ¬ (s.2.length : Int) = 0 := by have := List.length_pos_iff.2 h2; omega
          simp only [h2, h3, Bool.false_or, ne_eq, not_false_iff, stk, Int.reduceEq, Nat.reduceEqDiff, Int.reduceLE, Int.reduceLT]; exact (hR (hst (by simp [h2]))).outer
    · have h0' : pre.length = 0 := by omega
      have h0e : (pre.length = 0) = True := eq_true h0'
      simp only [h0, h0e, Bool.true_or, stk, Int.reduceEq, Nat.reduceEqDiff, Int.reduceLE, Int.reduceLT]
      exact (hR (hst (by simp [h0']))).outer
  | cons e es ih =>
    intro epre p he ha hE
    have w1 : IntKind.i64.wrap ((pre.length : Int) + 1) = (pre.length : Int) + 1 := wrap_id (by omega) (by omega)
    have w2 : IntKind.i64.wrap ((m.length : Int) - 1) = (m.length : Int) - 1 := wrap_id (by omega) (by omega)
    have hih := ih (epre ++ [e]) (some e.1) (at_step he) (.inr ⟨epre, e, rfl, rfl⟩)
    refine Ev3.succ ?_
    rw [edgesOk] at hE ⊢
    rw [edgeOk.eq_def] at hE ⊢
    simp only [spec_MachineOk.l1_eq, mach_len, at_lt hp, mach_at hp, st_f0, st_f1, edges_len, at_lt he, edges_at he, edge_f0, edge_f1, specIn_val, w1, w2, at_next he (by omega), stk, Int.reduceEq, Nat.reduceEqDiff, Int.reduceLE, Int.reduceLT]
    by_cases c1 : 97 ≤ e.1 ∧ e.1 ≤ 122
    · by_cases c2 : (pre.length : Int) + 1 ≤ e.2 ∧ e.2 ≤ (m.length : Int) - 1
      · rcases ha with ⟨rfl, rfl⟩ | ⟨epre', q, rfl, rfl⟩
        · have h0 : ¬ (0 : Int) < ((([] : List Ed).length : Nat) : Int) := by simp
          simp only [c1, c2, and_self, decide_true, Bool.true_and] at hE
          simp only [c1, c2, h0, stk, Int.reduceEq, Nat.reduceEqDiff, Int.reduceLE, Int.reduceLT]
          exact hih hE
        · have h0 : (0 : Int) < (((epre' ++ [q]).length : Nat) : Int) := by rw [List.length_append, List.length_singleton]; omega
          obtain ⟨w3, w4⟩ := at_prevN he (by omega)
          have he' : s.2 = epre' ++ q :: (e :: es) := by rw [he]; simp
          by_cases c3 : e.1 ≤ q.1
          · have c3' : ¬ q.1 < e.1 := by omega
            simp only [c1, c2, c3, c3', h0, w3, w4, edges_at he', edge_f0, stk, Int.reduceEq, Nat.reduceEqDiff, Int.reduceLE, Int.reduceLT]
            exact Ev3.now _
          · have c3' : q.1 < e.1 := by omega
            simp only [c1, c2, c3', and_self, decide_true, Bool.true_and] at hE
            simp only [c1, c2, c3, c3', h0, w3, w4, edges_at he', edge_f0, stk, Int.reduceEq, Nat.reduceEqDiff, Int.reduceLE, Int.reduceLT]
            exact hih hE
      · simp only [c1, c2, stk, Int.reduceEq, Nat.reduceEqDiff, Int.reduceLE, Int.reduceLT]
        exact Ev3.now _
    · simp only [c1, stk, Int.reduceEq, Nat.reduceEqDiff, Int.reduceLE, Int.reduceLT]
      exact Ev3.now _
theorem specOk_l0 (m : List St) (hm : MachB m) : ∀ (rest pre : List St), m = pre ++ rest → (stsOk m.length 0 pre = true) →
    Ev2 (fun N n => spec_MachineOk.l0 N n (machP m) (pre.length : Int)) [boolP (stsOk m.length pre.length rest && (decide (1 ≤ m.length ∧ m.length ≤ 400) && decide ((depL 0 m).getD 0 0 ≤ 12)))] := by
  have hn := hm.n
  intro rest
  induction rest with
  | nil =>
    intro pre hp hok
    refine Ev2.succ ?_
    have hpm : pre = m := by rw [hp]; simp
    subst hpm
    simp only [spec_MachineOk.l0_eq, mach_len, at_end hp, specIn_val, stsOk, stk, Int.reduceEq, Nat.reduceEqDiff, Int.reduceLE, Int.reduceLT]
    by_cases h1 : 1 ≤ pre.length ∧ pre.length ≤ 400
    · have h1' : (1 : Int) ≤ (pre.length : Int) ∧ (pre.length : Int) ≤ 400 := by omega
      simp only [h1, h1', stk, Int.reduceEq, Nat.reduceEqDiff, Int.reduceLE, Int.reduceLT]
      refine Ev2.bind (deep_ev pre hm (by omega) hok) ?_
      simp only [stk, Int.reduceEq, Nat.reduceEqDiff, Int.reduceLE, Int.reduceLT]
      exact Ev2.now _
    · have h1' : ¬ ((1 : Int) ≤ (pre.length : Int) ∧ (pre.length : Int) ≤ 400) := by omega
      simp only [h1, h1', stk, Int.reduceEq, Nat.reduceEqDiff, Int.reduceLE, Int.reduceLT]
      exact Ev2.now _
  | cons s rest ih =>
    intro pre hp hok
    refine Ev2.succ ?_
    simp only [spec_MachineOk.l0_eq, mach_len, at_lt hp, stk, Int.reduceEq, Nat.reduceEqDiff, Int.reduceLE, Int.reduceLT]
    rw [stsOk, stOk]
    have := specOk_l1 m hm hp (stsOk m.length (pre.length + 1) rest && (decide (1 ≤ m.length ∧ m.length ≤ 400) && decide ((depL 0 m).getD 0 0 ≤ 12))) (fun hso => by
      have hok' : stsOk m.length 0 (pre ++ [s]) = true := by
        rw [stsOk_app, hok, Nat.zero_add]
        simp [stsOk, hso]
      have h := ih (pre ++ [s]) (at_step hp) hok'
      have hl : (pre ++ [s]).length = pre.length + 1 := by simp
      rw [hl] at h ⊢
      exact h) s.2 [] none rfl (.inl ⟨rfl, rfl⟩) rfl
    refine Ev2.ext this.start ?_
    simp only [Bool.and_assoc]
theorem specOk_ev (m : List St) (hm : MachB m) : Ev (fun N => spec_MachineOk.f N [machP m]) [boolP (okM m)] := by
  simp only [spec_MachineOk.f_eq]
  refine Ev.ext (specOk_l0 m hm m [] rfl rfl).diag ?_
  refine congrArg (fun b => [boolP b]) ?_
  unfold okM
  simp only [List.length_nil]
  rw [← Bool.and_assoc, ← Bool.and_assoc, Bool.and_comm (stsOk _ _ _)]
theorem implWithin_val (a b c : Int) (N : Nat) : impl_within.f N [.sc (.int .i64 a), .sc (.int .i64 b), .sc (.int .i64 c)] = some [boolP (decide (b ≤ a ∧ a ≤ c))] := by
  simp only [impl_within.f_eq, stk, Int.reduceEq, Nat.reduceEqDiff, Int.reduceLE, Int.reduceLT]
  by_cases h1 : b ≤ a <;> by_cases h2 : a ≤ c <;> simp only [h1, h2, stk, Int.reduceEq, Nat.reduceEqDiff, Int.reduceLE, Int.reduceLT]
def lonE (i : Nat) (T : List Int) : List Ed → Int → Int
  | [], a => a
  | e :: es, a => lonE i T es (maxI a (T.getD (e.2.toNat - (i + 1)) 0 + 1))
theorem lonE_depE (i : Nat) (T : List Int) : ∀ (es : List Ed) (a : Int), lonE i T es a = depE i T es a
  | [], a => rfl
  | e :: es, a => by
    unfold lonE depE maxI
    by_cases h : a < T.getD (e.2.toNat - (i + 1)) 0 + 1
    · simp only [gt_iff_lt, h, if_true]; exact lonE_depE i T es _
    · simp only [gt_iff_lt, h, if_false]; exact lonE_depE i T es _
theorem depE_neg (i : Nat) (T : List Int) (hT : ∀ x ∈ T, 0 ≤ x ∧ x ≤ 1048576) : ∀ (es : List Ed), es ≠ [] → depE i T es (-1) = depE i T es 0
  | [], h => absurd rfl h
  | e :: es, _ => by
    have hg := getD_range hT (by omega) (e.2.toNat - (i + 1))
    unfold depE
    rw [if_pos (by omega), if_pos (by omega)]
theorem implOk_l1 (m : List St) (hm : MachB m) {pre rest : List St} {s : St} (hp : m = pre ++ s :: rest) (T : List Int) (hT : T.length = rest.length) (hTr : ∀ x ∈ T, 0 ≤ x ∧ x ≤ 1048576) (R : Bool) (b0 : Bool) :
    ∀ (es epre : List Ed) (p : Option Int), s.2 = epre ++ es → AheadE epre p → ∀ a : Int, -1 ≤ a → a ≤ 1048577 →
    (edgesOk m.length pre.length p es = true → Ev2 (fun N n => impl_MachineOk.l0 N n (machP m) (IntKind.i64.wrap ((pre.length : Int) - 1)) (arr pre.length (lonE pre.length T es a) T)) [boolP R]) →
    Ev3 (fun N m0 n => impl_MachineOk.l1 N m0 n (machP m) (pre.length : Int) (edgesP s.2) (s.2.length : Int) (epre.length : Int) (arr pre.length a T) b0 (edgesP s.2)) [boolP (edgesOk m.length pre.length p es && R)] := by
  have hn := hm.n
  have hse := hm.e s (by rw [hp]; simp)
  have hlm : m.length = pre.length + 1 + rest.length := by rw [hp]; simp; omega
  intro es
  induction es with
  | nil =>
    intro epre p he _ a _ _ hk
    refine Ev3.succ ?_
    simp only [impl_MachineOk.l1_eq, at_end he, edgesOk, stk, Int.reduceEq, Nat.reduceEqDiff, Int.reduceLE, Int.reduceLT]
    exact (hk rfl).outer
  | cons e es ih =>
    intro epre p he ha a ha0 ha1 hk
    have w1 : IntKind.i64.wrap ((pre.length : Int) + 1) = (pre.length : Int) + 1 := wrap_id (by omega) (by omega)
    have w2 : IntKind.i64.wrap ((m.length : Int) - 1) = (m.length : Int) - 1 := wrap_id (by omega) (by omega)
    refine Ev3.succ ?_
    rw [edgesOk] at hk ⊢
    rw [edgeOk.eq_def] at hk ⊢
    by_cases c1 : 97 ≤ e.1 ∧ e.1 ≤ 122
    · by_cases c2 : (pre.length : Int) + 1 ≤ e.2 ∧ e.2 ≤ (m.length : Int) - 1
      · obtain ⟨t, ht⟩ := Int.eq_ofNat_of_zero_le (show 0 ≤ e.2 by omega)
        have hge : pre.length + 1 ≤ t := by omega
        have ht' : t < pre.length + 1 + T.length := by omega
        have hl1 : (t : Int) < (((arr pre.length a T).length : Nat) : Int) := by rw [arr_len]; omega
        have hl2 : (pre.length : Int) < (((arr pre.length a T).length : Nat) : Int) := by rw [arr_len]; omega
        have hg := getD_range hTr (by omega) (t - (pre.length + 1))
        have hw : IntKind.i64.wrap (T.getD (t - (pre.length + 1)) 0 + 1) = T.getD (t - (pre.length + 1)) 0 + 1 := wrap_id (by omega) (by omega)
        have htn : (e.2).toNat = t := by rw [ht]; rfl
        have a1 := arr_at pre.length t a T hge
        have a2 := arr_here pre.length a T
        have hmx : -1 ≤ maxI a (T.getD (t - (pre.length + 1)) 0 + 1) ∧ maxI a (T.getD (t - (pre.length + 1)) 0 + 1) ≤ 1048577 := by unfold maxI; split <;> omega
        have hih := ih (epre ++ [e]) (some e.1) (at_step he) (.inr ⟨epre, e, rfl, rfl⟩) (maxI a (T.getD (t - (pre.length + 1)) 0 + 1)) hmx.1 hmx.2
        unfold lonE at hk
        rw [htn] at hk
        have c2' := c2
        rw [ht] at c2'
        rcases ha with ⟨rfl, rfl⟩ | ⟨epre', q, rfl, rfl⟩
        · have h0 : ¬ (0 : Int) < ((([] : List Ed).length : Nat) : Int) := by simp
          simp only [c1, c2, and_self, decide_true, Bool.true_and] at hk
          simp only [impl_MachineOk.l1_eq, mach_len, edges_len, at_lt he, edges_at he, edge_f0, edge_f1, implWithin_val, w1, w2, at_next he (by omega), c1, c2, c2', h0, ht, hl1, hl2, a1, a2, hw, hg.1, arr_set, nat_int, nn, headD_one, Option.bind_some, toInt_sc, toBool_sc, decide_true, decide_false, Bool.not_true, Bool.not_false, Bool.false_eq_true, if_true, if_false, and_self, Bool.true_and]
          exact hih hk
        · have h0 : (0 : Int) < (((epre' ++ [q]).length : Nat) : Int) := by rw [List.length_append, List.length_singleton]; omega
          obtain ⟨w3, w4⟩ := at_prevN he (by omega)
          have he' : s.2 = epre' ++ q :: (e :: es) := by rw [he]; simp
          by_cases c3 : e.1 ≤ q.1
          · have c3' : ¬ q.1 < e.1 := by omega
            simp only [impl_MachineOk.l1_eq, mach_len, edges_len, at_lt he, edges_at he, edges_at he', edge_f0, edge_f1, implWithin_val, w1, w2, w3, w4, c1, c2, c2', c3, c3', h0, nat_int, nn, headD_one, Option.bind_some, toInt_sc, toBool_sc, decide_true, decide_false, Bool.not_true, Bool.not_false, Bool.false_eq_true, Bool.true_eq_false, if_true, if_false, and_self, Bool.true_and, Bool.false_and, Bool.and_false]
            exact Ev3.now _
          · have c3' : q.1 < e.1 := by omega
            simp only [c1, c2, c3', and_self, decide_true, Bool.true_and] at hk
            simp only [impl_MachineOk.l1_eq, mach_len, edges_len, at_lt he, edges_at he, edges_at he', edge_f0, edge_f1, implWithin_val, w1, w2, w3, w4, at_next he (by omega), c1, c2, c2', c3, c3', h0, ht, hl1, hl2, a1, a2, hw, hg.1, arr_set, nat_int, nn, headD_one, Option.bind_some, toInt_sc, toBool_sc, decide_true, decide_false, Bool.not_true, Bool.not_false, Bool.false_eq_true, if_true, if_false, and_self, Bool.true_and]
            exact hih hk
      · rcases ha with ⟨rfl, rfl⟩ | ⟨epre', q, rfl, rfl⟩
        · have h0 : ¬ (0 : Int) < ((([] : List Ed).length : Nat) : Int) := by simp
          simp only [impl_MachineOk.l1_eq, mach_len, edges_len, at_lt he, edges_at he, edge_f0, edge_f1, implWithin_val, w1, w2, c1, c2, h0, stk, Int.reduceEq, Nat.reduceEqDiff, Int.reduceLE, Int.reduceLT]
          exact Ev3.now _
        · have h0 : (0 : Int) < (((epre' ++ [q]).length : Nat) : Int) := by rw [List.length_append, List.length_singleton]; omega
          obtain ⟨w3, w4⟩ := at_prevN he (by omega)
          have he' : s.2 = epre' ++ q :: (e :: es) := by rw [he]; simp
          by_cases c3 : e.1 ≤ q.1
          · simp only [impl_MachineOk.l1_eq, mach_len, edges_len, at_lt he, edges_at he, edges_at he', edge_f0, edge_f1, implWithin_val, w1, w2, w3, w4, c1, c2, c3, h0, stk, Int.reduceEq, Nat.reduceEqDiff, Int.reduceLE, Int.reduceLT]
            exact Ev3.now _
          · simp only [impl_MachineOk.l1_eq, mach_len, edges_len, at_lt he, edges_at he, edges_at he', edge_f0, edge_f1, implWithin_val, w1, w2, w3, w4, c1, c2, c3, h0, stk, Int.reduceEq, Nat.reduceEqDiff, Int.reduceLE, Int.reduceLT]
            exact Ev3.now _
    · simp only [impl_MachineOk.l1_eq, mach_len, edges_len, at_lt he, edges_at he, edge_f0, edge_f1, implWithin_val, c1, stk, Int.reduceEq, Nat.reduceEqDiff, Int.reduceLE, Int.reduceLT]
      exact Ev3.now _
theorem implOk_l0 (m : List St) (hm : MachB m) (hne : 0 < m.length) : ∀ (k : Nat) (pre rest : List St) (h0 : Int), pre.length = k → m = pre ++ rest → stsOk m.length k rest = true →
    (k = 0 → (h0 ≤ 12 ↔ (depL 0 m).getD 0 0 ≤ 12)) → ∀ T : List Int, T.length = rest.length → (0 < k → T = depL k rest) → (k = 0 → T.getD 0 0 = h0) →
    Ev2 (fun N n => impl_MachineOk.l0 N n (machP m) ((k : Int) - 1) ((List.replicate k (0 : Int) ++ T).map intP)) [boolP (stsOk m.length 0 pre && decide ((depL 0 m).getD 0 0 ≤ 12))] := by
  have hn := hm.n
  intro k
  induction k with
  | zero =>
    intro pre rest hd hk hp hok hiff T hTl _ hTd
    obtain rfl : pre = [] := List.eq_nil_of_length_eq_zero hk
    rw [List.nil_append] at hp
    subst hp
    refine Ev2.succ ?_
    have h0 : ¬ (0 : Int) ≤ ((0 : Nat) : Int) - 1 := by omega
    have hl : (0 : Int) < ((((List.replicate 0 (0 : Int) ++ T).map intP).length : Nat) : Int) := by simp; omega
    have he : ((PV.list ((List.replicate 0 (0 : Int) ++ T).map intP)).elem 0).toInt = hd := by
      have h2 := ints_elem (List.replicate 0 (0 : Int) ++ T) 0
      simp only [intsP] at h2
      rw [h2, ← hTd rfl]; simp
    have hdec : decide (hd ≤ 12) = decide ((depL 0 m).getD 0 0 ≤ 12) := decide_eq_decide.2 (hiff rfl)
    simp only [impl_MachineOk.l0_eq, h0, hl, he, hdec, stsOk, Bool.true_and, decide_false, if_true, if_false, Bool.false_eq_true, Int.le_refl]
    exact Ev2.now _
  | succ k ih =>
    intro pre rest hd hk hp hok hiff T hTl hTe hTd
    obtain ⟨pre', s, rfl⟩ : ∃ pre' s, pre = pre' ++ [s] := by
      rcases List.eq_nil_or_concat pre with rfl | ⟨a, b, rfl⟩
      · simp at hk
      · exact ⟨a, b, by simp⟩
    have hk' : pre'.length = k := by simpa using hk
    subst hk'
    obtain rfl := hTe (by omega)
    have hp' : m = pre' ++ s :: rest := by rw [hp]; simp
    have hr := depL_range rest (pre'.length + 1)
    have hlm : m.length = pre'.length + 1 + rest.length := by rw [hp']; simp; omega
    have hTr : ∀ x ∈ depL (pre'.length + 1) rest, 0 ≤ x ∧ x ≤ 1048576 := fun x hx => by have := hr x hx; omega
    have hw : IntKind.i64.wrap ((pre'.length : Int) - 1) = (pre'.length : Int) - 1 := wrap_id (by omega) (by omega)
    have hw2 : IntKind.i64.wrap (((pre'.length + 1 : Nat) : Int) - 1) = (pre'.length : Int) := nat_wrap (by omega) (by omega)
    have e1 : stsOk m.length 0 (pre' ++ [s]) = (stsOk m.length 0 pre' && stOk m.length pre'.length s) := by
      rw [stsOk_app, Nat.zero_add]; simp [stsOk]
    rw [e1]
    refine Ev2.succ ?_
    have h0 : (0 : Int) ≤ (((pre'.length + 1 : Nat)) : Int) - 1 := by omega
    have h1 : (((pre'.length + 1 : Nat)) : Int) - 1 = (pre'.length : Int) := by omega
    have hlen0 : (pre'.length : Int) < ((arr pre'.length 0 (depL (pre'.length + 1) rest)).length : Int) := by rw [arr_len]; omega
    have hlen1 : (pre'.length : Int) < ((arr pre'.length (-1) (depL (pre'.length + 1) rest)).length : Int) := by rw [arr_len]; omega
    have hempty : ((s.2.length : Int) = 0) = (s.2 = []) := by
      apply propext; constructor
      · intro h; exact List.eq_nil_of_length_eq_zero (by omega)
      · intro h; rw [h]; rfl
    have hcont : ∀ a : Int, (a = 0 ∨ a = -1) → (0 < pre'.length → a = 0 ∨ s.2 ≠ []) → stOk m.length pre'.length s = true →
        Ev2 (fun N n => impl_MachineOk.l0 N n (machP m) (IntKind.i64.wrap ((pre'.length : Int) - 1)) (arr pre'.length (lonE pre'.length (depL (pre'.length + 1) rest) s.2 a) (depL (pre'.length + 1) rest))) [boolP (stsOk m.length 0 pre' && decide ((depL 0 m).getD 0 0 ≤ 12))] := by
      intro a ha hpos hso
      rw [hw, lonE_depE]
      have heq : (0 < pre'.length ∨ s.2 ≠ [] ∨ a = 0) → depE pre'.length (depL (pre'.length + 1) rest) s.2 a = depE pre'.length (depL (pre'.length + 1) rest) s.2 0 := by
        intro h
        rcases ha with rfl | rfl
        · rfl
        · refine depE_neg _ _ hTr _ ?_
          rcases h with h | h | h
          · rcases hpos h with h | h
            · omega
            · exact h
          · exact h
          · omega
      have hih := ih pre' (s :: rest) (depE pre'.length (depL (pre'.length + 1) rest) s.2 a) rfl hp' (by rw [stsOk, hso, hok]; rfl) (fun hz => by
        have hpe : pre' = [] := List.eq_nil_of_length_eq_zero hz
        subst hpe
        rw [List.nil_append] at hp'
        rw [hp']
        show depE 0 (depL 1 rest) s.2 a ≤ 12 ↔ depE 0 (depL 1 rest) s.2 0 ≤ 12
        by_cases hs2 : s.2 = []
        · rw [hs2]; unfold depE; omega
        · rw [show depE 0 (depL 1 rest) s.2 a = depE 0 (depL 1 rest) s.2 0 from heq (.inr (.inl hs2))])
        (depE pre'.length (depL (pre'.length + 1) rest) s.2 a :: depL (pre'.length + 1) rest) (by simp [depL_len]) (fun hz => by rw [heq (.inl hz)]; rfl) (fun _ => rfl)
      exact hih
    have hl1 : ∀ a : Int, (a = 0 ∨ a = -1) → (0 < pre'.length → a = 0 ∨ s.2 ≠ []) → (decide (pre'.length = 0) || (s.1 || decide (s.2 ≠ []))) = true → ∀ b0, Ev2 (fun N n => impl_MachineOk.l1 N n N (machP m) (pre'.length : Int) (edgesP s.2) (s.2.length : Int) 0 (arr pre'.length a (depL (pre'.length + 1) rest)) b0 (edgesP s.2)) [boolP (stsOk m.length 0 pre' && stOk m.length pre'.length s && decide ((depL 0 m).getD 0 0 ≤ 12))] := by
      intro a ha hpos hcond b0
      have h := implOk_l1 m hm hp' (depL (pre'.length + 1) rest) (depL_len _ _) hTr (stsOk m.length 0 pre' && decide ((depL 0 m).getD 0 0 ≤ 12)) b0 s.2 [] none rfl (.inl ⟨rfl, rfl⟩) a (by omega) (by omega) (fun heo => hcont a ha hpos (by unfold stOk; rw [heo, hcond]; rfl))
      refine Ev2.ext h.start ?_
      refine congrArg (fun b => [boolP b]) ?_
      unfold stOk
      rw [hcond, Bool.and_true]
      cases edgesOk m.length pre'.length none s.2 <;> cases stsOk m.length 0 pre' <;> simp
    simp only [impl_MachineOk.l0_eq, h0, h1, arr_zero, mach_len, at_lt hp', mach_at hp', st_f0, st_f1, edges_len, hempty, hlen0, hlen1, arr_set, nat_int, nn, toBool_sc, decide_true, decide_false, Bool.not_true, Bool.not_false, Bool.false_eq_true, if_true, if_false, decide_eq_true_eq]
    cases hs1 : s.1 with
    | true =>
      have h := hl1 0 (.inl rfl) (fun _ => .inl rfl) (by simp [hs1]) true
      by_cases hz : (0 : Int) < (pre'.length : Int)
      · simp only [hz, Bool.not_true, Bool.false_eq_true, if_true, if_false, hlen1, arr_set]
        exact h
      · simp only [hz, Bool.not_true, Bool.false_eq_true, if_true, if_false, hlen1, arr_set]
        exact h
    | false =>
      by_cases hs2 : s.2 = []
      · by_cases hz : (0 : Int) < (pre'.length : Int)
        · have hf : stOk m.length pre'.length s = false := by
            have : ¬ pre'.length = 0 := by omega
            unfold stOk; simp [hs1, hs2, this]
          simp only [hz, hs2, hf, Bool.not_false, Bool.and_false, Bool.false_and, if_true, if_false]
          exact Ev2.now _
        · have hz0 : pre'.length = 0 := by omega
          have h := hl1 (-1) (.inr rfl) (fun h => absurd h (by omega)) (by simp [hz0]) false
          simp only [hz, Bool.not_false, Bool.false_eq_true, if_true, if_false]
          exact h
      · have h := hl1 (-1) (.inr rfl) (fun _ => .inr hs2) (by simp [hs2]) false
        by_cases hz : (0 : Int) < (pre'.length : Int)
        · simp only [hz, hs2, Bool.not_false, Bool.false_eq_true, if_true, if_false]
          exact h
        · simp only [hz, Bool.not_false, Bool.false_eq_true, if_true, if_false]
          exact h
theorem implOk_ev (m : List St) (hm : MachB m) : Ev (fun N => impl_MachineOk.f N [machP m]) [boolP (okM m)] := by
  have hn := hm.n
  simp only [impl_MachineOk.f_eq, mach_len, implWithin_val, stk, Int.reduceEq, Nat.reduceEqDiff, Int.reduceLE, Int.reduceLT]
  unfold okM
  by_cases h1 : 1 ≤ m.length ∧ m.length ≤ 400
  · have h1' : (1 : Int) ≤ (m.length : Int) ∧ (m.length : Int) ≤ 400 := by omega
    have c1 : m.length ≤ 35184372088832 := by omega
    have hw : IntKind.i64.wrap ((m.length : Int) - 1) = (m.length : Int) - 1 := wrap_id (by omega) (by omega)
    have h := (implOk_l0 m hm (by omega) m.length m [] 0 rfl (by simp) rfl (fun h => absurd h (by omega)) [] rfl (fun _ => rfl) (fun h => absurd h (by omega))).diag
    have e : (List.replicate m.length (0 : Int) ++ []).map intP = List.replicate m.length (intP 0) := by simp
    rw [e] at h
    simp only [h1, h1', c1, hw, stk, Int.reduceEq, Nat.reduceEqDiff, Int.reduceLE, Int.reduceLT]
    exact h
  · have h1' : ¬ ((1 : Int) ≤ (m.length : Int) ∧ (m.length : Int) ≤ 400) := by omega
    simp only [h1, h1', stk, Int.reduceEq, Nat.reduceEqDiff, Int.reduceLE, Int.reduceLT]
    exact Ev.now _
def wsE (i : Nat) (T : List (List (List Int))) : List Ed → List (List Int)
  | [] => []
  | e :: es => (T.getD (e.2.toNat - (i + 1)) []).map (fun u => e.1 :: u) ++ wsE i T es
def wsL (i : Nat) : List St → List (List (List Int))
  | [] => []
  | s :: r => ((if s.1 = true then [[]] else []) ++ wsE i (wsL (i + 1) r) s.2) :: wsL (i + 1) r
theorem wsL_drop : ∀ (pre rest : List St) (i : Nat), (wsL i (pre ++ rest)).drop pre.length = wsL (i + pre.length) rest
  | [], rest, i => by simp
  | s :: pre, rest, i => by
    simp only [List.cons_append, wsL, List.length_cons, List.drop_succ_cons]
    rw [wsL_drop pre rest (i + 1)]
    congr 1; omega
def WM (m : List St) (j : Nat) : List (List Int) := (wsL 0 m).getD j []
def WE (m : List St) : List Ed → List (List Int)
  | [] => []
  | e :: es => (WM m e.2.toNat).map (fun u => e.1 :: u) ++ WE m es
theorem WM_tail (m pre rest : List St) (s : St) (hp : m = pre ++ s :: rest) (t : Nat) (ht : pre.length + 1 ≤ t) : (wsL (pre.length + 1) rest).getD (t - (pre.length + 1)) [] = WM m t := by
  have h : m = (pre ++ [s]) ++ rest := by rw [hp]; simp
  have hd := wsL_drop (pre ++ [s]) rest 0
  rw [← h] at hd
  have hl : (pre ++ [s]).length = pre.length + 1 := by simp
  rw [hl, Nat.zero_add] at hd
  unfold WM
  rw [← hd, List.getD_eq_getElem?_getD, List.getD_eq_getElem?_getD, List.getElem?_drop]
  congr 2; omega
theorem WM_eq (m pre rest : List St) (s : St) (hp : m = pre ++ s :: rest) (hes : ∀ e ∈ s.2, (pre.length : Int) + 1 ≤ e.2) : WM m pre.length = (if s.1 = true then [[]] else []) ++ WE m s.2 := by
  have hd := wsL_drop pre (s :: rest) 0
  rw [← hp, Nat.zero_add, wsL] at hd
  have h0 : WM m pre.length = (if s.1 = true then [[]] else []) ++ wsE pre.length (wsL (pre.length + 1) rest) s.2 := by
    unfold WM
    have : (wsL 0 m)[pre.length]? = some ((if s.1 = true then [[]] else []) ++ wsE pre.length (wsL (pre.length + 1) rest) s.2) := by
      have := congrArg (fun l => l[0]?) hd
      simpa [List.getElem?_drop] using this
    rw [List.getD_eq_getElem?_getD, this]; rfl
  rw [h0]
  have key : ∀ es : List Ed, (∀ e ∈ es, (pre.length : Int) + 1 ≤ e.2) → wsE pre.length (wsL (pre.length + 1) rest) es = WE m es := by
    intro es
    induction es with
    | nil => intro _; rfl
    | cons e es ih =>
      intro h
      have he := h e (by simp)
      rw [wsE, WE, ih (fun x hx => h x (by simp [hx])), WM_tail m pre rest s hp e.2.toNat (by omega)]
  rw [key s.2 hes]
theorem split_at {α : Type} (m : List α) (j : Nat) (h : j < m.length) : ∃ pre s rest, m = pre ++ s :: rest ∧ pre.length = j :=
  ⟨m.take j, m[j], m.drop (j + 1), by simp, by simp; omega⟩
theorem sts_at {m pre rest : List St} {s : St} (hok : stsOk m.length 0 m = true) (hp : m = pre ++ s :: rest) : stOk m.length pre.length s = true := by
  have h := hok
  rw [hp, stsOk_app, ← hp] at h
  simp only [stsOk, Bool.and_eq_true, Nat.zero_add] at h
  exact h.2.1
theorem sts_edges {m pre rest : List St} {s : St} (hok : stsOk m.length 0 m = true) (hp : m = pre ++ s :: rest) : ∀ e ∈ s.2, (97 ≤ e.1 ∧ e.1 ≤ 122) ∧ (pre.length : Int) + 1 ≤ e.2 ∧ e.2 ≤ (m.length : Int) - 1 := by
  have hso := sts_at hok hp
  simp only [stOk, Bool.and_eq_true] at hso
  exact edgesOk_to hso.1
def cap9 (n : Nat) : Int := if (1000000000 : Int) < (n : Int) then 1000000000 else (n : Int)
def cntE (i : Nat) (T : List Int) : List Ed → Int → Int
  | [], a => a
  | e :: es, a => cntE i T es (minI (a + T.getD (e.2.toNat - (i + 1)) 0) 1000000000)
def cntL (i : Nat) : List St → List Int
  | [] => []
  | s :: r => cntE i (cntL (i + 1) r) s.2 (if s.1 = true then 1 else 0) :: cntL (i + 1) r
theorem cntL_len : ∀ (m : List St) (i : Nat), (cntL i m).length = m.length
  | [], _ => rfl
  | s :: r, i => by simp [cntL, cntL_len r (i + 1)]
theorem cap9_range (n : Nat) : 0 ≤ cap9 n ∧ cap9 n ≤ 1000000000 := by unfold cap9; split <;> omega
theorem cap9_add (a b : Nat) : minI (cap9 a + cap9 b) 1000000000 = cap9 (a + b) := by unfold minI cap9; split <;> split <;> split <;> split <;> omega
theorem cntE_eq (i : Nat) (C : List Int) (T : List (List (List Int))) (h : ∀ j, C.getD j 0 = cap9 (T.getD j []).length) : ∀ (es : List Ed) (a : Nat), cntE i C es (cap9 a) = cap9 (a + (wsE i T es).length)
  | [], a => rfl
  | e :: es, a => by
    rw [cntE, wsE, h, cap9_add, cntE_eq i C T h es]
    congr 1; simp; omega
theorem cntL_eq : ∀ (m : List St) (i j : Nat), (cntL i m).getD j 0 = cap9 ((wsL i m).getD j []).length
  | [], i, j => by simp [cntL, wsL, cap9]
  | s :: r, i, 0 => by
    have h0 : (if s.1 = true then (1 : Int) else 0) = cap9 ((if s.1 = true then [[]] else [] : List (List Int)).length) := by split <;> simp [cap9]
    have := cntE_eq i (cntL (i + 1) r) (wsL (i + 1) r) (cntL_eq r (i + 1)) s.2 (if s.1 = true then [[]] else [] : List (List Int)).length
    rw [← h0] at this
    simp only [cntL, wsL, List.getD_cons_zero, List.length_append]
    exact this
  | s :: r, i, j + 1 => by simpa [cntL, wsL] using cntL_eq r (i + 1) j
theorem cntL_range (m : List St) (i : Nat) : ∀ x ∈ cntL i m, 0 ≤ x ∧ x ≤ 1000000000 := fun x hx => by
  obtain ⟨j, hj⟩ := List.mem_iff_getElem?.1 hx
  have := cntL_eq m i j
  rw [List.getD_eq_getElem?_getD, hj] at this
  simp at this
  rw [this]; exact cap9_range _
theorem counts_l1 (m : List St) (hm : MachB m) {pre rest : List St} {s : St} (hp : m = pre ++ s :: rest) (T : List Int) (hT : T.length = rest.length) (hTr : ∀ x ∈ T, 0 ≤ x ∧ x ≤ 1000000000) (R : PV) (hes : ∀ e ∈ s.2, (pre.length : Int) + 1 ≤ e.2 ∧ e.2 ≤ (m.length : Int) - 1) :
    ∀ (es epre : List Ed), s.2 = epre ++ es → ∀ a : Int, 0 ≤ a → a ≤ 1000000000 →
    (Ev2 (fun N n => impl_counts.l0 N n (machP m) (IntKind.i64.wrap ((pre.length : Int) - 1)) (arr pre.length (cntE pre.length T es a) T)) [R]) →
    Ev3 (fun N m0 n => impl_counts.l1 N m0 n (machP m) (pre.length : Int) (edgesP s.2) (s.2.length : Int) (epre.length : Int) (arr pre.length a T)) [R] := by
  have hn := hm.n
  have hse := hm.e s (by rw [hp]; simp)
  have hlm : m.length = pre.length + 1 + rest.length := by rw [hp]; simp; omega
  intro es
  induction es with
  | nil =>
    intro epre he a _ _ hk
    refine Ev3.succ ?_
    simp only [impl_counts.l1_eq, at_end he, stk, Int.reduceEq, Nat.reduceEqDiff, Int.reduceLE, Int.reduceLT]
    exact hk.outer
  | cons e es ih =>
    intro epre he a ha0 ha1 hk
    obtain ⟨h1, h2⟩ := hes e (by rw [he]; simp)
    obtain ⟨t, ht⟩ := Int.eq_ofNat_of_zero_le (show 0 ≤ e.2 by omega)
    have hge : pre.length + 1 ≤ t := by omega
    have ht' : t < pre.length + 1 + T.length := by omega
    have hl1 : (t : Int) < (((arr pre.length a T).length : Nat) : Int) := by rw [arr_len]; omega
    have hl2 : (pre.length : Int) < (((arr pre.length a T).length : Nat) : Int) := by rw [arr_len]; omega
    have hg := getD_range hTr (by omega) (t - (pre.length + 1))
    have hw : IntKind.i64.wrap (a + T.getD (t - (pre.length + 1)) 0) = a + T.getD (t - (pre.length + 1)) 0 := wrap_id (by omega) (by omega)
    have htn : (e.2).toNat = t := by rw [ht]; rfl
    have a1 := arr_at pre.length t a T hge
    have a2 := arr_here pre.length a T
    unfold cntE at hk
    rw [htn] at hk
    have hmn : 0 ≤ minI (a + T.getD (t - (pre.length + 1)) 0) 1000000000 ∧ minI (a + T.getD (t - (pre.length + 1)) 0) 1000000000 ≤ 1000000000 := by unfold minI; split <;> omega
    have := ih (epre ++ [e]) (at_step he) (minI (a + T.getD (t - (pre.length + 1)) 0) 1000000000) hmn.1 hmn.2 hk
    refine Ev3.succ ?_
    simp only [impl_counts.l1_eq, edges_len, at_lt he, edges_at he, edge_f1, ht, hl1, hl2, a1, a2, hw, arr_set, at_next he (by omega), nat_int, nn, toInt_sc, decide_true, if_true]
    exact this
theorem counts_l0 (m : List St) (hm : MachB m) (hok : stsOk m.length 0 m = true) : ∀ (k : Nat) (pre rest : List St), pre.length = k → m = pre ++ rest →
    Ev2 (fun N n => impl_counts.l0 N n (machP m) ((k : Int) - 1) ((List.replicate k (0 : Int) ++ cntL k rest).map intP)) [intsP (cntL 0 m)] := by
  have hn := hm.n
  intro k
  induction k with
  | zero =>
    intro pre rest hk hp
    obtain rfl : pre = [] := List.eq_nil_of_length_eq_zero hk
    rw [List.nil_append] at hp
    subst hp
    refine Ev2.succ ?_
    have h0 : ¬ (0 : Int) ≤ ((0 : Nat) : Int) - 1 := by omega
    have e : (PV.list ((List.replicate 0 (0 : Int) ++ cntL 0 m).map intP)) = intsP (cntL 0 m) := by simp [intsP]
    simp only [impl_counts.l0_eq, h0, e, decide_false, if_false, Bool.false_eq_true]
    exact Ev2.now _
  | succ k ih =>
    intro pre rest hk hp
    obtain ⟨pre', s, rfl⟩ : ∃ pre' s, pre = pre' ++ [s] := by
      rcases List.eq_nil_or_concat pre with rfl | ⟨a, b, rfl⟩
      · simp at hk
      · exact ⟨a, b, by simp⟩
    have hk' : pre'.length = k := by simpa using hk
    subst hk'
    have hp' : m = pre' ++ s :: rest := by rw [hp]; simp
    have hes := fun e he => (sts_edges hok hp' e he).2
    have hr := cntL_range rest (pre'.length + 1)
    have hlm : m.length = pre'.length + 1 + rest.length := by rw [hp']; simp; omega
    have hw : IntKind.i64.wrap ((pre'.length : Int) - 1) = (pre'.length : Int) - 1 := wrap_id (by omega) (by omega)
    have hih := ih pre' (s :: rest) rfl hp'
    have h0 : (0 : Int) ≤ (((pre'.length + 1 : Nat)) : Int) - 1 := by omega
    have h1 : (((pre'.length + 1 : Nat)) : Int) - 1 = (pre'.length : Int) := by omega
    have hl2 : (pre'.length : Int) < (((arr pre'.length 0 (cntL (pre'.length + 1) rest)).length : Nat) : Int) := by rw [arr_len]; omega
    have key := counts_l1 m hm hp' (cntL (pre'.length + 1) rest) (cntL_len _ _) hr (intsP (cntL 0 m)) hes s.2 [] rfl (if s.1 = true then 1 else 0) (by split <;> omega) (by split <;> omega) (by rw [hw]; exact hih)
    refine Ev2.succ ?_
    by_cases hs : s.1 = true
    · rw [if_pos hs] at key
      simp only [impl_counts.l0_eq, h0, h1, arr_zero, mach_len, at_lt hp', mach_at hp', st_f0, st_f1, edges_len, hs, hl2, arr_set, nat_int, nn, toBool_sc, decide_true, if_true]
      exact key.start
    · rw [if_neg hs] at key
      simp only [impl_counts.l0_eq, h0, h1, arr_zero, mach_len, at_lt hp', mach_at hp', st_f0, st_f1, edges_len, hs, hl2, nat_int, nn, toBool_sc, decide_true, if_true, if_false, Bool.false_eq_true]
      exact key.start
theorem counts_ev (m : List St) (hm : MachB m) (hok : stsOk m.length 0 m = true) : Ev (fun N => impl_counts.f N [machP m]) [intsP (cntL 0 m)] := by
  have hn := hm.n
  have c1 : m.length ≤ 35184372088832 := by omega
  by_cases hne : 0 < m.length
  · have hw : IntKind.i64.wrap ((m.length : Int) - 1) = (m.length : Int) - 1 := wrap_id (by omega) (by omega)
    have h := (counts_l0 m hm hok m.length m [] rfl (by simp)).diag
    have e : (List.replicate m.length (0 : Int) ++ cntL m.length []).map intP = List.replicate m.length (intP 0) := by simp [cntL]
    rw [e] at h
    simp only [impl_counts.f_eq, mach_len, c1, hw, stk, Int.reduceEq, Nat.reduceEqDiff, Int.reduceLE, Int.reduceLT]
    exact h
  · have hm0 : m = [] := List.eq_nil_of_length_eq_zero (by omega)
    subst hm0
    have h := (counts_l0 [] hm hok 0 [] [] rfl rfl).diag
    have hw : IntKind.i64.wrap ((([] : List St).length : Int) - 1) = ((0 : Nat) : Int) - 1 := by
      rw [List.length_nil]; exact wrap_id (by omega) (by omega)
    simp only [impl_counts.f_eq, mach_len, c1, hw, stk, Int.reduceEq, Nat.reduceEqDiff, Int.reduceLE, Int.reduceLT]
    simpa [cntL] using h
def txt (l : List Int) : ByteArray := ⟨(l.map fun x => UInt8.ofNat x.toNat).toArray⟩
def aheadT (h : ByteArray) (ws : List (List Int)) : List ByteArray := ws.map fun u => h ++ txt u
theorem aheadT_app (h : ByteArray) (a b : List (List Int)) : aheadT h (a ++ b) = aheadT h a ++ aheadT h b := by simp [aheadT]
theorem txt_cons (h : ByteArray) (c : Int) (u : List Int) : (h ++ txt [c]) ++ txt u = h ++ txt (c :: u) := by
  apply ByteArray.ext
  simp [ByteArray.data_append, txt]
theorem aheadT_cons (h : ByteArray) (c : Int) (ws : List (List Int)) : aheadT (h ++ txt [c]) ws = aheadT h (ws.map fun u => c :: u) := by
  simp only [aheadT, List.map_map]
  exact List.map_congr_left (fun u _ => txt_cons h c u)
theorem txt_nil (h : ByteArray) : h ++ txt [] = h := by
  apply ByteArray.ext
  simp [ByteArray.data_append, txt]
theorem u8_low {c : Int} (h : 97 ≤ c ∧ c ≤ 122) : IntKind.u8.wrap c = c := by
  have : IntKind.u8.wrap c = c % 256 := by simp [IntKind.wrap, IntKind.signed, IntKind.bits]
  rw [this]; omega
theorem byte_txt {c : Int} (h : 97 ≤ c ∧ c ≤ 122) : bytesOfL [PV.sc (.int .u8 (IntKind.u8.wrap c))] = txt [c] := by
  rw [u8_low h]; rfl
theorem txt_size (l : List Int) : (txt l).size = l.length := by simp [txt, ByteArray.size]
theorem take_more {α : Type} (o : List α) (k : Nat) (A B : List α) : (o ++ A.take (k - o.length)) ++ B.take (k - (o ++ A.take (k - o.length)).length) = o ++ (A ++ B).take (k - o.length) := by
  rw [List.append_assoc, List.take_append]
  congr 2
  rw [List.length_append, List.length_take]
  by_cases h : A.length ≤ k - o.length
  · rw [Nat.min_eq_right h]; congr 1; omega
  · have h' : k - o.length ≤ A.length := by omega
    rw [Nat.min_eq_left h']
    have e1 : k - (o.length + (k - o.length)) = 0 := by omega
    have e2 : k - o.length - A.length = 0 := by omega
    rw [e1, e2]
theorem gather_l1 (m : List St) (hm : MachB m) (hok : stsOk m.length 0 m = true) {pre rest : List St} {s : St} (hp : m = pre ++ s :: rest) (N d k : Nat)
    (ih : ∀ at', at' < m.length → pre.length < at' → ∀ (h : ByteArray) (most : Int) (out : List ByteArray), h.size + k ≤ 4611686018427387904 → 0 ≤ most → most ≤ 300 → out.length ≤ 300 → impl_gather.g N d [machP m, intP (at' : Int), strP h, intP most, strsP out] = some [strsP (out ++ (aheadT h (WM m at')).take (most.toNat - out.length))])
    (h : ByteArray) (most : Int) (hh : h.size + k + 1 ≤ 4611686018427387904) (h0 : 0 ≤ most) (h1 : most ≤ 300) :
    ∀ (es epre : List Ed), s.2 = epre ++ es → ∀ n, es.length + 1 ≤ n → ∀ out : List ByteArray, out.length ≤ 300 →
      impl_gather.l1 N d n (machP m) h most (edgesP s.2) (s.2.length : Int) (epre.length : Int) (strsP out) = some [strsP (out ++ (aheadT h (WE m es)).take (most.toNat - out.length))] := by
  have hn := hm.n
  have hse := hm.e s (by rw [hp]; simp)
  have hlm : m.length = pre.length + 1 + rest.length := by rw [hp]; simp; omega
  intro es
  induction es with
  | nil =>
    intro epre he n hnn out ho
    obtain ⟨n, rfl⟩ : ∃ n', n = n' + 1 := ⟨n - 1, by simp at hnn; omega⟩
    simp only [impl_gather.l1_eq, at_end he, stk, Int.reduceEq, Nat.reduceEqDiff, Int.reduceLE, Int.reduceLT]
    simp [WE, aheadT]
  | cons e es ihe =>
    intro epre he n hnn out ho
    obtain ⟨n, rfl⟩ : ∃ n', n = n' + 1 := ⟨n - 1, by simp at hnn; omega⟩
    obtain ⟨hc, h2, h3⟩ := sts_edges hok hp e (by rw [he]; simp)
    obtain ⟨t, ht⟩ := Int.eq_ofNat_of_zero_le (show 0 ≤ e.2 by omega)
    have htn : e.2.toNat = t := by rw [ht]; rfl
    by_cases hmo : most ≤ (out.length : Int)
    · have hz : most.toNat - out.length = 0 := by omega
      simp only [impl_gather.l1_eq, at_lt he, edges_len, strs_len, hmo, stk, Int.reduceEq, Nat.reduceEqDiff, Int.reduceLE, Int.reduceLT]
      simp [hz]
    · have hs1 : h.size + (txt [e.1]).size ≤ 9223372036854775807 := by rw [txt_size]; simp; omega
      have hg := ih t (by omega) (by omega) (h ++ txt [e.1]) most out (by rw [ByteArray.size_append, txt_size]; simp; omega) h0 h1 ho
      have hlen : (out ++ (aheadT (h ++ txt [e.1]) (WM m t)).take (most.toNat - out.length)).length ≤ 300 := by
        rw [List.length_append, List.length_take]; omega
      have hrec := ihe (epre ++ [e]) (at_step he) n (by simp at hnn ⊢; omega) _ hlen
      simp only [impl_gather.l1_eq, at_lt he, edges_len, edges_at he, edge_f0, edge_f1, strs_len, hmo, byte_txt hc, hs1, ht, hg, at_next he (by omega), stk, Int.reduceEq, Nat.reduceEqDiff, Int.reduceLE, Int.reduceLT]
      rw [hrec, take_more, WE, htn, aheadT_app, aheadT_cons]
theorem gather_l0 (m : List St) (hm : MachB m) (hok : stsOk m.length 0 m = true) {pre rest : List St} {s : St} (hp : m = pre ++ s :: rest) (N d k : Nat)
    (ih : ∀ at', at' < m.length → pre.length < at' → ∀ (h : ByteArray) (most : Int) (out : List ByteArray), h.size + k ≤ 4611686018427387904 → 0 ≤ most → most ≤ 300 → out.length ≤ 300 → impl_gather.g N d [machP m, intP (at' : Int), strP h, intP most, strsP out] = some [strsP (out ++ (aheadT h (WM m at')).take (most.toNat - out.length))])
    (h : ByteArray) (most : Int) (hh : h.size + k + 1 ≤ 4611686018427387904) (h0 : 0 ≤ most) (h1 : most ≤ 300) (n : Nat) (hnn : s.2.length + 1 ≤ n) (out : List ByteArray) (ho : out.length ≤ 300) :
      impl_gather.l0 N d n (machP m) h most (edgesP s.2) (s.2.length : Int) 0 (out.map strP) = some [strsP (out ++ (aheadT h (WE m s.2)).take (most.toNat - out.length))] := by
  have hn := hm.n
  have hse := hm.e s (by rw [hp]; simp)
  have hlm : m.length = pre.length + 1 + rest.length := by rw [hp]; simp; omega
  obtain ⟨n, rfl⟩ : ∃ n', n = n' + 1 := ⟨n - 1, by omega⟩
  have el : PV.list (out.map strP) = strsP out := rfl
  have eln : (out.map strP).length = out.length := by simp
  cases hs : s.2 with
  | nil =>
    have z : ¬ (0 : Int) < ((([] : List Ed).length : Nat) : Int) := by simp
    simp only [impl_gather.l0_eq, z, el, stk, Int.reduceEq, Nat.reduceEqDiff, Int.reduceLE, Int.reduceLT]
    simp [WE, aheadT]
  | cons e es =>
    have he : s.2 = [] ++ e :: es := hs
    obtain ⟨hc, h2, h3⟩ := sts_edges hok hp e (by rw [he]; simp)
    obtain ⟨t, ht⟩ := Int.eq_ofNat_of_zero_le (show 0 ≤ e.2 by omega)
    have htn : e.2.toNat = t := by rw [ht]; rfl
    have q1 := at_lt he
    have q2 := edges_at he
    have q3 := at_next he (by omega)
    rw [hs] at q1 q2
    simp only [List.length_nil, Int.natCast_zero, Nat.zero_add] at q1 q2 q3
    have z0 : (0 : Int).toNat = 0 := rfl
    by_cases hmo : most ≤ (out.length : Int)
    · have hz : most.toNat - out.length = 0 := by omega
      simp only [impl_gather.l0_eq, q1, edges_len, eln, el, hmo, stk, Int.reduceEq, Nat.reduceEqDiff, Int.reduceLE, Int.reduceLT]
      simp [hz]
    · have hs1 : h.size + (txt [e.1]).size ≤ 9223372036854775807 := by rw [txt_size]; simp; omega
      have hg := ih t (by omega) (by omega) (h ++ txt [e.1]) most out (by rw [ByteArray.size_append, txt_size]; simp; omega) h0 h1 ho
      have hlen : (out ++ (aheadT (h ++ txt [e.1]) (WM m t)).take (most.toNat - out.length)).length ≤ 300 := by
        rw [List.length_append, List.length_take]; omega
      have hrec := gather_l1 m hm hok hp N d k ih h most hh h0 h1 es [e] (by rw [hs]; rfl) n (by rw [hs] at hnn; simp at hnn ⊢; omega) _ hlen
      rw [hs] at hrec
      simp only [impl_gather.l0_eq, q1, edges_len, z0, q2, edge_f0, edge_f1, eln, el, hmo, byte_txt hc, hs1, ht, hg, q3, List.nil_append, stk, Int.reduceEq, Nat.reduceEqDiff, Int.reduceLE, Int.reduceLT]
      first
        | rw [hrec, take_more, WE, htn, aheadT_app, aheadT_cons]
        | (simp only [List.length_singleton] at hrec; rw [hrec, take_more, WE, htn, aheadT_app, aheadT_cons])
theorem gather_g (m : List St) (hm : MachB m) (hok : stsOk m.length 0 m = true) : ∀ k, ∃ k0, ∀ N d, k0 ≤ N → k0 ≤ d → ∀ at', at' < m.length → m.length - at' ≤ k → ∀ (h : ByteArray) (most : Int) (out : List ByteArray), h.size + k ≤ 4611686018427387904 → 0 ≤ most → most ≤ 300 → out.length ≤ 300 →
    impl_gather.g N d [machP m, intP (at' : Int), strP h, intP most, strsP out] = some [strsP (out ++ (aheadT h (WM m at')).take (most.toNat - out.length))]
  | 0 => ⟨0, fun N d _ _ at' h1 h2 => by omega⟩
  | k + 1 => by
    obtain ⟨k0, hk⟩ := gather_g m hm hok k
    refine ⟨k0 + 1048578, fun N d hN hd at' hat hle h most out hh h0 h1 ho => ?_⟩
    obtain ⟨d, rfl⟩ : ∃ d', d = d' + 1 := ⟨d - 1, by omega⟩
    obtain ⟨pre, s, rest, hp, rfl⟩ := split_at m at' hat
    have hse := hm.e s (by rw [hp]; simp)
    have hn := hm.n
    have ih : ∀ at', at' < m.length → pre.length < at' → ∀ (h : ByteArray) (most : Int) (out : List ByteArray), h.size + k ≤ 4611686018427387904 → 0 ≤ most → most ≤ 300 → out.length ≤ 300 → impl_gather.g N d [machP m, intP (at' : Int), strP h, intP most, strsP out] = some [strsP (out ++ (aheadT h (WM m at')).take (most.toNat - out.length))] :=
      fun a' ha1 ha2 h' mo o' b1 b2 b3 b4 => hk N d (by omega) (by omega) a' ha1 (by omega) h' mo o' b1 b2 b3 b4
    have hW := WM_eq m pre rest s hp (fun e he => (sts_edges hok hp e he).2.1)
    by_cases hs : s.1 = true
    · by_cases hmo : (out.length : Int) < most
      · have c1 : out.length + 1 ≤ 8796093022208 := by omega
        have c1' : (strsP out).items.length + [PV.sc (Value.string h)].length ≤ 8796093022208 := by rw [strs_len]; simpa using c1
        have eo : (strsP out).items ++ [PV.sc (Value.string h)] = (out ++ [h]).map strP := by simp [strsP, PV.items]
        have hrec := gather_l0 m hm hok hp N d k ih h most (by omega) h0 h1 N (by omega) (out ++ [h]) (by simp; omega)
        simp only [impl_gather.g_eq, mach_len, at_lt hp, mach_at hp, st_f0, st_f1, hs, edges_len, c1, c1', strs_len, eo, stk, Int.reduceEq, Nat.reduceEqDiff, Int.reduceLE, Int.reduceLT, hmo]
        rw [hrec, hW, if_pos hs, aheadT_app]
        have e1 : aheadT h [[]] = [h] := by simp [aheadT, txt_nil]
        rw [e1]
        congr 2
        have e2 : most.toNat - out.length = (most.toNat - (out ++ [h]).length) + 1 := by simp; omega
        rw [e2, List.singleton_append, List.take_succ_cons]; simp
      · have hz : most.toNat - out.length = 0 := by omega
        have hrec := gather_l1 m hm hok hp N d k ih h most (by omega) h0 h1 s.2 [] rfl N (by omega) out ho
        simp only [List.length_nil, Int.natCast_zero] at hrec
        simp only [impl_gather.g_eq, mach_len, at_lt hp, mach_at hp, st_f0, st_f1, hs, edges_len, stk, Int.reduceEq, Nat.reduceEqDiff, Int.reduceLE, Int.reduceLT, hmo]
        rw [hrec]; simp [hz]
    · have hrec := gather_l1 m hm hok hp N d k ih h most (by omega) h0 h1 s.2 [] rfl N (by omega) out ho
      simp only [List.length_nil, Int.natCast_zero] at hrec
      simp only [impl_gather.g_eq, mach_len, at_lt hp, mach_at hp, st_f0, st_f1, hs, edges_len, stk, Int.reduceEq, Nat.reduceEqDiff, Int.reduceLE, Int.reduceLT]
      rw [hrec, hW, if_neg hs, List.nil_append]
theorem gather_ev (m : List St) (hm : MachB m) (hok : stsOk m.length 0 m = true) (at' : Nat) (hat : at' < m.length) (h : ByteArray) (hh : h.size ≤ 1152921504606846976) (most : Int) (h0 : 0 ≤ most) (h1 : most ≤ 300) :
    Ev (fun N => impl_gather.f N [machP m, intP (at' : Int), strP h, intP most, strsP []]) [strsP ((aheadT h (WM m at')).take most.toNat)] := by
  have hn := hm.n
  obtain ⟨k0, hk⟩ := gather_g m hm hok m.length
  refine ⟨k0, fun N hN => ?_⟩
  show impl_gather.f N _ = _
  rw [impl_gather.f_eq, hk N N hN hN at' hat (by omega) h most [] (by omega) h0 h1 (by simp)]
  simp
theorem all_l0 (m : List St) (hm : MachB m) (hok : stsOk m.length 0 m = true) {pre rest : List St} {s : St} (hp : m = pre ++ s :: rest) (N d k : Nat)
    (ih : ∀ at', at' < m.length → pre.length < at' → ∀ (h : ByteArray) (most : Int), h.size + k ≤ 4611686018427387904 → 0 ≤ most → most ≤ 300 → spec_l12All.g N d [machP m, intP (at' : Int), strP h, intP most] = some [strsP ((aheadT h (WM m at')).take (most.toNat + 1))])
    (h : ByteArray) (most : Int) (hh : h.size + k + 1 ≤ 4611686018427387904) (h0 : 0 ≤ most) (h1 : most ≤ 300) :
    ∀ (es epre : List Ed), s.2 = epre ++ es → ∀ n, es.length + 1 ≤ n → ∀ out : List ByteArray, out.length ≤ 301 →
      spec_l12All.l0 N d n (machP m) (pre.length : Int) h most (epre.length : Int) (out.map strP) = some [strsP (out ++ (aheadT h (WE m es)).take (most.toNat + 1 - out.length))] := by
  have hn := hm.n
  have hse := hm.e s (by rw [hp]; simp)
  have hlm : m.length = pre.length + 1 + rest.length := by rw [hp]; simp; omega
  intro es
  induction es with
  | nil =>
    intro epre he n hnn out ho
    obtain ⟨n, rfl⟩ : ∃ n', n = n' + 1 := ⟨n - 1, by simp at hnn; omega⟩
    simp only [spec_l12All.l0_eq, mach_len, at_lt hp, mach_at hp, st_f1, edges_len, at_end he, stk, Int.reduceEq, Nat.reduceEqDiff, Int.reduceLE, Int.reduceLT]
    simp [WE, aheadT, strsP]
  | cons e es ihe =>
    intro epre he n hnn out ho
    obtain ⟨n, rfl⟩ : ∃ n', n = n' + 1 := ⟨n - 1, by simp at hnn; omega⟩
    obtain ⟨hc, h2, h3⟩ := sts_edges hok hp e (by rw [he]; simp)
    obtain ⟨t, ht⟩ := Int.eq_ofNat_of_zero_le (show 0 ≤ e.2 by omega)
    have htn : e.2.toNat = t := by rw [ht]; rfl
    have eln : (out.map strP).length = out.length := by simp
    by_cases hmo : (out.length : Int) ≤ most
    · have hs1 : h.size + (txt [e.1]).size ≤ 9223372036854775807 := by rw [txt_size]; simp; omega
      have hw : IntKind.i64.wrap (most - (out.length : Int)) = most - (out.length : Int) := wrap_id (by omega) (by omega)
      have hg := ih t (by omega) (by omega) (h ++ txt [e.1]) (most - (out.length : Int)) (by rw [ByteArray.size_append, txt_size]; simp; omega) (by omega) (by omega)
      have htk : (most - (out.length : Int)).toNat + 1 = most.toNat + 1 - out.length := by omega
      rw [htk] at hg
      have hlen : (out ++ (aheadT (h ++ txt [e.1]) (WM m t)).take (most.toNat + 1 - out.length)).length ≤ 301 := by
        rw [List.length_append, List.length_take]; omega
      have c1 : out.length + ((aheadT (h ++ txt [e.1]) (WM m t)).take (most.toNat + 1 - out.length)).length ≤ 8796093022208 := by
        rw [List.length_take]; omega
      have hrec := ihe (epre ++ [e]) (at_step he) n (by simp at hnn ⊢; omega) _ hlen
      rw [List.map_append] at hrec
      have eit : (strsP ((aheadT (h ++ txt [e.1]) (WM m t)).take (most.toNat + 1 - out.length))).items = ((aheadT (h ++ txt [e.1]) (WM m t)).take (most.toNat + 1 - out.length)).map strP := rfl
      simp only [spec_l12All.l0_eq, mach_len, at_lt hp, mach_at hp, st_f1, edges_len, at_lt he, edges_at he, edge_f0, edge_f1, eln, hmo, byte_txt hc, hs1, ht, hw, hg, strs_len, c1, at_next he (by omega), stk, Int.reduceEq, Nat.reduceEqDiff, Int.reduceLE, Int.reduceLT]
      rw [eit, hrec, take_more, WE, htn, aheadT_app, aheadT_cons]
    · have hz : most.toNat + 1 - out.length = 0 := by omega
      simp only [spec_l12All.l0_eq, mach_len, at_lt hp, mach_at hp, st_f1, edges_len, at_lt he, eln, hmo, stk, Int.reduceEq, Nat.reduceEqDiff, Int.reduceLE, Int.reduceLT]
      simp [hz, strsP]
theorem all_g (m : List St) (hm : MachB m) (hok : stsOk m.length 0 m = true) : ∀ k, ∃ k0, ∀ N d, k0 ≤ N → k0 ≤ d → ∀ at', at' < m.length → m.length - at' ≤ k → ∀ (h : ByteArray) (most : Int), h.size + k ≤ 4611686018427387904 → 0 ≤ most → most ≤ 300 →
    spec_l12All.g N d [machP m, intP (at' : Int), strP h, intP most] = some [strsP ((aheadT h (WM m at')).take (most.toNat + 1))]
  | 0 => ⟨0, fun N d _ _ at' h1 h2 => by omega⟩
  | k + 1 => by
    obtain ⟨k0, hk⟩ := all_g m hm hok k
    refine ⟨k0 + 1048578, fun N d hN hd at' hat hle h most hh h0 h1 => ?_⟩
    obtain ⟨d, rfl⟩ : ∃ d', d = d' + 1 := ⟨d - 1, by omega⟩
    obtain ⟨pre, s, rest, hp, rfl⟩ := split_at m at' hat
    have hse := hm.e s (by rw [hp]; simp)
    have hn := hm.n
    have ih : ∀ at', at' < m.length → pre.length < at' → ∀ (h : ByteArray) (most : Int), h.size + k ≤ 4611686018427387904 → 0 ≤ most → most ≤ 300 → spec_l12All.g N d [machP m, intP (at' : Int), strP h, intP most] = some [strsP ((aheadT h (WM m at')).take (most.toNat + 1))] :=
      fun a' ha1 ha2 h' mo b1 b2 b3 => hk N d (by omega) (by omega) a' ha1 (by omega) h' mo b1 b2 b3
    have hW := WM_eq m pre rest s hp (fun e he => (sts_edges hok hp e he).2.1)
    by_cases hs : s.1 = true
    · have c1 : (([] : List PV).length + 1 ≤ 8796093022208) = True := by simp
      have hrec := all_l0 m hm hok hp N d k ih h most (by omega) h0 h1 s.2 [] rfl N (by omega) [h] (by simp)
      simp only [List.length_nil, Int.natCast_zero, List.map_cons, List.map_nil] at hrec
      simp only [spec_l12All.g_eq, mach_len, at_lt hp, mach_at hp, st_f0, hs, c1, List.nil_append, stk, Int.reduceEq, Nat.reduceEqDiff, Int.reduceLE, Int.reduceLT]
      rw [hrec, hW, if_pos hs, aheadT_app]
      have e1 : aheadT h [[]] = [h] := by simp [aheadT, txt_nil]
      rw [e1]; simp
    · have hrec := all_l0 m hm hok hp N d k ih h most (by omega) h0 h1 s.2 [] rfl N (by omega) [] (by simp)
      simp only [List.length_nil, Int.natCast_zero, List.map_nil] at hrec
      simp only [spec_l12All.g_eq, mach_len, at_lt hp, mach_at hp, st_f0, hs, stk, Int.reduceEq, Nat.reduceEqDiff, Int.reduceLE, Int.reduceLT]
      rw [hrec, hW, if_neg hs, List.nil_append]; simp
theorem all_ev (m : List St) (hm : MachB m) (hok : stsOk m.length 0 m = true) (at' : Nat) (hat : at' < m.length) (h : ByteArray) (hh : h.size ≤ 1152921504606846976) (most : Int) (h0 : 0 ≤ most) (h1 : most ≤ 300) :
    Ev (fun N => spec_l12All.f N [machP m, intP (at' : Int), strP h, intP most]) [strsP ((aheadT h (WM m at')).take (most.toNat + 1))] := by
  have hn := hm.n
  obtain ⟨k0, hk⟩ := all_g m hm hok m.length
  refine ⟨k0, fun N hN => ?_⟩
  show spec_l12All.f N _ = _
  rw [spec_l12All.f_eq, hk N N hN hN at' hat (by omega) h most (by omega) h0 h1]
theorem okM_sts {m : List St} (h : okM m = true) : 1 ≤ m.length ∧ m.length ≤ 400 ∧ stsOk m.length 0 m = true ∧ (depL 0 m).getD 0 0 ≤ 12 := by
  simp only [okM, Bool.and_eq_true, decide_eq_true_eq] at h
  exact ⟨h.1.1, h.1.2, h.2.1, h.2.2⟩
def allM (m : List St) (most : Int) : List ByteArray × Bool :=
  if okM m = true ∧ (m.headD (false, [])).1 = false ∧ (0 ≤ most ∧ most ≤ 300) ∧ ((WM m 0).length : Int) ≤ most then (aheadT ⟨#[]⟩ (WM m 0), true) else ([], false)
theorem mach_head {m : List St} {s : St} {r : List St} (h : m = s :: r) : (machP m).elem 0 = stP s := by subst h; rfl
theorem ints_at0 (l : List Int) : ((intsP l).elem 0).toInt = l.getD 0 0 := ints_elem l 0
theorem implAll_ev (m : List St) (hm : MachB m) (most : Int) : Ev (fun N => impl_MachineAll.f N [machP m, intP most]) [strsP (allM m most).1, boolP (allM m most).2] := by
  simp only [impl_MachineAll.f_eq]
  refine Ev.bind (implOk_ev m hm) ?_
  unfold allM
  cases ho : okM m with
  | false => simp only [stk, Int.reduceEq, Nat.reduceEqDiff, Int.reduceLE, Int.reduceLT]; exact Ev.now _
  | true =>
    obtain ⟨h1, h2, h3, h4⟩ := okM_sts ho
    obtain ⟨s, r, hmr⟩ : ∃ s r, m = s :: r := by cases m with
      | nil => simp at h1
      | cons s r => exact ⟨s, r, rfl⟩
    have hlt : (0 : Int) < (m.length : Int) := by omega
    have hhd : m.headD (false, []) = s := by rw [hmr]; rfl
    simp only [mach_len, hlt, mach_head hmr, st_f0, hhd, implWithin_val, stk, Int.reduceEq, Nat.reduceEqDiff, Int.reduceLE, Int.reduceLT]
    cases hs : s.1 with
    | true => simp only [stk, Int.reduceEq, Nat.reduceEqDiff, Int.reduceLE, Int.reduceLT]; exact Ev.now _
    | false =>
      by_cases hmo : 0 ≤ most ∧ most ≤ 300
      · simp only [hmo, and_self, stk, Int.reduceEq, Nat.reduceEqDiff, Int.reduceLE, Int.reduceLT]
        refine Ev.bind (counts_ev m hm h3) ?_
        have hcl : (0 : Int) < ((cntL 0 m).length : Int) := by rw [cntL_len]; exact hlt
        have hc0 : (cntL 0 m).getD 0 0 = cap9 (WM m 0).length := cntL_eq m 0 0
        simp only [headD_one, ints_len, hcl, ints_at0, hc0, stk, Int.reduceEq, Nat.reduceEqDiff, Int.reduceLE, Int.reduceLT]
        by_cases hW : ((WM m 0).length : Int) ≤ most
        · have hW' : ¬ most < cap9 (WM m 0).length := by unfold cap9; split <;> omega
          simp only [hW, hW', stk, Int.reduceEq, Nat.reduceEqDiff, Int.reduceLE, Int.reduceLT]
          have hg := gather_ev m hm h3 0 (by omega) ⟨#[]⟩ (by simp [ByteArray.size]) most hmo.1 hmo.2
          refine Ev.bind hg ?_
          have ht : (aheadT ⟨#[]⟩ (WM m 0)).take most.toNat = aheadT ⟨#[]⟩ (WM m 0) := List.take_of_length_le (by simp [aheadT]; omega)
          simp only [headD_one, ht]
          exact Ev.now _
        · have hW' : most < cap9 (WM m 0).length := by unfold cap9; split <;> omega
          simp only [hW, hW', stk, Int.reduceEq, Nat.reduceEqDiff, Int.reduceLE, Int.reduceLT]; exact Ev.now _
      · have hmo' : ¬ (0 ≤ most ∧ most ≤ 300 ∧ ((WM m 0).length : Int) ≤ most) := fun h => hmo ⟨h.1, h.2.1⟩
        simp only [hmo, stk, Int.reduceEq, Nat.reduceEqDiff, Int.reduceLE, Int.reduceLT]
        exact Ev.now _
theorem allM_len (m : List St) (most : Int) : (allM m most).1.length ≤ 300 := by
  unfold allM
  split
  · rename_i h; simp [aheadT]; omega
  · simp
def stepE (c : Int) : List Ed → Int
  | [] => -1
  | e :: es => if e.1 = c then e.2 else stepE c es
def lastE (c : Int) : List Ed → Int → Int
  | [], x => x
  | e :: es, x => lastE c es (if e.1 = c then e.2 else x)
def edAt (m : List St) (a : Nat) : List Ed := (m.getD a (false, [])).2
def goM (m : List St) : Int → List Int → Int
  | a, [] => a
  | a, c :: u => if stepE c (edAt m a.toNat) < 0 then -1 else goM m (stepE c (edAt m a.toNat)) u
theorem edAt_eq {m pre rest : List St} {s : St} (hp : m = pre ++ s :: rest) : edAt m pre.length = s.2 := by
  subst hp; simp [edAt, List.getD_eq_getElem?_getD]
theorem edgesOk_gt {n i : Nat} : ∀ {es : List Ed} {q : Int}, edgesOk n i (some q) es = true → ∀ e ∈ es, q < e.1
  | [], _, _, e, he => absurd he (by simp)
  | c :: es, q, h, e, he => by
    simp only [edgesOk, edgeOk, Bool.and_eq_true, decide_eq_true_eq] at h
    rcases List.mem_cons.1 he with rfl | he
    · exact h.1.2.2
    · have := edgesOk_gt h.2 e he
      omega
theorem lastE_not {c : Int} : ∀ {es : List Ed} {x : Int}, (∀ e ∈ es, e.1 ≠ c) → lastE c es x = x
  | [], _, _ => rfl
  | e :: es, x, h => by
    rw [lastE, if_neg (h e (by simp))]
    exact lastE_not (fun e' he => h e' (by simp [he]))
theorem last_step {n i : Nat} {c : Int} : ∀ {es : List Ed} {p : Option Int}, edgesOk n i p es = true → lastE c es (-1) = stepE c es
  | [], _, _ => rfl
  | e :: es, p, h => by
    simp only [edgesOk, Bool.and_eq_true] at h
    rw [lastE, stepE]
    by_cases he : e.1 = c
    · rw [if_pos he, if_pos he]
      exact lastE_not (fun e' h' => by have := edgesOk_gt h.2 e' h'; omega)
    · rw [if_neg he, if_neg he]
      exact last_step h.2
theorem stepE_mem {c : Int} : ∀ {es : List Ed}, stepE c es = -1 ∨ ∃ e ∈ es, e.1 = c ∧ stepE c es = e.2
  | [] => .inl rfl
  | e :: es => by
    rw [stepE]
    by_cases he : e.1 = c
    · rw [if_pos he]; exact .inr ⟨e, by simp, he, rfl⟩
    · rw [if_neg he]
      rcases stepE_mem (c := c) (es := es) with h | ⟨e', h1, h2, h3⟩
      · exact .inl h
      · exact .inr ⟨e', by simp [h1], h2, h3⟩
theorem step_loop (es0 : List Ed) (hl : es0.length ≤ 1048576) (c : Int) (hc : IntKind.i64.wrap c = c) : ∀ (es epre : List Ed), es0 = epre ++ es →
    Ev2 (fun N n => impl_State_step.l0 N n c (edgesP es0) (es0.length : Int) (epre.length : Int)) [intP (stepE c es)] := by
  intro es
  induction es with
  | nil =>
    intro epre he
    refine Ev2.succ ?_
    simp only [impl_State_step.l0_eq, at_end he, stk, Int.reduceEq, Nat.reduceEqDiff, Int.reduceLE, Int.reduceLT]
    exact Ev2.now _
  | cons e es ih =>
    intro epre he
    refine Ev2.succ ?_
    simp only [impl_State_step.l0_eq, at_lt he, edges_len, edges_at he, edge_f0, edge_f1, hc, at_next he (by omega), stk, Int.reduceEq, Nat.reduceEqDiff, Int.reduceLE, Int.reduceLT]
    by_cases h : e.1 = c
    · simp only [h, stepE, stk, Int.reduceEq, Nat.reduceEqDiff, Int.reduceLE, Int.reduceLT]; exact Ev2.now _
    · simp only [h, stepE, stk, Int.reduceEq, Nat.reduceEqDiff, Int.reduceLE, Int.reduceLT]; exact ih _ (at_step he)
theorem step_ev (s : St) (hl : s.2.length ≤ 1048576) (c : Int) (hc : IntKind.i64.wrap c = c) : Ev (fun N => impl_State_step.f N [stP s, .sc (.int .u8 c)]) [intP (stepE c s.2)] := by
  simp only [impl_State_step.f_eq, st_f1, edges_len, stk, Int.reduceEq, Nat.reduceEqDiff, Int.reduceLE, Int.reduceLT]
  exact (step_loop s.2 hl c hc s.2 [] rfl).diag
theorem byte_wrap {c : Int} (h : 0 ≤ c ∧ c ≤ 255) : IntKind.i64.wrap c = c := wrap_id (by omega) (by omega)
theorem bytesOf_rng {s : ByteArray} : ∀ c ∈ bytesOf s, 0 ≤ c ∧ c ≤ 255 := fun c hc => by
  unfold bytesOf at hc
  obtain ⟨b, _, rfl⟩ := List.mem_map.1 hc
  have := b.toNat_lt
  omega
theorem follow_loop (m : List St) (hm : MachB m) (hok : stsOk m.length 0 m = true) (s : ByteArray) (hs : s.size ≤ 9223372036854775807) : ∀ (rest pre : List Int), bytesOf s = pre ++ rest → ∀ a : Nat, a < m.length →
    Ev2 (fun N n => impl_follow.l0 N n (machP m) s (a : Int) (s.size : Int) (pre.length : Int)) [intP (goM m a rest)] := by
  intro rest
  induction rest with
  | nil =>
    intro pre hp a ha
    refine Ev2.succ ?_
    simp only [impl_follow.l0_eq, at_sizeE hp, stk, Int.reduceEq, Nat.reduceEqDiff, Int.reduceLE, Int.reduceLT]
    exact Ev2.now _
  | cons c rest ih =>
    intro pre hp a ha
    obtain ⟨mp, st, mr, hmp, rfl⟩ := split_at m a ha
    have hc := bytesOf_rng c (by rw [hp]; simp)
    have hse := hm.e st (by rw [hmp]; simp)
    have hn := hm.n
    refine Ev2.succ ?_
    simp only [impl_follow.l0_eq, mach_len, at_lt hmp, at_size hp, mach_at hmp, st_f0, st_f1, get_bt, at_bt hp, stk, Int.reduceEq, Nat.reduceEqDiff, Int.reduceLE, Int.reduceLT]
    refine Ev2.bind (step_ev st hse c (byte_wrap hc)) ?_
    simp only [goM, nat_int, edAt_eq hmp, stk, Int.reduceEq, Nat.reduceEqDiff, Int.reduceLE, Int.reduceLT]
    by_cases h : stepE c st.2 < 0
    · simp only [h, stk, Int.reduceEq, Nat.reduceEqDiff, Int.reduceLE, Int.reduceLT]; exact Ev2.now _
    · obtain ⟨e, he, _, h2⟩ := (stepE_mem (c := c) (es := st.2)).resolve_left (fun hx => h (by omega))
      obtain ⟨_, h3, h4⟩ := sts_edges hok hmp e he
      obtain ⟨t, ht⟩ := Int.eq_ofNat_of_zero_le (show 0 ≤ e.2 by omega)
      have hnx := at_next hp (by rw [bytesOf_len]; exact hs)
      rw [h2, ht] at h ⊢
      simp only [h, hnx, stk, Int.reduceEq, Nat.reduceEqDiff, Int.reduceLE, Int.reduceLT]
      exact ih _ (at_step hp) t (by omega)
theorem follow_ev (m : List St) (hm : MachB m) (hok : stsOk m.length 0 m = true) (hne : 0 < m.length) (s : ByteArray) (hs : s.size ≤ 9223372036854775807) : Ev (fun N => impl_follow.f N [machP m, strP s]) [intP (goM m 0 (bytesOf s))] := by
  simp only [impl_follow.f_eq, stk, Int.reduceEq, Nat.reduceEqDiff, Int.reduceLE, Int.reduceLT]
  exact (follow_loop m hm hok s hs (bytesOf s) [] rfl 0 hne).diag
theorem go_l1 (m : List St) (hm : MachB m) {mp mr : List St} {st : St} (hmp : m = mp ++ st :: mr) (s : ByteArray) {pre rest : List Int} {c : Int} (hp : bytesOf s = pre ++ c :: rest) (R : PV) :
    ∀ (es epre : List Ed), st.2 = epre ++ es → ∀ x : Int,
    (lastE c es x < 0 → R = intP (-1)) → (¬ lastE c es x < 0 → Ev2 (fun N n => spec_l3Go.l0 N n (machP m) s (lastE c es x) (IntKind.i64.wrap ((pre.length : Int) + 1))) [R]) →
    Ev3 (fun N m0 n => spec_l3Go.l1 N m0 n (machP m) s (mp.length : Int) (pre.length : Int) x (epre.length : Int)) [R] := by
  have hn := hm.n
  have hse := hm.e st (by rw [hmp]; simp)
  have hc := bytesOf_rng c (by rw [hp]; simp)
  have hcw := byte_wrap hc
  intro es
  induction es with
  | nil =>
    intro epre he x h1 h2
    refine Ev3.succ ?_
    simp only [spec_l3Go.l1_eq, mach_len, at_lt hmp, mach_at hmp, st_f1, edges_len, at_end he, stk, Int.reduceEq, Nat.reduceEqDiff, Int.reduceLE, Int.reduceLT]
    by_cases h : x < 0
    · have := h1 h; subst this
      simp only [h, stk, Int.reduceEq, Nat.reduceEqDiff, Int.reduceLE, Int.reduceLT]; exact Ev3.now _
    · simp only [h, stk, Int.reduceEq, Nat.reduceEqDiff, Int.reduceLE, Int.reduceLT]; exact (h2 h).outer
  | cons e es ih =>
    intro epre he x h1 h2
    refine Ev3.succ ?_
    simp only [spec_l3Go.l1_eq, mach_len, at_lt hmp, at_size hp, mach_at hmp, st_f1, edges_len, at_lt he, edges_at he, edge_f0, edge_f1, get_bt, at_bt hp, hcw, at_next he (by omega), stk, Int.reduceEq, Nat.reduceEqDiff, Int.reduceLE, Int.reduceLT]
    rw [lastE] at h1 h2
    by_cases h : e.1 = c
    · simp only [h, if_true] at h1 h2
      simp only [h, stk, Int.reduceEq, Nat.reduceEqDiff, Int.reduceLE, Int.reduceLT]; exact ih _ (at_step he) e.2 h1 h2
    · simp only [h, if_false] at h1 h2
      simp only [h, stk, Int.reduceEq, Nat.reduceEqDiff, Int.reduceLE, Int.reduceLT]; exact ih _ (at_step he) x h1 h2
theorem go_l0 (m : List St) (hm : MachB m) (hok : stsOk m.length 0 m = true) (s : ByteArray) (hs : s.size ≤ 9223372036854775807) : ∀ (rest pre : List Int), bytesOf s = pre ++ rest → ∀ a : Nat, a < m.length →
    Ev2 (fun N n => spec_l3Go.l0 N n (machP m) s (a : Int) (pre.length : Int)) [intP (goM m a rest)] := by
  intro rest
  induction rest with
  | nil =>
    intro pre hp a ha
    refine Ev2.succ ?_
    simp only [spec_l3Go.l0_eq, at_sizeE hp, stk, Int.reduceEq, Nat.reduceEqDiff, Int.reduceLE, Int.reduceLT]
    exact Ev2.now _
  | cons c rest ih =>
    intro pre hp a ha
    obtain ⟨mp, st, mr, hmp, rfl⟩ := split_at m a ha
    have hso := sts_at hok hmp
    simp only [stOk, Bool.and_eq_true] at hso
    have hls := last_step (c := c) hso.1
    have hnx := at_next hp (by rw [bytesOf_len]; exact hs)
    refine Ev2.succ ?_
    simp only [spec_l3Go.l0_eq, at_size hp, stk, Int.reduceEq, Nat.reduceEqDiff, Int.reduceLE, Int.reduceLT]
    refine Ev3.start (go_l1 m hm hmp s hp _ st.2 [] rfl (-1) ?_ ?_)
    · intro h
      rw [hls] at h
      simp only [goM, nat_int, edAt_eq hmp, h, stk, Int.reduceEq, Nat.reduceEqDiff, Int.reduceLE, Int.reduceLT]
    · intro h
      rw [hls] at h ⊢
      obtain ⟨e, he, _, h2⟩ := (stepE_mem (c := c) (es := st.2)).resolve_left (fun hx => h (by omega))
      obtain ⟨_, h3, h4⟩ := sts_edges hok hmp e he
      obtain ⟨t, ht⟩ := Int.eq_ofNat_of_zero_le (show 0 ≤ e.2 by omega)
      have hg : goM m (mp.length : Int) (c :: rest) = goM m (t : Int) rest := by
        rw [goM, nat_int, edAt_eq hmp, if_neg h, h2, ht]
      rw [hg, hnx, h2, ht]
      exact ih _ (at_step hp) t (by omega)
theorem go_ev (m : List St) (hm : MachB m) (hok : stsOk m.length 0 m = true) (hne : 0 < m.length) (s : ByteArray) (hs : s.size ≤ 9223372036854775807) : Ev (fun N => spec_l3Go.f N [machP m, strP s]) [intP (goM m 0 (bytesOf s))] := by
  simp only [spec_l3Go.f_eq, stk, Int.reduceEq, Nat.reduceEqDiff, Int.reduceLE, Int.reduceLT]
  exact (go_l0 m hm hok s hs (bytesOf s) [] rfl 0 hne).diag
theorem goM_in (m : List St) (hok : stsOk m.length 0 m = true) : ∀ (u : List Int) (a : Nat), a < m.length → goM m a u = -1 ∨ ∃ t : Nat, t < m.length ∧ goM m a u = t
  | [], a, h => .inr ⟨a, h, rfl⟩
  | c :: u, a, h => by
    obtain ⟨mp, st, mr, hmp, rfl⟩ := split_at m a h
    rw [goM, nat_int, edAt_eq hmp]
    by_cases hx : stepE c st.2 < 0
    · rw [if_pos hx]; exact .inl rfl
    · rw [if_neg hx]
      obtain ⟨e, he, _, h2⟩ := (stepE_mem (c := c) (es := st.2)).resolve_left (fun hy => hx (by omega))
      obtain ⟨_, h3, h4⟩ := sts_edges hok hmp e he
      obtain ⟨t, ht⟩ := Int.eq_ofNat_of_zero_le (show 0 ≤ e.2 by omega)
      rw [h2, ht]
      exact goM_in m hok u t (by omega)
def bgM (m : List St) (ah : ByteArray) (most : Int) : List ByteArray :=
  if okM m = true ∧ (0 ≤ most ∧ most ≤ 40) ∧ ¬ goM m 0 (bytesOf ah) < 0 then (aheadT ah (WM m (goM m 0 (bytesOf ah)).toNat)).take most.toNat else []
theorem bgM_len (m : List St) (ah : ByteArray) (most : Int) : (bgM m ah most).length ≤ 40 := by
  unfold bgM
  split
  · rename_i h; rw [List.length_take]; omega
  · simp
theorem strsP_nil : strsP [] = PV.list [] := rfl
theorem implBegins_ev (m : List St) (hm : MachB m) (ah : ByteArray) (ha : ah.size ≤ 1048576) (most : Int) : Ev (fun N => impl_MachineBegins.f N [machP m, strP ah, intP most]) [strsP (bgM m ah most)] := by
  simp only [impl_MachineBegins.f_eq]
  refine Ev.bind (implOk_ev m hm) ?_
  unfold bgM
  cases ho : okM m with
  | false => simp only [strsP_nil, stk, Int.reduceEq, Nat.reduceEqDiff, Int.reduceLE, Int.reduceLT]; exact Ev.now _
  | true =>
    obtain ⟨h1, h2, h3, h4⟩ := okM_sts ho
    simp only [implWithin_val, stk, Int.reduceEq, Nat.reduceEqDiff, Int.reduceLE, Int.reduceLT]
    by_cases hmo : 0 ≤ most ∧ most ≤ 40
    · simp only [hmo, and_self, stk, Int.reduceEq, Nat.reduceEqDiff, Int.reduceLE, Int.reduceLT]
      refine Ev.bind (follow_ev m hm h3 (by omega) ah (by omega)) ?_
      by_cases hg : goM m 0 (bytesOf ah) < 0
      · simp only [hg, strsP_nil, stk, Int.reduceEq, Nat.reduceEqDiff, Int.reduceLE, Int.reduceLT]; exact Ev.now _
      · obtain ⟨t, ht, he⟩ := (goM_in m h3 (bytesOf ah) 0 (by omega)).resolve_left (fun hx => hg (by simp only [Int.natCast_zero] at hx; omega))
        simp only [Int.natCast_zero] at he
        simp only [hg, stk, Int.reduceEq, Nat.reduceEqDiff, Int.reduceLE, Int.reduceLT]
        rw [he]
        have hh := gather_ev m hm h3 t ht ah (by omega) most hmo.1 (by omega)
        simp only [nat_int, stk, Int.reduceEq, Nat.reduceEqDiff, Int.reduceLE, Int.reduceLT]
        refine Ev.bind hh ?_
        simp only [stk, Int.reduceEq, Nat.reduceEqDiff, Int.reduceLE, Int.reduceLT]
        exact Ev.now _
    · simp only [hmo, strsP_nil, stk, Int.reduceEq, Nat.reduceEqDiff, Int.reduceLE, Int.reduceLT]; exact Ev.now _
theorem specBegins_ev (m : List St) (hm : MachB m) (ah : ByteArray) (ha : ah.size ≤ 1048576) (most : Int) : Ev (fun N => spec_MachineBegins.f N [machP m, strP ah, intP most]) [strsP (bgM m ah most)] := by
  simp only [spec_MachineBegins.f_eq]
  refine Ev.bind (specOk_ev m hm) ?_
  unfold bgM
  cases ho : okM m with
  | false => simp only [strsP_nil, stk, Int.reduceEq, Nat.reduceEqDiff, Int.reduceLE, Int.reduceLT]; exact Ev.now _
  | true =>
    obtain ⟨h1, h2, h3, h4⟩ := okM_sts ho
    simp only [specIn_val, stk, Int.reduceEq, Nat.reduceEqDiff, Int.reduceLE, Int.reduceLT]
    by_cases hmo : 0 ≤ most ∧ most ≤ 40
    · simp only [hmo, and_self, stk, Int.reduceEq, Nat.reduceEqDiff, Int.reduceLE, Int.reduceLT]
      refine Ev.bind (go_ev m hm h3 (by omega) ah (by omega)) ?_
      by_cases hg : goM m 0 (bytesOf ah) < 0
      · simp only [hg, strsP_nil, stk, Int.reduceEq, Nat.reduceEqDiff, Int.reduceLE, Int.reduceLT]; exact Ev.now _
      · obtain ⟨t, ht, he⟩ := (goM_in m h3 (bytesOf ah) 0 (by omega)).resolve_left (fun hx => hg (by simp only [Int.natCast_zero] at hx; omega))
        simp only [Int.natCast_zero] at he
        simp only [hg, stk, Int.reduceEq, Nat.reduceEqDiff, Int.reduceLE, Int.reduceLT]
        rw [he]
        have hh := all_ev m hm h3 t ht ah (by omega) most hmo.1 (by omega)
        simp only [nat_int, stk, Int.reduceEq, Nat.reduceEqDiff, Int.reduceLE, Int.reduceLT]
        refine Ev.bind hh ?_
        simp only [strs_len, stk, Int.reduceEq, Nat.reduceEqDiff, Int.reduceLE, Int.reduceLT]
        have hl := List.length_take_le (most.toNat + 1) (aheadT ah (WM m t))
        by_cases hW : most < ((((aheadT ah (WM m t)).take (most.toNat + 1)).length : Nat) : Int)
        · have hW' : most ≤ ((((aheadT ah (WM m t)).take (most.toNat + 1)).length : Nat) : Int) := by omega
          have e2 : PV.list ((strsP ((aheadT ah (WM m t)).take (most.toNat + 1))).items.take most.toNat) = strsP ((aheadT ah (WM m t)).take most.toNat) := by
            simp only [strsP, PV.items, List.map_take, List.take_take]
            rw [Nat.min_eq_left (by omega)]
          simp only [hW, hW', hmo.1, e2, stk, Int.reduceEq, Nat.reduceEqDiff, Int.reduceLE, Int.reduceLT]
          exact Ev.now _
        · have e2 : (aheadT ah (WM m t)).take (most.toNat + 1) = (aheadT ah (WM m t)).take most.toNat := by
            rw [List.length_take] at hW
            rw [List.take_of_length_le (by omega), List.take_of_length_le (by omega)]
          simp only [hW, stk, Int.reduceEq, Nat.reduceEqDiff, Int.reduceLE, Int.reduceLT]
          rw [e2]
          exact Ev.now _
    · simp only [hmo, strsP_nil, stk, Int.reduceEq, Nat.reduceEqDiff, Int.reduceLE, Int.reduceLT]; exact Ev.now _
theorem stepE_of {n i : Nat} : ∀ {es : List Ed} {p : Option Int}, edgesOk n i p es = true → ∀ e ∈ es, stepE e.1 es = e.2
  | [], _, _, e, he => absurd he (by simp)
  | c :: es, p, h, e, he => by
    simp only [edgesOk, Bool.and_eq_true] at h
    rw [stepE]
    rcases List.mem_cons.1 he with rfl | he
    · rw [if_pos rfl]
    · have := edgesOk_gt h.2 e he
      rw [if_neg (by omega)]
      exact stepE_of h.2 e he
theorem mem_WE {m : List St} {u : List Int} : ∀ {es : List Ed}, u ∈ WE m es ↔ ∃ e ∈ es, ∃ v ∈ WM m e.2.toNat, u = e.1 :: v
  | [] => by simp [WE]
  | e :: es => by
    rw [WE, List.mem_append, List.mem_map, mem_WE]
    constructor
    · rintro (⟨v, hv, rfl⟩ | ⟨e', h1, v, h2, h3⟩)
      · exact ⟨e, by simp, v, hv, rfl⟩
      · exact ⟨e', by simp [h1], v, h2, h3⟩
    · rintro ⟨e', h1, v, h2, h3⟩
      rcases List.mem_cons.1 h1 with rfl | h1
      · exact .inl ⟨v, h2, h3.symm⟩
      · exact .inr ⟨e', h1, v, h2, h3⟩
theorem WM_all (m : List St) (hok : stsOk m.length 0 m = true) : ∀ (d a : Nat), a < m.length → m.length - a ≤ d → ∀ u ∈ WM m a,
    u.length + a < m.length ∧ (∀ c ∈ u, 97 ≤ c ∧ c ≤ 122) ∧ ∃ t : Nat, t < m.length ∧ goM m a u = t ∧ (m.getD t (false, [])).1 = true := by
  intro d
  induction d with
  | zero => intro a ha hd; omega
  | succ d ih =>
    intro a ha hd u hu
    obtain ⟨mp, st, mr, hmp, rfl⟩ := split_at m a ha
    have hed := sts_edges hok hmp
    have hso := sts_at hok hmp
    simp only [stOk, Bool.and_eq_true] at hso
    rw [WM_eq m mp mr st hmp (fun e he => (hed e he).2.1), List.mem_append] at hu
    rcases hu with hu | hu
    · by_cases hs : st.1 = true
      · rw [if_pos hs, List.mem_singleton] at hu
        subst hu
        refine ⟨by simpa using ha, fun c hc => absurd hc (by simp), mp.length, ha, rfl, ?_⟩
        have hg : m.getD mp.length (false, []) = st := by rw [hmp]; simp [List.getD_eq_getElem?_getD]
        rw [hg]; exact hs
      · rw [if_neg hs] at hu; exact absurd hu (by simp)
    · obtain ⟨e, he, v, hv, rfl⟩ := mem_WE.1 hu
      obtain ⟨h1, h2, h3⟩ := hed e he
      obtain ⟨t, ht⟩ := Int.eq_ofNat_of_zero_le (show 0 ≤ e.2 by omega)
      have htn : e.2.toNat = t := by rw [ht]; rfl
      rw [htn] at hv
      obtain ⟨i1, i2, t', i3, i4, i5⟩ := ih t (by omega) (by omega) v hv
      refine ⟨by rw [List.length_cons]; omega, fun c hc => ?_, t', i3, ?_, i5⟩
      · rcases List.mem_cons.1 hc with rfl | hc
        · exact h1
        · exact i2 c hc
      · rw [goM, show ((mp.length : Nat) : Int).toNat = mp.length from rfl, edAt_eq hmp, stepE_of hso.1 e he, if_neg (by omega), ht]
        exact i4
theorem goM_app (m : List St) : ∀ (u v : List Int) (a : Int), 0 ≤ goM m a u → goM m a (u ++ v) = goM m (goM m a u) v
  | [], v, a, _ => rfl
  | c :: u, v, a, h => by
    rw [List.cons_append, goM, goM]
    rw [goM] at h
    by_cases hs : stepE c (edAt m a.toNat) < 0
    · rw [if_pos hs] at h; omega
    · rw [if_neg hs] at h
      rw [if_neg hs, if_neg hs]
      exact goM_app m u v _ h
def ltL : List Int → List Int → Prop
  | [], [] => False
  | [], _ :: _ => True
  | _ :: _, [] => False
  | a :: u, b :: v => a < b ∨ (a = b ∧ ltL u v)
theorem WM_sort (m : List St) (hok : stsOk m.length 0 m = true) : ∀ (d a : Nat), a < m.length → m.length - a ≤ d → (WM m a).Pairwise ltL := by
  intro d
  induction d with
  | zero => intro a ha hd; omega
  | succ d ih =>
    intro a ha hd
    obtain ⟨mp, st, mr, hmp, rfl⟩ := split_at m a ha
    have hed := sts_edges hok hmp
    have hso := sts_at hok hmp
    simp only [stOk, Bool.and_eq_true] at hso
    have key : ∀ (es : List Ed) (p : Option Int), edgesOk m.length mp.length p es = true → (∀ e ∈ es, (97 ≤ e.1 ∧ e.1 ≤ 122) ∧ (mp.length : Int) + 1 ≤ e.2 ∧ e.2 ≤ (m.length : Int) - 1) → (WE m es).Pairwise ltL := by
      intro es
      induction es with
      | nil => intro p _ _; exact List.Pairwise.nil
      | cons e es ihe =>
        intro p hp hb
        simp only [edgesOk, Bool.and_eq_true] at hp
        obtain ⟨_, h2, h3⟩ := hb e (by simp)
        obtain ⟨t, ht⟩ := Int.eq_ofNat_of_zero_le (show 0 ≤ e.2 by omega)
        have htn : e.2.toNat = t := by rw [ht]; rfl
        rw [WE, List.pairwise_append]
        refine ⟨?_, ihe _ hp.2 (fun x hx => hb x (by simp [hx])), fun u hu v hv => ?_⟩
        · rw [List.pairwise_map, htn]
          refine (ih t (by omega) (by omega)).imp (fun h => ?_)
          exact .inr ⟨rfl, h⟩
        · obtain ⟨w, _, rfl⟩ := List.mem_map.1 hu
          obtain ⟨e', he', v', _, rfl⟩ := mem_WE.1 hv
          exact .inl (edgesOk_gt hp.2 e' he')
    rw [WM_eq m mp mr st hmp (fun e he => (hed e he).2.1)]
    rw [List.pairwise_append]
    refine ⟨by split <;> simp, key st.2 none hso.1 hed, fun u hu v hv => ?_⟩
    by_cases hs : st.1 = true
    · rw [if_pos hs, List.mem_singleton] at hu
      subst hu
      obtain ⟨e', he', v', _, rfl⟩ := mem_WE.1 hv
      trivial
    · rw [if_neg hs] at hu; exact absurd hu (by simp)
theorem WE_none (m : List St) (c : Int) (p : List Int) : ∀ (es : List Ed), (∀ e ∈ es, e.1 ≠ c) → (WE m es).filter (fun u => (c :: p).isPrefixOf u) = []
  | [], _ => rfl
  | e :: es, h => by
    rw [WE, List.filter_append, WE_none m c p es (fun x hx => h x (by simp [hx])), List.append_nil, List.filter_eq_nil_iff]
    intro u hu
    obtain ⟨v, _, rfl⟩ := List.mem_map.1 hu
    have := h e (by simp)
    simp [List.isPrefixOf]
    intro h'; exact absurd h'.symm this
theorem WE_pre (m : List St) {n i : Nat} (c : Int) (p : List Int) : ∀ (es : List Ed) (q : Option Int), edgesOk n i q es = true → (∀ e ∈ es, 0 ≤ e.2) →
    ((WE m es).filter (fun u => (c :: p).isPrefixOf u)).length = if stepE c es < 0 then 0 else ((WM m (stepE c es).toNat).filter (fun u => p.isPrefixOf u)).length
  | [], _, _, _ => by simp [WE, stepE]
  | e :: es, q, h, hp => by
    simp only [edgesOk, Bool.and_eq_true] at h
    rw [WE, List.filter_append, List.length_append, stepE]
    by_cases hc : e.1 = c
    · rw [if_pos hc, if_neg (by have := hp e (by simp); omega), WE_none m c p es (fun e' he' => by have := edgesOk_gt h.2 e' he'; omega), List.length_nil, Nat.add_zero, List.filter_map, List.length_map]
      congr 2
      funext u
      simp [List.isPrefixOf, hc]
    · rw [if_neg hc, WE_pre m c p es _ h.2 (fun x hx => hp x (by simp [hx]))]
      have : ((WM m e.2.toNat).map (fun u => e.1 :: u)).filter (fun u => (c :: p).isPrefixOf u) = [] := by
        rw [List.filter_eq_nil_iff]
        intro u hu
        obtain ⟨v, _, rfl⟩ := List.mem_map.1 hu
        simp [List.isPrefixOf]
        intro h'; exact absurd h'.symm hc
      rw [this, List.length_nil, Nat.zero_add]
theorem WM_pre (m : List St) (hok : stsOk m.length 0 m = true) : ∀ (p : List Int) (a : Nat), a < m.length →
    ((WM m a).filter (fun u => p.isPrefixOf u)).length = if goM m a p < 0 then 0 else (WM m (goM m a p).toNat).length
  | [], a, ha => by
    rw [goM, if_neg (by omega)]
    simp [List.isPrefixOf]
  | c :: p, a, ha => by
    obtain ⟨mp, st, mr, hmp, rfl⟩ := split_at m a ha
    have hed := sts_edges hok hmp
    have hso := sts_at hok hmp
    simp only [stOk, Bool.and_eq_true] at hso
    rw [WM_eq m mp mr st hmp (fun e he => (hed e he).2.1), List.filter_append, List.length_append, WE_pre m c p st.2 none hso.1 (fun e he => by have := hed e he; omega), goM, show ((mp.length : Nat) : Int).toNat = mp.length from rfl, edAt_eq hmp]
    have h0 : ((if st.1 = true then [[]] else [] : List (List Int)).filter (fun u => (c :: p).isPrefixOf u)).length = 0 := by split <;> simp [List.isPrefixOf]
    rw [h0, Nat.zero_add]
    by_cases hs : stepE c st.2 < 0
    · rw [if_pos hs, if_pos hs]; simp
    · rw [if_neg hs, if_neg hs]
      obtain ⟨e, he, _, h2⟩ := (stepE_mem (c := c) (es := st.2)).resolve_left (fun hx => hs (by omega))
      obtain ⟨_, h3, h4⟩ := hed e he
      obtain ⟨t, ht⟩ := Int.eq_ofNat_of_zero_le (show 0 ≤ e.2 by omega)
      rw [h2, ht, show ((t : Nat) : Int).toNat = t from rfl]
      exact WM_pre m hok p t (by omega)
theorem ptru {p : Prop} (h : p) : p = True := eq_true h
theorem pfls {p : Prop} (h : ¬ p) : p = False := eq_false h
def endsM (c : Int) : List ByteArray → List ByteArray
  | [] => []
  | s :: r => if 0 < s.size ∧ bt s 0 = c then s.extract 1 s.size :: endsM c r else endsM c r
theorem endsM_len (c : Int) : ∀ l : List ByteArray, (endsM c l).length ≤ l.length
  | [] => Nat.le_refl _
  | s :: r => by
    have := endsM_len c r
    unfold endsM
    split <;> simp only [List.length_cons] <;> omega
def wtS : List ByteArray → Nat
  | [] => 0
  | s :: r => s.size + 1 + wtS r
def costM (c : Int) (l : List ByteArray) : Nat := if endsM c l = [] then 0 else 1 + wtS (endsM c l)
def hitM (c : Int) (s : ByteArray) : Nat := if 0 < s.size ∧ bt s 0 = c then s.size + 1 else 0
theorem cost_cons (c : Int) (s : ByteArray) (r : List ByteArray) : costM c (s :: r) ≤ costM c r + hitM c s := by
  unfold costM hitM
  by_cases h : 0 < s.size ∧ bt s 0 = c
  · have he : endsM c (s :: r) = s.extract 1 s.size :: endsM c r := by rw [endsM, if_pos h]
    have hz : (s.extract 1 s.size).size = s.size - 1 := by rw [ByteArray.size_extract, Nat.min_self]
    rw [he, if_neg (by simp), if_pos h, wtS, hz]
    split
    · rename_i h0; rw [h0]; simp only [wtS]; omega
    · omega
  · have he : endsM c (s :: r) = endsM c r := by rw [endsM, if_neg h]
    rw [he, if_neg h]; omega
def costsM (l : List ByteArray) : Nat → Int → Nat
  | 0, _ => 0
  | k + 1, c => costM c l + costsM l k (c + 1)
def hitsM (s : ByteArray) : Nat → Int → Nat
  | 0, _ => 0
  | k + 1, c => hitM c s + hitsM s k (c + 1)
theorem hits_zero (s : ByteArray) : ∀ (k : Nat) (c : Int), bt s 0 < c → hitsM s k c = 0
  | 0, _, _ => rfl
  | k + 1, c, h => by
    unfold hitsM hitM
    rw [if_neg (by omega), hits_zero s k (c + 1) (by omega)]
theorem hits_le (s : ByteArray) : ∀ (k : Nat) (c : Int), hitsM s k c ≤ s.size + 1
  | 0, _ => Nat.zero_le _
  | k + 1, c => by
    unfold hitsM hitM
    split
    · rename_i h; rw [hits_zero s k (c + 1) (by omega)]; omega
    · have := hits_le s k (c + 1); omega
theorem costs_cons (s : ByteArray) (r : List ByteArray) : ∀ (k : Nat) (c : Int), costsM (s :: r) k c ≤ costsM r k c + hitsM s k c
  | 0, _ => Nat.le_refl _
  | k + 1, c => by
    have h1 := cost_cons c s r
    have h2 := costs_cons s r k (c + 1)
    unfold costsM hitsM
    omega
theorem costs_le : ∀ (l : List ByteArray) (k : Nat) (c : Int), costsM l k c ≤ wtS l
  | [], k, c => by
    have h0 : ∀ (k : Nat) (c : Int), costsM [] k c = 0 := fun k => by
      induction k with
      | zero => intro c; rfl
      | succ k ih => intro c; unfold costsM; rw [ih]; rfl
    rw [h0]; exact Nat.zero_le _
  | s :: r, k, c => by
    have h1 := costs_cons s r k c
    have h2 := costs_le r k c
    have h3 := hits_le s k c
    rw [wtS]; omega
theorem ends_loop {l : List ByteArray} (hl : l.length ≤ 1000000000) (c : Int) : ∀ (rest pre out : List ByteArray), l = pre ++ rest → out.length + rest.length ≤ 1000000000 →
    Ev2 (fun N n => spec_l3Ends.l0 N n (strsP l) c (pre.length : Int) (out.map strP)) [strsP (out ++ endsM c rest)] := by
  intro rest
  induction rest with
  | nil =>
    intro pre out hp hz
    refine Ev2.succ ?_
    simp only [spec_l3Ends.l0_eq, strs_len, at_end hp, endsM, List.append_nil, stk, Int.reduceEq, Nat.reduceEqDiff, Int.reduceLE, Int.reduceLT]
    exact Ev2.now _
  | cons s rest ih =>
    intro pre out hp hz
    rw [List.length_cons] at hz
    have hcl : ((out.map strP).length + 1 ≤ 8796093022208) = True := ptru (by rw [List.length_map]; omega)
    have i1 := ih (pre ++ [s]) out (at_step hp) (by omega)
    have i2 := ih (pre ++ [s]) (out ++ [s.extract 1 s.size]) (at_step hp) (by rw [List.length_append, List.length_singleton]; omega)
    rw [List.map_append, List.append_assoc] at i2
    refine Ev2.succ ?_
    simp only [spec_l3Ends.l0_eq, strs_len, strs_elem, at_getD hp, at_lt hp, at_next hp (by omega), endsM, stk, Int.reduceEq, Nat.reduceEqDiff, Int.reduceLE, Int.reduceLT]
    by_cases h0 : 0 < s.size
    · have c0 : ((0 : Int) < (s.size : Int)) = True := ptru (by omega)
      have c1 : ((1 : Int) ≤ (s.size : Int)) = True := ptru (by omega)
      by_cases h1 : bt s 0 = c
      · simp only [c0, c1, h0, h1, hcl, and_self, stk, Int.reduceEq, Nat.reduceEqDiff, Int.reduceLE, Int.reduceLT]
        exact i2
      · simp only [c0, h1, and_false, stk, Int.reduceEq, Nat.reduceEqDiff, Int.reduceLE, Int.reduceLT]
        exact i1
    · have c0 : ((0 : Int) < (s.size : Int)) = False := pfls (by omega)
      simp only [c0, h0, false_and, stk, Int.reduceEq, Nat.reduceEqDiff, Int.reduceLE, Int.reduceLT]
      exact i1
theorem ends_ev {l : List ByteArray} (hl : l.length ≤ 1000000000) (c : Int) : Ev (fun N => spec_l3Ends.f N [strsP l, .sc (.int .u8 c)]) [strsP (endsM c l)] := by
  have := (ends_loop hl c l [] [] rfl (by simp; omega)).diag
  simp only [spec_l3Ends.f_eq, stk, Int.reduceEq, Nat.reduceEqDiff, Int.reduceLE, Int.reduceLT]
  exact this
theorem str_toList {a b : ByteArray} : (a.toList = b.toList) = (a = b) := by
  apply propext
  constructor
  · intro h
    have := congrArg List.toByteArray h
    apply ByteArray.ext
    apply Array.toList_inj.1
    rw [ByteArray.toList_eq, ByteArray.toList_eq] at h
    exact h
  · intro h; rw [h]
theorem same_loop {l m : List ByteArray} (hl : l.length ≤ 1000000000) (hm : l.length = m.length) : ∀ (rest pre rm pm : List ByteArray), l = pre ++ rest → m = pm ++ rm → pm.length = pre.length →
    Ev2 (fun N n => spec_l3Same.l0 N n (strsP l) (strsP m) (pre.length : Int)) [boolP (decide (rest = rm))] := by
  intro rest
  induction rest with
  | nil =>
    intro pre rm pm h1 h2 h3
    have hr : rm = [] := by
      have e1 := congrArg List.length h1
      have e2 := congrArg List.length h2
      simp at e1 e2
      exact List.eq_nil_of_length_eq_zero (by omega)
    subst hr
    refine Ev2.succ ?_
    simp only [spec_l3Same.l0_eq, strs_len, at_end h1, decide_true, stk, Int.reduceEq, Nat.reduceEqDiff, Int.reduceLE, Int.reduceLT]
    exact Ev2.now _
  | cons s rest ih =>
    intro pre rm pm h1 h2 h3
    cases rm with
    | nil =>
      exfalso
      have e1 := congrArg List.length h1
      have e2 := congrArg List.length h2
      simp at e1 e2
      omega
    | cons t rm =>
      have s2 := at_lt h2
      have g2 := at_getD (d := ByteArray.empty) h2
      rw [h3] at s2 g2
      have hih := ih (pre ++ [s]) rm (pm ++ [t]) (at_step h1) (at_step h2) (by simp [h3])
      refine Ev2.succ ?_
      simp only [spec_l3Same.l0_eq, strs_len, strs_elem, at_getD h1, g2, at_lt h1, s2, at_next h1 (by omega), stk, Int.reduceEq, Nat.reduceEqDiff, Int.reduceLE, Int.reduceLT]
      by_cases he : s = t
      · subst he
        simp only [stk, Int.reduceEq, Nat.reduceEqDiff, Int.reduceLE, Int.reduceLT]
        have e9 : decide (s :: rest = s :: rm) = decide (rest = rm) := by simp
        rw [e9]; exact hih
      · have e9 : decide (s :: rest = t :: rm) = false := by simp [he]
        rw [e9]
        simp only [str_toList, he, stk, Int.reduceEq, Nat.reduceEqDiff, Int.reduceLE, Int.reduceLT]
        exact Ev2.now _
theorem same_ev (l m : List ByteArray) (hl : l.length ≤ 1000000000) : Ev (fun N => spec_l3Same.f N [strsP l, strsP m]) [boolP (decide (l = m))] := by
  simp only [spec_l3Same.f_eq, strs_len, stk, Int.reduceEq, Nat.reduceEqDiff, Int.reduceLE, Int.reduceLT]
  by_cases h : l.length = m.length
  · have c : ((l.length : Int) = (m.length : Int)) = True := ptru (by omega)
    simp only [c, stk, Int.reduceEq, Nat.reduceEqDiff, Int.reduceLE, Int.reduceLT]
    exact (same_loop hl h l [] m [] rfl rfl rfl).diag
  · have c : ((l.length : Int) = (m.length : Int)) = False := pfls (by omega)
    have e9 : decide (l = m) = false := by
      apply decide_eq_false
      intro he; exact h (congrArg List.length he)
    rw [e9]
    simp only [c, stk, Int.reduceEq, Nat.reduceEqDiff, Int.reduceLE, Int.reduceLT]
    exact Ev.now _
def longM : List ByteArray → Int → Int
  | [], n => n
  | s :: r, n => longM r (if n < (s.size : Int) then (s.size : Int) else n)
theorem long_loop {l : List ByteArray} (hl : l.length ≤ 1000000000) : ∀ (rest pre : List ByteArray) (n0 : Int), l = pre ++ rest → Ev2 (fun N n => spec_l3Long.l0 N n (strsP l) n0 (pre.length : Int)) [intP (longM rest n0)] := by
  intro rest
  induction rest with
  | nil =>
    intro pre n0 hp
    refine Ev2.succ ?_
    simp only [spec_l3Long.l0_eq, strs_len, at_end hp, longM, stk, Int.reduceEq, Nat.reduceEqDiff, Int.reduceLE, Int.reduceLT]
    exact Ev2.now _
  | cons s rest ih =>
    intro pre n0 hp
    refine Ev2.succ ?_
    simp only [spec_l3Long.l0_eq, strs_len, strs_elem, at_getD hp, at_lt hp, at_next hp (by omega), longM, stk, Int.reduceEq, Nat.reduceEqDiff, Int.reduceLE, Int.reduceLT]
    by_cases h : n0 < (s.size : Int)
    · simp only [h, stk, Int.reduceEq, Nat.reduceEqDiff, Int.reduceLE, Int.reduceLT]; exact ih _ _ (at_step hp)
    · simp only [h, stk, Int.reduceEq, Nat.reduceEqDiff, Int.reduceLE, Int.reduceLT]; exact ih _ _ (at_step hp)
theorem long_ev (l : List ByteArray) (hl : l.length ≤ 1000000000) : Ev (fun N => spec_l3Long.f N [strsP l]) [intP (longM l 0)] := by
  simp only [spec_l3Long.f_eq, stk, Int.reduceEq, Nat.reduceEqDiff, Int.reduceLE, Int.reduceLT]
  exact (long_loop hl l [] 0 rfl).diag
def lessT : List ByteArray → List ByteArray → Bool
  | s :: r, t :: q => if s = t then lessT r q else Op.bytesLess s.toList t.toList
  | [], [] => false
  | [], _ :: _ => true
  | _ :: _, [] => false
def lessS (a b : List ByteArray) : Bool := if longM a 0 = longM b 0 then lessT a b else decide (longM b 0 < longM a 0)
theorem less_loop {l m : List ByteArray} (hl : l.length ≤ 1000000000) (hm : m.length ≤ 1000000000) : ∀ (rest pre rm pm : List ByteArray), l = pre ++ rest → m = pm ++ rm → pm.length = pre.length →
    Ev2 (fun N n => spec_l3Less.l0 N n (strsP l) (strsP m) (pre.length : Int)) [boolP (lessT rest rm)] := by
  intro rest
  induction rest with
  | nil =>
    intro pre rm pm h1 h2 h3
    have e1 := congrArg List.length h1
    have e2 := congrArg List.length h2
    simp at e1 e2
    have e9 : decide ((l.length : Int) < (m.length : Int)) = lessT [] rm := by
      cases rm with
      | nil => simp at e2; exact decide_eq_false (by omega)
      | cons t rm => simp at e2; exact decide_eq_true (by omega)
    rw [← e9]
    refine Ev2.succ ?_
    simp only [spec_l3Less.l0_eq, strs_len, at_end h1, stk, Int.reduceEq, Nat.reduceEqDiff, Int.reduceLE, Int.reduceLT]
    exact Ev2.now _
  | cons s rest ih =>
    intro pre rm pm h1 h2 h3
    have e1 := congrArg List.length h1
    have e2 := congrArg List.length h2
    simp at e1 e2
    cases rm with
    | nil =>
      have s2 := at_end h2
      rw [h3] at s2
      have e9 : decide ((l.length : Int) < (m.length : Int)) = lessT (s :: rest) [] := by simp at e2; exact decide_eq_false (by omega)
      rw [← e9]
      refine Ev2.succ ?_
      simp only [spec_l3Less.l0_eq, strs_len, at_lt h1, s2, stk, Int.reduceEq, Nat.reduceEqDiff, Int.reduceLE, Int.reduceLT]
      exact Ev2.now _
    | cons t rm =>
      have s2 := at_lt h2
      have g2 := at_getD (d := ByteArray.empty) h2
      rw [h3] at s2 g2
      have hih := ih (pre ++ [s]) rm (pm ++ [t]) (at_step h1) (at_step h2) (by simp [h3])
      refine Ev2.succ ?_
      simp only [spec_l3Less.l0_eq, strs_len, strs_elem, at_getD h1, g2, at_lt h1, s2, at_next h1 (by omega), lessT, stk, Int.reduceEq, Nat.reduceEqDiff, Int.reduceLE, Int.reduceLT]
      by_cases he : s = t
      · subst he
        simp only [stk, Int.reduceEq, Nat.reduceEqDiff, Int.reduceLE, Int.reduceLT]
        exact hih
      · simp only [str_toList, he, stk, Int.reduceEq, Nat.reduceEqDiff, Int.reduceLE, Int.reduceLT]
        exact Ev2.now _
theorem lessS_ev (a b : List ByteArray) (ha : a.length ≤ 1000000000) (hb : b.length ≤ 1000000000) : Ev (fun N => spec_l3Less.f N [strsP a, strsP b]) [boolP (lessS a b)] := by
  have h1 := long_ev a ha
  have h2 := long_ev b hb
  simp only [intP] at h1 h2
  unfold lessS
  simp only [spec_l3Less.f_eq, stk, Int.reduceEq, Nat.reduceEqDiff, Int.reduceLE, Int.reduceLT]
  refine Ev.bind h1 ?_
  refine Ev.bind h2 ?_
  by_cases h : longM a 0 = longM b 0
  · simp only [h, stk, Int.reduceEq, Nat.reduceEqDiff, Int.reduceLE, Int.reduceLT]
    exact (less_loop ha hb a [] b [] rfl rfl rfl).diag
  · simp only [h, stk, Int.reduceEq, Nat.reduceEqDiff, Int.reduceLE, Int.reduceLT]
    refine Ev.bind h1 ?_
    refine Ev.bind h2 ?_
    simp only [stk, Int.reduceEq, Nat.reduceEqDiff, Int.reduceLE, Int.reduceLT]
    exact Ev.now _
def placeS (x : List ByteArray) (O : List (List ByteArray)) : Nat → Nat
  | 0 => 0
  | k + 1 => if lessS x (O.getD k []) = true then placeS x O k else k + 1
def putS (x : List ByteArray) (O : List (List ByteArray)) : List (List ByteArray) := O.take (placeS x O O.length) ++ [x] ++ O.drop (placeS x O O.length)
def sortS : List (List ByteArray) → List (List ByteArray) → List (List ByteArray)
  | [], O => O
  | x :: r, O => sortS r (putS x O)
theorem placeS_le (x : List ByteArray) (O : List (List ByteArray)) : ∀ k, placeS x O k ≤ k
  | 0 => Nat.le_refl _
  | k + 1 => by
    have := placeS_le x O k
    unfold placeS
    split <;> omega
theorem putS_len (x : List ByteArray) (O : List (List ByteArray)) : (putS x O).length = O.length + 1 := by
  have := placeS_le x O O.length
  simp [putS]
  omega
theorem sets_elem (O : List (List ByteArray)) (k : Nat) (h : k < O.length) : (PV.list (O.map strsP)).elem k = strsP (O.getD k []) := by
  simp [PV.elem, PV.items, List.getD_eq_getElem?_getD, h]
theorem sets_items (O : List (List ByteArray)) : (PV.list (O.map strsP)).items = O.map strsP := rfl
theorem sort_l1 {A : List (List ByteArray)} (hA : A.length ≤ 1000000) (hs : ∀ X ∈ A, X.length ≤ 1000000000) {pre rest : List (List ByteArray)} {x : List ByteArray} (hp : A = pre ++ x :: rest) (O : List (List ByteArray)) (hO : O.length ≤ 1000000) (hOs : ∀ X ∈ O, X.length ≤ 1000000000) (R : PV)
    (hk : Ev2 (fun N n => spec_l3Sort.l0 N n (PV.list (A.map strsP)) ((pre ++ [x]).length : Int) ((putS x O).map strsP)) [R]) :
    ∀ k : Nat, k ≤ O.length → placeS x O k = placeS x O O.length → Ev3 (fun N m n => spec_l3Sort.l1 N m n (PV.list (A.map strsP)) (pre.length : Int) (k : Int) (O.map strsP)) [R] := by
  have hx : x.length ≤ 1000000000 := hs x (by rw [hp]; simp)
  have hpl : pre.length < A.length := by rw [hp]; simp
  have hxe : (PV.list (A.map strsP)).elem pre.length = strsP x := by rw [sets_elem A _ hpl, hp]; simp [List.getD_eq_getElem?_getD]
  have fin : ∀ k : Nat, k ≤ O.length → k = placeS x O O.length → Ev3 (fun N m n => if 0 ≤ (k : Int) then (if (k : Int) ≤ ((O.map strsP).length : Int) then (if ([] : List PV).length + (((O.map strsP).drop 0).take ((k : Int).toNat - 0)).length ≤ 5864062014805 then (if 0 ≤ (pre.length : Int) then (if (pre.length : Int) < ((PV.list (A.map strsP)).items.length : Int) then (if (([] : List PV) ++ (((O.map strsP).drop 0).take ((k : Int).toNat - 0))).length + [(PV.list (A.map strsP)).elem (pre.length : Int).toNat].length ≤ 5864062014805 then (if 0 ≤ (k : Int) then (if (k : Int) ≤ ((O.map strsP).length : Int) then (if ((([] : List PV) ++ (((O.map strsP).drop 0).take ((k : Int).toNat - 0))) ++ [(PV.list (A.map strsP)).elem (pre.length : Int).toNat]).length + (((O.map strsP).drop (k : Int).toNat).take ((O.map strsP).length - (k : Int).toNat)).length ≤ 5864062014805 then (spec_l3Sort.l0 N m (PV.list (A.map strsP)) (IntKind.i64.wrap ((pre.length : Int) + 1)) (((([] : List PV) ++ (((O.map strsP).drop 0).take ((k : Int).toNat - 0))) ++ [(PV.list (A.map strsP)).elem (pre.length : Int).toNat]) ++ (((O.map strsP).drop (k : Int).toNat).take ((O.map strsP).length - (k : Int).toNat)))) else none) else none) else none) else none) else none) else none) else none) else none) else none) [R] := by
    intro k hkl he
    have hw : IntKind.i64.wrap ((pre.length : Int) + 1) = ((pre ++ [x]).length : Int) := by rw [wrap_id (by omega) (by omega)]; simp
    have e1 : (pre.length : Int).toNat = pre.length := by omega
    have e2 : (k : Int).toNat = k := by omega
    have hl : ((O.map strsP).drop k).take ((O.map strsP).length - k) = (O.drop k).map strsP := by
      rw [List.take_of_length_le (by simp), List.map_drop]
    have hf : (((([] : List PV) ++ (((O.map strsP).drop 0).take (k - 0))) ++ [strsP x]) ++ (O.drop k).map strsP) = (putS x O).map strsP := by
      rw [putS, ← he]
      simp [List.map_take]
    refine Ev3.congr (g' := fun N m _ => spec_l3Sort.l0 N m (PV.list (A.map strsP)) ((pre ++ [x]).length : Int) ((putS x O).map strsP)) (fun N m n => ?_) hk.outer
    rw [e1, e2, hxe, hl, hf, hw]
    have c4 : (pre.length : Int) < ((PV.list (A.map strsP)).items.length : Int) := by rw [sets_items, List.length_map]; omega
    rw [if_pos (by omega), if_pos (by rw [List.length_map]; omega), if_pos (by simp; omega), if_pos (by omega), if_pos c4, if_pos (by simp; omega), if_pos (by omega), if_pos (by rw [List.length_map]; omega), if_pos (by simp; omega)]
  intro k
  induction k with
  | zero =>
    intro hkl he
    refine Ev3.succ ?_
    refine Ev3.congr (fun N m n => ?_) (fin 0 hkl he)
    rw [spec_l3Sort.l1_eq]
    rfl
  | succ k ih =>
    intro hkl he
    have hw : IntKind.i64.wrap (((k + 1 : Nat) : Int) - 1) = (k : Int) := by rw [wrap_id (by omega) (by omega)]; omega
    have hle := lessS_ev x (O.getD k []) hx (hOs _ (by rw [List.getD_eq_getElem?_getD, List.getElem?_eq_getElem (by omega)]; simp))
    have c1 : ((0 : Int) < ((k + 1 : Nat) : Int)) := by omega
    refine Ev3.succ ?_
    refine Ev3.congr (fun N m n => by rw [spec_l3Sort.l1_eq, if_pos (decide_eq_true c1), if_pos (by omega), if_pos (by rw [sets_items, List.length_map]; omega), hw, if_pos (by omega), if_pos (by rw [List.length_map]; omega), show (pre.length : Int).toNat = pre.length from by omega, show (k : Int).toNat = k from by omega, hxe, sets_elem O k (by omega)]) ?_
    refine Ev3.bind hle ?_
    rw [placeS] at he
    cases hb : lessS x (O.getD k []) with
    | true =>
      rw [if_pos hb] at he
      exact ih (by omega) he
    | false =>
      rw [if_neg (by rw [hb]; simp)] at he
      have := fin (k + 1) hkl he
      simp only [show (pre.length : Int).toNat = pre.length from by omega, hxe] at this
      exact this
theorem sort_l0 {A : List (List ByteArray)} (hA : A.length ≤ 1000000) (hs : ∀ X ∈ A, X.length ≤ 1000000000) : ∀ (rest pre O : List (List ByteArray)), A = pre ++ rest → O.length + rest.length ≤ 1000000 → (∀ X ∈ O, X.length ≤ 1000000000) →
    Ev2 (fun N n => spec_l3Sort.l0 N n (PV.list (A.map strsP)) (pre.length : Int) (O.map strsP)) [PV.list ((sortS rest O).map strsP)] := by
  intro rest
  induction rest with
  | nil =>
    intro pre O hp hz hOs
    refine Ev2.succ ?_
    have c : ¬ ((pre.length : Int) < ((PV.list (A.map strsP)).items.length : Int)) := by rw [sets_items, List.length_map, hp]; simp
    refine Ev2.congr (fun N n => by rw [spec_l3Sort.l0_eq, if_neg (by simpa using c)]; rfl) (Ev2.now _)
  | cons x rest ih =>
    intro pre O hp hz hOs
    rw [List.length_cons] at hz
    have hx : x.length ≤ 1000000000 := hs x (by rw [hp]; simp)
    have hput : ∀ X ∈ putS x O, X.length ≤ 1000000000 := fun X hX => by
      simp only [putS, List.mem_append, List.mem_singleton] at hX
      rcases hX with (h | rfl) | h
      · exact hOs X (List.mem_of_mem_take h)
      · exact hx
      · exact hOs X (List.mem_of_mem_drop h)
    have hih := ih (pre ++ [x]) (putS x O) (by rw [hp]; simp) (by rw [putS_len]; omega) hput
    have h1 := (sort_l1 hA hs hp O (by omega) hOs _ hih O.length (Nat.le_refl _) rfl).start
    refine Ev2.succ ?_
    have c : ((pre.length : Int) < ((PV.list (A.map strsP)).items.length : Int)) := by rw [sets_items, List.length_map, hp]; simp; omega
    refine Ev2.congr (fun N n => by rw [spec_l3Sort.l0_eq, if_pos (by simpa using c), List.length_map]) h1
theorem sortS_ev {A : List (List ByteArray)} (hA : A.length ≤ 1000000) (hs : ∀ X ∈ A, X.length ≤ 1000000000) : Ev (fun N => spec_l3Sort.f N [PV.list (A.map strsP)]) [PV.list ((sortS A []).map strsP)] := by
  have := (sort_l0 hA hs A [] [] rfl (by simpa using hA) (by simp)).diag
  simp only [spec_l3Sort.f_eq]
  exact this
end Go.Proofs.Ytfbkfhdlingedaa.FnMachineBegins
