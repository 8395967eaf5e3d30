import Derived.Test.YtoiigoflkhmjnaaGreatDoorFnFnFixTextx2
set_option linter.unusedVariables false
set_option linter.unusedSimpArgs false
set_option maxRecDepth 10000
namespace Go.Proofs.YtoiigoflkhmjnaaGreatDoor.FnFixText
open Go Go.Proofs.YtoiigoflkhmjnaaGreatDoorAm
theorem stk : (∀ l : List ByteArray, (strsP l).items.length = l.length) ∧ (∀ (l : List ByteArray) (i : Nat), ((strsP l).elem i).toStr = l.getD i ByteArray.empty) ∧ (∀ l : List Int, (intsP l).items.length = l.length) ∧ (∀ (l : List Int) (i : Nat), ((intsP l).elem i).toInt = l.getD i 0) ∧ (∀ l : List PV, (PV.list l).items = l) ∧ (∀ (l : List PV) (i : Nat), (PV.agg l).fld i = l.getD i default) ∧ (∀ (l : List PV) (i : Nat), (PV.list l).elem i = l.getD i default) ∧ (∀ s : ByteArray, (PV.sc (.string s)).toStr = s) ∧ (∀ (k : IntKind) (n : Int), (PV.sc (.int k n)).toInt = n) ∧ (∀ b : Bool, (PV.sc (.bool b)).toBool = b) ∧ (∀ (v : PV) (l : List PV), (v :: l).headD default = v) ∧ (∀ n : Nat, (n : Int).toNat = n) ∧ (∀ (s : ByteArray) (i : Nat), (((s.get! i).toNat : Nat) : Int) = bt s i) ∧ (∀ n : Nat, (0 : Int) ≤ (n : Int)) ∧ (∀ s t : ByteArray, s.toList = t.toList ↔ s = t) ∧ ((!true) = false) ∧ ((!false) = true) ∧ (∀ b : Bool, (true && b) = b) ∧ (∀ b : Bool, (false && b) = false) ∧ (∀ b : Bool, (b && true) = b) ∧ (∀ b : Bool, (b && false) = false) ∧ (∀ b : Bool, ((!b) = true) = (b = false)) ∧ (∀ b : Bool, ((!b) = false) = (b = true)) ∧ ((false = true) = False) ∧ ((true = false) = False) ∧ (¬True ↔ False) ∧ (¬False ↔ True) ∧ (∀ a : Int, a ≤ a) ∧ (∀ p : Prop, (p ∧ p) = p) ∧ (∀ p : Prop, (True ∧ p) = p) ∧ (∀ p : Prop, (p ∧ True) = p) ∧ (∀ p : Prop, (False ∧ p) = False) ∧ (∀ p : Prop, (p ∧ False) = False) ∧ (∀ (p : Prop) [Decidable p], (decide p = true) = p) ∧ (∀ (p : Prop) (_ : Decidable p), decide p = false ↔ ¬p) ∧ (∀ h : Decidable True, @decide True h = true) ∧ (∀ h : Decidable False, @decide False h = false) ∧ (∀ (α : Type) (x y : α), (if True then x else y) = x) ∧ (∀ (α : Type) (x y : α), (if False then x else y) = y) ∧ (∀ (α : Type) (c : Prop) [Decidable c] (x : α), (if c then x else x) = x) ∧ (∀ (α β : Type) (f : α → Option β) (a : α), (some a).bind f = f a) ∧ (∀ b : Bool, (b != b) = false) ∧ (∀ b : Bool, (b == b) = true) ∧ (∀ v : PV, [v].length = 1) ∧ (∀ (v : PV) (l : List PV), (v :: l).tail = l) :=
  ⟨strs_len, strs_elem, ints_len, ints_elem, items_list, fld_agg, elem_list, toStr_sc, toInt_sc, toBool_sc, headD_one, nat_int, get_bt, fun _ => nn, fun _ _ => toList_inj, Bool.not_true, Bool.not_false, Bool.true_and, Bool.false_and, Bool.and_true, Bool.and_false, Bool.not_eq_true', Bool.not_eq_false', Bool.false_eq_true, Bool.true_eq_false, not_true, not_false_iff, Int.le_refl, and_self, true_and, and_true, false_and, and_false, fun _ => decide_eq_true_eq, fun _ _ => decide_eq_false_iff_not, decide_true, decide_false, fun _ _ _ => if_pos trivial, fun _ _ _ => if_neg id, fun _ _ _ _ => ite_self _, fun _ _ _ _ => rfl, fun b => by cases b <;> rfl, fun b => by cases b <;> rfl, fun _ => rfl, fun _ _ => rfl⟩
def rdP (b : PV) (p : Int) : PV := .agg [b, intP p]
theorem rd_f0 (b : PV) (p : Int) : (rdP b p).fld 0 = b := rfl
theorem rd_f1 (b : PV) (p : Int) : (rdP b p).fld 1 = intP p := rfl
theorem rd_agg (b : PV) (p : Int) : PV.agg [b, PV.sc (.int .i64 p)] = rdP b p := rfl
structure Code1 (b : PV) : Prop where
  len : b.items.length ≤ 2000
  byte : ∀ j, 0 ≤ (b.elem j).toInt ∧ (b.elem j).toInt ≤ 255
theorem bXor_pos {a b : Int} (ha : 0 ≤ a ∧ a < 9223372036854775808) (hb : 0 ≤ b ∧ b < 9223372036854775808) : 0 ≤ bXor .i64 a b := by
  obtain ⟨x, rfl⟩ := Int.eq_ofNat_of_zero_le ha.1
  obtain ⟨y, rfl⟩ := Int.eq_ofNat_of_zero_le hb.1
  have hx : x < 2 ^ 63 := by omega
  have hy : y < 2 ^ 63 := by omega
  have h : (BitVec.ofInt (IntKind.bits .i64) (x : Int) ^^^ BitVec.ofInt (IntKind.bits .i64) (y : Int)).toNat = x ^^^ y := by
    rw [BitVec.toNat_xor, BitVec.toNat_ofInt, BitVec.toNat_ofInt]
    have hx2 : ((x : Int) % ((2 ^ IntKind.i64.bits : Nat) : Int)).toNat = x := by
      have : ((2 ^ IntKind.i64.bits : Nat) : Int) = 18446744073709551616 := rfl
      rw [this]; omega
    have hy2 : ((y : Int) % ((2 ^ IntKind.i64.bits : Nat) : Int)).toNat = y := by
      have : ((2 ^ IntKind.i64.bits : Nat) : Int) = 18446744073709551616 := rfl
      rw [this]; omega
    rw [hx2, hy2]
  have hlt : x ^^^ y < 2 ^ 63 := Nat.xor_lt_two_pow hx hy
  unfold bXor
  rw [h, wrap_id (by omega) (by omega)]
  omega
theorem tmod_in {x n : Int} (hx : 0 ≤ x) (hn : 1 ≤ n) : 0 ≤ Int.tmod x n ∧ Int.tmod x n < n := by
  rw [Int.tmod_eq_emod_of_nonneg hx]
  exact ⟨Int.emod_nonneg _ (by omega), Int.emod_lt_of_pos _ (by omega)⟩
theorem tdiv_in {x n : Int} (hx : 0 ≤ x) (hn : 1 ≤ n) : 0 ≤ Int.tdiv x n ∧ Int.tdiv x n ≤ x := by
  rw [Int.tdiv_eq_ediv_of_nonneg hx]
  exact ⟨Int.ediv_nonneg hx (by omega), Int.ediv_le_self _ hx⟩
theorem pick_ev {b : PV} (hb : Code1 b) {p n : Int} (hp : 0 ≤ p ∧ p < 1000000000) (hn : 1 ≤ n ∧ n < 4611686018427387904) : ∃ k, (0 ≤ k ∧ k < n) ∧ ∀ N, spec_l1Rd_pick.f N [rdP b p, intP n] = some [intP k, rdP b (p + 1)] := by
  have hlen := hb.len
  have h0 : ¬ n < 1 := by omega
  have h00 : ¬ n = 0 := by omega
  have w1 : IntKind.i64.wrap (p + 1) = p + 1 := wrap_id (by omega) (by omega)
  have w2 : IntKind.i64.wrap (p + 1 - 1) = p := by rw [wrap_id (by omega) (by omega)]; omega
  by_cases hz : (b.items.length : Int) = 0
  · refine ⟨0, by omega, fun N => ?_⟩
    simp only [spec_l1Rd_pick.f_eq, rd_f0, rd_f1, h0, hz, w1, stk, Int.reduceEq, Nat.reduceEqDiff, Int.reduceLE, Int.reduceLT]
    rfl
  by_cases hlt : p < (b.items.length : Int)
  · have hby := hb.byte p.toNat
    have w3 : IntKind.i64.wrap ((b.elem p.toNat).toInt) = (b.elem p.toNat).toInt := wrap_id (by omega) (by omega)
    refine ⟨Int.tmod ((b.elem p.toNat).toInt) n, tmod_in hby.1 hn.1, fun N => ?_⟩
    simp only [spec_l1Rd_pick.f_eq, rd_f0, rd_f1, h0, h00, hz, hlt, hp.1, w1, w2, w3, stk, Int.reduceEq, Nat.reduceEqDiff, Int.reduceLE, Int.reduceLT]
    rfl
  · have hm : 1 ≤ (b.items.length : Int) := by omega
    have w4 : IntKind.i64.wrap (p * 7) = p * 7 := wrap_id (by omega) (by omega)
    have w5 : IntKind.i64.wrap (p * 7 + 3) = p * 7 + 3 := wrap_id (by omega) (by omega)
    have w6 : IntKind.i64.wrap (p * 29) = p * 29 := wrap_id (by omega) (by omega)
    have m1 := tmod_in (x := p) hp.1 hm
    have m2 := tmod_in (x := p * 7 + 3) (by omega) hm
    have q1 := tdiv_in (x := p) hp.1 hm
    have w7 : IntKind.i64.wrap (Int.tdiv p (b.items.length : Int)) = Int.tdiv p (b.items.length : Int) := wrap_id (by omega) (by omega)
    have w8 : IntKind.i64.wrap (Int.tdiv p (b.items.length : Int) * 53) = Int.tdiv p (b.items.length : Int) * 53 := wrap_id (by omega) (by omega)
    have e1 := hb.byte (Int.tmod p (b.items.length : Int)).toNat
    have e2 := hb.byte (Int.tmod (p * 7 + 3) (b.items.length : Int)).toNat
    have z64 : ((64 : Int) = 0) = False := by simp
    simp only [spec_l1Rd_pick.f_eq, rd_f0, rd_f1, h0, h00, hz, hlt, hp.1, w1, w2, w4, w5, w6, w7, w8, m1, m2, z64, stk, Int.reduceEq, Nat.reduceEqDiff, Int.reduceLE, Int.reduceLT]
    generalize (b.elem (Int.tmod p (b.items.length : Int)).toNat).toInt = x1 at e1 ⊢
    generalize (b.elem (Int.tmod (p * 7 + 3) (b.items.length : Int)).toNat).toInt = x2 at e2 ⊢
    generalize Int.tdiv p (b.items.length : Int) = d at q1 ⊢
    have v1 : IntKind.i64.wrap x1 = x1 := wrap_id (by omega) (by omega)
    have v2 : IntKind.i64.wrap x2 = x2 := wrap_id (by omega) (by omega)
    have v3 : IntKind.i64.wrap (x1 * 131) = x1 * 131 := wrap_id (by omega) (by omega)
    have v4 : IntKind.i64.wrap (x2 * 1117) = x2 * 1117 := wrap_id (by omega) (by omega)
    have v5 : IntKind.i64.wrap (x1 * 131 + x2 * 1117) = x1 * 131 + x2 * 1117 := wrap_id (by omega) (by omega)
    have v6 : IntKind.i64.wrap (x1 * 131 + x2 * 1117 + p * 29) = x1 * 131 + x2 * 1117 + p * 29 := wrap_id (by omega) (by omega)
    have v7 : IntKind.i64.wrap (x1 * 131 + x2 * 1117 + p * 29 + d * 53) = x1 * 131 + x2 * 1117 + p * 29 + d * 53 := wrap_id (by omega) (by omega)
    simp only [v1, v2, v3, v4, v5, v6, v7]
    generalize hy : x1 * 131 + x2 * 1117 + p * 29 + d * 53 = y
    have hyb : 0 ≤ y ∧ y < 1000000000000 := by omega
    have q2 := tdiv_in (x := y) (n := 64) hyb.1 (by omega)
    have v8 : IntKind.i64.wrap (Int.tdiv y 64) = Int.tdiv y 64 := wrap_id (by omega) (by omega)
    rw [v8]
    exact ⟨Int.tmod (bXor .i64 y (Int.tdiv y 64)) n, tmod_in (bXor_pos (by omega) (by omega)) hn.1, fun N => rfl⟩
theorem of_ev {b : PV} (hb : Code1 b) {p : Int} (hp : 0 ≤ p ∧ p < 1000000000) (l : List ByteArray) (hl : 1 ≤ l.length ∧ l.length < 4611686018427387904) : ∃ s ∈ l, ∀ N, spec_l1Rd_of.f N [rdP b p, strsP l] = some [strP s, rdP b (p + 1)] := by
  obtain ⟨k, hk, hf⟩ := pick_ev hb hp (n := (l.length : Int)) (by omega)
  obtain ⟨j, rfl⟩ := Int.eq_ofNat_of_zero_le hk.1
  have hj : j < l.length := by omega
  refine ⟨l.getD j ByteArray.empty, ?_, fun N => ?_⟩
  · rw [List.getD_eq_getElem?_getD, List.getElem?_eq_getElem hj]; exact List.getElem_mem hj
  · simp only [spec_l1Rd_of.f_eq, rd_f0, rd_f1, rd_agg, hf, hk, stk, Int.reduceEq, Nat.reduceEqDiff, Int.reduceLE, Int.reduceLT]
theorem open_ev {l : List PV} (hl : l.length ≤ 1048576) (hby : ∀ j, 0 ≤ ((PV.list l).elem j).toInt ∧ ((PV.list l).elem j).toInt ≤ 255) : ∃ b, Code1 b ∧ ∀ N, spec_l1Open.f N [PV.list l] = some [rdP b 0] := by
  by_cases h : (2000 : Int) < (l.length : Int)
  · refine ⟨PV.list (l.take 2000), ⟨by simp [PV.items]; omega, fun j => ?_⟩, fun N => ?_⟩
    · rw [elem_list, List.getD_eq_getElem?_getD, List.getElem?_take]
      have := hby j
      rw [elem_list, List.getD_eq_getElem?_getD] at this
      split
      · exact this
      · exact ⟨Int.le_refl _, by decide⟩
    · have h2 : (2000 : Int) ≤ (l.length : Int) := by omega
      simp only [spec_l1Open.f_eq, h, h2, stk, Int.reduceEq, Nat.reduceEqDiff, Int.reduceLE, Int.reduceLT]
      rfl
  · refine ⟨PV.list l, ⟨by simp [PV.items]; omega, hby⟩, fun N => ?_⟩
    simp only [spec_l1Open.f_eq, h, stk, Int.reduceEq, Nat.reduceEqDiff, Int.reduceLE, Int.reduceLT]
    rfl
theorem code_args {P : Program} {t e : TypeId} (ht : tk P t = .slice e) (he : tk P e = .int .u8) {ps : List PV} (h : PvOkL (PvOk P 8) [t] ps) : ∃ l, ps = [PV.list l] ∧ ∀ j, 0 ≤ ((PV.list l).elem j).toInt ∧ ((PV.list l).elem j).toInt ≤ 255 := by
  obtain ⟨p, rfl, h1⟩ := pvOkL1 h
  obtain ⟨l, rfl, _, h3⟩ := pvOk_slice ht h1
  refine ⟨l, rfl, fun j => ?_⟩
  rw [elem_list, List.getD_eq_getElem?_getD]
  cases hj : l[j]? with
  | none => exact ⟨Int.le_refl _, by decide⟩
  | some q =>
    obtain ⟨x, rfl, hx⟩ := pvOk_int he (h3 q (List.mem_of_getElem? hj))
    simp [Lit.wf, IntKind.min, IntKind.max, IntKind.signed, IntKind.bits] at hx
    simp [PV.toInt]; omega
theorem Ev2.bind2 {α β : Type} {r : α} {s : β} {g : Nat → Nat → Option β} {f : Nat → Nat → β → Option α} (h : Ev2 g s) (k : Ev2 (fun N n => f N n s) r) : Ev2 (fun N n => (g N n).bind (f N n)) r := by
  obtain ⟨k1, h1⟩ := h; obtain ⟨k2, h2⟩ := k
  exact ⟨max k1 k2, fun N n hN hn => by
    show (g N n).bind (f N n) = _
    rw [h1 N n (by omega) (by omega), Option.bind_some]; exact h2 N n (by omega) (by omega)⟩
theorem nat_wrap {n : Int} {m : Nat} (h : n = (m : Int)) (hm : m < 9223372036854775808) : IntKind.i64.wrap n = (m : Int) := by
  rw [h, wrap_id (by omega) (by omega)]
def isWord (s : ByteArray) : Bool := decide (1 ≤ s.size ∧ s.size ≤ 12) && (bytesOf s).all fun c => decide (97 ≤ c ∧ c ≤ 122)
def lowB (l : List Int) : Bool := l.all fun c => decide (97 ≤ c ∧ c ≤ 122)
theorem lowB_cons (c : Int) (l : List Int) : lowB (c :: l) = (decide (97 ≤ c ∧ c ≤ 122) && lowB l) := by simp [lowB]
def bLess (a b : ByteArray) : Bool := Op.bytesLess a.toList b.toList
theorem bLess_eq (a b : ByteArray) : Op.bytesLess a.toList b.toList = bLess a b := rfl
def ascW : Option ByteArray → List ByteArray → Bool
  | _, [] => true
  | none, c :: rest => isWord c && ascW (some c) rest
  | some q, c :: rest => isWord c && bLess q c && ascW (some c) rest
def wordsM (l : List ByteArray) (most : Int) : Bool := ascW none l && decide ((l.length : Int) ≤ most)
def Ahead (pre : List ByteArray) (p : Option ByteArray) : Prop := (pre = [] ∧ p = none) ∨ ∃ pre' q, pre = pre' ++ [q] ∧ p = some q
theorem Ahead.next (pre : List ByteArray) (c : ByteArray) : Ahead (pre ++ [c]) (some c) := .inr ⟨pre, c, rfl, rfl⟩
theorem at_prev {xs pre' rest : List ByteArray} {q : ByteArray} (hp : xs = (pre' ++ [q]) ++ rest) (hx : xs.length ≤ 9223372036854775807) :
    IntKind.i64.wrap (((pre' ++ [q]).length : Int) - 1) = (pre'.length : Int) ∧ (pre'.length : Int) < (xs.length : Int) ∧ xs.getD pre'.length ByteArray.empty = q ∧ (0 : Int) < ((pre' ++ [q]).length : Int) := by
  subst hp
  simp only [List.length_append, List.length_cons, List.length_nil] at hx ⊢
  refine ⟨?_, by omega, ?_, by omega⟩
  · rw [wrap_id (by omega) (by omega)]; omega
  · simp
theorem implWithin_val (a b c : Int) (N : Nat) : impl_within.f N [.sc (.int .i64 a), .sc (.int .i64 b), .sc (.int .i64 c)] = some [boolP (decide (b ≤ a ∧ a ≤ c))] := by
  simp only [impl_within.f_eq, stk, Int.reduceEq, Nat.reduceEqDiff, Int.reduceLE, Int.reduceLT]
  by_cases h1 : b ≤ a <;> by_cases h2 : a ≤ c <;> simp only [h1, h2, stk, Int.reduceEq, Nat.reduceEqDiff, Int.reduceLE, Int.reduceLT]
theorem implLower_loop (s : ByteArray) (hs : s.size ≤ 9223372036854775807) : ∀ rest pre : List Int, bytesOf s = pre ++ rest → Ev2 (fun N n => impl_lower.l0 N n s (s.size : Int) (pre.length : Int)) [boolP (lowB rest)] := by
  intro rest
  induction rest with
  | nil =>
    intro pre hp
    refine Ev2.succ ?_
    simp only [impl_lower.l0_eq, at_sizeE hp, stk, Int.reduceEq, Nat.reduceEqDiff, Int.reduceLE, Int.reduceLT]
    exact Ev2.now _
  | cons c rest ih =>
    intro pre hp
    refine Ev2.succ ?_
    simp only [impl_lower.l0_eq, stk, Int.reduceEq, Nat.reduceEqDiff, Int.reduceLE, Int.reduceLT, at_size hp, at_bt hp, at_next hp (by rw [bytesOf_len]; omega)]
    rw [lowB_cons]
    by_cases h1 : c < 97
    · simp only [h1, eq_false (show ¬ (97 ≤ c ∧ c ≤ 122) by omega), stk, Int.reduceEq, Nat.reduceEqDiff, Int.reduceLE, Int.reduceLT]; exact Ev2.now _
    by_cases h2 : 122 < c
    · simp only [h1, h2, eq_false (show ¬ (97 ≤ c ∧ c ≤ 122) by omega), stk, Int.reduceEq, Nat.reduceEqDiff, Int.reduceLE, Int.reduceLT]; exact Ev2.now _
    simp only [h1, h2, eq_true (show (97 ≤ c ∧ c ≤ 122) by omega), stk, Int.reduceEq, Nat.reduceEqDiff, Int.reduceLE, Int.reduceLT]
    exact ih _ (at_step hp)
theorem implLower_ev (s : ByteArray) (hs : s.size ≤ 9223372036854775807) : Ev (fun N => impl_lower.f N [strP s]) [boolP (lowB (bytesOf s))] := by
  simp only [impl_lower.f_eq, stk, Int.reduceEq, Nat.reduceEqDiff, Int.reduceLE, Int.reduceLT]
  exact (implLower_loop s hs (bytesOf s) [] rfl).diag
theorem implWord_ev (s : ByteArray) (hs : s.size ≤ 9223372036854775807) : Ev (fun N => impl_WordOk.f N [strP s]) [boolP (isWord s)] := by
  simp only [impl_WordOk.f_eq, implWithin_val, stk, Int.reduceEq, Nat.reduceEqDiff, Int.reduceLE, Int.reduceLT]
  by_cases h : 1 ≤ s.size ∧ s.size ≤ 12
  · simp only [eq_true (show (1 : Int) ≤ s.size ∧ (s.size : Int) ≤ 12 by omega), stk, Int.reduceEq, Nat.reduceEqDiff, Int.reduceLE, Int.reduceLT]
    refine Ev.bind (implLower_ev s hs) ?_
    refine Ev.ext (Ev.now _) ?_
    unfold isWord
    rw [decide_eq_true h, Bool.true_and]
    rfl
  · simp only [eq_false (show ¬ ((1 : Int) ≤ s.size ∧ (s.size : Int) ≤ 12) by omega), stk, Int.reduceEq, Nat.reduceEqDiff, Int.reduceLE, Int.reduceLT]
    refine Ev.ext (Ev.now _) ?_
    unfold isWord
    rw [decide_eq_false h, Bool.false_and]
theorem specLetters_loop (s : ByteArray) (hs : s.size ≤ 9223372036854775807) (m : Int) : ∀ rest pre : List Int, bytesOf s = pre ++ rest → Ev2 (fun N n => spec_l1Letters.l0 N n s m (pre.length : Int)) [boolP (lowB rest && decide ((s.size : Int) ≤ m))] := by
  intro rest
  induction rest with
  | nil =>
    intro pre hp
    refine Ev2.succ ?_
    simp only [spec_l1Letters.l0_eq, at_sizeE hp, lowB, List.all_nil, stk, Int.reduceEq, Nat.reduceEqDiff, Int.reduceLE, Int.reduceLT]
    exact Ev2.now _
  | cons c rest ih =>
    intro pre hp
    refine Ev2.succ ?_
    simp only [spec_l1Letters.l0_eq, stk, Int.reduceEq, Nat.reduceEqDiff, Int.reduceLE, Int.reduceLT, at_size hp, at_bt hp, at_next hp (by rw [bytesOf_len]; omega)]
    rw [lowB_cons]
    by_cases h1 : c < 97
    · simp only [h1, eq_false (show ¬ (97 ≤ c ∧ c ≤ 122) by omega), stk, Int.reduceEq, Nat.reduceEqDiff, Int.reduceLE, Int.reduceLT]; exact Ev2.now _
    by_cases h2 : 122 < c
    · simp only [h1, h2, eq_false (show ¬ (97 ≤ c ∧ c ≤ 122) by omega), stk, Int.reduceEq, Nat.reduceEqDiff, Int.reduceLE, Int.reduceLT]; exact Ev2.now _
    simp only [h1, h2, eq_true (show (97 ≤ c ∧ c ≤ 122) by omega), stk, Int.reduceEq, Nat.reduceEqDiff, Int.reduceLE, Int.reduceLT]
    exact ih _ (at_step hp)
theorem specLetters_ev (s : ByteArray) (hs : s.size ≤ 9223372036854775807) (m : Int) : Ev (fun N => spec_l1Letters.f N [strP s, intP m]) [boolP (lowB (bytesOf s) && decide ((s.size : Int) ≤ m))] := by
  simp only [spec_l1Letters.f_eq, stk, Int.reduceEq, Nat.reduceEqDiff, Int.reduceLE, Int.reduceLT]
  exact (specLetters_loop s hs m (bytesOf s) [] rfl).diag
theorem specWord_ev (s : ByteArray) (hs : s.size ≤ 9223372036854775807) : Ev (fun N => spec_l1Word.f N [strP s]) [boolP (isWord s)] := by
  simp only [spec_l1Word.f_eq, stk, Int.reduceEq, Nat.reduceEqDiff, Int.reduceLE, Int.reduceLT]
  by_cases h : (0 : Int) < (s.size : Int)
  · simp only [h, stk, Int.reduceEq, Nat.reduceEqDiff, Int.reduceLE, Int.reduceLT]
    refine Ev.bind (specLetters_ev s hs 12) ?_
    refine Ev.ext (Ev.now _) ?_
    simp only [stk, Int.reduceEq, Nat.reduceEqDiff, Int.reduceLE, Int.reduceLT]
    unfold isWord
    rw [Bool.and_comm]
    show [boolP (_ && lowB _)] = [boolP (decide _ && lowB _)]
    have : decide ((s.size : Int) ≤ 12) = decide (1 ≤ s.size ∧ s.size ≤ 12) := decide_eq_decide.2 (by omega)
    rw [this]
  · simp only [h, stk, Int.reduceEq, Nat.reduceEqDiff, Int.reduceLE, Int.reduceLT]
    refine Ev.ext (Ev.now _) ?_
    unfold isWord
    rw [decide_eq_false (show ¬ (1 ≤ s.size ∧ s.size ≤ 12) by omega), Bool.false_and]
theorem implWords_loop (a : List ByteArray) (m : Int) (ha : a.length ≤ 9223372036854775807) (hs : ∀ s ∈ a, s.size ≤ 9223372036854775807) : ∀ (rest pre : List ByteArray) (p : Option ByteArray), a = pre ++ rest → Ahead pre p →
    Ev2 (fun N n => impl_wordsOk.l0 N n (strsP a) m (strsP a) (a.length : Int) (pre.length : Int)) [boolP (ascW p rest && decide ((a.length : Int) ≤ m))] := by
  intro rest
  induction rest with
  | nil =>
    intro pre p hp _
    refine Ev2.succ ?_
    simp only [impl_wordsOk.l0_eq, stk, Int.reduceEq, Nat.reduceEqDiff, Int.reduceLE, Int.reduceLT, at_end hp, ascW]
    exact Ev2.now _
  | cons c rest ih =>
    intro pre p hp hA
    have hc : c.size ≤ 9223372036854775807 := hs c (by rw [hp]; simp)
    refine Ev2.succ ?_
    simp only [impl_wordsOk.l0_eq, stk, Int.reduceEq, Nat.reduceEqDiff, Int.reduceLE, Int.reduceLT, at_lt hp, at_getD hp, at_next hp ha]
    refine Ev2.bind (implWord_ev c hc) ?_
    have hnext := ih (pre ++ [c]) (some c) (at_step hp) (Ahead.next pre c)
    simp only [stk, Int.reduceEq, Nat.reduceEqDiff, Int.reduceLE, Int.reduceLT]
    rcases hA with ⟨rfl, rfl⟩ | ⟨pre', q, rfl, rfl⟩
    · rw [ascW]
      cases hw : isWord c with
      | false => simp only [stk, Int.reduceEq, Nat.reduceEqDiff, Int.reduceLE, Int.reduceLT]; exact Ev2.now _
      | true =>
        simp only [List.length_nil, Int.natCast_zero, Int.lt_irrefl, stk, Int.reduceEq, Nat.reduceEqDiff, Int.reduceLE, Int.reduceLT]
        exact hnext
    · obtain ⟨h1, h2, h3, h4⟩ := at_prev hp ha
      rw [ascW]
      cases hw : isWord c with
      | false => simp only [stk, Int.reduceEq, Nat.reduceEqDiff, Int.reduceLE, Int.reduceLT]; exact Ev2.now _
      | true =>
        simp only [h4, h1, h2, h3, bLess_eq, stk, Int.reduceEq, Nat.reduceEqDiff, Int.reduceLE, Int.reduceLT]
        cases hb : bLess q c with
        | false => simp only [stk, Int.reduceEq, Nat.reduceEqDiff, Int.reduceLE, Int.reduceLT]; exact Ev2.now _
        | true => simp only [stk, Int.reduceEq, Nat.reduceEqDiff, Int.reduceLE, Int.reduceLT]; exact hnext
theorem implWords_ev (a : List ByteArray) (m : Int) (ha : a.length ≤ 9223372036854775807) (hs : ∀ s ∈ a, s.size ≤ 9223372036854775807) : Ev (fun N => impl_wordsOk.f N [strsP a, intP m]) [boolP (wordsM a m)] := by
  simp only [impl_wordsOk.f_eq, stk, Int.reduceEq, Nat.reduceEqDiff, Int.reduceLE, Int.reduceLT]
  exact (implWords_loop a m ha hs a [] none rfl (.inl ⟨rfl, rfl⟩)).diag
theorem specWords_loop (a : List ByteArray) (ha : a.length ≤ 9223372036854775807) (hs : ∀ s ∈ a, s.size ≤ 9223372036854775807) : ∀ (rest pre : List ByteArray) (p : Option ByteArray), a = pre ++ rest → Ahead pre p →
    Ev2 (fun N n => spec_l3Words.l0 N n (strsP a) (pre.length : Int)) [boolP (ascW p rest && decide ((a.length : Int) ≤ 300))] := by
  intro rest
  induction rest with
  | nil =>
    intro pre p hp _
    refine Ev2.succ ?_
    simp only [spec_l3Words.l0_eq, stk, Int.reduceEq, Nat.reduceEqDiff, Int.reduceLE, Int.reduceLT, at_end hp, ascW]
    exact Ev2.now _
  | cons c rest ih =>
    intro pre p hp hA
    have hc : c.size ≤ 9223372036854775807 := hs c (by rw [hp]; simp)
    refine Ev2.succ ?_
    simp only [spec_l3Words.l0_eq, stk, Int.reduceEq, Nat.reduceEqDiff, Int.reduceLE, Int.reduceLT, at_lt hp, at_getD hp, at_next hp ha]
    refine Ev2.bind (specWord_ev c hc) ?_
    have hnext := ih (pre ++ [c]) (some c) (at_step hp) (Ahead.next pre c)
    simp only [stk, Int.reduceEq, Nat.reduceEqDiff, Int.reduceLE, Int.reduceLT]
    rcases hA with ⟨rfl, rfl⟩ | ⟨pre', q, rfl, rfl⟩
    · rw [ascW]
      cases hw : isWord c with
      | false => simp only [stk, Int.reduceEq, Nat.reduceEqDiff, Int.reduceLE, Int.reduceLT]; exact Ev2.now _
      | true =>
        simp only [List.length_nil, Int.natCast_zero, Int.lt_irrefl, stk, Int.reduceEq, Nat.reduceEqDiff, Int.reduceLE, Int.reduceLT]
        exact hnext
    · obtain ⟨h1, h2, h3, h4⟩ := at_prev hp ha
      rw [ascW]
      cases hw : isWord c with
      | false => simp only [stk, Int.reduceEq, Nat.reduceEqDiff, Int.reduceLE, Int.reduceLT]; exact Ev2.now _
      | true =>
        simp only [h4, h1, h2, h3, bLess_eq, stk, Int.reduceEq, Nat.reduceEqDiff, Int.reduceLE, Int.reduceLT]
        cases hb : bLess q c with
        | false => simp only [stk, Int.reduceEq, Nat.reduceEqDiff, Int.reduceLE, Int.reduceLT]; exact Ev2.now _
        | true => simp only [stk, Int.reduceEq, Nat.reduceEqDiff, Int.reduceLE, Int.reduceLT]; exact hnext
theorem specWords_ev (a : List ByteArray) (ha : a.length ≤ 9223372036854775807) (hs : ∀ s ∈ a, s.size ≤ 9223372036854775807) : Ev (fun N => spec_l3Words.f N [strsP a]) [boolP (wordsM a 300)] := by
  simp only [spec_l3Words.f_eq]
  exact (specWords_loop a ha hs a [] none rfl (.inl ⟨rfl, rfl⟩)).diag
theorem specOwn_ev (a : List ByteArray) (ha : a.length ≤ 9223372036854775807) (hs : ∀ s ∈ a, s.size ≤ 9223372036854775807) : Ev (fun N => spec_l10Own.f N [strsP a]) [boolP (wordsM a 10)] := by
  simp only [spec_l10Own.f_eq, stk, Int.reduceEq, Nat.reduceEqDiff, Int.reduceLE, Int.reduceLT]
  refine Ev.bind (specWords_ev a ha hs) ?_
  unfold wordsM
  cases h : ascW none a with
  | false => simp only [stk, Int.reduceEq, Nat.reduceEqDiff, Int.reduceLE, Int.reduceLT]; exact Ev.now _
  | true =>
    simp only [stk, Int.reduceEq, Nat.reduceEqDiff, Int.reduceLE, Int.reduceLT]
    by_cases h3 : (a.length : Int) ≤ 300
    · simp only [h3, stk, Int.reduceEq, Nat.reduceEqDiff, Int.reduceLE, Int.reduceLT]; exact Ev.now _
    · simp only [h3, eq_false (show ¬ (a.length : Int) ≤ 10 by omega), stk, Int.reduceEq, Nat.reduceEqDiff, Int.reduceLE, Int.reduceLT]; exact Ev.now _
theorem bLess_iff (a b : ByteArray) : bLess a b = true ↔ encB a < encB b := by
  unfold bLess encB
  rw [ByteArray.toList_eq, ByteArray.toList_eq, bytesLess_eq]
  simp
theorem ll_trans {a b c : List UInt8} (h1 : a < b) (h2 : b < c) : a < c := List.lt_trans h1 h2
theorem ll_irrefl (a : List UInt8) : ¬ a < a := List.lt_irrefl a
theorem ll_le {a b : List UInt8} : a ≤ b ↔ ¬ b < a := by rw [← List.not_lt]
theorem ll_tri {a b : List UInt8} (h1 : ¬ a < b) (h2 : ¬ b < a) : a = b := List.le_antisymm (ll_le.2 h2) (ll_le.2 h1)
theorem ll_lt_of_le_of_ne {a b : List UInt8} (h1 : a ≤ b) (h2 : a ≠ b) : a < b := Classical.byContradiction fun h => h2 (ll_tri h (ll_le.1 h1))
theorem ll_lt_of_le_of_lt {a b c : List UInt8} (h1 : a ≤ b) (h2 : b < c) : a < c := by
  by_cases h : a = b
  · rw [h]; exact h2
  · exact ll_trans (ll_lt_of_le_of_ne h1 h) h2
theorem asc_ext : ∀ {a b : List (List UInt8)}, a.Pairwise (· < ·) → b.Pairwise (· < ·) → (∀ x, x ∈ a ↔ x ∈ b) → a = b
  | [], [], _, _, _ => rfl
  | [], y :: b, _, _, h => absurd ((h y).2 (by simp)) (by simp)
  | x :: a, [], _, _, h => absurd ((h x).1 (by simp)) (by simp)
  | x :: a, y :: b, ha, hb, h => by
    rw [List.pairwise_cons] at ha hb
    have e : x = y := by
      rcases List.mem_cons.1 ((h x).1 (by simp)) with h1 | h1
      · exact h1
      rcases List.mem_cons.1 ((h y).2 (by simp)) with h2 | h2
      · exact h2.symm
      · exact absurd (ll_trans (hb.1 x h1) (ha.1 y h2)) (ll_irrefl y)
    subst e
    have : a = b := asc_ext ha.2 hb.2 (fun z => by
      constructor
      · intro hz
        rcases List.mem_cons.1 ((h z).1 (by simp [hz])) with rfl | h1
        · exact absurd (ha.1 z hz) (ll_irrefl z)
        · exact h1
      · intro hz
        rcases List.mem_cons.1 ((h z).2 (by simp [hz])) with rfl | h1
        · exact absurd (hb.1 z hz) (ll_irrefl z)
        · exact h1)
    rw [this]
theorem sorted_pair (zs : List (List UInt8)) : (zs.mergeSort fun x y => decide (x ≤ y)).Pairwise (· ≤ ·) := by
  have h := List.pairwise_mergeSort (le := fun x y : List UInt8 => decide (x ≤ y)) (fun a b c h1 h2 => by
    simp only [decide_eq_true_eq] at *
    exact List.le_trans h1 h2) (fun a b => by
    simp only [Bool.or_eq_true, decide_eq_true_eq]
    exact List.le_total a b) zs
  exact h.imp (fun h => by simpa using h)
theorem keeps_at {zs : List (List UInt8)} (hs : zs.Pairwise (· ≤ ·)) {j k : Nat} (hk : k < zs.length) (hj : j < k) (hkeep : Lib.keeps zs.toArray k = true) : zs.toArray[j]! < zs.toArray[k]! := by
  have hj2 : j < zs.length := by omega
  have hk1 : k - 1 < zs.length := by omega
  rw [List.pairwise_iff_getElem] at hs
  have e1 : ∀ i (h : i < zs.length), zs.toArray[i]! = zs[i] := fun i h => by rw [getElem!_pos _ i (by simpa using h)]; simp
  rw [e1 j hj2, e1 k hk]
  have hne : zs[k - 1] ≠ zs[k] := by
    have := hkeep
    unfold Lib.keeps at this
    simp only [Bool.or_eq_true, decide_eq_true_eq, bne_iff_ne, beq_iff_eq] at this
    rcases this with h | h
    · omega
    · rw [e1 k hk, e1 (k - 1) hk1] at h
      exact fun he => h he.symm
  have hle : zs[k - 1] ≤ zs[k] := hs (k - 1) k hk1 hk (by omega)
  have hlt := ll_lt_of_le_of_ne hle hne
  by_cases hj3 : j = k - 1
  · subst hj3; exact hlt
  · exact ll_lt_of_le_of_lt (hs j (k - 1) hj2 hk1 (by omega)) hlt
theorem compact_pair {zs : List (List UInt8)} (hs : zs.Pairwise (· ≤ ·)) : (Lib.compact zs).Pairwise (· < ·) := by
  unfold Lib.compact Lib.compactUpTo
  rw [List.pairwise_map, List.pairwise_filter]
  refine List.Pairwise.imp_of_mem (R := (· < ·)) ?_ List.pairwise_lt_range
  intro i k hi hk hik h1 h2
  exact keeps_at hs (by simpa using hk) hik h2
theorem compact_mem {zs : List (List UInt8)} (x : List UInt8) : x ∈ Lib.compact zs ↔ x ∈ zs := by
  unfold Lib.compact Lib.compactUpTo
  simp only [List.mem_map, List.mem_filter, List.mem_range]
  have e1 : ∀ i (h : i < zs.length), zs.toArray[i]! = zs[i] := fun i h => by rw [getElem!_pos _ i (by simpa using h)]; simp
  constructor
  · rintro ⟨i, ⟨hi, _⟩, rfl⟩
    rw [e1 i hi]; exact List.getElem_mem hi
  · intro hx
    obtain ⟨i, hi, rfl⟩ := List.mem_iff_getElem.1 hx
    suffices h : ∀ m i, i ≤ m → ∀ hi : i < zs.length, ∃ j, (j < zs.length ∧ Lib.keeps zs.toArray j = true) ∧ zs.toArray[j]! = zs[i] from h i i (Nat.le_refl _) hi
    intro m
    induction m with
    | zero =>
      intro i h0 hi
      have : i = 0 := by omega
      subst this
      exact ⟨0, ⟨hi, by simp [Lib.keeps]⟩, e1 0 hi⟩
    | succ m ih =>
      intro i h0 hi
      by_cases hk : Lib.keeps zs.toArray i = true
      · exact ⟨i, ⟨hi, hk⟩, e1 i hi⟩
      · have hne : i ≠ 0 := by rintro rfl; exact hk (by simp [Lib.keeps])
        have hi1 : i - 1 < zs.length := by omega
        have heq : zs[i - 1] = zs[i] := by
          have h2 := hk
          unfold Lib.keeps at h2
          simp only [Bool.or_eq_true, decide_eq_true_eq, bne_iff_ne, beq_iff_eq, not_or, Classical.not_not] at h2
          have h3 := h2.2
          rw [e1 i hi, e1 (i - 1) hi1] at h3
          exact h3.symm
        obtain ⟨j, h1, h2⟩ := ih (i - 1) (by omega) hi1
        exact ⟨j, h1, h2.trans heq⟩
def insM (s : ByteArray) : List ByteArray → List ByteArray
  | [] => [s]
  | c :: r => if bLess c s = true then c :: insM s r else if c = s then c :: r else s :: c :: r
theorem encB_inj {a b : ByteArray} (h : encB a = encB b) : a = b := by
  have := congrArg decB h
  rwa [decB_encB, decB_encB] at this
theorem insM_mem (s : ByteArray) : ∀ (l : List ByteArray) (x : ByteArray), x ∈ insM s l ↔ x = s ∨ x ∈ l
  | [], x => by simp [insM]
  | c :: r, x => by
    unfold insM
    split
    · simp only [List.mem_cons, insM_mem s r x]
      constructor
      · rintro (h | h | h)
        · exact .inr (.inl h)
        · exact .inl h
        · exact .inr (.inr h)
      · rintro (h | h | h)
        · exact .inr (.inl h)
        · exact .inl h
        · exact .inr (.inr h)
    · split
      · rename_i he
        subst he
        simp
      · simp
theorem insM_asc (s : ByteArray) : ∀ {l : List ByteArray}, (l.map encB).Pairwise (· < ·) → ((insM s l).map encB).Pairwise (· < ·)
  | [], _ => by simp [insM]
  | c :: r, h => by
    rw [List.map_cons, List.pairwise_cons] at h
    unfold insM
    split
    · rename_i hlt
      rw [List.map_cons, List.pairwise_cons]
      refine ⟨fun z hz => ?_, insM_asc s h.2⟩
      obtain ⟨y, hy, rfl⟩ := List.mem_map.1 hz
      rcases (insM_mem s r y).1 hy with rfl | hy
      · exact (bLess_iff c y).1 hlt
      · exact h.1 _ (List.mem_map.2 ⟨y, hy, rfl⟩)
    · rename_i hlt
      split
      · rw [List.map_cons, List.pairwise_cons]; exact h
      · rename_i hne
        have hsc : encB s < encB c := by
          refine Classical.byContradiction fun hn => hne (encB_inj (ll_tri (fun h => hlt ((bLess_iff c s).2 h)) hn))
        rw [List.map_cons, List.pairwise_cons]
        refine ⟨fun z hz => ?_, by rw [List.map_cons, List.pairwise_cons]; exact h⟩
        rw [List.map_cons] at hz
        rcases List.mem_cons.1 hz with rfl | hz
        · exact hsc
        · exact ll_trans hsc (h.1 z hz)
theorem strs_snoc (a : List ByteArray) (k : ByteArray) : PV.list ((strsP a).items ++ [strP k]) = strsP (a ++ [k]) := by simp [strsP, PV.items]
theorem all_snoc {α : Type} {Q : α → Prop} {l : List α} {x : α} (h : ∀ y ∈ l, Q y) (hx : Q x) : ∀ y ∈ l ++ [x], Q y := by
  intro y hy
  rcases List.mem_append.1 hy with hy | hy
  · exact h y hy
  · rw [List.mem_singleton.1 hy]; exact hx
theorem strs_full (a : List ByteArray) : PV.list (([] : List PV) ++ (strsP a).items) = strsP a := rfl
theorem ins_split (s : ByteArray) : ∀ (pre rest : List ByteArray), (∀ c ∈ pre, bLess c s = true) → insM s (pre ++ rest) = pre ++ insM s rest
  | [], rest, _ => rfl
  | c :: pre, rest, h => by
    rw [List.cons_append, insM, if_pos (h c (by simp)), ins_split s pre rest (fun x hx => h x (by simp [hx]))]; rfl
theorem put_loop (a : List ByteArray) (s : ByteArray) (ha : a.length ≤ 1000000000) : ∀ (rest pre : List ByteArray), a = pre ++ rest → (∀ c ∈ pre, bLess c s = true) →
    Ev2 (fun N n => spec_l1Put.l0 N n s (pre.length : Int) (strsP a)) [strsP (insM s a)] := by
  intro rest
  have parts : ∀ (pre rest : List ByteArray), a = pre ++ rest → (strsP a).items.take pre.length = pre.map strP ∧ (strsP a).items.drop pre.length = rest.map strP := fun pre rest hp => by
    subst hp; simp [strsP, PV.items]
  induction rest with
  | nil =>
    intro pre hp hpre
    obtain ⟨p1, p2⟩ := parts pre [] hp
    have e : insM s a = pre ++ [s] := by rw [hp, ins_split s pre [] hpre]; rfl
    have hl : a.length = pre.length := by rw [hp]; simp
    have c0 : pre.length ≤ 8796093022208 := by omega
    have c1 : pre.length + 1 ≤ 8796093022208 := by omega
    have c2 : (pre.length : Int) ≤ (a.length : Int) := by omega
    have z : a.length - pre.length = 0 := by omega
    refine Ev2.succ ?_
    have e2 : PV.list (pre.map strP ++ [strP s]) = strsP (pre ++ [s]) := by simp [strsP]
    simp only [spec_l1Put.l0_eq, strs_len, at_end hp, c2, z, List.drop_zero, Nat.sub_zero, p1, p2, List.nil_append, List.length_nil, List.length_map, List.length_append, List.map_nil, List.take_nil, List.append_nil, Nat.zero_add, Nat.add_zero, c0, c1, e, e2, stk, Int.reduceEq, Nat.reduceEqDiff, Int.reduceLE, Int.reduceLT]
    exact Ev2.now _
  | cons c rest ih =>
    intro pre hp hpre
    obtain ⟨p1, p2⟩ := parts pre (c :: rest) hp
    have hl : a.length = pre.length + 1 + rest.length := by rw [hp]; simp; omega
    refine Ev2.succ ?_
    by_cases hlt : bLess c s = true
    · simp only [spec_l1Put.l0_eq, at_lt hp, at_getD hp, bLess_eq, hlt, at_next hp (by omega), stk, Int.reduceEq, Nat.reduceEqDiff, Int.reduceLE, Int.reduceLT]
      refine ih _ (at_step hp) (fun x hx => ?_)
      rcases List.mem_append.1 hx with hx | hx
      · exact hpre x hx
      · rw [List.mem_singleton.1 hx]; exact hlt
    · have e : insM s a = pre ++ (if c = s then c :: rest else s :: c :: rest) := by rw [hp, ins_split s pre _ hpre, insM, if_neg hlt]
      by_cases hc : c = s
      · have e3 : insM s a = a := by rw [e, if_pos hc, ← hp]
        subst hc
        simp only [spec_l1Put.l0_eq, at_lt hp, at_getD hp, bLess_eq, hlt, e3, stk, Int.reduceEq, Nat.reduceEqDiff, Int.reduceLE, Int.reduceLT]
        exact Ev2.now _
      · rw [if_neg hc] at e
        have c0 : pre.length ≤ 8796093022208 := by omega
        have c1 : pre.length + 1 ≤ 8796093022208 := by omega
        have c2 : (pre.length : Int) ≤ (a.length : Int) := by omega
        have c3 : pre.length + 1 + (rest.length + 1) ≤ 8796093022208 := by omega
        have z : a.length - pre.length = rest.length + 1 := by omega
        have t1 : List.take (rest.length + 1) (strP c :: rest.map strP) = strP c :: rest.map strP := List.take_of_length_le (by simp)
        have e2 : PV.list (pre.map strP ++ [strP s] ++ strP c :: rest.map strP) = strsP (pre ++ s :: c :: rest) := by simp [strsP]
        simp only [spec_l1Put.l0_eq, strs_len, at_lt hp, at_getD hp, bLess_eq, hlt, hc, c2, List.drop_zero, Nat.sub_zero, p1, p2, z, t1, List.nil_append, List.length_nil, List.length_map, List.length_append, List.length_cons, List.map_cons, Nat.zero_add, c0, c1, c3, e, e2, stk, Int.reduceEq, Nat.reduceEqDiff, Int.reduceLE, Int.reduceLT]
        exact Ev2.now _
theorem put_ev (a : List ByteArray) (s : ByteArray) (ha : a.length ≤ 1000000000) : Ev (fun N => spec_l1Put.f N [strsP a, strP s]) [strsP (insM s a)] := by
  simp only [spec_l1Put.f_eq, stk, Int.reduceEq, Nat.reduceEqDiff, Int.reduceLE, Int.reduceLT]
  exact (put_loop a s ha a [] rfl (by simp)).diag
theorem insM_len (s : ByteArray) : ∀ l : List ByteArray, (insM s l).length ≤ l.length + 1
  | [] => by simp [insM]
  | c :: r => by
    unfold insM
    have := insM_len s r
    split
    · simp; omega
    · split <;> simp
theorem szs_in {l : List ByteArray} {a b : Nat} (h : (l.all fun s => decide (a ≤ s.size ∧ s.size ≤ b)) = true) : ∀ s ∈ l, a ≤ s.size ∧ s.size ≤ b := fun s hs => of_decide_eq_true (List.all_eq_true.1 h s hs)
theorem least_val (a b : Int) (N : Nat) : spec_l1Least.f N [intP a, intP b] = some [intP (if a < b then a else b)] := by
  simp only [spec_l1Least.f_eq, stk, Int.reduceEq, Nat.reduceEqDiff, Int.reduceLE, Int.reduceLT]
  by_cases h : a < b <;> simp only [h, stk, Int.reduceEq, Nat.reduceEqDiff, Int.reduceLE, Int.reduceLT]
theorem extract_all (s : ByteArray) : s.extract 0 s.size = s := by
  simp
theorem word_loop {b : PV} (hb : Code1 b) : ∀ (c p : Nat) (x : ByteArray), p + c < 1000000000 → x.size + 2 * c ≤ 12 → (1 ≤ c ∨ 1 ≤ x.size) → ∃ (r : ByteArray) (q : Nat), q ≤ p + c ∧ 1 ≤ r.size ∧ r.size ≤ 12 ∧ Ev2 (fun N n => spec_l13Word.l0 N n x (c : Int) b (p : Int)) [strP r, rdP b (q : Int)] := by
  intro c
  induction c with
  | zero =>
    intro p x hp hx h1
    refine ⟨x, p, by omega, by omega, by omega, Ev2.succ ?_⟩
    have h0 : ¬ (0 : Int) < ((0 : Nat) : Int) := by omega
    have hm : (if (x.size : Int) < 12 then (x.size : Int) else 12) = (x.size : Int) := by split <;> omega
    simp only [spec_l13Word.l0_eq, h0, least_val, hm, stk, Int.reduceEq, Nat.reduceEqDiff, Int.reduceLE, Int.reduceLT, extract_all, rd_agg]
    exact Ev2.now _
  | succ c ih =>
    intro p x hp hx h1
    obtain ⟨s, hs, hf⟩ := of_ev hb (p := (p : Int)) (by omega) [ByteArray.mk #[97], ByteArray.mk #[98], ByteArray.mk #[99], ByteArray.mk #[97, 98], ByteArray.mk #[116]] (by simp)
    have hsz : 1 ≤ s.size ∧ s.size ≤ 2 := by
      have ha : ∀ s ∈ [ByteArray.mk #[97], ByteArray.mk #[98], ByteArray.mk #[99], ByteArray.mk #[97, 98], ByteArray.mk #[116]], 1 ≤ s.size ∧ s.size ≤ 2 := szs_in rfl
      exact ha s hs
    obtain ⟨r, q, h2, h3, h4, h5⟩ := ih (p + 1) (x ++ s) (by omega) (by rw [ByteArray.size_append]; omega) (.inr (by rw [ByteArray.size_append]; omega))
    refine ⟨r, q, by omega, h3, h4, Ev2.succ ?_⟩
    have h0 : (0 : Int) < ((c + 1 : Nat) : Int) := by omega
    have hw : IntKind.i64.wrap (((c + 1 : Nat) : Int) - 1) = (c : Int) := by rw [wrap_id (by omega) (by omega)]; omega
    have hl : x.size + s.size ≤ 9223372036854775807 := by omega
    have hp1 : ((p : Int) + 1) = ((p + 1 : Nat) : Int) := by omega
    have e : PV.list [PV.sc (.string (ByteArray.mk #[97])), PV.sc (.string (ByteArray.mk #[98])), PV.sc (.string (ByteArray.mk #[99])), PV.sc (.string (ByteArray.mk #[97, 98])), PV.sc (.string (ByteArray.mk #[116]))] = strsP [ByteArray.mk #[97], ByteArray.mk #[98], ByteArray.mk #[99], ByteArray.mk #[97, 98], ByteArray.mk #[116]] := rfl
    simp only [spec_l13Word.l0_eq, h0, hw, hl, e, rd_agg, hf, rd_f0, rd_f1, hp1, stk, Int.reduceEq, Nat.reduceEqDiff, Int.reduceLE, Int.reduceLT]
    exact h5
def wordsL : List ByteArray := [ByteArray.mk #[99, 97, 116], ByteArray.mk #[99, 97, 116, 115], ByteArray.mk #[97, 99, 116], ByteArray.mk #[100, 111], ByteArray.mk #[100, 111, 105, 110, 103], ByteArray.mk #[103, 111], ByteArray.mk #[117, 110, 100, 111], ByteArray.mk #[116, 114, 121], ByteArray.mk #[116, 114, 105, 101, 115], ByteArray.mk #[97], ByteArray.mk #[98, 97, 107, 101], ByteArray.mk #[98, 97, 107, 105, 110, 103], ByteArray.mk #[116, 97, 99, 116], ByteArray.mk #[99, 97, 114, 116], ByteArray.mk #[97, 98, 99, 97, 98, 99, 97, 98, 99, 97, 98, 99]]
theorem word_ev {b : PV} (hb : Code1 b) (p : Nat) (hp : p < 900000000) : ∃ (r : ByteArray) (q : Nat), q ≤ p + 10 ∧ 1 ≤ r.size ∧ r.size ≤ 12 ∧ Ev (fun N => spec_l13Word.f N [rdP b (p : Int)]) [strP r, rdP b (q : Int)] := by
  obtain ⟨k, hk, hf⟩ := pick_ev hb (p := (p : Int)) (n := 3) (by omega) (by omega)
  by_cases h0 : k = 0
  · obtain ⟨k2, hk2, hf2⟩ := pick_ev hb (p := (p : Int) + 1) (n := 5) (by omega) (by omega)
    obtain ⟨j, rfl⟩ := Int.eq_ofNat_of_zero_le hk2.1
    obtain ⟨r, q, h2, h3, h4, h5⟩ := word_loop hb (1 + j) (p + 2) ⟨#[]⟩ (by omega) (by have : (ByteArray.mk #[]).size = 0 := rfl; omega) (.inl (by omega))
    refine ⟨r, q, by omega, h3, h4, ?_⟩
    have hw : IntKind.i64.wrap (1 + (j : Int)) = ((1 + j : Nat) : Int) := by rw [wrap_id (by omega) (by omega)]; omega
    have hp1 : ((p : Int) + 1 + 1) = ((p + 2 : Nat) : Int) := by omega
    simp only [spec_l13Word.f_eq, rd_f0, rd_f1, rd_agg, hf, h0, hf2, hw, hp1, stk, Int.reduceEq, Nat.reduceEqDiff, Int.reduceLE, Int.reduceLT]
    exact h5.diag
  · obtain ⟨s, hs, hf2⟩ := of_ev hb (p := (p : Int) + 1) (by omega) wordsL (by simp [wordsL])
    have ha : ∀ s ∈ wordsL, 1 ≤ s.size ∧ s.size ≤ 12 := szs_in rfl
    refine ⟨s, p + 2, by omega, (ha s hs).1, (ha s hs).2, ?_⟩
    have hp1 : ((p : Int) + 1 + 1) = ((p + 2 : Nat) : Int) := by omega
    have e : PV.list [PV.sc (.string (ByteArray.mk #[99, 97, 116])), PV.sc (.string (ByteArray.mk #[99, 97, 116, 115])), PV.sc (.string (ByteArray.mk #[97, 99, 116])), PV.sc (.string (ByteArray.mk #[100, 111])), PV.sc (.string (ByteArray.mk #[100, 111, 105, 110, 103])), PV.sc (.string (ByteArray.mk #[103, 111])), PV.sc (.string (ByteArray.mk #[117, 110, 100, 111])), PV.sc (.string (ByteArray.mk #[116, 114, 121])), PV.sc (.string (ByteArray.mk #[116, 114, 105, 101, 115])), PV.sc (.string (ByteArray.mk #[97])), PV.sc (.string (ByteArray.mk #[98, 97, 107, 101])), PV.sc (.string (ByteArray.mk #[98, 97, 107, 105, 110, 103])), PV.sc (.string (ByteArray.mk #[116, 97, 99, 116])), PV.sc (.string (ByteArray.mk #[99, 97, 114, 116])), PV.sc (.string (ByteArray.mk #[97, 98, 99, 97, 98, 99, 97, 98, 99, 97, 98, 99]))] = strsP wordsL := rfl
    simp only [spec_l13Word.f_eq, rd_f0, rd_f1, rd_agg, hf, h0, e, hf2, hp1, stk, Int.reduceEq, Nat.reduceEqDiff, Int.reduceLE, Int.reduceLT]
    exact Ev.now _
def anyL : List ByteArray := [ByteArray.mk #[], ByteArray.mk #[67, 97, 116], ByteArray.mk #[97, 32, 98], ByteArray.mk #[97, 98, 99, 97, 98, 99, 97, 98, 99, 97, 98, 99, 97], ByteArray.mk #[120, 49], ByteArray.mk #[45]]
theorem anyWord_ev {b : PV} (hb : Code1 b) (p : Nat) (hp : p < 800000000) : ∃ (r : ByteArray) (q : Nat), q ≤ p + 12 ∧ r.size ≤ 13 ∧ Ev (fun N => spec_l13AnyWord.f N [rdP b (p : Int)]) [strP r, rdP b (q : Int)] := by
  obtain ⟨k, hk, hf⟩ := pick_ev hb (p := (p : Int)) (n := 16) (by omega) (by omega)
  have hp1 : (p : Int) + 1 = ((p + 1 : Nat) : Int) := by omega
  rw [hp1] at hf
  by_cases k0 : k = 0
  · obtain ⟨s, hs, hf2⟩ := of_ev hb (p := ((p + 1 : Nat) : Int)) (by omega) anyL (by simp [anyL])
    have ha : ∀ s ∈ anyL, 0 ≤ s.size ∧ s.size ≤ 13 := szs_in rfl
    have hp2 : ((p + 1 : Nat) : Int) + 1 = ((p + 2 : Nat) : Int) := by omega
    refine ⟨s, p + 2, by omega, (ha s hs).2, ?_⟩
    have e : PV.list [PV.sc (.string (ByteArray.mk #[])), PV.sc (.string (ByteArray.mk #[67, 97, 116])), PV.sc (.string (ByteArray.mk #[97, 32, 98])), PV.sc (.string (ByteArray.mk #[97, 98, 99, 97, 98, 99, 97, 98, 99, 97, 98, 99, 97])), PV.sc (.string (ByteArray.mk #[120, 49])), PV.sc (.string (ByteArray.mk #[45]))] = strsP anyL := rfl
    simp only [spec_l13AnyWord.f_eq, rd_f0, rd_f1, rd_agg, hf, k0, e, hf2, hp2, stk, Int.reduceEq, Nat.reduceEqDiff, Int.reduceLE, Int.reduceLT]
    exact Ev.now _
  · obtain ⟨r, q, h2, h3, h4, h5⟩ := word_ev hb (p + 1) (by omega)
    refine ⟨r, q, by omega, by omega, ?_⟩
    simp only [spec_l13AnyWord.f_eq, rd_f0, rd_f1, rd_agg, hf, k0, stk, Int.reduceEq, Nat.reduceEqDiff, Int.reduceLE, Int.reduceLT]
    refine Ev.bind h5 ?_
    simp only [rd_f1, stk, Int.reduceEq, Nat.reduceEqDiff, Int.reduceLE, Int.reduceLT]
    exact Ev.now _
structure WordsB (l : List ByteArray) (n : Nat) : Prop where
  n : l.length ≤ n
  s : ∀ x ∈ l, x.size ≤ 13
def tenL : List ByteArray := [ByteArray.mk #[97], ByteArray.mk #[98], ByteArray.mk #[99], ByteArray.mk #[100], ByteArray.mk #[101], ByteArray.mk #[102], ByteArray.mk #[103], ByteArray.mk #[104], ByteArray.mk #[105], ByteArray.mk #[106]]
theorem ten_b (n : Nat) : WordsB tenL (n + 10) := ⟨by simp [tenL], fun x hx => (szs_in (l := tenL) (a := 0) (b := 13) rfl x hx).2⟩
theorem ten_e : PV.list [PV.sc (.string (ByteArray.mk #[97])), PV.sc (.string (ByteArray.mk #[98])), PV.sc (.string (ByteArray.mk #[99])), PV.sc (.string (ByteArray.mk #[100])), PV.sc (.string (ByteArray.mk #[101])), PV.sc (.string (ByteArray.mk #[102])), PV.sc (.string (ByteArray.mk #[103])), PV.sc (.string (ByteArray.mk #[104])), PV.sc (.string (ByteArray.mk #[105])), PV.sc (.string (ByteArray.mk #[106]))] = strsP tenL := rfl
theorem own_l1 {b : PV} (hb : Code1 b) : ∀ (c p : Nat) (l : List ByteArray), p + 20 * c < 700000000 → WordsB l 100 → l.length + c ≤ 80 → ∃ (r : List ByteArray) (q : Nat), q ≤ p + 20 * c + 20 ∧ WordsB r 200 ∧ Ev2 (fun N n => spec_l13Own.l1 N n (c : Int) b (p : Int) (strsP l)) [strsP r, rdP b (q : Int)] := by
  intro c
  induction c with
  | zero =>
    intro p l hp hl hlc
    have h0 : ¬ (0 : Int) < ((0 : Nat) : Int) := by omega
    obtain ⟨k, hk, hf⟩ := pick_ev hb (p := (p : Int)) (n := 20) (by omega) (by omega)
    have hp1 : (p : Int) + 1 = ((p + 1 : Nat) : Int) := by omega
    rw [hp1] at hf
    by_cases k0 : k = 0
    · obtain ⟨w, q, hq, hw, hv⟩ := anyWord_ev hb (p + 1) (by omega)
      obtain ⟨m, hm, hf2⟩ := pick_ev hb (p := (q : Int)) (n := 20) (by omega) (by omega)
      have hq1 : (q : Int) + 1 = ((q + 1 : Nat) : Int) := by omega
      rw [hq1] at hf2
      have c1 : l.length + 1 ≤ 8796093022208 := by omega
      by_cases m0 : m = 0
      · refine ⟨tenL, q + 1, by omega, ten_b 190, Ev2.succ ?_⟩
        simp only [spec_l13Own.l1_eq, h0, rd_agg, rd_f0, rd_f1, hf, k0, stk, Int.reduceEq, Nat.reduceEqDiff, Int.reduceLE, Int.reduceLT]
        refine Ev2.bind hv ?_
        simp only [rd_agg, rd_f0, rd_f1, c1, hf2, m0, ten_e, stk, Int.reduceEq, Nat.reduceEqDiff, Int.reduceLE, Int.reduceLT]
        exact Ev2.now _
      · refine ⟨l ++ [w], q + 1, by omega, ⟨by rw [List.length_append, List.length_singleton]; omega, all_snoc hl.s hw⟩, Ev2.succ ?_⟩
        simp only [spec_l13Own.l1_eq, h0, rd_agg, rd_f0, rd_f1, hf, k0, stk, Int.reduceEq, Nat.reduceEqDiff, Int.reduceLE, Int.reduceLT]
        refine Ev2.bind hv ?_
        simp only [rd_agg, rd_f0, rd_f1, c1, hf2, m0, strs_snoc, stk, Int.reduceEq, Nat.reduceEqDiff, Int.reduceLE, Int.reduceLT]
        exact Ev2.now _
    · obtain ⟨m, hm, hf2⟩ := pick_ev hb (p := ((p + 1 : Nat) : Int)) (n := 20) (by omega) (by omega)
      have hq1 : ((p + 1 : Nat) : Int) + 1 = ((p + 2 : Nat) : Int) := by omega
      rw [hq1] at hf2
      by_cases m0 : m = 0
      · refine ⟨tenL, p + 2, by omega, ten_b 190, Ev2.succ ?_⟩
        simp only [spec_l13Own.l1_eq, h0, rd_agg, rd_f0, rd_f1, hf, k0, hf2, m0, ten_e, stk, Int.reduceEq, Nat.reduceEqDiff, Int.reduceLE, Int.reduceLT]
        exact Ev2.now _
      · refine ⟨l, p + 2, by omega, ⟨by have := hl.n; omega, hl.s⟩, Ev2.succ ?_⟩
        simp only [spec_l13Own.l1_eq, h0, rd_agg, rd_f0, rd_f1, hf, k0, hf2, m0, stk, Int.reduceEq, Nat.reduceEqDiff, Int.reduceLE, Int.reduceLT]
        exact Ev2.now _
  | succ c ih =>
    intro p l hp hl hlc
    have h0 : (0 : Int) < ((c + 1 : Nat) : Int) := by omega
    obtain ⟨w, q, h2, h3, h4, h5⟩ := word_ev hb p (by omega)
    have hil := insM_len w l
    obtain ⟨r, q2, a1, a2, a3⟩ := ih q (insM w l) (by omega) ⟨by have := hl.n; omega, fun x hx => by
      rcases (insM_mem w l x).1 hx with rfl | hx
      · omega
      · exact hl.s x hx⟩ (by omega)
    refine ⟨r, q2, by omega, a2, Ev2.succ ?_⟩
    have w1 : IntKind.i64.wrap (((c + 1 : Nat) : Int) - 1) = (c : Int) := nat_wrap (by omega) (by omega)
    simp only [spec_l13Own.l1_eq, h0, rd_agg, stk, Int.reduceEq, Nat.reduceEqDiff, Int.reduceLE, Int.reduceLT]
    refine Ev2.bind h5 ?_
    simp only [stk, Int.reduceEq, Nat.reduceEqDiff, Int.reduceLE, Int.reduceLT]
    refine Ev2.bind (put_ev l w (by omega)) ?_
    simp only [w1, rd_f1, stk, Int.reduceEq, Nat.reduceEqDiff, Int.reduceLE, Int.reduceLT]
    exact a3
theorem own_ev {b : PV} (hb : Code1 b) (p : Nat) (hp : p < 600000000) : ∃ (r : List ByteArray) (q : Nat), q ≤ p + 200 ∧ WordsB r 200 ∧ Ev (fun N => spec_l13Own.f N [rdP b (p : Int)]) [strsP r, rdP b (q : Int)] := by
  obtain ⟨c, hc, hf⟩ := pick_ev hb (p := (p : Int)) (n := 4) (by omega) (by omega)
  obtain ⟨c, rfl⟩ := Int.eq_ofNat_of_zero_le hc.1
  have hp1 : (p : Int) + 1 = ((p + 1 : Nat) : Int) := by omega
  rw [hp1] at hf
  have hnil : PV.list [] = strsP [] := rfl
  obtain ⟨r, q, h1, h2, h3⟩ : ∃ (r : List ByteArray) (q : Nat), q ≤ p + 200 ∧ WordsB r 200 ∧ Ev2 (fun N n => spec_l13Own.l0 N n (c : Int) b ((p + 1 : Nat) : Int) []) [strsP r, rdP b (q : Int)] := by
    cases c with
    | succ c =>
      have h0 : (0 : Int) < ((c + 1 : Nat) : Int) := by omega
      obtain ⟨w, q, h2, h3, h4, h5⟩ := word_ev hb (p + 1) (by omega)
      obtain ⟨r, q2, a1, a2, a3⟩ := own_l1 hb c q (insM w []) (by omega) ⟨by simp [insM], fun x hx => by
        rcases (insM_mem w [] x).1 hx with rfl | hx
        · omega
        · cases hx⟩ (by simp [insM]; omega)
      refine ⟨r, q2, by omega, a2, Ev2.succ ?_⟩
      have w1 : IntKind.i64.wrap (((c + 1 : Nat) : Int) - 1) = (c : Int) := nat_wrap (by omega) (by omega)
      simp only [spec_l13Own.l0_eq, h0, rd_agg, hnil, stk, Int.reduceEq, Nat.reduceEqDiff, Int.reduceLE, Int.reduceLT]
      refine Ev2.bind h5 ?_
      simp only [stk, Int.reduceEq, Nat.reduceEqDiff, Int.reduceLE, Int.reduceLT]
      refine Ev2.bind (put_ev [] w (by simp)) ?_
      simp only [w1, rd_f1, stk, Int.reduceEq, Nat.reduceEqDiff, Int.reduceLE, Int.reduceLT]
      exact a3
    | zero =>
      have h0 : ¬ (0 : Int) < ((0 : Nat) : Int) := by omega
      obtain ⟨k, hk, hf⟩ := pick_ev hb (p := ((p + 1 : Nat) : Int)) (n := 20) (by omega) (by omega)
      have hp1 : ((p + 1 : Nat) : Int) + 1 = ((p + 2 : Nat) : Int) := by omega
      rw [hp1] at hf
      by_cases k0 : k = 0
      · obtain ⟨w, q, hq, hw, hv⟩ := anyWord_ev hb (p + 2) (by omega)
        obtain ⟨m, hm, hf2⟩ := pick_ev hb (p := (q : Int)) (n := 20) (by omega) (by omega)
        have hq1 : (q : Int) + 1 = ((q + 1 : Nat) : Int) := by omega
        rw [hq1] at hf2
        have c1 : 0 + 1 ≤ 8796093022208 := by omega
        have e1 : PV.list [strP w] = strsP [w] := rfl
        by_cases m0 : m = 0
        · refine ⟨tenL, q + 1, by omega, ten_b 190, Ev2.succ ?_⟩
          simp only [spec_l13Own.l0_eq, h0, rd_agg, rd_f0, rd_f1, hf, k0, stk, Int.reduceEq, Nat.reduceEqDiff, Int.reduceLE, Int.reduceLT]
          refine Ev2.bind hv ?_
          simp only [rd_agg, rd_f0, rd_f1, List.length_nil, c1, hf2, m0, ten_e, stk, Int.reduceEq, Nat.reduceEqDiff, Int.reduceLE, Int.reduceLT]
          exact Ev2.now _
        · refine ⟨[w], q + 1, by omega, ⟨by simp, by simpa using hw⟩, Ev2.succ ?_⟩
          simp only [spec_l13Own.l0_eq, h0, rd_agg, rd_f0, rd_f1, hf, k0, stk, Int.reduceEq, Nat.reduceEqDiff, Int.reduceLE, Int.reduceLT]
          refine Ev2.bind hv ?_
          simp only [rd_agg, rd_f0, rd_f1, List.length_nil, List.nil_append, c1, hf2, m0, e1, stk, Int.reduceEq, Nat.reduceEqDiff, Int.reduceLE, Int.reduceLT]
          exact Ev2.now _
      · obtain ⟨m, hm, hf2⟩ := pick_ev hb (p := ((p + 2 : Nat) : Int)) (n := 20) (by omega) (by omega)
        have hq1 : ((p + 2 : Nat) : Int) + 1 = ((p + 3 : Nat) : Int) := by omega
        rw [hq1] at hf2
        by_cases m0 : m = 0
        · refine ⟨tenL, p + 3, by omega, ten_b 190, Ev2.succ ?_⟩
          simp only [spec_l13Own.l0_eq, h0, rd_agg, rd_f0, rd_f1, hf, k0, hf2, m0, ten_e, stk, Int.reduceEq, Nat.reduceEqDiff, Int.reduceLE, Int.reduceLT]
          exact Ev2.now _
        · refine ⟨[], p + 3, by omega, ⟨by simp, by simp⟩, Ev2.succ ?_⟩
          simp only [spec_l13Own.l0_eq, h0, rd_agg, rd_f0, rd_f1, hf, k0, hf2, m0, hnil, stk, Int.reduceEq, Nat.reduceEqDiff, Int.reduceLE, Int.reduceLT]
          exact Ev2.now _
  refine ⟨r, q, h1, h2, ?_⟩
  simp only [spec_l13Own.f_eq, rd_f0, rd_f1, rd_agg, hf, stk, Int.reduceEq, Nat.reduceEqDiff, Int.reduceLE, Int.reduceLT]
  exact h3.diag
structure Aff where
  flag : ByteArray
  front : Bool
  strip : ByteArray
  add : ByteArray
  cond : ByteArray
def affP (a : Aff) : PV := .agg [strP a.flag, boolP a.front, strP a.strip, strP a.add, strP a.cond]
def affsP (l : List Aff) : PV := .list (l.map affP)
theorem aff_f0 (a : Aff) : (affP a).fld 0 = strP a.flag := rfl
theorem aff_f1 (a : Aff) : (affP a).fld 1 = boolP a.front := rfl
theorem aff_f2 (a : Aff) : (affP a).fld 2 = strP a.strip := rfl
theorem aff_f3 (a : Aff) : (affP a).fld 3 = strP a.add := rfl
theorem aff_f4 (a : Aff) : (affP a).fld 4 = strP a.cond := rfl
theorem aff_agg (a : Aff) : PV.agg [PV.sc (.string a.flag), PV.sc (.bool a.front), PV.sc (.string a.strip), PV.sc (.string a.add), PV.sc (.string a.cond)] = affP a := rfl
theorem affs_len (l : List Aff) : (affsP l).items.length = l.length := by simp [affsP, PV.items]
theorem affs_elem {l pre rest : List Aff} {a : Aff} (h : l = pre ++ a :: rest) : (affsP l).elem pre.length = affP a := by
  subst h
  simp [affsP, PV.elem, PV.items, List.getD_eq_getElem?_getD]
structure Ent where
  stem : ByteArray
  flags : ByteArray
def entP (e : Ent) : PV := .agg [strP e.stem, strP e.flags]
def entsP (l : List Ent) : PV := .list (l.map entP)
theorem ent_f0 (e : Ent) : (entP e).fld 0 = strP e.stem := rfl
theorem ent_f1 (e : Ent) : (entP e).fld 1 = strP e.flags := rfl
theorem ent_agg (e : Ent) : PV.agg [PV.sc (.string e.stem), PV.sc (.string e.flags)] = entP e := rfl
theorem ents_len (l : List Ent) : (entsP l).items.length = l.length := by simp [entsP, PV.items]
theorem ents_elem {l pre rest : List Ent} {a : Ent} (h : l = pre ++ a :: rest) : (entsP l).elem pre.length = entP a := by
  subst h
  simp [entsP, PV.elem, PV.items, List.getD_eq_getElem?_getD]
def bookP (af : List Aff) (es : List Ent) : PV := .agg [affsP af, entsP es]
theorem book_f0 (af : List Aff) (es : List Ent) : (bookP af es).fld 0 = affsP af := rfl
theorem book_f1 (af : List Aff) (es : List Ent) : (bookP af es).fld 1 = entsP es := rfl
theorem book_agg (af : List Aff) (es : List Ent) : PV.agg [affsP af, entsP es] = bookP af es := rfl
def begB (s p : ByteArray) : Bool := decide (p.size ≤ s.size) && decide (s.extract 0 p.size = p)
def endB (s p : ByteArray) : Bool := decide (p.size ≤ s.size) && decide (s.extract (s.size - p.size) s.size = p)
theorem l2Begins_val (s p : ByteArray) (N : Nat) : spec_l2Begins.f N [strP s, strP p] = some [boolP (begB s p)] := by
  by_cases h : p.size ≤ s.size
  · have h1 : ((p.size : Int) ≤ (s.size : Int)) = True := eq_true (by omega)
    simp only [spec_l2Begins.f_eq, h1, begB, h, nn, stk, Int.reduceEq, Nat.reduceEqDiff, Int.reduceLE, Int.reduceLT]
  · have h1 : ((p.size : Int) ≤ (s.size : Int)) = False := eq_false (by omega)
    simp only [spec_l2Begins.f_eq, h1, begB, h, stk, Int.reduceEq, Nat.reduceEqDiff, Int.reduceLE, Int.reduceLT]
theorem l2Ends_val (s p : ByteArray) (hs : s.size ≤ 9223372036854775807) (N : Nat) : spec_l2Ends.f N [strP s, strP p] = some [boolP (endB s p)] := by
  by_cases h : p.size ≤ s.size
  · have h1 : ((p.size : Int) ≤ (s.size : Int)) = True := eq_true (by omega)
    have w1 : IntKind.i64.wrap ((s.size : Int) - (p.size : Int)) = ((s.size - p.size : Nat) : Int) := nat_wrap (by omega) (by omega)
    have h2 : (((s.size - p.size : Nat) : Int) ≤ (s.size : Int)) = True := eq_true (by omega)
    simp only [spec_l2Ends.f_eq, h1, h2, w1, endB, h, nn, stk, Int.reduceEq, Nat.reduceEqDiff, Int.reduceLE, Int.reduceLT]
  · have h1 : ((p.size : Int) ≤ (s.size : Int)) = False := eq_false (by omega)
    simp only [spec_l2Ends.f_eq, h1, endB, h, stk, Int.reduceEq, Nat.reduceEqDiff, Int.reduceLE, Int.reduceLT]
def hasFrom (flags flag : ByteArray) : Nat → Nat → Bool
  | 0, _ => false
  | d + 1, i => decide (flags.extract i (i + 1) = flag) || hasFrom flags flag d (i + 1)
def hasB (flags flag : ByteArray) : Bool := hasFrom flags flag flags.size 0
theorem l2Has_loop (flags flag : ByteArray) (hs : flags.size ≤ 1000000) : ∀ d i : Nat, i + d = flags.size → Ev2 (fun N n => spec_l2Has.l0 N n flags flag (i : Int)) [boolP (hasFrom flags flag d i)] := by
  intro d
  induction d with
  | zero =>
    intro i hi
    refine Ev2.succ ?_
    have h0 : ((i : Int) < (flags.size : Int)) = False := eq_false (by omega)
    simp only [spec_l2Has.l0_eq, h0, hasFrom, stk, Int.reduceEq, Nat.reduceEqDiff, Int.reduceLE, Int.reduceLT]
    exact Ev2.now _
  | succ d ih =>
    intro i hi
    refine Ev2.succ ?_
    have h0 : ((i : Int) < (flags.size : Int)) = True := eq_true (by omega)
    have w1 : IntKind.i64.wrap ((i : Int) + 1) = ((i + 1 : Nat) : Int) := nat_wrap (by omega) (by omega)
    have h1 : ((i : Int) ≤ ((i + 1 : Nat) : Int)) = True := eq_true (by omega)
    have h2 : (((i + 1 : Nat) : Int) ≤ (flags.size : Int)) = True := eq_true (by omega)
    by_cases he : flags.extract i (i + 1) = flag
    · simp only [spec_l2Has.l0_eq, h0, h1, h2, w1, nn, hasFrom, he, Bool.true_or, stk, Int.reduceEq, Nat.reduceEqDiff, Int.reduceLE, Int.reduceLT]
      exact Ev2.now _
    · simp only [spec_l2Has.l0_eq, h0, h1, h2, w1, nn, hasFrom, he, Bool.false_or, stk, Int.reduceEq, Nat.reduceEqDiff, Int.reduceLE, Int.reduceLT]
      exact ih (i + 1) (by omega)
theorem l2Has_ev (flags flag : ByteArray) (hs : flags.size ≤ 1000000) : Ev (fun N => spec_l2Has.f N [strP flags, strP flag]) [boolP (hasB flags flag)] := by
  simp only [spec_l2Has.f_eq, stk, Int.reduceEq, Nat.reduceEqDiff, Int.reduceLE, Int.reduceLT]
  exact (l2Has_loop flags flag hs flags.size 0 (by omega)).diag
def formB (a : Aff) (s : ByteArray) : ByteArray := if a.front = true then a.add ++ s.extract a.strip.size s.size else s.extract 0 (s.size - a.strip.size) ++ a.add
def fitB (a : Aff) (s : ByteArray) : Bool := if a.front = true then begB s a.cond else endB s a.cond
def doB (a : Aff) (s : ByteArray) : Option ByteArray := if fitB a s = true then (if isWord (formB a s) = true then some (formB a s) else none) else none
def doR (a : Aff) (s : ByteArray) : List PV := if fitB a s = true then [strP (formB a s), boolP (isWord (formB a s))] else [strP ⟨#[]⟩, boolP false]
structure AffG (a : Aff) : Prop where
  strip : a.strip.size ≤ a.cond.size
  add : a.add.size ≤ 1000000
theorem l2Do_ev {a : Aff} (hg : AffG a) (s : ByteArray) (hs : s.size ≤ 1000000) : Ev (fun N => spec_l2Do.f N [affP a, strP s]) (doR a s) := by
  have h1 := hg.strip
  have h2 := hg.add
  have hE := l2Ends_val s a.cond (by omega)
  have hB := l2Begins_val s a.cond
  simp only [strP] at hE hB
  cases hf : a.front with
  | true =>
    have e1 : fitB a s = begB s a.cond := by simp [fitB, hf]
    have e2 : formB a s = a.add ++ s.extract a.strip.size s.size := by simp [formB, hf]
    unfold doR
    rw [e1, e2]
    cases hb : begB s a.cond with
    | false =>
      simp only [spec_l2Do.f_eq, aff_f0, aff_f1, aff_f2, aff_f3, aff_f4, hf, hB, hb, stk, Int.reduceEq, Nat.reduceEqDiff, Int.reduceLE, Int.reduceLT]
      exact Ev.now _
    | true =>
      have hz : a.cond.size ≤ s.size := by
        simp only [begB, Bool.and_eq_true, decide_eq_true_eq] at hb; exact hb.1
      have c1 : ((a.strip.size : Int) ≤ (s.size : Int)) = True := eq_true (by omega)
      have c2 : (a.add.size + (s.extract a.strip.size s.size).size ≤ 9223372036854775807) = True := eq_true (by rw [ByteArray.size_extract]; omega)
      have hw := specWord_ev (a.add ++ s.extract a.strip.size s.size) (by rw [ByteArray.size_append, ByteArray.size_extract]; omega)
      simp only [spec_l2Do.f_eq, aff_f0, aff_f1, aff_f2, aff_f3, aff_f4, hf, hB, hb, c1, c2, nn, stk, Int.reduceEq, Nat.reduceEqDiff, Int.reduceLE, Int.reduceLT]
      simp only [strP] at hw
      refine Ev.bind hw ?_
      simp only [stk, Int.reduceEq, Nat.reduceEqDiff, Int.reduceLE, Int.reduceLT]
      exact Ev.now _
  | false =>
    have e1 : fitB a s = endB s a.cond := by simp [fitB, hf]
    have e2 : formB a s = s.extract 0 (s.size - a.strip.size) ++ a.add := by simp [formB, hf]
    unfold doR
    rw [e1, e2]
    cases hb : endB s a.cond with
    | false =>
      simp only [spec_l2Do.f_eq, aff_f0, aff_f1, aff_f2, aff_f3, aff_f4, hf, hE, hb, stk, Int.reduceEq, Nat.reduceEqDiff, Int.reduceLE, Int.reduceLT]
      exact Ev.now _
    | true =>
      have hz : a.cond.size ≤ s.size := by
        simp only [endB, Bool.and_eq_true, decide_eq_true_eq] at hb; exact hb.1
      have w1 : IntKind.i64.wrap ((s.size : Int) - (a.strip.size : Int)) = ((s.size - a.strip.size : Nat) : Int) := nat_wrap (by omega) (by omega)
      have c1 : (((s.size - a.strip.size : Nat) : Int) ≤ (s.size : Int)) = True := eq_true (by omega)
      have c2 : ((s.extract 0 (s.size - a.strip.size)).size + a.add.size ≤ 9223372036854775807) = True := eq_true (by rw [ByteArray.size_extract]; omega)
      have hw := specWord_ev (s.extract 0 (s.size - a.strip.size) ++ a.add) (by rw [ByteArray.size_append, ByteArray.size_extract]; omega)
      simp only [spec_l2Do.f_eq, aff_f0, aff_f1, aff_f2, aff_f3, aff_f4, hf, hE, hb, w1, c1, c2, nn, stk, Int.reduceEq, Nat.reduceEqDiff, Int.reduceLE, Int.reduceLT]
      simp only [strP] at hw
      refine Ev.bind hw ?_
      simp only [stk, Int.reduceEq, Nat.reduceEqDiff, Int.reduceLE, Int.reduceLT]
      exact Ev.now _
def putO (o : Option ByteArray) (acc : List ByteArray) : List ByteArray := match o with
  | some x => insM x acc
  | none => acc
def oneL (a : Aff) : List ByteArray → List ByteArray → List ByteArray
  | [], acc => acc
  | w :: r, acc => oneL a r (putO (doB a w) acc)
def oneA (flags : ByteArray) (front : Bool) (ws : List ByteArray) : List Aff → List ByteArray → List ByteArray
  | [], acc => acc
  | a :: r, acc => oneA flags front ws r (if a.front = front ∧ hasB flags a.flag = true then oneL a ws acc else acc)
theorem putO_len (o : Option ByteArray) (acc : List ByteArray) : (putO o acc).length ≤ acc.length + 1 := by
  cases o with
  | none => simp [putO]
  | some x => exact insM_len x acc
theorem oneL_len (a : Aff) : ∀ (ws acc : List ByteArray), (oneL a ws acc).length ≤ acc.length + ws.length
  | [], acc => by simp [oneL]
  | w :: r, acc => by
    have h1 := oneL_len a r (putO (doB a w) acc)
    have h2 := putO_len (doB a w) acc
    rw [oneL, List.length_cons]; omega
theorem oneA_len (flags : ByteArray) (front : Bool) (ws : List ByteArray) : ∀ (af : List Aff) (acc : List ByteArray), (oneA flags front ws af acc).length ≤ acc.length + ws.length * af.length
  | [], acc => by simp [oneA]
  | a :: r, acc => by
    have h2 := oneL_len a ws acc
    rw [oneA, List.length_cons, Nat.mul_add, Nat.mul_one]
    split
    · have h1 := oneA_len flags front ws r (oneL a ws acc); omega
    · have h1 := oneA_len flags front ws r acc; omega
theorem doB_word {a : Aff} {w x : ByteArray} (h : doB a w = some x) : isWord x = true := by
  unfold doB at h
  split at h
  · split at h
    · rename_i hw; injection h with h; rw [← h]; exact hw
    · cases h
  · cases h
theorem oneL_mem (a : Aff) : ∀ (ws acc : List ByteArray) (x : ByteArray), x ∈ oneL a ws acc ↔ x ∈ acc ∨ ∃ w ∈ ws, doB a w = some x
  | [], acc, x => by simp [oneL]
  | w :: r, acc, x => by
    rw [oneL, oneL_mem a r]
    have hp : x ∈ putO (doB a w) acc ↔ x ∈ acc ∨ doB a w = some x := by
      cases hd : doB a w with
      | none => simp [putO]
      | some y =>
        simp only [putO, insM_mem, Option.some.injEq]
        constructor
        · rintro (h | h)
          · exact .inr h.symm
          · exact .inl h
        · rintro (h | h)
          · exact .inr h
          · exact .inl h.symm
    rw [hp]
    constructor
    · rintro ((h | h) | ⟨v, hv, h⟩)
      · exact .inl h
      · exact .inr ⟨w, by simp, h⟩
      · exact .inr ⟨v, by simp [hv], h⟩
    · rintro (h | ⟨v, hv, h⟩)
      · exact .inl (.inl h)
      · rcases List.mem_cons.1 hv with rfl | hv
        · exact .inl (.inr h)
        · exact .inr ⟨v, hv, h⟩
theorem oneA_mem (flags : ByteArray) (front : Bool) (ws : List ByteArray) : ∀ (af : List Aff) (acc : List ByteArray) (x : ByteArray), x ∈ oneA flags front ws af acc ↔ x ∈ acc ∨ ∃ a ∈ af, (a.front = front ∧ hasB flags a.flag = true) ∧ ∃ w ∈ ws, doB a w = some x
  | [], acc, x => by simp [oneA]
  | a :: r, acc, x => by
    rw [oneA, oneA_mem flags front ws r]
    split
    · rename_i hc
      rw [oneL_mem]
      constructor
      · rintro ((h | h) | ⟨b, hb, h⟩)
        · exact .inl h
        · exact .inr ⟨a, by simp, hc, h⟩
        · exact .inr ⟨b, by simp [hb], h⟩
      · rintro (h | ⟨b, hb, h1, h2⟩)
        · exact .inl (.inl h)
        · rcases List.mem_cons.1 hb with rfl | hb
          · exact .inl (.inr h2)
          · exact .inr ⟨b, hb, h1, h2⟩
    · rename_i hc
      constructor
      · rintro (h | ⟨b, hb, h⟩)
        · exact .inl h
        · exact .inr ⟨b, by simp [hb], h⟩
      · rintro (h | ⟨b, hb, h1, h2⟩)
        · exact .inl h
        · rcases List.mem_cons.1 hb with rfl | hb
          · exact absurd h1 hc
          · exact .inr ⟨b, hb, h1, h2⟩
theorem strs_mapL (l : List ByteArray) : PV.list (l.map strP) = strsP l := rfl
theorem one_l2 {af : List Aff} {flags : ByteArray} {front : Bool} {ws : List ByteArray} (hws : ∀ x ∈ ws, x.size ≤ 1000000) (hwl : ws.length ≤ 1000000) {pa ra : List Aff} {a : Aff} (ha : af = pa ++ a :: ra) (hg : AffG a) (hal : af.length ≤ 1000000) {r : List PV} :
    ∀ (rest pre acc : List ByteArray), ws = pre ++ rest → acc.length + rest.length ≤ 100000000 → Ev2 (fun N m => spec_l2One.l3 N m (affsP af) flags front (strsP ws) ((pa ++ [a]).length : Int) (strsP (oneL a rest acc))) r →
    Ev3 (fun N m n => spec_l2One.l2 N m n (affsP af) flags front (strsP ws) (pa.length : Int) (pre.length : Int) (strsP acc)) r := by
  intro rest
  induction rest with
  | nil =>
    intro pre acc hp hl hc
    refine Ev3.succ ?_
    simp only [spec_l2One.l2_eq, at_end hp, at_next ha (by omega), stk, Int.reduceEq, Nat.reduceEqDiff, Int.reduceLE, Int.reduceLT]
    exact hc.outer
  | cons w rest ih =>
    intro pre acc hp hl hc
    have hw : w.size ≤ 1000000 := hws w (by rw [hp]; simp)
    have hln := insM_len
    refine Ev3.succ ?_
    simp only [spec_l2One.l2_eq, at_lt hp, affs_len, affs_elem ha, at_lt ha, aff_f0, aff_f1, aff_f2, aff_f3, aff_f4, aff_agg, at_getD hp, at_next hp (by omega), stk, Int.reduceEq, Nat.reduceEqDiff, Int.reduceLE, Int.reduceLT]
    refine Ev3.bind (l2Do_ev hg w hw) ?_
    rw [oneL] at hc
    have hd := l2Do_ev hg w hw
    cases hf : fitB a w with
    | false =>
      have e : doB a w = none := by simp [doB, hf]
      rw [e] at hc
      simp only [doR, hf, stk, Int.reduceEq, Nat.reduceEqDiff, Int.reduceLE, Int.reduceLT]
      exact ih _ acc (at_step hp) (by rw [List.length_cons] at hl; omega) hc
    | true =>
      cases hi : isWord (formB a w) with
      | false =>
        have e : doB a w = none := by simp [doB, hf, hi]
        rw [e] at hc
        simp only [doR, hf, hi, stk, Int.reduceEq, Nat.reduceEqDiff, Int.reduceLE, Int.reduceLT]
        exact ih _ acc (at_step hp) (by rw [List.length_cons] at hl; omega) hc
      | true =>
        have e : doB a w = some (formB a w) := by simp [doB, hf, hi]
        rw [e] at hc
        have h3 := hln (formB a w) acc
        rw [List.length_cons] at hl
        simp only [doR, hf, hi, stk, Int.reduceEq, Nat.reduceEqDiff, Int.reduceLE, Int.reduceLT]
        refine Ev3.bind (put_ev acc (formB a w) (by omega)) ?_
        simp only [stk, Int.reduceEq, Nat.reduceEqDiff, Int.reduceLE, Int.reduceLT]
        exact ih _ _ (at_step hp) (by omega) hc
theorem one_l3 {af : List Aff} {flags : ByteArray} {front : Bool} {ws : List ByteArray} (hfl : flags.size ≤ 1000000) (hws : ∀ x ∈ ws, x.size ≤ 1000000) (hwl : ws.length ≤ 1000000) (hg : ∀ a ∈ af, AffG a) (hal : af.length ≤ 1000000) :
    ∀ (ra pa : List Aff) (acc : List ByteArray), af = pa ++ ra → acc.length + ws.length * ra.length ≤ 100000000 →
    Ev2 (fun N n => spec_l2One.l3 N n (affsP af) flags front (strsP ws) (pa.length : Int) (strsP acc)) [strsP (oneA flags front ws ra acc)] := by
  intro ra
  induction ra with
  | nil =>
    intro pa acc ha hl
    refine Ev2.succ ?_
    simp only [spec_l2One.l3_eq, affs_len, at_end ha, oneA, stk, Int.reduceEq, Nat.reduceEqDiff, Int.reduceLE, Int.reduceLT]
    exact Ev2.now _
  | cons a ra ih =>
    intro pa acc ha hl
    rw [List.length_cons, Nat.mul_add, Nat.mul_one] at hl
    have hga := hg a (by rw [ha]; simp)
    have hlen := oneL_len a ws acc
    refine Ev2.succ ?_
    simp only [spec_l2One.l3_eq, affs_len, affs_elem ha, at_lt ha, aff_f0, aff_f1, oneA, stk, Int.reduceEq, Nat.reduceEqDiff, Int.reduceLE, Int.reduceLT]
    by_cases hf : a.front = front
    · simp only [hf, true_and, stk, Int.reduceEq, Nat.reduceEqDiff, Int.reduceLE, Int.reduceLT]
      refine Ev2.bind (l2Has_ev flags a.flag hfl) ?_
      cases hh : hasB flags a.flag with
      | false =>
        simp only [at_next ha (by omega), stk, Int.reduceEq, Nat.reduceEqDiff, Int.reduceLE, Int.reduceLT]
        exact ih _ acc (at_step ha) (by omega)
      | true =>
        simp only [stk, Int.reduceEq, Nat.reduceEqDiff, Int.reduceLE, Int.reduceLT]
        exact (one_l2 hws hwl ha hga hal ws [] acc rfl (by omega) (ih _ _ (at_step ha) (by omega))).start
    · have hne : (a.front != front) = true := by simp [hf]
      simp only [hf, hne, false_and, at_next ha (by omega), stk, Int.reduceEq, Nat.reduceEqDiff, Int.reduceLE, Int.reduceLT]
      exact ih _ acc (at_step ha) (by omega)
theorem one_l1 {af : List Aff} {flags : ByteArray} {front : Bool} {ws : List ByteArray} (hws : ∀ x ∈ ws, x.size ≤ 1000000) (hwl : ws.length ≤ 1000000) {pa ra : List Aff} {a : Aff} (ha : af = pa ++ a :: ra) (hg : AffG a) (hal : af.length ≤ 1000000) {r : List PV} :
    ∀ (rest pre acc : List ByteArray), ws = pre ++ rest → acc.length + rest.length ≤ 100000000 → Ev2 (fun N m => spec_l2One.l3 N m (affsP af) flags front (strsP ws) ((pa ++ [a]).length : Int) (strsP (oneL a rest acc))) r →
    Ev2 (fun N m => spec_l2One.l0 N m (affsP af) flags front (strsP ws) ((pa ++ [a]).length : Int) ((oneL a rest acc).map strP)) r →
    Ev3 (fun N m n => spec_l2One.l1 N m n (affsP af) flags front (strsP ws) (pa.length : Int) (pre.length : Int) (acc.map strP)) r := by
  intro rest
  induction rest with
  | nil =>
    intro pre acc hp hl hc hc0
    refine Ev3.succ ?_
    simp only [spec_l2One.l1_eq, at_end hp, at_next ha (by omega), stk, Int.reduceEq, Nat.reduceEqDiff, Int.reduceLE, Int.reduceLT]
    exact hc0.outer
  | cons w rest ih =>
    intro pre acc hp hl hc hc0
    have hw : w.size ≤ 1000000 := hws w (by rw [hp]; simp)
    have hln := insM_len
    refine Ev3.succ ?_
    simp only [spec_l2One.l1_eq, at_lt hp, affs_len, affs_elem ha, at_lt ha, aff_f0, aff_f1, aff_f2, aff_f3, aff_f4, aff_agg, at_getD hp, at_next hp (by omega), strs_mapL, stk, Int.reduceEq, Nat.reduceEqDiff, Int.reduceLE, Int.reduceLT]
    refine Ev3.bind (l2Do_ev hg w hw) ?_
    rw [oneL] at hc hc0
    cases hf : fitB a w with
    | false =>
      have e : doB a w = none := by simp [doB, hf]
      rw [e] at hc hc0
      simp only [doR, hf, stk, Int.reduceEq, Nat.reduceEqDiff, Int.reduceLE, Int.reduceLT]
      exact ih _ acc (at_step hp) (by rw [List.length_cons] at hl; omega) hc hc0
    | true =>
      cases hi : isWord (formB a w) with
      | false =>
        have e : doB a w = none := by simp [doB, hf, hi]
        rw [e] at hc hc0
        simp only [doR, hf, hi, stk, Int.reduceEq, Nat.reduceEqDiff, Int.reduceLE, Int.reduceLT]
        exact ih _ acc (at_step hp) (by rw [List.length_cons] at hl; omega) hc hc0
      | true =>
        have e : doB a w = some (formB a w) := by simp [doB, hf, hi]
        rw [e] at hc
        have h3 := hln (formB a w) acc
        rw [List.length_cons] at hl
        simp only [doR, hf, hi, stk, Int.reduceEq, Nat.reduceEqDiff, Int.reduceLE, Int.reduceLT]
        refine Ev3.bind (put_ev acc (formB a w) (by omega)) ?_
        simp only [stk, Int.reduceEq, Nat.reduceEqDiff, Int.reduceLE, Int.reduceLT]
        exact one_l2 hws hwl ha hg hal rest _ _ (at_step hp) (by omega) hc
theorem one_l0 {af : List Aff} {flags : ByteArray} {front : Bool} {ws : List ByteArray} (hfl : flags.size ≤ 1000000) (hws : ∀ x ∈ ws, x.size ≤ 1000000) (hwl : ws.length ≤ 1000000) (hg : ∀ a ∈ af, AffG a) (hal : af.length ≤ 1000000) :
    ∀ (ra pa : List Aff) (acc : List ByteArray), af = pa ++ ra → acc.length + ws.length * ra.length ≤ 100000000 →
    Ev2 (fun N n => spec_l2One.l0 N n (affsP af) flags front (strsP ws) (pa.length : Int) (acc.map strP)) [strsP (oneA flags front ws ra acc)] := by
  intro ra
  induction ra with
  | nil =>
    intro pa acc ha hl
    refine Ev2.succ ?_
    simp only [spec_l2One.l0_eq, affs_len, at_end ha, oneA, strs_mapL, stk, Int.reduceEq, Nat.reduceEqDiff, Int.reduceLE, Int.reduceLT]
    exact Ev2.now _
  | cons a ra ih =>
    intro pa acc ha hl
    rw [List.length_cons, Nat.mul_add, Nat.mul_one] at hl
    have hga := hg a (by rw [ha]; simp)
    have hlen := oneL_len a ws acc
    refine Ev2.succ ?_
    simp only [spec_l2One.l0_eq, affs_len, affs_elem ha, at_lt ha, aff_f0, aff_f1, oneA, stk, Int.reduceEq, Nat.reduceEqDiff, Int.reduceLE, Int.reduceLT]
    by_cases hf : a.front = front
    · simp only [hf, true_and, stk, Int.reduceEq, Nat.reduceEqDiff, Int.reduceLE, Int.reduceLT]
      refine Ev2.bind (l2Has_ev flags a.flag hfl) ?_
      cases hh : hasB flags a.flag with
      | false =>
        simp only [at_next ha (by omega), stk, Int.reduceEq, Nat.reduceEqDiff, Int.reduceLE, Int.reduceLT]
        exact ih _ acc (at_step ha) (by omega)
      | true =>
        simp only [stk, Int.reduceEq, Nat.reduceEqDiff, Int.reduceLE, Int.reduceLT]
        exact (one_l1 hws hwl ha hga hal ws [] acc rfl (by omega) (one_l3 hfl hws hwl hg hal ra _ _ (at_step ha) (by omega)) (ih _ _ (at_step ha) (by omega))).start
    · have hne : (a.front != front) = true := by simp [hf]
      simp only [hf, hne, false_and, at_next ha (by omega), stk, Int.reduceEq, Nat.reduceEqDiff, Int.reduceLE, Int.reduceLT]
      exact ih _ acc (at_step ha) (by omega)
theorem one_ev {af : List Aff} {flags : ByteArray} {front : Bool} {ws : List ByteArray} (hfl : flags.size ≤ 1000000) (hws : ∀ x ∈ ws, x.size ≤ 1000000) (hwl : ws.length ≤ 10000) (hg : ∀ a ∈ af, AffG a) (hal : af.length ≤ 1000) :
    Ev (fun N => spec_l2One.f N [affsP af, strP flags, boolP front, strsP ws]) [strsP (oneA flags front ws af ws)] := by
  have c1 : (([] : List PV).length + ws.length ≤ 8796093022208) = True := eq_true (by simp; omega)
  have e : ([] : List PV) ++ (strsP ws).items = ws.map strP := rfl
  have hm : ws.length * af.length ≤ 10000 * 1000 := Nat.mul_le_mul hwl hal
  simp only [spec_l2One.f_eq, strs_len, c1, e, stk, Int.reduceEq, Nat.reduceEqDiff, Int.reduceLE, Int.reduceLT]
  exact (one_l0 hfl hws (by omega) hg (by omega) af [] ws rfl (by omega)).diag
def formsB (af : List Aff) (e : Ent) : List ByteArray := oneA e.flags true (oneA e.flags false [e.stem] af [e.stem]) af (oneA e.flags false [e.stem] af [e.stem])
theorem word_size {s : ByteArray} (h : isWord s = true) : s.size ≤ 12 := by
  simp only [isWord, Bool.and_eq_true, decide_eq_true_eq] at h; exact h.1.2
theorem formsB_mem {af : List Aff} {e : Ent} {x : ByteArray} (h : x ∈ formsB af e) : x = e.stem ∨ isWord x = true := by
  rw [formsB, oneA_mem] at h
  rcases h with h | ⟨a, _, _, w, _, hd⟩
  · rw [oneA_mem] at h
    rcases h with h | ⟨a, _, _, w, _, hd⟩
    · exact .inl (List.mem_singleton.1 h)
    · exact .inr (doB_word hd)
  · exact .inr (doB_word hd)
theorem formsB_len (af : List Aff) (e : Ent) : (formsB af e).length ≤ (1 + af.length) * (1 + af.length) := by
  have h1 := oneA_len e.flags false [e.stem] af [e.stem]
  have h2 := oneA_len e.flags true (oneA e.flags false [e.stem] af [e.stem]) af (oneA e.flags false [e.stem] af [e.stem])
  simp only [List.length_singleton, Nat.one_mul] at h1
  have h3 : (oneA e.flags false [e.stem] af [e.stem]).length * af.length ≤ (1 + af.length) * af.length := Nat.mul_le_mul_right _ h1
  have h4 : (1 + af.length) * (1 + af.length) = (1 + af.length) + (1 + af.length) * af.length := by rw [Nat.mul_add, Nat.mul_one]
  unfold formsB
  omega
theorem forms_ev {af : List Aff} (hg : ∀ a ∈ af, AffG a) (hal : af.length ≤ 100) (e : Ent) (hs : e.stem.size ≤ 1000000) (hf : e.flags.size ≤ 1000000) :
    Ev (fun N => spec_l2Forms.f N [affsP af, entP e]) [strsP (formsB af e)] := by
  have h1 := oneA_len e.flags false [e.stem] af [e.stem]
  simp only [List.length_singleton, Nat.one_mul] at h1
  have es : PV.list [PV.sc (.string e.stem)] = strsP [e.stem] := rfl
  simp only [spec_l2Forms.f_eq, ent_f0, ent_f1, es, stk, Int.reduceEq, Nat.reduceEqDiff, Int.reduceLE, Int.reduceLT]
  refine Ev.bind (one_ev (front := false) hf (by simpa using hs) (by simp) hg (by omega)) ?_
  simp only [stk, Int.reduceEq, Nat.reduceEqDiff, Int.reduceLE, Int.reduceLT]
  refine Ev.bind (one_ev (front := true) hf (fun x hx => ?_) (by omega) hg (by omega)) ?_
  · rw [oneA_mem] at hx
    rcases hx with hx | ⟨a, _, _, w, _, hd⟩
    · rw [List.mem_singleton.1 hx]; exact hs
    · have := word_size (doB_word hd); omega
  · simp only [stk, Int.reduceEq, Nat.reduceEqDiff, Int.reduceLE, Int.reduceLT]
    exact Ev.now _
def putL : List ByteArray → List ByteArray → List ByteArray
  | [], acc => acc
  | x :: r, acc => putL r (insM x acc)
theorem putL_mem : ∀ (l acc : List ByteArray) (x : ByteArray), x ∈ putL l acc ↔ x ∈ acc ∨ x ∈ l
  | [], acc, x => by simp [putL]
  | y :: r, acc, x => by
    rw [putL, putL_mem r, insM_mem, List.mem_cons]
    constructor
    · rintro ((h | h) | h)
      · exact .inr (.inl h)
      · exact .inl h
      · exact .inr (.inr h)
    · rintro (h | h | h)
      · exact .inl (.inr h)
      · exact .inl (.inl h)
      · exact .inr h
theorem putL_len : ∀ (l acc : List ByteArray), (putL l acc).length ≤ acc.length + l.length
  | [], acc => by simp [putL]
  | y :: r, acc => by
    have h1 := putL_len r (insM y acc)
    have h2 := insM_len y acc
    rw [putL, List.length_cons]; omega
def wordsL2 (af : List Aff) : List Ent → List ByteArray → List ByteArray
  | [], acc => acc
  | e :: r, acc => wordsL2 af r (putL (formsB af e) acc)
def bookW (af : List Aff) (es : List Ent) : List ByteArray := wordsL2 af es []
theorem wordsL2_mem (af : List Aff) : ∀ (es : List Ent) (acc : List ByteArray) (x : ByteArray), x ∈ wordsL2 af es acc ↔ x ∈ acc ∨ ∃ e ∈ es, x ∈ formsB af e
  | [], acc, x => by simp [wordsL2]
  | e :: r, acc, x => by
    rw [wordsL2, wordsL2_mem af r, putL_mem]
    constructor
    · rintro ((h | h) | ⟨f, hf, h⟩)
      · exact .inl h
      · exact .inr ⟨e, by simp, h⟩
      · exact .inr ⟨f, by simp [hf], h⟩
    · rintro (h | ⟨f, hf, h⟩)
      · exact .inl (.inl h)
      · rcases List.mem_cons.1 hf with rfl | hf
        · exact .inl (.inr h)
        · exact .inr ⟨f, hf, h⟩
theorem wordsL2_len (af : List Aff) : ∀ (es : List Ent) (acc : List ByteArray), (wordsL2 af es acc).length ≤ acc.length + es.length * ((1 + af.length) * (1 + af.length))
  | [], acc => by simp [wordsL2]
  | e :: r, acc => by
    have h1 := wordsL2_len af r (putL (formsB af e) acc)
    have h2 := putL_len (formsB af e) acc
    have h3 := formsB_len af e
    rw [wordsL2, List.length_cons, Nat.add_mul, Nat.one_mul]; omega
theorem words_l2 {af : List Aff} {es : List Ent} {fs : List ByteArray} (hfl : fs.length ≤ 1000000) {pe re : List Ent} {e : Ent} (he : es = pe ++ e :: re) (hel : es.length ≤ 1000000) {r : List PV} :
    ∀ (rest pre acc : List ByteArray), fs = pre ++ rest → acc.length + rest.length ≤ 100000000 → Ev2 (fun N m => spec_l2Words.l3 N m ((pe ++ [e]).length : Int) (affsP af) (entsP es) (strsP (putL rest acc))) r →
    Ev3 (fun N m n => spec_l2Words.l2 N m n (pe.length : Int) (pre.length : Int) (affsP af) (entsP es) (strsP acc) (strsP fs)) r := by
  intro rest
  induction rest with
  | nil =>
    intro pre acc hp hl hc
    refine Ev3.succ ?_
    simp only [spec_l2Words.l2_eq, at_end hp, at_next he (by omega), stk, Int.reduceEq, Nat.reduceEqDiff, Int.reduceLE, Int.reduceLT]
    exact hc.outer
  | cons w rest ih =>
    intro pre acc hp hl hc
    have h3 := insM_len w acc
    rw [List.length_cons] at hl
    refine Ev3.succ ?_
    simp only [spec_l2Words.l2_eq, at_lt hp, at_getD hp, at_next hp (by omega), stk, Int.reduceEq, Nat.reduceEqDiff, Int.reduceLE, Int.reduceLT]
    refine Ev3.bind (put_ev acc w (by omega)) ?_
    simp only [stk, Int.reduceEq, Nat.reduceEqDiff, Int.reduceLE, Int.reduceLT]
    exact ih _ _ (at_step hp) (by omega) hc
theorem words_l3 {af : List Aff} {es : List Ent} (hg : ∀ a ∈ af, AffG a) (hal : af.length ≤ 100) (hes : ∀ e ∈ es, e.stem.size ≤ 1000000 ∧ e.flags.size ≤ 1000000) (hel : es.length ≤ 1000) :
    ∀ (re pe : List Ent) (acc : List ByteArray), es = pe ++ re → acc.length + re.length * 12000 ≤ 50000000 →
    Ev2 (fun N n => spec_l2Words.l3 N n (pe.length : Int) (affsP af) (entsP es) (strsP acc)) [strsP (wordsL2 af re acc)] := by
  intro re
  induction re with
  | nil =>
    intro pe acc he hl
    refine Ev2.succ ?_
    simp only [spec_l2Words.l3_eq, ents_len, at_end he, wordsL2, stk, Int.reduceEq, Nat.reduceEqDiff, Int.reduceLE, Int.reduceLT]
    exact Ev2.now _
  | cons e re ih =>
    intro pe acc he hl
    obtain ⟨z1, z2⟩ := hes e (by rw [he]; simp)
    have h3 := formsB_len af e
    have h4 : (1 + af.length) * (1 + af.length) ≤ 101 * 101 := Nat.mul_le_mul (by omega) (by omega)
    have h5 := putL_len (formsB af e) acc
    rw [List.length_cons] at hl
    refine Ev2.succ ?_
    simp only [spec_l2Words.l3_eq, ents_len, ents_elem he, at_lt he, ent_f0, ent_f1, ent_agg, wordsL2, stk, Int.reduceEq, Nat.reduceEqDiff, Int.reduceLE, Int.reduceLT]
    refine Ev2.bind (forms_ev hg hal e z1 z2) ?_
    simp only [stk, Int.reduceEq, Nat.reduceEqDiff, Int.reduceLE, Int.reduceLT]
    exact (words_l2 (fs := formsB af e) (by omega) he (by omega) (formsB af e) [] acc rfl (by omega) (ih _ _ (at_step he) (by omega))).start
theorem words_l1 {af : List Aff} {es : List Ent} {fs : List ByteArray} (hfl : fs.length ≤ 1000000) {pe re : List Ent} {e : Ent} (he : es = pe ++ e :: re) (hel : es.length ≤ 1000000) {r : List PV} (acc : List ByteArray) (hl : acc.length + fs.length ≤ 100000000)
    (hc : Ev2 (fun N m => spec_l2Words.l3 N m ((pe ++ [e]).length : Int) (affsP af) (entsP es) (strsP (putL fs acc))) r) (hc0 : Ev2 (fun N m => spec_l2Words.l0 N m ((pe ++ [e]).length : Int) (affsP af) (entsP es) ((putL fs acc).map strP)) r) :
    Ev3 (fun N m n => spec_l2Words.l1 N m n (pe.length : Int) 0 (affsP af) (entsP es) (acc.map strP) (strsP fs)) r := by
  cases fs with
  | nil =>
    refine Ev3.succ ?_
    have h0 : ((0 : Int) < (([] : List ByteArray).length : Int)) = False := eq_false (by simp)
    simp only [spec_l2Words.l1_eq, strs_len, h0, at_next he (by omega), stk, Int.reduceEq, Nat.reduceEqDiff, Int.reduceLE, Int.reduceLT]
    exact hc0.outer
  | cons w rest =>
    have h3 := insM_len w acc
    rw [List.length_cons] at hl
    have hp : w :: rest = [] ++ w :: rest := rfl
    have e0 : (0 : Int) = (([] : List ByteArray).length : Int) := rfl
    have e0' : (0 : Int).toNat = ([] : List ByteArray).length := rfl
    refine Ev3.succ ?_
    rw [e0]
    simp only [spec_l2Words.l1_eq, at_lt hp, at_getD hp, at_next hp (by omega), strs_mapL, stk, Int.reduceEq, Nat.reduceEqDiff, Int.reduceLE, Int.reduceLT]
    refine Ev3.bind (put_ev acc w (by omega)) ?_
    simp only [stk, Int.reduceEq, Nat.reduceEqDiff, Int.reduceLE, Int.reduceLT]
    exact words_l2 hfl he hel rest _ _ (at_step hp) (by omega) hc
theorem words_l0 {af : List Aff} {es : List Ent} (hg : ∀ a ∈ af, AffG a) (hal : af.length ≤ 100) (hes : ∀ e ∈ es, e.stem.size ≤ 1000000 ∧ e.flags.size ≤ 1000000) (hel : es.length ≤ 1000) :
    ∀ (re pe : List Ent) (acc : List ByteArray), es = pe ++ re → acc.length + re.length * 12000 ≤ 50000000 →
    Ev2 (fun N n => spec_l2Words.l0 N n (pe.length : Int) (affsP af) (entsP es) (acc.map strP)) [strsP (wordsL2 af re acc)] := by
  intro re
  induction re with
  | nil =>
    intro pe acc he hl
    refine Ev2.succ ?_
    simp only [spec_l2Words.l0_eq, ents_len, at_end he, wordsL2, strs_mapL, stk, Int.reduceEq, Nat.reduceEqDiff, Int.reduceLE, Int.reduceLT]
    exact Ev2.now _
  | cons e re ih =>
    intro pe acc he hl
    obtain ⟨z1, z2⟩ := hes e (by rw [he]; simp)
    have h3 := formsB_len af e
    have h4 : (1 + af.length) * (1 + af.length) ≤ 101 * 101 := Nat.mul_le_mul (by omega) (by omega)
    have h5 := putL_len (formsB af e) acc
    rw [List.length_cons] at hl
    refine Ev2.succ ?_
    simp only [spec_l2Words.l0_eq, ents_len, ents_elem he, at_lt he, ent_f0, ent_f1, ent_agg, wordsL2, stk, Int.reduceEq, Nat.reduceEqDiff, Int.reduceLE, Int.reduceLT]
    refine Ev2.bind (forms_ev hg hal e z1 z2) ?_
    simp only [stk, Int.reduceEq, Nat.reduceEqDiff, Int.reduceLE, Int.reduceLT]
    exact (words_l1 (fs := formsB af e) (by omega) he (by omega) acc (by omega) (words_l3 hg hal hes hel re _ _ (at_step he) (by omega)) (ih _ _ (at_step he) (by omega))).start
theorem bookW_ev {af : List Aff} {es : List Ent} (hg : ∀ a ∈ af, AffG a) (hal : af.length ≤ 100) (hes : ∀ e ∈ es, e.stem.size ≤ 1000000 ∧ e.flags.size ≤ 1000000) (hel : es.length ≤ 1000) :
    Ev (fun N => spec_l2Words.f N [bookP af es]) [strsP (bookW af es)] := by
  simp only [spec_l2Words.f_eq, book_f0, book_f1]
  exact (words_l0 hg hal hes hel es [] [] rfl (by simp; omega)).diag
theorem tru {p : Prop} (h : p) : p = True := eq_true h
theorem fls {p : Prop} (h : ¬ p) : p = False := eq_false h
def flagB (s : ByteArray) : Bool := decide ((s.size : Int) = 1) && (decide (65 ≤ bt s 0) && decide (bt s 0 ≤ 90))
def partOk (s : ByteArray) : Bool := lowB (bytesOf s) && decide ((s.size : Int) ≤ 4)
theorem l2Flag_val (s : ByteArray) (N : Nat) : spec_l2Flag.f N [PV.sc (.string s)] = some [boolP (flagB s)] := by
  by_cases h : (s.size : Int) = 1
  · by_cases h1 : 65 ≤ bt s 0
    · simp only [spec_l2Flag.f_eq, flagB, h, h1, Nat.le_refl, stk, Int.reduceEq, Nat.reduceEqDiff, Int.reduceLE, Int.reduceLT] <;> rfl
    · simp only [spec_l2Flag.f_eq, flagB, h, h1, Nat.le_refl, stk, Int.reduceEq, Nat.reduceEqDiff, Int.reduceLE, Int.reduceLT]
  · simp only [spec_l2Flag.f_eq, flagB, h, stk, Int.reduceEq, Nat.reduceEqDiff, Int.reduceLE, Int.reduceLT]
def affB (a : Aff) : Bool := flagB a.flag && (partOk a.strip && (partOk a.add && (partOk a.cond && (if a.front = true then begB a.cond a.strip else endB a.cond a.strip))))
theorem affB_facts {a : Aff} (h : affB a = true) : AffG a ∧ a.flag.size = 1 ∧ a.strip.size ≤ 4 ∧ a.add.size ≤ 4 ∧ a.cond.size ≤ 4 := by
  simp only [affB, flagB, partOk, Bool.and_eq_true, decide_eq_true_eq] at h
  obtain ⟨⟨h1, _⟩, ⟨_, h2⟩, ⟨_, h3⟩, ⟨_, h4⟩, h5⟩ := h
  have h6 : a.strip.size ≤ a.cond.size := by
    split at h5
    · simp only [begB, Bool.and_eq_true, decide_eq_true_eq] at h5; exact h5.1
    · simp only [endB, Bool.and_eq_true, decide_eq_true_eq] at h5; exact h5.1
  exact ⟨⟨h6, by omega⟩, by omega, by omega, by omega, by omega⟩
structure AffS (a : Aff) : Prop where
  strip : a.strip.size ≤ 1000000000
  add : a.add.size ≤ 1000000000
  cond : a.cond.size ≤ 1000000000
  flag : a.flag.size ≤ 1000000000
theorem specAffixOk_ev (a : Aff) (hs : AffS a) : Ev (fun N => spec_AffixOk.f N [affP a]) [boolP (affB a)] := by
  have z1 := hs.strip; have z2 := hs.add; have z3 := hs.cond
  have e1 := specLetters_ev a.strip (by omega) 4
  have e2 := specLetters_ev a.add (by omega) 4
  have e3 := specLetters_ev a.cond (by omega) 4
  have e4 := l2Begins_val a.cond a.strip
  have e5 := l2Ends_val a.cond a.strip (by omega)
  simp only [strP] at e1 e2 e3 e4 e5
  simp only [spec_AffixOk.f_eq, aff_f0, aff_f1, aff_f2, aff_f3, aff_f4, l2Flag_val, stk, Int.reduceEq, Nat.reduceEqDiff, Int.reduceLE, Int.reduceLT]
  cases h0 : flagB a.flag with
  | false => simp only [affB, h0, stk, Int.reduceEq, Nat.reduceEqDiff, Int.reduceLE, Int.reduceLT]; exact Ev.now _
  | true =>
    simp only [stk, Int.reduceEq, Nat.reduceEqDiff, Int.reduceLE, Int.reduceLT]
    refine Ev.bind e1 ?_
    cases h1 : (lowB (bytesOf a.strip) && decide ((a.strip.size : Int) ≤ 4)) with
    | false => simp only [affB, partOk, h0, h1, stk, Int.reduceEq, Nat.reduceEqDiff, Int.reduceLE, Int.reduceLT]; exact Ev.now _
    | true =>
      simp only [stk, Int.reduceEq, Nat.reduceEqDiff, Int.reduceLE, Int.reduceLT]
      refine Ev.bind e2 ?_
      cases h2 : (lowB (bytesOf a.add) && decide ((a.add.size : Int) ≤ 4)) with
      | false => simp only [affB, partOk, h0, h1, h2, stk, Int.reduceEq, Nat.reduceEqDiff, Int.reduceLE, Int.reduceLT]; exact Ev.now _
      | true =>
        simp only [stk, Int.reduceEq, Nat.reduceEqDiff, Int.reduceLE, Int.reduceLT]
        refine Ev.bind e3 ?_
        cases h3 : (lowB (bytesOf a.cond) && decide ((a.cond.size : Int) ≤ 4)) with
        | false => simp only [affB, partOk, h0, h1, h2, h3, stk, Int.reduceEq, Nat.reduceEqDiff, Int.reduceLE, Int.reduceLT]; exact Ev.now _
        | true =>
          rcases Bool.eq_false_or_eq_true a.front with hf | hf
          · simp only [affB, partOk, h0, h1, h2, h3, hf, e4, stk, Int.reduceEq, Nat.reduceEqDiff, Int.reduceLE, Int.reduceLT]; exact Ev.now _
          · simp only [affB, partOk, h0, h1, h2, h3, hf, e5, stk, Int.reduceEq, Nat.reduceEqDiff, Int.reduceLE, Int.reduceLT]; exact Ev.now _
def eqA (x y : Aff) : Bool := decide (x.flag = y.flag) && ((x.front == y.front) && (decide (x.strip = y.strip) && (decide (x.add = y.add) && decide (x.cond = y.cond))))
theorem eqA_fold (x y : Aff) : (decide (x.flag = y.flag) && ((x.front == y.front) && (decide (x.strip = y.strip) && (decide (x.add = y.add) && decide (x.cond = y.cond))))) = eqA x y := rfl
theorem eqA_iff (x y : Aff) : eqA x y = true ↔ x = y := by
  cases x; cases y
  simp [eqA, and_assoc]
theorem eqA_symm (x y : Aff) : eqA x y = eqA y x := by
  have : (eqA x y = true) ↔ (eqA y x = true) := by rw [eqA_iff, eqA_iff]; exact eq_comm
  cases h1 : eqA x y <;> cases h2 : eqA y x <;> simp_all
def hasA : List Aff → Aff → Bool
  | [], _ => false
  | x :: r, a => eqA x a || hasA r a
def affsL : List Aff → List Aff → Bool
  | _, [] => true
  | pre, a :: r => affB a && (!hasA pre a && affsL (pre ++ [a]) r)
def affsB (l : List Aff) : Bool := affsL [] l && decide ((l.length : Int) ≤ 8)
theorem affsL_all : ∀ {l pre : List Aff}, affsL pre l = true → ∀ a ∈ l, affB a = true
  | [], _, _, _, h => by cases h
  | a :: r, pre, h, x, hx => by
    simp only [affsL, Bool.and_eq_true] at h
    rcases List.mem_cons.1 hx with rfl | hx
    · exact h.1
    · exact affsL_all h.2.2 x hx
theorem specAffs_l1 {af pre ra : List Aff} {a : Aff} (ha : af = pre ++ a :: ra) (hal : af.length ≤ 1000000000) {b : Bool} (hc : Ev2 (fun N m => spec_l2Affixes.l0 N m (affsP af) ((pre ++ [a]).length : Int)) [boolP b]) :
    ∀ (rest don : List Aff), pre = don ++ rest → Ev3 (fun N m n => spec_l2Affixes.l1 N m n (affsP af) (pre.length : Int) (don.length : Int)) [boolP (!hasA rest a && b)] := by
  intro rest
  induction rest with
  | nil =>
    intro don hd
    have h0 : ((don.length : Int) < (pre.length : Int)) = False := fls (by rw [hd]; simp)
    refine Ev3.succ ?_
    simp only [spec_l2Affixes.l1_eq, h0, at_next ha (by omega), hasA, stk, Int.reduceEq, Nat.reduceEqDiff, Int.reduceLE, Int.reduceLT]
    exact hc.outer
  | cons x rest ih =>
    intro don hd
    have hd2 : af = don ++ x :: (rest ++ a :: ra) := by rw [ha, hd]; simp
    have h0 : ((don.length : Int) < (pre.length : Int)) = True := tru (by rw [hd]; simp; omega)
    refine Ev3.succ ?_
    cases he : eqA x a with
    | true =>
      simp only [spec_l2Affixes.l1_eq, h0, affs_len, affs_elem ha, affs_elem hd2, at_lt ha, at_lt hd2, aff_f0, aff_f1, aff_f2, aff_f3, aff_f4, hasA, stk, Int.reduceEq, Nat.reduceEqDiff, Int.reduceLE, Int.reduceLT]
      simp only [eqA_fold, he, stk, Int.reduceEq, Nat.reduceEqDiff, Int.reduceLE, Int.reduceLT]
      exact Ev3.now _
    | false =>
      simp only [spec_l2Affixes.l1_eq, h0, affs_len, affs_elem ha, affs_elem hd2, at_lt ha, at_lt hd2, aff_f0, aff_f1, aff_f2, aff_f3, aff_f4, hasA, stk, Int.reduceEq, Nat.reduceEqDiff, Int.reduceLE, Int.reduceLT]
      simp only [eqA_fold, he, Bool.false_or, at_next hd2 (by omega), stk, Int.reduceEq, Nat.reduceEqDiff, Int.reduceLE, Int.reduceLT]
      exact ih _ (at_step hd)
theorem specAffs_l0 {af : List Aff} (hal : af.length ≤ 1000000000) (hs : ∀ a ∈ af, AffS a) : ∀ (ra pre : List Aff), af = pre ++ ra →
    Ev2 (fun N n => spec_l2Affixes.l0 N n (affsP af) (pre.length : Int)) [boolP (affsL pre ra && decide ((af.length : Int) ≤ 8))] := by
  intro ra
  induction ra with
  | nil =>
    intro pre ha
    refine Ev2.succ ?_
    simp only [spec_l2Affixes.l0_eq, affs_len, at_end ha, affsL, stk, Int.reduceEq, Nat.reduceEqDiff, Int.reduceLE, Int.reduceLT]
    exact Ev2.now _
  | cons a ra ih =>
    intro pre ha
    refine Ev2.succ ?_
    simp only [spec_l2Affixes.l0_eq, affs_len, affs_elem ha, at_lt ha, aff_f0, aff_f1, aff_f2, aff_f3, aff_f4, aff_agg, stk, Int.reduceEq, Nat.reduceEqDiff, Int.reduceLE, Int.reduceLT]
    refine Ev2.bind (specAffixOk_ev a (hs a (by rw [ha]; simp))) ?_
    cases h0 : affB a with
    | false => simp only [affsL, h0, stk, Int.reduceEq, Nat.reduceEqDiff, Int.reduceLE, Int.reduceLT]; exact Ev2.now _
    | true =>
      have := (specAffs_l1 ha hal (ih _ (at_step ha)) pre [] rfl).start
      simp only [affsL, h0, stk, Int.reduceEq, Nat.reduceEqDiff, Int.reduceLE, Int.reduceLT]
      rw [Bool.and_assoc]
      exact this
theorem specAffs_ev (af : List Aff) (hal : af.length ≤ 1000000000) (hs : ∀ a ∈ af, AffS a) : Ev (fun N => spec_l2Affixes.f N [affsP af]) [boolP (affsB af)] := by
  simp only [spec_l2Affixes.f_eq]
  exact (specAffs_l0 hal hs af [] rfl).diag
theorem bytes_ext (s : ByteArray) (i j : Nat) : bytesOf (s.extract i j) = ((bytesOf s).drop i).take (j - i) := by
  simp [bytesOf, ByteArray.data_extract, List.extract, List.map_take, List.map_drop]
theorem flag_at {s : ByteArray} {pre rest : List Int} {c : Int} (hp : bytesOf s = pre ++ c :: rest) : flagB (s.extract pre.length (pre.length + 1)) = (decide (65 ≤ c) && decide (c ≤ 90)) := by
  have hz : pre.length + 1 ≤ s.size := by have := congrArg List.length hp; rw [bytesOf_len] at this; simp at this; omega
  have h1 : (s.extract pre.length (pre.length + 1)).size = 1 := by rw [ByteArray.size_extract]; omega
  have h2 : bt (s.extract pre.length (pre.length + 1)) 0 = c := by
    rw [bt_bytes, bytes_ext, hp, List.drop_left' rfl]; simp
  unfold flagB
  rw [h1, h2]; rfl
def AheadJ (pre : List Int) (p : Option Int) : Prop := (pre = [] ∧ p = none) ∨ ∃ pre' q, pre = pre' ++ [q] ∧ p = some q
theorem prev_bytes {s : ByteArray} {pre' rest : List Int} {q : Int} (hp : bytesOf s = (pre' ++ [q]) ++ rest) (hx : s.size ≤ 1000000000) :
    IntKind.i64.wrap (((pre' ++ [q]).length : Int) - 1) = (pre'.length : Int) ∧ (pre'.length : Int) < (s.size : Int) ∧ bt s pre'.length = q ∧ (0 : Int) < ((pre' ++ [q]).length : Int) := by
  have hz := congrArg List.length hp
  rw [bytesOf_len] at hz
  simp only [List.length_append, List.length_cons, List.length_nil] at hz ⊢
  refine ⟨?_, by omega, ?_, by omega⟩
  · rw [wrap_id (by omega) (by omega)]; omega
  · rw [bt_bytes, hp]; simp
def upL : Option Int → List Int → Bool
  | _, [] => true
  | none, c :: r => (decide (65 ≤ c) && decide (c ≤ 90)) && upL (some c) r
  | some q, c :: r => (decide (65 ≤ c) && decide (c ≤ 90)) && (decide (q < c) && upL (some c) r)
def entB (e : Ent) : Bool := upL none (bytesOf e.flags) && (isWord e.stem && decide ((e.flags.size : Int) ≤ 4))
structure EntS (e : Ent) : Prop where
  stem : e.stem.size ≤ 1000000000
  flags : e.flags.size ≤ 1000000000
theorem specEntry_loop (e : Ent) (hs : EntS e) : ∀ (rest pre : List Int) (p : Option Int), bytesOf e.flags = pre ++ rest → AheadJ pre p →
    Ev2 (fun N n => spec_l2Entry.l0 N n (pre.length : Int) e.stem e.flags) [boolP (upL p rest && (isWord e.stem && decide ((e.flags.size : Int) ≤ 4)))] := by
  have z1 := hs.stem; have z2 := hs.flags
  have hw := specWord_ev e.stem (by omega)
  simp only [strP] at hw
  intro rest
  induction rest with
  | nil =>
    intro pre p hp _
    refine Ev2.succ ?_
    simp only [spec_l2Entry.l0_eq, at_sizeE hp, stk, Int.reduceEq, Nat.reduceEqDiff, Int.reduceLE, Int.reduceLT]
    refine Ev2.bind hw ?_
    cases h : isWord e.stem <;> cases p <;> simp only [upL, stk, Int.reduceEq, Nat.reduceEqDiff, Int.reduceLE, Int.reduceLT] <;> exact Ev2.now _
  | cons c rest ih =>
    intro pre p hp hA
    have hn := at_next hp (by rw [bytesOf_len]; omega)
    have hlen : (pre ++ [c]).length = pre.length + 1 := by simp
    have hz : pre.length + 1 ≤ e.flags.size := by have := congrArg List.length hp; rw [bytesOf_len] at this; simp at this; omega
    have c1 : ((pre.length : Int) ≤ ((pre.length + 1 : Nat) : Int)) = True := tru (by omega)
    have c2 : (((pre.length + 1 : Nat) : Int) ≤ (e.flags.size : Int)) = True := tru (by omega)
    have hnext := ih (pre ++ [c]) (some c) (at_step hp) (.inr ⟨pre, c, rfl, rfl⟩)
    rw [hlen] at hn hnext
    refine Ev2.succ ?_
    cases hu : (decide (65 ≤ c) && decide (c ≤ 90)) with
    | false =>
      have hv : upL p (c :: rest) = false := by cases p <;> simp only [upL, hu, Bool.false_and]
      simp only [spec_l2Entry.l0_eq, at_size hp, hn, c1, c2, l2Flag_val, flag_at hp, hu, hv, stk, Int.reduceEq, Nat.reduceEqDiff, Int.reduceLE, Int.reduceLT]
      exact Ev2.now _
    | true =>
      rcases hA with ⟨rfl, rfl⟩ | ⟨pre', q, rfl, rfl⟩
      · have c3 : ((0 : Int) < (([] : List Int).length : Int)) = False := fls (by simp)
        simp only [spec_l2Entry.l0_eq, at_size hp, hn, c1, c2, l2Flag_val, flag_at hp, hu, c3, upL, stk, Int.reduceEq, Nat.reduceEqDiff, Int.reduceLE, Int.reduceLT]
        exact hnext
      · obtain ⟨h1, h2, h3, h4⟩ := prev_bytes hp z2
        by_cases hq : q < c
        · have c5 : (c ≤ q) = False := fls (by omega)
          simp only [spec_l2Entry.l0_eq, at_size hp, hn, c1, c2, l2Flag_val, flag_at hp, hu, h1, h2, h3, h4, at_bt hp, hq, c5, upL, stk, Int.reduceEq, Nat.reduceEqDiff, Int.reduceLE, Int.reduceLT]
          exact hnext
        · have c5 : (c ≤ q) = True := tru (by omega)
          simp only [spec_l2Entry.l0_eq, at_size hp, hn, c1, c2, l2Flag_val, flag_at hp, hu, h1, h2, h3, h4, at_bt hp, hq, c5, upL, stk, Int.reduceEq, Nat.reduceEqDiff, Int.reduceLE, Int.reduceLT]
          exact Ev2.now _
theorem specEntry_ev (e : Ent) (hs : EntS e) : Ev (fun N => spec_l2Entry.f N [entP e]) [boolP (entB e)] := by
  simp only [spec_l2Entry.f_eq, ent_f0, ent_f1, stk, Int.reduceEq, Nat.reduceEqDiff, Int.reduceLE, Int.reduceLT]
  exact (specEntry_loop e hs (bytesOf e.flags) [] none rfl (.inl ⟨rfl, rfl⟩)).diag
def entsL : Option ByteArray → List Ent → Bool
  | _, [] => true
  | none, e :: r => entB e && entsL (some e.stem) r
  | some q, e :: r => entB e && (bLess q e.stem && entsL (some e.stem) r)
def bookB (af : List Aff) (es : List Ent) : Bool := entsL none es && (affsB af && decide ((es.length : Int) ≤ 24))
theorem entsL_all : ∀ {l : List Ent} {p : Option ByteArray}, entsL p l = true → ∀ e ∈ l, entB e = true
  | [], _, _, _, h => by cases h
  | e :: r, none, h, x, hx => by
    simp only [entsL, Bool.and_eq_true] at h
    rcases List.mem_cons.1 hx with rfl | hx
    · exact h.1
    · exact entsL_all h.2 x hx
  | e :: r, some q, h, x, hx => by
    simp only [entsL, Bool.and_eq_true] at h
    rcases List.mem_cons.1 hx with rfl | hx
    · exact h.1
    · exact entsL_all h.2.2 x hx
theorem entB_facts {e : Ent} (h : entB e = true) : isWord e.stem = true ∧ e.stem.size ≤ 12 ∧ e.flags.size ≤ 4 := by
  simp only [entB, Bool.and_eq_true, decide_eq_true_eq] at h
  exact ⟨h.2.1, word_size h.2.1, by omega⟩
structure BookOkF (af : List Aff) (es : List Ent) : Prop where
  good : ∀ a ∈ af, affB a = true
  al : af.length ≤ 8
  el : es.length ≤ 24
  ent : ∀ e ∈ es, entB e = true
  affs : affsB af = true
theorem bookB_facts {af : List Aff} {es : List Ent} (h : bookB af es = true) : BookOkF af es := by
  simp only [bookB, Bool.and_eq_true, decide_eq_true_eq] at h
  obtain ⟨h1, h2, h3⟩ := h
  have h4 := h2
  simp only [affsB, Bool.and_eq_true, decide_eq_true_eq] at h4
  exact ⟨affsL_all h4.1, by omega, by omega, entsL_all h1, h2⟩
def AheadE (pre : List Ent) (p : Option ByteArray) : Prop := (pre = [] ∧ p = none) ∨ ∃ pre' q, pre = pre' ++ [q] ∧ p = some q.stem
theorem prev_ents {es pre' rest : List Ent} {q : Ent} (hp : es = (pre' ++ [q]) ++ rest) (hx : es.length ≤ 1000000000) :
    IntKind.i64.wrap (((pre' ++ [q]).length : Int) - 1) = (pre'.length : Int) ∧ (pre'.length : Int) < (es.length : Int) ∧ (entsP es).elem pre'.length = entP q ∧ (0 : Int) < ((pre' ++ [q]).length : Int) := by
  have hz := congrArg List.length hp
  simp only [List.length_append, List.length_cons, List.length_nil] at hz
  refine ⟨?_, by omega, ents_elem (by rw [hp]; simp : es = pre' ++ q :: rest), by simp <;> omega⟩
  simp only [List.length_append, List.length_cons, List.length_nil]
  rw [wrap_id (by omega) (by omega)]; omega
structure BookS (af : List Aff) (es : List Ent) : Prop where
  al : af.length ≤ 1000000000
  el : es.length ≤ 1000000000
  a : ∀ a ∈ af, AffS a
  e : ∀ e ∈ es, EntS e
theorem specBook_loop {af : List Aff} {es : List Ent} (hs : BookS af es) : ∀ (rest pre : List Ent) (p : Option ByteArray), es = pre ++ rest → AheadE pre p →
    Ev2 (fun N n => spec_BookOk.l0 N n (pre.length : Int) (affsP af) (entsP es)) [boolP (entsL p rest && (affsB af && decide ((es.length : Int) ≤ 24)))] := by
  have hel := hs.el
  intro rest
  induction rest with
  | nil =>
    intro pre p hp _
    refine Ev2.succ ?_
    simp only [spec_BookOk.l0_eq, ents_len, at_end hp, stk, Int.reduceEq, Nat.reduceEqDiff, Int.reduceLE, Int.reduceLT]
    refine Ev2.bind (specAffs_ev af hs.al hs.a) ?_
    cases h : affsB af <;> cases p <;> simp only [entsL, stk, Int.reduceEq, Nat.reduceEqDiff, Int.reduceLE, Int.reduceLT] <;> exact Ev2.now _
  | cons e rest ih =>
    intro pre p hp hA
    have hnext := ih (pre ++ [e]) (some e.stem) (at_step hp) (.inr ⟨pre, e, rfl, rfl⟩)
    refine Ev2.succ ?_
    simp only [spec_BookOk.l0_eq, ents_len, ents_elem hp, at_lt hp, ent_f0, ent_f1, ent_agg, stk, Int.reduceEq, Nat.reduceEqDiff, Int.reduceLE, Int.reduceLT]
    refine Ev2.bind (specEntry_ev e (hs.e e (by rw [hp]; simp))) ?_
    cases hu : entB e with
    | false =>
      have hv : entsL p (e :: rest) = false := by cases p <;> simp only [entsL, hu, Bool.false_and]
      simp only [hv, stk, Int.reduceEq, Nat.reduceEqDiff, Int.reduceLE, Int.reduceLT]
      exact Ev2.now _
    | true =>
      rcases hA with ⟨rfl, rfl⟩ | ⟨pre', q, rfl, rfl⟩
      · have c3 : ((0 : Int) < (([] : List Ent).length : Int)) = False := fls (by simp)
        simp only [c3, at_next hp (by omega), entsL, hu, stk, Int.reduceEq, Nat.reduceEqDiff, Int.reduceLE, Int.reduceLT]
        exact hnext
      · obtain ⟨h1, h2, h3, h4⟩ := prev_ents hp hel
        cases hq : bLess q.stem e.stem with
        | true =>
          simp only [h1, h2, h3, h4, ent_f0, bLess_eq, hq, at_next hp (by omega), entsL, hu, stk, Int.reduceEq, Nat.reduceEqDiff, Int.reduceLE, Int.reduceLT]
          exact hnext
        | false =>
          simp only [h1, h2, h3, h4, ent_f0, bLess_eq, hq, entsL, hu, stk, Int.reduceEq, Nat.reduceEqDiff, Int.reduceLE, Int.reduceLT]
          exact Ev2.now _
theorem specBookOk_ev {af : List Aff} {es : List Ent} (hs : BookS af es) : Ev (fun N => spec_BookOk.f N [bookP af es]) [boolP (bookB af es)] := by
  simp only [spec_BookOk.f_eq, book_f0, book_f1]
  exact (specBook_loop hs es [] none rfl (.inl ⟨rfl, rfl⟩)).diag
theorem bookW_ok {af : List Aff} {es : List Ent} (h : BookOkF af es) : Ev (fun N => spec_l2Words.f N [bookP af es]) [strsP (bookW af es)] :=
  bookW_ev (fun a ha => (affB_facts (h.good a ha)).1) (by have := h.al; omega) (fun e he => by have := entB_facts (h.ent e he); omega) (by have := h.el; omega)
def ascB (l : List ByteArray) : Prop := (l.map encB).Pairwise (· < ·)
theorem mem_enc {l : List ByteArray} {x : ByteArray} : encB x ∈ l.map encB ↔ x ∈ l := by
  rw [List.mem_map]
  constructor
  · rintro ⟨y, hy, h⟩; rw [← encB_inj h]; exact hy
  · intro h; exact ⟨x, h, rfl⟩
theorem sorted_enc (l : List ByteArray) : (compactM (sortM l)).map encB = Lib.compact ((l.map encB).mergeSort fun x y => decide (x ≤ y)) := by
  unfold compactM
  rw [List.map_map, show encB ∘ decB = id from funext fun x => by simp [encB, decB], List.map_id, sortM_enc]
theorem sorted_asc (l : List ByteArray) : ascB (compactM (sortM l)) := by
  unfold ascB
  rw [sorted_enc]; exact compact_pair (sorted_pair _)
theorem sorted_mem (l : List ByteArray) (x : ByteArray) : x ∈ compactM (sortM l) ↔ x ∈ l := by
  rw [← mem_enc, sorted_enc, compact_mem, (List.mergeSort_perm _ _).mem_iff, mem_enc]
theorem same_asc {a b : List ByteArray} (ha : ascB a) (hb : ascB b) (h : ∀ x, x ∈ a ↔ x ∈ b) : a = b := by
  have e := asc_ext ha hb (fun x => by
    simp only [List.mem_map]
    constructor
    · rintro ⟨y, hy, rfl⟩; exact ⟨y, (h y).1 hy, rfl⟩
    · rintro ⟨y, hy, rfl⟩; exact ⟨y, (h y).2 hy, rfl⟩)
  have := congrArg (List.map decB) e
  rwa [List.map_map, List.map_map, show decB ∘ encB = id from funext decB_encB, List.map_id, List.map_id] at this
theorem sorted_eq {l m : List ByteArray} (hm : ascB m) (h : ∀ x, x ∈ l ↔ x ∈ m) : compactM (sortM l) = m :=
  same_asc (sorted_asc l) hm (fun x => (sorted_mem l x).trans (h x))
theorem putO_asc {o : Option ByteArray} {acc : List ByteArray} (h : ascB acc) : ascB (putO o acc) := by
  cases o with
  | none => exact h
  | some x => exact insM_asc x h
theorem oneL_asc (a : Aff) : ∀ (ws acc : List ByteArray), ascB acc → ascB (oneL a ws acc)
  | [], acc, h => h
  | w :: r, acc, h => oneL_asc a r _ (putO_asc h)
theorem oneA_asc (flags : ByteArray) (front : Bool) (ws : List ByteArray) : ∀ (af : List Aff) (acc : List ByteArray), ascB acc → ascB (oneA flags front ws af acc)
  | [], acc, h => h
  | a :: r, acc, h => by
    rw [oneA]
    refine oneA_asc flags front ws r _ ?_
    split
    · exact oneL_asc a ws acc h
    · exact h
theorem formsB_asc (af : List Aff) (e : Ent) : ascB (formsB af e) :=
  oneA_asc _ _ _ af _ (oneA_asc _ _ _ af _ (by simp [ascB]))
theorem putL_asc : ∀ (l acc : List ByteArray), ascB acc → ascB (putL l acc)
  | [], acc, h => h
  | x :: r, acc, h => putL_asc r _ (insM_asc x h)
theorem wordsL2_asc (af : List Aff) : ∀ (es : List Ent) (acc : List ByteArray), ascB acc → ascB (wordsL2 af es acc)
  | [], acc, h => h
  | e :: r, acc, h => wordsL2_asc af r _ (putL_asc _ _ h)
theorem bookW_asc (af : List Aff) (es : List Ent) : ascB (bookW af es) := wordsL2_asc af es [] (by simp [ascB])
theorem bookW_mem (af : List Aff) (es : List Ent) (x : ByteArray) : x ∈ bookW af es ↔ ∃ e ∈ es, x ∈ formsB af e := by
  unfold bookW
  rw [wordsL2_mem]; simp
def partsAt (ws : List ByteArray) (deep : ByteArray → List ByteArray) (word : ByteArray) : Nat → Nat → List ByteArray
  | 0, _ => []
  | d + 1, k => if word.extract 0 k ∈ ws then (match deep (word.extract k word.size) with
    | [] => partsAt ws deep word d (k + 1)
    | x :: r => word.extract 0 k :: x :: r) else partsAt ws deep word d (k + 1)
def partsM (ws : List ByteArray) : Nat → ByteArray → List ByteArray
  | 0, w => if w ∈ ws then [w] else []
  | m + 1, w => partsAt ws (partsM ws m) w (w.size - 5) 3
def partsB (ws : List ByteArray) (w : ByteArray) : List ByteArray := match partsM ws 1 w with
  | [] => partsM ws 2 w
  | x :: r => x :: r
def catF : ByteArray → List ByteArray → ByteArray
  | acc, [] => acc
  | acc, x :: r => catF (acc ++ x) r
structure PartsOk (ws : List ByteArray) (w : ByteArray) (l : List ByteArray) (n : Nat) : Prop where
  mem : ∀ x ∈ l, x ∈ ws ∧ 3 ≤ x.size ∧ x.size ≤ w.size
  cat : ∀ acc, catF acc l = acc ++ w
  len : l.length = n
theorem ext_join (w : ByteArray) {k : Nat} (hk : k ≤ w.size) : w.extract 0 k ++ w.extract k w.size = w := by
  have hi : ∀ a b : ByteArray, a.data.toList = b.data.toList → a = b := fun a b h => by cases a; cases b; simp at h; simp [h]
  apply hi
  have hl : w.data.toList.length = w.size := Array.length_toList (xs := w.data)
  rw [ByteArray.data_append, Array.toList_append, ByteArray.data_extract, ByteArray.data_extract]
  simp only [Array.toList_extract, List.extract, List.drop_zero, Nat.sub_zero]
  rw [List.take_of_length_le (l := w.data.toList.drop k) (by rw [List.length_drop, hl]; omega), List.take_append_drop]
theorem ba_assoc (a b c : ByteArray) : (a ++ b) ++ c = a ++ (b ++ c) := by
  have hi : ∀ a b : ByteArray, a.data.toList = b.data.toList → a = b := fun a b h => by cases a; cases b; simp at h; simp [h]
  apply hi
  simp [ByteArray.data_append]
theorem partsM_ok (ws : List ByteArray) : ∀ (m : Nat) (w : ByteArray), 3 ≤ w.size → partsM ws m w ≠ [] → PartsOk ws w (partsM ws m w) (m + 1) := by
  intro m
  induction m with
  | zero =>
    intro w hw hne
    unfold partsM at hne ⊢
    split
    · rename_i hm
      exact ⟨fun x hx => by rw [List.mem_singleton.1 hx]; exact ⟨hm, hw, Nat.le_refl _⟩, fun acc => rfl, rfl⟩
    · rename_i hm
      rw [if_neg hm] at hne; exact absurd rfl hne
  | succ m ih =>
    intro w hw hne
    have key : ∀ d k, (1 ≤ d → k + d + 2 = w.size) → 3 ≤ k → partsAt ws (partsM ws m) w d k ≠ [] → PartsOk ws w (partsAt ws (partsM ws m) w d k) (m + 2) := by
      intro d
      induction d with
      | zero => intro k _ _ h; exact absurd rfl h
      | succ d ihd =>
        intro k hk h3 h
        have hk' := hk (by omega)
        unfold partsAt at h ⊢
        split
        · rename_i hm
          rw [if_pos hm] at h
          cases hr : partsM ws m (w.extract k w.size) with
          | nil =>
            rw [hr] at h
            exact ihd (k + 1) (fun _ => by omega) (by omega) h
          | cons x r =>
            have hsz : (w.extract k w.size).size = w.size - k := by rw [ByteArray.size_extract]; omega
            have hs0 : (w.extract 0 k).size = k := by rw [ByteArray.size_extract]; omega
            obtain ⟨g1, g2, g3⟩ := ih (w.extract k w.size) (by omega) (by rw [hr]; simp)
            rw [hr] at g1 g2 g3
            refine ⟨fun y hy => ?_, fun acc => ?_, by rw [List.length_cons, g3]⟩
            · rcases List.mem_cons.1 hy with rfl | hy
              · exact ⟨hm, by omega, by omega⟩
              · obtain ⟨a1, a2, a3⟩ := g1 y hy
                exact ⟨a1, a2, by omega⟩
            · show catF (acc ++ w.extract 0 k) (x :: r) = acc ++ w
              rw [g2, ba_assoc, ext_join w (by omega)]
        · rename_i hm
          rw [if_neg hm] at h
          exact ihd (k + 1) (fun _ => by omega) (by omega) h
    unfold partsM at hne ⊢
    exact key _ 3 (fun _ => by omega) (Nat.le_refl _) hne
theorem implUp_val (k : IntKind) (c : Int) (N : Nat) : impl_upper.f N [.sc (.int k c)] = some [boolP (decide (65 ≤ c) && decide (c ≤ 90))] := by
  by_cases h : 65 ≤ c
  · simp only [impl_upper.f_eq, h, stk, Int.reduceEq, Nat.reduceEqDiff, Int.reduceLE, Int.reduceLT] <;> rfl
  · simp only [impl_upper.f_eq, h, stk, Int.reduceEq, Nat.reduceEqDiff, Int.reduceLE, Int.reduceLT]
theorem hasPre_val (s p : ByteArray) (N : Nat) : strings_HasPrefix.f N [PV.sc (.string s), PV.sc (.string p)] = some [boolP (begB s p)] := by
  by_cases h : p.size ≤ s.size
  · have h1 : ((p.size : Int) ≤ (s.size : Int)) = True := tru (by omega)
    simp only [strings_HasPrefix.f_eq, stringslite_HasPrefix.f_eq, h1, begB, h, nn, stk, Int.reduceEq, Nat.reduceEqDiff, Int.reduceLE, Int.reduceLT]
  · have h1 : ((p.size : Int) ≤ (s.size : Int)) = False := fls (by omega)
    simp only [strings_HasPrefix.f_eq, stringslite_HasPrefix.f_eq, h1, begB, h, stk, Int.reduceEq, Nat.reduceEqDiff, Int.reduceLE, Int.reduceLT]
theorem hasSuf_val (s p : ByteArray) (hs : s.size ≤ 9223372036854775807) (N : Nat) : strings_HasSuffix.f N [PV.sc (.string s), PV.sc (.string p)] = some [boolP (endB s p)] := by
  by_cases h : p.size ≤ s.size
  · have h1 : ((p.size : Int) ≤ (s.size : Int)) = True := tru (by omega)
    have w1 : IntKind.i64.wrap ((s.size : Int) - (p.size : Int)) = ((s.size - p.size : Nat) : Int) := nat_wrap (by omega) (by omega)
    have h2 : (((s.size - p.size : Nat) : Int) ≤ (s.size : Int)) = True := tru (by omega)
    simp only [strings_HasSuffix.f_eq, stringslite_HasSuffix.f_eq, h1, h2, w1, endB, h, nn, stk, Int.reduceEq, Nat.reduceEqDiff, Int.reduceLE, Int.reduceLT]
  · have h1 : ((p.size : Int) ≤ (s.size : Int)) = False := fls (by omega)
    simp only [strings_HasSuffix.f_eq, stringslite_HasSuffix.f_eq, h1, endB, h, stk, Int.reduceEq, Nat.reduceEqDiff, Int.reduceLE, Int.reduceLT]
def partsOkL : List ByteArray → Bool
  | [] => true
  | s :: r => partOk s && partsOkL r
theorem affix_l0 (a : Aff) (hs : AffS a) : ∀ (rest pre : List ByteArray), [a.strip, a.add, a.cond] = pre ++ rest →
    Ev2 (fun N n => impl_AffixOk.l0 N n 3 (pre.length : Int) a.flag a.front a.strip a.add a.cond [strP a.strip, strP a.add, strP a.cond]) [boolP (partsOkL rest && (if a.front = true then begB a.cond a.strip else endB a.cond a.strip))] := by
  have z1 := hs.strip; have z2 := hs.add; have z3 := hs.cond
  have hall : ∀ x ∈ [a.strip, a.add, a.cond], x.size ≤ 1000000000 := by
    intro x hx
    simp only [List.mem_cons, List.not_mem_nil, or_false] at hx
    rcases hx with rfl | rfl | rfl <;> assumption
  have el : PV.list [strP a.strip, strP a.add, strP a.cond] = strsP [a.strip, a.add, a.cond] := rfl
  have hl3 : ([strP a.strip, strP a.add, strP a.cond] : List PV).length = [a.strip, a.add, a.cond].length := rfl
  intro rest
  induction rest with
  | nil =>
    intro pre hp
    have hz : pre.length = 3 := by have := congrArg List.length hp; simp at this; omega
    have h0 : ((pre.length : Int) < 3) = False := fls (by omega)
    refine Ev2.succ ?_
    have e2 := hasSuf_val a.cond a.strip (by omega)
    rcases Bool.eq_false_or_eq_true a.front with hf | hf
    · simp only [impl_AffixOk.l0_eq, h0, hf, hasPre_val, partsOkL, stk, Int.reduceEq, Nat.reduceEqDiff, Int.reduceLE, Int.reduceLT]; exact Ev2.now _
    · simp only [impl_AffixOk.l0_eq, h0, hf, e2, partsOkL, stk, Int.reduceEq, Nat.reduceEqDiff, Int.reduceLE, Int.reduceLT]; exact Ev2.now _
  | cons x rest ih =>
    intro pre hp
    have hz : pre.length < 3 := by have := congrArg List.length hp; simp at this; omega
    have h0 : ((pre.length : Int) < 3) = True := tru (by omega)
    have hx := hall x (by rw [hp]; simp)
    have hlo := implLower_ev x (by omega)
    simp only [strP] at hlo
    have hlen : ([a.strip, a.add, a.cond] : List ByteArray).length ≤ 9223372036854775807 := by simp
    refine Ev2.succ ?_
    by_cases h4 : (x.size : Int) ≤ 4
    · have c4 : ((4 : Int) < (x.size : Int)) = False := fls (by omega)
      simp only [impl_AffixOk.l0_eq, h0, hl3, el, strs_elem, at_lt hp, at_getD hp, c4, partsOkL, partOk, h4, stk, Int.reduceEq, Nat.reduceEqDiff, Int.reduceLE, Int.reduceLT]
      refine Ev2.bind hlo ?_
      cases hl : lowB (bytesOf x) with
      | false => simp only [stk, Int.reduceEq, Nat.reduceEqDiff, Int.reduceLE, Int.reduceLT]; exact Ev2.now _
      | true =>
        simp only [at_next hp hlen, stk, Int.reduceEq, Nat.reduceEqDiff, Int.reduceLE, Int.reduceLT]
        exact ih _ (at_step hp)
    · have c4 : ((4 : Int) < (x.size : Int)) = True := tru (by omega)
      simp only [impl_AffixOk.l0_eq, h0, hl3, el, strs_elem, at_lt hp, at_getD hp, c4, partsOkL, partOk, h4, stk, Int.reduceEq, Nat.reduceEqDiff, Int.reduceLE, Int.reduceLT]
      exact Ev2.now _
theorem implAffixOk_ev (a : Aff) (hs : AffS a) : Ev (fun N => impl_AffixOk.f N [affP a]) [boolP (affB a)] := by
  have h0 := affix_l0 a hs [a.strip, a.add, a.cond] [] rfl
  have e3 : (([strP a.strip, strP a.add, strP a.cond] : List PV).length : Int) = 3 := rfl
  simp only [strP] at e3 h0
  by_cases h : (a.flag.size : Int) = 1
  · cases hu : (decide (65 ≤ bt a.flag 0) && decide (bt a.flag 0 ≤ 90)) with
    | false =>
      simp only [impl_AffixOk.f_eq, aff_f0, aff_f1, aff_f2, aff_f3, aff_f4, h, implUp_val, affB, flagB, hu, Nat.le_refl, stk, Int.reduceEq, Nat.reduceEqDiff, Int.reduceLE, Int.reduceLT]
      exact Ev.now _
    | true =>
      simp only [impl_AffixOk.f_eq, aff_f0, aff_f1, aff_f2, aff_f3, aff_f4, h, implUp_val, affB, flagB, hu, e3, Nat.le_refl, stk, Int.reduceEq, Nat.reduceEqDiff, Int.reduceLE, Int.reduceLT]
      refine Ev.ext h0.diag ?_
      simp only [partsOkL, Bool.and_true, Bool.and_assoc]
  · simp only [impl_AffixOk.f_eq, aff_f0, aff_f1, aff_f2, aff_f3, aff_f4, h, affB, flagB, stk, Int.reduceEq, Nat.reduceEqDiff, Int.reduceLE, Int.reduceLT]
    exact Ev.now _
theorem affIndex_loop {l : List Aff} (hl : l.length ≤ 1000000000) (a : Aff) : ∀ (rest pre : List Aff), l = pre ++ rest →
    ∃ r : Int, Ev2 (fun N n => slices_Index_impl_Affix.l0 N n (affsP l) (l.length : Int) (pre.length : Int) a.flag a.front a.strip a.add a.cond) [intP r] ∧ decide (0 ≤ r) = hasA rest a := by
  intro rest
  induction rest with
  | nil =>
    intro pre hp
    refine ⟨-1, Ev2.succ ?_, rfl⟩
    simp only [slices_Index_impl_Affix.l0_eq, at_end hp, stk, Int.reduceEq, Nat.reduceEqDiff, Int.reduceLE, Int.reduceLT]
    exact Ev2.now _
  | cons x rest ih =>
    intro pre hp
    cases he : eqA a x with
    | true =>
      refine ⟨pre.length, Ev2.succ ?_, by rw [hasA, eqA_symm, he]; simp⟩
      simp only [slices_Index_impl_Affix.l0_eq, affs_len, affs_elem hp, at_lt hp, aff_f0, aff_f1, aff_f2, aff_f3, aff_f4, stk, Int.reduceEq, Nat.reduceEqDiff, Int.reduceLE, Int.reduceLT]
      simp only [eqA_fold, he, stk, Int.reduceEq, Nat.reduceEqDiff, Int.reduceLE, Int.reduceLT]
      exact Ev2.now _
    | false =>
      obtain ⟨r, h1, h2⟩ := ih _ (at_step hp)
      refine ⟨r, Ev2.succ ?_, by rw [hasA, eqA_symm, he, h2]; rfl⟩
      simp only [slices_Index_impl_Affix.l0_eq, affs_len, affs_elem hp, at_lt hp, aff_f0, aff_f1, aff_f2, aff_f3, aff_f4, stk, Int.reduceEq, Nat.reduceEqDiff, Int.reduceLE, Int.reduceLT]
      simp only [eqA_fold, he, at_next hp (by omega), stk, Int.reduceEq, Nat.reduceEqDiff, Int.reduceLE, Int.reduceLT]
      exact h1
theorem affContains_ev {l : List Aff} (hl : l.length ≤ 1000000000) (a : Aff) : Ev (fun N => slices_Contains_impl_Affix.f N [affsP l, affP a]) [boolP (hasA l a)] := by
  obtain ⟨r, h1, h2⟩ := affIndex_loop hl a l [] rfl
  simp only [slices_Contains_impl_Affix.f_eq, slices_Index_impl_Affix.f_eq, affs_len, aff_f0, aff_f1, aff_f2, aff_f3, aff_f4, aff_agg, stk, Int.reduceEq, Nat.reduceEqDiff, Int.reduceLE, Int.reduceLT]
  refine Ev.bind h1.diag ?_
  exact Ev.ext (Ev.now _) (congrArg (fun b => [boolP b]) h2)
theorem implAffs_loop {af : List Aff} (hal : af.length ≤ 1000000000) (hs : ∀ a ∈ af, AffS a) : ∀ (ra pre : List Aff), af = pre ++ ra →
    Ev2 (fun N n => impl_affixesOk.l0 N n (affsP af) (affsP af) (af.length : Int) (pre.length : Int)) [boolP (affsL pre ra && decide ((af.length : Int) ≤ 8))] := by
  intro ra
  induction ra with
  | nil =>
    intro pre ha
    refine Ev2.succ ?_
    simp only [impl_affixesOk.l0_eq, affs_len, at_end ha, affsL, stk, Int.reduceEq, Nat.reduceEqDiff, Int.reduceLE, Int.reduceLT]
    exact Ev2.now _
  | cons a ra ih =>
    intro pre ha
    have hpl : pre.length ≤ af.length := by have := congrArg List.length ha; simp at this; omega
    have c1 : ((pre.length : Int) ≤ (af.length : Int)) = True := tru (by omega)
    have et : PV.list (((affsP af).items.drop 0).take (pre.length - 0)) = affsP pre := by rw [ha]; simp [affsP, PV.items]
    refine Ev2.succ ?_
    simp only [impl_affixesOk.l0_eq, affs_len, affs_elem ha, at_lt ha, aff_f0, aff_f1, aff_f2, aff_f3, aff_f4, aff_agg, et, c1, stk, Int.reduceEq, Nat.reduceEqDiff, Int.reduceLE, Int.reduceLT]
    refine Ev2.bind (implAffixOk_ev a (hs a (by rw [ha]; simp))) ?_
    cases h0 : affB a with
    | false => simp only [affsL, h0, stk, Int.reduceEq, Nat.reduceEqDiff, Int.reduceLE, Int.reduceLT]; exact Ev2.now _
    | true =>
      simp only [affsL, h0, stk, Int.reduceEq, Nat.reduceEqDiff, Int.reduceLE, Int.reduceLT]
      refine Ev2.bind (affContains_ev (by omega) a) ?_
      cases h1 : hasA pre a with
      | true => simp only [stk, Int.reduceEq, Nat.reduceEqDiff, Int.reduceLE, Int.reduceLT]; exact Ev2.now _
      | false =>
        simp only [at_next ha (by omega), stk, Int.reduceEq, Nat.reduceEqDiff, Int.reduceLE, Int.reduceLT]
        exact ih _ (at_step ha)
theorem implAffs_ev (af : List Aff) (hal : af.length ≤ 1000000000) (hs : ∀ a ∈ af, AffS a) : Ev (fun N => impl_affixesOk.f N [affsP af]) [boolP (affsB af)] := by
  simp only [impl_affixesOk.f_eq, affs_len]
  exact (implAffs_loop hal hs af [] rfl).diag
theorem implEntry_loop (e : Ent) (hs : EntS e) : ∀ (rest pre : List Int) (p : Option Int), bytesOf e.flags = pre ++ rest → AheadJ pre p →
    Ev2 (fun N n => impl_entryOk.l0 N n (e.flags.size : Int) (pre.length : Int) e.stem e.flags) [boolP (upL p rest && (isWord e.stem && decide ((e.flags.size : Int) ≤ 4)))] := by
  have z1 := hs.stem; have z2 := hs.flags
  have hw := implWord_ev e.stem (by omega)
  simp only [strP] at hw
  intro rest
  induction rest with
  | nil =>
    intro pre p hp _
    refine Ev2.succ ?_
    simp only [impl_entryOk.l0_eq, at_sizeE hp, stk, Int.reduceEq, Nat.reduceEqDiff, Int.reduceLE, Int.reduceLT]
    refine Ev2.bind hw ?_
    cases h : isWord e.stem <;> cases p <;> simp only [upL, stk, Int.reduceEq, Nat.reduceEqDiff, Int.reduceLE, Int.reduceLT] <;> exact Ev2.now _
  | cons c rest ih =>
    intro pre p hp hA
    have hn := at_next hp (by rw [bytesOf_len]; omega)
    have hnext := ih (pre ++ [c]) (some c) (at_step hp) (.inr ⟨pre, c, rfl, rfl⟩)
    refine Ev2.succ ?_
    cases hu : (decide (65 ≤ c) && decide (c ≤ 90)) with
    | false =>
      have hv : upL p (c :: rest) = false := by cases p <;> simp only [upL, hu, Bool.false_and]
      simp only [impl_entryOk.l0_eq, at_size hp, at_bt hp, implUp_val, hu, hv, stk, Int.reduceEq, Nat.reduceEqDiff, Int.reduceLE, Int.reduceLT]
      exact Ev2.now _
    | true =>
      rcases hA with ⟨rfl, rfl⟩ | ⟨pre', q, rfl, rfl⟩
      · have c3 : ((0 : Int) < (([] : List Int).length : Int)) = False := fls (by simp)
        simp only [impl_entryOk.l0_eq, at_size hp, at_bt hp, hn, implUp_val, hu, c3, upL, stk, Int.reduceEq, Nat.reduceEqDiff, Int.reduceLE, Int.reduceLT]
        exact hnext
      · obtain ⟨h1, h2, h3, h4⟩ := prev_bytes hp z2
        by_cases hq : q < c
        · have c5 : (c ≤ q) = False := fls (by omega)
          simp only [impl_entryOk.l0_eq, at_size hp, at_bt hp, hn, implUp_val, hu, h1, h2, h3, h4, hq, c5, upL, stk, Int.reduceEq, Nat.reduceEqDiff, Int.reduceLE, Int.reduceLT]
          exact hnext
        · have c5 : (c ≤ q) = True := tru (by omega)
          simp only [impl_entryOk.l0_eq, at_size hp, at_bt hp, hn, implUp_val, hu, h1, h2, h3, h4, hq, c5, upL, stk, Int.reduceEq, Nat.reduceEqDiff, Int.reduceLE, Int.reduceLT]
          exact Ev2.now _
theorem implEntry_ev (e : Ent) (hs : EntS e) : Ev (fun N => impl_entryOk.f N [entP e]) [boolP (entB e)] := by
  simp only [impl_entryOk.f_eq, ent_f0, ent_f1, stk, Int.reduceEq, Nat.reduceEqDiff, Int.reduceLE, Int.reduceLT]
  exact (implEntry_loop e hs (bytesOf e.flags) [] none rfl (.inl ⟨rfl, rfl⟩)).diag
theorem implEnts_loop {es : List Ent} (hel : es.length ≤ 1000000000) (hs : ∀ e ∈ es, EntS e) : ∀ (rest pre : List Ent) (p : Option ByteArray), es = pre ++ rest → AheadE pre p →
    Ev2 (fun N n => impl_entriesOk.l0 N n (entsP es) (entsP es) (es.length : Int) (pre.length : Int)) [boolP (entsL p rest && decide ((es.length : Int) ≤ 24))] := by
  intro rest
  induction rest with
  | nil =>
    intro pre p hp _
    refine Ev2.succ ?_
    simp only [impl_entriesOk.l0_eq, ents_len, at_end hp, stk, Int.reduceEq, Nat.reduceEqDiff, Int.reduceLE, Int.reduceLT]
    cases p <;> simp only [entsL, stk, Int.reduceEq, Nat.reduceEqDiff, Int.reduceLE, Int.reduceLT] <;> exact Ev2.now _
  | cons e rest ih =>
    intro pre p hp hA
    have hnext := ih (pre ++ [e]) (some e.stem) (at_step hp) (.inr ⟨pre, e, rfl, rfl⟩)
    refine Ev2.succ ?_
    simp only [impl_entriesOk.l0_eq, ents_len, ents_elem hp, at_lt hp, ent_f0, ent_f1, ent_agg, stk, Int.reduceEq, Nat.reduceEqDiff, Int.reduceLE, Int.reduceLT]
    refine Ev2.bind (implEntry_ev e (hs e (by rw [hp]; simp))) ?_
    cases hu : entB e with
    | false =>
      have hv : entsL p (e :: rest) = false := by cases p <;> simp only [entsL, hu, Bool.false_and]
      simp only [hv, stk, Int.reduceEq, Nat.reduceEqDiff, Int.reduceLE, Int.reduceLT]
      exact Ev2.now _
    | true =>
      rcases hA with ⟨rfl, rfl⟩ | ⟨pre', q, rfl, rfl⟩
      · have c3 : ((0 : Int) < (([] : List Ent).length : Int)) = False := fls (by simp)
        simp only [c3, at_next hp (by omega), entsL, hu, stk, Int.reduceEq, Nat.reduceEqDiff, Int.reduceLE, Int.reduceLT]
        exact hnext
      · obtain ⟨h1, h2, h3, h4⟩ := prev_ents hp hel
        cases hq : bLess q.stem e.stem with
        | true =>
          simp only [h1, h2, h3, h4, ent_f0, bLess_eq, hq, at_next hp (by omega), entsL, hu, stk, Int.reduceEq, Nat.reduceEqDiff, Int.reduceLE, Int.reduceLT]
          exact hnext
        | false =>
          simp only [h1, h2, h3, h4, ent_f0, bLess_eq, hq, entsL, hu, stk, Int.reduceEq, Nat.reduceEqDiff, Int.reduceLE, Int.reduceLT]
          exact Ev2.now _
theorem implBookOk_ev {af : List Aff} {es : List Ent} (hs : BookS af es) : Ev (fun N => impl_BookOk.f N [bookP af es]) [boolP (bookB af es)] := by
  have h1 := implAffs_ev af hs.al hs.a
  have h2 := (implEnts_loop hs.el hs.e es [] none rfl (.inl ⟨rfl, rfl⟩)).diag
  simp only [impl_BookOk.f_eq, book_f0, book_f1]
  refine Ev.bind h1 ?_
  cases h : affsB af with
  | false =>
    simp only [bookB, h, stk, Int.reduceEq, Nat.reduceEqDiff, Int.reduceLE, Int.reduceLT]
    exact Ev.now _
  | true =>
    simp only [impl_entriesOk.f_eq, ents_len, bookB, h, stk, Int.reduceEq, Nat.reduceEqDiff, Int.reduceLE, Int.reduceLT]
    refine Ev.bind h2 ?_
    simp only [stk, Int.reduceEq, Nat.reduceEqDiff, Int.reduceLE, Int.reduceLT]
    exact Ev.now _
theorem sort_val (l : List ByteArray) (h2 : l.length ≤ 1000000000) (N : Nat) : slices_Sort_string_string.f N [strsP l] = some [strsP (sortM l)] := by
  show sortDen [strsP l] = _
  simp only [strsP, sortDen, List.length_map, toStr_strs]
  rw [if_pos (by omega)]
theorem compact_val (l : List ByteArray) (h2 : l.length ≤ 1000000000) (N : Nat) : slices_Compact_string_string.f N [strsP l] = some [strsP (compactM l)] := by
  show compactDen [strsP l] = _
  simp only [strsP, compactDen, List.length_map]
  rw [toStr_strs, if_pos (by omega)]
theorem sorted_val (l : List ByteArray) (h2 : l.length ≤ 1000000000) (N : Nat) : impl_sorted.f N [strsP l] = some [strsP (compactM (sortM l))] := by
  have c1 : l.length ≤ 8796093022208 := by omega
  have hl := compactM_len (sortM l)
  rw [sortM_len] at hl
  have c2 : (compactM (sortM l)).length ≤ 8796093022208 := by omega
  have hc := compact_val (sortM l) (by rw [sortM_len]; exact h2)
  simp only [impl_sorted.f_eq, strs_len, strs_full, List.length_nil, Nat.zero_add, c1, c2, sort_val l h2, hc, headD_one, Option.bind_some, if_true]
theorem has01 (c : UInt8) : ∀ l : List UInt8, decide (0 ≤ Lib.indexByte l c) = l.contains c
  | [] => rfl
  | b :: l => by
    have ih := has01 c l
    have hg := Lib.indexByte_ge l c
    rw [Lib.indexByte, List.contains_cons]
    by_cases hb : b = c
    · subst hb; simp
    · have h1 : (b == c) = false := by simp [hb]
      have h2 : (c == b) = false := by simp [Ne.symm hb]
      rw [h1, h2, Bool.false_or, ← ih]
      by_cases h3 : Lib.indexByte l c = -1
      · simp [h3]
      · have h4 : (Lib.indexByte l c == -1) = false := by simp [h3]
        simp only [h4, Bool.false_eq_true, if_false]
        exact decide_eq_decide.2 (by omega)
theorem ext_one (s : ByteArray) {i : Nat} (h : i < s.size) : s.extract i (i + 1) = ⟨#[s.data.toList[i]'(by rw [Array.length_toList]; exact h)]⟩ := by
  have hi : ∀ a b : ByteArray, a.data.toList = b.data.toList → a = b := fun a b h => by cases a; cases b; simp at h; simp [h]
  apply hi
  have hl : i < s.data.toList.length := by rw [Array.length_toList]; exact h
  rw [ByteArray.data_extract]
  simp only [Array.toList_extract, List.extract]
  rw [List.drop_eq_getElem_cons hl]
  simp
theorem hasFrom_contains (s : ByteArray) (b : UInt8) : ∀ d i : Nat, i + d = s.size → hasFrom s ⟨#[b]⟩ d i = (s.data.toList.drop i).contains b
  | 0, i, h => by
    rw [List.drop_of_length_le (by rw [Array.length_toList]; show s.size ≤ i; omega)]; rfl
  | d + 1, i, h => by
    have hl : i < s.data.toList.length := by rw [Array.length_toList]; show i < s.size; omega
    rw [hasFrom, ext_one s (by omega), List.drop_eq_getElem_cons hl, List.contains_cons, hasFrom_contains s b d (i + 1) (by omega)]
    congr 1
    by_cases he : s.data.toList[i] = b
    · simp [he]
    · have : ¬ (ByteArray.mk #[s.data.toList[i]] = ⟨#[b]⟩) := fun h => he (by injection h with h; injection h with h; injection h)
      have h2 : (b == s.data.toList[i]) = false := beq_false_of_ne (fun h => he h.symm)
      rw [h2]
      exact decide_eq_false this
theorem contains_flag (s p : ByteArray) (hp : p.size = 1) (N : Nat) : strings_Contains.f N [PV.sc (.string s), PV.sc (.string p)] = some [boolP (hasB s p)] := by
  have hi : strings_Index.f N [PV.sc (.string s), PV.sc (.string p)] = some [intP (Lib.indexByte s.data.toList (p.get! 0))] := by
    show indexDen [strP s, strP p] = _
    have : (if p.size = 1 then some [intP (Lib.indexByte s.data.toList (p.get! 0))] else none) = some [intP (Lib.indexByte s.data.toList (p.get! 0))] := if_pos hp
    exact this
  have e : hasB s p = decide (0 ≤ Lib.indexByte s.data.toList (p.get! 0)) := by
    rw [has01]
    unfold hasB
    conv => lhs; rw [one_bytes p hp]
    rw [hasFrom_contains s _ s.size 0 (by omega), List.drop_zero]
  rw [e]
  simp only [strings_Contains.f_eq, hi, stk, Int.reduceEq, Nat.reduceEqDiff, Int.reduceLE, Int.reduceLT] <;> rfl
def doI (a : Aff) (s : ByteArray) : List PV := match doB a s with
  | some x => [strP x, boolP true]
  | none => [strP ⟨#[]⟩, boolP false]
theorem implDo_ev {a : Aff} (ha : affB a = true) {s : ByteArray} (hw : isWord s = true) : Ev (fun N => impl_AffixDo.f N [affP a, strP s]) (doI a s) := by
  obtain ⟨⟨g1, g2⟩, g3, g4, g5, g6⟩ := affB_facts ha
  have hs := word_size hw
  have hok := implAffixOk_ev a ⟨by omega, by omega, by omega, by omega⟩
  have hwo := implWord_ev s (by omega)
  have hE := hasSuf_val s a.cond (by omega)
  have hB := hasPre_val s a.cond
  rw [ha] at hok
  rw [hw] at hwo
  simp only [strP] at hwo
  have nil0 : PV.sc (.string (ByteArray.mk #[])) = strP ⟨#[]⟩ := rfl
  unfold doI doB
  simp only [impl_AffixDo.f_eq, aff_f0, aff_f1, aff_f2, aff_f3, aff_f4, aff_agg, stk, Int.reduceEq, Nat.reduceEqDiff, Int.reduceLE, Int.reduceLT]
  refine Ev.bind hok ?_
  simp only [stk, Int.reduceEq, Nat.reduceEqDiff, Int.reduceLE, Int.reduceLT]
  refine Ev.bind hwo ?_
  rcases Bool.eq_false_or_eq_true a.front with hf | hf
  · have e1 : fitB a s = begB s a.cond := by simp [fitB, hf]
    have e2 : formB a s = a.add ++ s.extract a.strip.size s.size := by simp [formB, hf]
    rw [e1, e2]
    cases hb : begB s a.cond with
    | false => simp only [hf, hB, hb, stk, Int.reduceEq, Nat.reduceEqDiff, Int.reduceLE, Int.reduceLT]; exact Ev.now _
    | true =>
      have hz : a.cond.size ≤ s.size := by
        simp only [begB, Bool.and_eq_true, decide_eq_true_eq] at hb; exact hb.1
      have c1 : ((a.strip.size : Int) ≤ (s.size : Int)) = True := tru (by omega)
      have c2 : (a.add.size + (s.extract a.strip.size s.size).size ≤ 9223372036854775807) = True := tru (by rw [ByteArray.size_extract]; omega)
      have hw2 := implWord_ev (a.add ++ s.extract a.strip.size s.size) (by rw [ByteArray.size_append, ByteArray.size_extract]; omega)
      simp only [strP] at hw2
      simp only [hf, hB, hb, c1, c2, nn, stk, Int.reduceEq, Nat.reduceEqDiff, Int.reduceLE, Int.reduceLT]
      refine Ev.bind hw2 ?_
      cases hi : isWord (a.add ++ s.extract a.strip.size s.size) with
      | false => simp only [stk, Int.reduceEq, Nat.reduceEqDiff, Int.reduceLE, Int.reduceLT]; exact Ev.now _
      | true => simp only [stk, Int.reduceEq, Nat.reduceEqDiff, Int.reduceLE, Int.reduceLT]; exact Ev.now _
  · have e1 : fitB a s = endB s a.cond := by simp [fitB, hf]
    have e2 : formB a s = s.extract 0 (s.size - a.strip.size) ++ a.add := by simp [formB, hf]
    rw [e1, e2]
    cases hb : endB s a.cond with
    | false => simp only [hf, hE, hb, stk, Int.reduceEq, Nat.reduceEqDiff, Int.reduceLE, Int.reduceLT]; exact Ev.now _
    | true =>
      have hz : a.cond.size ≤ s.size := by
        simp only [endB, Bool.and_eq_true, decide_eq_true_eq] at hb; exact hb.1
      have w1 : IntKind.i64.wrap ((s.size : Int) - (a.strip.size : Int)) = ((s.size - a.strip.size : Nat) : Int) := nat_wrap (by omega) (by omega)
      have c1 : (((s.size - a.strip.size : Nat) : Int) ≤ (s.size : Int)) = True := tru (by omega)
      have c2 : ((s.extract 0 (s.size - a.strip.size)).size + a.add.size ≤ 9223372036854775807) = True := tru (by rw [ByteArray.size_extract]; omega)
      have hw2 := implWord_ev (s.extract 0 (s.size - a.strip.size) ++ a.add) (by rw [ByteArray.size_append, ByteArray.size_extract]; omega)
      simp only [strP] at hw2
      simp only [hf, hE, hb, w1, c1, c2, nn, stk, Int.reduceEq, Nat.reduceEqDiff, Int.reduceLE, Int.reduceLT]
      refine Ev.bind hw2 ?_
      cases hi : isWord (s.extract 0 (s.size - a.strip.size) ++ a.add) with
      | false => simp only [stk, Int.reduceEq, Nat.reduceEqDiff, Int.reduceLE, Int.reduceLT]; exact Ev.now _
      | true => simp only [stk, Int.reduceEq, Nat.reduceEqDiff, Int.reduceLE, Int.reduceLT]; exact Ev.now _
def addO (o : Option ByteArray) (out : List ByteArray) : List ByteArray := match o with
  | some x => out ++ [x]
  | none => out
def goB (flags stem : ByteArray) (front : Bool) (w : ByteArray) (a : Aff) : Bool := decide (a.front = front) && (hasB flags a.flag && (front || decide (w = stem)))
def addL (flags stem : ByteArray) (front : Bool) (w : ByteArray) : List Aff → List ByteArray → List ByteArray
  | [], out => out
  | a :: r, out => addL flags stem front w r (if goB flags stem front w a = true then addO (doB a w) out else out)
def addW (af : List Aff) (flags stem : ByteArray) (front : Bool) : List ByteArray → List ByteArray → List ByteArray
  | [], out => out
  | w :: r, out => addW af flags stem front r (addL flags stem front w af out)
theorem addO_len (o : Option ByteArray) (out : List ByteArray) : (addO o out).length ≤ out.length + 1 := by cases o <;> simp [addO]
theorem addL_len (flags stem : ByteArray) (front : Bool) (w : ByteArray) : ∀ (af : List Aff) (out : List ByteArray), (addL flags stem front w af out).length ≤ out.length + af.length
  | [], out => by simp [addL]
  | a :: r, out => by
    rw [addL, List.length_cons]
    split
    · have h1 := addL_len flags stem front w r (addO (doB a w) out); have h2 := addO_len (doB a w) out; omega
    · have h1 := addL_len flags stem front w r out; omega
theorem addW_len (af : List Aff) (flags stem : ByteArray) (front : Bool) : ∀ (ws out : List ByteArray), (addW af flags stem front ws out).length ≤ out.length + ws.length * af.length
  | [], out => by simp [addW]
  | w :: r, out => by
    have h1 := addW_len af flags stem front r (addL flags stem front w af out)
    have h2 := addL_len flags stem front w af out
    rw [addW, List.length_cons, Nat.add_mul, Nat.one_mul]; omega
theorem addL_mem (flags stem : ByteArray) (front : Bool) (w : ByteArray) : ∀ (af : List Aff) (out : List ByteArray) (x : ByteArray), x ∈ addL flags stem front w af out ↔ x ∈ out ∨ ∃ a ∈ af, goB flags stem front w a = true ∧ doB a w = some x
  | [], out, x => by simp [addL]
  | a :: r, out, x => by
    have ho : x ∈ addO (doB a w) out ↔ x ∈ out ∨ doB a w = some x := by
      cases hd : doB a w with
      | none => simp [addO]
      | some y => simp [addO, eq_comm]
    rw [addL, addL_mem flags stem front w r]
    split
    · rename_i hc
      rw [ho]
      constructor
      · rintro ((h | h) | ⟨b, hb, h⟩)
        · exact .inl h
        · exact .inr ⟨a, by simp, hc, h⟩
        · exact .inr ⟨b, by simp [hb], h⟩
      · rintro (h | ⟨b, hb, h1, h2⟩)
        · exact .inl (.inl h)
        · rcases List.mem_cons.1 hb with rfl | hb
          · exact .inl (.inr h2)
          · exact .inr ⟨b, hb, h1, h2⟩
    · rename_i hc
      constructor
      · rintro (h | ⟨b, hb, h⟩)
        · exact .inl h
        · exact .inr ⟨b, by simp [hb], h⟩
      · rintro (h | ⟨b, hb, h1, h2⟩)
        · exact .inl h
        · rcases List.mem_cons.1 hb with rfl | hb
          · exact absurd h1 hc
          · exact .inr ⟨b, hb, h1, h2⟩
theorem addW_mem (af : List Aff) (flags stem : ByteArray) (front : Bool) : ∀ (ws out : List ByteArray) (x : ByteArray), x ∈ addW af flags stem front ws out ↔ x ∈ out ∨ ∃ w ∈ ws, ∃ a ∈ af, goB flags stem front w a = true ∧ doB a w = some x
  | [], out, x => by simp [addW]
  | w :: r, out, x => by
    rw [addW, addW_mem af flags stem front r, addL_mem]
    constructor
    · rintro ((h | h) | ⟨v, hv, h⟩)
      · exact .inl h
      · exact .inr ⟨w, by simp, h⟩
      · exact .inr ⟨v, by simp [hv], h⟩
    · rintro (h | ⟨v, hv, h⟩)
      · exact .inl (.inl h)
      · rcases List.mem_cons.1 hv with rfl | hv
        · exact .inl (.inr h)
        · exact .inr ⟨v, hv, h⟩
theorem map_add (out : List ByteArray) (x : ByteArray) : out.map strP ++ [PV.sc (.string x)] = (out ++ [x]).map strP := by simp [strP]
def frontsL : List PV := [PV.sc (.bool false), PV.sc (.bool true)]
theorem forms_l2 {af : List Aff} (hg : ∀ a ∈ af, affB a = true) (hal : af.length ≤ 1000) {stem flags w : ByteArray} {front : Bool} (hw : isWord w = true) {k j l : Int} {y3 : List PV} {r : List PV} :
    ∀ (rest pre : List Aff) (out : List ByteArray), af = pre ++ rest → out.length + rest.length ≤ 100000000 →
    Ev3 (fun N m n => impl_Forms.l1 N m n (affsP af) front 2 k l (IntKind.i64.wrap (j + 1)) stem flags ((addL flags stem front w rest out).map strP) frontsL y3) r →
    Ev4 (fun N m0 m1 n => impl_Forms.l2 N m0 m1 n (affsP af) front w 2 k l j (affsP af) (af.length : Int) (pre.length : Int) stem flags (out.map strP) frontsL y3) r := by
  intro rest
  induction rest with
  | nil =>
    intro pre out hp hl hc
    refine Ev4.succ ?_
    simp only [impl_Forms.l2_eq, at_end hp, stk, Int.reduceEq, Nat.reduceEqDiff, Int.reduceLE, Int.reduceLT]
    exact hc.outer
  | cons a rest ih =>
    intro pre out hp hl hc
    have ha := hg a (by rw [hp]; simp)
    obtain ⟨_, hfs, _⟩ := affB_facts ha
    have hd := implDo_ev ha hw
    simp only [strP] at hd
    rw [List.length_cons] at hl
    have c1 : (out.length + 1 ≤ 8796093022208) = True := tru (by omega)
    rw [addL] at hc
    refine Ev4.succ ?_
    by_cases hf : a.front = front
    · cases hh : hasB flags a.flag with
      | false =>
        have hgo : goB flags stem front w a = false := by unfold goB; rw [hh]; simp
        rw [hgo] at hc
        simp only [impl_Forms.l2_eq, affs_len, affs_elem hp, at_lt hp, aff_f0, aff_f1, hf, contains_flag flags a.flag hfs, hh, at_next hp (by omega), stk, Int.reduceEq, Nat.reduceEqDiff, Int.reduceLE, Int.reduceLT]
        exact ih _ out (at_step hp) (by omega) hc
      | true =>
        cases hfr : front with
        | true =>
          subst hfr
          have hgo : goB flags stem true w a = true := by unfold goB; rw [hh, hf]; simp
          rw [hgo, if_pos rfl] at hc
          simp only [impl_Forms.l2_eq, affs_len, affs_elem hp, at_lt hp, aff_f0, aff_f1, aff_f2, aff_f3, aff_f4, hf, contains_flag flags a.flag hfs, hh, stk, Int.reduceEq, Nat.reduceEqDiff, Int.reduceLE, Int.reduceLT]
          have e : PV.agg [PV.sc (.string a.flag), PV.sc (.bool true), PV.sc (.string a.strip), PV.sc (.string a.add), PV.sc (.string a.cond)] = affP a := by rw [← aff_agg, hf]
          rw [e]
          refine Ev4.bind hd ?_
          unfold doI
          cases hdo : doB a w with
          | none =>
            rw [hdo] at hc
            simp only [at_next hp (by omega), stk, Int.reduceEq, Nat.reduceEqDiff, Int.reduceLE, Int.reduceLT]
            exact ih _ out (at_step hp) (by omega) hc
          | some x =>
            rw [hdo] at hc
            simp only [at_next hp (by omega), List.length_map, c1, map_add, stk, Int.reduceEq, Nat.reduceEqDiff, Int.reduceLE, Int.reduceLT]
            exact ih _ (out ++ [x]) (at_step hp) (by simp; omega) hc
        | false =>
          subst hfr
          by_cases hws : w = stem
          · have hgo : goB flags stem false w a = true := by unfold goB; rw [hh, hf, hws]; simp
            rw [hgo, if_pos rfl] at hc
            simp only [impl_Forms.l2_eq, affs_len, affs_elem hp, at_lt hp, aff_f0, aff_f1, aff_f2, aff_f3, aff_f4, hf, contains_flag flags a.flag hfs, hh, hws, stk, Int.reduceEq, Nat.reduceEqDiff, Int.reduceLE, Int.reduceLT]
            have e : PV.agg [PV.sc (.string a.flag), PV.sc (.bool false), PV.sc (.string a.strip), PV.sc (.string a.add), PV.sc (.string a.cond)] = affP a := by rw [← aff_agg, hf]
            rw [e]
            rw [hws] at hd hc ih
            refine Ev4.bind hd ?_
            unfold doI
            cases hdo : doB a stem with
            | none =>
              rw [hdo] at hc
              simp only [at_next hp (by omega), stk, Int.reduceEq, Nat.reduceEqDiff, Int.reduceLE, Int.reduceLT]
              exact ih _ out (at_step hp) (by omega) hc
            | some x =>
              rw [hdo] at hc
              simp only [at_next hp (by omega), List.length_map, c1, map_add, stk, Int.reduceEq, Nat.reduceEqDiff, Int.reduceLE, Int.reduceLT]
              exact ih _ (out ++ [x]) (at_step hp) (by simp; omega) hc
          · have hgo : goB flags stem false w a = false := by unfold goB; simp [hws]
            rw [hgo] at hc
            simp only [impl_Forms.l2_eq, affs_len, affs_elem hp, at_lt hp, aff_f0, aff_f1, hf, contains_flag flags a.flag hfs, hh, hws, at_next hp (by omega), stk, Int.reduceEq, Nat.reduceEqDiff, Int.reduceLE, Int.reduceLT]
            exact ih _ out (at_step hp) (by omega) hc
    · have hne : (a.front != front) = true := by simp [hf]
      have hgo : goB flags stem front w a = false := by unfold goB; simp [hf]
      rw [hgo] at hc
      simp only [impl_Forms.l2_eq, affs_len, affs_elem hp, at_lt hp, aff_f0, aff_f1, hne, at_next hp (by omega), stk, Int.reduceEq, Nat.reduceEqDiff, Int.reduceLE, Int.reduceLT]
      exact ih _ out (at_step hp) (by omega) hc
theorem forms_l1 {af : List Aff} (hg : ∀ a ∈ af, affB a = true) (hal : af.length ≤ 1000) {stem flags : ByteArray} {front : Bool} {ws : List ByteArray} (hws : ∀ x ∈ ws, isWord x = true) (hwl : ws.length ≤ 10000) {k : Int} {r : List PV} :
    ∀ (rest pre : List ByteArray) (out : List ByteArray), ws = pre ++ rest → out.length + rest.length * af.length ≤ 50000000 →
    Ev2 (fun N m => impl_Forms.l0 N m (affsP af) 2 (IntKind.i64.wrap (k + 1)) stem flags ((addW af flags stem front rest out).map strP) frontsL) r →
    Ev3 (fun N m n => impl_Forms.l1 N m n (affsP af) front 2 k (ws.length : Int) (pre.length : Int) stem flags (out.map strP) frontsL (ws.map strP)) r := by
  intro rest
  induction rest with
  | nil =>
    intro pre out hp hl hc
    refine Ev3.succ ?_
    simp only [impl_Forms.l1_eq, at_end hp, stk, Int.reduceEq, Nat.reduceEqDiff, Int.reduceLE, Int.reduceLT]
    exact hc.outer
  | cons w rest ih =>
    intro pre out hp hl hc
    have hw := hws w (by rw [hp]; simp)
    have h2 := addL_len flags stem front w af out
    rw [List.length_cons, Nat.add_mul, Nat.one_mul] at hl
    have hnext := ih (pre ++ [w]) (addL flags stem front w af out) (at_step hp) (by omega) hc
    rw [← at_next hp (by omega)] at hnext
    have eA : ([] : List PV) ++ ws.map strP = ws.map strP := rfl
    refine Ev3.succ ?_
    simp only [impl_Forms.l1_eq, at_lt hp, List.length_map, strs_mapL, strs_elem, at_getD hp, affs_len, stk, Int.reduceEq, Nat.reduceEqDiff, Int.reduceLE, Int.reduceLT]
    exact (forms_l2 hg hal hw af [] out rfl (by omega) hnext).start
theorem goB_front (flags stem w : ByteArray) (a : Aff) : goB flags stem true w a = true ↔ a.front = true ∧ hasB flags a.flag = true := by
  unfold goB; simp
theorem goB_back (flags stem w : ByteArray) (a : Aff) : goB flags stem false w a = true ↔ (a.front = false ∧ hasB flags a.flag = true) ∧ w = stem := by
  unfold goB; simp [and_assoc]
def out1 (af : List Aff) (e : Ent) : List ByteArray := addW af e.flags e.stem false [e.stem] [e.stem]
def out2 (af : List Aff) (e : Ent) : List ByteArray := addW af e.flags e.stem true (out1 af e) (out1 af e)
theorem out1_mem (af : List Aff) (e : Ent) (x : ByteArray) : x ∈ out1 af e ↔ x ∈ oneA e.flags false [e.stem] af [e.stem] := by
  unfold out1
  rw [addW_mem, oneA_mem]
  constructor
  · rintro (h | ⟨w, hw, a, ha, hg, hd⟩)
    · exact .inl h
    · rw [goB_back] at hg
      exact .inr ⟨a, ha, hg.1, w, hw, hd⟩
  · rintro (h | ⟨a, ha, hg, w, hw, hd⟩)
    · exact .inl h
    · exact .inr ⟨w, hw, a, ha, (goB_back _ _ _ _).2 ⟨hg, List.mem_singleton.1 hw⟩, hd⟩
theorem out2_mem (af : List Aff) (e : Ent) (x : ByteArray) : x ∈ out2 af e ↔ x ∈ formsB af e := by
  unfold out2 formsB
  rw [addW_mem, oneA_mem, out1_mem]
  constructor
  · rintro (h | ⟨w, hw, a, ha, hg, hd⟩)
    · exact .inl h
    · rw [goB_front] at hg
      exact .inr ⟨a, ha, hg, w, (out1_mem af e w).1 hw, hd⟩
  · rintro (h | ⟨a, ha, hg, w, hw, hd⟩)
    · exact .inl h
    · exact .inr ⟨w, (out1_mem af e w).2 hw, a, ha, (goB_front _ _ _ _).2 hg, hd⟩
theorem out1_facts {af : List Aff} {e : Ent} (he : entB e = true) (hal : af.length ≤ 8) : (out1 af e).length ≤ 9 ∧ ∀ x ∈ out1 af e, isWord x = true := by
  have h1 := addW_len af e.flags e.stem false [e.stem] [e.stem]
  simp only [List.length_singleton, Nat.one_mul] at h1
  refine ⟨by unfold out1; omega, fun x hx => ?_⟩
  unfold out1 at hx
  rw [addW_mem] at hx
  rcases hx with hx | ⟨w, _, a, _, _, hd⟩
  · rw [List.mem_singleton.1 hx]; exact (entB_facts he).1
  · exact doB_word hd
theorem out2_len {af : List Aff} {e : Ent} (he : entB e = true) (hal : af.length ≤ 8) : (out2 af e).length ≤ 100 := by
  have h0 := (out1_facts he hal).1
  have h1 := addW_len af e.flags e.stem true (out1 af e) (out1 af e)
  have h2 : (out1 af e).length * af.length ≤ 9 * 8 := Nat.mul_le_mul h0 hal
  unfold out2; omega
theorem implForms_ev {af : List Aff} (hB : affsB af = true) (hg : ∀ a ∈ af, affB a = true) (hal : af.length ≤ 8) {e : Ent} (he : entB e = true) :
    Ev (fun N => impl_Forms.f N [affsP af, entP e]) [strsP (formsB af e)] := by
  obtain ⟨f1, f2⟩ := out1_facts (af := af) he hal
  obtain ⟨s1, s2, s3⟩ := entB_facts he
  have hok := implAffs_ev af (by omega) (fun a ha => by obtain ⟨_, _, _, _, _⟩ := affB_facts (hg a ha); exact ⟨by omega, by omega, by omega, by omega⟩)
  have hen := implEntry_ev e ⟨by omega, by omega⟩
  have hsv := sorted_val (out2 af e) (by have := out2_len (af := af) he hal; omega)
  rw [sorted_eq (formsB_asc af e) (out2_mem af e)] at hsv
  rw [hB] at hok
  rw [he] at hen
  have e2 : ((frontsL.length : Nat) : Int) = 2 := rfl
  have efr : [PV.sc (.bool false), PV.sc (.bool true)] = frontsL := rfl
  have w1 : IntKind.i64.wrap ((0 : Int) + 1) = 1 := rfl
  have w2 : IntKind.i64.wrap ((1 : Int) + 1) = 2 := rfl
  have eapp : ∀ l : List ByteArray, ([] : List PV) ++ l.map strP = l.map strP := fun _ => rfl
  have l2 : Ev2 (fun N m => impl_Forms.l0 N m (affsP af) 2 2 e.stem e.flags ((out2 af e).map strP) frontsL) [strsP (formsB af e)] := by
    refine Ev2.succ ?_
    simp only [impl_Forms.l0_eq, strs_mapL, hsv, Int.lt_irrefl, stk, Int.reduceEq, Nat.reduceEqDiff, Int.reduceLE, Int.reduceLT]
    exact Ev2.now _
  have el1 : ((PV.list frontsL).elem (1 : Int).toNat).toBool = true := rfl
  have el0 : ((PV.list frontsL).elem (0 : Int).toNat).toBool = false := rfl
  have c1 : (([] : List PV).length + (out1 af e).length ≤ 8796093022208) = True := tru (by simp; omega)
  have hm := Nat.mul_le_mul f1 hal
  have l1 : Ev2 (fun N m => impl_Forms.l0 N m (affsP af) 2 1 e.stem e.flags ((out1 af e).map strP) frontsL) [strsP (formsB af e)] := by
    have h := (forms_l1 hg (by omega) (stem := e.stem) (flags := e.flags) (front := true) (k := 1) f2 (by omega) (out1 af e) [] (out1 af e) rfl (by omega) l2).start
    refine Ev2.succ ?_
    simp only [impl_Forms.l0_eq, el1, e2, List.length_map, c1, eapp, Int.reduceLT, Int.reduceLE, if_true, decide_true]
    exact h
  have l0 : Ev2 (fun N m => impl_Forms.l0 N m (affsP af) 2 0 e.stem e.flags ([e.stem].map strP) frontsL) [strsP (formsB af e)] := by
    have h := (forms_l1 hg (by omega) (stem := e.stem) (flags := e.flags) (front := false) (k := 0) (ws := [e.stem]) (by simpa using s1) (by simp) [e.stem] [] [e.stem] rfl (by simp; omega) l1).start
    have c2 : (([] : List PV).length + ([e.stem] : List ByteArray).length ≤ 8796093022208) = True := tru (by simp)
    refine Ev2.succ ?_
    simp only [impl_Forms.l0_eq, el0, e2, List.length_map, c2, eapp, Int.reduceLT, Int.reduceLE, Int.le_refl, if_true, decide_true]
    exact h
  have es : [PV.sc (.string e.stem)] = [e.stem].map strP := rfl
  simp only [impl_Forms.f_eq, ent_f0, ent_f1, ent_agg, es, efr, e2]
  refine Ev.bind hok ?_
  simp only [stk, Int.reduceEq, Nat.reduceEqDiff, Int.reduceLE, Int.reduceLT, ent_agg]
  refine Ev.bind hen ?_
  simp only [stk, Int.reduceEq, Nat.reduceEqDiff, Int.reduceLE, Int.reduceLT]
  exact l0.diag
def catW (af : List Aff) : List Ent → List ByteArray
  | [] => []
  | e :: r => formsB af e ++ catW af r
theorem catW_mem (af : List Aff) : ∀ (es : List Ent) (x : ByteArray), x ∈ catW af es ↔ ∃ e ∈ es, x ∈ formsB af e
  | [], x => by simp [catW]
  | e :: r, x => by rw [catW, List.mem_append, catW_mem af r]; simp
theorem implBookW_loop {af : List Aff} {es : List Ent} (h : BookOkF af es) : ∀ (rest pre : List Ent) (out : List ByteArray), es = pre ++ rest → (∀ x, x ∈ out ++ catW af rest ↔ ∃ e ∈ es, x ∈ formsB af e) → out.length ≤ 100 * pre.length →
    Ev2 (fun N n => impl_Book_words.l0 N n (entsP es) (es.length : Int) (pre.length : Int) (affsP af) (entsP es) (out.map strP)) [strsP (bookW af es)] := by
  have hel := h.el; have hal := h.al
  intro rest
  induction rest with
  | nil =>
    intro pre out hp hm hl
    have hpl : pre.length = es.length := by rw [hp]; simp
    have hsv := sorted_val out (by omega)
    rw [sorted_eq (bookW_asc af es) (fun x => by rw [bookW_mem, ← hm x]; simp [catW])] at hsv
    refine Ev2.succ ?_
    simp only [impl_Book_words.l0_eq, at_end hp, strs_mapL, hsv, stk, Int.reduceEq, Nat.reduceEqDiff, Int.reduceLE, Int.reduceLT]
    exact Ev2.now _
  | cons e rest ih =>
    intro pre out hp hm hl
    have hpl := at_ltN hp
    have he := h.ent e (by rw [hp]; simp)
    have hf := implForms_ev h.affs h.good hal he
    have hfl := formsB_len af e
    have hfl2 : (1 + af.length) * (1 + af.length) ≤ 9 * 9 := Nat.mul_le_mul (by omega) (by omega)
    have c1 : (out.length + (formsB af e).length ≤ 8796093022208) = True := tru (by omega)
    have ea : out.map strP ++ (strsP (formsB af e)).items = (out ++ formsB af e).map strP := by simp [strsP, PV.items]
    refine Ev2.succ ?_
    simp only [impl_Book_words.l0_eq, ents_len, ents_elem hp, at_lt hp, ent_f0, ent_f1, ent_agg, stk, Int.reduceEq, Nat.reduceEqDiff, Int.reduceLE, Int.reduceLT]
    refine Ev2.bind hf ?_
    simp only [List.length_map, c1, ea, at_next hp (by omega), stk, Int.reduceEq, Nat.reduceEqDiff, Int.reduceLE, Int.reduceLT]
    exact ih _ (out ++ formsB af e) (at_step hp) (fun x => by rw [← hm x, catW, List.append_assoc]) (by simp; omega)
theorem implBookW_ev {af : List Aff} {es : List Ent} (h : BookOkF af es) : Ev (fun N => impl_Book_words.f N [bookP af es]) [strsP (bookW af es)] := by
  simp only [impl_Book_words.f_eq, book_f0, book_f1, ents_len]
  exact (implBookW_loop h es [] [] rfl (fun x => by simp [catW_mem]) (by simp)).diag
theorem index_loop (a : List ByteArray) (c : ByteArray) (ha : a.length ≤ 9223372036854775807) : ∀ (rest pre : List ByteArray), a = pre ++ rest →
    ∃ r : Int, Ev2 (fun N n => slices_Index_string_string.l0 N n (strsP a) c (a.length : Int) (pre.length : Int)) [intP r] ∧ (0 ≤ r ↔ c ∈ rest) := by
  intro rest
  induction rest with
  | nil =>
    intro pre hp
    refine ⟨-1, Ev2.succ ?_, by simp⟩
    simp only [slices_Index_string_string.l0_eq, at_end hp, stk, Int.reduceEq, Nat.reduceEqDiff, Int.reduceLE, Int.reduceLT]
    exact Ev2.now _
  | cons x rest ih =>
    intro pre hp
    by_cases e : c = x
    · refine ⟨pre.length, Ev2.succ ?_, by simp [e]⟩
      simp only [slices_Index_string_string.l0_eq, at_lt hp, at_getD hp, e, stk, Int.reduceEq, Nat.reduceEqDiff, Int.reduceLE, Int.reduceLT]
      exact Ev2.now _
    · obtain ⟨r, hr, hv⟩ := ih _ (at_step hp)
      refine ⟨r, Ev2.succ ?_, by rw [hv]; simp [e]⟩
      simp only [slices_Index_string_string.l0_eq, at_lt hp, at_getD hp, e, at_next hp ha, stk, Int.reduceEq, Nat.reduceEqDiff, Int.reduceLE, Int.reduceLT]
      exact hr
theorem contains_ev (a : List ByteArray) (c : ByteArray) (ha : a.length ≤ 9223372036854775807) : Ev (fun N => slices_Contains_string_string.f N [strsP a, strP c]) [boolP (decide (c ∈ a))] := by
  obtain ⟨r, hr, hv⟩ := index_loop a c ha a [] rfl
  simp only [slices_Contains_string_string.f_eq, slices_Index_string_string.f_eq, stk, Int.reduceEq, Nat.reduceEqDiff, Int.reduceLE, Int.reduceLT]
  refine Ev.bind hr.diag ?_
  refine Ev.ext (Ev.now _) ?_
  simp only [stk, Int.reduceEq, Nat.reduceEqDiff, Int.reduceLE, Int.reduceLT]
  exact congrArg (fun b => [boolP b]) (decide_eq_decide.2 hv)
theorem Ev3.row {α : Type} {r : α} {g : Nat → Nat → Nat → Option α} (h : Ev3 g r) : Ev2 (fun N d => g N d N) r := by obtain ⟨k, hk⟩ := h; exact ⟨k, fun N d hN hd => hk N d N hN hd hN⟩
theorem Ev3.bind2 {α β : Type} {r : α} {s : β} {g : Nat → Nat → Option β} {f : Nat → Nat → Nat → β → Option α} (h : Ev2 g s) (k : Ev3 (fun N m n => f N m n s) r) : Ev3 (fun N m n => (g N m).bind (f N m n)) r := by
  obtain ⟨k1, h1⟩ := h; obtain ⟨k2, h2⟩ := k
  exact ⟨max k1 k2, fun N m n hN hm hn => by
    show (g N m).bind (f N m n) = _
    rw [h1 N m (by omega) (by omega), Option.bind_some]; exact h2 N m n (by omega) (by omega) (by omega)⟩
theorem nilC_nil {α : Type} (a : α) (b : PV → List PV → α) : nilC (strsP []).items a b = a := rfl
theorem nilC_cons {α : Type} (x : ByteArray) (r : List ByteArray) (a : α) (b : PV → List PV → α) : nilC (strsP (x :: r)).items a b = b (strP x) (r.map strP) := rfl
theorem parts_join (y x : ByteArray) (r : List ByteArray) : PV.list ([PV.sc (.string y)] ++ (strP x :: r.map strP)) = strsP (y :: x :: r) := rfl
theorem div_l0 {ws : List ByteArray} (hwl : ws.length ≤ 1000000) {w : ByteArray} (hw : w.size ≤ 1000000) {M : Nat} (hM : M ≤ 10)
    (hrec : ∀ v, 3 ≤ v.size → v.size ≤ 1000000 → Ev2 (fun N d => impl_divided.g N d [strsP ws, strP v, intP ((M + 1 : Nat) : Int)]) [strsP (partsM ws M v)]) :
    ∀ d0 k : Nat, (1 ≤ d0 → k + d0 + 2 = w.size) → (d0 = 0 → w.size < k + 3) → 3 ≤ k →
    Ev3 (fun N d n => impl_divided.l0 N d n (strsP ws) w ((M + 2 : Nat) : Int) (k : Int)) [strsP (partsAt ws (partsM ws M) w d0 k)] := by
  have w1 : IntKind.i64.wrap ((w.size : Int) - 3) = (w.size : Int) - 3 := wrap_id (by omega) (by omega)
  have w2 : IntKind.i64.wrap (((M + 2 : Nat) : Int) - 1) = ((M + 1 : Nat) : Int) := nat_wrap (by omega) (by omega)
  intro d0
  induction d0 with
  | zero =>
    intro k _ h0 h3
    have c0 : ((k : Int) ≤ (w.size : Int) - 3) = False := fls (by have := h0 rfl; omega)
    refine Ev3.succ ?_
    simp only [impl_divided.l0_eq, w1, c0, stk, Int.reduceEq, Nat.reduceEqDiff, Int.reduceLE, Int.reduceLT]
    exact Ev3.now _
  | succ d0 ih =>
    intro k hk _ h3
    have hk' := hk (by omega)
    have c0 : ((k : Int) ≤ (w.size : Int) - 3) = True := tru (by omega)
    have c1 : ((k : Int) ≤ (w.size : Int)) = True := tru (by omega)
    have wn : IntKind.i64.wrap ((k : Int) + 1) = ((k + 1 : Nat) : Int) := nat_wrap (by omega) (by omega)
    have hnext := ih (k + 1) (fun _ => by omega) (fun h => by omega) (by omega)
    have hct := contains_ev ws (w.extract 0 k) (by omega)
    simp only [strP] at hct
    refine Ev3.succ ?_
    simp only [impl_divided.l0_eq, w1, c0, c1, nn, stk, Int.reduceEq, Nat.reduceEqDiff, Int.reduceLE, Int.reduceLT]
    refine Ev3.bind hct ?_
    rw [partsAt]
    by_cases hm : w.extract 0 k ∈ ws
    · have hz : (w.extract k w.size).size = w.size - k := by rw [ByteArray.size_extract]; omega
      have hr := hrec (w.extract k w.size) (by omega) (by omega)
      simp only [strP] at hr
      simp only [hm, w2, stk, Int.reduceEq, Nat.reduceEqDiff, Int.reduceLE, Int.reduceLT]
      refine Ev3.bind2 hr ?_
      cases hp : partsM ws M (w.extract k w.size) with
      | nil =>
        simp only [nilC_nil, wn, stk, Int.reduceEq, Nat.reduceEqDiff, Int.reduceLE, Int.reduceLT]
        exact hnext
      | cons x r =>
        have hl := (partsM_ok ws M (w.extract k w.size) (by omega) (by rw [hp]; simp)).len
        rw [hp, List.length_cons] at hl
        have c2 : (1 + (strP x :: r.map strP).length ≤ 8796093022208) = True := tru (by simp; omega)
        simp only [nilC_cons, headD_one, List.length_singleton, c2, parts_join, if_true]
        exact Ev3.now _
    · simp only [hm, wn, stk, Int.reduceEq, Nat.reduceEqDiff, Int.reduceLE, Int.reduceLT]
      exact hnext
theorem div_g {ws : List ByteArray} (hwl : ws.length ≤ 1000000) : ∀ (M : Nat) (w : ByteArray), M ≤ 10 → (M = 0 → 3 ≤ w.size) → w.size ≤ 1000000 →
    Ev2 (fun N d => impl_divided.g N d [strsP ws, strP w, intP ((M + 1 : Nat) : Int)]) [strsP (partsM ws M w)] := by
  intro M
  induction M with
  | zero =>
    intro w _ h3 hw
    have c0 : (((0 + 1 : Nat) : Int) = 1) = True := tru rfl
    have c3 : ((3 : Int) ≤ (w.size : Int)) = True := tru (by have := h3 rfl; omega)
    have hct := contains_ev ws w (by omega)
    simp only [strP] at hct
    refine Ev2.succ ?_
    simp only [impl_divided.g_eq, c0, c3, stk, Int.reduceEq, Nat.reduceEqDiff, Int.reduceLE, Int.reduceLT]
    refine Ev2.bind hct ?_
    unfold partsM
    by_cases hm : w ∈ ws
    · simp only [hm, stk, Int.reduceEq, Nat.reduceEqDiff, Int.reduceLE, Int.reduceLT]; exact Ev2.now _
    · simp only [hm, stk, Int.reduceEq, Nat.reduceEqDiff, Int.reduceLE, Int.reduceLT]; exact Ev2.now _
  | succ M ih =>
    intro w hM _ hw
    have c0 : (((M + 1 + 1 : Nat) : Int) = 1) = False := fls (by omega)
    have h := Ev3.row (div_l0 hwl hw (by omega : M ≤ 10) (fun v h3 hv => ih v (by omega) (fun _ => h3) hv) (w.size - 5) 3 (fun _ => by omega) (fun _ => by omega) (Nat.le_refl _))
    refine Ev2.succ ?_
    simp only [impl_divided.g_eq, c0, stk, Int.reduceEq, Nat.reduceEqDiff, Int.reduceLE, Int.reduceLT]
    exact h
theorem div_ev {ws : List ByteArray} (hwl : ws.length ≤ 1000000) (M : Nat) (w : ByteArray) (hM : 1 ≤ M ∧ M ≤ 10) (hw : w.size ≤ 1000000) :
    Ev (fun N => impl_divided.f N [strsP ws, strP w, intP ((M + 1 : Nat) : Int)]) [strsP (partsM ws M w)] := by
  simp only [impl_divided.f_eq]
  exact (div_g hwl M w hM.2 (fun h => by omega) hw).diag
def partsR (af : List Aff) (es : List Ent) (w : ByteArray) : List ByteArray := if bookB af es = true ∧ isWord w = true then partsB (bookW af es) w else []
theorem bookW_len {af : List Aff} {es : List Ent} (h : BookOkF af es) : (bookW af es).length ≤ 2000 := by
  have h1 := wordsL2_len af es []
  have h2 := h.al
  have h3 := h.el
  have h4 : (1 + af.length) * (1 + af.length) ≤ 9 * 9 := Nat.mul_le_mul (by omega) (by omega)
  have h5 : es.length * ((1 + af.length) * (1 + af.length)) ≤ 24 * 81 := Nat.mul_le_mul h3 h4
  unfold bookW; simp only [List.length_nil] at h1; omega
theorem implParts_ev {af : List Aff} {es : List Ent} (hs : BookS af es) (w : ByteArray) (hw : w.size ≤ 1000000000) : Ev (fun N => impl_PartsOf.f N [bookP af es, strP w]) [strsP (partsR af es w)] := by
  have hwo := implWord_ev w (by omega)
  simp only [strP] at hwo
  have ne : PV.list [] = strsP [] := rfl
  simp only [impl_PartsOf.f_eq, book_f0, book_f1, book_agg, stk, Int.reduceEq, Nat.reduceEqDiff, Int.reduceLE, Int.reduceLT]
  refine Ev.bind (implBookOk_ev hs) ?_
  cases hb : bookB af es with
  | false =>
    simp only [partsR, hb, ne, stk, Int.reduceEq, Nat.reduceEqDiff, Int.reduceLE, Int.reduceLT]
    exact Ev.now _
  | true =>
    simp only [stk, Int.reduceEq, Nat.reduceEqDiff, Int.reduceLE, Int.reduceLT]
    refine Ev.bind hwo ?_
    cases hi : isWord w with
    | false =>
      simp only [partsR, hb, hi, ne, stk, Int.reduceEq, Nat.reduceEqDiff, Int.reduceLE, Int.reduceLT]
      exact Ev.now _
    | true =>
      have hF := bookB_facts hb
      have hlen := bookW_len hF
      have hsz := word_size hi
      have d1 := div_ev (ws := bookW af es) (by omega) 1 w (by omega) (by omega)
      have d2 := div_ev (ws := bookW af es) (by omega) 2 w (by omega) (by omega)
      have e1 : (((1 + 1 : Nat)) : Int) = 2 := rfl
      have e2 : (((2 + 1 : Nat)) : Int) = 3 := rfl
      rw [e1] at d1
      rw [e2] at d2
      simp only [strP, intP] at d1 d2
      have w1 : IntKind.i64.wrap ((2 : Int) + 1) = 3 := rfl
      have w2 : IntKind.i64.wrap ((3 : Int) + 1) = 4 := rfl
      simp only [stk, Int.reduceEq, Nat.reduceEqDiff, Int.reduceLE, Int.reduceLT]
      refine Ev.bind (implBookW_ev hF) ?_
      simp only [partsR, hb, hi, partsB, stk, Int.reduceEq, Nat.reduceEqDiff, Int.reduceLE, Int.reduceLT]
      refine Ev2.diag (g := fun N n => impl_PartsOf.l0 N n w 2 (strsP (bookW af es))) (Ev2.succ ?_)
      simp only [impl_PartsOf.l0_eq, stk, Int.reduceEq, Nat.reduceEqDiff, Int.reduceLE, Int.reduceLT]
      refine Ev2.bind d1 ?_
      cases h1 : partsM (bookW af es) 1 w with
      | cons x r =>
        simp only [nilC_cons, headD_one, stk, Int.reduceEq, Nat.reduceEqDiff, Int.reduceLE, Int.reduceLT]
        exact Ev2.now _
      | nil =>
        simp only [nilC_nil, headD_one, w1, stk, Int.reduceEq, Nat.reduceEqDiff, Int.reduceLE, Int.reduceLT]
        refine Ev2.succ ?_
        simp only [impl_PartsOf.l0_eq, stk, Int.reduceEq, Nat.reduceEqDiff, Int.reduceLE, Int.reduceLT]
        refine Ev2.bind d2 ?_
        cases h2 : partsM (bookW af es) 2 w with
        | cons x r =>
          simp only [nilC_cons, headD_one, stk, Int.reduceEq, Nat.reduceEqDiff, Int.reduceLE, Int.reduceLT]
          exact Ev2.now _
        | nil =>
          simp only [nilC_nil, headD_one, w2, stk, Int.reduceEq, Nat.reduceEqDiff, Int.reduceLE, Int.reduceLT]
          refine Ev2.succ ?_
          simp only [impl_PartsOf.l0_eq, ne, stk, Int.reduceEq, Nat.reduceEqDiff, Int.reduceLE, Int.reduceLT]
          exact Ev2.now _
theorem l2In_loop {ws : List ByteArray} (hwl : ws.length ≤ 9223372036854775807) (s : ByteArray) : ∀ rest pre : List ByteArray, ws = pre ++ rest → Ev2 (fun N n => spec_l2In.l0 N n (strsP ws) s (pre.length : Int)) [boolP (decide (s ∈ rest))] := by
  intro rest
  induction rest with
  | nil =>
    intro pre hp
    refine Ev2.succ ?_
    simp only [spec_l2In.l0_eq, at_end hp, stk, Int.reduceEq, Nat.reduceEqDiff, Int.reduceLE, Int.reduceLT]
    exact Ev2.ext (Ev2.now _) (by simp)
  | cons c rest ih =>
    intro pre hp
    refine Ev2.succ ?_
    by_cases hc : c = s
    · simp only [spec_l2In.l0_eq, at_lt hp, at_getD hp, hc, stk, Int.reduceEq, Nat.reduceEqDiff, Int.reduceLE, Int.reduceLT]
      exact Ev2.ext (Ev2.now _) (by simp)
    · have hd : decide (s ∈ c :: rest) = decide (s ∈ rest) := by simp [Ne.symm hc]
      simp only [spec_l2In.l0_eq, at_lt hp, at_getD hp, hc, at_next hp hwl, hd, stk, Int.reduceEq, Nat.reduceEqDiff, Int.reduceLE, Int.reduceLT]
      exact ih _ (at_step hp)
theorem l2In_ev {ws : List ByteArray} (hwl : ws.length ≤ 9223372036854775807) (s : ByteArray) : Ev (fun N => spec_l2In.f N [strsP ws, PV.sc (.string s)]) [boolP (decide (s ∈ ws))] := by
  simp only [spec_l2In.f_eq, stk, Int.reduceEq, Nat.reduceEqDiff, Int.reduceLE, Int.reduceLT]
  exact (l2In_loop hwl s ws [] rfl).diag
theorem parts_l0 {ws : List ByteArray} (hwl : ws.length ≤ 1000000) {w : ByteArray} (hw : w.size ≤ 1000000) {M : Nat} (hM : M ≤ 10)
    (hrec : ∀ v, 3 ≤ v.size → v.size ≤ 1000000 → Ev2 (fun N d => spec_l10Parts.g N d [strsP ws, strP v, intP ((M + 1 : Nat) : Int)]) [strsP (partsM ws M v)]) :
    ∀ d0 k : Nat, (1 ≤ d0 → k + d0 + 2 = w.size) → (d0 = 0 → w.size < k + 3) → 3 ≤ k → k ≤ w.size + 3 →
    Ev3 (fun N d n => spec_l10Parts.l0 N d n (strsP ws) w ((M + 2 : Nat) : Int) (k : Int)) [strsP (partsAt ws (partsM ws M) w d0 k)] := by
  have w2 : IntKind.i64.wrap (((M + 2 : Nat) : Int) - 1) = ((M + 1 : Nat) : Int) := nat_wrap (by omega) (by omega)
  intro d0
  induction d0 with
  | zero =>
    intro k _ h0 h3 hk3
    have h0' := h0 rfl
    have w1 : IntKind.i64.wrap ((k : Int) + 3) = ((k + 3 : Nat) : Int) := nat_wrap (by omega) (by omega)
    have c0 : (((k + 3 : Nat) : Int) ≤ (w.size : Int)) = False := fls (by omega)
    refine Ev3.succ ?_
    simp only [spec_l10Parts.l0_eq, w1, c0, stk, Int.reduceEq, Nat.reduceEqDiff, Int.reduceLE, Int.reduceLT]
    exact Ev3.now _
  | succ d0 ih =>
    intro k hk _ h3 _
    have hk' := hk (by omega)
    have w1 : IntKind.i64.wrap ((k : Int) + 3) = ((k + 3 : Nat) : Int) := nat_wrap (by omega) (by omega)
    have c0 : (((k + 3 : Nat) : Int) ≤ (w.size : Int)) = True := tru (by omega)
    have c1 : ((k : Int) ≤ (w.size : Int)) = True := tru (by omega)
    have wn : IntKind.i64.wrap ((k : Int) + 1) = ((k + 1 : Nat) : Int) := nat_wrap (by omega) (by omega)
    have hnext := ih (k + 1) (fun _ => by omega) (fun h => by omega) (by omega) (by omega)
    refine Ev3.succ ?_
    simp only [spec_l10Parts.l0_eq, w1, c0, c1, nn, stk, Int.reduceEq, Nat.reduceEqDiff, Int.reduceLE, Int.reduceLT]
    refine Ev3.bind (l2In_ev (by omega) _) ?_
    rw [partsAt]
    by_cases hm : w.extract 0 k ∈ ws
    · have hz : (w.extract k w.size).size = w.size - k := by rw [ByteArray.size_extract]; omega
      have hr := hrec (w.extract k w.size) (by omega) (by omega)
      simp only [strP] at hr
      simp only [hm, w2, stk, Int.reduceEq, Nat.reduceEqDiff, Int.reduceLE, Int.reduceLT]
      refine Ev3.bind2 hr ?_
      cases hp : partsM ws M (w.extract k w.size) with
      | nil =>
        have c3 : ((0 : Int) < (([] : List ByteArray).length : Int)) = False := fls (by simp)
        simp only [headD_one, strs_len, c3, wn, stk, Int.reduceEq, Nat.reduceEqDiff, Int.reduceLE, Int.reduceLT]
        exact hnext
      | cons x r =>
        have hl := (partsM_ok ws M (w.extract k w.size) (by omega) (by rw [hp]; simp)).len
        rw [hp, List.length_cons] at hl
        have c3 : ((0 : Int) < ((x :: r).length : Int)) = True := tru (by simp)
        have c2 : (1 + (x :: r).length ≤ 8796093022208) = True := tru (by simp; omega)
        have ej : PV.list ([PV.sc (.string (w.extract 0 k))] ++ (strsP (x :: r)).items) = strsP (w.extract 0 k :: x :: r) := rfl
        simp only [headD_one, strs_len, List.length_singleton, c3, c2, ej, if_true, decide_true]
        exact Ev3.now _
    · simp only [hm, wn, stk, Int.reduceEq, Nat.reduceEqDiff, Int.reduceLE, Int.reduceLT]
      exact hnext
theorem parts_g {ws : List ByteArray} (hwl : ws.length ≤ 1000000) : ∀ (M : Nat) (w : ByteArray), M ≤ 10 → w.size ≤ 1000000 →
    Ev2 (fun N d => spec_l10Parts.g N d [strsP ws, strP w, intP ((M + 1 : Nat) : Int)]) [strsP (partsM ws M w)] := by
  intro M
  induction M with
  | zero =>
    intro w _ hw
    have c0 : (((0 + 1 : Nat) : Int) = 1) = True := tru rfl
    refine Ev2.succ ?_
    simp only [spec_l10Parts.g_eq, c0, stk, Int.reduceEq, Nat.reduceEqDiff, Int.reduceLE, Int.reduceLT]
    refine Ev2.bind (l2In_ev (by omega) w) ?_
    unfold partsM
    by_cases hm : w ∈ ws
    · simp only [hm, stk, Int.reduceEq, Nat.reduceEqDiff, Int.reduceLE, Int.reduceLT]; exact Ev2.now _
    · simp only [hm, stk, Int.reduceEq, Nat.reduceEqDiff, Int.reduceLE, Int.reduceLT]; exact Ev2.now _
  | succ M ih =>
    intro w hM hw
    have c0 : (((M + 1 + 1 : Nat) : Int) = 1) = False := fls (by omega)
    have h := Ev3.row (parts_l0 hwl hw (by omega : M ≤ 10) (fun v h3 hv => ih v (by omega) hv) (w.size - 5) 3 (fun _ => by omega) (fun _ => by omega) (Nat.le_refl _) (by omega))
    refine Ev2.succ ?_
    simp only [spec_l10Parts.g_eq, c0, stk, Int.reduceEq, Nat.reduceEqDiff, Int.reduceLE, Int.reduceLT]
    exact h
theorem l10Of_ev {ws : List ByteArray} (hwl : ws.length ≤ 1000000) (w : ByteArray) (hw : w.size ≤ 1000000) : Ev (fun N => spec_l10Of.f N [strsP ws, PV.sc (.string w)]) [strsP (partsB ws w)] := by
  have d1 := parts_g (ws := ws) hwl 1 w (by omega) hw
  have d2 := parts_g (ws := ws) hwl 2 w (by omega) hw
  have e1 : (((1 + 1 : Nat)) : Int) = 2 := rfl
  have e2 : (((2 + 1 : Nat)) : Int) = 3 := rfl
  rw [e1] at d1
  rw [e2] at d2
  simp only [strP, intP] at d1 d2
  simp only [spec_l10Of.f_eq, spec_l10Parts.f_eq, stk, Int.reduceEq, Nat.reduceEqDiff, Int.reduceLE, Int.reduceLT]
  refine Ev.bind d1.diag ?_
  unfold partsB
  cases h1 : partsM ws 1 w with
  | cons x r =>
    have c3 : ((0 : Int) < ((x :: r).length : Int)) = True := tru (by simp)
    simp only [c3, stk, Int.reduceEq, Nat.reduceEqDiff, Int.reduceLE, Int.reduceLT]
    exact Ev.now _
  | nil =>
    have c3 : ((0 : Int) < (([] : List ByteArray).length : Int)) = False := fls (by simp)
    simp only [c3, stk, Int.reduceEq, Nat.reduceEqDiff, Int.reduceLE, Int.reduceLT]
    refine Ev.bind d2.diag ?_
    simp only [stk, Int.reduceEq, Nat.reduceEqDiff, Int.reduceLE, Int.reduceLT]
    exact Ev.now _
theorem implKnows_ev {af : List Aff} {es : List Ent} (hs : BookS af es) (hb : bookB af es = true) (w : ByteArray) : Ev (fun N => impl_BookKnows.f N [bookP af es, strP w]) [boolP (decide (w ∈ bookW af es))] := by
  have hF := bookB_facts hb
  have hlen := bookW_len hF
  have hct := contains_ev (bookW af es) w (by omega)
  simp only [strP] at hct
  have hok := implBookOk_ev hs
  rw [hb] at hok
  simp only [impl_BookKnows.f_eq, book_f0, book_f1, book_agg, stk, Int.reduceEq, Nat.reduceEqDiff, Int.reduceLE, Int.reduceLT]
  refine Ev.bind hok ?_
  simp only [stk, Int.reduceEq, Nat.reduceEqDiff, Int.reduceLE, Int.reduceLT]
  refine Ev.bind (implBookW_ev hF) ?_
  simp only [stk, Int.reduceEq, Nat.reduceEqDiff, Int.reduceLE, Int.reduceLT]
  refine Ev.bind hct ?_
  simp only [stk, Int.reduceEq, Nat.reduceEqDiff, Int.reduceLE, Int.reduceLT]
  exact Ev.now _
def lowI (c : Int) : Int := if 65 ≤ c ∧ c ≤ 90 then c + 32 else c
abbrev u8P (n : Int) : PV := .sc (.int .u8 n)
theorem u8_id {n : Int} (h0 : 0 ≤ n) (h1 : n ≤ 255) : IntKind.u8.wrap n = n := by
  have : IntKind.u8.wrap n = n % 256 := by simp [IntKind.wrap, IntKind.signed, IntKind.bits]
  rw [this]; omega
theorem bytesOf_range (s : ByteArray) : ∀ c ∈ bytesOf s, 0 ≤ c ∧ c ≤ 255 := by
  intro c hc
  obtain ⟨b, _, rfl⟩ := List.mem_map.1 hc
  have := b.toNat_lt
  omega
theorem bytesL_eq (s : ByteArray) : bytesL s = (bytesOf s).map u8P := by simp [bytesL, bytesOf]
theorem bytesOf_ofL {l : List Int} (h : ∀ c ∈ l, 0 ≤ c ∧ c ≤ 255) : bytesOf (bytesOfL (l.map u8P)) = l := by
  simp only [bytesOf, bytesOfL, List.map_map]
  have : ∀ c ∈ l, ((fun b : UInt8 => (b.toNat : Int)) ∘ (fun p : PV => UInt8.ofNat p.toInt.toNat) ∘ u8P) c = c := fun c hc => by
    have := h c hc
    simp only [Function.comp_apply, u8P, PV.toInt, UInt8.toNat_ofNat']
    omega
  exact (List.map_congr_left this).trans (List.map_id l)
theorem lowerM_bytes (s : ByteArray) : bytesOf (lowerM s) = (bytesOf s).map lowI := by
  simp only [bytesOf, lowerM, Lib.toLowerA, List.map_map]
  refine List.map_congr_left fun b _ => ?_
  have key : ∀ n : Fin 256, (((Lib.lowerB (UInt8.ofNat n.val)).toNat : Nat) : Int) = (if 65 ≤ (n.val : Int) ∧ (n.val : Int) ≤ 90 then (n.val : Int) + 32 else (n.val : Int)) := by decide
  have h := key ⟨b.toNat, b.toNat_lt⟩
  simp only [UInt8.ofNat_toNat] at h
  exact h
theorem lower_loop2 : ∀ (rest pre : List Int), (∀ c ∈ pre ++ rest, 0 ≤ c ∧ c ≤ 255) → (pre ++ rest).length < 9223372036854775807 →
    ∃ r : ByteArray, bytesOf r = pre ++ rest.map lowI ∧ Ev2 (fun N n => spec_l4Small.l0 N n (pre.length : Int) ((pre ++ rest).map u8P)) [strP r] := by
  intro rest
  induction rest with
  | nil =>
    intro pre hr hl
    refine ⟨bytesOfL ((pre ++ []).map u8P), by rw [bytesOf_ofL hr]; simp, Ev2.succ ?_⟩
    have h0 : ¬ (pre.length : Int) < (((pre ++ []).map u8P).length : Int) := by simp
    simp only [spec_l4Small.l0_eq, h0, stk, Int.reduceEq, Nat.reduceEqDiff, Int.reduceLE, Int.reduceLT]
    exact Ev2.now _
  | cons c rest ih =>
    intro pre hr hl
    have hc := hr c (by simp)
    have h0 : (pre.length : Int) < (((pre ++ c :: rest).map u8P).length : Int) := by simp; omega
    have he : ((PV.list ((pre ++ c :: rest).map u8P)).elem pre.length).toInt = c := by simp [PV.elem, PV.items, List.getD_eq_getElem?_getD, PV.toInt]
    have hw : IntKind.i64.wrap ((pre.length : Int) + 1) = ((pre.length + 1 : Nat) : Int) := by
      rw [wrap_id (by omega) (by simp at hl; omega)]; omega
    by_cases h : 65 ≤ c ∧ c ≤ 90
    · have hup : lowI c = c + 32 := by unfold lowI; rw [if_pos h]
      have hset : ((pre ++ c :: rest).map u8P).set pre.length (PV.sc (.int .u8 (c + 32))) = ((pre ++ [lowI c]) ++ rest).map u8P := by
        have := set_mid (pre.map u8P) (u8P c) (u8P (c + 32)) (rest.map u8P)
        rw [List.length_map] at this
        rw [List.map_append, List.map_cons, this, hup]; simp
      have hu : IntKind.u8.wrap (c + 32) = c + 32 := u8_id (by omega) (by omega)
      obtain ⟨r, hr2, hv⟩ := ih (pre ++ [lowI c]) (fun x hx => by
        simp only [List.mem_append, List.mem_singleton] at hx
        rcases hx with (hx | rfl) | hx
        · exact hr x (by simp [hx])
        · rw [hup]; omega
        · exact hr x (by simp [hx])) (by simp at hl ⊢; omega)
      refine ⟨r, by rw [hr2]; simp, Ev2.succ ?_⟩
      have hll : (pre ++ [lowI c]).length = pre.length + 1 := by simp
      rw [hll] at hv
      simp only [spec_l4Small.l0_eq, h0, he, hw, hu, hset, h.1, h.2, nat_int, nn, decide_true, if_true]
      exact hv
    · have hup : lowI c = c := by unfold lowI; rw [if_neg h]
      obtain ⟨r, hr2, hv⟩ := ih (pre ++ [c]) (fun x hx => hr x (by simpa using hx)) (by simp at hl ⊢; omega)
      refine ⟨r, by rw [hr2]; simp [hup], Ev2.succ ?_⟩
      have hll : (pre ++ [c]).length = pre.length + 1 := by simp
      have hap : (pre ++ [c]) ++ rest = pre ++ c :: rest := by simp
      rw [hll, hap] at hv
      by_cases h1 : 65 ≤ c
      · have h2 : ¬ c ≤ 90 := fun h2 => h ⟨h1, h2⟩
        simp only [spec_l4Small.l0_eq, h0, he, hw, h1, h2, nat_int, nn, decide_true, decide_false, if_true, if_false, Bool.false_eq_true]
        exact hv
      · simp only [spec_l4Small.l0_eq, h0, he, hw, h1, nat_int, nn, decide_true, decide_false, if_true, if_false, Bool.false_eq_true]
        exact hv
theorem specSmall_ev (s : ByteArray) (hs : s.size < 9223372036854775807) : Ev (fun N => spec_l4Small.f N [strP s]) [strP (lowerM s)] := by
  obtain ⟨r, hr, hv⟩ := lower_loop2 (bytesOf s) [] (by simpa using bytesOf_range s) (by simpa [bytesOf_len] using hs)
  have e : r = lowerM s := bytesOf_inj (by rw [hr, lowerM_bytes]; simp)
  have h1 : s.size ≤ 9223372036854775807 := by omega
  simp only [spec_l4Small.f_eq, h1, bytesL_eq, stk, Int.reduceEq, Nat.reduceEqDiff, Int.reduceLE, Int.reduceLT]
  rw [← e]
  exact hv.diag
theorem implLow_val (s : ByteArray) (hs : s.size ≤ 140737488355328) (ha : ∀ c ∈ bytesOf s, c < 128) (N : Nat) : strings_ToLower.f N [strP s] = some [strP (lowerM s)] := by
  have hasc : asciiB s = true := List.all_eq_true.2 fun b hb => by
    have := ha (b.toNat : Int) (List.mem_map.2 ⟨b, hb, rfl⟩)
    simp; omega
  show lowerDen [strP s] = _
  simp only [lowerDen, hasc, hs, if_true]
def isLet (c : Int) : Bool := (decide (97 ≤ c) && decide (c ≤ 122)) || (decide (65 ≤ c) && decide (c ≤ 90))
theorem implLet_val (k : IntKind) (c : Int) (N : Nat) : impl_letter.f N [.sc (.int k c)] = some [boolP (isLet c)] := by
  have hu := implUp_val .u8 c N
  by_cases h1 : 97 ≤ c
  · by_cases h2 : c ≤ 122
    · simp only [impl_letter.f_eq, h1, h2, isLet, Bool.true_or, stk, Int.reduceEq, Nat.reduceEqDiff, Int.reduceLE, Int.reduceLT]
    · simp only [impl_letter.f_eq, h1, h2, hu, isLet, Bool.false_or, stk, Int.reduceEq, Nat.reduceEqDiff, Int.reduceLE, Int.reduceLT]
  · simp only [impl_letter.f_eq, h1, hu, isLet, Bool.false_or, stk, Int.reduceEq, Nat.reduceEqDiff, Int.reduceLE, Int.reduceLT]
theorem specLet_val (k : IntKind) (c : Int) (N : Nat) : spec_l4Letter.f N [.sc (.int k c)] = some [boolP (isLet c)] := by
  by_cases h1 : 97 ≤ c
  · by_cases h2 : c ≤ 122
    · simp only [spec_l4Letter.f_eq, h1, h2, isLet, Bool.true_or, stk, Int.reduceEq, Nat.reduceEqDiff, Int.reduceLE, Int.reduceLT]
    · by_cases h3 : 65 ≤ c
      · simp only [spec_l4Letter.f_eq, h1, h2, h3, isLet, Bool.false_or, stk, Int.reduceEq, Nat.reduceEqDiff, Int.reduceLE, Int.reduceLT] <;> rfl
      · simp only [spec_l4Letter.f_eq, h1, h2, h3, isLet, Bool.false_or, stk, Int.reduceEq, Nat.reduceEqDiff, Int.reduceLE, Int.reduceLT]
  · by_cases h3 : 65 ≤ c
    · simp only [spec_l4Letter.f_eq, h1, h3, isLet, Bool.false_or, stk, Int.reduceEq, Nat.reduceEqDiff, Int.reduceLE, Int.reduceLT] <;> rfl
    · simp only [spec_l4Letter.f_eq, h1, h3, isLet, Bool.false_or, stk, Int.reduceEq, Nat.reduceEqDiff, Int.reduceLE, Int.reduceLT]
def runLen : List Int → Nat
  | [] => 0
  | c :: r => if isLet c = true then runLen r + 1 else 0
theorem runLen_le : ∀ l : List Int, runLen l ≤ l.length
  | [] => Nat.le_refl _
  | c :: r => by
    have := runLen_le r
    rw [runLen]; split <;> simp; omega
abbrev Gs := ByteArray × Nat
def gP (g : Gs) : PV := .agg [strP g.1, intP (g.2 : Int)]
def gsP (l : List Gs) : PV := .list (l.map gP)
theorem g_f0 (g : Gs) : (gP g).fld 0 = strP g.1 := rfl
theorem g_f1 (g : Gs) : (gP g).fld 1 = intP (g.2 : Int) := rfl
theorem g_agg (g : Gs) : PV.agg [PV.sc (.string g.1), PV.sc (.int .i64 (g.2 : Int))] = gP g := rfl
theorem g_mk (s : ByteArray) (n : Nat) : PV.agg [PV.sc (.string s), PV.sc (.int .i64 (n : Int))] = gP (s, n) := rfl
theorem gs_len (l : List Gs) : (gsP l).items.length = l.length := by simp [gsP, PV.items]
theorem gs_elem {l pre rest : List Gs} {g : Gs} (h : l = pre ++ g :: rest) : (gsP l).elem pre.length = gP g := by
  subst h
  simp [gsP, PV.elem, PV.items, List.getD_eq_getElem?_getD]
theorem gs_snoc (l : List Gs) (g : Gs) : l.map gP ++ [gP g] = (l ++ [g]).map gP := by simp
theorem gs_list (l : List Gs) : PV.list (l.map gP) = gsP l := rfl
def itemM (W : List ByteArray) (s : ByteArray) (a e : Nat) : List Gs := if lowerM (s.extract a e) ∈ W then [] else [(lowerM (s.extract a e), a)]
def chkM (W : List ByteArray) (s : ByteArray) : List Int → Nat → Bool → List Gs
  | [], _, _ => []
  | c :: r, i, prev => if isLet c = true then (if prev = true then chkM W s r (i + 1) true else itemM W s i (i + 1 + runLen r) ++ chkM W s r (i + 1) true) else chkM W s r (i + 1) false
theorem item_len (W : List ByteArray) (s : ByteArray) (a e : Nat) : (itemM W s a e).length ≤ 1 := by unfold itemM; split <;> simp
theorem chk_len (W : List ByteArray) (s : ByteArray) : ∀ (l : List Int) (i : Nat) (p : Bool), (chkM W s l i p).length ≤ l.length
  | [], _, _ => Nat.le_refl _
  | c :: r, i, p => by
    have h1 := chk_len W s r (i + 1) true
    have h2 := chk_len W s r (i + 1) false
    have h3 := item_len W s i (i + 1 + runLen r)
    rw [chkM]
    split
    · split
      · simp; omega
      · simp; omega
    · simp; omega
theorem chk_skip (W : List ByteArray) (s : ByteArray) : ∀ (l : List Int) (i : Nat), chkM W s l i true = chkM W s (l.drop (runLen l)) (i + runLen l) false
  | [], i => rfl
  | c :: r, i => by
    rw [chkM, runLen]
    by_cases h : isLet c = true
    · rw [if_pos h, if_pos rfl, if_pos h, chk_skip W s r (i + 1), List.drop_succ_cons]
      congr 1; omega
    · rw [if_neg h, if_neg h, List.drop_zero, chkM, if_neg h]
theorem let_ascii {c : Int} (h : isLet c = true) : c < 128 := by
  simp only [isLet, Bool.or_eq_true, Bool.and_eq_true, decide_eq_true_eq] at h
  omega
theorem implChk_l1 {W : List ByteArray} (hW : W.length ≤ 1000000) {s : ByteArray} (hs : s.size ≤ 1000000) {a : Nat} {out : List Gs} (hout : out.length ≤ 2000000) {r : List PV} : ∀ (rest pre : List Int), bytesOf s = pre ++ rest → a ≤ pre.length → (∀ c ∈ pre.drop a, isLet c = true) →
    Ev2 (fun N m => impl_Check.l0 N m s ((pre.length + runLen rest : Nat) : Int) ((out ++ itemM W s a (pre.length + runLen rest)).map gP) (strsP W)) r →
    Ev3 (fun N m n => impl_Check.l1 N m n s (a : Int) (pre.length : Int) (out.map gP) (strsP W)) r := by
  have body : ∀ (pre rest : List Int), bytesOf s = pre ++ rest → a ≤ pre.length → (∀ c ∈ pre.drop a, isLet c = true) →
      (((a : Int) ≤ (pre.length : Int)) = True ∧ ((pre.length : Int) ≤ (s.size : Int)) = True) ∧ (∀ N, strings_ToLower.f N [PV.sc (.string (s.extract a pre.length))] = some [strP (lowerM (s.extract a pre.length))]) := by
    intro pre rest hp ha hl
    have hz : pre.length ≤ s.size := by have := congrArg List.length hp; rw [bytesOf_len] at this; simp at this; omega
    refine ⟨⟨tru (by omega), tru (by omega)⟩, fun N => implLow_val _ (by rw [ByteArray.size_extract]; omega) (fun c hc => ?_) N⟩
    rw [bytes_ext, hp, List.drop_append_of_le_length ha] at hc
    rw [List.take_append_of_le_length (by rw [List.length_drop]; omega), List.take_of_length_le (by rw [List.length_drop]; omega)] at hc
    exact let_ascii (hl c hc)
  intro rest
  induction rest with
  | nil =>
    intro pre hp ha hl hc
    obtain ⟨⟨c1, c2⟩, hlow⟩ := body pre [] hp ha hl
    have hct := contains_ev W (lowerM (s.extract a pre.length)) (by omega)
    simp only [strP] at hct
    have hap : (out.length + 1 ≤ 5864062014805) = True := tru (by omega)
    simp only [runLen, Nat.add_zero] at hc
    refine Ev3.succ ?_
    simp only [impl_Check.l1_eq, at_sizeE hp, c1, c2, nn, hlow, stk, Int.reduceEq, Nat.reduceEqDiff, Int.reduceLE, Int.reduceLT]
    refine Ev3.bind hct ?_
    unfold itemM at hc
    by_cases hm : lowerM (s.extract a pre.length) ∈ W
    · rw [if_pos hm, List.append_nil] at hc
      simp only [hm, stk, Int.reduceEq, Nat.reduceEqDiff, Int.reduceLE, Int.reduceLT]
      exact hc.outer
    · rw [if_neg hm] at hc
      simp only [hm, List.length_map, hap, g_mk, gs_snoc, stk, Int.reduceEq, Nat.reduceEqDiff, Int.reduceLE, Int.reduceLT]
      exact hc.outer
  | cons c rest ih =>
    intro pre hp ha hl hc
    cases hlc : isLet c with
    | true =>
      have e : pre.length + runLen (c :: rest) = (pre ++ [c]).length + runLen rest := by rw [runLen, if_pos hlc]; simp; omega
      rw [e] at hc
      refine Ev3.succ ?_
      simp only [impl_Check.l1_eq, at_size hp, at_bt hp, implLet_val, hlc, at_next hp (by rw [bytesOf_len]; omega), stk, Int.reduceEq, Nat.reduceEqDiff, Int.reduceLE, Int.reduceLT]
      refine ih _ (at_step hp) (by simp; omega) (fun x hx => ?_) hc
      rw [List.drop_append_of_le_length ha] at hx
      rcases List.mem_append.1 hx with hx | hx
      · exact hl x hx
      · rw [List.mem_singleton.1 hx]; exact hlc
    | false =>
      have hn : ¬ (isLet c = true) := by rw [hlc]; simp
      have e : pre.length + runLen (c :: rest) = pre.length := by rw [runLen, if_neg hn]; rfl
      rw [e] at hc
      obtain ⟨⟨c1, c2⟩, hlow⟩ := body pre (c :: rest) hp ha hl
      have hct := contains_ev W (lowerM (s.extract a pre.length)) (by omega)
      simp only [strP] at hct
      have hap : (out.length + 1 ≤ 5864062014805) = True := tru (by omega)
      refine Ev3.succ ?_
      simp only [impl_Check.l1_eq, at_size hp, at_bt hp, implLet_val, hlc, c1, c2, nn, hlow, stk, Int.reduceEq, Nat.reduceEqDiff, Int.reduceLE, Int.reduceLT]
      refine Ev3.bind hct ?_
      unfold itemM at hc
      by_cases hm : lowerM (s.extract a pre.length) ∈ W
      · rw [if_pos hm, List.append_nil] at hc
        simp only [hm, stk, Int.reduceEq, Nat.reduceEqDiff, Int.reduceLE, Int.reduceLT]
        exact hc.outer
      · rw [if_neg hm] at hc
        simp only [hm, List.length_map, hap, g_mk, gs_snoc, stk, Int.reduceEq, Nat.reduceEqDiff, Int.reduceLE, Int.reduceLT]
        exact hc.outer
theorem implChk_l0 {W : List ByteArray} (hW : W.length ≤ 1000000) {s : ByteArray} (hs : s.size ≤ 1000000) : ∀ (n : Nat) (rest pre : List Int) (out : List Gs), rest.length ≤ n → bytesOf s = pre ++ rest → out.length ≤ pre.length →
    Ev2 (fun N n => impl_Check.l0 N n s (pre.length : Int) (out.map gP) (strsP W)) [gsP (out ++ chkM W s rest pre.length false)] := by
  intro n
  induction n with
  | zero =>
    intro rest pre out hr hp ho
    obtain rfl : rest = [] := List.eq_nil_of_length_eq_zero (by omega)
    refine Ev2.succ ?_
    simp only [impl_Check.l0_eq, at_sizeE hp, chkM, List.append_nil, gs_list, stk, Int.reduceEq, Nat.reduceEqDiff, Int.reduceLE, Int.reduceLT]
    exact Ev2.now _
  | succ n ih =>
    intro rest pre out hr hp ho
    cases rest with
    | nil =>
      refine Ev2.succ ?_
      simp only [impl_Check.l0_eq, at_sizeE hp, chkM, List.append_nil, gs_list, stk, Int.reduceEq, Nat.reduceEqDiff, Int.reduceLE, Int.reduceLT]
      exact Ev2.now _
    | cons c rest =>
      have hz : pre.length + rest.length + 1 = s.size := by have := congrArg List.length hp; rw [bytesOf_len] at this; simp at this; omega
      rw [List.length_cons] at hr
      rw [chkM]
      cases hlc : isLet c with
      | false =>
        have hn : ¬ (isLet c = true) := by rw [hlc]; simp
        have := ih rest (pre ++ [c]) out (by omega) (at_step hp) (by simp; omega)
        have hl1 : (pre ++ [c]).length = pre.length + 1 := by simp
        rw [hl1] at this
        have hnx := at_next hp (by rw [bytesOf_len]; omega)
        rw [hl1] at hnx
        refine Ev2.succ ?_
        simp only [impl_Check.l0_eq, at_size hp, at_bt hp, implLet_val, hlc, hnx, stk, Int.reduceEq, Nat.reduceEqDiff, Int.reduceLE, Int.reduceLT]
        exact this
      | true =>
        have hrl := runLen_le rest
        have hrun : runLen (c :: rest) = runLen rest + 1 := by rw [runLen, if_pos hlc]
        have hsp : bytesOf s = (pre ++ c :: rest.take (runLen rest)) ++ rest.drop (runLen rest) := by rw [hp]; simp
        have hil := item_len W s pre.length (pre.length + 1 + runLen rest)
        have hln : (pre ++ c :: rest.take (runLen rest)).length = pre.length + 1 + runLen rest := by simp [List.length_take]; omega
        have key := ih (rest.drop (runLen rest)) (pre ++ c :: rest.take (runLen rest)) (out ++ itemM W s pre.length (pre.length + 1 + runLen rest)) (by rw [List.length_drop]; omega) hsp (by rw [hln, List.length_append]; omega)
        rw [hln] at key
        have eC : out ++ itemM W s pre.length (pre.length + 1 + runLen rest) ++ chkM W s (rest.drop (runLen rest)) (pre.length + 1 + runLen rest) false = out ++ (itemM W s pre.length (pre.length + 1 + runLen rest) ++ chkM W s rest (pre.length + 1) true) := by
          rw [chk_skip W s rest (pre.length + 1), List.append_assoc]
        rw [eC] at key
        have eP : pre.length + runLen (c :: rest) = pre.length + 1 + runLen rest := by rw [hrun]; omega
        have h1 := (implChk_l1 hW hs (a := pre.length) (out := out) (by omega) (c :: rest) pre hp (Nat.le_refl _) (by simp) (by rw [eP]; exact key)).start
        refine Ev2.succ ?_
        simp only [impl_Check.l0_eq, at_size hp, at_bt hp, implLet_val, hlc, stk, Int.reduceEq, Nat.reduceEqDiff, Int.reduceLE, Int.reduceLT]
        exact h1
theorem specChk_l1 {W : List ByteArray} (hW : W.length ≤ 1000000) {s : ByteArray} (hs : s.size ≤ 1000000) {a : Nat} {out : List Gs} (hout : out.length ≤ 2000000) {r : List PV} : ∀ (rest pre : List Int), bytesOf s = pre ++ rest → a ≤ pre.length →
    Ev2 (fun N m => spec_Check.l0 N m s (IntKind.i64.wrap ((a : Int) + 1)) ((out ++ itemM W s a (pre.length + runLen rest)).map gP) (strsP W)) r →
    Ev3 (fun N m n => spec_Check.l1 N m n s (a : Int) (pre.length : Int) (out.map gP) (strsP W)) r := by
  have body : ∀ (pre rest : List Int), bytesOf s = pre ++ rest → a ≤ pre.length → (((a : Int) ≤ (pre.length : Int)) = True ∧ ((pre.length : Int) ≤ (s.size : Int)) = True) ∧ Ev (fun N => spec_l4Small.f N [PV.sc (.string (s.extract a pre.length))]) [strP (lowerM (s.extract a pre.length))] := by
    intro pre rest hp ha
    have hz : pre.length ≤ s.size := by have := congrArg List.length hp; rw [bytesOf_len] at this; simp at this; omega
    exact ⟨⟨tru (by omega), tru (by omega)⟩, specSmall_ev _ (by rw [ByteArray.size_extract]; omega)⟩
  intro rest
  induction rest with
  | nil =>
    intro pre hp ha hc
    obtain ⟨⟨c1, c2⟩, hlow⟩ := body pre [] hp ha
    have hap : (out.length + 1 ≤ 5864062014805) = True := tru (by omega)
    simp only [runLen, Nat.add_zero] at hc
    refine Ev3.succ ?_
    simp only [spec_Check.l1_eq, at_sizeE hp, c1, c2, nn, stk, Int.reduceEq, Nat.reduceEqDiff, Int.reduceLE, Int.reduceLT]
    refine Ev3.bind hlow ?_
    simp only [stk, Int.reduceEq, Nat.reduceEqDiff, Int.reduceLE, Int.reduceLT]
    refine Ev3.bind (l2In_ev (by omega) _) ?_
    unfold itemM at hc
    by_cases hm : lowerM (s.extract a pre.length) ∈ W
    · rw [if_pos hm, List.append_nil] at hc
      simp only [hm, stk, Int.reduceEq, Nat.reduceEqDiff, Int.reduceLE, Int.reduceLT]
      exact hc.outer
    · rw [if_neg hm] at hc
      simp only [hm, List.length_map, hap, g_mk, gs_snoc, stk, Int.reduceEq, Nat.reduceEqDiff, Int.reduceLE, Int.reduceLT]
      exact hc.outer
  | cons c rest ih =>
    intro pre hp ha hc
    cases hlc : isLet c with
    | true =>
      have e : pre.length + runLen (c :: rest) = (pre ++ [c]).length + runLen rest := by rw [runLen, if_pos hlc]; simp; omega
      rw [e] at hc
      refine Ev3.succ ?_
      simp only [spec_Check.l1_eq, at_size hp, at_bt hp, specLet_val, hlc, at_next hp (by rw [bytesOf_len]; omega), stk, Int.reduceEq, Nat.reduceEqDiff, Int.reduceLE, Int.reduceLT]
      exact ih _ (at_step hp) (by simp; omega) hc
    | false =>
      have hn : ¬ (isLet c = true) := by rw [hlc]; simp
      have e : pre.length + runLen (c :: rest) = pre.length := by rw [runLen, if_neg hn]; rfl
      rw [e] at hc
      obtain ⟨⟨c1, c2⟩, hlow⟩ := body pre (c :: rest) hp ha
      have hap : (out.length + 1 ≤ 5864062014805) = True := tru (by omega)
      refine Ev3.succ ?_
      simp only [spec_Check.l1_eq, at_size hp, at_bt hp, specLet_val, hlc, c1, c2, nn, stk, Int.reduceEq, Nat.reduceEqDiff, Int.reduceLE, Int.reduceLT]
      refine Ev3.bind hlow ?_
      simp only [stk, Int.reduceEq, Nat.reduceEqDiff, Int.reduceLE, Int.reduceLT]
      refine Ev3.bind (l2In_ev (by omega) _) ?_
      unfold itemM at hc
      by_cases hm : lowerM (s.extract a pre.length) ∈ W
      · rw [if_pos hm, List.append_nil] at hc
        simp only [hm, stk, Int.reduceEq, Nat.reduceEqDiff, Int.reduceLE, Int.reduceLT]
        exact hc.outer
      · rw [if_neg hm] at hc
        simp only [hm, List.length_map, hap, g_mk, gs_snoc, stk, Int.reduceEq, Nat.reduceEqDiff, Int.reduceLE, Int.reduceLT]
        exact hc.outer
theorem specChk_l0 {W : List ByteArray} (hW : W.length ≤ 1000000) {s : ByteArray} (hs : s.size ≤ 1000000) : ∀ (rest pre : List Int) (out : List Gs) (prev : Bool), bytesOf s = pre ++ rest → out.length ≤ pre.length → ((pre = [] ∧ prev = false) ∨ ∃ pre' q, pre = pre' ++ [q] ∧ prev = isLet q) →
    Ev2 (fun N n => spec_Check.l0 N n s (pre.length : Int) (out.map gP) (strsP W)) [gsP (out ++ chkM W s rest pre.length prev)] := by
  intro rest
  induction rest with
  | nil =>
    intro pre out prev hp ho _
    refine Ev2.succ ?_
    simp only [spec_Check.l0_eq, at_sizeE hp, chkM, List.append_nil, gs_list, stk, Int.reduceEq, Nat.reduceEqDiff, Int.reduceLE, Int.reduceLT]
    exact Ev2.now _
  | cons c rest ih =>
    intro pre out prev hp ho hpv
    have hz : pre.length + rest.length + 1 = s.size := by have := congrArg List.length hp; rw [bytesOf_len] at this; simp at this; omega
    have hl1 : (pre ++ [c]).length = pre.length + 1 := by simp
    have hnx := at_next hp (by rw [bytesOf_len]; omega)
    rw [hl1] at hnx
    have hnext := fun out' ho' => ih (pre ++ [c]) out' (isLet c) (at_step hp) ho' (.inr ⟨pre, c, rfl, rfl⟩)
    simp only [hl1] at hnext
    rw [chkM]
    cases hlc : isLet c with
    | false =>
      rw [hlc] at hnext
      have hk := hnext out (by omega)
      refine Ev2.succ ?_
      simp only [spec_Check.l0_eq, at_size hp, at_bt hp, specLet_val, hlc, hnx, stk, Int.reduceEq, Nat.reduceEqDiff, Int.reduceLE, Int.reduceLT]
      exact hk
    | true =>
      rw [hlc] at hnext
      have eP : pre.length + runLen (c :: rest) = pre.length + 1 + runLen rest := by rw [runLen, if_pos hlc]; omega
      have hil := item_len W s pre.length (pre.length + 1 + runLen rest)
      have mark : prev = false → Ev3 (fun N m n => spec_Check.l1 N m n s (pre.length : Int) (pre.length : Int) (out.map gP) (strsP W)) [gsP (out ++ (itemM W s pre.length (pre.length + 1 + runLen rest) ++ chkM W s rest (pre.length + 1) true))] := fun _ => by
        refine specChk_l1 hW hs (a := pre.length) (out := out) (by omega) (c :: rest) pre hp (Nat.le_refl _) ?_
        have := hnext (out ++ itemM W s pre.length (pre.length + 1 + runLen rest)) (by rw [List.length_append]; omega)
        rw [eP, hnx, ← List.append_assoc]
        exact this
      rcases hpv with ⟨rfl, rfl⟩ | ⟨pre', q, rfl, hq⟩
      · have c3 : ((0 : Int) < (([] : List Int).length : Int)) = False := fls (by simp)
        have hm := (mark rfl).start
        refine Ev2.succ ?_
        simp only [spec_Check.l0_eq, at_size hp, at_bt hp, specLet_val, hlc, c3, stk, Int.reduceEq, Nat.reduceEqDiff, Int.reduceLE, Int.reduceLT]
        exact hm
      · obtain ⟨h1, h2, h3, h4⟩ := prev_bytes hp (by omega)
        cases hlq : isLet q with
        | true =>
          rw [hlq] at hq
          subst hq
          have hk := hnext out (by omega)
          refine Ev2.succ ?_
          simp only [spec_Check.l0_eq, at_size hp, at_bt hp, specLet_val, hlc, h1, h2, h3, h4, hlq, hnx, stk, Int.reduceEq, Nat.reduceEqDiff, Int.reduceLE, Int.reduceLT]
          exact hk
        | false =>
          rw [hlq] at hq
          subst hq
          have hm := (mark rfl).start
          refine Ev2.succ ?_
          simp only [spec_Check.l0_eq, at_size hp, at_bt hp, specLet_val, hlc, h1, h2, h3, h4, hlq, Bool.false_eq_true, stk, Int.reduceEq, Nat.reduceEqDiff, Int.reduceLE, Int.reduceLT]
          exact hm
def checkR (af : List Aff) (es : List Ent) (s : ByteArray) : List Gs := if bookB af es = true ∧ s.size ≤ 300 then chkM (bookW af es) s (bytesOf s) 0 false else []
theorem checkR_len (af : List Aff) (es : List Ent) (s : ByteArray) : (checkR af es s).length ≤ 300 := by
  unfold checkR
  split
  · rename_i h
    have := chk_len (bookW af es) s (bytesOf s) 0 false
    rw [bytesOf_len] at this; omega
  · simp
theorem implCheck_ev {af : List Aff} {es : List Ent} (hS : BookS af es) (s : ByteArray) : Ev (fun N => impl_Check.f N [bookP af es, PV.sc (.string s)]) [gsP (checkR af es s)] := by
  have ne : PV.list [] = gsP [] := rfl
  simp only [impl_Check.f_eq, book_f0, book_f1, book_agg, stk, Int.reduceEq, Nat.reduceEqDiff, Int.reduceLE, Int.reduceLT]
  refine Ev.bind (implBookOk_ev hS) ?_
  cases hb : bookB af es with
  | false =>
    simp only [checkR, hb, ne, stk, Int.reduceEq, Nat.reduceEqDiff, Int.reduceLE, Int.reduceLT]
    exact Ev.now _
  | true =>
    have hF := bookB_facts hb
    have hlen := bookW_len hF
    by_cases h3 : s.size ≤ 300
    · have c1 : ((300 : Int) < (s.size : Int)) = False := fls (by omega)
      simp only [checkR, hb, h3, c1, stk, Int.reduceEq, Nat.reduceEqDiff, Int.reduceLE, Int.reduceLT]
      refine Ev.bind (implBookW_ev hF) ?_
      simp only [stk, Int.reduceEq, Nat.reduceEqDiff, Int.reduceLE, Int.reduceLT]
      exact (implChk_l0 (W := bookW af es) (by omega) (s := s) (by omega) s.size (bytesOf s) [] [] (by rw [bytesOf_len]; omega) rfl (by simp)).diag
    · have c1 : ((300 : Int) < (s.size : Int)) = True := tru (by omega)
      simp only [checkR, hb, h3, c1, ne, stk, Int.reduceEq, Nat.reduceEqDiff, Int.reduceLE, Int.reduceLT]
      exact Ev.now _
theorem specCheck_ev {af : List Aff} {es : List Ent} (hS : BookS af es) (s : ByteArray) : Ev (fun N => spec_Check.f N [bookP af es, PV.sc (.string s)]) [gsP (checkR af es s)] := by
  have ne : PV.list [] = gsP [] := rfl
  simp only [spec_Check.f_eq, book_f0, book_f1, book_agg, stk, Int.reduceEq, Nat.reduceEqDiff, Int.reduceLE, Int.reduceLT]
  refine Ev.bind (specBookOk_ev hS) ?_
  cases hb : bookB af es with
  | false =>
    simp only [checkR, hb, ne, stk, Int.reduceEq, Nat.reduceEqDiff, Int.reduceLE, Int.reduceLT]
    exact Ev.now _
  | true =>
    have hF := bookB_facts hb
    have hlen := bookW_len hF
    by_cases h3 : s.size ≤ 300
    · have c1 : ((300 : Int) < (s.size : Int)) = False := fls (by omega)
      simp only [checkR, hb, h3, c1, stk, Int.reduceEq, Nat.reduceEqDiff, Int.reduceLE, Int.reduceLT]
      refine Ev.bind (bookW_ok hF) ?_
      simp only [stk, Int.reduceEq, Nat.reduceEqDiff, Int.reduceLE, Int.reduceLT]
      exact (specChk_l0 (W := bookW af es) (by omega) (s := s) (by omega) (bytesOf s) [] [] false rfl (by simp) (.inl ⟨rfl, rfl⟩)).diag
    · have c1 : ((300 : Int) < (s.size : Int)) = True := tru (by omega)
      simp only [checkR, hb, h3, c1, ne, stk, Int.reduceEq, Nat.reduceEqDiff, Int.reduceLE, Int.reduceLT]
      exact Ev.now _
def keepG (own : List ByteArray) (af : List Aff) (es : List Ent) (g : Gs) : Bool := !decide (g.1 ∈ own) && decide (partsR af es g.1 = [])
def userR (own : List ByteArray) (af : List Aff) (es : List Ent) (s : ByteArray) : List Gs := if wordsM own 10 = true then (checkR af es s).filter (keepG own af es) else []
theorem userR_len (own : List ByteArray) (af : List Aff) (es : List Ent) (s : ByteArray) : (userR own af es s).length ≤ 300 := by
  unfold userR
  split
  · exact Nat.le_trans (List.length_filter_le _ _) (checkR_len af es s)
  · simp
theorem checkR_size {af : List Aff} {es : List Ent} {s : ByteArray} : ∀ g ∈ checkR af es s, g.1.size ≤ 1000 ∧ g.2 ≤ 1000 := by
  have key : ∀ (l : List Int) (i : Nat) (p : Bool), ∀ g ∈ chkM (bookW af es) s l i p, g.1.size ≤ s.size ∧ g.2 ≤ i + l.length := by
    have item : ∀ (a e : Nat), ∀ g ∈ itemM (bookW af es) s a e, g.1.size ≤ s.size ∧ g.2 = a := by
      intro a e g hg
      unfold itemM at hg
      split at hg
      · cases hg
      · rw [List.mem_singleton.1 hg]
        refine ⟨?_, rfl⟩
        have h1 := congrArg List.length (lowerM_bytes (s.extract a e))
        rw [List.length_map, bytesOf_len, bytesOf_len, ByteArray.size_extract] at h1
        show (lowerM (s.extract a e)).size ≤ s.size
        omega
    intro l
    induction l with
    | nil => intro i p g hg; cases hg
    | cons c r ih =>
      intro i p g hg
      rw [chkM] at hg
      split at hg
      · split at hg
        · obtain ⟨h1, h2⟩ := ih (i + 1) true g hg
          exact ⟨h1, by simp; omega⟩
        · rcases List.mem_append.1 hg with hg | hg
          · obtain ⟨h1, h2⟩ := item _ _ g hg
            exact ⟨h1, by simp; omega⟩
          · obtain ⟨h1, h2⟩ := ih (i + 1) true g hg
            exact ⟨h1, by simp; omega⟩
      · obtain ⟨h1, h2⟩ := ih (i + 1) false g hg
        exact ⟨h1, by simp; omega⟩
  intro g hg
  unfold checkR at hg
  split at hg
  · rename_i h
    obtain ⟨h1, h2⟩ := key (bytesOf s) 0 false g hg
    rw [bytesOf_len] at h2
    exact ⟨by omega, by omega⟩
  · cases hg
theorem implUser_ev {own : List ByteArray} (hol : own.length ≤ 1000000000) (hos : ∀ x ∈ own, x.size ≤ 1000000000) {af : List Aff} {es : List Ent} (hS : BookS af es) (s : ByteArray) : Ev (fun N => impl_UserCheck.f N [bookP af es, strsP own, PV.sc (.string s)]) [gsP (userR own af es s)] := by
  have ne : PV.list [] = gsP [] := rfl
  have hw := implWords_ev own 10 (by omega) (fun x hx => by have := hos x hx; omega)
  have hcl := checkR_len af es s
  obtain ⟨L, hL⟩ : ∃ L, L = checkR af es s := ⟨_, rfl⟩
  have hsz : ∀ g ∈ L, g.1.size ≤ 1000 ∧ g.2 ≤ 1000 := by rw [hL]; exact checkR_size
  have hck := implCheck_ev hS s
  unfold userR
  rw [← hL] at hck hcl ⊢
  clear hL
  have key : ∀ (rest pre : List Gs) (out : List Gs), L = pre ++ rest → out.length ≤ pre.length → Ev2 (fun N n => impl_UserCheck.l0 N n (strsP own) (L.length : Int) (pre.length : Int) (affsP af) (entsP es) (out.map gP) (gsP L)) [gsP (out ++ rest.filter (keepG own af es))] := by
    intro rest
    induction rest with
    | nil =>
      intro pre out hp ho
      refine Ev2.succ ?_
      simp only [impl_UserCheck.l0_eq, at_end hp, List.filter_nil, List.append_nil, gs_list, stk, Int.reduceEq, Nat.reduceEqDiff, Int.reduceLE, Int.reduceLT]
      exact Ev2.now _
    | cons g rest ih =>
      intro pre out hp ho
      have hpl := at_ltN hp
      have hgs := (hsz g (by rw [hp]; simp)).1
      have hct := contains_ev own g.1 (by omega)
      have hpa := implParts_ev hS g.1 (by omega)
      simp only [strP] at hct hpa
      have hap : (out.length + 1 ≤ 5864062014805) = True := tru (by omega)
      refine Ev2.succ ?_
      simp only [impl_UserCheck.l0_eq, gs_len, gs_elem hp, at_lt hp, g_f0, g_f1, g_agg, book_agg, stk, Int.reduceEq, Nat.reduceEqDiff, Int.reduceLE, Int.reduceLT]
      refine Ev2.bind hct ?_
      by_cases hm : g.1 ∈ own
      · have hk : keepG own af es g = false := by unfold keepG; simp [hm]
        rw [List.filter_cons_of_neg (by rw [hk]; simp)]
        simp only [hm, at_next hp (by omega), stk, Int.reduceEq, Nat.reduceEqDiff, Int.reduceLE, Int.reduceLT]
        exact ih _ out (at_step hp) (by simp; omega)
      · simp only [hm, stk, Int.reduceEq, Nat.reduceEqDiff, Int.reduceLE, Int.reduceLT]
        refine Ev2.bind hpa ?_
        cases hpp : partsR af es g.1 with
        | nil =>
          have hk : keepG own af es g = true := by unfold keepG; simp [hm, hpp]
          have c0 : ((([] : List ByteArray).length : Int) = 0) = True := tru rfl
          rw [List.filter_cons_of_pos hk]
          simp only [c0, List.length_map, hap, gs_snoc, at_next hp (by omega), stk, Int.reduceEq, Nat.reduceEqDiff, Int.reduceLE, Int.reduceLT]
          refine Ev2.ext (ih _ (out ++ [g]) (at_step hp) (by simp; omega)) ?_
          simp
        | cons x xs =>
          have hk : keepG own af es g = false := by unfold keepG; simp [hpp]
          have c0 : (((x :: xs).length : Int) = 0) = False := fls (by simp; omega)
          rw [List.filter_cons_of_neg (by rw [hk]; simp)]
          simp only [c0, at_next hp (by omega), stk, Int.reduceEq, Nat.reduceEqDiff, Int.reduceLE, Int.reduceLT]
          exact ih _ out (at_step hp) (by simp; omega)
  simp only [impl_UserCheck.f_eq, book_f0, book_f1, book_agg, stk, Int.reduceEq, Nat.reduceEqDiff, Int.reduceLE, Int.reduceLT]
  refine Ev.bind hw ?_
  cases hwo : wordsM own 10 with
  | false =>
    simp only [ne, stk, Int.reduceEq, Nat.reduceEqDiff, Int.reduceLE, Int.reduceLT]
    exact Ev.now _
  | true =>
    simp only [stk, Int.reduceEq, Nat.reduceEqDiff, Int.reduceLE, Int.reduceLT]
    refine Ev.bind hck ?_
    simp only [gs_len, stk, Int.reduceEq, Nat.reduceEqDiff, Int.reduceLE, Int.reduceLT]
    exact (key L [] [] rfl (by simp)).diag
theorem specUser_ev {own : List ByteArray} (hol : own.length ≤ 1000000000) (hos : ∀ x ∈ own, x.size ≤ 1000000000) {af : List Aff} {es : List Ent} (hS : BookS af es) (s : ByteArray) : Ev (fun N => spec_UserCheck.f N [bookP af es, strsP own, PV.sc (.string s)]) [gsP (userR own af es s)] := by
  have ne : PV.list [] = gsP [] := rfl
  have hw := specOwn_ev own (by omega) (fun x hx => by have := hos x hx; omega)
  have hcl := checkR_len af es s
  have hB : checkR af es s ≠ [] → bookB af es = true := fun h => by
    unfold checkR at h
    split at h
    · rename_i hc; exact hc.1
    · exact absurd rfl h
  obtain ⟨L, hL⟩ : ∃ L, L = checkR af es s := ⟨_, rfl⟩
  have hsz : ∀ g ∈ L, g.1.size ≤ 1000 ∧ g.2 ≤ 1000 := by rw [hL]; exact checkR_size
  have hck := specCheck_ev hS s
  unfold userR
  rw [← hL] at hck hcl hB ⊢
  clear hL
  simp only [spec_UserCheck.f_eq, book_f0, book_f1, book_agg, stk, Int.reduceEq, Nat.reduceEqDiff, Int.reduceLE, Int.reduceLT]
  refine Ev.bind hck ?_
  by_cases h0 : L = []
  · subst h0
    have c0 : ((([] : List Gs).length : Int) = 0) = True := tru rfl
    simp only [gs_len, c0, ne, List.filter_nil, ite_self, stk, Int.reduceEq, Nat.reduceEqDiff, Int.reduceLE, Int.reduceLT]
    exact Ev.now _
  have c0 : ((L.length : Int) = 0) = False := fls (by
    have := List.length_pos_iff.2 h0; omega)
  have hb := hB h0
  have hF := bookB_facts hb
  have hlen := bookW_len hF
  simp only [gs_len, c0, stk, Int.reduceEq, Nat.reduceEqDiff, Int.reduceLE, Int.reduceLT]
  refine Ev.bind hw ?_
  cases hwo : wordsM own 10 with
  | false =>
    simp only [ne, stk, Int.reduceEq, Nat.reduceEqDiff, Int.reduceLE, Int.reduceLT]
    exact Ev.now _
  | true =>
    have key : ∀ (rest pre : List Gs) (out : List Gs), L = pre ++ rest → out.length ≤ pre.length → Ev2 (fun N n => spec_UserCheck.l0 N n (strsP own) (pre.length : Int) (out.map gP) (gsP L) (strsP (bookW af es))) [gsP (out ++ rest.filter (keepG own af es))] := by
      intro rest
      induction rest with
      | nil =>
        intro pre out hp ho
        refine Ev2.succ ?_
        simp only [spec_UserCheck.l0_eq, gs_len, at_end hp, List.filter_nil, List.append_nil, gs_list, stk, Int.reduceEq, Nat.reduceEqDiff, Int.reduceLE, Int.reduceLT]
        exact Ev2.now _
      | cons g rest ih =>
        intro pre out hp ho
        have hpl := at_ltN hp
        have hgs := (hsz g (by rw [hp]; simp)).1
        have hwd := specWord_ev g.1 (by omega)
        simp only [strP] at hwd
        have hap : (out.length + 1 ≤ 5864062014805) = True := tru (by omega)
        refine Ev2.succ ?_
        simp only [spec_UserCheck.l0_eq, gs_len, gs_elem hp, at_lt hp, g_f0, g_f1, g_agg, stk, Int.reduceEq, Nat.reduceEqDiff, Int.reduceLE, Int.reduceLT]
        refine Ev2.bind (l2In_ev (by omega) g.1) ?_
        by_cases hm : g.1 ∈ own
        · have hk : keepG own af es g = false := by unfold keepG; simp [hm]
          rw [List.filter_cons_of_neg (by rw [hk]; simp)]
          simp only [hm, at_next hp (by omega), stk, Int.reduceEq, Nat.reduceEqDiff, Int.reduceLE, Int.reduceLT]
          exact ih _ out (at_step hp) (by simp; omega)
        · simp only [hm, stk, Int.reduceEq, Nat.reduceEqDiff, Int.reduceLE, Int.reduceLT]
          refine Ev2.bind hwd ?_
          cases hiw : isWord g.1 with
          | false =>
            have hpp : partsR af es g.1 = [] := by unfold partsR; simp [hiw]
            have hk : keepG own af es g = true := by unfold keepG; simp [hm, hpp]
            rw [List.filter_cons_of_pos hk]
            simp only [List.length_map, hap, gs_snoc, at_next hp (by omega), stk, Int.reduceEq, Nat.reduceEqDiff, Int.reduceLE, Int.reduceLT]
            refine Ev2.ext (ih _ (out ++ [g]) (at_step hp) (by simp; omega)) ?_
            simp
          | true =>
            have hpe : partsR af es g.1 = partsB (bookW af es) g.1 := by unfold partsR; simp [hiw, hb]
            simp only [stk, Int.reduceEq, Nat.reduceEqDiff, Int.reduceLE, Int.reduceLT]
            refine Ev2.bind (l10Of_ev (by omega) g.1 (by omega)) ?_
            cases hpp : partsB (bookW af es) g.1 with
            | nil =>
              have hk : keepG own af es g = true := by unfold keepG; simp [hm, hpe, hpp]
              have c1 : ((0 : Int) < (([] : List ByteArray).length : Int)) = False := fls (by simp)
              rw [List.filter_cons_of_pos hk]
              simp only [c1, List.length_map, hap, gs_snoc, at_next hp (by omega), stk, Int.reduceEq, Nat.reduceEqDiff, Int.reduceLE, Int.reduceLT]
              refine Ev2.ext (ih _ (out ++ [g]) (at_step hp) (by simp; omega)) ?_
              simp
            | cons x xs =>
              have hk : keepG own af es g = false := by unfold keepG; simp [hpe, hpp]
              have c1 : ((0 : Int) < ((x :: xs).length : Int)) = True := tru (by simp <;> omega)
              rw [List.filter_cons_of_neg (by rw [hk]; simp)]
              simp only [c1, at_next hp (by omega), stk, Int.reduceEq, Nat.reduceEqDiff, Int.reduceLE, Int.reduceLT]
              exact ih _ out (at_step hp) (by simp; omega)
    simp only [stk, Int.reduceEq, Nat.reduceEqDiff, Int.reduceLE, Int.reduceLT]
    refine Ev.bind (bookW_ok hF) ?_
    simp only [stk, Int.reduceEq, Nat.reduceEqDiff, Int.reduceLE, Int.reduceLT]
    exact (key L [] [] rfl (by simp)).diag
end Go.Proofs.YtoiigoflkhmjnaaGreatDoor.FnFixText
