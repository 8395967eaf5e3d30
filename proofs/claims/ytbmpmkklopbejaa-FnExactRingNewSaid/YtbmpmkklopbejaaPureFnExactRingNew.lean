/- The program's RingNew and the reference's make the same ring, for every key; what is made is held. -/
import Derived.Test.YtbmpmkklopbejaaPFnExactRingNewx3
namespace Go.Proofs.Ytbmpmkklopbejaa.Pure
open Go.RowKit Go.Proofs.Ytbmpmkklopbejaa.PFnExactRingNew Go.Proofs.YtbmpmkklopbejaaW.PrintWords Go.Proofs.YtbmpmkklopbejaaW.PrintLast
set_option linter.unusedVariables false
set_option linter.unusedSimpArgs false
/-! #### a kit of small plain laws: rounds, numbers, lists (own text) -/
theorem wrap_id {n : Int} (h0 : -9223372036854775808 ≤ n) (h1 : n < 9223372036854775808) : wrap64 n = n := by unfold wrap64; omega
theorem Ev.succ {α : Type} {g : Nat → Option α} {r : α} (h : Ev (fun k => g (k + 1)) r) : Ev g r := Ev.step (fun _ => rfl) h
theorem Ev.bindC {α β : Type} {g : Option α} {f : Nat → α → Option β} {a : α} {r : β} (h : g = some a) (k : Ev (fun n => f n a) r) : Ev (fun n => g.bind (f n)) r := by
  subst h; exact k
theorem Ev.ext {α : Type} {g : Nat → Option α} {r r' : α} (h : Ev g r) (e : r = r') : Ev g r' := e ▸ h
theorem rd_mid (pre : List Int) (c : Int) (rest : List Int) : rd (pre ++ c :: rest) (pre.length : Int) = c := by simp [rd]
theorem rdOf_mid {α : Type} (d : α) (pre : List α) (c : α) (rest : List α) : rdOf d (pre ++ c :: rest) (pre.length : Int) = c := by simp [rdOf]
theorem bytesOf_len (s : ByteArray) : (bytesOf s).length = s.size := by simp [bytesOf]
theorem bt_rd (s : ByteArray) (i : Int) : bt s i = rd (bytesOf s) i := by
  unfold bt rd bytesOf
  by_cases h : i.toNat < s.size
  · rw [dif_pos h, List.getD_eq_getElem?_getD, List.getElem?_map, List.getElem?_eq_getElem (by simpa using h)]
    rfl
  · rw [dif_neg h, List.getD_eq_getElem?_getD, List.getElem?_map, List.getElem?_eq_none (by simpa using h)]
    rfl
theorem bytesOf_inj {s t : ByteArray} (h : bytesOf s = bytesOf t) : s = t := by
  have : s.data.toList = t.data.toList := by
    have := (List.map_inj_right (f := fun b : UInt8 => (b.toNat : Int)) (fun x y h => by
      have h' : x.toNat = y.toNat := Int.ofNat.inj h
      exact UInt8.toNat_inj.1 h')).1 h
    exact this
  cases s; cases t; simp at this; simp [this]
theorem toList_inj {s t : ByteArray} : s.toList = t.toList ↔ s = t := by
  constructor
  · intro h
    have h1 : s.data.toList = t.data.toList := by simpa [ByteArray.toList_eq] using h
    cases s; cases t; simp at h1; simp [h1]
  · rintro rfl; rfl
/-- A place in a list: what stands there, and the next place. -/
theorem at_lt {α : Type} {xs pre rest : List α} {c : α} (hp : xs = pre ++ c :: rest) : (pre.length : Int) < (xs.length : Int) := by subst hp; simp; omega
theorem at_end {α : Type} {xs pre : List α} (hp : xs = pre ++ []) : ¬ (pre.length : Int) < (xs.length : Int) := by subst hp; simp
theorem at_step {α : Type} {xs pre rest : List α} {c : α} (hp : xs = pre ++ c :: rest) : xs = (pre ++ [c]) ++ rest := by subst hp; simp
theorem at_next {α : Type} {xs pre rest : List α} {c : α} (hp : xs = pre ++ c :: rest) (hx : xs.length ≤ 9223372036854775807) : wrap64 ((pre.length : Int) + 1) = ((pre ++ [c]).length : Int) := by
  have := at_lt hp
  rw [wrap_id (by omega) (by omega)]; simp
theorem at_rd {xs pre rest : List Int} {c : Int} (hp : xs = pre ++ c :: rest) : rd xs (pre.length : Int) = c := by subst hp; exact rd_mid _ _ _
theorem at_rdOf {α : Type} {d : α} {xs pre rest : List α} {c : α} (hp : xs = pre ++ c :: rest) : rdOf d xs (pre.length : Int) = c := by subst hp; exact rdOf_mid _ _ _ _
theorem at_bt {s : ByteArray} {pre rest : List Int} {c : Int} (hp : bytesOf s = pre ++ c :: rest) : bt s (pre.length : Int) = c := by rw [bt_rd]; exact at_rd hp
theorem at_size {s : ByteArray} {pre rest : List Int} {c : Int} (hp : bytesOf s = pre ++ c :: rest) : (pre.length : Int) < (s.size : Int) := by have := at_lt hp; rwa [bytesOf_len] at this
theorem at_sizeE {s : ByteArray} {pre : List Int} (hp : bytesOf s = pre ++ []) : ¬ (pre.length : Int) < (s.size : Int) := by have := at_end hp; rwa [bytesOf_len] at this
theorem nn {n : Nat} : (0 : Int) ≤ (n : Int) := Int.natCast_nonneg n
theorem zero_len {α : Type} : (0 : Int) = (([] : List α).length : Int) := rfl
theorem set_mid {α : Type} (pre : List α) (c x : α) (rest : List α) : (pre ++ c :: rest).set ((pre.length : Int)).toNat x = pre ++ x :: rest := by simp [List.set_append]
/-! #### the laws' own helpers over slices of strings: size, copy, comparison, marks -/
theorem eqStringS_loop (a : List ByteArray) (ha : a.length ≤ 9223372036854775807) : ∀ rest pre : List ByteArray, a = pre ++ rest → Ev (fun k => laws_eqStringS.l0 k a a (pre.length : Int)) true := by
  intro rest
  induction rest with
  | nil =>
    intro pre hp
    refine Ev.succ ?_
    simp only [laws_eqStringS.l0, if_neg (at_end hp)]
    exact Ev.now _
  | cons c rest ih =>
    intro pre hp
    refine Ev.succ ?_
    simp only [laws_eqStringS.l0, if_pos (at_lt hp), if_pos (nn (n := pre.length)), if_true, at_next hp ha]
    exact ih _ (at_step hp)
theorem eqStringS_ev (a : List ByteArray) (ha : a.length ≤ 9223372036854775807) : Ev (fun k => laws_eqStringS.f k a a) true := by
  simp only [laws_eqStringS.f, if_true]
  exact eqStringS_loop a ha a [] rfl
/-! #### the laws' own helpers over slices of ints -/
theorem eqIntS_loop (a : List Int) (ha : a.length ≤ 9223372036854775807) : ∀ rest pre : List Int, a = pre ++ rest → Ev (fun k => laws_eqIntS.l0 k a a (pre.length : Int)) true := by
  intro rest
  induction rest with
  | nil =>
    intro pre hp
    refine Ev.succ ?_
    simp only [laws_eqIntS.l0, if_neg (at_end hp)]
    exact Ev.now _
  | cons c rest ih =>
    intro pre hp
    refine Ev.succ ?_
    simp only [laws_eqIntS.l0, if_pos (at_lt hp), if_pos (nn (n := pre.length)), if_true, at_next hp ha]
    exact ih _ (at_step hp)
theorem eqIntS_ev (a : List Int) (ha : a.length ≤ 9223372036854775807) : Ev (fun k => laws_eqIntS.f k a a) true := by
  simp only [laws_eqIntS.f, if_true]
  exact eqIntS_loop a ha a [] rfl
/-! #### marks -/
theorem markText_loop : ∀ (n : Nat) (x : Int) (t : ByteArray), x < (n : Int) → t.size + n ≤ 9223372036854775000 → ∃ r, Ev (fun k => laws_markText.l0 k x t) r := by
  intro n
  induction n with
  | zero =>
    intro x t hx ht
    refine ⟨(⟨#[109]⟩ : ByteArray) ++ t, Ev.succ ?_⟩
    simp only [laws_markText.l0, if_neg (show ¬ x > 0 by omega), if_pos (show 1 + t.size ≤ 9223372036854775807 by omega)]
    exact Ev.now _
  | succ n ih =>
    intro x t hx ht
    by_cases h0 : x > 0
    · have hs : ∀ b : Int, (strOfNums [b]).size = 1 := fun b => rfl
      have hd : Int.tdiv x 10 < (n : Int) := by
        rw [Int.tdiv_eq_ediv_of_nonneg (by omega)]; omega
      have hdn : 0 ≤ Int.tdiv x 10 := by rw [Int.tdiv_eq_ediv_of_nonneg (by omega)]; omega
      have hw : wrap64 (Int.tdiv x 10) = Int.tdiv x 10 := wrap_id (by omega) (by omega)
      obtain ⟨r, hr⟩ := ih (Int.tdiv x 10) (strOfNums [(wrap64 (48 + Int.tmod x 10)) % 256] ++ t) hd (by rw [ByteArray.size_append, hs]; omega)
      refine ⟨r, Ev.succ ?_⟩
      simp only [laws_markText.l0, if_pos h0, Option.bind_some, hs, if_pos (show 1 + t.size ≤ 9223372036854775807 by omega), hw]
      exact hr
    · refine ⟨(⟨#[109]⟩ : ByteArray) ++ t, Ev.succ ?_⟩
      simp only [laws_markText.l0, if_neg h0, if_pos (show 1 + t.size ≤ 9223372036854775807 by omega)]
      exact Ev.now _
theorem markText_total (x : Int) (hx : x < 4611686018427387904) : ∃ r, Ev (fun k => laws_markText.f k x) r := by
  by_cases h : x ≤ 0
  · refine ⟨(⟨#[109, 48]⟩ : ByteArray), ?_⟩
    simp only [laws_markText.f, if_pos h]; exact Ev.now _
  · obtain ⟨r, hr⟩ := markText_loop x.toNat.succ x ⟨#[]⟩ (by omega) (by simp [ByteArray.size]; omega)
    refine ⟨r, ?_⟩
    simp only [laws_markText.f, if_neg h]
    exact hr
noncomputable def mt (x : Int) : ByteArray := if h : x < 4611686018427387904 then Classical.choose (markText_total x h) else ByteArray.empty
theorem markText_ev (x : Int) (hx : x < 4611686018427387904) : Ev (fun k => laws_markText.f k x) (mt x) := by
  unfold mt
  rw [dif_pos hx]
  exact Classical.choose_spec (markText_total x hx)
noncomputable def markStrs : Int → List ByteArray → List ByteArray
  | _, [] => []
  | k, _ :: l => mt k :: markStrs (k + 1) l
theorem markStrs_len (k : Int) (l : List ByteArray) : (markStrs k l).length = l.length := by
  induction l generalizing k with
  | nil => rfl
  | cons c l ih => simp [markStrs, ih]
theorem markStringS_loop (n : Nat) (hn : n ≤ 1152921504606846976) : ∀ rest pre : List ByteArray, pre.length + rest.length = n → ∀ x : Int, x + rest.length < 4611686018427387904 → 0 ≤ x →
    Ev (fun k => laws_markStringS.l0 k (pre ++ rest) x (pre.length : Int)) (x + rest.length, pre ++ markStrs x rest) := by
  intro rest
  induction rest with
  | nil =>
    intro pre hp x hx h0
    refine Ev.succ ?_
    simp only [laws_markStringS.l0, if_neg (at_end (xs := pre ++ []) rfl), markStrs, List.length_nil, Int.natCast_zero, Int.add_zero]
    exact Ev.now _
  | cons c rest ih =>
    intro pre hp x hx h0
    simp only [List.length_cons] at hx hp
    refine Ev.succ ?_
    simp only [laws_markStringS.l0, if_pos (at_lt (xs := pre ++ c :: rest) rfl), if_pos (nn (n := pre.length)), set_mid, at_next (xs := pre ++ c :: rest) rfl (by simp; omega), wrap_id (n := x + 1) (by omega) (by omega)]
    refine Ev.bind (markText_ev x (by omega)) ?_
    have := ih (pre ++ [mt x]) (by simp; omega) (x + 1) (by omega) (by omega)
    simp only [List.append_assoc, List.cons_append, List.nil_append, List.length_append, List.length_cons, List.length_nil] at this ⊢
    refine Ev.ext this ?_
    simp only [markStrs]
    refine Prod.ext ?_ rfl
    simp; omega
theorem markStringS_ev (l : List ByteArray) (x : Int) (hl : l.length ≤ 1152921504606846976) (hx : x + l.length < 4611686018427387904) (h0 : 0 ≤ x) :
    Ev (fun k => laws_markStringS.f k l x) (x + l.length, markStrs x l) := markStringS_loop l.length hl l [] (by simp) x hx h0
theorem heldStringS_loop (n : Nat) (hn : n ≤ 1152921504606846976) : ∀ rest pre : List ByteArray, pre.length + rest.length = n → ∀ x : Int, x + rest.length < 4611686018427387904 → 0 ≤ x →
    Ev (fun k => laws_heldStringS.l0 k (pre ++ markStrs x rest) x (pre.length : Int)) (x + rest.length) := by
  intro rest
  induction rest with
  | nil =>
    intro pre hp x hx h0
    show Ev (fun k => laws_heldStringS.l0 k (pre ++ []) x (pre.length : Int)) _
    refine Ev.succ ?_
    simp only [laws_heldStringS.l0, if_neg (at_end (xs := pre ++ []) rfl), List.length_nil, Int.natCast_zero, Int.add_zero]
    exact Ev.now _
  | cons c rest ih =>
    intro pre hp x hx h0
    simp only [List.length_cons] at hx hp
    show Ev (fun k => laws_heldStringS.l0 k (pre ++ mt x :: markStrs (x + 1) rest) x (pre.length : Int)) _
    refine Ev.succ ?_
    simp only [laws_heldStringS.l0, if_pos (at_lt (xs := pre ++ mt x :: markStrs (x + 1) rest) rfl), if_pos (nn (n := pre.length)), at_rdOf (xs := pre ++ mt x :: markStrs (x + 1) rest) rfl, at_next (xs := pre ++ mt x :: markStrs (x + 1) rest) rfl (by simp [markStrs_len]; omega), wrap_id (n := x + 1) (by omega) (by omega)]
    refine Ev.bind (markText_ev x (by omega)) ?_
    simp only [if_true]
    have := ih (pre ++ [mt x]) (by simp; omega) (x + 1) (by omega) (by omega)
    simp only [List.append_assoc, List.cons_append, List.nil_append, List.length_append, List.length_cons, List.length_nil] at this ⊢
    refine Ev.ext this ?_
    simp; omega
theorem heldStringS_ev (l : List ByteArray) (x : Int) (hl : l.length ≤ 1152921504606846976) (hx : x + l.length < 4611686018427387904) (h0 : 0 ≤ x) :
    Ev (fun k => laws_heldStringS.f k (markStrs x l) x) (x + l.length) := heldStringS_loop l.length hl l [] (by simp) x hx h0
def markInts : Int → List Int → List Int
  | _, [] => []
  | k, _ :: l => k :: markInts (k + 1) l
theorem markInts_len (k : Int) (l : List Int) : (markInts k l).length = l.length := by
  induction l generalizing k with
  | nil => rfl
  | cons c l ih => simp [markInts, ih]
theorem markIntS_loop (n : Nat) (hn : n ≤ 1152921504606846976) : ∀ rest pre : List Int, pre.length + rest.length = n → ∀ x : Int, x + rest.length < 4611686018427387904 → 0 ≤ x →
    Ev (fun k => laws_markIntS.l0 k (pre ++ rest) x (pre.length : Int)) (x + rest.length, pre ++ markInts x rest) := by
  intro rest
  induction rest with
  | nil =>
    intro pre hp x hx h0
    refine Ev.succ ?_
    simp only [laws_markIntS.l0, if_neg (at_end (xs := pre ++ []) rfl), markInts, List.length_nil, Int.natCast_zero, Int.add_zero]
    exact Ev.now _
  | cons c rest ih =>
    intro pre hp x hx h0
    simp only [List.length_cons] at hx hp
    refine Ev.succ ?_
    simp only [laws_markIntS.l0, if_pos (at_lt (xs := pre ++ c :: rest) rfl), if_pos (nn (n := pre.length)), set_mid, at_next (xs := pre ++ c :: rest) rfl (by simp; omega), wrap_id (n := x + 1) (by omega) (by omega)]
    have := ih (pre ++ [x]) (by simp; omega) (x + 1) (by omega) (by omega)
    simp only [List.append_assoc, List.cons_append, List.nil_append, List.length_append, List.length_cons, List.length_nil] at this ⊢
    refine Ev.ext this ?_
    simp only [markInts]
    refine Prod.ext ?_ rfl
    simp; omega
theorem markIntS_ev (l : List Int) (x : Int) (hl : l.length ≤ 1152921504606846976) (hx : x + l.length < 4611686018427387904) (h0 : 0 ≤ x) :
    Ev (fun k => laws_markIntS.f k l x) (x + l.length, markInts x l) := markIntS_loop l.length hl l [] (by simp) x hx h0
theorem heldIntS_loop (n : Nat) (hn : n ≤ 1152921504606846976) : ∀ rest pre : List Int, pre.length + rest.length = n → ∀ x : Int, x + rest.length < 4611686018427387904 → 0 ≤ x →
    Ev (fun k => laws_heldIntS.l0 k (pre ++ markInts x rest) x (pre.length : Int)) (x + rest.length) := by
  intro rest
  induction rest with
  | nil =>
    intro pre hp x hx h0
    show Ev (fun k => laws_heldIntS.l0 k (pre ++ []) x (pre.length : Int)) _
    refine Ev.succ ?_
    simp only [laws_heldIntS.l0, if_neg (at_end (xs := pre ++ []) rfl), List.length_nil, Int.natCast_zero, Int.add_zero]
    exact Ev.now _
  | cons c rest ih =>
    intro pre hp x hx h0
    simp only [List.length_cons] at hx hp
    show Ev (fun k => laws_heldIntS.l0 k (pre ++ x :: markInts (x + 1) rest) x (pre.length : Int)) _
    refine Ev.succ ?_
    simp only [laws_heldIntS.l0, if_pos (at_lt (xs := pre ++ x :: markInts (x + 1) rest) rfl), if_pos (nn (n := pre.length)), at_rd (xs := pre ++ x :: markInts (x + 1) rest) rfl, at_next (xs := pre ++ x :: markInts (x + 1) rest) rfl (by simp [markInts_len]; omega), wrap_id (n := x + 1) (by omega) (by omega), if_true]
    have := ih (pre ++ [x]) (by simp; omega) (x + 1) (by omega) (by omega)
    simp only [List.append_assoc, List.cons_append, List.nil_append, List.length_append, List.length_cons, List.length_nil] at this ⊢
    refine Ev.ext this ?_
    simp; omega
theorem heldIntS_ev (l : List Int) (x : Int) (hl : l.length ≤ 1152921504606846976) (hx : x + l.length < 4611686018427387904) (h0 : 0 ≤ x) :
    Ev (fun k => laws_heldIntS.f k (markInts x l) x) (x + l.length) := heldIntS_loop l.length hl l [] (by simp) x hx h0
theorem eqRing_ev (a : List ByteArray) (b : List Int) (ha : a.length ≤ 9223372036854775807) (hb : b.length ≤ 9223372036854775807) : Ev (fun k => laws_eqRing.f k a b a b) true := by
  simp only [laws_eqRing.f]
  refine Ev.bind (eqStringS_ev a ha) ?_
  simp only [if_true]
  refine Ev.bind (eqIntS_ev b hb) ?_
  simp only [if_true]
  exact Ev.now _
theorem markRing_ev (a : List ByteArray) (b : List Int) (x : Int) (ha : a.length ≤ 1152921504606846976) (hb : b.length ≤ 1152921504606846976) (hx : x + a.length + b.length < 4611686018427387904) (h0 : 0 ≤ x) :
    Ev (fun k => laws_markRing.f k a b x) (x + a.length + b.length, markStrs x a, markInts (x + a.length) b) := by
  simp only [laws_markRing.f]
  refine Ev.bind (markStringS_ev a x ha (by omega) h0) ?_
  refine Ev.bind (markIntS_ev b _ hb (by omega) (by omega)) ?_
  exact Ev.now _
theorem heldRing_ev (a : List ByteArray) (b : List Int) (x : Int) (ha : a.length ≤ 1152921504606846976) (hb : b.length ≤ 1152921504606846976) (hx : x + a.length + b.length < 4611686018427387904) (h0 : 0 ≤ x) :
    Ev (fun k => laws_heldRing.f k (markStrs x a) (markInts (x + a.length) b) x) (x + a.length + b.length) := by
  simp only [laws_heldRing.f]
  refine Ev.bind (heldStringS_ev a x ha (by omega) h0) ?_
  simp only [if_neg (show ¬ x + (a.length : Int) < 0 by omega)]
  refine Ev.bind (heldIntS_ev b _ hb (by omega) (by omega)) ?_
  simp only [if_neg (show ¬ x + (a.length : Int) + b.length < 0 by omega)]
  exact Ev.now _
/-! #### keys -/
def keyM (a : ByteArray) : Bool := decide (1 ≤ a.size ∧ a.size ≤ 64) && (bt a ((a.size : Int) - 1) != 0)
theorem specKey_val (a : ByteArray) (ha : a.size ≤ 9223372036854775807) : spec_l6Key.f a = some (keyM a) := by
  unfold spec_l6Key.f spec_l1In.f keyM
  by_cases h1 : (a.size : Int) ≥ 1
  · rw [if_pos h1, Option.bind_some]
    by_cases h2 : (a.size : Int) ≤ 64
    · rw [decide_eq_true h2, if_pos rfl, wrap_id (by omega) (by omega), if_pos (by omega), if_pos (by omega), decide_eq_true (by omega), Bool.true_and]
    · rw [decide_eq_false h2, if_neg (by decide), decide_eq_false (by omega), Bool.false_and]
  · rw [if_neg h1, Option.bind_some, if_neg (by decide), decide_eq_false (by omega), Bool.false_and]
theorem implKey_val (a : ByteArray) (ha : a.size ≤ 9223372036854775807) : impl_keyOk.f a = some (keyM a) := by
  unfold impl_keyOk.f impl_within.f keyM
  by_cases h1 : (a.size : Int) ≥ 1
  · rw [if_pos h1, Option.bind_some]
    by_cases h2 : (a.size : Int) ≤ 64
    · rw [decide_eq_true h2, if_pos rfl, wrap_id (by omega) (by omega), if_pos (by omega), if_pos (by omega), decide_eq_true (by omega), Bool.true_and]
    · rw [decide_eq_false h2, if_neg (by decide), decide_eq_false (by omega), Bool.false_and]
  · rw [if_neg h1, Option.bind_some, if_neg (by decide), decide_eq_false (by omega), Bool.false_and]
/-! #### RingNew -/
def ringNewM (a : ByteArray) : List ByteArray × List Int × Bool := if keyM a = true then ([a], [1], true) else ([], [], false)
theorem specRingNew_val (a : ByteArray) (ha : a.size ≤ 9223372036854775807) : spec_RingNew.f a = some (ringNewM a) := by
  unfold spec_RingNew.f ringNewM
  rw [specKey_val a ha, Option.bind_some]
  split <;> rfl
theorem implRingNew_val (a : ByteArray) (ha : a.size ≤ 9223372036854775807) : impl_RingNew.f a = some (ringNewM a) := by
  unfold impl_RingNew.f ringNewM
  rw [implKey_val a ha, Option.bind_some]
  split <;> rfl
theorem ringNewM_len (a : ByteArray) : (ringNewM a).1.length ≤ 1 ∧ (ringNewM a).2.1.length ≤ 1 := by
  unfold ringNewM
  split <;> simp
theorem FnExactRingNew : laws_FnExactRingNew.Pure := by
  intro s hs
  refine Ev.rounds (r := true) ?_
  unfold laws_FnExactRingNew.f
  by_cases h : (s.size : Int) > 1048576
  · simp only [if_pos h]; exact Ev.now _
  · simp only [if_neg h]
    obtain ⟨l1, l2⟩ := ringNewM_len s
    refine Ev.bindC (specRingNew_val s (by omega)) ?_
    refine Ev.bindC (implRingNew_val s (by omega)) ?_
    refine Ev.bind (eqRing_ev _ _ (by omega) (by omega)) ?_
    simp only [if_true, bne_self_eq_false]
    refine Ev.succ ?_
    simp only [laws_FnExactRingNew.j0, Bool.false_eq_true, if_false]
    refine Ev.bind (markRing_ev _ _ 1 (by omega) (by omega) (by omega) (by omega)) ?_
    refine Ev.bind (heldRing_ev _ _ 1 (by omega) (by omega) (by omega) (by omega)) ?_
    simp only [if_neg (show ¬ (1 + ((ringNewM s).1.length : Int) + ((ringNewM s).2.1.length : Int) < 0) by omega), if_true]
    refine Ev.bindC (implRingNew_val s (by omega)) ?_
    refine Ev.bind (eqRing_ev _ _ (by omega) (by omega)) ?_
    simp only [if_true, bne_self_eq_false]
    refine Ev.succ ?_
    simp only [laws_FnExactRingNew.j1, Bool.false_eq_true, if_false]
    refine Ev.bind (heldRing_ev _ _ 1 (by omega) (by omega) (by omega) (by omega)) ?_
    simp only [if_neg (show ¬ (1 + ((ringNewM s).1.length : Int) + ((ringNewM s).2.1.length : Int) < 0) by omega), if_true]
    exact Ev.now _
end Go.Proofs.Ytbmpmkklopbejaa.Pure
