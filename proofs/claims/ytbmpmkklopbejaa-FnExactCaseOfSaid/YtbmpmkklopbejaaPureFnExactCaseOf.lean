/- The program's CaseOf and the reference's come to the same number, for every text. -/
import Derived.Test.YtbmpmkklopbejaaPFnExactCaseOfx2
namespace Go.Proofs.Ytbmpmkklopbejaa.Pure
open Go.RowKit Go.Proofs.Ytbmpmkklopbejaa.PFnExactCaseOf Go.Proofs.YtbmpmkklopbejaaW.PrintWords Go.Proofs.YtbmpmkklopbejaaW.PrintLast
set_option linter.unusedVariables false
set_option linter.unusedSimpArgs false
/-! #### a kit of small plain laws: rounds, numbers, lists (own text) -/
theorem wrap_id {n : Int} (h0 : -9223372036854775808 ≤ n) (h1 : n < 9223372036854775808) : wrap64 n = n := by unfold wrap64; omega
theorem Ev.succ {α : Type} {g : Nat → Option α} {r : α} (h : Ev (fun k => g (k + 1)) r) : Ev g r := Ev.step (fun _ => rfl) h
theorem Ev.bindC {α β : Type} {g : Option α} {f : Nat → α → Option β} {a : α} {r : β} (h : g = some a) (k : Ev (fun n => f n a) r) : Ev (fun n => g.bind (f n)) r := by
  subst h; exact k
theorem Ev.ext {α : Type} {g : Nat → Option α} {r r' : α} (h : Ev g r) (e : r = r') : Ev g r' := e ▸ h
theorem rd_mid (pre : List Int) (c : Int) (rest : List Int) : rd (pre ++ c :: rest) (pre.length : Int) = c := by simp [rd]
theorem rdOf_mid {α : Type} (d : α) (pre : List α) (c : α) (rest : List α) : rdOf d (pre ++ c :: rest) (pre.length : Int) = c := by simp [rdOf]
theorem bytesOf_len (s : ByteArray) : (bytesOf s).length = s.size := by simp [bytesOf]
theorem bt_rd (s : ByteArray) (i : Int) : bt s i = rd (bytesOf s) i := by
  unfold bt rd bytesOf
  by_cases h : i.toNat < s.size
  · rw [dif_pos h, List.getD_eq_getElem?_getD, List.getElem?_map, List.getElem?_eq_getElem (by simpa using h)]
    rfl
  · rw [dif_neg h, List.getD_eq_getElem?_getD, List.getElem?_map, List.getElem?_eq_none (by simpa using h)]
    rfl
theorem bytesOf_inj {s t : ByteArray} (h : bytesOf s = bytesOf t) : s = t := by
  have : s.data.toList = t.data.toList := by
    have := (List.map_inj_right (f := fun b : UInt8 => (b.toNat : Int)) (fun x y h => by
      have h' : x.toNat = y.toNat := Int.ofNat.inj h
      exact UInt8.toNat_inj.1 h')).1 h
    exact this
  cases s; cases t; simp at this; simp [this]
theorem toList_inj {s t : ByteArray} : s.toList = t.toList ↔ s = t := by
  constructor
  · intro h
    have h1 : s.data.toList = t.data.toList := by simpa [ByteArray.toList_eq] using h
    cases s; cases t; simp at h1; simp [h1]
  · rintro rfl; rfl
/-- A place in a list: what stands there, and the next place. -/
theorem at_lt {α : Type} {xs pre rest : List α} {c : α} (hp : xs = pre ++ c :: rest) : (pre.length : Int) < (xs.length : Int) := by subst hp; simp; omega
theorem at_end {α : Type} {xs pre : List α} (hp : xs = pre ++ []) : ¬ (pre.length : Int) < (xs.length : Int) := by subst hp; simp
theorem at_step {α : Type} {xs pre rest : List α} {c : α} (hp : xs = pre ++ c :: rest) : xs = (pre ++ [c]) ++ rest := by subst hp; simp
theorem at_next {α : Type} {xs pre rest : List α} {c : α} (hp : xs = pre ++ c :: rest) (hx : xs.length ≤ 9223372036854775807) : wrap64 ((pre.length : Int) + 1) = ((pre ++ [c]).length : Int) := by
  have := at_lt hp
  rw [wrap_id (by omega) (by omega)]; simp
theorem at_rd {xs pre rest : List Int} {c : Int} (hp : xs = pre ++ c :: rest) : rd xs (pre.length : Int) = c := by subst hp; exact rd_mid _ _ _
theorem at_rdOf {α : Type} {d : α} {xs pre rest : List α} {c : α} (hp : xs = pre ++ c :: rest) : rdOf d xs (pre.length : Int) = c := by subst hp; exact rdOf_mid _ _ _ _
theorem at_bt {s : ByteArray} {pre rest : List Int} {c : Int} (hp : bytesOf s = pre ++ c :: rest) : bt s (pre.length : Int) = c := by rw [bt_rd]; exact at_rd hp
theorem at_size {s : ByteArray} {pre rest : List Int} {c : Int} (hp : bytesOf s = pre ++ c :: rest) : (pre.length : Int) < (s.size : Int) := by have := at_lt hp; rwa [bytesOf_len] at this
theorem at_sizeE {s : ByteArray} {pre : List Int} (hp : bytesOf s = pre ++ []) : ¬ (pre.length : Int) < (s.size : Int) := by have := at_end hp; rwa [bytesOf_len] at this
theorem nn {n : Nat} : (0 : Int) ≤ (n : Int) := Int.natCast_nonneg n
theorem zero_len {α : Type} : (0 : Int) = (([] : List α).length : Int) := rfl
theorem set_mid {α : Type} (pre : List α) (c x : α) (rest : List α) : (pre ++ c :: rest).set ((pre.length : Int)).toNat x = pre ++ x :: rest := by simp [List.set_append]
/-! #### CaseOf: the program's and the reference's come to the same number -/
def isLow (c : Int) : Prop := c ≥ 97 ∧ c ≤ 122
instance (c : Int) : Decidable (isLow c) := inferInstanceAs (Decidable (_ ∧ _))
def isUp (c : Int) : Prop := c ≥ 65 ∧ c ≤ 90
instance (c : Int) : Decidable (isUp c) := inferInstanceAs (Decidable (_ ∧ _))
def lows (l : List Int) : Int := ((l.filter fun c => decide (isLow c)).length : Int)
def ups (l : List Int) : Int := ((l.filter fun c => decide (isUp c)).length : Int)
def letters (l : List Int) : Bool := l.all fun c => decide (isLow c ∨ isUp c)
/-- The case of a text of bytes. -/
def caseM (l : List Int) : Int :=
  if letters l = false then 0 else if l = [] then 0 else if ups l = 0 then 1 else if ups l = 1 ∧ isUp (rd l 0) then 2 else if ups l = l.length then 3 else 4
theorem lows_cons (c : Int) (l : List Int) : lows (c :: l) = (if isLow c then 1 else 0) + lows l := by
  unfold lows
  by_cases h : isLow c <;> simp [List.filter_cons, h]
  omega
theorem ups_cons (c : Int) (l : List Int) : ups (c :: l) = (if isUp c then 1 else 0) + ups l := by
  unfold ups
  by_cases h : isUp c <;> simp [List.filter_cons, h]
  omega
theorem letters_cons (c : Int) (l : List Int) : letters (c :: l) = (decide (isLow c ∨ isUp c) && letters l) := by simp [letters]
theorem counts_len (l : List Int) (h : letters l = true) : lows l + ups l = l.length := by
  induction l with
  | nil => rfl
  | cons c l ih =>
    rw [letters_cons, Bool.and_eq_true, decide_eq_true_eq] at h
    have := ih h.2
    rw [lows_cons, ups_cons, List.length_cons]
    have hx : ¬ (isLow c ∧ isUp c) := by unfold isLow isUp; omega
    rcases h.1 with h1 | h1
    · rw [if_pos h1, if_neg (fun h2 => hx ⟨h1, h2⟩)]; omega
    · rw [if_neg (fun h2 => hx ⟨h2, h1⟩), if_pos h1]; omega
theorem lows_nonneg (l : List Int) : 0 ≤ lows l := by unfold lows; omega
theorem ups_nonneg (l : List Int) : 0 ≤ ups l := by unfold ups; omega
theorem lows_le (l : List Int) : lows l ≤ l.length := by unfold lows; have := List.length_filter_le (fun c => decide (isLow c)) l; omega
theorem ups_le (l : List Int) : ups l ≤ l.length := by unfold ups; have := List.length_filter_le (fun c => decide (isUp c)) l; omega
theorem upper_some (c : Int) : impl_upper.f c = some (decide (isUp c)) := by
  unfold impl_upper.f isUp
  by_cases h : c ≥ 65 <;> simp [h]
theorem letter_some (c : Int) : impl_letter.f c = some (decide (isLow c ∨ isUp c)) := by
  unfold impl_letter.f
  rw [upper_some]
  by_cases h : c ≥ 97
  · by_cases h2 : c ≤ 122
    · simp [h, h2, isLow]
    · simp [h, h2, isLow]
  · simp [h, isLow]
/-- The reference's loop, from a place on. -/
theorem spec_case_loop (s : ByteArray) (hs : s.size ≤ 140737488351232) : ∀ (rest pre : List Int), bytesOf s = pre ++ rest →
    ∀ lo up : Int, 0 ≤ lo → lo ≤ pre.length → 0 ≤ up → up ≤ pre.length →
    Ev (fun k => spec_CaseOf.l0 k s lo up (pre.length : Int)) (if letters rest = false then 0 else if (s.size : Int) = 0 then 0 else if up + ups rest = 0 then 1 else if up + ups rest = 1 ∧ bt s 0 ≤ 90 then 2 else if lo + lows rest = 0 then 3 else 4) := by
  intro rest
  induction rest with
  | nil =>
    intro pre hp lo up h0 h1 h2 h3
    have hl : (pre.length : Int) = s.size := by have := congrArg List.length hp; rw [bytesOf_len] at this; simp at this; omega
    have e1 : ups [] = 0 := rfl
    have e2 : lows [] = 0 := rfl
    refine Ev.succ ?_
    simp only [spec_CaseOf.l0]
    rw [e1, e2, Int.add_zero, Int.add_zero, if_neg (show ¬ (letters [] = false) by simp [letters])]
    simp only [if_neg (show ¬ ((pre.length : Int) < s.size) by omega)]
    by_cases c0 : (s.size : Int) = 0
    · simp only [if_pos c0]; exact Ev.now _
    simp only [if_neg c0]
    by_cases c1 : up = 0
    · simp only [if_pos c1]; exact Ev.now _
    simp only [if_neg c1]
    by_cases c2 : up = 1
    · simp only [if_pos c2, if_pos (show (0 : Int) < s.size by omega)]
      refine Ev.succ ?_
      simp only [spec_CaseOf.j2, decide_eq_true_eq]
      by_cases c3 : bt s 0 ≤ 90
      · simp only [if_pos c3, if_pos (And.intro c2 c3)]; exact Ev.now _
      · simp only [if_neg c3, if_neg (show ¬ (up = 1 ∧ bt s 0 ≤ 90) from fun h => c3 h.2)]
        by_cases c4 : lo = 0
        · simp only [if_pos c4]; exact Ev.now _
        · simp only [if_neg c4]; exact Ev.now _
    · simp only [if_neg c2, if_neg (show ¬ (up = 1 ∧ bt s 0 ≤ 90) from fun h => c2 h.1)]
      refine Ev.succ ?_
      simp only [spec_CaseOf.j2, if_neg (show ¬ (false = true) by decide)]
      by_cases c4 : lo = 0
      · simp only [if_pos c4]; exact Ev.now _
      · simp only [if_neg c4]; exact Ev.now _
  | cons c rest ih =>
    intro pre hp lo up h0 h1 h2 h3
    have hl : (pre.length : Int) < s.size := by have := congrArg List.length hp; rw [bytesOf_len] at this; simp at this; omega
    have hc : bt s (pre.length : Int) = c := by rw [bt_rd, hp, rd_mid]
    have hp' : bytesOf s = (pre ++ [c]) ++ rest := by rw [hp]; simp
    have hn : ((pre ++ [c]).length : Int) = pre.length + 1 := by simp
    have hw : ∀ x : Int, 0 ≤ x → x ≤ pre.length → wrap64 (x + 1) = x + 1 := fun x a b => wrap_id (by omega) (by omega)
    refine Ev.succ ?_
    simp only [spec_CaseOf.l0, if_pos hl, if_pos (show (0 : Int) ≤ pre.length by omega), hc]
    rw [letters_cons, lows_cons, ups_cons]
    by_cases b : isLow c
    · have hup : ¬ isUp c := by unfold isLow isUp at *; omega
      simp only [if_pos b.1, decide_eq_true b.2]
      refine Ev.succ ?_
      simp only [spec_CaseOf.j1, if_true, hw _ h0 h1, hw (pre.length : Int) (by omega) (Int.le_refl _)]
      have := ih (pre ++ [c]) hp' (lo + 1) up (by omega) (by omega) h2 (by omega)
      rw [hn] at this
      refine Ev.ext this ?_
      simp only [b, hup, if_true, if_false, true_or, decide_true, Bool.true_and, Int.zero_add, Int.add_assoc]
    · have hj : ∀ k, (if c ≥ 97 then spec_CaseOf.j1 k s lo up (pre.length : Int) (decide (c ≤ 122)) else spec_CaseOf.j1 k s lo up (pre.length : Int) false) = spec_CaseOf.j1 k s lo up (pre.length : Int) false := by
        intro k
        by_cases c1 : c ≥ 97
        · rw [if_pos c1, decide_eq_false (show ¬ c ≤ 122 from fun h => b ⟨c1, h⟩)]
        · rw [if_neg c1]
      simp only [hj]
      refine Ev.succ ?_
      simp only [spec_CaseOf.j1, if_neg (show ¬ (false = true) by decide), if_pos (show (0 : Int) ≤ pre.length by omega), if_pos hl, hc]
      by_cases u : isUp c
      · simp only [if_pos u.1, if_pos u.2, hw _ h2 h3, hw (pre.length : Int) (by omega) (Int.le_refl _)]
        have := ih (pre ++ [c]) hp' lo (up + 1) h0 (by omega) (by omega) (by omega)
        rw [hn] at this
        refine Ev.ext this ?_
        simp only [b, u, if_true, if_false, or_true, decide_true, Bool.true_and, Int.zero_add, Int.add_assoc]
      · have e : ∀ (x y : Option Int), (if c ≥ 65 then (if c ≤ 90 then x else some 0) else some 0) = some 0 := by
          intro x y
          by_cases c1 : c ≥ 65
          · rw [if_pos c1, if_neg (show ¬ c ≤ 90 from fun h => u ⟨c1, h⟩)]
          · rw [if_neg c1]
        simp only [e _ none]
        simp only [b, u, or_self, decide_false, Bool.false_and, if_true]
        exact Ev.now _
/-- The program's loop, from a place on. -/
theorem impl_case_loop (s : ByteArray) (hs : s.size ≤ 140737488351232) (hne : 0 < s.size) : ∀ (rest pre : List Int), bytesOf s = pre ++ rest →
    ∀ up : Int, 0 ≤ up → up ≤ pre.length →
    Ev (fun k => impl_CaseOf.l0 k s up (s.size : Int) (pre.length : Int)) (if letters rest = false then 0 else if up + ups rest = 0 then 1 else if up + ups rest = 1 ∧ isUp (bt s 0) then 2 else if up + ups rest = s.size then 3 else 4) := by
  intro rest
  induction rest with
  | nil =>
    intro pre hp up h2 h3
    have hl : (pre.length : Int) = s.size := by have := congrArg List.length hp; rw [bytesOf_len] at this; simp at this; omega
    have e1 : ups [] = 0 := rfl
    refine Ev.succ ?_
    simp only [impl_CaseOf.l0]
    rw [e1, Int.add_zero, if_neg (show ¬ (letters [] = false) by simp [letters])]
    simp only [if_neg (show ¬ ((pre.length : Int) < s.size) by omega)]
    by_cases c1 : up = 0
    · simp only [if_pos c1]; exact Ev.now _
    simp only [if_neg c1]
    by_cases c2 : up = 1
    · simp only [if_pos c2, if_pos (show (0 : Int) < s.size by omega), upper_some, Option.bind_some]
      refine Ev.succ ?_
      simp only [impl_CaseOf.j1, decide_eq_true_eq]
      by_cases c3 : isUp (bt s 0)
      · simp only [if_pos c3, if_pos (And.intro c2 c3)]; exact Ev.now _
      · simp only [if_neg c3, if_neg (show ¬ (up = 1 ∧ isUp (bt s 0)) from fun h => c3 h.2)]
        by_cases c4 : up = s.size
        · simp only [if_pos c4]; exact Ev.now _
        · simp only [if_neg c4]; exact Ev.now _
    · simp only [if_neg c2, if_neg (show ¬ (up = 1 ∧ isUp (bt s 0)) from fun h => c2 h.1)]
      refine Ev.succ ?_
      simp only [impl_CaseOf.j1, if_neg (show ¬ (false = true) by decide)]
      by_cases c4 : up = s.size
      · simp only [if_pos c4]; exact Ev.now _
      · simp only [if_neg c4]; exact Ev.now _
  | cons c rest ih =>
    intro pre hp up h2 h3
    have hl : (pre.length : Int) < s.size := by have := congrArg List.length hp; rw [bytesOf_len] at this; simp at this; omega
    have hc : bt s (pre.length : Int) = c := by rw [bt_rd, hp, rd_mid]
    have hp' : bytesOf s = (pre ++ [c]) ++ rest := by rw [hp]; simp
    have hn : ((pre ++ [c]).length : Int) = pre.length + 1 := by simp
    have hw : ∀ x : Int, 0 ≤ x → x ≤ pre.length → wrap64 (x + 1) = x + 1 := fun x a b => wrap_id (by omega) (by omega)
    refine Ev.succ ?_
    simp only [impl_CaseOf.l0, if_pos hl, if_pos (show (0 : Int) ≤ pre.length by omega), hc, letter_some, upper_some, Option.bind_some, decide_eq_true_eq]
    rw [letters_cons, ups_cons]
    by_cases b : isLow c ∨ isUp c
    · simp only [if_pos b]
      by_cases u : isUp c
      · simp only [if_pos u, hw _ h2 h3, hw (pre.length : Int) (by omega) (Int.le_refl _)]
        have := ih (pre ++ [c]) hp' (up + 1) (by omega) (by omega)
        rw [hn] at this
        refine Ev.ext this ?_
        rw [decide_eq_true b, Bool.true_and]
        simp only [Int.add_assoc]
      · simp only [if_neg u, hw (pre.length : Int) (by omega) (Int.le_refl _)]
        have := ih (pre ++ [c]) hp' up h2 (by omega)
        rw [hn] at this
        refine Ev.ext this ?_
        rw [decide_eq_true b, Bool.true_and]
        simp only [Int.zero_add]
    · simp only [if_neg b]
      rw [decide_eq_false b, Bool.false_and, if_pos rfl]
      exact Ev.now _
theorem spec_CaseOf_ev (s : ByteArray) (hs : s.size ≤ 140737488351232) : Ev (fun k => spec_CaseOf.f k s) (caseM (bytesOf s)) := by
  have := spec_case_loop s hs (bytesOf s) [] rfl 0 0 (Int.le_refl _) (by simp) (Int.le_refl _) (by simp)
  unfold spec_CaseOf.f
  refine Ev.ext this ?_
  unfold caseM
  by_cases hl : letters (bytesOf s) = false
  · rw [if_pos hl, if_pos hl]
  rw [if_neg hl, if_neg hl]
  have hlen := bytesOf_len s
  by_cases h0 : bytesOf s = []
  · rw [if_pos h0, if_pos (by rw [h0] at hlen; simp at hlen; omega)]
  · have hpos : 0 < s.size := by
      rw [← hlen]
      exact List.length_pos_iff.2 h0
    have hcl := counts_len _ (by simpa using hl)
    rw [if_neg h0, if_neg (by omega), Int.zero_add, Int.zero_add]
    have hb : (ups (bytesOf s) = 1 ∧ bt s 0 ≤ 90) ↔ (ups (bytesOf s) = 1 ∧ isUp (rd (bytesOf s) 0)) := by
      have hlt : letters (bytesOf s) = true := by simpa using hl
      obtain ⟨c, r, hcr⟩ := List.exists_cons_of_ne_nil h0
      rw [hcr] at hlt
      rw [bt_rd, hcr]
      rw [letters_cons, Bool.and_eq_true, decide_eq_true_eq] at hlt
      have e : rd (c :: r) 0 = c := rfl
      rw [e]
      have : c ≤ 90 ↔ isUp c := by
        rcases hlt.1 with h | h
        · unfold isLow isUp at *; omega
        · unfold isUp at *; omega
      rw [this]
    simp only [hb]
    by_cases c1 : ups (bytesOf s) = 0
    · rw [if_pos c1, if_pos c1]
    rw [if_neg c1, if_neg c1]
    split
    · rfl
    · have : lows (bytesOf s) = 0 ↔ ups (bytesOf s) = (bytesOf s).length := by omega
      simp only [this]
theorem impl_CaseOf_ev (s : ByteArray) (hs : s.size ≤ 140737488351232) : Ev (fun k => impl_CaseOf.f k s) (caseM (bytesOf s)) := by
  unfold impl_CaseOf.f
  have hlen := bytesOf_len s
  by_cases h0 : s.toList = ([] : List UInt8)
  · simp only [if_pos h0]
    have : bytesOf s = [] := by
      have : s.size = 0 := by rw [ByteArray.toList_eq] at h0; have := congrArg List.length h0; simpa using this
      exact List.eq_nil_of_length_eq_zero (by omega)
    rw [this]
    exact Ev.now _
  · simp only [if_neg h0]
    have hpos : 0 < s.size := by
      rcases Nat.eq_zero_or_pos s.size with h | h
      · exact absurd (by rw [ByteArray.toList_eq]; exact List.eq_nil_of_length_eq_zero (by simpa using h)) h0
      · exact h
    have := impl_case_loop s hs hpos (bytesOf s) [] rfl 0 (Int.le_refl _) (by simp)
    refine Ev.ext this ?_
    unfold caseM
    have hne : bytesOf s ≠ [] := fun h => by rw [h] at hlen; simp at hlen; omega
    rw [if_neg hne, Int.zero_add, bt_rd, hlen]
theorem FnExactCaseOf : laws_FnExactCaseOf.Pure := by
  intro s hs
  refine Ev.rounds (r := true) ?_
  unfold laws_FnExactCaseOf.f
  by_cases h : (s.size : Int) > 1048576
  · simp only [if_pos h]; exact Ev.now _
  · simp only [if_neg h]
    refine Ev.bind (spec_CaseOf_ev s hs) ?_
    refine Ev.bind (impl_CaseOf_ev s hs) ?_
    simp only [if_true]
    exact Ev.now _
end Go.Proofs.Ytbmpmkklopbejaa.Pure
