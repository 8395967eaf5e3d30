import Derived.Test.YtfbkfhdlingedaaFnFnMachineTexty1
set_option linter.unusedVariables false
set_option linter.unusedSimpArgs false
set_option maxRecDepth 10000
namespace Go.Proofs.Ytfbkfhdlingedaa.FnMachineText
open Go Go.Proofs.YtfbkfhdlingedaaAm
theorem str_toList {a b : ByteArray} : (a.toList = b.toList) = (a = b) := by
  apply propext
  constructor
  · intro h
    have := congrArg List.toByteArray h
    apply ByteArray.ext
    apply Array.toList_inj.1
    rw [ByteArray.toList_eq, ByteArray.toList_eq] at h
    exact h
  · intro h; rw [h]
theorem same_loop {l m : List ByteArray} (hl : l.length ≤ 1000000000) (hm : l.length = m.length) : ∀ (rest pre rm pm : List ByteArray), l = pre ++ rest → m = pm ++ rm → pm.length = pre.length →
    Ev2 (fun N n => spec_l3Same.l0 N n (strsP l) (strsP m) (pre.length : Int)) [boolP (decide (rest = rm))] := by
  intro rest
  induction rest with
  | nil =>
    intro pre rm pm h1 h2 h3
    have hr : rm = [] := by
      have e1 := congrArg List.length h1
      have e2 := congrArg List.length h2
      simp at e1 e2
      exact List.eq_nil_of_length_eq_zero (by omega)
    subst hr
    refine Ev2.succ ?_
    simp only [spec_l3Same.l0_eq, strs_len, at_end h1, decide_true, stk, Int.reduceEq, Nat.reduceEqDiff, Int.reduceLE, Int.reduceLT]
    exact Ev2.now _
  | cons s rest ih =>
    intro pre rm pm h1 h2 h3
    cases rm with
    | nil =>
      exfalso
      have e1 := congrArg List.length h1
      have e2 := congrArg List.length h2
      simp at e1 e2
      omega
    | cons t rm =>
      have s2 := at_lt h2
      have g2 := at_getD (d := ByteArray.empty) h2
      rw [h3] at s2 g2
      have hih := ih (pre ++ [s]) rm (pm ++ [t]) (at_step h1) (at_step h2) (by simp [h3])
      refine Ev2.succ ?_
      simp only [spec_l3Same.l0_eq, strs_len, strs_elem, at_getD h1, g2, at_lt h1, s2, at_next h1 (by omega), stk, Int.reduceEq, Nat.reduceEqDiff, Int.reduceLE, Int.reduceLT]
      by_cases he : s = t
      · subst he
        simp only [stk, Int.reduceEq, Nat.reduceEqDiff, Int.reduceLE, Int.reduceLT]
        have e9 : decide (s :: rest = s :: rm) = decide (rest = rm) := by simp
        rw [e9]; exact hih
      · have e9 : decide (s :: rest = t :: rm) = false := by simp [he]
        rw [e9]
        simp only [str_toList, he, stk, Int.reduceEq, Nat.reduceEqDiff, Int.reduceLE, Int.reduceLT]
        exact Ev2.now _
theorem same_ev (l m : List ByteArray) (hl : l.length ≤ 1000000000) : Ev (fun N => spec_l3Same.f N [strsP l, strsP m]) [boolP (decide (l = m))] := by
  simp only [spec_l3Same.f_eq, strs_len, stk, Int.reduceEq, Nat.reduceEqDiff, Int.reduceLE, Int.reduceLT]
  by_cases h : l.length = m.length
  · have c : ((l.length : Int) = (m.length : Int)) = True := ptru (by omega)
    simp only [c, stk, Int.reduceEq, Nat.reduceEqDiff, Int.reduceLE, Int.reduceLT]
    exact (same_loop hl h l [] m [] rfl rfl rfl).diag
  · have c : ((l.length : Int) = (m.length : Int)) = False := pfls (by omega)
    have e9 : decide (l = m) = false := by
      apply decide_eq_false
      intro he; exact h (congrArg List.length he)
    rw [e9]
    simp only [c, stk, Int.reduceEq, Nat.reduceEqDiff, Int.reduceLE, Int.reduceLT]
    exact Ev.now _
def longM : List ByteArray → Int → Int
  | [], n => n
  | s :: r, n => longM r (if n < (s.size : Int) then (s.size : Int) else n)
theorem long_loop {l : List ByteArray} (hl : l.length ≤ 1000000000) : ∀ (rest pre : List ByteArray) (n0 : Int), l = pre ++ rest → Ev2 (fun N n => spec_l3Long.l0 N n (strsP l) n0 (pre.length : Int)) [intP (longM rest n0)] := by
  intro rest
  induction rest with
  | nil =>
    intro pre n0 hp
    refine Ev2.succ ?_
    simp only [spec_l3Long.l0_eq, strs_len, at_end hp, longM, stk, Int.reduceEq, Nat.reduceEqDiff, Int.reduceLE, Int.reduceLT]
    exact Ev2.now _
  | cons s rest ih =>
    intro pre n0 hp
    refine Ev2.succ ?_
    simp only [spec_l3Long.l0_eq, strs_len, strs_elem, at_getD hp, at_lt hp, at_next hp (by omega), longM, stk, Int.reduceEq, Nat.reduceEqDiff, Int.reduceLE, Int.reduceLT]
    by_cases h : n0 < (s.size : Int)
    · simp only [h, stk, Int.reduceEq, Nat.reduceEqDiff, Int.reduceLE, Int.reduceLT]; exact ih _ _ (at_step hp)
    · simp only [h, stk, Int.reduceEq, Nat.reduceEqDiff, Int.reduceLE, Int.reduceLT]; exact ih _ _ (at_step hp)
theorem long_ev (l : List ByteArray) (hl : l.length ≤ 1000000000) : Ev (fun N => spec_l3Long.f N [strsP l]) [intP (longM l 0)] := by
  simp only [spec_l3Long.f_eq, stk, Int.reduceEq, Nat.reduceEqDiff, Int.reduceLE, Int.reduceLT]
  exact (long_loop hl l [] 0 rfl).diag
def lessT : List ByteArray → List ByteArray → Bool
  | s :: r, t :: q => if s = t then lessT r q else Op.bytesLess s.toList t.toList
  | [], [] => false
  | [], _ :: _ => true
  | _ :: _, [] => false
def lessS (a b : List ByteArray) : Bool := if longM a 0 = longM b 0 then lessT a b else decide (longM b 0 < longM a 0)
theorem less_loop {l m : List ByteArray} (hl : l.length ≤ 1000000000) (hm : m.length ≤ 1000000000) : ∀ (rest pre rm pm : List ByteArray), l = pre ++ rest → m = pm ++ rm → pm.length = pre.length →
    Ev2 (fun N n => spec_l3Less.l0 N n (strsP l) (strsP m) (pre.length : Int)) [boolP (lessT rest rm)] := by
  intro rest
  induction rest with
  | nil =>
    intro pre rm pm h1 h2 h3
    have e1 := congrArg List.length h1
    have e2 := congrArg List.length h2
    simp at e1 e2
    have e9 : decide ((l.length : Int) < (m.length : Int)) = lessT [] rm := by
      cases rm with
      | nil => simp at e2; exact decide_eq_false (by omega)
      | cons t rm => simp at e2; exact decide_eq_true (by omega)
    rw [← e9]
    refine Ev2.succ ?_
    simp only [spec_l3Less.l0_eq, strs_len, at_end h1, stk, Int.reduceEq, Nat.reduceEqDiff, Int.reduceLE, Int.reduceLT]
    exact Ev2.now _
  | cons s rest ih =>
    intro pre rm pm h1 h2 h3
    have e1 := congrArg List.length h1
    have e2 := congrArg List.length h2
    simp at e1 e2
    cases rm with
    | nil =>
      have s2 := at_end h2
      rw [h3] at s2
      have e9 : decide ((l.length : Int) < (m.length : Int)) = lessT (s :: rest) [] := by simp at e2; exact decide_eq_false (by omega)
      rw [← e9]
      refine Ev2.succ ?_
      simp only [spec_l3Less.l0_eq, strs_len, at_lt h1, s2, stk, Int.reduceEq, Nat.reduceEqDiff, Int.reduceLE, Int.reduceLT]
      exact Ev2.now _
    | cons t rm =>
      have s2 := at_lt h2
      have g2 := at_getD (d := ByteArray.empty) h2
      rw [h3] at s2 g2
      have hih := ih (pre ++ [s]) rm (pm ++ [t]) (at_step h1) (at_step h2) (by simp [h3])
      refine Ev2.succ ?_
      simp only [spec_l3Less.l0_eq, strs_len, strs_elem, at_getD h1, g2, at_lt h1, s2, at_next h1 (by omega), lessT, stk, Int.reduceEq, Nat.reduceEqDiff, Int.reduceLE, Int.reduceLT]
      by_cases he : s = t
      · subst he
        simp only [stk, Int.reduceEq, Nat.reduceEqDiff, Int.reduceLE, Int.reduceLT]
        exact hih
      · simp only [str_toList, he, stk, Int.reduceEq, Nat.reduceEqDiff, Int.reduceLE, Int.reduceLT]
        exact Ev2.now _
theorem lessS_ev (a b : List ByteArray) (ha : a.length ≤ 1000000000) (hb : b.length ≤ 1000000000) : Ev (fun N => spec_l3Less.f N [strsP a, strsP b]) [boolP (lessS a b)] := by
  have h1 := long_ev a ha
  have h2 := long_ev b hb
  simp only [intP] at h1 h2
  unfold lessS
  simp only [spec_l3Less.f_eq, stk, Int.reduceEq, Nat.reduceEqDiff, Int.reduceLE, Int.reduceLT]
  refine Ev.bind h1 ?_
  refine Ev.bind h2 ?_
  by_cases h : longM a 0 = longM b 0
  · simp only [h, stk, Int.reduceEq, Nat.reduceEqDiff, Int.reduceLE, Int.reduceLT]
    exact (less_loop ha hb a [] b [] rfl rfl rfl).diag
  · simp only [h, stk, Int.reduceEq, Nat.reduceEqDiff, Int.reduceLE, Int.reduceLT]
    refine Ev.bind h1 ?_
    refine Ev.bind h2 ?_
    simp only [stk, Int.reduceEq, Nat.reduceEqDiff, Int.reduceLE, Int.reduceLT]
    exact Ev.now _
def placeS (x : List ByteArray) (O : List (List ByteArray)) : Nat → Nat
  | 0 => 0
  | k + 1 => if lessS x (O.getD k []) = true then placeS x O k else k + 1
def putS (x : List ByteArray) (O : List (List ByteArray)) : List (List ByteArray) := O.take (placeS x O O.length) ++ [x] ++ O.drop (placeS x O O.length)
def sortS : List (List ByteArray) → List (List ByteArray) → List (List ByteArray)
  | [], O => O
  | x :: r, O => sortS r (putS x O)
theorem placeS_le (x : List ByteArray) (O : List (List ByteArray)) : ∀ k, placeS x O k ≤ k
  | 0 => Nat.le_refl _
  | k + 1 => by
    have := placeS_le x O k
    unfold placeS
    split <;> omega
theorem putS_len (x : List ByteArray) (O : List (List ByteArray)) : (putS x O).length = O.length + 1 := by
  have := placeS_le x O O.length
  simp [putS]
  omega
theorem sets_elem (O : List (List ByteArray)) (k : Nat) (h : k < O.length) : (PV.list (O.map strsP)).elem k = strsP (O.getD k []) := by
  simp [PV.elem, PV.items, List.getD_eq_getElem?_getD, h]
theorem sets_items (O : List (List ByteArray)) : (PV.list (O.map strsP)).items = O.map strsP := rfl
theorem sort_l1 {A : List (List ByteArray)} (hA : A.length ≤ 1000000) (hs : ∀ X ∈ A, X.length ≤ 1000000000) {pre rest : List (List ByteArray)} {x : List ByteArray} (hp : A = pre ++ x :: rest) (O : List (List ByteArray)) (hO : O.length ≤ 1000000) (hOs : ∀ X ∈ O, X.length ≤ 1000000000) (R : PV)
    (hk : Ev2 (fun N n => spec_l3Sort.l0 N n (PV.list (A.map strsP)) ((pre ++ [x]).length : Int) ((putS x O).map strsP)) [R]) :
    ∀ k : Nat, k ≤ O.length → placeS x O k = placeS x O O.length → Ev3 (fun N m n => spec_l3Sort.l1 N m n (PV.list (A.map strsP)) (pre.length : Int) (k : Int) (O.map strsP)) [R] := by
  have hx : x.length ≤ 1000000000 := hs x (by rw [hp]; simp)
  have hpl : pre.length < A.length := by rw [hp]; simp
  have hxe : (PV.list (A.map strsP)).elem pre.length = strsP x := by rw [sets_elem A _ hpl, hp]; simp [List.getD_eq_getElem?_getD]
  have fin : ∀ k : Nat, k ≤ O.length → k = placeS x O O.length → Ev3 (fun N m n => if 0 ≤ (k : Int) then (if (k : Int) ≤ ((O.map strsP).length : Int) then (if ([] : List PV).length + (((O.map strsP).drop 0).take ((k : Int).toNat - 0)).length ≤ 5864062014805 then (if 0 ≤ (pre.length : Int) then (if (pre.length : Int) < ((PV.list (A.map strsP)).items.length : Int) then (if (([] : List PV) ++ (((O.map strsP).drop 0).take ((k : Int).toNat - 0))).length + [(PV.list (A.map strsP)).elem (pre.length : Int).toNat].length ≤ 5864062014805 then (if 0 ≤ (k : Int) then (if (k : Int) ≤ ((O.map strsP).length : Int) then (if ((([] : List PV) ++ (((O.map strsP).drop 0).take ((k : Int).toNat - 0))) ++ [(PV.list (A.map strsP)).elem (pre.length : Int).toNat]).length + (((O.map strsP).drop (k : Int).toNat).take ((O.map strsP).length - (k : Int).toNat)).length ≤ 5864062014805 then (spec_l3Sort.l0 N m (PV.list (A.map strsP)) (IntKind.i64.wrap ((pre.length : Int) + 1)) (((([] : List PV) ++ (((O.map strsP).drop 0).take ((k : Int).toNat - 0))) ++ [(PV.list (A.map strsP)).elem (pre.length : Int).toNat]) ++ (((O.map strsP).drop (k : Int).toNat).take ((O.map strsP).length - (k : Int).toNat)))) else none) else none) else none) else none) else none) else none) else none) else none) else none) [R] := by
    intro k hkl he
    have hw : IntKind.i64.wrap ((pre.length : Int) + 1) = ((pre ++ [x]).length : Int) := by rw [wrap_id (by omega) (by omega)]; simp
    have e1 : (pre.length : Int).toNat = pre.length := by omega
    have e2 : (k : Int).toNat = k := by omega
    have hl : ((O.map strsP).drop k).take ((O.map strsP).length - k) = (O.drop k).map strsP := by
      rw [List.take_of_length_le (by simp), List.map_drop]
    have hf : (((([] : List PV) ++ (((O.map strsP).drop 0).take (k - 0))) ++ [strsP x]) ++ (O.drop k).map strsP) = (putS x O).map strsP := by
      rw [putS, ← he]
      simp [List.map_take]
    refine Ev3.congr (g' := fun N m _ => spec_l3Sort.l0 N m (PV.list (A.map strsP)) ((pre ++ [x]).length : Int) ((putS x O).map strsP)) (fun N m n => ?_) hk.outer
    rw [e1, e2, hxe, hl, hf, hw]
    have c4 : (pre.length : Int) < ((PV.list (A.map strsP)).items.length : Int) := by rw [sets_items, List.length_map]; omega
    rw [if_pos (by omega), if_pos (by rw [List.length_map]; omega), if_pos (by simp; omega), if_pos (by omega), if_pos c4, if_pos (by simp; omega), if_pos (by omega), if_pos (by rw [List.length_map]; omega), if_pos (by simp; omega)]
  intro k
  induction k with
  | zero =>
    intro hkl he
    refine Ev3.succ ?_
    refine Ev3.congr (fun N m n => ?_) (fin 0 hkl he)
    rw [spec_l3Sort.l1_eq]
    rfl
  | succ k ih =>
    intro hkl he
    have hw : IntKind.i64.wrap (((k + 1 : Nat) : Int) - 1) = (k : Int) := by rw [wrap_id (by omega) (by omega)]; omega
    have hle := lessS_ev x (O.getD k []) hx (hOs _ (by rw [List.getD_eq_getElem?_getD, List.getElem?_eq_getElem (by omega)]; simp))
    have c1 : ((0 : Int) < ((k + 1 : Nat) : Int)) := by omega
    refine Ev3.succ ?_
    refine Ev3.congr (fun N m n => by rw [spec_l3Sort.l1_eq, if_pos (decide_eq_true c1), if_pos (by omega), if_pos (by rw [sets_items, List.length_map]; omega), hw, if_pos (by omega), if_pos (by rw [List.length_map]; omega), show (pre.length : Int).toNat = pre.length from by omega, show (k : Int).toNat = k from by omega, hxe, sets_elem O k (by omega)]) ?_
    refine Ev3.bind hle ?_
    rw [placeS] at he
    cases hb : lessS x (O.getD k []) with
    | true =>
      rw [if_pos hb] at he
      exact ih (by omega) he
    | false =>
      rw [if_neg (by rw [hb]; simp)] at he
      have := fin (k + 1) hkl he
      simp only [show (pre.length : Int).toNat = pre.length from by omega, hxe] at this
      exact this
theorem sort_l0 {A : List (List ByteArray)} (hA : A.length ≤ 1000000) (hs : ∀ X ∈ A, X.length ≤ 1000000000) : ∀ (rest pre O : List (List ByteArray)), A = pre ++ rest → O.length + rest.length ≤ 1000000 → (∀ X ∈ O, X.length ≤ 1000000000) →
    Ev2 (fun N n => spec_l3Sort.l0 N n (PV.list (A.map strsP)) (pre.length : Int) (O.map strsP)) [PV.list ((sortS rest O).map strsP)] := by
  intro rest
  induction rest with
  | nil =>
    intro pre O hp hz hOs
    refine Ev2.succ ?_
    have c : ¬ ((pre.length : Int) < ((PV.list (A.map strsP)).items.length : Int)) := by rw [sets_items, List.length_map, hp]; simp
    refine Ev2.congr (fun N n => by rw [spec_l3Sort.l0_eq, if_neg (by simpa using c)]; rfl) (Ev2.now _)
  | cons x rest ih =>
    intro pre O hp hz hOs
    rw [List.length_cons] at hz
    have hx : x.length ≤ 1000000000 := hs x (by rw [hp]; simp)
    have hput : ∀ X ∈ putS x O, X.length ≤ 1000000000 := fun X hX => by
      simp only [putS, List.mem_append, List.mem_singleton] at hX
      rcases hX with (h | rfl) | h
      · exact hOs X (List.mem_of_mem_take h)
      · exact hx
      · exact hOs X (List.mem_of_mem_drop h)
    have hih := ih (pre ++ [x]) (putS x O) (by rw [hp]; simp) (by rw [putS_len]; omega) hput
    have h1 := (sort_l1 hA hs hp O (by omega) hOs _ hih O.length (Nat.le_refl _) rfl).start
    refine Ev2.succ ?_
    have c : ((pre.length : Int) < ((PV.list (A.map strsP)).items.length : Int)) := by rw [sets_items, List.length_map, hp]; simp; omega
    refine Ev2.congr (fun N n => by rw [spec_l3Sort.l0_eq, if_pos (by simpa using c), List.length_map]) h1
theorem sortS_ev {A : List (List ByteArray)} (hA : A.length ≤ 1000000) (hs : ∀ X ∈ A, X.length ≤ 1000000000) : Ev (fun N => spec_l3Sort.f N [PV.list (A.map strsP)]) [PV.list ((sortS A []).map strsP)] := by
  have := (sort_l0 hA hs A [] [] rfl (by simpa using hA) (by simp)).diag
  simp only [spec_l3Sort.f_eq]
  exact this
theorem ev4_congr {α : Type} {r : α} {g g' : Nat → Nat → Nat → Nat → Option α} (h : ∀ N l m n, g N l m n = g' N l m n) (h' : Ev4 g' r) : Ev4 g r := by
  have : g = g' := by funext N l m n; exact h N l m n
  rw [this]; exact h'
def inS (x : List ByteArray) : List (List ByteArray) → Bool
  | [] => false
  | s :: r => decide (s = x) || inS x r
theorem known_l2 (O : List (List ByteArray)) (hO : O.length ≤ 1000000) (hOs : ∀ X ∈ O, X.length ≤ 1000000000) (x : List ByteArray) (i c : Int) (R : PV) : ∀ (rest pre : List (List ByteArray)) (kn : Bool), O = pre ++ rest →
    Ev3 (fun N m n => spec_l3All.l1 N m n i (IntKind.u8.wrap (c + 1)) ((if (kn || inS x rest) = true then O else O ++ [x]).map strsP)) [R] →
    Ev4 (fun N m0 m1 n => spec_l3All.l2 N m0 m1 n i c (strsP x) kn (pre.length : Int) (O.map strsP)) [R] := by
  have hlim : (O.map strsP).length + [strsP x].length ≤ 5864062014805 := by rw [List.length_map]; simp; omega
  have fin : ∀ kn : Bool, Ev3 (fun N m n => spec_l3All.l1 N m n i (IntKind.u8.wrap (c + 1)) ((if kn = true then O else O ++ [x]).map strsP)) [R] →
      Ev4 (fun N m0 m1 n => if (!kn) = true then (if (O.map strsP).length + [strsP x].length ≤ 5864062014805 then (spec_l3All.l1 N m0 m1 i (IntKind.u8.wrap (c + 1)) (O.map strsP ++ [strsP x])) else none) else (spec_l3All.l1 N m0 m1 i (IntKind.u8.wrap (c + 1)) (O.map strsP))) [R] := fun kn hk => by
    cases kn with
    | true => exact hk.outer
    | false =>
      refine ev4_congr (fun N l m n => ?_) hk.outer
      rw [if_pos (show (!false) = true from rfl), if_pos hlim, if_neg (by simp), List.map_append]
      rfl
  intro rest
  induction rest with
  | nil =>
    intro pre kn hp hk
    refine Ev4.succ ?_
    have cc : ¬ ((pre.length : Int) < ((O.map strsP).length : Int)) := by rw [List.length_map, hp]; simp
    refine ev4_congr (fun N l m n => by rw [spec_l3All.l2_eq, if_neg (by simpa using cc)]) (fin kn (by simpa [inS] using hk))
  | cons s rest ih =>
    intro pre kn hp hk
    have hpl : pre.length < O.length := by rw [hp]; simp
    have cc : ((pre.length : Int) < ((O.map strsP).length : Int)) := by rw [List.length_map]; omega
    refine Ev4.succ ?_
    cases kn with
    | true =>
      refine ev4_congr (fun N l m n => by rw [spec_l3All.l2_eq, if_pos (by simpa using cc), if_neg (by simp)]) (fin true (by simpa using hk))
    | false =>
      have hse : (PV.list (O.map strsP)).elem pre.length = strsP s := by rw [sets_elem O _ hpl, hp]; simp [List.getD_eq_getElem?_getD]
      have hsm := same_ev s x (hOs s (by rw [hp]; simp))
      have hw : IntKind.i64.wrap ((pre.length : Int) + 1) = ((pre ++ [s]).length : Int) := by rw [wrap_id (by omega) (by omega)]; simp
      have hih := ih (pre ++ [s]) (decide (s = x)) (by rw [hp]; simp) (by
        exact hk)
      refine ev4_congr (fun N l m n => by rw [spec_l3All.l2_eq, if_pos (by simpa using cc), if_pos (show (!false) = true from rfl), if_pos (by omega), if_pos cc, show (pre.length : Int).toNat = pre.length from by omega, hse, hw]) ?_
      exact Ev4.bind hsm hih
def sumS : List (List ByteArray) → Nat
  | [] => 0
  | X :: r => 1 + wtS X + sumS r
theorem sumS_app : ∀ a b : List (List ByteArray), sumS (a ++ b) = sumS a + sumS b
  | [], b => by simp [sumS]
  | X :: r, b => by rw [List.cons_append, sumS, sumS, sumS_app r b]; omega
theorem sumS_len : ∀ a : List (List ByteArray), a.length ≤ sumS a
  | [] => Nat.zero_le _
  | X :: r => by have := sumS_len r; rw [sumS, List.length_cons]; omega
def GoodQ (Q : List (List ByteArray)) : Prop := Q.length ≤ 900000 ∧ ∀ Y ∈ Q, Y.length ≤ 1000000000
theorem letters_l1 (X : List ByteArray) (hX : X.length ≤ 1000000000) (a B : Nat) (hB : a + 1 + B ≤ 900000)
    (next : ∀ O : List (List ByteArray), a < O.length → sumS (O.drop (a + 1)) ≤ B → (∀ Y ∈ O, Y.length ≤ 1000000000) → ∃ Q : List (List ByteArray), GoodQ Q ∧ Ev2 (fun N n => spec_l3All.l0 N n ((a : Int) + 1) (O.map strsP)) [PV.list (Q.map strsP)]) :
    ∀ (k : Nat) (c : Int) (O : List (List ByteArray)), c + k = 123 → 97 ≤ c → a < O.length → O.getD a [] = X → sumS (O.drop (a + 1)) + costsM X k c ≤ B → (∀ Y ∈ O, Y.length ≤ 1000000000) →
    ∃ Q : List (List ByteArray), GoodQ Q ∧ Ev3 (fun N m n => spec_l3All.l1 N m n (a : Int) c (O.map strsP)) [PV.list (Q.map strsP)] := by
  have hw : IntKind.i64.wrap ((a : Int) + 1) = (a : Int) + 1 := wrap_id (by omega) (by omega)
  intro k
  induction k with
  | zero =>
    intro c O hc h97 ha hg hs hY
    obtain ⟨Q, gQ, hQ⟩ := next O ha (by omega) hY
    refine ⟨Q, gQ, Ev3.succ ?_⟩
    refine Ev3.congr (fun N m n => by rw [spec_l3All.l1_eq, if_neg (by simp; omega), hw]) hQ.outer
  | succ k ih =>
    intro c O hc h97 ha hg hs hY
    rw [costsM] at hs
    have hOl : O.length ≤ 1000000 := by
      have h1 := sumS_len (O.drop (a + 1))
      rw [List.length_drop] at h1
      omega
    have hcw : IntKind.u8.wrap (c + 1) = c + 1 := by rw [show c = ((c.toNat : Nat) : Int) from by omega]; simp [IntKind.wrap, IntKind.bits, IntKind.signed]; omega
    have hel : (PV.list (O.map strsP)).elem a = strsP X := by rw [sets_elem O a ha, hg]
    have hen := ends_ev hX c
    have hxl := endsM_len c X
    have hO2 : ∃ Q : List (List ByteArray), GoodQ Q ∧ Ev3 (fun N m n => spec_l3All.l1 N m n (a : Int) (IntKind.u8.wrap (c + 1)) ((if (decide (((endsM c X).length : Int) = 0) || inS (endsM c X) O) = true then O else O ++ [endsM c X]).map strsP)) [PV.list (Q.map strsP)] := by
      rw [hcw]
      split
      · exact ih (c + 1) O (by omega) (by omega) ha hg (by omega) hY
      · rename_i hn
        have hne : endsM c X ≠ [] := fun h => by rw [h] at hn; simp at hn
        have hco : costM c X = 1 + wtS (endsM c X) := by rw [costM, if_neg hne]
        refine ih (c + 1) (O ++ [endsM c X]) (by omega) (by omega) (by simp; omega) (by rw [← hg]; simp [List.getD_eq_getElem?_getD, List.getElem?_append_left ha]) ?_ (fun Y hY2 => ?_)
        · rw [List.drop_append_of_le_length (by omega), sumS_app, sumS, sumS]
          omega
        · rcases List.mem_append.1 hY2 with h | h
          · exact hY Y h
          · rw [List.mem_singleton.1 h]; omega
    obtain ⟨Q, gQ, hQ⟩ := hO2
    refine ⟨Q, gQ, Ev3.succ ?_⟩
    have h2 := (known_l2 O hOl hY (endsM c X) a c (PV.list (Q.map strsP)) O [] (decide (((endsM c X).length : Int) = 0)) rfl hQ).start
    have c1 : ((a : Int) < ((O.map strsP).length : Int)) := by rw [List.length_map]; omega
    refine Ev3.congr (fun N m n => by rw [spec_l3All.l1_eq, if_pos (by simp; omega), if_pos (by omega), if_pos c1, show (a : Int).toNat = a from by omega, hel]) ?_
    refine Ev3.bind hen ?_
    refine Ev3.congr (fun N m n => ?_) h2
    simp only [headD_one, strs_len]
    rfl
theorem sortS_len : ∀ (A O : List (List ByteArray)), (sortS A O).length = A.length + O.length
  | [], O => by simp [sortS]
  | x :: r, O => by rw [sortS, sortS_len r, putS_len, List.length_cons]; omega
theorem sortS_mem : ∀ (A O : List (List ByteArray)) (Y : List ByteArray), Y ∈ sortS A O → Y ∈ A ∨ Y ∈ O
  | [], O, Y, h => .inr h
  | x :: r, O, Y, h => by
    rcases sortS_mem r _ Y h with h | h
    · exact .inl (List.mem_cons_of_mem _ h)
    · rw [putS] at h
      rcases List.mem_append.1 h with h | h
      · rcases List.mem_append.1 h with h | h
        · exact .inr (List.take_subset _ _ h)
        · exact .inl (by rw [List.mem_singleton.1 h]; exact List.mem_cons_self ..)
      · exact .inr (List.drop_subset _ _ h)
theorem sortS_good {O : List (List ByteArray)} (h : O.length ≤ 900000) (hY : ∀ Y ∈ O, Y.length ≤ 1000000000) : GoodQ (sortS O []) :=
  ⟨by rw [sortS_len]; simpa using h, fun Y h' => (sortS_mem O [] Y h').elim (hY Y) (fun h => absurd h (by simp))⟩
theorem sets_l0 : ∀ (M a : Nat) (O : List (List ByteArray)), sumS (O.drop a) ≤ M → a ≤ O.length → a + M ≤ 900000 → (∀ Y ∈ O, Y.length ≤ 1000000000) →
    ∃ Q : List (List ByteArray), GoodQ Q ∧ Ev2 (fun N n => spec_l3All.l0 N n (a : Int) (O.map strsP)) [PV.list (Q.map strsP)] := by
  intro M
  induction M with
  | zero =>
    intro a O hs ha hM hY
    have hl := sumS_len (O.drop a)
    rw [List.length_drop] at hl
    have he : a = O.length := by omega
    have gq := sortS_good (O := O) (by omega) hY
    refine ⟨sortS O [], gq, Ev2.succ ?_⟩
    have hso := sortS_ev (A := O) (by omega) hY
    refine Ev2.congr (fun N n => by rw [spec_l3All.l0_eq, if_neg (by rw [List.length_map]; simp; omega)]) ?_
    refine Ev2.bind hso ?_
    exact Ev2.now _
  | succ M ih =>
    intro a O hs ha hM hY
    by_cases hlt : a < O.length
    · have hd : O.drop a = O[a] :: O.drop (a + 1) := List.drop_eq_getElem_cons hlt
      rw [hd, sumS] at hs
      have hg : O.getD a [] = O[a] := by simp [List.getD_eq_getElem?_getD, hlt]
      have hX := hY O[a] (List.getElem_mem hlt)
      obtain ⟨kk, hkk⟩ : ∃ kk : Nat, kk = 26 := ⟨26, rfl⟩
      obtain ⟨cc, hcc⟩ : ∃ cc : Int, cc = 97 := ⟨97, rfl⟩
      have hc := costs_le O[a] kk cc
      obtain ⟨Q, gQ, hQ⟩ := letters_l1 O[a] hX a M (by omega) (fun O' h1 h2 h3 => by
        obtain ⟨Q, gQ, hQ⟩ := ih (a + 1) O' h2 (by omega) (by omega) h3
        exact ⟨Q, gQ, by simpa using hQ⟩) kk cc O (by omega) (by omega) hlt hg (by omega) hY
      subst hcc
      refine ⟨Q, gQ, Ev2.succ ?_⟩
      refine Ev2.congr (fun N n => by rw [spec_l3All.l0_eq, if_pos (by rw [List.length_map]; simp; omega)]) hQ.start
    · have he : a = O.length := by omega
      have gq := sortS_good (O := O) (by omega) hY
      refine ⟨sortS O [], gq, Ev2.succ ?_⟩
      have hso := sortS_ev (A := O) (by omega) hY
      refine Ev2.congr (fun N n => by rw [spec_l3All.l0_eq, if_neg (by rw [List.length_map]; simp; omega)]) ?_
      refine Ev2.bind hso ?_
      exact Ev2.now _
theorem all_sets (ws : List ByteArray) (h : wtS ws ≤ 800000) : ∃ Q : List (List ByteArray), GoodQ Q ∧ Ev (fun N => spec_l3All.f N [strsP ws]) [PV.list (Q.map strsP)] := by
  have hl : ws.length ≤ wtS ws := by
    clear h
    induction ws with
    | nil => exact Nat.le_refl _
    | cons s r ih => rw [wtS, List.length_cons]; omega
  obtain ⟨Q, gQ, hQ⟩ := sets_l0 (1 + wtS ws) 0 [ws] (by simp [sumS]) (by simp) (by omega) (fun Y hY => by rw [List.mem_singleton.1 hY]; omega)
  refine ⟨Q, gQ, ?_⟩
  simp only [spec_l3All.f_eq]
  exact hQ.diag
theorem at_l0 (Q : List (List ByteArray)) (hQ : Q.length ≤ 1000000) (hY : ∀ Y ∈ Q, Y.length ≤ 1000000000) (x : List ByteArray) : ∀ (rest pre : List (List ByteArray)), Q = pre ++ rest → ∃ r : Int, Ev2 (fun N n => spec_l3At.l0 N n (PV.list (Q.map strsP)) (strsP x) (pre.length : Int)) [intP r] := by
  intro rest
  induction rest with
  | nil =>
    intro pre hp
    refine ⟨-1, Ev2.succ ?_⟩
    refine Ev2.congr (fun N n => by rw [spec_l3At.l0_eq, if_neg (by rw [sets_items, List.length_map, hp]; simp)]) (Ev2.now _)
  | cons s rest ih =>
    intro pre hp
    have hpl : pre.length < Q.length := by rw [hp]; simp
    have hse : (PV.list (Q.map strsP)).elem pre.length = strsP s := by rw [sets_elem Q _ hpl, hp]; simp [List.getD_eq_getElem?_getD]
    have hw : IntKind.i64.wrap ((pre.length : Int) + 1) = ((pre ++ [s]).length : Int) := by rw [wrap_id (by omega) (by omega)]; simp
    have hsm := same_ev s x (hY s (by rw [hp]; simp))
    have cc : ((pre.length : Int) < ((PV.list (Q.map strsP)).items.length : Int)) := by rw [sets_items, List.length_map]; omega
    obtain ⟨r, hr⟩ := ih (pre ++ [s]) (by rw [hp]; simp)
    cases hb : decide (s = x) with
    | true =>
      refine ⟨(pre.length : Int), Ev2.succ ?_⟩
      refine Ev2.congr (fun N n => by rw [spec_l3At.l0_eq, if_pos (by simpa using cc), if_pos (by omega), if_pos cc, show (pre.length : Int).toNat = pre.length from by omega, hse]) ?_
      refine Ev2.bind hsm ?_
      rw [hb]
      exact Ev2.now _
    | false =>
      refine ⟨r, Ev2.succ ?_⟩
      refine Ev2.congr (fun N n => by rw [spec_l3At.l0_eq, if_pos (by simpa using cc), if_pos (by omega), if_pos cc, show (pre.length : Int).toNat = pre.length from by omega, hse, hw]) ?_
      refine Ev2.bind hsm ?_
      rw [hb]
      exact hr
theorem at_ev (Q : List (List ByteArray)) (hQ : Q.length ≤ 1000000) (hY : ∀ Y ∈ Q, Y.length ≤ 1000000000) (x : List ByteArray) : ∃ r : Int, Ev (fun N => spec_l3At.f N [PV.list (Q.map strsP), strsP x]) [intP r] := by
  obtain ⟨r, hr⟩ := at_l0 Q hQ hY x Q [] rfl
  refine ⟨r, ?_⟩
  simp only [spec_l3At.f_eq]
  exact hr.diag
structure MachS (m : List St) (n : Nat) : Prop where
  n : m.length ≤ n
  e : ∀ s ∈ m, s.2.length ≤ 40
theorem MachS.B {m : List St} {n : Nat} (h : MachS m n) (hn : n ≤ 1048576) : MachB m := ⟨by have := h.n; omega, fun s hs => by have := h.e s hs; omega⟩
theorem edge_snoc (es : List Ed) (a r : Int) : es.map edgeP ++ [PV.agg [PV.sc (.int .i64 a), PV.sc (.int .i64 r)]] = (es ++ [(a, r)]).map edgeP := by simp [edgeP]
theorem st_snoc (out : List St) (b : Bool) (es : List Ed) : out.map stP ++ [PV.agg [PV.sc (.bool b), PV.list (es.map edgeP)]] = (out ++ [(b, es)]).map stP := by simp [stP, edgesP]
theorem mof_l1 (Q : List (List ByteArray)) (gQ : GoodQ Q) (i : Nat) (hi : i < Q.length) (out : List St) (ends : Bool) (ho : out.length ≤ 1000) (P : List St → Prop)
    (next : ∀ es : List Ed, es.length ≤ 26 → ∃ m, P m ∧ Ev2 (fun N n => spec_MachineOf.l0 N n (PV.list (Q.map strsP)) ((i : Int) + 1) ((out ++ [(ends, es)]).map stP)) [machP m, boolP true]) :
    ∀ (k : Nat) (c : Int) (es : List Ed), c + k = 123 → 97 ≤ c → es.length + k ≤ 26 → ∃ m, P m ∧ Ev3 (fun N m0 n => spec_MachineOf.l1 N m0 n (PV.list (Q.map strsP)) (i : Int) c (out.map stP) ends (es.map edgeP)) [machP m, boolP true] := by
  have hql := gQ.1
  have hw : IntKind.i64.wrap ((i : Int) + 1) = (i : Int) + 1 := wrap_id (by omega) (by omega)
  have hel : (PV.list (Q.map strsP)).elem i = strsP (Q.getD i []) := sets_elem Q i hi
  have hX : (Q.getD i []).length ≤ 1000000000 := gQ.2 _ (by rw [List.getD_eq_getElem?_getD, List.getElem?_eq_getElem hi]; simp)
  intro k
  induction k with
  | zero =>
    intro c es hc h97 hes
    obtain ⟨m, pm, hm⟩ := next es (by omega)
    refine ⟨m, pm, Ev3.succ ?_⟩
    refine Ev3.congr (fun N m0 n => by rw [spec_MachineOf.l1_eq, if_neg (by simp; omega), if_pos (by rw [List.length_map]; simp; omega), hw, st_snoc]) hm.outer
  | succ k ih =>
    intro c es hc h97 hes
    have hcw : IntKind.u8.wrap (c + 1) = c + 1 := by rw [show c = ((c.toNat : Nat) : Int) from by omega]; simp [IntKind.wrap, IntKind.bits, IntKind.signed]; omega
    have hen := ends_ev hX c
    have hxl := endsM_len c (Q.getD i [])
    have c1 : ((i : Int) < ((PV.list (Q.map strsP)).items.length : Int)) := by rw [sets_items, List.length_map]; omega
    by_cases he : (0 : Int) < ((endsM c (Q.getD i [])).length : Int)
    · obtain ⟨r, hr⟩ := at_ev Q (by omega) gQ.2 (endsM c (Q.getD i []))
      obtain ⟨m, pm, hm⟩ := ih (c + 1) (es ++ [(IntKind.i64.wrap c, r)]) (by omega) (by omega) (by simp; omega)
      refine ⟨m, pm, Ev3.succ ?_⟩
      refine Ev3.congr (fun N m0 n => by rw [spec_MachineOf.l1_eq, if_pos (by simp; omega), if_pos (by omega), if_pos c1, show (i : Int).toNat = i from by omega, hel, hcw]) ?_
      refine Ev3.bind hen ?_
      refine Ev3.congr (g' := fun N m0 n => (spec_l3At.f N [PV.list (Q.map strsP), strsP (endsM c (Q.getD i []))]).bind fun t4 => if (es.map edgeP).length + ([PV.agg [PV.sc (.int .i64 (IntKind.i64.wrap c)), PV.sc (.int .i64 ((t4.headD default).toInt))]]).length ≤ 8796093022208 then (spec_MachineOf.l1 N m0 n (PV.list (Q.map strsP)) (i : Int) (c + 1) (out.map stP) ends (es.map edgeP ++ [PV.agg [PV.sc (.int .i64 (IntKind.i64.wrap c)), PV.sc (.int .i64 ((t4.headD default).toInt))]])) else none) (fun N m0 n => by rw [if_pos (by rw [headD_one, strs_len]; exact decide_eq_true he)]; rfl) ?_
      refine Ev3.bind hr ?_
      refine Ev3.congr (fun N m0 n => by rw [if_pos (by rw [List.length_map]; simp; omega), headD_one]; exact congrArg _ (edge_snoc es _ _)) hm
    · obtain ⟨m, pm, hm⟩ := ih (c + 1) es (by omega) (by omega) (by omega)
      refine ⟨m, pm, Ev3.succ ?_⟩
      refine Ev3.congr (fun N m0 n => by rw [spec_MachineOf.l1_eq, if_pos (by simp; omega), if_pos (by omega), if_pos c1, show (i : Int).toNat = i from by omega, hel, hcw]) ?_
      refine Ev3.bind hen ?_
      refine Ev3.congr (fun N m0 n => by rw [if_neg (by rw [headD_one, strs_len, decide_eq_true_eq]; exact he)]) hm
theorem mof_l0 (Q : List (List ByteArray)) (gQ : GoodQ Q) (hQ : Q.length ≤ 400) : ∀ (d : Nat) (out : List St), out.length + d = Q.length → MachS out 400 →
    ∃ m, MachS m 400 ∧ Ev2 (fun N n => spec_MachineOf.l0 N n (PV.list (Q.map strsP)) (out.length : Int) (out.map stP)) [machP m, boolP true] := by
  intro d
  induction d with
  | zero =>
    intro out hd ho
    refine ⟨out, ho, Ev2.succ ?_⟩
    refine Ev2.congr (fun N n => by rw [spec_MachineOf.l0_eq, if_neg (by rw [sets_items, List.length_map, decide_eq_true_eq]; omega)]; rfl) (Ev2.now _)
  | succ d ih =>
    intro out hd ho
    have hi : out.length < Q.length := by omega
    have c1 : ((out.length : Int) < ((PV.list (Q.map strsP)).items.length : Int)) := by rw [sets_items, List.length_map]; omega
    have hel : (PV.list (Q.map strsP)).elem out.length = strsP (Q.getD out.length []) := sets_elem Q _ hi
    have key : ∀ ends : Bool, ∃ m, MachS m 400 ∧ Ev3 (fun N m0 n => spec_MachineOf.l1 N m0 n (PV.list (Q.map strsP)) (out.length : Int) 97 (out.map stP) ends []) [machP m, boolP true] := fun ends =>
      mof_l1 Q gQ out.length hi out ends (by have := ho.n; omega) (fun m => MachS m 400) (fun es hes => by
        obtain ⟨m, pm, hm⟩ := ih (out ++ [(ends, es)]) (by simp; omega) ⟨by simp; omega, fun s hs => by
          rcases List.mem_append.1 hs with h | h
          · exact ho.e s h
          · rw [List.mem_singleton.1 h]; show es.length ≤ 40; omega⟩
        refine ⟨m, pm, ?_⟩
        have e : ((out ++ [(ends, es)]).length : Int) = (out.length : Int) + 1 := by simp
        rw [← e]; exact hm) 26 97 [] (by omega) (by omega) (by simp)
    by_cases hne : (0 : Int) < ((Q.getD out.length []).length : Int)
    · obtain ⟨m, pm, hm⟩ := key (decide ((((strsP (Q.getD out.length [])).elem 0).toStr).toList = (ByteArray.mk #[]).toList))
      refine ⟨m, pm, Ev2.succ ?_⟩
      have c2 : decide (0 < ((strsP (Q.getD out.length [])).items.length : Int)) = true := by rw [strs_len]; exact decide_eq_true hne
      refine Ev2.congr (fun N n => by rw [spec_MachineOf.l0_eq, if_pos (decide_eq_true c1), if_pos (by omega), if_pos c1, show (out.length : Int).toNat = out.length from by omega, hel, if_pos c2, if_pos (by omega), if_pos c1, if_pos (by omega), if_pos (of_decide_eq_true c2)]) hm.start
    · obtain ⟨m, pm, hm⟩ := key false
      refine ⟨m, pm, Ev2.succ ?_⟩
      have c2 : ¬ decide (0 < ((strsP (Q.getD out.length [])).items.length : Int)) = true := by rw [strs_len, decide_eq_true_eq]; exact hne
      refine Ev2.congr (fun N n => by rw [spec_MachineOf.l0_eq, if_pos (decide_eq_true c1), if_pos (by omega), if_pos c1, show (out.length : Int).toNat = out.length from by omega, hel, if_neg c2]) hm.start
theorem machOf_ev (ws : List ByteArray) (h : wtS ws ≤ 800000) (hl : ws.length ≤ 1000000) (hs : ∀ s ∈ ws, s.size ≤ 1000000) : ∃ m b, MachS m 400 ∧ Ev (fun N => spec_MachineOf.f N [strsP ws]) [machP m, boolP b] := by
  have h0 : MachS [] 400 := ⟨by simp, by simp⟩
  have hwo := specWords_ev ws (by omega) (fun s hs' => by have := hs s hs'; omega)
  cases hb : wordsM ws 300 with
  | false =>
    refine ⟨[], false, h0, ?_⟩
    simp only [spec_MachineOf.f_eq]
    refine Ev.bind hwo ?_
    rw [hb]
    exact Ev.now _
  | true =>
    obtain ⟨Q, gQ, hQ⟩ := all_sets ws h
    by_cases hbig : 400 < Q.length
    · refine ⟨[], false, h0, ?_⟩
      simp only [spec_MachineOf.f_eq]
      refine Ev.bind hwo ?_
      rw [hb]
      simp only [stk, Int.reduceEq, Nat.reduceEqDiff, Int.reduceLE, Int.reduceLT]
      refine Ev.bind hQ ?_
      refine Ev.congr (fun N => by rw [if_pos (by rw [headD_one, sets_items, List.length_map]; omega)]) ?_
      exact Ev.now _
    · obtain ⟨m, pm, hm⟩ := mof_l0 Q gQ (by omega) Q.length [] (by simp) h0
      refine ⟨m, true, pm, ?_⟩
      simp only [spec_MachineOf.f_eq]
      refine Ev.bind hwo ?_
      rw [hb]
      simp only [stk, Int.reduceEq, Nat.reduceEqDiff, Int.reduceLE, Int.reduceLT]
      refine Ev.bind hQ ?_
      refine Ev.congr (fun N => by rw [headD_one, if_neg (by rw [sets_items, List.length_map]; omega)]) ?_
      exact hm.diag
theorem wtS_le : ∀ (ws : List ByteArray) (k : Nat), (∀ s ∈ ws, s.size ≤ k) → wtS ws ≤ (k + 1) * ws.length
  | [], k, _ => by simp [wtS]
  | s :: r, k, h => by
    have := wtS_le r k (fun x hx => h x (by simp [hx]))
    have := h s (by simp)
    rw [wtS, List.length_cons, Nat.mul_succ]; omega
theorem drawM_ev {b : PV} (hb : Code1 b) (p : Nat) (hp : p < 100000000) : ∃ (m : List St) (q : Nat), q ≤ p + 500 ∧ MachS m 400 ∧ Ev (fun N => spec_l13Machine.f N [rdP b (p : Int)]) [machP m, rdP b (q : Int)] := by
  obtain ⟨r, q, h1, h2, h3⟩ := l13Words_ev hb p (by omega)
  have hn := h2.n
  have hw := wtS_le r 13 h2.s
  obtain ⟨m, bb, pm, hm⟩ := machOf_ev r (by omega) (by omega) (fun s hs => by have := h2.s s hs; omega)
  refine ⟨m, q, h1, pm, ?_⟩
  simp only [spec_l13Machine.f_eq, rd_f0, rd_f1, rd_agg, stk, Int.reduceEq, Nat.reduceEqDiff, Int.reduceLE, Int.reduceLT]
  refine Ev.bind h3 ?_
  simp only [rd_f1, rd_agg, stk, Int.reduceEq, Nat.reduceEqDiff, Int.reduceLE, Int.reduceLT]
  refine Ev.bind hm ?_
  simp only [stk, Int.reduceEq, Nat.reduceEqDiff, Int.reduceLE, Int.reduceLT]
  exact Ev.now _
theorem set_st (m : List St) (k : Nat) (s : St) : (m.map stP).set k (stP s) = (m.set k s).map stP := by rw [List.map_set]
theorem MachS.set {m : List St} {n : Nat} (h : MachS m n) (k : Nat) (s : St) (hs : s.2.length ≤ 40) : MachS (m.set k s) n :=
  ⟨by rw [List.length_set]; exact h.n, fun x hx => by
    rcases List.mem_or_eq_of_mem_set hx with h' | rfl
    · exact h.e x h'
    · exact hs⟩
theorem MachS.snoc {m : List St} {n : Nat} (h : MachS m n) (s : St) (hs : s.2.length ≤ 40) : MachS (m ++ [s]) (n + 1) :=
  ⟨by have := h.n; simp; omega, fun x hx => by
    rcases List.mem_append.1 hx with h' | h'
    · exact h.e x h'
    · rw [List.mem_singleton.1 h']; exact hs⟩
theorem drawN_l0 {b : PV} (hb : Code1 b) : ∀ (d x p : Nat) (out : List St), x + d = 14 → p + d < 400000000 → MachS out x →
    ∃ (m : List St) (q : Nat), q ≤ p + d + 1 ∧ MachS m 16 ∧ Ev2 (fun N n => spec_l13AnyMachine.l0 N n (x : Int) b (p : Int) (out.map stP)) [machP m, rdP b (q : Int)] := by
  intro d
  induction d with
  | zero =>
    intro x p out hx hp ho
    obtain ⟨k, hk, hf⟩ := pick_ev hb (p := (p : Int)) (n := 11) (by omega) (by omega)
    have hp1 : (p : Int) + 1 = ((p + 1 : Nat) : Int) := by omega
    rw [hp1] at hf
    have hw : IntKind.i64.wrap (3 + k) = 3 + k := wrap_id (by omega) (by omega)
    have hon := ho.n
    have hs := ho.snoc (true, []) (by simp)
    refine ⟨out ++ [(true, [])], p + 1, by omega, ⟨by have := hs.n; omega, hs.e⟩, Ev2.succ ?_⟩
    have e := st_snoc out true []
    refine Ev2.congr (g' := fun N n => some [machP (out ++ [(true, [])]), rdP b ((p + 1 : Nat) : Int)]) (fun N n => ?_) (Ev2.now _)
    rw [spec_l13AnyMachine.l0_eq, rd_agg, hf, Option.bind_some, headD_one]
    rw [if_neg (by show ¬ decide ((x : Int) < IntKind.i64.wrap (3 + k)) = true; rw [hw, decide_eq_true_eq]; omega), if_pos (by rw [List.length_map]; simp; omega)]
    exact congrArg (fun z => some [PV.list z, rdP b ((p + 1 : Nat) : Int)]) e
  | succ d ih =>
    intro x p out hx hp ho
    obtain ⟨k, hk, hf⟩ := pick_ev hb (p := (p : Int)) (n := 11) (by omega) (by omega)
    have hp1 : (p : Int) + 1 = ((p + 1 : Nat) : Int) := by omega
    rw [hp1] at hf
    have hw : IntKind.i64.wrap (3 + k) = 3 + k := wrap_id (by omega) (by omega)
    have hon := ho.n
    by_cases hlt : (x : Int) < 3 + k
    · have hw2 : IntKind.i64.wrap ((x : Int) + 1) = ((x + 1 : Nat) : Int) := by rw [wrap_id (by omega) (by omega)]; simp
      obtain ⟨m, q, h1, h2, h3⟩ := ih (x + 1) (p + 1) (out ++ [(decide (Int.tmod (x : Int) 3 = 0), [(97, IntKind.i64.wrap ((x : Int) + 1)), (98, IntKind.i64.wrap ((x : Int) + 1))])]) (by omega) (by omega) (ho.snoc _ (by simp))
      refine ⟨m, q, by omega, h2, Ev2.succ ?_⟩
      refine Ev2.congr (fun N n => ?_) h3
      rw [spec_l13AnyMachine.l0_eq, rd_agg, hf, Option.bind_some, headD_one]
      rw [if_pos (by show decide ((x : Int) < IntKind.i64.wrap (3 + k)) = true; rw [hw, decide_eq_true_eq]; omega), if_neg (by omega), if_pos (by rw [List.length_map]; simp; omega)]
      have e := st_snoc out (decide (Int.tmod (x : Int) 3 = 0)) [(97, IntKind.i64.wrap ((x : Int) + 1)), (98, IntKind.i64.wrap ((x : Int) + 1))]
      rw [← e, hw2]
      rfl
    · have hs := ho.snoc (true, []) (by simp)
      refine ⟨out ++ [(true, [])], p + 1, by omega, ⟨by have := hs.n; omega, hs.e⟩, Ev2.succ ?_⟩
      have e := st_snoc out true []
      refine Ev2.congr (g' := fun N n => some [machP (out ++ [(true, [])]), rdP b ((p + 1 : Nat) : Int)]) (fun N n => ?_) (Ev2.now _)
      rw [spec_l13AnyMachine.l0_eq, rd_agg, hf, Option.bind_some, headD_one]
      rw [if_neg (by show ¬ decide ((x : Int) < IntKind.i64.wrap (3 + k)) = true; rw [hw, decide_eq_true_eq]; exact hlt), if_pos (by rw [List.length_map]; simp; omega)]
      exact congrArg (fun z => some [PV.list z, rdP b ((p + 1 : Nat) : Int)]) e
theorem set_f0 (m : List St) (k : Nat) (s : St) (v : Bool) :
    PV.list ((machP m).items.set k (PV.agg ((stP s).parts.set 0 (PV.sc (.bool v))))) = machP (m.set k (v, s.2)) := by
  show PV.list ((m.map stP).set k (stP (v, s.2))) = _
  rw [set_st]; rfl
theorem set_f1 (m : List St) (k : Nat) (s : St) (a r : Int) :
    PV.list ((machP m).items.set k (PV.agg ((stP s).parts.set 1 (PV.list ((edgesP s.2).items ++ [PV.agg [PV.sc (.int .i64 a), PV.sc (.int .i64 r)]]))))) = machP (m.set k (s.1, s.2 ++ [(a, r)])) := by
  have e : PV.list ((edgesP s.2).items ++ [PV.agg [PV.sc (.int .i64 a), PV.sc (.int .i64 r)]]) = edgesP (s.2 ++ [(a, r)]) := congrArg PV.list (edge_snoc s.2 a r)
  rw [e]
  show PV.list ((m.map stP).set k (stP (s.1, s.2 ++ [(a, r)]))) = _
  rw [set_st]; rfl
theorem mach_snoc (m : List St) (v : Bool) : PV.list ((machP m).items ++ [PV.agg [PV.sc (.bool v), PV.list []]]) = machP (m ++ [(v, [])]) := congrArg PV.list (st_snoc m v [])
theorem setB {m : List St} (h : MachS m 400) (k : Nat) (s : St) (hs : s.2.length ≤ 50) : MachB (m.set k s) :=
  ⟨by have := h.n; rw [List.length_set]; omega, fun x hx => by
    rcases List.mem_or_eq_of_mem_set hx with h' | rfl
    · have := h.e x h'; omega
    · omega⟩
theorem anyM_ev {b : PV} (hb : Code1 b) (p : Nat) (hp : p < 90000000) : ∃ (m : List St) (q : Nat), q ≤ p + 600 ∧ MachB m ∧ Ev (fun N => spec_l13AnyMachine.f N [rdP b (p : Int)]) [machP m, rdP b (q : Int)] := by
  obtain ⟨m, q, h1, h2, h3⟩ := drawM_ev hb p (by omega)
  have hn := h2.n
  by_cases h0 : m.length = 0
  · refine ⟨m, q, by omega, h2.B (by omega), ?_⟩
    simp only [spec_l13AnyMachine.f_eq, rd_f0, rd_f1, rd_agg, stk, Int.reduceEq, Nat.reduceEqDiff, Int.reduceLE, Int.reduceLT]
    refine Ev.bind h3 ?_
    refine Ev.congr (fun N => by rw [headD_one, if_pos (by rw [mach_len, h0]; rfl)]; rfl) (Ev.now _)
  · obtain ⟨k, hk, hf⟩ := pick_ev hb (p := (q : Int)) (n := (m.length : Int)) (by omega) (by omega)
    obtain ⟨k, rfl⟩ := Int.eq_ofNat_of_zero_le hk.1
    obtain ⟨c, hc, hf2⟩ := pick_ev hb (p := (q : Int) + 1) (n := 10) (by omega) (by omega)
    have hkl : k < m.length := by omega
    have hk2 : (k : Int) < (m.length : Int) := hk.2
    obtain ⟨pre, s, rest, hmp, rfl⟩ := split_at m k hkl
    have c0 : ¬ ((m.length : Int) = 0) := by omega
    have hse := h2.e s (by rw [hmp]; simp)
    have hp2 : (q : Int) + 1 + 1 = ((q + 2 : Nat) : Int) := by omega
    by_cases k0 : c = 0
    · refine ⟨m.set pre.length (!s.1, s.2), q + 2, by omega, setB h2 _ _ (by show s.2.length ≤ 50; omega), ?_⟩
      simp only [spec_l13AnyMachine.f_eq, rd_f0, rd_f1, rd_agg, stk, Int.reduceEq, Nat.reduceEqDiff, Int.reduceLE, Int.reduceLT]
      refine Ev.bind h3 ?_
      simp only [mach_len, c0, rd_f1, rd_agg, hf, hf2, k0, hk2, mach_at hmp, st_f0, set_f0, hp2, stk, Int.reduceEq, Nat.reduceEqDiff, Int.reduceLE, Int.reduceLT]
      exact Ev.now _
    · by_cases k1 : c = 1
      · obtain ⟨l, hl, hf3⟩ := pick_ev hb (p := (q : Int) + 1 + 1) (n := 26) (by omega) (by omega)
        obtain ⟨t, ht, hf4⟩ := pick_ev hb (p := (q : Int) + 1 + 1 + 1) (n := (m.length : Int) + 1) (by omega) (by omega)
        have w1 : IntKind.i64.wrap ((m.length : Int) + 1) = (m.length : Int) + 1 := wrap_id (by omega) (by omega)
        have hp4 : (q : Int) + 1 + 1 + 1 + 1 = ((q + 4 : Nat) : Int) := by omega
        have c5 : (s.2.length + 1 ≤ 8796093022208) = True := eq_true (by omega)
        refine ⟨m.set pre.length (s.1, s.2 ++ [(IntKind.i64.wrap (97 + l), t)]), q + 4, by omega, setB h2 _ _ (by simp; omega), ?_⟩
        simp only [spec_l13AnyMachine.f_eq, rd_f0, rd_f1, rd_agg, stk, Int.reduceEq, Nat.reduceEqDiff, Int.reduceLE, Int.reduceLT]
        refine Ev.bind h3 ?_
        simp only [mach_len, c0, rd_f1, rd_agg, hf, hf2, k0, k1, w1, hf3, hf4, hk2, mach_at hmp, st_f1, edges_len, c5, set_f1, hp4, stk, Int.reduceEq, Nat.reduceEqDiff, Int.reduceLE, Int.reduceLT]
        exact Ev.congr (fun N => congrArg (fun z => some [z, rdP b ((q + 4 : Nat) : Int)]) (set_f1 m pre.length s (IntKind.i64.wrap (97 + l)) t)) (Ev.now _)
      · by_cases k2 : c = 2
        · obtain ⟨l, hl, hf3⟩ := pick_ev hb (p := (q : Int) + 1 + 1) (n := 2) (by omega) (by omega)
          have hp3 : (q : Int) + 1 + 1 + 1 = ((q + 3 : Nat) : Int) := by omega
          have c5 : (m.length + 1 ≤ 4398046511104) = True := eq_true (by omega)
          refine ⟨m ++ [(decide (l = 0), [])], q + 3, by omega, (h2.snoc _ (by simp)).B (by omega), ?_⟩
          simp only [spec_l13AnyMachine.f_eq, rd_f0, rd_f1, rd_agg, stk, Int.reduceEq, Nat.reduceEqDiff, Int.reduceLE, Int.reduceLT]
          refine Ev.bind h3 ?_
          simp only [mach_len, c0, rd_f1, rd_agg, hf, hf2, k0, k1, k2, hf3, c5, mach_snoc, hp3, stk, Int.reduceEq, Nat.reduceEqDiff, Int.reduceLE, Int.reduceLT]
          exact Ev.now _
        · by_cases k3 : c = 3
          · obtain ⟨m', q', e1, e2, e3⟩ := drawN_l0 hb 14 0 (q + 2) [] (by omega) (by omega) ⟨by simp, by simp⟩
            refine ⟨m', q', by omega, e2.B (by omega), ?_⟩
            have e4 := e3.diag
            simp only [Int.natCast_zero, List.map_nil] at e4
            simp only [spec_l13AnyMachine.f_eq, rd_f0, rd_f1, rd_agg, stk, Int.reduceEq, Nat.reduceEqDiff, Int.reduceLE, Int.reduceLT]
            refine Ev.bind h3 ?_
            simp only [mach_len, c0, rd_f1, rd_agg, hf, hf2, k0, k1, k2, k3, hp2, stk, Int.reduceEq, Nat.reduceEqDiff, Int.reduceLE, Int.reduceLT]
            exact e4
          · refine ⟨m, q + 2, by omega, h2.B (by omega), ?_⟩
            simp only [spec_l13AnyMachine.f_eq, rd_f0, rd_f1, rd_agg, stk, Int.reduceEq, Nat.reduceEqDiff, Int.reduceLE, Int.reduceLT]
            refine Ev.bind h3 ?_
            simp only [mach_len, c0, rd_f1, rd_agg, hf, hf2, k0, k1, k2, k3, hp2, stk, Int.reduceEq, Nat.reduceEqDiff, Int.reduceLE, Int.reduceLT]
            exact Ev.now _
theorem mget_draw {l : List PV} (hl : l.length ≤ 1048576) (hby : ∀ j, 0 ≤ ((PV.list l).elem j).toInt ∧ ((PV.list l).elem j).toInt ≤ 255) :
    ∃ t : ByteArray, t.size ≤ 10000 ∧ Ev (fun N => spec_DrawMachineGet.f N [PV.list l]) [strP t] := by
  obtain ⟨b, hb, hop⟩ := open_ev hl hby
  obtain ⟨m, q, h1, h2, h3⟩ := drawM_ev hb 0 (by omega)
  have hm := h2.B (by omega)
  have hz : (putT m).size ≤ 4000 := by
    unfold putT
    split
    · split
      · show 0 ≤ 4000; omega
      · rw [bytesOfL_size]; omega
    · show 0 ≤ 4000; omega
  have hput := specMPut_ev m hm
  obtain ⟨k, hk, hf⟩ := pick_ev hb (p := (q : Int)) (n := ((putT m).size : Int) + 1) (by omega) (by omega)
  obtain ⟨c, hc, hf2⟩ := pick_ev hb (p := (q : Int) + 1) (n := 5) (by omega) (by omega)
  obtain ⟨k, rfl⟩ := Int.eq_ofNat_of_zero_le hk.1
  have w1 : IntKind.i64.wrap (((putT m).size : Int) + 1) = ((putT m).size : Int) + 1 := wrap_id (by omega) (by omega)
  have e1 : ((k : Int) ≤ ((putT m).size : Int)) = True := eq_true (by omega)
  simp only [Int.natCast_zero] at h3
  by_cases c0 : c = 0
  · obtain ⟨x, hx, hf3⟩ := of_ev hb (p := (q : Int) + 1 + 1) (by omega) [ByteArray.mk #[0], ByteArray.mk #[1], ByteArray.mk #[97], ByteArray.mk #[128]] (by simp)
    have e : PV.list ([(PV.sc (.string (ByteArray.mk #[0]))), (PV.sc (.string (ByteArray.mk #[1]))), (PV.sc (.string (ByteArray.mk #[97]))), (PV.sc (.string (ByteArray.mk #[128])))]) = strsP [ByteArray.mk #[0], ByteArray.mk #[1], ByteArray.mk #[97], ByteArray.mk #[128]] := rfl
    have xs : x.size = 1 := by
      simp only [List.mem_cons, List.not_mem_nil, or_false] at hx
      rcases hx with rfl | rfl | rfl | rfl <;> rfl
    have z1 : ((putT m).extract 0 k).size = k := by rw [ByteArray.size_extract]; omega
    have z2 : ((putT m).extract k (putT m).size).size = (putT m).size - k := by rw [ByteArray.size_extract]; omega
    have c1 : (((putT m).extract 0 k).size + x.size ≤ 9223372036854775807) = True := eq_true (by omega)
    have c2 : (((putT m).extract 0 k ++ x).size + ((putT m).extract k (putT m).size).size ≤ 9223372036854775807) = True := eq_true (by rw [ByteArray.size_append]; omega)
    refine ⟨((putT m).extract 0 k ++ x) ++ (putT m).extract k (putT m).size, ?_, ?_⟩
    · rw [ByteArray.size_append, ByteArray.size_append]; omega
    · simp only [spec_DrawMachineGet.f_eq, hop, rd_f0, rd_f1, rd_agg, stk, Int.reduceEq, Nat.reduceEqDiff, Int.reduceLE, Int.reduceLT]
      refine Ev.bind h3 ?_
      simp only [headD_one, rd_f1, rd_agg, stk, Int.reduceEq, Nat.reduceEqDiff, Int.reduceLE, Int.reduceLT]
      refine Ev.bind hput ?_
      simp only [w1, hf, rd_f1, rd_agg, hf2, c0, e, hf3, e1, c1, c2, stk, Int.reduceEq, Nat.reduceEqDiff, Int.reduceLE, Int.reduceLT]
      exact Ev.now _
  · by_cases c1 : c = 1
    · refine ⟨(putT m).extract 0 k, by rw [ByteArray.size_extract]; omega, ?_⟩
      simp only [spec_DrawMachineGet.f_eq, hop, rd_f0, rd_f1, rd_agg, stk, Int.reduceEq, Nat.reduceEqDiff, Int.reduceLE, Int.reduceLT]
      refine Ev.bind h3 ?_
      simp only [headD_one, rd_f1, rd_agg, stk, Int.reduceEq, Nat.reduceEqDiff, Int.reduceLE, Int.reduceLT]
      refine Ev.bind hput ?_
      simp only [w1, hf, rd_f1, rd_agg, hf2, c0, c1, e1, stk, Int.reduceEq, Nat.reduceEqDiff, Int.reduceLE, Int.reduceLT]
      exact Ev.now _
    · by_cases c2 : c = 2
      · obtain ⟨x, hx, hf3⟩ := of_ev hb (p := (q : Int) + 1 + 1) (by omega) [ByteArray.mk #[1, 0], ByteArray.mk #[1, 1], ByteArray.mk #[2, 2, 97, 1, 1], ByteArray.mk #[128, 0], ByteArray.mk #[], ByteArray.mk #[2, 2, 97, 129, 0, 1]] (by simp)
        have e : PV.list ([(PV.sc (.string (ByteArray.mk #[1, 0]))), (PV.sc (.string (ByteArray.mk #[1, 1]))), (PV.sc (.string (ByteArray.mk #[2, 2, 97, 1, 1]))), (PV.sc (.string (ByteArray.mk #[128, 0]))), (PV.sc (.string (ByteArray.mk #[]))), (PV.sc (.string (ByteArray.mk #[2, 2, 97, 129, 0, 1])))]) = strsP [ByteArray.mk #[1, 0], ByteArray.mk #[1, 1], ByteArray.mk #[2, 2, 97, 1, 1], ByteArray.mk #[128, 0], ByteArray.mk #[], ByteArray.mk #[2, 2, 97, 129, 0, 1]] := rfl
        refine ⟨x, ?_, ?_⟩
        · simp only [List.mem_cons, List.not_mem_nil, or_false] at hx
          rcases hx with rfl | rfl | rfl | rfl | rfl | rfl <;> (show _ ≤ 10000; decide)
        · simp only [spec_DrawMachineGet.f_eq, hop, rd_f0, rd_f1, rd_agg, stk, Int.reduceEq, Nat.reduceEqDiff, Int.reduceLE, Int.reduceLT]
          refine Ev.bind h3 ?_
          simp only [headD_one, rd_f1, rd_agg, stk, Int.reduceEq, Nat.reduceEqDiff, Int.reduceLE, Int.reduceLT]
          refine Ev.bind hput ?_
          simp only [w1, hf, rd_f1, rd_agg, hf2, c0, c1, c2, e, hf3, stk, Int.reduceEq, Nat.reduceEqDiff, Int.reduceLE, Int.reduceLT]
          exact Ev.now _
      · refine ⟨putT m, by omega, ?_⟩
        simp only [spec_DrawMachineGet.f_eq, hop, rd_f0, rd_f1, rd_agg, stk, Int.reduceEq, Nat.reduceEqDiff, Int.reduceLE, Int.reduceLT]
        refine Ev.bind h3 ?_
        simp only [headD_one, rd_f1, rd_agg, stk, Int.reduceEq, Nat.reduceEqDiff, Int.reduceLE, Int.reduceLT]
        refine Ev.bind hput ?_
        simp only [w1, hf, rd_f1, rd_agg, hf2, c0, c1, c2, stk, Int.reduceEq, Nat.reduceEqDiff, Int.reduceLE, Int.reduceLT]
        exact Ev.now _
theorem mdM_l1 (m : List St) (hm : MachB m) {pre rest : List St} {s : St} (hp : m = pre ++ s :: rest) (R : PV)
    (hk : Ev2 (fun N n => laws_mdMachine.l0 N n (machP m) (machP m) ((pre ++ [s]).length : Int)) [R]) :
    ∀ (es epre : List Ed), s.2 = epre ++ es → Ev3 (fun N m0 n => laws_mdMachine.l1 N m0 n (machP m) (machP m) (pre.length : Int) (epre.length : Int)) [R] := by
  have hn := hm.n
  have hse := hm.e s (by rw [hp]; simp)
  intro es
  induction es with
  | nil =>
    intro epre he
    refine Ev3.succ ?_
    simp only [laws_mdMachine.l1_eq, mach_len, at_lt hp, mach_at hp, st_f1, edges_len, at_end he, at_next hp (by omega), stk, Int.reduceEq, Nat.reduceEqDiff, Int.reduceLE, Int.reduceLT]
    exact hk.outer
  | cons e es ih =>
    intro epre he
    refine Ev3.succ ?_
    simp only [laws_mdMachine.l1_eq, mach_len, at_lt hp, mach_at hp, st_f1, edges_len, at_lt he, edges_at he, edge_f0, edge_f1, at_next he (by omega), stk, Int.reduceEq, Nat.reduceEqDiff, Int.reduceLE, Int.reduceLT]
    exact ih _ (at_step he)
theorem mdM_l0 (m : List St) (hm : MachB m) : ∀ (rest pre : List St), m = pre ++ rest → Ev2 (fun N n => laws_mdMachine.l0 N n (machP m) (machP m) (pre.length : Int)) [boolP true] := by
  have hn := hm.n
  intro rest
  induction rest with
  | nil =>
    intro pre hp
    refine Ev2.succ ?_
    simp only [laws_mdMachine.l0_eq, mach_len, at_end hp, stk, Int.reduceEq, Nat.reduceEqDiff, Int.reduceLE, Int.reduceLT]
    exact Ev2.now _
  | cons s rest ih =>
    intro pre hp
    refine Ev2.succ ?_
    simp only [laws_mdMachine.l0_eq, mach_len, at_lt hp, mach_at hp, st_f0, st_f1, edges_len, bne_self_eq_false, stk, Int.reduceEq, Nat.reduceEqDiff, Int.reduceLE, Int.reduceLT]
    exact (mdM_l1 m hm hp _ (ih _ (at_step hp)) s.2 [] rfl).start
theorem mdM_ev (m : List St) (hm : MachB m) : Ev (fun N => laws_mdMachine.f N [machP m, machP m]) [boolP true] := by
  simp only [laws_mdMachine.f_eq, stk, Int.reduceEq, Nat.reduceEqDiff, Int.reduceLE, Int.reduceLT]
  exact (mdM_l0 m hm m [] rfl).diag
theorem mput_draw {l : List PV} (hl : l.length ≤ 1048576) (hby : ∀ j, 0 ≤ ((PV.list l).elem j).toInt ∧ ((PV.list l).elem j).toInt ≤ 255) :
    ∃ m : List St, MachB m ∧ Ev (fun N => spec_DrawMachinePut.f N [PV.list l]) [machP m] := by
  obtain ⟨b, hb, hop⟩ := open_ev hl hby
  obtain ⟨m, q, h1, h2, h3⟩ := anyM_ev hb 0 (by omega)
  refine ⟨m, h2, ?_⟩
  simp only [Int.natCast_zero] at h3
  simp only [spec_DrawMachinePut.f_eq, hop, rd_f0, rd_f1, rd_agg, stk, Int.reduceEq, Nat.reduceEqDiff, Int.reduceLE, Int.reduceLT]
  refine Ev.bind h3 ?_
  simp only [stk, Int.reduceEq, Nat.reduceEqDiff, Int.reduceLE, Int.reduceLT]
  exact Ev.now _
theorem put_size (m : List St) : (putT m).size ≤ 4000 := by
  unfold putT
  split
  · split
    · show 0 ≤ 4000; omega
    · rw [bytesOfL_size]; omega
  · show 0 ≤ 4000; omega
theorem getM_nil : getM ⟨#[]⟩ = ([], false) := by
  apply getM_false
  cases h : (getM ⟨#[]⟩).2 with
  | false => rfl
  | true =>
    obtain ⟨m, h1, h2, h3, h4⟩ := getM_true h
    exact absurd h3.symm (putM_ne h1)
theorem text_tail {l : List PV} (hl : l.length ≤ 1048576) (hby : ∀ j, 0 ≤ ((PV.list l).elem j).toInt ∧ ((PV.list l).elem j).toInt ≤ 255) :
    Ev (fun N => (spec_DrawMachineGet.f N [PV.list l]).bind fun t6 => (impl_MachineGet.f N [(PV.sc (.string ((t6.headD default).toStr)))]).bind fun t7 => (spec_MachineGet.f N [(PV.sc (.string ((t6.headD default).toStr)))]).bind fun t8 => if (((t7.tail.headD default).toBool) == ((t8.tail.headD default).toBool)) = true then ((laws_mdMachine.f N [(t7.headD default), (t8.headD default)]).bind fun t9 => if (t9.headD default).toBool = true then (if (!((t7.tail.headD default).toBool)) = false then ((impl_MachinePut.f N [(t7.headD default)]).bind fun t10 => some [(PV.sc (.bool (decide (((t10.headD default).toStr).toList = ((t6.headD default).toStr).toList))))]) else (some [(PV.sc (.bool true))])) else (some [(PV.sc (.bool false))])) else (some [(PV.sc (.bool false))])) [boolP true] := by
  obtain ⟨t, ht, hd⟩ := mget_draw hl hby
  have hm := getM_B t
  have hgi := implGet_ev t (by omega)
  have hgs := specGet_ev t (by omega)
  refine Ev.bind hd ?_
  simp only [headD_one, stk, Int.reduceEq, Nat.reduceEqDiff, Int.reduceLE, Int.reduceLT]
  refine Ev.bind hgi ?_
  refine Ev.bind hgs ?_
  simp only [headD_one, List.tail_cons, beq_self_eq_true, stk, Int.reduceEq, Nat.reduceEqDiff, Int.reduceLE, Int.reduceLT]
  refine Ev.bind (mdM_ev _ hm) ?_
  simp only [stk, Int.reduceEq, Nat.reduceEqDiff, Int.reduceLE, Int.reduceLT]
  cases hb : (getM t).2 with
  | false => simp only [stk, Int.reduceEq, Nat.reduceEqDiff, Int.reduceLE, Int.reduceLT]; exact Ev.now _
  | true =>
    obtain ⟨m, h1, h2, h3, h4⟩ := getM_true hb
    have hpt : putT m = t := by
      unfold putT
      rw [if_pos h1, if_neg (by omega), h3]
    have hm' : MachB m := by rw [h4] at hm; exact hm
    rw [h4]
    simp only [stk, Int.reduceEq, Nat.reduceEqDiff, Int.reduceLE, Int.reduceLT]
    refine Ev.bind (implPut_ev m hm') ?_
    rw [hpt]
    simp only [stk, Int.reduceEq, Nat.reduceEqDiff, Int.reduceLE, Int.reduceLT]
    exact Ev.now _
theorem law (ps : List PV) (h : PvOkL (PvOk Try.prog 8) [41, 41] ps) : ∃ N, laws_FnMachineText.f N ps = some [boolP true] := by
  obtain ⟨p, q, rfl, h1, h2⟩ := pvOkL2 h
  obtain ⟨l, hl', hby⟩ := code_args (P := Try.prog) (t := 41) (e := 5) (by kernel_rfl) (by kernel_rfl) (ps := [p]) ⟨h1, trivial⟩
  obtain ⟨l2, hl2', hby2⟩ := code_args (P := Try.prog) (t := 41) (e := 5) (by kernel_rfl) (by kernel_rfl) (ps := [q]) ⟨h2, trivial⟩
  injection hl' with e1 _; injection hl2' with e2 _; subst e1 e2
  refine Ev.some ?_
  have hit : (PV.list l).items = l := rfl
  have hit2 : (PV.list l2).items = l2 := rfl
  simp only [laws_FnMachineText.f_eq, hit, hit2]
  by_cases hbig : (1048576 : Int) < (l.length : Int)
  · simp only [hbig, stk, Int.reduceEq, Nat.reduceEqDiff, Int.reduceLE, Int.reduceLT]; exact Ev.now _
  by_cases hbig2 : (1048576 : Int) < (l2.length : Int)
  · simp only [hbig, hbig2, stk, Int.reduceEq, Nat.reduceEqDiff, Int.reduceLE, Int.reduceLT]; exact Ev.now _
  obtain ⟨m, hm, hd⟩ := mput_draw (l := l) (by omega) hby
  have htail := text_tail (l := l2) (by omega) hby2
  have hz := put_size m
  have hg := implGet_ev (putT m) (by omega)
  have dne : ∀ s : ByteArray, ¬ s = ⟨#[]⟩ → ¬ s.toList = (ByteArray.mk #[]).toList := fun s h h' => h (by rwa [str_toList] at h')
  simp only [hbig, hbig2, stk, Int.reduceEq, Nat.reduceEqDiff, Int.reduceLE, Int.reduceLT]
  refine Ev.bind hd ?_
  simp only [headD_one, stk, Int.reduceEq, Nat.reduceEqDiff, Int.reduceLE, Int.reduceLT]
  refine Ev.bind (implPut_ev m hm) ?_
  simp only [headD_one, stk, Int.reduceEq, Nat.reduceEqDiff, Int.reduceLE, Int.reduceLT]
  refine Ev.bind hg ?_
  refine Ev.bind (specMPut_ev m hm) ?_
  by_cases he : putT m = ⟨#[]⟩
  · rw [he, getM_nil]
    refine Ev.congr (fun N => ?_) htail
    simp only [List.tail_cons, headD_one, stk, Int.reduceEq, Nat.reduceEqDiff, Int.reduceLE, Int.reduceLT]
  · obtain ⟨h1, h2, h3⟩ := putT_some (m := m) rfl he
    have hgm : getM (putT m) = (m, true) := by rw [h3]; exact getM_put h1 h2
    rw [hgm]
    have hne := dne _ he
    simp only [List.tail_cons, hne, he, stk, Int.reduceEq, Nat.reduceEqDiff, Int.reduceLE, Int.reduceLT]
    refine Ev.bind (mdM_ev m hm) ?_
    refine Ev.congr (fun N => ?_) htail
    simp only [stk, Int.reduceEq, Nat.reduceEqDiff, Int.reduceLE, Int.reduceLT]
end Go.Proofs.Ytfbkfhdlingedaa.FnMachineText
