import Derived.Test.YtfbkfhdlingedaaFnFnMachineBeginsy1
set_option linter.unusedVariables false
set_option linter.unusedSimpArgs false
set_option maxRecDepth 10000
namespace Go.Proofs.Ytfbkfhdlingedaa.FnMachineBegins
open Go Go.Proofs.YtfbkfhdlingedaaAm
theorem ev4_congr {α : Type} {r : α} {g g' : Nat → Nat → Nat → Nat → Option α} (h : ∀ N l m n, g N l m n = g' N l m n) (h' : Ev4 g' r) : Ev4 g r := by
  have : g = g' := by funext N l m n; exact h N l m n
  rw [this]; exact h'
def inS (x : List ByteArray) : List (List ByteArray) → Bool
  | [] => false
  | s :: r => decide (s = x) || inS x r
theorem known_l2 (O : List (List ByteArray)) (hO : O.length ≤ 1000000) (hOs : ∀ X ∈ O, X.length ≤ 1000000000) (x : List ByteArray) (i c : Int) (R : PV) : ∀ (rest pre : List (List ByteArray)) (kn : Bool), O = pre ++ rest →
    Ev3 (fun N m n => spec_l3All.l1 N m n i (IntKind.u8.wrap (c + 1)) ((if (kn || inS x rest) = true then O else O ++ [x]).map strsP)) [R] →
    Ev4 (fun N m0 m1 n => spec_l3All.l2 N m0 m1 n i c (strsP x) kn (pre.length : Int) (O.map strsP)) [R] := by
  have hlim : (O.map strsP).length + [strsP x].length ≤ 5864062014805 := by rw [List.length_map]; simp; omega
  have fin : ∀ kn : Bool, Ev3 (fun N m n => spec_l3All.l1 N m n i (IntKind.u8.wrap (c + 1)) ((if kn = true then O else O ++ [x]).map strsP)) [R] →
      Ev4 (fun N m0 m1 n => if (!kn) = true then (if (O.map strsP).length + [strsP x].length ≤ 5864062014805 then (spec_l3All.l1 N m0 m1 i (IntKind.u8.wrap (c + 1)) (O.map strsP ++ [strsP x])) else none) else (spec_l3All.l1 N m0 m1 i (IntKind.u8.wrap (c + 1)) (O.map strsP))) [R] := fun kn hk => by
    cases kn with
    | true => exact hk.outer
    | false =>
      refine ev4_congr (fun N l m n => ?_) hk.outer
      rw [if_pos (show (!false) = true from rfl), if_pos hlim, if_neg (by simp), List.map_append]
      rfl
  intro rest
  induction rest with
  | nil =>
    intro pre kn hp hk
    refine Ev4.succ ?_
    have cc : ¬ ((pre.length : Int) < ((O.map strsP).length : Int)) := by rw [List.length_map, hp]; simp
    refine ev4_congr (fun N l m n => by rw [spec_l3All.l2_eq, if_neg (by simpa using cc)]) (fin kn (by simpa [inS] using hk))
  | cons s rest ih =>
    intro pre kn hp hk
    have hpl : pre.length < O.length := by rw [hp]; simp
    have cc : ((pre.length : Int) < ((O.map strsP).length : Int)) := by rw [List.length_map]; omega
    refine Ev4.succ ?_
    cases kn with
    | true =>
      refine ev4_congr (fun N l m n => by rw [spec_l3All.l2_eq, if_pos (by simpa using cc), if_neg (by simp)]) (fin true (by simpa using hk))
    | false =>
      have hse : (PV.list (O.map strsP)).elem pre.length = strsP s := by rw [sets_elem O _ hpl, hp]; simp [List.getD_eq_getElem?_getD]
      have hsm := same_ev s x (hOs s (by rw [hp]; simp))
      have hw : IntKind.i64.wrap ((pre.length : Int) + 1) = ((pre ++ [s]).length : Int) := by rw [wrap_id (by omega) (by omega)]; simp
      have hih := ih (pre ++ [s]) (decide (s = x)) (by rw [hp]; simp) (by
        exact hk)
      refine ev4_congr (fun N l m n => by rw [spec_l3All.l2_eq, if_pos (by simpa using cc), if_pos (show (!false) = true from rfl), if_pos (by omega), if_pos cc, show (pre.length : Int).toNat = pre.length from by omega, hse, hw]) ?_
      exact Ev4.bind hsm hih
def sumS : List (List ByteArray) → Nat
  | [] => 0
  | X :: r => 1 + wtS X + sumS r
theorem sumS_app : ∀ a b : List (List ByteArray), sumS (a ++ b) = sumS a + sumS b
  | [], b => by simp [sumS]
  | X :: r, b => by rw [List.cons_append, sumS, sumS, sumS_app r b]; omega
theorem sumS_len : ∀ a : List (List ByteArray), a.length ≤ sumS a
  | [] => Nat.zero_le _
  | X :: r => by have := sumS_len r; rw [sumS, List.length_cons]; omega
def GoodQ (Q : List (List ByteArray)) : Prop := Q.length ≤ 900000 ∧ ∀ Y ∈ Q, Y.length ≤ 1000000000
theorem letters_l1 (X : List ByteArray) (hX : X.length ≤ 1000000000) (a B : Nat) (hB : a + 1 + B ≤ 900000)
    (next : ∀ O : List (List ByteArray), a < O.length → sumS (O.drop (a + 1)) ≤ B → (∀ Y ∈ O, Y.length ≤ 1000000000) → ∃ Q : List (List ByteArray), GoodQ Q ∧ Ev2 (fun N n => spec_l3All.l0 N n ((a : Int) + 1) (O.map strsP)) [PV.list (Q.map strsP)]) :
    ∀ (k : Nat) (c : Int) (O : List (List ByteArray)), c + k = 123 → 97 ≤ c → a < O.length → O.getD a [] = X → sumS (O.drop (a + 1)) + costsM X k c ≤ B → (∀ Y ∈ O, Y.length ≤ 1000000000) →
    ∃ Q : List (List ByteArray), GoodQ Q ∧ Ev3 (fun N m n => spec_l3All.l1 N m n (a : Int) c (O.map strsP)) [PV.list (Q.map strsP)] := by
  have hw : IntKind.i64.wrap ((a : Int) + 1) = (a : Int) + 1 := wrap_id (by omega) (by omega)
  intro k
  induction k with
  | zero =>
    intro c O hc h97 ha hg hs hY
    obtain ⟨Q, gQ, hQ⟩ := next O ha (by omega) hY
    refine ⟨Q, gQ, Ev3.succ ?_⟩
    refine Ev3.congr (fun N m n => by rw [spec_l3All.l1_eq, if_neg (by simp; omega), hw]) hQ.outer
  | succ k ih =>
    intro c O hc h97 ha hg hs hY
    rw [costsM] at hs
    have hOl : O.length ≤ 1000000 := by
      have h1 := sumS_len (O.drop (a + 1))
      rw [List.length_drop] at h1
      omega
    have hcw : IntKind.u8.wrap (c + 1) = c + 1 := by rw [show c = ((c.toNat : Nat) : Int) from by omega]; simp [IntKind.wrap, IntKind.bits, IntKind.signed]; omega
    have hel : (PV.list (O.map strsP)).elem a = strsP X := by rw [sets_elem O a ha, hg]
    have hen := ends_ev hX c
    have hxl := endsM_len c X
    have hO2 : ∃ Q : List (List ByteArray), GoodQ Q ∧ Ev3 (fun N m n => spec_l3All.l1 N m n (a : Int) (IntKind.u8.wrap (c + 1)) ((if (decide (((endsM c X).length : Int) = 0) || inS (endsM c X) O) = true then O else O ++ [endsM c X]).map strsP)) [PV.list (Q.map strsP)] := by
      rw [hcw]
      split
      · exact ih (c + 1) O (by omega) (by omega) ha hg (by omega) hY
      · rename_i hn
        have hne : endsM c X ≠ [] := fun h => by rw [h] at hn; simp at hn
        have hco : costM c X = 1 + wtS (endsM c X) := by rw [costM, if_neg hne]
        refine ih (c + 1) (O ++ [endsM c X]) (by omega) (by omega) (by simp; omega) (by rw [← hg]; simp [List.getD_eq_getElem?_getD, List.getElem?_append_left ha]) ?_ (fun Y hY2 => ?_)
        · rw [List.drop_append_of_le_length (by omega), sumS_app, sumS, sumS]
          omega
        · rcases List.mem_append.1 hY2 with h | h
          · exact hY Y h
          · rw [List.mem_singleton.1 h]; omega
    obtain ⟨Q, gQ, hQ⟩ := hO2
    refine ⟨Q, gQ, Ev3.succ ?_⟩
    have h2 := (known_l2 O hOl hY (endsM c X) a c (PV.list (Q.map strsP)) O [] (decide (((endsM c X).length : Int) = 0)) rfl hQ).start
    have c1 : ((a : Int) < ((O.map strsP).length : Int)) := by rw [List.length_map]; omega
    refine Ev3.congr (fun N m n => by rw [spec_l3All.l1_eq, if_pos (by simp; omega), if_pos (by omega), if_pos c1, show (a : Int).toNat = a from by omega, hel]) ?_
    refine Ev3.bind hen ?_
    refine Ev3.congr (fun N m n => ?_) h2
    simp only [headD_one, strs_len]
    rfl
theorem sortS_len : ∀ (A O : List (List ByteArray)), (sortS A O).length = A.length + O.length
  | [], O => by simp [sortS]
  | x :: r, O => by rw [sortS, sortS_len r, putS_len, List.length_cons]; omega
theorem sortS_mem : ∀ (A O : List (List ByteArray)) (Y : List ByteArray), Y ∈ sortS A O → Y ∈ A ∨ Y ∈ O
  | [], O, Y, h => .inr h
  | x :: r, O, Y, h => by
    rcases sortS_mem r _ Y h with h | h
    · exact .inl (List.mem_cons_of_mem _ h)
    · rw [putS] at h
      rcases List.mem_append.1 h with h | h
      · rcases List.mem_append.1 h with h | h
        · exact .inr (List.take_subset _ _ h)
        · exact .inl (by rw [List.mem_singleton.1 h]; exact List.mem_cons_self ..)
      · exact .inr (List.drop_subset _ _ h)
theorem sortS_good {O : List (List ByteArray)} (h : O.length ≤ 900000) (hY : ∀ Y ∈ O, Y.length ≤ 1000000000) : GoodQ (sortS O []) :=
  ⟨by rw [sortS_len]; simpa using h, fun Y h' => (sortS_mem O [] Y h').elim (hY Y) (fun h => absurd h (by simp))⟩
theorem sets_l0 : ∀ (M a : Nat) (O : List (List ByteArray)), sumS (O.drop a) ≤ M → a ≤ O.length → a + M ≤ 900000 → (∀ Y ∈ O, Y.length ≤ 1000000000) →
    ∃ Q : List (List ByteArray), GoodQ Q ∧ Ev2 (fun N n => spec_l3All.l0 N n (a : Int) (O.map strsP)) [PV.list (Q.map strsP)] := by
  intro M
  induction M with
  | zero =>
    intro a O hs ha hM hY
    have hl := sumS_len (O.drop a)
    rw [List.length_drop] at hl
    have he : a = O.length := by omega
    have gq := sortS_good (O := O) (by omega) hY
    refine ⟨sortS O [], gq, Ev2.succ ?_⟩
    have hso := sortS_ev (A := O) (by omega) hY
    refine Ev2.congr (fun N n => by rw [spec_l3All.l0_eq, if_neg (by rw [List.length_map]; simp; omega)]) ?_
    refine Ev2.bind hso ?_
    exact Ev2.now _
  | succ M ih =>
    intro a O hs ha hM hY
    by_cases hlt : a < O.length
    · have hd : O.drop a = O[a] :: O.drop (a + 1) := List.drop_eq_getElem_cons hlt
      rw [hd, sumS] at hs
      have hg : O.getD a [] = O[a] := by simp [List.getD_eq_getElem?_getD, hlt]
      have hX := hY O[a] (List.getElem_mem hlt)
      obtain ⟨kk, hkk⟩ : ∃ kk : Nat, kk = 26 := ⟨26, rfl⟩
      obtain ⟨cc, hcc⟩ : ∃ cc : Int, cc = 97 := ⟨97, rfl⟩
      have hc := costs_le O[a] kk cc
      obtain ⟨Q, gQ, hQ⟩ := letters_l1 O[a] hX a M (by omega) (fun O' h1 h2 h3 => by
        obtain ⟨Q, gQ, hQ⟩ := ih (a + 1) O' h2 (by omega) (by omega) h3
        exact ⟨Q, gQ, by simpa using hQ⟩) kk cc O (by omega) (by omega) hlt hg (by omega) hY
      subst hcc
      refine ⟨Q, gQ, Ev2.succ ?_⟩
      refine Ev2.congr (fun N n => by rw [spec_l3All.l0_eq, if_pos (by rw [List.length_map]; simp; omega)]) hQ.start
    · have he : a = O.length := by omega
      have gq := sortS_good (O := O) (by omega) hY
      refine ⟨sortS O [], gq, Ev2.succ ?_⟩
      have hso := sortS_ev (A := O) (by omega) hY
      refine Ev2.congr (fun N n => by rw [spec_l3All.l0_eq, if_neg (by rw [List.length_map]; simp; omega)]) ?_
      refine Ev2.bind hso ?_
      exact Ev2.now _
theorem all_sets (ws : List ByteArray) (h : wtS ws ≤ 800000) : ∃ Q : List (List ByteArray), GoodQ Q ∧ Ev (fun N => spec_l3All.f N [strsP ws]) [PV.list (Q.map strsP)] := by
  have hl : ws.length ≤ wtS ws := by
    clear h
    induction ws with
    | nil => exact Nat.le_refl _
    | cons s r ih => rw [wtS, List.length_cons]; omega
  obtain ⟨Q, gQ, hQ⟩ := sets_l0 (1 + wtS ws) 0 [ws] (by simp [sumS]) (by simp) (by omega) (fun Y hY => by rw [List.mem_singleton.1 hY]; omega)
  refine ⟨Q, gQ, ?_⟩
  simp only [spec_l3All.f_eq]
  exact hQ.diag
theorem at_l0 (Q : List (List ByteArray)) (hQ : Q.length ≤ 1000000) (hY : ∀ Y ∈ Q, Y.length ≤ 1000000000) (x : List ByteArray) : ∀ (rest pre : List (List ByteArray)), Q = pre ++ rest → ∃ r : Int, Ev2 (fun N n => spec_l3At.l0 N n (PV.list (Q.map strsP)) (strsP x) (pre.length : Int)) [intP r] := by
  intro rest
  induction rest with
  | nil =>
    intro pre hp
    refine ⟨-1, Ev2.succ ?_⟩
    refine Ev2.congr (fun N n => by rw [spec_l3At.l0_eq, if_neg (by rw [sets_items, List.length_map, hp]; simp)]) (Ev2.now _)
  | cons s rest ih =>
    intro pre hp
    have hpl : pre.length < Q.length := by rw [hp]; simp
    have hse : (PV.list (Q.map strsP)).elem pre.length = strsP s := by rw [sets_elem Q _ hpl, hp]; simp [List.getD_eq_getElem?_getD]
    have hw : IntKind.i64.wrap ((pre.length : Int) + 1) = ((pre ++ [s]).length : Int) := by rw [wrap_id (by omega) (by omega)]; simp
    have hsm := same_ev s x (hY s (by rw [hp]; simp))
    have cc : ((pre.length : Int) < ((PV.list (Q.map strsP)).items.length : Int)) := by rw [sets_items, List.length_map]; omega
    obtain ⟨r, hr⟩ := ih (pre ++ [s]) (by rw [hp]; simp)
    cases hb : decide (s = x) with
    | true =>
      refine ⟨(pre.length : Int), Ev2.succ ?_⟩
      refine Ev2.congr (fun N n => by rw [spec_l3At.l0_eq, if_pos (by simpa using cc), if_pos (by omega), if_pos cc, show (pre.length : Int).toNat = pre.length from by omega, hse]) ?_
      refine Ev2.bind hsm ?_
      rw [hb]
      exact Ev2.now _
    | false =>
      refine ⟨r, Ev2.succ ?_⟩
      refine Ev2.congr (fun N n => by rw [spec_l3At.l0_eq, if_pos (by simpa using cc), if_pos (by omega), if_pos cc, show (pre.length : Int).toNat = pre.length from by omega, hse, hw]) ?_
      refine Ev2.bind hsm ?_
      rw [hb]
      exact hr
theorem at_ev (Q : List (List ByteArray)) (hQ : Q.length ≤ 1000000) (hY : ∀ Y ∈ Q, Y.length ≤ 1000000000) (x : List ByteArray) : ∃ r : Int, Ev (fun N => spec_l3At.f N [PV.list (Q.map strsP), strsP x]) [intP r] := by
  obtain ⟨r, hr⟩ := at_l0 Q hQ hY x Q [] rfl
  refine ⟨r, ?_⟩
  simp only [spec_l3At.f_eq]
  exact hr.diag
structure MachS (m : List St) (n : Nat) : Prop where
  n : m.length ≤ n
  e : ∀ s ∈ m, s.2.length ≤ 40
theorem MachS.B {m : List St} {n : Nat} (h : MachS m n) (hn : n ≤ 1048576) : MachB m := ⟨by have := h.n; omega, fun s hs => by have := h.e s hs; omega⟩
theorem edge_snoc (es : List Ed) (a r : Int) : es.map edgeP ++ [PV.agg [PV.sc (.int .i64 a), PV.sc (.int .i64 r)]] = (es ++ [(a, r)]).map edgeP := by simp [edgeP]
theorem st_snoc (out : List St) (b : Bool) (es : List Ed) : out.map stP ++ [PV.agg [PV.sc (.bool b), PV.list (es.map edgeP)]] = (out ++ [(b, es)]).map stP := by simp [stP, edgesP]
theorem mof_l1 (Q : List (List ByteArray)) (gQ : GoodQ Q) (i : Nat) (hi : i < Q.length) (out : List St) (ends : Bool) (ho : out.length ≤ 1000) (P : List St → Prop)
    (next : ∀ es : List Ed, es.length ≤ 26 → ∃ m, P m ∧ Ev2 (fun N n => spec_MachineOf.l0 N n (PV.list (Q.map strsP)) ((i : Int) + 1) ((out ++ [(ends, es)]).map stP)) [machP m, boolP true]) :
    ∀ (k : Nat) (c : Int) (es : List Ed), c + k = 123 → 97 ≤ c → es.length + k ≤ 26 → ∃ m, P m ∧ Ev3 (fun N m0 n => spec_MachineOf.l1 N m0 n (PV.list (Q.map strsP)) (i : Int) c (out.map stP) ends (es.map edgeP)) [machP m, boolP true] := by
  have hql := gQ.1
  have hw : IntKind.i64.wrap ((i : Int) + 1) = (i : Int) + 1 := wrap_id (by omega) (by omega)
  have hel : (PV.list (Q.map strsP)).elem i = strsP (Q.getD i []) := sets_elem Q i hi
  have hX : (Q.getD i []).length ≤ 1000000000 := gQ.2 _ (by rw [List.getD_eq_getElem?_getD, List.getElem?_eq_getElem hi]; simp)
  intro k
  induction k with
  | zero =>
    intro c es hc h97 hes
    obtain ⟨m, pm, hm⟩ := next es (by omega)
    refine ⟨m, pm, Ev3.succ ?_⟩
    refine Ev3.congr (fun N m0 n => by rw [spec_MachineOf.l1_eq, if_neg (by simp; omega), if_pos (by rw [List.length_map]; simp; omega), hw, st_snoc]) hm.outer
  | succ k ih =>
    intro c es hc h97 hes
    have hcw : IntKind.u8.wrap (c + 1) = c + 1 := by rw [show c = ((c.toNat : Nat) : Int) from by omega]; simp [IntKind.wrap, IntKind.bits, IntKind.signed]; omega
    have hen := ends_ev hX c
    have hxl := endsM_len c (Q.getD i [])
    have c1 : ((i : Int) < ((PV.list (Q.map strsP)).items.length : Int)) := by rw [sets_items, List.length_map]; omega
    by_cases he : (0 : Int) < ((endsM c (Q.getD i [])).length : Int)
    · obtain ⟨r, hr⟩ := at_ev Q (by omega) gQ.2 (endsM c (Q.getD i []))
      obtain ⟨m, pm, hm⟩ := ih (c + 1) (es ++ [(IntKind.i64.wrap c, r)]) (by omega) (by omega) (by simp; omega)
      refine ⟨m, pm, Ev3.succ ?_⟩
      refine Ev3.congr (fun N m0 n => by rw [spec_MachineOf.l1_eq, if_pos (by simp; omega), if_pos (by omega), if_pos c1, show (i : Int).toNat = i from by omega, hel, hcw]) ?_
      refine Ev3.bind hen ?_
      refine Ev3.congr (g' := fun N m0 n => (spec_l3At.f N [PV.list (Q.map strsP), strsP (endsM c (Q.getD i []))]).bind fun t4 => if (es.map edgeP).length + ([PV.agg [PV.sc (.int .i64 (IntKind.i64.wrap c)), PV.sc (.int .i64 ((t4.headD default).toInt))]]).length ≤ 8796093022208 then (spec_MachineOf.l1 N m0 n (PV.list (Q.map strsP)) (i : Int) (c + 1) (out.map stP) ends (es.map edgeP ++ [PV.agg [PV.sc (.int .i64 (IntKind.i64.wrap c)), PV.sc (.int .i64 ((t4.headD default).toInt))]])) else none) (fun N m0 n => by rw [if_pos (by rw [headD_one, strs_len]; exact decide_eq_true he)]; rfl) ?_
      refine Ev3.bind hr ?_
      refine Ev3.congr (fun N m0 n => by rw [if_pos (by rw [List.length_map]; simp; omega), headD_one]; exact congrArg _ (edge_snoc es _ _)) hm
    · obtain ⟨m, pm, hm⟩ := ih (c + 1) es (by omega) (by omega) (by omega)
      refine ⟨m, pm, Ev3.succ ?_⟩
      refine Ev3.congr (fun N m0 n => by rw [spec_MachineOf.l1_eq, if_pos (by simp; omega), if_pos (by omega), if_pos c1, show (i : Int).toNat = i from by omega, hel, hcw]) ?_
      refine Ev3.bind hen ?_
      refine Ev3.congr (fun N m0 n => by rw [if_neg (by rw [headD_one, strs_len, decide_eq_true_eq]; exact he)]) hm
theorem mof_l0 (Q : List (List ByteArray)) (gQ : GoodQ Q) (hQ : Q.length ≤ 400) : ∀ (d : Nat) (out : List St), out.length + d = Q.length → MachS out 400 →
    ∃ m, MachS m 400 ∧ Ev2 (fun N n => spec_MachineOf.l0 N n (PV.list (Q.map strsP)) (out.length : Int) (out.map stP)) [machP m, boolP true] := by
  intro d
  induction d with
  | zero =>
    intro out hd ho
    refine ⟨out, ho, Ev2.succ ?_⟩
    refine Ev2.congr (fun N n => by rw [spec_MachineOf.l0_eq, if_neg (by rw [sets_items, List.length_map, decide_eq_true_eq]; omega)]; rfl) (Ev2.now _)
  | succ d ih =>
    intro out hd ho
    have hi : out.length < Q.length := by omega
    have c1 : ((out.length : Int) < ((PV.list (Q.map strsP)).items.length : Int)) := by rw [sets_items, List.length_map]; omega
    have hel : (PV.list (Q.map strsP)).elem out.length = strsP (Q.getD out.length []) := sets_elem Q _ hi
    have key : ∀ ends : Bool, ∃ m, MachS m 400 ∧ Ev3 (fun N m0 n => spec_MachineOf.l1 N m0 n (PV.list (Q.map strsP)) (out.length : Int) 97 (out.map stP) ends []) [machP m, boolP true] := fun ends =>
      mof_l1 Q gQ out.length hi out ends (by have := ho.n; omega) (fun m => MachS m 400) (fun es hes => by
        obtain ⟨m, pm, hm⟩ := ih (out ++ [(ends, es)]) (by simp; omega) ⟨by simp; omega, fun s hs => by
          rcases List.mem_append.1 hs with h | h
          · exact ho.e s h
          · rw [List.mem_singleton.1 h]; show es.length ≤ 40; omega⟩
        refine ⟨m, pm, ?_⟩
        have e : ((out ++ [(ends, es)]).length : Int) = (out.length : Int) + 1 := by simp
        rw [← e]; exact hm) 26 97 [] (by omega) (by omega) (by simp)
    by_cases hne : (0 : Int) < ((Q.getD out.length []).length : Int)
    · obtain ⟨m, pm, hm⟩ := key (decide ((((strsP (Q.getD out.length [])).elem 0).toStr).toList = (ByteArray.mk #[]).toList))
      refine ⟨m, pm, Ev2.succ ?_⟩
      have c2 : decide (0 < ((strsP (Q.getD out.length [])).items.length : Int)) = true := by rw [strs_len]; exact decide_eq_true hne
      refine Ev2.congr (fun N n => by rw [spec_MachineOf.l0_eq, if_pos (decide_eq_true c1), if_pos (by omega), if_pos c1, show (out.length : Int).toNat = out.length from by omega, hel, if_pos c2, if_pos (by omega), if_pos c1, if_pos (by omega), if_pos (of_decide_eq_true c2)]) hm.start
    · obtain ⟨m, pm, hm⟩ := key false
      refine ⟨m, pm, Ev2.succ ?_⟩
      have c2 : ¬ decide (0 < ((strsP (Q.getD out.length [])).items.length : Int)) = true := by rw [strs_len, decide_eq_true_eq]; exact hne
      refine Ev2.congr (fun N n => by rw [spec_MachineOf.l0_eq, if_pos (decide_eq_true c1), if_pos (by omega), if_pos c1, show (out.length : Int).toNat = out.length from by omega, hel, if_neg c2]) hm.start
theorem machOf_ev (ws : List ByteArray) (h : wtS ws ≤ 800000) (hl : ws.length ≤ 1000000) (hs : ∀ s ∈ ws, s.size ≤ 1000000) : ∃ m b, MachS m 400 ∧ Ev (fun N => spec_MachineOf.f N [strsP ws]) [machP m, boolP b] := by
  have h0 : MachS [] 400 := ⟨by simp, by simp⟩
  have hwo := specWords_ev ws (by omega) (fun s hs' => by have := hs s hs'; omega)
  cases hb : wordsM ws 300 with
  | false =>
    refine ⟨[], false, h0, ?_⟩
    simp only [spec_MachineOf.f_eq]
    refine Ev.bind hwo ?_
    rw [hb]
    exact Ev.now _
  | true =>
    obtain ⟨Q, gQ, hQ⟩ := all_sets ws h
    by_cases hbig : 400 < Q.length
    · refine ⟨[], false, h0, ?_⟩
      simp only [spec_MachineOf.f_eq]
      refine Ev.bind hwo ?_
      rw [hb]
      simp only [stk, Int.reduceEq, Nat.reduceEqDiff, Int.reduceLE, Int.reduceLT]
      refine Ev.bind hQ ?_
      refine Ev.congr (fun N => by rw [if_pos (by rw [headD_one, sets_items, List.length_map]; omega)]) ?_
      exact Ev.now _
    · obtain ⟨m, pm, hm⟩ := mof_l0 Q gQ (by omega) Q.length [] (by simp) h0
      refine ⟨m, true, pm, ?_⟩
      simp only [spec_MachineOf.f_eq]
      refine Ev.bind hwo ?_
      rw [hb]
      simp only [stk, Int.reduceEq, Nat.reduceEqDiff, Int.reduceLE, Int.reduceLT]
      refine Ev.bind hQ ?_
      refine Ev.congr (fun N => by rw [headD_one, if_neg (by rw [sets_items, List.length_map]; omega)]) ?_
      exact hm.diag
theorem wtS_le : ∀ (ws : List ByteArray) (k : Nat), (∀ s ∈ ws, s.size ≤ k) → wtS ws ≤ (k + 1) * ws.length
  | [], k, _ => by simp [wtS]
  | s :: r, k, h => by
    have := wtS_le r k (fun x hx => h x (by simp [hx]))
    have := h s (by simp)
    rw [wtS, List.length_cons, Nat.mul_succ]; omega
theorem drawM_ev {b : PV} (hb : Code1 b) (p : Nat) (hp : p < 100000000) : ∃ (m : List St) (q : Nat), q ≤ p + 500 ∧ MachS m 400 ∧ Ev (fun N => spec_l13Machine.f N [rdP b (p : Int)]) [machP m, rdP b (q : Int)] := by
  obtain ⟨r, q, h1, h2, h3⟩ := l13Words_ev hb p (by omega)
  have hn := h2.n
  have hw := wtS_le r 13 h2.s
  obtain ⟨m, bb, pm, hm⟩ := machOf_ev r (by omega) (by omega) (fun s hs => by have := h2.s s hs; omega)
  refine ⟨m, q, h1, pm, ?_⟩
  simp only [spec_l13Machine.f_eq, rd_f0, rd_f1, rd_agg, stk, Int.reduceEq, Nat.reduceEqDiff, Int.reduceLE, Int.reduceLT]
  refine Ev.bind h3 ?_
  simp only [rd_f1, rd_agg, stk, Int.reduceEq, Nat.reduceEqDiff, Int.reduceLE, Int.reduceLT]
  refine Ev.bind hm ?_
  simp only [stk, Int.reduceEq, Nat.reduceEqDiff, Int.reduceLE, Int.reduceLT]
  exact Ev.now _
theorem set_st (m : List St) (k : Nat) (s : St) : (m.map stP).set k (stP s) = (m.set k s).map stP := by rw [List.map_set]
theorem MachS.set {m : List St} {n : Nat} (h : MachS m n) (k : Nat) (s : St) (hs : s.2.length ≤ 40) : MachS (m.set k s) n :=
  ⟨by rw [List.length_set]; exact h.n, fun x hx => by
    rcases List.mem_or_eq_of_mem_set hx with h' | rfl
    · exact h.e x h'
    · exact hs⟩
theorem MachS.snoc {m : List St} {n : Nat} (h : MachS m n) (s : St) (hs : s.2.length ≤ 40) : MachS (m ++ [s]) (n + 1) :=
  ⟨by have := h.n; simp; omega, fun x hx => by
    rcases List.mem_append.1 hx with h' | h'
    · exact h.e x h'
    · rw [List.mem_singleton.1 h']; exact hs⟩
theorem drawN_l0 {b : PV} (hb : Code1 b) : ∀ (d x p : Nat) (out : List St), x + d = 14 → p + d < 400000000 → MachS out x →
    ∃ (m : List St) (q : Nat), q ≤ p + d + 1 ∧ MachS m 16 ∧ Ev2 (fun N n => spec_l13AnyMachine.l0 N n (x : Int) b (p : Int) (out.map stP)) [machP m, rdP b (q : Int)] := by
  intro d
  induction d with
  | zero =>
    intro x p out hx hp ho
    obtain ⟨k, hk, hf⟩ := pick_ev hb (p := (p : Int)) (n := 11) (by omega) (by omega)
    have hp1 : (p : Int) + 1 = ((p + 1 : Nat) : Int) := by omega
    rw [hp1] at hf
    have hw : IntKind.i64.wrap (3 + k) = 3 + k := wrap_id (by omega) (by omega)
    have hon := ho.n
    have hs := ho.snoc (true, []) (by simp)
    refine ⟨out ++ [(true, [])], p + 1, by omega, ⟨by have := hs.n; omega, hs.e⟩, Ev2.succ ?_⟩
    have e := st_snoc out true []
    refine Ev2.congr (g' := fun N n => some [machP (out ++ [(true, [])]), rdP b ((p + 1 : Nat) : Int)]) (fun N n => ?_) (Ev2.now _)
    rw [spec_l13AnyMachine.l0_eq, rd_agg, hf, Option.bind_some, headD_one]
    rw [if_neg (by show ¬ decide ((x : Int) < IntKind.i64.wrap (3 + k)) = true; rw [hw, decide_eq_true_eq]; omega), if_pos (by rw [List.length_map]; simp; omega)]
    exact congrArg (fun z => some [PV.list z, rdP b ((p + 1 : Nat) : Int)]) e
  | succ d ih =>
    intro x p out hx hp ho
    obtain ⟨k, hk, hf⟩ := pick_ev hb (p := (p : Int)) (n := 11) (by omega) (by omega)
    have hp1 : (p : Int) + 1 = ((p + 1 : Nat) : Int) := by omega
    rw [hp1] at hf
    have hw : IntKind.i64.wrap (3 + k) = 3 + k := wrap_id (by omega) (by omega)
    have hon := ho.n
    by_cases hlt : (x : Int) < 3 + k
    · have hw2 : IntKind.i64.wrap ((x : Int) + 1) = ((x + 1 : Nat) : Int) := by rw [wrap_id (by omega) (by omega)]; simp
      obtain ⟨m, q, h1, h2, h3⟩ := ih (x + 1) (p + 1) (out ++ [(decide (Int.tmod (x : Int) 3 = 0), [(97, IntKind.i64.wrap ((x : Int) + 1)), (98, IntKind.i64.wrap ((x : Int) + 1))])]) (by omega) (by omega) (ho.snoc _ (by simp))
      refine ⟨m, q, by omega, h2, Ev2.succ ?_⟩
      refine Ev2.congr (fun N n => ?_) h3
      rw [spec_l13AnyMachine.l0_eq, rd_agg, hf, Option.bind_some, headD_one]
      rw [if_pos (by show decide ((x : Int) < IntKind.i64.wrap (3 + k)) = true; rw [hw, decide_eq_true_eq]; omega), if_neg (by omega), if_pos (by rw [List.length_map]; simp; omega)]
      have e := st_snoc out (decide (Int.tmod (x : Int) 3 = 0)) [(97, IntKind.i64.wrap ((x : Int) + 1)), (98, IntKind.i64.wrap ((x : Int) + 1))]
      rw [← e, hw2]
      rfl
    · have hs := ho.snoc (true, []) (by simp)
      refine ⟨out ++ [(true, [])], p + 1, by omega, ⟨by have := hs.n; omega, hs.e⟩, Ev2.succ ?_⟩
      have e := st_snoc out true []
      refine Ev2.congr (g' := fun N n => some [machP (out ++ [(true, [])]), rdP b ((p + 1 : Nat) : Int)]) (fun N n => ?_) (Ev2.now _)
      rw [spec_l13AnyMachine.l0_eq, rd_agg, hf, Option.bind_some, headD_one]
      rw [if_neg (by show ¬ decide ((x : Int) < IntKind.i64.wrap (3 + k)) = true; rw [hw, decide_eq_true_eq]; exact hlt), if_pos (by rw [List.length_map]; simp; omega)]
      exact congrArg (fun z => some [PV.list z, rdP b ((p + 1 : Nat) : Int)]) e
theorem set_f0 (m : List St) (k : Nat) (s : St) (v : Bool) :
    PV.list ((machP m).items.set k (PV.agg ((stP s).parts.set 0 (PV.sc (.bool v))))) = machP (m.set k (v, s.2)) := by
  show PV.list ((m.map stP).set k (stP (v, s.2))) = _
  rw [set_st]; rfl
theorem set_f1 (m : List St) (k : Nat) (s : St) (a r : Int) :
    PV.list ((machP m).items.set k (PV.agg ((stP s).parts.set 1 (PV.list ((edgesP s.2).items ++ [PV.agg [PV.sc (.int .i64 a), PV.sc (.int .i64 r)]]))))) = machP (m.set k (s.1, s.2 ++ [(a, r)])) := by
  have e : PV.list ((edgesP s.2).items ++ [PV.agg [PV.sc (.int .i64 a), PV.sc (.int .i64 r)]]) = edgesP (s.2 ++ [(a, r)]) := congrArg PV.list (edge_snoc s.2 a r)
  rw [e]
  show PV.list ((m.map stP).set k (stP (s.1, s.2 ++ [(a, r)]))) = _
  rw [set_st]; rfl
theorem mach_snoc (m : List St) (v : Bool) : PV.list ((machP m).items ++ [PV.agg [PV.sc (.bool v), PV.list []]]) = machP (m ++ [(v, [])]) := congrArg PV.list (st_snoc m v [])
theorem setB {m : List St} (h : MachS m 400) (k : Nat) (s : St) (hs : s.2.length ≤ 50) : MachB (m.set k s) :=
  ⟨by have := h.n; rw [List.length_set]; omega, fun x hx => by
    rcases List.mem_or_eq_of_mem_set hx with h' | rfl
    · have := h.e x h'; omega
    · omega⟩
theorem anyM_ev {b : PV} (hb : Code1 b) (p : Nat) (hp : p < 90000000) : ∃ (m : List St) (q : Nat), q ≤ p + 600 ∧ MachB m ∧ Ev (fun N => spec_l13AnyMachine.f N [rdP b (p : Int)]) [machP m, rdP b (q : Int)] := by
  obtain ⟨m, q, h1, h2, h3⟩ := drawM_ev hb p (by omega)
  have hn := h2.n
  by_cases h0 : m.length = 0
  · refine ⟨m, q, by omega, h2.B (by omega), ?_⟩
    simp only [spec_l13AnyMachine.f_eq, rd_f0, rd_f1, rd_agg, stk, Int.reduceEq, Nat.reduceEqDiff, Int.reduceLE, Int.reduceLT]
    refine Ev.bind h3 ?_
    refine Ev.congr (fun N => by rw [headD_one, if_pos (by rw [mach_len, h0]; rfl)]; rfl) (Ev.now _)
  · obtain ⟨k, hk, hf⟩ := pick_ev hb (p := (q : Int)) (n := (m.length : Int)) (by omega) (by omega)
    obtain ⟨k, rfl⟩ := Int.eq_ofNat_of_zero_le hk.1
    obtain ⟨c, hc, hf2⟩ := pick_ev hb (p := (q : Int) + 1) (n := 10) (by omega) (by omega)
    have hkl : k < m.length := by omega
    have hk2 : (k : Int) < (m.length : Int) := hk.2
    obtain ⟨pre, s, rest, hmp, rfl⟩ := split_at m k hkl
    have c0 : ¬ ((m.length : Int) = 0) := by omega
    have hse := h2.e s (by rw [hmp]; simp)
    have hp2 : (q : Int) + 1 + 1 = ((q + 2 : Nat) : Int) := by omega
    by_cases k0 : c = 0
    · refine ⟨m.set pre.length (!s.1, s.2), q + 2, by omega, setB h2 _ _ (by show s.2.length ≤ 50; omega), ?_⟩
      simp only [spec_l13AnyMachine.f_eq, rd_f0, rd_f1, rd_agg, stk, Int.reduceEq, Nat.reduceEqDiff, Int.reduceLE, Int.reduceLT]
      refine Ev.bind h3 ?_
      simp only [mach_len, c0, rd_f1, rd_agg, hf, hf2, k0, hk2, mach_at hmp, st_f0, set_f0, hp2, stk, Int.reduceEq, Nat.reduceEqDiff, Int.reduceLE, Int.reduceLT]
      exact Ev.now _
    · by_cases k1 : c = 1
      · obtain ⟨l, hl, hf3⟩ := pick_ev hb (p := (q : Int) + 1 + 1) (n := 26) (by omega) (by omega)
        obtain ⟨t, ht, hf4⟩ := pick_ev hb (p := (q : Int) + 1 + 1 + 1) (n := (m.length : Int) + 1) (by omega) (by omega)
        have w1 : IntKind.i64.wrap ((m.length : Int) + 1) = (m.length : Int) + 1 := wrap_id (by omega) (by omega)
        have hp4 : (q : Int) + 1 + 1 + 1 + 1 = ((q + 4 : Nat) : Int) := by omega
        have c5 : (s.2.length + 1 ≤ 8796093022208) = True := eq_true (by omega)
        refine ⟨m.set pre.length (s.1, s.2 ++ [(IntKind.i64.wrap (97 + l), t)]), q + 4, by omega, setB h2 _ _ (by simp; omega), ?_⟩
        simp only [spec_l13AnyMachine.f_eq, rd_f0, rd_f1, rd_agg, stk, Int.reduceEq, Nat.reduceEqDiff, Int.reduceLE, Int.reduceLT]
        refine Ev.bind h3 ?_
        simp only [mach_len, c0, rd_f1, rd_agg, hf, hf2, k0, k1, w1, hf3, hf4, hk2, mach_at hmp, st_f1, edges_len, c5, set_f1, hp4, stk, Int.reduceEq, Nat.reduceEqDiff, Int.reduceLE, Int.reduceLT]
        exact Ev.congr (fun N => congrArg (fun z => some [z, rdP b ((q + 4 : Nat) : Int)]) (set_f1 m pre.length s (IntKind.i64.wrap (97 + l)) t)) (Ev.now _)
      · by_cases k2 : c = 2
        · obtain ⟨l, hl, hf3⟩ := pick_ev hb (p := (q : Int) + 1 + 1) (n := 2) (by omega) (by omega)
          have hp3 : (q : Int) + 1 + 1 + 1 = ((q + 3 : Nat) : Int) := by omega
          have c5 : (m.length + 1 ≤ 4398046511104) = True := eq_true (by omega)
          refine ⟨m ++ [(decide (l = 0), [])], q + 3, by omega, (h2.snoc _ (by simp)).B (by omega), ?_⟩
          simp only [spec_l13AnyMachine.f_eq, rd_f0, rd_f1, rd_agg, stk, Int.reduceEq, Nat.reduceEqDiff, Int.reduceLE, Int.reduceLT]
          refine Ev.bind h3 ?_
          simp only [mach_len, c0, rd_f1, rd_agg, hf, hf2, k0, k1, k2, hf3, c5, mach_snoc, hp3, stk, Int.reduceEq, Nat.reduceEqDiff, Int.reduceLE, Int.reduceLT]
          exact Ev.now _
        · by_cases k3 : c = 3
          · obtain ⟨m', q', e1, e2, e3⟩ := drawN_l0 hb 14 0 (q + 2) [] (by omega) (by omega) ⟨by simp, by simp⟩
            refine ⟨m', q', by omega, e2.B (by omega), ?_⟩
            have e4 := e3.diag
            simp only [Int.natCast_zero, List.map_nil] at e4
            simp only [spec_l13AnyMachine.f_eq, rd_f0, rd_f1, rd_agg, stk, Int.reduceEq, Nat.reduceEqDiff, Int.reduceLE, Int.reduceLT]
            refine Ev.bind h3 ?_
            simp only [mach_len, c0, rd_f1, rd_agg, hf, hf2, k0, k1, k2, k3, hp2, stk, Int.reduceEq, Nat.reduceEqDiff, Int.reduceLE, Int.reduceLT]
            exact e4
          · refine ⟨m, q + 2, by omega, h2.B (by omega), ?_⟩
            simp only [spec_l13AnyMachine.f_eq, rd_f0, rd_f1, rd_agg, stk, Int.reduceEq, Nat.reduceEqDiff, Int.reduceLE, Int.reduceLT]
            refine Ev.bind h3 ?_
            simp only [mach_len, c0, rd_f1, rd_agg, hf, hf2, k0, k1, k2, k3, hp2, stk, Int.reduceEq, Nat.reduceEqDiff, Int.reduceLE, Int.reduceLT]
            exact Ev.now _
theorem oneI_ev {b : PV} (hb : Code1 b) {p : Int} (hp : 0 ≤ p ∧ p < 1000000000) (l : List Int) (hl : 1 ≤ l.length ∧ l.length < 4611686018427387904) : ∃ v ∈ l, ∀ N, spec_l1Rd_one.f N [rdP b p, intsP l] = some [intP v, rdP b (p + 1)] := by
  obtain ⟨k, hk, hf⟩ := pick_ev hb hp (n := (l.length : Int)) (by omega)
  obtain ⟨j, rfl⟩ := Int.eq_ofNat_of_zero_le hk.1
  have hj : j < l.length := by omega
  refine ⟨l.getD j 0, ?_, fun N => ?_⟩
  · rw [List.getD_eq_getElem?_getD, List.getElem?_eq_getElem hj]; exact List.getElem_mem hj
  · simp only [spec_l1Rd_one.f_eq, rd_f0, rd_f1, rd_agg, hf, hk, stk, Int.reduceEq, Nat.reduceEqDiff, Int.reduceLE, Int.reduceLT]
theorem bytesOf_app (a b : ByteArray) : bytesOf (a ++ b) = bytesOf a ++ bytesOf b := by simp [bytesOf, ByteArray.data_append]
theorem bytesOf_ext (s : ByteArray) (i j : Nat) : bytesOf (s.extract i j) = ((bytesOf s).drop i).take (j - i) := by
  simp [bytesOf, ByteArray.data_extract, List.map_drop, List.map_take, List.extract_eq_take_drop]
theorem txt_back {u : List Int} (h : ∀ c ∈ u, 97 ≤ c ∧ c ≤ 122) : bytesOf (txt u) = u := by
  unfold bytesOf txt
  simp only [List.map_map]
  refine (List.map_congr_left (fun c hc => ?_)).trans (List.map_id u)
  have := h c hc
  show (((UInt8.ofNat c.toNat).toNat : Nat) : Int) = c
  rw [UInt8.toNat_ofNat_of_lt' (by simp [UInt8.size]; omega)]
  omega
def preB (ah s : ByteArray) : Bool := decide (ah.size ≤ s.size) && decide (s.extract 0 ah.size = ah)
theorem preB_app (ah x : ByteArray) : preB ah (ah ++ x) = true := by
  have h1 : (ah ++ x).extract 0 ah.size = ah := bytesOf_inj (by rw [bytesOf_ext, bytesOf_app, Nat.sub_zero, List.drop_zero, ← bytesOf_len, List.take_left])
  unfold preB
  rw [decide_eq_true h1, decide_eq_true (show ah.size ≤ (ah ++ x).size by rw [ByteArray.size_append]; omega)]; rfl
theorem isPre_iff : ∀ (a b : List Int), a.isPrefixOf b = (decide (a.length ≤ b.length) && decide (b.take a.length = a))
  | [], b => by simp [List.isPrefixOf]
  | c :: a, [] => by simp [List.isPrefixOf]
  | c :: a, d :: b => by
    rw [List.isPrefixOf, isPre_iff a b]
    simp only [List.length_cons, List.take_succ_cons, Nat.add_le_add_iff_right, List.cons.injEq]
    by_cases h : c = d
    · subst h; simp
    · have h2 : ¬ (d = c) := fun h' => h h'.symm
      simp [h, h2]
theorem preB_bytes (ah s : ByteArray) : preB ah s = (bytesOf ah).isPrefixOf (bytesOf s) := by
  rw [isPre_iff, bytesOf_len, bytesOf_len, preB]
  congr 1
  have : (s.extract 0 ah.size = ah) ↔ ((bytesOf s).take ah.size = bytesOf ah) := by
    constructor
    · intro h
      have := congrArg bytesOf h
      rwa [bytesOf_ext, Nat.sub_zero, List.drop_zero] at this
    · intro h
      exact bytesOf_inj (by rw [bytesOf_ext, Nat.sub_zero, List.drop_zero]; exact h)
  exact decide_eq_decide.2 this
theorem empty_app (x : ByteArray) : (⟨#[]⟩ : ByteArray) ++ x = x := bytesOf_inj (by rw [bytesOf_app]; simp [bytesOf])
theorem count_all (ah : ByteArray) : ∀ (W : List (List Int)), (∀ u ∈ W, ∀ c ∈ u, 97 ≤ c ∧ c ≤ 122) → ((aheadT ⟨#[]⟩ W).filter (preB ah)).length = (W.filter (fun u => (bytesOf ah).isPrefixOf u)).length
  | [], _ => rfl
  | u :: W, h => by
    have e : preB ah (⟨#[]⟩ ++ txt u) = (bytesOf ah).isPrefixOf u := by rw [empty_app, preB_bytes, txt_back (h u (by simp))]
    have ih := count_all ah W (fun v hv => h v (by simp [hv]))
    simp only [aheadT, List.map_cons, List.filter_cons, e] at ih ⊢
    split <;> simp only [List.length_cons, ih]
def dat (s : ByteArray) : List UInt8 := s.data.toList
theorem toList_dat (s : ByteArray) : s.toList = dat s := ByteArray.toList_eq s
theorem bless_pre (p : List UInt8) (a b : List UInt8) : Op.bytesLess (p ++ a) (p ++ b) = Op.bytesLess a b := by
  induction p with
  | nil => rfl
  | cons c p ih =>
    simp only [List.cons_append, Op.bytesLess, ih]
    simp
theorem bless_lt : ∀ (u v : List Int), (∀ c ∈ u, 97 ≤ c ∧ c ≤ 122) → (∀ c ∈ v, 97 ≤ c ∧ c ≤ 122) → ltL u v → Op.bytesLess (u.map fun x => UInt8.ofNat x.toNat) (v.map fun x => UInt8.ofNat x.toNat) = true
  | [], [], _, _, h => h.elim
  | [], _ :: _, _, _, _ => rfl
  | _ :: _, [], _, _, h => h.elim
  | a :: u, b :: v, hu, hv, h => by
    have h1 := hu a (by simp)
    have h2 := hv b (by simp)
    rw [List.map_cons, List.map_cons, Op.bytesLess]
    rcases h with h | ⟨rfl, h⟩
    · have : UInt8.ofNat a.toNat < UInt8.ofNat b.toNat := by
        rw [UInt8.lt_iff_toNat_lt, UInt8.toNat_ofNat_of_lt' (by simp [UInt8.size]; omega), UInt8.toNat_ofNat_of_lt' (by simp [UInt8.size]; omega)]
        omega
      simp [this]
    · rw [bless_lt u v (fun c hc => hu c (by simp [hc])) (fun c hc => hv c (by simp [hc])) h]
      simp
theorem bless_ahead (ah : ByteArray) {u v : List Int} (hu : ∀ c ∈ u, 97 ≤ c ∧ c ≤ 122) (hv : ∀ c ∈ v, 97 ≤ c ∧ c ≤ 122) (h : ltL u v) : Op.bytesLess (ah ++ txt u).toList (ah ++ txt v).toList = true := by
  rw [toList_dat, toList_dat]
  have e : ∀ w : List Int, dat (ah ++ txt w) = dat ah ++ w.map fun x => UInt8.ofNat x.toNat := fun w => by simp [dat, txt, ByteArray.data_append]
  rw [e, e, bless_pre]
  exact bless_lt u v hu hv h
structure Fnd (m : List St) (ah : ByteArray) (L : List ByteArray) : Prop where
  len : L.length ≤ 40
  size : ∀ s ∈ L, s.size ≤ 2000000
  knows : ∀ s ∈ L, ∃ t : Nat, t < m.length ∧ goM m 0 (bytesOf s) = t ∧ (m.getD t (false, [])).1 = true
  pre : ∀ s ∈ L, preB ah s = true
  asc : ∀ j, j + 1 < L.length → Op.bytesLess (L.getD j ByteArray.empty).toList (L.getD (j + 1) ByteArray.empty).toList = true
theorem bg_fnd (m : List St) (ah : ByteArray) (ha : ah.size ≤ 1048576) (most : Int) (hok : okM m = true) : Fnd m ah (bgM m ah most) := by
  obtain ⟨h1, h2, h3, h4⟩ := okM_sts hok
  have hlen := bgM_len m ah most
  unfold bgM at hlen ⊢
  split at hlen
  · rename_i hc
    rw [if_pos hc]
    obtain ⟨t, ht, he⟩ := (goM_in m h3 (bytesOf ah) 0 (by omega)).resolve_left (fun hx => hc.2.2 (by simp only [Int.natCast_zero] at hx; omega))
    simp only [Int.natCast_zero] at he
    rw [he] at hlen ⊢
    simp only [nat_int] at hlen ⊢
    have hmem : ∀ s ∈ (aheadT ah (WM m t)).take most.toNat, ∃ u ∈ WM m t, s = ah ++ txt u := fun s hs => by
      obtain ⟨u, hu, rfl⟩ := List.mem_map.1 (List.take_subset _ _ hs)
      exact ⟨u, hu, rfl⟩
    refine ⟨hlen, fun s hs => ?_, fun s hs => ?_, fun s hs => ?_, fun j hj => ?_⟩
    · obtain ⟨u, hu, rfl⟩ := hmem s hs
      have := (WM_all m h3 m.length t ht (by omega) u hu).1
      rw [ByteArray.size_append, txt_size]; omega
    · obtain ⟨u, hu, rfl⟩ := hmem s hs
      obtain ⟨_, a2, t', a3, a4, a5⟩ := WM_all m h3 m.length t ht (by omega) u hu
      refine ⟨t', a3, ?_, a5⟩
      rw [bytesOf_app, txt_back a2, goM_app m _ _ _ (by rw [he]; omega), he]
      exact a4
    · obtain ⟨u, hu, rfl⟩ := hmem s hs
      exact preB_app ah _
    · rw [List.length_take] at hj
      have hl2 : j + 1 < (WM m t).length := by simp [aheadT] at hj; omega
      have g1 : ∀ i, i < (WM m t).length → i < most.toNat → ((aheadT ah (WM m t)).take most.toNat).getD i ByteArray.empty = ah ++ txt ((WM m t).getD i []) := fun i hi hi2 => by
        simp [aheadT, List.getD_eq_getElem?_getD, List.getElem?_take, hi, hi2]
      rw [g1 j (by omega) (by omega), g1 (j + 1) hl2 (by omega)]
      have hp := List.pairwise_iff_getElem.1 (WM_sort m h3 m.length t ht (by omega)) j (j + 1) (by omega) hl2 (by omega)
      have e1 : (WM m t).getD j [] = (WM m t)[j] := by simp [List.getD_eq_getElem?_getD, show j < (WM m t).length by omega]
      have e2 : (WM m t).getD (j + 1) [] = (WM m t)[j + 1] := by simp [List.getD_eq_getElem?_getD, hl2]
      rw [e1, e2]
      exact bless_ahead ah (WM_all m h3 m.length t ht (by omega) _ (List.getElem_mem _)).2.1 (WM_all m h3 m.length t ht (by omega) _ (List.getElem_mem _)).2.1 hp
  · rename_i hc
    rw [if_neg hc]
    exact ⟨by simp, by simp, by simp, by simp, fun j hj => by simp at hj⟩
theorem bg_count (m : List St) (ah : ByteArray) (most : Int) (hok : okM m = true) (hmo : 0 ≤ most ∧ most ≤ 40) (h : (allM m 300).2 = true) :
    (((allM m 300).1.filter (preB ah)).length : Int) = if goM m 0 (bytesOf ah) < 0 then 0 else ((WM m (goM m 0 (bytesOf ah)).toNat).length : Int) := by
  obtain ⟨h1, h2, h3, h4⟩ := okM_sts hok
  unfold allM at h ⊢
  split at h
  · rename_i hc
    rw [if_pos hc, count_all ah _ (fun u hu => (WM_all m h3 m.length 0 (by omega) (by omega) u hu).2.1)]
    have := WM_pre m h3 (bytesOf ah) 0 (by omega)
    rw [this]
    simp only [Int.natCast_zero]
    split <;> simp
  · cases h
theorem bg_length (m : List St) (ah : ByteArray) (most : Int) (hok : okM m = true) (hmo : 0 ≤ most ∧ most ≤ 40) (h : (allM m 300).2 = true) :
    ((bgM m ah most).length : Int) = if most < (((allM m 300).1.filter (preB ah)).length : Int) then most else (((allM m 300).1.filter (preB ah)).length : Int) := by
  rw [bg_count m ah most hok hmo h]
  unfold bgM
  by_cases hg : goM m 0 (bytesOf ah) < 0
  · rw [if_neg (fun hc => hc.2.2 hg), if_pos hg, if_neg (by omega)]; rfl
  · rw [if_pos ⟨hok, hmo, hg⟩, if_neg hg, List.length_take]
    simp only [aheadT, List.length_map]
    split <;> omega
theorem knows_ev (m : List St) (hm : MachB m) (hok : okM m = true) (s : ByteArray) (hs : s.size ≤ 9223372036854775807) (t : Nat) (ht : t < m.length) (hg : goM m 0 (bytesOf s) = t) (he : (m.getD t (false, [])).1 = true) :
    Ev (fun N => impl_MachineKnows.f N [machP m, strP s]) [boolP true] := by
  obtain ⟨h1, h2, h3, h4⟩ := okM_sts hok
  have hf := follow_ev m hm h3 (by omega) s hs
  rw [hg] at hf
  obtain ⟨mp, st, mr, hmp, rfl⟩ := split_at m t ht
  have hst : m.getD mp.length (false, []) = st := by rw [hmp]; simp [List.getD_eq_getElem?_getD]
  rw [hst] at he
  have hlt : (mp.length : Int) < (m.length : Int) := by omega
  simp only [impl_MachineKnows.f_eq]
  refine Ev.bind (implOk_ev m hm) ?_
  rw [hok]
  simp only [stk, Int.reduceEq, Nat.reduceEqDiff, Int.reduceLE, Int.reduceLT]
  refine Ev.bind hf ?_
  simp only [mach_len, hlt, mach_at hmp, st_f0, he, stk, Int.reduceEq, Nat.reduceEqDiff, Int.reduceLE, Int.reduceLT]
  exact Ev.now _
theorem beg_l1 (ah : ByteArray) (most : Int) (L A : List ByteArray) (hA : A.length ≤ 300) (hL : L.length ≤ 40) (hmo : 0 ≤ most) (hlm : (L.length : Int) ≤ most)
    (hlen : (L.length : Int) = if most < ((A.filter (preB ah)).length : Int) then most else ((A.filter (preB ah)).length : Int)) :
    ∀ (rest pre : List ByteArray) (n : Nat), A = pre ++ rest → n = (pre.filter (preB ah)).length →
    Ev2 (fun N k => laws_FnMachineBegins.l1 N k ah most true (n : Int) (pre.length : Int) (strsP L) (strsP A)) [boolP true] := by
  intro rest
  induction rest with
  | nil =>
    intro pre n hp hn
    have hn' : (n : Int) = ((A.filter (preB ah)).length : Int) := by rw [hn, hp, List.append_nil]
    rw [← hn'] at hlen
    refine Ev2.succ ?_
    simp only [laws_FnMachineBegins.l1_eq, strs_len, at_end hp, stk, Int.reduceEq, Nat.reduceEqDiff, Int.reduceLE, Int.reduceLT]
    by_cases h : most < (n : Int)
    · rw [if_pos h] at hlen
      simp only [h, hlen, hlm, Int.le_refl, stk, Int.reduceEq, Nat.reduceEqDiff, Int.reduceLE, Int.reduceLT]; exact Ev2.now _
    · rw [if_neg h] at hlen
      simp only [h, hlm, stk, Int.reduceEq, Nat.reduceEqDiff, Int.reduceLE, Int.reduceLT]
      rw [decide_eq_true hlen]
      exact Ev2.now _
  | cons c rest ih =>
    intro pre n hp hn
    have hpl : pre.length ≤ 300 := by have := congrArg List.length hp; simp at this; omega
    have hnl : n ≤ pre.length := by rw [hn]; exact List.length_filter_le _ _
    refine Ev2.succ ?_
    by_cases h1 : ah.size ≤ c.size
    · have h1' : (ah.size : Int) ≤ (c.size : Int) := by omega
      by_cases h2 : c.extract 0 ah.size = ah
      · have hpb : preB ah c = true := by rw [preB, decide_eq_true h1, decide_eq_true h2]; rfl
        have hw : IntKind.i64.wrap ((n : Int) + 1) = ((n + 1 : Nat) : Int) := nat_wrap (by omega) (by omega)
        have := ih (pre ++ [c]) (n + 1) (at_step hp) (by rw [List.filter_append, List.length_append, hn]; simp [hpb])
        simp only [laws_FnMachineBegins.l1_eq, strs_len, strs_elem, at_lt hp, at_getD hp, at_next hp (by omega), h1', h2, hw, stk, Int.reduceEq, Nat.reduceEqDiff, Int.reduceLE, Int.reduceLT]
        exact this
      · have hpb : preB ah c = false := by rw [preB, decide_eq_false h2, Bool.and_false]
        have := ih (pre ++ [c]) n (at_step hp) (by rw [List.filter_append, List.length_append, hn]; simp [hpb])
        have h3 : ¬ (c.extract 0 ah.size).toList = ah.toList := fun h => h2 (by rwa [str_toList] at h)
        simp only [laws_FnMachineBegins.l1_eq, strs_len, strs_elem, at_lt hp, at_getD hp, at_next hp (by omega), h1', h3, stk, Int.reduceEq, Nat.reduceEqDiff, Int.reduceLE, Int.reduceLT]
        exact this
    · have h1' : ¬ (ah.size : Int) ≤ (c.size : Int) := by omega
      have hpb : preB ah c = false := by rw [preB, decide_eq_false h1, Bool.false_and]
      have := ih (pre ++ [c]) n (at_step hp) (by rw [List.filter_append, List.length_append, hn]; simp [hpb])
      simp only [laws_FnMachineBegins.l1_eq, strs_len, strs_elem, at_lt hp, at_getD hp, at_next hp (by omega), h1', stk, Int.reduceEq, Nat.reduceEqDiff, Int.reduceLE, Int.reduceLT]
      exact this
theorem beg_l1f (ah : ByteArray) (most : Int) (L A : List ByteArray) (hmo : 0 ≤ most) (hlm : (L.length : Int) ≤ most) :
    Ev2 (fun N k => laws_FnMachineBegins.l1 N k ah most false 0 0 (strsP L) (strsP A)) [boolP true] := by
  refine Ev2.succ ?_
  have h0 : ¬ most < 0 := by omega
  by_cases hA : (0 : Int) < (A.length : Int)
  · simp only [laws_FnMachineBegins.l1_eq, strs_len, hA, h0, hlm, stk, Int.reduceEq, Nat.reduceEqDiff, Int.reduceLE, Int.reduceLT]; exact Ev2.now _
  · simp only [laws_FnMachineBegins.l1_eq, strs_len, hA, h0, hlm, stk, Int.reduceEq, Nat.reduceEqDiff, Int.reduceLE, Int.reduceLT]; exact Ev2.now _
theorem beg_l0 (m : List St) (hm : MachB m) (hok : okM m = true) (ah : ByteArray) (most : Int) (hmo : 0 ≤ most ∧ most ≤ 40) (L : List ByteArray) (hF : Fnd m ah L) (hlm : (L.length : Int) ≤ most)
    (hlen : (allM m 300).2 = true → (L.length : Int) = if most < (((allM m 300).1.filter (preB ah)).length : Int) then most else (((allM m 300).1.filter (preB ah)).length : Int)) :
    ∀ (rest pre : List ByteArray), L = pre ++ rest →
    Ev2 (fun N k => laws_FnMachineBegins.l0 N k ah most (pre.length : Int) (machP m) (strsP L)) [boolP true] := by
  have hLl := hF.len
  intro rest
  induction rest with
  | nil =>
    intro pre hp
    refine Ev2.succ ?_
    simp only [laws_FnMachineBegins.l0_eq, strs_len, at_end hp, stk, Int.reduceEq, Nat.reduceEqDiff, Int.reduceLE, Int.reduceLT]
    refine Ev2.bind (implAll_ev m hm 300) ?_
    simp only [List.tail_cons, headD_one, stk, Int.reduceEq, Nat.reduceEqDiff, Int.reduceLE, Int.reduceLT]
    cases hb : (allM m 300).2 with
    | true => exact (beg_l1 ah most L _ (allM_len m 300) hLl hmo.1 hlm (hlen hb) (allM m 300).1 [] 0 rfl rfl).after
    | false => exact (beg_l1f ah most L _ hmo.1 hlm).after
  | cons c rest ih =>
    intro pre hp
    have hc : c ∈ L := by rw [hp]; simp
    have hcs := hF.size c hc
    obtain ⟨t, ht, hg, he⟩ := hF.knows c hc
    have hk := knows_ev m hm hok c (by omega) t ht hg he
    have hpb := hF.pre c hc
    rw [preB, Bool.and_eq_true, decide_eq_true_eq, decide_eq_true_eq] at hpb
    have h1 : ¬ (c.size : Int) < (ah.size : Int) := by omega
    have h1' : (ah.size : Int) ≤ (c.size : Int) := by omega
    refine Ev2.succ ?_
    have hih := ih (pre ++ [c]) (at_step hp)
    simp only [laws_FnMachineBegins.l0_eq, strs_len, strs_elem, at_lt hp, at_getD hp, stk, Int.reduceEq, Nat.reduceEqDiff, Int.reduceLE, Int.reduceLT]
    refine Ev2.bind hk ?_
    rcases List.eq_nil_or_concat pre with rfl | ⟨pre', q, rfl⟩
    · have z : ¬ (0 : Int) < ((([] : List ByteArray).length : Nat) : Int) := by simp
      simp only [h1, h1', hpb.2, z, at_next hp (by omega), stk, Int.reduceEq, Nat.reduceEqDiff, Int.reduceLE, Int.reduceLT]
      exact hih
    · have hl : pre'.length + 1 < L.length := by rw [hp]; simp
      have hasc := hF.asc pre'.length hl
      have g1 : L.getD pre'.length ByteArray.empty = q := by rw [hp]; simp [List.getD_eq_getElem?_getD]
      have g2 : L.getD (pre'.length + 1) ByteArray.empty = c := by
        have := at_getD (d := ByteArray.empty) hp
        simpa using this
      rw [g1, g2] at hasc
      have z : (0 : Int) < (((pre' ++ [q]).length : Nat) : Int) := by simp
      have w : IntKind.i64.wrap ((((pre' ++ [q]).length : Nat) : Int) - 1) = (pre'.length : Int) := by rw [wrap_id (by rw [List.length_append, List.length_singleton]; omega) (by rw [List.length_append, List.length_singleton]; omega)]; simp
      have c2 : (pre'.length : Int) < (L.length : Int) := by omega
      have c3 : (0 : Int) ≤ (pre'.length : Int) := by omega
      have c4 : (pre'.length : Int).toNat = pre'.length := rfl
      simp only [List.concat_eq_append] at hp hih ⊢
      simp only [h1, h1', hpb.2, z, w, c2, c3, c4, g1, hasc, at_next hp (by omega), stk, Int.reduceEq, Nat.reduceEqDiff, Int.reduceLE, Int.reduceLT]
      exact hih
theorem begs_draw {l : List PV} (hl : l.length ≤ 1048576) (hby : ∀ j, 0 ≤ ((PV.list l).elem j).toInt ∧ ((PV.list l).elem j).toInt ≤ 255) :
    ∃ (m : List St) (ah : ByteArray) (most : Int), MachB m ∧ ah.size ≤ 1000 ∧ Ev (fun N => spec_DrawMachineBegins.f N [PV.list l]) [machP m, strP ah, intP most] := by
  obtain ⟨b, hb, hop⟩ := open_ev hl hby
  obtain ⟨m, q, h1, h2, h3⟩ := anyM_ev hb 0 (by omega)
  obtain ⟨ah, ha, hf⟩ := of_ev hb (p := (q : Int)) (by omega) [ByteArray.mk #[], ByteArray.mk #[99], ByteArray.mk #[99, 97], ByteArray.mk #[100, 111], ByteArray.mk #[97], ByteArray.mk #[122, 122]] (by simp)
  obtain ⟨most, _, hf2⟩ := oneI_ev hb (p := (q : Int) + 1) (by omega) [0, 1, 3, 40, 41, -1] (by simp)
  refine ⟨m, ah, most, h2, ?_, ?_⟩
  · simp only [List.mem_cons, List.not_mem_nil, or_false] at ha
    rcases ha with rfl | rfl | rfl | rfl | rfl | rfl <;> (show _ ≤ 1000; decide)
  · simp only [Int.natCast_zero] at h3
    have e1 : PV.list ([(PV.sc (.string (ByteArray.mk #[]))), (PV.sc (.string (ByteArray.mk #[99]))), (PV.sc (.string (ByteArray.mk #[99, 97]))), (PV.sc (.string (ByteArray.mk #[100, 111]))), (PV.sc (.string (ByteArray.mk #[97]))), (PV.sc (.string (ByteArray.mk #[122, 122])))]) = strsP [ByteArray.mk #[], ByteArray.mk #[99], ByteArray.mk #[99, 97], ByteArray.mk #[100, 111], ByteArray.mk #[97], ByteArray.mk #[122, 122]] := rfl
    have e2 : PV.list [(PV.sc (.int .i64 0)), (PV.sc (.int .i64 1)), (PV.sc (.int .i64 3)), (PV.sc (.int .i64 40)), (PV.sc (.int .i64 41)), (PV.sc (.int .i64 (-1)))] = intsP [0, 1, 3, 40, 41, -1] := rfl
    simp only [spec_DrawMachineBegins.f_eq, hop, rd_f0, rd_f1, rd_agg, stk, Int.reduceEq, Nat.reduceEqDiff, Int.reduceLE, Int.reduceLT]
    refine Ev.bind h3 ?_
    simp only [rd_f1, rd_agg, e1, e2, hf, hf2, stk, Int.reduceEq, Nat.reduceEqDiff, Int.reduceLE, Int.reduceLT]
    exact Ev.now _
theorem law (ps : List PV) (h : PvOkL (PvOk Try.prog 8) [41] ps) : ∃ N, laws_FnMachineBegins.f N ps = some [boolP true] := by
  obtain ⟨p, rfl, h1⟩ := pvOkL1 h
  obtain ⟨l, hl', hby⟩ := code_args (P := Try.prog) (t := 41) (e := 5) (by kernel_rfl) (by kernel_rfl) (ps := [p]) ⟨h1, trivial⟩
  injection hl' with e1 _; subst e1
  refine Ev.some ?_
  have hit : (PV.list l).items = l := rfl
  simp only [laws_FnMachineBegins.f_eq, hit]
  by_cases hbig : (1048576 : Int) < (l.length : Int)
  · simp only [hbig, stk, Int.reduceEq, Nat.reduceEqDiff, Int.reduceLE, Int.reduceLT]; exact Ev.now _
  obtain ⟨m, ah, most, hm, ha, hd⟩ := begs_draw (l := l) (by omega) hby
  have hlen := bgM_len m ah most
  have hi := implBegins_ev m hm ah (by omega) most
  have hs := specBegins_ev m hm ah (by omega) most
  have ht := mdTexts_ev (bgM m ah most) (by omega)
  simp only [hbig, stk, Int.reduceEq, Nat.reduceEqDiff, Int.reduceLE, Int.reduceLT]
  refine Ev.bind hd ?_
  simp only [List.tail_cons, headD_one, stk, Int.reduceEq, Nat.reduceEqDiff, Int.reduceLE, Int.reduceLT]
  refine Ev.bind hi ?_
  refine Ev.bind hs ?_
  refine Ev.bind ht ?_
  simp only [stk, Int.reduceEq, Nat.reduceEqDiff, Int.reduceLE, Int.reduceLT]
  refine Ev.bind (specOk_ev m hm) ?_
  cases hok : okM m with
  | false =>
    simp only [stk, Int.reduceEq, Nat.reduceEqDiff, Int.reduceLE, Int.reduceLT]
    refine Ev.bind hs ?_
    refine Ev.bind ht ?_
    simp only [stk, Int.reduceEq, Nat.reduceEqDiff, Int.reduceLE, Int.reduceLT]
    exact Ev.now _
  | true =>
    by_cases h0 : most < 0
    · simp only [h0, stk, Int.reduceEq, Nat.reduceEqDiff, Int.reduceLE, Int.reduceLT]
      refine Ev.bind hs ?_
      refine Ev.bind ht ?_
      simp only [stk, Int.reduceEq, Nat.reduceEqDiff, Int.reduceLE, Int.reduceLT]
      exact Ev.now _
    · by_cases h40 : 40 < most
      · simp only [h0, h40, stk, Int.reduceEq, Nat.reduceEqDiff, Int.reduceLE, Int.reduceLT]
        refine Ev.bind hs ?_
        refine Ev.bind ht ?_
        simp only [stk, Int.reduceEq, Nat.reduceEqDiff, Int.reduceLE, Int.reduceLT]
        exact Ev.now _
      · simp only [h0, h40, stk, Int.reduceEq, Nat.reduceEqDiff, Int.reduceLE, Int.reduceLT]
        have hmo : 0 ≤ most ∧ most ≤ 40 := ⟨by omega, by omega⟩
        have hlm : ((bgM m ah most).length : Int) ≤ most := by
          unfold bgM
          split
          · rw [List.length_take]; omega
          · simp; omega
        exact (beg_l0 m hm hok ah most hmo (bgM m ah most) (bg_fnd m ah (by omega) most hok) hlm (fun h => bg_length m ah most hok hmo h) (bgM m ah most) [] rfl).diag
end Go.Proofs.Ytfbkfhdlingedaa.FnMachineBegins
