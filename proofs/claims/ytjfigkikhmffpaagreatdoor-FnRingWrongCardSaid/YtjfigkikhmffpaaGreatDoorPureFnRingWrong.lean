import Derived.Test.YtjfigkikhmffpaaGreatDoorFnFnRingWrongy1
set_option linter.unusedVariables false
set_option linter.unusedSimpArgs false
set_option maxRecDepth 10000
namespace Go.Proofs.YtjfigkikhmffpaaGreatDoor.FnRingWrong
open Go Go.Proofs.YtjfigkikhmffpaaGreatDoorAm
def noW (s : ByteArray) : Bool := s.data.toList.all fun c => c != 119
theorem noW_app {a b : ByteArray} (ha : noW a = true) (hb : noW b = true) : noW (a ++ b) = true := by
  unfold noW at *
  rw [ByteArray.data_append, Array.toList_append, List.all_append, ha, hb]; rfl
theorem noW_in {l : List ByteArray} (h : l.all noW = true) {s : ByteArray} (hs : s ∈ l) : noW s = true := List.all_eq_true.1 h s hs
theorem wordX_loop {b : PV} (hb : Code1 b) : ∀ (c p : Nat) (x : ByteArray), p + c < 1000000000 → x.size + 2 * c ≤ 12 → (1 ≤ c ∨ 1 ≤ x.size) → noW x = true → ∃ (r : ByteArray) (q : Nat), q ≤ p + c ∧ 1 ≤ r.size ∧ r.size ≤ 12 ∧ noW r = true ∧ Ev2 (fun N n => spec_l13Word.l0 N n x (c : Int) b (p : Int)) [strP r, rdP b (q : Int)] := by
  intro c
  induction c with
  | zero =>
    intro p x hp hx h1 hno
    refine ⟨x, p, by omega, by omega, by omega, hno, Ev2.succ ?_⟩
    have h0 : ¬ (0 : Int) < ((0 : Nat) : Int) := by omega
    have hm : (if (x.size : Int) < 12 then (x.size : Int) else 12) = (x.size : Int) := by split <;> omega
    simp only [spec_l13Word.l0_eq, h0, least_val, hm, stk, Int.reduceEq, Nat.reduceEqDiff, Int.reduceLE, Int.reduceLT, extract_all, rd_agg]
    exact Ev2.now _
  | succ c ih =>
    intro p x hp hx h1 hno
    obtain ⟨s, hs, hf⟩ := of_ev hb (p := (p : Int)) (by omega) [ByteArray.mk #[97], ByteArray.mk #[98], ByteArray.mk #[99], ByteArray.mk #[97, 98], ByteArray.mk #[116]] (by simp)
    have hsz : 1 ≤ s.size ∧ s.size ≤ 2 := by
      have ha : ∀ s ∈ [ByteArray.mk #[97], ByteArray.mk #[98], ByteArray.mk #[99], ByteArray.mk #[97, 98], ByteArray.mk #[116]], 1 ≤ s.size ∧ s.size ≤ 2 := szs_in rfl
      exact ha s hs
    have hsn : noW s = true := noW_in (l := [ByteArray.mk #[97], ByteArray.mk #[98], ByteArray.mk #[99], ByteArray.mk #[97, 98], ByteArray.mk #[116]]) (by decide) hs
    obtain ⟨r, q, h2, h3, h4, h6, h5⟩ := ih (p + 1) (x ++ s) (by omega) (by rw [ByteArray.size_append]; omega) (.inr (by rw [ByteArray.size_append]; omega)) (noW_app hno hsn)
    refine ⟨r, q, by omega, h3, h4, h6, Ev2.succ ?_⟩
    have h0 : (0 : Int) < ((c + 1 : Nat) : Int) := by omega
    have hw : IntKind.i64.wrap (((c + 1 : Nat) : Int) - 1) = (c : Int) := by rw [wrap_id (by omega) (by omega)]; omega
    have hl : x.size + s.size ≤ 9223372036854775807 := by omega
    have hp1 : ((p : Int) + 1) = ((p + 1 : Nat) : Int) := by omega
    have e : PV.list [PV.sc (.string (ByteArray.mk #[97])), PV.sc (.string (ByteArray.mk #[98])), PV.sc (.string (ByteArray.mk #[99])), PV.sc (.string (ByteArray.mk #[97, 98])), PV.sc (.string (ByteArray.mk #[116]))] = strsP [ByteArray.mk #[97], ByteArray.mk #[98], ByteArray.mk #[99], ByteArray.mk #[97, 98], ByteArray.mk #[116]] := rfl
    simp only [spec_l13Word.l0_eq, h0, hw, hl, e, rd_agg, hf, rd_f0, rd_f1, hp1, stk, Int.reduceEq, Nat.reduceEqDiff, Int.reduceLE, Int.reduceLT]
    exact h5
theorem wordX_ev {b : PV} (hb : Code1 b) (p : Nat) (hp : p < 900000000) : ∃ (r : ByteArray) (q : Nat), q ≤ p + 10 ∧ 1 ≤ r.size ∧ r.size ≤ 12 ∧ noW r = true ∧ Ev (fun N => spec_l13Word.f N [rdP b (p : Int)]) [strP r, rdP b (q : Int)] := by
  obtain ⟨k, hk, hf⟩ := pick_ev hb (p := (p : Int)) (n := 3) (by omega) (by omega)
  by_cases h0 : k = 0
  · obtain ⟨k2, hk2, hf2⟩ := pick_ev hb (p := (p : Int) + 1) (n := 5) (by omega) (by omega)
    obtain ⟨j, rfl⟩ := Int.eq_ofNat_of_zero_le hk2.1
    obtain ⟨r, q, h2, h3, h4, h6, h5⟩ := wordX_loop hb (1 + j) (p + 2) ⟨#[]⟩ (by omega) (by have : (ByteArray.mk #[]).size = 0 := rfl; omega) (.inl (by omega)) rfl
    refine ⟨r, q, by omega, h3, h4, h6, ?_⟩
    have hw : IntKind.i64.wrap (1 + (j : Int)) = ((1 + j : Nat) : Int) := by rw [wrap_id (by omega) (by omega)]; omega
    have hp1 : ((p : Int) + 1 + 1) = ((p + 2 : Nat) : Int) := by omega
    simp only [spec_l13Word.f_eq, rd_f0, rd_f1, rd_agg, hf, h0, hf2, hw, hp1, stk, Int.reduceEq, Nat.reduceEqDiff, Int.reduceLE, Int.reduceLT]
    exact h5.diag
  · obtain ⟨s, hs, hf2⟩ := of_ev hb (p := (p : Int) + 1) (by omega) wordsL (by simp [wordsL])
    have ha : ∀ s ∈ wordsL, 1 ≤ s.size ∧ s.size ≤ 12 := szs_in rfl
    refine ⟨s, p + 2, by omega, (ha s hs).1, (ha s hs).2, noW_in (l := wordsL) (by decide) hs, ?_⟩
    have hp1 : ((p : Int) + 1 + 1) = ((p + 2 : Nat) : Int) := by omega
    have e : PV.list [PV.sc (.string (ByteArray.mk #[99, 97, 116])), PV.sc (.string (ByteArray.mk #[99, 97, 116, 115])), PV.sc (.string (ByteArray.mk #[97, 99, 116])), PV.sc (.string (ByteArray.mk #[100, 111])), PV.sc (.string (ByteArray.mk #[100, 111, 105, 110, 103])), PV.sc (.string (ByteArray.mk #[103, 111])), PV.sc (.string (ByteArray.mk #[117, 110, 100, 111])), PV.sc (.string (ByteArray.mk #[116, 114, 121])), PV.sc (.string (ByteArray.mk #[116, 114, 105, 101, 115])), PV.sc (.string (ByteArray.mk #[97])), PV.sc (.string (ByteArray.mk #[98, 97, 107, 101])), PV.sc (.string (ByteArray.mk #[98, 97, 107, 105, 110, 103])), PV.sc (.string (ByteArray.mk #[116, 97, 99, 116])), PV.sc (.string (ByteArray.mk #[99, 97, 114, 116])), PV.sc (.string (ByteArray.mk #[97, 98, 99, 97, 98, 99, 97, 98, 99, 97, 98, 99]))] = strsP wordsL := rfl
    simp only [spec_l13Word.f_eq, rd_f0, rd_f1, rd_agg, hf, h0, e, hf2, hp1, stk, Int.reduceEq, Nat.reduceEqDiff, Int.reduceLE, Int.reduceLT]
    exact Ev.now _
def affLL : List Aff := [⟨⟨#[83]⟩, false, ⟨#[]⟩, ⟨#[115]⟩, ⟨#[]⟩⟩, ⟨⟨#[83]⟩, false, ⟨#[121]⟩, ⟨#[105, 101, 115]⟩, ⟨#[121]⟩⟩, ⟨⟨#[71]⟩, false, ⟨#[]⟩, ⟨#[105, 110, 103]⟩, ⟨#[]⟩⟩, ⟨⟨#[71]⟩, false, ⟨#[101]⟩, ⟨#[105, 110, 103]⟩, ⟨#[101]⟩⟩, ⟨⟨#[85]⟩, true, ⟨#[]⟩, ⟨#[117, 110]⟩, ⟨#[]⟩⟩, ⟨⟨#[82]⟩, true, ⟨#[97]⟩, ⟨#[98]⟩, ⟨#[97]⟩⟩, ⟨⟨#[84]⟩, false, ⟨#[]⟩, ⟨#[116]⟩, ⟨#[97, 99]⟩⟩, ⟨⟨#[67]⟩, false, ⟨#[]⟩, ⟨#[97, 98, 99]⟩, ⟨#[]⟩⟩]
theorem affix_ev {b : PV} (hb : Code1 b) (p : Nat) (hp : p < 900000000) : ∃ a ∈ affLL, ∀ N, spec_l13Affix.f N [rdP b (p : Int)] = some [affP a, rdP b ((p + 1 : Nat) : Int)] := by
  obtain ⟨k, hk, hf⟩ := pick_ev hb (p := (p : Int)) (n := (8 : Int)) (by omega) (by omega)
  obtain ⟨j, rfl⟩ := Int.eq_ofNat_of_zero_le hk.1
  have hj : j < affLL.length := by have : affLL.length = 8 := rfl; omega
  have hj8 : ((j : Int) < 8) = True := eq_true (by omega)
  have hp1 : (p : Int) + 1 = ((p + 1 : Nat) : Int) := by omega
  rw [hp1] at hf
  obtain ⟨pre, rest, hpr, hpl⟩ : ∃ pre rest, affLL = pre ++ affLL[j] :: rest ∧ pre.length = j := ⟨affLL.take j, affLL.drop (j + 1), by rw [← List.drop_eq_getElem_cons hj, List.take_append_drop], by rw [List.length_take]; omega⟩
  have he := affs_elem hpr
  rw [hpl] at he
  refine ⟨affLL[j], List.getElem_mem hj, fun N => ?_⟩
  have e8 : ((affLL.map affP).length : Int) = 8 := rfl
  have hall : spec_l13Affix.f N [rdP b (p : Int)] = (spec_l1Rd_pick.f N [rdP b (p : Int), intP ((affLL.map affP).length : Int)]).bind fun t1 => if 0 ≤ ((t1.headD default).toInt) then (if ((t1.headD default).toInt) < ((affLL.map affP).length : Int) then (some [(PV.agg [(PV.sc (.string ((((affsP affLL).elem (((t1.headD default).toInt).toNat)).fld 0).toStr))), (PV.sc (.bool ((((affsP affLL).elem (((t1.headD default).toInt).toNat)).fld 1).toBool))), (PV.sc (.string ((((affsP affLL).elem (((t1.headD default).toInt).toNat)).fld 2).toStr))), (PV.sc (.string ((((affsP affLL).elem (((t1.headD default).toInt).toNat)).fld 3).toStr))), (PV.sc (.string ((((affsP affLL).elem (((t1.headD default).toInt).toNat)).fld 4).toStr)))]), (PV.agg [(rdP b (p : Int)).fld 0, (PV.sc (.int .i64 (((t1.tail.headD default).fld 1).toInt)))])]) else none) else none := spec_l13Affix.f_eq N _
  rw [hall, e8, hf]
  simp only [hj8, nn, he, aff_f0, aff_f1, aff_f2, aff_f3, aff_f4, aff_agg, rd_f0, rd_f1, rd_agg, stk, Int.reduceEq, Nat.reduceEqDiff, Int.reduceLE, Int.reduceLT]
structure AffsB (l : List Aff) (n : Nat) : Prop where
  n : l.length ≤ n
  s : ∀ a ∈ l, a ∈ affLL
theorem affs_snoc (l : List Aff) (a : Aff) : l.map affP ++ [affP a] = (l ++ [a]).map affP := by simp
theorem affixes_l1 {b : PV} (l : List Aff) (hl : l.length ≤ 100) (a : Aff) (c q : Nat) (hc : c < 100) {Q : List Aff → List PV → Prop}
    (hnext : ∀ l', l' = l ∨ l' = l ++ [a] → ∃ r, Q l' r ∧ Ev2 (fun N m => spec_l13Affixes.l0 N m (c : Int) b (q : Int) (l'.map affP)) r) :
    ∀ (rest pre : List Aff) (known : Bool), l = pre ++ rest → ∃ l', (l' = l ∨ l' = l ++ [a]) ∧ ∃ r, Q l' r ∧ Ev3 (fun N m n => spec_l13Affixes.l1 N m n ((c + 1 : Nat) : Int) known (pre.length : Int) b (q : Int) (l.map affP) a.flag a.front a.strip a.add a.cond) r := by
  have w1 : IntKind.i64.wrap (((c + 1 : Nat) : Int) - 1) = (c : Int) := nat_wrap (by omega) (by omega)
  have c1 : (l.length + 1 ≤ 1954687338268) = True := eq_true (by omega)
  intro rest
  induction rest with
  | nil =>
    intro pre known hp
    cases known with
    | true =>
      obtain ⟨r, hq, hv⟩ := hnext l (.inl rfl)
      refine ⟨l, .inl rfl, r, hq, Ev3.succ ?_⟩
      simp only [spec_l13Affixes.l1_eq, List.length_map, at_end hp, w1, stk, Int.reduceEq, Nat.reduceEqDiff, Int.reduceLE, Int.reduceLT]
      exact hv.outer
    | false =>
      obtain ⟨r, hq, hv⟩ := hnext (l ++ [a]) (.inr rfl)
      refine ⟨l ++ [a], .inr rfl, r, hq, Ev3.succ ?_⟩
      simp only [spec_l13Affixes.l1_eq, List.length_map, at_end hp, w1, c1, aff_agg, affs_snoc, stk, Int.reduceEq, Nat.reduceEqDiff, Int.reduceLE, Int.reduceLT]
      exact hv.outer
  | cons x rest ih =>
    intro pre known hp
    cases known with
    | true =>
      obtain ⟨l', h1, r, h2, h3⟩ := ih _ true (at_step hp)
      refine ⟨l', h1, r, h2, Ev3.succ ?_⟩
      simp only [spec_l13Affixes.l1_eq, List.length_map, at_lt hp, at_next hp (by omega), stk, Int.reduceEq, Nat.reduceEqDiff, Int.reduceLE, Int.reduceLT]
      exact h3
    | false =>
      have e : PV.list (l.map affP) = affsP l := rfl
      obtain ⟨kn, hkn⟩ : ∃ kn : Bool, kn = ((decide ((((affP x).fld 0).toStr).toList = a.flag.toList) && ((((affP x).fld 1).toBool == a.front) && (decide ((((affP x).fld 2).toStr).toList = a.strip.toList) && (decide ((((affP x).fld 3).toStr).toList = a.add.toList) && (decide ((((affP x).fld 4).toStr).toList = a.cond.toList) && true)))))) := ⟨_, rfl⟩
      obtain ⟨l', h1, r, h2, h3⟩ := ih _ kn (at_step hp)
      refine ⟨l', h1, r, h2, Ev3.succ ?_⟩
      simp only [spec_l13Affixes.l1_eq, List.length_map, at_lt hp, at_next hp (by omega), e, nat_int, affs_elem hp, ← hkn, nn, if_true, if_false, decide_true, decide_false, Bool.false_eq_true, Bool.true_eq_false]
      exact h3
theorem affixes_l0 {b : PV} (hb : Code1 b) : ∀ (c p : Nat) (l : List Aff), p + c < 800000000 → c < 100 → AffsB l (100 - c) → ∃ (r : List Aff) (q : Nat), q ≤ p + c ∧ AffsB r 100 ∧ r.length ≤ l.length + c ∧ Ev2 (fun N n => spec_l13Affixes.l0 N n (c : Int) b (p : Int) (l.map affP)) [affsP r, rdP b (q : Int)] := by
  intro c
  induction c with
  | zero =>
    intro p l hp hc hl
    refine ⟨l, p, by omega, ⟨by have := hl.n; omega, hl.s⟩, by omega, Ev2.succ ?_⟩
    have h0 : ¬ (0 : Int) < ((0 : Nat) : Int) := by omega
    have e : PV.list (l.map affP) = affsP l := rfl
    simp only [spec_l13Affixes.l0_eq, h0, e, rd_agg, stk, Int.reduceEq, Nat.reduceEqDiff, Int.reduceLE, Int.reduceLT]
    exact Ev2.now _
  | succ c ih =>
    intro p l hp hc hl
    have h0 : (0 : Int) < ((c + 1 : Nat) : Int) := by omega
    have hln := hl.n
    obtain ⟨a, ha, hf⟩ := affix_ev hb p (by omega)
    obtain ⟨l', hl', r, ⟨r', q, h1, h2, h3, h4⟩, hv⟩ := affixes_l1 (b := b) l (by omega) a c (p + 1) (by omega) (Q := fun l' r => ∃ r' q, q ≤ p + 1 + c ∧ AffsB r' 100 ∧ r'.length ≤ l.length + 1 + c ∧ r = [affsP r', rdP b ((q : Nat) : Int)])
      (fun l' hl' => by
        have hB : AffsB l' (100 - c) ∧ l'.length ≤ l.length + 1 := by
          rcases hl' with rfl | rfl
          · exact ⟨⟨by omega, hl.s⟩, by omega⟩
          · refine ⟨⟨by rw [List.length_append, List.length_singleton]; omega, all_snoc hl.s ha⟩, by rw [List.length_append, List.length_singleton]; omega⟩
        obtain ⟨r', q, h1, h2, h3, h4⟩ := ih (p + 1) l' (by omega) (by omega) hB.1
        exact ⟨_, ⟨r', q, h1, h2, by have := hB.2; omega, rfl⟩, h4⟩) l [] false rfl
    refine ⟨r', q, by omega, h2, by omega, Ev2.succ ?_⟩
    rw [h4] at hv
    simp only [spec_l13Affixes.l0_eq, h0, rd_agg, hf, rd_f1, aff_f0, aff_f1, aff_f2, aff_f3, aff_f4, stk, Int.reduceEq, Nat.reduceEqDiff, Int.reduceLE, Int.reduceLT]
    exact hv.start
theorem affixes_ev {b : PV} (hb : Code1 b) (p : Nat) (hp : p < 700000000) : ∃ (r : List Aff) (q : Nat), q ≤ p + 10 ∧ AffsB r 4 ∧ Ev (fun N => spec_l13Affixes.f N [rdP b (p : Int)]) [affsP r, rdP b (q : Int)] := by
  obtain ⟨c, hc, hf⟩ := pick_ev hb (p := (p : Int)) (n := 5) (by omega) (by omega)
  obtain ⟨c, rfl⟩ := Int.eq_ofNat_of_zero_le hc.1
  have hp1 : (p : Int) + 1 = ((p + 1 : Nat) : Int) := by omega
  rw [hp1] at hf
  obtain ⟨r, q, h1, h2, h3, h4⟩ := affixes_l0 hb c (p + 1) [] (by omega) (by omega) ⟨by simp, by simp⟩
  refine ⟨r, q, by omega, ⟨by simp at h3; omega, h2.s⟩, ?_⟩
  simp only [spec_l13Affixes.f_eq, rd_f0, rd_f1, rd_agg, hf, stk, Int.reduceEq, Nat.reduceEqDiff, Int.reduceLE, Int.reduceLT]
  exact h4.diag
def flagsL : List ByteArray := [⟨#[]⟩, ⟨#[]⟩, ⟨#[83]⟩, ⟨#[71, 83]⟩, ⟨#[85]⟩, ⟨#[71, 85]⟩, ⟨#[82]⟩, ⟨#[84]⟩, ⟨#[67, 82, 83, 85]⟩]
theorem flags_size {s : ByteArray} (h : s ∈ flagsL) : s.size ≤ 4 := (szs_in (l := flagsL) (a := 0) (b := 4) rfl s h).2
theorem entry_ev {b : PV} (hb : Code1 b) (p : Nat) (hp : p < 900000000) (s : ByteArray) : ∃ f ∈ flagsL, ∀ N, spec_l13Entry.f N [rdP b (p : Int), strP s] = some [entP ⟨s, f⟩, rdP b ((p + 1 : Nat) : Int)] := by
  obtain ⟨f, hm, hf⟩ := of_ev hb (p := (p : Int)) (by omega) flagsL (by simp [flagsL])
  have e : PV.list [PV.sc (.string (ByteArray.mk #[])), PV.sc (.string (ByteArray.mk #[])), PV.sc (.string (ByteArray.mk #[83])), PV.sc (.string (ByteArray.mk #[71, 83])), PV.sc (.string (ByteArray.mk #[85])), PV.sc (.string (ByteArray.mk #[71, 85])), PV.sc (.string (ByteArray.mk #[82])), PV.sc (.string (ByteArray.mk #[84])), PV.sc (.string (ByteArray.mk #[67, 82, 83, 85]))] = strsP flagsL := rfl
  have hp1 : (p : Int) + 1 = ((p + 1 : Nat) : Int) := by omega
  rw [hp1] at hf
  have e2 : PV.agg [PV.sc (.string s), PV.sc (.string f)] = entP ⟨s, f⟩ := rfl
  refine ⟨f, hm, fun N => ?_⟩
  simp only [spec_l13Entry.f_eq, rd_f0, rd_f1, rd_agg, e, hf, e2, stk, Int.reduceEq, Nat.reduceEqDiff, Int.reduceLE, Int.reduceLT]
structure BookB (af : List Aff) (es : List Ent) : Prop where
  a : AffsB af 4
  n : es.length ≤ 24
  s : ∀ e ∈ es, e.stem.size ≤ 12 ∧ e.flags ∈ flagsL
theorem ents_snoc (l : List Ent) (e : Ent) : l.map entP ++ [entP e] = (l ++ [e]).map entP := by simp
theorem book_l7 {b : PV} (hb : Code1 b) (af : List Aff) (ws : List ByteArray) (hwl : ws.length ≤ 100) (hws : ∀ x ∈ ws, x.size ≤ 12) : ∀ (rest pre : List ByteArray) (es : List Ent) (p : Nat), ws = pre ++ rest → p + rest.length < 900000000 → es.length = pre.length → (∀ e ∈ es, e.stem.size ≤ 12 ∧ e.flags ∈ flagsL) →
    ∃ (r : List Ent) (q : Nat), q ≤ p + rest.length ∧ r.length = ws.length ∧ (∀ e ∈ r, e.stem.size ≤ 12 ∧ e.flags ∈ flagsL) ∧ Ev2 (fun N n => spec_l13Book.l7 N n (pre.length : Int) b (p : Int) (strsP ws) (affsP af) (es.map entP)) [bookP af r, rdP b (q : Int)] := by
  intro rest
  induction rest with
  | nil =>
    intro pre es p hp hpb hl hes
    refine ⟨es, p, by omega, by rw [hp, hl]; simp, hes, Ev2.succ ?_⟩
    have e : PV.agg [affsP af, PV.list (es.map entP)] = bookP af es := rfl
    simp only [spec_l13Book.l7_eq, at_end hp, e, rd_agg, stk, Int.reduceEq, Nat.reduceEqDiff, Int.reduceLE, Int.reduceLT]
    exact Ev2.now _
  | cons w rest ih =>
    intro pre es p hp hpb hl hes
    rw [List.length_cons] at hpb
    have hw := hws w (by rw [hp]; simp)
    obtain ⟨f, hm, hf⟩ := entry_ev hb p (by omega) w
    simp only [strP] at hf
    have hln := at_ltN hp
    have c1 : (es.length + 1 ≤ 4398046511104) = True := eq_true (by omega)
    obtain ⟨r, q, h1, h2, h3, h4⟩ := ih _ (es ++ [⟨w, f⟩]) (p + 1) (at_step hp) (by omega) (by simp [hl]) (all_snoc hes ⟨hw, hm⟩)
    refine ⟨r, q, by rw [List.length_cons]; omega, h2, h3, Ev2.succ ?_⟩
    simp only [spec_l13Book.l7_eq, at_lt hp, at_getD hp, at_next hp (by omega), hf, rd_agg, rd_f1, ent_f0, ent_f1, List.length_map, c1, stk, Int.reduceEq, Nat.reduceEqDiff, Int.reduceLE, Int.reduceLT]
    rw [ent_agg ⟨w, f⟩, ents_snoc]
    exact h4
theorem book_l5 {b : PV} (hb : Code1 b) (af : List Aff) (ws : List ByteArray) (hwl : ws.length ≤ 100) (hws : ∀ x ∈ ws, x.size ≤ 12) (p : Nat) (hpb : p < 800000000) :
    ∃ (r : List Ent) (q : Nat), q ≤ p + ws.length ∧ r.length = ws.length ∧ (∀ e ∈ r, e.stem.size ≤ 12 ∧ e.flags ∈ flagsL) ∧ Ev2 (fun N n => spec_l13Book.l5 N n 0 b (p : Int) (strsP ws) (affsP af)) [bookP af r, rdP b (q : Int)] := by
  cases ws with
  | nil =>
    have e : PV.agg [affsP af, PV.list []] = bookP af [] := rfl
    have h0 : ((0 : Int) < (([] : List ByteArray).length : Int)) = False := eq_false (by simp)
    refine ⟨[], p, by omega, rfl, by simp, Ev2.succ ?_⟩
    simp only [spec_l13Book.l5_eq, strs_len, h0, e, rd_agg, stk, Int.reduceEq, Nat.reduceEqDiff, Int.reduceLE, Int.reduceLT]
    exact Ev2.now _
  | cons w rest =>
    have hw := hws w (by simp)
    have hp : w :: rest = [] ++ w :: rest := rfl
    have e0 : (0 : Int) = (([] : List ByteArray).length : Int) := rfl
    rw [List.length_cons] at hwl
    obtain ⟨f, hm, hf⟩ := entry_ev hb p (by omega) w
    simp only [strP] at hf
    obtain ⟨r, q, h1, h2, h3, h4⟩ := book_l7 hb af (w :: rest) (by rw [List.length_cons]; omega) hws rest [w] [⟨w, f⟩] (p + 1) rfl (by omega) rfl (by simpa using ⟨hw, hm⟩)
    refine ⟨r, q, by rw [List.length_cons]; omega, h2, h3, Ev2.succ ?_⟩
    have c1 : (([] : List PV).length + 1 ≤ 4398046511104) = True := eq_true (by simp)
    rw [e0]
    simp only [spec_l13Book.l5_eq, at_lt hp, at_getD hp, at_next hp (by rw [List.length_cons]; omega), hf, rd_agg, rd_f1, ent_f0, ent_f1, c1, List.nil_append, stk, Int.reduceEq, Nat.reduceEqDiff, Int.reduceLE, Int.reduceLT]
    rw [ent_agg ⟨w, f⟩]
    exact h4
def wB (k : Nat) : ByteArray := (ByteArray.mk #[119]) ++ (bytesOfL [(PV.sc (.int .u8 (IntKind.u8.wrap (IntKind.i64.wrap (97 + (k : Int))))))])
theorem wB_data {k : Nat} (hk : k < 100) : (wB k).data.toList = [119, UInt8.ofNat (97 + k)] := by
  have e1 : IntKind.i64.wrap (97 + (k : Int)) = ((97 + k : Nat) : Int) := nat_wrap (by omega) (by omega)
  have e2 : IntKind.u8.wrap ((97 + k : Nat) : Int) = ((97 + k : Nat) : Int) := by simp [IntKind.wrap, IntKind.signed, IntKind.bits]; omega
  unfold wB
  rw [e1, e2, ByteArray.data_append, Array.toList_append]
  rfl
theorem wB_size (k : Nat) : (wB k).size = 2 := by
  unfold wB
  rw [ByteArray.size_append]
  have : ∀ l : List PV, (bytesOfL l).size = l.length := fun l => by simp [bytesOfL, ByteArray.size]
  rw [this]; rfl
theorem wB_noW {k : Nat} (hk : k < 100) : noW (wB k) = false := by
  unfold noW
  rw [wB_data hk]; rfl
theorem wB_inj {j k : Nat} (hj : j < 100) (hk : k < 100) (h : wB j = wB k) : j = k := by
  have h1 := congrArg (fun s : ByteArray => s.data.toList) h
  simp only [wB_data hj, wB_data hk] at h1
  injection h1 with _ h1
  injection h1 with h1 _
  have h2 := congrArg UInt8.toNat h1
  simp only [UInt8.toNat_ofNat'] at h2
  omega
theorem insM_new (s : ByteArray) : ∀ {l : List ByteArray}, s ∉ l → (insM s l).length = l.length + 1
  | [], _ => by simp [insM]
  | c :: r, h => by
    rw [List.mem_cons, not_or] at h
    unfold insM
    split
    · rw [List.length_cons, insM_new s h.2, List.length_cons]
    · rw [if_neg (fun e => h.1 e.symm)]; simp
def WInv (ws : List ByteArray) (k : Nat) : Prop := ∀ x ∈ ws, x.size ≤ 12 ∧ (noW x = true ∨ ∃ j, j < k ∧ x = wB j)
theorem book_l4 {b : PV} (hb : Code1 b) (af : List Aff) (p : Nat) (hpb : p < 700000000) : ∀ (d k : Nat) (ws : List ByteArray), ws.length + d = 24 → k + d ≤ 24 → WInv ws k →
    ∃ (r : List Ent) (q : Nat), q ≤ p + 24 ∧ r.length ≤ 24 ∧ (∀ e ∈ r, e.stem.size ≤ 12 ∧ e.flags ∈ flagsL) ∧ Ev2 (fun N n => spec_l13Book.l4 N n (k : Int) b (p : Int) (strsP ws) (affsP af)) [bookP af r, rdP b (q : Int)] := by
  intro d
  induction d with
  | zero =>
    intro k ws hl hk hi
    obtain ⟨r, q, h1, h2, h3, h4⟩ := book_l5 hb af ws (by omega) (fun x hx => (hi x hx).1) p (by omega)
    have h0 : ((ws.length : Int) < 24) = False := eq_false (by omega)
    refine ⟨r, q, by omega, by omega, h3, Ev2.succ ?_⟩
    simp only [spec_l13Book.l4_eq, strs_len, h0, stk, Int.reduceEq, Nat.reduceEqDiff, Int.reduceLE, Int.reduceLT]
    exact h4.after
  | succ d ih =>
    intro k ws hl hk hi
    have h0 : ((ws.length : Int) < 24) = True := eq_true (by omega)
    have hnot : wB k ∉ ws := fun hm => by
      rcases (hi _ hm).2 with h | ⟨j, hj, h⟩
      · rw [wB_noW (by omega)] at h; cases h
      · have := wB_inj (by omega) (by omega) h; omega
    obtain ⟨r, q, h1, h2, h3, h4⟩ := ih (k + 1) (insM (wB k) ws) (by rw [insM_new _ hnot]; omega) (by omega) (fun x hx => by
      rcases (insM_mem _ ws x).1 hx with rfl | hx
      · exact ⟨by rw [wB_size]; omega, .inr ⟨k, by omega, rfl⟩⟩
      · obtain ⟨z, h⟩ := hi x hx
        exact ⟨z, h.imp id (fun ⟨j, hj, e⟩ => ⟨j, by omega, e⟩)⟩)
    have w1 : IntKind.i64.wrap ((k : Int) + 1) = ((k + 1 : Nat) : Int) := nat_wrap (by omega) (by omega)
    have hz := wB_size k
    unfold wB at hz
    rw [ByteArray.size_append] at hz
    have c1 : ((ByteArray.mk #[119]).size + (bytesOfL [(PV.sc (.int .u8 (IntKind.u8.wrap (IntKind.i64.wrap (97 + (k : Int))))))]).size ≤ 9223372036854775807) = True := eq_true (by omega)
    refine ⟨r, q, h1, h2, h3, Ev2.succ ?_⟩
    simp only [spec_l13Book.l4_eq, strs_len, h0, c1, if_true, decide_true]
    refine Ev2.bind (put_ev ws (wB k) (by omega)) ?_
    simp only [w1, stk, Int.reduceEq, Nat.reduceEqDiff, Int.reduceLE, Int.reduceLT]
    exact h4
theorem book_l1 {b : PV} (hb : Code1 b) (af : List Aff) : ∀ (c p : Nat) (ws : List ByteArray), p + 20 * c < 600000000 → ws.length + c ≤ 20 → WInv ws 0 →
    ∃ (r : List Ent) (q : Nat), q ≤ p + 20 * c + 50 ∧ r.length ≤ 24 ∧ (∀ e ∈ r, e.stem.size ≤ 12 ∧ e.flags ∈ flagsL) ∧ Ev2 (fun N n => spec_l13Book.l1 N n (c : Int) b (p : Int) (strsP ws) (affsP af)) [bookP af r, rdP b (q : Int)] := by
  intro c
  induction c with
  | zero =>
    intro p ws hp hl hi
    have h0 : ¬ (0 : Int) < ((0 : Nat) : Int) := by omega
    obtain ⟨k, hk, hf⟩ := pick_ev hb (p := (p : Int)) (n := 30) (by omega) (by omega)
    have hp1 : (p : Int) + 1 = ((p + 1 : Nat) : Int) := by omega
    rw [hp1] at hf
    by_cases k0 : k = 0
    · obtain ⟨r, q, h1, h2, h3, h4⟩ := book_l4 hb af (p + 1) (by omega) (24 - ws.length) 0 ws (by omega) (by omega) hi
      refine ⟨r, q, by omega, h2, h3, Ev2.succ ?_⟩
      simp only [spec_l13Book.l1_eq, h0, rd_agg, rd_f1, hf, k0, stk, Int.reduceEq, Nat.reduceEqDiff, Int.reduceLE, Int.reduceLT]
      exact h4.after
    · obtain ⟨r, q, h1, h2, h3, h4⟩ := book_l5 hb af ws (by omega) (fun x hx => (hi x hx).1) (p + 1) (by omega)
      refine ⟨r, q, by omega, by omega, h3, Ev2.succ ?_⟩
      simp only [spec_l13Book.l1_eq, h0, rd_agg, rd_f1, hf, k0, stk, Int.reduceEq, Nat.reduceEqDiff, Int.reduceLE, Int.reduceLT]
      exact h4.after
  | succ c ih =>
    intro p ws hp hl hi
    have h0 : (0 : Int) < ((c + 1 : Nat) : Int) := by omega
    obtain ⟨w, q, h2, h3, h4, hno, h5⟩ := wordX_ev hb p (by omega)
    have hil := insM_len w ws
    obtain ⟨r, q2, a1, a2, a3, a4⟩ := ih q (insM w ws) (by omega) (by omega) (fun x hx => by
      rcases (insM_mem w ws x).1 hx with rfl | hx
      · exact ⟨h4, .inl hno⟩
      · exact hi x hx)
    refine ⟨r, q2, by omega, a2, a3, Ev2.succ ?_⟩
    have w1 : IntKind.i64.wrap (((c + 1 : Nat) : Int) - 1) = (c : Int) := nat_wrap (by omega) (by omega)
    simp only [spec_l13Book.l1_eq, h0, rd_agg, stk, Int.reduceEq, Nat.reduceEqDiff, Int.reduceLE, Int.reduceLT]
    refine Ev2.bind h5 ?_
    simp only [stk, Int.reduceEq, Nat.reduceEqDiff, Int.reduceLE, Int.reduceLT]
    refine Ev2.bind (put_ev ws w (by omega)) ?_
    simp only [w1, rd_f1, stk, Int.reduceEq, Nat.reduceEqDiff, Int.reduceLE, Int.reduceLT]
    exact a4
theorem book_ev {b : PV} (hb : Code1 b) (p : Nat) (hp : p < 500000000) : ∃ (af : List Aff) (es : List Ent) (q : Nat), q ≤ p + 250 ∧ BookB af es ∧ Ev (fun N => spec_l13Book.f N [rdP b (p : Int)]) [bookP af es, rdP b (q : Int)] := by
  obtain ⟨af, q0, b1, b2, b3⟩ := affixes_ev hb p (by omega)
  obtain ⟨c, hc, hf⟩ := pick_ev hb (p := (q0 : Int)) (n := 7) (by omega) (by omega)
  obtain ⟨c, rfl⟩ := Int.eq_ofNat_of_zero_le hc.1
  have hp1 : (q0 : Int) + 1 = ((q0 + 1 : Nat) : Int) := by omega
  rw [hp1] at hf
  have hnil : PV.list [] = strsP [] := rfl
  obtain ⟨r, q, h1, h2, h3, h4⟩ : ∃ (r : List Ent) (q : Nat), q ≤ q0 + 240 ∧ r.length ≤ 24 ∧ (∀ e ∈ r, e.stem.size ≤ 12 ∧ e.flags ∈ flagsL) ∧ Ev2 (fun N n => spec_l13Book.l0 N n (c : Int) b ((q0 + 1 : Nat) : Int) [] (affsP af)) [bookP af r, rdP b (q : Int)] := by
    cases c with
    | succ c =>
      have h0 : (0 : Int) < ((c + 1 : Nat) : Int) := by omega
      obtain ⟨w, q, h2, h3, h4, hno, h5⟩ := wordX_ev hb (q0 + 1) (by omega)
      have hil := insM_len w []
      obtain ⟨r, q2, a1, a2, a3, a4⟩ := book_l1 hb af c q (insM w []) (by omega) (by simp at hil; omega) (fun x hx => by
        rcases (insM_mem w [] x).1 hx with rfl | hx
        · exact ⟨h4, .inl hno⟩
        · cases hx)
      refine ⟨r, q2, by omega, a2, a3, Ev2.succ ?_⟩
      have w1 : IntKind.i64.wrap (((c + 1 : Nat) : Int) - 1) = (c : Int) := nat_wrap (by omega) (by omega)
      simp only [spec_l13Book.l0_eq, h0, rd_agg, hnil, stk, Int.reduceEq, Nat.reduceEqDiff, Int.reduceLE, Int.reduceLT]
      refine Ev2.bind h5 ?_
      simp only [stk, Int.reduceEq, Nat.reduceEqDiff, Int.reduceLE, Int.reduceLT]
      refine Ev2.bind (put_ev [] w (by simp)) ?_
      simp only [w1, rd_f1, stk, Int.reduceEq, Nat.reduceEqDiff, Int.reduceLE, Int.reduceLT]
      exact a4
    | zero =>
      have h0 : ¬ (0 : Int) < ((0 : Nat) : Int) := by omega
      obtain ⟨k, hk, hf⟩ := pick_ev hb (p := ((q0 + 1 : Nat) : Int)) (n := 30) (by omega) (by omega)
      have hp1 : ((q0 + 1 : Nat) : Int) + 1 = ((q0 + 2 : Nat) : Int) := by omega
      rw [hp1] at hf
      by_cases k0 : k = 0
      · have w1 : IntKind.i64.wrap ((0 : Int) + 1) = ((1 : Nat) : Int) := nat_wrap (by omega) (by omega)
        obtain ⟨r, q, h1, h2, h3, h4⟩ := book_l4 hb af (q0 + 2) (by omega) 23 1 (insM (wB 0) []) rfl (by omega) (fun x hx => by
          rcases (insM_mem _ [] x).1 hx with rfl | hx
          · exact ⟨by rw [wB_size]; omega, .inr ⟨0, by omega, rfl⟩⟩
          · cases hx)
        refine ⟨r, q, by omega, h2, h3, Ev2.succ ?_⟩
        simp only [spec_l13Book.l0_eq, h0, rd_agg, rd_f1, hf, k0, stk, Int.reduceEq, Nat.reduceEqDiff, Int.reduceLE, Int.reduceLT]
        refine Ev2.after (g := fun N n => spec_l13Book.l2 N n 0 b ((q0 + 2 : Nat) : Int) [] (affsP af)) (Ev2.succ ?_)
        have hz := wB_size 0
        unfold wB at hz
        rw [ByteArray.size_append] at hz
        have c1 : ((ByteArray.mk #[119]).size + (bytesOfL [(PV.sc (.int .u8 (IntKind.u8.wrap (IntKind.i64.wrap (97 + (0 : Int))))))]).size ≤ 9223372036854775807) = True := eq_true (by
          have : (((0 : Nat) : Int)) = 0 := rfl
          rw [this] at hz; omega)
        have c0 : ((([] : List PV).length : Int) < 24) = True := eq_true (by simp)
        simp only [spec_l13Book.l2_eq, c0, c1, hnil, if_true, decide_true]
        refine Ev2.bind (put_ev [] (wB 0) (by simp)) ?_
        simp only [w1, stk, Int.reduceEq, Nat.reduceEqDiff, Int.reduceLE, Int.reduceLT]
        exact h4
      · refine ⟨[], q0 + 2, by omega, by simp, by simp, Ev2.succ ?_⟩
        simp only [spec_l13Book.l0_eq, h0, rd_agg, rd_f1, hf, k0, stk, Int.reduceEq, Nat.reduceEqDiff, Int.reduceLE, Int.reduceLT]
        refine Ev2.after (g := fun N n => spec_l13Book.l3 N n 0 b ((q0 + 2 : Nat) : Int) [] (affsP af)) (Ev2.succ ?_)
        have c0 : ((0 : Int) < (([] : List PV).length : Int)) = False := eq_false (by simp)
        have e : PV.agg [affsP af, PV.list []] = bookP af [] := rfl
        simp only [spec_l13Book.l3_eq, c0, e, rd_agg, stk, Int.reduceEq, Nat.reduceEqDiff, Int.reduceLE, Int.reduceLT]
        exact Ev2.now _
  refine ⟨af, r, q, by omega, ⟨b2, h2, h3⟩, ?_⟩
  simp only [spec_l13Book.f_eq, rd_f0, rd_f1, rd_agg, stk, Int.reduceEq, Nat.reduceEqDiff, Int.reduceLE, Int.reduceLT]
  refine Ev.bind b3 ?_
  simp only [rd_f1, rd_agg, hf, stk, Int.reduceEq, Nat.reduceEqDiff, Int.reduceLE, Int.reduceLT]
  exact h4.diag
structure WordsD (l : List ByteArray) (n : Nat) : Prop where
  n : l.length ≤ n
  s : ∀ x ∈ l, x.size ≤ 13
structure AffT (a : Aff) : Prop where
  flag : a.flag.size ≤ 10
  strip : a.strip.size ≤ 10
  add : a.add.size ≤ 10
  cond : a.cond.size ≤ 10
theorem affLL_small : ∀ a ∈ affLL, AffT a := fun a ha => by
  have h : (affLL.all fun a => decide ((a.flag.size ≤ 10 ∧ a.strip.size ≤ 10) ∧ a.add.size ≤ 10 ∧ a.cond.size ≤ 10)) = true := rfl
  have := of_decide_eq_true (List.all_eq_true.1 h a ha)
  exact ⟨this.1.1, this.1.2, this.2.1, this.2.2⟩
theorem AffT.s {a : Aff} (h : AffT a) : AffS a := by
  obtain ⟨h1, h2, h3, h4⟩ := h
  exact ⟨by omega, by omega, by omega, by omega⟩
def anyF : List ByteArray := [⟨#[]⟩, ⟨#[115]⟩, ⟨#[65, 66]⟩, ⟨#[90]⟩]
def anyS : List ByteArray := [⟨#[121]⟩, ⟨#[97, 98, 99, 100, 101]⟩, ⟨#[]⟩, ⟨#[89]⟩]
def anyC : List ByteArray := [⟨#[121]⟩, ⟨#[116, 121]⟩, ⟨#[97, 98, 99, 100, 101]⟩, ⟨#[]⟩]
def anyE : List ByteArray := [⟨#[]⟩, ⟨#[83, 71]⟩, ⟨#[115]⟩, ⟨#[65, 66, 67, 68, 69]⟩]
def anyZ : List ByteArray := [⟨#[]⟩, ⟨#[122, 122]⟩, ⟨#[65]⟩]
theorem small_of {l : List ByteArray} (h : (l.all fun s => decide (0 ≤ s.size ∧ s.size ≤ 10)) = true) {s : ByteArray} (hs : s ∈ l) : s.size ≤ 10 := (szs_in (a := 0) (b := 10) h s hs).2
theorem anyAffix_ev {b : PV} (hb : Code1 b) (p : Nat) (hp : p < 800000000) : ∃ (a : Aff) (q : Nat), q ≤ p + 5 ∧ AffT a ∧ ∀ N, spec_l13AnyAffix.f N [rdP b (p : Int)] = some [affP a, rdP b (q : Int)] := by
  obtain ⟨a, ha, h1⟩ := affix_ev hb p (by omega)
  have hs := affLL_small a ha
  obtain ⟨k, hk, hf⟩ := pick_ev hb (p := ((p + 1 : Nat) : Int)) (n := 12) (by omega) (by omega)
  have hp1 : ((p + 1 : Nat) : Int) + 1 = ((p + 2 : Nat) : Int) := by omega
  rw [hp1] at hf
  have hp2 : ((p + 2 : Nat) : Int) + 1 = ((p + 3 : Nat) : Int) := by omega
  by_cases k0 : k = 0
  · obtain ⟨s, hm, hs2⟩ := of_ev hb (p := ((p + 2 : Nat) : Int)) (by omega) anyF (by simp [anyF])
    rw [hp2] at hs2
    have e : PV.list [PV.sc (.string (ByteArray.mk #[])), PV.sc (.string (ByteArray.mk #[115])), PV.sc (.string (ByteArray.mk #[65, 66])), PV.sc (.string (ByteArray.mk #[90]))] = strsP anyF := rfl
    have e2 : PV.agg [PV.sc (.string s), PV.sc (.bool a.front), PV.sc (.string a.strip), PV.sc (.string a.add), PV.sc (.string a.cond)] = affP ⟨s, a.front, a.strip, a.add, a.cond⟩ := rfl
    exact ⟨⟨s, a.front, a.strip, a.add, a.cond⟩, p + 3, by omega, ⟨small_of (l := anyF) rfl hm, hs.strip, hs.add, hs.cond⟩, fun N => by simp only [spec_l13AnyAffix.f_eq, rd_f0, rd_f1, rd_agg, h1, hf, k0, e, hs2, aff_f0, aff_f1, aff_f2, aff_f3, aff_f4, e2, stk, Int.reduceEq, Nat.reduceEqDiff, Int.reduceLE, Int.reduceLT]⟩
  by_cases k1 : k = 1
  · obtain ⟨s, hm, hs2⟩ := of_ev hb (p := ((p + 2 : Nat) : Int)) (by omega) anyS (by simp [anyS])
    rw [hp2] at hs2
    have e : PV.list [PV.sc (.string (ByteArray.mk #[121])), PV.sc (.string (ByteArray.mk #[97, 98, 99, 100, 101])), PV.sc (.string (ByteArray.mk #[])), PV.sc (.string (ByteArray.mk #[89]))] = strsP anyS := rfl
    have e2 : PV.agg [PV.sc (.string a.flag), PV.sc (.bool a.front), PV.sc (.string s), PV.sc (.string a.add), PV.sc (.string a.cond)] = affP ⟨a.flag, a.front, s, a.add, a.cond⟩ := rfl
    exact ⟨⟨a.flag, a.front, s, a.add, a.cond⟩, p + 3, by omega, ⟨hs.flag, small_of (l := anyS) rfl hm, hs.add, hs.cond⟩, fun N => by simp only [spec_l13AnyAffix.f_eq, rd_f0, rd_f1, rd_agg, h1, hf, k1, e, hs2, aff_f0, aff_f1, aff_f2, aff_f3, aff_f4, e2, stk, Int.reduceEq, Nat.reduceEqDiff, Int.reduceLE, Int.reduceLT]⟩
  by_cases k2 : k = 2
  · obtain ⟨s, hm, hs2⟩ := of_ev hb (p := ((p + 2 : Nat) : Int)) (by omega) anyC (by simp [anyC])
    rw [hp2] at hs2
    have e : PV.list [PV.sc (.string (ByteArray.mk #[121])), PV.sc (.string (ByteArray.mk #[116, 121])), PV.sc (.string (ByteArray.mk #[97, 98, 99, 100, 101])), PV.sc (.string (ByteArray.mk #[]))] = strsP anyC := rfl
    have e2 : PV.agg [PV.sc (.string a.flag), PV.sc (.bool a.front), PV.sc (.string a.strip), PV.sc (.string a.add), PV.sc (.string s)] = affP ⟨a.flag, a.front, a.strip, a.add, s⟩ := rfl
    exact ⟨⟨a.flag, a.front, a.strip, a.add, s⟩, p + 3, by omega, ⟨hs.flag, hs.strip, hs.add, small_of (l := anyC) rfl hm⟩, fun N => by simp only [spec_l13AnyAffix.f_eq, rd_f0, rd_f1, rd_agg, h1, hf, k2, e, hs2, aff_f0, aff_f1, aff_f2, aff_f3, aff_f4, e2, stk, Int.reduceEq, Nat.reduceEqDiff, Int.reduceLE, Int.reduceLT]⟩
  by_cases k3 : k = 3
  · have e2 : PV.agg [PV.sc (.string a.flag), PV.sc (.bool (!a.front)), PV.sc (.string a.strip), PV.sc (.string a.add), PV.sc (.string a.cond)] = affP ⟨a.flag, !a.front, a.strip, a.add, a.cond⟩ := rfl
    exact ⟨⟨a.flag, !a.front, a.strip, a.add, a.cond⟩, p + 2, by omega, ⟨hs.flag, hs.strip, hs.add, hs.cond⟩, fun N => by simp only [spec_l13AnyAffix.f_eq, rd_f0, rd_f1, rd_agg, h1, hf, k3, aff_f0, aff_f1, aff_f2, aff_f3, aff_f4, e2, stk, Int.reduceEq, Nat.reduceEqDiff, Int.reduceLE, Int.reduceLT]⟩
  · exact ⟨a, p + 2, by omega, hs, fun N => by simp only [spec_l13AnyAffix.f_eq, rd_f0, rd_f1, rd_agg, h1, hf, k0, k1, k2, k3, aff_f0, aff_f1, aff_f2, aff_f3, aff_f4, aff_agg, stk, Int.reduceEq, Nat.reduceEqDiff, Int.reduceLE, Int.reduceLT]⟩
structure BookD (af : List Aff) (es : List Ent) : Prop where
  al : af.length ≤ 100
  el : es.length ≤ 100
  a : ∀ a ∈ af, AffT a
  e : ∀ e ∈ es, e.stem.size ≤ 13 ∧ e.flags.size ≤ 10
theorem BookD.s {af : List Aff} {es : List Ent} (h : BookD af es) : BookS af es :=
  ⟨by have := h.al; omega, by have := h.el; omega, fun a ha => (h.a a ha).s, fun e he => by obtain ⟨h1, h2⟩ := h.e e he; exact ⟨by omega, by omega⟩⟩
theorem affs_app (af : List Aff) (a : Aff) : PV.list ((affsP af).items ++ [affP a]) = affsP (af ++ [a]) := by simp [affsP, PV.items]
theorem ents_app (es : List Ent) (e : Ent) : PV.list ((entsP es).items ++ [entP e]) = entsP (es ++ [e]) := by simp [entsP, PV.items]
theorem anyBook_ev {b : PV} (hb : Code1 b) (p : Nat) (hp : p < 400000000) : ∃ (af : List Aff) (es : List Ent) (q : Nat), q ≤ p + 300 ∧ BookD af es ∧ Ev (fun N => spec_l13AnyBook.f N [rdP b (p : Int)]) [bookP af es, rdP b (q : Int)] := by
  obtain ⟨af, es, q, h1, h2, h3⟩ := book_ev hb p (by omega)
  have hal := h2.a.n
  have hel := h2.n
  have hD : BookD af es := ⟨by omega, by omega, fun a ha => affLL_small a (h2.a.s a ha), fun e he => by have := h2.s e he; have := flags_size this.2; omega⟩
  obtain ⟨k, hk, hf⟩ := pick_ev hb (p := (q : Int)) (n := 16) (by omega) (by omega)
  have hq1 : (q : Int) + 1 = ((q + 1 : Nat) : Int) := by omega
  rw [hq1] at hf
  by_cases k0 : k = 0
  · obtain ⟨a, q2, g1, g2, g3⟩ := anyAffix_ev hb (q + 1) (by omega)
    have c1 : (af.length + 1 ≤ 1954687338268) = True := tru (by omega)
    refine ⟨af ++ [a], es, q2, by omega, ⟨by simp; omega, by omega, all_snoc hD.a g2, hD.e⟩, ?_⟩
    simp only [spec_l13AnyBook.f_eq, rd_f0, rd_f1, rd_agg, stk, Int.reduceEq, Nat.reduceEqDiff, Int.reduceLE, Int.reduceLT]
    refine Ev.bind h3 ?_
    simp only [rd_f1, rd_agg, hf, k0, g3, book_f0, book_f1, affs_len, c1, aff_f0, aff_f1, aff_f2, aff_f3, aff_f4, aff_agg, affs_app, book_agg, stk, Int.reduceEq, Nat.reduceEqDiff, Int.reduceLE, Int.reduceLT]
    exact Ev.now _
  by_cases k1 : k = 1
  · obtain ⟨w, q2, g1, g2, g3⟩ := anyWord_ev hb (q + 1) (by omega)
    obtain ⟨f, hm, hf2⟩ := of_ev hb (p := (q2 : Int)) (by omega) anyE (by simp [anyE])
    have hq2 : (q2 : Int) + 1 = ((q2 + 1 : Nat) : Int) := by omega
    rw [hq2] at hf2
    have e : PV.list [PV.sc (.string (ByteArray.mk #[])), PV.sc (.string (ByteArray.mk #[83, 71])), PV.sc (.string (ByteArray.mk #[115])), PV.sc (.string (ByteArray.mk #[65, 66, 67, 68, 69]))] = strsP anyE := rfl
    have c1 : (es.length + 1 ≤ 4398046511104) = True := tru (by omega)
    have e2 : PV.agg [PV.sc (.string w), PV.sc (.string f)] = entP ⟨w, f⟩ := rfl
    refine ⟨af, es ++ [⟨w, f⟩], q2 + 1, by omega, ⟨by omega, by simp; omega, hD.a, all_snoc hD.e ⟨g2, small_of (l := anyE) rfl hm⟩⟩, ?_⟩
    simp only [spec_l13AnyBook.f_eq, rd_f0, rd_f1, rd_agg, stk, Int.reduceEq, Nat.reduceEqDiff, Int.reduceLE, Int.reduceLT]
    refine Ev.bind h3 ?_
    simp only [rd_f1, rd_agg, hf, k1, book_f0, book_f1, stk, Int.reduceEq, Nat.reduceEqDiff, Int.reduceLE, Int.reduceLT]
    refine Ev.bind g3 ?_
    simp only [rd_f1, rd_agg, e, hf2, ents_len, c1, e2, ents_app, book_agg, stk, Int.reduceEq, Nat.reduceEqDiff, Int.reduceLE, Int.reduceLT]
    exact Ev.now _
  by_cases k2 : k = 2
  · cases es with
    | nil =>
      have c0 : ((0 : Int) < (([] : List Ent).length : Int)) = False := fls (by simp)
      refine ⟨af, [], q + 1, by omega, hD, ?_⟩
      simp only [spec_l13AnyBook.f_eq, rd_f0, rd_f1, rd_agg, stk, Int.reduceEq, Nat.reduceEqDiff, Int.reduceLE, Int.reduceLT]
      refine Ev.bind h3 ?_
      simp only [rd_f1, rd_agg, hf, k2, book_f0, book_f1, ents_len, c0, book_agg, stk, Int.reduceEq, Nat.reduceEqDiff, Int.reduceLE, Int.reduceLT]
      exact Ev.now _
    | cons x es =>
      obtain ⟨s, hm, hf2⟩ := of_ev hb (p := ((q + 1 : Nat) : Int)) (by omega) anyZ (by simp [anyZ])
      have hq2 : ((q + 1 : Nat) : Int) + 1 = ((q + 2 : Nat) : Int) := by omega
      rw [hq2] at hf2
      have e : PV.list [PV.sc (.string (ByteArray.mk #[])), PV.sc (.string (ByteArray.mk #[122, 122])), PV.sc (.string (ByteArray.mk #[65]))] = strsP anyZ := rfl
      have c0 : ((0 : Int) < ((x :: es).length : Int)) = True := tru (by simp <;> omega)
      have e2 : PV.list ((entsP (x :: es)).items.set 0 (PV.agg (((entsP (x :: es)).elem 0).parts.set 0 (PV.sc (.string s))))) = entsP (⟨s, x.flags⟩ :: es) := rfl
      refine ⟨af, ⟨s, x.flags⟩ :: es, q + 2, by omega, ⟨hD.al, hD.el, hD.a, fun e he => ?_⟩, ?_⟩
      · rcases List.mem_cons.1 he with rfl | he
        · exact ⟨by have := small_of (l := anyZ) rfl hm; show s.size ≤ 13; omega, (hD.e x (by simp)).2⟩
        · exact hD.e e (by simp [he])
      · simp only [spec_l13AnyBook.f_eq, rd_f0, rd_f1, rd_agg, stk, Int.reduceEq, Nat.reduceEqDiff, Int.reduceLE, Int.reduceLT]
        refine Ev.bind h3 ?_
        simp only [rd_f1, rd_agg, hf, k2, book_f0, book_f1, ents_len, c0, e, hf2, Nat.le_refl, e2, book_agg, stk, Int.reduceEq, Nat.reduceEqDiff, Int.reduceLE, Int.reduceLT]
        exact Ev.now _
  · refine ⟨af, es, q + 1, by omega, hD, ?_⟩
    simp only [spec_l13AnyBook.f_eq, rd_f0, rd_f1, rd_agg, stk, Int.reduceEq, Nat.reduceEqDiff, Int.reduceLE, Int.reduceLT]
    refine Ev.bind h3 ?_
    simp only [rd_f1, rd_agg, hf, k0, k1, k2, book_f0, book_f1, book_agg, stk, Int.reduceEq, Nat.reduceEqDiff, Int.reduceLE, Int.reduceLT]
    exact Ev.now _
def stems (l : List Ent) : List ByteArray := l.map Ent.stem
theorem bLess_trans {a b c : ByteArray} (h1 : bLess a b = true) (h2 : bLess b c = true) : bLess a c = true := by
  rw [bLess_iff] at *; exact ll_trans h1 h2
theorem bLess_irr (a : ByteArray) : bLess a a = false := by
  cases h : bLess a a with
  | false => rfl
  | true => rw [bLess_iff] at h; exact absurd h (ll_irrefl _)
theorem entsL_cons {p : Option ByteArray} {e : Ent} {r : List Ent} (h : entsL p (e :: r) = true) : entB e = true ∧ entsL (some e.stem) r = true ∧ ∀ q, p = some q → bLess q e.stem = true := by
  cases p with
  | none =>
    simp only [entsL, Bool.and_eq_true] at h
    exact ⟨h.1, h.2, fun q hq => by cases hq⟩
  | some q =>
    simp only [entsL, Bool.and_eq_true] at h
    exact ⟨h.1, h.2.2, fun q' hq => by cases hq; exact h.2.1⟩
theorem entsL_ahead : ∀ {l : List Ent} {q : ByteArray}, entsL (some q) l = true → ∀ e ∈ l, bLess q e.stem = true
  | [], _, _, _, h => by cases h
  | x :: r, q, h, e, he => by
    obtain ⟨h1, h2, h3⟩ := entsL_cons h
    rcases List.mem_cons.1 he with rfl | he
    · exact h3 q rfl
    · exact bLess_trans (h3 q rfl) (entsL_ahead h2 e he)
def ascE (l : List Ent) : Prop := l.Pairwise (fun x y => bLess x.stem y.stem = true)
theorem entsL_asc : ∀ {l : List Ent} {p : Option ByteArray}, entsL p l = true → ascE l
  | [], _, _ => List.Pairwise.nil
  | x :: r, p, h => by
    obtain ⟨h1, h2, -⟩ := entsL_cons h
    exact List.pairwise_cons.2 ⟨entsL_ahead h2, entsL_asc h2⟩
theorem bookB_asc {af : List Aff} {es : List Ent} (h : bookB af es = true) : ascE es := by
  simp only [bookB, Bool.and_eq_true] at h
  exact entsL_asc h.1
def lessE (s : ByteArray) (l : List Ent) : List Ent := l.takeWhile fun e => bLess e.stem s
def fromE (s : ByteArray) (l : List Ent) : List Ent := l.dropWhile fun e => bLess e.stem s
theorem less_from (s : ByteArray) (l : List Ent) : lessE s l ++ fromE s l = l := List.takeWhile_append_dropWhile
def thereE (s : ByteArray) (l : List Ent) : Bool := match fromE s l with
  | x :: _ => decide (x.stem = s)
  | [] => false
theorem there_iff (s : ByteArray) : ∀ {l : List Ent}, ascE l → (thereE s l = true ↔ s ∈ stems l)
  | [], _ => by simp [thereE, fromE, stems]
  | x :: r, h => by
    have hp := List.pairwise_cons.1 h
    unfold thereE fromE
    by_cases hx : bLess x.stem s = true
    · have := there_iff s hp.2
      unfold thereE fromE at this
      rw [List.dropWhile_cons_of_pos (p := fun e : Ent => bLess e.stem s) hx, this]
      have hne : s ≠ x.stem := fun he => by rw [he, bLess_irr] at hx; cases hx
      simp [stems, hne]
    · rw [List.dropWhile_cons_of_neg (p := fun e : Ent => bLess e.stem s) hx]
      by_cases he : x.stem = s
      · simp [he, stems]
      · simp only [he, decide_false, Bool.false_eq_true, false_iff, stems, List.map_cons, List.mem_cons, not_or]
        refine ⟨fun h2 => he h2.symm, fun h2 => ?_⟩
        obtain ⟨y, hy, hys⟩ := List.mem_map.1 h2
        exact hx (by rw [← hys]; exact hp.1 y hy)
theorem from_head {s : ByteArray} : ∀ {l : List Ent}, ascE l → ∀ {x : Ent} {r : List Ent}, fromE s l = x :: r → x.stem = s → ∀ e : Ent, e.stem = s → (e ∈ l ↔ x = e)
  | [], _, x, r, hf, _, e, _ => by simp [fromE] at hf
  | y :: l, h, x, r, hf, hx, e, he => by
    have hp := List.pairwise_cons.1 h
    by_cases hy : bLess y.stem s = true
    · have hf' : fromE s l = x :: r := by unfold fromE at hf ⊢; rwa [List.dropWhile_cons_of_pos (p := fun e : Ent => bLess e.stem s) hy] at hf
      have := from_head hp.2 hf' hx e he
      rw [List.mem_cons, this]
      constructor
      · rintro (h2 | h2)
        · rw [← h2, he, bLess_irr] at hy; cases hy
        · exact h2
      · exact .inr
    · have hyx : y = x := by unfold fromE at hf; rw [List.dropWhile_cons_of_neg (p := fun e : Ent => bLess e.stem s) hy] at hf; injection hf
      subst hyx
      rw [List.mem_cons]
      constructor
      · rintro (h2 | h2)
        · exact h2.symm
        · have := hp.1 e h2
          rw [hx, he, bLess_irr] at this; cases this
      · intro h2; exact .inl h2.symm
structure Del where
  goes : List ByteArray
  comes : List Ent
  aff : Bool
  list : List Aff
def delP (d : Del) : PV := .agg [strsP d.goes, entsP d.comes, boolP d.aff, affsP d.list]
theorem del_f0 (d : Del) : (delP d).fld 0 = strsP d.goes := rfl
theorem del_f1 (d : Del) : (delP d).fld 1 = entsP d.comes := rfl
theorem del_f2 (d : Del) : (delP d).fld 2 = boolP d.aff := rfl
theorem del_f3 (d : Del) : (delP d).fld 3 = affsP d.list := rfl
def eqE (x y : Ent) : Bool := decide (x.stem = y.stem) && decide (x.flags = y.flags)
theorem eqE_iff (x y : Ent) : eqE x y = true ↔ x = y := by
  cases x; cases y; simp [eqE]
def memE (e : Ent) (l : List Ent) : Bool := l.any fun x => eqE x e
theorem memE_iff (e : Ent) (l : List Ent) : memE e l = true ↔ e ∈ l := by
  unfold memE
  rw [List.any_eq_true]
  constructor
  · rintro ⟨x, h1, h2⟩; rw [eqE_iff] at h2; exact h2 ▸ h1
  · intro h; exact ⟨e, h, (eqE_iff _ _).2 rfl⟩
def eqAs : List Aff → List Aff → Bool
  | [], [] => true
  | x :: l, y :: r => eqA x y && eqAs l r
  | _, _ => false
def deltaM (aa : List Aff) (ea : List Ent) (ab : List Aff) (eb : List Ent) : Del :=
  ⟨stems (ea.filter fun e => !decide (e.stem ∈ stems eb)), eb.filter fun e => !memE e ea, !eqAs aa ab, if eqAs aa ab = true then [] else ab⟩
def nl : ByteArray := ⟨#[10]⟩
def affText (a : Aff) : ByteArray := (if a.front = true then ⟨#[102, 114, 111, 110, 116]⟩ else ⟨#[101, 110, 100]⟩) ++ ⟨#[32]⟩ ++ a.flag ++ ⟨#[32]⟩ ++ a.strip ++ ⟨#[32]⟩ ++ a.add ++ ⟨#[32]⟩ ++ a.cond
def entText (e : Ent) : ByteArray := if e.flags = ⟨#[]⟩ then e.stem else e.stem ++ ⟨#[47]⟩ ++ e.flags
def catA : List Aff → ByteArray → ByteArray
  | [], out => out
  | a :: r, out => catA r (out ++ (affText a ++ nl))
def catE (pre : ByteArray) : List Ent → ByteArray → ByteArray
  | [], out => out
  | e :: r, out => catE pre r (out ++ (pre ++ (entText e ++ nl)))
def catG : List ByteArray → ByteArray → ByteArray
  | [], out => out
  | s :: r, out => catG r (out ++ (⟨#[45]⟩ ++ s ++ nl))
theorem ascW_some : ∀ {l : List ByteArray} {q : ByteArray}, ascW (some q) l = true ↔ (∀ w ∈ l, isWord w = true ∧ bLess q w = true) ∧ l.Pairwise (fun x y => bLess x y = true)
  | [], q => by simp [ascW]
  | c :: r, q => by
    simp only [ascW, Bool.and_eq_true, ascW_some (l := r) (q := c), List.pairwise_cons, List.mem_cons, forall_eq_or_imp]
    constructor
    · rintro ⟨⟨h1, h2⟩, h3, h4⟩
      exact ⟨⟨⟨h1, h2⟩, fun w hw => ⟨(h3 w hw).1, bLess_trans h2 (h3 w hw).2⟩⟩, fun w hw => (h3 w hw).2, h4⟩
    · rintro ⟨⟨⟨h1, h2⟩, h3⟩, h4, h5⟩
      exact ⟨⟨h1, h2⟩, fun w hw => ⟨(h3 w hw).1, h4 w hw⟩, h5⟩
theorem ascW_none {l : List ByteArray} : ascW none l = true ↔ (∀ w ∈ l, isWord w = true) ∧ l.Pairwise (fun x y => bLess x y = true) := by
  cases l with
  | nil => simp [ascW]
  | cons c r =>
    simp only [ascW, Bool.and_eq_true, ascW_some, List.pairwise_cons, List.mem_cons, forall_eq_or_imp]
    constructor
    · rintro ⟨h1, h3, h4⟩
      exact ⟨⟨h1, fun w hw => (h3 w hw).1⟩, fun w hw => (h3 w hw).2, h4⟩
    · rintro ⟨⟨h1, h3⟩, h4, h5⟩
      exact ⟨h1, fun w hw => ⟨h3 w hw, h4 w hw⟩, h5⟩
theorem entsL_some : ∀ {l : List Ent} {q : ByteArray}, entsL (some q) l = true ↔ (∀ e ∈ l, entB e = true ∧ bLess q e.stem = true) ∧ ascE l
  | [], q => by simp [entsL, ascE]
  | c :: r, q => by
    simp only [entsL, Bool.and_eq_true, entsL_some (l := r) (q := c.stem), ascE, List.pairwise_cons, List.mem_cons, forall_eq_or_imp]
    constructor
    · rintro ⟨h1, h2, h3, h4⟩
      exact ⟨⟨⟨h1, h2⟩, fun w hw => ⟨(h3 w hw).1, bLess_trans h2 (h3 w hw).2⟩⟩, fun w hw => (h3 w hw).2, h4⟩
    · rintro ⟨⟨⟨h1, h2⟩, h3⟩, h4, h5⟩
      exact ⟨h1, h2, fun w hw => ⟨(h3 w hw).1, h4 w hw⟩, h5⟩
theorem entsL_none {l : List Ent} : entsL none l = true ↔ (∀ e ∈ l, entB e = true) ∧ ascE l := by
  cases l with
  | nil => simp [entsL, ascE]
  | cons c r =>
    simp only [entsL, Bool.and_eq_true, entsL_some, ascE, List.pairwise_cons, List.mem_cons, forall_eq_or_imp]
    constructor
    · rintro ⟨h1, h3, h4⟩
      exact ⟨⟨h1, fun w hw => (h3 w hw).1⟩, fun w hw => (h3 w hw).2, h4⟩
    · rintro ⟨⟨h1, h3⟩, h4, h5⟩
      exact ⟨h1, fun w hw => ⟨h3 w hw, h4 w hw⟩, h5⟩
theorem stems_asc {l : List Ent} (h : ascE l) : (stems l).Pairwise (fun x y => bLess x y = true) := by
  unfold stems
  rw [List.pairwise_map]; exact h
def entsB (es : List Ent) : Bool := entsL none es && decide ((es.length : Int) ≤ 24)
def delB (d : Del) : Bool := wordsM d.goes 24 && (entsB d.comes && (affsB d.list && ((d.aff || decide (d.list.length = 0)) && d.goes.all fun g => !decide (g ∈ stems d.comes))))
theorem deltaM_ok {aa ab : List Aff} {ea eb : List Ent} (ha : bookB aa ea = true) (hb : bookB ab eb = true) : delB (deltaM aa ea ab eb) = true := by
  have fa := bookB_facts ha
  have fb := bookB_facts hb
  have xa := bookB_asc ha
  have xb := bookB_asc hb
  have hal := fa.el
  have hbl := fb.el
  have l1 := List.length_filter_le (fun e : Ent => !decide (e.stem ∈ stems eb)) ea
  have l2 := List.length_filter_le (fun e : Ent => !memE e ea) eb
  have e1 : wordsM (deltaM aa ea ab eb).goes 24 = true := by
    show (ascW none (stems (ea.filter fun e : Ent => !decide (e.stem ∈ stems eb))) && decide _) = true
    rw [Bool.and_eq_true, ascW_none]
    refine ⟨⟨fun w hw => ?_, stems_asc (xa.filter _)⟩, decide_eq_true ?_⟩
    · obtain ⟨e, he, rfl⟩ := List.mem_map.1 hw
      exact (entB_facts (fa.ent e (List.mem_filter.1 he).1)).1
    · have : (stems (ea.filter fun e : Ent => !decide (e.stem ∈ stems eb))).length = (ea.filter fun e : Ent => !decide (e.stem ∈ stems eb)).length := by simp [stems]
      show ((stems (ea.filter fun e : Ent => !decide (e.stem ∈ stems eb))).length : Int) ≤ 24
      omega
  have e2 : entsB (deltaM aa ea ab eb).comes = true := by
    show (entsL none (eb.filter fun e : Ent => !memE e ea) && decide _) = true
    rw [Bool.and_eq_true, entsL_none]
    refine ⟨⟨fun e he => fb.ent e (List.mem_filter.1 he).1, xb.filter _⟩, decide_eq_true ?_⟩
    show ((eb.filter fun e : Ent => !memE e ea).length : Int) ≤ 24
    omega
  have e3 : affsB (deltaM aa ea ab eb).list = true := by
    show affsB (if eqAs aa ab = true then [] else ab) = true
    split
    · rfl
    · exact fb.affs
  have e4 : ((deltaM aa ea ab eb).aff || decide ((deltaM aa ea ab eb).list.length = 0)) = true := by
    show ((!eqAs aa ab) || decide ((if eqAs aa ab = true then [] else ab).length = 0)) = true
    cases eqAs aa ab <;> simp
  have e5 : ((deltaM aa ea ab eb).goes.all fun g => !decide (g ∈ stems (deltaM aa ea ab eb).comes)) = true := by
    rw [List.all_eq_true]
    intro g hg
    obtain ⟨e, he, rfl⟩ := List.mem_map.1 hg
    have h2 := (List.mem_filter.1 he).2
    rw [Bool.not_eq_true', decide_eq_false_iff_not]
    intro h3
    obtain ⟨x, hx, hxe⟩ := List.mem_map.1 h3
    have : e.stem ∈ stems eb := by rw [← hxe]; exact List.mem_map_of_mem (List.mem_filter.1 hx).1
    simp [this] at h2
  unfold delB
  rw [e1, e2, e3, e4, e5]; rfl
def keepM (es : List Ent) (d : Del) : List Ent := es.filter fun e => !decide (e.stem ∈ d.goes) && !decide (e.stem ∈ stems d.comes)
def insE (e : Ent) (l : List Ent) : List Ent := lessE e.stem l ++ e :: fromE e.stem l
def insAll : List Ent → List Ent → List Ent
  | [], l => l
  | e :: r, l => insAll r (insE e l)
theorem insE_perm (e : Ent) (l : List Ent) : (insE e l).Perm (e :: l) := by
  unfold insE
  refine List.perm_middle.trans ?_
  rw [less_from]
theorem bLess_tot {a b : ByteArray} (h : bLess a b = false) (hne : b ≠ a) : bLess b a = true := by
  rw [bLess_iff]
  have h1 : ¬ encB a < encB b := fun h2 => by rw [(bLess_iff a b).2 h2] at h; cases h
  exact ll_lt_of_le_of_ne (List.not_lt.1 h1) (fun he => hne (encB_inj he))
theorem lessE_all (s : ByteArray) : ∀ (l : List Ent), ∀ e ∈ lessE s l, bLess e.stem s = true
  | [], e, h => by simp [lessE] at h
  | x :: l, e, h => by
    unfold lessE at h
    by_cases hx : bLess x.stem s = true
    · rw [List.takeWhile_cons_of_pos (p := fun e : Ent => bLess e.stem s) hx] at h
      rcases List.mem_cons.1 h with rfl | h
      · exact hx
      · exact lessE_all s l e h
    · rw [List.takeWhile_cons_of_neg (p := fun e : Ent => bLess e.stem s) hx] at h; cases h
theorem fromE_all {s : ByteArray} : ∀ {l : List Ent}, ascE l → s ∉ stems l → ∀ e ∈ fromE s l, bLess s e.stem = true
  | [], _, _, e, h => by simp [fromE] at h
  | x :: l, ha, hs, e, h => by
    have hp := List.pairwise_cons.1 ha
    unfold fromE at h
    by_cases hx : bLess x.stem s = true
    · rw [List.dropWhile_cons_of_pos (p := fun e : Ent => bLess e.stem s) hx] at h
      exact fromE_all hp.2 (fun h2 => hs (List.mem_cons_of_mem _ h2)) e h
    · rw [List.dropWhile_cons_of_neg (p := fun e : Ent => bLess e.stem s) hx] at h
      have h1 : bLess s x.stem = true := bLess_tot (by simpa using hx) (fun he => hs (by rw [he]; exact List.mem_cons_self))
      rcases List.mem_cons.1 h with rfl | h
      · exact h1
      · exact bLess_trans h1 (hp.1 e h)
theorem insE_asc {e : Ent} {l : List Ent} (ha : ascE l) (hs : e.stem ∉ stems l) : ascE (insE e l) := by
  have hl := less_from e.stem l
  have h2 : ascE (lessE e.stem l ++ fromE e.stem l) := by rw [hl]; exact ha
  obtain ⟨p1, p2, p3⟩ := List.pairwise_append.1 h2
  refine List.pairwise_append.2 ⟨p1, List.pairwise_cons.2 ⟨fromE_all ha hs, p2⟩, fun x hx y hy => ?_⟩
  rcases List.mem_cons.1 hy with rfl | hy
  · exact lessE_all _ _ x hx
  · exact p3 x hx y hy
theorem stems_perm {a b : List Ent} (h : a.Perm b) (s : ByteArray) : s ∈ stems a ↔ s ∈ stems b := (h.map _).mem_iff
theorem insAll_ok : ∀ (r l : List Ent), ascE r → ascE l → (∀ e ∈ r, e.stem ∉ stems l) → ascE (insAll r l) ∧ (insAll r l).Perm (l ++ r)
  | [], l, _, h, _ => ⟨h, by simp [insAll]⟩
  | e :: r, l, hr, hl, hd => by
    have hp := List.pairwise_cons.1 hr
    have h1 := insE_asc hl (hd e List.mem_cons_self)
    have h2 := insE_perm e l
    obtain ⟨i1, i2⟩ := insAll_ok r (insE e l) hp.2 h1 (fun x hx hm => by
      rw [stems_perm h2] at hm
      rcases List.mem_cons.1 hm with h | h
      · have := hp.1 x hx
        rw [← h, bLess_irr] at this; cases this
      · exact hd x (List.mem_cons_of_mem _ hx) h)
    refine ⟨i1, i2.trans ((h2.append_right r).trans ?_)⟩
    rw [List.cons_append]
    exact List.perm_middle.symm
def doneM (es : List Ent) (d : Del) : List Ent := insAll d.comes (keepM es d)
theorem keep_no {es : List Ent} {d : Del} : ∀ e ∈ d.comes, e.stem ∉ stems (keepM es d) := fun e he hm => by
  obtain ⟨x, hx, hxe⟩ := List.mem_map.1 hm
  have h2 := (List.mem_filter.1 hx).2
  have : x.stem ∈ stems d.comes := by rw [hxe]; exact List.mem_map_of_mem he
  simp [this] at h2
theorem delB_comes {d : Del} (h : delB d = true) : ascE d.comes := by
  simp only [delB, entsB, Bool.and_eq_true] at h
  exact entsL_asc h.2.1.1
theorem doneM_ok {es : List Ent} {d : Del} (hs : ascE es) (hd : delB d = true) : ascE (doneM es d) ∧ (doneM es d).Perm (keepM es d ++ d.comes) :=
  insAll_ok d.comes (keepM es d) (delB_comes hd) (hs.filter _) keep_no
def prE (e : Ent) : ByteArray × ByteArray := (e.stem, e.flags)
theorem bless_lt (a b : ByteArray) : bLess a b = true ↔ a.toList < b.toList := by
  unfold bLess
  rw [Go.Proofs.bytesLess_eq]; simp
theorem stems_nodup {l : List Ent} (h : ascE l) : (stems l).Nodup := by
  have := stems_asc h
  exact this.imp (fun hl he => by rw [he, bLess_irr] at hl; cases hl)
theorem sorted_done {l d : List Ent} (ha : ascE d) (hp : d.Perm l) : sortE (l.map prE) = d.map prE := by
  refine (sortE_of ?_ (hp.symm.map _) ?_).symm
  · rw [List.map_map]
    exact ((hp.map Ent.stem).nodup_iff).1 (stems_nodup ha)
  · rw [List.pairwise_map]
    refine ha.imp fun {x y} h => ?_
    rw [lt_cmpE]
    have h1 := (bless_lt x.stem y.stem).1 h
    have h2 : ¬ y.stem.toList < x.stem.toList := Std.not_lt.2 (Std.le_of_lt h1)
    simp [prE, h2]
theorem sortFunc_val {l d : List Ent} (ha : ascE d) (hp : d.Perm l) (hl : l.length < 1000000000) (N : Nat) : slices_SortFunc_impl_Entry.f N [entsP l, .sc (.func (.func 168) #[] #[])] = some [entsP d] := by
  have hk : (((l.map entP).map toEnt3).map Prod.fst).Nodup := by
    rw [List.map_map, List.map_map]
    exact ((hp.map Ent.stem).nodup_iff).1 (stems_nodup ha)
  have e1 : (l.map entP).map toEnt3 = l.map prE := by rw [List.map_map]; rfl
  have e2 : (d.map prE).map ent3P = d.map entP := by rw [List.map_map]; rfl
  simp only [slices_SortFunc_impl_Entry.f, entsP]
  rw [if_pos ⟨rfl, by simp <;> omega, hk⟩, e1, sorted_done ha hp, e2]
theorem c_one (c : UInt8) : (ByteArray.mk #[c]).size = 1 := rfl
theorem c_zero : (ByteArray.mk #[]).size = 0 := rfl
theorem c_front : (ByteArray.mk #[102, 114, 111, 110, 116]).size = 5 := rfl
theorem c_end : (ByteArray.mk #[101, 110, 100]).size = 3 := rfl
theorem c_aff : (ByteArray.mk #[97, 102, 102, 105, 120, 101, 115, 10]).size = 8 := rfl
theorem c_rel : (ByteArray.mk #[114, 101, 108, 101, 97, 115, 101, 32]).size = 8 := rfl
theorem byte_assoc (a b c : ByteArray) : (a ++ b) ++ c = a ++ (b ++ c) := ByteArray.append_assoc
theorem ba_nil (x : ByteArray) : ByteArray.mk #[] ++ x = x := by
  apply ByteArray.ext; simp [ByteArray.data_append]
structure AffW (a : Aff) : Prop where
  flag : a.flag.size ≤ 10
  strip : a.strip.size ≤ 10
  add : a.add.size ≤ 10
  cond : a.cond.size ≤ 10
structure EntW (e : Ent) : Prop where
  stem : e.stem.size ≤ 20
  flags : e.flags.size ≤ 20
theorem affW_of {a : Aff} (h : affB a = true) : AffW a := by
  obtain ⟨-, h1, h2, h3, h4⟩ := affB_facts h
  exact ⟨by omega, by omega, by omega, by omega⟩
theorem entW_of {e : Ent} (h : entB e = true) : EntW e := by
  obtain ⟨-, h2, h3⟩ := entB_facts h
  exact ⟨by omega, by omega⟩
theorem affText_size {a : Aff} (h : AffW a) : (affText a).size ≤ 60 := by
  have h1 := h.flag; have h2 := h.strip; have h3 := h.add; have h4 := h.cond
  unfold affText
  cases a.front <;> simp only [app_size, c_one, c_front, c_end, if_true, if_false, Bool.false_eq_true] <;> omega
theorem entText_size {e : Ent} (h : EntW e) : (entText e).size ≤ 60 := by
  have h1 := h.stem; have h2 := h.flags
  unfold entText
  split
  · omega
  · simp only [app_size, c_one]; omega
theorem affPut_val {a : Aff} (h : AffW a) (N : Nat) : spec_l2AffixPut.f N [affP a] = some [strP (affText a)] := by
  have h1 := h.flag; have h2 := h.strip; have h3 := h.add; have h4 := h.cond
  cases hf : a.front
  · simp only [spec_l2AffixPut.f_eq, aff_f0, aff_f1, aff_f2, aff_f3, aff_f4, hf, stk, Int.reduceEq, Nat.reduceEqDiff, Int.reduceLE, Int.reduceLT]
    simp (disch := omega) only [app_size, c_one, c_end, if_pos]
    simp only [affText, hf, Bool.false_eq_true, if_false]
  · simp only [spec_l2AffixPut.f_eq, aff_f0, aff_f1, aff_f2, aff_f3, aff_f4, hf, stk, Int.reduceEq, Nat.reduceEqDiff, Int.reduceLE, Int.reduceLT]
    simp (disch := omega) only [app_size, c_one, c_front, if_pos]
    simp only [affText, hf, if_true]
theorem entPut_val {e : Ent} (h : EntW e) (N : Nat) : spec_l2EntryPut.f N [entP e] = some [strP (entText e)] := by
  have h1 := h.stem; have h2 := h.flags
  by_cases hf : e.flags = ByteArray.mk #[]
  · simp only [spec_l2EntryPut.f_eq, ent_f0, ent_f1, hf, entText, stk, Int.reduceEq, Nat.reduceEqDiff, Int.reduceLE, Int.reduceLT]
  · simp only [spec_l2EntryPut.f_eq, ent_f0, ent_f1, hf, stk, Int.reduceEq, Nat.reduceEqDiff, Int.reduceLE, Int.reduceLT]
    simp (disch := omega) only [app_size, c_one, if_pos]
    simp only [entText, hf, if_false]
theorem join_five (k a b c d : ByteArray) : joinB [k, a, b, c, d] (ByteArray.mk #[32]) = k ++ ByteArray.mk #[32] ++ a ++ ByteArray.mk #[32] ++ b ++ ByteArray.mk #[32] ++ c ++ ByteArray.mk #[32] ++ d := by
  apply ByteArray.ext
  apply Array.ext'
  simp [joinB, Lib.join, List.intercalate, ByteArray.data_append]
theorem join_val (k a b c d : ByteArray) (h : k.size + a.size + b.size + c.size + d.size ≤ 1000000) (N : Nat) :
    strings_Join.f N [PV.list [PV.sc (.string k), PV.sc (.string a), PV.sc (.string b), PV.sc (.string c), PV.sc (.string d)], PV.sc (.string (ByteArray.mk #[32]))] = some [strP (k ++ ByteArray.mk #[32] ++ a ++ ByteArray.mk #[32] ++ b ++ ByteArray.mk #[32] ++ c ++ ByteArray.mk #[32] ++ d)] := by
  have e : joinDen [PV.list [PV.sc (.string k), PV.sc (.string a), PV.sc (.string b), PV.sc (.string c), PV.sc (.string d)], PV.sc (.string (ByteArray.mk #[32]))] = if ([PV.sc (.string k), PV.sc (.string a), PV.sc (.string b), PV.sc (.string c), PV.sc (.string d)] : List PV).length ≤ 140737488355328 ∧ (joinB [k, a, b, c, d] (ByteArray.mk #[32])).size ≤ 140737488355328 then some [strP (joinB [k, a, b, c, d] (ByteArray.mk #[32]))] else none := rfl
  unfold strings_Join.f
  rw [e, join_five, if_pos ⟨by simp, by simp only [app_size, c_one]; omega⟩]
theorem affLine_val {a : Aff} (h : AffW a) (N : Nat) : impl_affixLine.f N [affP a] = some [strP (affText a ++ nl)] := by
  have h1 := h.flag; have h2 := h.strip; have h3 := h.add; have h4 := h.cond
  have hz := affText_size h
  cases hf : a.front
  · have hj := join_val (ByteArray.mk #[101, 110, 100]) a.flag a.strip a.add a.cond (by rw [c_end]; omega) N
    simp only [impl_affixLine.f_eq, aff_f0, aff_f1, aff_f2, aff_f3, aff_f4, hf, hj, stk, Int.reduceEq, Nat.reduceEqDiff, Int.reduceLE, Int.reduceLT]
    simp (disch := omega) only [app_size, c_one, c_end, if_pos]
    simp only [affText, nl, hf, Bool.false_eq_true, if_false]
  · have hj := join_val (ByteArray.mk #[102, 114, 111, 110, 116]) a.flag a.strip a.add a.cond (by rw [c_front]; omega) N
    simp only [impl_affixLine.f_eq, aff_f0, aff_f1, aff_f2, aff_f3, aff_f4, hf, hj, stk, Int.reduceEq, Nat.reduceEqDiff, Int.reduceLE, Int.reduceLT]
    simp (disch := omega) only [app_size, c_one, c_front, if_pos]
    simp only [affText, nl, hf, if_true]
theorem entLine_val {e : Ent} (h : EntW e) (N : Nat) : impl_entryLine.f N [entP e] = some [strP (entText e ++ nl)] := by
  have h1 := h.stem; have h2 := h.flags
  by_cases hf : e.flags = ByteArray.mk #[]
  · simp only [impl_entryLine.f_eq, ent_f0, ent_f1, hf, stk, Int.reduceEq, Nat.reduceEqDiff, Int.reduceLE, Int.reduceLT]
    simp (disch := omega) only [c_one, if_pos]
    simp only [entText, nl, hf, if_true]
  · simp only [impl_entryLine.f_eq, ent_f0, ent_f1, hf, stk, Int.reduceEq, Nat.reduceEqDiff, Int.reduceLE, Int.reduceLT]
    simp (disch := omega) only [app_size, c_one, if_pos]
    simp only [entText, nl, hf, if_false]
theorem nl_size : nl.size = 1 := rfl
def bookT (af : List Aff) (es : List Ent) : ByteArray := catE ⟨#[]⟩ es (catA af ⟨#[]⟩)
theorem specPutB_l1 {af : List Aff} {es : List Ent} (hw : ∀ e ∈ es, EntW e) (hl : es.length ≤ 1000) : ∀ (rest pre : List Ent) (acc : ByteArray), es = pre ++ rest → acc.size + 100 * rest.length ≤ 1000000 →
    Ev2 (fun N n => spec_l2Put.l1 N n acc (pre.length : Int) (affsP af) (entsP es)) [strP (catE ⟨#[]⟩ rest acc)] := by
  intro rest
  induction rest with
  | nil =>
    intro pre acc hp _
    refine Ev2.succ ?_
    simp only [spec_l2Put.l1_eq, ents_len, at_end hp, catE, stk, Int.reduceEq, Nat.reduceEqDiff, Int.reduceLE, Int.reduceLT]
    exact Ev2.now _
  | cons e rest ih =>
    intro pre acc hp hz
    have he := hw e (by rw [hp]; simp)
    have hs := entText_size he
    rw [List.length_cons] at hz
    refine Ev2.succ ?_
    simp only [spec_l2Put.l1_eq, ents_len, ents_elem hp, at_lt hp, at_next hp (by omega), ent_f0, ent_f1, ent_agg, entPut_val he, catE, ba_nil, stk, Int.reduceEq, Nat.reduceEqDiff, Int.reduceLE, Int.reduceLT]
    simp (disch := omega) only [app_size, c_one, if_pos]
    have := ih (pre ++ [e]) (acc ++ (entText e ++ nl)) (at_step hp) (by simp only [app_size, nl_size]; omega)
    rw [← byte_assoc] at this ⊢
    exact this
theorem specPutB_l0 {af : List Aff} {es : List Ent} (ha : ∀ a ∈ af, AffW a) (hal : af.length ≤ 1000) (hw : ∀ e ∈ es, EntW e) (hl : es.length ≤ 1000) : ∀ (rest pre : List Aff) (acc : ByteArray), af = pre ++ rest → acc.size + 100 * rest.length + 100 * es.length ≤ 1000000 →
    Ev2 (fun N n => spec_l2Put.l0 N n acc (pre.length : Int) (affsP af) (entsP es)) [strP (catE ⟨#[]⟩ es (catA rest acc))] := by
  intro rest
  induction rest with
  | nil =>
    intro pre acc hp hz
    refine Ev2.succ ?_
    simp only [spec_l2Put.l0_eq, affs_len, at_end hp, catA, stk, Int.reduceEq, Nat.reduceEqDiff, Int.reduceLE, Int.reduceLT]
    exact (specPutB_l1 (af := af) hw hl es [] acc rfl (by simp only [List.length_nil] at hz; omega)).after
  | cons a rest ih =>
    intro pre acc hp hz
    have he := ha a (by rw [hp]; simp)
    have hs := affText_size he
    rw [List.length_cons] at hz
    refine Ev2.succ ?_
    simp only [spec_l2Put.l0_eq, affs_len, affs_elem hp, at_lt hp, at_next hp (by omega), aff_f0, aff_f1, aff_f2, aff_f3, aff_f4, aff_agg, affPut_val he, catA, stk, Int.reduceEq, Nat.reduceEqDiff, Int.reduceLE, Int.reduceLT]
    simp (disch := omega) only [app_size, c_one, if_pos]
    have := ih (pre ++ [a]) (acc ++ (affText a ++ nl)) (at_step hp) (by simp only [app_size, nl_size]; omega)
    rw [← byte_assoc] at this ⊢
    exact this
structure SmallB (af : List Aff) (es : List Ent) : Prop where
  a : ∀ a ∈ af, AffW a
  al : af.length ≤ 1000
  e : ∀ e ∈ es, EntW e
  el : es.length ≤ 1000
theorem smallB_of {af : List Aff} {es : List Ent} (h : bookB af es = true) : SmallB af es := by
  have f := bookB_facts h
  have h1 := f.al; have h2 := f.el
  exact ⟨fun a ha => affW_of (f.good a ha), by omega, fun e he => entW_of (f.ent e he), by omega⟩
theorem specPutB_ev {af : List Aff} {es : List Ent} (h : SmallB af es) : Ev (fun N => spec_l2Put.f N [bookP af es]) [strP (bookT af es)] := by
  have h1 := h.al; have h2 := h.el
  simp only [spec_l2Put.f_eq, book_f0, book_f1]
  exact (specPutB_l0 h.a h.al h.e h.el af [] ⟨#[]⟩ rfl (by rw [c_zero]; omega)).diag
theorem implPutB_l1 {es : List Ent} (hw : ∀ e ∈ es, EntW e) (hl : es.length ≤ 1000) : ∀ (rest pre : List Ent) (acc : ByteArray), es = pre ++ rest → acc.size + 100 * rest.length ≤ 1000000 →
    Ev2 (fun N n => impl_BookPut.l1 N n acc (entsP es) (es.length : Int) (pre.length : Int)) [strP (catE ⟨#[]⟩ rest acc)] := by
  intro rest
  induction rest with
  | nil =>
    intro pre acc hp _
    refine Ev2.succ ?_
    simp only [impl_BookPut.l1_eq, ents_len, at_end hp, catE, stk, Int.reduceEq, Nat.reduceEqDiff, Int.reduceLE, Int.reduceLT]
    exact Ev2.now _
  | cons e rest ih =>
    intro pre acc hp hz
    have he := hw e (by rw [hp]; simp)
    have hs := entText_size he
    rw [List.length_cons] at hz
    refine Ev2.succ ?_
    simp only [impl_BookPut.l1_eq, ents_len, ents_elem hp, at_lt hp, at_next hp (by omega), ent_f0, ent_f1, ent_agg, entLine_val he, catE, ba_nil, stk, Int.reduceEq, Nat.reduceEqDiff, Int.reduceLE, Int.reduceLT]
    simp (disch := omega) only [app_size, nl_size, if_pos]
    exact ih (pre ++ [e]) (acc ++ (entText e ++ nl)) (at_step hp) (by simp only [app_size, nl_size]; omega)
theorem implPutB_l0 {af : List Aff} {es : List Ent} (ha : ∀ a ∈ af, AffW a) (hal : af.length ≤ 1000) (hw : ∀ e ∈ es, EntW e) (hl : es.length ≤ 1000) : ∀ (rest pre : List Aff) (acc : ByteArray), af = pre ++ rest → acc.size + 100 * rest.length + 100 * es.length ≤ 1000000 →
    Ev2 (fun N n => impl_BookPut.l0 N n acc (affsP af) (af.length : Int) (pre.length : Int) (affsP af) (entsP es)) [strP (catE ⟨#[]⟩ es (catA rest acc))] := by
  intro rest
  induction rest with
  | nil =>
    intro pre acc hp hz
    refine Ev2.succ ?_
    simp only [impl_BookPut.l0_eq, affs_len, ents_len, at_end hp, catA, stk, Int.reduceEq, Nat.reduceEqDiff, Int.reduceLE, Int.reduceLT]
    exact (implPutB_l1 hw hl es [] acc rfl (by simp only [List.length_nil] at hz; omega)).after
  | cons a rest ih =>
    intro pre acc hp hz
    have he := ha a (by rw [hp]; simp)
    have hs := affText_size he
    rw [List.length_cons] at hz
    refine Ev2.succ ?_
    simp only [impl_BookPut.l0_eq, affs_len, affs_elem hp, at_lt hp, at_next hp (by omega), aff_f0, aff_f1, aff_f2, aff_f3, aff_f4, aff_agg, affLine_val he, catA, stk, Int.reduceEq, Nat.reduceEqDiff, Int.reduceLE, Int.reduceLT]
    simp (disch := omega) only [app_size, nl_size, if_pos]
    exact ih (pre ++ [a]) (acc ++ (affText a ++ nl)) (at_step hp) (by simp only [app_size, nl_size]; omega)
theorem implPutB_ev {af : List Aff} {es : List Ent} (hS : BookS af es) (h : bookB af es = true) : Ev (fun N => impl_BookPut.f N [bookP af es]) [strP (bookT af es)] := by
  have hs := smallB_of h
  have h1 := hs.al; have h2 := hs.el
  simp only [impl_BookPut.f_eq, book_f0, book_f1, book_agg, affs_len]
  refine Ev.bind (implBookOk_ev hS) ?_
  simp only [h, stk, Int.reduceEq, Nat.reduceEqDiff, Int.reduceLE, Int.reduceLT]
  exact (implPutB_l0 hs.a hs.al hs.e hs.el af [] ⟨#[]⟩ rfl (by rw [c_zero]; omega)).diag
theorem catE_size (p : ByteArray) : ∀ (l : List Ent) (acc : ByteArray), p.size ≤ 1 → (∀ e ∈ l, EntW e) → (catE p l acc).size ≤ acc.size + 62 * l.length
  | [], acc, _, _ => by simp [catE]
  | e :: r, acc, hp, hw => by
    have h1 := catE_size p r (acc ++ (p ++ (entText e ++ nl))) hp (fun x hx => hw x (List.mem_cons_of_mem _ hx))
    have h2 := entText_size (hw e List.mem_cons_self)
    simp only [app_size, nl_size] at h1
    rw [catE, List.length_cons]; omega
theorem catA_size : ∀ (l : List Aff) (acc : ByteArray), (∀ a ∈ l, AffW a) → (catA l acc).size ≤ acc.size + 62 * l.length
  | [], acc, _ => by simp [catA]
  | e :: r, acc, hw => by
    have h1 := catA_size r (acc ++ (affText e ++ nl)) (fun x hx => hw x (List.mem_cons_of_mem _ hx))
    have h2 := affText_size (hw e List.mem_cons_self)
    simp only [app_size, nl_size] at h1
    rw [catA, List.length_cons]; omega
theorem bookT_size {af : List Aff} {es : List Ent} (h : SmallB af es) : (bookT af es).size ≤ 200000 := by
  have h1 := catE_size ⟨#[]⟩ es (catA af ⟨#[]⟩) (by rw [c_zero]; omega) h.e
  have h2 := catA_size af ⟨#[]⟩ h.a
  have h3 := h.al; have h4 := h.el
  rw [c_zero] at h2
  unfold bookT; omega
structure DelS (d : Del) : Prop where
  gl : d.goes.length ≤ 1000000000
  g : ∀ s ∈ d.goes, s.size ≤ 1000000000
  cl : d.comes.length ≤ 1000000000
  c : ∀ e ∈ d.comes, EntS e
  ll : d.list.length ≤ 1000000000
  l : ∀ a ∈ d.list, AffS a
theorem del_agg (d : Del) : PV.agg [strsP d.goes, entsP d.comes, PV.sc (.bool d.aff), affsP d.list] = delP d := rfl
theorem atE_iff (es : List Ent) (s : ByteArray) : decide (0 ≤ atE s ((es.map entP).map toEnt2)) = decide (s ∈ stems es) := by
  unfold atE
  rw [Lib.idxBy_nonneg_iff, List.map_map]
  apply Bool.eq_iff_iff.2
  rw [List.any_eq_true, decide_eq_true_eq]
  constructor
  · rintro ⟨x, hx, he⟩
    obtain ⟨e, h1, rfl⟩ := List.mem_map.1 hx
    have : e.stem = s := toList_inj.1 (by simpa [toEnt2, entP, PV.fld, PV.parts, PV.toStr, strP] using he)
    exact this ▸ List.mem_map_of_mem h1
  · intro h
    obtain ⟨e, h1, rfl⟩ := List.mem_map.1 h
    exact ⟨_, List.mem_map_of_mem h1, by simp [toEnt2, entP, PV.fld, PV.parts, PV.toStr, strP]⟩
theorem entryAt_val (es : List Ent) (s : ByteArray) (h : es.length ≤ 1000000000) (N : Nat) : ∃ r : Int, impl_entryAt.f N [entsP es, PV.sc (.string s)] = some [intP r] ∧ (0 ≤ r ↔ s ∈ stems es) ∧ (r < 0 ↔ ¬ s ∈ stems es) := by
  have h1 : 0 ≤ atE s ((es.map entP).map toEnt2) ↔ s ∈ stems es := by
    have := atE_iff es s
    rwa [decide_eq_decide] at this
  refine ⟨atE s ((es.map entP).map toEnt2), ?_, h1, ?_⟩
  · have : (es.map entP).length ≤ 9223372036854775807 := by rw [List.length_map]; omega
    simp only [impl_entryAt.f, entsP]
    rw [if_pos this]
  · rw [← h1]; omega
def noneIn (l : List ByteArray) (es : List Ent) : Bool := l.all fun g => !decide (g ∈ stems es)
theorem noneIn_cons (g : ByteArray) (l : List ByteArray) (es : List Ent) : noneIn (g :: l) es = (!decide (g ∈ stems es) && noneIn l es) := rfl
theorem delB_eq (d : Del) : delB d = (wordsM d.goes 24 && (entsB d.comes && (affsB d.list && ((d.aff || decide (d.list.length = 0)) && noneIn d.goes d.comes)))) := rfl
theorem implDeltaOk_l0 {d : Del} (hs : DelS d) : ∀ (rest pre : List ByteArray), d.goes = pre ++ rest →
    Ev2 (fun N n => impl_DeltaOk.l0 N n (strsP d.goes) (d.goes.length : Int) (pre.length : Int) (strsP d.goes) (entsP d.comes) d.aff (affsP d.list)) [boolP (noneIn rest d.comes)] := by
  have hcl := hs.cl; have hgl := hs.gl
  intro rest
  induction rest with
  | nil =>
    intro pre hp
    refine Ev2.succ ?_
    simp only [impl_DeltaOk.l0_eq, at_end hp, stk, Int.reduceEq, Nat.reduceEqDiff, Int.reduceLE, Int.reduceLT]
    exact Ev2.now _
  | cons g rest ih =>
    intro pre hp
    refine Ev2.succ ?_
    refine Ev2.congr (g' := fun N n => if g ∈ stems d.comes then some [boolP false] else impl_DeltaOk.l0 N n (strsP d.goes) (d.goes.length : Int) ((pre ++ [g]).length : Int) (strsP d.goes) (entsP d.comes) d.aff (affsP d.list)) (fun N n => ?_) ?_
    · obtain ⟨r, h1, h2, -⟩ := entryAt_val d.comes g hcl N
      simp only [impl_DeltaOk.l0_eq, at_lt hp, at_getD hp, at_next hp (by omega), h1, h2, stk, Int.reduceEq, Nat.reduceEqDiff, Int.reduceLE, Int.reduceLT]
    · rw [noneIn_cons]
      by_cases hm : g ∈ stems d.comes
      · simp only [hm, stk, Int.reduceEq, Nat.reduceEqDiff, Int.reduceLE, Int.reduceLT]; exact Ev2.now _
      · simp only [hm, stk, Int.reduceEq, Nat.reduceEqDiff, Int.reduceLE, Int.reduceLT]; exact ih _ (at_step hp)
theorem implDeltaOk_ev {d : Del} (hs : DelS d) : Ev (fun N => impl_DeltaOk.f N [delP d]) [boolP (delB d)] := by
  have hgl := hs.gl
  have h1 := implWords_ev d.goes 24 (by omega) (fun s h => by have := hs.g s h; omega)
  have h2 := (implEnts_loop hs.cl hs.c d.comes [] none rfl (.inl ⟨rfl, rfl⟩)).diag
  have h3 := implAffs_ev d.list hs.ll hs.l
  have h4 := (implDeltaOk_l0 hs d.goes [] rfl).diag
  have h2' : Ev (fun N => impl_entriesOk.f N [entsP d.comes]) [boolP (entsB d.comes)] := by
    simp only [impl_entriesOk.f_eq, ents_len]; exact h2
  simp only [impl_DeltaOk.f_eq, del_f0, del_f1, del_f2, del_f3, delB_eq, affs_len]
  refine Ev.bind h1 ?_
  cases e1 : wordsM d.goes 24 with
  | false => simp only [stk, Int.reduceEq, Nat.reduceEqDiff, Int.reduceLE, Int.reduceLT]; exact Ev.now _
  | true =>
    simp only [stk, Int.reduceEq, Nat.reduceEqDiff, Int.reduceLE, Int.reduceLT]
    refine Ev.bind h2' ?_
    cases e2 : entsB d.comes with
    | false => simp only [stk, Int.reduceEq, Nat.reduceEqDiff, Int.reduceLE, Int.reduceLT]; exact Ev.now _
    | true =>
      simp only [stk, Int.reduceEq, Nat.reduceEqDiff, Int.reduceLE, Int.reduceLT]
      refine Ev.bind h3 ?_
      cases e3 : affsB d.list with
      | false => simp only [stk, Int.reduceEq, Nat.reduceEqDiff, Int.reduceLE, Int.reduceLT]; exact Ev.now _
      | true =>
        cases e4 : d.aff with
        | true => rw [e4] at h4; simp only [Bool.true_or, stk, Int.reduceEq, Nat.reduceEqDiff, Int.reduceLE, Int.reduceLT]; exact h4
        | false =>
          rw [e4] at h4
          by_cases h0 : d.list.length = 0
          · have c : ((0 : Int) < (d.list.length : Int)) = False := fls (by omega)
            have h0' : decide (d.list.length = 0) = true := by simp [h0]
            simp only [Bool.false_or, h0', c, stk, Int.reduceEq, Nat.reduceEqDiff, Int.reduceLE, Int.reduceLT]
            exact h4
          · have c : ((0 : Int) < (d.list.length : Int)) = True := tru (by omega)
            have h0' : decide (d.list.length = 0) = false := by simp [h0]
            simp only [Bool.false_or, h0', c, stk, Int.reduceEq, Nat.reduceEqDiff, Int.reduceLE, Int.reduceLT]
            exact Ev.now _
def goB (es : List Ent) : Option ByteArray → List ByteArray → Bool
  | _, [] => true
  | none, g :: r => isWord g && (!decide (g ∈ stems es) && goB es (some g) r)
  | some q, g :: r => isWord g && (bLess q g && (!decide (g ∈ stems es) && goB es (some g) r))
theorem goB_eq (es : List Ent) : ∀ (l : List ByteArray) (p : Option ByteArray), goB es p l = (ascW p l && noneIn l es)
  | [], p => by cases p <;> rfl
  | g :: r, none => by
    rw [goB, ascW, noneIn_cons, goB_eq es r]
    cases isWord g <;> cases decide (g ∈ stems es) <;> cases ascW (some g) r <;> rfl
  | g :: r, some q => by
    rw [goB, ascW, noneIn_cons, goB_eq es r]
    cases isWord g <;> cases bLess q g <;> cases decide (g ∈ stems es) <;> cases ascW (some g) r <;> rfl
def tailB (d : Del) : Bool := decide ((d.goes.length : Int) ≤ 24) && (entsB d.comes && (affsB d.list && (d.aff || decide (d.list.length = 0))))
theorem delB_spec (d : Del) : (goB d.comes none d.goes && tailB d) = delB d := by
  rw [goB_eq, delB_eq, tailB, wordsM]
  cases ascW none d.goes <;> cases noneIn d.goes d.comes <;> cases decide ((d.goes.length : Int) ≤ 24) <;> cases entsB d.comes <;> cases affsB d.list <;> cases (d.aff || decide (d.list.length = 0)) <;> rfl
theorem specEntries_ev {es : List Ent} (hl : es.length ≤ 1000000000) (hs : ∀ e ∈ es, EntS e) : Ev (fun N => spec_l5Entries.f N [entsP es]) [boolP (entsB es)] := by
  have h := specBookOk_ev (af := []) (es := es) ⟨by simp, hl, fun a h => (by cases h), hs⟩
  have e : PV.agg [PV.list [], entsP es] = bookP [] es := rfl
  simp only [spec_l5Entries.f_eq, e]
  refine Ev.bind h ?_
  have e2 : bookB [] es = entsB es := by
    have : affsB [] = true := rfl
    rw [bookB, this, Bool.true_and]; rfl
  simp only [e2, stk, Int.reduceEq, Nat.reduceEqDiff, Int.reduceLE, Int.reduceLT]
  exact Ev.now _
theorem specDeltaOk_l1 {d : Del} (hs : DelS d) {pre rest : List ByteArray} {g : ByteArray} (hp : d.goes = pre ++ g :: rest) {b : Bool}
    (hk : Ev2 (fun N m => spec_DeltaOk.l0 N m ((pre ++ [g]).length : Int) (strsP d.goes) (entsP d.comes) d.aff (affsP d.list)) [boolP b]) : ∀ (er ep : List Ent), d.comes = ep ++ er →
    Ev3 (fun N m n => spec_DeltaOk.l1 N m n (pre.length : Int) (ep.length : Int) (strsP d.goes) (entsP d.comes) d.aff (affsP d.list)) [boolP (!decide (g ∈ stems er) && b)] := by
  have hcl := hs.cl; have hgl := hs.gl
  intro er
  induction er with
  | nil =>
    intro ep he
    refine Ev3.succ ?_
    have : decide (g ∈ stems []) = false := rfl
    simp only [spec_DeltaOk.l1_eq, ents_len, at_end he, at_next hp (by omega), this, stk, Int.reduceEq, Nat.reduceEqDiff, Int.reduceLE, Int.reduceLT]
    exact hk.outer
  | cons e er ih =>
    intro ep he
    refine Ev3.succ ?_
    by_cases h : e.stem = g
    · have : decide (g ∈ stems (e :: er)) = true := by simp [stems, h]
      simp only [spec_DeltaOk.l1_eq, ents_len, ents_elem he, ent_f0, at_lt he, at_lt hp, at_getD hp, h, this, stk, Int.reduceEq, Nat.reduceEqDiff, Int.reduceLE, Int.reduceLT]
      exact Ev3.now _
    · have : decide (g ∈ stems (e :: er)) = decide (g ∈ stems er) := by
        rw [decide_eq_decide]
        show g ∈ e.stem :: stems er ↔ _
        rw [List.mem_cons]
        exact ⟨fun h2 => h2.resolve_left (fun h3 => h h3.symm), .inr⟩
      simp only [spec_DeltaOk.l1_eq, ents_len, ents_elem he, ent_f0, at_lt he, at_lt hp, at_getD hp, at_next he (by omega), h, this, stk, Int.reduceEq, Nat.reduceEqDiff, Int.reduceLE, Int.reduceLT]
      exact ih _ (at_step he)
theorem specDeltaOk_l0 {d : Del} (hs : DelS d) : ∀ (rest pre : List ByteArray) (p : Option ByteArray), d.goes = pre ++ rest → Ahead pre p →
    Ev2 (fun N n => spec_DeltaOk.l0 N n (pre.length : Int) (strsP d.goes) (entsP d.comes) d.aff (affsP d.list)) [boolP (goB d.comes p rest && tailB d)] := by
  have hcl := hs.cl; have hgl := hs.gl
  have h2 := specEntries_ev hs.cl hs.c
  have h3 := specAffs_ev d.list hs.ll hs.l
  intro rest
  induction rest with
  | nil =>
    intro pre p hp _
    have e0 : goB d.comes p [] = true := by cases p <;> rfl
    refine Ev2.succ ?_
    simp only [spec_DeltaOk.l0_eq, at_end hp, affs_len, e0, tailB, stk, Int.reduceEq, Nat.reduceEqDiff, Int.reduceLE, Int.reduceLT]
    by_cases c1 : (d.goes.length : Int) ≤ 24
    · simp only [c1, stk, Int.reduceEq, Nat.reduceEqDiff, Int.reduceLE, Int.reduceLT]
      refine Ev2.bind h2 ?_
      cases entsB d.comes with
      | false => simp only [stk, Int.reduceEq, Nat.reduceEqDiff, Int.reduceLE, Int.reduceLT]; exact Ev2.now _
      | true =>
        simp only [stk, Int.reduceEq, Nat.reduceEqDiff, Int.reduceLE, Int.reduceLT]
        refine Ev2.bind h3 ?_
        cases affsB d.list with
        | false => simp only [stk, Int.reduceEq, Nat.reduceEqDiff, Int.reduceLE, Int.reduceLT]; exact Ev2.now _
        | true =>
          cases d.aff with
          | true => simp only [Bool.true_or, stk, Int.reduceEq, Nat.reduceEqDiff, Int.reduceLE, Int.reduceLT]; exact Ev2.now _
          | false =>
            have : decide ((d.list.length : Int) = 0) = decide (d.list.length = 0) := by
              apply Bool.eq_iff_iff.2; simp
            simp only [Bool.false_or, this, stk, Int.reduceEq, Nat.reduceEqDiff, Int.reduceLE, Int.reduceLT]; exact Ev2.now _
    · simp only [c1, stk, Int.reduceEq, Nat.reduceEqDiff, Int.reduceLE, Int.reduceLT]; exact Ev2.now _
  | cons g rest ih =>
    intro pre p hp hA
    have hc : g.size ≤ 1000000000 := hs.g g (by rw [hp]; simp)
    have hw := specWord_ev g (by omega)
    have hn := (specDeltaOk_l1 hs hp (ih (pre ++ [g]) (some g) (at_step hp) (Ahead.next pre g)) d.comes [] rfl).start
    simp only [strP] at hw
    simp only [List.length_nil, Int.natCast_zero] at hn
    refine Ev2.succ ?_
    simp only [spec_DeltaOk.l0_eq, at_lt hp, at_getD hp, stk, Int.reduceEq, Nat.reduceEqDiff, Int.reduceLE, Int.reduceLT]
    refine Ev2.bind hw ?_
    simp only [stk, Int.reduceEq, Nat.reduceEqDiff, Int.reduceLE, Int.reduceLT]
    rcases hA with ⟨rfl, rfl⟩ | ⟨pre', q, rfl, rfl⟩
    · rw [goB]
      cases hw : isWord g with
      | false => simp only [stk, Int.reduceEq, Nat.reduceEqDiff, Int.reduceLE, Int.reduceLT]; exact Ev2.now _
      | true =>
        simp only [List.length_nil, Int.natCast_zero, Int.lt_irrefl, Bool.and_assoc, stk, Int.reduceEq, Nat.reduceEqDiff, Int.reduceLE, Int.reduceLT]
        exact hn
    · obtain ⟨h1, h2, h3, h4⟩ := at_prev hp (by omega)
      rw [goB]
      cases hw : isWord g with
      | false => simp only [stk, Int.reduceEq, Nat.reduceEqDiff, Int.reduceLE, Int.reduceLT]; exact Ev2.now _
      | true =>
        simp only [h4, h1, h2, h3, bLess_eq, stk, Int.reduceEq, Nat.reduceEqDiff, Int.reduceLE, Int.reduceLT]
        cases hb : bLess q g with
        | false => simp only [stk, Int.reduceEq, Nat.reduceEqDiff, Int.reduceLE, Int.reduceLT]; exact Ev2.now _
        | true => simp only [Bool.and_assoc, stk, Int.reduceEq, Nat.reduceEqDiff, Int.reduceLE, Int.reduceLT]; exact hn
theorem specDeltaOk_ev {d : Del} (hs : DelS d) : Ev (fun N => spec_DeltaOk.f N [delP d]) [boolP (delB d)] := by
  have := (specDeltaOk_l0 hs d.goes [] none rfl (.inl ⟨rfl, rfl⟩)).diag
  rw [delB_spec] at this
  simp only [spec_DeltaOk.f_eq, del_f0, del_f1, del_f2, del_f3]
  exact this
structure DelW (d : Del) : Prop where
  gl : d.goes.length ≤ 1000
  g : ∀ s ∈ d.goes, s.size ≤ 20
  cl : d.comes.length ≤ 1000
  c : ∀ e ∈ d.comes, EntW e
  ll : d.list.length ≤ 1000
  l : ∀ a ∈ d.list, AffW a
theorem delW_of {d : Del} (h : delB d = true) : DelW d := by
  simp only [delB, entsB, wordsM, affsB, Bool.and_eq_true, decide_eq_true_eq] at h
  obtain ⟨⟨h1, h2⟩, ⟨h3, h4⟩, ⟨h5, h6⟩, -, -⟩ := h
  refine ⟨by omega, fun s hs => ?_, by omega, fun e he => entW_of (entsL_all h3 e he), by omega, fun a ha => affW_of (affsL_all h5 a ha)⟩
  have := word_size ((ascW_none.1 h1).1 s hs)
  omega
def delT (d : Del) : ByteArray := catE ⟨#[43]⟩ d.comes (catG d.goes (catA d.list (if d.aff = true then ⟨#[97, 102, 102, 105, 120, 101, 115, 10]⟩ else ⟨#[]⟩)))
theorem specPutD_l2 {d : Del} (hw : DelW d) : ∀ (rest pre : List Ent) (acc : ByteArray), d.comes = pre ++ rest → acc.size + 100 * rest.length ≤ 1000000 →
    Ev2 (fun N n => spec_l5Put.l2 N n acc (pre.length : Int) (strsP d.goes) (entsP d.comes) d.aff (affsP d.list)) [strP (catE ⟨#[43]⟩ rest acc)] := by
  have hl := hw.cl
  intro rest
  induction rest with
  | nil =>
    intro pre acc hp _
    refine Ev2.succ ?_
    simp only [spec_l5Put.l2_eq, ents_len, at_end hp, catE, stk, Int.reduceEq, Nat.reduceEqDiff, Int.reduceLE, Int.reduceLT]
    exact Ev2.now _
  | cons e rest ih =>
    intro pre acc hp hz
    have he := hw.c e (by rw [hp]; simp)
    have hs := entText_size he
    rw [List.length_cons] at hz
    refine Ev2.succ ?_
    simp only [spec_l5Put.l2_eq, ents_len, ents_elem hp, at_lt hp, at_next hp (by omega), ent_f0, ent_f1, ent_agg, entPut_val he, catE, stk, Int.reduceEq, Nat.reduceEqDiff, Int.reduceLE, Int.reduceLT]
    simp (disch := omega) only [app_size, c_one, if_pos]
    have := ih (pre ++ [e]) (acc ++ (ByteArray.mk #[43] ++ (entText e ++ nl))) (at_step hp) (by simp only [app_size, nl_size, c_one]; omega)
    rw [← byte_assoc, ← byte_assoc] at this ⊢
    exact this
theorem specPutD_l1 {d : Del} (hw : DelW d) : ∀ (rest pre : List ByteArray) (acc : ByteArray), d.goes = pre ++ rest → acc.size + 100 * rest.length + 100 * d.comes.length ≤ 1000000 →
    Ev2 (fun N n => spec_l5Put.l1 N n acc (pre.length : Int) (strsP d.goes) (entsP d.comes) d.aff (affsP d.list)) [strP (catE ⟨#[43]⟩ d.comes (catG rest acc))] := by
  have hl := hw.gl
  intro rest
  induction rest with
  | nil =>
    intro pre acc hp hz
    refine Ev2.succ ?_
    simp only [spec_l5Put.l1_eq, at_end hp, catG, stk, Int.reduceEq, Nat.reduceEqDiff, Int.reduceLE, Int.reduceLT]
    exact (specPutD_l2 hw d.comes [] acc rfl (by simp only [List.length_nil] at hz; omega)).after
  | cons g rest ih =>
    intro pre acc hp hz
    have hs := hw.g g (by rw [hp]; simp)
    rw [List.length_cons] at hz
    refine Ev2.succ ?_
    simp only [spec_l5Put.l1_eq, at_lt hp, at_getD hp, at_next hp (by omega), catG, stk, Int.reduceEq, Nat.reduceEqDiff, Int.reduceLE, Int.reduceLT]
    simp (disch := omega) only [app_size, c_one, if_pos]
    have := ih (pre ++ [g]) (acc ++ (ByteArray.mk #[45] ++ g ++ nl)) (at_step hp) (by simp only [app_size, nl_size, c_one]; omega)
    rw [← byte_assoc, ← byte_assoc] at this ⊢
    exact this
theorem specPutD_l0 {d : Del} (hw : DelW d) : ∀ (rest pre : List Aff) (acc : ByteArray), d.list = pre ++ rest → acc.size + 100 * rest.length + 100 * d.goes.length + 100 * d.comes.length ≤ 1000000 →
    Ev2 (fun N n => spec_l5Put.l0 N n acc (pre.length : Int) (strsP d.goes) (entsP d.comes) d.aff (affsP d.list)) [strP (catE ⟨#[43]⟩ d.comes (catG d.goes (catA rest acc)))] := by
  have hl := hw.ll
  intro rest
  induction rest with
  | nil =>
    intro pre acc hp hz
    refine Ev2.succ ?_
    simp only [spec_l5Put.l0_eq, affs_len, at_end hp, catA, stk, Int.reduceEq, Nat.reduceEqDiff, Int.reduceLE, Int.reduceLT]
    exact (specPutD_l1 hw d.goes [] acc rfl (by simp only [List.length_nil] at hz; omega)).after
  | cons a rest ih =>
    intro pre acc hp hz
    have he := hw.l a (by rw [hp]; simp)
    have hs := affText_size he
    rw [List.length_cons] at hz
    refine Ev2.succ ?_
    simp only [spec_l5Put.l0_eq, affs_len, affs_elem hp, at_lt hp, at_next hp (by omega), aff_f0, aff_f1, aff_f2, aff_f3, aff_f4, aff_agg, affPut_val he, catA, stk, Int.reduceEq, Nat.reduceEqDiff, Int.reduceLE, Int.reduceLT]
    simp (disch := omega) only [app_size, c_one, if_pos]
    have := ih (pre ++ [a]) (acc ++ (affText a ++ nl)) (at_step hp) (by simp only [app_size, nl_size]; omega)
    rw [← byte_assoc] at this ⊢
    exact this
theorem specPutD_ev {d : Del} (hw : DelW d) : Ev (fun N => spec_l5Put.f N [delP d]) [strP (delT d)] := by
  have h1 := hw.gl; have h2 := hw.cl; have h3 := hw.ll
  unfold delT
  cases h : d.aff with
  | true =>
    have := (specPutD_l0 hw d.list [] ⟨#[97, 102, 102, 105, 120, 101, 115, 10]⟩ rfl (by rw [c_aff]; omega)).diag
    rw [h] at this
    simp only [spec_l5Put.f_eq, del_f0, del_f1, del_f2, del_f3, h, stk, Int.reduceEq, Nat.reduceEqDiff, Int.reduceLE, Int.reduceLT]
    exact this
  | false =>
    have := (specPutD_l0 hw d.list [] ⟨#[]⟩ rfl (by rw [c_zero]; omega)).diag
    rw [h] at this
    simp only [spec_l5Put.f_eq, del_f0, del_f1, del_f2, del_f3, h, stk, Int.reduceEq, Nat.reduceEqDiff, Int.reduceLE, Int.reduceLT]
    exact this
theorem implPutD_l2 {es : List Ent} (hw : ∀ e ∈ es, EntW e) (hl : es.length ≤ 1000) : ∀ (rest pre : List Ent) (acc : ByteArray), es = pre ++ rest → acc.size + 100 * rest.length ≤ 1000000 →
    Ev2 (fun N n => impl_DeltaPut.l2 N n acc (entsP es) (es.length : Int) (pre.length : Int)) [strP (catE ⟨#[43]⟩ rest acc)] := by
  intro rest
  induction rest with
  | nil =>
    intro pre acc hp _
    refine Ev2.succ ?_
    simp only [impl_DeltaPut.l2_eq, ents_len, at_end hp, catE, stk, Int.reduceEq, Nat.reduceEqDiff, Int.reduceLE, Int.reduceLT]
    exact Ev2.now _
  | cons e rest ih =>
    intro pre acc hp hz
    have he := hw e (by rw [hp]; simp)
    have hs := entText_size he
    rw [List.length_cons] at hz
    refine Ev2.succ ?_
    simp only [impl_DeltaPut.l2_eq, ents_len, ents_elem hp, at_lt hp, at_next hp (by omega), ent_f0, ent_f1, ent_agg, entLine_val he, catE, stk, Int.reduceEq, Nat.reduceEqDiff, Int.reduceLE, Int.reduceLT]
    simp (disch := omega) only [app_size, c_one, nl_size, if_pos]
    exact ih (pre ++ [e]) (acc ++ (ByteArray.mk #[43] ++ (entText e ++ nl))) (at_step hp) (by simp only [app_size, nl_size, c_one]; omega)
theorem implPutD_l1 {d : Del} (hw : DelW d) : ∀ (rest pre : List ByteArray) (acc : ByteArray), d.goes = pre ++ rest → acc.size + 100 * rest.length + 100 * d.comes.length ≤ 1000000 →
    Ev2 (fun N n => impl_DeltaPut.l1 N n acc (strsP d.goes) (d.goes.length : Int) (pre.length : Int) (strsP d.goes) (entsP d.comes) d.aff (affsP d.list)) [strP (catE ⟨#[43]⟩ d.comes (catG rest acc))] := by
  have hl := hw.gl
  intro rest
  induction rest with
  | nil =>
    intro pre acc hp hz
    refine Ev2.succ ?_
    simp only [impl_DeltaPut.l1_eq, ents_len, at_end hp, catG, stk, Int.reduceEq, Nat.reduceEqDiff, Int.reduceLE, Int.reduceLT]
    exact (implPutD_l2 hw.c hw.cl d.comes [] acc rfl (by simp only [List.length_nil] at hz; omega)).after
  | cons g rest ih =>
    intro pre acc hp hz
    have hs := hw.g g (by rw [hp]; simp)
    rw [List.length_cons] at hz
    refine Ev2.succ ?_
    simp only [impl_DeltaPut.l1_eq, at_lt hp, at_getD hp, at_next hp (by omega), catG, stk, Int.reduceEq, Nat.reduceEqDiff, Int.reduceLE, Int.reduceLT]
    simp (disch := omega) only [app_size, c_one, if_pos]
    exact ih (pre ++ [g]) (acc ++ (ByteArray.mk #[45] ++ g ++ nl)) (at_step hp) (by simp only [app_size, nl_size, c_one]; omega)
theorem implPutD_l0 {d : Del} (hw : DelW d) : ∀ (rest pre : List Aff) (acc : ByteArray), d.list = pre ++ rest → acc.size + 100 * rest.length + 100 * d.goes.length + 100 * d.comes.length ≤ 1000000 →
    Ev2 (fun N n => impl_DeltaPut.l0 N n acc (affsP d.list) (d.list.length : Int) (pre.length : Int) (strsP d.goes) (entsP d.comes) d.aff (affsP d.list)) [strP (catE ⟨#[43]⟩ d.comes (catG d.goes (catA rest acc)))] := by
  have hl := hw.ll
  intro rest
  induction rest with
  | nil =>
    intro pre acc hp hz
    refine Ev2.succ ?_
    simp only [impl_DeltaPut.l0_eq, affs_len, at_end hp, catA, stk, Int.reduceEq, Nat.reduceEqDiff, Int.reduceLE, Int.reduceLT]
    exact (implPutD_l1 hw d.goes [] acc rfl (by simp only [List.length_nil] at hz; omega)).after
  | cons a rest ih =>
    intro pre acc hp hz
    have he := hw.l a (by rw [hp]; simp)
    have hs := affText_size he
    rw [List.length_cons] at hz
    refine Ev2.succ ?_
    simp only [impl_DeltaPut.l0_eq, affs_len, affs_elem hp, at_lt hp, at_next hp (by omega), aff_f0, aff_f1, aff_f2, aff_f3, aff_f4, aff_agg, affLine_val he, catA, stk, Int.reduceEq, Nat.reduceEqDiff, Int.reduceLE, Int.reduceLT]
    simp (disch := omega) only [app_size, nl_size, if_pos]
    exact ih (pre ++ [a]) (acc ++ (affText a ++ nl)) (at_step hp) (by simp only [app_size, nl_size]; omega)
theorem implPutD_ev {d : Del} (hs : DelS d) (hb : delB d = true) : Ev (fun N => impl_DeltaPut.f N [delP d]) [strP (delT d)] := by
  have hw := delW_of hb
  have h1 := hw.gl; have h2 := hw.cl; have h3 := hw.ll
  have ho := implDeltaOk_ev hs
  unfold delT
  cases h : d.aff with
  | true =>
    have := (implPutD_l0 hw d.list [] ⟨#[97, 102, 102, 105, 120, 101, 115, 10]⟩ rfl (by rw [c_aff]; omega)).diag
    rw [h] at this
    have e := del_agg d
    rw [h] at e
    simp only [impl_DeltaPut.f_eq, del_f0, del_f1, del_f2, del_f3, affs_len, h, e, stk, Int.reduceEq, Nat.reduceEqDiff, Int.reduceLE, Int.reduceLT]
    refine Ev.bind ho ?_
    simp only [hb, stk, Int.reduceEq, Nat.reduceEqDiff, Int.reduceLE, Int.reduceLT]
    exact this
  | false =>
    have := (implPutD_l0 hw d.list [] ⟨#[]⟩ rfl (by rw [c_zero]; omega)).diag
    rw [h] at this
    have e := del_agg d
    rw [h] at e
    simp only [impl_DeltaPut.f_eq, del_f0, del_f1, del_f2, del_f3, affs_len, h, e, stk, Int.reduceEq, Nat.reduceEqDiff, Int.reduceLE, Int.reduceLT]
    refine Ev.bind ho ?_
    simp only [hb, stk, Int.reduceEq, Nat.reduceEqDiff, Int.reduceLE, Int.reduceLT]
    exact this
theorem catG_size : ∀ (l : List ByteArray) (acc : ByteArray), (∀ s ∈ l, s.size ≤ 20) → (catG l acc).size ≤ acc.size + 62 * l.length
  | [], acc, _ => by simp [catG]
  | e :: r, acc, hw => by
    have h1 := catG_size r (acc ++ (ByteArray.mk #[45] ++ e ++ nl)) (fun x hx => hw x (List.mem_cons_of_mem _ hx))
    have h2 := hw e List.mem_cons_self
    simp only [app_size, nl_size, c_one] at h1
    rw [catG, List.length_cons]; omega
theorem delT_size {d : Del} (hw : DelW d) : (delT d).size ≤ 200000 := by
  have h1 := catE_size ⟨#[43]⟩ d.comes (catG d.goes (catA d.list (if d.aff = true then ⟨#[97, 102, 102, 105, 120, 101, 115, 10]⟩ else ⟨#[]⟩))) (by rw [c_one]; omega) hw.c
  have h2 := catG_size d.goes (catA d.list (if d.aff = true then ⟨#[97, 102, 102, 105, 120, 101, 115, 10]⟩ else ⟨#[]⟩)) hw.g
  have h3 := catA_size d.list (if d.aff = true then ⟨#[97, 102, 102, 105, 120, 101, 115, 10]⟩ else ⟨#[]⟩) hw.l
  have h4 : (if d.aff = true then (⟨#[97, 102, 102, 105, 120, 101, 115, 10]⟩ : ByteArray) else ⟨#[]⟩).size ≤ 8 := by
    split
    · rw [c_aff]; omega
    · rw [c_zero]; omega
  have a1 := hw.gl; have a2 := hw.cl; have a3 := hw.ll
  unfold delT; omega
def isFig (c : Int) : Bool := decide ((48 ≤ c ∧ c ≤ 57) ∨ (97 ≤ c ∧ c ≤ 102))
def digB (s : ByteArray) : Bool := decide ((s.size : Int) = 64) && (bytesOf s).all isFig
theorem figure_val {c : Int} (N : Nat) : spec_l6Figure.f N [PV.sc (.int .u8 c)] = some [boolP (isFig c)] := by
  by_cases a1 : 48 ≤ c <;> by_cases a2 : c ≤ 57 <;> by_cases a3 : 97 ≤ c <;> by_cases a4 : c ≤ 102
  all_goals first
    | (exfalso; omega)
    | (simp only [spec_l6Figure.f_eq, toInt_sc, isFig, a1, a2, a3, a4, decide_true, decide_false, if_true, if_false, Bool.false_eq_true, Bool.true_eq_false, and_self, and_true, and_false, true_and, false_and, or_self, or_true, or_false, true_or, false_or])
theorem fig_mem (b : UInt8) : hexD.data.toList.contains b = isFig (b.toNat : Int) := by
  have key : ∀ n : Fin 256, hexD.data.toList.contains (UInt8.ofNat n.val) = isFig (((UInt8.ofNat n.val).toNat : Nat) : Int) := by decide
  have := key ⟨b.toNat, b.toNat_lt⟩
  simpa using this
theorem dw_nil {p : UInt8 → Bool} : ∀ {l : List UInt8}, l.dropWhile p = [] ↔ ∀ x ∈ l, p x = true
  | [] => by simp
  | a :: l => by
    cases h : p a with
    | true => rw [List.dropWhile_cons_of_pos h, dw_nil (l := l)]; simp [h]
    | false => rw [List.dropWhile_cons_of_neg (by rw [h]; simp)]; simp [h]
theorem dw_head {p : UInt8 → Bool} : ∀ {l : List UInt8} {a : UInt8} {r : List UInt8}, l.dropWhile p = a :: r → p a = false
  | [], _, _, h => by simp at h
  | b :: l, a, r, h => by
    cases hb : p b with
    | true => rw [List.dropWhile_cons_of_pos hb] at h; exact dw_head h
    | false =>
      rw [List.dropWhile_cons_of_neg (by rw [hb]; simp)] at h
      injection h with h1 h2
      rw [← h1]; exact hb
theorem trimS_nil (l cs : List UInt8) : Lib.trimS l cs = [] ↔ ∀ b ∈ l, cs.contains b = true := by
  unfold Lib.trimS Lib.trimLeftS Lib.trimRightS
  constructor
  · intro h
    rw [dw_nil] at h
    cases hd : l.reverse.dropWhile (cs.contains ·) with
    | nil =>
      rw [dw_nil] at hd
      intro b hb
      exact hd b (by simpa using hb)
    | cons a r =>
      exfalso
      have h1 : cs.contains a = true := h a (by rw [hd]; simp)
      have h2 := dw_head hd
      rw [h1] at h2; cases h2
  · intro h
    have : l.reverse.dropWhile (cs.contains ·) = [] := dw_nil.2 (fun b hb => h b (by simpa using hb))
    rw [this]; rfl
theorem trimBoth_iff (s : ByteArray) : decide (trimBoth s hexD = ByteArray.mk #[]) = (bytesOf s).all isFig := by
  apply Bool.eq_iff_iff.2
  rw [decide_eq_true_eq, List.all_eq_true]
  have e : trimBoth s hexD = ByteArray.mk #[] ↔ Lib.trimS s.data.toList hexD.data.toList = [] := by
    unfold trimBoth
    constructor
    · intro h
      have := congrArg (fun x : ByteArray => x.data.toList) h
      simpa using this
    · intro h; rw [h]
  rw [e, trimS_nil]
  constructor
  · intro h c hc
    obtain ⟨b, hb, rfl⟩ := List.mem_map.1 hc
    rw [← fig_mem]; exact h b hb
  · intro h b hb
    rw [fig_mem]
    exact h _ (List.mem_map_of_mem hb)
theorem digits_val (s : ByteArray) (N : Nat) : impl_digits.f N [PV.sc (.string s)] = some [boolP (digB s)] := by
  by_cases h : (s.size : Int) = 64
  · have ht : strings_Trim.f N [PV.sc (.string s), PV.sc (.string hexD)] = some [strP (trimBoth s hexD)] := by
      have e : trimBothDen [PV.sc (.string s), PV.sc (.string hexD)] = if hexD.data.toList.all (fun b => decide (b.toNat < 128)) = true then (if hexD.size < 4294967281 ∧ s.size ≤ 9223372036854775807 then some [strP (trimBoth s hexD)] else none) else none := rfl
      unfold strings_Trim.f
      rw [e, if_pos (by decide), if_pos ⟨by decide, by omega⟩]
    simp only [impl_digits.f_eq, hexD_eq, h, ht, digB, trimBoth_iff, stk, Int.reduceEq, Nat.reduceEqDiff, Int.reduceLE, Int.reduceLT]
  · simp only [impl_digits.f_eq, h, digB, stk, Int.reduceEq, Nat.reduceEqDiff, Int.reduceLE, Int.reduceLT]
def relT (n : Nat) (d : Del) (sum : ByteArray) : ByteArray := (((ByteArray.mk #[114, 101, 108, 101, 97, 115, 101, 32] ++ decB n) ++ ByteArray.mk #[32] ++ sum) ++ ByteArray.mk #[10]) ++ delT d
theorem relT_size {n : Nat} {d : Del} {sum : ByteArray} (hn : n < 1000000) (hw : DelW d) (hs : sum.size ≤ 64) : (relT n d sum).size ≤ 300000 := by
  have h1 := dec_size 6 n hn
  have h2 := delT_size hw
  unfold relT
  simp only [app_size, c_rel, c_one]; omega
structure Rel where
  num : Int
  del : Del
  sum : ByteArray
  sig : ByteArray
def relP (r : Rel) : PV := .agg [intP r.num, delP r.del, strP r.sum, strP r.sig]
theorem rel_f0 (r : Rel) : (relP r).fld 0 = intP r.num := rfl
theorem rel_f1 (r : Rel) : (relP r).fld 1 = delP r.del := rfl
theorem rel_f2 (r : Rel) : (relP r).fld 2 = strP r.sum := rfl
theorem rel_f3 (r : Rel) : (relP r).fld 3 = strP r.sig := rfl
theorem rel_agg (r : Rel) : PV.agg [PV.sc (.int .i64 r.num), delP r.del, PV.sc (.string r.sum), PV.sc (.string r.sig)] = relP r := rfl
def numB (n : Int) : Bool := decide (1 ≤ n ∧ n ≤ 999999)
theorem implRelText_ev {r : Rel} (hn : numB r.num = true) (hs : DelS r.del) (hb : delB r.del = true) (hz : r.sum.size ≤ 64) : Ev (fun N => impl_Release_text.f N [relP r]) [strP (relT r.num.toNat r.del r.sum)] := by
  simp only [numB, decide_eq_true_eq] at hn
  obtain ⟨n, hnn⟩ : ∃ n : Nat, r.num = (n : Int) := ⟨r.num.toNat, by omega⟩
  have hi : ∀ N, strconv_Itoa.f N [PV.sc (.int .i64 (n : Int))] = some [strP (decB n)] := fun N => by
    show itoaDen _ = _
    have : (-9223372036854775808 ≤ (n : Int) ∧ (n : Int) ≤ 9223372036854775807) := by omega
    simp only [itoaDen, if_pos this, itoa_dec]
  have hd := implPutD_ev hs hb
  have h1 := dec_size 6 n (by omega)
  have h2 := delT_size (delW_of hb)
  simp only [strP] at hi
  simp only [impl_Release_text.f_eq, rel_f0, rel_f1, rel_f2, del_f0, del_f1, del_f2, del_f3, hnn, hi, del_agg, stk, Int.reduceEq, Nat.reduceEqDiff, Int.reduceLE, Int.reduceLT]
  simp (disch := omega) only [app_size, c_rel, c_one, if_pos]
  refine Ev.bind hd ?_
  simp only [stk, Int.reduceEq, Nat.reduceEqDiff, Int.reduceLE, Int.reduceLT]
  simp (disch := omega) only [app_size, c_rel, c_one, if_pos]
  exact Ev.now _
theorem specRelText_ev {r : Rel} (hn : numB r.num = true) (hw : DelW r.del) (hz : r.sum.size ≤ 64) : Ev (fun N => spec_l6Text.f N [relP r]) [strP (relT r.num.toNat r.del r.sum)] := by
  simp only [numB, decide_eq_true_eq] at hn
  obtain ⟨n, hnn⟩ : ∃ n : Nat, r.num = (n : Int) := ⟨r.num.toNat, by omega⟩
  have hi := specDec_ev n (by omega)
  have hd := specPutD_ev hw
  have h1 := dec_size 6 n (by omega)
  have h2 := delT_size hw
  simp only [strP] at hi
  simp only [spec_l6Text.f_eq, rel_f0, rel_f1, rel_f2, del_f0, del_f1, del_f2, del_f3, hnn, del_agg, stk, Int.reduceEq, Nat.reduceEqDiff, Int.reduceLE, Int.reduceLT]
  refine Ev.bind hi ?_
  simp only [stk, Int.reduceEq, Nat.reduceEqDiff, Int.reduceLE, Int.reduceLT]
  simp (disch := omega) only [app_size, c_rel, c_one, if_pos]
  refine Ev.bind hd ?_
  simp only [stk, Int.reduceEq, Nat.reduceEqDiff, Int.reduceLE, Int.reduceLT]
  simp (disch := omega) only [app_size, c_rel, c_one, if_pos]
  exact Ev.now _
def frmB (r : Rel) : Bool := numB r.num && (delB r.del && (digB r.sum && (digB r.sig && decide (((relT r.num.toNat r.del r.sum).size : Int) ≤ 1200))))
theorem digB_size {s : ByteArray} (h : digB s = true) : s.size = 64 := by
  simp only [digB, Bool.and_eq_true, decide_eq_true_eq] at h; omega
theorem implForm_ev {r : Rel} (hs : DelS r.del) : Ev (fun N => impl_Release_wellFormed.f N [relP r]) [boolP (frmB r)] := by
  simp only [impl_Release_wellFormed.f_eq, rel_f0, rel_f1, rel_f2, rel_f3, del_f0, del_f1, del_f2, del_f3, del_agg, implWithin_val, digits_val, stk, Int.reduceEq, Nat.reduceEqDiff, Int.reduceLE, Int.reduceLT]
  unfold frmB
  cases hn : numB r.num with
  | false =>
    have this : (1 ≤ r.num ∧ r.num ≤ 999999) = False := fls (fun h => by rw [show numB r.num = true from decide_eq_true h] at hn; cases hn)
    simp only [this, stk, Int.reduceEq, Nat.reduceEqDiff, Int.reduceLE, Int.reduceLT]; exact Ev.now _
  | true =>
    have this : (1 ≤ r.num ∧ r.num ≤ 999999) = True := tru (of_decide_eq_true hn)
    simp only [this, stk, Int.reduceEq, Nat.reduceEqDiff, Int.reduceLE, Int.reduceLT]
    refine Ev.bind (implDeltaOk_ev hs) ?_
    cases hb : delB r.del with
    | false => simp only [stk, Int.reduceEq, Nat.reduceEqDiff, Int.reduceLE, Int.reduceLT]; exact Ev.now _
    | true =>
      cases h1 : digB r.sum with
      | false => simp only [stk, Int.reduceEq, Nat.reduceEqDiff, Int.reduceLE, Int.reduceLT]; exact Ev.now _
      | true =>
        cases h2 : digB r.sig with
        | false => simp only [stk, Int.reduceEq, Nat.reduceEqDiff, Int.reduceLE, Int.reduceLT]; exact Ev.now _
        | true =>
          have ht := implRelText_ev hn hs hb (by have := digB_size h1; omega)
          simp only [rel_agg, stk, Int.reduceEq, Nat.reduceEqDiff, Int.reduceLE, Int.reduceLT]
          refine Ev.bind ht ?_
          simp only [stk, Int.reduceEq, Nat.reduceEqDiff, Int.reduceLE, Int.reduceLT]
          exact Ev.now _
theorem specForm_l0 {r : Rel} (hn : numB r.num = true) (hw : DelW r.del) (z1 : r.sum.size = 64) (z2 : r.sig.size = 64) : ∀ (ra pa rb pb : List Int), bytesOf r.sum = pa ++ ra → bytesOf r.sig = pb ++ rb → pb.length = pa.length →
    Ev2 (fun N n => spec_l6Form.l0 N n (pa.length : Int) r.num (strsP r.del.goes) (entsP r.del.comes) r.del.aff (affsP r.del.list) r.sum r.sig) [boolP ((ra.all isFig && rb.all isFig) && decide (((relT r.num.toNat r.del r.sum).size : Int) ≤ 1200))] := by
  intro ra
  induction ra with
  | nil =>
    intro pa rb pb h1 h2 hl
    have l1 := congrArg List.length h1
    have l2 := congrArg List.length h2
    simp only [bytesOf_len, List.length_append, List.length_nil] at l1 l2
    have hb : rb = [] := List.eq_nil_of_length_eq_zero (by omega)
    subst hb
    have h0 : ((pa.length : Int) < 64) = False := fls (by omega)
    have ht := specRelText_ev hn hw (by omega)
    refine Ev2.succ ?_
    simp only [spec_l6Form.l0_eq, h0, del_agg, rel_agg, List.all_nil, stk, Int.reduceEq, Nat.reduceEqDiff, Int.reduceLE, Int.reduceLT]
    refine Ev2.bind ht ?_
    simp only [stk, Int.reduceEq, Nat.reduceEqDiff, Int.reduceLE, Int.reduceLT]
    exact Ev2.now _
  | cons a ra ih =>
    intro pa rb pb h1 h2 hl
    have l1 := congrArg List.length h1
    have l2 := congrArg List.length h2
    simp only [bytesOf_len, List.length_append, List.length_cons] at l1 l2
    cases rb with
    | nil => simp at l2; omega
    | cons b rb =>
      simp only [List.length_cons] at l2
      have h0 : ((pa.length : Int) < 64) = True := tru (by omega)
      have hn1 := at_next h1 (by rw [bytesOf_len]; omega)
      have s2 := at_size h2
      have b2 := at_bt h2
      rw [hl] at s2 b2
      refine Ev2.succ ?_
      simp only [spec_l6Form.l0_eq, h0, at_size h1, at_bt h1, s2, b2, hn1, figure_val, List.all_cons, stk, Int.reduceEq, Nat.reduceEqDiff, Int.reduceLE, Int.reduceLT]
      cases isFig a with
      | false => simp only [stk, Int.reduceEq, Nat.reduceEqDiff, Int.reduceLE, Int.reduceLT]; exact Ev2.now _
      | true =>
        cases isFig b with
        | false => simp only [stk, Int.reduceEq, Nat.reduceEqDiff, Int.reduceLE, Int.reduceLT]; exact Ev2.now _
        | true => simp only [stk, Int.reduceEq, Nat.reduceEqDiff, Int.reduceLE, Int.reduceLT]; exact ih _ _ _ (at_step h1) (at_step h2) (by simp [hl])
theorem specForm_ev {r : Rel} (hs : DelS r.del) : Ev (fun N => spec_l6Form.f N [relP r]) [boolP (frmB r)] := by
  simp only [spec_l6Form.f_eq, rel_f0, rel_f1, rel_f2, rel_f3, del_f0, del_f1, del_f2, del_f3, del_agg, specIn_val, stk, Int.reduceEq, Nat.reduceEqDiff, Int.reduceLE, Int.reduceLT]
  unfold frmB
  cases hn : numB r.num with
  | false =>
    have this : (1 ≤ r.num ∧ r.num ≤ 999999) = False := fls (fun h => by rw [show numB r.num = true from decide_eq_true h] at hn; cases hn)
    simp only [this, stk, Int.reduceEq, Nat.reduceEqDiff, Int.reduceLE, Int.reduceLT]; exact Ev.now _
  | true =>
    have this : (1 ≤ r.num ∧ r.num ≤ 999999) = True := tru (of_decide_eq_true hn)
    simp only [this, stk, Int.reduceEq, Nat.reduceEqDiff, Int.reduceLE, Int.reduceLT]
    refine Ev.bind (specDeltaOk_ev hs) ?_
    cases hb : delB r.del with
    | false => simp only [stk, Int.reduceEq, Nat.reduceEqDiff, Int.reduceLE, Int.reduceLT]; exact Ev.now _
    | true =>
      by_cases z1 : (r.sum.size : Int) = 64
      · by_cases z2 : (r.sig.size : Int) = 64
        · have := (specForm_l0 hn (delW_of hb) (by omega) (by omega) (bytesOf r.sum) [] (bytesOf r.sig) [] rfl rfl rfl).diag
          simp only [digB, z1, z2, stk, Int.reduceEq, Nat.reduceEqDiff, Int.reduceLE, Int.reduceLT]
          refine Ev.ext this ?_
          rw [Bool.and_assoc]
        · simp only [digB, z1, z2, stk, Int.reduceEq, Nat.reduceEqDiff, Int.reduceLE, Int.reduceLT]
          refine Ev.ext (Ev.now _) ?_
          simp
      · simp only [digB, z1, stk, Int.reduceEq, Nat.reduceEqDiff, Int.reduceLE, Int.reduceLT]
        exact Ev.now _
def okB (k : ByteArray) (r : Rel) : Bool := keyM k && (frmB r && decide (r.sig = sealM k (relT r.num.toNat r.del r.sum)))
theorem implOk_ev {r : Rel} (k : ByteArray) (hk : k.size ≤ 1000000000) (hs : DelS r.del) : Ev (fun N => impl_ReleaseOk.f N [strP k, relP r]) [boolP (okB k r)] := by
  have hkv := implKey_val k (by omega)
  simp only [strP] at hkv
  simp only [impl_ReleaseOk.f_eq, rel_f0, rel_f1, rel_f2, rel_f3, del_f0, del_f1, del_f2, del_f3, del_agg, rel_agg, hkv, stk, Int.reduceEq, Nat.reduceEqDiff, Int.reduceLE, Int.reduceLT]
  unfold okB
  cases h0 : keyM k with
  | false => simp only [stk, Int.reduceEq, Nat.reduceEqDiff, Int.reduceLE, Int.reduceLT]; exact Ev.now _
  | true =>
    simp only [stk, Int.reduceEq, Nat.reduceEqDiff, Int.reduceLE, Int.reduceLT]
    refine Ev.bind (implForm_ev hs) ?_
    cases hf : frmB r with
    | false => simp only [stk, Int.reduceEq, Nat.reduceEqDiff, Int.reduceLE, Int.reduceLT]; exact Ev.now _
    | true =>
      have hf2 := hf
      simp only [frmB, Bool.and_eq_true] at hf2
      obtain ⟨hn, hb, h1, h2, h3⟩ := hf2
      have hz := digB_size h1
      have hn2 := hn
      simp only [numB, decide_eq_true_eq] at hn2
      have ht := implRelText_ev hn hs hb (by omega)
      have hsz := relT_size (n := r.num.toNat) (by omega) (delW_of hb) (sum := r.sum) (by omega)
      simp only [stk, Int.reduceEq, Nat.reduceEqDiff, Int.reduceLE, Int.reduceLT]
      refine Ev.bind ht ?_
      simp only [stk, Int.reduceEq, Nat.reduceEqDiff, Int.reduceLE, Int.reduceLT]
      have hse := implSeal_ev k (relT r.num.toNat r.del r.sum) (by omega) (by omega)
      simp only [strP] at hse
      refine Ev.bind hse ?_
      simp only [stk, Int.reduceEq, Nat.reduceEqDiff, Int.reduceLE, Int.reduceLT]
      exact Ev.now _
theorem specOk_ev {r : Rel} (k : ByteArray) (hk : k.size ≤ 1000000000) (hs : DelS r.del) : Ev (fun N => spec_ReleaseOk.f N [strP k, relP r]) [boolP (okB k r)] := by
  have hkv := specKey_val k (by omega)
  simp only [strP] at hkv
  simp only [spec_ReleaseOk.f_eq, rel_f0, rel_f1, rel_f2, rel_f3, del_f0, del_f1, del_f2, del_f3, del_agg, rel_agg, hkv, stk, Int.reduceEq, Nat.reduceEqDiff, Int.reduceLE, Int.reduceLT]
  unfold okB
  cases h0 : keyM k with
  | false => simp only [stk, Int.reduceEq, Nat.reduceEqDiff, Int.reduceLE, Int.reduceLT]; exact Ev.now _
  | true =>
    simp only [stk, Int.reduceEq, Nat.reduceEqDiff, Int.reduceLE, Int.reduceLT]
    refine Ev.bind (specForm_ev hs) ?_
    cases hf : frmB r with
    | false => simp only [stk, Int.reduceEq, Nat.reduceEqDiff, Int.reduceLE, Int.reduceLT]; exact Ev.now _
    | true =>
      have hf2 := hf
      simp only [frmB, Bool.and_eq_true] at hf2
      obtain ⟨hn, hb, h1, h2, h3⟩ := hf2
      have hz := digB_size h1
      have hn2 := hn
      simp only [numB, decide_eq_true_eq] at hn2
      have ht := specRelText_ev hn (delW_of hb) (by omega)
      have hsz := relT_size (n := r.num.toNat) (by omega) (delW_of hb) (sum := r.sum) (by omega)
      simp only [stk, Int.reduceEq, Nat.reduceEqDiff, Int.reduceLE, Int.reduceLT]
      refine Ev.bind ht ?_
      simp only [stk, Int.reduceEq, Nat.reduceEqDiff, Int.reduceLE, Int.reduceLT]
      have hse := specSeal_ev k (relT r.num.toNat r.del r.sum) (by omega) (by omega)
      simp only [strP] at hse
      refine Ev.bind hse ?_
      simp only [stk, Int.reduceEq, Nat.reduceEqDiff, Int.reduceLE, Int.reduceLT]
      refine Ev.ext (Ev.now _) ?_
      have : decide (sealM k (relT r.num.toNat r.del r.sum) = r.sig) = decide (r.sig = sealM k (relT r.num.toNat r.del r.sum)) := by
        apply Bool.eq_iff_iff.2; simp [eq_comm]
      rw [this]
theorem l5At_loop {es : List Ent} (hl : es.length ≤ 1000000000) (s : ByteArray) : ∀ (rest pre : List Ent), es = pre ++ rest →
    Ev2 (fun N n => spec_l5At.l0 N n (entsP es) s (pre.length : Int)) [intP ((pre.length + (lessE s rest).length : Nat) : Int), boolP (thereE s rest)] := by
  intro rest
  induction rest with
  | nil =>
    intro pre hp
    refine Ev2.succ ?_
    simp only [spec_l5At.l0_eq, ents_len, at_end hp, stk, Int.reduceEq, Nat.reduceEqDiff, Int.reduceLE, Int.reduceLT]
    exact Ev2.now _
  | cons e rest ih =>
    intro pre hp
    refine Ev2.succ ?_
    cases hb : bLess e.stem s with
    | true =>
      simp only [spec_l5At.l0_eq, ents_len, ents_elem hp, at_lt hp, at_next hp (by omega), ent_f0, bLess_eq, hb, stk, Int.reduceEq, Nat.reduceEqDiff, Int.reduceLE, Int.reduceLT]
      have := ih _ (at_step hp)
      have e1 : lessE s (e :: rest) = e :: lessE s rest := by unfold lessE; rw [List.takeWhile_cons_of_pos (p := fun e : Ent => bLess e.stem s) hb]
      have e2 : thereE s (e :: rest) = thereE s rest := by unfold thereE fromE; rw [List.dropWhile_cons_of_pos (p := fun e : Ent => bLess e.stem s) hb]
      have e3 : pre.length + ((lessE s rest).length + 1) = (pre ++ [e]).length + (lessE s rest).length := by
        rw [List.length_append, List.length_singleton]; omega
      rw [e1, e2, List.length_cons, e3]
      exact this
    | false =>
      have hb' : ¬ bLess e.stem s = true := by rw [hb]; simp
      have e1 : lessE s (e :: rest) = [] := by unfold lessE; rw [List.takeWhile_cons_of_neg (p := fun e : Ent => bLess e.stem s) hb']
      have e2 : thereE s (e :: rest) = decide (e.stem = s) := by unfold thereE fromE; rw [List.dropWhile_cons_of_neg (p := fun e : Ent => bLess e.stem s) hb']
      simp only [spec_l5At.l0_eq, ents_len, ents_elem hp, at_lt hp, ent_f0, bLess_eq, hb, e1, e2, List.length_nil, Nat.add_zero, stk, Int.reduceEq, Nat.reduceEqDiff, Int.reduceLE, Int.reduceLT]
      exact Ev2.now _
theorem l5At_ev {es : List Ent} (hl : es.length ≤ 1000000000) (s : ByteArray) : Ev (fun N => spec_l5At.f N [entsP es, PV.sc (.string s)]) [intP ((lessE s es).length : Int), boolP (thereE s es)] := by
  have := (l5At_loop hl s es [] rfl).diag
  simp only [List.length_nil, Nat.zero_add, Int.natCast_zero] at this
  simp only [spec_l5At.f_eq, stk, Int.reduceEq, Nat.reduceEqDiff, Int.reduceLE, Int.reduceLT]
  exact this
theorem there_eq {es : List Ent} (h : ascE es) (s : ByteArray) : thereE s es = decide (s ∈ stems es) := by
  apply Bool.eq_iff_iff.2
  rw [decide_eq_true_eq]; exact there_iff s h
theorem l2In_loop {l : List ByteArray} (hl : l.length ≤ 1000000000) (s : ByteArray) : ∀ (rest pre : List ByteArray), l = pre ++ rest →
    Ev2 (fun N n => spec_l2In.l0 N n (strsP l) s (pre.length : Int)) [boolP (decide (s ∈ rest))] := by
  intro rest
  induction rest with
  | nil =>
    intro pre hp
    refine Ev2.succ ?_
    simp only [spec_l2In.l0_eq, at_end hp, stk, Int.reduceEq, Nat.reduceEqDiff, Int.reduceLE, Int.reduceLT]
    exact Ev2.now _
  | cons c rest ih =>
    intro pre hp
    refine Ev2.succ ?_
    by_cases h : c = s
    · subst h
      have : decide (c ∈ c :: rest) = true := by simp
      simp only [spec_l2In.l0_eq, at_lt hp, at_getD hp, this, eq_self, stk, Int.reduceEq, Nat.reduceEqDiff, Int.reduceLE, Int.reduceLT]
      exact Ev2.now _
    · have : decide (s ∈ c :: rest) = decide (s ∈ rest) := by
        rw [decide_eq_decide, List.mem_cons]
        exact ⟨fun h2 => h2.resolve_left (fun h3 => h h3.symm), .inr⟩
      simp only [spec_l2In.l0_eq, at_lt hp, at_getD hp, at_next hp (by omega), h, this, stk, Int.reduceEq, Nat.reduceEqDiff, Int.reduceLE, Int.reduceLT]
      exact ih _ (at_step hp)
theorem l2In_ev {l : List ByteArray} (hl : l.length ≤ 1000000000) (s : ByteArray) : Ev (fun N => spec_l2In.f N [strsP l, PV.sc (.string s)]) [boolP (decide (s ∈ l))] := by
  simp only [spec_l2In.f_eq, stk, Int.reduceEq, Nat.reduceEqDiff, Int.reduceLE, Int.reduceLT]
  exact (l2In_loop hl s l [] rfl).diag
theorem l5Book_val (af : List Aff) (es : List Ent) (h1 : af.length ≤ 1000000000) (h2 : es.length ≤ 1000000000) (N : Nat) : spec_l5Book.f N [bookP af es] = some [bookP af es] := by
  simp only [spec_l5Book.f_eq, book_f0, book_f1, affs_len, ents_len, List.length_nil, List.nil_append, Nat.zero_add, stk, Int.reduceEq, Nat.reduceEqDiff, Int.reduceLE, Int.reduceLT]
  rw [if_pos (by omega), if_pos (by omega)]
  rfl
theorem cloneB_val (af : List Aff) (es : List Ent) (h1 : af.length ≤ 1000000000) (h2 : es.length ≤ 1000000000) (N : Nat) : impl_cloneBook.f N [bookP af es] = some [bookP af es] := by
  simp only [impl_cloneBook.f_eq, book_f0, book_f1, affs_len, ents_len, List.length_nil, List.nil_append, Nat.zero_add, stk, Int.reduceEq, Nat.reduceEqDiff, Int.reduceLE, Int.reduceLT]
  rw [if_pos (by omega), if_pos (by omega)]
  rfl
def affD (af : List Aff) (d : Del) : List Aff := if d.aff = true then d.list else af
theorem cut_map (s : ByteArray) (cur : List Ent) : (cur.map entP).take (lessE s cur).length = (lessE s cur).map entP ∧ (cur.map entP).drop (lessE s cur).length = (fromE s cur).map entP := by
  have h2 : cur.map entP = (lessE s cur).map entP ++ (fromE s cur).map entP := by rw [← List.map_append, less_from]
  have h3 : (lessE s cur).length = ((lessE s cur).map entP).length := by simp
  rw [h2, h3]
  exact ⟨by simp, by simp⟩
theorem keep_snoc (pre : List Ent) (e : Ent) (d : Del) : keepM (pre ++ [e]) d = keepM pre d ++ (if (!decide (e.stem ∈ d.goes) && !decide (e.stem ∈ stems d.comes)) = true then [e] else []) := by
  unfold keepM
  rw [List.filter_append]
  congr 1
  simp only [List.filter_cons, List.filter_nil]
theorem specDo_l1 {d : Del} (hs : DelS d) (af : List Aff) (x5 : PV) : ∀ (rest pre cur : List Ent), d.comes = pre ++ rest → cur.length + rest.length ≤ 1000000000 →
    Ev2 (fun N n => spec_l5Do.l1 N n (pre.length : Int) (strsP d.goes) (entsP d.comes) d.aff (affsP d.list) (cur.map entP) (affsP af) x5) [bookP (affD af d) (insAll rest cur)] := by
  have hcl := hs.cl; have hll := hs.ll
  intro rest
  induction rest with
  | nil =>
    intro pre cur hp hz
    refine Ev2.succ ?_
    unfold affD
    cases h : d.aff with
    | false => simp only [spec_l5Do.l1_eq, ents_len, at_end hp, stk, Int.reduceEq, Nat.reduceEqDiff, Int.reduceLE, Int.reduceLT]; exact Ev2.now _
    | true =>
      have c : ([] : List PV).length + d.list.length ≤ 1954687338268 := by simp; omega
      simp only [spec_l5Do.l1_eq, ents_len, affs_len, at_end hp, c, List.nil_append, stk, Int.reduceEq, Nat.reduceEqDiff, Int.reduceLE, Int.reduceLT]
      exact Ev2.now _
  | cons e rest ih =>
    intro pre cur hp hz
    rw [List.length_cons] at hz
    have ha := l5At_ev (es := cur) (by omega) e.stem
    have el : PV.list (cur.map entP) = entsP cur := rfl
    have hle : (lessE e.stem cur).length ≤ cur.length := by
      have := congrArg List.length (less_from e.stem cur); rw [List.length_append] at this; omega
    have hli : ((lessE e.stem cur).length : Int) ≤ ((cur.map entP).length : Int) := by rw [List.length_map]; omega
    obtain ⟨t1, t2⟩ := cut_map e.stem cur
    have t3 : ((fromE e.stem cur).map entP).take ((cur.map entP).length - (lessE e.stem cur).length) = (fromE e.stem cur).map entP := by
      have := congrArg List.length (less_from e.stem cur)
      rw [List.length_append] at this
      exact List.take_of_length_le (by simp only [List.length_map]; omega)
    have hlen := congrArg List.length (less_from e.stem cur)
    rw [List.length_append] at hlen
    refine Ev2.succ ?_
    simp only [spec_l5Do.l1_eq, ents_len, ents_elem hp, at_lt hp, at_next hp (by omega), ent_f0, ent_f1, ent_agg, el, stk, Int.reduceEq, Nat.reduceEqDiff, Int.reduceLE, Int.reduceLT]
    refine Ev2.bind ha ?_
    simp only [stk, Int.reduceEq, Nat.reduceEqDiff, Int.reduceLE, Int.reduceLT, hli, List.drop_zero, Nat.sub_zero, t1, t2, t3, List.nil_append]
    simp (disch := (simp only [List.length_nil, List.length_map, List.length_append, List.length_cons]; omega)) only [if_pos]
    have := ih (pre ++ [e]) (insE e cur) (at_step hp) (by have := (insE_perm e cur).length_eq; rw [this, List.length_cons]; omega)
    rw [insAll]
    have e9 : (List.map entP (lessE e.stem cur) ++ [entP e]) ++ List.map entP (fromE e.stem cur) = (insE e cur).map entP := by
      unfold insE; simp
    rw [e9]
    exact this
theorem specDo_l0 {d : Del} (hs : DelS d) (hd : delB d = true) {af : List Aff} {es : List Ent} (h1 : af.length ≤ 1000000000) (h2 : es.length ≤ 1000) (x6 : PV) : ∀ (rest pre : List Ent), es = pre ++ rest →
    Ev2 (fun N n => spec_l5Do.l0 N n (pre.length : Int) (affsP af) (entsP es) (strsP d.goes) (entsP d.comes) d.aff (affsP d.list) ((keepM pre d).map entP) (affsP af) x6) [bookP (affD af d) (doneM es d)] := by
  have hcl := hs.cl; have hgl := hs.gl
  have hca := delB_comes hd
  have hw := (delW_of hd).cl
  intro rest
  induction rest with
  | nil =>
    intro pre hp
    refine Ev2.succ ?_
    rw [List.append_nil] at hp
    subst hp
    have hk : (keepM es d).length ≤ es.length := List.length_filter_le _ _
    simp only [spec_l5Do.l0_eq, ents_len, Int.lt_irrefl, stk, Int.reduceEq, Nat.reduceEqDiff, Int.reduceLE, Int.reduceLT]
    exact (specDo_l1 hs af x6 d.comes [] (keepM es d) rfl (by omega)).after
  | cons e rest ih =>
    intro pre hp
    have ha := l5At_ev hcl e.stem
    have hi := l2In_ev hgl e.stem
    rw [there_eq hca] at ha
    have hk : (keepM pre d).length ≤ pre.length := List.length_filter_le _ _
    have hpl : pre.length ≤ es.length := by have := congrArg List.length hp; simp at this; omega
    have hc : ((keepM pre d).map entP).length + 1 ≤ 4398046511104 := by rw [List.length_map]; omega
    refine Ev2.succ ?_
    have hnext := ih (pre ++ [e]) (at_step hp)
    have hsn := keep_snoc pre e d
    simp only [spec_l5Do.l0_eq, ents_len, ents_elem hp, at_lt hp, at_next hp (by omega), ent_f0, ent_f1, ent_agg, stk, Int.reduceEq, Nat.reduceEqDiff, Int.reduceLE, Int.reduceLT]
    refine Ev2.bind ha ?_
    cases c1 : decide (e.stem ∈ stems d.comes) with
    | true =>
      have e8 : keepM (pre ++ [e]) d = keepM pre d := by rw [hsn, c1]; simp
      rw [e8] at hnext
      simp only [stk, Int.reduceEq, Nat.reduceEqDiff, Int.reduceLE, Int.reduceLT]
      exact hnext
    | false =>
      simp only [stk, Int.reduceEq, Nat.reduceEqDiff, Int.reduceLE, Int.reduceLT]
      refine Ev2.bind hi ?_
      cases c2 : decide (e.stem ∈ d.goes) with
      | true =>
        have e8 : keepM (pre ++ [e]) d = keepM pre d := by rw [hsn, c2]; simp
        rw [e8] at hnext
        simp only [stk, Int.reduceEq, Nat.reduceEqDiff, Int.reduceLE, Int.reduceLT]
        exact hnext
      | false =>
        have e8 : keepM (pre ++ [e]) d = keepM pre d ++ [e] := by rw [hsn, c1, c2]; simp
        rw [e8, List.map_append] at hnext
        simp only [hc, stk, Int.reduceEq, Nat.reduceEqDiff, Int.reduceLE, Int.reduceLT]
        exact hnext
theorem specDo_ev {d : Del} (hs : DelS d) (hd : delB d = true) {af : List Aff} {es : List Ent} (h1 : af.length ≤ 1000000000) (h2 : es.length ≤ 1000) : Ev (fun N => spec_l5Do.f N [bookP af es, delP d]) [bookP (affD af d) (doneM es d)] := by
  simp only [spec_l5Do.f_eq, book_f0, book_f1, book_agg, del_f0, del_f1, del_f2, del_f3, l5Book_val af es h1 (by omega), stk, Int.reduceEq, Nat.reduceEqDiff, Int.reduceLE, Int.reduceLT]
  exact (specDo_l0 hs hd h1 h2 (entsP es) es [] rfl).diag
def doneR (af : List Aff) (es : List Ent) (d : Del) : List PV :=
  if bookB af es = true then (if delB d = true then (if d.goes.all (fun g => decide (g ∈ stems es)) = true then (if bookB (affD af d) (doneM es d) = true then [bookP (affD af d) (doneM es d), boolP true] else [bookP af es, boolP false]) else [bookP af es, boolP false]) else [bookP [] [], boolP false]) else [bookP [] [], boolP false]
theorem affD_S {af : List Aff} {es : List Ent} (hS : BookS af es) {d : Del} (hs : DelS d) : (affD af d).length ≤ 1000000000 ∧ ∀ a ∈ affD af d, AffS a := by
  unfold affD
  split
  · exact ⟨hs.ll, hs.l⟩
  · exact ⟨hS.al, hS.a⟩
theorem done_S {af : List Aff} {es : List Ent} (hS : BookS af es) {d : Del} (hs : DelS d) (hb : bookB af es = true) (hd : delB d = true) : BookS (affD af d) (doneM es d) ∧ (doneM es d).length ≤ 100 := by
  have f := bookB_facts hb
  have hel := f.el
  have hw := delW_of hd
  obtain ⟨-, hp⟩ := doneM_ok (bookB_asc hb) hd
  have hk : (keepM es d).length ≤ es.length := List.length_filter_le _ _
  have hc : d.comes.length ≤ 24 := by
    simp only [delB, entsB, Bool.and_eq_true, decide_eq_true_eq] at hd; omega
  have hlen := hp.length_eq
  rw [List.length_append] at hlen
  obtain ⟨a1, a2⟩ := affD_S hS hs
  refine ⟨⟨a1, by omega, a2, fun e he => ?_⟩, by omega⟩
  rcases List.mem_append.1 (hp.subset he) with h | h
  · exact hS.e e ((List.mem_filter.1 h).1)
  · exact hs.c e h
theorem specDeltaDo_l0 {af : List Aff} {es : List Ent} (hS : BookS af es) {d : Del} (hs : DelS d) (hb : bookB af es = true) (hd : delB d = true) : ∀ (rest pre : List ByteArray), d.goes = pre ++ rest →
    Ev2 (fun N n => spec_DeltaDo.l0 N n (pre.length : Int) (affsP af) (entsP es) (strsP d.goes) (entsP d.comes) d.aff (affsP d.list)) (if rest.all (fun g => decide (g ∈ stems es)) = true then (if bookB (affD af d) (doneM es d) = true then [bookP (affD af d) (doneM es d), boolP true] else [bookP af es, boolP false]) else [bookP af es, boolP false]) := by
  have hal := hS.al; have hel := hS.el; have hgl := hs.gl
  intro rest
  induction rest with
  | nil =>
    intro pre hp
    refine Ev2.succ ?_
    simp only [spec_DeltaDo.l0_eq, at_end hp, book_agg, del_agg, List.all_nil, stk, Int.reduceEq, Nat.reduceEqDiff, Int.reduceLE, Int.reduceLT]
    refine Ev2.bind (specDo_ev hs hd hal (by have := (bookB_facts hb).el; omega)) ?_
    simp only [book_f0, book_f1, book_agg, stk, Int.reduceEq, Nat.reduceEqDiff, Int.reduceLE, Int.reduceLT]
    refine Ev2.bind (specBookOk_ev (done_S hS hs hb hd).1) ?_
    cases h : bookB (affD af d) (doneM es d) with
    | false => simp only [l5Book_val af es hal hel, book_f0, book_f1, book_agg, stk, Int.reduceEq, Nat.reduceEqDiff, Int.reduceLE, Int.reduceLT]; exact Ev2.now _
    | true => simp only [stk, Int.reduceEq, Nat.reduceEqDiff, Int.reduceLE, Int.reduceLT]; exact Ev2.now _
  | cons g rest ih =>
    intro pre hp
    have ha := l5At_ev hel g
    rw [there_eq (bookB_asc hb)] at ha
    refine Ev2.succ ?_
    simp only [spec_DeltaDo.l0_eq, at_lt hp, at_getD hp, at_next hp (by omega), book_agg, List.all_cons, stk, Int.reduceEq, Nat.reduceEqDiff, Int.reduceLE, Int.reduceLT]
    refine Ev2.bind ha ?_
    by_cases h : g ∈ stems es
    · simp only [h, stk, Int.reduceEq, Nat.reduceEqDiff, Int.reduceLE, Int.reduceLT]; exact ih _ (at_step hp)
    · simp only [h, l5Book_val af es hal hel, book_f0, book_f1, book_agg, stk, Int.reduceEq, Nat.reduceEqDiff, Int.reduceLE, Int.reduceLT]; exact Ev2.now _
theorem specDeltaDo_ev {af : List Aff} {es : List Ent} (hS : BookS af es) {d : Del} (hs : DelS d) : Ev (fun N => spec_DeltaDo.f N [bookP af es, delP d]) (doneR af es d) := by
  unfold doneR
  simp only [spec_DeltaDo.f_eq, book_f0, book_f1, book_agg, del_f0, del_f1, del_f2, del_f3, del_agg, stk, Int.reduceEq, Nat.reduceEqDiff, Int.reduceLE, Int.reduceLT]
  refine Ev.bind (specBookOk_ev hS) ?_
  cases hb : bookB af es with
  | false => simp only [stk, Int.reduceEq, Nat.reduceEqDiff, Int.reduceLE, Int.reduceLT]; exact Ev.now _
  | true =>
    simp only [stk, Int.reduceEq, Nat.reduceEqDiff, Int.reduceLE, Int.reduceLT]
    refine Ev.bind (specDeltaOk_ev hs) ?_
    cases hd : delB d with
    | false => simp only [stk, Int.reduceEq, Nat.reduceEqDiff, Int.reduceLE, Int.reduceLT]; exact Ev.now _
    | true =>
      simp only [stk, Int.reduceEq, Nat.reduceEqDiff, Int.reduceLE, Int.reduceLT]
      exact (specDeltaDo_l0 hS hs hb hd d.goes [] rfl).diag
theorem implDo_l1 {af : List Aff} {es : List Ent} (hS : BookS af es) {d : Del} (hs : DelS d) (hb : bookB af es = true) (hd : delB d = true) : ∀ (rest pre : List Ent), es = pre ++ rest →
    Ev2 (fun N n => impl_DeltaDo.l1 N n (entsP es) (es.length : Int) (pre.length : Int) (affsP af) (entsP es) (strsP d.goes) (entsP d.comes) d.aff (affsP d.list) (af.map affP) ((keepM pre d).map entP)) (if bookB (affD af d) (doneM es d) = true then [bookP (affD af d) (doneM es d), boolP true] else [bookP af es, boolP false]) := by
  have hal := hS.al; have hel := hS.el; have hgl := hs.gl; have hcl := hs.cl; have hll := hs.ll
  have hbo := implBookOk_ev (done_S hS hs hb hd).1
  have f := bookB_facts hb
  have hw := (delW_of hd).cl
  have hel2 := f.el
  have hpd := (doneM_ok (bookB_asc hb) hd)
  intro rest
  induction rest with
  | nil =>
    intro pre hp
    rw [List.append_nil] at hp
    subst hp
    have hk : (keepM es d).length ≤ es.length := List.length_filter_le _ _
    have c0 : ((keepM es d).map entP).length + d.comes.length ≤ 4398046511104 := by simp; omega
    have e1 : (keepM es d).map entP ++ (entsP d.comes).items = (keepM es d ++ d.comes).map entP := by simp [entsP, PV.items]
    have e2 : PV.list ((keepM es d ++ d.comes).map entP) = entsP (keepM es d ++ d.comes) := rfl
    have hso : ∀ N, impl_sortEntries.f N [entsP (keepM es d ++ d.comes)] = some [entsP (doneM es d)] := fun N => by
      simp only [impl_sortEntries.f_eq, sortFunc_val hpd.1 hpd.2 (by rw [List.length_append]; omega), stk, Int.reduceEq, Nat.reduceEqDiff, Int.reduceLE, Int.reduceLT]
    have e3 : PV.list (af.map affP) = affsP af := rfl
    have e4 : PV.list (affsP d.list).items = affsP d.list := rfl
    refine Ev2.succ ?_
    unfold affD at hbo ⊢
    simp only [impl_DeltaDo.l1_eq, ents_len, Int.lt_irrefl, c0, e1, e2, hso, stk, Int.reduceEq, Nat.reduceEqDiff, Int.reduceLE, Int.reduceLT]
    cases h : d.aff with
    | false =>
      rw [h] at hbo
      simp only [Bool.false_eq_true, if_false] at hbo
      simp only [e3, book_agg, stk, Int.reduceEq, Nat.reduceEqDiff, Int.reduceLE, Int.reduceLT]
      refine Ev2.bind hbo ?_
      cases h2 : bookB af (doneM es d) with
      | false => simp only [cloneB_val af es hal hel, book_f0, book_f1, book_agg, stk, Int.reduceEq, Nat.reduceEqDiff, Int.reduceLE, Int.reduceLT]; exact Ev2.now _
      | true => simp only [stk, Int.reduceEq, Nat.reduceEqDiff, Int.reduceLE, Int.reduceLT]; exact Ev2.now _
    | true =>
      rw [h] at hbo
      simp only [if_true] at hbo
      have c : ([] : List PV).length + d.list.length ≤ 1954687338268 := by simp; omega
      simp only [affs_len, c, List.nil_append, e4, book_agg, stk, Int.reduceEq, Nat.reduceEqDiff, Int.reduceLE, Int.reduceLT]
      refine Ev2.bind hbo ?_
      cases h2 : bookB d.list (doneM es d) with
      | false => simp only [cloneB_val af es hal hel, book_f0, book_f1, book_agg, stk, Int.reduceEq, Nat.reduceEqDiff, Int.reduceLE, Int.reduceLT]; exact Ev2.now _
      | true => simp only [stk, Int.reduceEq, Nat.reduceEqDiff, Int.reduceLE, Int.reduceLT]; exact Ev2.now _
  | cons e rest ih =>
    intro pre hp
    have hk : (keepM pre d).length ≤ pre.length := List.length_filter_le _ _
    have hpl : pre.length ≤ es.length := by have := congrArg List.length hp; simp at this; omega
    have hc : ((keepM pre d).map entP).length + 1 ≤ 4398046511104 := by rw [List.length_map]; omega
    have hco := contains_ev d.goes e.stem (by omega)
    have hnext := ih (pre ++ [e]) (at_step hp)
    have hsn := keep_snoc pre e d
    simp only [strP] at hco
    refine Ev2.succ ?_
    simp only [impl_DeltaDo.l1_eq, ents_len, ents_elem hp, at_lt hp, at_next hp (by omega), ent_f0, ent_f1, ent_agg, stk, Int.reduceEq, Nat.reduceEqDiff, Int.reduceLE, Int.reduceLT]
    refine Ev2.bind hco ?_
    cases c2 : decide (e.stem ∈ d.goes) with
    | true =>
      have e8 : keepM (pre ++ [e]) d = keepM pre d := by rw [hsn, c2]; simp
      rw [e8] at hnext
      simp only [stk, Int.reduceEq, Nat.reduceEqDiff, Int.reduceLE, Int.reduceLT]
      exact hnext
    | false =>
      simp only [stk, Int.reduceEq, Nat.reduceEqDiff, Int.reduceLE, Int.reduceLT]
      refine Ev2.congr (g' := fun N n => if ¬ e.stem ∈ stems d.comes then impl_DeltaDo.l1 N n (entsP es) (es.length : Int) ((pre ++ [e]).length : Int) (affsP af) (entsP es) (strsP d.goes) (entsP d.comes) d.aff (affsP d.list) (af.map affP) ((keepM pre d).map entP ++ [entP e]) else impl_DeltaDo.l1 N n (entsP es) (es.length : Int) ((pre ++ [e]).length : Int) (affsP af) (entsP es) (strsP d.goes) (entsP d.comes) d.aff (affsP d.list) (af.map affP) ((keepM pre d).map entP)) (fun N n => ?_) ?_
      · obtain ⟨r, h1, -, h3⟩ := entryAt_val d.comes e.stem hcl N
        simp only [h1, h3, hc, stk, Int.reduceEq, Nat.reduceEqDiff, Int.reduceLE, Int.reduceLT]
      · by_cases c1 : e.stem ∈ stems d.comes
        · have e8 : keepM (pre ++ [e]) d = keepM pre d := by rw [hsn, decide_eq_true c1]; simp
          rw [e8] at hnext
          simp only [c1, stk, Int.reduceEq, Nat.reduceEqDiff, Int.reduceLE, Int.reduceLT]
          exact hnext
        · have e8 : keepM (pre ++ [e]) d = keepM pre d ++ [e] := by rw [hsn, decide_eq_false c1, c2]; simp
          rw [e8, List.map_append] at hnext
          simp only [c1, stk, Int.reduceEq, Nat.reduceEqDiff, Int.reduceLE, Int.reduceLT]
          exact hnext
theorem implDo_l0 {af : List Aff} {es : List Ent} (hS : BookS af es) {d : Del} (hs : DelS d) (hb : bookB af es = true) (hd : delB d = true) : ∀ (rest pre : List ByteArray), d.goes = pre ++ rest →
    Ev2 (fun N n => impl_DeltaDo.l0 N n (strsP d.goes) (d.goes.length : Int) (pre.length : Int) (affsP af) (entsP es) (strsP d.goes) (entsP d.comes) d.aff (affsP d.list) (af.map affP) []) (if rest.all (fun g => decide (g ∈ stems es)) = true then (if bookB (affD af d) (doneM es d) = true then [bookP (affD af d) (doneM es d), boolP true] else [bookP af es, boolP false]) else [bookP af es, boolP false]) := by
  have hal := hS.al; have hel := hS.el; have hgl := hs.gl
  intro rest
  induction rest with
  | nil =>
    intro pre hp
    refine Ev2.succ ?_
    simp only [impl_DeltaDo.l0_eq, at_end hp, ents_len, List.all_nil, stk, Int.reduceEq, Nat.reduceEqDiff, Int.reduceLE, Int.reduceLT]
    exact (implDo_l1 hS hs hb hd es [] rfl).after
  | cons g rest ih =>
    intro pre hp
    refine Ev2.succ ?_
    refine Ev2.congr (g' := fun N n => if ¬ g ∈ stems es then some [bookP af es, boolP false] else impl_DeltaDo.l0 N n (strsP d.goes) (d.goes.length : Int) ((pre ++ [g]).length : Int) (affsP af) (entsP es) (strsP d.goes) (entsP d.comes) d.aff (affsP d.list) (af.map affP) []) (fun N n => ?_) ?_
    · obtain ⟨r, h1, -, h3⟩ := entryAt_val es g hel N
      simp only [impl_DeltaDo.l0_eq, at_lt hp, at_getD hp, at_next hp (by omega), h1, h3, book_agg, cloneB_val af es hal hel, book_f0, book_f1, stk, Int.reduceEq, Nat.reduceEqDiff, Int.reduceLE, Int.reduceLT]
    · rw [List.all_cons]
      by_cases h : g ∈ stems es
      · simp only [h, stk, Int.reduceEq, Nat.reduceEqDiff, Int.reduceLE, Int.reduceLT]; exact ih _ (at_step hp)
      · simp only [h, stk, Int.reduceEq, Nat.reduceEqDiff, Int.reduceLE, Int.reduceLT]; exact Ev2.now _
theorem implDeltaDo_ev {af : List Aff} {es : List Ent} (hS : BookS af es) {d : Del} (hs : DelS d) : Ev (fun N => impl_DeltaDo.f N [bookP af es, delP d]) (doneR af es d) := by
  have hal := hS.al
  unfold doneR
  simp only [impl_DeltaDo.f_eq, book_f0, book_f1, book_agg, del_f0, del_f1, del_f2, del_f3, del_agg, affs_len, stk, Int.reduceEq, Nat.reduceEqDiff, Int.reduceLE, Int.reduceLT]
  refine Ev.bind (implBookOk_ev hS) ?_
  cases hb : bookB af es with
  | false => simp only [stk, Int.reduceEq, Nat.reduceEqDiff, Int.reduceLE, Int.reduceLT]; exact Ev.now _
  | true =>
    simp only [stk, Int.reduceEq, Nat.reduceEqDiff, Int.reduceLE, Int.reduceLT]
    refine Ev.bind (implDeltaOk_ev hs) ?_
    cases hd : delB d with
    | false => simp only [stk, Int.reduceEq, Nat.reduceEqDiff, Int.reduceLE, Int.reduceLT]; exact Ev.now _
    | true =>
      have c : ([] : List PV).length + af.length ≤ 1954687338268 := by simp; omega
      have e : ([] : List PV) ++ (affsP af).items = af.map affP := rfl
      simp only [c, e, stk, Int.reduceEq, Nat.reduceEqDiff, Int.reduceLE, Int.reduceLT]
      exact (implDo_l0 hS hs hb hd d.goes [] rfl).diag
def sumB (s : ByteArray) : ByteArray := hexB (shaB s)
theorem implSum_ev (s : ByteArray) (hs : s.size ≤ 1000000000) : Ev (fun N => impl_HashSum.f N [strP s]) [strP (sumB s)] := by
  have h1 := impl_sha s (by omega)
  have h2 := implHex_ev (shaB s) (by rw [shaB_size]; omega)
  simp only [strP] at h1 h2
  simp only [impl_HashSum.f_eq, stk, Int.reduceEq, Nat.reduceEqDiff, Int.reduceLE, Int.reduceLT]
  refine Ev.bind h1 ?_
  simp only [stk, Int.reduceEq, Nat.reduceEqDiff, Int.reduceLE, Int.reduceLT]
  refine Ev.bind h2 ?_
  simp only [stk, Int.reduceEq, Nat.reduceEqDiff, Int.reduceLE, Int.reduceLT]
  exact Ev.now _
theorem specSum_ev (s : ByteArray) (hs : s.size ≤ 1000000000) : Ev (fun N => spec_HashSum.f N [strP s]) [strP (sumB s)] := by
  have h1 := spec_sha s (by omega)
  have h2 := specHex_ev (shaB s) (by rw [shaB_size]; omega)
  simp only [strP] at h1 h2
  simp only [spec_HashSum.f_eq, stk, Int.reduceEq, Nat.reduceEqDiff, Int.reduceLE, Int.reduceLT]
  refine Ev.bind h1 ?_
  simp only [stk, Int.reduceEq, Nat.reduceEqDiff, Int.reduceLE, Int.reduceLT]
  refine Ev.bind h2 ?_
  simp only [stk, Int.reduceEq, Nat.reduceEqDiff, Int.reduceLE, Int.reduceLT]
  exact Ev.now _
def backB (af : List Aff) (es : List Ent) : List PV := [bookP af es, boolP false]
def relDoR (k : ByteArray) (n : Int) (af : List Aff) (es : List Ent) (r : Rel) : List PV :=
  if bookB af es = true then (if okB k r = true then (if r.num = n + 1 then (if r.del.goes.all (fun g => decide (g ∈ stems es)) = true then (if bookB (affD af r.del) (doneM es r.del) = true then (if sumB (bookT (affD af r.del) (doneM es r.del)) = r.sum then [bookP (affD af r.del) (doneM es r.del), boolP true] else backB af es) else backB af es) else backB af es) else backB af es) else backB af es) else [bookP [] [], boolP false]
theorem okB_facts {k : ByteArray} {r : Rel} (h : okB k r = true) : delB r.del = true ∧ 1 ≤ r.num ∧ r.num ≤ 999999 := by
  simp only [okB, frmB, numB, Bool.and_eq_true, decide_eq_true_eq] at h
  exact ⟨h.2.1.2.1, h.2.1.1⟩
theorem book_none : PV.agg [PV.list [], PV.list []] = bookP [] [] := rfl
theorem implRelDo_ev {af : List Aff} {es : List Ent} (hS : BookS af es) {r : Rel} (hs : DelS r.del) (k : ByteArray) (hk : k.size ≤ 1000000000) (n : Int) : Ev (fun N => impl_ReleaseDo.f N [strP k, intP n, bookP af es, relP r]) (relDoR k n af es r) := by
  have hal := hS.al; have hel := hS.el
  have hok := implOk_ev (r := r) k hk hs
  simp only [strP] at hok
  simp only [impl_ReleaseDo.f_eq, book_f0, book_f1, book_agg, rel_f0, rel_f1, rel_f2, rel_f3, del_f0, del_f1, del_f2, del_f3, del_agg, rel_agg, stk, Int.reduceEq, Nat.reduceEqDiff, Int.reduceLE, Int.reduceLT]
  unfold relDoR
  refine Ev.bind (implBookOk_ev hS) ?_
  cases hb : bookB af es with
  | false => simp only [book_none, stk, Int.reduceEq, Nat.reduceEqDiff, Int.reduceLE, Int.reduceLT]; exact Ev.now _
  | true =>
    simp only [stk, Int.reduceEq, Nat.reduceEqDiff, Int.reduceLE, Int.reduceLT]
    refine Ev.bind hok ?_
    cases ho : okB k r with
    | false => simp only [cloneB_val af es hal hel, book_f0, book_f1, book_agg, stk, Int.reduceEq, Nat.reduceEqDiff, Int.reduceLE, Int.reduceLT]; exact Ev.now _
    | true =>
      obtain ⟨hd, n1, n2⟩ := okB_facts ho
      have hw : IntKind.i64.wrap (r.num - 1) = r.num - 1 := wrap_id (by omega) (by omega)
      by_cases hn : r.num = n + 1
      · have c : (n = r.num - 1) = True := tru (by omega)
        have hnT : (r.num = n + 1) = True := tru hn
        have hdo := implDeltaDo_ev hS hs
        simp only [hw, c, hnT, stk, Int.reduceEq, Nat.reduceEqDiff, Int.reduceLE, Int.reduceLT]
        refine Ev.bind hdo ?_
        unfold doneR
        simp only [hb, hd, stk, Int.reduceEq, Nat.reduceEqDiff, Int.reduceLE, Int.reduceLT]
        cases hg : r.del.goes.all (fun g => decide (g ∈ stems es)) with
        | false => simp only [cloneB_val af es hal hel, book_f0, book_f1, book_agg, stk, Int.reduceEq, Nat.reduceEqDiff, Int.reduceLE, Int.reduceLT]; exact Ev.now _
        | true =>
          cases h2 : bookB (affD af r.del) (doneM es r.del) with
          | false => simp only [cloneB_val af es hal hel, book_f0, book_f1, book_agg, stk, Int.reduceEq, Nat.reduceEqDiff, Int.reduceLE, Int.reduceLT]; exact Ev.now _
          | true =>
            have hS2 := (done_S hS hs hb hd).1
            have hsm := smallB_of h2
            have hz := bookT_size hsm
            have hse := implSum_ev (bookT (affD af r.del) (doneM es r.del)) (by omega)
            simp only [strP] at hse
            simp only [book_f0, book_f1, book_agg, stk, Int.reduceEq, Nat.reduceEqDiff, Int.reduceLE, Int.reduceLT]
            refine Ev.bind (implPutB_ev hS2 h2) ?_
            simp only [stk, Int.reduceEq, Nat.reduceEqDiff, Int.reduceLE, Int.reduceLT]
            refine Ev.bind hse ?_
            by_cases hx : sumB (bookT (affD af r.del) (doneM es r.del)) = r.sum
            · simp only [hx, stk, Int.reduceEq, Nat.reduceEqDiff, Int.reduceLE, Int.reduceLT]; exact Ev.now _
            · simp only [hx, cloneB_val af es hal hel, book_f0, book_f1, book_agg, stk, Int.reduceEq, Nat.reduceEqDiff, Int.reduceLE, Int.reduceLT]; exact Ev.now _
      · have c : (n = r.num - 1) = False := fls (by omega)
        simp only [hw, c, hn, cloneB_val af es hal hel, book_f0, book_f1, book_agg, stk, Int.reduceEq, Nat.reduceEqDiff, Int.reduceLE, Int.reduceLT]
        exact Ev.now _
theorem specRelDo_ev {af : List Aff} {es : List Ent} (hS : BookS af es) {r : Rel} (hs : DelS r.del) (k : ByteArray) (hk : k.size ≤ 1000000000) (n : Int) (hn1 : -9223372036854775808 ≤ n) (hn2 : n < 9223372036854775808) : Ev (fun N => spec_ReleaseDo.f N [strP k, intP n, bookP af es, relP r]) (relDoR k n af es r) := by
  have hal := hS.al; have hel := hS.el
  have hok := specOk_ev (r := r) k hk hs
  simp only [strP] at hok
  simp only [spec_ReleaseDo.f_eq, book_f0, book_f1, book_agg, rel_f0, rel_f1, rel_f2, rel_f3, del_f0, del_f1, del_f2, del_f3, del_agg, rel_agg, stk, Int.reduceEq, Nat.reduceEqDiff, Int.reduceLE, Int.reduceLT]
  unfold relDoR
  refine Ev.bind (specBookOk_ev hS) ?_
  cases hb : bookB af es with
  | false => simp only [book_none, stk, Int.reduceEq, Nat.reduceEqDiff, Int.reduceLE, Int.reduceLT]; exact Ev.now _
  | true =>
    simp only [stk, Int.reduceEq, Nat.reduceEqDiff, Int.reduceLE, Int.reduceLT]
    refine Ev.bind hok ?_
    cases ho : okB k r with
    | false => simp only [l5Book_val af es hal hel, book_f0, book_f1, book_agg, stk, Int.reduceEq, Nat.reduceEqDiff, Int.reduceLE, Int.reduceLT]; exact Ev.now _
    | true =>
      obtain ⟨hd, n1, n2⟩ := okB_facts ho
      have hw : (r.num = IntKind.i64.wrap (n + 1)) = (r.num = n + 1) := by
        apply propext
        by_cases h9 : n = 9223372036854775807
        · subst h9
          have : IntKind.i64.wrap (9223372036854775807 + 1) = -9223372036854775808 := by decide
          rw [this]; omega
        · rw [wrap_id (by omega) (by omega)]
      by_cases hn : r.num = n + 1
      · have hnT : (r.num = n + 1) = True := tru hn
        have hdo := specDeltaDo_ev hS hs
        simp only [hw, hnT, stk, Int.reduceEq, Nat.reduceEqDiff, Int.reduceLE, Int.reduceLT]
        refine Ev.bind hdo ?_
        unfold doneR
        simp only [hb, hd, stk, Int.reduceEq, Nat.reduceEqDiff, Int.reduceLE, Int.reduceLT]
        cases hg : r.del.goes.all (fun g => decide (g ∈ stems es)) with
        | false => simp only [l5Book_val af es hal hel, book_f0, book_f1, book_agg, stk, Int.reduceEq, Nat.reduceEqDiff, Int.reduceLE, Int.reduceLT]; exact Ev.now _
        | true =>
          cases h2 : bookB (affD af r.del) (doneM es r.del) with
          | false => simp only [l5Book_val af es hal hel, book_f0, book_f1, book_agg, stk, Int.reduceEq, Nat.reduceEqDiff, Int.reduceLE, Int.reduceLT]; exact Ev.now _
          | true =>
            have hsm := smallB_of h2
            have hz := bookT_size hsm
            have hse := specSum_ev (bookT (affD af r.del) (doneM es r.del)) (by omega)
            simp only [strP] at hse
            simp only [book_f0, book_f1, book_agg, stk, Int.reduceEq, Nat.reduceEqDiff, Int.reduceLE, Int.reduceLT]
            refine Ev.bind (specPutB_ev hsm) ?_
            simp only [stk, Int.reduceEq, Nat.reduceEqDiff, Int.reduceLE, Int.reduceLT]
            refine Ev.bind hse ?_
            by_cases hx : sumB (bookT (affD af r.del) (doneM es r.del)) = r.sum
            · simp only [hx, stk, Int.reduceEq, Nat.reduceEqDiff, Int.reduceLE, Int.reduceLT]; exact Ev.now _
            · simp only [hx, l5Book_val af es hal hel, book_f0, book_f1, book_agg, stk, Int.reduceEq, Nat.reduceEqDiff, Int.reduceLE, Int.reduceLT]; exact Ev.now _
      · simp only [hw, hn, l5Book_val af es hal hel, book_f0, book_f1, book_agg, stk, Int.reduceEq, Nat.reduceEqDiff, Int.reduceLE, Int.reduceLT]
        exact Ev.now _
theorem lastKey_size {B : Nat} (n : Int) : ∀ (ks : List ByteArray) (fs : List Int) (out : ByteArray), out.size ≤ B → (∀ k ∈ ks, k.size ≤ B) → (lastKey n out ks fs).size ≤ B
  | [], _, out, h, _ => by simpa [lastKey] using h
  | _ :: _, [], out, h, _ => by simpa [lastKey] using h
  | k :: ks, f :: fs, out, h, hk => by
    rw [lastKey]
    refine lastKey_size n ks fs _ ?_ (fun x hx => hk x (List.mem_cons_of_mem _ hx))
    split
    · exact hk k List.mem_cons_self
    · exact h
def ringDoR (ks : List ByteArray) (fs : List Int) (n : Int) (af : List Aff) (es : List Ent) (r : Rel) : List PV :=
  if bookB af es = true then (if ringM ks fs = true then (if 0 ≤ n ∧ n ≤ 999998 then relDoR (lastKey (n + 1) ⟨#[]⟩ ks fs) n af es r else backB af es) else backB af es) else [bookP [] [], boolP false]
theorem relDoR_two (k : ByteArray) (n : Int) (af : List Aff) (es : List Ent) (r : Rel) : ∃ a e b, relDoR k n af es r = [bookP a e, boolP b] := by
  unfold relDoR backB
  repeat' split
  all_goals exact ⟨_, _, _, rfl⟩
theorem relDoR_off {k : ByteArray} {n : Int} {af : List Aff} {es : List Ent} {r : Rel} (hb : bookB af es = true) (h : ¬ (0 ≤ n ∧ n ≤ 999998)) : relDoR k n af es r = backB af es := by
  unfold relDoR
  rw [if_pos hb]
  cases ho : okB k r with
  | false => simp
  | true =>
    obtain ⟨-, h1, h2⟩ := okB_facts ho
    rw [if_pos rfl, if_neg (by omega)]
theorem implRingDo_ev {ks : List ByteArray} {fs : List Int} (hf : fs.length ≤ 1000000000) (hk : ks.length ≤ 1000000000) (hks : ∀ k ∈ ks, k.size ≤ 1000000000) {af : List Aff} {es : List Ent} (hS : BookS af es) {r : Rel} (hs : DelS r.del) (n : Int) :
    Ev (fun N => impl_RingDo.f N [ringP ks fs, intP n, bookP af es, relP r]) (ringDoR ks fs n af es r) := by
  have hal := hS.al; have hel := hS.el
  have hks' : ∀ k ∈ ks, k.size ≤ 9223372036854775807 := fun k h => by have := hks k h; omega
  simp only [impl_RingDo.f_eq, ring_f0, ring_f1, ring_agg, book_f0, book_f1, book_agg, rel_f0, rel_f1, rel_f2, rel_f3, del_f0, del_f1, del_f2, del_f3, del_agg, rel_agg, implWithin_val, stk, Int.reduceEq, Nat.reduceEqDiff, Int.reduceLE, Int.reduceLT]
  unfold ringDoR
  refine Ev.bind (implBookOk_ev hS) ?_
  cases hb : bookB af es with
  | false => simp only [book_none, stk, Int.reduceEq, Nat.reduceEqDiff, Int.reduceLE, Int.reduceLT]; exact Ev.now _
  | true =>
    simp only [stk, Int.reduceEq, Nat.reduceEqDiff, Int.reduceLE, Int.reduceLT]
    refine Ev.bind (implRingOk_ev ks fs (by omega) (by omega) hks') ?_
    cases hr : ringM ks fs with
    | false => simp only [cloneB_val af es hal hel, book_f0, book_f1, book_agg, stk, Int.reduceEq, Nat.reduceEqDiff, Int.reduceLE, Int.reduceLT]; exact Ev.now _
    | true =>
      by_cases hn : 0 ≤ n ∧ n ≤ 999998
      · have hw : IntKind.i64.wrap (n + 1) = n + 1 := wrap_id (by omega) (by omega)
        have hkey := implRingKey_ev ks fs (n + 1) (by omega) (by omega) hks'
        have hd := implRelDo_ev hS hs (lastKey (n + 1) ⟨#[]⟩ ks fs) (lastKey_size _ _ _ _ (by rw [c_zero]; omega) hks) n
        obtain ⟨a, e, b, he⟩ := relDoR_two (lastKey (n + 1) ⟨#[]⟩ ks fs) n af es r
        rw [he] at hd ⊢
        unfold ringKeyM at hkey
        rw [if_pos hr] at hkey
        simp only [strP, intP] at hkey hd
        simp only [hn, hw, decide_true, stk, Int.reduceEq, Nat.reduceEqDiff, Int.reduceLE, Int.reduceLT]
        refine Ev.bind hkey ?_
        simp only [stk, Int.reduceEq, Nat.reduceEqDiff, Int.reduceLE, Int.reduceLT]
        refine Ev.bind hd ?_
        simp only [book_f0, book_f1, book_agg, stk, Int.reduceEq, Nat.reduceEqDiff, Int.reduceLE, Int.reduceLT]
        exact Ev.now _
      · simp only [hn, cloneB_val af es hal hel, book_f0, book_f1, book_agg, stk, Int.reduceEq, Nat.reduceEqDiff, Int.reduceLE, Int.reduceLT]
        exact Ev.now _
theorem specRingDo_ev {ks : List ByteArray} {fs : List Int} (hf : fs.length ≤ 1000000000) (hk : ks.length ≤ 1000000000) (hks : ∀ k ∈ ks, k.size ≤ 1000000000) {af : List Aff} {es : List Ent} (hS : BookS af es) {r : Rel} (hs : DelS r.del) (n : Int) (hn1 : -9223372036854775808 ≤ n) (hn2 : n < 9223372036854775808) :
    Ev (fun N => spec_RingDo.f N [ringP ks fs, intP n, bookP af es, relP r]) (ringDoR ks fs n af es r) := by
  have hal := hS.al; have hel := hS.el
  have hks' : ∀ k ∈ ks, k.size ≤ 9223372036854775807 := fun k h => by have := hks k h; omega
  simp only [spec_RingDo.f_eq, ring_f0, ring_f1, ring_agg, book_f0, book_f1, book_agg, rel_f0, rel_f1, rel_f2, rel_f3, del_f0, del_f1, del_f2, del_f3, del_agg, rel_agg, stk, Int.reduceEq, Nat.reduceEqDiff, Int.reduceLE, Int.reduceLT]
  unfold ringDoR
  refine Ev.bind (specRingOk_ev ks fs (by omega) (by omega) hks') ?_
  cases hr : ringM ks fs with
  | false =>
    simp only [stk, Int.reduceEq, Nat.reduceEqDiff, Int.reduceLE, Int.reduceLT]
    refine Ev.bind (specBookOk_ev hS) ?_
    cases hb : bookB af es with
    | false => simp only [book_none, stk, Int.reduceEq, Nat.reduceEqDiff, Int.reduceLE, Int.reduceLT]; exact Ev.now _
    | true => simp only [l5Book_val af es hal hel, book_f0, book_f1, book_agg, stk, Int.reduceEq, Nat.reduceEqDiff, Int.reduceLE, Int.reduceLT]; exact Ev.now _
  | true =>
    have hkey := (specL11_loop ks fs (IntKind.i64.wrap (n + 1)) (ringM_len hr).2.2 (by omega) ks [] fs [] rfl rfl rfl ⟨#[]⟩).diag
    have hd := specRelDo_ev hS hs (lastKey (IntKind.i64.wrap (n + 1)) ⟨#[]⟩ ks fs) (lastKey_size _ _ _ _ (by rw [c_zero]; omega) hks) n hn1 hn2
    have hkey' : Ev (fun N => spec_l11Key.f N [ringP ks fs, intP (IntKind.i64.wrap (n + 1))]) [strP (lastKey (IntKind.i64.wrap (n + 1)) ⟨#[]⟩ ks fs)] := by
      simp only [spec_l11Key.f_eq, ring_f0, ring_f1, stk, Int.reduceEq, Nat.reduceEqDiff, Int.reduceLE, Int.reduceLT]
      exact hkey
    have hfin : relDoR (lastKey (IntKind.i64.wrap (n + 1)) ⟨#[]⟩ ks fs) n af es r = if bookB af es = true then (if 0 ≤ n ∧ n ≤ 999998 then relDoR (lastKey (n + 1) ⟨#[]⟩ ks fs) n af es r else backB af es) else [bookP [] [], boolP false] := by
      cases hb : bookB af es with
      | false => unfold relDoR; simp [hb]
      | true =>
        by_cases hn : 0 ≤ n ∧ n ≤ 999998
        · rw [wrap_id (by omega) (by omega)]; simp [hn]
        · rw [relDoR_off hb hn]; simp [hn]
    obtain ⟨a, e, b, he⟩ := relDoR_two (lastKey (IntKind.i64.wrap (n + 1)) ⟨#[]⟩ ks fs) n af es r
    simp only [stk, Int.reduceEq, Nat.reduceEqDiff, Int.reduceLE, Int.reduceLT]
    rw [← hfin, he]
    rw [he] at hd
    simp only [strP, intP] at hkey' hd
    refine Ev.bind hkey' ?_
    simp only [stk, Int.reduceEq, Nat.reduceEqDiff, Int.reduceLE, Int.reduceLT]
    refine Ev.bind hd ?_
    simp only [book_f0, book_f1, book_agg, stk, Int.reduceEq, Nat.reduceEqDiff, Int.reduceLE, Int.reduceLT]
    exact Ev.now _
theorem eqAs_len : ∀ (a b : List Aff), ¬ a.length = b.length → eqAs a b = false
  | [], [], h => absurd rfl h
  | [], _ :: _, _ => rfl
  | _ :: _, [], _ => rfl
  | x :: a, y :: b, h => by
    rw [eqAs, eqAs_len a b (fun h2 => h (by simp [h2])), Bool.and_false]
theorem l5Affs_loop {a b : List Aff} (hl : a.length = b.length) (ha : a.length ≤ 1000000000) : ∀ (ra pa rb pb : List Aff), a = pa ++ ra → b = pb ++ rb → pb.length = pa.length →
    Ev2 (fun N n => spec_l5Affixes.l0 N n (affsP a) (affsP b) (pa.length : Int)) [boolP (eqAs ra rb)] := by
  intro ra
  induction ra with
  | nil =>
    intro pa rb pb h1 h2 h3
    have e : rb = [] := by
      have l1 := congrArg List.length h1
      have l2 := congrArg List.length h2
      simp at l1 l2
      exact List.eq_nil_of_length_eq_zero (by omega)
    subst e
    refine Ev2.succ ?_
    simp only [spec_l5Affixes.l0_eq, affs_len, at_end h1, eqAs, stk, Int.reduceEq, Nat.reduceEqDiff, Int.reduceLE, Int.reduceLT]
    exact Ev2.now _
  | cons x ra ih =>
    intro pa rb pb h1 h2 h3
    cases rb with
    | nil =>
      exfalso
      have l1 := congrArg List.length h1
      have l2 := congrArg List.length h2
      simp at l1 l2; omega
    | cons y rb =>
      have s2 := at_lt h2
      have e2 := affs_elem h2
      rw [h3] at s2 e2
      refine Ev2.succ ?_
      simp only [spec_l5Affixes.l0_eq, affs_len, affs_elem h1, e2, at_lt h1, s2, at_next h1 (by omega), aff_f0, aff_f1, aff_f2, aff_f3, aff_f4, eqAs, stk, Int.reduceEq, Nat.reduceEqDiff, Int.reduceLE, Int.reduceLT]
      simp only [eqA_fold]
      have hih := ih _ _ _ (at_step h1) (at_step h2) (by simp [h3])
      rcases Bool.eq_false_or_eq_true (eqA x y) with he | he
      · simp only [he, stk, Int.reduceEq, Nat.reduceEqDiff, Int.reduceLE, Int.reduceLT]; exact hih
      · simp only [he, stk, Int.reduceEq, Nat.reduceEqDiff, Int.reduceLE, Int.reduceLT]; exact Ev2.now _
theorem l5Affs_ev (a b : List Aff) (ha : a.length ≤ 1000000000) : Ev (fun N => spec_l5Affixes.f N [affsP a, affsP b]) [boolP (eqAs a b)] := by
  by_cases hl : a.length = b.length
  · have c : ((a.length : Int) = (b.length : Int)) = True := tru (by omega)
    simp only [spec_l5Affixes.f_eq, affs_len, c, stk, Int.reduceEq, Nat.reduceEqDiff, Int.reduceLE, Int.reduceLT]
    exact (l5Affs_loop hl ha a [] b [] rfl rfl rfl).diag
  · have c : ((a.length : Int) = (b.length : Int)) = False := fls (by omega)
    simp only [spec_l5Affixes.f_eq, affs_len, c, eqAs_len a b hl, stk, Int.reduceEq, Nat.reduceEqDiff, Int.reduceLE, Int.reduceLT]
    exact Ev.now _
theorem at_there {es : List Ent} (h : ascE es) {s : ByteArray} (hs : s ∈ stems es) : ∃ x : Ent, (entsP es).elem (lessE s es).length = entP x ∧ x.stem = s ∧ (lessE s es).length < es.length ∧ ∀ e : Ent, e.stem = s → memE e es = decide (x.flags = e.flags) := by
  have ht := (there_iff s h).2 hs
  have hsp := less_from s es
  cases hf : fromE s es with
  | nil => unfold thereE at ht; rw [hf] at ht; cases ht
  | cons x r =>
    have hx : x.stem = s := by unfold thereE at ht; rw [hf] at ht; exact of_decide_eq_true ht
    rw [hf] at hsp
    have hlen := congrArg List.length hsp
    simp only [List.length_append, List.length_cons] at hlen
    refine ⟨x, ents_elem hsp.symm, hx, by omega, fun e he => ?_⟩
    apply Bool.eq_iff_iff.2
    rw [memE_iff, decide_eq_true_eq, from_head h hf hx e he]
    constructor
    · intro h2; rw [h2]
    · intro h2
      cases x; cases e
      simp only at hx he h2
      rw [hx, he, h2]
def newE (ea : List Ent) (l : List Ent) : List Ent := l.filter fun e => !memE e ea
def goE (eb : List Ent) (l : List Ent) : List ByteArray := stems (l.filter fun e => !decide (e.stem ∈ stems eb))
theorem newE_yes {ea : List Ent} {e : Ent} (r : List Ent) (h : memE e ea = true) : newE ea (e :: r) = newE ea r := by unfold newE; rw [List.filter_cons]; simp [h]
theorem newE_no {ea : List Ent} {e : Ent} (r : List Ent) (h : memE e ea = false) : newE ea (e :: r) = e :: newE ea r := by unfold newE; rw [List.filter_cons]; simp [h]
theorem goE_yes {eb : List Ent} {e : Ent} (r : List Ent) (h : e.stem ∈ stems eb) : goE eb (e :: r) = goE eb r := by unfold goE; rw [List.filter_cons]; simp [h]
theorem goE_no {eb : List Ent} {e : Ent} (r : List Ent) (h : ¬ e.stem ∈ stems eb) : goE eb (e :: r) = e.stem :: goE eb r := by
  have h2 : (!decide (e.stem ∈ stems eb)) = true := by rw [decide_eq_false h]; rfl
  unfold goE
  rw [List.filter_cons, if_pos h2]; rfl
def endD (aa ab : List Aff) (g : List ByteArray) (c : List Ent) : Del := ⟨g, c, !eqAs aa ab, if eqAs aa ab = true then [] else ab⟩
theorem memE_off {ea : List Ent} {e : Ent} (h : ¬ e.stem ∈ stems ea) : memE e ea = false := by
  cases hm : memE e ea with
  | false => rfl
  | true => exact absurd (List.mem_map_of_mem ((memE_iff e ea).1 hm)) h
theorem specDelta_l5 {aa ab : List Aff} {ea eb : List Ent} (haa : aa.length ≤ 1000000000) (hab : ab.length ≤ 1000000000) (hea : ea.length ≤ 1000000000) (heb : eb.length ≤ 1000000000) (hasc : ascE ea) (gs : List ByteArray) : ∀ (rest pre : List Ent) (cs : List Ent), eb = pre ++ rest → cs.length + rest.length ≤ 1000000000 → 
    Ev2 (fun N n => spec_DeltaOf.l5 N n (pre.length : Int) (affsP aa) (entsP ea) (affsP ab) (entsP eb) false false (gs.map strP) (cs.map entP)) [delP (endD aa ab gs (cs ++ newE ea rest))] := by
  intro rest
  induction rest with
  | nil =>
    intro pre cs hp hz
    refine Ev2.succ ?_
    simp only [spec_DeltaOf.l5_eq, ents_len, affs_len, at_end hp, stk, Int.reduceEq, Nat.reduceEqDiff, Int.reduceLE, Int.reduceLT]
    refine Ev2.bind (l5Affs_ev aa ab haa) ?_
    have en : newE ea [] = [] := rfl
    rw [en, List.append_nil]
    unfold endD
    have c0 : (0 + ab.length ≤ 1954687338268) = True := tru (by omega)
    have e4 : PV.list (affsP ab).items = affsP ab := rfl
    cases eqAs aa ab with
    | false => simp only [List.length_nil, c0, List.nil_append, e4, stk, Int.reduceEq, Nat.reduceEqDiff, Int.reduceLE, Int.reduceLT]; exact Ev2.now _
    | true => simp only [stk, Int.reduceEq, Nat.reduceEqDiff, Int.reduceLE, Int.reduceLT]; exact Ev2.now _
  | cons e rest ih =>
    intro pre cs hp hz
    rw [List.length_cons] at hz
    have hcl : ((cs.map entP).length + 1 ≤ 4398046511104) = True := tru (by rw [List.length_map]; omega)
    have ha := l5At_ev hea e.stem
    rw [there_eq hasc] at ha
    refine Ev2.succ ?_
    simp only [spec_DeltaOf.l5_eq, ents_len, ents_elem hp, at_lt hp, at_next hp (by omega), ent_f0, ent_f1, ent_agg, stk, Int.reduceEq, Nat.reduceEqDiff, Int.reduceLE, Int.reduceLT]
    refine Ev2.bind ha ?_
    by_cases hst : e.stem ∈ stems ea
    · obtain ⟨x, hx1, hx2, hx3, hx4⟩ := at_there hasc hst
      have hlt : (((lessE e.stem ea).length : Int) < (ea.length : Int)) = True := tru (by omega)
      have hst2 : (e.stem ∈ stems ea) = True := tru hst
      simp only [hst2, stk, Int.reduceEq, Nat.reduceEqDiff, Int.reduceLE, Int.reduceLT]
      simp only [hlt, hx1, ent_f0, ent_f1, hx2, eq_self, stk, Int.reduceEq, Nat.reduceEqDiff, Int.reduceLE, Int.reduceLT]
      by_cases hf : x.flags = e.flags
      · rw [newE_yes rest (by rw [hx4 e rfl]; simp [hf])]
        have := ih (pre ++ [e]) cs (at_step hp) (by omega)
        simp only [hf, eq_self, stk, Int.reduceEq, Nat.reduceEqDiff, Int.reduceLE, Int.reduceLT]
        exact this
      · rw [newE_no rest (by rw [hx4 e rfl]; simp [hf])]
        have := ih (pre ++ [e]) (cs ++ [e]) (at_step hp) (by rw [List.length_append, List.length_singleton]; omega)
        rw [List.map_append, List.append_assoc] at this
        simp only [hcl, hf, stk, Int.reduceEq, Nat.reduceEqDiff, Int.reduceLE, Int.reduceLT]
        exact this
    · rw [newE_no rest (memE_off hst)]
      have := ih (pre ++ [e]) (cs ++ [e]) (at_step hp) (by rw [List.length_append, List.length_singleton]; omega)
      rw [List.map_append, List.append_assoc] at this
      simp only [hcl, hst, stk, Int.reduceEq, Nat.reduceEqDiff, Int.reduceLE, Int.reduceLT]
      exact this
theorem specDelta_l4 {aa ab : List Aff} {ea eb : List Ent} (haa : aa.length ≤ 1000000000) (hab : ab.length ≤ 1000000000) (hea : ea.length ≤ 1000000000) (heb : eb.length ≤ 1000000000) (hasc : ascE ea) : ∀ (rest pre : List Ent) (cs : List Ent), eb = pre ++ rest → cs.length + rest.length ≤ 1000000000 → 
    Ev2 (fun N n => spec_DeltaOf.l4 N n (pre.length : Int) (affsP aa) (entsP ea) (affsP ab) (entsP eb) false false (cs.map entP)) [delP (endD aa ab [] (cs ++ newE ea rest))] := by
  intro rest
  induction rest with
  | nil =>
    intro pre cs hp hz
    refine Ev2.succ ?_
    simp only [spec_DeltaOf.l4_eq, ents_len, affs_len, at_end hp, stk, Int.reduceEq, Nat.reduceEqDiff, Int.reduceLE, Int.reduceLT]
    refine Ev2.bind (l5Affs_ev aa ab haa) ?_
    have en : newE ea [] = [] := rfl
    rw [en, List.append_nil]
    unfold endD
    have c0 : (0 + ab.length ≤ 1954687338268) = True := tru (by omega)
    have e4 : PV.list (affsP ab).items = affsP ab := rfl
    cases eqAs aa ab with
    | false => simp only [List.length_nil, c0, List.nil_append, e4, stk, Int.reduceEq, Nat.reduceEqDiff, Int.reduceLE, Int.reduceLT]; exact Ev2.now _
    | true => simp only [stk, Int.reduceEq, Nat.reduceEqDiff, Int.reduceLE, Int.reduceLT]; exact Ev2.now _
  | cons e rest ih =>
    intro pre cs hp hz
    rw [List.length_cons] at hz
    have hcl : ((cs.map entP).length + 1 ≤ 4398046511104) = True := tru (by rw [List.length_map]; omega)
    have ha := l5At_ev hea e.stem
    rw [there_eq hasc] at ha
    refine Ev2.succ ?_
    simp only [spec_DeltaOf.l4_eq, ents_len, ents_elem hp, at_lt hp, at_next hp (by omega), ent_f0, ent_f1, ent_agg, stk, Int.reduceEq, Nat.reduceEqDiff, Int.reduceLE, Int.reduceLT]
    refine Ev2.bind ha ?_
    by_cases hst : e.stem ∈ stems ea
    · obtain ⟨x, hx1, hx2, hx3, hx4⟩ := at_there hasc hst
      have hlt : (((lessE e.stem ea).length : Int) < (ea.length : Int)) = True := tru (by omega)
      have hst2 : (e.stem ∈ stems ea) = True := tru hst
      simp only [hst2, stk, Int.reduceEq, Nat.reduceEqDiff, Int.reduceLE, Int.reduceLT]
      simp only [hlt, hx1, ent_f0, ent_f1, hx2, eq_self, stk, Int.reduceEq, Nat.reduceEqDiff, Int.reduceLE, Int.reduceLT]
      by_cases hf : x.flags = e.flags
      · rw [newE_yes rest (by rw [hx4 e rfl]; simp [hf])]
        have := ih (pre ++ [e]) cs (at_step hp) (by omega)
        simp only [hf, eq_self, stk, Int.reduceEq, Nat.reduceEqDiff, Int.reduceLE, Int.reduceLT]
        exact this
      · rw [newE_no rest (by rw [hx4 e rfl]; simp [hf])]
        have := ih (pre ++ [e]) (cs ++ [e]) (at_step hp) (by rw [List.length_append, List.length_singleton]; omega)
        rw [List.map_append, List.append_assoc] at this
        simp only [hcl, hf, stk, Int.reduceEq, Nat.reduceEqDiff, Int.reduceLE, Int.reduceLT]
        exact this
    · rw [newE_no rest (memE_off hst)]
      have := ih (pre ++ [e]) (cs ++ [e]) (at_step hp) (by rw [List.length_append, List.length_singleton]; omega)
      rw [List.map_append, List.append_assoc] at this
      simp only [hcl, hst, stk, Int.reduceEq, Nat.reduceEqDiff, Int.reduceLE, Int.reduceLT]
      exact this
theorem specDelta_l3 {aa ab : List Aff} {ea eb : List Ent} (haa : aa.length ≤ 1000000000) (hab : ab.length ≤ 1000000000) (hea : ea.length ≤ 1000000000) (heb : eb.length ≤ 1000000000) (hasc : ascE ea) (gs : List ByteArray) : ∀ (rest pre : List Ent), eb = pre ++ rest → 
    Ev2 (fun N n => spec_DeltaOf.l3 N n (pre.length : Int) (affsP aa) (entsP ea) (affsP ab) (entsP eb) false false (gs.map strP)) [delP (endD aa ab gs ([] ++ newE ea rest))] := by
  intro rest
  induction rest with
  | nil =>
    intro pre hp
    refine Ev2.succ ?_
    simp only [spec_DeltaOf.l3_eq, ents_len, affs_len, at_end hp, stk, Int.reduceEq, Nat.reduceEqDiff, Int.reduceLE, Int.reduceLT]
    refine Ev2.bind (l5Affs_ev aa ab haa) ?_
    have en : newE ea [] = [] := rfl
    rw [en, List.append_nil]
    unfold endD
    have c0 : (0 + ab.length ≤ 1954687338268) = True := tru (by omega)
    have e4 : PV.list (affsP ab).items = affsP ab := rfl
    cases eqAs aa ab with
    | false => simp only [List.length_nil, c0, List.nil_append, e4, stk, Int.reduceEq, Nat.reduceEqDiff, Int.reduceLE, Int.reduceLT]; exact Ev2.now _
    | true => simp only [stk, Int.reduceEq, Nat.reduceEqDiff, Int.reduceLE, Int.reduceLT]; exact Ev2.now _
  | cons e rest ih =>
    intro pre hp
    have hcl : (0 + 1 ≤ 4398046511104) = True := tru (by omega)
    have ha := l5At_ev hea e.stem
    rw [there_eq hasc] at ha
    refine Ev2.succ ?_
    simp only [spec_DeltaOf.l3_eq, ents_len, ents_elem hp, at_lt hp, at_next hp (by omega), ent_f0, ent_f1, ent_agg, stk, Int.reduceEq, Nat.reduceEqDiff, Int.reduceLE, Int.reduceLT]
    refine Ev2.bind ha ?_
    by_cases hst : e.stem ∈ stems ea
    · obtain ⟨x, hx1, hx2, hx3, hx4⟩ := at_there hasc hst
      have hlt : (((lessE e.stem ea).length : Int) < (ea.length : Int)) = True := tru (by omega)
      have hst2 : (e.stem ∈ stems ea) = True := tru hst
      simp only [hst2, stk, Int.reduceEq, Nat.reduceEqDiff, Int.reduceLE, Int.reduceLT]
      simp only [hlt, hx1, ent_f0, ent_f1, hx2, eq_self, stk, Int.reduceEq, Nat.reduceEqDiff, Int.reduceLE, Int.reduceLT]
      by_cases hf : x.flags = e.flags
      · rw [newE_yes rest (by rw [hx4 e rfl]; simp [hf])]
        have := ih (pre ++ [e]) (at_step hp)
        simp only [hf, eq_self, stk, Int.reduceEq, Nat.reduceEqDiff, Int.reduceLE, Int.reduceLT]
        exact this
      · rw [newE_no rest (by rw [hx4 e rfl]; simp [hf])]
        have := specDelta_l5 haa hab hea heb hasc gs rest (pre ++ [e]) [e] (at_step hp) (by have := congrArg List.length hp; simp at this; simp; omega)
        simp only [List.length_nil, List.nil_append, hcl, hf, stk, Int.reduceEq, Nat.reduceEqDiff, Int.reduceLE, Int.reduceLT]
        exact this
    · rw [newE_no rest (memE_off hst)]
      have := specDelta_l5 haa hab hea heb hasc gs rest (pre ++ [e]) [e] (at_step hp) (by have := congrArg List.length hp; simp at this; simp; omega)
      simp only [List.length_nil, List.nil_append, hcl, hst, stk, Int.reduceEq, Nat.reduceEqDiff, Int.reduceLE, Int.reduceLT]
      exact this
theorem specDelta_l2 {aa ab : List Aff} {ea eb : List Ent} (haa : aa.length ≤ 1000000000) (hab : ab.length ≤ 1000000000) (hea : ea.length ≤ 1000000000) (heb : eb.length ≤ 1000000000) (hasc : ascE ea) : ∀ (rest pre : List Ent), eb = pre ++ rest → 
    Ev2 (fun N n => spec_DeltaOf.l2 N n (pre.length : Int) (affsP aa) (entsP ea) (affsP ab) (entsP eb) false false) [delP (endD aa ab [] ([] ++ newE ea rest))] := by
  intro rest
  induction rest with
  | nil =>
    intro pre hp
    refine Ev2.succ ?_
    simp only [spec_DeltaOf.l2_eq, ents_len, affs_len, at_end hp, stk, Int.reduceEq, Nat.reduceEqDiff, Int.reduceLE, Int.reduceLT]
    refine Ev2.bind (l5Affs_ev aa ab haa) ?_
    have en : newE ea [] = [] := rfl
    rw [en, List.append_nil]
    unfold endD
    have c0 : (0 + ab.length ≤ 1954687338268) = True := tru (by omega)
    have e4 : PV.list (affsP ab).items = affsP ab := rfl
    cases eqAs aa ab with
    | false => simp only [List.length_nil, c0, List.nil_append, e4, stk, Int.reduceEq, Nat.reduceEqDiff, Int.reduceLE, Int.reduceLT]; exact Ev2.now _
    | true => simp only [stk, Int.reduceEq, Nat.reduceEqDiff, Int.reduceLE, Int.reduceLT]; exact Ev2.now _
  | cons e rest ih =>
    intro pre hp
    have hcl : (0 + 1 ≤ 4398046511104) = True := tru (by omega)
    have ha := l5At_ev hea e.stem
    rw [there_eq hasc] at ha
    refine Ev2.succ ?_
    simp only [spec_DeltaOf.l2_eq, ents_len, ents_elem hp, at_lt hp, at_next hp (by omega), ent_f0, ent_f1, ent_agg, stk, Int.reduceEq, Nat.reduceEqDiff, Int.reduceLE, Int.reduceLT]
    refine Ev2.bind ha ?_
    by_cases hst : e.stem ∈ stems ea
    · obtain ⟨x, hx1, hx2, hx3, hx4⟩ := at_there hasc hst
      have hlt : (((lessE e.stem ea).length : Int) < (ea.length : Int)) = True := tru (by omega)
      have hst2 : (e.stem ∈ stems ea) = True := tru hst
      simp only [hst2, stk, Int.reduceEq, Nat.reduceEqDiff, Int.reduceLE, Int.reduceLT]
      simp only [hlt, hx1, ent_f0, ent_f1, hx2, eq_self, stk, Int.reduceEq, Nat.reduceEqDiff, Int.reduceLE, Int.reduceLT]
      by_cases hf : x.flags = e.flags
      · rw [newE_yes rest (by rw [hx4 e rfl]; simp [hf])]
        have := ih (pre ++ [e]) (at_step hp)
        simp only [hf, eq_self, stk, Int.reduceEq, Nat.reduceEqDiff, Int.reduceLE, Int.reduceLT]
        exact this
      · rw [newE_no rest (by rw [hx4 e rfl]; simp [hf])]
        have := specDelta_l4 haa hab hea heb hasc rest (pre ++ [e]) [e] (at_step hp) (by have := congrArg List.length hp; simp at this; simp; omega)
        simp only [List.length_nil, List.nil_append, hcl, hf, stk, Int.reduceEq, Nat.reduceEqDiff, Int.reduceLE, Int.reduceLT]
        exact this
    · rw [newE_no rest (memE_off hst)]
      have := specDelta_l4 haa hab hea heb hasc rest (pre ++ [e]) [e] (at_step hp) (by have := congrArg List.length hp; simp at this; simp; omega)
      simp only [List.length_nil, List.nil_append, hcl, hst, stk, Int.reduceEq, Nat.reduceEqDiff, Int.reduceLE, Int.reduceLT]
      exact this
theorem specDelta_l1 {aa ab : List Aff} {ea eb : List Ent} (haa : aa.length ≤ 1000000000) (hab : ab.length ≤ 1000000000) (hea : ea.length ≤ 1000000000) (heb : eb.length ≤ 1000000000) (hasc : ascE ea) (hbsc : ascE eb) : ∀ (rest pre : List Ent) (gs : List ByteArray), ea = pre ++ rest → gs.length + rest.length ≤ 1000000000 → 
    Ev2 (fun N n => spec_DeltaOf.l1 N n (pre.length : Int) (affsP aa) (entsP ea) (affsP ab) (entsP eb) false false (gs.map strP)) [delP (endD aa ab (gs ++ goE eb rest) (newE ea eb))] := by
  intro rest
  induction rest with
  | nil =>
    intro pre gs hp hz
    have en : goE eb [] = [] := rfl
    rw [en, List.append_nil]
    refine Ev2.succ ?_
    simp only [spec_DeltaOf.l1_eq, ents_len, at_end hp, stk, Int.reduceEq, Nat.reduceEqDiff, Int.reduceLE, Int.reduceLT]
    exact (specDelta_l3 haa hab hea heb hasc gs eb [] rfl).after
  | cons e rest ih =>
    intro pre gs hp hz
    rw [List.length_cons] at hz
    have hcl : ((gs.map strP).length + 1 ≤ 8796093022208) = True := tru (by rw [List.length_map]; omega)
    have ha := l5At_ev heb e.stem
    rw [there_eq hbsc] at ha
    refine Ev2.succ ?_
    simp only [spec_DeltaOf.l1_eq, ents_len, ents_elem hp, at_lt hp, at_next hp (by omega), ent_f0, stk, Int.reduceEq, Nat.reduceEqDiff, Int.reduceLE, Int.reduceLT]
    refine Ev2.bind ha ?_
    by_cases hst : e.stem ∈ stems eb
    · rw [goE_yes rest hst]
      have := ih (pre ++ [e]) gs (at_step hp) (by omega)
      have hst2 : (e.stem ∈ stems eb) = True := tru hst
      simp only [hst2, stk, Int.reduceEq, Nat.reduceEqDiff, Int.reduceLE, Int.reduceLT]
      exact this
    · rw [goE_no rest hst]
      have := ih (pre ++ [e]) (gs ++ [e.stem]) (at_step hp) (by rw [List.length_append, List.length_singleton]; omega)
      rw [List.map_append, List.append_assoc] at this
      simp only [hcl, hst, stk, Int.reduceEq, Nat.reduceEqDiff, Int.reduceLE, Int.reduceLT]
      exact this
theorem specDelta_l0 {aa ab : List Aff} {ea eb : List Ent} (haa : aa.length ≤ 1000000000) (hab : ab.length ≤ 1000000000) (hea : ea.length ≤ 1000000000) (heb : eb.length ≤ 1000000000) (hasc : ascE ea) (hbsc : ascE eb) : ∀ (rest pre : List Ent), ea = pre ++ rest → 
    Ev2 (fun N n => spec_DeltaOf.l0 N n (pre.length : Int) (affsP aa) (entsP ea) (affsP ab) (entsP eb) false false) [delP (endD aa ab ([] ++ goE eb rest) (newE ea eb))] := by
  intro rest
  induction rest with
  | nil =>
    intro pre hp
    have en : goE eb [] = [] := rfl
    rw [en, List.append_nil]
    refine Ev2.succ ?_
    simp only [spec_DeltaOf.l0_eq, ents_len, at_end hp, stk, Int.reduceEq, Nat.reduceEqDiff, Int.reduceLE, Int.reduceLT]
    exact (specDelta_l2 haa hab hea heb hasc eb [] rfl).after
  | cons e rest ih =>
    intro pre hp
    have hcl : (0 + 1 ≤ 8796093022208) = True := tru (by omega)
    have ha := l5At_ev heb e.stem
    rw [there_eq hbsc] at ha
    refine Ev2.succ ?_
    simp only [spec_DeltaOf.l0_eq, ents_len, ents_elem hp, at_lt hp, at_next hp (by omega), ent_f0, stk, Int.reduceEq, Nat.reduceEqDiff, Int.reduceLE, Int.reduceLT]
    refine Ev2.bind ha ?_
    by_cases hst : e.stem ∈ stems eb
    · rw [goE_yes rest hst]
      have := ih (pre ++ [e]) (at_step hp)
      have hst2 : (e.stem ∈ stems eb) = True := tru hst
      simp only [hst2, stk, Int.reduceEq, Nat.reduceEqDiff, Int.reduceLE, Int.reduceLT]
      exact this
    · rw [goE_no rest hst]
      have := specDelta_l1 haa hab hea heb hasc hbsc rest (pre ++ [e]) [e.stem] (at_step hp) (by have := congrArg List.length hp; simp at this; simp; omega)
      simp only [List.length_nil, List.nil_append, hcl, hst, stk, Int.reduceEq, Nat.reduceEqDiff, Int.reduceLE, Int.reduceLT]
      exact this
theorem endD_eq (aa ab : List Aff) (ea eb : List Ent) : endD aa ab (goE eb ea) (newE ea eb) = deltaM aa ea ab eb := rfl
theorem specDelta_ev {aa ab : List Aff} {ea eb : List Ent} (hA : BookS aa ea) (hB : BookS ab eb) (ha : bookB aa ea = true) (hb : bookB ab eb = true) : Ev (fun N => spec_DeltaOf.f N [bookP aa ea, bookP ab eb]) [delP (deltaM aa ea ab eb)] := by
  simp only [spec_DeltaOf.f_eq, book_f0, book_f1, book_agg, stk, Int.reduceEq, Nat.reduceEqDiff, Int.reduceLE, Int.reduceLT]
  refine Ev.bind (specBookOk_ev hA) ?_
  simp only [ha, stk, Int.reduceEq, Nat.reduceEqDiff, Int.reduceLE, Int.reduceLT]
  refine Ev.bind (specBookOk_ev hB) ?_
  simp only [hb, stk, Int.reduceEq, Nat.reduceEqDiff, Int.reduceLE, Int.reduceLT]
  have := (specDelta_l0 hA.al hB.al hA.el hB.el (bookB_asc ha) (bookB_asc hb) ea [] rfl).diag
  rw [List.nil_append, endD_eq] at this
  exact this
def noRel : Rel := ⟨0, ⟨[], [], false, []⟩, ⟨#[]⟩, ⟨#[]⟩⟩
theorem noRel_agg : PV.agg [PV.sc (.int .i64 0), PV.agg [PV.list [], PV.list [], PV.sc (.bool false), PV.list []], PV.sc (.string (ByteArray.mk #[])), PV.sc (.string (ByteArray.mk #[]))] = relP noRel := rfl
theorem deltaM_S {aa ab : List Aff} {ea eb : List Ent} (hA : BookS aa ea) (hB : BookS ab eb) : DelS (deltaM aa ea ab eb) := by
  have h1 := hA.el; have h2 := hB.el; have h3 := hB.al
  have l1 := List.length_filter_le (fun e : Ent => !decide (e.stem ∈ stems eb)) ea
  have l2 := List.length_filter_le (fun e : Ent => !memE e ea) eb
  refine ⟨?_, fun s hs => ?_, ?_, fun e he => hB.e e (List.mem_filter.1 he).1, ?_, fun a ha => ?_⟩
  · show (stems (ea.filter fun e : Ent => !decide (e.stem ∈ stems eb))).length ≤ _
    rw [stems, List.length_map]; omega
  · obtain ⟨e, he, rfl⟩ := List.mem_map.1 hs
    exact (hA.e e (List.mem_filter.1 he).1).stem
  · show (eb.filter fun e : Ent => !memE e ea).length ≤ _
    omega
  · show (if eqAs aa ab = true then [] else ab).length ≤ _
    split
    · simp
    · exact h3
  · have ha' : a ∈ (if eqAs aa ab = true then [] else ab) := ha
    split at ha'
    · cases ha'
    · exact hB.a a ha'
def madeR (k : ByteArray) (n : Int) (aa : List Aff) (ea : List Ent) (ab : List Aff) (eb : List Ent) : Rel :=
  ⟨n + 1, deltaM aa ea ab eb, sumB (bookT ab eb), sealM k (relT (n + 1).toNat (deltaM aa ea ab eb) (sumB (bookT ab eb)))⟩
def relOfR (k : ByteArray) (n : Int) (aa : List Aff) (ea : List Ent) (ab : List Aff) (eb : List Ent) : List PV :=
  if keyM k = true then (if 0 ≤ n ∧ n ≤ 999998 then (if bookB aa ea = true then (if bookB ab eb = true then (if frmB (madeR k n aa ea ab eb) = true then [relP (madeR k n aa ea ab eb), boolP true] else [relP noRel, boolP false]) else [relP noRel, boolP false]) else [relP noRel, boolP false]) else [relP noRel, boolP false]) else [relP noRel, boolP false]
theorem sumB_size (s : ByteArray) : (sumB s).size = 64 := by rw [sumB, hexB_size, shaB_size]
theorem specRelOf_ev {aa ab : List Aff} {ea eb : List Ent} (hA : BookS aa ea) (hB : BookS ab eb) (k : ByteArray) (hk : k.size ≤ 1000000000) (n : Int) : Ev (fun N => spec_ReleaseOf.f N [strP k, intP n, bookP aa ea, bookP ab eb]) (relOfR k n aa ea ab eb) := by
  have hkv := specKey_val k (by omega)
  simp only [strP] at hkv
  simp only [spec_ReleaseOf.f_eq, book_f0, book_f1, book_agg, hkv, specIn_val, noRel_agg, stk, Int.reduceEq, Nat.reduceEqDiff, Int.reduceLE, Int.reduceLT]
  unfold relOfR
  cases h0 : keyM k with
  | false => simp only [stk, Int.reduceEq, Nat.reduceEqDiff, Int.reduceLE, Int.reduceLT]; exact Ev.now _
  | true =>
    by_cases hn : 0 ≤ n ∧ n ≤ 999998
    · have hw : IntKind.i64.wrap (n + 1) = n + 1 := wrap_id (by omega) (by omega)
      simp only [hn, hw, stk, Int.reduceEq, Nat.reduceEqDiff, Int.reduceLE, Int.reduceLT]
      refine Ev.bind (specBookOk_ev hA) ?_
      cases ha : bookB aa ea with
      | false => simp only [stk, Int.reduceEq, Nat.reduceEqDiff, Int.reduceLE, Int.reduceLT]; exact Ev.now _
      | true =>
        simp only [stk, Int.reduceEq, Nat.reduceEqDiff, Int.reduceLE, Int.reduceLT]
        refine Ev.bind (specBookOk_ev hB) ?_
        cases hb : bookB ab eb with
        | false => simp only [stk, Int.reduceEq, Nat.reduceEqDiff, Int.reduceLE, Int.reduceLT]; exact Ev.now _
        | true =>
          have hdo := deltaM_ok ha hb
          have hdS := deltaM_S hA hB
          have hsm := smallB_of hb
          have hz := bookT_size hsm
          have hse := specSum_ev (bookT ab eb) (by omega)
          have hnum : numB (n + 1) = true := by simp only [numB, decide_eq_true_eq]; omega
          have ht := specRelText_ev (r := ⟨n + 1, deltaM aa ea ab eb, sumB (bookT ab eb), ⟨#[]⟩⟩) hnum (delW_of hdo) (by show (sumB _).size ≤ 64; rw [sumB_size]; omega)
          have hsz := relT_size (n := (n + 1).toNat) (by omega) (delW_of hdo) (sum := sumB (bookT ab eb)) (by rw [sumB_size]; omega)
          have hsl := specSeal_ev k (relT (n + 1).toNat (deltaM aa ea ab eb) (sumB (bookT ab eb))) (by omega) (by omega)
          have hfo := specForm_ev (r := madeR k n aa ea ab eb) hdS
          have ea1 : relP ⟨n + 1, deltaM aa ea ab eb, sumB (bookT ab eb), ⟨#[]⟩⟩ = PV.agg [PV.sc (.int .i64 (n + 1)), delP (deltaM aa ea ab eb), PV.sc (.string (sumB (bookT ab eb))), PV.sc (.string (ByteArray.mk #[]))] := rfl
          have ea2 : relP (madeR k n aa ea ab eb) = PV.agg [PV.sc (.int .i64 (n + 1)), delP (deltaM aa ea ab eb), PV.sc (.string (sumB (bookT ab eb))), PV.sc (.string (sealM k (relT (n + 1).toNat (deltaM aa ea ab eb) (sumB (bookT ab eb)))))] := rfl
          rw [ea1] at ht
          rw [ea2] at hfo
          simp only [strP] at hse hsl
          simp only [stk, Int.reduceEq, Nat.reduceEqDiff, Int.reduceLE, Int.reduceLT]
          refine Ev.bind (specDelta_ev hA hB ha hb) ?_
          simp only [del_f0, del_f1, del_f2, del_f3, del_agg, stk, Int.reduceEq, Nat.reduceEqDiff, Int.reduceLE, Int.reduceLT]
          refine Ev.bind (specPutB_ev hsm) ?_
          simp only [stk, Int.reduceEq, Nat.reduceEqDiff, Int.reduceLE, Int.reduceLT]
          refine Ev.bind hse ?_
          simp only [stk, Int.reduceEq, Nat.reduceEqDiff, Int.reduceLE, Int.reduceLT]
          refine Ev.bind ht ?_
          simp only [stk, Int.reduceEq, Nat.reduceEqDiff, Int.reduceLE, Int.reduceLT]
          refine Ev.bind hsl ?_
          simp only [stk, Int.reduceEq, Nat.reduceEqDiff, Int.reduceLE, Int.reduceLT]
          refine Ev.bind hfo ?_
          rw [ea2]
          cases frmB (madeR k n aa ea ab eb) with
          | false => simp only [stk, Int.reduceEq, Nat.reduceEqDiff, Int.reduceLE, Int.reduceLT]; exact Ev.now _
          | true => simp only [stk, Int.reduceEq, Nat.reduceEqDiff, Int.reduceLE, Int.reduceLT]; exact Ev.now _
    · simp only [hn, stk, Int.reduceEq, Nat.reduceEqDiff, Int.reduceLE, Int.reduceLT]; exact Ev.now _
theorem relOfR_two (k : ByteArray) (n : Int) (aa : List Aff) (ea : List Ent) (ab : List Aff) (eb : List Ent) : ∃ (r : Rel) (b : Bool), relOfR k n aa ea ab eb = [relP r, boolP b] ∧ (r = noRel ∨ r = madeR k n aa ea ab eb) := by
  unfold relOfR
  repeat' split
  all_goals first | exact ⟨_, _, rfl, .inr rfl⟩ | exact ⟨_, _, rfl, .inl rfl⟩
theorem noRel_S : DelS noRel.del := ⟨Nat.zero_le _, (fun s hs => by cases hs), Nat.zero_le _, (fun e he => by cases he), Nat.zero_le _, (fun a ha => by cases ha)⟩
def ringRelR (ks : List ByteArray) (fs : List Int) (n : Int) (aa : List Aff) (ea : List Ent) (ab : List Aff) (eb : List Ent) : List PV :=
  if ringM ks fs = true then (if 0 ≤ n ∧ n ≤ 999998 then relOfR (lastKey (n + 1) ⟨#[]⟩ ks fs) n aa ea ab eb else [relP noRel, boolP false]) else [relP noRel, boolP false]
theorem relOfR_off {k : ByteArray} {n : Int} {aa ab : List Aff} {ea eb : List Ent} (h : ¬ (0 ≤ n ∧ n ≤ 999998)) : relOfR k n aa ea ab eb = [relP noRel, boolP false] := by
  unfold relOfR
  rw [if_neg h]; split <;> rfl
theorem specRingRel_ev {ks : List ByteArray} {fs : List Int} (hf : fs.length ≤ 1000000000) (hk : ks.length ≤ 1000000000) (hks : ∀ k ∈ ks, k.size ≤ 1000000000) {aa ab : List Aff} {ea eb : List Ent} (hA : BookS aa ea) (hB : BookS ab eb) (n : Int) :
    Ev (fun N => spec_RingRelease.f N [ringP ks fs, intP n, bookP aa ea, bookP ab eb]) (ringRelR ks fs n aa ea ab eb) := by
  have hks' : ∀ k ∈ ks, k.size ≤ 9223372036854775807 := fun k h => by have := hks k h; omega
  simp only [spec_RingRelease.f_eq, ring_f0, ring_f1, ring_agg, book_f0, book_f1, book_agg, noRel_agg, stk, Int.reduceEq, Nat.reduceEqDiff, Int.reduceLE, Int.reduceLT]
  unfold ringRelR
  refine Ev.bind (specRingOk_ev ks fs (by omega) (by omega) hks') ?_
  cases hr : ringM ks fs with
  | false => simp only [stk, Int.reduceEq, Nat.reduceEqDiff, Int.reduceLE, Int.reduceLT]; exact Ev.now _
  | true =>
    have hkey := (specL11_loop ks fs (IntKind.i64.wrap (n + 1)) (ringM_len hr).2.2 (by omega) ks [] fs [] rfl rfl rfl ⟨#[]⟩).diag
    have hkey' : Ev (fun N => spec_l11Key.f N [ringP ks fs, intP (IntKind.i64.wrap (n + 1))]) [strP (lastKey (IntKind.i64.wrap (n + 1)) ⟨#[]⟩ ks fs)] := by
      simp only [spec_l11Key.f_eq, ring_f0, ring_f1, stk, Int.reduceEq, Nat.reduceEqDiff, Int.reduceLE, Int.reduceLT]
      exact hkey
    have hd := specRelOf_ev hA hB (lastKey (IntKind.i64.wrap (n + 1)) ⟨#[]⟩ ks fs) (lastKey_size _ _ _ _ (by rw [c_zero]; omega) hks) n
    have hfin : relOfR (lastKey (IntKind.i64.wrap (n + 1)) ⟨#[]⟩ ks fs) n aa ea ab eb = if 0 ≤ n ∧ n ≤ 999998 then relOfR (lastKey (n + 1) ⟨#[]⟩ ks fs) n aa ea ab eb else [relP noRel, boolP false] := by
      by_cases hn : 0 ≤ n ∧ n ≤ 999998
      · rw [wrap_id (by omega) (by omega), if_pos hn]
      · rw [relOfR_off hn, if_neg hn]
    obtain ⟨r, b, he, -⟩ := relOfR_two (lastKey (IntKind.i64.wrap (n + 1)) ⟨#[]⟩ ks fs) n aa ea ab eb
    simp only [stk, Int.reduceEq, Nat.reduceEqDiff, Int.reduceLE, Int.reduceLT]
    rw [← hfin, he]
    rw [he] at hd
    simp only [strP, intP] at hkey' hd
    refine Ev.bind hkey' ?_
    simp only [stk, Int.reduceEq, Nat.reduceEqDiff, Int.reduceLE, Int.reduceLT]
    refine Ev.bind hd ?_
    simp only [rel_f0, rel_f1, rel_f2, rel_f3, del_f0, del_f1, del_f2, del_f3, del_agg, rel_agg, stk, Int.reduceEq, Nat.reduceEqDiff, Int.reduceLE, Int.reduceLT]
    exact Ev.now _
theorem ringRelR_two (ks : List ByteArray) (fs : List Int) (n : Int) {aa ab : List Aff} {ea eb : List Ent} (hA : BookS aa ea) (hB : BookS ab eb) : ∃ (r : Rel) (b : Bool), ringRelR ks fs n aa ea ab eb = [relP r, boolP b] ∧ DelS r.del := by
  unfold ringRelR
  split
  · split
    · obtain ⟨r, b, he, hr⟩ := relOfR_two (lastKey (n + 1) ⟨#[]⟩ ks fs) n aa ea ab eb
      refine ⟨r, b, he, ?_⟩
      rcases hr with rfl | rfl
      · exact noRel_S
      · exact deltaM_S hA hB
    · exact ⟨noRel, false, rfl, noRel_S⟩
  · exact ⟨noRel, false, rfl, noRel_S⟩
theorem mdBook_l1 {af : List Aff} {es : List Ent} (hl : es.length ≤ 1000000000) : ∀ (rest pre : List Ent), es = pre ++ rest →
    Ev2 (fun N n => laws_mdBook.l1 N n (pre.length : Int) (affsP af) (entsP es) (affsP af) (entsP es)) [boolP true] := by
  intro rest
  induction rest with
  | nil =>
    intro pre hp
    refine Ev2.succ ?_
    simp only [laws_mdBook.l1_eq, ents_len, at_end hp, stk, Int.reduceEq, Nat.reduceEqDiff, Int.reduceLE, Int.reduceLT]
    exact Ev2.now _
  | cons e rest ih =>
    intro pre hp
    refine Ev2.succ ?_
    simp only [laws_mdBook.l1_eq, ents_len, ents_elem hp, at_lt hp, at_next hp (by omega), ent_f0, ent_f1, eq_self, stk, Int.reduceEq, Nat.reduceEqDiff, Int.reduceLE, Int.reduceLT]
    exact ih _ (at_step hp)
theorem mdBook_l0 {af : List Aff} {es : List Ent} (ha : af.length ≤ 1000000000) (hl : es.length ≤ 1000000000) : ∀ (rest pre : List Aff), af = pre ++ rest →
    Ev2 (fun N n => laws_mdBook.l0 N n (pre.length : Int) (affsP af) (entsP es) (affsP af) (entsP es)) [boolP true] := by
  intro rest
  induction rest with
  | nil =>
    intro pre hp
    refine Ev2.succ ?_
    simp only [laws_mdBook.l0_eq, affs_len, at_end hp, stk, Int.reduceEq, Nat.reduceEqDiff, Int.reduceLE, Int.reduceLT]
    exact (mdBook_l1 hl es [] rfl).after
  | cons e rest ih =>
    intro pre hp
    refine Ev2.succ ?_
    simp only [laws_mdBook.l0_eq, affs_len, affs_elem hp, at_lt hp, at_next hp (by omega), aff_f0, aff_f1, aff_f2, aff_f3, aff_f4, eq_self, stk, Int.reduceEq, Nat.reduceEqDiff, Int.reduceLE, Int.reduceLT]
    exact ih _ (at_step hp)
theorem mdBook_ev (af : List Aff) (es : List Ent) (ha : af.length ≤ 1000000000) (hl : es.length ≤ 1000000000) : Ev (fun N => laws_mdBook.f N [bookP af es, bookP af es]) [boolP true] := by
  simp only [laws_mdBook.f_eq, book_f0, book_f1, affs_len, ents_len, eq_self, stk, Int.reduceEq, Nat.reduceEqDiff, Int.reduceLE, Int.reduceLT]
  exact (mdBook_l0 ha hl af [] rfl).diag
theorem BookB.s2 {af : List Aff} {es : List Ent} (h : BookB af es) : BookS af es :=
  BookD.s ⟨by have := h.a.n; omega, by have := h.n; omega, fun a ha => affLL_small a (h.a.s a ha), fun e he => by have := h.s e he; have := flags_size this.2; omega⟩
theorem drawRD_ev {l : List PV} (hl : l.length ≤ 1048576) (hby : ∀ j, 0 ≤ ((PV.list l).elem j).toInt ∧ ((PV.list l).elem j).toInt ≤ 255) :
    ∃ (ks : List ByteArray) (fs : List Int) (n : Int) (af : List Aff) (es : List Ent) (r : Rel), RingB ks fs ∧ 0 ≤ n ∧ n ≤ 100 ∧ BookD af es ∧ DelS r.del ∧ Ev (fun N => spec_DrawRingDo.f N [PV.list l]) [ringP ks fs, intP n, bookP af es, relP r] := by
  obtain ⟨b, hb, hop⟩ := open_ev hl hby
  obtain ⟨ks, fs, q1, hr, hq1, hv⟩ := anyRing_ev hb 0 (by omega)
  obtain ⟨af, es, q2, a1, hD, a3⟩ := anyBook_ev hb q1 (by omega)
  obtain ⟨n, ⟨hn1, hn2⟩, hpk1⟩ := pick_ev hb (p := (q2 : Int)) (n := 12) (by omega) (by omega)
  have e1 : (q2 : Int) + 1 = ((q2 + 1 : Nat) : Int) := by omega
  rw [e1] at hpk1
  obtain ⟨af2, es2, q3, b1, hB, b3⟩ := book_ev hb (q2 + 1) (by omega)
  obtain ⟨p2, ⟨hp1, hp2⟩, hpk2⟩ := pick_ev hb (p := (q3 : Int)) (n := 3) (by omega) (by omega)
  have e2 : (q3 : Int) + 1 = ((q3 + 1 : Nat) : Int) := by omega
  rw [e2] at hpk2
  obtain ⟨af3, es3, q4, d1, hB3, d3⟩ := book_ev hb (q3 + 1) (by omega)
  have hks : ∀ k ∈ ks, k.size ≤ 1000000000 := fun k hk => by have := hr.sk k hk; omega
  have hrel := specRingRel_ev (by have := hr.nf; omega) (by have := hr.nk; omega) hks hD.s hB.s2 n (ks := ks) (fs := fs)
  obtain ⟨r, rb, her, hrS⟩ := ringRelR_two ks fs n hD.s hB.s2
  rw [her] at hrel
  have hof := specRelOf_ev hD.s hB3.s2 (ByteArray.mk #[107, 101, 121]) (by show 3 ≤ _; omega) n
  obtain ⟨r3, rb3, her3, hr3⟩ := relOfR_two (ByteArray.mk #[107, 101, 121]) n af es af3 es3
  rw [her3] at hof
  have hrS3 : DelS r3.del := by
    rcases hr3 with rfl | rfl
    · exact noRel_S
    · exact deltaM_S hD.s hB3.s2
  simp only [Int.natCast_zero] at hv
  simp only [strP, intP] at hof hrel
  by_cases h0 : p2 = 0
  · refine ⟨ks, fs, n, af, es, r3, hr, hn1, by omega, hD, hrS3, ?_⟩
    simp only [spec_DrawRingDo.f_eq, hop, rd_f0, rd_f1, rd_agg, stk, Int.reduceEq, Nat.reduceEqDiff, Int.reduceLE, Int.reduceLT]
    refine Ev.bind hv ?_
    simp only [rd_f0, rd_f1, rd_agg, ring_f0, ring_f1, ring_agg, stk, Int.reduceEq, Nat.reduceEqDiff, Int.reduceLE, Int.reduceLT]
    refine Ev.bind a3 ?_
    simp only [rd_f0, rd_f1, rd_agg, book_f0, book_f1, book_agg, hpk1, stk, Int.reduceEq, Nat.reduceEqDiff, Int.reduceLE, Int.reduceLT]
    refine Ev.bind b3 ?_
    simp only [rd_f0, rd_f1, rd_agg, book_f0, book_f1, book_agg, stk, Int.reduceEq, Nat.reduceEqDiff, Int.reduceLE, Int.reduceLT]
    refine Ev.bind hrel ?_
    simp only [hpk2, rd_f0, rd_f1, rd_agg, h0, eq_self, stk, Int.reduceEq, Nat.reduceEqDiff, Int.reduceLE, Int.reduceLT]
    refine Ev.bind d3 ?_
    simp only [rd_f0, rd_f1, rd_agg, book_f0, book_f1, book_agg, stk, Int.reduceEq, Nat.reduceEqDiff, Int.reduceLE, Int.reduceLT]
    refine Ev.bind hof ?_
    simp only [rel_f0, rel_f1, rel_f2, rel_f3, del_f0, del_f1, del_f2, del_f3, del_agg, rel_agg, stk, Int.reduceEq, Nat.reduceEqDiff, Int.reduceLE, Int.reduceLT]
    exact Ev.now _
  · refine ⟨ks, fs, n, af, es, r, hr, hn1, by omega, hD, hrS, ?_⟩
    simp only [spec_DrawRingDo.f_eq, hop, rd_f0, rd_f1, rd_agg, stk, Int.reduceEq, Nat.reduceEqDiff, Int.reduceLE, Int.reduceLT]
    refine Ev.bind hv ?_
    simp only [rd_f0, rd_f1, rd_agg, ring_f0, ring_f1, ring_agg, stk, Int.reduceEq, Nat.reduceEqDiff, Int.reduceLE, Int.reduceLT]
    refine Ev.bind a3 ?_
    simp only [rd_f0, rd_f1, rd_agg, book_f0, book_f1, book_agg, hpk1, stk, Int.reduceEq, Nat.reduceEqDiff, Int.reduceLE, Int.reduceLT]
    refine Ev.bind b3 ?_
    simp only [rd_f0, rd_f1, rd_agg, book_f0, book_f1, book_agg, stk, Int.reduceEq, Nat.reduceEqDiff, Int.reduceLE, Int.reduceLT]
    refine Ev.bind hrel ?_
    simp only [hpk2, rd_f0, rd_f1, rd_agg, h0, rel_f0, rel_f1, rel_f2, rel_f3, del_f0, del_f1, del_f2, del_f3, del_agg, rel_agg, stk, Int.reduceEq, Nat.reduceEqDiff, Int.reduceLE, Int.reduceLT]
    exact Ev.now _
theorem ringDoR_says (ks : List ByteArray) (fs : List Int) (n : Int) (af : List Aff) (es : List Ent) (r : Rel) : ∃ a e b, ringDoR ks fs n af es r = [bookP a e, boolP b] ∧ (a.length ≤ 1000 + af.length) ∧ (e.length ≤ 1000 + es.length) ∧
    (b = false → bookB af es = true → a = af ∧ e = es) ∧ (b = true → ringM ks fs = true ∧ okB (lastKey (n + 1) ⟨#[]⟩ ks fs) r = true ∧ r.num = n + 1) := by
  unfold ringDoR
  split
  · rename_i hb
    split
    · rename_i hr
      split
      · unfold relDoR
        rw [if_pos hb]
        split
        · rename_i ho
          split
          · rename_i hn
            split
            · split
              · rename_i h2
                split
                · have f := bookB_facts h2
                  have := f.al; have := f.el
                  exact ⟨_, _, _, rfl, by omega, by omega, (fun h => by cases h), fun _ => ⟨hr, ho, hn⟩⟩
                · exact ⟨_, _, _, rfl, by omega, by omega, fun _ _ => ⟨rfl, rfl⟩, fun h => by cases h⟩
              · exact ⟨_, _, _, rfl, by omega, by omega, fun _ _ => ⟨rfl, rfl⟩, fun h => by cases h⟩
            · exact ⟨_, _, _, rfl, by omega, by omega, fun _ _ => ⟨rfl, rfl⟩, fun h => by cases h⟩
          · exact ⟨_, _, _, rfl, by omega, by omega, fun _ _ => ⟨rfl, rfl⟩, fun h => by cases h⟩
        · exact ⟨_, _, _, rfl, by omega, by omega, fun _ _ => ⟨rfl, rfl⟩, fun h => by cases h⟩
      · exact ⟨_, _, _, rfl, by omega, by omega, fun _ _ => ⟨rfl, rfl⟩, fun h => by cases h⟩
    · exact ⟨_, _, _, rfl, by omega, by omega, fun _ _ => ⟨rfl, rfl⟩, fun h => by cases h⟩
  · rename_i hb
    exact ⟨_, _, _, rfl, by simp, by simp, fun _ h => absurd h hb, fun h => by cases h⟩
theorem law (ps : List PV) (h : PvOkL (PvOk Tryz.prog 8) [61] ps) : ∃ N, laws_FnRingWrong.f N ps = some [boolP true] := by
  obtain ⟨l, rfl, hby⟩ := code_args (P := Tryz.prog) (t := 61) (e := 5) (by kernel_rfl) (by kernel_rfl) h
  refine Ev.some ?_
  simp only [laws_FnRingWrong.f_eq, stk, Int.reduceEq, Nat.reduceEqDiff, Int.reduceLE, Int.reduceLT]
  by_cases c1 : 1048576 < (l.length : Int)
  · simp only [c1, stk, Int.reduceEq, Nat.reduceEqDiff, Int.reduceLE, Int.reduceLT]; exact Ev.now _
  obtain ⟨ks, fs, n, af, es, r, hr, hn1, hn2, hD, hs, hdraw⟩ := drawRD_ev (l := l) (by omega) hby
  have hks : ∀ k ∈ ks, k.size ≤ 1000000000 := fun k hk => by have := hr.sk k hk; omega
  have hks' : ∀ k ∈ ks, k.size ≤ 9223372036854775807 := fun k hk => by have := hr.sk k hk; omega
  have hnk := hr.nk
  have hnf := hr.nf
  have hal := hD.al
  have hel := hD.el
  have hrl := hs.ll
  have hsp := specRingDo_ev (by omega) (by omega) hks hD.s hs n (by omega) (by omega) (ks := ks) (fs := fs) (r := r)
  have him := implRingDo_ev (by omega) (by omega) hks hD.s hs n (ks := ks) (fs := fs) (r := r)
  obtain ⟨a, e, b, he, la, le, hno, hyes⟩ := ringDoR_says ks fs n af es r
  rw [he] at hsp him
  simp only [strP, intP] at hsp him
  have hmd := mdBook_ev a e (by omega) (by omega)
  simp only [c1, stk, Int.reduceEq, Nat.reduceEqDiff, Int.reduceLE, Int.reduceLT]
  refine Ev.bind hdraw ?_
  simp only [ring_f0, ring_f1, ring_agg, book_f0, book_f1, book_agg, rel_f0, rel_f1, rel_f2, rel_f3, del_f0, del_f1, del_f2, del_f3, del_agg, rel_agg, stk, Int.reduceEq, Nat.reduceEqDiff, Int.reduceLE, Int.reduceLT]
  refine Ev.bind him ?_
  refine Ev.bind hsp ?_
  simp only [book_f0, book_f1, book_agg, stk, Int.reduceEq, Nat.reduceEqDiff, Int.reduceLE, Int.reduceLT]
  refine Ev.bind hmd ?_
  simp only [stk, Int.reduceEq, Nat.reduceEqDiff, Int.reduceLE, Int.reduceLT]
  refine Ev.bind (specBookOk_ev hD.s) ?_
  cases hb : bookB af es with
  | false =>
    simp only [stk, Int.reduceEq, Nat.reduceEqDiff, Int.reduceLE, Int.reduceLT]
    refine Ev.bind hmd ?_
    simp only [stk, Int.reduceEq, Nat.reduceEqDiff, Int.reduceLE, Int.reduceLT]
    exact Ev.now _
  | true =>
    cases b with
    | false =>
      obtain ⟨rfl, rfl⟩ := hno rfl hb
      simp only [stk, Int.reduceEq, Nat.reduceEqDiff, Int.reduceLE, Int.reduceLT]
      refine Ev.bind hmd ?_
      simp only [stk, Int.reduceEq, Nat.reduceEqDiff, Int.reduceLE, Int.reduceLT]
      exact Ev.now _
    | true =>
      obtain ⟨hrm, ho, hnum⟩ := hyes rfl
      have hw : IntKind.i64.wrap (n + 1) = n + 1 := wrap_id (by omega) (by omega)
      have hkey := implRingKey_ev ks fs (n + 1) (by omega) (by omega) hks'
      unfold ringKeyM at hkey
      rw [if_pos hrm] at hkey
      have hok := implOk_ev (r := r) (lastKey (n + 1) ⟨#[]⟩ ks fs) (lastKey_size _ _ _ _ (by rw [c_zero]; omega) hks) hs
      rw [ho] at hok
      simp only [strP, intP] at hkey hok
      simp only [hw, stk, Int.reduceEq, Nat.reduceEqDiff, Int.reduceLE, Int.reduceLT]
      refine Ev.bind hkey ?_
      simp only [stk, Int.reduceEq, Nat.reduceEqDiff, Int.reduceLE, Int.reduceLT]
      refine Ev.bind hok ?_
      simp only [hnum, eq_self, stk, Int.reduceEq, Nat.reduceEqDiff, Int.reduceLE, Int.reduceLT]
      exact Ev.now _
end Go.Proofs.YtjfigkikhmffpaaGreatDoor.FnRingWrong
