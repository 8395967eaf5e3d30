import Derived.Test.YtoiigoflkhmjnaaGreatDoorFnFnFixTexty1
set_option linter.unusedVariables false
set_option linter.unusedSimpArgs false
set_option maxRecDepth 10000
namespace Go.Proofs.YtoiigoflkhmjnaaGreatDoor.FnFixText
open Go Go.Proofs.YtoiigoflkhmjnaaGreatDoorAm
def noW (s : ByteArray) : Bool := s.data.toList.all fun c => c != 119
theorem noW_app {a b : ByteArray} (ha : noW a = true) (hb : noW b = true) : noW (a ++ b) = true := by
  unfold noW at *
  rw [ByteArray.data_append, Array.toList_append, List.all_append, ha, hb]; rfl
theorem noW_in {l : List ByteArray} (h : l.all noW = true) {s : ByteArray} (hs : s ∈ l) : noW s = true := List.all_eq_true.1 h s hs
theorem wordX_loop {b : PV} (hb : Code1 b) : ∀ (c p : Nat) (x : ByteArray), p + c < 1000000000 → x.size + 2 * c ≤ 12 → (1 ≤ c ∨ 1 ≤ x.size) → noW x = true → ∃ (r : ByteArray) (q : Nat), q ≤ p + c ∧ 1 ≤ r.size ∧ r.size ≤ 12 ∧ noW r = true ∧ Ev2 (fun N n => spec_l13Word.l0 N n x (c : Int) b (p : Int)) [strP r, rdP b (q : Int)] := by
  intro c
  induction c with
  | zero =>
    intro p x hp hx h1 hno
    refine ⟨x, p, by omega, by omega, by omega, hno, Ev2.succ ?_⟩
    have h0 : ¬ (0 : Int) < ((0 : Nat) : Int) := by omega
    have hm : (if (x.size : Int) < 12 then (x.size : Int) else 12) = (x.size : Int) := by split <;> omega
    simp only [spec_l13Word.l0_eq, h0, least_val, hm, stk, Int.reduceEq, Nat.reduceEqDiff, Int.reduceLE, Int.reduceLT, extract_all, rd_agg]
    exact Ev2.now _
  | succ c ih =>
    intro p x hp hx h1 hno
    obtain ⟨s, hs, hf⟩ := of_ev hb (p := (p : Int)) (by omega) [ByteArray.mk #[97], ByteArray.mk #[98], ByteArray.mk #[99], ByteArray.mk #[97, 98], ByteArray.mk #[116]] (by simp)
    have hsz : 1 ≤ s.size ∧ s.size ≤ 2 := by
      have ha : ∀ s ∈ [ByteArray.mk #[97], ByteArray.mk #[98], ByteArray.mk #[99], ByteArray.mk #[97, 98], ByteArray.mk #[116]], 1 ≤ s.size ∧ s.size ≤ 2 := szs_in rfl
      exact ha s hs
    have hsn : noW s = true := noW_in (l := [ByteArray.mk #[97], ByteArray.mk #[98], ByteArray.mk #[99], ByteArray.mk #[97, 98], ByteArray.mk #[116]]) (by decide) hs
    obtain ⟨r, q, h2, h3, h4, h6, h5⟩ := ih (p + 1) (x ++ s) (by omega) (by rw [ByteArray.size_append]; omega) (.inr (by rw [ByteArray.size_append]; omega)) (noW_app hno hsn)
    refine ⟨r, q, by omega, h3, h4, h6, Ev2.succ ?_⟩
    have h0 : (0 : Int) < ((c + 1 : Nat) : Int) := by omega
    have hw : IntKind.i64.wrap (((c + 1 : Nat) : Int) - 1) = (c : Int) := by rw [wrap_id (by omega) (by omega)]; omega
    have hl : x.size + s.size ≤ 9223372036854775807 := by omega
    have hp1 : ((p : Int) + 1) = ((p + 1 : Nat) : Int) := by omega
    have e : PV.list [PV.sc (.string (ByteArray.mk #[97])), PV.sc (.string (ByteArray.mk #[98])), PV.sc (.string (ByteArray.mk #[99])), PV.sc (.string (ByteArray.mk #[97, 98])), PV.sc (.string (ByteArray.mk #[116]))] = strsP [ByteArray.mk #[97], ByteArray.mk #[98], ByteArray.mk #[99], ByteArray.mk #[97, 98], ByteArray.mk #[116]] := rfl
    simp only [spec_l13Word.l0_eq, h0, hw, hl, e, rd_agg, hf, rd_f0, rd_f1, hp1, stk, Int.reduceEq, Nat.reduceEqDiff, Int.reduceLE, Int.reduceLT]
    exact h5
theorem wordX_ev {b : PV} (hb : Code1 b) (p : Nat) (hp : p < 900000000) : ∃ (r : ByteArray) (q : Nat), q ≤ p + 10 ∧ 1 ≤ r.size ∧ r.size ≤ 12 ∧ noW r = true ∧ Ev (fun N => spec_l13Word.f N [rdP b (p : Int)]) [strP r, rdP b (q : Int)] := by
  obtain ⟨k, hk, hf⟩ := pick_ev hb (p := (p : Int)) (n := 3) (by omega) (by omega)
  by_cases h0 : k = 0
  · obtain ⟨k2, hk2, hf2⟩ := pick_ev hb (p := (p : Int) + 1) (n := 5) (by omega) (by omega)
    obtain ⟨j, rfl⟩ := Int.eq_ofNat_of_zero_le hk2.1
    obtain ⟨r, q, h2, h3, h4, h6, h5⟩ := wordX_loop hb (1 + j) (p + 2) ⟨#[]⟩ (by omega) (by have : (ByteArray.mk #[]).size = 0 := rfl; omega) (.inl (by omega)) rfl
    refine ⟨r, q, by omega, h3, h4, h6, ?_⟩
    have hw : IntKind.i64.wrap (1 + (j : Int)) = ((1 + j : Nat) : Int) := by rw [wrap_id (by omega) (by omega)]; omega
    have hp1 : ((p : Int) + 1 + 1) = ((p + 2 : Nat) : Int) := by omega
    simp only [spec_l13Word.f_eq, rd_f0, rd_f1, rd_agg, hf, h0, hf2, hw, hp1, stk, Int.reduceEq, Nat.reduceEqDiff, Int.reduceLE, Int.reduceLT]
    exact h5.diag
  · obtain ⟨s, hs, hf2⟩ := of_ev hb (p := (p : Int) + 1) (by omega) wordsL (by simp [wordsL])
    have ha : ∀ s ∈ wordsL, 1 ≤ s.size ∧ s.size ≤ 12 := szs_in rfl
    refine ⟨s, p + 2, by omega, (ha s hs).1, (ha s hs).2, noW_in (l := wordsL) (by decide) hs, ?_⟩
    have hp1 : ((p : Int) + 1 + 1) = ((p + 2 : Nat) : Int) := by omega
    have e : PV.list [PV.sc (.string (ByteArray.mk #[99, 97, 116])), PV.sc (.string (ByteArray.mk #[99, 97, 116, 115])), PV.sc (.string (ByteArray.mk #[97, 99, 116])), PV.sc (.string (ByteArray.mk #[100, 111])), PV.sc (.string (ByteArray.mk #[100, 111, 105, 110, 103])), PV.sc (.string (ByteArray.mk #[103, 111])), PV.sc (.string (ByteArray.mk #[117, 110, 100, 111])), PV.sc (.string (ByteArray.mk #[116, 114, 121])), PV.sc (.string (ByteArray.mk #[116, 114, 105, 101, 115])), PV.sc (.string (ByteArray.mk #[97])), PV.sc (.string (ByteArray.mk #[98, 97, 107, 101])), PV.sc (.string (ByteArray.mk #[98, 97, 107, 105, 110, 103])), PV.sc (.string (ByteArray.mk #[116, 97, 99, 116])), PV.sc (.string (ByteArray.mk #[99, 97, 114, 116])), PV.sc (.string (ByteArray.mk #[97, 98, 99, 97, 98, 99, 97, 98, 99, 97, 98, 99]))] = strsP wordsL := rfl
    simp only [spec_l13Word.f_eq, rd_f0, rd_f1, rd_agg, hf, h0, e, hf2, hp1, stk, Int.reduceEq, Nat.reduceEqDiff, Int.reduceLE, Int.reduceLT]
    exact Ev.now _
def affLL : List Aff := [⟨⟨#[83]⟩, false, ⟨#[]⟩, ⟨#[115]⟩, ⟨#[]⟩⟩, ⟨⟨#[83]⟩, false, ⟨#[121]⟩, ⟨#[105, 101, 115]⟩, ⟨#[121]⟩⟩, ⟨⟨#[71]⟩, false, ⟨#[]⟩, ⟨#[105, 110, 103]⟩, ⟨#[]⟩⟩, ⟨⟨#[71]⟩, false, ⟨#[101]⟩, ⟨#[105, 110, 103]⟩, ⟨#[101]⟩⟩, ⟨⟨#[85]⟩, true, ⟨#[]⟩, ⟨#[117, 110]⟩, ⟨#[]⟩⟩, ⟨⟨#[82]⟩, true, ⟨#[97]⟩, ⟨#[98]⟩, ⟨#[97]⟩⟩, ⟨⟨#[84]⟩, false, ⟨#[]⟩, ⟨#[116]⟩, ⟨#[97, 99]⟩⟩, ⟨⟨#[67]⟩, false, ⟨#[]⟩, ⟨#[97, 98, 99]⟩, ⟨#[]⟩⟩]
theorem affix_ev {b : PV} (hb : Code1 b) (p : Nat) (hp : p < 900000000) : ∃ a ∈ affLL, ∀ N, spec_l13Affix.f N [rdP b (p : Int)] = some [affP a, rdP b ((p + 1 : Nat) : Int)] := by
  obtain ⟨k, hk, hf⟩ := pick_ev hb (p := (p : Int)) (n := (8 : Int)) (by omega) (by omega)
  obtain ⟨j, rfl⟩ := Int.eq_ofNat_of_zero_le hk.1
  have hj : j < affLL.length := by have : affLL.length = 8 := rfl; omega
  have hj8 : ((j : Int) < 8) = True := eq_true (by omega)
  have hp1 : (p : Int) + 1 = ((p + 1 : Nat) : Int) := by omega
  rw [hp1] at hf
  obtain ⟨pre, rest, hpr, hpl⟩ : ∃ pre rest, affLL = pre ++ affLL[j] :: rest ∧ pre.length = j := ⟨affLL.take j, affLL.drop (j + 1), by rw [← List.drop_eq_getElem_cons hj, List.take_append_drop], by rw [List.length_take]; omega⟩
  have he := affs_elem hpr
  rw [hpl] at he
  refine ⟨affLL[j], List.getElem_mem hj, fun N => ?_⟩
  have e8 : ((affLL.map affP).length : Int) = 8 := rfl
  have hall : spec_l13Affix.f N [rdP b (p : Int)] = (spec_l1Rd_pick.f N [rdP b (p : Int), intP ((affLL.map affP).length : Int)]).bind fun t1 => if 0 ≤ ((t1.headD default).toInt) then (if ((t1.headD default).toInt) < ((affLL.map affP).length : Int) then (some [(PV.agg [(PV.sc (.string ((((affsP affLL).elem (((t1.headD default).toInt).toNat)).fld 0).toStr))), (PV.sc (.bool ((((affsP affLL).elem (((t1.headD default).toInt).toNat)).fld 1).toBool))), (PV.sc (.string ((((affsP affLL).elem (((t1.headD default).toInt).toNat)).fld 2).toStr))), (PV.sc (.string ((((affsP affLL).elem (((t1.headD default).toInt).toNat)).fld 3).toStr))), (PV.sc (.string ((((affsP affLL).elem (((t1.headD default).toInt).toNat)).fld 4).toStr)))]), (PV.agg [(rdP b (p : Int)).fld 0, (PV.sc (.int .i64 (((t1.tail.headD default).fld 1).toInt)))])]) else none) else none := spec_l13Affix.f_eq N _
  rw [hall, e8, hf]
  simp only [hj8, nn, he, aff_f0, aff_f1, aff_f2, aff_f3, aff_f4, aff_agg, rd_f0, rd_f1, rd_agg, stk, Int.reduceEq, Nat.reduceEqDiff, Int.reduceLE, Int.reduceLT]
structure AffsB (l : List Aff) (n : Nat) : Prop where
  n : l.length ≤ n
  s : ∀ a ∈ l, a ∈ affLL
theorem affs_snoc (l : List Aff) (a : Aff) : l.map affP ++ [affP a] = (l ++ [a]).map affP := by simp
theorem affixes_l1 {b : PV} (l : List Aff) (hl : l.length ≤ 100) (a : Aff) (c q : Nat) (hc : c < 100) {Q : List Aff → List PV → Prop}
    (hnext : ∀ l', l' = l ∨ l' = l ++ [a] → ∃ r, Q l' r ∧ Ev2 (fun N m => spec_l13Affixes.l0 N m (c : Int) b (q : Int) (l'.map affP)) r) :
    ∀ (rest pre : List Aff) (known : Bool), l = pre ++ rest → ∃ l', (l' = l ∨ l' = l ++ [a]) ∧ ∃ r, Q l' r ∧ Ev3 (fun N m n => spec_l13Affixes.l1 N m n ((c + 1 : Nat) : Int) known (pre.length : Int) b (q : Int) (l.map affP) a.flag a.front a.strip a.add a.cond) r := by
  have w1 : IntKind.i64.wrap (((c + 1 : Nat) : Int) - 1) = (c : Int) := nat_wrap (by omega) (by omega)
  have c1 : (l.length + 1 ≤ 1954687338268) = True := eq_true (by omega)
  intro rest
  induction rest with
  | nil =>
    intro pre known hp
    cases known with
    | true =>
      obtain ⟨r, hq, hv⟩ := hnext l (.inl rfl)
      refine ⟨l, .inl rfl, r, hq, Ev3.succ ?_⟩
      simp only [spec_l13Affixes.l1_eq, List.length_map, at_end hp, w1, stk, Int.reduceEq, Nat.reduceEqDiff, Int.reduceLE, Int.reduceLT]
      exact hv.outer
    | false =>
      obtain ⟨r, hq, hv⟩ := hnext (l ++ [a]) (.inr rfl)
      refine ⟨l ++ [a], .inr rfl, r, hq, Ev3.succ ?_⟩
      simp only [spec_l13Affixes.l1_eq, List.length_map, at_end hp, w1, c1, aff_agg, affs_snoc, stk, Int.reduceEq, Nat.reduceEqDiff, Int.reduceLE, Int.reduceLT]
      exact hv.outer
  | cons x rest ih =>
    intro pre known hp
    cases known with
    | true =>
      obtain ⟨l', h1, r, h2, h3⟩ := ih _ true (at_step hp)
      refine ⟨l', h1, r, h2, Ev3.succ ?_⟩
      simp only [spec_l13Affixes.l1_eq, List.length_map, at_lt hp, at_next hp (by omega), stk, Int.reduceEq, Nat.reduceEqDiff, Int.reduceLE, Int.reduceLT]
      exact h3
    | false =>
      have e : PV.list (l.map affP) = affsP l := rfl
      obtain ⟨kn, hkn⟩ : ∃ kn : Bool, kn = ((decide ((((affP x).fld 0).toStr).toList = a.flag.toList) && ((((affP x).fld 1).toBool == a.front) && (decide ((((affP x).fld 2).toStr).toList = a.strip.toList) && (decide ((((affP x).fld 3).toStr).toList = a.add.toList) && (decide ((((affP x).fld 4).toStr).toList = a.cond.toList) && true)))))) := ⟨_, rfl⟩
      obtain ⟨l', h1, r, h2, h3⟩ := ih _ kn (at_step hp)
      refine ⟨l', h1, r, h2, Ev3.succ ?_⟩
      simp only [spec_l13Affixes.l1_eq, List.length_map, at_lt hp, at_next hp (by omega), e, nat_int, affs_elem hp, ← hkn, nn, if_true, if_false, decide_true, decide_false, Bool.false_eq_true, Bool.true_eq_false]
      exact h3
theorem affixes_l0 {b : PV} (hb : Code1 b) : ∀ (c p : Nat) (l : List Aff), p + c < 800000000 → c < 100 → AffsB l (100 - c) → ∃ (r : List Aff) (q : Nat), q ≤ p + c ∧ AffsB r 100 ∧ r.length ≤ l.length + c ∧ Ev2 (fun N n => spec_l13Affixes.l0 N n (c : Int) b (p : Int) (l.map affP)) [affsP r, rdP b (q : Int)] := by
  intro c
  induction c with
  | zero =>
    intro p l hp hc hl
    refine ⟨l, p, by omega, ⟨by have := hl.n; omega, hl.s⟩, by omega, Ev2.succ ?_⟩
    have h0 : ¬ (0 : Int) < ((0 : Nat) : Int) := by omega
    have e : PV.list (l.map affP) = affsP l := rfl
    simp only [spec_l13Affixes.l0_eq, h0, e, rd_agg, stk, Int.reduceEq, Nat.reduceEqDiff, Int.reduceLE, Int.reduceLT]
    exact Ev2.now _
  | succ c ih =>
    intro p l hp hc hl
    have h0 : (0 : Int) < ((c + 1 : Nat) : Int) := by omega
    have hln := hl.n
    obtain ⟨a, ha, hf⟩ := affix_ev hb p (by omega)
    obtain ⟨l', hl', r, ⟨r', q, h1, h2, h3, h4⟩, hv⟩ := affixes_l1 (b := b) l (by omega) a c (p + 1) (by omega) (Q := fun l' r => ∃ r' q, q ≤ p + 1 + c ∧ AffsB r' 100 ∧ r'.length ≤ l.length + 1 + c ∧ r = [affsP r', rdP b ((q : Nat) : Int)])
      (fun l' hl' => by
        have hB : AffsB l' (100 - c) ∧ l'.length ≤ l.length + 1 := by
          rcases hl' with rfl | rfl
          · exact ⟨⟨by omega, hl.s⟩, by omega⟩
          · refine ⟨⟨by rw [List.length_append, List.length_singleton]; omega, all_snoc hl.s ha⟩, by rw [List.length_append, List.length_singleton]; omega⟩
        obtain ⟨r', q, h1, h2, h3, h4⟩ := ih (p + 1) l' (by omega) (by omega) hB.1
        exact ⟨_, ⟨r', q, h1, h2, by have := hB.2; omega, rfl⟩, h4⟩) l [] false rfl
    refine ⟨r', q, by omega, h2, by omega, Ev2.succ ?_⟩
    rw [h4] at hv
    simp only [spec_l13Affixes.l0_eq, h0, rd_agg, hf, rd_f1, aff_f0, aff_f1, aff_f2, aff_f3, aff_f4, stk, Int.reduceEq, Nat.reduceEqDiff, Int.reduceLE, Int.reduceLT]
    exact hv.start
theorem affixes_ev {b : PV} (hb : Code1 b) (p : Nat) (hp : p < 700000000) : ∃ (r : List Aff) (q : Nat), q ≤ p + 10 ∧ AffsB r 4 ∧ Ev (fun N => spec_l13Affixes.f N [rdP b (p : Int)]) [affsP r, rdP b (q : Int)] := by
  obtain ⟨c, hc, hf⟩ := pick_ev hb (p := (p : Int)) (n := 5) (by omega) (by omega)
  obtain ⟨c, rfl⟩ := Int.eq_ofNat_of_zero_le hc.1
  have hp1 : (p : Int) + 1 = ((p + 1 : Nat) : Int) := by omega
  rw [hp1] at hf
  obtain ⟨r, q, h1, h2, h3, h4⟩ := affixes_l0 hb c (p + 1) [] (by omega) (by omega) ⟨by simp, by simp⟩
  refine ⟨r, q, by omega, ⟨by simp at h3; omega, h2.s⟩, ?_⟩
  simp only [spec_l13Affixes.f_eq, rd_f0, rd_f1, rd_agg, hf, stk, Int.reduceEq, Nat.reduceEqDiff, Int.reduceLE, Int.reduceLT]
  exact h4.diag
def flagsL : List ByteArray := [⟨#[]⟩, ⟨#[]⟩, ⟨#[83]⟩, ⟨#[71, 83]⟩, ⟨#[85]⟩, ⟨#[71, 85]⟩, ⟨#[82]⟩, ⟨#[84]⟩, ⟨#[67, 82, 83, 85]⟩]
theorem flags_size {s : ByteArray} (h : s ∈ flagsL) : s.size ≤ 4 := (szs_in (l := flagsL) (a := 0) (b := 4) rfl s h).2
theorem entry_ev {b : PV} (hb : Code1 b) (p : Nat) (hp : p < 900000000) (s : ByteArray) : ∃ f ∈ flagsL, ∀ N, spec_l13Entry.f N [rdP b (p : Int), strP s] = some [entP ⟨s, f⟩, rdP b ((p + 1 : Nat) : Int)] := by
  obtain ⟨f, hm, hf⟩ := of_ev hb (p := (p : Int)) (by omega) flagsL (by simp [flagsL])
  have e : PV.list [PV.sc (.string (ByteArray.mk #[])), PV.sc (.string (ByteArray.mk #[])), PV.sc (.string (ByteArray.mk #[83])), PV.sc (.string (ByteArray.mk #[71, 83])), PV.sc (.string (ByteArray.mk #[85])), PV.sc (.string (ByteArray.mk #[71, 85])), PV.sc (.string (ByteArray.mk #[82])), PV.sc (.string (ByteArray.mk #[84])), PV.sc (.string (ByteArray.mk #[67, 82, 83, 85]))] = strsP flagsL := rfl
  have hp1 : (p : Int) + 1 = ((p + 1 : Nat) : Int) := by omega
  rw [hp1] at hf
  have e2 : PV.agg [PV.sc (.string s), PV.sc (.string f)] = entP ⟨s, f⟩ := rfl
  refine ⟨f, hm, fun N => ?_⟩
  simp only [spec_l13Entry.f_eq, rd_f0, rd_f1, rd_agg, e, hf, e2, stk, Int.reduceEq, Nat.reduceEqDiff, Int.reduceLE, Int.reduceLT]
structure BookB (af : List Aff) (es : List Ent) : Prop where
  a : AffsB af 4
  n : es.length ≤ 24
  s : ∀ e ∈ es, e.stem.size ≤ 12 ∧ e.flags ∈ flagsL
theorem ents_snoc (l : List Ent) (e : Ent) : l.map entP ++ [entP e] = (l ++ [e]).map entP := by simp
theorem book_l7 {b : PV} (hb : Code1 b) (af : List Aff) (ws : List ByteArray) (hwl : ws.length ≤ 100) (hws : ∀ x ∈ ws, x.size ≤ 12) : ∀ (rest pre : List ByteArray) (es : List Ent) (p : Nat), ws = pre ++ rest → p + rest.length < 900000000 → es.length = pre.length → (∀ e ∈ es, e.stem.size ≤ 12 ∧ e.flags ∈ flagsL) →
    ∃ (r : List Ent) (q : Nat), q ≤ p + rest.length ∧ r.length = ws.length ∧ (∀ e ∈ r, e.stem.size ≤ 12 ∧ e.flags ∈ flagsL) ∧ Ev2 (fun N n => spec_l13Book.l7 N n (pre.length : Int) b (p : Int) (strsP ws) (affsP af) (es.map entP)) [bookP af r, rdP b (q : Int)] := by
  intro rest
  induction rest with
  | nil =>
    intro pre es p hp hpb hl hes
    refine ⟨es, p, by omega, by rw [hp, hl]; simp, hes, Ev2.succ ?_⟩
    have e : PV.agg [affsP af, PV.list (es.map entP)] = bookP af es := rfl
    simp only [spec_l13Book.l7_eq, at_end hp, e, rd_agg, stk, Int.reduceEq, Nat.reduceEqDiff, Int.reduceLE, Int.reduceLT]
    exact Ev2.now _
  | cons w rest ih =>
    intro pre es p hp hpb hl hes
    rw [List.length_cons] at hpb
    have hw := hws w (by rw [hp]; simp)
    obtain ⟨f, hm, hf⟩ := entry_ev hb p (by omega) w
    simp only [strP] at hf
    have hln := at_ltN hp
    have c1 : (es.length + 1 ≤ 4398046511104) = True := eq_true (by omega)
    obtain ⟨r, q, h1, h2, h3, h4⟩ := ih _ (es ++ [⟨w, f⟩]) (p + 1) (at_step hp) (by omega) (by simp [hl]) (all_snoc hes ⟨hw, hm⟩)
    refine ⟨r, q, by rw [List.length_cons]; omega, h2, h3, Ev2.succ ?_⟩
    simp only [spec_l13Book.l7_eq, at_lt hp, at_getD hp, at_next hp (by omega), hf, rd_agg, rd_f1, ent_f0, ent_f1, List.length_map, c1, stk, Int.reduceEq, Nat.reduceEqDiff, Int.reduceLE, Int.reduceLT]
    rw [ent_agg ⟨w, f⟩, ents_snoc]
    exact h4
theorem book_l5 {b : PV} (hb : Code1 b) (af : List Aff) (ws : List ByteArray) (hwl : ws.length ≤ 100) (hws : ∀ x ∈ ws, x.size ≤ 12) (p : Nat) (hpb : p < 800000000) :
    ∃ (r : List Ent) (q : Nat), q ≤ p + ws.length ∧ r.length = ws.length ∧ (∀ e ∈ r, e.stem.size ≤ 12 ∧ e.flags ∈ flagsL) ∧ Ev2 (fun N n => spec_l13Book.l5 N n 0 b (p : Int) (strsP ws) (affsP af)) [bookP af r, rdP b (q : Int)] := by
  cases ws with
  | nil =>
    have e : PV.agg [affsP af, PV.list []] = bookP af [] := rfl
    have h0 : ((0 : Int) < (([] : List ByteArray).length : Int)) = False := eq_false (by simp)
    refine ⟨[], p, by omega, rfl, by simp, Ev2.succ ?_⟩
    simp only [spec_l13Book.l5_eq, strs_len, h0, e, rd_agg, stk, Int.reduceEq, Nat.reduceEqDiff, Int.reduceLE, Int.reduceLT]
    exact Ev2.now _
  | cons w rest =>
    have hw := hws w (by simp)
    have hp : w :: rest = [] ++ w :: rest := rfl
    have e0 : (0 : Int) = (([] : List ByteArray).length : Int) := rfl
    rw [List.length_cons] at hwl
    obtain ⟨f, hm, hf⟩ := entry_ev hb p (by omega) w
    simp only [strP] at hf
    obtain ⟨r, q, h1, h2, h3, h4⟩ := book_l7 hb af (w :: rest) (by rw [List.length_cons]; omega) hws rest [w] [⟨w, f⟩] (p + 1) rfl (by omega) rfl (by simpa using ⟨hw, hm⟩)
    refine ⟨r, q, by rw [List.length_cons]; omega, h2, h3, Ev2.succ ?_⟩
    have c1 : (([] : List PV).length + 1 ≤ 4398046511104) = True := eq_true (by simp)
    rw [e0]
    simp only [spec_l13Book.l5_eq, at_lt hp, at_getD hp, at_next hp (by rw [List.length_cons]; omega), hf, rd_agg, rd_f1, ent_f0, ent_f1, c1, List.nil_append, stk, Int.reduceEq, Nat.reduceEqDiff, Int.reduceLE, Int.reduceLT]
    rw [ent_agg ⟨w, f⟩]
    exact h4
def wB (k : Nat) : ByteArray := (ByteArray.mk #[119]) ++ (bytesOfL [(PV.sc (.int .u8 (IntKind.u8.wrap (IntKind.i64.wrap (97 + (k : Int))))))])
theorem wB_data {k : Nat} (hk : k < 100) : (wB k).data.toList = [119, UInt8.ofNat (97 + k)] := by
  have e1 : IntKind.i64.wrap (97 + (k : Int)) = ((97 + k : Nat) : Int) := nat_wrap (by omega) (by omega)
  have e2 : IntKind.u8.wrap ((97 + k : Nat) : Int) = ((97 + k : Nat) : Int) := by simp [IntKind.wrap, IntKind.signed, IntKind.bits]; omega
  unfold wB
  rw [e1, e2, ByteArray.data_append, Array.toList_append]
  rfl
theorem wB_size (k : Nat) : (wB k).size = 2 := by
  unfold wB
  rw [ByteArray.size_append]
  have : ∀ l : List PV, (bytesOfL l).size = l.length := fun l => by simp [bytesOfL, ByteArray.size]
  rw [this]; rfl
theorem wB_noW {k : Nat} (hk : k < 100) : noW (wB k) = false := by
  unfold noW
  rw [wB_data hk]; rfl
theorem wB_inj {j k : Nat} (hj : j < 100) (hk : k < 100) (h : wB j = wB k) : j = k := by
  have h1 := congrArg (fun s : ByteArray => s.data.toList) h
  simp only [wB_data hj, wB_data hk] at h1
  injection h1 with _ h1
  injection h1 with h1 _
  have h2 := congrArg UInt8.toNat h1
  simp only [UInt8.toNat_ofNat'] at h2
  omega
theorem insM_new (s : ByteArray) : ∀ {l : List ByteArray}, s ∉ l → (insM s l).length = l.length + 1
  | [], _ => by simp [insM]
  | c :: r, h => by
    rw [List.mem_cons, not_or] at h
    unfold insM
    split
    · rw [List.length_cons, insM_new s h.2, List.length_cons]
    · rw [if_neg (fun e => h.1 e.symm)]; simp
def WInv (ws : List ByteArray) (k : Nat) : Prop := ∀ x ∈ ws, x.size ≤ 12 ∧ (noW x = true ∨ ∃ j, j < k ∧ x = wB j)
theorem book_l4 {b : PV} (hb : Code1 b) (af : List Aff) (p : Nat) (hpb : p < 700000000) : ∀ (d k : Nat) (ws : List ByteArray), ws.length + d = 24 → k + d ≤ 24 → WInv ws k →
    ∃ (r : List Ent) (q : Nat), q ≤ p + 24 ∧ r.length ≤ 24 ∧ (∀ e ∈ r, e.stem.size ≤ 12 ∧ e.flags ∈ flagsL) ∧ Ev2 (fun N n => spec_l13Book.l4 N n (k : Int) b (p : Int) (strsP ws) (affsP af)) [bookP af r, rdP b (q : Int)] := by
  intro d
  induction d with
  | zero =>
    intro k ws hl hk hi
    obtain ⟨r, q, h1, h2, h3, h4⟩ := book_l5 hb af ws (by omega) (fun x hx => (hi x hx).1) p (by omega)
    have h0 : ((ws.length : Int) < 24) = False := eq_false (by omega)
    refine ⟨r, q, by omega, by omega, h3, Ev2.succ ?_⟩
    simp only [spec_l13Book.l4_eq, strs_len, h0, stk, Int.reduceEq, Nat.reduceEqDiff, Int.reduceLE, Int.reduceLT]
    exact h4.after
  | succ d ih =>
    intro k ws hl hk hi
    have h0 : ((ws.length : Int) < 24) = True := eq_true (by omega)
    have hnot : wB k ∉ ws := fun hm => by
      rcases (hi _ hm).2 with h | ⟨j, hj, h⟩
      · rw [wB_noW (by omega)] at h; cases h
      · have := wB_inj (by omega) (by omega) h; omega
    obtain ⟨r, q, h1, h2, h3, h4⟩ := ih (k + 1) (insM (wB k) ws) (by rw [insM_new _ hnot]; omega) (by omega) (fun x hx => by
      rcases (insM_mem _ ws x).1 hx with rfl | hx
      · exact ⟨by rw [wB_size]; omega, .inr ⟨k, by omega, rfl⟩⟩
      · obtain ⟨z, h⟩ := hi x hx
        exact ⟨z, h.imp id (fun ⟨j, hj, e⟩ => ⟨j, by omega, e⟩)⟩)
    have w1 : IntKind.i64.wrap ((k : Int) + 1) = ((k + 1 : Nat) : Int) := nat_wrap (by omega) (by omega)
    have hz := wB_size k
    unfold wB at hz
    rw [ByteArray.size_append] at hz
    have c1 : ((ByteArray.mk #[119]).size + (bytesOfL [(PV.sc (.int .u8 (IntKind.u8.wrap (IntKind.i64.wrap (97 + (k : Int))))))]).size ≤ 9223372036854775807) = True := eq_true (by omega)
    refine ⟨r, q, h1, h2, h3, Ev2.succ ?_⟩
    simp only [spec_l13Book.l4_eq, strs_len, h0, c1, if_true, decide_true]
    refine Ev2.bind (put_ev ws (wB k) (by omega)) ?_
    simp only [w1, stk, Int.reduceEq, Nat.reduceEqDiff, Int.reduceLE, Int.reduceLT]
    exact h4
theorem book_l1 {b : PV} (hb : Code1 b) (af : List Aff) : ∀ (c p : Nat) (ws : List ByteArray), p + 20 * c < 600000000 → ws.length + c ≤ 20 → WInv ws 0 →
    ∃ (r : List Ent) (q : Nat), q ≤ p + 20 * c + 50 ∧ r.length ≤ 24 ∧ (∀ e ∈ r, e.stem.size ≤ 12 ∧ e.flags ∈ flagsL) ∧ Ev2 (fun N n => spec_l13Book.l1 N n (c : Int) b (p : Int) (strsP ws) (affsP af)) [bookP af r, rdP b (q : Int)] := by
  intro c
  induction c with
  | zero =>
    intro p ws hp hl hi
    have h0 : ¬ (0 : Int) < ((0 : Nat) : Int) := by omega
    obtain ⟨k, hk, hf⟩ := pick_ev hb (p := (p : Int)) (n := 30) (by omega) (by omega)
    have hp1 : (p : Int) + 1 = ((p + 1 : Nat) : Int) := by omega
    rw [hp1] at hf
    by_cases k0 : k = 0
    · obtain ⟨r, q, h1, h2, h3, h4⟩ := book_l4 hb af (p + 1) (by omega) (24 - ws.length) 0 ws (by omega) (by omega) hi
      refine ⟨r, q, by omega, h2, h3, Ev2.succ ?_⟩
      simp only [spec_l13Book.l1_eq, h0, rd_agg, rd_f1, hf, k0, stk, Int.reduceEq, Nat.reduceEqDiff, Int.reduceLE, Int.reduceLT]
      exact h4.after
    · obtain ⟨r, q, h1, h2, h3, h4⟩ := book_l5 hb af ws (by omega) (fun x hx => (hi x hx).1) (p + 1) (by omega)
      refine ⟨r, q, by omega, by omega, h3, Ev2.succ ?_⟩
      simp only [spec_l13Book.l1_eq, h0, rd_agg, rd_f1, hf, k0, stk, Int.reduceEq, Nat.reduceEqDiff, Int.reduceLE, Int.reduceLT]
      exact h4.after
  | succ c ih =>
    intro p ws hp hl hi
    have h0 : (0 : Int) < ((c + 1 : Nat) : Int) := by omega
    obtain ⟨w, q, h2, h3, h4, hno, h5⟩ := wordX_ev hb p (by omega)
    have hil := insM_len w ws
    obtain ⟨r, q2, a1, a2, a3, a4⟩ := ih q (insM w ws) (by omega) (by omega) (fun x hx => by
      rcases (insM_mem w ws x).1 hx with rfl | hx
      · exact ⟨h4, .inl hno⟩
      · exact hi x hx)
    refine ⟨r, q2, by omega, a2, a3, Ev2.succ ?_⟩
    have w1 : IntKind.i64.wrap (((c + 1 : Nat) : Int) - 1) = (c : Int) := nat_wrap (by omega) (by omega)
    simp only [spec_l13Book.l1_eq, h0, rd_agg, stk, Int.reduceEq, Nat.reduceEqDiff, Int.reduceLE, Int.reduceLT]
    refine Ev2.bind h5 ?_
    simp only [stk, Int.reduceEq, Nat.reduceEqDiff, Int.reduceLE, Int.reduceLT]
    refine Ev2.bind (put_ev ws w (by omega)) ?_
    simp only [w1, rd_f1, stk, Int.reduceEq, Nat.reduceEqDiff, Int.reduceLE, Int.reduceLT]
    exact a4
theorem book_ev {b : PV} (hb : Code1 b) (p : Nat) (hp : p < 500000000) : ∃ (af : List Aff) (es : List Ent) (q : Nat), q ≤ p + 250 ∧ BookB af es ∧ Ev (fun N => spec_l13Book.f N [rdP b (p : Int)]) [bookP af es, rdP b (q : Int)] := by
  obtain ⟨af, q0, b1, b2, b3⟩ := affixes_ev hb p (by omega)
  obtain ⟨c, hc, hf⟩ := pick_ev hb (p := (q0 : Int)) (n := 7) (by omega) (by omega)
  obtain ⟨c, rfl⟩ := Int.eq_ofNat_of_zero_le hc.1
  have hp1 : (q0 : Int) + 1 = ((q0 + 1 : Nat) : Int) := by omega
  rw [hp1] at hf
  have hnil : PV.list [] = strsP [] := rfl
  obtain ⟨r, q, h1, h2, h3, h4⟩ : ∃ (r : List Ent) (q : Nat), q ≤ q0 + 240 ∧ r.length ≤ 24 ∧ (∀ e ∈ r, e.stem.size ≤ 12 ∧ e.flags ∈ flagsL) ∧ Ev2 (fun N n => spec_l13Book.l0 N n (c : Int) b ((q0 + 1 : Nat) : Int) [] (affsP af)) [bookP af r, rdP b (q : Int)] := by
    cases c with
    | succ c =>
      have h0 : (0 : Int) < ((c + 1 : Nat) : Int) := by omega
      obtain ⟨w, q, h2, h3, h4, hno, h5⟩ := wordX_ev hb (q0 + 1) (by omega)
      have hil := insM_len w []
      obtain ⟨r, q2, a1, a2, a3, a4⟩ := book_l1 hb af c q (insM w []) (by omega) (by simp at hil; omega) (fun x hx => by
        rcases (insM_mem w [] x).1 hx with rfl | hx
        · exact ⟨h4, .inl hno⟩
        · cases hx)
      refine ⟨r, q2, by omega, a2, a3, Ev2.succ ?_⟩
      have w1 : IntKind.i64.wrap (((c + 1 : Nat) : Int) - 1) = (c : Int) := nat_wrap (by omega) (by omega)
      simp only [spec_l13Book.l0_eq, h0, rd_agg, hnil, stk, Int.reduceEq, Nat.reduceEqDiff, Int.reduceLE, Int.reduceLT]
      refine Ev2.bind h5 ?_
      simp only [stk, Int.reduceEq, Nat.reduceEqDiff, Int.reduceLE, Int.reduceLT]
      refine Ev2.bind (put_ev [] w (by simp)) ?_
      simp only [w1, rd_f1, stk, Int.reduceEq, Nat.reduceEqDiff, Int.reduceLE, Int.reduceLT]
      exact a4
    | zero =>
      have h0 : ¬ (0 : Int) < ((0 : Nat) : Int) := by omega
      obtain ⟨k, hk, hf⟩ := pick_ev hb (p := ((q0 + 1 : Nat) : Int)) (n := 30) (by omega) (by omega)
      have hp1 : ((q0 + 1 : Nat) : Int) + 1 = ((q0 + 2 : Nat) : Int) := by omega
      rw [hp1] at hf
      by_cases k0 : k = 0
      · have w1 : IntKind.i64.wrap ((0 : Int) + 1) = ((1 : Nat) : Int) := nat_wrap (by omega) (by omega)
        obtain ⟨r, q, h1, h2, h3, h4⟩ := book_l4 hb af (q0 + 2) (by omega) 23 1 (insM (wB 0) []) rfl (by omega) (fun x hx => by
          rcases (insM_mem _ [] x).1 hx with rfl | hx
          · exact ⟨by rw [wB_size]; omega, .inr ⟨0, by omega, rfl⟩⟩
          · cases hx)
        refine ⟨r, q, by omega, h2, h3, Ev2.succ ?_⟩
        simp only [spec_l13Book.l0_eq, h0, rd_agg, rd_f1, hf, k0, stk, Int.reduceEq, Nat.reduceEqDiff, Int.reduceLE, Int.reduceLT]
        refine Ev2.after (g := fun N n => spec_l13Book.l2 N n 0 b ((q0 + 2 : Nat) : Int) [] (affsP af)) (Ev2.succ ?_)
        have hz := wB_size 0
        unfold wB at hz
        rw [ByteArray.size_append] at hz
        have c1 : ((ByteArray.mk #[119]).size + (bytesOfL [(PV.sc (.int .u8 (IntKind.u8.wrap (IntKind.i64.wrap (97 + (0 : Int))))))]).size ≤ 9223372036854775807) = True := eq_true (by
          have : (((0 : Nat) : Int)) = 0 := rfl
          rw [this] at hz; omega)
        have c0 : ((([] : List PV).length : Int) < 24) = True := eq_true (by simp)
        simp only [spec_l13Book.l2_eq, c0, c1, hnil, if_true, decide_true]
        refine Ev2.bind (put_ev [] (wB 0) (by simp)) ?_
        simp only [w1, stk, Int.reduceEq, Nat.reduceEqDiff, Int.reduceLE, Int.reduceLT]
        exact h4
      · refine ⟨[], q0 + 2, by omega, by simp, by simp, Ev2.succ ?_⟩
        simp only [spec_l13Book.l0_eq, h0, rd_agg, rd_f1, hf, k0, stk, Int.reduceEq, Nat.reduceEqDiff, Int.reduceLE, Int.reduceLT]
        refine Ev2.after (g := fun N n => spec_l13Book.l3 N n 0 b ((q0 + 2 : Nat) : Int) [] (affsP af)) (Ev2.succ ?_)
        have c0 : ((0 : Int) < (([] : List PV).length : Int)) = False := eq_false (by simp)
        have e : PV.agg [affsP af, PV.list []] = bookP af [] := rfl
        simp only [spec_l13Book.l3_eq, c0, e, rd_agg, stk, Int.reduceEq, Nat.reduceEqDiff, Int.reduceLE, Int.reduceLT]
        exact Ev2.now _
  refine ⟨af, r, q, by omega, ⟨b2, h2, h3⟩, ?_⟩
  simp only [spec_l13Book.f_eq, rd_f0, rd_f1, rd_agg, stk, Int.reduceEq, Nat.reduceEqDiff, Int.reduceLE, Int.reduceLT]
  refine Ev.bind b3 ?_
  simp only [rd_f1, rd_agg, hf, stk, Int.reduceEq, Nat.reduceEqDiff, Int.reduceLE, Int.reduceLT]
  exact h4.diag
structure WordsD (l : List ByteArray) (n : Nat) : Prop where
  n : l.length ≤ n
  s : ∀ x ∈ l, x.size ≤ 13
structure AffT (a : Aff) : Prop where
  flag : a.flag.size ≤ 10
  strip : a.strip.size ≤ 10
  add : a.add.size ≤ 10
  cond : a.cond.size ≤ 10
theorem affLL_small : ∀ a ∈ affLL, AffT a := fun a ha => by
  have h : (affLL.all fun a => decide ((a.flag.size ≤ 10 ∧ a.strip.size ≤ 10) ∧ a.add.size ≤ 10 ∧ a.cond.size ≤ 10)) = true := rfl
  have := of_decide_eq_true (List.all_eq_true.1 h a ha)
  exact ⟨this.1.1, this.1.2, this.2.1, this.2.2⟩
theorem AffT.s {a : Aff} (h : AffT a) : AffS a := by
  obtain ⟨h1, h2, h3, h4⟩ := h
  exact ⟨by omega, by omega, by omega, by omega⟩
def anyF : List ByteArray := [⟨#[]⟩, ⟨#[115]⟩, ⟨#[65, 66]⟩, ⟨#[90]⟩]
def anyS : List ByteArray := [⟨#[121]⟩, ⟨#[97, 98, 99, 100, 101]⟩, ⟨#[]⟩, ⟨#[89]⟩]
def anyC : List ByteArray := [⟨#[121]⟩, ⟨#[116, 121]⟩, ⟨#[97, 98, 99, 100, 101]⟩, ⟨#[]⟩]
def anyE : List ByteArray := [⟨#[]⟩, ⟨#[83, 71]⟩, ⟨#[115]⟩, ⟨#[65, 66, 67, 68, 69]⟩]
def anyZ : List ByteArray := [⟨#[]⟩, ⟨#[122, 122]⟩, ⟨#[65]⟩]
theorem small_of {l : List ByteArray} (h : (l.all fun s => decide (0 ≤ s.size ∧ s.size ≤ 10)) = true) {s : ByteArray} (hs : s ∈ l) : s.size ≤ 10 := (szs_in (a := 0) (b := 10) h s hs).2
theorem anyAffix_ev {b : PV} (hb : Code1 b) (p : Nat) (hp : p < 800000000) : ∃ (a : Aff) (q : Nat), q ≤ p + 5 ∧ AffT a ∧ ∀ N, spec_l13AnyAffix.f N [rdP b (p : Int)] = some [affP a, rdP b (q : Int)] := by
  obtain ⟨a, ha, h1⟩ := affix_ev hb p (by omega)
  have hs := affLL_small a ha
  obtain ⟨k, hk, hf⟩ := pick_ev hb (p := ((p + 1 : Nat) : Int)) (n := 12) (by omega) (by omega)
  have hp1 : ((p + 1 : Nat) : Int) + 1 = ((p + 2 : Nat) : Int) := by omega
  rw [hp1] at hf
  have hp2 : ((p + 2 : Nat) : Int) + 1 = ((p + 3 : Nat) : Int) := by omega
  by_cases k0 : k = 0
  · obtain ⟨s, hm, hs2⟩ := of_ev hb (p := ((p + 2 : Nat) : Int)) (by omega) anyF (by simp [anyF])
    rw [hp2] at hs2
    have e : PV.list [PV.sc (.string (ByteArray.mk #[])), PV.sc (.string (ByteArray.mk #[115])), PV.sc (.string (ByteArray.mk #[65, 66])), PV.sc (.string (ByteArray.mk #[90]))] = strsP anyF := rfl
    have e2 : PV.agg [PV.sc (.string s), PV.sc (.bool a.front), PV.sc (.string a.strip), PV.sc (.string a.add), PV.sc (.string a.cond)] = affP ⟨s, a.front, a.strip, a.add, a.cond⟩ := rfl
    exact ⟨⟨s, a.front, a.strip, a.add, a.cond⟩, p + 3, by omega, ⟨small_of (l := anyF) rfl hm, hs.strip, hs.add, hs.cond⟩, fun N => by simp only [spec_l13AnyAffix.f_eq, rd_f0, rd_f1, rd_agg, h1, hf, k0, e, hs2, aff_f0, aff_f1, aff_f2, aff_f3, aff_f4, e2, stk, Int.reduceEq, Nat.reduceEqDiff, Int.reduceLE, Int.reduceLT]⟩
  by_cases k1 : k = 1
  · obtain ⟨s, hm, hs2⟩ := of_ev hb (p := ((p + 2 : Nat) : Int)) (by omega) anyS (by simp [anyS])
    rw [hp2] at hs2
    have e : PV.list [PV.sc (.string (ByteArray.mk #[121])), PV.sc (.string (ByteArray.mk #[97, 98, 99, 100, 101])), PV.sc (.string (ByteArray.mk #[])), PV.sc (.string (ByteArray.mk #[89]))] = strsP anyS := rfl
    have e2 : PV.agg [PV.sc (.string a.flag), PV.sc (.bool a.front), PV.sc (.string s), PV.sc (.string a.add), PV.sc (.string a.cond)] = affP ⟨a.flag, a.front, s, a.add, a.cond⟩ := rfl
    exact ⟨⟨a.flag, a.front, s, a.add, a.cond⟩, p + 3, by omega, ⟨hs.flag, small_of (l := anyS) rfl hm, hs.add, hs.cond⟩, fun N => by simp only [spec_l13AnyAffix.f_eq, rd_f0, rd_f1, rd_agg, h1, hf, k1, e, hs2, aff_f0, aff_f1, aff_f2, aff_f3, aff_f4, e2, stk, Int.reduceEq, Nat.reduceEqDiff, Int.reduceLE, Int.reduceLT]⟩
  by_cases k2 : k = 2
  · obtain ⟨s, hm, hs2⟩ := of_ev hb (p := ((p + 2 : Nat) : Int)) (by omega) anyC (by simp [anyC])
    rw [hp2] at hs2
    have e : PV.list [PV.sc (.string (ByteArray.mk #[121])), PV.sc (.string (ByteArray.mk #[116, 121])), PV.sc (.string (ByteArray.mk #[97, 98, 99, 100, 101])), PV.sc (.string (ByteArray.mk #[]))] = strsP anyC := rfl
    have e2 : PV.agg [PV.sc (.string a.flag), PV.sc (.bool a.front), PV.sc (.string a.strip), PV.sc (.string a.add), PV.sc (.string s)] = affP ⟨a.flag, a.front, a.strip, a.add, s⟩ := rfl
    exact ⟨⟨a.flag, a.front, a.strip, a.add, s⟩, p + 3, by omega, ⟨hs.flag, hs.strip, hs.add, small_of (l := anyC) rfl hm⟩, fun N => by simp only [spec_l13AnyAffix.f_eq, rd_f0, rd_f1, rd_agg, h1, hf, k2, e, hs2, aff_f0, aff_f1, aff_f2, aff_f3, aff_f4, e2, stk, Int.reduceEq, Nat.reduceEqDiff, Int.reduceLE, Int.reduceLT]⟩
  by_cases k3 : k = 3
  · have e2 : PV.agg [PV.sc (.string a.flag), PV.sc (.bool (!a.front)), PV.sc (.string a.strip), PV.sc (.string a.add), PV.sc (.string a.cond)] = affP ⟨a.flag, !a.front, a.strip, a.add, a.cond⟩ := rfl
    exact ⟨⟨a.flag, !a.front, a.strip, a.add, a.cond⟩, p + 2, by omega, ⟨hs.flag, hs.strip, hs.add, hs.cond⟩, fun N => by simp only [spec_l13AnyAffix.f_eq, rd_f0, rd_f1, rd_agg, h1, hf, k3, aff_f0, aff_f1, aff_f2, aff_f3, aff_f4, e2, stk, Int.reduceEq, Nat.reduceEqDiff, Int.reduceLE, Int.reduceLT]⟩
  · exact ⟨a, p + 2, by omega, hs, fun N => by simp only [spec_l13AnyAffix.f_eq, rd_f0, rd_f1, rd_agg, h1, hf, k0, k1, k2, k3, aff_f0, aff_f1, aff_f2, aff_f3, aff_f4, aff_agg, stk, Int.reduceEq, Nat.reduceEqDiff, Int.reduceLE, Int.reduceLT]⟩
structure BookD (af : List Aff) (es : List Ent) : Prop where
  al : af.length ≤ 100
  el : es.length ≤ 100
  a : ∀ a ∈ af, AffT a
  e : ∀ e ∈ es, e.stem.size ≤ 13 ∧ e.flags.size ≤ 10
theorem BookD.s {af : List Aff} {es : List Ent} (h : BookD af es) : BookS af es :=
  ⟨by have := h.al; omega, by have := h.el; omega, fun a ha => (h.a a ha).s, fun e he => by obtain ⟨h1, h2⟩ := h.e e he; exact ⟨by omega, by omega⟩⟩
theorem affs_app (af : List Aff) (a : Aff) : PV.list ((affsP af).items ++ [affP a]) = affsP (af ++ [a]) := by simp [affsP, PV.items]
theorem ents_app (es : List Ent) (e : Ent) : PV.list ((entsP es).items ++ [entP e]) = entsP (es ++ [e]) := by simp [entsP, PV.items]
theorem anyBook_ev {b : PV} (hb : Code1 b) (p : Nat) (hp : p < 400000000) : ∃ (af : List Aff) (es : List Ent) (q : Nat), q ≤ p + 300 ∧ BookD af es ∧ Ev (fun N => spec_l13AnyBook.f N [rdP b (p : Int)]) [bookP af es, rdP b (q : Int)] := by
  obtain ⟨af, es, q, h1, h2, h3⟩ := book_ev hb p (by omega)
  have hal := h2.a.n
  have hel := h2.n
  have hD : BookD af es := ⟨by omega, by omega, fun a ha => affLL_small a (h2.a.s a ha), fun e he => by have := h2.s e he; have := flags_size this.2; omega⟩
  obtain ⟨k, hk, hf⟩ := pick_ev hb (p := (q : Int)) (n := 16) (by omega) (by omega)
  have hq1 : (q : Int) + 1 = ((q + 1 : Nat) : Int) := by omega
  rw [hq1] at hf
  by_cases k0 : k = 0
  · obtain ⟨a, q2, g1, g2, g3⟩ := anyAffix_ev hb (q + 1) (by omega)
    have c1 : (af.length + 1 ≤ 1954687338268) = True := tru (by omega)
    refine ⟨af ++ [a], es, q2, by omega, ⟨by simp; omega, by omega, all_snoc hD.a g2, hD.e⟩, ?_⟩
    simp only [spec_l13AnyBook.f_eq, rd_f0, rd_f1, rd_agg, stk, Int.reduceEq, Nat.reduceEqDiff, Int.reduceLE, Int.reduceLT]
    refine Ev.bind h3 ?_
    simp only [rd_f1, rd_agg, hf, k0, g3, book_f0, book_f1, affs_len, c1, aff_f0, aff_f1, aff_f2, aff_f3, aff_f4, aff_agg, affs_app, book_agg, stk, Int.reduceEq, Nat.reduceEqDiff, Int.reduceLE, Int.reduceLT]
    exact Ev.now _
  by_cases k1 : k = 1
  · obtain ⟨w, q2, g1, g2, g3⟩ := anyWord_ev hb (q + 1) (by omega)
    obtain ⟨f, hm, hf2⟩ := of_ev hb (p := (q2 : Int)) (by omega) anyE (by simp [anyE])
    have hq2 : (q2 : Int) + 1 = ((q2 + 1 : Nat) : Int) := by omega
    rw [hq2] at hf2
    have e : PV.list [PV.sc (.string (ByteArray.mk #[])), PV.sc (.string (ByteArray.mk #[83, 71])), PV.sc (.string (ByteArray.mk #[115])), PV.sc (.string (ByteArray.mk #[65, 66, 67, 68, 69]))] = strsP anyE := rfl
    have c1 : (es.length + 1 ≤ 4398046511104) = True := tru (by omega)
    have e2 : PV.agg [PV.sc (.string w), PV.sc (.string f)] = entP ⟨w, f⟩ := rfl
    refine ⟨af, es ++ [⟨w, f⟩], q2 + 1, by omega, ⟨by omega, by simp; omega, hD.a, all_snoc hD.e ⟨g2, small_of (l := anyE) rfl hm⟩⟩, ?_⟩
    simp only [spec_l13AnyBook.f_eq, rd_f0, rd_f1, rd_agg, stk, Int.reduceEq, Nat.reduceEqDiff, Int.reduceLE, Int.reduceLT]
    refine Ev.bind h3 ?_
    simp only [rd_f1, rd_agg, hf, k1, book_f0, book_f1, stk, Int.reduceEq, Nat.reduceEqDiff, Int.reduceLE, Int.reduceLT]
    refine Ev.bind g3 ?_
    simp only [rd_f1, rd_agg, e, hf2, ents_len, c1, e2, ents_app, book_agg, stk, Int.reduceEq, Nat.reduceEqDiff, Int.reduceLE, Int.reduceLT]
    exact Ev.now _
  by_cases k2 : k = 2
  · cases es with
    | nil =>
      have c0 : ((0 : Int) < (([] : List Ent).length : Int)) = False := fls (by simp)
      refine ⟨af, [], q + 1, by omega, hD, ?_⟩
      simp only [spec_l13AnyBook.f_eq, rd_f0, rd_f1, rd_agg, stk, Int.reduceEq, Nat.reduceEqDiff, Int.reduceLE, Int.reduceLT]
      refine Ev.bind h3 ?_
      simp only [rd_f1, rd_agg, hf, k2, book_f0, book_f1, ents_len, c0, book_agg, stk, Int.reduceEq, Nat.reduceEqDiff, Int.reduceLE, Int.reduceLT]
      exact Ev.now _
    | cons x es =>
      obtain ⟨s, hm, hf2⟩ := of_ev hb (p := ((q + 1 : Nat) : Int)) (by omega) anyZ (by simp [anyZ])
      have hq2 : ((q + 1 : Nat) : Int) + 1 = ((q + 2 : Nat) : Int) := by omega
      rw [hq2] at hf2
      have e : PV.list [PV.sc (.string (ByteArray.mk #[])), PV.sc (.string (ByteArray.mk #[122, 122])), PV.sc (.string (ByteArray.mk #[65]))] = strsP anyZ := rfl
      have c0 : ((0 : Int) < ((x :: es).length : Int)) = True := tru (by simp <;> omega)
      have e2 : PV.list ((entsP (x :: es)).items.set 0 (PV.agg (((entsP (x :: es)).elem 0).parts.set 0 (PV.sc (.string s))))) = entsP (⟨s, x.flags⟩ :: es) := rfl
      refine ⟨af, ⟨s, x.flags⟩ :: es, q + 2, by omega, ⟨hD.al, hD.el, hD.a, fun e he => ?_⟩, ?_⟩
      · rcases List.mem_cons.1 he with rfl | he
        · exact ⟨by have := small_of (l := anyZ) rfl hm; show s.size ≤ 13; omega, (hD.e x (by simp)).2⟩
        · exact hD.e e (by simp [he])
      · simp only [spec_l13AnyBook.f_eq, rd_f0, rd_f1, rd_agg, stk, Int.reduceEq, Nat.reduceEqDiff, Int.reduceLE, Int.reduceLT]
        refine Ev.bind h3 ?_
        simp only [rd_f1, rd_agg, hf, k2, book_f0, book_f1, ents_len, c0, e, hf2, Nat.le_refl, e2, book_agg, stk, Int.reduceEq, Nat.reduceEqDiff, Int.reduceLE, Int.reduceLT]
        exact Ev.now _
  · refine ⟨af, es, q + 1, by omega, hD, ?_⟩
    simp only [spec_l13AnyBook.f_eq, rd_f0, rd_f1, rd_agg, stk, Int.reduceEq, Nat.reduceEqDiff, Int.reduceLE, Int.reduceLT]
    refine Ev.bind h3 ?_
    simp only [rd_f1, rd_agg, hf, k0, k1, k2, book_f0, book_f1, book_agg, stk, Int.reduceEq, Nat.reduceEqDiff, Int.reduceLE, Int.reduceLT]
    exact Ev.now _
theorem bookW_word {af : List Aff} {es : List Ent} (h : BookOkF af es) : ∀ x ∈ bookW af es, x.size ≤ 12 := fun x hx => by
  rw [bookW_mem] at hx
  obtain ⟨e, he, hx⟩ := hx
  rcases formsB_mem hx with rfl | hw
  · exact (entB_facts (h.ent e he)).2.1
  · exact word_size hw
theorem l13Of_ev {b : PV} (hb : Code1 b) {af : List Aff} {es : List Ent} (hD : BookD af es) (p : Nat) (hp : p < 400000000) : ∃ (s : ByteArray) (q : Nat), q ≤ p + 20 ∧ s.size ≤ 13 ∧ Ev (fun N => spec_l13Of.f N [rdP b (p : Int), bookP af es]) [strP s, rdP b (q : Int)] := by
  have hok := specBookOk_ev hD.s
  have hp1 : (p : Int) + 1 = ((p + 1 : Nat) : Int) := by omega
  cases hB : bookB af es with
  | false =>
    rw [hB] at hok
    obtain ⟨w, q, g1, g2, g3⟩ := anyWord_ev hb p (by omega)
    refine ⟨w, q, by omega, g2, ?_⟩
    simp only [spec_l13Of.f_eq, rd_f0, rd_f1, rd_agg, book_f0, book_f1, book_agg, stk, Int.reduceEq, Nat.reduceEqDiff, Int.reduceLE, Int.reduceLT]
    refine Ev.bind hok ?_
    simp only [stk, Int.reduceEq, Nat.reduceEqDiff, Int.reduceLE, Int.reduceLT]
    refine Ev.bind g3 ?_
    simp only [rd_f1, rd_agg, stk, Int.reduceEq, Nat.reduceEqDiff, Int.reduceLE, Int.reduceLT]
    exact Ev.now _
  | true =>
    rw [hB] at hok
    have hF := bookB_facts hB
    have hlen := bookW_len hF
    have hWw := bookW_word hF
    have hWe := bookW_ok hF
    obtain ⟨W, hW⟩ : ∃ W, W = bookW af es := ⟨_, rfl⟩
    rw [← hW] at hlen hWw hWe
    clear hW
    obtain ⟨k, hk, hf⟩ := pick_ev hb (p := (p : Int)) (n := 2) (by omega) (by omega)
    rw [hp1] at hf
    by_cases k0 : k = 0
    · by_cases hz : W.length = 0
      · have c0 : ((0 : Int) < (W.length : Int)) = False := fls (by omega)
        obtain ⟨w, q, g1, g2, g3⟩ := anyWord_ev hb (p + 1) (by omega)
        refine ⟨w, q, by omega, g2, ?_⟩
        simp only [spec_l13Of.f_eq, rd_f0, rd_f1, rd_agg, book_f0, book_f1, book_agg, stk, Int.reduceEq, Nat.reduceEqDiff, Int.reduceLE, Int.reduceLT]
        refine Ev.bind hok ?_
        simp only [hf, rd_f1, rd_agg, stk, Int.reduceEq, Nat.reduceEqDiff, Int.reduceLE, Int.reduceLT]
        simp only [k0, stk, Int.reduceEq, Nat.reduceEqDiff, Int.reduceLE, Int.reduceLT]
        refine Ev.bind hWe ?_
        simp only [c0, stk, Int.reduceEq, Nat.reduceEqDiff, Int.reduceLE, Int.reduceLT]
        refine Ev.bind g3 ?_
        simp only [rd_f1, rd_agg, stk, Int.reduceEq, Nat.reduceEqDiff, Int.reduceLE, Int.reduceLT]
        exact Ev.now _
      · have c0 : ((0 : Int) < (W.length : Int)) = True := tru (by omega)
        obtain ⟨j, hj, hf2⟩ := pick_ev hb (p := ((p + 1 : Nat) : Int)) (n := (W.length : Int)) (by omega) (by omega)
        have hp2 : ((p + 1 : Nat) : Int) + 1 = ((p + 2 : Nat) : Int) := by omega
        rw [hp2] at hf2
        obtain ⟨j, rfl⟩ := Int.eq_ofNat_of_zero_le hj.1
        have hjl : j < W.length := by omega
        have c2 : ((j : Int) < (W.length : Int)) = True := tru (by omega)
        refine ⟨W.getD j ByteArray.empty, p + 2, by omega, ?_, ?_⟩
        · have : W.getD j ByteArray.empty ∈ W := by
            rw [List.getD_eq_getElem?_getD, List.getElem?_eq_getElem hjl]; exact List.getElem_mem hjl
          have := hWw _ this
          omega
        · simp only [spec_l13Of.f_eq, rd_f0, rd_f1, rd_agg, book_f0, book_f1, book_agg, stk, Int.reduceEq, Nat.reduceEqDiff, Int.reduceLE, Int.reduceLT]
          refine Ev.bind hok ?_
          simp only [hf, rd_f1, rd_agg, stk, Int.reduceEq, Nat.reduceEqDiff, Int.reduceLE, Int.reduceLT]
          simp only [k0, stk, Int.reduceEq, Nat.reduceEqDiff, Int.reduceLE, Int.reduceLT]
          refine Ev.bind hWe ?_
          simp only [c0, hf2, c2, nn, rd_f1, rd_agg, stk, Int.reduceEq, Nat.reduceEqDiff, Int.reduceLE, Int.reduceLT]
          exact Ev.now _
    · obtain ⟨w, q, g1, g2, g3⟩ := anyWord_ev hb (p + 1) (by omega)
      refine ⟨w, q, by omega, g2, ?_⟩
      simp only [spec_l13Of.f_eq, rd_f0, rd_f1, rd_agg, book_f0, book_f1, book_agg, stk, Int.reduceEq, Nat.reduceEqDiff, Int.reduceLE, Int.reduceLT]
      refine Ev.bind hok ?_
      simp only [hf, k0, rd_f1, rd_agg, stk, Int.reduceEq, Nat.reduceEqDiff, Int.reduceLE, Int.reduceLT]
      refine Ev.bind g3 ?_
      simp only [rd_f1, rd_agg, stk, Int.reduceEq, Nat.reduceEqDiff, Int.reduceLE, Int.reduceLT]
      exact Ev.now _
def wf (f : Nat → Nat → Int) : Nat → Nat → Int
  | 0, k => 4 * (k : Int)
  | i + 1, 0 => 4 * ((i : Int) + 1)
  | i + 1, k + 1 => minI (minI (wf f i k + f i k) (wf f i (k + 1) + 4)) (wf f (i + 1) k + 4)
def matL (n m : Nat) (g : Nat → Nat → Int) : List PV := (List.range n).map fun i => intsP ((List.range m).map (g i))
theorem matL_len (n m : Nat) (g : Nat → Nat → Int) : (matL n m g).length = n := by simp [matL]
theorem matL_row {n m : Nat} {g : Nat → Nat → Int} {i : Nat} (hi : i < n) : (PV.list (matL n m g)).elem i = intsP ((List.range m).map (g i)) := by
  simp [matL, PV.elem, PV.items, List.getD_eq_getElem?_getD, hi]
theorem range_len (m : Nat) (g : Nat → Int) : ((intsP ((List.range m).map g)).items).length = m := by rw [ints_len]; simp
theorem range_at {m k : Nat} {g : Nat → Int} (hk : k < m) : ((intsP ((List.range m).map g)).elem k).toInt = g k := by
  rw [ints_elem, List.getD_eq_getElem?_getD]; simp [hk]
def updM (g : Nat → Nat → Int) (i k : Nat) (v : Int) : Nat → Nat → Int := fun i' k' => if i' = i ∧ k' = k then v else g i' k'
theorem range_set {m k : Nat} {g : Nat → Int} (v : Int) : ((intsP ((List.range m).map g)).items).set k (intP v) = ((List.range m).map (fun k' => if k' = k then v else g k')).map intP := by
  apply List.ext_getElem?
  intro j
  simp only [intsP, PV.items, List.getElem?_set, List.getElem?_map, List.length_map, List.length_range]
  by_cases hj : k = j
  · subst hj
    by_cases hk : k < m
    · simp [hk]
    · simp [hk]
  · have hj' : ¬ j = k := fun h => hj h.symm
    rw [if_neg hj]
    by_cases hjm : j < m
    · simp [hjm, hj']
    · simp [hjm]
theorem matL_set {n m : Nat} {g : Nat → Nat → Int} {i k : Nat} (hi : i < n) (v : Int) : (matL n m g).set i (PV.list (((intsP ((List.range m).map (g i))).items).set k (intP v))) = matL n m (updM g i k v) := by
  rw [range_set]
  apply List.ext_getElem?
  intro j
  simp only [matL, List.getElem?_set, List.getElem?_map, List.length_map, List.length_range]
  by_cases hj : i = j
  · subst hj
    simp [hi, intsP, updM]
  · have hj' : ¬ j = i := fun h => hj h.symm
    rw [if_neg hj]
    by_cases hjm : j < n
    · simp [hjm, hj', intsP, updM]
    · simp [hjm]
theorem matL_congr {n m : Nat} {g g' : Nat → Nat → Int} (h : ∀ i k, i < n → k < m → g i k = g' i k) : matL n m g = matL n m g' := by
  unfold matL
  refine List.map_congr_left (fun i hi => ?_)
  refine congrArg intsP (List.map_congr_left (fun k hk => ?_))
  exact h i k (by simpa using hi) (by simpa using hk)
theorem word_sizeW {s : ByteArray} (h : isWord s = true) : 1 ≤ s.size ∧ s.size ≤ 12 ∧ lowB (bytesOf s) = true := by
  unfold isWord at h
  simp only [Bool.and_eq_true, decide_eq_true_eq] at h
  exact ⟨h.1.1, h.1.2, h.2⟩
theorem cast1 (i : Nat) : ((i + 1 : Nat) : Int) - 1 = (i : Int) := by omega
def g0 (f : Nat → Nat → Int) : Nat → Nat → Int := fun i' k' => if k' = 0 then wf f i' k' else 0
theorem matL_more (n m : Nat) (g : Nat → Nat → Int) : matL n m g ++ [PV.list (((List.range m).map (g n)).map intP)] = matL (n + 1) m g := by
  simp [matL, List.range_succ, intsP]
theorem rowL_more (m : Nat) (g : Nat → Int) : ((List.range m).map g).map intP ++ [intP (g m)] = ((List.range (m + 1)).map g).map intP := by
  simp [List.range_succ]
def AllW (l : List ByteArray) : Prop := ∀ s ∈ l, isWord s = true
theorem near_mid {α : Type} (pre rest : List α) (x : α) : ((([] : List α) ++ (((pre ++ rest).drop 0).take (pre.length - 0))) ++ [x]) ++ (((pre ++ rest).drop pre.length).take ((pre ++ rest).length - pre.length)) = pre ++ x :: rest := by
  simp
theorem nearPut (l : List ByteArray) (t : ByteArray) (hl : l.length < 1000000) (hw : AllW l) (ht : isWord t = true) :
    ∃ l', AllW l' ∧ l.length ≤ l'.length ∧ l'.length ≤ l.length + 1 ∧ 1 ≤ l'.length ∧ Ev (fun N => spec_l1Put.f N [strsP l, strP t]) [strsP l'] := by
  have ins : ∀ pre rest : List ByteArray, l = pre ++ rest → AllW (pre ++ t :: rest) ∧ l.length ≤ (pre ++ t :: rest).length ∧ (pre ++ t :: rest).length ≤ l.length + 1 ∧ 1 ≤ (pre ++ t :: rest).length := by
    intro pre rest h
    subst h
    refine ⟨fun s hs => ?_, by simp, by simp; omega, by simp; omega⟩
    simp only [List.mem_append, List.mem_cons] at hs
    rcases hs with h | rfl | h
    · exact hw s (by simp [h])
    · exact ht
    · exact hw s (by simp [h])
  have mid : ∀ pre rest : List ByteArray, l = pre ++ rest → PV.list (((([] : List PV) ++ (((strsP l).items.drop 0).take (pre.length - 0))) ++ [strP t]) ++ (((strsP l).items.drop pre.length).take ((strsP l).items.length - pre.length))) = strsP (pre ++ t :: rest) := by
    intro pre rest h
    subst h
    have := near_mid (pre.map strP) (rest.map strP) (strP t)
    simp only [List.length_map, ← List.map_append] at this
    simp only [strsP, PV.items]
    rw [show ((pre ++ rest).map strP).length = ((pre ++ rest).map strP).length from rfl] at *
    simp only [List.length_map] at this ⊢
    rw [this]; simp
  have c1 : ∀ pre rest : List ByteArray, l = pre ++ rest → (([] : List PV).length + (((strsP l).items.drop 0).take (pre.length - 0)).length ≤ 8796093022208) = True := by
    intro pre rest h; subst h; simp [strsP, PV.items]; simp at hl; omega
  have c2 : ∀ pre rest : List ByteArray, l = pre ++ rest → ((([] : List PV) ++ (((strsP l).items.drop 0).take (pre.length - 0))).length + [strP t].length ≤ 8796093022208) = True := by
    intro pre rest h; subst h; simp [strsP, PV.items]; simp at hl; omega
  have c3 : ∀ pre rest : List ByteArray, l = pre ++ rest → (((([] : List PV) ++ (((strsP l).items.drop 0).take (pre.length - 0))) ++ [strP t]).length + (((strsP l).items.drop pre.length).take ((strsP l).items.length - pre.length)).length ≤ 8796093022208) = True := by
    intro pre rest h; subst h; simp [strsP, PV.items]; simp at hl; omega
  have c4 : ∀ pre rest : List ByteArray, l = pre ++ rest → (((pre.length : Nat) : Int) ≤ (((strsP l).items.length : Nat) : Int)) = True := by
    intro pre rest h; subst h; simp [strsP, PV.items]; omega
  have key : ∀ rest pre : List ByteArray, l = pre ++ rest → ∃ l', AllW l' ∧ l.length ≤ l'.length ∧ l'.length ≤ l.length + 1 ∧ 1 ≤ l'.length ∧ Ev2 (fun N n => spec_l1Put.l0 N n t (pre.length : Int) (strsP l)) [strsP l'] := by
    intro rest
    induction rest with
    | nil =>
      intro pre hp
      obtain ⟨i1, i2, i3, i4⟩ := ins pre [] hp
      refine ⟨_, i1, i2, i3, i4, Ev2.succ ?_⟩
      have z : ¬ ((pre.length : Nat) : Int) < (((strsP l).items.length : Nat) : Int) := by rw [strs_len]; exact at_end hp
      simp only [spec_l1Put.l0_eq, z, nn, nat_int, decide_false, Bool.false_eq_true, if_false, if_true, c1 pre [] hp, c2 pre [] hp, c3 pre [] hp, c4 pre [] hp, mid pre [] hp]
      exact Ev2.now _
    | cons c rest ih =>
      intro pre hp
      have z : ((pre.length : Nat) : Int) < (((strsP l).items.length : Nat) : Int) := by rw [strs_len]; exact at_lt hp
      have he : ((strsP l).elem pre.length).toStr = c := by rw [strs_elem]; exact at_getD hp
      by_cases hb : Op.bytesLess c.toList t.toList = true
      · obtain ⟨l', i1, i2, i3, i4, i5⟩ := ih (pre ++ [c]) (at_step hp)
        refine ⟨l', i1, i2, i3, i4, Ev2.succ ?_⟩
        simp only [spec_l1Put.l0_eq, z, nn, nat_int, he, hb, decide_true, if_true, at_next hp (by omega)]
        exact i5
      · by_cases ht2 : c.toList = t.toList
        · refine ⟨l, hw, Nat.le_refl _, by omega, by have := at_ltN hp; omega, Ev2.succ ?_⟩
          simp only [spec_l1Put.l0_eq, z, nn, nat_int, he, hb, ht2, decide_true, if_true, Bool.false_eq_true, if_false]
          simp only [ht2] at hb
          simp only [hb, Bool.false_eq_true, if_false]
          exact Ev2.now _
        · obtain ⟨i1, i2, i3, i4⟩ := ins pre (c :: rest) hp
          refine ⟨_, i1, i2, i3, i4, Ev2.succ ?_⟩
          simp only [spec_l1Put.l0_eq, z, nn, nat_int, he, hb, ht2, decide_true, decide_false, Bool.false_eq_true, if_false, if_true, c1 pre (c :: rest) hp, c2 pre (c :: rest) hp, c3 pre (c :: rest) hp, c4 pre (c :: rest) hp, mid pre (c :: rest) hp]
          exact Ev2.now _
  obtain ⟨l', h1, h2, h3, h4, h5⟩ := key l [] rfl
  refine ⟨l', h1, h2, h3, h4, ?_⟩
  simp only [spec_l1Put.f_eq, toStr_sc]
  exact h5.diag
theorem nearStep (l : List ByteArray) (s t : ByteArray) (hl : l.length < 1000000) (hw : AllW l) (hsz : t.size ≤ 1000) :
    ∃ l', AllW l' ∧ l.length ≤ l'.length ∧ l'.length ≤ l.length + 1 ∧ (t ≠ s → isWord t = true → 1 ≤ l'.length) ∧ Ev (fun N => spec_l1Step.f N [strsP l, strP s, strP t]) [strsP l'] := by
  by_cases h : t = s
  · subst h
    refine ⟨l, hw, Nat.le_refl _, by omega, fun h => absurd rfl h, ?_⟩
    simp only [spec_l1Step.f_eq, stk, Int.reduceEq, Nat.reduceEqDiff, Int.reduceLE, Int.reduceLT]
    exact Ev.now _
  · by_cases hwt : isWord t = true
    · obtain ⟨l', h1, h2, h3, h4, h5⟩ := nearPut l t hl hw hwt
      refine ⟨l', h1, h2, h3, fun _ _ => h4, ?_⟩
      have hn : ¬ t.toList = s.toList := fun e => h (by simpa [toList_inj] using e)
      simp only [spec_l1Step.f_eq, toStr_sc, hn, decide_false, if_true]
      refine Ev.bind (specWord_ev t (by omega)) ?_
      simp only [hwt, stk, Int.reduceEq, Nat.reduceEqDiff, Int.reduceLE, Int.reduceLT]
      refine Ev.bind h5 ?_
      simp only [stk, Int.reduceEq, Nat.reduceEqDiff, Int.reduceLE, Int.reduceLT]
      exact Ev.now _
    · refine ⟨l, hw, Nat.le_refl _, by omega, fun _ h => absurd h hwt, ?_⟩
      have hn : ¬ t.toList = s.toList := fun e => h (by simpa [toList_inj] using e)
      simp only [spec_l1Step.f_eq, toStr_sc, hn, decide_false, if_true]
      refine Ev.bind (specWord_ev t (by omega)) ?_
      simp only [Bool.not_eq_true] at hwt
      simp only [hwt, stk, Int.reduceEq, Nat.reduceEqDiff, Int.reduceLE, Int.reduceLT]
      exact Ev.now _
theorem i32_id {n : Int} (h0 : -2147483648 ≤ n) (h1 : n < 2147483648) : IntKind.i32.wrap n = n := by
  have h : IntKind.i32.wrap n = if (n % 4294967296) ≥ 2147483648 then n % 4294967296 - 4294967296 else n % 4294967296 := by
    simp [IntKind.wrap, IntKind.signed, IntKind.bits]
  rw [h]; split <;> omega
def cbL (c : Int) : ByteArray := bytesOfL [PV.sc (.int .u8 (IntKind.u8.wrap c))]
theorem cbL_size (c : Int) : (cbL c).size = 1 := by simp [cbL, bytesOfL, ByteArray.size]
def insL (s : ByteArray) (i : Nat) (c : Int) : ByteArray := ((s.extract 0 i) ++ cbL c) ++ s.extract i s.size
def repL (s : ByteArray) (i : Nat) (c : Int) : ByteArray := ((s.extract 0 i) ++ cbL c) ++ s.extract (i + 1) s.size
def delL (s : ByteArray) (i : Nat) : ByteArray := s.extract 0 i ++ s.extract (i + 1) s.size
def swpL (s : ByteArray) (i : Nat) : ByteArray := ((s.extract 0 i ++ s.extract (i + 1) (i + 2)) ++ s.extract i (i + 1)) ++ s.extract (i + 2) s.size
def goodL (s : ByteArray) (i : Nat) (c : Int) : Prop := (insL s i c ≠ s ∧ isWord (insL s i c) = true) ∨ (i < s.size ∧ repL s i c ≠ s ∧ isWord (repL s i c) = true)
theorem near_after (s : ByteArray) (hsw : s.size ≤ 12) (i : Nat) (hi : i ≤ s.size) (B : Nat) (hB : B < 1000000) (Z : Nat)
    (hR : ∀ l, AllW l → l.length + Z ≤ B → ∃ l', AllW l' ∧ l.length ≤ l'.length ∧ l'.length ≤ B ∧ Ev2 (fun N n => spec_l1Near.l3 N n s ((i + 1 : Nat) : Int) (strsP l)) [strsP l']) :
    ∀ (k : Nat) (c : Int), c + k = 123 → 97 ≤ c → ∀ l, AllW l → l.length + 2 * k + 2 + Z ≤ B → ∃ l', AllW l' ∧ l.length ≤ l'.length ∧ l'.length ≤ B ∧ (∀ c', c ≤ c' → c' ≤ 122 → goodL s i c' → 1 ≤ l'.length) ∧
      Ev3 (fun N m0 n => spec_l1Near.l2 N m0 n s (i : Int) c (strsP l)) [strsP l'] := by
  have se : ∀ x y, (s.extract x y).size ≤ 12 := fun x y => by rw [ByteArray.size_extract]; omega
  have d1 : ∀ x y z w, ((s.extract x y).size + (s.extract z w).size ≤ 9223372036854775807) = True := fun x y z w => by
    have := se x y; have := se z w; exact eq_true (by omega)
  have d2 : ∀ x y c, ((s.extract x y).size + (cbL c).size ≤ 9223372036854775807) = True := fun x y c => by
    have := se x y; have := cbL_size c; exact eq_true (by omega)
  have d3 : ∀ x y c z w, ((s.extract x y ++ cbL c).size + (s.extract z w).size ≤ 9223372036854775807) = True := fun x y c z w => by
    have := se x y; have := se z w; have := cbL_size c; rw [ByteArray.size_append]; exact eq_true (by omega)
  have d4 : ∀ x y z w u v, ((s.extract x y ++ s.extract z w).size + (s.extract u v).size ≤ 9223372036854775807) = True := fun x y z w u v => by
    have := se x y; have := se z w; have := se u v; rw [ByteArray.size_append]; exact eq_true (by omega)
  have d5 : ∀ x y z w u v p q, (((s.extract x y ++ s.extract z w) ++ s.extract u v).size + (s.extract p q).size ≤ 9223372036854775807) = True := fun x y z w u v p q => by
    have := se x y; have := se z w; have := se u v; have := se p q; rw [ByteArray.size_append, ByteArray.size_append]; exact eq_true (by omega)
  have w1 : IntKind.i64.wrap ((i : Int) + 1) = ((i + 1 : Nat) : Int) := by rw [wrap_id (by omega) (by omega)]; omega
  have w2 : IntKind.i64.wrap ((i : Int) + 2) = ((i + 2 : Nat) : Int) := by rw [wrap_id (by omega) (by omega)]; omega
  have hle : (i : Int) ≤ (s.size : Int) := by omega
  have insz : ∀ c, (insL s i c).size ≤ 1000 := fun c => by
    have := se 0 i; have := se i s.size; have := cbL_size c; unfold insL; rw [ByteArray.size_append, ByteArray.size_append]; omega
  have repz : ∀ c, (repL s i c).size ≤ 1000 := fun c => by
    have := se 0 i; have := se (i + 1) s.size; have := cbL_size c; unfold repL; rw [ByteArray.size_append, ByteArray.size_append]; omega
  have delz : (delL s i).size ≤ 1000 := by
    have := se 0 i; have := se (i + 1) s.size; unfold delL; rw [ByteArray.size_append]; omega
  have swpz : (swpL s i).size ≤ 1000 := by
    have := se 0 i; have := se (i + 1) (i + 2); have := se i (i + 1); have := se (i + 2) s.size; unfold swpL; rw [ByteArray.size_append, ByteArray.size_append, ByteArray.size_append]; omega
  intro k
  induction k with
  | zero =>
    intro c hc hc2 l hw hl
    have z : ¬ c ≤ 122 := by omega
    have none : ∀ c', c ≤ c' → c' ≤ 122 → goodL s i c' → ∀ x : Nat, 1 ≤ x := fun c' h1 h2 _ => by omega
    by_cases hlt : i < s.size
    · obtain ⟨la, a1, a2, a3, -, a4⟩ := nearStep l s (delL s i) (by omega) hw delz
      have hlt1 : (i : Int) < (s.size : Int) := by omega
      have hle1 : ((i + 1 : Nat) : Int) ≤ (s.size : Int) := by omega
      by_cases h2 : i + 1 < s.size
      · obtain ⟨lb, b1, b2, b3, -, b4⟩ := nearStep la s (swpL s i) (by omega) a1 swpz
        obtain ⟨l', e1, e2, e3, e4⟩ := hR lb b1 (by omega)
        refine ⟨l', e1, by omega, e3, fun c' p q r => none c' p q r _, Ev3.succ ?_⟩
        have h3 : ((i + 1 : Nat) : Int) < (s.size : Int) := by omega
        have h4 : ((i + 2 : Nat) : Int) ≤ (s.size : Int) := by omega
        have h5 : ((i + 1 : Nat) : Int) ≤ ((i + 2 : Nat) : Int) := by omega
        have h6 : (i : Int) ≤ ((i + 1 : Nat) : Int) := by omega
        unfold delL at a4; unfold swpL at b4
        simp only [spec_l1Near.l2_eq, z, hlt1, hle, hle1, h3, h4, h5, h6, w1, w2, d1, d2, d3, d4, d5, nn, nat_int, decide_true, decide_false, Bool.false_eq_true, if_false, if_true]
        refine Ev3.bind a4 ?_
        simp only [headD_one]
        refine Ev3.bind b4 ?_
        simp only [headD_one]
        exact e4.outer
      · obtain ⟨l', e1, e2, e3, e4⟩ := hR la a1 (by omega)
        refine ⟨l', e1, by omega, e3, fun c' p q r => none c' p q r _, Ev3.succ ?_⟩
        have h3 : ¬ ((i + 1 : Nat) : Int) < (s.size : Int) := by omega
        unfold delL at a4
        simp only [spec_l1Near.l2_eq, z, hlt1, hle, hle1, h3, w1, w2, d1, d2, d3, d4, d5, nn, nat_int, decide_true, decide_false, Bool.false_eq_true, if_false, if_true]
        refine Ev3.bind a4 ?_
        simp only [headD_one]
        exact e4.outer
    · obtain ⟨l', e1, e2, e3, e4⟩ := hR l hw (by omega)
      refine ⟨l', e1, e2, e3, fun c' p q r => none c' p q r _, Ev3.succ ?_⟩
      have hlt1 : ¬ (i : Int) < (s.size : Int) := by omega
      have h3 : ¬ ((i + 1 : Nat) : Int) < (s.size : Int) := by omega
      simp only [spec_l1Near.l2_eq, z, hlt1, h3, w1, decide_false, Bool.false_eq_true, if_false]
      exact e4.outer
  | succ k ih =>
    intro c hc hc2 l hw hl
    have z : c ≤ 122 := by omega
    have wc : IntKind.i32.wrap (c + 1) = c + 1 := i32_id (by omega) (by omega)
    obtain ⟨la, a1, a2, a3, a5, a4⟩ := nearStep l s (insL s i c) (by omega) hw (insz c)
    have hcb : bytesOfL [PV.sc (.int .u8 (IntKind.u8.wrap c))] = cbL c := rfl
    by_cases hlt : i < s.size
    · have hlt1 : (i : Int) < (s.size : Int) := by omega
      have hle1 : ((i + 1 : Nat) : Int) ≤ (s.size : Int) := by omega
      obtain ⟨lb, b1, b2, b3, b5, b4⟩ := nearStep la s (repL s i c) (by omega) a1 (repz c)
      obtain ⟨l', e1, e2, e3, e5, e4⟩ := ih (c + 1) (by omega) (by omega) lb b1 (by omega)
      refine ⟨l', e1, by omega, e3, fun c' p q r => ?_, Ev3.succ ?_⟩
      · by_cases hcc : c' = c
        · subst hcc
          rcases r with r | r
          · have := a5 r.1 r.2; omega
          · have := b5 r.2.1 r.2.2; omega
        · exact e5 c' (by omega) q r
      · unfold insL at a4; unfold repL at b4
        simp only [spec_l1Near.l2_eq, hcb, z, hlt1, hle, hle1, wc, w1, d1, d2, d3, nn, nat_int, decide_true, if_true]
        refine Ev3.bind a4 ?_
        simp only [headD_one]
        refine Ev3.bind b4 ?_
        simp only [headD_one]
        exact e4
    · have hlt1 : ¬ (i : Int) < (s.size : Int) := by omega
      obtain ⟨l', e1, e2, e3, e5, e4⟩ := ih (c + 1) (by omega) (by omega) la a1 (by omega)
      refine ⟨l', e1, by omega, e3, fun c' p q r => ?_, Ev3.succ ?_⟩
      · by_cases hcc : c' = c
        · subst hcc
          rcases r with r | r
          · have := a5 r.1 r.2; omega
          · exact absurd r.1 hlt
        · exact e5 c' (by omega) q r
      · unfold insL at a4
        simp only [spec_l1Near.l2_eq, hcb, z, hlt1, hle, wc, d1, d2, d3, nn, nat_int, decide_true, decide_false, Bool.false_eq_true, if_false, if_true]
        refine Ev3.bind a4 ?_
        simp only [headD_one]
        exact e4
theorem near_l3 (s : ByteArray) (hsw : s.size ≤ 12) (B : Nat) (hB : B < 1000000) : ∀ (d i : Nat), i + d = s.size + 1 → ∀ l, AllW l → l.length + 100 * d ≤ B →
    ∃ l', AllW l' ∧ l.length ≤ l'.length ∧ l'.length ≤ B ∧ Ev2 (fun N n => spec_l1Near.l3 N n s (i : Int) (strsP l)) [strsP l'] := by
  intro d
  induction d with
  | zero =>
    intro i hi l hw hl
    refine ⟨l, hw, Nat.le_refl _, by omega, Ev2.succ ?_⟩
    have z : ¬ (i : Int) ≤ (s.size : Int) := by omega
    simp only [spec_l1Near.l3_eq, z, decide_false, Bool.false_eq_true, if_false]
    exact Ev2.now _
  | succ d ih =>
    intro i hi l hw hl
    obtain ⟨l', h1, h2, h3, -, h4⟩ := near_after s hsw i (by omega) B hB (100 * d) (fun l0 hw0 hl0 => ih (i + 1) (by omega) l0 hw0 hl0) 26 97 (by omega) (by omega) l hw (by omega)
    refine ⟨l', h1, h2, h3, Ev2.succ ?_⟩
    have z : (i : Int) ≤ (s.size : Int) := by omega
    simp only [spec_l1Near.l3_eq, z, decide_true, if_true]
    exact h4.start
theorem near_l0 (s : ByteArray) (hsw : s.size ≤ 12) (B : Nat) (hB : B < 1000000) (i : Nat) (hi : i ≤ s.size) (l : List ByteArray) (hw : AllW l) (hl : l.length + 100 * 14 ≤ B) :
    ∃ l', AllW l' ∧ l'.length ≤ B ∧ (∀ c', 97 ≤ c' → c' ≤ 122 → goodL s i c' → 1 ≤ l'.length) ∧ Ev2 (fun N n => spec_l1Near.l0 N n s (i : Int) (l.map strP)) [strsP l'] := by
  have se : ∀ x y, (s.extract x y).size ≤ 12 := fun x y => by rw [ByteArray.size_extract]; omega
  have d2 : ∀ x y c, ((s.extract x y).size + (cbL c).size ≤ 9223372036854775807) = True := fun x y c => by
    have := se x y; have := cbL_size c; exact eq_true (by omega)
  have d3 : ∀ x y c z w, ((s.extract x y ++ cbL c).size + (s.extract z w).size ≤ 9223372036854775807) = True := fun x y c z w => by
    have := se x y; have := se z w; have := cbL_size c; rw [ByteArray.size_append]; exact eq_true (by omega)
  have w1 : IntKind.i64.wrap ((i : Int) + 1) = ((i + 1 : Nat) : Int) := by rw [wrap_id (by omega) (by omega)]; omega
  have hle : (i : Int) ≤ (s.size : Int) := by omega
  have insz : ∀ c, (insL s i c).size ≤ 1000 := fun c => by
    have := se 0 i; have := se i s.size; have := cbL_size c; unfold insL; rw [ByteArray.size_append, ByteArray.size_append]; omega
  have repz : ∀ c, (repL s i c).size ≤ 1000 := fun c => by
    have := se 0 i; have := se (i + 1) s.size; have := cbL_size c; unfold repL; rw [ByteArray.size_append, ByteArray.size_append]; omega
  have hcb : bytesOfL [PV.sc (.int .u8 (IntKind.u8.wrap 97))] = cbL 97 := rfl
  have z : (97 : Int) ≤ 122 := by omega
  have wc : IntKind.i32.wrap (97 + 1) = 98 := i32_id (by omega) (by omega)
  have wc' : IntKind.i32.wrap 98 = 98 := i32_id (by omega) (by omega)
  have hR := near_l3 s hsw B hB (s.size - i) (i + 1) (by omega)
  obtain ⟨la, a1, a2, a3, a5, a4⟩ := nearStep l s (insL s i 97) (by omega) hw (insz 97)
  have hl1 : PV.list (l.map strP) = strsP l := rfl
  by_cases hlt : i < s.size
  · have hlt1 : (i : Int) < (s.size : Int) := by omega
    have hle1 : ((i + 1 : Nat) : Int) ≤ (s.size : Int) := by omega
    obtain ⟨lb, b1, b2, b3, b5, b4⟩ := nearStep la s (repL s i 97) (by omega) a1 (repz 97)
    obtain ⟨l', e1, e2, e3, e5, e4⟩ := near_after s hsw i hi B hB (100 * (s.size - i)) hR 25 98 (by omega) (by omega) lb b1 (by omega)
    refine ⟨l', e1, e3, fun c' p q r => ?_, Ev2.succ ?_⟩
    · by_cases hcc : c' = 97
      · subst hcc
        rcases r with r | r
        · have := a5 r.1 r.2; omega
        · have := b5 r.2.1 r.2.2; omega
      · exact e5 c' (by omega) q r
    · simp only [spec_l1Near.l0_eq, hle, decide_true, if_true]
      refine Ev3.start (g := fun N m0 n => spec_l1Near.l1 N m0 n s (i : Int) 97 (l.map strP)) (Ev3.succ ?_)
      unfold insL at a4; unfold repL at b4
      simp only [spec_l1Near.l1_eq, hcb, hl1, z, hlt1, hle, hle1, wc, w1, d2, d3, nn, nat_int, decide_true, if_true]
      refine Ev3.bind a4 ?_
      simp only [headD_one]
      refine Ev3.bind b4 ?_
      simp only [headD_one, wc, wc', Int.reduceAdd]
      exact e4
  · have hlt1 : ¬ (i : Int) < (s.size : Int) := by omega
    obtain ⟨l', e1, e2, e3, e5, e4⟩ := near_after s hsw i hi B hB (100 * (s.size - i)) hR 25 98 (by omega) (by omega) la a1 (by omega)
    refine ⟨l', e1, e3, fun c' p q r => ?_, Ev2.succ ?_⟩
    · by_cases hcc : c' = 97
      · subst hcc
        rcases r with r | r
        · have := a5 r.1 r.2; omega
        · exact absurd r.1 hlt
      · exact e5 c' (by omega) q r
    · simp only [spec_l1Near.l0_eq, hle, decide_true, if_true]
      refine Ev3.start (g := fun N m0 n => spec_l1Near.l1 N m0 n s (i : Int) 97 (l.map strP)) (Ev3.succ ?_)
      unfold insL at a4
      simp only [spec_l1Near.l1_eq, hcb, hl1, z, hlt1, hle, wc, d2, d3, nn, nat_int, decide_true, decide_false, Bool.false_eq_true, if_false, if_true]
      refine Ev3.bind a4 ?_
      simp only [headD_one, wc, wc', Int.reduceAdd]
      exact e4
theorem bytes_app (a b : ByteArray) : bytesOf (a ++ b) = bytesOf a ++ bytesOf b := by simp [bytesOf, ByteArray.data_append]
theorem bytes_extN (s : ByteArray) (i j : Nat) : bytesOf (s.extract i j) = ((bytesOf s).drop i).take (j - i) := by
  unfold bytesOf
  rw [ByteArray.data_extract]
  simp [List.map_take, List.map_drop]
theorem cbL_bytes {c : Int} (h : 97 ≤ c ∧ c ≤ 122) : bytesOf (cbL c) = [c] := by
  have hw : IntKind.u8.wrap c = c := by
    have : IntKind.u8.wrap c = c % 256 := by simp [IntKind.wrap, IntKind.signed, IntKind.bits]
    rw [this]; omega
  have e : (cbL c).data.toList = [UInt8.ofNat c.toNat] := by simp [cbL, bytesOfL, hw, PV.toInt]
  unfold bytesOf
  rw [e]
  simp
  omega
theorem isWord_of {s : ByteArray} (h1 : 1 ≤ s.size) (h2 : s.size ≤ 12) (h3 : lowB (bytesOf s) = true) : isWord s = true := by
  have h4 : ((bytesOf s).all fun c => decide (97 ≤ c ∧ c ≤ 122)) = true := h3
  unfold isWord; rw [h4]; simp [h1, h2]
theorem word_parts {s : ByteArray} (h : isWord s = true) : 1 ≤ s.size ∧ s.size ≤ 12 ∧ lowB (bytesOf s) = true := by
  unfold isWord at h
  simp only [Bool.and_eq_true, decide_eq_true_eq] at h
  exact ⟨h.1.1, h.1.2, h.2⟩
theorem good_some {s : ByteArray} (h : isWord s = true) : ∃ c, 97 ≤ c ∧ c ≤ 122 ∧ goodL s 0 c := by
  obtain ⟨s1, s2, s3⟩ := word_parts h
  have hb : (bytesOf s).length = s.size := bytesOf_len s
  by_cases h12 : s.size < 12
  · have hins : bytesOf (insL s 0 97) = 97 :: bytesOf s := by
      unfold insL
      rw [bytes_app, bytes_app, bytes_extN, bytes_extN, cbL_bytes (by omega)]
      have : List.take (s.size - 0) (bytesOf s) = bytesOf s := List.take_of_length_le (by omega)
      simp [this, ← hb]
    have hz : (insL s 0 97).size = s.size + 1 := by rw [← bytesOf_len, hins, List.length_cons, hb]
    refine ⟨97, by omega, by omega, .inl ⟨fun e => by rw [e] at hz; omega, isWord_of (by omega) (by omega) ?_⟩⟩
    rw [hins, lowB_cons, s3]; rfl
  · match hs : bytesOf s, hb with
    | [], hb => simp at hb; omega
    | x :: r, hb =>
      have key : ∀ c, 97 ≤ c → c ≤ 122 → c ≠ x → goodL s 0 c := fun c c1 c2 hc => by
        have hrep : bytesOf (repL s 0 c) = c :: r := by
          unfold repL
          rw [bytes_app, bytes_app, bytes_extN, bytes_extN, cbL_bytes ⟨c1, c2⟩, hs]
          have hr : r.length + 1 = s.size := by simpa using hb
          have : List.take (s.size - (0 + 1)) r = r := List.take_of_length_le (by omega)
          simp [this]
        have hz : (repL s 0 c).size = s.size := by rw [← bytesOf_len, hrep, ← hb]; rfl
        refine .inr ⟨by omega, fun e => ?_, isWord_of (by omega) (by omega) ?_⟩
        · rw [e, hs] at hrep; exact hc (List.cons.inj hrep).1.symm
        · rw [hs, lowB_cons] at s3
          rw [hrep, lowB_cons]
          simp only [Bool.and_eq_true] at s3
          simp [s3.2, c1, c2]
      by_cases hx : (97 : Int) = x
      · exact ⟨98, by omega, by omega, key 98 (by omega) (by omega) (by omega)⟩
      · exact ⟨97, by omega, by omega, key 97 (by omega) (by omega) hx⟩
theorem near_ev {s : ByteArray} (h : isWord s = true) : ∃ l, AllW l ∧ 1 ≤ l.length ∧ l.length ≤ 2000 ∧ Ev (fun N => spec_l1Near.f N [strP s]) [strsP l] := by
  have hh := h
  unfold isWord at hh
  simp only [Bool.and_eq_true, decide_eq_true_eq] at hh
  obtain ⟨⟨s1, s2⟩, s3⟩ := hh
  obtain ⟨l', h1, h2, h3, h4⟩ := near_l0 s s2 2000 (by omega) 0 (by omega) [] (fun x hx => by simp at hx) (by simp)
  obtain ⟨c, c1, c2, c3⟩ := good_some h
  refine ⟨l', h1, h3 c c1 c2 c3, h2, ?_⟩
  simp only [spec_l1Near.f_eq, toStr_sc]
  exact h4.diag
theorem draw_place {b : PV} (hb : Code1 b) (p : Nat) (hp : p < 900000000) {l : List ByteArray} (hw : AllW l) (h1 : 1 ≤ l.length) (h2 : l.length ≤ 2000) :
    ∃ (k k' : Int) (t : ByteArray), isWord t = true ∧ (∀ N, spec_l1Rd_pick.f N [rdP b (p : Int), intP 256] = some [intP k, rdP b ((p + 1 : Nat) : Int)]) ∧ (∀ N, spec_l1Rd_pick.f N [rdP b ((p + 1 : Nat) : Int), intP 256] = some [intP k', rdP b ((p + 2 : Nat) : Int)]) ∧
      ((((strsP l).items).length : Int) = 0) = False ∧ (0 ≤ (Int.tmod (IntKind.i64.wrap ((IntKind.i64.wrap (k * 256)) + k')) (((strsP l).items).length : Int))) = True ∧ ((Int.tmod (IntKind.i64.wrap ((IntKind.i64.wrap (k * 256)) + k')) (((strsP l).items).length : Int)) < (((strsP l).items).length : Int)) = True ∧
      ((strsP l).elem ((Int.tmod (IntKind.i64.wrap ((IntKind.i64.wrap (k * 256)) + k')) (((strsP l).items).length : Int)).toNat)).toStr = t := by
  obtain ⟨k, hk, hf⟩ := pick_ev hb (p := (p : Int)) (n := 256) (by omega) (by omega)
  obtain ⟨k', hk', hf'⟩ := pick_ev hb (p := ((p + 1 : Nat) : Int)) (n := 256) (by omega) (by omega)
  have e1 : (p : Int) + 1 = ((p + 1 : Nat) : Int) := by omega
  have e2 : ((p + 1 : Nat) : Int) + 1 = ((p + 2 : Nat) : Int) := by omega
  rw [e1] at hf
  rw [e2] at hf'
  have w1 : IntKind.i64.wrap (k * 256) = k * 256 := wrap_id (by omega) (by omega)
  have w2 : IntKind.i64.wrap (k * 256 + k') = k * 256 + k' := wrap_id (by omega) (by omega)
  have ht := tmod_in (x := k * 256 + k') (n := (l.length : Int)) (by omega) (by omega)
  obtain ⟨j, hj⟩ := Int.eq_ofNat_of_zero_le ht.1
  have hjl : j < l.length := by omega
  refine ⟨k, k', l.getD j ByteArray.empty, ?_, hf, hf', ?_, ?_, ?_, ?_⟩
  · rw [List.getD_eq_getElem?_getD, List.getElem?_eq_getElem hjl]; exact hw _ (List.getElem_mem hjl)
  · rw [strs_len]; exact eq_false (by omega)
  · rw [strs_len, w1, w2]; exact eq_true ht.1
  · rw [strs_len, w1, w2]; exact eq_true ht.2
  · rw [strs_len, w1, w2, hj, strs_elem, nat_int]
theorem other_ev {b : PV} (hb : Code1 b) (p : Nat) (hp : p < 700000000) (s : ByteArray) (hs : s.size ≤ 1000) : ∃ (r : ByteArray) (q : Nat), q ≤ p + 20 ∧ r.size ≤ 13 ∧ Ev (fun N => spec_l13Other.f N [rdP b (p : Int), strP s]) [strP r, rdP b (q : Int)] := by
  simp only [spec_l13Other.f_eq, rd_f0, rd_f1, rd_agg, toStr_sc, toInt_sc]
  by_cases hw : isWord s = true
  · obtain ⟨k, hk, hf⟩ := pick_ev hb (p := (p : Int)) (n := 2) (by omega) (by omega)
    have e1 : (p : Int) + 1 = ((p + 1 : Nat) : Int) := by omega
    rw [e1] at hf
    by_cases k0 : k = 0
    · obtain ⟨l, l1, l2, l3, l4⟩ := near_ev hw
      obtain ⟨a, a', t, ht, f1, f2, x1, x2, x3, x4⟩ := draw_place hb (p + 1) (by omega) l1 l2 l3
      obtain ⟨m, hm, hg⟩ := pick_ev hb (p := ((p + 1 + 2 : Nat) : Int)) (n := 3) (by omega) (by omega)
      have e2 : ((p + 1 + 2 : Nat) : Int) + 1 = ((p + 4 : Nat) : Int) := by omega
      rw [e2] at hg
      obtain ⟨t1, t2, t3⟩ := word_parts ht
      by_cases m0 : m = 0
      · obtain ⟨l', m1, m2, m3, m4⟩ := near_ev ht
        obtain ⟨c, c', u, hu, g1, g2, y1, y2, y3, y4⟩ := draw_place hb (p + 4) (by omega) m1 m2 m3
        obtain ⟨u1, u2, u3⟩ := word_parts hu
        refine ⟨u, p + 4 + 2, by omega, by omega, ?_⟩
        refine Ev.bind (specWord_ev s (by omega)) ?_
        simp only [hw, hf, k0, headD_one, toBool_sc, toInt_sc, List.headD_cons, List.tail_cons, rd_f0, rd_f1, Option.bind_some, decide_true, if_true]
        refine Ev.bind l4 ?_
        simp only [f1, f2, x1, x2, x3, x4, hg, m0, headD_one, toBool_sc, toInt_sc, List.headD_cons, List.tail_cons, rd_f0, rd_f1, Option.bind_some, decide_true, if_true, if_false]
        refine Ev.bind m4 ?_
        simp only [g1, g2, y1, y2, y3, y4, headD_one, toBool_sc, toInt_sc, List.headD_cons, List.tail_cons, rd_f0, rd_f1, Option.bind_some, decide_true, if_true, if_false]
        exact Ev.now _
      · refine ⟨t, p + 4, by omega, by omega, ?_⟩
        refine Ev.bind (specWord_ev s (by omega)) ?_
        simp only [hw, hf, k0, headD_one, toBool_sc, toInt_sc, List.headD_cons, List.tail_cons, rd_f0, rd_f1, Option.bind_some, decide_true, if_true]
        refine Ev.bind l4 ?_
        simp only [f1, f2, x1, x2, x3, x4, hg, m0, headD_one, toBool_sc, toInt_sc, List.headD_cons, List.tail_cons, rd_f0, rd_f1, Option.bind_some, decide_true, decide_false, Bool.false_eq_true, if_true, if_false]
        exact Ev.now _
    · obtain ⟨r, q, h1, h2, h3⟩ := anyWord_ev hb (p + 1) (by omega)
      refine ⟨r, q, by omega, h2, ?_⟩
      refine Ev.bind (specWord_ev s (by omega)) ?_
      simp only [hw, hf, k0, headD_one, toBool_sc, toInt_sc, List.headD_cons, List.tail_cons, rd_f0, rd_f1, Option.bind_some, decide_true, decide_false, Bool.false_eq_true, if_true, if_false]
      refine Ev.bind h3 ?_
      simp only [headD_one, toStr_sc, List.headD_cons, List.tail_cons, rd_f1, toInt_sc]
      exact Ev.now _
  · obtain ⟨r, q, h1, h2, h3⟩ := anyWord_ev hb p (by omega)
    refine ⟨r, q, by omega, h2, ?_⟩
    refine Ev.bind (specWord_ev s (by omega)) ?_
    simp only [Bool.not_eq_true] at hw
    simp only [hw, headD_one, toBool_sc, Bool.false_eq_true, if_false]
    refine Ev.bind h3 ?_
    simp only [headD_one, toStr_sc, List.headD_cons, List.tail_cons, rd_f1, toInt_sc]
    exact Ev.now _
def isLow (c : Int) : Prop := 97 ≤ c ∧ c ≤ 122
instance (c : Int) : Decidable (isLow c) := inferInstanceAs (Decidable (_ ∧ _))
def isUp (c : Int) : Prop := 65 ≤ c ∧ c ≤ 90
instance (c : Int) : Decidable (isUp c) := inferInstanceAs (Decidable (_ ∧ _))
def lows (l : List Int) : Nat := (l.filter fun c => decide (isLow c)).length
def ups (l : List Int) : Nat := (l.filter fun c => decide (isUp c)).length
def letters (l : List Int) : Bool := l.all fun c => decide (isLow c ∨ isUp c)
def caseM (l : List Int) : Int :=
  if letters l = false then 0 else if l = [] then 0 else if ups l = 0 then 1 else if ups l = 1 ∧ isUp (l.getD 0 0) then 2 else if ups l = l.length then 3 else 4
theorem lows_cons (c : Int) (l : List Int) : lows (c :: l) = (if isLow c then 1 else 0) + lows l := by
  unfold lows
  by_cases h : isLow c <;> simp [List.filter_cons, h]
  omega
theorem ups_cons (c : Int) (l : List Int) : ups (c :: l) = (if isUp c then 1 else 0) + ups l := by
  unfold ups
  by_cases h : isUp c <;> simp [List.filter_cons, h]
  omega
theorem letters_cons (c : Int) (l : List Int) : letters (c :: l) = (decide (isLow c ∨ isUp c) && letters l) := by simp [letters]
theorem counts_len (l : List Int) (h : letters l = true) : lows l + ups l = l.length := by
  induction l with
  | nil => rfl
  | cons c l ih =>
    rw [letters_cons, Bool.and_eq_true, decide_eq_true_eq] at h
    have := ih h.2
    rw [lows_cons, ups_cons, List.length_cons]
    have hx : ¬ (isLow c ∧ isUp c) := by unfold isLow isUp; omega
    rcases h.1 with h1 | h1
    · rw [if_pos h1, if_neg (fun h2 => hx ⟨h1, h2⟩)]; omega
    · rw [if_neg (fun h2 => hx ⟨h2, h1⟩), if_pos h1]; omega
theorem implUpper_val (k : IntKind) (c : Int) (N : Nat) : impl_upper.f N [.sc (.int k c)] = some [boolP (decide (isUp c))] := by
  simp only [impl_upper.f_eq, stk, Int.reduceEq, Nat.reduceEqDiff, Int.reduceLE, Int.reduceLT]
  by_cases h1 : 65 ≤ c <;> by_cases h2 : c ≤ 90 <;> simp [h1, h2, isUp]
theorem implLetter_val (k : IntKind) (c : Int) (N : Nat) : impl_letter.f N [.sc (.int k c)] = some [boolP (decide (isLow c ∨ isUp c))] := by
  simp only [impl_letter.f_eq, implUpper_val, stk, Int.reduceEq, Nat.reduceEqDiff, Int.reduceLE, Int.reduceLT]
  by_cases h1 : 97 ≤ c <;> by_cases h2 : c ≤ 122 <;> simp [h1, h2, isLow, boolP, PV.toBool, List.headD]
theorem add_one {n m : Nat} (h : n ≤ m) (hm : m < 9223372036854775807) : IntKind.i64.wrap ((n : Int) + 1) = ((n + 1 : Nat) : Int) := by
  rw [wrap_id (by omega) (by omega)]; omega
theorem specCase_loop (s : ByteArray) (hs : s.size ≤ 9223372036854775807) : ∀ (rest pre : List Int), bytesOf s = pre ++ rest →
    ∀ lo up : Nat, lo ≤ pre.length → up ≤ pre.length →
    Ev2 (fun N n => spec_CaseOf.l0 N n s (lo : Int) (up : Int) (pre.length : Int)) [intP (if letters rest = false then 0 else if s.size = 0 then 0 else if up + ups rest = 0 then 1 else if up + ups rest = 1 ∧ bt s 0 ≤ 90 then 2 else if lo + lows rest = 0 then 3 else 4)] := by
  intro rest
  induction rest with
  | nil =>
    intro pre hp lo up h1 h2
    have hl : pre.length = s.size := by have := congrArg List.length hp; rw [bytesOf_len] at this; simp at this; omega
    have e1 : ups [] = 0 := rfl
    have e2 : lows [] = 0 := rfl
    have e3 : letters [] = true := rfl
    refine Ev2.succ ?_
    simp only [spec_CaseOf.l0_eq, at_sizeE hp, e1, e2, e3, stk, Int.reduceEq, Nat.reduceEqDiff, Int.reduceLE, Int.reduceLT, Nat.add_zero]
    by_cases c0 : s.size = 0
    · have c0' : (s.size : Int) = 0 := by omega
      simp only [c0, c0', stk, Int.reduceEq, Nat.reduceEqDiff, Int.reduceLE, Int.reduceLT]; exact Ev2.now _
    have c0' : ¬ (s.size : Int) = 0 := by omega
    have cp : (0 : Int) < s.size := by omega
    by_cases c1 : up = 0
    · have c1' : (up : Int) = 0 := by omega
      simp only [c0, c0', c1, c1', stk, Int.reduceEq, Nat.reduceEqDiff, Int.reduceLE, Int.reduceLT]; exact Ev2.now _
    have c1' : ¬ (up : Int) = 0 := by omega
    by_cases c4 : lo = 0
    · have c4' : (lo : Int) = 0 := by omega
      by_cases c2 : up = 1
      · have c2' : (up : Int) = 1 := by omega
        by_cases c3 : bt s 0 ≤ 90
        · simp only [c0, c0', cp, c1, c1', c2, c2', c3, c4, c4', stk, Int.reduceEq, Nat.reduceEqDiff, Int.reduceLE, Int.reduceLT]; exact Ev2.now _
        · simp only [c0, c0', cp, c1, c1', c2, c2', c3, c4, c4', stk, Int.reduceEq, Nat.reduceEqDiff, Int.reduceLE, Int.reduceLT]; exact Ev2.now _
      · have c2' : ¬ (up : Int) = 1 := by omega
        simp only [c0, c0', cp, c1, c1', c2, c2', c4, c4', stk, Int.reduceEq, Nat.reduceEqDiff, Int.reduceLE, Int.reduceLT]; exact Ev2.now _
    · have c4' : ¬ (lo : Int) = 0 := by omega
      by_cases c2 : up = 1
      · have c2' : (up : Int) = 1 := by omega
        by_cases c3 : bt s 0 ≤ 90
        · simp only [c0, c0', cp, c1, c1', c2, c2', c3, c4, c4', stk, Int.reduceEq, Nat.reduceEqDiff, Int.reduceLE, Int.reduceLT]; exact Ev2.now _
        · simp only [c0, c0', cp, c1, c1', c2, c2', c3, c4, c4', stk, Int.reduceEq, Nat.reduceEqDiff, Int.reduceLE, Int.reduceLT]; exact Ev2.now _
      · have c2' : ¬ (up : Int) = 1 := by omega
        simp only [c0, c0', cp, c1, c1', c2, c2', c4, c4', stk, Int.reduceEq, Nat.reduceEqDiff, Int.reduceLE, Int.reduceLT]; exact Ev2.now _
  | cons c rest ih =>
    intro pre hp lo up h1 h2
    have hlt := at_size hp
    have hn : (pre ++ [c]).length = pre.length + 1 := by simp
    refine Ev2.succ ?_
    simp only [spec_CaseOf.l0_eq, stk, Int.reduceEq, Nat.reduceEqDiff, Int.reduceLE, Int.reduceLT, hlt, at_bt hp, at_next hp (by rw [bytesOf_len]; omega), add_one h1 (show pre.length < 9223372036854775807 by omega), add_one h2 (show pre.length < 9223372036854775807 by omega)]
    rw [letters_cons, lows_cons, ups_cons]
    by_cases b : isLow c
    · have hup : ¬ isUp c := by unfold isLow isUp at *; omega
      simp only [b.1, b.2, stk, Int.reduceEq, Nat.reduceEqDiff, Int.reduceLE, Int.reduceLT]
      refine Ev2.ext (ih (pre ++ [c]) (at_step hp) (lo + 1) up (by omega) (by omega)) ?_
      simp only [b, hup, if_true, if_false, true_or, decide_true, Bool.true_and, Nat.zero_add, Nat.add_assoc]
    · by_cases u : isUp c
      · have hb : ∀ (x y z : Option Res), (if 97 ≤ c then if c ≤ 122 then x else y else y) = y := by
          intro x y z
          by_cases h3 : 97 ≤ c
          · have h4 : ¬ c ≤ 122 := fun h => b ⟨h3, h⟩
            rw [if_pos h3, if_neg h4]
          · rw [if_neg h3]
        have g1 : ¬ 97 ≤ c := by unfold isUp at u; omega
        simp only [g1, u.1, u.2, stk, Int.reduceEq, Nat.reduceEqDiff, Int.reduceLE, Int.reduceLT]
        refine Ev2.ext (ih (pre ++ [c]) (at_step hp) lo (up + 1) (by omega) (by omega)) ?_
        simp only [b, u, if_true, if_false, or_true, decide_true, Bool.true_and, Nat.zero_add, Nat.add_assoc]
      · by_cases h3 : 97 ≤ c
        · have h4 : ¬ c ≤ 122 := fun h => b ⟨h3, h⟩
          have h5 : 65 ≤ c := by omega
          have h6 : ¬ c ≤ 90 := by omega
          simp only [h3, h4, h5, h6, b, u, or_self, Bool.false_and, stk, Int.reduceEq, Nat.reduceEqDiff, Int.reduceLE, Int.reduceLT]; exact Ev2.now _
        · by_cases h5 : 65 ≤ c
          · have h6 : ¬ c ≤ 90 := fun h => u ⟨h5, h⟩
            simp only [h3, h5, h6, b, u, or_self, Bool.false_and, stk, Int.reduceEq, Nat.reduceEqDiff, Int.reduceLE, Int.reduceLT]; exact Ev2.now _
          · simp only [h3, h5, b, u, or_self, Bool.false_and, stk, Int.reduceEq, Nat.reduceEqDiff, Int.reduceLE, Int.reduceLT]; exact Ev2.now _
theorem implCase_loop (s : ByteArray) (hs : s.size ≤ 9223372036854775807) (hne : 0 < s.size) : ∀ (rest pre : List Int), bytesOf s = pre ++ rest →
    ∀ up : Nat, up ≤ pre.length →
    Ev2 (fun N n => impl_CaseOf.l0 N n s (up : Int) (s.size : Int) (pre.length : Int)) [intP (if letters rest = false then 0 else if up + ups rest = 0 then 1 else if up + ups rest = 1 ∧ isUp (bt s 0) then 2 else if up + ups rest = s.size then 3 else 4)] := by
  intro rest
  induction rest with
  | nil =>
    intro pre hp up h2
    have e1 : ups [] = 0 := rfl
    have e3 : letters [] = true := rfl
    have cp : (0 : Int) < s.size := by omega
    refine Ev2.succ ?_
    simp only [impl_CaseOf.l0_eq, at_sizeE hp, e1, e3, implUpper_val, stk, Int.reduceEq, Nat.reduceEqDiff, Int.reduceLE, Int.reduceLT, Nat.add_zero]
    by_cases c1 : up = 0
    · have c1' : (up : Int) = 0 := by omega
      simp only [c1, c1', stk, Int.reduceEq, Nat.reduceEqDiff, Int.reduceLE, Int.reduceLT]; exact Ev2.now _
    have c1' : ¬ (up : Int) = 0 := by omega
    by_cases c2 : up = 1
    · have c2' : (up : Int) = 1 := by omega
      by_cases c3 : isUp (bt s 0)
      · simp only [c1', c2', c2, cp, c3, stk, Int.reduceEq, Nat.reduceEqDiff, Int.reduceLE, Int.reduceLT]; exact Ev2.now _
      · have c2e : (up = 1) = True := eq_true c2
        by_cases c5 : up = s.size
        · have c6 : ((up : Int) = (s.size : Int)) = True := eq_true (by omega)
          have c7 : (up = s.size) = True := eq_true c5
          have c8 : ((up : Int) = 1) = True := eq_true c2'
          simp only [c1', c2e, c8, c1, cp, c3, c6, c7, stk, Int.reduceEq, Nat.reduceEqDiff, Int.reduceLE, Int.reduceLT]; exact Ev2.now _
        · have c6 : ((up : Int) = (s.size : Int)) = False := eq_false (by omega)
          have c7 : (up = s.size) = False := eq_false c5
          have c8 : ((up : Int) = 1) = True := eq_true c2'
          simp only [c1', c2e, c8, c1, cp, c3, c6, c7, stk, Int.reduceEq, Nat.reduceEqDiff, Int.reduceLE, Int.reduceLT]; exact Ev2.now _
    · have c2' : ¬ (up : Int) = 1 := by omega
      by_cases c5 : up = s.size
      · have c6 : ((up : Int) = (s.size : Int)) = True := eq_true (by omega)
        have c7 : (up = s.size) = True := eq_true c5
        simp only [c1, c1', c2', c2, c6, c7, stk, Int.reduceEq, Nat.reduceEqDiff, Int.reduceLE, Int.reduceLT]; exact Ev2.now _
      · have c6 : ¬ (up : Int) = (s.size : Int) := by omega
        simp only [c1, c1', c2', c2, c6, c5, stk, Int.reduceEq, Nat.reduceEqDiff, Int.reduceLE, Int.reduceLT]; exact Ev2.now _
  | cons c rest ih =>
    intro pre hp up h2
    have hlt := at_size hp
    have hn : (pre ++ [c]).length = pre.length + 1 := by simp
    refine Ev2.succ ?_
    simp only [impl_CaseOf.l0_eq, stk, Int.reduceEq, Nat.reduceEqDiff, Int.reduceLE, Int.reduceLT, hlt, at_bt hp, implLetter_val, implUpper_val, at_next hp (by rw [bytesOf_len]; omega), add_one h2 (show pre.length < 9223372036854775807 by omega)]
    rw [letters_cons, ups_cons]
    by_cases b : isLow c ∨ isUp c
    · by_cases u : isUp c
      · simp only [b, u, or_true, stk, Int.reduceEq, Nat.reduceEqDiff, Int.reduceLE, Int.reduceLT]
        refine Ev2.ext (ih (pre ++ [c]) (at_step hp) (up + 1) (by omega)) ?_
        simp only [Nat.add_assoc]
      · have bl : isLow c := b.resolve_right u
        simp only [bl, u, or_false, stk, Int.reduceEq, Nat.reduceEqDiff, Int.reduceLE, Int.reduceLT]
        refine Ev2.ext (ih (pre ++ [c]) (at_step hp) up (by omega)) ?_
        simp only [Nat.zero_add]
    · simp only [b, stk, Int.reduceEq, Nat.reduceEqDiff, Int.reduceLE, Int.reduceLT]; exact Ev2.now _
theorem specCase_ev (s : ByteArray) (hs : s.size ≤ 9223372036854775807) : Ev (fun N => spec_CaseOf.f N [strP s]) [intP (caseM (bytesOf s))] := by
  simp only [spec_CaseOf.f_eq, stk, Int.reduceEq, Nat.reduceEqDiff, Int.reduceLE, Int.reduceLT]
  refine Ev.ext (specCase_loop s hs (bytesOf s) [] rfl 0 0 (Nat.le_refl _) (Nat.le_refl _)).diag ?_
  refine congrArg (fun x => [intP x]) ?_
  unfold caseM
  have hlen := bytesOf_len s
  by_cases hl : letters (bytesOf s) = false
  · rw [if_pos hl, if_pos hl]
  rw [if_neg hl, if_neg hl]
  by_cases h0 : bytesOf s = []
  · rw [if_pos h0, if_pos (by rw [h0] at hlen; simp at hlen; omega)]
  have hpos : 0 < s.size := by
    rw [← hlen]
    exact List.length_pos_iff.2 h0
  have hcl := counts_len _ (by simpa using hl)
  rw [if_neg h0, if_neg (by omega), Nat.zero_add, Nat.zero_add]
  have hb : (ups (bytesOf s) = 1 ∧ bt s 0 ≤ 90) ↔ (ups (bytesOf s) = 1 ∧ isUp ((bytesOf s).getD 0 0)) := by
    have hlt : letters (bytesOf s) = true := by simpa using hl
    obtain ⟨c, r, hcr⟩ := List.exists_cons_of_ne_nil h0
    rw [hcr] at hlt
    rw [bt_bytes, hcr]
    rw [letters_cons, Bool.and_eq_true, decide_eq_true_eq] at hlt
    have e : (c :: r).getD 0 0 = c := rfl
    rw [e]
    have : c ≤ 90 ↔ isUp c := by
      rcases hlt.1 with h | h
      · unfold isLow isUp at *; omega
      · unfold isUp at *; omega
    rw [this]
  simp only [hb]
  by_cases c1 : ups (bytesOf s) = 0
  · rw [if_pos c1, if_pos c1]
  rw [if_neg c1, if_neg c1]
  split
  · rfl
  · have : lows (bytesOf s) = 0 ↔ ups (bytesOf s) = (bytesOf s).length := by omega
    simp only [this]
theorem empty_str (s : ByteArray) : s = ByteArray.mk #[] ↔ s.size = 0 := by
  constructor
  · rintro rfl; rfl
  · intro h
    refine bytesOf_inj (List.eq_nil_of_length_eq_zero ?_)
    rw [bytesOf_len]; exact h
theorem implCase_ev (s : ByteArray) (hs : s.size ≤ 9223372036854775807) : Ev (fun N => impl_CaseOf.f N [strP s]) [intP (caseM (bytesOf s))] := by
  have hlen := bytesOf_len s
  simp only [impl_CaseOf.f_eq, empty_str, stk, Int.reduceEq, Nat.reduceEqDiff, Int.reduceLE, Int.reduceLT]
  by_cases h0 : s.size = 0
  · have : bytesOf s = [] := List.eq_nil_of_length_eq_zero (by omega)
    simp only [h0, this, stk, Int.reduceEq, Nat.reduceEqDiff, Int.reduceLE, Int.reduceLT]
    exact Ev.now _
  · simp only [h0, stk, Int.reduceEq, Nat.reduceEqDiff, Int.reduceLE, Int.reduceLT]
    refine Ev.ext (implCase_loop s hs (by omega) (bytesOf s) [] rfl 0 (Nat.le_refl _)).diag ?_
    refine congrArg (fun x => [intP x]) ?_
    unfold caseM
    have hne : bytesOf s ≠ [] := fun h => by rw [h] at hlen; simp at hlen; omega
    rw [if_neg hne, Nat.zero_add, bt_bytes, hlen]
def upI (c : Int) : Int := if 97 ≤ c ∧ c ≤ 122 then c - 32 else c
theorem upperM_bytes (s : ByteArray) : bytesOf (upperM s) = (bytesOf s).map upI := by
  simp only [bytesOf, upperM, Lib.toUpperA, List.map_map]
  refine List.map_congr_left fun b _ => ?_
  have key : ∀ n : Fin 256, (((Lib.upperB (UInt8.ofNat n.val)).toNat : Nat) : Int) = (if 97 ≤ (n.val : Int) ∧ (n.val : Int) ≤ 122 then (n.val : Int) - 32 else (n.val : Int)) := by decide
  have h := key ⟨b.toNat, b.toNat_lt⟩
  simp only [UInt8.ofNat_toNat] at h
  exact h
theorem upper_loop2 : ∀ (rest pre : List Int), (∀ c ∈ pre ++ rest, 0 ≤ c ∧ c ≤ 255) → (pre ++ rest).length < 9223372036854775807 →
    ∃ r : ByteArray, bytesOf r = pre ++ rest.map upI ∧ Ev2 (fun N n => spec_l10Upper.l0 N n (pre.length : Int) ((pre ++ rest).map u8P)) [strP r] := by
  intro rest
  induction rest with
  | nil =>
    intro pre hr hl
    refine ⟨bytesOfL ((pre ++ []).map u8P), by rw [bytesOf_ofL hr]; simp, Ev2.succ ?_⟩
    have h0 : ¬ (pre.length : Int) < (((pre ++ []).map u8P).length : Int) := by simp
    simp only [spec_l10Upper.l0_eq, h0, stk, Int.reduceEq, Nat.reduceEqDiff, Int.reduceLE, Int.reduceLT]
    exact Ev2.now _
  | cons c rest ih =>
    intro pre hr hl
    have hc := hr c (by simp)
    have h0 : (pre.length : Int) < (((pre ++ c :: rest).map u8P).length : Int) := by simp; omega
    have he : ((PV.list ((pre ++ c :: rest).map u8P)).elem pre.length).toInt = c := by simp [PV.elem, PV.items, List.getD_eq_getElem?_getD, PV.toInt]
    have hw : IntKind.i64.wrap ((pre.length : Int) + 1) = ((pre.length + 1 : Nat) : Int) := by
      rw [wrap_id (by omega) (by simp at hl; omega)]; omega
    by_cases h : 97 ≤ c ∧ c ≤ 122
    · have hup : upI c = c - 32 := by unfold upI; rw [if_pos h]
      have hset : ((pre ++ c :: rest).map u8P).set pre.length (PV.sc (.int .u8 (c - 32))) = ((pre ++ [upI c]) ++ rest).map u8P := by
        have := set_mid (pre.map u8P) (u8P c) (u8P (c - 32)) (rest.map u8P)
        rw [List.length_map] at this
        rw [List.map_append, List.map_cons, this, hup]; simp
      have hu : IntKind.u8.wrap (c - 32) = c - 32 := u8_id (by omega) (by omega)
      obtain ⟨r, hr2, hv⟩ := ih (pre ++ [upI c]) (fun x hx => by
        simp only [List.mem_append, List.mem_singleton] at hx
        rcases hx with (hx | rfl) | hx
        · exact hr x (by simp [hx])
        · rw [hup]; omega
        · exact hr x (by simp [hx])) (by simp at hl ⊢; omega)
      refine ⟨r, by rw [hr2]; simp, Ev2.succ ?_⟩
      have hll : (pre ++ [upI c]).length = pre.length + 1 := by simp
      rw [hll] at hv
      simp only [spec_l10Upper.l0_eq, h0, he, hw, hu, hset, h.1, h.2, nat_int, nn, decide_true, if_true]
      exact hv
    · have hup : upI c = c := by unfold upI; rw [if_neg h]
      obtain ⟨r, hr2, hv⟩ := ih (pre ++ [c]) (fun x hx => hr x (by simpa using hx)) (by simp at hl ⊢; omega)
      refine ⟨r, by rw [hr2]; simp [hup], Ev2.succ ?_⟩
      have hll : (pre ++ [c]).length = pre.length + 1 := by simp
      have hap : (pre ++ [c]) ++ rest = pre ++ c :: rest := by simp
      rw [hll, hap] at hv
      by_cases h1 : 97 ≤ c
      · have h2 : ¬ c ≤ 122 := fun h2 => h ⟨h1, h2⟩
        simp only [spec_l10Upper.l0_eq, h0, he, hw, h1, h2, nat_int, nn, decide_true, decide_false, if_true, if_false, Bool.false_eq_true]
        exact hv
      · simp only [spec_l10Upper.l0_eq, h0, he, hw, h1, nat_int, nn, decide_true, decide_false, if_true, if_false, Bool.false_eq_true]
        exact hv
theorem specUpper_ev (s : ByteArray) (hs : s.size < 9223372036854775807) : Ev (fun N => spec_l10Upper.f N [strP s]) [strP (upperM s)] := by
  obtain ⟨r, hr, hv⟩ := upper_loop2 (bytesOf s) [] (by simpa using bytesOf_range s) (by simpa [bytesOf_len] using hs)
  have e : r = upperM s := bytesOf_inj (by rw [hr, upperM_bytes]; simp)
  have h1 : s.size ≤ 9223372036854775807 := by omega
  simp only [spec_l10Upper.f_eq, h1, bytesL_eq, stk, Int.reduceEq, Nat.reduceEqDiff, Int.reduceLE, Int.reduceLT]
  rw [← e]
  exact hv.diag
theorem implUpper2_val (s : ByteArray) (hs : s.size ≤ 140737488355328) (ha : ∀ c ∈ bytesOf s, c < 128) (N : Nat) : strings_ToUpper.f N [strP s] = some [strP (upperM s)] := by
  have hasc : asciiB s = true := List.all_eq_true.2 fun b hb => by
    have := ha (b.toNat : Int) (List.mem_map.2 ⟨b, hb, rfl⟩)
    simp; omega
  show upperDen [strP s] = _
  simp only [upperDen, hasc, hs, if_true]
theorem isWord_low {w : ByteArray} (h : isWord w = true) : 1 ≤ w.size ∧ w.size ≤ 12 ∧ ∀ c ∈ bytesOf w, 97 ≤ c ∧ c ≤ 122 := by
  unfold isWord at h
  rw [Bool.and_eq_true, decide_eq_true_eq, List.all_eq_true] at h
  exact ⟨h.1.1, h.1.2, fun c hc => by simpa using h.2 c hc⟩
theorem bytesOf_ext (s : ByteArray) (i j : Nat) : bytesOf (s.extract i j) = ((bytesOf s).drop i).take (j - i) := by
  simp [bytesOf, ByteArray.data_extract, List.map_take, List.map_drop, List.extract_eq_take_drop]
def firstM (w : ByteArray) : ByteArray := upperM (w.extract 0 1) ++ w.extract 1 w.size
def likeM (w like : ByteArray) : ByteArray := if isWord w = true then (if caseM (bytesOf like) = 2 then firstM w else if caseM (bytesOf like) = 3 then upperM w else w) else ⟨#[]⟩
theorem upperM_size (s : ByteArray) : (upperM s).size = s.size := by rw [← bytesOf_len, upperM_bytes, List.length_map, bytesOf_len]
theorem low_ext {w : ByteArray} (h : ∀ c ∈ bytesOf w, 97 ≤ c ∧ c ≤ 122) (i j : Nat) : ∀ c ∈ bytesOf (w.extract i j), c < 128 := fun c hc => by
  rw [bytesOf_ext] at hc
  have := h c (List.mem_of_mem_drop (List.mem_of_mem_take hc))
  omega
theorem implLike_ev (w like : ByteArray) (hw : w.size ≤ 9223372036854775807) (hl : like.size ≤ 9223372036854775807) : Ev (fun N => impl_CaseLike.f N [strP w, strP like]) [strP (likeM w like)] := by
  simp only [impl_CaseLike.f_eq, stk, Int.reduceEq, Nat.reduceEqDiff, Int.reduceLE, Int.reduceLT]
  refine Ev.bind (implWord_ev w hw) ?_
  unfold likeM
  cases hi : isWord w with
  | false => simp only [stk, Int.reduceEq, Nat.reduceEqDiff, Int.reduceLE, Int.reduceLT]; exact Ev.now _
  | true =>
    obtain ⟨h1, h2, h3⟩ := isWord_low hi
    simp only [stk, Int.reduceEq, Nat.reduceEqDiff, Int.reduceLE, Int.reduceLT]
    refine Ev.bind (implCase_ev like hl) ?_
    by_cases c2 : caseM (bytesOf like) = 2
    · have e1 : (w.extract 0 1).size = 1 := by rw [ByteArray.size_extract]; omega
      have c1 : (1 : Int) ≤ (w.size : Int) := by omega
      have hv := implUpper2_val (w.extract 0 1) (by omega) (low_ext h3 0 1)
      have c3 : (upperM (w.extract 0 1)).size + (w.extract 1 w.size).size ≤ 9223372036854775807 := by rw [upperM_size, e1, ByteArray.size_extract]; omega
      simp only [c2, c1, hv, c3, stk, Int.reduceEq, Nat.reduceEqDiff, Int.reduceLE, Int.reduceLT]
      exact Ev.now _
    · by_cases c3 : caseM (bytesOf like) = 3
      · have hv := implUpper2_val w (by omega) (fun c hc => by have := h3 c hc; omega)
        have z : ((3 : Int) = 2) = False := by simp
        simp only [c3, z, hv, stk, Int.reduceEq, Nat.reduceEqDiff, Int.reduceLE, Int.reduceLT]
        exact Ev.now _
      · simp only [c2, c3, stk, Int.reduceEq, Nat.reduceEqDiff, Int.reduceLE, Int.reduceLT]
        exact Ev.now _
theorem specLike_ev (w like : ByteArray) (hw : w.size ≤ 9223372036854775807) (hl : like.size ≤ 9223372036854775807) : Ev (fun N => spec_CaseLike.f N [strP w, strP like]) [strP (likeM w like)] := by
  simp only [spec_CaseLike.f_eq, stk, Int.reduceEq, Nat.reduceEqDiff, Int.reduceLE, Int.reduceLT]
  refine Ev.bind (specWord_ev w hw) ?_
  unfold likeM
  cases hi : isWord w with
  | false => simp only [stk, Int.reduceEq, Nat.reduceEqDiff, Int.reduceLE, Int.reduceLT]; exact Ev.now _
  | true =>
    obtain ⟨h1, h2, h3⟩ := isWord_low hi
    simp only [stk, Int.reduceEq, Nat.reduceEqDiff, Int.reduceLE, Int.reduceLT]
    refine Ev.bind (specCase_ev like hl) ?_
    by_cases c2 : caseM (bytesOf like) = 2
    · have e1 : (w.extract 0 1).size = 1 := by rw [ByteArray.size_extract]; omega
      have c1 : (1 : Int) ≤ (w.size : Int) := by omega
      have c3 : (upperM (w.extract 0 1)).size + (w.extract 1 w.size).size ≤ 9223372036854775807 := by rw [upperM_size, e1, ByteArray.size_extract]; omega
      simp only [c2, c1, stk, Int.reduceEq, Nat.reduceEqDiff, Int.reduceLE, Int.reduceLT]
      refine Ev.bind (specUpper_ev (w.extract 0 1) (by omega)) ?_
      simp only [c1, c3, stk, Int.reduceEq, Nat.reduceEqDiff, Int.reduceLE, Int.reduceLT]
      exact Ev.now _
    · by_cases c3 : caseM (bytesOf like) = 3
      · have z : ((3 : Int) = 2) = False := by simp
        simp only [c3, z, stk, Int.reduceEq, Nat.reduceEqDiff, Int.reduceLE, Int.reduceLT]
        refine Ev.bind (specUpper_ev w (by omega)) ?_
        exact Ev.now _
      · simp only [c2, c3, stk, Int.reduceEq, Nat.reduceEqDiff, Int.reduceLE, Int.reduceLT]
        exact Ev.now _
def dfB (e : Nat → Nat → Bool) (i k : Nat) (v1 v2 v3 : Int) : Int := minI (minI (v1 + (if e i k = true then 0 else 1)) (v2 + 1)) (v3 + 1)
def df (e : Nat → Nat → Bool) : Nat → Nat → Int
  | 0, k => (k : Int)
  | i + 1, 0 => (i : Int) + 1
  | i + 1, k + 1 => if 1 ≤ i ∧ 1 ≤ k ∧ e i (k - 1) = true ∧ e (i - 1) k = true then minI (dfB e i k (df e i k) (df e i (k + 1)) (df e (i + 1) k)) (df e (i - 1) (k - 1) + 1) else dfB e i k (df e i k) (df e i (k + 1)) (df e (i + 1) k)
termination_by i k => i + k
theorem df_zero (e : Nat → Nat → Bool) (i : Nat) : df e i 0 = (i : Int) := by
  cases i with
  | zero => simp [df]
  | succ i => rw [df]; omega
theorem dfB_in (e : Nat → Nat → Bool) {i k : Nat} {v1 v2 v3 m : Int} (h1 : 0 ≤ v1 ∧ v1 ≤ m) (h2 : 0 ≤ v2 ∧ v2 ≤ m + 1) (h3 : 0 ≤ v3 ∧ v3 ≤ m + 1) : 0 ≤ dfB e i k v1 v2 v3 ∧ dfB e i k v1 v2 v3 ≤ m + 1 := by
  unfold dfB
  simp only [minI]
  repeat' split
  all_goals omega
theorem df_in (e : Nat → Nat → Bool) : ∀ n i k : Nat, i + k ≤ n → 0 ≤ df e i k ∧ df e i k ≤ (max i k : Nat)
  | _, 0, k, _ => by rw [df]; omega
  | _, i + 1, 0, _ => by rw [df]; omega
  | n, i + 1, k + 1, h => by
    have h1 := df_in e (n - 1) i k (by omega); have h2 := df_in e (n - 1) i (k + 1) (by omega); have h3 := df_in e (n - 1) (i + 1) k (by omega)
    have h4 := df_in e (n - 1) (i - 1) (k - 1) (by omega)
    have h5 := dfB_in e (i := i) (k := k) (v1 := df e i k) (v2 := df e i (k + 1)) (v3 := df e (i + 1) k) (m := ((max i k : Nat) : Int)) h1 ⟨h2.1, by omega⟩ ⟨h3.1, by omega⟩
    rw [df]
    split
    · simp only [minI]; split <;> omega
    · omega
termination_by n => n
def eqB (a b : ByteArray) (i k : Nat) : Bool := decide (bt a i = bt b k)
def gaF (w : Nat → Nat → Int) (k : Nat) : Nat → Nat → Int := fun i' k' => if k' = 0 ∨ (i' = 0 ∧ k' < k) then w i' k' else 0
def g0F (w : Nat → Nat → Int) : Nat → Nat → Int := fun i' k' => if k' = 0 then w i' k' else 0
def curF (w : Nat → Nat → Int) (i k : Nat) : Nat → Nat → Int := fun i' k' => if i' = 0 ∨ k' = 0 ∨ i' < i ∨ (i' = i ∧ k' < k) then w i' k' else 0
theorem eq_at (a b : ByteArray) (i k : Nat) : decide (((a.get! i).toNat : Int) = ((b.get! k).toNat : Int)) = eqB a b i k := rfl
theorem far_l3 (a b : ByteArray) (ha : isWord a = true) (hb : isWord b = true) (i : Nat) (hi : i < a.size) (R : List PV)
    (hR : Ev2 (fun N n => impl_Far.l2 N n a b ((i + 1 + 1 : Nat) : Int) (matL (a.size + 1) (b.size + 1) (curF (df (eqB a b)) (i + 1 + 1) 1))) R) : ∀ (c k : Nat), k + c = b.size →
    Ev3 (fun N m0 n => impl_Far.l3 N m0 n a b ((i + 1 : Nat) : Int) ((k + 1 : Nat) : Int) (matL (a.size + 1) (b.size + 1) (curF (df (eqB a b)) (i + 1) (k + 1)))) R := by
  obtain ⟨a1, a2, a3⟩ := word_sizeW ha
  obtain ⟨b1, b2, b3⟩ := word_sizeW hb
  generalize hw : df (eqB a b) = w at hR ⊢
  intro c
  induction c with
  | zero =>
    intro k hk
    refine Ev3.succ ?_
    have z : ¬ ((k + 1 : Nat) : Int) ≤ (b.size : Int) := by omega
    have wi : IntKind.i64.wrap (((i + 1 : Nat) : Int) + 1) = ((i + 1 + 1 : Nat) : Int) := by rw [wrap_id (by omega) (by omega)]; omega
    have hm : matL (a.size + 1) (b.size + 1) (curF w (i + 1) (k + 1)) = matL (a.size + 1) (b.size + 1) (curF w (i + 1 + 1) 1) := matL_congr (fun i' k' h1 h2 => by
      unfold curF
      by_cases h : i' = 0 ∨ k' = 0 ∨ i' < i + 1 ∨ (i' = i + 1 ∧ k' < k + 1)
      · rw [if_pos h, if_pos (by omega)]
      · rw [if_neg h, if_neg (by omega)])
    simp only [impl_Far.l3_eq, z, decide_false, Bool.false_eq_true, if_false, wi, hm]
    exact hR.outer
  | succ c ih =>
    intro k hk
    have hkb : k < b.size := by omega
    refine Ev3.succ ?_
    have z : ((k + 1 : Nat) : Int) ≤ (b.size : Int) := by omega
    have wi : IntKind.i64.wrap (((i + 1 : Nat) : Int) - 1) = (i : Int) := by rw [cast1, wrap_id (by omega) (by omega)]
    have wk : IntKind.i64.wrap (((k + 1 : Nat) : Int) - 1) = (k : Int) := by rw [cast1, wrap_id (by omega) (by omega)]
    have wk2 : IntKind.i64.wrap (((k + 1 : Nat) : Int) + 1) = ((k + 1 + 1 : Nat) : Int) := by rw [wrap_id (by omega) (by omega)]; omega
    have q1 : (i : Int) < (((matL (a.size + 1) (b.size + 1) (curF w (i + 1) (k + 1))).length : Nat) : Int) := by rw [matL_len]; omega
    have q2 : ((i + 1 : Nat) : Int) < (((matL (a.size + 1) (b.size + 1) (curF w (i + 1) (k + 1))).length : Nat) : Int) := by rw [matL_len]; omega
    have r1 := matL_row (n := a.size + 1) (m := b.size + 1) (g := curF w (i + 1) (k + 1)) (show i < a.size + 1 by omega)
    have r2 := matL_row (n := a.size + 1) (m := b.size + 1) (g := curF w (i + 1) (k + 1)) (show i + 1 < a.size + 1 by omega)
    have q3 : (k : Int) < ((b.size + 1 : Nat) : Int) := by omega
    have q4 : ((k + 1 : Nat) : Int) < ((b.size + 1 : Nat) : Int) := by omega
    have q5 : (i : Int) < (a.size : Int) := by omega
    have q6 : (k : Int) < (b.size : Int) := by omega
    have t1 : curF w (i + 1) (k + 1) i k = w i k := by unfold curF; rw [if_pos (by omega)]
    have t2 : curF w (i + 1) (k + 1) i (k + 1) = w i (k + 1) := by unfold curF; rw [if_pos (by omega)]
    have t3 : curF w (i + 1) (k + 1) (i + 1) k = w (i + 1) k := by unfold curF; rw [if_pos (by omega)]
    have h1 : 0 ≤ w i k ∧ w i k ≤ (max i k : Nat) := hw ▸ df_in (eqB a b) _ i k (Nat.le_refl _)
    have h2 : 0 ≤ w i (k + 1) ∧ w i (k + 1) ≤ (max i (k + 1) : Nat) := hw ▸ df_in (eqB a b) _ i (k + 1) (Nat.le_refl _)
    have h3 : 0 ≤ w (i + 1) k ∧ w (i + 1) k ≤ (max (i + 1) k : Nat) := hw ▸ df_in (eqB a b) _ (i + 1) k (Nat.le_refl _)
    have w1 : IntKind.i64.wrap (w i k + 1) = w i k + 1 := wrap_id (by omega) (by omega)
    have w2 : IntKind.i64.wrap (w i (k + 1) + 1) = w i (k + 1) + 1 := wrap_id (by omega) (by omega)
    have w3 : IntKind.i64.wrap (w (i + 1) k + 1) = w (i + 1) k + 1 := wrap_id (by omega) (by omega)
    have hdf : w (i + 1) (k + 1) = if 1 ≤ i ∧ 1 ≤ k ∧ eqB a b i (k - 1) = true ∧ eqB a b (i - 1) k = true then minI (dfB (eqB a b) i k (w i k) (w i (k + 1)) (w (i + 1) k)) (w (i - 1) (k - 1) + 1) else dfB (eqB a b) i k (w i k) (w i (k + 1)) (w (i + 1) k) := by rw [← hw, df]
    have hset := fun v => matL_set (n := a.size + 1) (m := b.size + 1) (g := curF w (i + 1) (k + 1)) (i := i + 1) (k := k + 1) (by omega) v
    have hm : matL (a.size + 1) (b.size + 1) (updM (curF w (i + 1) (k + 1)) (i + 1) (k + 1) (w (i + 1) (k + 1))) = matL (a.size + 1) (b.size + 1) (curF w (i + 1) (k + 1 + 1)) := matL_congr (fun i' k' h1 h2 => by
      unfold updM curF
      by_cases he : i' = i + 1 ∧ k' = k + 1
      · rw [if_pos he, if_pos (by omega), he.1, he.2]
      · rw [if_neg he]
        by_cases h : i' = 0 ∨ k' = 0 ∨ i' < i + 1 ∨ (i' = i + 1 ∧ k' < k + 1)
        · rw [if_pos h, if_pos (by omega)]
        · rw [if_neg h, if_neg (by omega)])
    have hnext := ih (k + 1) (by omega)
    rw [← hm] at hnext
    by_cases hik : 1 ≤ i ∧ 1 ≤ k
    · obtain ⟨i', rfl⟩ : ∃ i', i = i' + 1 := ⟨i - 1, by omega⟩
      obtain ⟨k', rfl⟩ : ∃ k', k = k' + 1 := ⟨k - 1, by omega⟩
      have y1 : (1 : Int) < ((i' + 1 + 1 : Nat) : Int) := by omega
      have y2 : (1 : Int) < ((k' + 1 + 1 : Nat) : Int) := by omega
      have vi : IntKind.i64.wrap (((i' + 1 + 1 : Nat) : Int) - 2) = (i' : Int) := by rw [wrap_id (by omega) (by omega)]; omega
      have vk : IntKind.i64.wrap (((k' + 1 + 1 : Nat) : Int) - 2) = (k' : Int) := by rw [wrap_id (by omega) (by omega)]; omega
      have q7 : (i' : Int) < (a.size : Int) := by omega
      have q8 : (k' : Int) < (b.size : Int) := by omega
      have q9 : (i' : Int) < (((matL (a.size + 1) (b.size + 1) (curF w (i' + 1 + 1) (k' + 1 + 1))).length : Nat) : Int) := by rw [matL_len]; omega
      have q10 : (k' : Int) < ((b.size + 1 : Nat) : Int) := by omega
      have r3 := matL_row (n := a.size + 1) (m := b.size + 1) (g := curF w (i' + 1 + 1) (k' + 1 + 1)) (show i' < a.size + 1 by omega)
      have t4 : curF w (i' + 1 + 1) (k' + 1 + 1) i' k' = w i' k' := by unfold curF; rw [if_pos (by omega)]
      have h4 : 0 ≤ w i' k' ∧ w i' k' ≤ (max i' k' : Nat) := hw ▸ df_in (eqB a b) _ i' k' (Nat.le_refl _)
      have w4 : IntKind.i64.wrap (w i' k' + 1) = w i' k' + 1 := wrap_id (by omega) (by omega)
      simp only [Nat.add_sub_cancel, Nat.le_add_left, true_and] at hdf
      cases e1 : eqB a b (i' + 1) (k' + 1) <;> cases e2 : eqB a b (i' + 1) k' <;> cases e3 : eqB a b i' (k' + 1) <;>
        (simp only [e1, e2, e3, dfB, Bool.false_eq_true, if_false, if_true, and_self, and_true, and_false, false_and, Int.add_zero] at hdf
         rw [hdf] at hnext
         simp only [impl_Far.l3_eq, eq_at, z, wi, wk, wk2, vi, vk, y1, y2, q1, q2, q3, q4, q5, q6, q7, q8, q9, q10, r1, r2, r3, range_len, nn, nat_int, decide_true, if_true, e1, e2, e3, Bool.not_true, Bool.not_false, Bool.false_eq_true, if_false, range_at (show k' + 1 < b.size + 1 by omega), range_at (show k' < b.size + 1 by omega), range_at (show k' + 1 + 1 < b.size + 1 by omega), t1, t2, t3, t4, w1, w2, w3, w4, hset]
         exact hnext)
    · rw [if_neg (by omega)] at hdf
      by_cases hi0 : 1 ≤ i
      · have y1 : (1 : Int) < ((i + 1 : Nat) : Int) := by omega
        have y2 : ¬ (1 : Int) < ((k + 1 : Nat) : Int) := by omega
        cases e1 : eqB a b i k <;>
          (simp only [e1, dfB, Bool.false_eq_true, if_false, if_true, Int.add_zero] at hdf
           rw [hdf] at hnext
           simp only [impl_Far.l3_eq, eq_at, z, wi, wk, wk2, y1, y2, q1, q2, q3, q4, q5, q6, r1, r2, range_len, nn, nat_int, decide_true, decide_false, if_true, e1, Bool.not_true, Bool.not_false, Bool.false_eq_true, if_false, range_at (show k < b.size + 1 by omega), range_at (show k + 1 < b.size + 1 by omega), t1, t2, t3, w1, w2, w3, hset]
           exact hnext)
      · have y1 : ¬ (1 : Int) < ((i + 1 : Nat) : Int) := by omega
        cases e1 : eqB a b i k <;>
          (simp only [e1, dfB, Bool.false_eq_true, if_false, if_true, Int.add_zero] at hdf
           rw [hdf] at hnext
           simp only [impl_Far.l3_eq, eq_at, z, wi, wk, wk2, y1, q1, q2, q3, q4, q5, q6, r1, r2, range_len, nn, nat_int, decide_true, decide_false, if_true, e1, Bool.not_true, Bool.not_false, Bool.false_eq_true, if_false, range_at (show k < b.size + 1 by omega), range_at (show k + 1 < b.size + 1 by omega), t1, t2, t3, w1, w2, w3, hset]
           exact hnext)
theorem far_l2 (a b : ByteArray) (ha : isWord a = true) (hb : isWord b = true) : ∀ (c i : Nat), i + c = a.size →
    Ev2 (fun N n => impl_Far.l2 N n a b ((i + 1 : Nat) : Int) (matL (a.size + 1) (b.size + 1) (curF (df (eqB a b)) (i + 1) 1))) [intP (df (eqB a b) a.size b.size)] := by
  obtain ⟨a1, a2, a3⟩ := word_sizeW ha
  obtain ⟨b1, b2, b3⟩ := word_sizeW hb
  intro c
  induction c with
  | zero =>
    intro i hi
    refine Ev2.succ ?_
    have z : ¬ ((i + 1 : Nat) : Int) ≤ (a.size : Int) := by omega
    have q1 : (a.size : Int) < (((matL (a.size + 1) (b.size + 1) (curF (df (eqB a b)) (i + 1) 1)).length : Nat) : Int) := by rw [matL_len]; omega
    have r1 := matL_row (n := a.size + 1) (m := b.size + 1) (g := curF (df (eqB a b)) (i + 1) 1) (show a.size < a.size + 1 by omega)
    have q3 : (b.size : Int) < ((b.size + 1 : Nat) : Int) := by omega
    have t1 : curF (df (eqB a b)) (i + 1) 1 a.size b.size = df (eqB a b) a.size b.size := by unfold curF; rw [if_pos (by omega)]
    simp only [impl_Far.l2_eq, z, decide_false, Bool.false_eq_true, if_false, q1, r1, range_len, q3, range_at (show b.size < b.size + 1 by omega), t1, nn, if_true]
    exact Ev2.now _
  | succ c ih =>
    intro i hi
    refine Ev2.succ ?_
    have z : ((i + 1 : Nat) : Int) ≤ (a.size : Int) := by omega
    have h := far_l3 a b ha hb i (by omega) _ (ih (i + 1) (by omega)) b.size 0 (by omega)
    simp only [impl_Far.l2_eq, z, decide_true, if_true]
    exact h.start
theorem far_l1 (a b : ByteArray) (ha : isWord a = true) (hb : isWord b = true) : ∀ (c k : Nat), k + c = b.size + 1 →
    Ev2 (fun N n => impl_Far.l1 N n a b ((b.size + 1 : Nat) : Int) (k : Int) (matL (a.size + 1) (b.size + 1) (gaF (df (eqB a b)) k))) [intP (df (eqB a b) a.size b.size)] := by
  obtain ⟨a1, a2, a3⟩ := word_sizeW ha
  obtain ⟨b1, b2, b3⟩ := word_sizeW hb
  intro c
  induction c with
  | zero =>
    intro k hk
    refine Ev2.succ ?_
    have z : ¬ (k : Int) < ((b.size + 1 : Nat) : Int) := by omega
    have hm : matL (a.size + 1) (b.size + 1) (gaF (df (eqB a b)) k) = matL (a.size + 1) (b.size + 1) (curF (df (eqB a b)) (0 + 1) 1) := matL_congr (fun i' k' h1 h2 => by
      unfold curF gaF
      by_cases h : k' = 0 ∨ (i' = 0 ∧ k' < k)
      · rw [if_pos h, if_pos (by omega)]
      · rw [if_neg h, if_neg (by omega)])
    simp only [impl_Far.l1_eq, z, decide_false, Bool.false_eq_true, if_false, hm]
    exact (far_l2 a b ha hb a.size 0 (by omega)).after
  | succ c ih =>
    intro k hk
    refine Ev2.succ ?_
    have z : (k : Int) < ((b.size + 1 : Nat) : Int) := by omega
    have q1 : (0 : Int) < (((matL (a.size + 1) (b.size + 1) (gaF (df (eqB a b)) k)).length : Nat) : Int) := by rw [matL_len]; omega
    have r1 := matL_row (n := a.size + 1) (m := b.size + 1) (g := gaF (df (eqB a b)) k) (show 0 < a.size + 1 by omega)
    have hd : df (eqB a b) 0 k = (k : Int) := by rw [df]
    have wk : IntKind.i64.wrap ((k : Int) + 1) = ((k + 1 : Nat) : Int) := by rw [wrap_id (by omega) (by omega)]; omega
    have hset := matL_set (n := a.size + 1) (m := b.size + 1) (g := gaF (df (eqB a b)) k) (i := 0) (k := k) (by omega) (k : Int)
    have hm : matL (a.size + 1) (b.size + 1) (updM (gaF (df (eqB a b)) k) 0 k (k : Int)) = matL (a.size + 1) (b.size + 1) (gaF (df (eqB a b)) (k + 1)) := matL_congr (fun i' k' h1 h2 => by
      unfold updM gaF
      by_cases he : i' = 0 ∧ k' = k
      · rw [if_pos he, if_pos (by omega), he.1, he.2, hd]
      · rw [if_neg he]
        by_cases h : k' = 0 ∨ (i' = 0 ∧ k' < k)
        · rw [if_pos h, if_pos (by omega)]
        · rw [if_neg h, if_neg (by omega)])
    simp only [impl_Far.l1_eq, z, q1, r1, range_len, wk, hset, hm, nn, nat_int, decide_true, if_true, Int.le_refl, Int.reduceLE, Nat.le_refl]
    exact ih (k + 1) (by omega)
theorem far_l0 (a b : ByteArray) (ha : isWord a = true) (hb : isWord b = true) : ∀ (c i : Nat), i + c = a.size + 1 →
    Ev2 (fun N n => impl_Far.l0 N n a b ((a.size + 1 : Nat) : Int) (i : Int) ((matL i (b.size + 1) (g0F (df (eqB a b)))) ++ List.replicate c (PV.list []))) [intP (df (eqB a b) a.size b.size)] := by
  obtain ⟨a1, a2, a3⟩ := word_sizeW ha
  obtain ⟨b1, b2, b3⟩ := word_sizeW hb
  intro c
  induction c with
  | zero =>
    intro i hi
    have hi' : i = a.size + 1 := by omega
    subst hi'
    refine Ev2.succ ?_
    have z : ¬ ((a.size + 1 : Nat) : Int) < ((a.size + 1 : Nat) : Int) := by omega
    have q1 : (0 : Int) < (((matL (a.size + 1) (b.size + 1) (g0F (df (eqB a b)))).length : Nat) : Int) := by rw [matL_len]; omega
    have r1 := matL_row (n := a.size + 1) (m := b.size + 1) (g := g0F (df (eqB a b))) (show 0 < a.size + 1 by omega)
    have hm : matL (a.size + 1) (b.size + 1) (g0F (df (eqB a b))) = matL (a.size + 1) (b.size + 1) (gaF (df (eqB a b)) 0) := matL_congr (fun i' k' h1 h2 => by
      unfold gaF g0F
      by_cases h : k' = 0
      · rw [if_pos h, if_pos (by omega)]
      · rw [if_neg h, if_neg (by omega)])
    have h := (far_l1 a b ha hb (b.size + 1) 0 (by omega)).after
    rw [← hm] at h
    simp only [impl_Far.l0_eq, List.replicate_zero, List.append_nil, z, q1, r1, range_len, decide_false, Bool.false_eq_true, if_false, if_true, Int.le_refl, Int.reduceLE, Nat.le_refl]
    exact h
  | succ c ih =>
    intro i hi
    refine Ev2.succ ?_
    have z : (i : Int) < ((a.size + 1 : Nat) : Int) := by omega
    have wb : IntKind.i64.wrap ((b.size : Int) + 1) = ((b.size + 1 : Nat) : Int) := by rw [wrap_id (by omega) (by omega)]; omega
    have wi : IntKind.i64.wrap ((i : Int) + 1) = ((i + 1 : Nat) : Int) := by rw [wrap_id (by omega) (by omega)]; omega
    have c1 : b.size + 1 ≤ 35184372088832 := by omega
    have hlen := matL_len i (b.size + 1) (g0F (df (eqB a b)))
    have hset : ∀ x : PV, (matL i (b.size + 1) (g0F (df (eqB a b))) ++ PV.list [] :: List.replicate c (PV.list [])).set i x = matL i (b.size + 1) (g0F (df (eqB a b))) ++ x :: List.replicate c (PV.list []) := fun x => by
      have := set_mid (matL i (b.size + 1) (g0F (df (eqB a b)))) (PV.list []) x (List.replicate c (PV.list []))
      rwa [hlen] at this
    have hset2 : ∀ x y : PV, (matL i (b.size + 1) (g0F (df (eqB a b))) ++ x :: List.replicate c (PV.list [])).set i y = matL i (b.size + 1) (g0F (df (eqB a b))) ++ y :: List.replicate c (PV.list []) := fun x y => by
      have := set_mid (matL i (b.size + 1) (g0F (df (eqB a b)))) x y (List.replicate c (PV.list []))
      rwa [hlen] at this
    have hel : ∀ x : PV, (PV.list (matL i (b.size + 1) (g0F (df (eqB a b))) ++ x :: List.replicate c (PV.list []))).elem i = x := fun x => by
      simp [PV.elem, PV.items, List.getD_eq_getElem?_getD, hlen]
    have q1 : ∀ x : PV, (i : Int) < (((matL i (b.size + 1) (g0F (df (eqB a b))) ++ x :: List.replicate c (PV.list [])).length : Nat) : Int) := fun x => by simp [hlen]; omega
    have hz : PV.list (List.replicate (b.size + 1) (PV.sc (.int .i64 0))) = intsP ((List.range (b.size + 1)).map fun _ => (0 : Int)) := by simp [intsP, List.map_const']
    have q2 : (0 : Int) < ((b.size + 1 : Nat) : Int) := by omega
    have hrow : (((intsP ((List.range (b.size + 1)).map fun _ => (0 : Int))).items).set 0 (intP (i : Int))) = ((List.range (b.size + 1)).map (fun k' => if k' = 0 then (i : Int) else 0)).map intP := range_set _
    have hfin : matL i (b.size + 1) (g0F (df (eqB a b))) ++ PV.list (((List.range (b.size + 1)).map (fun k' => if k' = 0 then (i : Int) else 0)).map intP) :: List.replicate c (PV.list []) = matL (i + 1) (b.size + 1) (g0F (df (eqB a b))) ++ List.replicate c (PV.list []) := by
      have : matL (i + 1) (b.size + 1) (g0F (df (eqB a b))) = matL i (b.size + 1) (g0F (df (eqB a b))) ++ [PV.list (((List.range (b.size + 1)).map (fun k' => if k' = 0 then (i : Int) else 0)).map intP)] := by
        have hr : (List.range (b.size + 1)).map (g0F (df (eqB a b)) i) = (List.range (b.size + 1)).map (fun k' => if k' = 0 then (i : Int) else 0) := List.map_congr_left (fun k' _ => by
          unfold g0F
          split
          · rename_i h; subst h; rw [df_zero]
          · rfl)
        unfold matL
        rw [List.range_succ (n := i), List.map_append, List.map_cons, List.map_nil, hr]
        rfl
      rw [this]; simp
    have hrep : List.replicate (c + 1) (PV.list []) = PV.list [] :: List.replicate c (PV.list []) := List.replicate_succ
    simp only [impl_Far.l0_eq, hrep, z, wb, wi, nn, nat_int, c1, hz, hset, hset2, hel, q1, range_len, q2, hrow, hfin, decide_true, if_true, Int.le_refl, Int.reduceLE, Nat.le_refl]
    exact ih (i + 1) (by omega)
def farM (a b : ByteArray) : Int := df (eqB a b) a.size b.size
theorem farM_nn (a b : ByteArray) : 0 ≤ farM a b := (df_in (eqB a b) _ _ _ (Nat.le_refl _)).1
theorem implFar_ev (a b : ByteArray) (ha : isWord a = true) (hb : isWord b = true) : Ev (fun N => impl_Far.f N [strP a, strP b]) [intP (farM a b)] := by
  obtain ⟨a1, a2, a3⟩ := word_sizeW ha
  obtain ⟨b1, b2, b3⟩ := word_sizeW hb
  simp only [impl_Far.f_eq, toStr_sc]
  refine Ev.bind (implWord_ev a (by omega)) ?_
  simp only [ha, stk, Int.reduceEq, Nat.reduceEqDiff, Int.reduceLE, Int.reduceLT]
  refine Ev.bind (implWord_ev b (by omega)) ?_
  have wa : IntKind.i64.wrap ((a.size : Int) + 1) = ((a.size + 1 : Nat) : Int) := by rw [wrap_id (by omega) (by omega)]; omega
  have c1 : a.size + 1 ≤ 11728124029610 := by omega
  have h := (far_l0 a b ha hb (a.size + 1) 0 (by omega)).diag
  have e : matL 0 (b.size + 1) (g0F (df (eqB a b))) = [] := rfl
  rw [e, List.nil_append] at h
  simp only [hb, wa, nn, nat_int, c1, headD_one, toBool_sc, Bool.not_true, Bool.false_eq_true, if_false, if_true, Int.le_refl, List.length_replicate]
  exact h
theorem specF_l1 (a b : ByteArray) (ha : isWord a = true) (hb : isWord b = true) (i : Nat) (hi : i ≤ a.size) (R : List PV)
    (hR : Ev2 (fun N n => spec_l1Far.l0 N n a b ((i + 1 : Nat) : Int) (matL (i + 1) (b.size + 1) (df (eqB a b)))) R) : ∀ (c k : Nat), k + c = b.size + 1 →
    Ev3 (fun N m0 n => spec_l1Far.l1 N m0 n a b (i : Int) (k : Int) (matL i (b.size + 1) (df (eqB a b))) (((List.range k).map (df (eqB a b) i)).map intP)) R := by
  obtain ⟨a1, a2, a3⟩ := word_sizeW ha
  obtain ⟨b1, b2, b3⟩ := word_sizeW hb
  generalize hw : df (eqB a b) = w at hR ⊢
  intro c
  induction c with
  | zero =>
    intro k hk
    have hk' : k = b.size + 1 := by omega
    subst hk'
    refine Ev3.succ ?_
    have z : ¬ ((b.size + 1 : Nat) : Int) ≤ (b.size : Int) := by omega
    have wi : IntKind.i64.wrap ((i : Int) + 1) = ((i + 1 : Nat) : Int) := by rw [wrap_id (by omega) (by omega)]; omega
    have c1 : i + 1 ≤ 5864062014805 := by omega
    have hl := matL_len i (b.size + 1) w
    have l1 : ∀ x : PV, [x].length = 1 := fun _ => rfl
    simp only [spec_l1Far.l1_eq, z, wi, hl, l1, c1, matL_more, decide_false, Bool.false_eq_true, if_false, if_true]
    exact hR.outer
  | succ c ih =>
    intro k hk
    have hkb : k ≤ b.size := by omega
    refine Ev3.succ ?_
    have z : (k : Int) ≤ (b.size : Int) := by omega
    have wk1 : IntKind.i64.wrap ((k : Int) + 1) = ((k + 1 : Nat) : Int) := by rw [wrap_id (by omega) (by omega)]; omega
    have hl1 : (((List.range k).map (w i)).map intP).length = k := by simp
    have l1 : ∀ x : PV, [x].length = 1 := fun _ => rfl
    have c1 : k + 1 ≤ 17592186044416 := by omega
    have hnext := ih (k + 1) (by omega)
    rw [← rowL_more] at hnext
    cases i with
    | zero =>
      have hd : w 0 k = (k : Int) := by rw [← hw, df]
      have zz : ((0 : Nat) : Int) = 0 := rfl
      rw [hd] at hnext
      simp only [zz] at hnext ⊢
      simp only [spec_l1Far.l1_eq, z, wk1, hl1, l1, c1, decide_true, if_true]
      exact hnext
    | succ i =>
      have y0 : ¬ (((i + 1 : Nat) : Int) = 0) := by omega
      cases k with
      | zero =>
        have hd : w (i + 1) 0 = ((i + 1 : Nat) : Int) := by rw [← hw, df_zero]
        have zz : ((0 : Nat) : Int) = 0 := rfl
        rw [hd] at hnext
        simp only [zz] at hnext wk1 z ⊢
        simp only [spec_l1Far.l1_eq, z, wk1, hl1, l1, c1, y0, decide_true, decide_false, Bool.false_eq_true, if_false, if_true]
        exact hnext
      | succ k =>
        have y1 : ¬ (((k + 1 : Nat) : Int) = 0) := by omega
        have wi : IntKind.i64.wrap (((i + 1 : Nat) : Int) - 1) = (i : Int) := by rw [cast1, wrap_id (by omega) (by omega)]
        have wk : IntKind.i64.wrap (((k + 1 : Nat) : Int) - 1) = (k : Int) := by rw [cast1, wrap_id (by omega) (by omega)]
        have hl := matL_len (i + 1) (b.size + 1) w
        have q1 : (i : Int) < ((i + 1 : Nat) : Int) := by omega
        have r1 := matL_row (n := i + 1) (m := b.size + 1) (g := w) (show i < i + 1 by omega)
        have q3 : (k : Int) < ((b.size + 1 : Nat) : Int) := by omega
        have q4 : ((k + 1 : Nat) : Int) < ((b.size + 1 : Nat) : Int) := by omega
        have q5 : (i : Int) < (a.size : Int) := by omega
        have q6 : (k : Int) < (b.size : Int) := by omega
        have q7 : (k : Int) < ((k + 1 : Nat) : Int) := by omega
        have h1 : 0 ≤ w i k ∧ w i k ≤ (max i k : Nat) := hw ▸ df_in (eqB a b) _ i k (Nat.le_refl _)
        have h2 : 0 ≤ w i (k + 1) ∧ w i (k + 1) ≤ (max i (k + 1) : Nat) := hw ▸ df_in (eqB a b) _ i (k + 1) (Nat.le_refl _)
        have h3 : 0 ≤ w (i + 1) k ∧ w (i + 1) k ≤ (max (i + 1) k : Nat) := hw ▸ df_in (eqB a b) _ (i + 1) k (Nat.le_refl _)
        have w1 : IntKind.i64.wrap (w i k + 1) = w i k + 1 := wrap_id (by omega) (by omega)
        have w2 : IntKind.i64.wrap (w i (k + 1) + 1) = w i (k + 1) + 1 := wrap_id (by omega) (by omega)
        have w3 : IntKind.i64.wrap (w (i + 1) k + 1) = w (i + 1) k + 1 := wrap_id (by omega) (by omega)
        have hle : ∀ x y : Int, (if x < y then x else y) = minI x y := fun x y => by
          simp only [minI]; repeat' split
          all_goals omega
        have hmm : ∀ x y z : Int, minI x (minI y z) = minI (minI x y) z := fun x y z => by
          simp only [minI]; repeat' split
          all_goals omega
        have hdf : w (i + 1) (k + 1) = if 1 ≤ i ∧ 1 ≤ k ∧ eqB a b i (k - 1) = true ∧ eqB a b (i - 1) k = true then minI (dfB (eqB a b) i k (w i k) (w i (k + 1)) (w (i + 1) k)) (w (i - 1) (k - 1) + 1) else dfB (eqB a b) i k (w i k) (w i (k + 1)) (w (i + 1) k) := by rw [← hw, df]
        have he : ((PV.list (((List.range (k + 1)).map (w (i + 1))).map intP)).elem k).toInt = w (i + 1) k := range_at (by omega)
        by_cases hik : 1 ≤ i ∧ 1 ≤ k
        · obtain ⟨i', rfl⟩ : ∃ i', i = i' + 1 := ⟨i - 1, by omega⟩
          obtain ⟨k', rfl⟩ : ∃ k', k = k' + 1 := ⟨k - 1, by omega⟩
          have x1 : (1 : Int) < ((i' + 1 + 1 : Nat) : Int) := by omega
          have x2 : (1 : Int) < ((k' + 1 + 1 : Nat) : Int) := by omega
          have vi : IntKind.i64.wrap (((i' + 1 + 1 : Nat) : Int) - 2) = (i' : Int) := by rw [wrap_id (by omega) (by omega)]; omega
          have vk : IntKind.i64.wrap (((k' + 1 + 1 : Nat) : Int) - 2) = (k' : Int) := by rw [wrap_id (by omega) (by omega)]; omega
          have p7 : (i' : Int) < (a.size : Int) := by omega
          have p8 : (k' : Int) < (b.size : Int) := by omega
          have p9 : (i' : Int) < ((i' + 1 + 1 : Nat) : Int) := by omega
          have p10 : (k' : Int) < ((b.size + 1 : Nat) : Int) := by omega
          have r3 := matL_row (n := i' + 1 + 1) (m := b.size + 1) (g := w) (show i' < i' + 1 + 1 by omega)
          have h4 : 0 ≤ w i' k' ∧ w i' k' ≤ (max i' k' : Nat) := hw ▸ df_in (eqB a b) _ i' k' (Nat.le_refl _)
          have w4 : IntKind.i64.wrap (w i' k' + 1) = w i' k' + 1 := wrap_id (by omega) (by omega)
          simp only [Nat.add_sub_cancel, Nat.le_add_left, true_and] at hdf
          cases e1 : eqB a b (i' + 1) (k' + 1) <;> cases e2 : eqB a b (i' + 1) k' <;> cases e3 : eqB a b i' (k' + 1) <;>
            (simp only [e1, e2, e3, dfB, Bool.false_eq_true, if_false, if_true, and_self, and_true, and_false, false_and, Int.add_zero] at hdf
             rw [hdf] at hnext
             simp only [spec_l1Far.l1_eq, eq_at, z, y0, y1, x1, x2, wi, wk, wk1, vi, vk, hl, hl1, l1, c1, q1, q3, q4, q5, q6, q7, p7, p8, p9, p10, r1, r3, range_len, nn, nat_int, e1, e2, e3, Bool.not_true, Bool.not_false, decide_true, decide_false, Bool.false_eq_true, if_false, if_true, headD_one, toInt_sc, range_at (show k' + 1 < b.size + 1 by omega), range_at (show k' + 1 + 1 < b.size + 1 by omega), range_at (show k' < b.size + 1 by omega), he, w1, w2, w3, w4, least_val, hle, hmm, Option.bind_some]
             exact hnext)
        · rw [if_neg (by omega)] at hdf
          by_cases hi0 : 1 ≤ i
          · have x1 : (1 : Int) < ((i + 1 : Nat) : Int) := by omega
            have x2 : ¬ (1 : Int) < ((k + 1 : Nat) : Int) := by omega
            cases e1 : eqB a b i k <;>
              (simp only [e1, dfB, Bool.false_eq_true, if_false, if_true, Int.add_zero] at hdf
               rw [hdf] at hnext
               simp only [spec_l1Far.l1_eq, eq_at, z, y0, y1, x1, x2, wi, wk, wk1, hl, hl1, l1, c1, q1, q3, q4, q5, q6, q7, r1, range_len, nn, nat_int, e1, Bool.not_true, Bool.not_false, decide_true, decide_false, Bool.false_eq_true, if_false, if_true, headD_one, toInt_sc, range_at (show k < b.size + 1 by omega), range_at (show k + 1 < b.size + 1 by omega), he, w1, w2, w3, least_val, hle, hmm, Option.bind_some]
               exact hnext)
          · have x1 : ¬ (1 : Int) < ((i + 1 : Nat) : Int) := by omega
            cases e1 : eqB a b i k <;>
              (simp only [e1, dfB, Bool.false_eq_true, if_false, if_true, Int.add_zero] at hdf
               rw [hdf] at hnext
               simp only [spec_l1Far.l1_eq, eq_at, z, y0, y1, x1, wi, wk, wk1, hl, hl1, l1, c1, q1, q3, q4, q5, q6, q7, r1, range_len, nn, nat_int, e1, Bool.not_true, Bool.not_false, decide_true, decide_false, Bool.false_eq_true, if_false, if_true, headD_one, toInt_sc, range_at (show k < b.size + 1 by omega), range_at (show k + 1 < b.size + 1 by omega), he, w1, w2, w3, least_val, hle, hmm, Option.bind_some]
               exact hnext)
theorem specF_l0 (a b : ByteArray) (ha : isWord a = true) (hb : isWord b = true) : ∀ (c i : Nat), i + c = a.size + 1 →
    Ev2 (fun N n => spec_l1Far.l0 N n a b (i : Int) (matL i (b.size + 1) (df (eqB a b)))) [intP (farM a b)] := by
  obtain ⟨a1, a2, a3⟩ := word_sizeW ha
  obtain ⟨b1, b2, b3⟩ := word_sizeW hb
  intro c
  induction c with
  | zero =>
    intro i hi
    have hi' : i = a.size + 1 := by omega
    subst hi'
    refine Ev2.succ ?_
    have z : ¬ ((a.size + 1 : Nat) : Int) ≤ (a.size : Int) := by omega
    have hl := matL_len (a.size + 1) (b.size + 1) (df (eqB a b))
    have q1 : (a.size : Int) < ((a.size + 1 : Nat) : Int) := by omega
    have q2 : (b.size : Int) < ((b.size + 1 : Nat) : Int) := by omega
    have r1 := matL_row (n := a.size + 1) (m := b.size + 1) (g := df (eqB a b)) (show a.size < a.size + 1 by omega)
    simp only [spec_l1Far.l0_eq, z, hl, q1, q2, r1, range_len, range_at (show b.size < b.size + 1 by omega), nn, decide_false, Bool.false_eq_true, if_false, if_true]
    exact Ev2.now _
  | succ c ih =>
    intro i hi
    refine Ev2.succ ?_
    have z : (i : Int) ≤ (a.size : Int) := by omega
    have h := specF_l1 a b ha hb i (by omega) _ (ih (i + 1) (by omega)) (b.size + 1) 0 (by omega)
    simp only [spec_l1Far.l0_eq, z, decide_true, if_true]
    exact h.start
theorem specFar_ev (a b : ByteArray) (ha : isWord a = true) (hb : isWord b = true) : Ev (fun N => spec_l1Far.f N [strP a, strP b]) [intP (farM a b)] := by
  have h := (specF_l0 a b ha hb (a.size + 1) 0 (by omega)).diag
  simp only [spec_l1Far.f_eq, stk, Int.reduceEq, Nat.reduceEqDiff, Int.reduceLE, Int.reduceLT]
  exact h
abbrev Gi := ByteArray × Int
def giP (l : List Gi) : PV := .list (l.map guessP)
theorem gi_f0 (g : Gi) : (guessP g).fld 0 = strP g.1 := rfl
theorem gi_f1 (g : Gi) : (guessP g).fld 1 = intP g.2 := rfl
theorem gi_agg (s : ByteArray) (n : Int) : PV.agg [PV.sc (.string s), PV.sc (.int .i64 n)] = guessP (s, n) := rfl
theorem gi_len (l : List Gi) : (giP l).items.length = l.length := by simp [giP, PV.items]
theorem gi_elem {l pre rest : List Gi} {g : Gi} (h : l = pre ++ g :: rest) : (giP l).elem pre.length = guessP g := by
  subst h
  simp [giP, PV.elem, PV.items, List.getD_eq_getElem?_getD]
theorem gi_list (l : List Gi) : PV.list (l.map guessP) = giP l := rfl
theorem gi_items (l : List Gi) : (giP l).items = l.map guessP := rfl
theorem gi_nil : PV.list [] = giP [] := rfl
theorem gi_snoc (l : List Gi) (g : Gi) : l.map guessP ++ [guessP g] = (l ++ [g]).map guessP := by simp
theorem gi_eta (g : Gi) : (g.1, g.2) = g := rfl
def ltG (x g : Gi) : Bool := decide (x.2 < g.2) || (decide (x.2 = g.2) && bLess x.1 g.1)
theorem ltG_eq (x g : Gi) : ltOf cmpG x g = ltG x g := by
  rw [lt_cmpG]
  have e : decide (x.1.toList < g.1.toList) = bLess x.1 g.1 := by rw [← bLess_eq, Go.Proofs.bytesLess_eq]
  unfold ltG
  rw [← e]
  by_cases h1 : x.2 < g.2 <;> by_cases h2 : x.2 = g.2 <;> simp [h1, h2]
def insG (g : Gi) : List Gi → List Gi
  | [] => [g]
  | x :: r => if ltG x g = true then x :: insG g r else g :: x :: r
theorem insG_len (g : Gi) : ∀ l : List Gi, (insG g l).length = l.length + 1
  | [] => rfl
  | x :: r => by
    unfold insG
    have := insG_len g r
    split <;> simp; omega
theorem insG_split (g : Gi) : ∀ (pre rest : List Gi), (∀ c ∈ pre, ltG c g = true) → insG g (pre ++ rest) = pre ++ insG g rest
  | [], rest, _ => rfl
  | c :: pre, rest, h => by
    rw [List.cons_append, insG, if_pos (h c (by simp)), insG_split g pre rest (fun x hx => h x (by simp [hx]))]; rfl
theorem insG_perm (g : Gi) : ∀ l : List Gi, (insG g l).Perm (g :: l)
  | [] => List.Perm.refl _
  | x :: r => by
    unfold insG
    split
    · exact ((insG_perm g r).cons x).trans (List.Perm.swap _ _ _)
    · exact List.Perm.refl _
def leG (x y : Gi) : Prop := ltG y x = false
theorem leG_trans {x y z : Gi} (h1 : leG x y) (h2 : leG y z) : leG x z := by
  unfold leG at *
  rw [← ltG_eq] at *
  exact swoG.ntrans z y x h2 h1
theorem leG_of {x y : Gi} (h : ltG x y = true) : leG x y := by
  unfold leG
  cases h2 : ltG y x with
  | false => rfl
  | true =>
    rw [← ltG_eq] at h h2
    have := swoG.trans x y x h h2
    rw [swoG.irrefl x] at this
    cases this
theorem leG_total (x y : Gi) : leG x y ∨ leG y x := by
  cases h : ltG y x with
  | false => exact .inl h
  | true => exact .inr (leG_of h)
theorem leG_anti {x y : Gi} (h1 : leG x y) (h2 : leG y x) : x = y := by
  unfold leG at h1 h2
  rw [← ltG_eq] at h1 h2
  exact totG x y h2 h1
theorem insG_sorted (g : Gi) : ∀ l : List Gi, l.Pairwise leG → (insG g l).Pairwise leG
  | [], _ => by simp [insG]
  | x :: r, h => by
    rw [List.pairwise_cons] at h
    unfold insG
    split
    · rename_i hx
      rw [List.pairwise_cons]
      refine ⟨fun y hy => ?_, insG_sorted g r h.2⟩
      rcases List.mem_cons.1 ((insG_perm g r).mem_iff.1 hy) with rfl | hy
      · exact leG_of hx
      · exact h.1 y hy
    · rename_i hx
      have hgx : leG g x := by unfold leG; simpa using hx
      rw [List.pairwise_cons]
      refine ⟨fun y hy => ?_, List.pairwise_cons.2 h⟩
      rcases List.mem_cons.1 hy with rfl | hy
      · exact hgx
      · exact leG_trans hgx (h.1 y hy)
theorem sortG_sorted (l : List Gi) : (sortG l).Pairwise leG := by
  have h := List.pairwise_mergeSort (le := fun x y : Gi => !(ltOf cmpG) y x) (fun a b c h1 h2 => by
    simp only [Bool.not_eq_true', ltG_eq] at *
    exact leG_trans h1 h2) (fun a b => by
    simp only [Bool.or_eq_true, Bool.not_eq_true', ltG_eq]
    exact leG_total a b) l
  exact h.imp (fun h => by simpa [ltG_eq, leG] using h)
theorem sortG_perm (l : List Gi) : (sortG l).Perm l := List.mergeSort_perm _ _
theorem perm_eq : ∀ {a b : List Gi}, a.Pairwise leG → b.Pairwise leG → a.Perm b → a = b
  | [], b, _, _, h => (List.nil_perm.1 h).symm
  | x :: a, [], _, _, h => absurd h (by simp)
  | x :: a, y :: b, ha, hb, h => by
    rw [List.pairwise_cons] at ha hb
    have e : x = y := by
      rcases List.mem_cons.1 (h.mem_iff.1 (List.mem_cons_self (a := x))) with h1 | h1
      · exact h1
      rcases List.mem_cons.1 (h.mem_iff.2 (List.mem_cons_self (a := y))) with h2 | h2
      · exact h2.symm
      · exact leG_anti (ha.1 y h2) (hb.1 x h1)
    subst e
    rw [perm_eq ha.2 hb.2 (List.perm_cons x |>.1 h)]
def insAll : List Gi → List Gi → List Gi
  | [], acc => acc
  | g :: r, acc => insAll r (insG g acc)
theorem insAll_sorted : ∀ (l acc : List Gi), acc.Pairwise leG → (insAll l acc).Pairwise leG
  | [], _, h => h
  | g :: r, acc, h => insAll_sorted r _ (insG_sorted g acc h)
theorem insAll_perm : ∀ (l acc : List Gi), (insAll l acc).Perm (l ++ acc)
  | [], _ => List.Perm.refl _
  | g :: r, acc => by
    rw [insAll]
    refine (insAll_perm r _).trans ?_
    refine ((insG_perm g acc).append_left r).trans ?_
    exact List.perm_middle
theorem insAll_sort (l : List Gi) : insAll l [] = sortG l :=
  perm_eq (insAll_sorted l [] List.Pairwise.nil) (sortG_sorted l) (((insAll_perm l []).trans (by simp)).trans (sortG_perm l).symm)
theorem sortF_val (l : List Gi) (hl : l.length ≤ 1000000) (N : Nat) : slices_SortFunc_impl_Guess.f N [giP l, PV.sc (.func (.func 62) #[] #[])] = some [giP (sortG l)] := by
  have h1 : isFn 62 (.func (.func 62) #[] #[]) = true := rfl
  have h2 : (l.map guessP).map toGuess = l := by simp [Function.comp_def, toGuess_guessP]
  unfold slices_SortFunc_impl_Guess.f
  simp only [giP]
  rw [if_pos ⟨h1, by simp; omega⟩, h2]
theorem putG_loop (l : List Gi) (g : Gi) (hl : l.length ≤ 1000000) : ∀ (rest pre : List Gi), l = pre ++ rest → (∀ c ∈ pre, ltG c g = true) →
    Ev2 (fun N n => spec_l4Put.l0 N n (giP l) (pre.length : Int) g.1 g.2) [giP (insG g l)] := by
  intro rest
  have parts : ∀ (pre rest : List Gi), l = pre ++ rest → (giP l).items.take pre.length = pre.map guessP ∧ (giP l).items.drop pre.length = rest.map guessP := fun pre rest hp => by
    subst hp; simp [giP, PV.items]
  induction rest with
  | nil =>
    intro pre hp hpre
    obtain ⟨p1, p2⟩ := parts pre [] hp
    have e : insG g l = pre ++ [g] := by rw [hp, insG_split g pre [] hpre]; rfl
    have hll : l.length = pre.length := by rw [hp]; simp
    have c0 : pre.length ≤ 5864062014805 := by omega
    have c1 : pre.length + 1 ≤ 5864062014805 := by omega
    have c2 : (pre.length : Int) ≤ (l.length : Int) := by omega
    have z : l.length - pre.length = 0 := by omega
    have e2 : PV.list (pre.map guessP ++ [guessP g]) = giP (pre ++ [g]) := by simp [giP]
    refine Ev2.succ ?_
    simp only [spec_l4Put.l0_eq, gi_len, at_end hp, c2, z, gi_agg, gi_eta, List.drop_zero, Nat.sub_zero, p1, p2, List.nil_append, List.length_nil, List.length_map, List.length_append, List.map_nil, List.take_nil, List.append_nil, Nat.zero_add, Nat.add_zero, c0, c1, e, e2, stk, Int.reduceEq, Nat.reduceEqDiff, Int.reduceLE, Int.reduceLT]
    exact Ev2.now _
  | cons c rest ih =>
    intro pre hp hpre
    obtain ⟨p1, p2⟩ := parts pre (c :: rest) hp
    have hll : l.length = pre.length + 1 + rest.length := by rw [hp]; simp; omega
    have hst : ltG c g = true → ∀ x ∈ pre ++ [c], ltG x g = true := fun hlt x hx => by
      rcases List.mem_append.1 hx with hx | hx
      · exact hpre x hx
      · rw [List.mem_singleton.1 hx]; exact hlt
    refine Ev2.succ ?_
    by_cases hlt : ltG c g = true
    · by_cases h1 : c.2 < g.2
      · simp only [spec_l4Put.l0_eq, gi_len, gi_elem hp, gi_f0, gi_f1, at_lt hp, h1, at_next hp (by omega), stk, Int.reduceEq, Nat.reduceEqDiff, Int.reduceLE, Int.reduceLT]
        exact ih _ (at_step hp) (hst hlt)
      · have h3 : c.2 = g.2 ∧ bLess c.1 g.1 = true := by simpa [ltG, h1] using hlt
        simp only [spec_l4Put.l0_eq, gi_len, gi_elem hp, gi_f0, gi_f1, at_lt hp, bLess_eq, h1, h3.1, h3.2, Int.lt_irrefl, at_next hp (by omega), stk, Int.reduceEq, Nat.reduceEqDiff, Int.reduceLE, Int.reduceLT]
        have := ih _ (at_step hp) (hst hlt)
        exact this
    · have e : insG g l = pre ++ (g :: c :: rest) := by rw [hp, insG_split g pre _ hpre, insG, if_neg hlt]
      have c0 : pre.length ≤ 5864062014805 := by omega
      have c1 : pre.length + 1 ≤ 5864062014805 := by omega
      have c2 : (pre.length : Int) ≤ (l.length : Int) := by omega
      have c3 : pre.length + 1 + (rest.length + 1) ≤ 5864062014805 := by omega
      have z : l.length - pre.length = rest.length + 1 := by omega
      have t1 : List.take (rest.length + 1) (guessP c :: rest.map guessP) = guessP c :: rest.map guessP := List.take_of_length_le (by simp)
      have e2 : PV.list (pre.map guessP ++ [guessP g] ++ guessP c :: rest.map guessP) = giP (pre ++ g :: c :: rest) := by simp [giP]
      have h1 : ¬ c.2 < g.2 := fun h => hlt (by simp [ltG, h])
      by_cases h2 : c.2 = g.2
      · have h3 : bLess c.1 g.1 = false := by
          cases hb : bLess c.1 g.1 with
          | false => rfl
          | true => exact absurd (by simp [ltG, h2, hb]) hlt
        simp only [spec_l4Put.l0_eq, gi_len, gi_elem hp, gi_f0, gi_f1, at_lt hp, bLess_eq, h2, h3, Int.lt_irrefl, c2, gi_agg, gi_eta, List.drop_zero, Nat.sub_zero, p1, p2, z, t1, List.nil_append, List.length_nil, List.length_map, List.length_append, List.length_cons, List.map_cons, Nat.zero_add, c0, c1, c3, e, stk, Int.reduceEq, Nat.reduceEqDiff, Int.reduceLE, Int.reduceLT]
        exact Ev2.ext (Ev2.now _) (by rw [e2])
      · simp only [spec_l4Put.l0_eq, gi_len, gi_elem hp, gi_f0, gi_f1, at_lt hp, bLess_eq, h1, h2, c2, gi_agg, gi_eta, List.drop_zero, Nat.sub_zero, p1, p2, z, t1, List.nil_append, List.length_nil, List.length_map, List.length_append, List.length_cons, List.map_cons, Nat.zero_add, c0, c1, c3, e, stk, Int.reduceEq, Nat.reduceEqDiff, Int.reduceLE, Int.reduceLT]
        exact Ev2.ext (Ev2.now _) (by rw [e2])
theorem putG_ev (l : List Gi) (g : Gi) (hl : l.length ≤ 1000000) : Ev (fun N => spec_l4Put.f N [giP l, guessP g]) [giP (insG g l)] := by
  simp only [spec_l4Put.f_eq, gi_f0, gi_f1, stk, Int.reduceEq, Nat.reduceEqDiff, Int.reduceLE, Int.reduceLT]
  exact (putG_loop l g hl l [] rfl (by simp)).diag
def hitB (w x : ByteArray) : Bool := decide (farM x w ≤ 2)
def hitsM (ws : List ByteArray) (w : ByteArray) : List Gi := (ws.filter (hitB w)).map fun x => (x, farM x w)
def guessL (ws : List ByteArray) (w : ByteArray) : List Gi := (sortG (hitsM ws w)).take 10
def nearM : List Gi → List Gi
  | [] => []
  | g :: r => g :: r.takeWhile fun x => decide (x.2 = g.2)
theorem implGuess_loop {ws : List ByteArray} (hws : ∀ x ∈ ws, isWord x = true) (hwl : ws.length ≤ 10000) {w : ByteArray} (hw : isWord w = true) : ∀ (rest pre : List ByteArray) (acc : List Gi), ws = pre ++ rest → acc.length ≤ pre.length →
    Ev2 (fun N n => impl_guesses.l0 N n w 2 (strsP ws) (ws.length : Int) (pre.length : Int) (acc.map guessP)) [giP ((sortG (acc ++ hitsM rest w)).take 10)] := by
  intro rest
  induction rest with
  | nil =>
    intro pre acc hp ha
    have hpl : pre.length = ws.length := by rw [hp]; simp
    have hs := sortF_val acc (by omega)
    have hsl := sortG_len acc
    have mm : minI ((sortG acc).length : Int) 10 = ((min (sortG acc).length 10 : Nat) : Int) := by simp only [minI]; split <;> omega
    have c1 : ((min (sortG acc).length 10 : Nat) : Int) ≤ ((sortG acc).length : Int) := by omega
    have c2 : (List.take 10 (sortG acc)).length ≤ 5864062014805 := by rw [List.length_take]; omega
    have e : List.take (min (sortG acc).length 10) ((sortG acc).map guessP) = ((sortG acc).take 10).map guessP := by
      rw [List.map_take]
      have := List.take_eq_take_min (l := (sortG acc).map guessP) (i := 10)
      rw [this, List.length_map, Nat.min_comm]
    have h0 : hitsM [] w = [] := rfl
    refine Ev2.succ ?_
    simp only [impl_guesses.l0_eq, at_end hp, gi_list, hs, gi_items, List.length_map, mm, c1, List.drop_zero, Nat.sub_zero, List.nil_append, List.length_nil, Nat.zero_add, c2, e, h0, List.append_nil, stk, Int.reduceEq, Nat.reduceEqDiff, Int.reduceLE, Int.reduceLT]
    exact Ev2.now _
  | cons x rest ih =>
    intro pre acc hp ha
    have hpl := at_ltN hp
    have hx := hws x (by rw [hp]; simp)
    have hf := implFar_ev x w hx hw
    have hf0 := farM_nn x w
    have hwi : Ev (fun N => impl_Within.f N [strP x, strP w, intP 2]) [boolP (hitB w x)] := by
      simp only [impl_Within.f_eq, stk, Int.reduceEq, Nat.reduceEqDiff, Int.reduceLE, Int.reduceLT]
      refine Ev.bind hf ?_
      simp only [hf0, hitB, stk, Int.reduceEq, Nat.reduceEqDiff, Int.reduceLE, Int.reduceLT]
      exact Ev.now _
    simp only [strP, intP] at hwi hf
    refine Ev2.succ ?_
    simp only [impl_guesses.l0_eq, strs_len, at_lt hp, at_getD hp, stk, Int.reduceEq, Nat.reduceEqDiff, Int.reduceLE, Int.reduceLT]
    refine Ev2.bind hwi ?_
    by_cases hb : hitB w x = true
    · have hh : hitsM (x :: rest) w = (x, farM x w) :: hitsM rest w := by simp [hitsM, hb]
      have c1 : acc.length + 1 ≤ 5864062014805 := by omega
      simp only [hb, stk, Int.reduceEq, Nat.reduceEqDiff, Int.reduceLE, Int.reduceLT]
      refine Ev2.bind hf ?_
      simp only [List.length_map, c1, gi_agg, gi_snoc, at_next hp (by omega), stk, Int.reduceEq, Nat.reduceEqDiff, Int.reduceLE, Int.reduceLT]
      have := ih (pre ++ [x]) (acc ++ [(x, farM x w)]) (at_step hp) (by simp; omega)
      rw [hh]
      rw [List.append_assoc] at this
      exact this
    · simp only [Bool.not_eq_true] at hb
      have hh : hitsM (x :: rest) w = hitsM rest w := by simp [hitsM, hb]
      simp only [hb, at_next hp (by omega), stk, Int.reduceEq, Nat.reduceEqDiff, Int.reduceLE, Int.reduceLT]
      rw [hh]
      exact ih (pre ++ [x]) acc (at_step hp) (by simp; omega)
theorem implGuess_ev {ws : List ByteArray} (hws : ∀ x ∈ ws, isWord x = true) (hwl : ws.length ≤ 10000) {w : ByteArray} (hw : isWord w = true) : Ev (fun N => impl_guesses.f N [strsP ws, strP w, intP 2]) [giP (guessL ws w)] := by
  simp only [impl_guesses.f_eq, strs_len, stk, Int.reduceEq, Nat.reduceEqDiff, Int.reduceLE, Int.reduceLT]
  exact (implGuess_loop hws hwl hw ws [] [] rfl (by simp)).diag
theorem specGuess_l1 {ws : List ByteArray} (hws : ∀ x ∈ ws, isWord x = true) (hwl : ws.length ≤ 10000) {w : ByteArray} (hw : isWord w = true) : ∀ (rest pre : List ByteArray) (acc : List Gi), ws = pre ++ rest → acc.length ≤ pre.length →
    Ev2 (fun N n => spec_l4Guesses.l1 N n (strsP ws) w 2 (pre.length : Int) (giP acc)) [giP ((insAll (hitsM rest w) acc).take 10)] := by
  intro rest
  induction rest with
  | nil =>
    intro pre acc hp ha
    have h0 : insAll (hitsM [] w) acc = acc := rfl
    refine Ev2.succ ?_
    by_cases h10 : (10 : Int) < (acc.length : Int)
    · have c1 : (10 : Int) ≤ (acc.length : Int) := by omega
      have e : PV.list (List.take 10 (acc.map guessP)) = giP (acc.take 10) := by simp [giP]
      simp only [spec_l4Guesses.l1_eq, strs_len, at_end hp, gi_items, List.length_map, h10, c1, h0, stk, Int.reduceEq, Nat.reduceEqDiff, Int.reduceLE, Int.reduceLT]
      exact Ev2.ext (Ev2.now _) (by rw [e])
    · have e : acc.take 10 = acc := List.take_of_length_le (by omega)
      simp only [spec_l4Guesses.l1_eq, strs_len, at_end hp, gi_len, h10, h0, e, stk, Int.reduceEq, Nat.reduceEqDiff, Int.reduceLE, Int.reduceLT]
      exact Ev2.now _
  | cons x rest ih =>
    intro pre acc hp ha
    have hpl := at_ltN hp
    have hx := hws x (by rw [hp]; simp)
    have hf := specFar_ev x w hx hw
    simp only [strP] at hf
    refine Ev2.succ ?_
    simp only [spec_l4Guesses.l1_eq, strs_len, at_lt hp, at_getD hp, stk, Int.reduceEq, Nat.reduceEqDiff, Int.reduceLE, Int.reduceLT]
    refine Ev2.bind hf ?_
    by_cases hb : farM x w ≤ 2
    · have hh : hitsM (x :: rest) w = (x, farM x w) :: hitsM rest w := by simp [hitsM, hitB, hb]
      simp only [hb, gi_agg, stk, Int.reduceEq, Nat.reduceEqDiff, Int.reduceLE, Int.reduceLT]
      refine Ev2.bind (putG_ev acc (x, farM x w) (by omega)) ?_
      simp only [at_next hp (by omega), stk, Int.reduceEq, Nat.reduceEqDiff, Int.reduceLE, Int.reduceLT]
      rw [hh]
      exact ih (pre ++ [x]) _ (at_step hp) (by rw [insG_len]; simp; omega)
    · have hh : hitsM (x :: rest) w = hitsM rest w := by simp [hitsM, hitB, hb]
      simp only [hb, at_next hp (by omega), stk, Int.reduceEq, Nat.reduceEqDiff, Int.reduceLE, Int.reduceLT]
      rw [hh]
      exact ih (pre ++ [x]) acc (at_step hp) (by simp; omega)
theorem specGuess_l0 {ws : List ByteArray} (hws : ∀ x ∈ ws, isWord x = true) (hwl : ws.length ≤ 10000) {w : ByteArray} (hw : isWord w = true) : ∀ (rest pre : List ByteArray), ws = pre ++ rest →
    Ev2 (fun N n => spec_l4Guesses.l0 N n (strsP ws) w 2 (pre.length : Int) []) [giP ((insAll (hitsM rest w) []).take 10)] := by
  intro rest
  induction rest with
  | nil =>
    intro pre hp
    have h0 : insAll (hitsM [] w) [] = [] := rfl
    have h1 : ¬ ((10 : Int) < (([] : List PV).length : Int)) := by decide
    refine Ev2.succ ?_
    simp only [spec_l4Guesses.l0_eq, strs_len, at_end hp, h0, h1, stk, Int.reduceEq, Nat.reduceEqDiff, Int.reduceLE, Int.reduceLT]
    exact Ev2.now _
  | cons x rest ih =>
    intro pre hp
    have hpl := at_ltN hp
    have hx := hws x (by rw [hp]; simp)
    have hf := specFar_ev x w hx hw
    simp only [strP] at hf
    refine Ev2.succ ?_
    simp only [spec_l4Guesses.l0_eq, strs_len, at_lt hp, at_getD hp, stk, Int.reduceEq, Nat.reduceEqDiff, Int.reduceLE, Int.reduceLT]
    refine Ev2.bind hf ?_
    by_cases hb : farM x w ≤ 2
    · have hh : hitsM (x :: rest) w = (x, farM x w) :: hitsM rest w := by simp [hitsM, hitB, hb]
      simp only [hb, gi_agg, gi_nil, stk, Int.reduceEq, Nat.reduceEqDiff, Int.reduceLE, Int.reduceLT]
      refine Ev2.bind (putG_ev [] (x, farM x w) (by simp)) ?_
      simp only [at_next hp (by omega), stk, Int.reduceEq, Nat.reduceEqDiff, Int.reduceLE, Int.reduceLT]
      rw [hh]
      exact specGuess_l1 hws hwl hw rest (pre ++ [x]) _ (at_step hp) (by rw [insG_len]; simp)
    · have hh : hitsM (x :: rest) w = hitsM rest w := by simp [hitsM, hitB, hb]
      simp only [hb, at_next hp (by omega), stk, Int.reduceEq, Nat.reduceEqDiff, Int.reduceLE, Int.reduceLT]
      rw [hh]
      exact ih (pre ++ [x]) (at_step hp)
theorem specGuess_ev {ws : List ByteArray} (hws : ∀ x ∈ ws, isWord x = true) (hwl : ws.length ≤ 10000) {w : ByteArray} (hw : isWord w = true) : Ev (fun N => spec_l4Guesses.f N [strsP ws, strP w, intP 2]) [giP (guessL ws w)] := by
  have h := (specGuess_l0 hws hwl hw ws [] rfl).diag
  rw [insAll_sort] at h
  simp only [spec_l4Guesses.f_eq, stk, Int.reduceEq, Nat.reduceEqDiff, Int.reduceLE, Int.reduceLT]
  exact h
theorem bookW_isWord {af : List Aff} {es : List Ent} (h : BookOkF af es) : ∀ x ∈ bookW af es, isWord x = true := fun x hx => by
  rw [bookW_mem] at hx
  obtain ⟨e, he, hx⟩ := hx
  rcases formsB_mem hx with rfl | hw
  · exact (entB_facts (h.ent e he)).1
  · exact hw
def bookG (af : List Aff) (es : List Ent) (w : ByteArray) : List Gi := if bookB af es = true ∧ isWord w = true ∧ w ∉ bookW af es then nearM (guessL (bookW af es) w) else []
theorem guessL_len (ws : List ByteArray) (w : ByteArray) : (guessL ws w).length ≤ 10 := by unfold guessL; rw [List.length_take]; omega
theorem specNear_loop {l : List Gi} {g : Gi} {r : List Gi} (hl : l = g :: r) (hll : l.length ≤ 10) : ∀ (rest pre : List Gi), l = pre ++ rest → 1 ≤ pre.length →
    Ev2 (fun N n => spec_BookGuesses.l0 N n (pre.length : Int) (pre.map guessP) (giP l)) [giP (pre ++ rest.takeWhile fun x => decide (x.2 = g.2))] := by
  have e0 : (giP l).elem 0 = guessP g := by rw [hl]; rfl
  have c0 : (0 : Int) < (l.length : Int) := by rw [hl]; simp <;> omega
  intro rest
  induction rest with
  | nil =>
    intro pre hp h1
    refine Ev2.succ ?_
    simp only [spec_BookGuesses.l0_eq, gi_len, at_end hp, gi_list, List.takeWhile_nil, List.append_nil, stk, Int.reduceEq, Nat.reduceEqDiff, Int.reduceLE, Int.reduceLT]
    exact Ev2.now _
  | cons x rest ih =>
    intro pre hp h1
    have hpl := at_ltN hp
    refine Ev2.succ ?_
    by_cases hx : x.2 = g.2
    · have c1 : pre.length + 1 ≤ 5864062014805 := by omega
      simp only [spec_BookGuesses.l0_eq, gi_len, gi_elem hp, at_lt hp, e0, c0, gi_f0, gi_f1, gi_agg, gi_eta, hx, List.length_map, c1, gi_snoc, at_next hp (by omega), stk, Int.reduceEq, Nat.reduceEqDiff, Int.reduceLE, Int.reduceLT]
      have := ih (pre ++ [x]) (at_step hp) (by simp)
      have e : (x :: rest).takeWhile (fun x => decide (x.2 = g.2)) = x :: rest.takeWhile (fun x => decide (x.2 = g.2)) := by simp [hx]
      have e3 : (x.1, g.2) = x := by rw [← hx]
      rw [e, e3]
      rw [List.append_assoc] at this
      exact this
    · have e : (x :: rest).takeWhile (fun x => decide (x.2 = g.2)) = [] := by simp [hx]
      simp only [spec_BookGuesses.l0_eq, gi_len, gi_elem hp, at_lt hp, e0, c0, gi_f1, hx, gi_list, e, List.append_nil, stk, Int.reduceEq, Nat.reduceEqDiff, Int.reduceLE, Int.reduceLT]
      exact Ev2.now _
theorem specNear_ev (l : List Gi) (hll : l.length ≤ 10) : Ev (fun N => spec_BookGuesses.l0 N N 0 [] (giP l)) [giP (nearM l)] := by
  refine Ev2.diag (g := fun N n => spec_BookGuesses.l0 N n 0 [] (giP l)) ?_
  cases l with
  | nil =>
    refine Ev2.succ ?_
    have c0 : ¬ ((0 : Int) < (([] : List Gi).length : Int)) := by decide
    simp only [spec_BookGuesses.l0_eq, gi_len, c0, stk, Int.reduceEq, Nat.reduceEqDiff, Int.reduceLE, Int.reduceLT]
    exact Ev2.now _
  | cons g r =>
    refine Ev2.succ ?_
    have c0 : (0 : Int) < ((g :: r).length : Int) := by simp <;> omega
    have e0 : (giP (g :: r)).elem 0 = guessP g := rfl
    have wi : IntKind.i64.wrap ((0 : Int) + 1) = ((1 : Nat) : Int) := nat_wrap (by omega) (by omega)
    have z0 : (0 : Int).toNat = 0 := rfl
    have c1 : (0 : Nat) + 1 ≤ 5864062014805 := by omega
    have := specNear_loop (l := g :: r) rfl hll r [g] rfl (by simp)
    simp only [spec_BookGuesses.l0_eq, gi_len, c0, z0, e0, gi_f0, gi_f1, gi_agg, gi_eta, List.length_nil, List.nil_append, c1, wi, stk, Int.reduceEq, Nat.reduceEqDiff, Int.reduceLE, Int.reduceLT]
    exact this
theorem implNear_loop {l : List Gi} {g : Gi} {r : List Gi} (hl : l = g :: r) (hll : l.length ≤ 10) : ∀ (rest pre : List Gi), l = pre ++ rest → 1 ≤ pre.length →
    Ev2 (fun N n => impl_BookGuesses.l0 N n (l.length : Int) (pre.length : Int) (pre.map guessP) (giP l)) [giP (pre ++ rest.takeWhile fun x => decide (x.2 = g.2))] := by
  intro rest
  induction rest with
  | nil =>
    intro pre hp h1
    refine Ev2.succ ?_
    simp only [impl_BookGuesses.l0_eq, gi_len, at_end hp, gi_list, List.takeWhile_nil, List.append_nil, stk, Int.reduceEq, Nat.reduceEqDiff, Int.reduceLE, Int.reduceLT]
    exact Ev2.now _
  | cons x rest ih =>
    intro pre hp h1
    have hpl := at_ltN hp
    obtain ⟨q, pre', rfl⟩ : ∃ q pre', pre = q :: pre' := by
      cases pre with
      | nil => simp at h1
      | cons q p => exact ⟨q, p, rfl⟩
    have hq : q = g := by rw [hl] at hp; injection hp with h1 h2; exact h1.symm
    subst hq
    have c0 : (0 : Int) < ((q :: pre').length : Int) := by simp <;> omega
    have e0 : (giP (q :: pre')).elem 0 = guessP q := rfl
    refine Ev2.succ ?_
    by_cases hx : x.2 = q.2
    · have c1 : (q :: pre').length + 1 ≤ 5864062014805 := by omega
      simp only [impl_BookGuesses.l0_eq, gi_len, gi_elem hp, at_lt hp, c0, gi_list, e0, gi_f0, gi_f1, gi_agg, gi_eta, hx, List.length_map, c1, gi_snoc, at_next hp (by omega), stk, Int.reduceEq, Nat.reduceEqDiff, Int.reduceLE, Int.reduceLT]
      have := ih ((q :: pre') ++ [x]) (at_step hp) (by simp)
      have e : (x :: rest).takeWhile (fun x => decide (x.2 = q.2)) = x :: rest.takeWhile (fun x => decide (x.2 = q.2)) := by simp [hx]
      have e3 : (x.1, q.2) = x := by rw [← hx]
      rw [e, e3]
      rw [List.append_assoc] at this
      exact this
    · have e : (x :: rest).takeWhile (fun x => decide (x.2 = q.2)) = [] := by simp [hx]
      simp only [impl_BookGuesses.l0_eq, gi_len, gi_elem hp, at_lt hp, List.length_map, c0, gi_list, e0, gi_f1, hx, e, List.append_nil, stk, Int.reduceEq, Nat.reduceEqDiff, Int.reduceLE, Int.reduceLT]
      exact Ev2.now _
theorem implNear_ev (l : List Gi) (hll : l.length ≤ 10) : Ev (fun N => impl_BookGuesses.l0 N N (l.length : Int) 0 [] (giP l)) [giP (nearM l)] := by
  refine Ev2.diag (g := fun N n => impl_BookGuesses.l0 N n (l.length : Int) 0 [] (giP l)) ?_
  cases l with
  | nil =>
    refine Ev2.succ ?_
    have c0 : ¬ ((0 : Int) < (([] : List Gi).length : Int)) := by decide
    simp only [impl_BookGuesses.l0_eq, c0, stk, Int.reduceEq, Nat.reduceEqDiff, Int.reduceLE, Int.reduceLT]
    exact Ev2.now _
  | cons g r =>
    refine Ev2.succ ?_
    have c0 : (0 : Int) < ((g :: r).length : Int) := by simp <;> omega
    have c2 : ¬ ((0 : Int) < (([] : List PV).length : Int)) := by decide
    have e0 : (giP (g :: r)).elem 0 = guessP g := rfl
    have wi : IntKind.i64.wrap ((0 : Int) + 1) = ((1 : Nat) : Int) := nat_wrap (by omega) (by omega)
    have z0 : (0 : Int).toNat = 0 := rfl
    have c1 : (0 : Nat) + 1 ≤ 5864062014805 := by omega
    have := implNear_loop (l := g :: r) rfl hll r [g] rfl (by simp)
    simp only [impl_BookGuesses.l0_eq, gi_len, c0, c2, z0, e0, gi_f0, gi_f1, gi_agg, gi_eta, List.length_nil, List.nil_append, c1, wi, stk, Int.reduceEq, Nat.reduceEqDiff, Int.reduceLE, Int.reduceLT]
    exact this
theorem implBookG_ev {af : List Aff} {es : List Ent} (hs : BookS af es) (w : ByteArray) (hw : w.size ≤ 1000000000) : Ev (fun N => impl_BookGuesses.f N [bookP af es, strP w]) [giP (bookG af es w)] := by
  have hok := implBookOk_ev hs
  have hwo := implWord_ev w (by omega)
  simp only [strP] at hwo
  simp only [impl_BookGuesses.f_eq, book_f0, book_f1, book_agg, stk, Int.reduceEq, Nat.reduceEqDiff, Int.reduceLE, Int.reduceLT]
  refine Ev.bind hok ?_
  unfold bookG
  cases hB : bookB af es with
  | false => simp only [stk, Int.reduceEq, Nat.reduceEqDiff, Int.reduceLE, Int.reduceLT]; exact Ev.now _
  | true =>
    have hF := bookB_facts hB
    simp only [stk, Int.reduceEq, Nat.reduceEqDiff, Int.reduceLE, Int.reduceLT]
    refine Ev.bind hwo ?_
    cases hW : isWord w with
    | false => simp only [stk, Int.reduceEq, Nat.reduceEqDiff, Int.reduceLE, Int.reduceLT]; exact Ev.now _
    | true =>
      have hk := implKnows_ev hs hB w
      simp only [strP] at hk
      simp only [stk, Int.reduceEq, Nat.reduceEqDiff, Int.reduceLE, Int.reduceLT]
      refine Ev.bind hk ?_
      by_cases hm : w ∈ bookW af es
      · simp only [hm, stk, Int.reduceEq, Nat.reduceEqDiff, Int.reduceLE, Int.reduceLT]; exact Ev.now _
      · simp only [hm, stk, Int.reduceEq, Nat.reduceEqDiff, Int.reduceLE, Int.reduceLT]
        refine Ev.bind (implBookW_ev hF) ?_
        simp only [stk, Int.reduceEq, Nat.reduceEqDiff, Int.reduceLE, Int.reduceLT]
        have hg := implGuess_ev (bookW_isWord hF) (by have := bookW_len hF; omega) hW
        simp only [strP, intP] at hg
        refine Ev.bind hg ?_
        simp only [gi_len, stk, Int.reduceEq, Nat.reduceEqDiff, Int.reduceLE, Int.reduceLT]
        exact implNear_ev _ (guessL_len _ _)
theorem specBookG_ev {af : List Aff} {es : List Ent} (hs : BookS af es) (w : ByteArray) (hw : w.size ≤ 1000000000) : Ev (fun N => spec_BookGuesses.f N [bookP af es, strP w]) [giP (bookG af es w)] := by
  have hok := specBookOk_ev hs
  have hwo := specWord_ev w (by omega)
  simp only [strP] at hwo
  simp only [spec_BookGuesses.f_eq, book_f0, book_f1, book_agg, stk, Int.reduceEq, Nat.reduceEqDiff, Int.reduceLE, Int.reduceLT]
  refine Ev.bind hok ?_
  unfold bookG
  cases hB : bookB af es with
  | false => simp only [stk, Int.reduceEq, Nat.reduceEqDiff, Int.reduceLE, Int.reduceLT]; exact Ev.now _
  | true =>
    have hF := bookB_facts hB
    simp only [stk, Int.reduceEq, Nat.reduceEqDiff, Int.reduceLE, Int.reduceLT]
    refine Ev.bind hwo ?_
    cases hW : isWord w with
    | false => simp only [stk, Int.reduceEq, Nat.reduceEqDiff, Int.reduceLE, Int.reduceLT]; exact Ev.now _
    | true =>
      have hlen := bookW_len hF
      simp only [stk, Int.reduceEq, Nat.reduceEqDiff, Int.reduceLE, Int.reduceLT]
      refine Ev.bind (bookW_ok hF) ?_
      simp only [stk, Int.reduceEq, Nat.reduceEqDiff, Int.reduceLE, Int.reduceLT]
      refine Ev.bind (l2In_ev (ws := bookW af es) (by omega) w) ?_
      by_cases hm : w ∈ bookW af es
      · simp only [hm, stk, Int.reduceEq, Nat.reduceEqDiff, Int.reduceLE, Int.reduceLT]; exact Ev.now _
      · simp only [hm, stk, Int.reduceEq, Nat.reduceEqDiff, Int.reduceLE, Int.reduceLT]
        refine Ev.bind (bookW_ok hF) ?_
        simp only [stk, Int.reduceEq, Nat.reduceEqDiff, Int.reduceLE, Int.reduceLT]
        have hg := specGuess_ev (bookW_isWord hF) (by omega) hW
        simp only [strP, intP] at hg
        refine Ev.bind hg ?_
        simp only [stk, Int.reduceEq, Nat.reduceEqDiff, Int.reduceLE, Int.reduceLT]
        exact specNear_ev _ (guessL_len _ _)
theorem asc_nodup {l : List ByteArray} (h : ascB l) : l.Nodup := by
  unfold ascB at h
  rw [List.pairwise_map] at h
  exact h.imp (fun h he => by rw [he] at h; exact ll_irrefl _ h)
theorem nearM_sub : ∀ l : List Gi, (nearM l).Sublist l
  | [] => List.Sublist.refl _
  | g :: r => (List.takeWhile_sublist _).cons_cons g
theorem bookG_facts {af : List Aff} {es : List Ent} {w : ByteArray} : (bookG af es w).length ≤ 10 ∧ ((bookG af es w).map Prod.fst).Nodup ∧ ∀ g ∈ bookG af es w, isWord g.1 = true ∧ isWord w = true := by
  unfold bookG
  split
  · rename_i h
    have hF := bookB_facts h.1
    have hsub : ((nearM (guessL (bookW af es) w)).map Prod.fst).Sublist ((sortG (hitsM (bookW af es) w)).map Prod.fst) := ((nearM_sub _).trans (List.take_sublist _ _)).map _
    have hperm : ((sortG (hitsM (bookW af es) w)).map Prod.fst).Perm ((bookW af es).filter (hitB w)) := by
      refine ((sortG_perm _).map _).trans ?_
      unfold hitsM
      rw [List.map_map]
      exact List.Perm.of_eq (by simp [Function.comp_def])
    refine ⟨Nat.le_trans (nearM_sub _).length_le (guessL_len _ _), ?_, fun g hg => ⟨?_, h.2.1⟩⟩
    · exact hsub.nodup (hperm.nodup_iff.2 ((asc_nodup (bookW_asc af es)).filter _))
    · have h1 : g.1 ∈ (bookW af es).filter (hitB w) := hperm.mem_iff.1 (hsub.subset (List.mem_map_of_mem hg))
      exact bookW_isWord hF _ (List.mem_filter.1 h1).1
  · simp
def gEnd (g : Gs) : Nat := g.2 + g.1.size
theorem lowerM_size (s : ByteArray) : (lowerM s).size = s.size := by rw [← bytesOf_len, lowerM_bytes, List.length_map, bytesOf_len]
theorem item_pos {W : List ByteArray} {s : ByteArray} {a e : Nat} (h : a ≤ e) (he : e ≤ s.size) : ∀ g ∈ itemM W s a e, g.2 = a ∧ gEnd g = e := fun g hg => by
  unfold itemM at hg
  split at hg
  · cases hg
  · rw [List.mem_singleton.1 hg]
    refine ⟨rfl, ?_⟩
    show a + (lowerM (s.extract a e)).size = e
    rw [lowerM_size, ByteArray.size_extract]; omega
theorem chk_pos (W : List ByteArray) (s : ByteArray) : ∀ (l : List Int) (i : Nat) (p : Bool), i + l.length = s.size →
    (∀ g ∈ chkM W s l i p, i + (if p = true then runLen l else 0) ≤ g.2 ∧ gEnd g ≤ s.size) ∧ (chkM W s l i p).Pairwise (fun x y => gEnd x ≤ y.2)
  | [], i, p, _ => by simp [chkM]
  | c :: r, i, p, h => by
    have hr : i + 1 + r.length = s.size := by simp at h; omega
    have h1 := chk_pos W s r (i + 1) true hr
    have h2 := chk_pos W s r (i + 1) false hr
    have hl := runLen_le r
    rw [chkM]
    split
    · rename_i hc
      have hrun : runLen (c :: r) = runLen r + 1 := by rw [runLen, if_pos hc]
      split
      · rename_i hp
        refine ⟨fun g hg => ?_, h1.2⟩
        obtain ⟨a1, a2⟩ := h1.1 g hg
        rw [if_pos rfl] at a1
        rw [hrun]
        exact ⟨by omega, a2⟩
      · rename_i hp
        have hit := item_pos (W := W) (s := s) (a := i) (e := i + 1 + runLen r) (by omega) (by omega)
        refine ⟨fun g hg => ?_, ?_⟩
        · rcases List.mem_append.1 hg with hg | hg
          · obtain ⟨a1, a2⟩ := hit g hg
            exact ⟨by omega, by omega⟩
          · obtain ⟨a1, a2⟩ := h1.1 g hg
            exact ⟨by omega, a2⟩
        · rw [List.pairwise_append]
          refine ⟨?_, h1.2, fun x hx y hy => ?_⟩
          · have := item_len W s i (i + 1 + runLen r)
            cases hI : itemM W s i (i + 1 + runLen r) with
            | nil => exact List.Pairwise.nil
            | cons a t =>
              rw [hI] at this
              have ht : t = [] := List.eq_nil_of_length_eq_zero (by rw [List.length_cons] at this; omega)
              rw [ht]; exact List.pairwise_singleton _ _
          · obtain ⟨a1, a2⟩ := hit x hx
            obtain ⟨b1, b2⟩ := h1.1 y hy
            rw [if_pos rfl] at b1
            omega
    · rename_i hc
      have hrun : runLen (c :: r) = 0 := by rw [runLen, if_neg hc]
      refine ⟨fun g hg => ?_, h2.2⟩
      obtain ⟨a1, a2⟩ := h2.1 g hg
      rw [hrun]
      split <;> exact ⟨by omega, a2⟩
theorem userR_pos (own : List ByteArray) (af : List Aff) (es : List Ent) (s : ByteArray) : (∀ g ∈ userR own af es s, gEnd g ≤ s.size) ∧ (userR own af es s).Pairwise (fun x y => gEnd x ≤ y.2) := by
  have hck : (∀ g ∈ checkR af es s, gEnd g ≤ s.size) ∧ (checkR af es s).Pairwise (fun x y => gEnd x ≤ y.2) := by
    unfold checkR
    split
    · have := chk_pos (bookW af es) s (bytesOf s) 0 false (by rw [bytesOf_len]; omega)
      exact ⟨fun g hg => (this.1 g hg).2, this.2⟩
    · simp
  unfold userR
  split
  · exact ⟨fun g hg => hck.1 g (List.mem_filter.1 hg).1, hck.2.filter _⟩
  · simp
theorem BA_ext {a b : ByteArray} (h : a.data.toList = b.data.toList) : a = b := by cases a; cases b; simp at h; simp [h]
theorem bext_app (t : ByteArray) {a b c : Nat} (h1 : a ≤ b) (h2 : b ≤ c) : t.extract a b ++ t.extract b c = t.extract a c := by
  apply BA_ext
  simp only [ByteArray.data_append, Array.toList_append, ByteArray.data_extract, Array.toList_extract, List.extract_eq_take_drop]
  have e1 : c - a = (b - a) + (c - b) := by omega
  have e2 : t.data.toList.drop b = (t.data.toList.drop a).drop (b - a) := by rw [List.drop_drop]; congr 1; omega
  rw [e1, List.take_add, e2]
theorem bapp_ext0 (a b : ByteArray) : (a ++ b).extract 0 a.size = a := by
  apply BA_ext
  simp only [ByteArray.data_append, ByteArray.data_extract, Array.toList_extract, Array.toList_append, List.extract_eq_take_drop, List.drop_zero, Nat.sub_zero]
  rw [List.take_left' (by simp)]
theorem bapp_ext1 (a b : ByteArray) : (a ++ b).extract a.size (a ++ b).size = b := by
  have hz : (a ++ b).size = a.size + b.size := ByteArray.size_append
  apply BA_ext
  simp only [ByteArray.data_append, ByteArray.data_extract, Array.toList_extract, Array.toList_append, List.extract_eq_take_drop]
  rw [List.drop_left' (by simp), hz]
  have e : a.size + b.size - a.size = b.size := by omega
  rw [e]
  exact List.take_of_length_le (by simp)
theorem bapp_assoc (a b c : ByteArray) : a ++ b ++ c = a ++ (b ++ c) := by
  apply BA_ext; simp [ByteArray.data_append]
theorem bapp_pre (t F : ByteArray) {a b e : Nat} (h1 : b ≤ e) (h2 : e ≤ t.size) : (t.extract 0 e ++ F).extract a b = t.extract a b := by
  apply BA_ext
  have hl : t.data.toList.length = t.size := by simp
  simp only [ByteArray.data_append, Array.toList_append, ByteArray.data_extract, Array.toList_extract, List.extract_eq_take_drop, List.drop_zero, Nat.sub_zero]
  rw [← List.drop_take, ← List.drop_take, List.take_append_of_le_length (by rw [List.length_take]; omega), List.take_take, Nat.min_eq_left h1]
theorem bext_size {t : ByteArray} {a b : Nat} (h1 : a ≤ b) (h2 : b ≤ t.size) : (t.extract a b).size = b - a := by rw [ByteArray.size_extract]; omega
section
variable (af : List Aff) (es : List Ent) (t : ByteArray)
def oneG (g : Gs) : Option ByteArray := match bookG af es g.1 with
  | [x] => some x.1
  | _ => none
def fixL : List Gs → Nat → ByteArray
  | [], a => t.extract a t.size
  | g :: r, a => match oneG af es g with
    | some x => t.extract a g.2 ++ likeM x (t.extract g.2 (gEnd g)) ++ fixL r (gEnd g)
    | none => fixL r a
end
theorem fix_cut {af : List Aff} {es : List Ent} {t : ByteArray} : ∀ (l : List Gs) (a b : Nat), a ≤ b → b ≤ t.size → (∀ g ∈ l, b ≤ g.2 ∧ gEnd g ≤ t.size) → fixL af es t l a = t.extract a b ++ fixL af es t l b
  | [], a, b, h1, h2, _ => by rw [fixL, fixL, bext_app t h1 h2]
  | g :: r, a, b, h1, h2, h => by
    obtain ⟨h3, h4⟩ := h g (by simp)
    rw [fixL, fixL]
    split
    · rw [← bext_app t h1 h3, bapp_assoc, bapp_assoc, bapp_assoc]
    · exact fix_cut r a b h1 h2 (fun x hx => h x (by simp [hx]))
theorem oneG_some {af : List Aff} {es : List Ent} {g : Gs} {x : ByteArray} (h : oneG af es g = some x) : ∃ n, bookG af es g.1 = [(x, n)] ∧ isWord x = true := by
  unfold oneG at h
  split at h
  · rename_i y hy
    injection h with h
    subst h
    exact ⟨y.2, hy, ((bookG_facts (af := af) (es := es) (w := g.1)).2.2 y (by rw [hy]; simp)).1⟩
  · cases h
theorem oneG_none {af : List Aff} {es : List Ent} {g : Gs} (h : oneG af es g = none) : (bookG af es g.1).length ≠ 1 := by
  unfold oneG at h
  intro h1
  match hb : bookG af es g.1, h1 with
  | [x], _ => rw [hb] at h; cases h
theorem likeM_size {w like : ByteArray} (h : isWord w = true) : (likeM w like).size = w.size := by
  obtain ⟨h1, h2, -⟩ := isWord_low h
  have hf : (firstM w).size = w.size := by
    unfold firstM
    rw [ByteArray.size_append, upperM_size, ByteArray.size_extract, ByteArray.size_extract]; omega
  unfold likeM
  rw [if_pos h]
  split
  · exact hf
  · split
    · exact upperM_size w
    · rfl
def moreI (af : List Aff) (es : List Ent) : List Gs → Int
  | [] => 0
  | g :: r => (match oneG af es g with | some x => (x.size : Int) - (g.1.size : Int) | none => 0) + moreI af es r
theorem fix_size {af : List Aff} {es : List Ent} {t : ByteArray} : ∀ (l : List Gs) (a : Nat), a ≤ t.size → (∀ g ∈ l, a ≤ g.2 ∧ gEnd g ≤ t.size) → l.Pairwise (fun x y => gEnd x ≤ y.2) → ((fixL af es t l a).size : Int) = (t.size : Int) - (a : Int) + moreI af es l
  | [], a, h1, _, _ => by rw [fixL, bext_size h1 (Nat.le_refl _), moreI]; omega
  | g :: r, a, h1, h, hp => by
    obtain ⟨h3, h4⟩ := h g (by simp)
    rw [List.pairwise_cons] at hp
    have h5 : gEnd g = g.2 + g.1.size := rfl
    rw [fixL, moreI]
    cases ho : oneG af es g with
    | none =>
      have := fix_size (af := af) (es := es) r a h1 (fun x hx => h x (by simp [hx])) hp.2
      simp only [this]; omega
    | some x =>
      obtain ⟨n, -, hw⟩ := oneG_some ho
      have := fix_size (af := af) (es := es) r (gEnd g) h4 (fun x hx => ⟨hp.1 x hx, (h x (by simp [hx])).2⟩) hp.2
      simp only [ByteArray.size_append, likeM_size hw]
      rw [bext_size h3 (by omega)]
      omega
theorem more_bound {af : List Aff} {es : List Ent} : ∀ (l : List Gs), (∀ g ∈ l, g.1.size ≤ 1000000) → -(1000000 * (l.length : Int)) ≤ moreI af es l ∧ moreI af es l ≤ 1000000 * (l.length : Int)
  | [], _ => by simp [moreI]
  | g :: r, h => by
    have h1 := more_bound (af := af) (es := es) r (fun x hx => h x (by simp [hx]))
    have h2 := h g (by simp)
    rw [moreI, List.length_cons]
    cases ho : oneG af es g with
    | none => simp only []; omega
    | some x =>
      obtain ⟨n, -, hw⟩ := oneG_some ho
      obtain ⟨z1, z2, -⟩ := isWord_low hw
      simp only []; omega
theorem implFix_loop {af : List Aff} {es : List Ent} (hs : BookS af es) {t : ByteArray} (ht : t.size ≤ 1000000) {L : List Gs} (hL : L.length ≤ 1000) (hb : ∀ g ∈ L, gEnd g ≤ t.size) (hpw : L.Pairwise (fun x y => gEnd x ≤ y.2)) :
    ∀ (n : Nat) (pre rest : List Gs), pre.length = n → L = pre ++ rest → Ev2 (fun N m => impl_FixText.l0 N m (fixL af es t rest 0) ((n : Int) - 1) (affsP af) (entsP es) (gsP L)) [strP (fixL af es t L 0)] := by
  intro n
  induction n with
  | zero =>
    intro pre rest hn hp
    have : pre = [] := List.eq_nil_of_length_eq_zero hn
    subst this
    have hr : rest = L := by rw [hp]; rfl
    subst hr
    have c0 : ¬ ((0 : Int) ≤ ((0 : Nat) : Int) - 1) := by omega
    refine Ev2.succ ?_
    simp only [impl_FixText.l0_eq, c0, stk, Int.reduceEq, Nat.reduceEqDiff, Int.reduceLE, Int.reduceLT]
    exact Ev2.now _
  | succ n ih =>
    intro pre rest hn hp
    rcases List.eq_nil_or_concat pre with rfl | ⟨pre', g, hpp⟩
    · simp at hn
    rw [List.concat_eq_append] at hpp
    subst hpp
    have hn' : pre'.length = n := by simp at hn; exact hn
    have hp' : L = pre' ++ g :: rest := by rw [hp]; simp
    have hpl := at_ltN hp'
    have e1 : ((n + 1 : Nat) : Int) - 1 = (pre'.length : Int) := by omega
    have w1 : IntKind.i64.wrap ((pre'.length : Int) - 1) = (n : Int) - 1 := by rw [wrap_id (by omega) (by omega), hn']
    have hg := hb g (by rw [hp']; simp)
    have hge : gEnd g = g.2 + g.1.size := rfl
    have hpr : (∀ y ∈ rest, gEnd g ≤ y.2) ∧ rest.Pairwise (fun x y => gEnd x ≤ y.2) := by
      rw [hp'] at hpw
      exact List.pairwise_cons.1 (List.pairwise_append.1 hpw).2.1
    have hbr : ∀ y ∈ rest, gEnd g ≤ y.2 ∧ gEnd y ≤ t.size := fun y hy => ⟨hpr.1 y hy, hb y (by rw [hp']; simp [hy])⟩
    have hbg := implBookG_ev hs g.1 (by omega)
    simp only [strP] at hbg
    have hnext := ih pre' (g :: rest) hn' hp'
    have hcut := fix_cut (af := af) (es := es) (t := t) rest 0 (gEnd g) (Nat.zero_le _) hg hbr
    refine Ev2.succ ?_
    rw [e1]
    simp only [impl_FixText.l0_eq, gs_len, gs_elem hp', at_lt hp', g_f0, g_f1, book_agg, stk, Int.reduceEq, Nat.reduceEqDiff, Int.reduceLE, Int.reduceLT]
    refine Ev2.bind hbg ?_
    rw [fixL] at hnext
    cases ho : oneG af es g with
    | none =>
      have h1 := oneG_none ho
      have c1 : ¬ (((bookG af es g.1).length : Int) = 1) := by omega
      rw [ho] at hnext
      simp only [gi_len, c1, w1, stk, Int.reduceEq, Nat.reduceEqDiff, Int.reduceLE, Int.reduceLT]
      exact hnext
    | some x =>
      obtain ⟨k, hk, hw⟩ := oneG_some ho
      obtain ⟨z1, z2, -⟩ := isWord_low hw
      rw [ho] at hnext
      simp only [] at hnext
      have hsz := fix_size (af := af) (es := es) (t := t) rest (gEnd g) hg hbr hpr.2
      have hmb := more_bound (af := af) (es := es) rest (fun y hy => by have := (hbr y hy).2; have h2 : gEnd y = y.2 + y.1.size := rfl; omega)
      have hF : (fixL af es t rest (gEnd g)).size ≤ 2000000000 := by
        have : rest.length ≤ 1000 := by rw [hp'] at hL; simp at hL; omega
        omega
      generalize hFF : fixL af es t rest (gEnd g) = F at hF hcut hnext
      have hE : (t.extract 0 (gEnd g)).size = gEnd g := by rw [bext_size (Nat.zero_le _) hg]; omega
      have hX : (t.extract 0 (gEnd g) ++ F).size = gEnd g + F.size := by rw [ByteArray.size_append, hE]
      have x1 : (t.extract 0 (gEnd g) ++ F).extract 0 g.2 = t.extract 0 g.2 := bapp_pre t F (by omega) hg
      have x2 : (t.extract 0 (gEnd g) ++ F).extract g.2 (gEnd g) = t.extract g.2 (gEnd g) := bapp_pre t F (Nat.le_refl _) hg
      have x3 : (t.extract 0 (gEnd g) ++ F).extract (gEnd g) (t.extract 0 (gEnd g) ++ F).size = F := by
        have := bapp_ext1 (t.extract 0 (gEnd g)) F
        rw [hE] at this; exact this
      have w2 : IntKind.i64.wrap ((g.2 : Int) + (g.1.size : Int)) = (gEnd g : Int) := by rw [wrap_id (by omega) (by omega)]; omega
      have c1 : (((bookG af es g.1).length : Int) = 1) := by rw [hk]; rfl
      have c2 : (g.2 : Int) ≤ ((t.extract 0 (gEnd g) ++ F).size : Int) := by rw [hX]; omega
      have c3 : (g.2 : Int) ≤ (gEnd g : Int) := by omega
      have c4 : (gEnd g : Int) ≤ ((t.extract 0 (gEnd g) ++ F).size : Int) := by rw [hX]; omega
      have c0 : (0 : Int) < ((bookG af es g.1).length : Int) := by omega
      have e0 : ((giP (bookG af es g.1)).elem 0) = guessP (x, k) := by rw [hk]; rfl
      have s1 : (t.extract 0 g.2).size = g.2 := by rw [bext_size (Nat.zero_le _) (by omega)]; omega
      have s2 := likeM_size (like := t.extract g.2 (gEnd g)) hw
      have c5 : (t.extract 0 g.2).size + (likeM x (t.extract g.2 (gEnd g))).size ≤ 9223372036854775807 := by omega
      have c6 : (t.extract 0 g.2 ++ likeM x (t.extract g.2 (gEnd g))).size + F.size ≤ 9223372036854775807 := by rw [ByteArray.size_append]; omega
      have hlk := implLike_ev x (t.extract g.2 (gEnd g)) (by omega) (by rw [ByteArray.size_extract]; omega)
      simp only [strP] at hlk
      rw [hcut]
      generalize hXX : t.extract 0 (gEnd g) ++ F = X at *
      simp only [gi_len, c1, c0, e0, gi_f0, w2, c2, c3, c4, x1, x2, stk, Int.reduceEq, Nat.reduceEqDiff, Int.reduceLE, Int.reduceLT]
      refine Ev2.bind hlk ?_
      simp only [c5, w1, x3, c6, stk, Int.reduceEq, Nat.reduceEqDiff, Int.reduceLE, Int.reduceLT]
      exact hnext
theorem implFix_ev {own : List ByteArray} {af : List Aff} {es : List Ent} (hs : BookS af es) (hown : WordsB own 200) {t : ByteArray} (ht : t.size ≤ 1000000) : Ev (fun N => impl_FixText.f N [bookP af es, strsP own, strP t]) [strP (fixL af es t (userR own af es t) 0)] := by
  obtain ⟨h1, h2⟩ := userR_pos own af es t
  have hl := userR_len own af es t
  have hu := implUser_ev (own := own) (by have := hown.n; omega) (fun x hx => by have := hown.s x hx; omega) hs t
  simp only [impl_FixText.f_eq, book_f0, book_f1, book_agg, stk, Int.reduceEq, Nat.reduceEqDiff, Int.reduceLE, Int.reduceLT]
  refine Ev.bind hu ?_
  generalize userR own af es t = L at *
  have w1 : IntKind.i64.wrap ((L.length : Int) - 1) = (L.length : Int) - 1 := wrap_id (by omega) (by omega)
  have e0 : fixL af es t [] 0 = t := by
    rw [fixL]
    have := bapp_ext1 ⟨#[]⟩ t
    apply BA_ext
    simp [ByteArray.data_extract, List.extract_eq_take_drop]
  have := implFix_loop hs ht (L := L) (by omega) h1 h2 L.length L [] rfl (by simp)
  rw [e0] at this
  simp only [gs_len, w1, stk, Int.reduceEq, Nat.reduceEqDiff, Int.reduceLE, Int.reduceLT]
  exact this.diag
theorem specFix_loop {af : List Aff} {es : List Ent} (hs : BookS af es) {t : ByteArray} (ht : t.size ≤ 1000000) {L : List Gs} (hL : L.length ≤ 1000) (hb : ∀ g ∈ L, gEnd g ≤ t.size) (hpw : L.Pairwise (fun x y => gEnd x ≤ y.2)) :
    ∀ (rest pre : List Gs) (out : ByteArray) (a : Nat), L = pre ++ rest → a ≤ t.size → (∀ g ∈ rest, a ≤ g.2) → out.size ≤ 100000 * pre.length + a → Ev2 (fun N m => spec_FixText.l0 N m t out (a : Int) (pre.length : Int) (affsP af) (entsP es) (gsP L)) [strP (out ++ fixL af es t rest a)] := by
  intro rest
  induction rest with
  | nil =>
    intro pre out a hp ha hr ho
    have hpl : pre.length = L.length := by rw [hp]; simp
    have c1 : (a : Int) ≤ (t.size : Int) := by omega
    have c2 : out.size + (t.extract a t.size).size ≤ 9223372036854775807 := by rw [ByteArray.size_extract]; omega
    refine Ev2.succ ?_
    simp only [spec_FixText.l0_eq, gs_len, at_end hp, c1, c2, fixL, stk, Int.reduceEq, Nat.reduceEqDiff, Int.reduceLE, Int.reduceLT]
    exact Ev2.now _
  | cons g rest ih =>
    intro pre out a hp ha hr ho
    have hpl := at_ltN hp
    have hg := hb g (by rw [hp]; simp)
    have hge : gEnd g = g.2 + g.1.size := rfl
    have hag := hr g (by simp)
    have hpr : (∀ y ∈ rest, gEnd g ≤ y.2) := by
      rw [hp] at hpw
      exact (List.pairwise_cons.1 (List.pairwise_append.1 hpw).2.1).1
    have hbg := specBookG_ev hs g.1 (by omega)
    simp only [strP] at hbg
    have hlp : (pre ++ [g]).length = pre.length + 1 := by simp
    refine Ev2.succ ?_
    simp only [spec_FixText.l0_eq, gs_len, gs_elem hp, at_lt hp, g_f0, g_f1, book_agg, stk, Int.reduceEq, Nat.reduceEqDiff, Int.reduceLE, Int.reduceLT]
    refine Ev2.bind hbg ?_
    rw [fixL]
    cases hoo : oneG af es g with
    | none =>
      have h1 := oneG_none hoo
      have c1 : ¬ (((bookG af es g.1).length : Int) = 1) := by omega
      simp only [gi_len, c1, at_next hp (by omega), stk, Int.reduceEq, Nat.reduceEqDiff, Int.reduceLE, Int.reduceLT]
      exact ih _ out a (at_step hp) ha (fun y hy => by have := hr y (by simp [hy]); omega) (by omega)
    | some x =>
      obtain ⟨k, hk, hw⟩ := oneG_some hoo
      obtain ⟨z1, z2, -⟩ := isWord_low hw
      have w2 : IntKind.i64.wrap ((g.2 : Int) + (g.1.size : Int)) = (gEnd g : Int) := by rw [wrap_id (by omega) (by omega)]; omega
      have c1 : (((bookG af es g.1).length : Int) = 1) := by rw [hk]; rfl
      have c0 : (0 : Int) < ((bookG af es g.1).length : Int) := by omega
      have e0 : ((giP (bookG af es g.1)).elem 0) = guessP (x, k) := by rw [hk]; rfl
      have s1 : (t.extract a g.2).size = g.2 - a := bext_size hag (by omega)
      have s2 := likeM_size (like := t.extract g.2 (gEnd g)) hw
      have c2 : (a : Int) ≤ (g.2 : Int) := by omega
      have c3 : (g.2 : Int) ≤ (t.size : Int) := by omega
      have c4 : out.size + (t.extract a g.2).size ≤ 9223372036854775807 := by omega
      have c5 : (g.2 : Int) ≤ (gEnd g : Int) := by omega
      have c6 : (gEnd g : Int) ≤ (t.size : Int) := by omega
      have hoz : (out ++ t.extract a g.2).size = out.size + (g.2 - a) := by rw [ByteArray.size_append, s1]
      have c7 : (out ++ t.extract a g.2).size + (likeM x (t.extract g.2 (gEnd g))).size ≤ 9223372036854775807 := by omega
      have hlk := specLike_ev x (t.extract g.2 (gEnd g)) (by omega) (by rw [ByteArray.size_extract]; omega)
      simp only [strP] at hlk
      simp only [gi_len, c1, c0, e0, gi_f0, w2, c2, c3, c4, c5, c6, stk, Int.reduceEq, Nat.reduceEqDiff, Int.reduceLE, Int.reduceLT]
      refine Ev2.bind hlk ?_
      simp only [c7, at_next hp (by omega), stk, Int.reduceEq, Nat.reduceEqDiff, Int.reduceLE, Int.reduceLT]
      have := ih _ (out ++ t.extract a g.2 ++ likeM x (t.extract g.2 (gEnd g))) (gEnd g) (at_step hp) hg hpr (by rw [ByteArray.size_append]; omega)
      refine Ev2.ext this ?_
      rw [bapp_assoc, bapp_assoc, bapp_assoc]
theorem specFix_ev {own : List ByteArray} {af : List Aff} {es : List Ent} (hs : BookS af es) (hown : WordsB own 200) {t : ByteArray} (ht : t.size ≤ 1000000) : Ev (fun N => spec_FixText.f N [bookP af es, strsP own, strP t]) [strP (fixL af es t (userR own af es t) 0)] := by
  obtain ⟨h1, h2⟩ := userR_pos own af es t
  have hl := userR_len own af es t
  have hu := specUser_ev (own := own) (by have := hown.n; omega) (fun x hx => by have := hown.s x hx; omega) hs t
  simp only [spec_FixText.f_eq, book_f0, book_f1, book_agg, stk, Int.reduceEq, Nat.reduceEqDiff, Int.reduceLE, Int.reduceLT]
  refine Ev.bind hu ?_
  generalize userR own af es t = L at *
  have he : (⟨#[]⟩ : ByteArray) ++ fixL af es t L 0 = fixL af es t L 0 := by apply BA_ext; simp [ByteArray.data_append]
  have := specFix_loop hs ht (L := L) (by omega) h1 h2 L [] ⟨#[]⟩ 0 rfl (Nat.zero_le _) (fun g hg => Nat.zero_le _) (Nat.zero_le _)
  rw [he] at this
  simp only [stk, Int.reduceEq, Nat.reduceEqDiff, Int.reduceLE, Int.reduceLT]
  exact this.diag
theorem fix_l0 {b : PV} (hb : Code1 b) {af : List Aff} {es : List Ent} (hD : BookD af es) : ∀ (c p : Nat) (x : ByteArray), p + 1000 * c < 300000000 → x.size + 100 * c ≤ 10000 →
    ∃ (s : ByteArray) (own : List ByteArray), s.size ≤ 100000 ∧ WordsB own 200 ∧ Ev2 (fun N n => spec_DrawFixText.l0 N n x (c : Int) b (p : Int) (affsP af) (entsP es)) [bookP af es, strsP own, strP s] := by
  intro c
  induction c with
  | zero =>
    intro p x hp hx
    have h0 : ¬ (0 : Int) < ((0 : Nat) : Int) := by omega
    obtain ⟨r, q, a1, a2, a3⟩ := own_ev hb p (by omega)
    refine ⟨x, r, by omega, a2, Ev2.succ ?_⟩
    simp only [spec_DrawFixText.l0_eq, h0, rd_agg, book_agg, stk, Int.reduceEq, Nat.reduceEqDiff, Int.reduceLE, Int.reduceLT]
    refine Ev2.bind a3 ?_
    simp only [stk, Int.reduceEq, Nat.reduceEqDiff, Int.reduceLE, Int.reduceLT]
    exact Ev2.now _
  | succ c ih =>
    intro p x hp hx
    have h0 : (0 : Int) < ((c + 1 : Nat) : Int) := by omega
    have w1 : IntKind.i64.wrap (((c + 1 : Nat) : Int) - 1) = (c : Int) := nat_wrap (by omega) (by omega)
    obtain ⟨y, q1, y1, y2, y3⟩ := l13Of_ev hb hD p (by omega)
    obtain ⟨y', q2, z1, z2, z3⟩ := other_ev hb q1 (by omega) y (by omega)
    obtain ⟨u, q3, u1, u2, u3⟩ := l13Of_ev hb hD q2 (by omega)
    have hup := specUpper_ev u (by omega)
    have hus := upperM_size u
    obtain ⟨z, q4, v1, v2, v3, v4⟩ := word_ev hb q3 (by omega)
    simp only [strP] at z3 hup
    obtain ⟨L1, hL1⟩ : ∃ L1, L1 = [y', upperM u, z] := ⟨_, rfl⟩
    have e1 : PV.list [PV.sc (.string y'), PV.sc (.string (upperM u)), PV.sc (.string z)] = strsP L1 := by rw [hL1]; rfl
    have hsz1 : ∀ s ∈ L1, s.size ≤ 20 := fun s hs => by
      rw [hL1] at hs
      simp only [List.mem_cons, List.not_mem_nil, or_false] at hs
      rcases hs with rfl | rfl | rfl <;> omega
    obtain ⟨k, hk, hf1⟩ := of_ev hb (p := (q4 : Int)) (by omega) L1 (by rw [hL1]; simp)
    have hks := hsz1 k hk
    have hq2 : (q4 : Int) + 1 = ((q4 + 1 : Nat) : Int) := by omega
    rw [hq2] at hf1
    obtain ⟨v, hv, hf2⟩ := of_ev hb (p := ((q4 + 1 : Nat) : Int)) (by omega) [ByteArray.mk #[32], ByteArray.mk #[46, 32], ByteArray.mk #[49]] (by simp)
    have hvs : v.size ≤ 2 := (szs_in (l := [ByteArray.mk #[32], ByteArray.mk #[46, 32], ByteArray.mk #[49]]) (a := 0) (b := 2) rfl v hv).2
    have hq3 : ((q4 + 1 : Nat) : Int) + 1 = ((q4 + 2 : Nat) : Int) := by omega
    rw [hq3] at hf2
    have e2 : PV.list [PV.sc (.string (ByteArray.mk #[32])), PV.sc (.string (ByteArray.mk #[46, 32])), PV.sc (.string (ByteArray.mk #[49]))] = strsP [ByteArray.mk #[32], ByteArray.mk #[46, 32], ByteArray.mk #[49]] := rfl
    have zx : (x ++ k).size = x.size + k.size := ByteArray.size_append
    have zx2 : (x ++ k ++ v).size = (x ++ k).size + v.size := ByteArray.size_append
    have c1 : (x.size + k.size ≤ 9223372036854775807) = True := tru (by omega)
    have c2 : ((x ++ k).size + v.size ≤ 9223372036854775807) = True := tru (by omega)
    obtain ⟨s, own, r1, r2, r3⟩ := ih (q4 + 2) (x ++ k ++ v) (by omega) (by omega)
    refine ⟨s, own, r1, r2, Ev2.succ ?_⟩
    simp only [spec_DrawFixText.l0_eq, h0, rd_agg, book_agg, stk, Int.reduceEq, Nat.reduceEqDiff, Int.reduceLE, Int.reduceLT]
    refine Ev2.bind y3 ?_
    simp only [rd_f1, rd_agg, stk, Int.reduceEq, Nat.reduceEqDiff, Int.reduceLE, Int.reduceLT]
    refine Ev2.bind z3 ?_
    simp only [rd_f1, rd_agg, stk, Int.reduceEq, Nat.reduceEqDiff, Int.reduceLE, Int.reduceLT]
    refine Ev2.bind u3 ?_
    simp only [rd_f1, rd_agg, stk, Int.reduceEq, Nat.reduceEqDiff, Int.reduceLE, Int.reduceLT]
    refine Ev2.bind hup ?_
    simp only [stk, Int.reduceEq, Nat.reduceEqDiff, Int.reduceLE, Int.reduceLT]
    refine Ev2.bind v4 ?_
    simp only [rd_f1, rd_agg, e1, hf1, c1, e2, hf2, c2, w1, stk, Int.reduceEq, Nat.reduceEqDiff, Int.reduceLE, Int.reduceLT]
    exact r3
theorem drawFix_ev {l : List PV} (hl : l.length ≤ 1048576) (hby : ∀ j, 0 ≤ ((PV.list l).elem j).toInt ∧ ((PV.list l).elem j).toInt ≤ 255) :
    ∃ (af : List Aff) (es : List Ent) (own : List ByteArray) (s : ByteArray), BookD af es ∧ WordsB own 200 ∧ s.size ≤ 100000 ∧ Ev (fun N => spec_DrawFixText.f N [PV.list l]) [bookP af es, strsP own, strP s] := by
  obtain ⟨b, hb, hop⟩ := open_ev hl hby
  obtain ⟨af, es, q0, a1, hD, a3⟩ := anyBook_ev hb 0 (by omega)
  simp only [Int.natCast_zero] at a3
  obtain ⟨k, hk, hf⟩ := pick_ev hb (p := (q0 : Int)) (n := 5) (by omega) (by omega)
  obtain ⟨k, rfl⟩ := Int.eq_ofNat_of_zero_le hk.1
  have hq0 : (q0 : Int) + 1 = ((q0 + 1 : Nat) : Int) := by omega
  rw [hq0] at hf
  obtain ⟨s, own, r1, r2, r3⟩ := fix_l0 hb hD k (q0 + 1) ⟨#[]⟩ (by omega) (by have : (⟨#[]⟩ : ByteArray).size = 0 := rfl; omega)
  refine ⟨af, es, own, s, hD, r2, r1, ?_⟩
  simp only [spec_DrawFixText.f_eq, hop, rd_f0, rd_f1, rd_agg, stk, Int.reduceEq, Nat.reduceEqDiff, Int.reduceLE, Int.reduceLT]
  refine Ev.bind a3 ?_
  simp only [rd_f0, rd_f1, rd_agg, book_f0, book_f1, hf, stk, Int.reduceEq, Nat.reduceEqDiff, Int.reduceLE, Int.reduceLT]
  exact r3.diag
theorem law (ps : List PV) (h : PvOkL (PvOk Tryz.prog 8) [22] ps) : ∃ N, laws_FnFixText.f N ps = some [boolP true] := by
  obtain ⟨l, rfl, hby⟩ := code_args (P := Tryz.prog) (t := 22) (e := 5) (by kernel_rfl) (by kernel_rfl) h
  refine Ev.some ?_
  have hit : (PV.list l).items = l := rfl
  simp only [laws_FnFixText.f_eq, hit]
  by_cases hbig : (1048576 : Int) < (l.length : Int)
  · simp only [hbig, stk, Int.reduceEq, Nat.reduceEqDiff, Int.reduceLE, Int.reduceLT]; exact Ev.now _
  obtain ⟨af, es, own, s, hD, ho, hs, hdr⟩ := drawFix_ev (l := l) (by omega) hby
  have hS := hD.s
  have him := implFix_ev (t := s) hS ho (by omega)
  have hsp := specFix_ev (t := s) hS ho (by omega)
  have hu := implUser_ev (own := own) (by have := ho.n; omega) (fun x hx => by have := ho.s x hx; omega) hS s
  simp only [strP] at him hsp
  obtain ⟨h1, h2⟩ := userR_pos own af es s
  have hl := userR_len own af es s
  generalize userR own af es s = L at *
  simp only [hbig, stk, Int.reduceEq, Nat.reduceEqDiff, Int.reduceLE, Int.reduceLT]
  refine Ev.bind hdr ?_
  simp only [book_f0, book_f1, book_agg, List.headD_cons, List.tail_cons, stk, Int.reduceEq, Nat.reduceEqDiff, Int.reduceLE, Int.reduceLT]
  refine Ev.bind him ?_
  refine Ev.bind hsp ?_
  simp only [stk, Int.reduceEq, Nat.reduceEqDiff, Int.reduceLE, Int.reduceLT]
  refine Ev.bind hu ?_
  cases hL : L with
  | nil =>
    have e0 : fixL af es s [] 0 = s := by
      rw [fixL]
      apply BA_ext
      simp [ByteArray.data_extract, List.extract_eq_take_drop]
    have c0 : ((([] : List Gs).length : Int) = 0) := rfl
    simp only [gs_len, c0, e0, stk, Int.reduceEq, Nat.reduceEqDiff, Int.reduceLE, Int.reduceLT]
    exact Ev.now _
  | cons g0 r0 =>
    rw [← hL]
    have c0 : ¬ ((L.length : Int) = 0) := by rw [hL]; simp <;> omega
    have c1 : (0 : Int) < (L.length : Int) := by rw [hL]; simp <;> omega
    have e0 : (gsP L).elem 0 = gP g0 := by rw [hL]; rfl
    have hg0 := h1 g0 (by rw [hL]; simp)
    have hge0 : gEnd g0 = g0.2 + g0.1.size := rfl
    have hle : ∀ g ∈ L, g0.2 ≤ g.2 ∧ gEnd g ≤ s.size := fun g hg => by
      refine ⟨?_, h1 g hg⟩
      rw [hL] at hg h2
      rcases List.mem_cons.1 hg with rfl | hg
      · omega
      · have := (List.pairwise_cons.1 h2).1 g hg; omega
    have hsz := fix_size (af := af) (es := es) (t := s) L 0 (Nat.zero_le _) (fun g hg => ⟨Nat.zero_le _, h1 g hg⟩) h2
    have hcut := fix_cut (af := af) (es := es) (t := s) L 0 g0.2 (Nat.zero_le _) (by omega) hle
    have hx : (fixL af es s L 0).extract 0 g0.2 = s.extract 0 g0.2 := by
      have z : (s.extract 0 g0.2).size = g0.2 := by rw [bext_size (Nat.zero_le _) (by omega)]; omega
      have := bapp_ext0 (s.extract 0 g0.2) (fixL af es s L g0.2)
      rw [z, ← hcut] at this
      exact this
    have hxs : g0.2 ≤ (fixL af es s L 0).size := by
      have z : (s.extract 0 g0.2).size = g0.2 := by rw [bext_size (Nat.zero_le _) (by omega)]; omega
      rw [hcut, ByteArray.size_append, z]; omega
    have hmb := more_bound (af := af) (es := es) L (fun g hg => by have := h1 g hg; have h2 : gEnd g = g.2 + g.1.size := rfl; omega)
    generalize hX : fixL af es s L 0 = X at *
    have key : ∀ (rest pre : List Gs) (m a : Int), L = pre ++ rest → m + moreI af es rest = moreI af es L → 0 ≤ a → -(1000000 * (pre.length : Int)) ≤ m → m ≤ 1000000 * (pre.length : Int) → Ev2 (fun N n => laws_FnFixText.l0 N n s X m a (pre.length : Int) (gsP L) (affsP af) (entsP es)) [boolP true] := by
      intro rest
      induction rest with
      | nil =>
        intro pre m a hp hm ha hm1 hm2
        have hpl : pre.length = L.length := by rw [hp]; simp
        have hm' : m = moreI af es L := by rw [← hm]; simp [moreI]
        have w1 : IntKind.i64.wrap ((s.size : Int) + m) = (X.size : Int) := by rw [wrap_id (by omega) (by omega)]; omega
        have c2 : (g0.2 : Int) ≤ (X.size : Int) := by omega
        have c3 : (g0.2 : Int) ≤ (s.size : Int) := by omega
        refine Ev2.succ ?_
        simp only [laws_FnFixText.l0_eq, gs_len, at_end hp, w1, ha, c1, e0, g_f1, c2, c3, hx, stk, Int.reduceEq, Nat.reduceEqDiff, Int.reduceLE, Int.reduceLT]
        exact Ev2.now _
      | cons g rest ih =>
        intro pre m a hp hm ha hm1 hm2
        have hpl := at_ltN hp
        have hg := h1 g (by rw [hp]; simp)
        have hge : gEnd g = g.2 + g.1.size := rfl
        have hbg := implBookG_ev hS g.1 (by omega)
        simp only [strP] at hbg
        have hlp : (pre ++ [g]).length = pre.length + 1 := by simp
        refine Ev2.succ ?_
        simp only [laws_FnFixText.l0_eq, gs_len, gs_elem hp, at_lt hp, g_f0, g_f1, book_agg, stk, Int.reduceEq, Nat.reduceEqDiff, Int.reduceLE, Int.reduceLT]
        refine Ev2.bind hbg ?_
        rw [moreI] at hm
        cases hoo : oneG af es g with
        | none =>
          rw [hoo] at hm
          have h1 := oneG_none hoo
          have c1 : ¬ (((bookG af es g.1).length : Int) = 1) := by omega
          simp only [gi_len, c1, at_next hp (by omega), stk, Int.reduceEq, Nat.reduceEqDiff, Int.reduceLE, Int.reduceLT]
          exact ih _ m _ (at_step hp) (by simp only [] at hm; omega) (by omega) (by omega) (by omega)
        | some x =>
          obtain ⟨k, hk, hw⟩ := oneG_some hoo
          obtain ⟨z1, z2, -⟩ := isWord_low hw
          rw [hoo] at hm
          have c1 : (((bookG af es g.1).length : Int) = 1) := by rw [hk]; rfl
          have c0 : (0 : Int) < ((bookG af es g.1).length : Int) := by omega
          have e0 : ((giP (bookG af es g.1)).elem 0) = guessP (x, k) := by rw [hk]; rfl
          have w1 : IntKind.i64.wrap (m + (x.size : Int)) = m + (x.size : Int) := wrap_id (by omega) (by omega)
          have w2 : IntKind.i64.wrap (m + (x.size : Int) - (g.1.size : Int)) = m + (x.size : Int) - (g.1.size : Int) := wrap_id (by omega) (by omega)
          simp only [gi_len, c1, c0, e0, gi_f0, w1, w2, at_next hp (by omega), stk, Int.reduceEq, Nat.reduceEqDiff, Int.reduceLE, Int.reduceLT]
          exact ih _ _ _ (at_step hp) (by simp only [] at hm; omega) (by omega) (by omega) (by omega)
    have := key L [] 0 0 rfl (by simp) (by omega) (by simp) (by simp)
    simp only [gs_len, c0, stk, Int.reduceEq, Nat.reduceEqDiff, Int.reduceLE, Int.reduceLT]
    exact this.diag
end Go.Proofs.YtoiigoflkhmjnaaGreatDoor.FnFixText
