import Derived.Test.YtoiigoflkhmjnaaGreatDoorFnFnRankedy1
set_option linter.unusedVariables false
set_option linter.unusedSimpArgs false
set_option maxRecDepth 10000
namespace Go.Proofs.YtoiigoflkhmjnaaGreatDoor.FnRanked
open Go Go.Proofs.YtoiigoflkhmjnaaGreatDoorAm
structure AffT (a : Aff) : Prop where
  flag : a.flag.size ≤ 10
  strip : a.strip.size ≤ 10
  add : a.add.size ≤ 10
  cond : a.cond.size ≤ 10
theorem affLL_small : ∀ a ∈ affLL, AffT a := fun a ha => by
  have h : (affLL.all fun a => decide ((a.flag.size ≤ 10 ∧ a.strip.size ≤ 10) ∧ a.add.size ≤ 10 ∧ a.cond.size ≤ 10)) = true := rfl
  have := of_decide_eq_true (List.all_eq_true.1 h a ha)
  exact ⟨this.1.1, this.1.2, this.2.1, this.2.2⟩
theorem AffT.s {a : Aff} (h : AffT a) : AffS a := by
  obtain ⟨h1, h2, h3, h4⟩ := h
  exact ⟨by omega, by omega, by omega, by omega⟩
def anyF : List ByteArray := [⟨#[]⟩, ⟨#[115]⟩, ⟨#[65, 66]⟩, ⟨#[90]⟩]
def anyS : List ByteArray := [⟨#[121]⟩, ⟨#[97, 98, 99, 100, 101]⟩, ⟨#[]⟩, ⟨#[89]⟩]
def anyC : List ByteArray := [⟨#[121]⟩, ⟨#[116, 121]⟩, ⟨#[97, 98, 99, 100, 101]⟩, ⟨#[]⟩]
def anyE : List ByteArray := [⟨#[]⟩, ⟨#[83, 71]⟩, ⟨#[115]⟩, ⟨#[65, 66, 67, 68, 69]⟩]
def anyZ : List ByteArray := [⟨#[]⟩, ⟨#[122, 122]⟩, ⟨#[65]⟩]
theorem small_of {l : List ByteArray} (h : (l.all fun s => decide (0 ≤ s.size ∧ s.size ≤ 10)) = true) {s : ByteArray} (hs : s ∈ l) : s.size ≤ 10 := (szs_in (a := 0) (b := 10) h s hs).2
theorem anyAffix_ev {b : PV} (hb : Code1 b) (p : Nat) (hp : p < 800000000) : ∃ (a : Aff) (q : Nat), q ≤ p + 5 ∧ AffT a ∧ ∀ N, spec_l13AnyAffix.f N [rdP b (p : Int)] = some [affP a, rdP b (q : Int)] := by
  obtain ⟨a, ha, h1⟩ := affix_ev hb p (by omega)
  have hs := affLL_small a ha
  obtain ⟨k, hk, hf⟩ := pick_ev hb (p := ((p + 1 : Nat) : Int)) (n := 12) (by omega) (by omega)
  have hp1 : ((p + 1 : Nat) : Int) + 1 = ((p + 2 : Nat) : Int) := by omega
  rw [hp1] at hf
  have hp2 : ((p + 2 : Nat) : Int) + 1 = ((p + 3 : Nat) : Int) := by omega
  by_cases k0 : k = 0
  · obtain ⟨s, hm, hs2⟩ := of_ev hb (p := ((p + 2 : Nat) : Int)) (by omega) anyF (by simp [anyF])
    rw [hp2] at hs2
    have e : PV.list [PV.sc (.string (ByteArray.mk #[])), PV.sc (.string (ByteArray.mk #[115])), PV.sc (.string (ByteArray.mk #[65, 66])), PV.sc (.string (ByteArray.mk #[90]))] = strsP anyF := rfl
    have e2 : PV.agg [PV.sc (.string s), PV.sc (.bool a.front), PV.sc (.string a.strip), PV.sc (.string a.add), PV.sc (.string a.cond)] = affP ⟨s, a.front, a.strip, a.add, a.cond⟩ := rfl
    exact ⟨⟨s, a.front, a.strip, a.add, a.cond⟩, p + 3, by omega, ⟨small_of (l := anyF) rfl hm, hs.strip, hs.add, hs.cond⟩, fun N => by simp only [spec_l13AnyAffix.f_eq, rd_f0, rd_f1, rd_agg, h1, hf, k0, e, hs2, aff_f0, aff_f1, aff_f2, aff_f3, aff_f4, e2, stk, if_true, if_false, ite_self, Option.bind_some, bne_self_eq_false, beq_self_eq_true, Int.reduceEq, Nat.reduceEqDiff, List.length_singleton, List.tail_cons, Int.reduceLE, Int.reduceLT]⟩
  by_cases k1 : k = 1
  · obtain ⟨s, hm, hs2⟩ := of_ev hb (p := ((p + 2 : Nat) : Int)) (by omega) anyS (by simp [anyS])
    rw [hp2] at hs2
    have e : PV.list [PV.sc (.string (ByteArray.mk #[121])), PV.sc (.string (ByteArray.mk #[97, 98, 99, 100, 101])), PV.sc (.string (ByteArray.mk #[])), PV.sc (.string (ByteArray.mk #[89]))] = strsP anyS := rfl
    have e2 : PV.agg [PV.sc (.string a.flag), PV.sc (.bool a.front), PV.sc (.string s), PV.sc (.string a.add), PV.sc (.string a.cond)] = affP ⟨a.flag, a.front, s, a.add, a.cond⟩ := rfl
    exact ⟨⟨a.flag, a.front, s, a.add, a.cond⟩, p + 3, by omega, ⟨hs.flag, small_of (l := anyS) rfl hm, hs.add, hs.cond⟩, fun N => by simp only [spec_l13AnyAffix.f_eq, rd_f0, rd_f1, rd_agg, h1, hf, k1, e, hs2, aff_f0, aff_f1, aff_f2, aff_f3, aff_f4, e2, stk, if_true, if_false, ite_self, Option.bind_some, bne_self_eq_false, beq_self_eq_true, Int.reduceEq, Nat.reduceEqDiff, List.length_singleton, List.tail_cons, Int.reduceLE, Int.reduceLT]⟩
  by_cases k2 : k = 2
  · obtain ⟨s, hm, hs2⟩ := of_ev hb (p := ((p + 2 : Nat) : Int)) (by omega) anyC (by simp [anyC])
    rw [hp2] at hs2
    have e : PV.list [PV.sc (.string (ByteArray.mk #[121])), PV.sc (.string (ByteArray.mk #[116, 121])), PV.sc (.string (ByteArray.mk #[97, 98, 99, 100, 101])), PV.sc (.string (ByteArray.mk #[]))] = strsP anyC := rfl
    have e2 : PV.agg [PV.sc (.string a.flag), PV.sc (.bool a.front), PV.sc (.string a.strip), PV.sc (.string a.add), PV.sc (.string s)] = affP ⟨a.flag, a.front, a.strip, a.add, s⟩ := rfl
    exact ⟨⟨a.flag, a.front, a.strip, a.add, s⟩, p + 3, by omega, ⟨hs.flag, hs.strip, hs.add, small_of (l := anyC) rfl hm⟩, fun N => by simp only [spec_l13AnyAffix.f_eq, rd_f0, rd_f1, rd_agg, h1, hf, k2, e, hs2, aff_f0, aff_f1, aff_f2, aff_f3, aff_f4, e2, stk, if_true, if_false, ite_self, Option.bind_some, bne_self_eq_false, beq_self_eq_true, Int.reduceEq, Nat.reduceEqDiff, List.length_singleton, List.tail_cons, Int.reduceLE, Int.reduceLT]⟩
  by_cases k3 : k = 3
  · have e2 : PV.agg [PV.sc (.string a.flag), PV.sc (.bool (!a.front)), PV.sc (.string a.strip), PV.sc (.string a.add), PV.sc (.string a.cond)] = affP ⟨a.flag, !a.front, a.strip, a.add, a.cond⟩ := rfl
    exact ⟨⟨a.flag, !a.front, a.strip, a.add, a.cond⟩, p + 2, by omega, ⟨hs.flag, hs.strip, hs.add, hs.cond⟩, fun N => by simp only [spec_l13AnyAffix.f_eq, rd_f0, rd_f1, rd_agg, h1, hf, k3, aff_f0, aff_f1, aff_f2, aff_f3, aff_f4, e2, stk, if_true, if_false, ite_self, Option.bind_some, bne_self_eq_false, beq_self_eq_true, Int.reduceEq, Nat.reduceEqDiff, List.length_singleton, List.tail_cons, Int.reduceLE, Int.reduceLT]⟩
  · exact ⟨a, p + 2, by omega, hs, fun N => by simp only [spec_l13AnyAffix.f_eq, rd_f0, rd_f1, rd_agg, h1, hf, k0, k1, k2, k3, aff_f0, aff_f1, aff_f2, aff_f3, aff_f4, aff_agg, stk, if_true, if_false, ite_self, Option.bind_some, bne_self_eq_false, beq_self_eq_true, Int.reduceEq, Nat.reduceEqDiff, List.length_singleton, List.tail_cons, Int.reduceLE, Int.reduceLT]⟩
structure BookD (af : List Aff) (es : List Ent) : Prop where
  al : af.length ≤ 100
  el : es.length ≤ 100
  a : ∀ a ∈ af, AffT a
  e : ∀ e ∈ es, e.stem.size ≤ 13 ∧ e.flags.size ≤ 10
theorem BookD.s {af : List Aff} {es : List Ent} (h : BookD af es) : BookS af es :=
  ⟨by have := h.al; omega, by have := h.el; omega, fun a ha => (h.a a ha).s, fun e he => by obtain ⟨h1, h2⟩ := h.e e he; exact ⟨by omega, by omega⟩⟩
theorem affs_app (af : List Aff) (a : Aff) : PV.list ((affsP af).items ++ [affP a]) = affsP (af ++ [a]) := by simp [affsP, PV.items]
theorem ents_app (es : List Ent) (e : Ent) : PV.list ((entsP es).items ++ [entP e]) = entsP (es ++ [e]) := by simp [entsP, PV.items]
theorem anyBook_ev {b : PV} (hb : Code1 b) (p : Nat) (hp : p < 400000000) : ∃ (af : List Aff) (es : List Ent) (q : Nat), q ≤ p + 300 ∧ BookD af es ∧ Ev (fun N => spec_l13AnyBook.f N [rdP b (p : Int)]) [bookP af es, rdP b (q : Int)] := by
  obtain ⟨af, es, q, h1, h2, h3⟩ := book_ev hb p (by omega)
  have hal := h2.a.n
  have hel := h2.n
  have hD : BookD af es := ⟨by omega, by omega, fun a ha => affLL_small a (h2.a.s a ha), fun e he => by have := h2.s e he; have := flags_size this.2; omega⟩
  obtain ⟨k, hk, hf⟩ := pick_ev hb (p := (q : Int)) (n := 16) (by omega) (by omega)
  have hq1 : (q : Int) + 1 = ((q + 1 : Nat) : Int) := by omega
  rw [hq1] at hf
  by_cases k0 : k = 0
  · obtain ⟨a, q2, g1, g2, g3⟩ := anyAffix_ev hb (q + 1) (by omega)
    have c1 : (af.length + 1 ≤ 1954687338268) = True := tru (by omega)
    refine ⟨af ++ [a], es, q2, by omega, ⟨by simp; omega, by omega, all_snoc hD.a g2, hD.e⟩, ?_⟩
    simp only [spec_l13AnyBook.f_eq, rd_f0, rd_f1, rd_agg, stk, if_true, if_false, ite_self, Option.bind_some, bne_self_eq_false, beq_self_eq_true, Int.reduceEq, Nat.reduceEqDiff, List.length_singleton, List.tail_cons, Int.reduceLE, Int.reduceLT]
    refine Ev.bind h3 ?_
    simp only [rd_f1, rd_agg, hf, k0, g3, book_f0, book_f1, affs_len, c1, aff_f0, aff_f1, aff_f2, aff_f3, aff_f4, aff_agg, affs_app, book_agg, stk, if_true, if_false, ite_self, Option.bind_some, bne_self_eq_false, beq_self_eq_true, Int.reduceEq, Nat.reduceEqDiff, List.length_singleton, List.tail_cons, Int.reduceLE, Int.reduceLT]
    exact Ev.now _
  by_cases k1 : k = 1
  · obtain ⟨w, q2, g1, g2, g3⟩ := anyWord_ev hb (q + 1) (by omega)
    obtain ⟨f, hm, hf2⟩ := of_ev hb (p := (q2 : Int)) (by omega) anyE (by simp [anyE])
    have hq2 : (q2 : Int) + 1 = ((q2 + 1 : Nat) : Int) := by omega
    rw [hq2] at hf2
    have e : PV.list [PV.sc (.string (ByteArray.mk #[])), PV.sc (.string (ByteArray.mk #[83, 71])), PV.sc (.string (ByteArray.mk #[115])), PV.sc (.string (ByteArray.mk #[65, 66, 67, 68, 69]))] = strsP anyE := rfl
    have c1 : (es.length + 1 ≤ 4398046511104) = True := tru (by omega)
    have e2 : PV.agg [PV.sc (.string w), PV.sc (.string f)] = entP ⟨w, f⟩ := rfl
    refine ⟨af, es ++ [⟨w, f⟩], q2 + 1, by omega, ⟨by omega, by simp; omega, hD.a, all_snoc hD.e ⟨g2, small_of (l := anyE) rfl hm⟩⟩, ?_⟩
    simp only [spec_l13AnyBook.f_eq, rd_f0, rd_f1, rd_agg, stk, if_true, if_false, ite_self, Option.bind_some, bne_self_eq_false, beq_self_eq_true, Int.reduceEq, Nat.reduceEqDiff, List.length_singleton, List.tail_cons, Int.reduceLE, Int.reduceLT]
    refine Ev.bind h3 ?_
    simp only [rd_f1, rd_agg, hf, k1, book_f0, book_f1, stk, if_true, if_false, ite_self, Option.bind_some, bne_self_eq_false, beq_self_eq_true, Int.reduceEq, Nat.reduceEqDiff, List.length_singleton, List.tail_cons, Int.reduceLE, Int.reduceLT]
    refine Ev.bind g3 ?_
    simp only [rd_f1, rd_agg, e, hf2, ents_len, c1, e2, ents_app, book_agg, stk, if_true, if_false, ite_self, Option.bind_some, bne_self_eq_false, beq_self_eq_true, Int.reduceEq, Nat.reduceEqDiff, List.length_singleton, List.tail_cons, Int.reduceLE, Int.reduceLT]
    exact Ev.now _
  by_cases k2 : k = 2
  · cases es with
    | nil =>
      have c0 : ((0 : Int) < (([] : List Ent).length : Int)) = False := fls (by simp)
      refine ⟨af, [], q + 1, by omega, hD, ?_⟩
      simp only [spec_l13AnyBook.f_eq, rd_f0, rd_f1, rd_agg, stk, if_true, if_false, ite_self, Option.bind_some, bne_self_eq_false, beq_self_eq_true, Int.reduceEq, Nat.reduceEqDiff, List.length_singleton, List.tail_cons, Int.reduceLE, Int.reduceLT]
      refine Ev.bind h3 ?_
      simp only [rd_f1, rd_agg, hf, k2, book_f0, book_f1, ents_len, c0, book_agg, stk, if_true, if_false, ite_self, Option.bind_some, bne_self_eq_false, beq_self_eq_true, Int.reduceEq, Nat.reduceEqDiff, List.length_singleton, List.tail_cons, Int.reduceLE, Int.reduceLT]
      exact Ev.now _
    | cons x es =>
      obtain ⟨s, hm, hf2⟩ := of_ev hb (p := ((q + 1 : Nat) : Int)) (by omega) anyZ (by simp [anyZ])
      have hq2 : ((q + 1 : Nat) : Int) + 1 = ((q + 2 : Nat) : Int) := by omega
      rw [hq2] at hf2
      have e : PV.list [PV.sc (.string (ByteArray.mk #[])), PV.sc (.string (ByteArray.mk #[122, 122])), PV.sc (.string (ByteArray.mk #[65]))] = strsP anyZ := rfl
      have c0 : ((0 : Int) < ((x :: es).length : Int)) = True := tru (by simp <;> omega)
      have e2 : PV.list ((entsP (x :: es)).items.set 0 (PV.agg (((entsP (x :: es)).elem 0).parts.set 0 (PV.sc (.string s))))) = entsP (⟨s, x.flags⟩ :: es) := rfl
      refine ⟨af, ⟨s, x.flags⟩ :: es, q + 2, by omega, ⟨hD.al, hD.el, hD.a, fun e he => ?_⟩, ?_⟩
      · rcases List.mem_cons.1 he with rfl | he
        · exact ⟨by have := small_of (l := anyZ) rfl hm; show s.size ≤ 13; omega, (hD.e x (by simp)).2⟩
        · exact hD.e e (by simp [he])
      · simp only [spec_l13AnyBook.f_eq, rd_f0, rd_f1, rd_agg, stk, if_true, if_false, ite_self, Option.bind_some, bne_self_eq_false, beq_self_eq_true, Int.reduceEq, Nat.reduceEqDiff, List.length_singleton, List.tail_cons, Int.reduceLE, Int.reduceLT]
        refine Ev.bind h3 ?_
        simp only [rd_f1, rd_agg, hf, k2, book_f0, book_f1, ents_len, c0, e, hf2, Nat.le_refl, e2, book_agg, stk, if_true, if_false, ite_self, Option.bind_some, bne_self_eq_false, beq_self_eq_true, Int.reduceEq, Nat.reduceEqDiff, List.length_singleton, List.tail_cons, Int.reduceLE, Int.reduceLT]
        exact Ev.now _
  · refine ⟨af, es, q + 1, by omega, hD, ?_⟩
    simp only [spec_l13AnyBook.f_eq, rd_f0, rd_f1, rd_agg, stk, if_true, if_false, ite_self, Option.bind_some, bne_self_eq_false, beq_self_eq_true, Int.reduceEq, Nat.reduceEqDiff, List.length_singleton, List.tail_cons, Int.reduceLE, Int.reduceLT]
    refine Ev.bind h3 ?_
    simp only [rd_f1, rd_agg, hf, k0, k1, k2, book_f0, book_f1, book_agg, stk, if_true, if_false, ite_self, Option.bind_some, bne_self_eq_false, beq_self_eq_true, Int.reduceEq, Nat.reduceEqDiff, List.length_singleton, List.tail_cons, Int.reduceLE, Int.reduceLT]
    exact Ev.now _
theorem bookW_word {af : List Aff} {es : List Ent} (h : BookOkF af es) : ∀ x ∈ bookW af es, x.size ≤ 12 := fun x hx => by
  rw [bookW_mem] at hx
  obtain ⟨e, he, hx⟩ := hx
  rcases formsB_mem hx with rfl | hw
  · exact (entB_facts (h.ent e he)).2.1
  · exact word_size hw
theorem l13Of_ev {b : PV} (hb : Code1 b) {af : List Aff} {es : List Ent} (hD : BookD af es) (p : Nat) (hp : p < 400000000) : ∃ (s : ByteArray) (q : Nat), q ≤ p + 20 ∧ s.size ≤ 13 ∧ Ev (fun N => spec_l13Of.f N [rdP b (p : Int), bookP af es]) [strP s, rdP b (q : Int)] := by
  have hok := specBookOk_ev hD.s
  have hp1 : (p : Int) + 1 = ((p + 1 : Nat) : Int) := by omega
  cases hB : bookB af es with
  | false =>
    rw [hB] at hok
    obtain ⟨w, q, g1, g2, g3⟩ := anyWord_ev hb p (by omega)
    refine ⟨w, q, by omega, g2, ?_⟩
    simp only [spec_l13Of.f_eq, rd_f0, rd_f1, rd_agg, book_f0, book_f1, book_agg, stk, if_true, if_false, ite_self, Option.bind_some, bne_self_eq_false, beq_self_eq_true, Int.reduceEq, Nat.reduceEqDiff, List.length_singleton, List.tail_cons, Int.reduceLE, Int.reduceLT]
    refine Ev.bind hok ?_
    simp only [stk, if_true, if_false, ite_self, Option.bind_some, bne_self_eq_false, beq_self_eq_true, Int.reduceEq, Nat.reduceEqDiff, List.length_singleton, List.tail_cons, Int.reduceLE, Int.reduceLT]
    refine Ev.bind g3 ?_
    simp only [rd_f1, rd_agg, stk, if_true, if_false, ite_self, Option.bind_some, bne_self_eq_false, beq_self_eq_true, Int.reduceEq, Nat.reduceEqDiff, List.length_singleton, List.tail_cons, Int.reduceLE, Int.reduceLT]
    exact Ev.now _
  | true =>
    rw [hB] at hok
    have hF := bookB_facts hB
    have hlen := bookW_len hF
    have hWw := bookW_word hF
    have hWe := bookW_ok hF
    obtain ⟨W, hW⟩ : ∃ W, W = bookW af es := ⟨_, rfl⟩
    rw [← hW] at hlen hWw hWe
    clear hW
    obtain ⟨k, hk, hf⟩ := pick_ev hb (p := (p : Int)) (n := 2) (by omega) (by omega)
    rw [hp1] at hf
    by_cases k0 : k = 0
    · by_cases hz : W.length = 0
      · have c0 : ((0 : Int) < (W.length : Int)) = False := fls (by omega)
        obtain ⟨w, q, g1, g2, g3⟩ := anyWord_ev hb (p + 1) (by omega)
        refine ⟨w, q, by omega, g2, ?_⟩
        simp only [spec_l13Of.f_eq, rd_f0, rd_f1, rd_agg, book_f0, book_f1, book_agg, stk, if_true, if_false, ite_self, Option.bind_some, bne_self_eq_false, beq_self_eq_true, Int.reduceEq, Nat.reduceEqDiff, List.length_singleton, List.tail_cons, Int.reduceLE, Int.reduceLT]
        refine Ev.bind hok ?_
        simp only [hf, rd_f1, rd_agg, stk, if_true, if_false, ite_self, Option.bind_some, bne_self_eq_false, beq_self_eq_true, Int.reduceEq, Nat.reduceEqDiff, List.length_singleton, List.tail_cons, Int.reduceLE, Int.reduceLT]
        simp only [k0, stk, if_true, if_false, ite_self, Option.bind_some, bne_self_eq_false, beq_self_eq_true, Int.reduceEq, Nat.reduceEqDiff, List.length_singleton, List.tail_cons, Int.reduceLE, Int.reduceLT]
        refine Ev.bind hWe ?_
        simp only [c0, stk, if_true, if_false, ite_self, Option.bind_some, bne_self_eq_false, beq_self_eq_true, Int.reduceEq, Nat.reduceEqDiff, List.length_singleton, List.tail_cons, Int.reduceLE, Int.reduceLT]
        refine Ev.bind g3 ?_
        simp only [rd_f1, rd_agg, stk, if_true, if_false, ite_self, Option.bind_some, bne_self_eq_false, beq_self_eq_true, Int.reduceEq, Nat.reduceEqDiff, List.length_singleton, List.tail_cons, Int.reduceLE, Int.reduceLT]
        exact Ev.now _
      · have c0 : ((0 : Int) < (W.length : Int)) = True := tru (by omega)
        obtain ⟨j, hj, hf2⟩ := pick_ev hb (p := ((p + 1 : Nat) : Int)) (n := (W.length : Int)) (by omega) (by omega)
        have hp2 : ((p + 1 : Nat) : Int) + 1 = ((p + 2 : Nat) : Int) := by omega
        rw [hp2] at hf2
        obtain ⟨j, rfl⟩ := Int.eq_ofNat_of_zero_le hj.1
        have hjl : j < W.length := by omega
        have c2 : ((j : Int) < (W.length : Int)) = True := tru (by omega)
        refine ⟨W.getD j ByteArray.empty, p + 2, by omega, ?_, ?_⟩
        · have : W.getD j ByteArray.empty ∈ W := by
            rw [List.getD_eq_getElem?_getD, List.getElem?_eq_getElem hjl]; exact List.getElem_mem hjl
          have := hWw _ this
          omega
        · simp only [spec_l13Of.f_eq, rd_f0, rd_f1, rd_agg, book_f0, book_f1, book_agg, stk, if_true, if_false, ite_self, Option.bind_some, bne_self_eq_false, beq_self_eq_true, Int.reduceEq, Nat.reduceEqDiff, List.length_singleton, List.tail_cons, Int.reduceLE, Int.reduceLT]
          refine Ev.bind hok ?_
          simp only [hf, rd_f1, rd_agg, stk, if_true, if_false, ite_self, Option.bind_some, bne_self_eq_false, beq_self_eq_true, Int.reduceEq, Nat.reduceEqDiff, List.length_singleton, List.tail_cons, Int.reduceLE, Int.reduceLT]
          simp only [k0, stk, if_true, if_false, ite_self, Option.bind_some, bne_self_eq_false, beq_self_eq_true, Int.reduceEq, Nat.reduceEqDiff, List.length_singleton, List.tail_cons, Int.reduceLE, Int.reduceLT]
          refine Ev.bind hWe ?_
          simp only [c0, hf2, c2, nn, rd_f1, rd_agg, stk, if_true, if_false, ite_self, Option.bind_some, bne_self_eq_false, beq_self_eq_true, Int.reduceEq, Nat.reduceEqDiff, List.length_singleton, List.tail_cons, Int.reduceLE, Int.reduceLT]
          exact Ev.now _
    · obtain ⟨w, q, g1, g2, g3⟩ := anyWord_ev hb (p + 1) (by omega)
      refine ⟨w, q, by omega, g2, ?_⟩
      simp only [spec_l13Of.f_eq, rd_f0, rd_f1, rd_agg, book_f0, book_f1, book_agg, stk, if_true, if_false, ite_self, Option.bind_some, bne_self_eq_false, beq_self_eq_true, Int.reduceEq, Nat.reduceEqDiff, List.length_singleton, List.tail_cons, Int.reduceLE, Int.reduceLT]
      refine Ev.bind hok ?_
      simp only [hf, k0, rd_f1, rd_agg, stk, if_true, if_false, ite_self, Option.bind_some, bne_self_eq_false, beq_self_eq_true, Int.reduceEq, Nat.reduceEqDiff, List.length_singleton, List.tail_cons, Int.reduceLE, Int.reduceLT]
      refine Ev.bind g3 ?_
      simp only [rd_f1, rd_agg, stk, if_true, if_false, ite_self, Option.bind_some, bne_self_eq_false, beq_self_eq_true, Int.reduceEq, Nat.reduceEqDiff, List.length_singleton, List.tail_cons, Int.reduceLE, Int.reduceLT]
      exact Ev.now _
def idxL : List Int → Int → Int
  | [], _ => -1
  | b :: l, c => if b = c then 0 else if idxL l c = -1 then -1 else idxL l c + 1
theorem idxL_ge : ∀ (l : List Int) (c : Int), -1 ≤ idxL l c ∧ idxL l c < l.length
  | [], _ => by simp [idxL]
  | b :: l, c => by
    have := idxL_ge l c
    unfold idxL
    simp only [List.length_cons]
    split
    · omega
    · split <;> omega
theorem idx_byte : ∀ (l : List UInt8) (b : UInt8), Lib.indexByte l b = idxL (l.map fun x => (x.toNat : Int)) (b.toNat : Int)
  | [], _ => rfl
  | x :: l, b => by
    rw [Lib.indexByte, List.map_cons, idxL, idx_byte l b]
    have : ((x == b) = true) ↔ ((x.toNat : Int) = (b.toNat : Int)) := by
      rw [beq_iff_eq, ← UInt8.toNat_inj]; omega
    by_cases h : (x.toNat : Int) = (b.toNat : Int)
    · rw [if_pos (this.2 h), if_pos h]
    · rw [if_neg (fun hx => h (this.1 hx)), if_neg h]
      simp only [beq_iff_eq]
def kb0 : ByteArray := ByteArray.mk #[113, 119, 101, 114, 116, 121, 117, 105, 111, 112]
def kb1 : ByteArray := ByteArray.mk #[97, 115, 100, 102, 103, 104, 106, 107, 108]
def kb2 : ByteArray := ByteArray.mk #[122, 120, 99, 118, 98, 110, 109]
def kr0 : List Int := [113, 119, 101, 114, 116, 121, 117, 105, 111, 112]
def kr1 : List Int := [97, 115, 100, 102, 103, 104, 106, 107, 108]
def kr2 : List Int := [122, 120, 99, 118, 98, 110, 109]
theorem kb0_b : bytesOf kb0 = kr0 := rfl
theorem kb1_b : bytesOf kb1 = kr1 := rfl
theorem kb2_b : bytesOf kb2 = kr2 := rfl
def keyRow (c : Int) : Int × Int := if 0 ≤ idxL kr0 c then (0, idxL kr0 c) else if 0 ≤ idxL kr1 c then (1, idxL kr1 c) else if 0 ≤ idxL kr2 c then (2, idxL kr2 c) else (-1, -1)
theorem keyRow_in (c : Int) : -1 ≤ (keyRow c).1 ∧ (keyRow c).1 ≤ 2 ∧ -1 ≤ (keyRow c).2 ∧ (keyRow c).2 ≤ 10 := by
  have h0 := idxL_ge kr0 c; have h1 := idxL_ge kr1 c; have h2 := idxL_ge kr2 c
  have l0 : kr0.length = 10 := rfl
  have l1 : kr1.length = 9 := rfl
  have l2 : kr2.length = 7 := rfl
  unfold keyRow
  split
  · simp only []; omega
  · split
    · simp only []; omega
    · split
      · simp only []; omega
      · simp
theorem index_one (t s : ByteArray) (hs : s.size = 1) (N : Nat) : strings_Index.f N [strP t, strP s] = some [intP (idxL (bytesOf t) (bt s 0))] := by
  show indexDen _ = _
  simp only [indexDen, hs, if_true]
  rw [idx_byte]; rfl
theorem keyRowsP_eq : keyRowsP = strsP [kb0, kb1, kb2] := rfl
theorem keyAt_ev (s : ByteArray) (hs : s.size = 1) : Ev (fun N => impl_keyAt.f N [strP s]) [intP (keyRow (bt s 0)).1, intP (keyRow (bt s 0)).2] := by
  simp only [impl_keyAt.f_eq, keyRowsP_eq, strs_len, stk, if_true, if_false, ite_self, Option.bind_some, bne_self_eq_false, beq_self_eq_true, Int.reduceEq, Nat.reduceEqDiff, List.length_singleton, List.tail_cons, Int.reduceLE, Int.reduceLT]
  have key : Ev2 (fun N n => impl_keyAt.l0 N n s (strsP [kb0, kb1, kb2]) (([kb0, kb1, kb2] : List ByteArray).length : Int) 0) [intP (keyRow (bt s 0)).1, intP (keyRow (bt s 0)).2] := by
    have w0 : IntKind.i64.wrap (0 + 1) = 1 := wrap_id (by omega) (by omega)
    have w1 : IntKind.i64.wrap (1 + 1) = 2 := wrap_id (by omega) (by omega)
    have w2 : IntKind.i64.wrap (2 + 1) = 3 := wrap_id (by omega) (by omega)
    have hl : (([kb0, kb1, kb2] : List ByteArray).length : Int) = 3 := rfl
    have i0 : ((0 : Int) < 3) = True := eq_true (by omega)
    have i1 : ((1 : Int) < 3) = True := eq_true (by omega)
    have i2 : ((2 : Int) < 3) = True := eq_true (by omega)
    have i3 : ((3 : Int) < 3) = False := eq_false (by omega)
    have j1 : ((0 : Int) ≤ 1) = True := eq_true (by omega)
    have j2 : ((0 : Int) ≤ 2) = True := eq_true (by omega)
    have t0 : ([kb0, kb1, kb2] : List ByteArray).getD (0 : Int).toNat ByteArray.empty = kb0 := rfl
    have t1 : ([kb0, kb1, kb2] : List ByteArray).getD (1 : Int).toNat ByteArray.empty = kb1 := rfl
    have t2 : ([kb0, kb1, kb2] : List ByteArray).getD (2 : Int).toNat ByteArray.empty = kb2 := rfl
    unfold keyRow
    refine Ev2.succ ?_
    simp only [impl_keyAt.l0_eq, strs_len, hl, i0, strs_elem, t0, index_one _ s hs, kb0_b, w0, stk, if_true, if_false, ite_self, Option.bind_some, bne_self_eq_false, beq_self_eq_true, Int.reduceEq, Nat.reduceEqDiff, List.length_singleton, List.tail_cons, Int.reduceLE, Int.reduceLT]
    by_cases h0 : 0 ≤ idxL kr0 (bt s 0)
    · simp only [h0, stk, if_true, if_false, ite_self, Option.bind_some, bne_self_eq_false, beq_self_eq_true, Int.reduceEq, Nat.reduceEqDiff, List.length_singleton, List.tail_cons, Int.reduceLE, Int.reduceLT]; exact Ev2.now _
    simp only [h0, stk, if_true, if_false, ite_self, Option.bind_some, bne_self_eq_false, beq_self_eq_true, Int.reduceEq, Nat.reduceEqDiff, List.length_singleton, List.tail_cons, Int.reduceLE, Int.reduceLT]
    refine Ev2.succ ?_
    simp only [impl_keyAt.l0_eq, strs_len, hl, i1, j1, strs_elem, t1, index_one _ s hs, kb1_b, w1, stk, if_true, if_false, ite_self, Option.bind_some, bne_self_eq_false, beq_self_eq_true, Int.reduceEq, Nat.reduceEqDiff, List.length_singleton, List.tail_cons, Int.reduceLE, Int.reduceLT]
    by_cases h1 : 0 ≤ idxL kr1 (bt s 0)
    · simp only [h1, stk, if_true, if_false, ite_self, Option.bind_some, bne_self_eq_false, beq_self_eq_true, Int.reduceEq, Nat.reduceEqDiff, List.length_singleton, List.tail_cons, Int.reduceLE, Int.reduceLT]; exact Ev2.now _
    simp only [h1, stk, if_true, if_false, ite_self, Option.bind_some, bne_self_eq_false, beq_self_eq_true, Int.reduceEq, Nat.reduceEqDiff, List.length_singleton, List.tail_cons, Int.reduceLE, Int.reduceLT]
    refine Ev2.succ ?_
    simp only [impl_keyAt.l0_eq, strs_len, hl, i2, j2, strs_elem, t2, index_one _ s hs, kb2_b, w2, stk, if_true, if_false, ite_self, Option.bind_some, bne_self_eq_false, beq_self_eq_true, Int.reduceEq, Nat.reduceEqDiff, List.length_singleton, List.tail_cons, Int.reduceLE, Int.reduceLT]
    by_cases h2 : 0 ≤ idxL kr2 (bt s 0)
    · simp only [h2, stk, if_true, if_false, ite_self, Option.bind_some, bne_self_eq_false, beq_self_eq_true, Int.reduceEq, Nat.reduceEqDiff, List.length_singleton, List.tail_cons, Int.reduceLE, Int.reduceLT]; exact Ev2.now _
    simp only [h2, stk, if_true, if_false, ite_self, Option.bind_some, bne_self_eq_false, beq_self_eq_true, Int.reduceEq, Nat.reduceEqDiff, List.length_singleton, List.tail_cons, Int.reduceLE, Int.reduceLT]
    refine Ev2.succ ?_
    simp only [impl_keyAt.l0_eq, i3, hl, stk, if_true, if_false, ite_self, Option.bind_some, bne_self_eq_false, beq_self_eq_true, Int.reduceEq, Nat.reduceEqDiff, List.length_singleton, List.tail_cons, Int.reduceLE, Int.reduceLT]
    exact Ev2.now _
  exact key.diag
theorem row_l1 (c : Int) (rows : List ByteArray) (hr : rows.length ≤ 3) {pr rest : List ByteArray} {t : ByteArray} (hp : rows = pr ++ t :: rest) (ht : t.size ≤ 100) (R : List PV) : ∀ (l pre : List Int), bytesOf t = pre ++ l →
    (0 ≤ idxL l c → R = [intP (pr.length : Int), intP ((pre.length : Int) + idxL l c)]) → (idxL l c = -1 → Ev2 (fun N n => spec_l10Row.l0 N n c ((pr ++ [t]).length : Int) (rows.map strP)) R) →
    Ev3 (fun N m n => spec_l10Row.l1 N m n c (pr.length : Int) (pre.length : Int) (rows.map strP)) R := by
  have hel : ((rows.map strP).getD pr.length default).toStr = t := by
    have := strs_elem rows pr.length
    simp only [strsP, elem_list] at this
    rw [this]; exact at_getD hp
  have hln : (rows.map strP).length = rows.length := by simp
  intro l
  induction l with
  | nil =>
    intro pre hl h1 h2
    refine Ev3.succ ?_
    simp only [spec_l10Row.l1_eq, hln, at_lt hp, nat_int, hel, at_sizeE hl, at_next hp (by omega), stk, if_true, if_false, ite_self, Option.bind_some, bne_self_eq_false, beq_self_eq_true, Int.reduceEq, Nat.reduceEqDiff, List.length_singleton, List.tail_cons, Int.reduceLE, Int.reduceLT]
    exact (h2 rfl).outer
  | cons b l ih =>
    intro pre hl h1 h2
    have hge := idxL_ge l c
    refine Ev3.succ ?_
    simp only [spec_l10Row.l1_eq, hln, at_lt hp, nat_int, hel, at_size hl, get_bt, at_bt hl, at_next hl (by rw [bytesOf_len]; omega), stk, if_true, if_false, ite_self, Option.bind_some, bne_self_eq_false, beq_self_eq_true, Int.reduceEq, Nat.reduceEqDiff, List.length_singleton, List.tail_cons, Int.reduceLE, Int.reduceLT]
    rw [idxL] at h1 h2
    by_cases hb : b = c
    · rw [if_pos hb] at h1
      rw [h1 (by omega)]
      simp only [hb, Int.add_zero, stk, if_true, if_false, ite_self, Option.bind_some, bne_self_eq_false, beq_self_eq_true, Int.reduceEq, Nat.reduceEqDiff, List.length_singleton, List.tail_cons, Int.reduceLE, Int.reduceLT]
      exact Ev3.now _
    · simp only [hb, stk, if_true, if_false, ite_self, Option.bind_some, bne_self_eq_false, beq_self_eq_true, Int.reduceEq, Nat.reduceEqDiff, List.length_singleton, List.tail_cons, Int.reduceLE, Int.reduceLT]
      rw [if_neg hb] at h1 h2
      refine ih (pre ++ [b]) (at_step hl) (fun h => ?_) (fun h => ?_)
      · rw [if_neg (by omega)] at h1
        rw [h1 (by omega)]; simp; omega
      · rw [if_pos h] at h2; exact h2 rfl
theorem specRow_ev (c : Int) : Ev (fun N => spec_l10Row.f N [.sc (.int .u8 c)]) [intP (keyRow c).1, intP (keyRow c).2] := by
  have e : ([PV.sc (.string (ByteArray.mk #[113, 119, 101, 114, 116, 121, 117, 105, 111, 112])), PV.sc (.string (ByteArray.mk #[97, 115, 100, 102, 103, 104, 106, 107, 108])), PV.sc (.string (ByteArray.mk #[122, 120, 99, 118, 98, 110, 109]))] : List PV) = [kb0, kb1, kb2].map strP := rfl
  simp only [spec_l10Row.f_eq, e, stk, if_true, if_false, ite_self, Option.bind_some, bne_self_eq_false, beq_self_eq_true, Int.reduceEq, Nat.reduceEqDiff, List.length_singleton, List.tail_cons, Int.reduceLE, Int.reduceLT]
  have h3 : Ev2 (fun N n => spec_l10Row.l0 N n c ((([kb0, kb1] ++ [kb2] : List ByteArray)).length : Int) ([kb0, kb1, kb2].map strP)) [intP (-1), intP (-1)] := by
    refine Ev2.succ ?_
    have z : ((((([kb0, kb1] ++ [kb2] : List ByteArray)).length : Int) < ((([kb0, kb1, kb2].map strP).length : Nat) : Int))) = False := eq_false (by simp)
    simp only [spec_l10Row.l0_eq, z, stk, if_true, if_false, ite_self, Option.bind_some, bne_self_eq_false, beq_self_eq_true, Int.reduceEq, Nat.reduceEqDiff, List.length_singleton, List.tail_cons, Int.reduceLE, Int.reduceLT]
    exact Ev2.now _
  unfold keyRow
  refine Ev2.diag (g := fun N n => spec_l10Row.l0 N n c 0 ([kb0, kb1, kb2].map strP)) ?_
  have s0 : ((0 : Int) < ((([kb0, kb1, kb2].map strP).length : Nat) : Int)) = True := eq_true (by simp)
  have s1 : (((([kb0] : List ByteArray).length : Int) < ((([kb0, kb1, kb2].map strP).length : Nat) : Int))) = True := eq_true (by simp)
  have s2 : (((([kb0, kb1] : List ByteArray).length : Int) < ((([kb0, kb1, kb2].map strP).length : Nat) : Int))) = True := eq_true (by simp)
  have g0 := idxL_ge kr0 c; have g1 := idxL_ge kr1 c; have g2 := idxL_ge kr2 c
  refine Ev2.succ ?_
  simp only [spec_l10Row.l0_eq, s0, stk, if_true, if_false, ite_self, Option.bind_some, bne_self_eq_false, beq_self_eq_true, Int.reduceEq, Nat.reduceEqDiff, List.length_singleton, List.tail_cons, Int.reduceLE, Int.reduceLT]
  refine Ev3.start (row_l1 c [kb0, kb1, kb2] (by simp) (pr := []) (t := kb0) (rest := [kb1, kb2]) rfl (by decide) _ kr0 [] kb0_b (fun h => ?_) (fun h => ?_))
  · rw [if_pos h]; simp
  rw [if_neg (by omega)]
  refine Ev2.succ ?_
  simp only [spec_l10Row.l0_eq, List.nil_append, s1, stk, if_true, if_false, ite_self, Option.bind_some, bne_self_eq_false, beq_self_eq_true, Int.reduceEq, Nat.reduceEqDiff, List.length_singleton, List.tail_cons, Int.reduceLE, Int.reduceLT]
  refine Ev3.start (row_l1 c [kb0, kb1, kb2] (by simp) (pr := [kb0]) (t := kb1) (rest := [kb2]) rfl (by decide) _ kr1 [] kb1_b (fun h => ?_) (fun h => ?_))
  · rw [if_pos h]; simp
  rw [if_neg (by omega)]
  refine Ev2.succ ?_
  simp only [spec_l10Row.l0_eq, List.cons_append, List.nil_append, s2, stk, if_true, if_false, ite_self, Option.bind_some, bne_self_eq_false, beq_self_eq_true, Int.reduceEq, Nat.reduceEqDiff, List.length_singleton, List.tail_cons, Int.reduceLE, Int.reduceLT]
  refine Ev3.start (row_l1 c [kb0, kb1, kb2] (by simp) (pr := [kb0, kb1]) (t := kb2) (rest := []) rfl (by decide) _ kr2 [] kb2_b (fun h => ?_) (fun h => ?_))
  · rw [if_pos h]; simp
  rw [if_neg (by omega)]
  exact h3
theorem apart_val (a b : Int) (ha : -1 ≤ a ∧ a ≤ 10) (hb : -1 ≤ b ∧ b ≤ 10) (N : Nat) : spec_l10Apart.f N [intP a, intP b] = some [intP (if a < b then b - a else a - b)] := by
  have w1 : IntKind.i64.wrap (b - a) = b - a := wrap_id (by omega) (by omega)
  have w2 : IntKind.i64.wrap (a - b) = a - b := wrap_id (by omega) (by omega)
  simp only [spec_l10Apart.f_eq, w1, w2, stk, if_true, if_false, ite_self, Option.bind_some, bne_self_eq_false, beq_self_eq_true, Int.reduceEq, Nat.reduceEqDiff, List.length_singleton, List.tail_cons, Int.reduceLE, Int.reduceLT]
  by_cases h : a < b <;> simp only [h, stk, if_true, if_false, ite_self, Option.bind_some, bne_self_eq_false, beq_self_eq_true, Int.reduceEq, Nat.reduceEqDiff, List.length_singleton, List.tail_cons, Int.reduceLE, Int.reduceLT]
theorem far_eq (r s x y : Int) : minI (maxI (maxI (maxI (r - s) (s - r)) (x - y)) (y - x)) 4 =
    (if (if (if r < s then s - r else r - s) < (if x < y then y - x else x - y) then (if x < y then y - x else x - y) else (if r < s then s - r else r - s)) < 4 then (if (if r < s then s - r else r - s) < (if x < y then y - x else x - y) then (if x < y then y - x else x - y) else (if r < s then s - r else r - s)) else 4) := by
  simp only [minI, maxI]
  repeat' split
  all_goals omega
def farK (a b : Int) : Int := minI (maxI (maxI (maxI ((keyRow a).1 - (keyRow b).1) ((keyRow b).1 - (keyRow a).1)) ((keyRow a).2 - (keyRow b).2)) ((keyRow b).2 - (keyRow a).2)) 4
theorem specKey_far (a b : Int) : Ev (fun N => spec_l10Key.f N [.sc (.int .u8 a), .sc (.int .u8 b)]) [intP (farK a b)] := by
  have ha := keyRow_in a; have hb := keyRow_in b
  simp only [spec_l10Key.f_eq, toInt_sc]
  refine Ev.bind (specRow_ev a) ?_
  refine Ev.bind (specRow_ev b) ?_
  simp only [headD_one, List.tail_cons, toInt_sc, apart_val _ _ ⟨ha.1, by omega⟩ ⟨hb.1, by omega⟩, apart_val _ _ ha.2.2 hb.2.2, Option.bind_some, least_val]
  have e := far_eq (keyRow a).1 (keyRow b).1 (keyRow a).2 (keyRow b).2
  by_cases h : (if (keyRow a).1 < (keyRow b).1 then (keyRow b).1 - (keyRow a).1 else (keyRow a).1 - (keyRow b).1) < (if (keyRow a).2 < (keyRow b).2 then (keyRow b).2 - (keyRow a).2 else (keyRow a).2 - (keyRow b).2)
  · rw [if_pos h] at e
    simp only [h, decide_true, if_true]
    unfold farK
    rw [e]; exact Ev.now _
  · rw [if_neg h] at e
    simp only [h, decide_false, if_false, Bool.false_eq_true]
    unfold farK
    rw [e]; exact Ev.now _
def keyFar (a b : ByteArray) : Int := if a.size = 1 ∧ b.size = 1 ∧ lowB (bytesOf a) = true ∧ lowB (bytesOf b) = true then farK (bt a 0) (bt b 0) else -1
theorem size_one {s : ByteArray} : (((s.size : Nat) : Int) = 1) = (s.size = 1) := propext ⟨fun h => by omega, fun h => by omega⟩
theorem implKeyFar_ev (a b : ByteArray) (ha : a.size ≤ 9223372036854775807) (hb : b.size ≤ 9223372036854775807) : Ev (fun N => impl_KeyFar.f N [strP a, strP b]) [intP (keyFar a b)] := by
  simp only [impl_KeyFar.f_eq, toStr_sc, size_one]
  unfold keyFar
  by_cases h1 : a.size = 1
  · by_cases h2 : b.size = 1
    · simp only [h1, h2, stk, if_true, if_false, ite_self, Option.bind_some, bne_self_eq_false, beq_self_eq_true, Int.reduceEq, Nat.reduceEqDiff, List.length_singleton, List.tail_cons, Int.reduceLE, Int.reduceLT]
      refine Ev.bind (implLower_ev a ha) ?_
      by_cases l1 : lowB (bytesOf a) = true
      · simp only [l1, stk, if_true, if_false, ite_self, Option.bind_some, bne_self_eq_false, beq_self_eq_true, Int.reduceEq, Nat.reduceEqDiff, List.length_singleton, List.tail_cons, Int.reduceLE, Int.reduceLT]
        refine Ev.bind (implLower_ev b hb) ?_
        by_cases l2 : lowB (bytesOf b) = true
        · simp only [l2, stk, if_true, if_false, ite_self, Option.bind_some, bne_self_eq_false, beq_self_eq_true, Int.reduceEq, Nat.reduceEqDiff, List.length_singleton, List.tail_cons, Int.reduceLE, Int.reduceLT]
          refine Ev.bind (keyAt_ev a h1) ?_
          refine Ev.bind (keyAt_ev b h2) ?_
          have ka := keyRow_in (bt a 0); have kb := keyRow_in (bt b 0)
          have w1 : IntKind.i64.wrap ((keyRow (bt a 0)).1 - (keyRow (bt b 0)).1) = (keyRow (bt a 0)).1 - (keyRow (bt b 0)).1 := wrap_id (by omega) (by omega)
          have w2 : IntKind.i64.wrap ((keyRow (bt b 0)).1 - (keyRow (bt a 0)).1) = (keyRow (bt b 0)).1 - (keyRow (bt a 0)).1 := wrap_id (by omega) (by omega)
          have w3 : IntKind.i64.wrap ((keyRow (bt a 0)).2 - (keyRow (bt b 0)).2) = (keyRow (bt a 0)).2 - (keyRow (bt b 0)).2 := wrap_id (by omega) (by omega)
          have w4 : IntKind.i64.wrap ((keyRow (bt b 0)).2 - (keyRow (bt a 0)).2) = (keyRow (bt b 0)).2 - (keyRow (bt a 0)).2 := wrap_id (by omega) (by omega)
          simp only [List.tail_cons, w1, w2, w3, w4, stk, if_true, if_false, ite_self, Option.bind_some, bne_self_eq_false, beq_self_eq_true, Int.reduceEq, Nat.reduceEqDiff, List.length_singleton, List.tail_cons, Int.reduceLE, Int.reduceLT]
          exact Ev.now _
        · simp only [Bool.not_eq_true] at l2
          simp only [l2, stk, if_true, if_false, ite_self, Option.bind_some, bne_self_eq_false, beq_self_eq_true, Int.reduceEq, Nat.reduceEqDiff, List.length_singleton, List.tail_cons, Int.reduceLE, Int.reduceLT]; exact Ev.now _
      · simp only [Bool.not_eq_true] at l1
        simp only [l1, stk, if_true, if_false, ite_self, Option.bind_some, bne_self_eq_false, beq_self_eq_true, Int.reduceEq, Nat.reduceEqDiff, List.length_singleton, List.tail_cons, Int.reduceLE, Int.reduceLT]; exact Ev.now _
    · simp only [h1, h2, stk, if_true, if_false, ite_self, Option.bind_some, bne_self_eq_false, beq_self_eq_true, Int.reduceEq, Nat.reduceEqDiff, List.length_singleton, List.tail_cons, Int.reduceLE, Int.reduceLT]; exact Ev.now _
  · simp only [h1, stk, if_true, if_false, ite_self, Option.bind_some, bne_self_eq_false, beq_self_eq_true, Int.reduceEq, Nat.reduceEqDiff, List.length_singleton, List.tail_cons, Int.reduceLE, Int.reduceLT]; exact Ev.now _
theorem farK_in (a b : Int) : 0 ≤ farK a b ∧ farK a b ≤ 4 := by
  unfold farK
  generalize (keyRow a).1 = r; generalize (keyRow b).1 = s; generalize (keyRow a).2 = x; generalize (keyRow b).2 = y
  simp only [minI, maxI]
  repeat' split
  all_goals omega
def wf (f : Nat → Nat → Int) : Nat → Nat → Int
  | 0, k => 4 * (k : Int)
  | i + 1, 0 => 4 * ((i : Int) + 1)
  | i + 1, k + 1 => minI (minI (wf f i k + f i k) (wf f i (k + 1) + 4)) (wf f (i + 1) k + 4)
theorem wf_zero (f : Nat → Nat → Int) (i : Nat) : wf f i 0 = 4 * (i : Int) := by
  cases i with
  | zero => simp [wf]
  | succ i => rw [wf]; omega
theorem wf_in {f : Nat → Nat → Int} (hf : ∀ i k, 0 ≤ f i k ∧ f i k ≤ 4) : ∀ i k : Nat, 0 ≤ wf f i k ∧ wf f i k ≤ 4 * (max i k : Nat)
  | 0, k => by rw [wf]; omega
  | i + 1, 0 => by rw [wf]; omega
  | i + 1, k + 1 => by
    have h1 := wf_in hf i k; have h2 := wf_in hf i (k + 1); have h3 := wf_in hf (i + 1) k
    have h4 := hf i k
    rw [wf]
    simp only [minI]
    repeat' split
    all_goals omega
def matL (n m : Nat) (g : Nat → Nat → Int) : List PV := (List.range n).map fun i => intsP ((List.range m).map (g i))
theorem matL_len (n m : Nat) (g : Nat → Nat → Int) : (matL n m g).length = n := by simp [matL]
theorem matL_row {n m : Nat} {g : Nat → Nat → Int} {i : Nat} (hi : i < n) : (PV.list (matL n m g)).elem i = intsP ((List.range m).map (g i)) := by
  simp [matL, PV.elem, PV.items, List.getD_eq_getElem?_getD, hi]
theorem range_len (m : Nat) (g : Nat → Int) : ((intsP ((List.range m).map g)).items).length = m := by rw [ints_len]; simp
theorem range_at {m k : Nat} {g : Nat → Int} (hk : k < m) : ((intsP ((List.range m).map g)).elem k).toInt = g k := by
  rw [ints_elem, List.getD_eq_getElem?_getD]; simp [hk]
def updM (g : Nat → Nat → Int) (i k : Nat) (v : Int) : Nat → Nat → Int := fun i' k' => if i' = i ∧ k' = k then v else g i' k'
theorem range_set {m k : Nat} {g : Nat → Int} (v : Int) : ((intsP ((List.range m).map g)).items).set k (intP v) = ((List.range m).map (fun k' => if k' = k then v else g k')).map intP := by
  apply List.ext_getElem?
  intro j
  simp only [intsP, PV.items, List.getElem?_set, List.getElem?_map, List.length_map, List.length_range]
  by_cases hj : k = j
  · subst hj
    by_cases hk : k < m
    · simp [hk]
    · simp [hk]
  · have hj' : ¬ j = k := fun h => hj h.symm
    rw [if_neg hj]
    by_cases hjm : j < m
    · simp [hjm, hj']
    · simp [hjm]
theorem matL_set {n m : Nat} {g : Nat → Nat → Int} {i k : Nat} (hi : i < n) (v : Int) : (matL n m g).set i (PV.list (((intsP ((List.range m).map (g i))).items).set k (intP v))) = matL n m (updM g i k v) := by
  rw [range_set]
  apply List.ext_getElem?
  intro j
  simp only [matL, List.getElem?_set, List.getElem?_map, List.length_map, List.length_range]
  by_cases hj : i = j
  · subst hj
    simp [hi, intsP, updM]
  · have hj' : ¬ j = i := fun h => hj h.symm
    rw [if_neg hj]
    by_cases hjm : j < n
    · simp [hjm, hj', intsP, updM]
    · simp [hjm]
theorem matL_congr {n m : Nat} {g g' : Nat → Nat → Int} (h : ∀ i k, i < n → k < m → g i k = g' i k) : matL n m g = matL n m g' := by
  unfold matL
  refine List.map_congr_left (fun i hi => ?_)
  refine congrArg intsP (List.map_congr_left (fun k hk => ?_))
  exact h i k (by simpa using hi) (by simpa using hk)
theorem ext_oneW (s : ByteArray) (i : Nat) (hi : i < s.size) : (s.extract i (i + 1)).size = 1 ∧ bytesOf (s.extract i (i + 1)) = [bt s i] := by
  have hb : bytesOf (s.extract i (i + 1)) = ((bytesOf s).drop i).take 1 := by
    unfold bytesOf
    rw [ByteArray.data_extract]
    simp [List.map_take, List.map_drop]
  have hl : i < (bytesOf s).length := by rw [bytesOf_len]; exact hi
  have h2 : ((bytesOf s).drop i).take 1 = [bt s i] := by
    rw [bt_bytes, List.getD_eq_getElem?_getD]
    rw [List.drop_eq_getElem_cons hl]
    simp only [List.take_succ_cons, List.take_zero, List.getElem?_eq_getElem hl, Option.getD_some]
  rw [h2] at hb
  refine ⟨?_, hb⟩
  rw [← bytesOf_len, hb]; rfl
def fW (a b : ByteArray) (i k : Nat) : Int := farK (bt a i) (bt b k)
theorem keyFar_at {a b : ByteArray} (ha : lowB (bytesOf a) = true) (hb : lowB (bytesOf b) = true) {i k : Nat} (hi : i < a.size) (hk : k < b.size) : keyFar (a.extract i (i + 1)) (b.extract k (k + 1)) = fW a b i k := by
  obtain ⟨a1, a2⟩ := ext_oneW a i hi
  obtain ⟨b1, b2⟩ := ext_oneW b k hk
  have la : lowB (bytesOf (a.extract i (i + 1))) = true := by
    rw [a2]
    have := List.all_eq_true.1 ha (bt a i) (by rw [bt_bytes, List.getD_eq_getElem?_getD]; have hl : i < (bytesOf a).length := by rw [bytesOf_len]; exact hi
                                               rw [List.getElem?_eq_getElem hl]; exact List.getElem_mem hl)
    simp [lowB]; simpa using this
  have lb : lowB (bytesOf (b.extract k (k + 1))) = true := by
    rw [b2]
    have := List.all_eq_true.1 hb (bt b k) (by rw [bt_bytes, List.getD_eq_getElem?_getD]; have hl : k < (bytesOf b).length := by rw [bytesOf_len]; exact hk
                                               rw [List.getElem?_eq_getElem hl]; exact List.getElem_mem hl)
    simp [lowB]; simpa using this
  unfold keyFar
  rw [if_pos ⟨a1, b1, la, lb⟩]
  unfold fW
  rw [bt_bytes (a.extract i (i + 1)), bt_bytes (b.extract k (k + 1)), a2, b2]
  rfl
theorem fW_in (a b : ByteArray) (i k : Nat) : 0 ≤ fW a b i k ∧ fW a b i k ≤ 4 := farK_in _ _
theorem word_sizeW {s : ByteArray} (h : isWord s = true) : 1 ≤ s.size ∧ s.size ≤ 12 ∧ lowB (bytesOf s) = true := by
  unfold isWord at h
  simp only [Bool.and_eq_true, decide_eq_true_eq] at h
  exact ⟨h.1.1, h.1.2, h.2⟩
theorem cast1 (i : Nat) : ((i + 1 : Nat) : Int) - 1 = (i : Int) := by omega
def ga (f : Nat → Nat → Int) (k : Nat) : Nat → Nat → Int := fun i' k' => if k' = 0 ∨ (i' = 0 ∧ k' < k) then wf f i' k' else 0
def g0 (f : Nat → Nat → Int) : Nat → Nat → Int := fun i' k' => if k' = 0 then wf f i' k' else 0
def curM (f : Nat → Nat → Int) (i k : Nat) : Nat → Nat → Int := fun i' k' => if i' = 0 ∨ k' = 0 ∨ i' < i ∨ (i' = i ∧ k' < k) then wf f i' k' else 0
theorem weigh_l3 (a b : ByteArray) (ha : isWord a = true) (hb : isWord b = true) (i : Nat) (hi : i < a.size) (R : List PV)
    (hR : Ev2 (fun N n => impl_WeighFar.l2 N n a b ((i + 1 + 1 : Nat) : Int) (matL (a.size + 1) (b.size + 1) (curM (fW a b) (i + 1 + 1) 1))) R) : ∀ (c k : Nat), k + c = b.size →
    Ev3 (fun N m0 n => impl_WeighFar.l3 N m0 n a b ((i + 1 : Nat) : Int) ((k + 1 : Nat) : Int) (matL (a.size + 1) (b.size + 1) (curM (fW a b) (i + 1) (k + 1)))) R := by
  obtain ⟨a1, a2, a3⟩ := word_sizeW ha
  obtain ⟨b1, b2, b3⟩ := word_sizeW hb
  intro c
  induction c with
  | zero =>
    intro k hk
    refine Ev3.succ ?_
    have z : ¬ ((k + 1 : Nat) : Int) ≤ (b.size : Int) := by omega
    have wi : IntKind.i64.wrap (((i + 1 : Nat) : Int) + 1) = ((i + 1 + 1 : Nat) : Int) := by rw [wrap_id (by omega) (by omega)]; omega
    have hm : matL (a.size + 1) (b.size + 1) (curM (fW a b) (i + 1) (k + 1)) = matL (a.size + 1) (b.size + 1) (curM (fW a b) (i + 1 + 1) 1) := matL_congr (fun i' k' h1 h2 => by
      unfold curM
      by_cases h : i' = 0 ∨ k' = 0 ∨ i' < i + 1 ∨ (i' = i + 1 ∧ k' < k + 1)
      · rw [if_pos h, if_pos (by omega)]
      · rw [if_neg h, if_neg (by omega)])
    simp only [impl_WeighFar.l3_eq, z, decide_false, Bool.false_eq_true, if_false, wi, hm]
    exact hR.outer
  | succ c ih =>
    intro k hk
    have hkb : k < b.size := by omega
    refine Ev3.succ ?_
    have z : ((k + 1 : Nat) : Int) ≤ (b.size : Int) := by omega
    have wi : IntKind.i64.wrap (((i + 1 : Nat) : Int) - 1) = (i : Int) := by rw [cast1, wrap_id (by omega) (by omega)]
    have wk : IntKind.i64.wrap (((k + 1 : Nat) : Int) - 1) = (k : Int) := by rw [cast1, wrap_id (by omega) (by omega)]
    have wk2 : IntKind.i64.wrap (((k + 1 : Nat) : Int) + 1) = ((k + 1 + 1 : Nat) : Int) := by rw [wrap_id (by omega) (by omega)]; omega
    have q1 : (i : Int) < (((matL (a.size + 1) (b.size + 1) (curM (fW a b) (i + 1) (k + 1))).length : Nat) : Int) := by rw [matL_len]; omega
    have q2 : ((i + 1 : Nat) : Int) < (((matL (a.size + 1) (b.size + 1) (curM (fW a b) (i + 1) (k + 1))).length : Nat) : Int) := by rw [matL_len]; omega
    have r1 := matL_row (n := a.size + 1) (m := b.size + 1) (g := curM (fW a b) (i + 1) (k + 1)) (show i < a.size + 1 by omega)
    have r2 := matL_row (n := a.size + 1) (m := b.size + 1) (g := curM (fW a b) (i + 1) (k + 1)) (show i + 1 < a.size + 1 by omega)
    have q3 : (k : Int) < ((b.size + 1 : Nat) : Int) := by omega
    have q4 : ((k + 1 : Nat) : Int) < ((b.size + 1 : Nat) : Int) := by omega
    have q5 : (i : Int) ≤ ((i + 1 : Nat) : Int) := by omega
    have q6 : ((i + 1 : Nat) : Int) ≤ (a.size : Int) := by omega
    have q7 : (k : Int) ≤ ((k + 1 : Nat) : Int) := by omega
    have t1 : curM (fW a b) (i + 1) (k + 1) i k = wf (fW a b) i k := by unfold curM; rw [if_pos (by omega)]
    have t2 : curM (fW a b) (i + 1) (k + 1) i (k + 1) = wf (fW a b) i (k + 1) := by unfold curM; rw [if_pos (by omega)]
    have t3 : curM (fW a b) (i + 1) (k + 1) (i + 1) k = wf (fW a b) (i + 1) k := by unfold curM; rw [if_pos (by omega)]
    have h1 := wf_in (fW_in a b) i k; have h2 := wf_in (fW_in a b) i (k + 1); have h3 := wf_in (fW_in a b) (i + 1) k
    have h4 := fW_in a b i k
    have w1 : IntKind.i64.wrap (wf (fW a b) i k + fW a b i k) = wf (fW a b) i k + fW a b i k := wrap_id (by omega) (by omega)
    have w2 : IntKind.i64.wrap (wf (fW a b) i (k + 1) + 4) = wf (fW a b) i (k + 1) + 4 := wrap_id (by omega) (by omega)
    have w3 : IntKind.i64.wrap (wf (fW a b) (i + 1) k + 4) = wf (fW a b) (i + 1) k + 4 := wrap_id (by omega) (by omega)
    have hw : minI (minI (wf (fW a b) i k + fW a b i k) (wf (fW a b) i (k + 1) + 4)) (wf (fW a b) (i + 1) k + 4) = wf (fW a b) (i + 1) (k + 1) := by rw [wf]
    have hset := matL_set (n := a.size + 1) (m := b.size + 1) (g := curM (fW a b) (i + 1) (k + 1)) (i := i + 1) (k := k + 1) (by omega) (wf (fW a b) (i + 1) (k + 1))
    have hm : matL (a.size + 1) (b.size + 1) (updM (curM (fW a b) (i + 1) (k + 1)) (i + 1) (k + 1) (wf (fW a b) (i + 1) (k + 1))) = matL (a.size + 1) (b.size + 1) (curM (fW a b) (i + 1) (k + 1 + 1)) := matL_congr (fun i' k' h1 h2 => by
      unfold updM curM
      by_cases he : i' = i + 1 ∧ k' = k + 1
      · rw [if_pos he, if_pos (by omega), he.1, he.2]
      · rw [if_neg he]
        by_cases h : i' = 0 ∨ k' = 0 ∨ i' < i + 1 ∨ (i' = i + 1 ∧ k' < k + 1)
        · rw [if_pos h, if_pos (by omega)]
        · rw [if_neg h, if_neg (by omega)])
    have hkf := implKeyFar_ev (a.extract i (i + 1)) (b.extract k (k + 1)) (by rw [(ext_oneW a i hi).1]; omega) (by rw [(ext_oneW b k hkb).1]; omega)
    rw [keyFar_at a3 b3 hi hkb] at hkf
    simp only [impl_WeighFar.l3_eq, z, wi, wk, wk2, q1, q2, r1, r2, range_len, q3, q4, q5, q6, q7, nn, nat_int, decide_true, if_true]
    refine Ev3.bind hkf ?_
    simp only [headD_one, toInt_sc, range_at (show k < b.size + 1 by omega), range_at (show k + 1 < b.size + 1 by omega), t1, t2, t3, w1, w2, w3, hw, hset, hm]
    exact ih (k + 1) (by omega)
theorem weigh_l2 (a b : ByteArray) (ha : isWord a = true) (hb : isWord b = true) : ∀ (c i : Nat), i + c = a.size →
    Ev2 (fun N n => impl_WeighFar.l2 N n a b ((i + 1 : Nat) : Int) (matL (a.size + 1) (b.size + 1) (curM (fW a b) (i + 1) 1))) [intP (wf (fW a b) a.size b.size)] := by
  obtain ⟨a1, a2, a3⟩ := word_sizeW ha
  obtain ⟨b1, b2, b3⟩ := word_sizeW hb
  intro c
  induction c with
  | zero =>
    intro i hi
    refine Ev2.succ ?_
    have z : ¬ ((i + 1 : Nat) : Int) ≤ (a.size : Int) := by omega
    have q1 : (a.size : Int) < (((matL (a.size + 1) (b.size + 1) (curM (fW a b) (i + 1) 1)).length : Nat) : Int) := by rw [matL_len]; omega
    have r1 := matL_row (n := a.size + 1) (m := b.size + 1) (g := curM (fW a b) (i + 1) 1) (show a.size < a.size + 1 by omega)
    have q3 : (b.size : Int) < ((b.size + 1 : Nat) : Int) := by omega
    have t1 : curM (fW a b) (i + 1) 1 a.size b.size = wf (fW a b) a.size b.size := by unfold curM; rw [if_pos (by omega)]
    simp only [impl_WeighFar.l2_eq, z, decide_false, Bool.false_eq_true, if_false, q1, r1, range_len, q3, range_at (show b.size < b.size + 1 by omega), t1, nn, if_true]
    exact Ev2.now _
  | succ c ih =>
    intro i hi
    refine Ev2.succ ?_
    have z : ((i + 1 : Nat) : Int) ≤ (a.size : Int) := by omega
    have h := weigh_l3 a b ha hb i (by omega) _ (ih (i + 1) (by omega)) b.size 0 (by omega)
    simp only [impl_WeighFar.l2_eq, z, decide_true, if_true]
    exact h.start
theorem weigh_l1 (a b : ByteArray) (ha : isWord a = true) (hb : isWord b = true) : ∀ (c k : Nat), k + c = b.size + 1 →
    Ev2 (fun N n => impl_WeighFar.l1 N n a b ((b.size + 1 : Nat) : Int) (k : Int) (matL (a.size + 1) (b.size + 1) (ga (fW a b) k))) [intP (wf (fW a b) a.size b.size)] := by
  obtain ⟨a1, a2, a3⟩ := word_sizeW ha
  obtain ⟨b1, b2, b3⟩ := word_sizeW hb
  intro c
  induction c with
  | zero =>
    intro k hk
    refine Ev2.succ ?_
    have z : ¬ (k : Int) < ((b.size + 1 : Nat) : Int) := by omega
    have hm : matL (a.size + 1) (b.size + 1) (ga (fW a b) k) = matL (a.size + 1) (b.size + 1) (curM (fW a b) (0 + 1) 1) := matL_congr (fun i' k' h1 h2 => by
      unfold curM ga
      by_cases h : k' = 0 ∨ (i' = 0 ∧ k' < k)
      · rw [if_pos h, if_pos (by omega)]
      · rw [if_neg h, if_neg (by omega)])
    simp only [impl_WeighFar.l1_eq, z, decide_false, Bool.false_eq_true, if_false, hm]
    exact (weigh_l2 a b ha hb a.size 0 (by omega)).after
  | succ c ih =>
    intro k hk
    refine Ev2.succ ?_
    have z : (k : Int) < ((b.size + 1 : Nat) : Int) := by omega
    have q1 : (0 : Int) < (((matL (a.size + 1) (b.size + 1) (ga (fW a b) k)).length : Nat) : Int) := by rw [matL_len]; omega
    have r1 := matL_row (n := a.size + 1) (m := b.size + 1) (g := ga (fW a b) k) (show 0 < a.size + 1 by omega)
    have w1 : IntKind.i64.wrap (4 * (k : Int)) = wf (fW a b) 0 k := by rw [wf]; exact wrap_id (by omega) (by omega)
    have wk : IntKind.i64.wrap ((k : Int) + 1) = ((k + 1 : Nat) : Int) := by rw [wrap_id (by omega) (by omega)]; omega
    have hset := matL_set (n := a.size + 1) (m := b.size + 1) (g := ga (fW a b) k) (i := 0) (k := k) (by omega) (wf (fW a b) 0 k)
    have hm : matL (a.size + 1) (b.size + 1) (updM (ga (fW a b) k) 0 k (wf (fW a b) 0 k)) = matL (a.size + 1) (b.size + 1) (ga (fW a b) (k + 1)) := matL_congr (fun i' k' h1 h2 => by
      unfold updM ga
      by_cases he : i' = 0 ∧ k' = k
      · rw [if_pos he, if_pos (by omega), he.1, he.2]
      · rw [if_neg he]
        by_cases h : k' = 0 ∨ (i' = 0 ∧ k' < k)
        · rw [if_pos h, if_pos (by omega)]
        · rw [if_neg h, if_neg (by omega)])
    simp only [impl_WeighFar.l1_eq, z, q1, r1, range_len, w1, wk, hset, hm, nn, nat_int, decide_true, if_true, Int.le_refl, Int.reduceLE, Nat.le_refl]
    exact ih (k + 1) (by omega)
theorem weigh_l0 (a b : ByteArray) (ha : isWord a = true) (hb : isWord b = true) : ∀ (c i : Nat), i + c = a.size + 1 →
    Ev2 (fun N n => impl_WeighFar.l0 N n a b ((a.size + 1 : Nat) : Int) (i : Int) ((matL i (b.size + 1) (g0 (fW a b))) ++ List.replicate c (PV.list []))) [intP (wf (fW a b) a.size b.size)] := by
  obtain ⟨a1, a2, a3⟩ := word_sizeW ha
  obtain ⟨b1, b2, b3⟩ := word_sizeW hb
  intro c
  induction c with
  | zero =>
    intro i hi
    have hi' : i = a.size + 1 := by omega
    subst hi'
    refine Ev2.succ ?_
    have z : ¬ ((a.size + 1 : Nat) : Int) < ((a.size + 1 : Nat) : Int) := by omega
    have q1 : (0 : Int) < (((matL (a.size + 1) (b.size + 1) (g0 (fW a b))).length : Nat) : Int) := by rw [matL_len]; omega
    have r1 := matL_row (n := a.size + 1) (m := b.size + 1) (g := g0 (fW a b)) (show 0 < a.size + 1 by omega)
    have hm : matL (a.size + 1) (b.size + 1) (g0 (fW a b)) = matL (a.size + 1) (b.size + 1) (ga (fW a b) 0) := matL_congr (fun i' k' h1 h2 => by
      unfold ga g0
      by_cases h : k' = 0
      · rw [if_pos h, if_pos (by omega)]
      · rw [if_neg h, if_neg (by omega)])
    have h := (weigh_l1 a b ha hb (b.size + 1) 0 (by omega)).after
    rw [← hm] at h
    simp only [impl_WeighFar.l0_eq, List.replicate_zero, List.append_nil, z, q1, r1, range_len, decide_false, Bool.false_eq_true, if_false, if_true, Int.le_refl, Int.reduceLE, Nat.le_refl]
    exact h
  | succ c ih =>
    intro i hi
    refine Ev2.succ ?_
    have z : (i : Int) < ((a.size + 1 : Nat) : Int) := by omega
    have wb : IntKind.i64.wrap ((b.size : Int) + 1) = ((b.size + 1 : Nat) : Int) := by rw [wrap_id (by omega) (by omega)]; omega
    have w1 : IntKind.i64.wrap (4 * (i : Int)) = 4 * (i : Int) := wrap_id (by omega) (by omega)
    have wi : IntKind.i64.wrap ((i : Int) + 1) = ((i + 1 : Nat) : Int) := by rw [wrap_id (by omega) (by omega)]; omega
    have c1 : b.size + 1 ≤ 35184372088832 := by omega
    have hlen := matL_len i (b.size + 1) (g0 (fW a b))
    have hset : ∀ x : PV, (matL i (b.size + 1) (g0 (fW a b)) ++ PV.list [] :: List.replicate c (PV.list [])).set i x = matL i (b.size + 1) (g0 (fW a b)) ++ x :: List.replicate c (PV.list []) := fun x => by
      have := set_mid (matL i (b.size + 1) (g0 (fW a b))) (PV.list []) x (List.replicate c (PV.list []))
      rwa [hlen] at this
    have hset2 : ∀ x y : PV, (matL i (b.size + 1) (g0 (fW a b)) ++ x :: List.replicate c (PV.list [])).set i y = matL i (b.size + 1) (g0 (fW a b)) ++ y :: List.replicate c (PV.list []) := fun x y => by
      have := set_mid (matL i (b.size + 1) (g0 (fW a b))) x y (List.replicate c (PV.list []))
      rwa [hlen] at this
    have hel : ∀ x : PV, (PV.list (matL i (b.size + 1) (g0 (fW a b)) ++ x :: List.replicate c (PV.list []))).elem i = x := fun x => by
      simp [PV.elem, PV.items, List.getD_eq_getElem?_getD, hlen]
    have q1 : ∀ x : PV, (i : Int) < (((matL i (b.size + 1) (g0 (fW a b)) ++ x :: List.replicate c (PV.list [])).length : Nat) : Int) := fun x => by simp [hlen]; omega
    have hz : PV.list (List.replicate (b.size + 1) (PV.sc (.int .i64 0))) = intsP ((List.range (b.size + 1)).map fun _ => (0 : Int)) := by simp [intsP, List.map_const']
    have q2 : (0 : Int) < ((b.size + 1 : Nat) : Int) := by omega
    have hrow : (((intsP ((List.range (b.size + 1)).map fun _ => (0 : Int))).items).set 0 (intP (4 * (i : Int)))) = ((List.range (b.size + 1)).map (fun k' => if k' = 0 then 4 * (i : Int) else 0)).map intP := range_set _
    have hfin : matL i (b.size + 1) (g0 (fW a b)) ++ PV.list (((List.range (b.size + 1)).map (fun k' => if k' = 0 then 4 * (i : Int) else 0)).map intP) :: List.replicate c (PV.list []) = matL (i + 1) (b.size + 1) (g0 (fW a b)) ++ List.replicate c (PV.list []) := by
      have : matL (i + 1) (b.size + 1) (g0 (fW a b)) = matL i (b.size + 1) (g0 (fW a b)) ++ [PV.list (((List.range (b.size + 1)).map (fun k' => if k' = 0 then 4 * (i : Int) else 0)).map intP)] := by
        have hr : (List.range (b.size + 1)).map (g0 (fW a b) i) = (List.range (b.size + 1)).map (fun k' => if k' = 0 then 4 * (i : Int) else 0) := List.map_congr_left (fun k' _ => by
          unfold g0
          split
          · rename_i h; subst h; rw [wf_zero]
          · rfl)
        unfold matL
        rw [List.range_succ (n := i), List.map_append, List.map_cons, List.map_nil, hr]
        rfl
      rw [this]; simp
    have hrep : List.replicate (c + 1) (PV.list []) = PV.list [] :: List.replicate c (PV.list []) := List.replicate_succ
    simp only [impl_WeighFar.l0_eq, hrep, z, wb, w1, wi, nn, nat_int, c1, hz, hset, hset2, hel, q1, range_len, q2, hrow, hfin, decide_true, if_true, Int.le_refl, Int.reduceLE, Nat.le_refl]
    exact ih (i + 1) (by omega)
def weighM (a b : ByteArray) : Int := if isWord a = true ∧ isWord b = true then wf (fW a b) a.size b.size else -1
theorem implWeigh_ev (a b : ByteArray) (hsa : a.size ≤ 9223372036854775807) (hsb : b.size ≤ 9223372036854775807) : Ev (fun N => impl_WeighFar.f N [strP a, strP b]) [intP (weighM a b)] := by
  simp only [impl_WeighFar.f_eq, toStr_sc]
  refine Ev.bind (implWord_ev a hsa) ?_
  unfold weighM
  by_cases ha : isWord a = true
  · simp only [ha, stk, if_true, if_false, ite_self, Option.bind_some, bne_self_eq_false, beq_self_eq_true, Int.reduceEq, Nat.reduceEqDiff, List.length_singleton, List.tail_cons, Int.reduceLE, Int.reduceLT]
    refine Ev.bind (implWord_ev b hsb) ?_
    by_cases hb : isWord b = true
    · obtain ⟨a1, a2, a3⟩ := word_sizeW ha
      have wa : IntKind.i64.wrap ((a.size : Int) + 1) = ((a.size + 1 : Nat) : Int) := by rw [wrap_id (by omega) (by omega)]; omega
      have c1 : a.size + 1 ≤ 11728124029610 := by omega
      have h := (weigh_l0 a b ha hb (a.size + 1) 0 (by omega)).diag
      have e : matL 0 (b.size + 1) (g0 (fW a b)) = [] := rfl
      rw [e, List.nil_append] at h
      simp only [hb, wa, nn, nat_int, c1, headD_one, toBool_sc, Bool.not_true, Bool.false_eq_true, if_false, if_true, Int.le_refl, List.length_replicate, and_self]
      exact h
    · simp only [Bool.not_eq_true] at hb
      simp only [hb, stk, if_true, if_false, ite_self, Option.bind_some, bne_self_eq_false, beq_self_eq_true, Int.reduceEq, Nat.reduceEqDiff, List.length_singleton, List.tail_cons, Int.reduceLE, Int.reduceLT]; exact Ev.now _
  · simp only [Bool.not_eq_true] at ha
    simp only [ha, stk, if_true, if_false, ite_self, Option.bind_some, bne_self_eq_false, beq_self_eq_true, Int.reduceEq, Nat.reduceEqDiff, List.length_singleton, List.tail_cons, Int.reduceLE, Int.reduceLT]; exact Ev.now _
theorem matL_more (n m : Nat) (g : Nat → Nat → Int) : matL n m g ++ [PV.list (((List.range m).map (g n)).map intP)] = matL (n + 1) m g := by
  simp [matL, List.range_succ, intsP]
theorem rowL_more (m : Nat) (g : Nat → Int) : ((List.range m).map g).map intP ++ [intP (g m)] = ((List.range (m + 1)).map g).map intP := by
  simp [List.range_succ]
theorem specW_l1 (a b : ByteArray) (ha : isWord a = true) (hb : isWord b = true) (i : Nat) (hi : i ≤ a.size) (R : List PV)
    (hR : Ev2 (fun N n => spec_l10Weigh.l0 N n a b ((i + 1 : Nat) : Int) (matL (i + 1) (b.size + 1) (wf (fW a b)))) R) : ∀ (c k : Nat), k + c = b.size + 1 →
    Ev3 (fun N m0 n => spec_l10Weigh.l1 N m0 n a b (i : Int) (k : Int) (matL i (b.size + 1) (wf (fW a b))) (((List.range k).map (wf (fW a b) i)).map intP)) R := by
  obtain ⟨a1, a2, a3⟩ := word_sizeW ha
  obtain ⟨b1, b2, b3⟩ := word_sizeW hb
  intro c
  induction c with
  | zero =>
    intro k hk
    have hk' : k = b.size + 1 := by omega
    subst hk'
    refine Ev3.succ ?_
    have z : ¬ ((b.size + 1 : Nat) : Int) ≤ (b.size : Int) := by omega
    have wi : IntKind.i64.wrap ((i : Int) + 1) = ((i + 1 : Nat) : Int) := by rw [wrap_id (by omega) (by omega)]; omega
    have c1 : i + 1 ≤ 5864062014805 := by omega
    have hl := matL_len i (b.size + 1) (wf (fW a b))
    have l1 : ∀ x : PV, [x].length = 1 := fun _ => rfl
    simp only [spec_l10Weigh.l1_eq, z, wi, hl, l1, c1, matL_more, decide_false, Bool.false_eq_true, if_false, if_true]
    exact hR.outer
  | succ c ih =>
    intro k hk
    have hkb : k ≤ b.size := by omega
    refine Ev3.succ ?_
    have z : (k : Int) ≤ (b.size : Int) := by omega
    have wk1 : IntKind.i64.wrap ((k : Int) + 1) = ((k + 1 : Nat) : Int) := by rw [wrap_id (by omega) (by omega)]; omega
    have hl1 : (((List.range k).map (wf (fW a b) i)).map intP).length = k := by simp
    have l1 : ∀ x : PV, [x].length = 1 := fun _ => rfl
    have c1 : k + 1 ≤ 17592186044416 := by omega
    have hnext := ih (k + 1) (by omega)
    rw [← rowL_more] at hnext
    cases i with
    | zero =>
      have w1 : IntKind.i64.wrap (4 * (k : Int)) = wf (fW a b) 0 k := by rw [wf]; exact wrap_id (by omega) (by omega)
      have zz : ((0 : Nat) : Int) = 0 := rfl
      simp only [zz] at hnext ⊢
      simp only [spec_l10Weigh.l1_eq, z, wk1, w1, hl1, l1, c1, decide_true, if_true]
      exact hnext
    | succ i =>
      have y0 : ¬ (((i + 1 : Nat) : Int) = 0) := by omega
      cases k with
      | zero =>
        have w1 : IntKind.i64.wrap (4 * ((i + 1 : Nat) : Int)) = wf (fW a b) (i + 1) 0 := by rw [wf_zero]; exact wrap_id (by omega) (by omega)
        have zz : ((0 : Nat) : Int) = 0 := rfl
        simp only [zz] at hnext wk1 z ⊢
        simp only [spec_l10Weigh.l1_eq, z, wk1, w1, hl1, l1, c1, y0, decide_true, decide_false, Bool.false_eq_true, if_false, if_true]
        exact hnext
      | succ k =>
        have y1 : ¬ (((k + 1 : Nat) : Int) = 0) := by omega
        have wi : IntKind.i64.wrap (((i + 1 : Nat) : Int) - 1) = (i : Int) := by rw [cast1, wrap_id (by omega) (by omega)]
        have wk : IntKind.i64.wrap (((k + 1 : Nat) : Int) - 1) = (k : Int) := by rw [cast1, wrap_id (by omega) (by omega)]
        have hl := matL_len (i + 1) (b.size + 1) (wf (fW a b))
        have q1 : (i : Int) < ((i + 1 : Nat) : Int) := by omega
        have r1 := matL_row (n := i + 1) (m := b.size + 1) (g := wf (fW a b)) (show i < i + 1 by omega)
        have q3 : (k : Int) < ((b.size + 1 : Nat) : Int) := by omega
        have q4 : ((k + 1 : Nat) : Int) < ((b.size + 1 : Nat) : Int) := by omega
        have q5 : (i : Int) < (a.size : Int) := by omega
        have q6 : (k : Int) < (b.size : Int) := by omega
        have q7 : (k : Int) < ((k + 1 : Nat) : Int) := by omega
        have h1 := wf_in (fW_in a b) i k; have h2 := wf_in (fW_in a b) i (k + 1); have h3 := wf_in (fW_in a b) (i + 1) k
        have h4 := fW_in a b i k
        have w1 : IntKind.i64.wrap (wf (fW a b) i k + fW a b i k) = wf (fW a b) i k + fW a b i k := wrap_id (by omega) (by omega)
        have w2 : IntKind.i64.wrap (wf (fW a b) i (k + 1) + 4) = wf (fW a b) i (k + 1) + 4 := wrap_id (by omega) (by omega)
        have w3 : IntKind.i64.wrap (wf (fW a b) (i + 1) k + 4) = wf (fW a b) (i + 1) k + 4 := wrap_id (by omega) (by omega)
        have hle : ∀ x y : Int, (if x < y then x else y) = minI x y := fun x y => by
          simp only [minI]; repeat' split
          all_goals omega
        have hw : minI (wf (fW a b) i k + fW a b i k) (minI (wf (fW a b) i (k + 1) + 4) (wf (fW a b) (i + 1) k + 4)) = wf (fW a b) (i + 1) (k + 1) := by
          rw [wf]; simp only [minI]; repeat' split
          all_goals omega
        have he : ((PV.list (((List.range (k + 1)).map (wf (fW a b) (i + 1))).map intP)).elem k).toInt = wf (fW a b) (i + 1) k := range_at (by omega)
        have hf : Ev (fun N => spec_l10Key.f N [.sc (.int .u8 ((a.get! i).toNat : Int)), .sc (.int .u8 ((b.get! k).toNat : Int))]) [intP (fW a b i k)] := by
          have := specKey_far (bt a i) (bt b k)
          rw [get_bt, get_bt]; exact this
        simp only [spec_l10Weigh.l1_eq, z, y0, y1, wi, wk, wk1, hl, hl1, l1, c1, q1, q3, q4, q5, q6, q7, r1, range_len, nn, nat_int, decide_true, decide_false, Bool.false_eq_true, if_false, if_true]
        refine Ev3.bind hf ?_
        simp only [headD_one, toInt_sc, range_at (show k < b.size + 1 by omega), range_at (show k + 1 < b.size + 1 by omega), he, w1, w2, w3, least_val, hle, hw, Option.bind_some]
        exact hnext
theorem specW_l0 (a b : ByteArray) (ha : isWord a = true) (hb : isWord b = true) : ∀ (c i : Nat), i + c = a.size + 1 →
    Ev2 (fun N n => spec_l10Weigh.l0 N n a b (i : Int) (matL i (b.size + 1) (wf (fW a b)))) [intP (wf (fW a b) a.size b.size)] := by
  obtain ⟨a1, a2, a3⟩ := word_sizeW ha
  obtain ⟨b1, b2, b3⟩ := word_sizeW hb
  intro c
  induction c with
  | zero =>
    intro i hi
    have hi' : i = a.size + 1 := by omega
    subst hi'
    refine Ev2.succ ?_
    have z : ¬ ((a.size + 1 : Nat) : Int) ≤ (a.size : Int) := by omega
    have hl := matL_len (a.size + 1) (b.size + 1) (wf (fW a b))
    have q1 : (a.size : Int) < ((a.size + 1 : Nat) : Int) := by omega
    have q2 : (b.size : Int) < ((b.size + 1 : Nat) : Int) := by omega
    have r1 := matL_row (n := a.size + 1) (m := b.size + 1) (g := wf (fW a b)) (show a.size < a.size + 1 by omega)
    simp only [spec_l10Weigh.l0_eq, z, hl, q1, q2, r1, range_len, range_at (show b.size < b.size + 1 by omega), nn, decide_false, Bool.false_eq_true, if_false, if_true]
    exact Ev2.now _
  | succ c ih =>
    intro i hi
    refine Ev2.succ ?_
    have z : (i : Int) ≤ (a.size : Int) := by omega
    have h := specW_l1 a b ha hb i (by omega) _ (ih (i + 1) (by omega)) (b.size + 1) 0 (by omega)
    simp only [spec_l10Weigh.l0_eq, z, decide_true, if_true]
    exact h.start
def AllW (l : List ByteArray) : Prop := ∀ s ∈ l, isWord s = true
theorem near_mid {α : Type} (pre rest : List α) (x : α) : ((([] : List α) ++ (((pre ++ rest).drop 0).take (pre.length - 0))) ++ [x]) ++ (((pre ++ rest).drop pre.length).take ((pre ++ rest).length - pre.length)) = pre ++ x :: rest := by
  simp
theorem nearPut (l : List ByteArray) (t : ByteArray) (hl : l.length < 1000000) (hw : AllW l) (ht : isWord t = true) :
    ∃ l', AllW l' ∧ l.length ≤ l'.length ∧ l'.length ≤ l.length + 1 ∧ 1 ≤ l'.length ∧ Ev (fun N => spec_l1Put.f N [strsP l, strP t]) [strsP l'] := by
  have ins : ∀ pre rest : List ByteArray, l = pre ++ rest → AllW (pre ++ t :: rest) ∧ l.length ≤ (pre ++ t :: rest).length ∧ (pre ++ t :: rest).length ≤ l.length + 1 ∧ 1 ≤ (pre ++ t :: rest).length := by
    intro pre rest h
    subst h
    refine ⟨fun s hs => ?_, by simp, by simp; omega, by simp; omega⟩
    simp only [List.mem_append, List.mem_cons] at hs
    rcases hs with h | rfl | h
    · exact hw s (by simp [h])
    · exact ht
    · exact hw s (by simp [h])
  have mid : ∀ pre rest : List ByteArray, l = pre ++ rest → PV.list (((([] : List PV) ++ (((strsP l).items.drop 0).take (pre.length - 0))) ++ [strP t]) ++ (((strsP l).items.drop pre.length).take ((strsP l).items.length - pre.length))) = strsP (pre ++ t :: rest) := by
    intro pre rest h
    subst h
    have := near_mid (pre.map strP) (rest.map strP) (strP t)
    simp only [List.length_map, ← List.map_append] at this
    simp only [strsP, PV.items]
    rw [show ((pre ++ rest).map strP).length = ((pre ++ rest).map strP).length from rfl] at *
    simp only [List.length_map] at this ⊢
    rw [this]; simp
  have c1 : ∀ pre rest : List ByteArray, l = pre ++ rest → (([] : List PV).length + (((strsP l).items.drop 0).take (pre.length - 0)).length ≤ 8796093022208) = True := by
    intro pre rest h; subst h; simp [strsP, PV.items]; simp at hl; omega
  have c2 : ∀ pre rest : List ByteArray, l = pre ++ rest → ((([] : List PV) ++ (((strsP l).items.drop 0).take (pre.length - 0))).length + [strP t].length ≤ 8796093022208) = True := by
    intro pre rest h; subst h; simp [strsP, PV.items]; simp at hl; omega
  have c3 : ∀ pre rest : List ByteArray, l = pre ++ rest → (((([] : List PV) ++ (((strsP l).items.drop 0).take (pre.length - 0))) ++ [strP t]).length + (((strsP l).items.drop pre.length).take ((strsP l).items.length - pre.length)).length ≤ 8796093022208) = True := by
    intro pre rest h; subst h; simp [strsP, PV.items]; simp at hl; omega
  have c4 : ∀ pre rest : List ByteArray, l = pre ++ rest → (((pre.length : Nat) : Int) ≤ (((strsP l).items.length : Nat) : Int)) = True := by
    intro pre rest h; subst h; simp [strsP, PV.items]; omega
  have key : ∀ rest pre : List ByteArray, l = pre ++ rest → ∃ l', AllW l' ∧ l.length ≤ l'.length ∧ l'.length ≤ l.length + 1 ∧ 1 ≤ l'.length ∧ Ev2 (fun N n => spec_l1Put.l0 N n t (pre.length : Int) (strsP l)) [strsP l'] := by
    intro rest
    induction rest with
    | nil =>
      intro pre hp
      obtain ⟨i1, i2, i3, i4⟩ := ins pre [] hp
      refine ⟨_, i1, i2, i3, i4, Ev2.succ ?_⟩
      have z : ¬ ((pre.length : Nat) : Int) < (((strsP l).items.length : Nat) : Int) := by rw [strs_len]; exact at_end hp
      simp only [spec_l1Put.l0_eq, z, nn, nat_int, decide_false, Bool.false_eq_true, if_false, if_true, c1 pre [] hp, c2 pre [] hp, c3 pre [] hp, c4 pre [] hp, mid pre [] hp]
      exact Ev2.now _
    | cons c rest ih =>
      intro pre hp
      have z : ((pre.length : Nat) : Int) < (((strsP l).items.length : Nat) : Int) := by rw [strs_len]; exact at_lt hp
      have he : ((strsP l).elem pre.length).toStr = c := by rw [strs_elem]; exact at_getD hp
      by_cases hb : Op.bytesLess c.toList t.toList = true
      · obtain ⟨l', i1, i2, i3, i4, i5⟩ := ih (pre ++ [c]) (at_step hp)
        refine ⟨l', i1, i2, i3, i4, Ev2.succ ?_⟩
        simp only [spec_l1Put.l0_eq, z, nn, nat_int, he, hb, decide_true, if_true, at_next hp (by omega)]
        exact i5
      · by_cases ht2 : c.toList = t.toList
        · refine ⟨l, hw, Nat.le_refl _, by omega, by have := at_ltN hp; omega, Ev2.succ ?_⟩
          simp only [spec_l1Put.l0_eq, z, nn, nat_int, he, hb, ht2, decide_true, if_true, Bool.false_eq_true, if_false]
          simp only [ht2] at hb
          simp only [hb, Bool.false_eq_true, if_false]
          exact Ev2.now _
        · obtain ⟨i1, i2, i3, i4⟩ := ins pre (c :: rest) hp
          refine ⟨_, i1, i2, i3, i4, Ev2.succ ?_⟩
          simp only [spec_l1Put.l0_eq, z, nn, nat_int, he, hb, ht2, decide_true, decide_false, Bool.false_eq_true, if_false, if_true, c1 pre (c :: rest) hp, c2 pre (c :: rest) hp, c3 pre (c :: rest) hp, c4 pre (c :: rest) hp, mid pre (c :: rest) hp]
          exact Ev2.now _
  obtain ⟨l', h1, h2, h3, h4, h5⟩ := key l [] rfl
  refine ⟨l', h1, h2, h3, h4, ?_⟩
  simp only [spec_l1Put.f_eq, toStr_sc]
  exact h5.diag
theorem nearStep (l : List ByteArray) (s t : ByteArray) (hl : l.length < 1000000) (hw : AllW l) (hsz : t.size ≤ 1000) :
    ∃ l', AllW l' ∧ l.length ≤ l'.length ∧ l'.length ≤ l.length + 1 ∧ (t ≠ s → isWord t = true → 1 ≤ l'.length) ∧ Ev (fun N => spec_l1Step.f N [strsP l, strP s, strP t]) [strsP l'] := by
  by_cases h : t = s
  · subst h
    refine ⟨l, hw, Nat.le_refl _, by omega, fun h => absurd rfl h, ?_⟩
    simp only [spec_l1Step.f_eq, stk, if_true, if_false, ite_self, Option.bind_some, bne_self_eq_false, beq_self_eq_true, Int.reduceEq, Nat.reduceEqDiff, List.length_singleton, List.tail_cons, Int.reduceLE, Int.reduceLT]
    exact Ev.now _
  · by_cases hwt : isWord t = true
    · obtain ⟨l', h1, h2, h3, h4, h5⟩ := nearPut l t hl hw hwt
      refine ⟨l', h1, h2, h3, fun _ _ => h4, ?_⟩
      have hn : ¬ t.toList = s.toList := fun e => h (by simpa [toList_inj] using e)
      simp only [spec_l1Step.f_eq, toStr_sc, hn, decide_false, if_true]
      refine Ev.bind (specWord_ev t (by omega)) ?_
      simp only [hwt, stk, if_true, if_false, ite_self, Option.bind_some, bne_self_eq_false, beq_self_eq_true, Int.reduceEq, Nat.reduceEqDiff, List.length_singleton, List.tail_cons, Int.reduceLE, Int.reduceLT]
      refine Ev.bind h5 ?_
      simp only [stk, if_true, if_false, ite_self, Option.bind_some, bne_self_eq_false, beq_self_eq_true, Int.reduceEq, Nat.reduceEqDiff, List.length_singleton, List.tail_cons, Int.reduceLE, Int.reduceLT]
      exact Ev.now _
    · refine ⟨l, hw, Nat.le_refl _, by omega, fun _ h => absurd h hwt, ?_⟩
      have hn : ¬ t.toList = s.toList := fun e => h (by simpa [toList_inj] using e)
      simp only [spec_l1Step.f_eq, toStr_sc, hn, decide_false, if_true]
      refine Ev.bind (specWord_ev t (by omega)) ?_
      simp only [Bool.not_eq_true] at hwt
      simp only [hwt, stk, if_true, if_false, ite_self, Option.bind_some, bne_self_eq_false, beq_self_eq_true, Int.reduceEq, Nat.reduceEqDiff, List.length_singleton, List.tail_cons, Int.reduceLE, Int.reduceLT]
      exact Ev.now _
theorem i32_id {n : Int} (h0 : -2147483648 ≤ n) (h1 : n < 2147483648) : IntKind.i32.wrap n = n := by
  have h : IntKind.i32.wrap n = if (n % 4294967296) ≥ 2147483648 then n % 4294967296 - 4294967296 else n % 4294967296 := by
    simp [IntKind.wrap, IntKind.signed, IntKind.bits]
  rw [h]; split <;> omega
def cbL (c : Int) : ByteArray := bytesOfL [PV.sc (.int .u8 (IntKind.u8.wrap c))]
theorem cbL_size (c : Int) : (cbL c).size = 1 := by simp [cbL, bytesOfL, ByteArray.size]
def insL (s : ByteArray) (i : Nat) (c : Int) : ByteArray := ((s.extract 0 i) ++ cbL c) ++ s.extract i s.size
def repL (s : ByteArray) (i : Nat) (c : Int) : ByteArray := ((s.extract 0 i) ++ cbL c) ++ s.extract (i + 1) s.size
def delL (s : ByteArray) (i : Nat) : ByteArray := s.extract 0 i ++ s.extract (i + 1) s.size
def swpL (s : ByteArray) (i : Nat) : ByteArray := ((s.extract 0 i ++ s.extract (i + 1) (i + 2)) ++ s.extract i (i + 1)) ++ s.extract (i + 2) s.size
def goodL (s : ByteArray) (i : Nat) (c : Int) : Prop := (insL s i c ≠ s ∧ isWord (insL s i c) = true) ∨ (i < s.size ∧ repL s i c ≠ s ∧ isWord (repL s i c) = true)
theorem near_after (s : ByteArray) (hsw : s.size ≤ 12) (i : Nat) (hi : i ≤ s.size) (B : Nat) (hB : B < 1000000) (Z : Nat)
    (hR : ∀ l, AllW l → l.length + Z ≤ B → ∃ l', AllW l' ∧ l.length ≤ l'.length ∧ l'.length ≤ B ∧ Ev2 (fun N n => spec_l1Near.l3 N n s ((i + 1 : Nat) : Int) (strsP l)) [strsP l']) :
    ∀ (k : Nat) (c : Int), c + k = 123 → 97 ≤ c → ∀ l, AllW l → l.length + 2 * k + 2 + Z ≤ B → ∃ l', AllW l' ∧ l.length ≤ l'.length ∧ l'.length ≤ B ∧ (∀ c', c ≤ c' → c' ≤ 122 → goodL s i c' → 1 ≤ l'.length) ∧
      Ev3 (fun N m0 n => spec_l1Near.l2 N m0 n s (i : Int) c (strsP l)) [strsP l'] := by
  have se : ∀ x y, (s.extract x y).size ≤ 12 := fun x y => by rw [ByteArray.size_extract]; omega
  have d1 : ∀ x y z w, ((s.extract x y).size + (s.extract z w).size ≤ 9223372036854775807) = True := fun x y z w => by
    have := se x y; have := se z w; exact eq_true (by omega)
  have d2 : ∀ x y c, ((s.extract x y).size + (cbL c).size ≤ 9223372036854775807) = True := fun x y c => by
    have := se x y; have := cbL_size c; exact eq_true (by omega)
  have d3 : ∀ x y c z w, ((s.extract x y ++ cbL c).size + (s.extract z w).size ≤ 9223372036854775807) = True := fun x y c z w => by
    have := se x y; have := se z w; have := cbL_size c; rw [ByteArray.size_append]; exact eq_true (by omega)
  have d4 : ∀ x y z w u v, ((s.extract x y ++ s.extract z w).size + (s.extract u v).size ≤ 9223372036854775807) = True := fun x y z w u v => by
    have := se x y; have := se z w; have := se u v; rw [ByteArray.size_append]; exact eq_true (by omega)
  have d5 : ∀ x y z w u v p q, (((s.extract x y ++ s.extract z w) ++ s.extract u v).size + (s.extract p q).size ≤ 9223372036854775807) = True := fun x y z w u v p q => by
    have := se x y; have := se z w; have := se u v; have := se p q; rw [ByteArray.size_append, ByteArray.size_append]; exact eq_true (by omega)
  have w1 : IntKind.i64.wrap ((i : Int) + 1) = ((i + 1 : Nat) : Int) := by rw [wrap_id (by omega) (by omega)]; omega
  have w2 : IntKind.i64.wrap ((i : Int) + 2) = ((i + 2 : Nat) : Int) := by rw [wrap_id (by omega) (by omega)]; omega
  have hle : (i : Int) ≤ (s.size : Int) := by omega
  have insz : ∀ c, (insL s i c).size ≤ 1000 := fun c => by
    have := se 0 i; have := se i s.size; have := cbL_size c; unfold insL; rw [ByteArray.size_append, ByteArray.size_append]; omega
  have repz : ∀ c, (repL s i c).size ≤ 1000 := fun c => by
    have := se 0 i; have := se (i + 1) s.size; have := cbL_size c; unfold repL; rw [ByteArray.size_append, ByteArray.size_append]; omega
  have delz : (delL s i).size ≤ 1000 := by
    have := se 0 i; have := se (i + 1) s.size; unfold delL; rw [ByteArray.size_append]; omega
  have swpz : (swpL s i).size ≤ 1000 := by
    have := se 0 i; have := se (i + 1) (i + 2); have := se i (i + 1); have := se (i + 2) s.size; unfold swpL; rw [ByteArray.size_append, ByteArray.size_append, ByteArray.size_append]; omega
  intro k
  induction k with
  | zero =>
    intro c hc hc2 l hw hl
    have z : ¬ c ≤ 122 := by omega
    have none : ∀ c', c ≤ c' → c' ≤ 122 → goodL s i c' → ∀ x : Nat, 1 ≤ x := fun c' h1 h2 _ => by omega
    by_cases hlt : i < s.size
    · obtain ⟨la, a1, a2, a3, -, a4⟩ := nearStep l s (delL s i) (by omega) hw delz
      have hlt1 : (i : Int) < (s.size : Int) := by omega
      have hle1 : ((i + 1 : Nat) : Int) ≤ (s.size : Int) := by omega
      by_cases h2 : i + 1 < s.size
      · obtain ⟨lb, b1, b2, b3, -, b4⟩ := nearStep la s (swpL s i) (by omega) a1 swpz
        obtain ⟨l', e1, e2, e3, e4⟩ := hR lb b1 (by omega)
        refine ⟨l', e1, by omega, e3, fun c' p q r => none c' p q r _, Ev3.succ ?_⟩
        have h3 : ((i + 1 : Nat) : Int) < (s.size : Int) := by omega
        have h4 : ((i + 2 : Nat) : Int) ≤ (s.size : Int) := by omega
        have h5 : ((i + 1 : Nat) : Int) ≤ ((i + 2 : Nat) : Int) := by omega
        have h6 : (i : Int) ≤ ((i + 1 : Nat) : Int) := by omega
        unfold delL at a4; unfold swpL at b4
        simp only [spec_l1Near.l2_eq, z, hlt1, hle, hle1, h3, h4, h5, h6, w1, w2, d1, d2, d3, d4, d5, nn, nat_int, decide_true, decide_false, Bool.false_eq_true, if_false, if_true]
        refine Ev3.bind a4 ?_
        simp only [headD_one]
        refine Ev3.bind b4 ?_
        simp only [headD_one]
        exact e4.outer
      · obtain ⟨l', e1, e2, e3, e4⟩ := hR la a1 (by omega)
        refine ⟨l', e1, by omega, e3, fun c' p q r => none c' p q r _, Ev3.succ ?_⟩
        have h3 : ¬ ((i + 1 : Nat) : Int) < (s.size : Int) := by omega
        unfold delL at a4
        simp only [spec_l1Near.l2_eq, z, hlt1, hle, hle1, h3, w1, w2, d1, d2, d3, d4, d5, nn, nat_int, decide_true, decide_false, Bool.false_eq_true, if_false, if_true]
        refine Ev3.bind a4 ?_
        simp only [headD_one]
        exact e4.outer
    · obtain ⟨l', e1, e2, e3, e4⟩ := hR l hw (by omega)
      refine ⟨l', e1, e2, e3, fun c' p q r => none c' p q r _, Ev3.succ ?_⟩
      have hlt1 : ¬ (i : Int) < (s.size : Int) := by omega
      have h3 : ¬ ((i + 1 : Nat) : Int) < (s.size : Int) := by omega
      simp only [spec_l1Near.l2_eq, z, hlt1, h3, w1, decide_false, Bool.false_eq_true, if_false]
      exact e4.outer
  | succ k ih =>
    intro c hc hc2 l hw hl
    have z : c ≤ 122 := by omega
    have wc : IntKind.i32.wrap (c + 1) = c + 1 := i32_id (by omega) (by omega)
    obtain ⟨la, a1, a2, a3, a5, a4⟩ := nearStep l s (insL s i c) (by omega) hw (insz c)
    have hcb : bytesOfL [PV.sc (.int .u8 (IntKind.u8.wrap c))] = cbL c := rfl
    by_cases hlt : i < s.size
    · have hlt1 : (i : Int) < (s.size : Int) := by omega
      have hle1 : ((i + 1 : Nat) : Int) ≤ (s.size : Int) := by omega
      obtain ⟨lb, b1, b2, b3, b5, b4⟩ := nearStep la s (repL s i c) (by omega) a1 (repz c)
      obtain ⟨l', e1, e2, e3, e5, e4⟩ := ih (c + 1) (by omega) (by omega) lb b1 (by omega)
      refine ⟨l', e1, by omega, e3, fun c' p q r => ?_, Ev3.succ ?_⟩
      · by_cases hcc : c' = c
        · subst hcc
          rcases r with r | r
          · have := a5 r.1 r.2; omega
          · have := b5 r.2.1 r.2.2; omega
        · exact e5 c' (by omega) q r
      · unfold insL at a4; unfold repL at b4
        simp only [spec_l1Near.l2_eq, hcb, z, hlt1, hle, hle1, wc, w1, d1, d2, d3, nn, nat_int, decide_true, if_true]
        refine Ev3.bind a4 ?_
        simp only [headD_one]
        refine Ev3.bind b4 ?_
        simp only [headD_one]
        exact e4
    · have hlt1 : ¬ (i : Int) < (s.size : Int) := by omega
      obtain ⟨l', e1, e2, e3, e5, e4⟩ := ih (c + 1) (by omega) (by omega) la a1 (by omega)
      refine ⟨l', e1, by omega, e3, fun c' p q r => ?_, Ev3.succ ?_⟩
      · by_cases hcc : c' = c
        · subst hcc
          rcases r with r | r
          · have := a5 r.1 r.2; omega
          · exact absurd r.1 hlt
        · exact e5 c' (by omega) q r
      · unfold insL at a4
        simp only [spec_l1Near.l2_eq, hcb, z, hlt1, hle, wc, d1, d2, d3, nn, nat_int, decide_true, decide_false, Bool.false_eq_true, if_false, if_true]
        refine Ev3.bind a4 ?_
        simp only [headD_one]
        exact e4
theorem near_l3 (s : ByteArray) (hsw : s.size ≤ 12) (B : Nat) (hB : B < 1000000) : ∀ (d i : Nat), i + d = s.size + 1 → ∀ l, AllW l → l.length + 100 * d ≤ B →
    ∃ l', AllW l' ∧ l.length ≤ l'.length ∧ l'.length ≤ B ∧ Ev2 (fun N n => spec_l1Near.l3 N n s (i : Int) (strsP l)) [strsP l'] := by
  intro d
  induction d with
  | zero =>
    intro i hi l hw hl
    refine ⟨l, hw, Nat.le_refl _, by omega, Ev2.succ ?_⟩
    have z : ¬ (i : Int) ≤ (s.size : Int) := by omega
    simp only [spec_l1Near.l3_eq, z, decide_false, Bool.false_eq_true, if_false]
    exact Ev2.now _
  | succ d ih =>
    intro i hi l hw hl
    obtain ⟨l', h1, h2, h3, -, h4⟩ := near_after s hsw i (by omega) B hB (100 * d) (fun l0 hw0 hl0 => ih (i + 1) (by omega) l0 hw0 hl0) 26 97 (by omega) (by omega) l hw (by omega)
    refine ⟨l', h1, h2, h3, Ev2.succ ?_⟩
    have z : (i : Int) ≤ (s.size : Int) := by omega
    simp only [spec_l1Near.l3_eq, z, decide_true, if_true]
    exact h4.start
theorem near_l0 (s : ByteArray) (hsw : s.size ≤ 12) (B : Nat) (hB : B < 1000000) (i : Nat) (hi : i ≤ s.size) (l : List ByteArray) (hw : AllW l) (hl : l.length + 100 * 14 ≤ B) :
    ∃ l', AllW l' ∧ l'.length ≤ B ∧ (∀ c', 97 ≤ c' → c' ≤ 122 → goodL s i c' → 1 ≤ l'.length) ∧ Ev2 (fun N n => spec_l1Near.l0 N n s (i : Int) (l.map strP)) [strsP l'] := by
  have se : ∀ x y, (s.extract x y).size ≤ 12 := fun x y => by rw [ByteArray.size_extract]; omega
  have d2 : ∀ x y c, ((s.extract x y).size + (cbL c).size ≤ 9223372036854775807) = True := fun x y c => by
    have := se x y; have := cbL_size c; exact eq_true (by omega)
  have d3 : ∀ x y c z w, ((s.extract x y ++ cbL c).size + (s.extract z w).size ≤ 9223372036854775807) = True := fun x y c z w => by
    have := se x y; have := se z w; have := cbL_size c; rw [ByteArray.size_append]; exact eq_true (by omega)
  have w1 : IntKind.i64.wrap ((i : Int) + 1) = ((i + 1 : Nat) : Int) := by rw [wrap_id (by omega) (by omega)]; omega
  have hle : (i : Int) ≤ (s.size : Int) := by omega
  have insz : ∀ c, (insL s i c).size ≤ 1000 := fun c => by
    have := se 0 i; have := se i s.size; have := cbL_size c; unfold insL; rw [ByteArray.size_append, ByteArray.size_append]; omega
  have repz : ∀ c, (repL s i c).size ≤ 1000 := fun c => by
    have := se 0 i; have := se (i + 1) s.size; have := cbL_size c; unfold repL; rw [ByteArray.size_append, ByteArray.size_append]; omega
  have hcb : bytesOfL [PV.sc (.int .u8 (IntKind.u8.wrap 97))] = cbL 97 := rfl
  have z : (97 : Int) ≤ 122 := by omega
  have wc : IntKind.i32.wrap (97 + 1) = 98 := i32_id (by omega) (by omega)
  have wc' : IntKind.i32.wrap 98 = 98 := i32_id (by omega) (by omega)
  have hR := near_l3 s hsw B hB (s.size - i) (i + 1) (by omega)
  obtain ⟨la, a1, a2, a3, a5, a4⟩ := nearStep l s (insL s i 97) (by omega) hw (insz 97)
  have hl1 : PV.list (l.map strP) = strsP l := rfl
  by_cases hlt : i < s.size
  · have hlt1 : (i : Int) < (s.size : Int) := by omega
    have hle1 : ((i + 1 : Nat) : Int) ≤ (s.size : Int) := by omega
    obtain ⟨lb, b1, b2, b3, b5, b4⟩ := nearStep la s (repL s i 97) (by omega) a1 (repz 97)
    obtain ⟨l', e1, e2, e3, e5, e4⟩ := near_after s hsw i hi B hB (100 * (s.size - i)) hR 25 98 (by omega) (by omega) lb b1 (by omega)
    refine ⟨l', e1, e3, fun c' p q r => ?_, Ev2.succ ?_⟩
    · by_cases hcc : c' = 97
      · subst hcc
        rcases r with r | r
        · have := a5 r.1 r.2; omega
        · have := b5 r.2.1 r.2.2; omega
      · exact e5 c' (by omega) q r
    · simp only [spec_l1Near.l0_eq, hle, decide_true, if_true]
      refine Ev3.start (g := fun N m0 n => spec_l1Near.l1 N m0 n s (i : Int) 97 (l.map strP)) (Ev3.succ ?_)
      unfold insL at a4; unfold repL at b4
      simp only [spec_l1Near.l1_eq, hcb, hl1, z, hlt1, hle, hle1, wc, w1, d2, d3, nn, nat_int, decide_true, if_true]
      refine Ev3.bind a4 ?_
      simp only [headD_one]
      refine Ev3.bind b4 ?_
      simp only [headD_one, wc, wc', Int.reduceAdd]
      exact e4
  · have hlt1 : ¬ (i : Int) < (s.size : Int) := by omega
    obtain ⟨l', e1, e2, e3, e5, e4⟩ := near_after s hsw i hi B hB (100 * (s.size - i)) hR 25 98 (by omega) (by omega) la a1 (by omega)
    refine ⟨l', e1, e3, fun c' p q r => ?_, Ev2.succ ?_⟩
    · by_cases hcc : c' = 97
      · subst hcc
        rcases r with r | r
        · have := a5 r.1 r.2; omega
        · exact absurd r.1 hlt
      · exact e5 c' (by omega) q r
    · simp only [spec_l1Near.l0_eq, hle, decide_true, if_true]
      refine Ev3.start (g := fun N m0 n => spec_l1Near.l1 N m0 n s (i : Int) 97 (l.map strP)) (Ev3.succ ?_)
      unfold insL at a4
      simp only [spec_l1Near.l1_eq, hcb, hl1, z, hlt1, hle, wc, d2, d3, nn, nat_int, decide_true, decide_false, Bool.false_eq_true, if_false, if_true]
      refine Ev3.bind a4 ?_
      simp only [headD_one, wc, wc', Int.reduceAdd]
      exact e4
theorem bytes_app (a b : ByteArray) : bytesOf (a ++ b) = bytesOf a ++ bytesOf b := by simp [bytesOf, ByteArray.data_append]
theorem bytes_extN (s : ByteArray) (i j : Nat) : bytesOf (s.extract i j) = ((bytesOf s).drop i).take (j - i) := by
  unfold bytesOf
  rw [ByteArray.data_extract]
  simp [List.map_take, List.map_drop]
theorem cbL_bytes {c : Int} (h : 97 ≤ c ∧ c ≤ 122) : bytesOf (cbL c) = [c] := by
  have hw : IntKind.u8.wrap c = c := by
    have : IntKind.u8.wrap c = c % 256 := by simp [IntKind.wrap, IntKind.signed, IntKind.bits]
    rw [this]; omega
  have e : (cbL c).data.toList = [UInt8.ofNat c.toNat] := by simp [cbL, bytesOfL, hw, PV.toInt]
  unfold bytesOf
  rw [e]
  simp
  omega
theorem isWord_of {s : ByteArray} (h1 : 1 ≤ s.size) (h2 : s.size ≤ 12) (h3 : lowB (bytesOf s) = true) : isWord s = true := by
  have h4 : ((bytesOf s).all fun c => decide (97 ≤ c ∧ c ≤ 122)) = true := h3
  unfold isWord; rw [h4]; simp [h1, h2]
theorem word_parts {s : ByteArray} (h : isWord s = true) : 1 ≤ s.size ∧ s.size ≤ 12 ∧ lowB (bytesOf s) = true := by
  unfold isWord at h
  simp only [Bool.and_eq_true, decide_eq_true_eq] at h
  exact ⟨h.1.1, h.1.2, h.2⟩
theorem good_some {s : ByteArray} (h : isWord s = true) : ∃ c, 97 ≤ c ∧ c ≤ 122 ∧ goodL s 0 c := by
  obtain ⟨s1, s2, s3⟩ := word_parts h
  have hb : (bytesOf s).length = s.size := bytesOf_len s
  by_cases h12 : s.size < 12
  · have hins : bytesOf (insL s 0 97) = 97 :: bytesOf s := by
      unfold insL
      rw [bytes_app, bytes_app, bytes_extN, bytes_extN, cbL_bytes (by omega)]
      have : List.take (s.size - 0) (bytesOf s) = bytesOf s := List.take_of_length_le (by omega)
      simp [this, ← hb]
    have hz : (insL s 0 97).size = s.size + 1 := by rw [← bytesOf_len, hins, List.length_cons, hb]
    refine ⟨97, by omega, by omega, .inl ⟨fun e => by rw [e] at hz; omega, isWord_of (by omega) (by omega) ?_⟩⟩
    rw [hins, lowB_cons, s3]; rfl
  · match hs : bytesOf s, hb with
    | [], hb => simp at hb; omega
    | x :: r, hb =>
      have key : ∀ c, 97 ≤ c → c ≤ 122 → c ≠ x → goodL s 0 c := fun c c1 c2 hc => by
        have hrep : bytesOf (repL s 0 c) = c :: r := by
          unfold repL
          rw [bytes_app, bytes_app, bytes_extN, bytes_extN, cbL_bytes ⟨c1, c2⟩, hs]
          have hr : r.length + 1 = s.size := by simpa using hb
          have : List.take (s.size - (0 + 1)) r = r := List.take_of_length_le (by omega)
          simp [this]
        have hz : (repL s 0 c).size = s.size := by rw [← bytesOf_len, hrep, ← hb]; rfl
        refine .inr ⟨by omega, fun e => ?_, isWord_of (by omega) (by omega) ?_⟩
        · rw [e, hs] at hrep; exact hc (List.cons.inj hrep).1.symm
        · rw [hs, lowB_cons] at s3
          rw [hrep, lowB_cons]
          simp only [Bool.and_eq_true] at s3
          simp [s3.2, c1, c2]
      by_cases hx : (97 : Int) = x
      · exact ⟨98, by omega, by omega, key 98 (by omega) (by omega) (by omega)⟩
      · exact ⟨97, by omega, by omega, key 97 (by omega) (by omega) hx⟩
theorem near_ev {s : ByteArray} (h : isWord s = true) : ∃ l, AllW l ∧ 1 ≤ l.length ∧ l.length ≤ 2000 ∧ Ev (fun N => spec_l1Near.f N [strP s]) [strsP l] := by
  have hh := h
  unfold isWord at hh
  simp only [Bool.and_eq_true, decide_eq_true_eq] at hh
  obtain ⟨⟨s1, s2⟩, s3⟩ := hh
  obtain ⟨l', h1, h2, h3, h4⟩ := near_l0 s s2 2000 (by omega) 0 (by omega) [] (fun x hx => by simp at hx) (by simp)
  obtain ⟨c, c1, c2, c3⟩ := good_some h
  refine ⟨l', h1, h3 c c1 c2 c3, h2, ?_⟩
  simp only [spec_l1Near.f_eq, toStr_sc]
  exact h4.diag
theorem draw_place {b : PV} (hb : Code1 b) (p : Nat) (hp : p < 900000000) {l : List ByteArray} (hw : AllW l) (h1 : 1 ≤ l.length) (h2 : l.length ≤ 2000) :
    ∃ (k k' : Int) (t : ByteArray), isWord t = true ∧ (∀ N, spec_l1Rd_pick.f N [rdP b (p : Int), intP 256] = some [intP k, rdP b ((p + 1 : Nat) : Int)]) ∧ (∀ N, spec_l1Rd_pick.f N [rdP b ((p + 1 : Nat) : Int), intP 256] = some [intP k', rdP b ((p + 2 : Nat) : Int)]) ∧
      ((((strsP l).items).length : Int) = 0) = False ∧ (0 ≤ (Int.tmod (IntKind.i64.wrap ((IntKind.i64.wrap (k * 256)) + k')) (((strsP l).items).length : Int))) = True ∧ ((Int.tmod (IntKind.i64.wrap ((IntKind.i64.wrap (k * 256)) + k')) (((strsP l).items).length : Int)) < (((strsP l).items).length : Int)) = True ∧
      ((strsP l).elem ((Int.tmod (IntKind.i64.wrap ((IntKind.i64.wrap (k * 256)) + k')) (((strsP l).items).length : Int)).toNat)).toStr = t := by
  obtain ⟨k, hk, hf⟩ := pick_ev hb (p := (p : Int)) (n := 256) (by omega) (by omega)
  obtain ⟨k', hk', hf'⟩ := pick_ev hb (p := ((p + 1 : Nat) : Int)) (n := 256) (by omega) (by omega)
  have e1 : (p : Int) + 1 = ((p + 1 : Nat) : Int) := by omega
  have e2 : ((p + 1 : Nat) : Int) + 1 = ((p + 2 : Nat) : Int) := by omega
  rw [e1] at hf
  rw [e2] at hf'
  have w1 : IntKind.i64.wrap (k * 256) = k * 256 := wrap_id (by omega) (by omega)
  have w2 : IntKind.i64.wrap (k * 256 + k') = k * 256 + k' := wrap_id (by omega) (by omega)
  have ht := tmod_in (x := k * 256 + k') (n := (l.length : Int)) (by omega) (by omega)
  obtain ⟨j, hj⟩ := Int.eq_ofNat_of_zero_le ht.1
  have hjl : j < l.length := by omega
  refine ⟨k, k', l.getD j ByteArray.empty, ?_, hf, hf', ?_, ?_, ?_, ?_⟩
  · rw [List.getD_eq_getElem?_getD, List.getElem?_eq_getElem hjl]; exact hw _ (List.getElem_mem hjl)
  · rw [strs_len]; exact eq_false (by omega)
  · rw [strs_len, w1, w2]; exact eq_true ht.1
  · rw [strs_len, w1, w2]; exact eq_true ht.2
  · rw [strs_len, w1, w2, hj, strs_elem, nat_int]
theorem other_ev {b : PV} (hb : Code1 b) (p : Nat) (hp : p < 700000000) (s : ByteArray) (hs : s.size ≤ 1000) : ∃ (r : ByteArray) (q : Nat), q ≤ p + 20 ∧ r.size ≤ 13 ∧ Ev (fun N => spec_l13Other.f N [rdP b (p : Int), strP s]) [strP r, rdP b (q : Int)] := by
  simp only [spec_l13Other.f_eq, rd_f0, rd_f1, rd_agg, toStr_sc, toInt_sc]
  by_cases hw : isWord s = true
  · obtain ⟨k, hk, hf⟩ := pick_ev hb (p := (p : Int)) (n := 2) (by omega) (by omega)
    have e1 : (p : Int) + 1 = ((p + 1 : Nat) : Int) := by omega
    rw [e1] at hf
    by_cases k0 : k = 0
    · obtain ⟨l, l1, l2, l3, l4⟩ := near_ev hw
      obtain ⟨a, a', t, ht, f1, f2, x1, x2, x3, x4⟩ := draw_place hb (p + 1) (by omega) l1 l2 l3
      obtain ⟨m, hm, hg⟩ := pick_ev hb (p := ((p + 1 + 2 : Nat) : Int)) (n := 3) (by omega) (by omega)
      have e2 : ((p + 1 + 2 : Nat) : Int) + 1 = ((p + 4 : Nat) : Int) := by omega
      rw [e2] at hg
      obtain ⟨t1, t2, t3⟩ := word_parts ht
      by_cases m0 : m = 0
      · obtain ⟨l', m1, m2, m3, m4⟩ := near_ev ht
        obtain ⟨c, c', u, hu, g1, g2, y1, y2, y3, y4⟩ := draw_place hb (p + 4) (by omega) m1 m2 m3
        obtain ⟨u1, u2, u3⟩ := word_parts hu
        refine ⟨u, p + 4 + 2, by omega, by omega, ?_⟩
        refine Ev.bind (specWord_ev s (by omega)) ?_
        simp only [hw, hf, k0, headD_one, toBool_sc, toInt_sc, List.headD_cons, List.tail_cons, rd_f0, rd_f1, Option.bind_some, decide_true, if_true]
        refine Ev.bind l4 ?_
        simp only [f1, f2, x1, x2, x3, x4, hg, m0, headD_one, toBool_sc, toInt_sc, List.headD_cons, List.tail_cons, rd_f0, rd_f1, Option.bind_some, decide_true, if_true, if_false]
        refine Ev.bind m4 ?_
        simp only [g1, g2, y1, y2, y3, y4, headD_one, toBool_sc, toInt_sc, List.headD_cons, List.tail_cons, rd_f0, rd_f1, Option.bind_some, decide_true, if_true, if_false]
        exact Ev.now _
      · refine ⟨t, p + 4, by omega, by omega, ?_⟩
        refine Ev.bind (specWord_ev s (by omega)) ?_
        simp only [hw, hf, k0, headD_one, toBool_sc, toInt_sc, List.headD_cons, List.tail_cons, rd_f0, rd_f1, Option.bind_some, decide_true, if_true]
        refine Ev.bind l4 ?_
        simp only [f1, f2, x1, x2, x3, x4, hg, m0, headD_one, toBool_sc, toInt_sc, List.headD_cons, List.tail_cons, rd_f0, rd_f1, Option.bind_some, decide_true, decide_false, Bool.false_eq_true, if_true, if_false]
        exact Ev.now _
    · obtain ⟨r, q, h1, h2, h3⟩ := anyWord_ev hb (p + 1) (by omega)
      refine ⟨r, q, by omega, h2, ?_⟩
      refine Ev.bind (specWord_ev s (by omega)) ?_
      simp only [hw, hf, k0, headD_one, toBool_sc, toInt_sc, List.headD_cons, List.tail_cons, rd_f0, rd_f1, Option.bind_some, decide_true, decide_false, Bool.false_eq_true, if_true, if_false]
      refine Ev.bind h3 ?_
      simp only [headD_one, toStr_sc, List.headD_cons, List.tail_cons, rd_f1, toInt_sc]
      exact Ev.now _
  · obtain ⟨r, q, h1, h2, h3⟩ := anyWord_ev hb p (by omega)
    refine ⟨r, q, by omega, h2, ?_⟩
    refine Ev.bind (specWord_ev s (by omega)) ?_
    simp only [Bool.not_eq_true] at hw
    simp only [hw, headD_one, toBool_sc, Bool.false_eq_true, if_false]
    refine Ev.bind h3 ?_
    simp only [headD_one, toStr_sc, List.headD_cons, List.tail_cons, rd_f1, toInt_sc]
    exact Ev.now _
def dfB (e : Nat → Nat → Bool) (i k : Nat) (v1 v2 v3 : Int) : Int := minI (minI (v1 + (if e i k = true then 0 else 1)) (v2 + 1)) (v3 + 1)
def df (e : Nat → Nat → Bool) : Nat → Nat → Int
  | 0, k => (k : Int)
  | i + 1, 0 => (i : Int) + 1
  | i + 1, k + 1 => if 1 ≤ i ∧ 1 ≤ k ∧ e i (k - 1) = true ∧ e (i - 1) k = true then minI (dfB e i k (df e i k) (df e i (k + 1)) (df e (i + 1) k)) (df e (i - 1) (k - 1) + 1) else dfB e i k (df e i k) (df e i (k + 1)) (df e (i + 1) k)
termination_by i k => i + k
theorem df_zero (e : Nat → Nat → Bool) (i : Nat) : df e i 0 = (i : Int) := by
  cases i with
  | zero => simp [df]
  | succ i => rw [df]; omega
theorem dfB_in (e : Nat → Nat → Bool) {i k : Nat} {v1 v2 v3 m : Int} (h1 : 0 ≤ v1 ∧ v1 ≤ m) (h2 : 0 ≤ v2 ∧ v2 ≤ m + 1) (h3 : 0 ≤ v3 ∧ v3 ≤ m + 1) : 0 ≤ dfB e i k v1 v2 v3 ∧ dfB e i k v1 v2 v3 ≤ m + 1 := by
  unfold dfB
  simp only [minI]
  repeat' split
  all_goals omega
theorem df_in (e : Nat → Nat → Bool) : ∀ n i k : Nat, i + k ≤ n → 0 ≤ df e i k ∧ df e i k ≤ (max i k : Nat)
  | _, 0, k, _ => by rw [df]; omega
  | _, i + 1, 0, _ => by rw [df]; omega
  | n, i + 1, k + 1, h => by
    have h1 := df_in e (n - 1) i k (by omega); have h2 := df_in e (n - 1) i (k + 1) (by omega); have h3 := df_in e (n - 1) (i + 1) k (by omega)
    have h4 := df_in e (n - 1) (i - 1) (k - 1) (by omega)
    have h5 := dfB_in e (i := i) (k := k) (v1 := df e i k) (v2 := df e i (k + 1)) (v3 := df e (i + 1) k) (m := ((max i k : Nat) : Int)) h1 ⟨h2.1, by omega⟩ ⟨h3.1, by omega⟩
    rw [df]
    split
    · simp only [minI]; split <;> omega
    · omega
termination_by n => n
def eqB (a b : ByteArray) (i k : Nat) : Bool := decide (bt a i = bt b k)
def gaF (w : Nat → Nat → Int) (k : Nat) : Nat → Nat → Int := fun i' k' => if k' = 0 ∨ (i' = 0 ∧ k' < k) then w i' k' else 0
def g0F (w : Nat → Nat → Int) : Nat → Nat → Int := fun i' k' => if k' = 0 then w i' k' else 0
def curF (w : Nat → Nat → Int) (i k : Nat) : Nat → Nat → Int := fun i' k' => if i' = 0 ∨ k' = 0 ∨ i' < i ∨ (i' = i ∧ k' < k) then w i' k' else 0
theorem eq_at (a b : ByteArray) (i k : Nat) : decide (((a.get! i).toNat : Int) = ((b.get! k).toNat : Int)) = eqB a b i k := rfl
theorem far_l3 (a b : ByteArray) (ha : isWord a = true) (hb : isWord b = true) (i : Nat) (hi : i < a.size) (R : List PV)
    (hR : Ev2 (fun N n => impl_Far.l2 N n a b ((i + 1 + 1 : Nat) : Int) (matL (a.size + 1) (b.size + 1) (curF (df (eqB a b)) (i + 1 + 1) 1))) R) : ∀ (c k : Nat), k + c = b.size →
    Ev3 (fun N m0 n => impl_Far.l3 N m0 n a b ((i + 1 : Nat) : Int) ((k + 1 : Nat) : Int) (matL (a.size + 1) (b.size + 1) (curF (df (eqB a b)) (i + 1) (k + 1)))) R := by
  obtain ⟨a1, a2, a3⟩ := word_sizeW ha
  obtain ⟨b1, b2, b3⟩ := word_sizeW hb
  generalize hw : df (eqB a b) = w at hR ⊢
  intro c
  induction c with
  | zero =>
    intro k hk
    refine Ev3.succ ?_
    have z : ¬ ((k + 1 : Nat) : Int) ≤ (b.size : Int) := by omega
    have wi : IntKind.i64.wrap (((i + 1 : Nat) : Int) + 1) = ((i + 1 + 1 : Nat) : Int) := by rw [wrap_id (by omega) (by omega)]; omega
    have hm : matL (a.size + 1) (b.size + 1) (curF w (i + 1) (k + 1)) = matL (a.size + 1) (b.size + 1) (curF w (i + 1 + 1) 1) := matL_congr (fun i' k' h1 h2 => by
      unfold curF
      by_cases h : i' = 0 ∨ k' = 0 ∨ i' < i + 1 ∨ (i' = i + 1 ∧ k' < k + 1)
      · rw [if_pos h, if_pos (by omega)]
      · rw [if_neg h, if_neg (by omega)])
    simp only [impl_Far.l3_eq, z, decide_false, Bool.false_eq_true, if_false, wi, hm]
    exact hR.outer
  | succ c ih =>
    intro k hk
    have hkb : k < b.size := by omega
    refine Ev3.succ ?_
    have z : ((k + 1 : Nat) : Int) ≤ (b.size : Int) := by omega
    have wi : IntKind.i64.wrap (((i + 1 : Nat) : Int) - 1) = (i : Int) := by rw [cast1, wrap_id (by omega) (by omega)]
    have wk : IntKind.i64.wrap (((k + 1 : Nat) : Int) - 1) = (k : Int) := by rw [cast1, wrap_id (by omega) (by omega)]
    have wk2 : IntKind.i64.wrap (((k + 1 : Nat) : Int) + 1) = ((k + 1 + 1 : Nat) : Int) := by rw [wrap_id (by omega) (by omega)]; omega
    have q1 : (i : Int) < (((matL (a.size + 1) (b.size + 1) (curF w (i + 1) (k + 1))).length : Nat) : Int) := by rw [matL_len]; omega
    have q2 : ((i + 1 : Nat) : Int) < (((matL (a.size + 1) (b.size + 1) (curF w (i + 1) (k + 1))).length : Nat) : Int) := by rw [matL_len]; omega
    have r1 := matL_row (n := a.size + 1) (m := b.size + 1) (g := curF w (i + 1) (k + 1)) (show i < a.size + 1 by omega)
    have r2 := matL_row (n := a.size + 1) (m := b.size + 1) (g := curF w (i + 1) (k + 1)) (show i + 1 < a.size + 1 by omega)
    have q3 : (k : Int) < ((b.size + 1 : Nat) : Int) := by omega
    have q4 : ((k + 1 : Nat) : Int) < ((b.size + 1 : Nat) : Int) := by omega
    have q5 : (i : Int) < (a.size : Int) := by omega
    have q6 : (k : Int) < (b.size : Int) := by omega
    have t1 : curF w (i + 1) (k + 1) i k = w i k := by unfold curF; rw [if_pos (by omega)]
    have t2 : curF w (i + 1) (k + 1) i (k + 1) = w i (k + 1) := by unfold curF; rw [if_pos (by omega)]
    have t3 : curF w (i + 1) (k + 1) (i + 1) k = w (i + 1) k := by unfold curF; rw [if_pos (by omega)]
    have h1 : 0 ≤ w i k ∧ w i k ≤ (max i k : Nat) := hw ▸ df_in (eqB a b) _ i k (Nat.le_refl _)
    have h2 : 0 ≤ w i (k + 1) ∧ w i (k + 1) ≤ (max i (k + 1) : Nat) := hw ▸ df_in (eqB a b) _ i (k + 1) (Nat.le_refl _)
    have h3 : 0 ≤ w (i + 1) k ∧ w (i + 1) k ≤ (max (i + 1) k : Nat) := hw ▸ df_in (eqB a b) _ (i + 1) k (Nat.le_refl _)
    have w1 : IntKind.i64.wrap (w i k + 1) = w i k + 1 := wrap_id (by omega) (by omega)
    have w2 : IntKind.i64.wrap (w i (k + 1) + 1) = w i (k + 1) + 1 := wrap_id (by omega) (by omega)
    have w3 : IntKind.i64.wrap (w (i + 1) k + 1) = w (i + 1) k + 1 := wrap_id (by omega) (by omega)
    have hdf : w (i + 1) (k + 1) = if 1 ≤ i ∧ 1 ≤ k ∧ eqB a b i (k - 1) = true ∧ eqB a b (i - 1) k = true then minI (dfB (eqB a b) i k (w i k) (w i (k + 1)) (w (i + 1) k)) (w (i - 1) (k - 1) + 1) else dfB (eqB a b) i k (w i k) (w i (k + 1)) (w (i + 1) k) := by rw [← hw, df]
    have hset := fun v => matL_set (n := a.size + 1) (m := b.size + 1) (g := curF w (i + 1) (k + 1)) (i := i + 1) (k := k + 1) (by omega) v
    have hm : matL (a.size + 1) (b.size + 1) (updM (curF w (i + 1) (k + 1)) (i + 1) (k + 1) (w (i + 1) (k + 1))) = matL (a.size + 1) (b.size + 1) (curF w (i + 1) (k + 1 + 1)) := matL_congr (fun i' k' h1 h2 => by
      unfold updM curF
      by_cases he : i' = i + 1 ∧ k' = k + 1
      · rw [if_pos he, if_pos (by omega), he.1, he.2]
      · rw [if_neg he]
        by_cases h : i' = 0 ∨ k' = 0 ∨ i' < i + 1 ∨ (i' = i + 1 ∧ k' < k + 1)
        · rw [if_pos h, if_pos (by omega)]
        · rw [if_neg h, if_neg (by omega)])
    have hnext := ih (k + 1) (by omega)
    rw [← hm] at hnext
    by_cases hik : 1 ≤ i ∧ 1 ≤ k
    · obtain ⟨i', rfl⟩ : ∃ i', i = i' + 1 := ⟨i - 1, by omega⟩
      obtain ⟨k', rfl⟩ : ∃ k', k = k' + 1 := ⟨k - 1, by omega⟩
      have y1 : (1 : Int) < ((i' + 1 + 1 : Nat) : Int) := by omega
      have y2 : (1 : Int) < ((k' + 1 + 1 : Nat) : Int) := by omega
      have vi : IntKind.i64.wrap (((i' + 1 + 1 : Nat) : Int) - 2) = (i' : Int) := by rw [wrap_id (by omega) (by omega)]; omega
      have vk : IntKind.i64.wrap (((k' + 1 + 1 : Nat) : Int) - 2) = (k' : Int) := by rw [wrap_id (by omega) (by omega)]; omega
      have q7 : (i' : Int) < (a.size : Int) := by omega
      have q8 : (k' : Int) < (b.size : Int) := by omega
      have q9 : (i' : Int) < (((matL (a.size + 1) (b.size + 1) (curF w (i' + 1 + 1) (k' + 1 + 1))).length : Nat) : Int) := by rw [matL_len]; omega
      have q10 : (k' : Int) < ((b.size + 1 : Nat) : Int) := by omega
      have r3 := matL_row (n := a.size + 1) (m := b.size + 1) (g := curF w (i' + 1 + 1) (k' + 1 + 1)) (show i' < a.size + 1 by omega)
      have t4 : curF w (i' + 1 + 1) (k' + 1 + 1) i' k' = w i' k' := by unfold curF; rw [if_pos (by omega)]
      have h4 : 0 ≤ w i' k' ∧ w i' k' ≤ (max i' k' : Nat) := hw ▸ df_in (eqB a b) _ i' k' (Nat.le_refl _)
      have w4 : IntKind.i64.wrap (w i' k' + 1) = w i' k' + 1 := wrap_id (by omega) (by omega)
      simp only [Nat.add_sub_cancel, Nat.le_add_left, true_and] at hdf
      cases e1 : eqB a b (i' + 1) (k' + 1) <;> cases e2 : eqB a b (i' + 1) k' <;> cases e3 : eqB a b i' (k' + 1) <;>
        (simp only [e1, e2, e3, dfB, Bool.false_eq_true, if_false, if_true, and_self, and_true, and_false, false_and, Int.add_zero] at hdf
         rw [hdf] at hnext
         simp only [impl_Far.l3_eq, eq_at, z, wi, wk, wk2, vi, vk, y1, y2, q1, q2, q3, q4, q5, q6, q7, q8, q9, q10, r1, r2, r3, range_len, nn, nat_int, decide_true, if_true, e1, e2, e3, Bool.not_true, Bool.not_false, Bool.false_eq_true, if_false, range_at (show k' + 1 < b.size + 1 by omega), range_at (show k' < b.size + 1 by omega), range_at (show k' + 1 + 1 < b.size + 1 by omega), t1, t2, t3, t4, w1, w2, w3, w4, hset]
         exact hnext)
    · rw [if_neg (by omega)] at hdf
      by_cases hi0 : 1 ≤ i
      · have y1 : (1 : Int) < ((i + 1 : Nat) : Int) := by omega
        have y2 : ¬ (1 : Int) < ((k + 1 : Nat) : Int) := by omega
        cases e1 : eqB a b i k <;>
          (simp only [e1, dfB, Bool.false_eq_true, if_false, if_true, Int.add_zero] at hdf
           rw [hdf] at hnext
           simp only [impl_Far.l3_eq, eq_at, z, wi, wk, wk2, y1, y2, q1, q2, q3, q4, q5, q6, r1, r2, range_len, nn, nat_int, decide_true, decide_false, if_true, e1, Bool.not_true, Bool.not_false, Bool.false_eq_true, if_false, range_at (show k < b.size + 1 by omega), range_at (show k + 1 < b.size + 1 by omega), t1, t2, t3, w1, w2, w3, hset]
           exact hnext)
      · have y1 : ¬ (1 : Int) < ((i + 1 : Nat) : Int) := by omega
        cases e1 : eqB a b i k <;>
          (simp only [e1, dfB, Bool.false_eq_true, if_false, if_true, Int.add_zero] at hdf
           rw [hdf] at hnext
           simp only [impl_Far.l3_eq, eq_at, z, wi, wk, wk2, y1, q1, q2, q3, q4, q5, q6, r1, r2, range_len, nn, nat_int, decide_true, decide_false, if_true, e1, Bool.not_true, Bool.not_false, Bool.false_eq_true, if_false, range_at (show k < b.size + 1 by omega), range_at (show k + 1 < b.size + 1 by omega), t1, t2, t3, w1, w2, w3, hset]
           exact hnext)
theorem far_l2 (a b : ByteArray) (ha : isWord a = true) (hb : isWord b = true) : ∀ (c i : Nat), i + c = a.size →
    Ev2 (fun N n => impl_Far.l2 N n a b ((i + 1 : Nat) : Int) (matL (a.size + 1) (b.size + 1) (curF (df (eqB a b)) (i + 1) 1))) [intP (df (eqB a b) a.size b.size)] := by
  obtain ⟨a1, a2, a3⟩ := word_sizeW ha
  obtain ⟨b1, b2, b3⟩ := word_sizeW hb
  intro c
  induction c with
  | zero =>
    intro i hi
    refine Ev2.succ ?_
    have z : ¬ ((i + 1 : Nat) : Int) ≤ (a.size : Int) := by omega
    have q1 : (a.size : Int) < (((matL (a.size + 1) (b.size + 1) (curF (df (eqB a b)) (i + 1) 1)).length : Nat) : Int) := by rw [matL_len]; omega
    have r1 := matL_row (n := a.size + 1) (m := b.size + 1) (g := curF (df (eqB a b)) (i + 1) 1) (show a.size < a.size + 1 by omega)
    have q3 : (b.size : Int) < ((b.size + 1 : Nat) : Int) := by omega
    have t1 : curF (df (eqB a b)) (i + 1) 1 a.size b.size = df (eqB a b) a.size b.size := by unfold curF; rw [if_pos (by omega)]
    simp only [impl_Far.l2_eq, z, decide_false, Bool.false_eq_true, if_false, q1, r1, range_len, q3, range_at (show b.size < b.size + 1 by omega), t1, nn, if_true]
    exact Ev2.now _
  | succ c ih =>
    intro i hi
    refine Ev2.succ ?_
    have z : ((i + 1 : Nat) : Int) ≤ (a.size : Int) := by omega
    have h := far_l3 a b ha hb i (by omega) _ (ih (i + 1) (by omega)) b.size 0 (by omega)
    simp only [impl_Far.l2_eq, z, decide_true, if_true]
    exact h.start
theorem far_l1 (a b : ByteArray) (ha : isWord a = true) (hb : isWord b = true) : ∀ (c k : Nat), k + c = b.size + 1 →
    Ev2 (fun N n => impl_Far.l1 N n a b ((b.size + 1 : Nat) : Int) (k : Int) (matL (a.size + 1) (b.size + 1) (gaF (df (eqB a b)) k))) [intP (df (eqB a b) a.size b.size)] := by
  obtain ⟨a1, a2, a3⟩ := word_sizeW ha
  obtain ⟨b1, b2, b3⟩ := word_sizeW hb
  intro c
  induction c with
  | zero =>
    intro k hk
    refine Ev2.succ ?_
    have z : ¬ (k : Int) < ((b.size + 1 : Nat) : Int) := by omega
    have hm : matL (a.size + 1) (b.size + 1) (gaF (df (eqB a b)) k) = matL (a.size + 1) (b.size + 1) (curF (df (eqB a b)) (0 + 1) 1) := matL_congr (fun i' k' h1 h2 => by
      unfold curF gaF
      by_cases h : k' = 0 ∨ (i' = 0 ∧ k' < k)
      · rw [if_pos h, if_pos (by omega)]
      · rw [if_neg h, if_neg (by omega)])
    simp only [impl_Far.l1_eq, z, decide_false, Bool.false_eq_true, if_false, hm]
    exact (far_l2 a b ha hb a.size 0 (by omega)).after
  | succ c ih =>
    intro k hk
    refine Ev2.succ ?_
    have z : (k : Int) < ((b.size + 1 : Nat) : Int) := by omega
    have q1 : (0 : Int) < (((matL (a.size + 1) (b.size + 1) (gaF (df (eqB a b)) k)).length : Nat) : Int) := by rw [matL_len]; omega
    have r1 := matL_row (n := a.size + 1) (m := b.size + 1) (g := gaF (df (eqB a b)) k) (show 0 < a.size + 1 by omega)
    have hd : df (eqB a b) 0 k = (k : Int) := by rw [df]
    have wk : IntKind.i64.wrap ((k : Int) + 1) = ((k + 1 : Nat) : Int) := by rw [wrap_id (by omega) (by omega)]; omega
    have hset := matL_set (n := a.size + 1) (m := b.size + 1) (g := gaF (df (eqB a b)) k) (i := 0) (k := k) (by omega) (k : Int)
    have hm : matL (a.size + 1) (b.size + 1) (updM (gaF (df (eqB a b)) k) 0 k (k : Int)) = matL (a.size + 1) (b.size + 1) (gaF (df (eqB a b)) (k + 1)) := matL_congr (fun i' k' h1 h2 => by
      unfold updM gaF
      by_cases he : i' = 0 ∧ k' = k
      · rw [if_pos he, if_pos (by omega), he.1, he.2, hd]
      · rw [if_neg he]
        by_cases h : k' = 0 ∨ (i' = 0 ∧ k' < k)
        · rw [if_pos h, if_pos (by omega)]
        · rw [if_neg h, if_neg (by omega)])
    simp only [impl_Far.l1_eq, z, q1, r1, range_len, wk, hset, hm, nn, nat_int, decide_true, if_true, Int.le_refl, Int.reduceLE, Nat.le_refl]
    exact ih (k + 1) (by omega)
theorem far_l0 (a b : ByteArray) (ha : isWord a = true) (hb : isWord b = true) : ∀ (c i : Nat), i + c = a.size + 1 →
    Ev2 (fun N n => impl_Far.l0 N n a b ((a.size + 1 : Nat) : Int) (i : Int) ((matL i (b.size + 1) (g0F (df (eqB a b)))) ++ List.replicate c (PV.list []))) [intP (df (eqB a b) a.size b.size)] := by
  obtain ⟨a1, a2, a3⟩ := word_sizeW ha
  obtain ⟨b1, b2, b3⟩ := word_sizeW hb
  intro c
  induction c with
  | zero =>
    intro i hi
    have hi' : i = a.size + 1 := by omega
    subst hi'
    refine Ev2.succ ?_
    have z : ¬ ((a.size + 1 : Nat) : Int) < ((a.size + 1 : Nat) : Int) := by omega
    have q1 : (0 : Int) < (((matL (a.size + 1) (b.size + 1) (g0F (df (eqB a b)))).length : Nat) : Int) := by rw [matL_len]; omega
    have r1 := matL_row (n := a.size + 1) (m := b.size + 1) (g := g0F (df (eqB a b))) (show 0 < a.size + 1 by omega)
    have hm : matL (a.size + 1) (b.size + 1) (g0F (df (eqB a b))) = matL (a.size + 1) (b.size + 1) (gaF (df (eqB a b)) 0) := matL_congr (fun i' k' h1 h2 => by
      unfold gaF g0F
      by_cases h : k' = 0
      · rw [if_pos h, if_pos (by omega)]
      · rw [if_neg h, if_neg (by omega)])
    have h := (far_l1 a b ha hb (b.size + 1) 0 (by omega)).after
    rw [← hm] at h
    simp only [impl_Far.l0_eq, List.replicate_zero, List.append_nil, z, q1, r1, range_len, decide_false, Bool.false_eq_true, if_false, if_true, Int.le_refl, Int.reduceLE, Nat.le_refl]
    exact h
  | succ c ih =>
    intro i hi
    refine Ev2.succ ?_
    have z : (i : Int) < ((a.size + 1 : Nat) : Int) := by omega
    have wb : IntKind.i64.wrap ((b.size : Int) + 1) = ((b.size + 1 : Nat) : Int) := by rw [wrap_id (by omega) (by omega)]; omega
    have wi : IntKind.i64.wrap ((i : Int) + 1) = ((i + 1 : Nat) : Int) := by rw [wrap_id (by omega) (by omega)]; omega
    have c1 : b.size + 1 ≤ 35184372088832 := by omega
    have hlen := matL_len i (b.size + 1) (g0F (df (eqB a b)))
    have hset : ∀ x : PV, (matL i (b.size + 1) (g0F (df (eqB a b))) ++ PV.list [] :: List.replicate c (PV.list [])).set i x = matL i (b.size + 1) (g0F (df (eqB a b))) ++ x :: List.replicate c (PV.list []) := fun x => by
      have := set_mid (matL i (b.size + 1) (g0F (df (eqB a b)))) (PV.list []) x (List.replicate c (PV.list []))
      rwa [hlen] at this
    have hset2 : ∀ x y : PV, (matL i (b.size + 1) (g0F (df (eqB a b))) ++ x :: List.replicate c (PV.list [])).set i y = matL i (b.size + 1) (g0F (df (eqB a b))) ++ y :: List.replicate c (PV.list []) := fun x y => by
      have := set_mid (matL i (b.size + 1) (g0F (df (eqB a b)))) x y (List.replicate c (PV.list []))
      rwa [hlen] at this
    have hel : ∀ x : PV, (PV.list (matL i (b.size + 1) (g0F (df (eqB a b))) ++ x :: List.replicate c (PV.list []))).elem i = x := fun x => by
      simp [PV.elem, PV.items, List.getD_eq_getElem?_getD, hlen]
    have q1 : ∀ x : PV, (i : Int) < (((matL i (b.size + 1) (g0F (df (eqB a b))) ++ x :: List.replicate c (PV.list [])).length : Nat) : Int) := fun x => by simp [hlen]; omega
    have hz : PV.list (List.replicate (b.size + 1) (PV.sc (.int .i64 0))) = intsP ((List.range (b.size + 1)).map fun _ => (0 : Int)) := by simp [intsP, List.map_const']
    have q2 : (0 : Int) < ((b.size + 1 : Nat) : Int) := by omega
    have hrow : (((intsP ((List.range (b.size + 1)).map fun _ => (0 : Int))).items).set 0 (intP (i : Int))) = ((List.range (b.size + 1)).map (fun k' => if k' = 0 then (i : Int) else 0)).map intP := range_set _
    have hfin : matL i (b.size + 1) (g0F (df (eqB a b))) ++ PV.list (((List.range (b.size + 1)).map (fun k' => if k' = 0 then (i : Int) else 0)).map intP) :: List.replicate c (PV.list []) = matL (i + 1) (b.size + 1) (g0F (df (eqB a b))) ++ List.replicate c (PV.list []) := by
      have : matL (i + 1) (b.size + 1) (g0F (df (eqB a b))) = matL i (b.size + 1) (g0F (df (eqB a b))) ++ [PV.list (((List.range (b.size + 1)).map (fun k' => if k' = 0 then (i : Int) else 0)).map intP)] := by
        have hr : (List.range (b.size + 1)).map (g0F (df (eqB a b)) i) = (List.range (b.size + 1)).map (fun k' => if k' = 0 then (i : Int) else 0) := List.map_congr_left (fun k' _ => by
          unfold g0F
          split
          · rename_i h; subst h; rw [df_zero]
          · rfl)
        unfold matL
        rw [List.range_succ (n := i), List.map_append, List.map_cons, List.map_nil, hr]
        rfl
      rw [this]; simp
    have hrep : List.replicate (c + 1) (PV.list []) = PV.list [] :: List.replicate c (PV.list []) := List.replicate_succ
    simp only [impl_Far.l0_eq, hrep, z, wb, wi, nn, nat_int, c1, hz, hset, hset2, hel, q1, range_len, q2, hrow, hfin, decide_true, if_true, Int.le_refl, Int.reduceLE, Nat.le_refl]
    exact ih (i + 1) (by omega)
def farM (a b : ByteArray) : Int := df (eqB a b) a.size b.size
theorem farM_nn (a b : ByteArray) : 0 ≤ farM a b := (df_in (eqB a b) _ _ _ (Nat.le_refl _)).1
theorem implFar_ev (a b : ByteArray) (ha : isWord a = true) (hb : isWord b = true) : Ev (fun N => impl_Far.f N [strP a, strP b]) [intP (farM a b)] := by
  obtain ⟨a1, a2, a3⟩ := word_sizeW ha
  obtain ⟨b1, b2, b3⟩ := word_sizeW hb
  simp only [impl_Far.f_eq, toStr_sc]
  refine Ev.bind (implWord_ev a (by omega)) ?_
  simp only [ha, stk, if_true, if_false, ite_self, Option.bind_some, bne_self_eq_false, beq_self_eq_true, Int.reduceEq, Nat.reduceEqDiff, List.length_singleton, List.tail_cons, Int.reduceLE, Int.reduceLT]
  refine Ev.bind (implWord_ev b (by omega)) ?_
  have wa : IntKind.i64.wrap ((a.size : Int) + 1) = ((a.size + 1 : Nat) : Int) := by rw [wrap_id (by omega) (by omega)]; omega
  have c1 : a.size + 1 ≤ 11728124029610 := by omega
  have h := (far_l0 a b ha hb (a.size + 1) 0 (by omega)).diag
  have e : matL 0 (b.size + 1) (g0F (df (eqB a b))) = [] := rfl
  rw [e, List.nil_append] at h
  simp only [hb, wa, nn, nat_int, c1, headD_one, toBool_sc, Bool.not_true, Bool.false_eq_true, if_false, if_true, Int.le_refl, List.length_replicate]
  exact h
theorem specF_l1 (a b : ByteArray) (ha : isWord a = true) (hb : isWord b = true) (i : Nat) (hi : i ≤ a.size) (R : List PV)
    (hR : Ev2 (fun N n => spec_l1Far.l0 N n a b ((i + 1 : Nat) : Int) (matL (i + 1) (b.size + 1) (df (eqB a b)))) R) : ∀ (c k : Nat), k + c = b.size + 1 →
    Ev3 (fun N m0 n => spec_l1Far.l1 N m0 n a b (i : Int) (k : Int) (matL i (b.size + 1) (df (eqB a b))) (((List.range k).map (df (eqB a b) i)).map intP)) R := by
  obtain ⟨a1, a2, a3⟩ := word_sizeW ha
  obtain ⟨b1, b2, b3⟩ := word_sizeW hb
  generalize hw : df (eqB a b) = w at hR ⊢
  intro c
  induction c with
  | zero =>
    intro k hk
    have hk' : k = b.size + 1 := by omega
    subst hk'
    refine Ev3.succ ?_
    have z : ¬ ((b.size + 1 : Nat) : Int) ≤ (b.size : Int) := by omega
    have wi : IntKind.i64.wrap ((i : Int) + 1) = ((i + 1 : Nat) : Int) := by rw [wrap_id (by omega) (by omega)]; omega
    have c1 : i + 1 ≤ 5864062014805 := by omega
    have hl := matL_len i (b.size + 1) w
    have l1 : ∀ x : PV, [x].length = 1 := fun _ => rfl
    simp only [spec_l1Far.l1_eq, z, wi, hl, l1, c1, matL_more, decide_false, Bool.false_eq_true, if_false, if_true]
    exact hR.outer
  | succ c ih =>
    intro k hk
    have hkb : k ≤ b.size := by omega
    refine Ev3.succ ?_
    have z : (k : Int) ≤ (b.size : Int) := by omega
    have wk1 : IntKind.i64.wrap ((k : Int) + 1) = ((k + 1 : Nat) : Int) := by rw [wrap_id (by omega) (by omega)]; omega
    have hl1 : (((List.range k).map (w i)).map intP).length = k := by simp
    have l1 : ∀ x : PV, [x].length = 1 := fun _ => rfl
    have c1 : k + 1 ≤ 17592186044416 := by omega
    have hnext := ih (k + 1) (by omega)
    rw [← rowL_more] at hnext
    cases i with
    | zero =>
      have hd : w 0 k = (k : Int) := by rw [← hw, df]
      have zz : ((0 : Nat) : Int) = 0 := rfl
      rw [hd] at hnext
      simp only [zz] at hnext ⊢
      simp only [spec_l1Far.l1_eq, z, wk1, hl1, l1, c1, decide_true, if_true]
      exact hnext
    | succ i =>
      have y0 : ¬ (((i + 1 : Nat) : Int) = 0) := by omega
      cases k with
      | zero =>
        have hd : w (i + 1) 0 = ((i + 1 : Nat) : Int) := by rw [← hw, df_zero]
        have zz : ((0 : Nat) : Int) = 0 := rfl
        rw [hd] at hnext
        simp only [zz] at hnext wk1 z ⊢
        simp only [spec_l1Far.l1_eq, z, wk1, hl1, l1, c1, y0, decide_true, decide_false, Bool.false_eq_true, if_false, if_true]
        exact hnext
      | succ k =>
        have y1 : ¬ (((k + 1 : Nat) : Int) = 0) := by omega
        have wi : IntKind.i64.wrap (((i + 1 : Nat) : Int) - 1) = (i : Int) := by rw [cast1, wrap_id (by omega) (by omega)]
        have wk : IntKind.i64.wrap (((k + 1 : Nat) : Int) - 1) = (k : Int) := by rw [cast1, wrap_id (by omega) (by omega)]
        have hl := matL_len (i + 1) (b.size + 1) w
        have q1 : (i : Int) < ((i + 1 : Nat) : Int) := by omega
        have r1 := matL_row (n := i + 1) (m := b.size + 1) (g := w) (show i < i + 1 by omega)
        have q3 : (k : Int) < ((b.size + 1 : Nat) : Int) := by omega
        have q4 : ((k + 1 : Nat) : Int) < ((b.size + 1 : Nat) : Int) := by omega
        have q5 : (i : Int) < (a.size : Int) := by omega
        have q6 : (k : Int) < (b.size : Int) := by omega
        have q7 : (k : Int) < ((k + 1 : Nat) : Int) := by omega
        have h1 : 0 ≤ w i k ∧ w i k ≤ (max i k : Nat) := hw ▸ df_in (eqB a b) _ i k (Nat.le_refl _)
        have h2 : 0 ≤ w i (k + 1) ∧ w i (k + 1) ≤ (max i (k + 1) : Nat) := hw ▸ df_in (eqB a b) _ i (k + 1) (Nat.le_refl _)
        have h3 : 0 ≤ w (i + 1) k ∧ w (i + 1) k ≤ (max (i + 1) k : Nat) := hw ▸ df_in (eqB a b) _ (i + 1) k (Nat.le_refl _)
        have w1 : IntKind.i64.wrap (w i k + 1) = w i k + 1 := wrap_id (by omega) (by omega)
        have w2 : IntKind.i64.wrap (w i (k + 1) + 1) = w i (k + 1) + 1 := wrap_id (by omega) (by omega)
        have w3 : IntKind.i64.wrap (w (i + 1) k + 1) = w (i + 1) k + 1 := wrap_id (by omega) (by omega)
        have hle : ∀ x y : Int, (if x < y then x else y) = minI x y := fun x y => by
          simp only [minI]; repeat' split
          all_goals omega
        have hmm : ∀ x y z : Int, minI x (minI y z) = minI (minI x y) z := fun x y z => by
          simp only [minI]; repeat' split
          all_goals omega
        have hdf : w (i + 1) (k + 1) = if 1 ≤ i ∧ 1 ≤ k ∧ eqB a b i (k - 1) = true ∧ eqB a b (i - 1) k = true then minI (dfB (eqB a b) i k (w i k) (w i (k + 1)) (w (i + 1) k)) (w (i - 1) (k - 1) + 1) else dfB (eqB a b) i k (w i k) (w i (k + 1)) (w (i + 1) k) := by rw [← hw, df]
        have he : ((PV.list (((List.range (k + 1)).map (w (i + 1))).map intP)).elem k).toInt = w (i + 1) k := range_at (by omega)
        by_cases hik : 1 ≤ i ∧ 1 ≤ k
        · obtain ⟨i', rfl⟩ : ∃ i', i = i' + 1 := ⟨i - 1, by omega⟩
          obtain ⟨k', rfl⟩ : ∃ k', k = k' + 1 := ⟨k - 1, by omega⟩
          have x1 : (1 : Int) < ((i' + 1 + 1 : Nat) : Int) := by omega
          have x2 : (1 : Int) < ((k' + 1 + 1 : Nat) : Int) := by omega
          have vi : IntKind.i64.wrap (((i' + 1 + 1 : Nat) : Int) - 2) = (i' : Int) := by rw [wrap_id (by omega) (by omega)]; omega
          have vk : IntKind.i64.wrap (((k' + 1 + 1 : Nat) : Int) - 2) = (k' : Int) := by rw [wrap_id (by omega) (by omega)]; omega
          have p7 : (i' : Int) < (a.size : Int) := by omega
          have p8 : (k' : Int) < (b.size : Int) := by omega
          have p9 : (i' : Int) < ((i' + 1 + 1 : Nat) : Int) := by omega
          have p10 : (k' : Int) < ((b.size + 1 : Nat) : Int) := by omega
          have r3 := matL_row (n := i' + 1 + 1) (m := b.size + 1) (g := w) (show i' < i' + 1 + 1 by omega)
          have h4 : 0 ≤ w i' k' ∧ w i' k' ≤ (max i' k' : Nat) := hw ▸ df_in (eqB a b) _ i' k' (Nat.le_refl _)
          have w4 : IntKind.i64.wrap (w i' k' + 1) = w i' k' + 1 := wrap_id (by omega) (by omega)
          simp only [Nat.add_sub_cancel, Nat.le_add_left, true_and] at hdf
          cases e1 : eqB a b (i' + 1) (k' + 1) <;> cases e2 : eqB a b (i' + 1) k' <;> cases e3 : eqB a b i' (k' + 1) <;>
            (simp only [e1, e2, e3, dfB, Bool.false_eq_true, if_false, if_true, and_self, and_true, and_false, false_and, Int.add_zero] at hdf
             rw [hdf] at hnext
             simp only [spec_l1Far.l1_eq, eq_at, z, y0, y1, x1, x2, wi, wk, wk1, vi, vk, hl, hl1, l1, c1, q1, q3, q4, q5, q6, q7, p7, p8, p9, p10, r1, r3, range_len, nn, nat_int, e1, e2, e3, Bool.not_true, Bool.not_false, decide_true, decide_false, Bool.false_eq_true, if_false, if_true, headD_one, toInt_sc, range_at (show k' + 1 < b.size + 1 by omega), range_at (show k' + 1 + 1 < b.size + 1 by omega), range_at (show k' < b.size + 1 by omega), he, w1, w2, w3, w4, least_val, hle, hmm, Option.bind_some]
             exact hnext)
        · rw [if_neg (by omega)] at hdf
          by_cases hi0 : 1 ≤ i
          · have x1 : (1 : Int) < ((i + 1 : Nat) : Int) := by omega
            have x2 : ¬ (1 : Int) < ((k + 1 : Nat) : Int) := by omega
            cases e1 : eqB a b i k <;>
              (simp only [e1, dfB, Bool.false_eq_true, if_false, if_true, Int.add_zero] at hdf
               rw [hdf] at hnext
               simp only [spec_l1Far.l1_eq, eq_at, z, y0, y1, x1, x2, wi, wk, wk1, hl, hl1, l1, c1, q1, q3, q4, q5, q6, q7, r1, range_len, nn, nat_int, e1, Bool.not_true, Bool.not_false, decide_true, decide_false, Bool.false_eq_true, if_false, if_true, headD_one, toInt_sc, range_at (show k < b.size + 1 by omega), range_at (show k + 1 < b.size + 1 by omega), he, w1, w2, w3, least_val, hle, hmm, Option.bind_some]
               exact hnext)
          · have x1 : ¬ (1 : Int) < ((i + 1 : Nat) : Int) := by omega
            cases e1 : eqB a b i k <;>
              (simp only [e1, dfB, Bool.false_eq_true, if_false, if_true, Int.add_zero] at hdf
               rw [hdf] at hnext
               simp only [spec_l1Far.l1_eq, eq_at, z, y0, y1, x1, wi, wk, wk1, hl, hl1, l1, c1, q1, q3, q4, q5, q6, q7, r1, range_len, nn, nat_int, e1, Bool.not_true, Bool.not_false, decide_true, decide_false, Bool.false_eq_true, if_false, if_true, headD_one, toInt_sc, range_at (show k < b.size + 1 by omega), range_at (show k + 1 < b.size + 1 by omega), he, w1, w2, w3, least_val, hle, hmm, Option.bind_some]
               exact hnext)
theorem specF_l0 (a b : ByteArray) (ha : isWord a = true) (hb : isWord b = true) : ∀ (c i : Nat), i + c = a.size + 1 →
    Ev2 (fun N n => spec_l1Far.l0 N n a b (i : Int) (matL i (b.size + 1) (df (eqB a b)))) [intP (farM a b)] := by
  obtain ⟨a1, a2, a3⟩ := word_sizeW ha
  obtain ⟨b1, b2, b3⟩ := word_sizeW hb
  intro c
  induction c with
  | zero =>
    intro i hi
    have hi' : i = a.size + 1 := by omega
    subst hi'
    refine Ev2.succ ?_
    have z : ¬ ((a.size + 1 : Nat) : Int) ≤ (a.size : Int) := by omega
    have hl := matL_len (a.size + 1) (b.size + 1) (df (eqB a b))
    have q1 : (a.size : Int) < ((a.size + 1 : Nat) : Int) := by omega
    have q2 : (b.size : Int) < ((b.size + 1 : Nat) : Int) := by omega
    have r1 := matL_row (n := a.size + 1) (m := b.size + 1) (g := df (eqB a b)) (show a.size < a.size + 1 by omega)
    simp only [spec_l1Far.l0_eq, z, hl, q1, q2, r1, range_len, range_at (show b.size < b.size + 1 by omega), nn, decide_false, Bool.false_eq_true, if_false, if_true]
    exact Ev2.now _
  | succ c ih =>
    intro i hi
    refine Ev2.succ ?_
    have z : (i : Int) ≤ (a.size : Int) := by omega
    have h := specF_l1 a b ha hb i (by omega) _ (ih (i + 1) (by omega)) (b.size + 1) 0 (by omega)
    simp only [spec_l1Far.l0_eq, z, decide_true, if_true]
    exact h.start
theorem specFar_ev (a b : ByteArray) (ha : isWord a = true) (hb : isWord b = true) : Ev (fun N => spec_l1Far.f N [strP a, strP b]) [intP (farM a b)] := by
  have h := (specF_l0 a b ha hb (a.size + 1) 0 (by omega)).diag
  simp only [spec_l1Far.f_eq, stk, if_true, if_false, ite_self, Option.bind_some, bne_self_eq_false, beq_self_eq_true, Int.reduceEq, Nat.reduceEqDiff, List.length_singleton, List.tail_cons, Int.reduceLE, Int.reduceLT]
  exact h
abbrev Gi := ByteArray × Int
def giP (l : List Gi) : PV := .list (l.map guessP)
theorem gi_f0 (g : Gi) : (guessP g).fld 0 = strP g.1 := rfl
theorem gi_f1 (g : Gi) : (guessP g).fld 1 = intP g.2 := rfl
theorem gi_agg (s : ByteArray) (n : Int) : PV.agg [PV.sc (.string s), PV.sc (.int .i64 n)] = guessP (s, n) := rfl
theorem gi_len (l : List Gi) : (giP l).items.length = l.length := by simp [giP, PV.items]
theorem gi_elem {l pre rest : List Gi} {g : Gi} (h : l = pre ++ g :: rest) : (giP l).elem pre.length = guessP g := by
  subst h
  simp [giP, PV.elem, PV.items, List.getD_eq_getElem?_getD]
theorem gi_list (l : List Gi) : PV.list (l.map guessP) = giP l := rfl
theorem gi_items (l : List Gi) : (giP l).items = l.map guessP := rfl
theorem gi_nil : PV.list [] = giP [] := rfl
theorem gi_snoc (l : List Gi) (g : Gi) : l.map guessP ++ [guessP g] = (l ++ [g]).map guessP := by simp
theorem gi_eta (g : Gi) : (g.1, g.2) = g := rfl
def ltG (x g : Gi) : Bool := decide (x.2 < g.2) || (decide (x.2 = g.2) && bLess x.1 g.1)
theorem ltG_eq (x g : Gi) : ltOf cmpG x g = ltG x g := by
  rw [lt_cmpG]
  have e : decide (x.1.toList < g.1.toList) = bLess x.1 g.1 := by rw [← bLess_eq, Go.Proofs.bytesLess_eq]
  unfold ltG
  rw [← e]
  by_cases h1 : x.2 < g.2 <;> by_cases h2 : x.2 = g.2 <;> simp [h1, h2]
def insG (g : Gi) : List Gi → List Gi
  | [] => [g]
  | x :: r => if ltG x g = true then x :: insG g r else g :: x :: r
theorem insG_len (g : Gi) : ∀ l : List Gi, (insG g l).length = l.length + 1
  | [] => rfl
  | x :: r => by
    unfold insG
    have := insG_len g r
    split <;> simp; omega
theorem insG_split (g : Gi) : ∀ (pre rest : List Gi), (∀ c ∈ pre, ltG c g = true) → insG g (pre ++ rest) = pre ++ insG g rest
  | [], rest, _ => rfl
  | c :: pre, rest, h => by
    rw [List.cons_append, insG, if_pos (h c (by simp)), insG_split g pre rest (fun x hx => h x (by simp [hx]))]; rfl
theorem insG_perm (g : Gi) : ∀ l : List Gi, (insG g l).Perm (g :: l)
  | [] => List.Perm.refl _
  | x :: r => by
    unfold insG
    split
    · exact ((insG_perm g r).cons x).trans (List.Perm.swap _ _ _)
    · exact List.Perm.refl _
def leG (x y : Gi) : Prop := ltG y x = false
theorem leG_trans {x y z : Gi} (h1 : leG x y) (h2 : leG y z) : leG x z := by
  unfold leG at *
  rw [← ltG_eq] at *
  exact swoG.ntrans z y x h2 h1
theorem leG_of {x y : Gi} (h : ltG x y = true) : leG x y := by
  unfold leG
  cases h2 : ltG y x with
  | false => rfl
  | true =>
    rw [← ltG_eq] at h h2
    have := swoG.trans x y x h h2
    rw [swoG.irrefl x] at this
    cases this
theorem leG_total (x y : Gi) : leG x y ∨ leG y x := by
  cases h : ltG y x with
  | false => exact .inl h
  | true => exact .inr (leG_of h)
theorem leG_anti {x y : Gi} (h1 : leG x y) (h2 : leG y x) : x = y := by
  unfold leG at h1 h2
  rw [← ltG_eq] at h1 h2
  exact totG x y h2 h1
theorem insG_sorted (g : Gi) : ∀ l : List Gi, l.Pairwise leG → (insG g l).Pairwise leG
  | [], _ => by simp [insG]
  | x :: r, h => by
    rw [List.pairwise_cons] at h
    unfold insG
    split
    · rename_i hx
      rw [List.pairwise_cons]
      refine ⟨fun y hy => ?_, insG_sorted g r h.2⟩
      rcases List.mem_cons.1 ((insG_perm g r).mem_iff.1 hy) with rfl | hy
      · exact leG_of hx
      · exact h.1 y hy
    · rename_i hx
      have hgx : leG g x := by unfold leG; simpa using hx
      rw [List.pairwise_cons]
      refine ⟨fun y hy => ?_, List.pairwise_cons.2 h⟩
      rcases List.mem_cons.1 hy with rfl | hy
      · exact hgx
      · exact leG_trans hgx (h.1 y hy)
theorem sortG_sorted (l : List Gi) : (sortG l).Pairwise leG := by
  have h := List.pairwise_mergeSort (le := fun x y : Gi => !(ltOf cmpG) y x) (fun a b c h1 h2 => by
    simp only [Bool.not_eq_true', ltG_eq] at *
    exact leG_trans h1 h2) (fun a b => by
    simp only [Bool.or_eq_true, Bool.not_eq_true', ltG_eq]
    exact leG_total a b) l
  exact h.imp (fun h => by simpa [ltG_eq, leG] using h)
theorem sortG_perm (l : List Gi) : (sortG l).Perm l := List.mergeSort_perm _ _
theorem perm_eq : ∀ {a b : List Gi}, a.Pairwise leG → b.Pairwise leG → a.Perm b → a = b
  | [], b, _, _, h => (List.nil_perm.1 h).symm
  | x :: a, [], _, _, h => absurd h (by simp)
  | x :: a, y :: b, ha, hb, h => by
    rw [List.pairwise_cons] at ha hb
    have e : x = y := by
      rcases List.mem_cons.1 (h.mem_iff.1 (List.mem_cons_self (a := x))) with h1 | h1
      · exact h1
      rcases List.mem_cons.1 (h.mem_iff.2 (List.mem_cons_self (a := y))) with h2 | h2
      · exact h2.symm
      · exact leG_anti (ha.1 y h2) (hb.1 x h1)
    subst e
    rw [perm_eq ha.2 hb.2 (List.perm_cons x |>.1 h)]
def insAll : List Gi → List Gi → List Gi
  | [], acc => acc
  | g :: r, acc => insAll r (insG g acc)
theorem insAll_sorted : ∀ (l acc : List Gi), acc.Pairwise leG → (insAll l acc).Pairwise leG
  | [], _, h => h
  | g :: r, acc, h => insAll_sorted r _ (insG_sorted g acc h)
theorem insAll_perm : ∀ (l acc : List Gi), (insAll l acc).Perm (l ++ acc)
  | [], _ => List.Perm.refl _
  | g :: r, acc => by
    rw [insAll]
    refine (insAll_perm r _).trans ?_
    refine ((insG_perm g acc).append_left r).trans ?_
    exact List.perm_middle
theorem insAll_sort (l : List Gi) : insAll l [] = sortG l :=
  perm_eq (insAll_sorted l [] List.Pairwise.nil) (sortG_sorted l) (((insAll_perm l []).trans (by simp)).trans (sortG_perm l).symm)
theorem sortF_val (l : List Gi) (hl : l.length ≤ 1000000) (N : Nat) : slices_SortFunc_impl_Guess.f N [giP l, PV.sc (.func (.func 62) #[] #[])] = some [giP (sortG l)] := by
  have h1 : isFn 62 (.func (.func 62) #[] #[]) = true := rfl
  have h2 : (l.map guessP).map toGuess = l := by simp [Function.comp_def, toGuess_guessP]
  unfold slices_SortFunc_impl_Guess.f
  simp only [giP]
  rw [if_pos ⟨h1, by simp; omega⟩, h2]
theorem putG_loop (l : List Gi) (g : Gi) (hl : l.length ≤ 1000000) : ∀ (rest pre : List Gi), l = pre ++ rest → (∀ c ∈ pre, ltG c g = true) →
    Ev2 (fun N n => spec_l4Put.l0 N n (giP l) (pre.length : Int) g.1 g.2) [giP (insG g l)] := by
  intro rest
  have parts : ∀ (pre rest : List Gi), l = pre ++ rest → (giP l).items.take pre.length = pre.map guessP ∧ (giP l).items.drop pre.length = rest.map guessP := fun pre rest hp => by
    subst hp; simp [giP, PV.items]
  induction rest with
  | nil =>
    intro pre hp hpre
    obtain ⟨p1, p2⟩ := parts pre [] hp
    have e : insG g l = pre ++ [g] := by rw [hp, insG_split g pre [] hpre]; rfl
    have hll : l.length = pre.length := by rw [hp]; simp
    have c0 : pre.length ≤ 5864062014805 := by omega
    have c1 : pre.length + 1 ≤ 5864062014805 := by omega
    have c2 : (pre.length : Int) ≤ (l.length : Int) := by omega
    have z : l.length - pre.length = 0 := by omega
    have e2 : PV.list (pre.map guessP ++ [guessP g]) = giP (pre ++ [g]) := by simp [giP]
    refine Ev2.succ ?_
    simp only [spec_l4Put.l0_eq, gi_len, at_end hp, c2, z, gi_agg, gi_eta, List.drop_zero, Nat.sub_zero, p1, p2, List.nil_append, List.length_nil, List.length_map, List.length_append, List.map_nil, List.take_nil, List.append_nil, Nat.zero_add, Nat.add_zero, c0, c1, e, e2, stk, if_true, if_false, ite_self, Option.bind_some, bne_self_eq_false, beq_self_eq_true, Int.reduceEq, Nat.reduceEqDiff, List.length_singleton, List.tail_cons, Int.reduceLE, Int.reduceLT]
    exact Ev2.now _
  | cons c rest ih =>
    intro pre hp hpre
    obtain ⟨p1, p2⟩ := parts pre (c :: rest) hp
    have hll : l.length = pre.length + 1 + rest.length := by rw [hp]; simp; omega
    have hst : ltG c g = true → ∀ x ∈ pre ++ [c], ltG x g = true := fun hlt x hx => by
      rcases List.mem_append.1 hx with hx | hx
      · exact hpre x hx
      · rw [List.mem_singleton.1 hx]; exact hlt
    refine Ev2.succ ?_
    by_cases hlt : ltG c g = true
    · by_cases h1 : c.2 < g.2
      · simp only [spec_l4Put.l0_eq, gi_len, gi_elem hp, gi_f0, gi_f1, at_lt hp, h1, at_next hp (by omega), stk, if_true, if_false, ite_self, Option.bind_some, bne_self_eq_false, beq_self_eq_true, Int.reduceEq, Nat.reduceEqDiff, List.length_singleton, List.tail_cons, Int.reduceLE, Int.reduceLT]
        exact ih _ (at_step hp) (hst hlt)
      · have h3 : c.2 = g.2 ∧ bLess c.1 g.1 = true := by simpa [ltG, h1] using hlt
        simp only [spec_l4Put.l0_eq, gi_len, gi_elem hp, gi_f0, gi_f1, at_lt hp, bLess_eq, h1, h3.1, h3.2, Int.lt_irrefl, at_next hp (by omega), stk, if_true, if_false, ite_self, Option.bind_some, bne_self_eq_false, beq_self_eq_true, Int.reduceEq, Nat.reduceEqDiff, List.length_singleton, List.tail_cons, Int.reduceLE, Int.reduceLT]
        have := ih _ (at_step hp) (hst hlt)
        exact this
    · have e : insG g l = pre ++ (g :: c :: rest) := by rw [hp, insG_split g pre _ hpre, insG, if_neg hlt]
      have c0 : pre.length ≤ 5864062014805 := by omega
      have c1 : pre.length + 1 ≤ 5864062014805 := by omega
      have c2 : (pre.length : Int) ≤ (l.length : Int) := by omega
      have c3 : pre.length + 1 + (rest.length + 1) ≤ 5864062014805 := by omega
      have z : l.length - pre.length = rest.length + 1 := by omega
      have t1 : List.take (rest.length + 1) (guessP c :: rest.map guessP) = guessP c :: rest.map guessP := List.take_of_length_le (by simp)
      have e2 : PV.list (pre.map guessP ++ [guessP g] ++ guessP c :: rest.map guessP) = giP (pre ++ g :: c :: rest) := by simp [giP]
      have h1 : ¬ c.2 < g.2 := fun h => hlt (by simp [ltG, h])
      by_cases h2 : c.2 = g.2
      · have h3 : bLess c.1 g.1 = false := by
          cases hb : bLess c.1 g.1 with
          | false => rfl
          | true => exact absurd (by simp [ltG, h2, hb]) hlt
        simp only [spec_l4Put.l0_eq, gi_len, gi_elem hp, gi_f0, gi_f1, at_lt hp, bLess_eq, h2, h3, Int.lt_irrefl, c2, gi_agg, gi_eta, List.drop_zero, Nat.sub_zero, p1, p2, z, t1, List.nil_append, List.length_nil, List.length_map, List.length_append, List.length_cons, List.map_cons, Nat.zero_add, c0, c1, c3, e, stk, if_true, if_false, ite_self, Option.bind_some, bne_self_eq_false, beq_self_eq_true, Int.reduceEq, Nat.reduceEqDiff, List.length_singleton, List.tail_cons, Int.reduceLE, Int.reduceLT]
        exact Ev2.ext (Ev2.now _) (by rw [e2])
      · simp only [spec_l4Put.l0_eq, gi_len, gi_elem hp, gi_f0, gi_f1, at_lt hp, bLess_eq, h1, h2, c2, gi_agg, gi_eta, List.drop_zero, Nat.sub_zero, p1, p2, z, t1, List.nil_append, List.length_nil, List.length_map, List.length_append, List.length_cons, List.map_cons, Nat.zero_add, c0, c1, c3, e, stk, if_true, if_false, ite_self, Option.bind_some, bne_self_eq_false, beq_self_eq_true, Int.reduceEq, Nat.reduceEqDiff, List.length_singleton, List.tail_cons, Int.reduceLE, Int.reduceLT]
        exact Ev2.ext (Ev2.now _) (by rw [e2])
theorem putG_ev (l : List Gi) (g : Gi) (hl : l.length ≤ 1000000) : Ev (fun N => spec_l4Put.f N [giP l, guessP g]) [giP (insG g l)] := by
  simp only [spec_l4Put.f_eq, gi_f0, gi_f1, stk, if_true, if_false, ite_self, Option.bind_some, bne_self_eq_false, beq_self_eq_true, Int.reduceEq, Nat.reduceEqDiff, List.length_singleton, List.tail_cons, Int.reduceLE, Int.reduceLT]
  exact (putG_loop l g hl l [] rfl (by simp)).diag
def hitB (w x : ByteArray) : Bool := decide (farM x w ≤ 2)
def hitsM (ws : List ByteArray) (w : ByteArray) : List Gi := (ws.filter (hitB w)).map fun x => (x, farM x w)
def guessL (ws : List ByteArray) (w : ByteArray) : List Gi := (sortG (hitsM ws w)).take 10
def nearM : List Gi → List Gi
  | [] => []
  | g :: r => g :: r.takeWhile fun x => decide (x.2 = g.2)
theorem implGuess_loop {ws : List ByteArray} (hws : ∀ x ∈ ws, isWord x = true) (hwl : ws.length ≤ 10000) {w : ByteArray} (hw : isWord w = true) : ∀ (rest pre : List ByteArray) (acc : List Gi), ws = pre ++ rest → acc.length ≤ pre.length →
    Ev2 (fun N n => impl_guesses.l0 N n w 2 (strsP ws) (ws.length : Int) (pre.length : Int) (acc.map guessP)) [giP ((sortG (acc ++ hitsM rest w)).take 10)] := by
  intro rest
  induction rest with
  | nil =>
    intro pre acc hp ha
    have hpl : pre.length = ws.length := by rw [hp]; simp
    have hs := sortF_val acc (by omega)
    have hsl := sortG_len acc
    have mm : minI ((sortG acc).length : Int) 10 = ((min (sortG acc).length 10 : Nat) : Int) := by simp only [minI]; split <;> omega
    have c1 : ((min (sortG acc).length 10 : Nat) : Int) ≤ ((sortG acc).length : Int) := by omega
    have c2 : (List.take 10 (sortG acc)).length ≤ 5864062014805 := by rw [List.length_take]; omega
    have e : List.take (min (sortG acc).length 10) ((sortG acc).map guessP) = ((sortG acc).take 10).map guessP := by
      rw [List.map_take]
      have := List.take_eq_take_min (l := (sortG acc).map guessP) (i := 10)
      rw [this, List.length_map, Nat.min_comm]
    have h0 : hitsM [] w = [] := rfl
    refine Ev2.succ ?_
    simp only [impl_guesses.l0_eq, at_end hp, gi_list, hs, gi_items, List.length_map, mm, c1, List.drop_zero, Nat.sub_zero, List.nil_append, List.length_nil, Nat.zero_add, c2, e, h0, List.append_nil, stk, if_true, if_false, ite_self, Option.bind_some, bne_self_eq_false, beq_self_eq_true, Int.reduceEq, Nat.reduceEqDiff, List.length_singleton, List.tail_cons, Int.reduceLE, Int.reduceLT]
    exact Ev2.now _
  | cons x rest ih =>
    intro pre acc hp ha
    have hpl := at_ltN hp
    have hx := hws x (by rw [hp]; simp)
    have hf := implFar_ev x w hx hw
    have hf0 := farM_nn x w
    have hwi : Ev (fun N => impl_Within.f N [strP x, strP w, intP 2]) [boolP (hitB w x)] := by
      simp only [impl_Within.f_eq, stk, if_true, if_false, ite_self, Option.bind_some, bne_self_eq_false, beq_self_eq_true, Int.reduceEq, Nat.reduceEqDiff, List.length_singleton, List.tail_cons, Int.reduceLE, Int.reduceLT]
      refine Ev.bind hf ?_
      simp only [hf0, hitB, stk, if_true, if_false, ite_self, Option.bind_some, bne_self_eq_false, beq_self_eq_true, Int.reduceEq, Nat.reduceEqDiff, List.length_singleton, List.tail_cons, Int.reduceLE, Int.reduceLT]
      exact Ev.now _
    simp only [strP, intP] at hwi hf
    refine Ev2.succ ?_
    simp only [impl_guesses.l0_eq, strs_len, at_lt hp, at_getD hp, stk, if_true, if_false, ite_self, Option.bind_some, bne_self_eq_false, beq_self_eq_true, Int.reduceEq, Nat.reduceEqDiff, List.length_singleton, List.tail_cons, Int.reduceLE, Int.reduceLT]
    refine Ev2.bind hwi ?_
    by_cases hb : hitB w x = true
    · have hh : hitsM (x :: rest) w = (x, farM x w) :: hitsM rest w := by simp [hitsM, hb]
      have c1 : acc.length + 1 ≤ 5864062014805 := by omega
      simp only [hb, stk, if_true, if_false, ite_self, Option.bind_some, bne_self_eq_false, beq_self_eq_true, Int.reduceEq, Nat.reduceEqDiff, List.length_singleton, List.tail_cons, Int.reduceLE, Int.reduceLT]
      refine Ev2.bind hf ?_
      simp only [List.length_map, c1, gi_agg, gi_snoc, at_next hp (by omega), stk, if_true, if_false, ite_self, Option.bind_some, bne_self_eq_false, beq_self_eq_true, Int.reduceEq, Nat.reduceEqDiff, List.length_singleton, List.tail_cons, Int.reduceLE, Int.reduceLT]
      have := ih (pre ++ [x]) (acc ++ [(x, farM x w)]) (at_step hp) (by simp; omega)
      rw [hh]
      rw [List.append_assoc] at this
      exact this
    · simp only [Bool.not_eq_true] at hb
      have hh : hitsM (x :: rest) w = hitsM rest w := by simp [hitsM, hb]
      simp only [hb, at_next hp (by omega), stk, if_true, if_false, ite_self, Option.bind_some, bne_self_eq_false, beq_self_eq_true, Int.reduceEq, Nat.reduceEqDiff, List.length_singleton, List.tail_cons, Int.reduceLE, Int.reduceLT]
      rw [hh]
      exact ih (pre ++ [x]) acc (at_step hp) (by simp; omega)
theorem implGuess_ev {ws : List ByteArray} (hws : ∀ x ∈ ws, isWord x = true) (hwl : ws.length ≤ 10000) {w : ByteArray} (hw : isWord w = true) : Ev (fun N => impl_guesses.f N [strsP ws, strP w, intP 2]) [giP (guessL ws w)] := by
  simp only [impl_guesses.f_eq, strs_len, stk, if_true, if_false, ite_self, Option.bind_some, bne_self_eq_false, beq_self_eq_true, Int.reduceEq, Nat.reduceEqDiff, List.length_singleton, List.tail_cons, Int.reduceLE, Int.reduceLT]
  exact (implGuess_loop hws hwl hw ws [] [] rfl (by simp)).diag
theorem specGuess_l1 {ws : List ByteArray} (hws : ∀ x ∈ ws, isWord x = true) (hwl : ws.length ≤ 10000) {w : ByteArray} (hw : isWord w = true) : ∀ (rest pre : List ByteArray) (acc : List Gi), ws = pre ++ rest → acc.length ≤ pre.length →
    Ev2 (fun N n => spec_l4Guesses.l1 N n (strsP ws) w 2 (pre.length : Int) (giP acc)) [giP ((insAll (hitsM rest w) acc).take 10)] := by
  intro rest
  induction rest with
  | nil =>
    intro pre acc hp ha
    have h0 : insAll (hitsM [] w) acc = acc := rfl
    refine Ev2.succ ?_
    by_cases h10 : (10 : Int) < (acc.length : Int)
    · have c1 : (10 : Int) ≤ (acc.length : Int) := by omega
      have e : PV.list (List.take 10 (acc.map guessP)) = giP (acc.take 10) := by simp [giP]
      simp only [spec_l4Guesses.l1_eq, strs_len, at_end hp, gi_items, List.length_map, h10, c1, h0, stk, if_true, if_false, ite_self, Option.bind_some, bne_self_eq_false, beq_self_eq_true, Int.reduceEq, Nat.reduceEqDiff, List.length_singleton, List.tail_cons, Int.reduceLE, Int.reduceLT]
      exact Ev2.ext (Ev2.now _) (by rw [e])
    · have e : acc.take 10 = acc := List.take_of_length_le (by omega)
      simp only [spec_l4Guesses.l1_eq, strs_len, at_end hp, gi_len, h10, h0, e, stk, if_true, if_false, ite_self, Option.bind_some, bne_self_eq_false, beq_self_eq_true, Int.reduceEq, Nat.reduceEqDiff, List.length_singleton, List.tail_cons, Int.reduceLE, Int.reduceLT]
      exact Ev2.now _
  | cons x rest ih =>
    intro pre acc hp ha
    have hpl := at_ltN hp
    have hx := hws x (by rw [hp]; simp)
    have hf := specFar_ev x w hx hw
    simp only [strP] at hf
    refine Ev2.succ ?_
    simp only [spec_l4Guesses.l1_eq, strs_len, at_lt hp, at_getD hp, stk, if_true, if_false, ite_self, Option.bind_some, bne_self_eq_false, beq_self_eq_true, Int.reduceEq, Nat.reduceEqDiff, List.length_singleton, List.tail_cons, Int.reduceLE, Int.reduceLT]
    refine Ev2.bind hf ?_
    by_cases hb : farM x w ≤ 2
    · have hh : hitsM (x :: rest) w = (x, farM x w) :: hitsM rest w := by simp [hitsM, hitB, hb]
      simp only [hb, gi_agg, stk, if_true, if_false, ite_self, Option.bind_some, bne_self_eq_false, beq_self_eq_true, Int.reduceEq, Nat.reduceEqDiff, List.length_singleton, List.tail_cons, Int.reduceLE, Int.reduceLT]
      refine Ev2.bind (putG_ev acc (x, farM x w) (by omega)) ?_
      simp only [at_next hp (by omega), stk, if_true, if_false, ite_self, Option.bind_some, bne_self_eq_false, beq_self_eq_true, Int.reduceEq, Nat.reduceEqDiff, List.length_singleton, List.tail_cons, Int.reduceLE, Int.reduceLT]
      rw [hh]
      exact ih (pre ++ [x]) _ (at_step hp) (by rw [insG_len]; simp; omega)
    · have hh : hitsM (x :: rest) w = hitsM rest w := by simp [hitsM, hitB, hb]
      simp only [hb, at_next hp (by omega), stk, if_true, if_false, ite_self, Option.bind_some, bne_self_eq_false, beq_self_eq_true, Int.reduceEq, Nat.reduceEqDiff, List.length_singleton, List.tail_cons, Int.reduceLE, Int.reduceLT]
      rw [hh]
      exact ih (pre ++ [x]) acc (at_step hp) (by simp; omega)
theorem specGuess_l0 {ws : List ByteArray} (hws : ∀ x ∈ ws, isWord x = true) (hwl : ws.length ≤ 10000) {w : ByteArray} (hw : isWord w = true) : ∀ (rest pre : List ByteArray), ws = pre ++ rest →
    Ev2 (fun N n => spec_l4Guesses.l0 N n (strsP ws) w 2 (pre.length : Int) []) [giP ((insAll (hitsM rest w) []).take 10)] := by
  intro rest
  induction rest with
  | nil =>
    intro pre hp
    have h0 : insAll (hitsM [] w) [] = [] := rfl
    have h1 : ¬ ((10 : Int) < (([] : List PV).length : Int)) := by decide
    refine Ev2.succ ?_
    simp only [spec_l4Guesses.l0_eq, strs_len, at_end hp, h0, h1, stk, if_true, if_false, ite_self, Option.bind_some, bne_self_eq_false, beq_self_eq_true, Int.reduceEq, Nat.reduceEqDiff, List.length_singleton, List.tail_cons, Int.reduceLE, Int.reduceLT]
    exact Ev2.now _
  | cons x rest ih =>
    intro pre hp
    have hpl := at_ltN hp
    have hx := hws x (by rw [hp]; simp)
    have hf := specFar_ev x w hx hw
    simp only [strP] at hf
    refine Ev2.succ ?_
    simp only [spec_l4Guesses.l0_eq, strs_len, at_lt hp, at_getD hp, stk, if_true, if_false, ite_self, Option.bind_some, bne_self_eq_false, beq_self_eq_true, Int.reduceEq, Nat.reduceEqDiff, List.length_singleton, List.tail_cons, Int.reduceLE, Int.reduceLT]
    refine Ev2.bind hf ?_
    by_cases hb : farM x w ≤ 2
    · have hh : hitsM (x :: rest) w = (x, farM x w) :: hitsM rest w := by simp [hitsM, hitB, hb]
      simp only [hb, gi_agg, gi_nil, stk, if_true, if_false, ite_self, Option.bind_some, bne_self_eq_false, beq_self_eq_true, Int.reduceEq, Nat.reduceEqDiff, List.length_singleton, List.tail_cons, Int.reduceLE, Int.reduceLT]
      refine Ev2.bind (putG_ev [] (x, farM x w) (by simp)) ?_
      simp only [at_next hp (by omega), stk, if_true, if_false, ite_self, Option.bind_some, bne_self_eq_false, beq_self_eq_true, Int.reduceEq, Nat.reduceEqDiff, List.length_singleton, List.tail_cons, Int.reduceLE, Int.reduceLT]
      rw [hh]
      exact specGuess_l1 hws hwl hw rest (pre ++ [x]) _ (at_step hp) (by rw [insG_len]; simp)
    · have hh : hitsM (x :: rest) w = hitsM rest w := by simp [hitsM, hitB, hb]
      simp only [hb, at_next hp (by omega), stk, if_true, if_false, ite_self, Option.bind_some, bne_self_eq_false, beq_self_eq_true, Int.reduceEq, Nat.reduceEqDiff, List.length_singleton, List.tail_cons, Int.reduceLE, Int.reduceLT]
      rw [hh]
      exact ih (pre ++ [x]) (at_step hp)
theorem specGuess_ev {ws : List ByteArray} (hws : ∀ x ∈ ws, isWord x = true) (hwl : ws.length ≤ 10000) {w : ByteArray} (hw : isWord w = true) : Ev (fun N => spec_l4Guesses.f N [strsP ws, strP w, intP 2]) [giP (guessL ws w)] := by
  have h := (specGuess_l0 hws hwl hw ws [] rfl).diag
  rw [insAll_sort] at h
  simp only [spec_l4Guesses.f_eq, stk, if_true, if_false, ite_self, Option.bind_some, bne_self_eq_false, beq_self_eq_true, Int.reduceEq, Nat.reduceEqDiff, List.length_singleton, List.tail_cons, Int.reduceLE, Int.reduceLT]
  exact h
theorem bookW_isWord {af : List Aff} {es : List Ent} (h : BookOkF af es) : ∀ x ∈ bookW af es, isWord x = true := fun x hx => by
  rw [bookW_mem] at hx
  obtain ⟨e, he, hx⟩ := hx
  rcases formsB_mem hx with rfl | hw
  · exact (entB_facts (h.ent e he)).1
  · exact hw
def bookG (af : List Aff) (es : List Ent) (w : ByteArray) : List Gi := if bookB af es = true ∧ isWord w = true ∧ w ∉ bookW af es then nearM (guessL (bookW af es) w) else []
theorem guessL_len (ws : List ByteArray) (w : ByteArray) : (guessL ws w).length ≤ 10 := by unfold guessL; rw [List.length_take]; omega
theorem specNear_loop {l : List Gi} {g : Gi} {r : List Gi} (hl : l = g :: r) (hll : l.length ≤ 10) : ∀ (rest pre : List Gi), l = pre ++ rest → 1 ≤ pre.length →
    Ev2 (fun N n => spec_BookGuesses.l0 N n (pre.length : Int) (pre.map guessP) (giP l)) [giP (pre ++ rest.takeWhile fun x => decide (x.2 = g.2))] := by
  have e0 : (giP l).elem 0 = guessP g := by rw [hl]; rfl
  have c0 : (0 : Int) < (l.length : Int) := by rw [hl]; simp <;> omega
  intro rest
  induction rest with
  | nil =>
    intro pre hp h1
    refine Ev2.succ ?_
    simp only [spec_BookGuesses.l0_eq, gi_len, at_end hp, gi_list, List.takeWhile_nil, List.append_nil, stk, if_true, if_false, ite_self, Option.bind_some, bne_self_eq_false, beq_self_eq_true, Int.reduceEq, Nat.reduceEqDiff, List.length_singleton, List.tail_cons, Int.reduceLE, Int.reduceLT]
    exact Ev2.now _
  | cons x rest ih =>
    intro pre hp h1
    have hpl := at_ltN hp
    refine Ev2.succ ?_
    by_cases hx : x.2 = g.2
    · have c1 : pre.length + 1 ≤ 5864062014805 := by omega
      simp only [spec_BookGuesses.l0_eq, gi_len, gi_elem hp, at_lt hp, e0, c0, gi_f0, gi_f1, gi_agg, gi_eta, hx, List.length_map, c1, gi_snoc, at_next hp (by omega), stk, if_true, if_false, ite_self, Option.bind_some, bne_self_eq_false, beq_self_eq_true, Int.reduceEq, Nat.reduceEqDiff, List.length_singleton, List.tail_cons, Int.reduceLE, Int.reduceLT]
      have := ih (pre ++ [x]) (at_step hp) (by simp)
      have e : (x :: rest).takeWhile (fun x => decide (x.2 = g.2)) = x :: rest.takeWhile (fun x => decide (x.2 = g.2)) := by simp [hx]
      have e3 : (x.1, g.2) = x := by rw [← hx]
      rw [e, e3]
      rw [List.append_assoc] at this
      exact this
    · have e : (x :: rest).takeWhile (fun x => decide (x.2 = g.2)) = [] := by simp [hx]
      simp only [spec_BookGuesses.l0_eq, gi_len, gi_elem hp, at_lt hp, e0, c0, gi_f1, hx, gi_list, e, List.append_nil, stk, if_true, if_false, ite_self, Option.bind_some, bne_self_eq_false, beq_self_eq_true, Int.reduceEq, Nat.reduceEqDiff, List.length_singleton, List.tail_cons, Int.reduceLE, Int.reduceLT]
      exact Ev2.now _
theorem specNear_ev (l : List Gi) (hll : l.length ≤ 10) : Ev (fun N => spec_BookGuesses.l0 N N 0 [] (giP l)) [giP (nearM l)] := by
  refine Ev2.diag (g := fun N n => spec_BookGuesses.l0 N n 0 [] (giP l)) ?_
  cases l with
  | nil =>
    refine Ev2.succ ?_
    have c0 : ¬ ((0 : Int) < (([] : List Gi).length : Int)) := by decide
    simp only [spec_BookGuesses.l0_eq, gi_len, c0, stk, if_true, if_false, ite_self, Option.bind_some, bne_self_eq_false, beq_self_eq_true, Int.reduceEq, Nat.reduceEqDiff, List.length_singleton, List.tail_cons, Int.reduceLE, Int.reduceLT]
    exact Ev2.now _
  | cons g r =>
    refine Ev2.succ ?_
    have c0 : (0 : Int) < ((g :: r).length : Int) := by simp <;> omega
    have e0 : (giP (g :: r)).elem 0 = guessP g := rfl
    have wi : IntKind.i64.wrap ((0 : Int) + 1) = ((1 : Nat) : Int) := nat_wrap (by omega) (by omega)
    have z0 : (0 : Int).toNat = 0 := rfl
    have c1 : (0 : Nat) + 1 ≤ 5864062014805 := by omega
    have := specNear_loop (l := g :: r) rfl hll r [g] rfl (by simp)
    simp only [spec_BookGuesses.l0_eq, gi_len, c0, z0, e0, gi_f0, gi_f1, gi_agg, gi_eta, List.length_nil, List.nil_append, c1, wi, stk, if_true, if_false, ite_self, Option.bind_some, bne_self_eq_false, beq_self_eq_true, Int.reduceEq, Nat.reduceEqDiff, List.length_singleton, List.tail_cons, Int.reduceLE, Int.reduceLT]
    exact this
theorem implNear_loop {l : List Gi} {g : Gi} {r : List Gi} (hl : l = g :: r) (hll : l.length ≤ 10) : ∀ (rest pre : List Gi), l = pre ++ rest → 1 ≤ pre.length →
    Ev2 (fun N n => impl_BookGuesses.l0 N n (l.length : Int) (pre.length : Int) (pre.map guessP) (giP l)) [giP (pre ++ rest.takeWhile fun x => decide (x.2 = g.2))] := by
  intro rest
  induction rest with
  | nil =>
    intro pre hp h1
    refine Ev2.succ ?_
    simp only [impl_BookGuesses.l0_eq, gi_len, at_end hp, gi_list, List.takeWhile_nil, List.append_nil, stk, if_true, if_false, ite_self, Option.bind_some, bne_self_eq_false, beq_self_eq_true, Int.reduceEq, Nat.reduceEqDiff, List.length_singleton, List.tail_cons, Int.reduceLE, Int.reduceLT]
    exact Ev2.now _
  | cons x rest ih =>
    intro pre hp h1
    have hpl := at_ltN hp
    obtain ⟨q, pre', rfl⟩ : ∃ q pre', pre = q :: pre' := by
      cases pre with
      | nil => simp at h1
      | cons q p => exact ⟨q, p, rfl⟩
    have hq : q = g := by rw [hl] at hp; injection hp with h1 h2; exact h1.symm
    subst hq
    have c0 : (0 : Int) < ((q :: pre').length : Int) := by simp <;> omega
    have e0 : (giP (q :: pre')).elem 0 = guessP q := rfl
    refine Ev2.succ ?_
    by_cases hx : x.2 = q.2
    · have c1 : (q :: pre').length + 1 ≤ 5864062014805 := by omega
      simp only [impl_BookGuesses.l0_eq, gi_len, gi_elem hp, at_lt hp, c0, gi_list, e0, gi_f0, gi_f1, gi_agg, gi_eta, hx, List.length_map, c1, gi_snoc, at_next hp (by omega), stk, if_true, if_false, ite_self, Option.bind_some, bne_self_eq_false, beq_self_eq_true, Int.reduceEq, Nat.reduceEqDiff, List.length_singleton, List.tail_cons, Int.reduceLE, Int.reduceLT]
      have := ih ((q :: pre') ++ [x]) (at_step hp) (by simp)
      have e : (x :: rest).takeWhile (fun x => decide (x.2 = q.2)) = x :: rest.takeWhile (fun x => decide (x.2 = q.2)) := by simp [hx]
      have e3 : (x.1, q.2) = x := by rw [← hx]
      rw [e, e3]
      rw [List.append_assoc] at this
      exact this
    · have e : (x :: rest).takeWhile (fun x => decide (x.2 = q.2)) = [] := by simp [hx]
      simp only [impl_BookGuesses.l0_eq, gi_len, gi_elem hp, at_lt hp, List.length_map, c0, gi_list, e0, gi_f1, hx, e, List.append_nil, stk, if_true, if_false, ite_self, Option.bind_some, bne_self_eq_false, beq_self_eq_true, Int.reduceEq, Nat.reduceEqDiff, List.length_singleton, List.tail_cons, Int.reduceLE, Int.reduceLT]
      exact Ev2.now _
theorem implNear_ev (l : List Gi) (hll : l.length ≤ 10) : Ev (fun N => impl_BookGuesses.l0 N N (l.length : Int) 0 [] (giP l)) [giP (nearM l)] := by
  refine Ev2.diag (g := fun N n => impl_BookGuesses.l0 N n (l.length : Int) 0 [] (giP l)) ?_
  cases l with
  | nil =>
    refine Ev2.succ ?_
    have c0 : ¬ ((0 : Int) < (([] : List Gi).length : Int)) := by decide
    simp only [impl_BookGuesses.l0_eq, c0, stk, if_true, if_false, ite_self, Option.bind_some, bne_self_eq_false, beq_self_eq_true, Int.reduceEq, Nat.reduceEqDiff, List.length_singleton, List.tail_cons, Int.reduceLE, Int.reduceLT]
    exact Ev2.now _
  | cons g r =>
    refine Ev2.succ ?_
    have c0 : (0 : Int) < ((g :: r).length : Int) := by simp <;> omega
    have c2 : ¬ ((0 : Int) < (([] : List PV).length : Int)) := by decide
    have e0 : (giP (g :: r)).elem 0 = guessP g := rfl
    have wi : IntKind.i64.wrap ((0 : Int) + 1) = ((1 : Nat) : Int) := nat_wrap (by omega) (by omega)
    have z0 : (0 : Int).toNat = 0 := rfl
    have c1 : (0 : Nat) + 1 ≤ 5864062014805 := by omega
    have := implNear_loop (l := g :: r) rfl hll r [g] rfl (by simp)
    simp only [impl_BookGuesses.l0_eq, gi_len, c0, c2, z0, e0, gi_f0, gi_f1, gi_agg, gi_eta, List.length_nil, List.nil_append, c1, wi, stk, if_true, if_false, ite_self, Option.bind_some, bne_self_eq_false, beq_self_eq_true, Int.reduceEq, Nat.reduceEqDiff, List.length_singleton, List.tail_cons, Int.reduceLE, Int.reduceLT]
    exact this
theorem implBookG_ev {af : List Aff} {es : List Ent} (hs : BookS af es) (w : ByteArray) (hw : w.size ≤ 1000000000) : Ev (fun N => impl_BookGuesses.f N [bookP af es, strP w]) [giP (bookG af es w)] := by
  have hok := implBookOk_ev hs
  have hwo := implWord_ev w (by omega)
  simp only [strP] at hwo
  simp only [impl_BookGuesses.f_eq, book_f0, book_f1, book_agg, stk, if_true, if_false, ite_self, Option.bind_some, bne_self_eq_false, beq_self_eq_true, Int.reduceEq, Nat.reduceEqDiff, List.length_singleton, List.tail_cons, Int.reduceLE, Int.reduceLT]
  refine Ev.bind hok ?_
  unfold bookG
  cases hB : bookB af es with
  | false => simp only [stk, if_true, if_false, ite_self, Option.bind_some, bne_self_eq_false, beq_self_eq_true, Int.reduceEq, Nat.reduceEqDiff, List.length_singleton, List.tail_cons, Int.reduceLE, Int.reduceLT]; exact Ev.now _
  | true =>
    have hF := bookB_facts hB
    simp only [stk, if_true, if_false, ite_self, Option.bind_some, bne_self_eq_false, beq_self_eq_true, Int.reduceEq, Nat.reduceEqDiff, List.length_singleton, List.tail_cons, Int.reduceLE, Int.reduceLT]
    refine Ev.bind hwo ?_
    cases hW : isWord w with
    | false => simp only [stk, if_true, if_false, ite_self, Option.bind_some, bne_self_eq_false, beq_self_eq_true, Int.reduceEq, Nat.reduceEqDiff, List.length_singleton, List.tail_cons, Int.reduceLE, Int.reduceLT]; exact Ev.now _
    | true =>
      have hk := implKnows_ev hs hB w
      simp only [strP] at hk
      simp only [stk, if_true, if_false, ite_self, Option.bind_some, bne_self_eq_false, beq_self_eq_true, Int.reduceEq, Nat.reduceEqDiff, List.length_singleton, List.tail_cons, Int.reduceLE, Int.reduceLT]
      refine Ev.bind hk ?_
      by_cases hm : w ∈ bookW af es
      · simp only [hm, stk, if_true, if_false, ite_self, Option.bind_some, bne_self_eq_false, beq_self_eq_true, Int.reduceEq, Nat.reduceEqDiff, List.length_singleton, List.tail_cons, Int.reduceLE, Int.reduceLT]; exact Ev.now _
      · simp only [hm, stk, if_true, if_false, ite_self, Option.bind_some, bne_self_eq_false, beq_self_eq_true, Int.reduceEq, Nat.reduceEqDiff, List.length_singleton, List.tail_cons, Int.reduceLE, Int.reduceLT]
        refine Ev.bind (implBookW_ev hF) ?_
        simp only [stk, if_true, if_false, ite_self, Option.bind_some, bne_self_eq_false, beq_self_eq_true, Int.reduceEq, Nat.reduceEqDiff, List.length_singleton, List.tail_cons, Int.reduceLE, Int.reduceLT]
        have hg := implGuess_ev (bookW_isWord hF) (by have := bookW_len hF; omega) hW
        simp only [strP, intP] at hg
        refine Ev.bind hg ?_
        simp only [gi_len, stk, if_true, if_false, ite_self, Option.bind_some, bne_self_eq_false, beq_self_eq_true, Int.reduceEq, Nat.reduceEqDiff, List.length_singleton, List.tail_cons, Int.reduceLE, Int.reduceLT]
        exact implNear_ev _ (guessL_len _ _)
theorem specBookG_ev {af : List Aff} {es : List Ent} (hs : BookS af es) (w : ByteArray) (hw : w.size ≤ 1000000000) : Ev (fun N => spec_BookGuesses.f N [bookP af es, strP w]) [giP (bookG af es w)] := by
  have hok := specBookOk_ev hs
  have hwo := specWord_ev w (by omega)
  simp only [strP] at hwo
  simp only [spec_BookGuesses.f_eq, book_f0, book_f1, book_agg, stk, if_true, if_false, ite_self, Option.bind_some, bne_self_eq_false, beq_self_eq_true, Int.reduceEq, Nat.reduceEqDiff, List.length_singleton, List.tail_cons, Int.reduceLE, Int.reduceLT]
  refine Ev.bind hok ?_
  unfold bookG
  cases hB : bookB af es with
  | false => simp only [stk, if_true, if_false, ite_self, Option.bind_some, bne_self_eq_false, beq_self_eq_true, Int.reduceEq, Nat.reduceEqDiff, List.length_singleton, List.tail_cons, Int.reduceLE, Int.reduceLT]; exact Ev.now _
  | true =>
    have hF := bookB_facts hB
    simp only [stk, if_true, if_false, ite_self, Option.bind_some, bne_self_eq_false, beq_self_eq_true, Int.reduceEq, Nat.reduceEqDiff, List.length_singleton, List.tail_cons, Int.reduceLE, Int.reduceLT]
    refine Ev.bind hwo ?_
    cases hW : isWord w with
    | false => simp only [stk, if_true, if_false, ite_self, Option.bind_some, bne_self_eq_false, beq_self_eq_true, Int.reduceEq, Nat.reduceEqDiff, List.length_singleton, List.tail_cons, Int.reduceLE, Int.reduceLT]; exact Ev.now _
    | true =>
      have hlen := bookW_len hF
      simp only [stk, if_true, if_false, ite_self, Option.bind_some, bne_self_eq_false, beq_self_eq_true, Int.reduceEq, Nat.reduceEqDiff, List.length_singleton, List.tail_cons, Int.reduceLE, Int.reduceLT]
      refine Ev.bind (bookW_ok hF) ?_
      simp only [stk, if_true, if_false, ite_self, Option.bind_some, bne_self_eq_false, beq_self_eq_true, Int.reduceEq, Nat.reduceEqDiff, List.length_singleton, List.tail_cons, Int.reduceLE, Int.reduceLT]
      refine Ev.bind (l2In_ev (ws := bookW af es) (by omega) w) ?_
      by_cases hm : w ∈ bookW af es
      · simp only [hm, stk, if_true, if_false, ite_self, Option.bind_some, bne_self_eq_false, beq_self_eq_true, Int.reduceEq, Nat.reduceEqDiff, List.length_singleton, List.tail_cons, Int.reduceLE, Int.reduceLT]; exact Ev.now _
      · simp only [hm, stk, if_true, if_false, ite_self, Option.bind_some, bne_self_eq_false, beq_self_eq_true, Int.reduceEq, Nat.reduceEqDiff, List.length_singleton, List.tail_cons, Int.reduceLE, Int.reduceLT]
        refine Ev.bind (bookW_ok hF) ?_
        simp only [stk, if_true, if_false, ite_self, Option.bind_some, bne_self_eq_false, beq_self_eq_true, Int.reduceEq, Nat.reduceEqDiff, List.length_singleton, List.tail_cons, Int.reduceLE, Int.reduceLT]
        have hg := specGuess_ev (bookW_isWord hF) (by omega) hW
        simp only [strP, intP] at hg
        refine Ev.bind hg ?_
        simp only [stk, if_true, if_false, ite_self, Option.bind_some, bne_self_eq_false, beq_self_eq_true, Int.reduceEq, Nat.reduceEqDiff, List.length_singleton, List.tail_cons, Int.reduceLE, Int.reduceLT]
        exact specNear_ev _ (guessL_len _ _)
def rankG (w : ByteArray) (g : Gi) : Gi := (g.1, wf (fW g.1 w) g.1.size w.size)
def rankM (l : List Gi) (w : ByteArray) : List Gi := sortG (l.map (rankG w))
theorem asc_nodup {l : List ByteArray} (h : ascB l) : l.Nodup := by
  unfold ascB at h
  rw [List.pairwise_map] at h
  exact h.imp (fun h he => by rw [he] at h; exact ll_irrefl _ h)
theorem nearM_sub : ∀ l : List Gi, (nearM l).Sublist l
  | [] => List.Sublist.refl _
  | g :: r => (List.takeWhile_sublist _).cons_cons g
theorem bookG_facts {af : List Aff} {es : List Ent} {w : ByteArray} : (bookG af es w).length ≤ 10 ∧ ((bookG af es w).map Prod.fst).Nodup ∧ ∀ g ∈ bookG af es w, isWord g.1 = true ∧ isWord w = true := by
  unfold bookG
  split
  · rename_i h
    have hF := bookB_facts h.1
    have hsub : ((nearM (guessL (bookW af es) w)).map Prod.fst).Sublist ((sortG (hitsM (bookW af es) w)).map Prod.fst) := ((nearM_sub _).trans (List.take_sublist _ _)).map _
    have hperm : ((sortG (hitsM (bookW af es) w)).map Prod.fst).Perm ((bookW af es).filter (hitB w)) := by
      refine ((sortG_perm _).map _).trans ?_
      unfold hitsM
      rw [List.map_map]
      exact List.Perm.of_eq (by simp [Function.comp_def])
    refine ⟨Nat.le_trans (nearM_sub _).length_le (guessL_len _ _), ?_, fun g hg => ⟨?_, h.2.1⟩⟩
    · exact hsub.nodup (hperm.nodup_iff.2 ((asc_nodup (bookW_asc af es)).filter _))
    · have h1 : g.1 ∈ (bookW af es).filter (hitB w) := hperm.mem_iff.1 (hsub.subset (List.mem_map_of_mem hg))
      exact bookW_isWord hF _ (List.mem_filter.1 h1).1
  · simp
theorem weighM_words {a b : ByteArray} (ha : isWord a = true) (hb : isWord b = true) : weighM a b = wf (fW a b) a.size b.size := by unfold weighM; rw [if_pos ⟨ha, hb⟩]
theorem implRank_loop {l : List Gi} (hl : l.length ≤ 10) {w : ByteArray} (hw : ∀ g ∈ l, isWord g.1 = true ∧ isWord w = true) : ∀ (rest pre : List Gi), l = pre ++ rest →
    Ev2 (fun N n => impl_Ranked.l0 N n w (l.length : Int) (pre.length : Int) ((pre.map (rankG w)).map guessP) (giP l)) [giP (rankM l w)] := by
  intro rest
  induction rest with
  | nil =>
    intro pre hp
    have hpre : pre = l := by rw [hp]; simp
    have hs := sortF_val (l.map (rankG w)) (by simp; omega)
    refine Ev2.succ ?_
    have hll : ¬ ((l.length : Int) < (l.length : Int)) := by omega
    simp only [impl_Ranked.l0_eq, hll, gi_list, hpre, hs, stk, if_true, if_false, ite_self, Option.bind_some, bne_self_eq_false, beq_self_eq_true, Int.reduceEq, Nat.reduceEqDiff, List.length_singleton, List.tail_cons, Int.reduceLE, Int.reduceLT]
    exact Ev2.now _
  | cons g rest ih =>
    intro pre hp
    have hpl := at_ltN hp
    obtain ⟨h1, h2⟩ := hw g (by rw [hp]; simp)
    obtain ⟨z1, z2, -⟩ := word_sizeW h1
    obtain ⟨y1, y2, -⟩ := word_sizeW h2
    have hf := implWeigh_ev g.1 w (by omega) (by omega)
    rw [weighM_words h1 h2] at hf
    simp only [strP] at hf
    have c1 : pre.length + 1 ≤ 5864062014805 := by omega
    have e : (pre.map (rankG w)).map guessP ++ [guessP (g.1, wf (fW g.1 w) g.1.size w.size)] = ((pre ++ [g]).map (rankG w)).map guessP := by simp [rankG]
    refine Ev2.succ ?_
    simp only [impl_Ranked.l0_eq, gi_len, gi_elem hp, at_lt hp, gi_f0, stk, if_true, if_false, ite_self, Option.bind_some, bne_self_eq_false, beq_self_eq_true, Int.reduceEq, Nat.reduceEqDiff, List.length_singleton, List.tail_cons, Int.reduceLE, Int.reduceLT]
    refine Ev2.bind hf ?_
    simp only [List.length_map, c1, gi_agg, e, at_next hp (by omega), stk, if_true, if_false, ite_self, Option.bind_some, bne_self_eq_false, beq_self_eq_true, Int.reduceEq, Nat.reduceEqDiff, List.length_singleton, List.tail_cons, Int.reduceLE, Int.reduceLT]
    exact ih _ (at_step hp)
theorem implRank_ev {af : List Aff} {es : List Ent} (hs : BookS af es) (w : ByteArray) (hw : w.size ≤ 1000000000) : Ev (fun N => impl_Ranked.f N [bookP af es, strP w]) [giP (rankM (bookG af es w) w)] := by
  obtain ⟨h1, h2, h3⟩ := bookG_facts (af := af) (es := es) (w := w)
  have hg := implBookG_ev hs w hw
  simp only [strP] at hg
  simp only [impl_Ranked.f_eq, book_f0, book_f1, book_agg, stk, if_true, if_false, ite_self, Option.bind_some, bne_self_eq_false, beq_self_eq_true, Int.reduceEq, Nat.reduceEqDiff, List.length_singleton, List.tail_cons, Int.reduceLE, Int.reduceLT]
  refine Ev.bind hg ?_
  simp only [gi_len, stk, if_true, if_false, ite_self, Option.bind_some, bne_self_eq_false, beq_self_eq_true, Int.reduceEq, Nat.reduceEqDiff, List.length_singleton, List.tail_cons, Int.reduceLE, Int.reduceLT]
  exact (implRank_loop h1 h3 _ [] rfl).diag
theorem specRank_l1 {l : List Gi} (hl : l.length ≤ 10) {w : ByteArray} (hw : ∀ g ∈ l, isWord g.1 = true ∧ isWord w = true) : ∀ (rest pre : List Gi) (acc : List Gi), l = pre ++ rest → acc.length ≤ pre.length →
    Ev2 (fun N n => spec_Ranked.l1 N n w (pre.length : Int) (giP l) (giP acc)) [giP (insAll (rest.map (rankG w)) acc)] := by
  intro rest
  induction rest with
  | nil =>
    intro pre acc hp ha
    have h0 : insAll (([] : List Gi).map (rankG w)) acc = acc := rfl
    refine Ev2.succ ?_
    simp only [spec_Ranked.l1_eq, gi_len, at_end hp, h0, stk, if_true, if_false, ite_self, Option.bind_some, bne_self_eq_false, beq_self_eq_true, Int.reduceEq, Nat.reduceEqDiff, List.length_singleton, List.tail_cons, Int.reduceLE, Int.reduceLT]
    exact Ev2.now _
  | cons g rest ih =>
    intro pre acc hp ha
    have hpl := at_ltN hp
    obtain ⟨h1, h2⟩ := hw g (by rw [hp]; simp)
    have hf : Ev (fun N => spec_l10Weigh.f N [strP g.1, strP w]) [intP (wf (fW g.1 w) g.1.size w.size)] := by
      have h := (specW_l0 g.1 w h1 h2 (g.1.size + 1) 0 (by omega)).diag
      simp only [spec_l10Weigh.f_eq, stk, if_true, if_false, ite_self, Option.bind_some, bne_self_eq_false, beq_self_eq_true, Int.reduceEq, Nat.reduceEqDiff, List.length_singleton, List.tail_cons, Int.reduceLE, Int.reduceLT]; exact h
    simp only [strP] at hf
    refine Ev2.succ ?_
    simp only [spec_Ranked.l1_eq, gi_len, gi_elem hp, at_lt hp, gi_f0, stk, if_true, if_false, ite_self, Option.bind_some, bne_self_eq_false, beq_self_eq_true, Int.reduceEq, Nat.reduceEqDiff, List.length_singleton, List.tail_cons, Int.reduceLE, Int.reduceLT]
    refine Ev2.bind hf ?_
    simp only [gi_agg, stk, if_true, if_false, ite_self, Option.bind_some, bne_self_eq_false, beq_self_eq_true, Int.reduceEq, Nat.reduceEqDiff, List.length_singleton, List.tail_cons, Int.reduceLE, Int.reduceLT]
    refine Ev2.bind (putG_ev acc (rankG w g) (by omega)) ?_
    simp only [at_next hp (by omega), stk, if_true, if_false, ite_self, Option.bind_some, bne_self_eq_false, beq_self_eq_true, Int.reduceEq, Nat.reduceEqDiff, List.length_singleton, List.tail_cons, Int.reduceLE, Int.reduceLT]
    exact ih _ _ (at_step hp) (by rw [insG_len]; simp; omega)
theorem specRank_ev {af : List Aff} {es : List Ent} (hs : BookS af es) (w : ByteArray) (hw : w.size ≤ 1000000000) : Ev (fun N => spec_Ranked.f N [bookP af es, strP w]) [giP (rankM (bookG af es w) w)] := by
  obtain ⟨h1, h2, h3⟩ := bookG_facts (af := af) (es := es) (w := w)
  have hg := specBookG_ev hs w hw
  simp only [strP] at hg
  simp only [spec_Ranked.f_eq, book_f0, book_f1, book_agg, stk, if_true, if_false, ite_self, Option.bind_some, bne_self_eq_false, beq_self_eq_true, Int.reduceEq, Nat.reduceEqDiff, List.length_singleton, List.tail_cons, Int.reduceLE, Int.reduceLT]
  refine Ev.bind hg ?_
  generalize bookG af es w = l at h1 h3
  simp only [stk, if_true, if_false, ite_self, Option.bind_some, bne_self_eq_false, beq_self_eq_true, Int.reduceEq, Nat.reduceEqDiff, List.length_singleton, List.tail_cons, Int.reduceLE, Int.reduceLT]
  refine Ev2.diag (g := fun N n => spec_Ranked.l0 N n w 0 (giP l) []) (Ev2.succ ?_)
  unfold rankM
  rw [← insAll_sort]
  cases l with
  | nil =>
    have c0 : ¬ ((0 : Int) < (([] : List Gi).length : Int)) := by decide
    simp only [spec_Ranked.l0_eq, gi_len, c0, stk, if_true, if_false, ite_self, Option.bind_some, bne_self_eq_false, beq_self_eq_true, Int.reduceEq, Nat.reduceEqDiff, List.length_singleton, List.tail_cons, Int.reduceLE, Int.reduceLT]
    exact Ev2.now _
  | cons g r =>
    obtain ⟨h4, h5⟩ := h3 g (by simp)
    have c0 : (0 : Int) < ((g :: r).length : Int) := by simp <;> omega
    have e0 : (giP (g :: r)).elem 0 = guessP g := rfl
    have wi : IntKind.i64.wrap ((0 : Int) + 1) = ((1 : Nat) : Int) := nat_wrap (by omega) (by omega)
    have z0 : (0 : Int).toNat = 0 := rfl
    have hf : Ev (fun N => spec_l10Weigh.f N [strP g.1, strP w]) [intP (wf (fW g.1 w) g.1.size w.size)] := by
      have h := (specW_l0 g.1 w h4 h5 (g.1.size + 1) 0 (by omega)).diag
      simp only [spec_l10Weigh.f_eq, stk, if_true, if_false, ite_self, Option.bind_some, bne_self_eq_false, beq_self_eq_true, Int.reduceEq, Nat.reduceEqDiff, List.length_singleton, List.tail_cons, Int.reduceLE, Int.reduceLT]; exact h
    simp only [strP] at hf
    simp only [spec_Ranked.l0_eq, gi_len, c0, z0, e0, gi_f0, stk, if_true, if_false, ite_self, Option.bind_some, bne_self_eq_false, beq_self_eq_true, Int.reduceEq, Nat.reduceEqDiff, List.length_singleton, List.tail_cons, Int.reduceLE, Int.reduceLT]
    refine Ev2.bind hf ?_
    simp only [gi_agg, gi_nil, stk, if_true, if_false, ite_self, Option.bind_some, bne_self_eq_false, beq_self_eq_true, Int.reduceEq, Nat.reduceEqDiff, List.length_singleton, List.tail_cons, Int.reduceLE, Int.reduceLT]
    refine Ev2.bind (putG_ev [] (rankG w g) (by simp)) ?_
    simp only [wi, stk, if_true, if_false, ite_self, Option.bind_some, bne_self_eq_false, beq_self_eq_true, Int.reduceEq, Nat.reduceEqDiff, List.length_singleton, List.tail_cons, Int.reduceLE, Int.reduceLT]
    have := specRank_l1 h1 h3 r [g] (insG (rankG w g) []) rfl (by rw [insG_len]; simp)
    exact this
theorem rank_strict {af : List Aff} {es : List Ent} {w : ByteArray} : (rankM (bookG af es w) w).Pairwise (fun x y => ltG x y = true) := by
  obtain ⟨h1, h2, h3⟩ := bookG_facts (af := af) (es := es) (w := w)
  have hn : (rankM (bookG af es w) w).Nodup := by
    have : ((bookG af es w).map (rankG w)).Nodup := by
      have e : (((bookG af es w).map (rankG w)).map Prod.fst).Nodup := by
        rw [List.map_map]
        exact h2
      exact List.Pairwise.of_map (S := (· ≠ ·)) Prod.fst (fun a b h he => h (by rw [he])) e
    exact (sortG_perm _).nodup_iff.2 this
  refine ((sortG_sorted _).and hn).imp (fun {x y} h => ?_)
  obtain ⟨h4, h5⟩ := h
  cases hb : ltG x y with
  | true => rfl
  | false => exact absurd (leG_anti h4 hb) h5
theorem drawBG_ev {l : List PV} (hl : l.length ≤ 1048576) (hby : ∀ j, 0 ≤ ((PV.list l).elem j).toInt ∧ ((PV.list l).elem j).toInt ≤ 255) :
    ∃ (af : List Aff) (es : List Ent) (s : ByteArray), BookD af es ∧ s.size ≤ 100 ∧ Ev (fun N => spec_DrawBookGuesses.f N [PV.list l]) [bookP af es, strP s] := by
  obtain ⟨b, hb, hop⟩ := open_ev hl hby
  obtain ⟨af, es, q0, a1, hD, a3⟩ := anyBook_ev hb 0 (by omega)
  obtain ⟨x, q1, x1, x2, x3⟩ := l13Of_ev hb hD q0 (by omega)
  obtain ⟨y, q2, y1, y2, y3⟩ := other_ev hb q1 (by omega) x (by omega)
  simp only [Int.natCast_zero] at a3
  simp only [strP] at y3
  refine ⟨af, es, y, hD, by omega, ?_⟩
  simp only [spec_DrawBookGuesses.f_eq, hop, rd_f0, rd_f1, rd_agg, stk, if_true, if_false, ite_self, Option.bind_some, bne_self_eq_false, beq_self_eq_true, Int.reduceEq, Nat.reduceEqDiff, List.length_singleton, List.tail_cons, Int.reduceLE, Int.reduceLT]
  refine Ev.bind a3 ?_
  simp only [rd_f1, rd_agg, book_f0, book_f1, book_agg, stk, if_true, if_false, ite_self, Option.bind_some, bne_self_eq_false, beq_self_eq_true, Int.reduceEq, Nat.reduceEqDiff, List.length_singleton, List.tail_cons, Int.reduceLE, Int.reduceLT]
  refine Ev.bind x3 ?_
  simp only [rd_f1, rd_agg, stk, if_true, if_false, ite_self, Option.bind_some, bne_self_eq_false, beq_self_eq_true, Int.reduceEq, Nat.reduceEqDiff, List.length_singleton, List.tail_cons, Int.reduceLE, Int.reduceLT]
  refine Ev.bind y3 ?_
  simp only [stk, if_true, if_false, ite_self, Option.bind_some, bne_self_eq_false, beq_self_eq_true, Int.reduceEq, Nat.reduceEqDiff, List.length_singleton, List.tail_cons, Int.reduceLE, Int.reduceLT]
  exact Ev.now _
theorem mdGi_ev (l : List Gi) (hl : l.length ≤ 1000000000) : Ev (fun N => laws_mdGuesses.f N [giP l, giP l]) [boolP true] := by
  have key : ∀ (rest pre : List Gi), l = pre ++ rest → Ev2 (fun N n => laws_mdGuesses.l0 N n (giP l) (giP l) (pre.length : Int)) [boolP true] := by
    intro rest
    induction rest with
    | nil =>
      intro pre hp
      refine Ev2.succ ?_
      simp only [laws_mdGuesses.l0_eq, gi_len, at_end hp, stk, if_true, if_false, ite_self, Option.bind_some, bne_self_eq_false, beq_self_eq_true, Int.reduceEq, Nat.reduceEqDiff, List.length_singleton, List.tail_cons, Int.reduceLE, Int.reduceLT]
      exact Ev2.now _
    | cons g rest ih =>
      intro pre hp
      refine Ev2.succ ?_
      simp only [laws_mdGuesses.l0_eq, gi_len, gi_elem hp, at_lt hp, gi_f0, gi_f1, at_next hp (by omega), stk, if_true, if_false, ite_self, Option.bind_some, bne_self_eq_false, beq_self_eq_true, Int.reduceEq, Nat.reduceEqDiff, List.length_singleton, List.tail_cons, Int.reduceLE, Int.reduceLT]
      exact ih _ (at_step hp)
  simp only [laws_mdGuesses.f_eq, gi_len, stk, if_true, if_false, ite_self, Option.bind_some, bne_self_eq_false, beq_self_eq_true, Int.reduceEq, Nat.reduceEqDiff, List.length_singleton, List.tail_cons, Int.reduceLE, Int.reduceLT]
  exact (key l [] rfl).diag
theorem rank_l1 {R G : List Gi} (hR : R.length ≤ 10) (hG : G.length ≤ 10) {s : ByteArray} {pre rest : List Gi} {g : Gi} (hp : R = pre ++ g :: rest) {r : List PV}
    (hend : Ev3 (fun N m n => laws_FnRanked.l1 N m n s (pre.length : Int) true (G.length : Int) (giP R) (giP G)) r) : ∀ (rest2 pre2 : List Gi) (b : Bool), G = pre2 ++ rest2 → (b = true ∨ ∃ x ∈ rest2, x.1 = g.1) →
    Ev3 (fun N m n => laws_FnRanked.l1 N m n s (pre.length : Int) b (pre2.length : Int) (giP R) (giP G)) r := by
  intro rest2
  induction rest2 with
  | nil =>
    intro pre2 b hp2 hb
    have e : pre2.length = G.length := by rw [hp2]; simp
    rcases hb with rfl | ⟨x, hx, _⟩
    · rw [e]; exact hend
    · cases hx
  | cons x rest2 ih =>
    intro pre2 b hp2 hb
    have hpl := at_ltN hp2
    have hpl2 := at_ltN hp
    refine Ev3.succ ?_
    cases b with
    | true =>
      simp only [laws_FnRanked.l1_eq, gi_len, at_lt hp2, at_next hp2 (by omega), stk, if_true, if_false, ite_self, Option.bind_some, bne_self_eq_false, beq_self_eq_true, Int.reduceEq, Nat.reduceEqDiff, List.length_singleton, List.tail_cons, Int.reduceLE, Int.reduceLT]
      exact ih _ true (at_step hp2) (.inl rfl)
    | false =>
      simp only [laws_FnRanked.l1_eq, gi_len, at_lt hp2, at_lt hp, gi_elem hp2, gi_elem hp, gi_f0, at_next hp2 (by omega), stk, if_true, if_false, ite_self, Option.bind_some, bne_self_eq_false, beq_self_eq_true, Int.reduceEq, Nat.reduceEqDiff, List.length_singleton, List.tail_cons, Int.reduceLE, Int.reduceLT]
      refine ih _ _ (at_step hp2) ?_
      rcases hb with h | ⟨y, hy, he⟩
      · cases h
      · rcases List.mem_cons.1 hy with rfl | hy
        · left; simpa using he
        · exact .inr ⟨y, hy, he⟩
theorem law (ps : List PV) (h : PvOkL (PvOk Tryz.prog 8) [22] ps) : ∃ N, laws_FnRanked.f N ps = some [boolP true] := by
  obtain ⟨l, rfl, hby⟩ := code_args (P := Tryz.prog) (t := 22) (e := 5) (by kernel_rfl) (by kernel_rfl) h
  refine Ev.some ?_
  have hit : (PV.list l).items = l := rfl
  simp only [laws_FnRanked.f_eq, hit]
  by_cases hbig : (1048576 : Int) < (l.length : Int)
  · simp only [hbig, stk, if_true, if_false, ite_self, Option.bind_some, bne_self_eq_false, beq_self_eq_true, Int.reduceEq, Nat.reduceEqDiff, List.length_singleton, List.tail_cons, Int.reduceLE, Int.reduceLT]; exact Ev.now _
  obtain ⟨af, es, s, hD, hs, hdr⟩ := drawBG_ev (l := l) (by omega) hby
  have hS := hD.s
  have him := implRank_ev hS s (by omega)
  have hsp := specRank_ev hS s (by omega)
  have hbg := implBookG_ev hS s (by omega)
  have hdu : Ev (fun N => spec_DrawRanked.f N [PV.list l]) [bookP af es, strP s] := by
    simp only [spec_DrawRanked.f_eq]
    refine Ev.bind hdr ?_
    simp only [book_f0, book_f1, book_agg, stk, if_true, if_false, ite_self, Option.bind_some, bne_self_eq_false, beq_self_eq_true, Int.reduceEq, Nat.reduceEqDiff, List.length_singleton, List.tail_cons, Int.reduceLE, Int.reduceLT]
    exact Ev.now _
  simp only [strP] at him hsp hbg
  obtain ⟨h1, h2, h3⟩ := bookG_facts (af := af) (es := es) (w := s)
  have hst := rank_strict (af := af) (es := es) (w := s)
  have hlen : (rankM (bookG af es s) s).length = (bookG af es s).length := by unfold rankM; rw [sortG_len, List.length_map]
  have hmem : ∀ g ∈ rankM (bookG af es s) s, (∃ x ∈ bookG af es s, x.1 = g.1) ∧ isWord g.1 = true ∧ isWord s = true ∧ g.2 = wf (fW g.1 s) g.1.size s.size := fun g hg => by
    have := (sortG_perm _).mem_iff.1 hg
    obtain ⟨x, hx, rfl⟩ := List.mem_map.1 this
    obtain ⟨h4, h5⟩ := h3 x hx
    exact ⟨⟨x, hx, rfl⟩, h4, h5, rfl⟩
  generalize bookG af es s = G at *
  generalize rankM G s = R at *
  have key : ∀ (rest pre : List Gi), R = pre ++ rest → Ev2 (fun N n => laws_FnRanked.l0 N n s (pre.length : Int) (giP R) (giP G)) [boolP true] := by
    intro rest
    induction rest with
    | nil =>
      intro pre hp
      refine Ev2.succ ?_
      simp only [laws_FnRanked.l0_eq, gi_len, at_end hp, stk, if_true, if_false, ite_self, Option.bind_some, bne_self_eq_false, beq_self_eq_true, Int.reduceEq, Nat.reduceEqDiff, List.length_singleton, List.tail_cons, Int.reduceLE, Int.reduceLT]
      simp only [hlen, stk, if_true, if_false, ite_self, Option.bind_some, bne_self_eq_false, beq_self_eq_true, Int.reduceEq, Nat.reduceEqDiff, List.length_singleton, List.tail_cons, Int.reduceLE, Int.reduceLT]
      exact Ev2.now _
    | cons g rest ih =>
      intro pre hp
      have hpl := at_ltN hp
      obtain ⟨m1, m2, m3, m4⟩ := hmem g (by rw [hp]; simp)
      have hnext := ih _ (at_step hp)
      obtain ⟨z1, z2, -⟩ := word_sizeW m2
      obtain ⟨y1, y2, -⟩ := word_sizeW m3
      have hf := implWeigh_ev g.1 s (by omega) (by omega)
      rw [weighM_words m2 m3, ← m4] at hf
      simp only [strP] at hf
      have cG : ¬ ((G.length : Int) < (G.length : Int)) := by omega
      have hend : Ev3 (fun N m n => laws_FnRanked.l1 N m n s (pre.length : Int) true (G.length : Int) (giP R) (giP G)) [boolP true] := by
        refine Ev3.succ ?_
        simp only [laws_FnRanked.l1_eq, gi_len, cG, gi_elem hp, at_lt hp, gi_f0, gi_f1, stk, if_true, if_false, ite_self, Option.bind_some, bne_self_eq_false, beq_self_eq_true, Int.reduceEq, Nat.reduceEqDiff, List.length_singleton, List.tail_cons, Int.reduceLE, Int.reduceLT]
        refine Ev3.bind hf ?_
        rcases List.eq_nil_or_concat pre with rfl | ⟨pre', p, hpp⟩
        · have c0 : ¬ ((0 : Int) < (([] : List Gi).length : Int)) := by decide
          simp only [c0, at_next hp (by omega), stk, if_true, if_false, ite_self, Option.bind_some, bne_self_eq_false, beq_self_eq_true, Int.reduceEq, Nat.reduceEqDiff, List.length_singleton, List.tail_cons, Int.reduceLE, Int.reduceLT]
          exact hnext.outer
        · rw [List.concat_eq_append] at hpp
          subst hpp
          have hp' : R = pre' ++ p :: (g :: rest) := by rw [hp]; simp
          have hpl' := at_ltN hp'
          have c0 : (0 : Int) < ((pre' ++ [p]).length : Int) := by simp <;> omega
          have wi : IntKind.i64.wrap (((pre' ++ [p]).length : Int) - 1) = (pre'.length : Int) := by rw [wrap_id (by simp <;> omega) (by omega)]; simp
          have hlt : ltG p g = true := by
            rw [hp'] at hst
            exact (List.pairwise_cons.1 (List.pairwise_append.1 hst).2.1).1 g (by simp)
          by_cases q1 : p.2 < g.2
          · have q2 : ¬ g.2 < p.2 := by omega
            have q3 : ¬ p.2 = g.2 := by omega
            simp only [c0, wi, gi_elem hp', at_lt hp', gi_elem hp, at_lt hp, gi_f0, gi_f1, q2, q3, at_next hp (by omega), stk, if_true, if_false, ite_self, Option.bind_some, bne_self_eq_false, beq_self_eq_true, Int.reduceEq, Nat.reduceEqDiff, List.length_singleton, List.tail_cons, Int.reduceLE, Int.reduceLT]
            exact hnext.outer
          · have q4 : p.2 = g.2 ∧ bLess p.1 g.1 = true := by simpa [ltG, q1] using hlt
            have q2 : ¬ g.2 < p.2 := by omega
            simp only [c0, wi, gi_elem hp', at_lt hp', gi_elem hp, at_lt hp, gi_f0, gi_f1, bLess_eq, q4.1, q4.2, Int.lt_irrefl, at_next hp (by omega), stk, if_true, if_false, ite_self, Option.bind_some, bne_self_eq_false, beq_self_eq_true, Int.reduceEq, Nat.reduceEqDiff, List.length_singleton, List.tail_cons, Int.reduceLE, Int.reduceLT]
            exact hnext.outer
      refine Ev2.succ ?_
      simp only [laws_FnRanked.l0_eq, gi_len, at_lt hp, stk, if_true, if_false, ite_self, Option.bind_some, bne_self_eq_false, beq_self_eq_true, Int.reduceEq, Nat.reduceEqDiff, List.length_singleton, List.tail_cons, Int.reduceLE, Int.reduceLT]
      exact (rank_l1 (by omega) (by omega) hp hend G [] false rfl (.inr m1)).start
  simp only [hbig, stk, if_true, if_false, ite_self, Option.bind_some, bne_self_eq_false, beq_self_eq_true, Int.reduceEq, Nat.reduceEqDiff, List.length_singleton, List.tail_cons, Int.reduceLE, Int.reduceLT]
  refine Ev.bind hdu ?_
  simp only [book_f0, book_f1, book_agg, stk, if_true, if_false, ite_self, Option.bind_some, bne_self_eq_false, beq_self_eq_true, Int.reduceEq, Nat.reduceEqDiff, List.length_singleton, List.tail_cons, Int.reduceLE, Int.reduceLT]
  refine Ev.bind him ?_
  refine Ev.bind hsp ?_
  simp only [stk, if_true, if_false, ite_self, Option.bind_some, bne_self_eq_false, beq_self_eq_true, Int.reduceEq, Nat.reduceEqDiff, List.length_singleton, List.tail_cons, Int.reduceLE, Int.reduceLT]
  refine Ev.bind (mdGi_ev R (by omega)) ?_
  simp only [stk, if_true, if_false, ite_self, Option.bind_some, bne_self_eq_false, beq_self_eq_true, Int.reduceEq, Nat.reduceEqDiff, List.length_singleton, List.tail_cons, Int.reduceLE, Int.reduceLT]
  refine Ev.bind hbg ?_
  simp only [stk, if_true, if_false, ite_self, Option.bind_some, bne_self_eq_false, beq_self_eq_true, Int.reduceEq, Nat.reduceEqDiff, List.length_singleton, List.tail_cons, Int.reduceLE, Int.reduceLT]
  exact (key R [] rfl).diag
end Go.Proofs.YtoiigoflkhmjnaaGreatDoor.FnRanked
