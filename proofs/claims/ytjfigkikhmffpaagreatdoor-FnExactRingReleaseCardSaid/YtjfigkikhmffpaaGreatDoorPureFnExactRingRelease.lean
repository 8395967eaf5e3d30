import Derived.Test.YtjfigkikhmffpaaGreatDoorFnFnExactRingReleasey1
set_option linter.unusedVariables false
set_option linter.unusedSimpArgs false
set_option maxRecDepth 10000
namespace Go.Proofs.YtjfigkikhmffpaaGreatDoor.FnExactRingRelease
open Go Go.Proofs.YtjfigkikhmffpaaGreatDoorAm
structure DelW (d : Del) : Prop where
  gl : d.goes.length ≤ 1000
  g : ∀ s ∈ d.goes, s.size ≤ 20
  cl : d.comes.length ≤ 1000
  c : ∀ e ∈ d.comes, EntW e
  ll : d.list.length ≤ 1000
  l : ∀ a ∈ d.list, AffW a
theorem delW_of {d : Del} (h : delB d = true) : DelW d := by
  simp only [delB, entsB, wordsM, affsB, Bool.and_eq_true, decide_eq_true_eq] at h
  obtain ⟨⟨h1, h2⟩, ⟨h3, h4⟩, ⟨h5, h6⟩, -, -⟩ := h
  refine ⟨by omega, fun s hs => ?_, by omega, fun e he => entW_of (entsL_all h3 e he), by omega, fun a ha => affW_of (affsL_all h5 a ha)⟩
  have := word_size ((ascW_none.1 h1).1 s hs)
  omega
def delT (d : Del) : ByteArray := catE ⟨#[43]⟩ d.comes (catG d.goes (catA d.list (if d.aff = true then ⟨#[97, 102, 102, 105, 120, 101, 115, 10]⟩ else ⟨#[]⟩)))
theorem specPutD_l2 {d : Del} (hw : DelW d) : ∀ (rest pre : List Ent) (acc : ByteArray), d.comes = pre ++ rest → acc.size + 100 * rest.length ≤ 1000000 →
    Ev2 (fun N n => spec_l5Put.l2 N n acc (pre.length : Int) (strsP d.goes) (entsP d.comes) d.aff (affsP d.list)) [strP (catE ⟨#[43]⟩ rest acc)] := by
  have hl := hw.cl
  intro rest
  induction rest with
  | nil =>
    intro pre acc hp _
    refine Ev2.succ ?_
    simp only [spec_l5Put.l2_eq, ents_len, at_end hp, catE, stk, Int.reduceEq, Nat.reduceEqDiff, Int.reduceLE, Int.reduceLT]
    exact Ev2.now _
  | cons e rest ih =>
    intro pre acc hp hz
    have he := hw.c e (by rw [hp]; simp)
    have hs := entText_size he
    rw [List.length_cons] at hz
    refine Ev2.succ ?_
    simp only [spec_l5Put.l2_eq, ents_len, ents_elem hp, at_lt hp, at_next hp (by omega), ent_f0, ent_f1, ent_agg, entPut_val he, catE, stk, Int.reduceEq, Nat.reduceEqDiff, Int.reduceLE, Int.reduceLT]
    simp (disch := omega) only [app_size, c_one, if_pos]
    have := ih (pre ++ [e]) (acc ++ (ByteArray.mk #[43] ++ (entText e ++ nl))) (at_step hp) (by simp only [app_size, nl_size, c_one]; omega)
    rw [← byte_assoc, ← byte_assoc] at this ⊢
    exact this
theorem specPutD_l1 {d : Del} (hw : DelW d) : ∀ (rest pre : List ByteArray) (acc : ByteArray), d.goes = pre ++ rest → acc.size + 100 * rest.length + 100 * d.comes.length ≤ 1000000 →
    Ev2 (fun N n => spec_l5Put.l1 N n acc (pre.length : Int) (strsP d.goes) (entsP d.comes) d.aff (affsP d.list)) [strP (catE ⟨#[43]⟩ d.comes (catG rest acc))] := by
  have hl := hw.gl
  intro rest
  induction rest with
  | nil =>
    intro pre acc hp hz
    refine Ev2.succ ?_
    simp only [spec_l5Put.l1_eq, at_end hp, catG, stk, Int.reduceEq, Nat.reduceEqDiff, Int.reduceLE, Int.reduceLT]
    exact (specPutD_l2 hw d.comes [] acc rfl (by simp only [List.length_nil] at hz; omega)).after
  | cons g rest ih =>
    intro pre acc hp hz
    have hs := hw.g g (by rw [hp]; simp)
    rw [List.length_cons] at hz
    refine Ev2.succ ?_
    simp only [spec_l5Put.l1_eq, at_lt hp, at_getD hp, at_next hp (by omega), catG, stk, Int.reduceEq, Nat.reduceEqDiff, Int.reduceLE, Int.reduceLT]
    simp (disch := omega) only [app_size, c_one, if_pos]
    have := ih (pre ++ [g]) (acc ++ (ByteArray.mk #[45] ++ g ++ nl)) (at_step hp) (by simp only [app_size, nl_size, c_one]; omega)
    rw [← byte_assoc, ← byte_assoc] at this ⊢
    exact this
theorem specPutD_l0 {d : Del} (hw : DelW d) : ∀ (rest pre : List Aff) (acc : ByteArray), d.list = pre ++ rest → acc.size + 100 * rest.length + 100 * d.goes.length + 100 * d.comes.length ≤ 1000000 →
    Ev2 (fun N n => spec_l5Put.l0 N n acc (pre.length : Int) (strsP d.goes) (entsP d.comes) d.aff (affsP d.list)) [strP (catE ⟨#[43]⟩ d.comes (catG d.goes (catA rest acc)))] := by
  have hl := hw.ll
  intro rest
  induction rest with
  | nil =>
    intro pre acc hp hz
    refine Ev2.succ ?_
    simp only [spec_l5Put.l0_eq, affs_len, at_end hp, catA, stk, Int.reduceEq, Nat.reduceEqDiff, Int.reduceLE, Int.reduceLT]
    exact (specPutD_l1 hw d.goes [] acc rfl (by simp only [List.length_nil] at hz; omega)).after
  | cons a rest ih =>
    intro pre acc hp hz
    have he := hw.l a (by rw [hp]; simp)
    have hs := affText_size he
    rw [List.length_cons] at hz
    refine Ev2.succ ?_
    simp only [spec_l5Put.l0_eq, affs_len, affs_elem hp, at_lt hp, at_next hp (by omega), aff_f0, aff_f1, aff_f2, aff_f3, aff_f4, aff_agg, affPut_val he, catA, stk, Int.reduceEq, Nat.reduceEqDiff, Int.reduceLE, Int.reduceLT]
    simp (disch := omega) only [app_size, c_one, if_pos]
    have := ih (pre ++ [a]) (acc ++ (affText a ++ nl)) (at_step hp) (by simp only [app_size, nl_size]; omega)
    rw [← byte_assoc] at this ⊢
    exact this
theorem specPutD_ev {d : Del} (hw : DelW d) : Ev (fun N => spec_l5Put.f N [delP d]) [strP (delT d)] := by
  have h1 := hw.gl; have h2 := hw.cl; have h3 := hw.ll
  unfold delT
  cases h : d.aff with
  | true =>
    have := (specPutD_l0 hw d.list [] ⟨#[97, 102, 102, 105, 120, 101, 115, 10]⟩ rfl (by rw [c_aff]; omega)).diag
    rw [h] at this
    simp only [spec_l5Put.f_eq, del_f0, del_f1, del_f2, del_f3, h, stk, Int.reduceEq, Nat.reduceEqDiff, Int.reduceLE, Int.reduceLT]
    exact this
  | false =>
    have := (specPutD_l0 hw d.list [] ⟨#[]⟩ rfl (by rw [c_zero]; omega)).diag
    rw [h] at this
    simp only [spec_l5Put.f_eq, del_f0, del_f1, del_f2, del_f3, h, stk, Int.reduceEq, Nat.reduceEqDiff, Int.reduceLE, Int.reduceLT]
    exact this
theorem implPutD_l2 {es : List Ent} (hw : ∀ e ∈ es, EntW e) (hl : es.length ≤ 1000) : ∀ (rest pre : List Ent) (acc : ByteArray), es = pre ++ rest → acc.size + 100 * rest.length ≤ 1000000 →
    Ev2 (fun N n => impl_DeltaPut.l2 N n acc (entsP es) (es.length : Int) (pre.length : Int)) [strP (catE ⟨#[43]⟩ rest acc)] := by
  intro rest
  induction rest with
  | nil =>
    intro pre acc hp _
    refine Ev2.succ ?_
    simp only [impl_DeltaPut.l2_eq, ents_len, at_end hp, catE, stk, Int.reduceEq, Nat.reduceEqDiff, Int.reduceLE, Int.reduceLT]
    exact Ev2.now _
  | cons e rest ih =>
    intro pre acc hp hz
    have he := hw e (by rw [hp]; simp)
    have hs := entText_size he
    rw [List.length_cons] at hz
    refine Ev2.succ ?_
    simp only [impl_DeltaPut.l2_eq, ents_len, ents_elem hp, at_lt hp, at_next hp (by omega), ent_f0, ent_f1, ent_agg, entLine_val he, catE, stk, Int.reduceEq, Nat.reduceEqDiff, Int.reduceLE, Int.reduceLT]
    simp (disch := omega) only [app_size, c_one, nl_size, if_pos]
    exact ih (pre ++ [e]) (acc ++ (ByteArray.mk #[43] ++ (entText e ++ nl))) (at_step hp) (by simp only [app_size, nl_size, c_one]; omega)
theorem implPutD_l1 {d : Del} (hw : DelW d) : ∀ (rest pre : List ByteArray) (acc : ByteArray), d.goes = pre ++ rest → acc.size + 100 * rest.length + 100 * d.comes.length ≤ 1000000 →
    Ev2 (fun N n => impl_DeltaPut.l1 N n acc (strsP d.goes) (d.goes.length : Int) (pre.length : Int) (strsP d.goes) (entsP d.comes) d.aff (affsP d.list)) [strP (catE ⟨#[43]⟩ d.comes (catG rest acc))] := by
  have hl := hw.gl
  intro rest
  induction rest with
  | nil =>
    intro pre acc hp hz
    refine Ev2.succ ?_
    simp only [impl_DeltaPut.l1_eq, ents_len, at_end hp, catG, stk, Int.reduceEq, Nat.reduceEqDiff, Int.reduceLE, Int.reduceLT]
    exact (implPutD_l2 hw.c hw.cl d.comes [] acc rfl (by simp only [List.length_nil] at hz; omega)).after
  | cons g rest ih =>
    intro pre acc hp hz
    have hs := hw.g g (by rw [hp]; simp)
    rw [List.length_cons] at hz
    refine Ev2.succ ?_
    simp only [impl_DeltaPut.l1_eq, at_lt hp, at_getD hp, at_next hp (by omega), catG, stk, Int.reduceEq, Nat.reduceEqDiff, Int.reduceLE, Int.reduceLT]
    simp (disch := omega) only [app_size, c_one, if_pos]
    exact ih (pre ++ [g]) (acc ++ (ByteArray.mk #[45] ++ g ++ nl)) (at_step hp) (by simp only [app_size, nl_size, c_one]; omega)
theorem implPutD_l0 {d : Del} (hw : DelW d) : ∀ (rest pre : List Aff) (acc : ByteArray), d.list = pre ++ rest → acc.size + 100 * rest.length + 100 * d.goes.length + 100 * d.comes.length ≤ 1000000 →
    Ev2 (fun N n => impl_DeltaPut.l0 N n acc (affsP d.list) (d.list.length : Int) (pre.length : Int) (strsP d.goes) (entsP d.comes) d.aff (affsP d.list)) [strP (catE ⟨#[43]⟩ d.comes (catG d.goes (catA rest acc)))] := by
  have hl := hw.ll
  intro rest
  induction rest with
  | nil =>
    intro pre acc hp hz
    refine Ev2.succ ?_
    simp only [impl_DeltaPut.l0_eq, affs_len, at_end hp, catA, stk, Int.reduceEq, Nat.reduceEqDiff, Int.reduceLE, Int.reduceLT]
    exact (implPutD_l1 hw d.goes [] acc rfl (by simp only [List.length_nil] at hz; omega)).after
  | cons a rest ih =>
    intro pre acc hp hz
    have he := hw.l a (by rw [hp]; simp)
    have hs := affText_size he
    rw [List.length_cons] at hz
    refine Ev2.succ ?_
    simp only [impl_DeltaPut.l0_eq, affs_len, affs_elem hp, at_lt hp, at_next hp (by omega), aff_f0, aff_f1, aff_f2, aff_f3, aff_f4, aff_agg, affLine_val he, catA, stk, Int.reduceEq, Nat.reduceEqDiff, Int.reduceLE, Int.reduceLT]
    simp (disch := omega) only [app_size, nl_size, if_pos]
    exact ih (pre ++ [a]) (acc ++ (affText a ++ nl)) (at_step hp) (by simp only [app_size, nl_size]; omega)
theorem implPutD_ev {d : Del} (hs : DelS d) (hb : delB d = true) : Ev (fun N => impl_DeltaPut.f N [delP d]) [strP (delT d)] := by
  have hw := delW_of hb
  have h1 := hw.gl; have h2 := hw.cl; have h3 := hw.ll
  have ho := implDeltaOk_ev hs
  unfold delT
  cases h : d.aff with
  | true =>
    have := (implPutD_l0 hw d.list [] ⟨#[97, 102, 102, 105, 120, 101, 115, 10]⟩ rfl (by rw [c_aff]; omega)).diag
    rw [h] at this
    have e := del_agg d
    rw [h] at e
    simp only [impl_DeltaPut.f_eq, del_f0, del_f1, del_f2, del_f3, affs_len, h, e, stk, Int.reduceEq, Nat.reduceEqDiff, Int.reduceLE, Int.reduceLT]
    refine Ev.bind ho ?_
    simp only [hb, stk, Int.reduceEq, Nat.reduceEqDiff, Int.reduceLE, Int.reduceLT]
    exact this
  | false =>
    have := (implPutD_l0 hw d.list [] ⟨#[]⟩ rfl (by rw [c_zero]; omega)).diag
    rw [h] at this
    have e := del_agg d
    rw [h] at e
    simp only [impl_DeltaPut.f_eq, del_f0, del_f1, del_f2, del_f3, affs_len, h, e, stk, Int.reduceEq, Nat.reduceEqDiff, Int.reduceLE, Int.reduceLT]
    refine Ev.bind ho ?_
    simp only [hb, stk, Int.reduceEq, Nat.reduceEqDiff, Int.reduceLE, Int.reduceLT]
    exact this
theorem catG_size : ∀ (l : List ByteArray) (acc : ByteArray), (∀ s ∈ l, s.size ≤ 20) → (catG l acc).size ≤ acc.size + 62 * l.length
  | [], acc, _ => by simp [catG]
  | e :: r, acc, hw => by
    have h1 := catG_size r (acc ++ (ByteArray.mk #[45] ++ e ++ nl)) (fun x hx => hw x (List.mem_cons_of_mem _ hx))
    have h2 := hw e List.mem_cons_self
    simp only [app_size, nl_size, c_one] at h1
    rw [catG, List.length_cons]; omega
theorem delT_size {d : Del} (hw : DelW d) : (delT d).size ≤ 200000 := by
  have h1 := catE_size ⟨#[43]⟩ d.comes (catG d.goes (catA d.list (if d.aff = true then ⟨#[97, 102, 102, 105, 120, 101, 115, 10]⟩ else ⟨#[]⟩))) (by rw [c_one]; omega) hw.c
  have h2 := catG_size d.goes (catA d.list (if d.aff = true then ⟨#[97, 102, 102, 105, 120, 101, 115, 10]⟩ else ⟨#[]⟩)) hw.g
  have h3 := catA_size d.list (if d.aff = true then ⟨#[97, 102, 102, 105, 120, 101, 115, 10]⟩ else ⟨#[]⟩) hw.l
  have h4 : (if d.aff = true then (⟨#[97, 102, 102, 105, 120, 101, 115, 10]⟩ : ByteArray) else ⟨#[]⟩).size ≤ 8 := by
    split
    · rw [c_aff]; omega
    · rw [c_zero]; omega
  have a1 := hw.gl; have a2 := hw.cl; have a3 := hw.ll
  unfold delT; omega
def isFig (c : Int) : Bool := decide ((48 ≤ c ∧ c ≤ 57) ∨ (97 ≤ c ∧ c ≤ 102))
def digB (s : ByteArray) : Bool := decide ((s.size : Int) = 64) && (bytesOf s).all isFig
theorem figure_val {c : Int} (N : Nat) : spec_l6Figure.f N [PV.sc (.int .u8 c)] = some [boolP (isFig c)] := by
  by_cases a1 : 48 ≤ c <;> by_cases a2 : c ≤ 57 <;> by_cases a3 : 97 ≤ c <;> by_cases a4 : c ≤ 102
  all_goals first
    | (exfalso; omega)
    | (simp only [spec_l6Figure.f_eq, toInt_sc, isFig, a1, a2, a3, a4, decide_true, decide_false, if_true, if_false, Bool.false_eq_true, Bool.true_eq_false, and_self, and_true, and_false, true_and, false_and, or_self, or_true, or_false, true_or, false_or])
theorem fig_mem (b : UInt8) : hexD.data.toList.contains b = isFig (b.toNat : Int) := by
  have key : ∀ n : Fin 256, hexD.data.toList.contains (UInt8.ofNat n.val) = isFig (((UInt8.ofNat n.val).toNat : Nat) : Int) := by decide
  have := key ⟨b.toNat, b.toNat_lt⟩
  simpa using this
theorem dw_nil {p : UInt8 → Bool} : ∀ {l : List UInt8}, l.dropWhile p = [] ↔ ∀ x ∈ l, p x = true
  | [] => by simp
  | a :: l => by
    cases h : p a with
    | true => rw [List.dropWhile_cons_of_pos h, dw_nil (l := l)]; simp [h]
    | false => rw [List.dropWhile_cons_of_neg (by rw [h]; simp)]; simp [h]
theorem dw_head {p : UInt8 → Bool} : ∀ {l : List UInt8} {a : UInt8} {r : List UInt8}, l.dropWhile p = a :: r → p a = false
  | [], _, _, h => by simp at h
  | b :: l, a, r, h => by
    cases hb : p b with
    | true => rw [List.dropWhile_cons_of_pos hb] at h; exact dw_head h
    | false =>
      rw [List.dropWhile_cons_of_neg (by rw [hb]; simp)] at h
      injection h with h1 h2
      rw [← h1]; exact hb
theorem trimS_nil (l cs : List UInt8) : Lib.trimS l cs = [] ↔ ∀ b ∈ l, cs.contains b = true := by
  unfold Lib.trimS Lib.trimLeftS Lib.trimRightS
  constructor
  · intro h
    rw [dw_nil] at h
    cases hd : l.reverse.dropWhile (cs.contains ·) with
    | nil =>
      rw [dw_nil] at hd
      intro b hb
      exact hd b (by simpa using hb)
    | cons a r =>
      exfalso
      have h1 : cs.contains a = true := h a (by rw [hd]; simp)
      have h2 := dw_head hd
      rw [h1] at h2; cases h2
  · intro h
    have : l.reverse.dropWhile (cs.contains ·) = [] := dw_nil.2 (fun b hb => h b (by simpa using hb))
    rw [this]; rfl
theorem trimBoth_iff (s : ByteArray) : decide (trimBoth s hexD = ByteArray.mk #[]) = (bytesOf s).all isFig := by
  apply Bool.eq_iff_iff.2
  rw [decide_eq_true_eq, List.all_eq_true]
  have e : trimBoth s hexD = ByteArray.mk #[] ↔ Lib.trimS s.data.toList hexD.data.toList = [] := by
    unfold trimBoth
    constructor
    · intro h
      have := congrArg (fun x : ByteArray => x.data.toList) h
      simpa using this
    · intro h; rw [h]
  rw [e, trimS_nil]
  constructor
  · intro h c hc
    obtain ⟨b, hb, rfl⟩ := List.mem_map.1 hc
    rw [← fig_mem]; exact h b hb
  · intro h b hb
    rw [fig_mem]
    exact h _ (List.mem_map_of_mem hb)
theorem digits_val (s : ByteArray) (N : Nat) : impl_digits.f N [PV.sc (.string s)] = some [boolP (digB s)] := by
  by_cases h : (s.size : Int) = 64
  · have ht : strings_Trim.f N [PV.sc (.string s), PV.sc (.string hexD)] = some [strP (trimBoth s hexD)] := by
      have e : trimBothDen [PV.sc (.string s), PV.sc (.string hexD)] = if hexD.data.toList.all (fun b => decide (b.toNat < 128)) = true then (if hexD.size < 4294967281 ∧ s.size ≤ 9223372036854775807 then some [strP (trimBoth s hexD)] else none) else none := rfl
      unfold strings_Trim.f
      rw [e, if_pos (by decide), if_pos ⟨by decide, by omega⟩]
    simp only [impl_digits.f_eq, hexD_eq, h, ht, digB, trimBoth_iff, stk, Int.reduceEq, Nat.reduceEqDiff, Int.reduceLE, Int.reduceLT]
  · simp only [impl_digits.f_eq, h, digB, stk, Int.reduceEq, Nat.reduceEqDiff, Int.reduceLE, Int.reduceLT]
def relT (n : Nat) (d : Del) (sum : ByteArray) : ByteArray := (((ByteArray.mk #[114, 101, 108, 101, 97, 115, 101, 32] ++ decB n) ++ ByteArray.mk #[32] ++ sum) ++ ByteArray.mk #[10]) ++ delT d
theorem relT_size {n : Nat} {d : Del} {sum : ByteArray} (hn : n < 1000000) (hw : DelW d) (hs : sum.size ≤ 64) : (relT n d sum).size ≤ 300000 := by
  have h1 := dec_size 6 n hn
  have h2 := delT_size hw
  unfold relT
  simp only [app_size, c_rel, c_one]; omega
structure Rel where
  num : Int
  del : Del
  sum : ByteArray
  sig : ByteArray
def relP (r : Rel) : PV := .agg [intP r.num, delP r.del, strP r.sum, strP r.sig]
theorem rel_f0 (r : Rel) : (relP r).fld 0 = intP r.num := rfl
theorem rel_f1 (r : Rel) : (relP r).fld 1 = delP r.del := rfl
theorem rel_f2 (r : Rel) : (relP r).fld 2 = strP r.sum := rfl
theorem rel_f3 (r : Rel) : (relP r).fld 3 = strP r.sig := rfl
theorem rel_agg (r : Rel) : PV.agg [PV.sc (.int .i64 r.num), delP r.del, PV.sc (.string r.sum), PV.sc (.string r.sig)] = relP r := rfl
def numB (n : Int) : Bool := decide (1 ≤ n ∧ n ≤ 999999)
theorem implRelText_ev {r : Rel} (hn : numB r.num = true) (hs : DelS r.del) (hb : delB r.del = true) (hz : r.sum.size ≤ 64) : Ev (fun N => impl_Release_text.f N [relP r]) [strP (relT r.num.toNat r.del r.sum)] := by
  simp only [numB, decide_eq_true_eq] at hn
  obtain ⟨n, hnn⟩ : ∃ n : Nat, r.num = (n : Int) := ⟨r.num.toNat, by omega⟩
  have hi : ∀ N, strconv_Itoa.f N [PV.sc (.int .i64 (n : Int))] = some [strP (decB n)] := fun N => by
    show itoaDen _ = _
    have : (-9223372036854775808 ≤ (n : Int) ∧ (n : Int) ≤ 9223372036854775807) := by omega
    simp only [itoaDen, if_pos this, itoa_dec]
  have hd := implPutD_ev hs hb
  have h1 := dec_size 6 n (by omega)
  have h2 := delT_size (delW_of hb)
  simp only [strP] at hi
  simp only [impl_Release_text.f_eq, rel_f0, rel_f1, rel_f2, del_f0, del_f1, del_f2, del_f3, hnn, hi, del_agg, stk, Int.reduceEq, Nat.reduceEqDiff, Int.reduceLE, Int.reduceLT]
  simp (disch := omega) only [app_size, c_rel, c_one, if_pos]
  refine Ev.bind hd ?_
  simp only [stk, Int.reduceEq, Nat.reduceEqDiff, Int.reduceLE, Int.reduceLT]
  simp (disch := omega) only [app_size, c_rel, c_one, if_pos]
  exact Ev.now _
theorem specRelText_ev {r : Rel} (hn : numB r.num = true) (hw : DelW r.del) (hz : r.sum.size ≤ 64) : Ev (fun N => spec_l6Text.f N [relP r]) [strP (relT r.num.toNat r.del r.sum)] := by
  simp only [numB, decide_eq_true_eq] at hn
  obtain ⟨n, hnn⟩ : ∃ n : Nat, r.num = (n : Int) := ⟨r.num.toNat, by omega⟩
  have hi := specDec_ev n (by omega)
  have hd := specPutD_ev hw
  have h1 := dec_size 6 n (by omega)
  have h2 := delT_size hw
  simp only [strP] at hi
  simp only [spec_l6Text.f_eq, rel_f0, rel_f1, rel_f2, del_f0, del_f1, del_f2, del_f3, hnn, del_agg, stk, Int.reduceEq, Nat.reduceEqDiff, Int.reduceLE, Int.reduceLT]
  refine Ev.bind hi ?_
  simp only [stk, Int.reduceEq, Nat.reduceEqDiff, Int.reduceLE, Int.reduceLT]
  simp (disch := omega) only [app_size, c_rel, c_one, if_pos]
  refine Ev.bind hd ?_
  simp only [stk, Int.reduceEq, Nat.reduceEqDiff, Int.reduceLE, Int.reduceLT]
  simp (disch := omega) only [app_size, c_rel, c_one, if_pos]
  exact Ev.now _
def frmB (r : Rel) : Bool := numB r.num && (delB r.del && (digB r.sum && (digB r.sig && decide (((relT r.num.toNat r.del r.sum).size : Int) ≤ 1200))))
theorem digB_size {s : ByteArray} (h : digB s = true) : s.size = 64 := by
  simp only [digB, Bool.and_eq_true, decide_eq_true_eq] at h; omega
theorem implForm_ev {r : Rel} (hs : DelS r.del) : Ev (fun N => impl_Release_wellFormed.f N [relP r]) [boolP (frmB r)] := by
  simp only [impl_Release_wellFormed.f_eq, rel_f0, rel_f1, rel_f2, rel_f3, del_f0, del_f1, del_f2, del_f3, del_agg, implWithin_val, digits_val, stk, Int.reduceEq, Nat.reduceEqDiff, Int.reduceLE, Int.reduceLT]
  unfold frmB
  cases hn : numB r.num with
  | false =>
    have this : (1 ≤ r.num ∧ r.num ≤ 999999) = False := fls (fun h => by rw [show numB r.num = true from decide_eq_true h] at hn; cases hn)
    simp only [this, stk, Int.reduceEq, Nat.reduceEqDiff, Int.reduceLE, Int.reduceLT]; exact Ev.now _
  | true =>
    have this : (1 ≤ r.num ∧ r.num ≤ 999999) = True := tru (of_decide_eq_true hn)
    simp only [this, stk, Int.reduceEq, Nat.reduceEqDiff, Int.reduceLE, Int.reduceLT]
    refine Ev.bind (implDeltaOk_ev hs) ?_
    cases hb : delB r.del with
    | false => simp only [stk, Int.reduceEq, Nat.reduceEqDiff, Int.reduceLE, Int.reduceLT]; exact Ev.now _
    | true =>
      cases h1 : digB r.sum with
      | false => simp only [stk, Int.reduceEq, Nat.reduceEqDiff, Int.reduceLE, Int.reduceLT]; exact Ev.now _
      | true =>
        cases h2 : digB r.sig with
        | false => simp only [stk, Int.reduceEq, Nat.reduceEqDiff, Int.reduceLE, Int.reduceLT]; exact Ev.now _
        | true =>
          have ht := implRelText_ev hn hs hb (by have := digB_size h1; omega)
          simp only [rel_agg, stk, Int.reduceEq, Nat.reduceEqDiff, Int.reduceLE, Int.reduceLT]
          refine Ev.bind ht ?_
          simp only [stk, Int.reduceEq, Nat.reduceEqDiff, Int.reduceLE, Int.reduceLT]
          exact Ev.now _
theorem specForm_l0 {r : Rel} (hn : numB r.num = true) (hw : DelW r.del) (z1 : r.sum.size = 64) (z2 : r.sig.size = 64) : ∀ (ra pa rb pb : List Int), bytesOf r.sum = pa ++ ra → bytesOf r.sig = pb ++ rb → pb.length = pa.length →
    Ev2 (fun N n => spec_l6Form.l0 N n (pa.length : Int) r.num (strsP r.del.goes) (entsP r.del.comes) r.del.aff (affsP r.del.list) r.sum r.sig) [boolP ((ra.all isFig && rb.all isFig) && decide (((relT r.num.toNat r.del r.sum).size : Int) ≤ 1200))] := by
  intro ra
  induction ra with
  | nil =>
    intro pa rb pb h1 h2 hl
    have l1 := congrArg List.length h1
    have l2 := congrArg List.length h2
    simp only [bytesOf_len, List.length_append, List.length_nil] at l1 l2
    have hb : rb = [] := List.eq_nil_of_length_eq_zero (by omega)
    subst hb
    have h0 : ((pa.length : Int) < 64) = False := fls (by omega)
    have ht := specRelText_ev hn hw (by omega)
    refine Ev2.succ ?_
    simp only [spec_l6Form.l0_eq, h0, del_agg, rel_agg, List.all_nil, stk, Int.reduceEq, Nat.reduceEqDiff, Int.reduceLE, Int.reduceLT]
    refine Ev2.bind ht ?_
    simp only [stk, Int.reduceEq, Nat.reduceEqDiff, Int.reduceLE, Int.reduceLT]
    exact Ev2.now _
  | cons a ra ih =>
    intro pa rb pb h1 h2 hl
    have l1 := congrArg List.length h1
    have l2 := congrArg List.length h2
    simp only [bytesOf_len, List.length_append, List.length_cons] at l1 l2
    cases rb with
    | nil => simp at l2; omega
    | cons b rb =>
      simp only [List.length_cons] at l2
      have h0 : ((pa.length : Int) < 64) = True := tru (by omega)
      have hn1 := at_next h1 (by rw [bytesOf_len]; omega)
      have s2 := at_size h2
      have b2 := at_bt h2
      rw [hl] at s2 b2
      refine Ev2.succ ?_
      simp only [spec_l6Form.l0_eq, h0, at_size h1, at_bt h1, s2, b2, hn1, figure_val, List.all_cons, stk, Int.reduceEq, Nat.reduceEqDiff, Int.reduceLE, Int.reduceLT]
      cases isFig a with
      | false => simp only [stk, Int.reduceEq, Nat.reduceEqDiff, Int.reduceLE, Int.reduceLT]; exact Ev2.now _
      | true =>
        cases isFig b with
        | false => simp only [stk, Int.reduceEq, Nat.reduceEqDiff, Int.reduceLE, Int.reduceLT]; exact Ev2.now _
        | true => simp only [stk, Int.reduceEq, Nat.reduceEqDiff, Int.reduceLE, Int.reduceLT]; exact ih _ _ _ (at_step h1) (at_step h2) (by simp [hl])
theorem specForm_ev {r : Rel} (hs : DelS r.del) : Ev (fun N => spec_l6Form.f N [relP r]) [boolP (frmB r)] := by
  simp only [spec_l6Form.f_eq, rel_f0, rel_f1, rel_f2, rel_f3, del_f0, del_f1, del_f2, del_f3, del_agg, specIn_val, stk, Int.reduceEq, Nat.reduceEqDiff, Int.reduceLE, Int.reduceLT]
  unfold frmB
  cases hn : numB r.num with
  | false =>
    have this : (1 ≤ r.num ∧ r.num ≤ 999999) = False := fls (fun h => by rw [show numB r.num = true from decide_eq_true h] at hn; cases hn)
    simp only [this, stk, Int.reduceEq, Nat.reduceEqDiff, Int.reduceLE, Int.reduceLT]; exact Ev.now _
  | true =>
    have this : (1 ≤ r.num ∧ r.num ≤ 999999) = True := tru (of_decide_eq_true hn)
    simp only [this, stk, Int.reduceEq, Nat.reduceEqDiff, Int.reduceLE, Int.reduceLT]
    refine Ev.bind (specDeltaOk_ev hs) ?_
    cases hb : delB r.del with
    | false => simp only [stk, Int.reduceEq, Nat.reduceEqDiff, Int.reduceLE, Int.reduceLT]; exact Ev.now _
    | true =>
      by_cases z1 : (r.sum.size : Int) = 64
      · by_cases z2 : (r.sig.size : Int) = 64
        · have := (specForm_l0 hn (delW_of hb) (by omega) (by omega) (bytesOf r.sum) [] (bytesOf r.sig) [] rfl rfl rfl).diag
          simp only [digB, z1, z2, stk, Int.reduceEq, Nat.reduceEqDiff, Int.reduceLE, Int.reduceLT]
          refine Ev.ext this ?_
          rw [Bool.and_assoc]
        · simp only [digB, z1, z2, stk, Int.reduceEq, Nat.reduceEqDiff, Int.reduceLE, Int.reduceLT]
          refine Ev.ext (Ev.now _) ?_
          simp
      · simp only [digB, z1, stk, Int.reduceEq, Nat.reduceEqDiff, Int.reduceLE, Int.reduceLT]
        exact Ev.now _
theorem l5At_loop {es : List Ent} (hl : es.length ≤ 1000000000) (s : ByteArray) : ∀ (rest pre : List Ent), es = pre ++ rest →
    Ev2 (fun N n => spec_l5At.l0 N n (entsP es) s (pre.length : Int)) [intP ((pre.length + (lessE s rest).length : Nat) : Int), boolP (thereE s rest)] := by
  intro rest
  induction rest with
  | nil =>
    intro pre hp
    refine Ev2.succ ?_
    simp only [spec_l5At.l0_eq, ents_len, at_end hp, stk, Int.reduceEq, Nat.reduceEqDiff, Int.reduceLE, Int.reduceLT]
    exact Ev2.now _
  | cons e rest ih =>
    intro pre hp
    refine Ev2.succ ?_
    cases hb : bLess e.stem s with
    | true =>
      simp only [spec_l5At.l0_eq, ents_len, ents_elem hp, at_lt hp, at_next hp (by omega), ent_f0, bLess_eq, hb, stk, Int.reduceEq, Nat.reduceEqDiff, Int.reduceLE, Int.reduceLT]
      have := ih _ (at_step hp)
      have e1 : lessE s (e :: rest) = e :: lessE s rest := by unfold lessE; rw [List.takeWhile_cons_of_pos (p := fun e : Ent => bLess e.stem s) hb]
      have e2 : thereE s (e :: rest) = thereE s rest := by unfold thereE fromE; rw [List.dropWhile_cons_of_pos (p := fun e : Ent => bLess e.stem s) hb]
      have e3 : pre.length + ((lessE s rest).length + 1) = (pre ++ [e]).length + (lessE s rest).length := by
        rw [List.length_append, List.length_singleton]; omega
      rw [e1, e2, List.length_cons, e3]
      exact this
    | false =>
      have hb' : ¬ bLess e.stem s = true := by rw [hb]; simp
      have e1 : lessE s (e :: rest) = [] := by unfold lessE; rw [List.takeWhile_cons_of_neg (p := fun e : Ent => bLess e.stem s) hb']
      have e2 : thereE s (e :: rest) = decide (e.stem = s) := by unfold thereE fromE; rw [List.dropWhile_cons_of_neg (p := fun e : Ent => bLess e.stem s) hb']
      simp only [spec_l5At.l0_eq, ents_len, ents_elem hp, at_lt hp, ent_f0, bLess_eq, hb, e1, e2, List.length_nil, Nat.add_zero, stk, Int.reduceEq, Nat.reduceEqDiff, Int.reduceLE, Int.reduceLT]
      exact Ev2.now _
theorem l5At_ev {es : List Ent} (hl : es.length ≤ 1000000000) (s : ByteArray) : Ev (fun N => spec_l5At.f N [entsP es, PV.sc (.string s)]) [intP ((lessE s es).length : Int), boolP (thereE s es)] := by
  have := (l5At_loop hl s es [] rfl).diag
  simp only [List.length_nil, Nat.zero_add, Int.natCast_zero] at this
  simp only [spec_l5At.f_eq, stk, Int.reduceEq, Nat.reduceEqDiff, Int.reduceLE, Int.reduceLT]
  exact this
theorem there_eq {es : List Ent} (h : ascE es) (s : ByteArray) : thereE s es = decide (s ∈ stems es) := by
  apply Bool.eq_iff_iff.2
  rw [decide_eq_true_eq]; exact there_iff s h
def sumB (s : ByteArray) : ByteArray := hexB (shaB s)
theorem implSum_ev (s : ByteArray) (hs : s.size ≤ 1000000000) : Ev (fun N => impl_HashSum.f N [strP s]) [strP (sumB s)] := by
  have h1 := impl_sha s (by omega)
  have h2 := implHex_ev (shaB s) (by rw [shaB_size]; omega)
  simp only [strP] at h1 h2
  simp only [impl_HashSum.f_eq, stk, Int.reduceEq, Nat.reduceEqDiff, Int.reduceLE, Int.reduceLT]
  refine Ev.bind h1 ?_
  simp only [stk, Int.reduceEq, Nat.reduceEqDiff, Int.reduceLE, Int.reduceLT]
  refine Ev.bind h2 ?_
  simp only [stk, Int.reduceEq, Nat.reduceEqDiff, Int.reduceLE, Int.reduceLT]
  exact Ev.now _
theorem specSum_ev (s : ByteArray) (hs : s.size ≤ 1000000000) : Ev (fun N => spec_HashSum.f N [strP s]) [strP (sumB s)] := by
  have h1 := spec_sha s (by omega)
  have h2 := specHex_ev (shaB s) (by rw [shaB_size]; omega)
  simp only [strP] at h1 h2
  simp only [spec_HashSum.f_eq, stk, Int.reduceEq, Nat.reduceEqDiff, Int.reduceLE, Int.reduceLT]
  refine Ev.bind h1 ?_
  simp only [stk, Int.reduceEq, Nat.reduceEqDiff, Int.reduceLE, Int.reduceLT]
  refine Ev.bind h2 ?_
  simp only [stk, Int.reduceEq, Nat.reduceEqDiff, Int.reduceLE, Int.reduceLT]
  exact Ev.now _
theorem lastKey_size {B : Nat} (n : Int) : ∀ (ks : List ByteArray) (fs : List Int) (out : ByteArray), out.size ≤ B → (∀ k ∈ ks, k.size ≤ B) → (lastKey n out ks fs).size ≤ B
  | [], _, out, h, _ => by simpa [lastKey] using h
  | _ :: _, [], out, h, _ => by simpa [lastKey] using h
  | k :: ks, f :: fs, out, h, hk => by
    rw [lastKey]
    refine lastKey_size n ks fs _ ?_ (fun x hx => hk x (List.mem_cons_of_mem _ hx))
    split
    · exact hk k List.mem_cons_self
    · exact h
theorem eqAs_len : ∀ (a b : List Aff), ¬ a.length = b.length → eqAs a b = false
  | [], [], h => absurd rfl h
  | [], _ :: _, _ => rfl
  | _ :: _, [], _ => rfl
  | x :: a, y :: b, h => by
    rw [eqAs, eqAs_len a b (fun h2 => h (by simp [h2])), Bool.and_false]
theorem l5Affs_loop {a b : List Aff} (hl : a.length = b.length) (ha : a.length ≤ 1000000000) : ∀ (ra pa rb pb : List Aff), a = pa ++ ra → b = pb ++ rb → pb.length = pa.length →
    Ev2 (fun N n => spec_l5Affixes.l0 N n (affsP a) (affsP b) (pa.length : Int)) [boolP (eqAs ra rb)] := by
  intro ra
  induction ra with
  | nil =>
    intro pa rb pb h1 h2 h3
    have e : rb = [] := by
      have l1 := congrArg List.length h1
      have l2 := congrArg List.length h2
      simp at l1 l2
      exact List.eq_nil_of_length_eq_zero (by omega)
    subst e
    refine Ev2.succ ?_
    simp only [spec_l5Affixes.l0_eq, affs_len, at_end h1, eqAs, stk, Int.reduceEq, Nat.reduceEqDiff, Int.reduceLE, Int.reduceLT]
    exact Ev2.now _
  | cons x ra ih =>
    intro pa rb pb h1 h2 h3
    cases rb with
    | nil =>
      exfalso
      have l1 := congrArg List.length h1
      have l2 := congrArg List.length h2
      simp at l1 l2; omega
    | cons y rb =>
      have s2 := at_lt h2
      have e2 := affs_elem h2
      rw [h3] at s2 e2
      refine Ev2.succ ?_
      simp only [spec_l5Affixes.l0_eq, affs_len, affs_elem h1, e2, at_lt h1, s2, at_next h1 (by omega), aff_f0, aff_f1, aff_f2, aff_f3, aff_f4, eqAs, stk, Int.reduceEq, Nat.reduceEqDiff, Int.reduceLE, Int.reduceLT]
      simp only [eqA_fold]
      have hih := ih _ _ _ (at_step h1) (at_step h2) (by simp [h3])
      rcases Bool.eq_false_or_eq_true (eqA x y) with he | he
      · simp only [he, stk, Int.reduceEq, Nat.reduceEqDiff, Int.reduceLE, Int.reduceLT]; exact hih
      · simp only [he, stk, Int.reduceEq, Nat.reduceEqDiff, Int.reduceLE, Int.reduceLT]; exact Ev2.now _
theorem l5Affs_ev (a b : List Aff) (ha : a.length ≤ 1000000000) : Ev (fun N => spec_l5Affixes.f N [affsP a, affsP b]) [boolP (eqAs a b)] := by
  by_cases hl : a.length = b.length
  · have c : ((a.length : Int) = (b.length : Int)) = True := tru (by omega)
    simp only [spec_l5Affixes.f_eq, affs_len, c, stk, Int.reduceEq, Nat.reduceEqDiff, Int.reduceLE, Int.reduceLT]
    exact (l5Affs_loop hl ha a [] b [] rfl rfl rfl).diag
  · have c : ((a.length : Int) = (b.length : Int)) = False := fls (by omega)
    simp only [spec_l5Affixes.f_eq, affs_len, c, eqAs_len a b hl, stk, Int.reduceEq, Nat.reduceEqDiff, Int.reduceLE, Int.reduceLT]
    exact Ev.now _
theorem at_there {es : List Ent} (h : ascE es) {s : ByteArray} (hs : s ∈ stems es) : ∃ x : Ent, (entsP es).elem (lessE s es).length = entP x ∧ x.stem = s ∧ (lessE s es).length < es.length ∧ ∀ e : Ent, e.stem = s → memE e es = decide (x.flags = e.flags) := by
  have ht := (there_iff s h).2 hs
  have hsp := less_from s es
  cases hf : fromE s es with
  | nil => unfold thereE at ht; rw [hf] at ht; cases ht
  | cons x r =>
    have hx : x.stem = s := by unfold thereE at ht; rw [hf] at ht; exact of_decide_eq_true ht
    rw [hf] at hsp
    have hlen := congrArg List.length hsp
    simp only [List.length_append, List.length_cons] at hlen
    refine ⟨x, ents_elem hsp.symm, hx, by omega, fun e he => ?_⟩
    apply Bool.eq_iff_iff.2
    rw [memE_iff, decide_eq_true_eq, from_head h hf hx e he]
    constructor
    · intro h2; rw [h2]
    · intro h2
      cases x; cases e
      simp only at hx he h2
      rw [hx, he, h2]
def newE (ea : List Ent) (l : List Ent) : List Ent := l.filter fun e => !memE e ea
def goE (eb : List Ent) (l : List Ent) : List ByteArray := stems (l.filter fun e => !decide (e.stem ∈ stems eb))
theorem newE_yes {ea : List Ent} {e : Ent} (r : List Ent) (h : memE e ea = true) : newE ea (e :: r) = newE ea r := by unfold newE; rw [List.filter_cons]; simp [h]
theorem newE_no {ea : List Ent} {e : Ent} (r : List Ent) (h : memE e ea = false) : newE ea (e :: r) = e :: newE ea r := by unfold newE; rw [List.filter_cons]; simp [h]
theorem goE_yes {eb : List Ent} {e : Ent} (r : List Ent) (h : e.stem ∈ stems eb) : goE eb (e :: r) = goE eb r := by unfold goE; rw [List.filter_cons]; simp [h]
theorem goE_no {eb : List Ent} {e : Ent} (r : List Ent) (h : ¬ e.stem ∈ stems eb) : goE eb (e :: r) = e.stem :: goE eb r := by
  have h2 : (!decide (e.stem ∈ stems eb)) = true := by rw [decide_eq_false h]; rfl
  unfold goE
  rw [List.filter_cons, if_pos h2]; rfl
def endD (aa ab : List Aff) (g : List ByteArray) (c : List Ent) : Del := ⟨g, c, !eqAs aa ab, if eqAs aa ab = true then [] else ab⟩
theorem memE_off {ea : List Ent} {e : Ent} (h : ¬ e.stem ∈ stems ea) : memE e ea = false := by
  cases hm : memE e ea with
  | false => rfl
  | true => exact absurd (List.mem_map_of_mem ((memE_iff e ea).1 hm)) h
theorem specDelta_l5 {aa ab : List Aff} {ea eb : List Ent} (haa : aa.length ≤ 1000000000) (hab : ab.length ≤ 1000000000) (hea : ea.length ≤ 1000000000) (heb : eb.length ≤ 1000000000) (hasc : ascE ea) (gs : List ByteArray) : ∀ (rest pre : List Ent) (cs : List Ent), eb = pre ++ rest → cs.length + rest.length ≤ 1000000000 → 
    Ev2 (fun N n => spec_DeltaOf.l5 N n (pre.length : Int) (affsP aa) (entsP ea) (affsP ab) (entsP eb) false false (gs.map strP) (cs.map entP)) [delP (endD aa ab gs (cs ++ newE ea rest))] := by
  intro rest
  induction rest with
  | nil =>
    intro pre cs hp hz
    refine Ev2.succ ?_
    simp only [spec_DeltaOf.l5_eq, ents_len, affs_len, at_end hp, stk, Int.reduceEq, Nat.reduceEqDiff, Int.reduceLE, Int.reduceLT]
    refine Ev2.bind (l5Affs_ev aa ab haa) ?_
    have en : newE ea [] = [] := rfl
    rw [en, List.append_nil]
    unfold endD
    have c0 : (0 + ab.length ≤ 1954687338268) = True := tru (by omega)
    have e4 : PV.list (affsP ab).items = affsP ab := rfl
    cases eqAs aa ab with
    | false => simp only [List.length_nil, c0, List.nil_append, e4, stk, Int.reduceEq, Nat.reduceEqDiff, Int.reduceLE, Int.reduceLT]; exact Ev2.now _
    | true => simp only [stk, Int.reduceEq, Nat.reduceEqDiff, Int.reduceLE, Int.reduceLT]; exact Ev2.now _
  | cons e rest ih =>
    intro pre cs hp hz
    rw [List.length_cons] at hz
    have hcl : ((cs.map entP).length + 1 ≤ 4398046511104) = True := tru (by rw [List.length_map]; omega)
    have ha := l5At_ev hea e.stem
    rw [there_eq hasc] at ha
    refine Ev2.succ ?_
    simp only [spec_DeltaOf.l5_eq, ents_len, ents_elem hp, at_lt hp, at_next hp (by omega), ent_f0, ent_f1, ent_agg, stk, Int.reduceEq, Nat.reduceEqDiff, Int.reduceLE, Int.reduceLT]
    refine Ev2.bind ha ?_
    by_cases hst : e.stem ∈ stems ea
    · obtain ⟨x, hx1, hx2, hx3, hx4⟩ := at_there hasc hst
      have hlt : (((lessE e.stem ea).length : Int) < (ea.length : Int)) = True := tru (by omega)
      have hst2 : (e.stem ∈ stems ea) = True := tru hst
      simp only [hst2, stk, Int.reduceEq, Nat.reduceEqDiff, Int.reduceLE, Int.reduceLT]
      simp only [hlt, hx1, ent_f0, ent_f1, hx2, eq_self, stk, Int.reduceEq, Nat.reduceEqDiff, Int.reduceLE, Int.reduceLT]
      by_cases hf : x.flags = e.flags
      · rw [newE_yes rest (by rw [hx4 e rfl]; simp [hf])]
        have := ih (pre ++ [e]) cs (at_step hp) (by omega)
        simp only [hf, eq_self, stk, Int.reduceEq, Nat.reduceEqDiff, Int.reduceLE, Int.reduceLT]
        exact this
      · rw [newE_no rest (by rw [hx4 e rfl]; simp [hf])]
        have := ih (pre ++ [e]) (cs ++ [e]) (at_step hp) (by rw [List.length_append, List.length_singleton]; omega)
        rw [List.map_append, List.append_assoc] at this
        simp only [hcl, hf, stk, Int.reduceEq, Nat.reduceEqDiff, Int.reduceLE, Int.reduceLT]
        exact this
    · rw [newE_no rest (memE_off hst)]
      have := ih (pre ++ [e]) (cs ++ [e]) (at_step hp) (by rw [List.length_append, List.length_singleton]; omega)
      rw [List.map_append, List.append_assoc] at this
      simp only [hcl, hst, stk, Int.reduceEq, Nat.reduceEqDiff, Int.reduceLE, Int.reduceLT]
      exact this
theorem specDelta_l4 {aa ab : List Aff} {ea eb : List Ent} (haa : aa.length ≤ 1000000000) (hab : ab.length ≤ 1000000000) (hea : ea.length ≤ 1000000000) (heb : eb.length ≤ 1000000000) (hasc : ascE ea) : ∀ (rest pre : List Ent) (cs : List Ent), eb = pre ++ rest → cs.length + rest.length ≤ 1000000000 → 
    Ev2 (fun N n => spec_DeltaOf.l4 N n (pre.length : Int) (affsP aa) (entsP ea) (affsP ab) (entsP eb) false false (cs.map entP)) [delP (endD aa ab [] (cs ++ newE ea rest))] := by
  intro rest
  induction rest with
  | nil =>
    intro pre cs hp hz
    refine Ev2.succ ?_
    simp only [spec_DeltaOf.l4_eq, ents_len, affs_len, at_end hp, stk, Int.reduceEq, Nat.reduceEqDiff, Int.reduceLE, Int.reduceLT]
    refine Ev2.bind (l5Affs_ev aa ab haa) ?_
    have en : newE ea [] = [] := rfl
    rw [en, List.append_nil]
    unfold endD
    have c0 : (0 + ab.length ≤ 1954687338268) = True := tru (by omega)
    have e4 : PV.list (affsP ab).items = affsP ab := rfl
    cases eqAs aa ab with
    | false => simp only [List.length_nil, c0, List.nil_append, e4, stk, Int.reduceEq, Nat.reduceEqDiff, Int.reduceLE, Int.reduceLT]; exact Ev2.now _
    | true => simp only [stk, Int.reduceEq, Nat.reduceEqDiff, Int.reduceLE, Int.reduceLT]; exact Ev2.now _
  | cons e rest ih =>
    intro pre cs hp hz
    rw [List.length_cons] at hz
    have hcl : ((cs.map entP).length + 1 ≤ 4398046511104) = True := tru (by rw [List.length_map]; omega)
    have ha := l5At_ev hea e.stem
    rw [there_eq hasc] at ha
    refine Ev2.succ ?_
    simp only [spec_DeltaOf.l4_eq, ents_len, ents_elem hp, at_lt hp, at_next hp (by omega), ent_f0, ent_f1, ent_agg, stk, Int.reduceEq, Nat.reduceEqDiff, Int.reduceLE, Int.reduceLT]
    refine Ev2.bind ha ?_
    by_cases hst : e.stem ∈ stems ea
    · obtain ⟨x, hx1, hx2, hx3, hx4⟩ := at_there hasc hst
      have hlt : (((lessE e.stem ea).length : Int) < (ea.length : Int)) = True := tru (by omega)
      have hst2 : (e.stem ∈ stems ea) = True := tru hst
      simp only [hst2, stk, Int.reduceEq, Nat.reduceEqDiff, Int.reduceLE, Int.reduceLT]
      simp only [hlt, hx1, ent_f0, ent_f1, hx2, eq_self, stk, Int.reduceEq, Nat.reduceEqDiff, Int.reduceLE, Int.reduceLT]
      by_cases hf : x.flags = e.flags
      · rw [newE_yes rest (by rw [hx4 e rfl]; simp [hf])]
        have := ih (pre ++ [e]) cs (at_step hp) (by omega)
        simp only [hf, eq_self, stk, Int.reduceEq, Nat.reduceEqDiff, Int.reduceLE, Int.reduceLT]
        exact this
      · rw [newE_no rest (by rw [hx4 e rfl]; simp [hf])]
        have := ih (pre ++ [e]) (cs ++ [e]) (at_step hp) (by rw [List.length_append, List.length_singleton]; omega)
        rw [List.map_append, List.append_assoc] at this
        simp only [hcl, hf, stk, Int.reduceEq, Nat.reduceEqDiff, Int.reduceLE, Int.reduceLT]
        exact this
    · rw [newE_no rest (memE_off hst)]
      have := ih (pre ++ [e]) (cs ++ [e]) (at_step hp) (by rw [List.length_append, List.length_singleton]; omega)
      rw [List.map_append, List.append_assoc] at this
      simp only [hcl, hst, stk, Int.reduceEq, Nat.reduceEqDiff, Int.reduceLE, Int.reduceLT]
      exact this
theorem specDelta_l3 {aa ab : List Aff} {ea eb : List Ent} (haa : aa.length ≤ 1000000000) (hab : ab.length ≤ 1000000000) (hea : ea.length ≤ 1000000000) (heb : eb.length ≤ 1000000000) (hasc : ascE ea) (gs : List ByteArray) : ∀ (rest pre : List Ent), eb = pre ++ rest → 
    Ev2 (fun N n => spec_DeltaOf.l3 N n (pre.length : Int) (affsP aa) (entsP ea) (affsP ab) (entsP eb) false false (gs.map strP)) [delP (endD aa ab gs ([] ++ newE ea rest))] := by
  intro rest
  induction rest with
  | nil =>
    intro pre hp
    refine Ev2.succ ?_
    simp only [spec_DeltaOf.l3_eq, ents_len, affs_len, at_end hp, stk, Int.reduceEq, Nat.reduceEqDiff, Int.reduceLE, Int.reduceLT]
    refine Ev2.bind (l5Affs_ev aa ab haa) ?_
    have en : newE ea [] = [] := rfl
    rw [en, List.append_nil]
    unfold endD
    have c0 : (0 + ab.length ≤ 1954687338268) = True := tru (by omega)
    have e4 : PV.list (affsP ab).items = affsP ab := rfl
    cases eqAs aa ab with
    | false => simp only [List.length_nil, c0, List.nil_append, e4, stk, Int.reduceEq, Nat.reduceEqDiff, Int.reduceLE, Int.reduceLT]; exact Ev2.now _
    | true => simp only [stk, Int.reduceEq, Nat.reduceEqDiff, Int.reduceLE, Int.reduceLT]; exact Ev2.now _
  | cons e rest ih =>
    intro pre hp
    have hcl : (0 + 1 ≤ 4398046511104) = True := tru (by omega)
    have ha := l5At_ev hea e.stem
    rw [there_eq hasc] at ha
    refine Ev2.succ ?_
    simp only [spec_DeltaOf.l3_eq, ents_len, ents_elem hp, at_lt hp, at_next hp (by omega), ent_f0, ent_f1, ent_agg, stk, Int.reduceEq, Nat.reduceEqDiff, Int.reduceLE, Int.reduceLT]
    refine Ev2.bind ha ?_
    by_cases hst : e.stem ∈ stems ea
    · obtain ⟨x, hx1, hx2, hx3, hx4⟩ := at_there hasc hst
      have hlt : (((lessE e.stem ea).length : Int) < (ea.length : Int)) = True := tru (by omega)
      have hst2 : (e.stem ∈ stems ea) = True := tru hst
      simp only [hst2, stk, Int.reduceEq, Nat.reduceEqDiff, Int.reduceLE, Int.reduceLT]
      simp only [hlt, hx1, ent_f0, ent_f1, hx2, eq_self, stk, Int.reduceEq, Nat.reduceEqDiff, Int.reduceLE, Int.reduceLT]
      by_cases hf : x.flags = e.flags
      · rw [newE_yes rest (by rw [hx4 e rfl]; simp [hf])]
        have := ih (pre ++ [e]) (at_step hp)
        simp only [hf, eq_self, stk, Int.reduceEq, Nat.reduceEqDiff, Int.reduceLE, Int.reduceLT]
        exact this
      · rw [newE_no rest (by rw [hx4 e rfl]; simp [hf])]
        have := specDelta_l5 haa hab hea heb hasc gs rest (pre ++ [e]) [e] (at_step hp) (by have := congrArg List.length hp; simp at this; simp; omega)
        simp only [List.length_nil, List.nil_append, hcl, hf, stk, Int.reduceEq, Nat.reduceEqDiff, Int.reduceLE, Int.reduceLT]
        exact this
    · rw [newE_no rest (memE_off hst)]
      have := specDelta_l5 haa hab hea heb hasc gs rest (pre ++ [e]) [e] (at_step hp) (by have := congrArg List.length hp; simp at this; simp; omega)
      simp only [List.length_nil, List.nil_append, hcl, hst, stk, Int.reduceEq, Nat.reduceEqDiff, Int.reduceLE, Int.reduceLT]
      exact this
theorem specDelta_l2 {aa ab : List Aff} {ea eb : List Ent} (haa : aa.length ≤ 1000000000) (hab : ab.length ≤ 1000000000) (hea : ea.length ≤ 1000000000) (heb : eb.length ≤ 1000000000) (hasc : ascE ea) : ∀ (rest pre : List Ent), eb = pre ++ rest → 
    Ev2 (fun N n => spec_DeltaOf.l2 N n (pre.length : Int) (affsP aa) (entsP ea) (affsP ab) (entsP eb) false false) [delP (endD aa ab [] ([] ++ newE ea rest))] := by
  intro rest
  induction rest with
  | nil =>
    intro pre hp
    refine Ev2.succ ?_
    simp only [spec_DeltaOf.l2_eq, ents_len, affs_len, at_end hp, stk, Int.reduceEq, Nat.reduceEqDiff, Int.reduceLE, Int.reduceLT]
    refine Ev2.bind (l5Affs_ev aa ab haa) ?_
    have en : newE ea [] = [] := rfl
    rw [en, List.append_nil]
    unfold endD
    have c0 : (0 + ab.length ≤ 1954687338268) = True := tru (by omega)
    have e4 : PV.list (affsP ab).items = affsP ab := rfl
    cases eqAs aa ab with
    | false => simp only [List.length_nil, c0, List.nil_append, e4, stk, Int.reduceEq, Nat.reduceEqDiff, Int.reduceLE, Int.reduceLT]; exact Ev2.now _
    | true => simp only [stk, Int.reduceEq, Nat.reduceEqDiff, Int.reduceLE, Int.reduceLT]; exact Ev2.now _
  | cons e rest ih =>
    intro pre hp
    have hcl : (0 + 1 ≤ 4398046511104) = True := tru (by omega)
    have ha := l5At_ev hea e.stem
    rw [there_eq hasc] at ha
    refine Ev2.succ ?_
    simp only [spec_DeltaOf.l2_eq, ents_len, ents_elem hp, at_lt hp, at_next hp (by omega), ent_f0, ent_f1, ent_agg, stk, Int.reduceEq, Nat.reduceEqDiff, Int.reduceLE, Int.reduceLT]
    refine Ev2.bind ha ?_
    by_cases hst : e.stem ∈ stems ea
    · obtain ⟨x, hx1, hx2, hx3, hx4⟩ := at_there hasc hst
      have hlt : (((lessE e.stem ea).length : Int) < (ea.length : Int)) = True := tru (by omega)
      have hst2 : (e.stem ∈ stems ea) = True := tru hst
      simp only [hst2, stk, Int.reduceEq, Nat.reduceEqDiff, Int.reduceLE, Int.reduceLT]
      simp only [hlt, hx1, ent_f0, ent_f1, hx2, eq_self, stk, Int.reduceEq, Nat.reduceEqDiff, Int.reduceLE, Int.reduceLT]
      by_cases hf : x.flags = e.flags
      · rw [newE_yes rest (by rw [hx4 e rfl]; simp [hf])]
        have := ih (pre ++ [e]) (at_step hp)
        simp only [hf, eq_self, stk, Int.reduceEq, Nat.reduceEqDiff, Int.reduceLE, Int.reduceLT]
        exact this
      · rw [newE_no rest (by rw [hx4 e rfl]; simp [hf])]
        have := specDelta_l4 haa hab hea heb hasc rest (pre ++ [e]) [e] (at_step hp) (by have := congrArg List.length hp; simp at this; simp; omega)
        simp only [List.length_nil, List.nil_append, hcl, hf, stk, Int.reduceEq, Nat.reduceEqDiff, Int.reduceLE, Int.reduceLT]
        exact this
    · rw [newE_no rest (memE_off hst)]
      have := specDelta_l4 haa hab hea heb hasc rest (pre ++ [e]) [e] (at_step hp) (by have := congrArg List.length hp; simp at this; simp; omega)
      simp only [List.length_nil, List.nil_append, hcl, hst, stk, Int.reduceEq, Nat.reduceEqDiff, Int.reduceLE, Int.reduceLT]
      exact this
theorem specDelta_l1 {aa ab : List Aff} {ea eb : List Ent} (haa : aa.length ≤ 1000000000) (hab : ab.length ≤ 1000000000) (hea : ea.length ≤ 1000000000) (heb : eb.length ≤ 1000000000) (hasc : ascE ea) (hbsc : ascE eb) : ∀ (rest pre : List Ent) (gs : List ByteArray), ea = pre ++ rest → gs.length + rest.length ≤ 1000000000 → 
    Ev2 (fun N n => spec_DeltaOf.l1 N n (pre.length : Int) (affsP aa) (entsP ea) (affsP ab) (entsP eb) false false (gs.map strP)) [delP (endD aa ab (gs ++ goE eb rest) (newE ea eb))] := by
  intro rest
  induction rest with
  | nil =>
    intro pre gs hp hz
    have en : goE eb [] = [] := rfl
    rw [en, List.append_nil]
    refine Ev2.succ ?_
    simp only [spec_DeltaOf.l1_eq, ents_len, at_end hp, stk, Int.reduceEq, Nat.reduceEqDiff, Int.reduceLE, Int.reduceLT]
    exact (specDelta_l3 haa hab hea heb hasc gs eb [] rfl).after
  | cons e rest ih =>
    intro pre gs hp hz
    rw [List.length_cons] at hz
    have hcl : ((gs.map strP).length + 1 ≤ 8796093022208) = True := tru (by rw [List.length_map]; omega)
    have ha := l5At_ev heb e.stem
    rw [there_eq hbsc] at ha
    refine Ev2.succ ?_
    simp only [spec_DeltaOf.l1_eq, ents_len, ents_elem hp, at_lt hp, at_next hp (by omega), ent_f0, stk, Int.reduceEq, Nat.reduceEqDiff, Int.reduceLE, Int.reduceLT]
    refine Ev2.bind ha ?_
    by_cases hst : e.stem ∈ stems eb
    · rw [goE_yes rest hst]
      have := ih (pre ++ [e]) gs (at_step hp) (by omega)
      have hst2 : (e.stem ∈ stems eb) = True := tru hst
      simp only [hst2, stk, Int.reduceEq, Nat.reduceEqDiff, Int.reduceLE, Int.reduceLT]
      exact this
    · rw [goE_no rest hst]
      have := ih (pre ++ [e]) (gs ++ [e.stem]) (at_step hp) (by rw [List.length_append, List.length_singleton]; omega)
      rw [List.map_append, List.append_assoc] at this
      simp only [hcl, hst, stk, Int.reduceEq, Nat.reduceEqDiff, Int.reduceLE, Int.reduceLT]
      exact this
theorem specDelta_l0 {aa ab : List Aff} {ea eb : List Ent} (haa : aa.length ≤ 1000000000) (hab : ab.length ≤ 1000000000) (hea : ea.length ≤ 1000000000) (heb : eb.length ≤ 1000000000) (hasc : ascE ea) (hbsc : ascE eb) : ∀ (rest pre : List Ent), ea = pre ++ rest → 
    Ev2 (fun N n => spec_DeltaOf.l0 N n (pre.length : Int) (affsP aa) (entsP ea) (affsP ab) (entsP eb) false false) [delP (endD aa ab ([] ++ goE eb rest) (newE ea eb))] := by
  intro rest
  induction rest with
  | nil =>
    intro pre hp
    have en : goE eb [] = [] := rfl
    rw [en, List.append_nil]
    refine Ev2.succ ?_
    simp only [spec_DeltaOf.l0_eq, ents_len, at_end hp, stk, Int.reduceEq, Nat.reduceEqDiff, Int.reduceLE, Int.reduceLT]
    exact (specDelta_l2 haa hab hea heb hasc eb [] rfl).after
  | cons e rest ih =>
    intro pre hp
    have hcl : (0 + 1 ≤ 8796093022208) = True := tru (by omega)
    have ha := l5At_ev heb e.stem
    rw [there_eq hbsc] at ha
    refine Ev2.succ ?_
    simp only [spec_DeltaOf.l0_eq, ents_len, ents_elem hp, at_lt hp, at_next hp (by omega), ent_f0, stk, Int.reduceEq, Nat.reduceEqDiff, Int.reduceLE, Int.reduceLT]
    refine Ev2.bind ha ?_
    by_cases hst : e.stem ∈ stems eb
    · rw [goE_yes rest hst]
      have := ih (pre ++ [e]) (at_step hp)
      have hst2 : (e.stem ∈ stems eb) = True := tru hst
      simp only [hst2, stk, Int.reduceEq, Nat.reduceEqDiff, Int.reduceLE, Int.reduceLT]
      exact this
    · rw [goE_no rest hst]
      have := specDelta_l1 haa hab hea heb hasc hbsc rest (pre ++ [e]) [e.stem] (at_step hp) (by have := congrArg List.length hp; simp at this; simp; omega)
      simp only [List.length_nil, List.nil_append, hcl, hst, stk, Int.reduceEq, Nat.reduceEqDiff, Int.reduceLE, Int.reduceLT]
      exact this
theorem endD_eq (aa ab : List Aff) (ea eb : List Ent) : endD aa ab (goE eb ea) (newE ea eb) = deltaM aa ea ab eb := rfl
theorem specDelta_ev {aa ab : List Aff} {ea eb : List Ent} (hA : BookS aa ea) (hB : BookS ab eb) (ha : bookB aa ea = true) (hb : bookB ab eb = true) : Ev (fun N => spec_DeltaOf.f N [bookP aa ea, bookP ab eb]) [delP (deltaM aa ea ab eb)] := by
  simp only [spec_DeltaOf.f_eq, book_f0, book_f1, book_agg, stk, Int.reduceEq, Nat.reduceEqDiff, Int.reduceLE, Int.reduceLT]
  refine Ev.bind (specBookOk_ev hA) ?_
  simp only [ha, stk, Int.reduceEq, Nat.reduceEqDiff, Int.reduceLE, Int.reduceLT]
  refine Ev.bind (specBookOk_ev hB) ?_
  simp only [hb, stk, Int.reduceEq, Nat.reduceEqDiff, Int.reduceLE, Int.reduceLT]
  have := (specDelta_l0 hA.al hB.al hA.el hB.el (bookB_asc ha) (bookB_asc hb) ea [] rfl).diag
  rw [List.nil_append, endD_eq] at this
  exact this
def noRel : Rel := ⟨0, ⟨[], [], false, []⟩, ⟨#[]⟩, ⟨#[]⟩⟩
theorem noRel_agg : PV.agg [PV.sc (.int .i64 0), PV.agg [PV.list [], PV.list [], PV.sc (.bool false), PV.list []], PV.sc (.string (ByteArray.mk #[])), PV.sc (.string (ByteArray.mk #[]))] = relP noRel := rfl
theorem deltaM_S {aa ab : List Aff} {ea eb : List Ent} (hA : BookS aa ea) (hB : BookS ab eb) : DelS (deltaM aa ea ab eb) := by
  have h1 := hA.el; have h2 := hB.el; have h3 := hB.al
  have l1 := List.length_filter_le (fun e : Ent => !decide (e.stem ∈ stems eb)) ea
  have l2 := List.length_filter_le (fun e : Ent => !memE e ea) eb
  refine ⟨?_, fun s hs => ?_, ?_, fun e he => hB.e e (List.mem_filter.1 he).1, ?_, fun a ha => ?_⟩
  · show (stems (ea.filter fun e : Ent => !decide (e.stem ∈ stems eb))).length ≤ _
    rw [stems, List.length_map]; omega
  · obtain ⟨e, he, rfl⟩ := List.mem_map.1 hs
    exact (hA.e e (List.mem_filter.1 he).1).stem
  · show (eb.filter fun e : Ent => !memE e ea).length ≤ _
    omega
  · show (if eqAs aa ab = true then [] else ab).length ≤ _
    split
    · simp
    · exact h3
  · have ha' : a ∈ (if eqAs aa ab = true then [] else ab) := ha
    split at ha'
    · cases ha'
    · exact hB.a a ha'
def madeR (k : ByteArray) (n : Int) (aa : List Aff) (ea : List Ent) (ab : List Aff) (eb : List Ent) : Rel :=
  ⟨n + 1, deltaM aa ea ab eb, sumB (bookT ab eb), sealM k (relT (n + 1).toNat (deltaM aa ea ab eb) (sumB (bookT ab eb)))⟩
def relOfR (k : ByteArray) (n : Int) (aa : List Aff) (ea : List Ent) (ab : List Aff) (eb : List Ent) : List PV :=
  if keyM k = true then (if 0 ≤ n ∧ n ≤ 999998 then (if bookB aa ea = true then (if bookB ab eb = true then (if frmB (madeR k n aa ea ab eb) = true then [relP (madeR k n aa ea ab eb), boolP true] else [relP noRel, boolP false]) else [relP noRel, boolP false]) else [relP noRel, boolP false]) else [relP noRel, boolP false]) else [relP noRel, boolP false]
theorem sumB_size (s : ByteArray) : (sumB s).size = 64 := by rw [sumB, hexB_size, shaB_size]
theorem specRelOf_ev {aa ab : List Aff} {ea eb : List Ent} (hA : BookS aa ea) (hB : BookS ab eb) (k : ByteArray) (hk : k.size ≤ 1000000000) (n : Int) : Ev (fun N => spec_ReleaseOf.f N [strP k, intP n, bookP aa ea, bookP ab eb]) (relOfR k n aa ea ab eb) := by
  have hkv := specKey_val k (by omega)
  simp only [strP] at hkv
  simp only [spec_ReleaseOf.f_eq, book_f0, book_f1, book_agg, hkv, specIn_val, noRel_agg, stk, Int.reduceEq, Nat.reduceEqDiff, Int.reduceLE, Int.reduceLT]
  unfold relOfR
  cases h0 : keyM k with
  | false => simp only [stk, Int.reduceEq, Nat.reduceEqDiff, Int.reduceLE, Int.reduceLT]; exact Ev.now _
  | true =>
    by_cases hn : 0 ≤ n ∧ n ≤ 999998
    · have hw : IntKind.i64.wrap (n + 1) = n + 1 := wrap_id (by omega) (by omega)
      simp only [hn, hw, stk, Int.reduceEq, Nat.reduceEqDiff, Int.reduceLE, Int.reduceLT]
      refine Ev.bind (specBookOk_ev hA) ?_
      cases ha : bookB aa ea with
      | false => simp only [stk, Int.reduceEq, Nat.reduceEqDiff, Int.reduceLE, Int.reduceLT]; exact Ev.now _
      | true =>
        simp only [stk, Int.reduceEq, Nat.reduceEqDiff, Int.reduceLE, Int.reduceLT]
        refine Ev.bind (specBookOk_ev hB) ?_
        cases hb : bookB ab eb with
        | false => simp only [stk, Int.reduceEq, Nat.reduceEqDiff, Int.reduceLE, Int.reduceLT]; exact Ev.now _
        | true =>
          have hdo := deltaM_ok ha hb
          have hdS := deltaM_S hA hB
          have hsm := smallB_of hb
          have hz := bookT_size hsm
          have hse := specSum_ev (bookT ab eb) (by omega)
          have hnum : numB (n + 1) = true := by simp only [numB, decide_eq_true_eq]; omega
          have ht := specRelText_ev (r := ⟨n + 1, deltaM aa ea ab eb, sumB (bookT ab eb), ⟨#[]⟩⟩) hnum (delW_of hdo) (by show (sumB _).size ≤ 64; rw [sumB_size]; omega)
          have hsz := relT_size (n := (n + 1).toNat) (by omega) (delW_of hdo) (sum := sumB (bookT ab eb)) (by rw [sumB_size]; omega)
          have hsl := specSeal_ev k (relT (n + 1).toNat (deltaM aa ea ab eb) (sumB (bookT ab eb))) (by omega) (by omega)
          have hfo := specForm_ev (r := madeR k n aa ea ab eb) hdS
          have ea1 : relP ⟨n + 1, deltaM aa ea ab eb, sumB (bookT ab eb), ⟨#[]⟩⟩ = PV.agg [PV.sc (.int .i64 (n + 1)), delP (deltaM aa ea ab eb), PV.sc (.string (sumB (bookT ab eb))), PV.sc (.string (ByteArray.mk #[]))] := rfl
          have ea2 : relP (madeR k n aa ea ab eb) = PV.agg [PV.sc (.int .i64 (n + 1)), delP (deltaM aa ea ab eb), PV.sc (.string (sumB (bookT ab eb))), PV.sc (.string (sealM k (relT (n + 1).toNat (deltaM aa ea ab eb) (sumB (bookT ab eb)))))] := rfl
          rw [ea1] at ht
          rw [ea2] at hfo
          simp only [strP] at hse hsl
          simp only [stk, Int.reduceEq, Nat.reduceEqDiff, Int.reduceLE, Int.reduceLT]
          refine Ev.bind (specDelta_ev hA hB ha hb) ?_
          simp only [del_f0, del_f1, del_f2, del_f3, del_agg, stk, Int.reduceEq, Nat.reduceEqDiff, Int.reduceLE, Int.reduceLT]
          refine Ev.bind (specPutB_ev hsm) ?_
          simp only [stk, Int.reduceEq, Nat.reduceEqDiff, Int.reduceLE, Int.reduceLT]
          refine Ev.bind hse ?_
          simp only [stk, Int.reduceEq, Nat.reduceEqDiff, Int.reduceLE, Int.reduceLT]
          refine Ev.bind ht ?_
          simp only [stk, Int.reduceEq, Nat.reduceEqDiff, Int.reduceLE, Int.reduceLT]
          refine Ev.bind hsl ?_
          simp only [stk, Int.reduceEq, Nat.reduceEqDiff, Int.reduceLE, Int.reduceLT]
          refine Ev.bind hfo ?_
          rw [ea2]
          cases frmB (madeR k n aa ea ab eb) with
          | false => simp only [stk, Int.reduceEq, Nat.reduceEqDiff, Int.reduceLE, Int.reduceLT]; exact Ev.now _
          | true => simp only [stk, Int.reduceEq, Nat.reduceEqDiff, Int.reduceLE, Int.reduceLT]; exact Ev.now _
    · simp only [hn, stk, Int.reduceEq, Nat.reduceEqDiff, Int.reduceLE, Int.reduceLT]; exact Ev.now _
theorem relOfR_two (k : ByteArray) (n : Int) (aa : List Aff) (ea : List Ent) (ab : List Aff) (eb : List Ent) : ∃ (r : Rel) (b : Bool), relOfR k n aa ea ab eb = [relP r, boolP b] ∧ (r = noRel ∨ r = madeR k n aa ea ab eb) := by
  unfold relOfR
  repeat' split
  all_goals first | exact ⟨_, _, rfl, .inr rfl⟩ | exact ⟨_, _, rfl, .inl rfl⟩
def ringRelR (ks : List ByteArray) (fs : List Int) (n : Int) (aa : List Aff) (ea : List Ent) (ab : List Aff) (eb : List Ent) : List PV :=
  if ringM ks fs = true then (if 0 ≤ n ∧ n ≤ 999998 then relOfR (lastKey (n + 1) ⟨#[]⟩ ks fs) n aa ea ab eb else [relP noRel, boolP false]) else [relP noRel, boolP false]
theorem relOfR_off {k : ByteArray} {n : Int} {aa ab : List Aff} {ea eb : List Ent} (h : ¬ (0 ≤ n ∧ n ≤ 999998)) : relOfR k n aa ea ab eb = [relP noRel, boolP false] := by
  unfold relOfR
  rw [if_neg h]; split <;> rfl
theorem specRingRel_ev {ks : List ByteArray} {fs : List Int} (hf : fs.length ≤ 1000000000) (hk : ks.length ≤ 1000000000) (hks : ∀ k ∈ ks, k.size ≤ 1000000000) {aa ab : List Aff} {ea eb : List Ent} (hA : BookS aa ea) (hB : BookS ab eb) (n : Int) :
    Ev (fun N => spec_RingRelease.f N [ringP ks fs, intP n, bookP aa ea, bookP ab eb]) (ringRelR ks fs n aa ea ab eb) := by
  have hks' : ∀ k ∈ ks, k.size ≤ 9223372036854775807 := fun k h => by have := hks k h; omega
  simp only [spec_RingRelease.f_eq, ring_f0, ring_f1, ring_agg, book_f0, book_f1, book_agg, noRel_agg, stk, Int.reduceEq, Nat.reduceEqDiff, Int.reduceLE, Int.reduceLT]
  unfold ringRelR
  refine Ev.bind (specRingOk_ev ks fs (by omega) (by omega) hks') ?_
  cases hr : ringM ks fs with
  | false => simp only [stk, Int.reduceEq, Nat.reduceEqDiff, Int.reduceLE, Int.reduceLT]; exact Ev.now _
  | true =>
    have hkey := (specL11_loop ks fs (IntKind.i64.wrap (n + 1)) (ringM_len hr).2.2 (by omega) ks [] fs [] rfl rfl rfl ⟨#[]⟩).diag
    have hkey' : Ev (fun N => spec_l11Key.f N [ringP ks fs, intP (IntKind.i64.wrap (n + 1))]) [strP (lastKey (IntKind.i64.wrap (n + 1)) ⟨#[]⟩ ks fs)] := by
      simp only [spec_l11Key.f_eq, ring_f0, ring_f1, stk, Int.reduceEq, Nat.reduceEqDiff, Int.reduceLE, Int.reduceLT]
      exact hkey
    have hd := specRelOf_ev hA hB (lastKey (IntKind.i64.wrap (n + 1)) ⟨#[]⟩ ks fs) (lastKey_size _ _ _ _ (by rw [c_zero]; omega) hks) n
    have hfin : relOfR (lastKey (IntKind.i64.wrap (n + 1)) ⟨#[]⟩ ks fs) n aa ea ab eb = if 0 ≤ n ∧ n ≤ 999998 then relOfR (lastKey (n + 1) ⟨#[]⟩ ks fs) n aa ea ab eb else [relP noRel, boolP false] := by
      by_cases hn : 0 ≤ n ∧ n ≤ 999998
      · rw [wrap_id (by omega) (by omega), if_pos hn]
      · rw [relOfR_off hn, if_neg hn]
    obtain ⟨r, b, he, -⟩ := relOfR_two (lastKey (IntKind.i64.wrap (n + 1)) ⟨#[]⟩ ks fs) n aa ea ab eb
    simp only [stk, Int.reduceEq, Nat.reduceEqDiff, Int.reduceLE, Int.reduceLT]
    rw [← hfin, he]
    rw [he] at hd
    simp only [strP, intP] at hkey' hd
    refine Ev.bind hkey' ?_
    simp only [stk, Int.reduceEq, Nat.reduceEqDiff, Int.reduceLE, Int.reduceLT]
    refine Ev.bind hd ?_
    simp only [rel_f0, rel_f1, rel_f2, rel_f3, del_f0, del_f1, del_f2, del_f3, del_agg, rel_agg, stk, Int.reduceEq, Nat.reduceEqDiff, Int.reduceLE, Int.reduceLT]
    exact Ev.now _
theorem ten_zero : ((10 : Int) = 0) = False := by simp
theorem one_byte (p : PV) : (bytesOfL [p]).size = 1 := rfl
theorem markText_loop : ∀ (n : Nat) (x : Int) (t : ByteArray), x < (n : Int) → t.size + n ≤ 9223372036854775000 → ∃ r, Ev2 (fun N m => laws_markText.l0 N m x t) [strP r] := by
  intro n
  induction n with
  | zero =>
    intro x t hx ht
    refine ⟨(⟨#[109]⟩ : ByteArray) ++ t, Ev2.succ ?_⟩
    have hsz : (ByteArray.mk #[109]).size + t.size ≤ 9223372036854775807 := by have : (ByteArray.mk #[109]).size = 1 := rfl; omega
    simp only [laws_markText.l0_eq, eq_false (show ¬ 0 < x by omega), hsz, stk, Int.reduceEq, Nat.reduceEqDiff, Int.reduceLE, Int.reduceLT]
    exact Ev2.now _
  | succ n ih =>
    intro x t hx ht
    by_cases h0 : 0 < x
    · have hd : Int.tdiv x 10 < (n : Int) := by
        rw [Int.tdiv_eq_ediv_of_nonneg (by omega)]; omega
      have hdn : 0 ≤ Int.tdiv x 10 := by rw [Int.tdiv_eq_ediv_of_nonneg (by omega)]; omega
      have hw : IntKind.i64.wrap (Int.tdiv x 10) = Int.tdiv x 10 := wrap_id (by omega) (by omega)
      obtain ⟨r, hr⟩ := ih (Int.tdiv x 10) (bytesOfL [(PV.sc (.int .u8 (IntKind.u8.wrap (IntKind.i64.wrap (48 + (Int.tmod x 10))))))] ++ t) hd (by rw [ByteArray.size_append, one_byte]; omega)
      refine ⟨r, Ev2.succ ?_⟩
      have hsz : 1 + t.size ≤ 9223372036854775807 := by omega
      simp only [laws_markText.l0_eq, h0, ten_zero, one_byte, hsz, hw, stk, Int.reduceEq, Nat.reduceEqDiff, Int.reduceLE, Int.reduceLT]
      exact hr
    · refine ⟨(⟨#[109]⟩ : ByteArray) ++ t, Ev2.succ ?_⟩
      have hsz : (ByteArray.mk #[109]).size + t.size ≤ 9223372036854775807 := by have : (ByteArray.mk #[109]).size = 1 := rfl; omega
      simp only [laws_markText.l0_eq, h0, hsz, stk, Int.reduceEq, Nat.reduceEqDiff, Int.reduceLE, Int.reduceLT]
      exact Ev2.now _
theorem markText_total (x : Int) (hx : x < 4611686018427387904) : ∃ r, Ev (fun N => laws_markText.f N [intP x]) [strP r] := by
  by_cases h : x ≤ 0
  · refine ⟨(⟨#[109, 48]⟩ : ByteArray), ?_⟩
    simp only [laws_markText.f_eq, h, stk, Int.reduceEq, Nat.reduceEqDiff, Int.reduceLE, Int.reduceLT]; exact Ev.now _
  · obtain ⟨r, hr⟩ := markText_loop x.toNat.succ x ⟨#[]⟩ (by omega) (by simp [ByteArray.size]; omega)
    refine ⟨r, ?_⟩
    simp only [laws_markText.f_eq, h, stk, Int.reduceEq, Nat.reduceEqDiff, Int.reduceLE, Int.reduceLT]
    exact hr.diag
noncomputable def mt (x : Int) : ByteArray := if h : x < 4611686018427387904 then Classical.choose (markText_total x h) else ByteArray.empty
theorem markText_ev (x : Int) (hx : x < 4611686018427387904) : Ev (fun N => laws_markText.f N [intP x]) [strP (mt x)] := by
  unfold mt
  rw [dif_pos hx]
  exact Classical.choose_spec (markText_total x hx)
noncomputable def markStrs : Int → List ByteArray → List ByteArray
  | _, [] => []
  | k, _ :: l => mt k :: markStrs (k + 1) l
theorem markStrs_len (k : Int) (l : List ByteArray) : (markStrs k l).length = l.length := by
  induction l generalizing k with
  | nil => rfl
  | cons c l ih => simp [markStrs, ih]
theorem markStringS_loop (n : Nat) (hn : n ≤ 1152921504606846976) : ∀ rest pre : List ByteArray, pre.length + rest.length = n → ∀ x : Int, x + rest.length < 4611686018427387904 → 0 ≤ x →
    Ev2 (fun N m => laws_markStringS.l1 N m x (pre.length : Int) ((pre ++ rest).map strP)) [intP (x + rest.length), strsP (pre ++ markStrs x rest)] := by
  intro rest
  induction rest with
  | nil =>
    intro pre hp x hx h0
    refine Ev2.succ ?_
    simp only [laws_markStringS.l1_eq, List.length_map, at_end (xs := pre ++ []) rfl, markStrs, List.length_nil, Int.natCast_zero, Int.add_zero, stk, Int.reduceEq, Nat.reduceEqDiff, Int.reduceLE, Int.reduceLT]
    exact Ev2.now _
  | cons c rest ih =>
    intro pre hp x hx h0
    simp only [List.length_cons] at hx hp
    have hset : ((pre ++ c :: rest).map strP).set pre.length (strP (mt x)) = ((pre ++ [mt x]) ++ rest).map strP := by
      simp
    refine Ev2.succ ?_
    simp only [laws_markStringS.l1_eq, List.length_map, at_lt (xs := pre ++ c :: rest) rfl, at_next (xs := pre ++ c :: rest) rfl (by simp; omega), wrap_id (n := x + 1) (by omega) (by omega), stk, Int.reduceEq, Nat.reduceEqDiff, Int.reduceLE, Int.reduceLT]
    refine Ev2.bind (markText_ev x (by omega)) ?_
    simp only [stk, Int.reduceEq, Nat.reduceEqDiff, Int.reduceLE, Int.reduceLT, hset]
    have := ih (pre ++ [mt x]) (by simp; omega) (x + 1) (by omega) (by omega)
    have e : (pre ++ [mt x]).length = (pre ++ [c]).length := by simp
    rw [e] at this
    refine Ev2.ext this ?_
    simp only [markStrs, List.append_assoc, List.cons_append, List.nil_append, List.length_cons]
    congr 1
    simp; omega
theorem markStringS_ev (l : List ByteArray) (x : Int) (hl : l.length ≤ 1152921504606846976) (hx : x + l.length < 4611686018427387904) (h0 : 0 ≤ x) :
    Ev (fun N => laws_markStringS.f N [strsP l, intP x]) [intP (x + l.length), strsP (markStrs x l)] := by
  simp only [laws_markStringS.f_eq, stk, Int.reduceEq, Nat.reduceEqDiff, Int.reduceLE, Int.reduceLT]
  refine Ev2.diag (g := fun N n => laws_markStringS.l0 N n x 0 (strsP l)) (Ev2.succ ?_)
  cases l with
  | nil =>
    have h00 : ¬ (0 : Int) < (([] : List ByteArray).length : Int) := by simp
    simp only [laws_markStringS.l0_eq, stk, Int.reduceEq, Nat.reduceEqDiff, Int.reduceLE, Int.reduceLT, h00]
    refine Ev2.ext (Ev2.now _) ?_
    simp [markStrs]
  | cons c rest =>
    have hp : c :: rest = [] ++ c :: rest := rfl
    simp only [List.length_cons] at hx hl
    have hset : ((strsP (c :: rest)).items.set 0 (strP (mt x))) = (([] ++ [mt x]) ++ rest).map strP := by simp [strsP, PV.items]
    have h00 : (0 : Int) < (((c :: rest).length : Nat) : Int) := by simp only [List.length_cons]; omega
    have h01 : IntKind.i64.wrap (0 + 1) = (([] ++ [mt x] : List ByteArray).length : Int) := by rw [wrap_id (by omega) (by omega)]; simp
    simp only [laws_markStringS.l0_eq, stk, Int.reduceEq, Nat.reduceEqDiff, Int.reduceLE, Int.reduceLT, h00, h01, wrap_id (n := x + 1) (by omega) (by omega)]
    refine Ev2.bind (markText_ev x (by omega)) ?_
    have h02 : (0 : Int).toNat = 0 := rfl
    simp only [stk, Int.reduceEq, Nat.reduceEqDiff, Int.reduceLE, Int.reduceLT, h02, hset]
    refine Ev2.ext (markStringS_loop (rest.length + 1) (by omega) rest ([] ++ [mt x]) (by simp; omega) (x + 1) (by omega) (by omega)) ?_
    simp only [markStrs, List.append_assoc, List.cons_append, List.nil_append, List.length_cons]
    congr 1
    simp; omega
theorem heldStringS_loop (n : Nat) (hn : n ≤ 1152921504606846976) : ∀ rest pre : List ByteArray, pre.length + rest.length = n → ∀ x : Int, x + rest.length < 4611686018427387904 → 0 ≤ x →
    Ev2 (fun N m => laws_heldStringS.l0 N m (strsP (pre ++ markStrs x rest)) x (pre.length : Int)) [intP (x + rest.length)] := by
  intro rest
  induction rest with
  | nil =>
    intro pre hp x hx h0
    show Ev2 (fun N m => laws_heldStringS.l0 N m (strsP (pre ++ [])) x (pre.length : Int)) _
    refine Ev2.succ ?_
    simp only [laws_heldStringS.l0_eq, at_end (xs := pre ++ []) rfl, List.length_nil, Int.natCast_zero, Int.add_zero, stk, Int.reduceEq, Nat.reduceEqDiff, Int.reduceLE, Int.reduceLT]
    exact Ev2.now _
  | cons c rest ih =>
    intro pre hp x hx h0
    simp only [List.length_cons] at hx hp
    show Ev2 (fun N m => laws_heldStringS.l0 N m (strsP (pre ++ mt x :: markStrs (x + 1) rest)) x (pre.length : Int)) _
    have hq : pre ++ mt x :: markStrs (x + 1) rest = pre ++ mt x :: markStrs (x + 1) rest := rfl
    refine Ev2.succ ?_
    simp only [laws_heldStringS.l0_eq, at_lt hq, at_getD hq, at_next hq (by simp [markStrs_len]; omega), wrap_id (n := x + 1) (by omega) (by omega), stk, Int.reduceEq, Nat.reduceEqDiff, Int.reduceLE, Int.reduceLT]
    refine Ev2.bind (markText_ev x (by omega)) ?_
    simp only [stk, Int.reduceEq, Nat.reduceEqDiff, Int.reduceLE, Int.reduceLT]
    have := ih (pre ++ [mt x]) (by simp; omega) (x + 1) (by omega) (by omega)
    simp only [List.append_assoc, List.cons_append, List.nil_append] at this
    refine Ev2.ext this ?_
    congr 2
    simp; omega
theorem heldStringS_ev (l : List ByteArray) (x : Int) (hl : l.length ≤ 1152921504606846976) (hx : x + l.length < 4611686018427387904) (h0 : 0 ≤ x) :
    Ev (fun N => laws_heldStringS.f N [strsP (markStrs x l), intP x]) [intP (x + l.length)] := by
  simp only [laws_heldStringS.f_eq, stk, Int.reduceEq, Nat.reduceEqDiff, Int.reduceLE, Int.reduceLT]
  exact (heldStringS_loop l.length hl l [] (by simp) x hx h0).diag
def countI : Int → Nat → List Int
  | _, 0 => []
  | x, n + 1 => x :: countI (x + 1) n
theorem markIntS_loop (n : Nat) (hn : n ≤ 1152921504606846976) : ∀ rest pre : List Int, pre.length + rest.length = n → ∀ x : Int, x + rest.length < 4611686018427387904 → 0 ≤ x →
    Ev2 (fun N m => laws_markIntS.l1 N m x (pre.length : Int) ((pre ++ rest).map intP)) [intP (x + rest.length), intsP (pre ++ countI x rest.length)] := by
  intro rest
  induction rest with
  | nil =>
    intro pre hp x hx h0
    refine Ev2.succ ?_
    simp only [laws_markIntS.l1_eq, List.length_map, at_end (xs := pre ++ []) rfl, countI, List.length_nil, Int.natCast_zero, Int.add_zero, stk, Int.reduceEq, Nat.reduceEqDiff, Int.reduceLE, Int.reduceLT]
    exact Ev2.now _
  | cons c rest ih =>
    intro pre hp x hx h0
    simp only [List.length_cons] at hx hp
    have hset : ((pre ++ c :: rest).map intP).set pre.length (intP x) = ((pre ++ [x]) ++ rest).map intP := by
      simp
    refine Ev2.succ ?_
    simp only [laws_markIntS.l1_eq, List.length_map, at_lt (xs := pre ++ c :: rest) rfl, at_next (xs := pre ++ c :: rest) rfl (by simp; omega), wrap_id (n := x + 1) (by omega) (by omega), stk, Int.reduceEq, Nat.reduceEqDiff, Int.reduceLE, Int.reduceLT, hset]
    have := ih (pre ++ [x]) (by simp; omega) (x + 1) (by omega) (by omega)
    have e : (pre ++ [x]).length = (pre ++ [c]).length := by simp
    rw [e] at this
    refine Ev2.ext this ?_
    simp only [countI, List.append_assoc, List.cons_append, List.nil_append, List.length_cons]
    congr 1
    simp; omega
theorem markIntS_ev (l : List Int) (x : Int) (hl : l.length ≤ 1152921504606846976) (hx : x + l.length < 4611686018427387904) (h0 : 0 ≤ x) :
    Ev (fun N => laws_markIntS.f N [intsP l, intP x]) [intP (x + l.length), intsP (countI x l.length)] := by
  simp only [laws_markIntS.f_eq, stk, Int.reduceEq, Nat.reduceEqDiff, Int.reduceLE, Int.reduceLT]
  refine Ev2.diag (g := fun N n => laws_markIntS.l0 N n x 0 (intsP l)) (Ev2.succ ?_)
  cases l with
  | nil =>
    have h00 : ¬ (0 : Int) < (([] : List Int).length : Int) := by simp
    simp only [laws_markIntS.l0_eq, stk, Int.reduceEq, Nat.reduceEqDiff, Int.reduceLE, Int.reduceLT, h00]
    refine Ev2.ext (Ev2.now _) ?_
    simp [countI]
  | cons c rest =>
    simp only [List.length_cons] at hx hl
    have hset : ((intsP (c :: rest)).items.set 0 (intP x)) = (([] ++ [x]) ++ rest).map intP := by simp [intsP, PV.items]
    have h00 : (0 : Int) < (((c :: rest).length : Nat) : Int) := by simp only [List.length_cons]; omega
    have h01 : IntKind.i64.wrap (0 + 1) = (([] ++ [x] : List Int).length : Int) := by rw [wrap_id (by omega) (by omega)]; simp
    have h02 : (0 : Int).toNat = 0 := rfl
    simp only [laws_markIntS.l0_eq, stk, Int.reduceEq, Nat.reduceEqDiff, Int.reduceLE, Int.reduceLT, h00, h01, wrap_id (n := x + 1) (by omega) (by omega), h02, hset]
    refine Ev2.ext (markIntS_loop (rest.length + 1) (by omega) rest ([] ++ [x]) (by simp; omega) (x + 1) (by omega) (by omega)) ?_
    simp only [countI, List.append_assoc, List.cons_append, List.nil_append, List.length_cons]
    congr 1
    simp; omega
theorem markRing_ev (a : List ByteArray) (b : List Int) (ha : a.length ≤ 1000000000) (hb : b.length ≤ 1000000000) :
    Ev (fun N => laws_markRing.f N [ringP a b, intP 1]) [intP (1 + a.length + b.length), strsP (markStrs 1 a), intsP (countI (1 + a.length) b.length)] := by
  simp only [laws_markRing.f_eq, ring_f0, ring_f1, toInt_sc]
  refine Ev.bind (markStringS_ev a 1 (by omega) (by omega) (by omega)) ?_
  simp only [headD_one, toInt_sc, List.tail_cons]
  refine Ev.bind (markIntS_ev b (1 + a.length) (by omega) (by omega) (by omega)) ?_
  simp only [headD_one, toInt_sc, List.tail_cons]
  exact Ev.now _
theorem book_arg {P : Program} {t ta te ea ee b x : TypeId} (ht : tk P t = .struct [ta, te]) (hta : tk P ta = .slice ea) (hte : tk P te = .slice ee) (hea : tk P ea = .struct [x, b, x, x, x]) (hee : tk P ee = .struct [x, x]) (hx : tk P x = .str) (hb : tk P b = .bool) {n : Nat} {p : PV} (h : PvOk P (n + 5) t p) :
    ∃ (af : List Aff) (es : List Ent), p = bookP af es ∧ af.length ≤ reachBytes ∧ es.length ≤ reachBytes ∧ (∀ a ∈ af, (a.flag.size ≤ reachBytes ∧ a.strip.size ≤ reachBytes) ∧ a.add.size ≤ reachBytes ∧ a.cond.size ≤ reachBytes) ∧ ∀ e ∈ es, e.stem.size ≤ reachBytes ∧ e.flags.size ≤ reachBytes := by
  obtain ⟨qs, rfl, hqs⟩ := pvOk_struct ht h
  obtain ⟨p1, p2, rfl, h1, h2⟩ := pvOkL2 hqs
  obtain ⟨as1, rfl, a1, a2⟩ := pvOk_slice hta h1
  obtain ⟨es1, rfl, e1, e2⟩ := pvOk_slice hte h2
  obtain ⟨af, rfl, a3⟩ := map_of (f := affP) (φ := fun a => (a.flag.size ≤ reachBytes ∧ a.strip.size ≤ reachBytes) ∧ a.add.size ≤ reachBytes ∧ a.cond.size ≤ reachBytes) (ps := as1) (fun q hq => by
    obtain ⟨rs, rfl, hr⟩ := pvOk_struct hea (a2 q hq)
    obtain ⟨r1, rs1, rfl, hr1, hr⟩ := pvOkL_cons hr
    obtain ⟨r2, rs2, rfl, hr2, hr⟩ := pvOkL_cons hr
    obtain ⟨r3, r4, r5, rfl, hr3, hr4, hr5⟩ := pvOkL3 hr
    obtain ⟨s1, rfl, z1⟩ := pvOk_str hx hr1
    obtain ⟨b1, rfl⟩ := pvOk_bool hb hr2
    obtain ⟨s3, rfl, z3⟩ := pvOk_str hx hr3
    obtain ⟨s4, rfl, z4⟩ := pvOk_str hx hr4
    obtain ⟨s5, rfl, z5⟩ := pvOk_str hx hr5
    exact ⟨⟨s1, b1, s3, s4, s5⟩, rfl, ⟨z1, z3⟩, z4, z5⟩)
  obtain ⟨es, rfl, e3⟩ := map_of (f := entP) (φ := fun e => e.stem.size ≤ reachBytes ∧ e.flags.size ≤ reachBytes) (ps := es1) (fun q hq => by
    obtain ⟨rs, rfl, hr⟩ := pvOk_struct hee (e2 q hq)
    obtain ⟨r1, r2, rfl, hr1, hr2⟩ := pvOkL2 hr
    obtain ⟨s1, rfl, z1⟩ := pvOk_str hx hr1
    obtain ⟨s2, rfl, z2⟩ := pvOk_str hx hr2
    exact ⟨⟨s1, s2⟩, rfl, z1, z2⟩)
  exact ⟨af, es, rfl, by simpa using a1, by simpa using e1, a3, e3⟩
theorem szAff_val (a : Aff) (hf : a.flag.size ≤ 1000000000000000) (hs : a.strip.size ≤ 1000000000000000) (ha : a.add.size ≤ 1000000000000000) (hc : a.cond.size ≤ 1000000000000000) (left : Int) (h0 : 0 ≤ left) (h1 : left ≤ 1048576) :
    ∃ r : Int, (∀ N, laws_szAffix.f N [affP a, intP left] = some [intP r]) ∧ r ≤ left ∧ -1 ≤ r ∧ (0 ≤ r → AffS a) := by
  have w1 : IntKind.i64.wrap (left - (a.flag.size : Int)) = left - (a.flag.size : Int) := wrap_id (by omega) (by omega)
  have w2 : IntKind.i64.wrap (left - (a.flag.size : Int) - (a.strip.size : Int)) = left - (a.flag.size : Int) - (a.strip.size : Int) := wrap_id (by omega) (by omega)
  have w3 : IntKind.i64.wrap (left - (a.flag.size : Int) - (a.strip.size : Int) - (a.add.size : Int)) = left - (a.flag.size : Int) - (a.strip.size : Int) - (a.add.size : Int) := wrap_id (by omega) (by omega)
  have w4 : IntKind.i64.wrap (left - (a.flag.size : Int) - (a.strip.size : Int) - (a.add.size : Int) - (a.cond.size : Int)) = left - (a.flag.size : Int) - (a.strip.size : Int) - (a.add.size : Int) - (a.cond.size : Int) := wrap_id (by omega) (by omega)
  by_cases c1 : left - (a.flag.size : Int) < 0
  · exact ⟨-1, fun N => by simp only [laws_szAffix.f_eq, aff_f0, w1, c1, stk, Int.reduceEq, Nat.reduceEqDiff, Int.reduceLE, Int.reduceLT], by omega, by omega, fun h => by omega⟩
  by_cases c2 : left - (a.flag.size : Int) - (a.strip.size : Int) < 0
  · exact ⟨-1, fun N => by simp only [laws_szAffix.f_eq, aff_f0, aff_f2, w1, w2, c1, c2, stk, Int.reduceEq, Nat.reduceEqDiff, Int.reduceLE, Int.reduceLT], by omega, by omega, fun h => by omega⟩
  by_cases c3 : left - (a.flag.size : Int) - (a.strip.size : Int) - (a.add.size : Int) < 0
  · exact ⟨-1, fun N => by simp only [laws_szAffix.f_eq, aff_f0, aff_f2, aff_f3, w1, w2, w3, c1, c2, c3, stk, Int.reduceEq, Nat.reduceEqDiff, Int.reduceLE, Int.reduceLT], by omega, by omega, fun h => by omega⟩
  by_cases c4 : left - (a.flag.size : Int) - (a.strip.size : Int) - (a.add.size : Int) - (a.cond.size : Int) < 0
  · exact ⟨-1, fun N => by simp only [laws_szAffix.f_eq, aff_f0, aff_f2, aff_f3, aff_f4, w1, w2, w3, w4, c1, c2, c3, c4, stk, Int.reduceEq, Nat.reduceEqDiff, Int.reduceLE, Int.reduceLT], by omega, by omega, fun h => by omega⟩
  exact ⟨left - (a.flag.size : Int) - (a.strip.size : Int) - (a.add.size : Int) - (a.cond.size : Int), fun N => by simp only [laws_szAffix.f_eq, aff_f0, aff_f2, aff_f3, aff_f4, w1, w2, w3, w4, c1, c2, c3, c4, stk, Int.reduceEq, Nat.reduceEqDiff, Int.reduceLE, Int.reduceLT], by omega, by omega, fun h => ⟨by omega, by omega, by omega, by omega⟩⟩
theorem szEnt_val (e : Ent) (hf : e.stem.size ≤ 1000000000000000) (hs : e.flags.size ≤ 1000000000000000) (left : Int) (h0 : 0 ≤ left) (h1 : left ≤ 1048576) :
    ∃ r : Int, (∀ N, laws_szEntry.f N [entP e, intP left] = some [intP r]) ∧ r ≤ left ∧ -1 ≤ r ∧ (0 ≤ r → EntS e) := by
  have w1 : IntKind.i64.wrap (left - (e.stem.size : Int)) = left - (e.stem.size : Int) := wrap_id (by omega) (by omega)
  have w2 : IntKind.i64.wrap (left - (e.stem.size : Int) - (e.flags.size : Int)) = left - (e.stem.size : Int) - (e.flags.size : Int) := wrap_id (by omega) (by omega)
  by_cases c1 : left - (e.stem.size : Int) < 0
  · exact ⟨-1, fun N => by simp only [laws_szEntry.f_eq, ent_f0, w1, c1, stk, Int.reduceEq, Nat.reduceEqDiff, Int.reduceLE, Int.reduceLT], by omega, by omega, fun h => by omega⟩
  by_cases c2 : left - (e.stem.size : Int) - (e.flags.size : Int) < 0
  · exact ⟨-1, fun N => by simp only [laws_szEntry.f_eq, ent_f0, ent_f1, w1, w2, c1, c2, stk, Int.reduceEq, Nat.reduceEqDiff, Int.reduceLE, Int.reduceLT], by omega, by omega, fun h => by omega⟩
  exact ⟨left - (e.stem.size : Int) - (e.flags.size : Int), fun N => by simp only [laws_szEntry.f_eq, ent_f0, ent_f1, w1, w2, c1, c2, stk, Int.reduceEq, Nat.reduceEqDiff, Int.reduceLE, Int.reduceLT], by omega, by omega, fun h => ⟨by omega, by omega⟩⟩
theorem szAffS_ev (af : List Aff) (hal : af.length ≤ 1000000000000000) (hs : ∀ a ∈ af, (a.flag.size ≤ 1000000000000000 ∧ a.strip.size ≤ 1000000000000000) ∧ a.add.size ≤ 1000000000000000 ∧ a.cond.size ≤ 1000000000000000) (left : Int) (h0 : 0 ≤ left) (h1 : left ≤ 1048576) :
    ∃ r : Int, Ev (fun N => laws_szAffixS.f N [affsP af, intP left]) [intP r] ∧ r ≤ left ∧ -1 ≤ r ∧ (0 ≤ r → af.length ≤ 1048576 ∧ ∀ a ∈ af, AffS a) := by
  have w1 : IntKind.i64.wrap (left - (af.length : Int)) = left - (af.length : Int) := wrap_id (by omega) (by omega)
  by_cases c1 : left - (af.length : Int) < 0
  · refine ⟨-1, ?_, by omega, by omega, fun h => by omega⟩
    simp only [laws_szAffixS.f_eq, affs_len, w1, c1, stk, Int.reduceEq, Nat.reduceEqDiff, Int.reduceLE, Int.reduceLT]
    exact Ev.now _
  have key : ∀ (rest pre : List Aff) (l : Int), af = pre ++ rest → 0 ≤ l → l ≤ 1048576 → ∃ r : Int, Ev2 (fun N n => laws_szAffixS.l0 N n (affsP af) l (pre.length : Int)) [intP r] ∧ r ≤ l ∧ -1 ≤ r ∧ (0 ≤ r → ∀ a ∈ rest, AffS a) := by
    intro rest
    induction rest with
    | nil =>
      intro pre l hp hl0 hl1
      refine ⟨l, Ev2.succ ?_, by omega, by omega, fun _ a h => by cases h⟩
      simp only [laws_szAffixS.l0_eq, affs_len, at_end hp, stk, Int.reduceEq, Nat.reduceEqDiff, Int.reduceLE, Int.reduceLT]
      exact Ev2.now _
    | cons a rest ih =>
      intro pre l hp hl0 hl1
      obtain ⟨⟨z1, z2⟩, z3, z4⟩ := hs a (by rw [hp]; simp)
      obtain ⟨r, hr, hle, hm, hA⟩ := szAff_val a z1 z2 z3 z4 l hl0 hl1
      by_cases hn : r < 0
      · refine ⟨-1, Ev2.succ ?_, by omega, by omega, fun h => by omega⟩
        simp only [laws_szAffixS.l0_eq, affs_len, affs_elem hp, at_lt hp, aff_f0, aff_f1, aff_f2, aff_f3, aff_f4, aff_agg, hr, hn, stk, Int.reduceEq, Nat.reduceEqDiff, Int.reduceLE, Int.reduceLT]
        exact Ev2.now _
      · obtain ⟨r2, g1, g2, g3, g4⟩ := ih _ r (at_step hp) (by omega) (by omega)
        refine ⟨r2, Ev2.succ ?_, by omega, g3, fun h x hx => ?_⟩
        · simp only [laws_szAffixS.l0_eq, affs_len, affs_elem hp, at_lt hp, aff_f0, aff_f1, aff_f2, aff_f3, aff_f4, aff_agg, hr, hn, at_next hp (by omega), stk, Int.reduceEq, Nat.reduceEqDiff, Int.reduceLE, Int.reduceLT]
          exact g1
        · rcases List.mem_cons.1 hx with rfl | hx
          · exact hA (by omega)
          · exact g4 h x hx
  obtain ⟨r, g1, g2, g3, g4⟩ := key af [] (left - (af.length : Int)) rfl (by omega) (by omega)
  refine ⟨r, ?_, by omega, g3, fun h => ⟨by omega, g4 h⟩⟩
  simp only [laws_szAffixS.f_eq, affs_len, w1, c1, stk, Int.reduceEq, Nat.reduceEqDiff, Int.reduceLE, Int.reduceLT]
  exact g1.diag
theorem szEntS_ev (es : List Ent) (hel : es.length ≤ 1000000000000000) (hs : ∀ e ∈ es, e.stem.size ≤ 1000000000000000 ∧ e.flags.size ≤ 1000000000000000) (left : Int) (h0 : 0 ≤ left) (h1 : left ≤ 1048576) :
    ∃ r : Int, Ev (fun N => laws_szEntryS.f N [entsP es, intP left]) [intP r] ∧ r ≤ left ∧ -1 ≤ r ∧ (0 ≤ r → es.length ≤ 1048576 ∧ ∀ e ∈ es, EntS e) := by
  have w1 : IntKind.i64.wrap (left - (es.length : Int)) = left - (es.length : Int) := wrap_id (by omega) (by omega)
  by_cases c1 : left - (es.length : Int) < 0
  · refine ⟨-1, ?_, by omega, by omega, fun h => by omega⟩
    simp only [laws_szEntryS.f_eq, ents_len, w1, c1, stk, Int.reduceEq, Nat.reduceEqDiff, Int.reduceLE, Int.reduceLT]
    exact Ev.now _
  have key : ∀ (rest pre : List Ent) (l : Int), es = pre ++ rest → 0 ≤ l → l ≤ 1048576 → ∃ r : Int, Ev2 (fun N n => laws_szEntryS.l0 N n (entsP es) l (pre.length : Int)) [intP r] ∧ r ≤ l ∧ -1 ≤ r ∧ (0 ≤ r → ∀ a ∈ rest, EntS a) := by
    intro rest
    induction rest with
    | nil =>
      intro pre l hp hl0 hl1
      refine ⟨l, Ev2.succ ?_, by omega, by omega, fun _ a h => by cases h⟩
      simp only [laws_szEntryS.l0_eq, ents_len, at_end hp, stk, Int.reduceEq, Nat.reduceEqDiff, Int.reduceLE, Int.reduceLT]
      exact Ev2.now _
    | cons a rest ih =>
      intro pre l hp hl0 hl1
      obtain ⟨z1, z2⟩ := hs a (by rw [hp]; simp)
      obtain ⟨r, hr, hle, hm, hA⟩ := szEnt_val a z1 z2 l hl0 hl1
      by_cases hn : r < 0
      · refine ⟨-1, Ev2.succ ?_, by omega, by omega, fun h => by omega⟩
        simp only [laws_szEntryS.l0_eq, ents_len, ents_elem hp, at_lt hp, ent_f0, ent_f1, ent_agg, hr, hn, stk, Int.reduceEq, Nat.reduceEqDiff, Int.reduceLE, Int.reduceLT]
        exact Ev2.now _
      · obtain ⟨r2, g1, g2, g3, g4⟩ := ih _ r (at_step hp) (by omega) (by omega)
        refine ⟨r2, Ev2.succ ?_, by omega, g3, fun h x hx => ?_⟩
        · simp only [laws_szEntryS.l0_eq, ents_len, ents_elem hp, at_lt hp, ent_f0, ent_f1, ent_agg, hr, hn, at_next hp (by omega), stk, Int.reduceEq, Nat.reduceEqDiff, Int.reduceLE, Int.reduceLT]
          exact g1
        · rcases List.mem_cons.1 hx with rfl | hx
          · exact hA (by omega)
          · exact g4 h x hx
  obtain ⟨r, g1, g2, g3, g4⟩ := key es [] (left - (es.length : Int)) rfl (by omega) (by omega)
  refine ⟨r, ?_, by omega, g3, fun h => ⟨by omega, g4 h⟩⟩
  simp only [laws_szEntryS.f_eq, ents_len, w1, c1, stk, Int.reduceEq, Nat.reduceEqDiff, Int.reduceLE, Int.reduceLT]
  exact g1.diag
theorem szBook_ev (af : List Aff) (es : List Ent) (hal : af.length ≤ 1000000000000000) (hel : es.length ≤ 1000000000000000) (hs : ∀ a ∈ af, (a.flag.size ≤ 1000000000000000 ∧ a.strip.size ≤ 1000000000000000) ∧ a.add.size ≤ 1000000000000000 ∧ a.cond.size ≤ 1000000000000000) (hs2 : ∀ e ∈ es, e.stem.size ≤ 1000000000000000 ∧ e.flags.size ≤ 1000000000000000) (left : Int) (h0 : 0 ≤ left) (h1 : left ≤ 1048576) :
    ∃ r : Int, Ev (fun N => laws_szBook.f N [bookP af es, intP left]) [intP r] ∧ r ≤ left ∧ -1 ≤ r ∧ (0 ≤ r → (af.length ≤ 1048576 ∧ es.length ≤ 1048576) ∧ BookS af es) := by
  obtain ⟨r, g1, g2, g3, g4⟩ := szAffS_ev af hal hs left h0 h1
  by_cases hn : r < 0
  · refine ⟨-1, ?_, by omega, by omega, fun h => by omega⟩
    simp only [laws_szBook.f_eq, book_f0, book_f1, stk, Int.reduceEq, Nat.reduceEqDiff, Int.reduceLE, Int.reduceLT]
    refine Ev.bind g1 ?_
    simp only [hn, stk, Int.reduceEq, Nat.reduceEqDiff, Int.reduceLE, Int.reduceLT]
    exact Ev.now _
  · obtain ⟨r2, k1, k2, k3, k4⟩ := szEntS_ev es hel hs2 r (by omega) (by omega)
    by_cases hn2 : r2 < 0
    · refine ⟨-1, ?_, by omega, by omega, fun h => by omega⟩
      simp only [laws_szBook.f_eq, book_f0, book_f1, stk, Int.reduceEq, Nat.reduceEqDiff, Int.reduceLE, Int.reduceLT]
      refine Ev.bind g1 ?_
      simp only [hn, stk, Int.reduceEq, Nat.reduceEqDiff, Int.reduceLE, Int.reduceLT]
      refine Ev.bind k1 ?_
      simp only [hn2, stk, Int.reduceEq, Nat.reduceEqDiff, Int.reduceLE, Int.reduceLT]
      exact Ev.now _
    · obtain ⟨q1, q2⟩ := g4 (by omega)
      obtain ⟨q3, q4⟩ := k4 (by omega)
      refine ⟨r2, ?_, by omega, k3, fun _ => ⟨⟨q1, q3⟩, by omega, by omega, q2, q4⟩⟩
      simp only [laws_szBook.f_eq, book_f0, book_f1, stk, Int.reduceEq, Nat.reduceEqDiff, Int.reduceLE, Int.reduceLT]
      refine Ev.bind g1 ?_
      simp only [hn, stk, Int.reduceEq, Nat.reduceEqDiff, Int.reduceLE, Int.reduceLT]
      refine Ev.bind k1 ?_
      simp only [hn2, stk, Int.reduceEq, Nat.reduceEqDiff, Int.reduceLE, Int.reduceLT]
      exact Ev.now _
theorem toAffS_ev (af : List Aff) (hal : af.length ≤ 1000000000) : Ev (fun N => laws_toAffixS.f N [affsP af]) [affsP af] := by
  have key : ∀ (rest pre : List Aff) (z : List PV), af = pre ++ rest → z.length = rest.length → Ev2 (fun N n => laws_toAffixS.l0 N n (affsP af) (pre.length : Int) (pre.map affP ++ z)) [affsP af] := by
    intro rest
    induction rest with
    | nil =>
      intro pre z hp hz
      obtain rfl : z = [] := List.eq_nil_of_length_eq_zero hz
      have e : PV.list (pre.map affP ++ []) = affsP af := by rw [hp]; simp [affsP]
      refine Ev2.succ ?_
      simp only [laws_toAffixS.l0_eq, affs_len, at_end hp, e, stk, Int.reduceEq, Nat.reduceEqDiff, Int.reduceLE, Int.reduceLT]
      exact Ev2.now _
    | cons a rest ih =>
      intro pre z hp hz
      obtain ⟨y, z, rfl⟩ : ∃ y z', z = y :: z' := List.exists_cons_of_ne_nil (by rintro rfl; simp at hz)
      have hl : ((pre.length : Int) < ((pre.map affP ++ y :: z).length : Int)) = True := tru (by simp; omega)
      have hset : (pre.map affP ++ y :: z).set pre.length (affP a) = (pre ++ [a]).map affP ++ z := by
        have := set_mid (pre.map affP) y (affP a) z
        rw [List.length_map] at this; rw [this]; simp
      refine Ev2.succ ?_
      simp only [laws_toAffixS.l0_eq, laws_toAffix.f_eq, affs_len, affs_elem hp, at_lt hp, aff_f0, aff_f1, aff_f2, aff_f3, aff_f4, aff_agg, hl, hset, at_next hp (by omega), stk, Int.reduceEq, Nat.reduceEqDiff, Int.reduceLE, Int.reduceLT]
      exact ih _ z (at_step hp) (by simpa using hz)
  have c1 : (af.length ≤ 3909374676536) = True := tru (by omega)
  simp only [laws_toAffixS.f_eq, affs_len, nn, c1, stk, Int.reduceEq, Nat.reduceEqDiff, Int.reduceLE, Int.reduceLT]
  exact (key af [] _ rfl (by simp)).diag
theorem toEntS_ev (es : List Ent) (hel : es.length ≤ 1000000000) : Ev (fun N => laws_toEntryS.f N [entsP es]) [entsP es] := by
  have key : ∀ (rest pre : List Ent) (z : List PV), es = pre ++ rest → z.length = rest.length → Ev2 (fun N n => laws_toEntryS.l0 N n (entsP es) (pre.length : Int) (pre.map entP ++ z)) [entsP es] := by
    intro rest
    induction rest with
    | nil =>
      intro pre z hp hz
      obtain rfl : z = [] := List.eq_nil_of_length_eq_zero hz
      have e : PV.list (pre.map entP ++ []) = entsP es := by rw [hp]; simp [entsP]
      refine Ev2.succ ?_
      simp only [laws_toEntryS.l0_eq, ents_len, at_end hp, e, stk, Int.reduceEq, Nat.reduceEqDiff, Int.reduceLE, Int.reduceLT]
      exact Ev2.now _
    | cons a rest ih =>
      intro pre z hp hz
      obtain ⟨y, z, rfl⟩ : ∃ y z', z = y :: z' := List.exists_cons_of_ne_nil (by rintro rfl; simp at hz)
      have hl : ((pre.length : Int) < ((pre.map entP ++ y :: z).length : Int)) = True := tru (by simp; omega)
      have hset : (pre.map entP ++ y :: z).set pre.length (entP a) = (pre ++ [a]).map entP ++ z := by
        have := set_mid (pre.map entP) y (entP a) z
        rw [List.length_map] at this; rw [this]; simp
      refine Ev2.succ ?_
      simp only [laws_toEntryS.l0_eq, laws_toEntry.f_eq, ents_len, ents_elem hp, at_lt hp, ent_f0, ent_f1, ent_agg, hl, hset, at_next hp (by omega), stk, Int.reduceEq, Nat.reduceEqDiff, Int.reduceLE, Int.reduceLT]
      exact ih _ z (at_step hp) (by simpa using hz)
  have c1 : (es.length ≤ 8796093022208) = True := tru (by omega)
  simp only [laws_toEntryS.f_eq, ents_len, nn, c1, stk, Int.reduceEq, Nat.reduceEqDiff, Int.reduceLE, Int.reduceLT]
  exact (key es [] _ rfl (by simp)).diag
theorem toBook_ev (af : List Aff) (es : List Ent) (hal : af.length ≤ 1000000000) (hel : es.length ≤ 1000000000) : Ev (fun N => laws_toBook.f N [bookP af es]) [bookP af es] := by
  simp only [laws_toBook.f_eq, book_f0, book_f1]
  refine Ev.bind (toAffS_ev af hal) ?_
  refine Ev.bind (toEntS_ev es hel) ?_
  exact Ev.now _
theorem eqAffS_ev (af : List Aff) (hal : af.length ≤ 1000000000) : Ev (fun N => laws_eqAffixS.f N [affsP af, affsP af]) [boolP true] := by
  have key : ∀ (rest pre : List Aff), af = pre ++ rest → Ev2 (fun N n => laws_eqAffixS.l0 N n (affsP af) (affsP af) (pre.length : Int)) [boolP true] := by
    intro rest
    induction rest with
    | nil =>
      intro pre hp
      refine Ev2.succ ?_
      simp only [laws_eqAffixS.l0_eq, affs_len, at_end hp, stk, Int.reduceEq, Nat.reduceEqDiff, Int.reduceLE, Int.reduceLT]
      exact Ev2.now _
    | cons a rest ih =>
      intro pre hp
      refine Ev2.succ ?_
      simp only [laws_eqAffixS.l0_eq, laws_eqAffix.f_eq, affs_len, affs_elem hp, at_lt hp, aff_f0, aff_f1, aff_f2, aff_f3, aff_f4, aff_agg, at_next hp (by omega), stk, Int.reduceEq, Nat.reduceEqDiff, Int.reduceLE, Int.reduceLT]
      exact ih _ (at_step hp)
  simp only [laws_eqAffixS.f_eq, affs_len, stk, Int.reduceEq, Nat.reduceEqDiff, Int.reduceLE, Int.reduceLT]
  exact (key af [] rfl).diag
theorem eqEntS_ev (es : List Ent) (hel : es.length ≤ 1000000000) : Ev (fun N => laws_eqEntryS.f N [entsP es, entsP es]) [boolP true] := by
  have key : ∀ (rest pre : List Ent), es = pre ++ rest → Ev2 (fun N n => laws_eqEntryS.l0 N n (entsP es) (entsP es) (pre.length : Int)) [boolP true] := by
    intro rest
    induction rest with
    | nil =>
      intro pre hp
      refine Ev2.succ ?_
      simp only [laws_eqEntryS.l0_eq, ents_len, at_end hp, stk, Int.reduceEq, Nat.reduceEqDiff, Int.reduceLE, Int.reduceLT]
      exact Ev2.now _
    | cons a rest ih =>
      intro pre hp
      refine Ev2.succ ?_
      simp only [laws_eqEntryS.l0_eq, laws_eqEntry.f_eq, ents_len, ents_elem hp, at_lt hp, ent_f0, ent_f1, ent_agg, at_next hp (by omega), stk, Int.reduceEq, Nat.reduceEqDiff, Int.reduceLE, Int.reduceLT]
      exact ih _ (at_step hp)
  simp only [laws_eqEntryS.f_eq, ents_len, stk, Int.reduceEq, Nat.reduceEqDiff, Int.reduceLE, Int.reduceLT]
  exact (key es [] rfl).diag
theorem eqBook_ev (af : List Aff) (es : List Ent) (hal : af.length ≤ 1000000000) (hel : es.length ≤ 1000000000) : Ev (fun N => laws_eqBook.f N [bookP af es, bookP af es]) [boolP true] := by
  simp only [laws_eqBook.f_eq, book_f0, book_f1]
  refine Ev.bind (eqAffS_ev af hal) ?_
  simp only [stk, Int.reduceEq, Nat.reduceEqDiff, Int.reduceLE, Int.reduceLT]
  refine Ev.bind (eqEntS_ev es hel) ?_
  simp only [stk, Int.reduceEq, Nat.reduceEqDiff, Int.reduceLE, Int.reduceLT]
  exact Ev.now _
def Tot2 (L : Nat) (v : Int) (g : Nat → Nat → Option (List PV)) : Prop := ∃ y : List PV, y.length = L ∧ Ev2 g [intP v, PV.list y]
theorem Tot2.bind {L : Nat} {v : Int} {s : List PV} {g : Nat → Option (List PV)} {f : Nat → Nat → List PV → Option (List PV)} (h : Ev g s) (k : Tot2 L v (fun N n => f N n s)) : Tot2 L v (fun N n => (g N).bind (f N n)) := by
  obtain ⟨y, hy, h2⟩ := k
  exact ⟨y, hy, Ev2.bind h h2⟩
theorem Tot2.succ {L : Nat} {v : Int} {g : Nat → Nat → Option (List PV)} (h : Tot2 L v (fun N n => g N (n + 1))) : Tot2 L v g := by
  obtain ⟨y, hy, h2⟩ := h
  exact ⟨y, hy, Ev2.succ h2⟩
theorem set_mid2 (D r : List PV) (p q : PV) : (D ++ p :: r).set D.length q = D ++ q :: r := by simp
theorem elem_mid (D r : List PV) (p : PV) : (PV.list (D ++ p :: r)).elem D.length = p := by simp [PV.elem, PV.items, List.getD_eq_getElem?_getD]
theorem getD_mid (D r : List PV) (p : PV) : (D ++ p :: r).getD D.length default = p := by simp [List.getD_eq_getElem?_getD]
theorem lt_mid (D r : List PV) (p : PV) : ((D.length : Int) < ((D ++ p :: r).length : Int)) = True := tru (by simp; omega)
theorem parts_agg (l : List PV) : (PV.agg l).parts = l := rfl
theorem aff_parts (a : Aff) : (affP a).parts = [strP a.flag, boolP a.front, strP a.strip, strP a.add, strP a.cond] := rfl
theorem ent_parts (e : Ent) : (entP e).parts = [strP e.stem, strP e.flags] := rfl
theorem three_zero : ((3 : Int) = 0) = False := by simp
noncomputable def amP (k : Int) : PV := PV.agg [strP (mt k), boolP (decide (Int.tmod (k + 1) 3 = 0)), strP (mt (k + 1 + 1)), strP (mt (k + 1 + 1 + 1)), strP (mt (k + 1 + 1 + 1 + 1))]
noncomputable def emP (k : Int) : PV := PV.agg [strP (mt k), strP (mt (k + 1))]
noncomputable def markA : Int → Nat → List PV
  | _, 0 => []
  | k, n + 1 => amP k :: markA (k + 1 + 1 + 1 + 1 + 1) n
noncomputable def markE : Int → Nat → List PV
  | _, 0 => []
  | k, n + 1 => emP k :: markE (k + 1 + 1) n
theorem markA_l1 : ∀ (rest : List Aff) (D : List PV) (x : Int), D.length + rest.length ≤ 1000000000 → 0 ≤ x → x + 5 * rest.length < 4000000000000000000 →
    Ev2 (fun N n => laws_markAffixS.l1 N n x (D.length : Int) (D ++ rest.map affP)) [intP (x + 5 * rest.length), PV.list (D ++ markA x rest.length)] := by
  intro rest
  induction rest with
  | nil =>
    intro D x h1 h2 h3
    have hp : D ++ ([] : List Aff).map affP = D ++ [] := rfl
    refine Ev2.succ ?_
    simp only [laws_markAffixS.l1_eq, at_end hp, stk, Int.reduceEq, Nat.reduceEqDiff, Int.reduceLE, Int.reduceLT]
    refine Ev2.ext (Ev2.now _) ?_
    simp [markA]
  | cons a rest ih =>
    intro D x h1 h2 h3
    rw [List.length_cons] at h1 h3
    have w1 : IntKind.i64.wrap (x + 1) = x + 1 := wrap_id (by omega) (by omega)
    have w2 : IntKind.i64.wrap (x + 1 + 1) = x + 1 + 1 := wrap_id (by omega) (by omega)
    have w3 : IntKind.i64.wrap (x + 1 + 1 + 1) = x + 1 + 1 + 1 := wrap_id (by omega) (by omega)
    have w4 : IntKind.i64.wrap (x + 1 + 1 + 1 + 1) = x + 1 + 1 + 1 + 1 := wrap_id (by omega) (by omega)
    have w5 : IntKind.i64.wrap (x + 1 + 1 + 1 + 1 + 1) = x + 1 + 1 + 1 + 1 + 1 := wrap_id (by omega) (by omega)
    have hnx : IntKind.i64.wrap ((D.length : Int) + 1) = ((D.length + 1 : Nat) : Int) := nat_wrap (by omega) (by omega)
    refine Ev2.succ ?_
    simp only [List.map_cons, laws_markAffixS.l1_eq, lt_mid, stk, Int.reduceEq, Nat.reduceEqDiff, Int.reduceLE, Int.reduceLT]
    refine Ev2.bind (markText_ev x (by omega)) ?_
    simp only [three_zero, w1, w2, lt_mid, set_mid2, elem_mid, getD_mid, aff_parts, List.set_cons_zero, stk, Int.reduceEq, Nat.reduceEqDiff, Int.reduceLE, Int.reduceLT]
    refine Ev2.bind (markText_ev (x + 1 + 1) (by omega)) ?_
    simp only [w3, lt_mid, set_mid2, elem_mid, getD_mid, parts_agg, List.set_cons_zero, List.set_cons_succ, stk, Int.reduceEq, Nat.reduceEqDiff, Int.reduceLE, Int.reduceLT]
    refine Ev2.bind (markText_ev (x + 1 + 1 + 1) (by omega)) ?_
    simp only [w4, lt_mid, set_mid2, elem_mid, getD_mid, parts_agg, List.set_cons_zero, List.set_cons_succ, stk, Int.reduceEq, Nat.reduceEqDiff, Int.reduceLE, Int.reduceLT]
    refine Ev2.bind (markText_ev (x + 1 + 1 + 1 + 1) (by omega)) ?_
    simp only [w5, hnx, lt_mid, set_mid2, elem_mid, getD_mid, parts_agg, List.set_cons_zero, List.set_cons_succ, stk, Int.reduceEq, Nat.reduceEqDiff, Int.reduceLE, Int.reduceLT]
    have := ih (D ++ [amP x]) (x + 1 + 1 + 1 + 1 + 1) (by simp; omega) (by omega) (by omega)
    have hl1 : (D ++ [amP x]).length = D.length + 1 := by simp
    rw [hl1, List.append_assoc, List.append_assoc] at this
    refine Ev2.ext this ?_
    simp only [List.length_cons, markA, List.cons_append, List.nil_append]
    congr 2
    omega
theorem markA_ev (l : List Aff) (x : Int) (hl : l.length ≤ 1000000000) (h0 : 0 ≤ x) (h1 : x ≤ 100000000000) : Ev (fun N => laws_markAffixS.f N [affsP l, intP x]) [intP (x + 5 * l.length), PV.list (markA x l.length)] := by
  simp only [laws_markAffixS.f_eq, stk, Int.reduceEq, Nat.reduceEqDiff, Int.reduceLE, Int.reduceLT]
  refine Ev2.diag (g := fun N n => laws_markAffixS.l0 N n x 0 (affsP l)) (Ev2.succ ?_)
  cases l with
  | nil =>
    have c0 : ((0 : Int) < (([] : List Aff).length : Int)) = False := fls (by simp)
    simp only [laws_markAffixS.l0_eq, affs_len, c0, stk, Int.reduceEq, Nat.reduceEqDiff, Int.reduceLE, Int.reduceLT]
    refine Ev2.ext (Ev2.now _) ?_
    simp [markA, affsP]
  | cons a rest =>
    rw [List.length_cons] at hl
    have w1 : IntKind.i64.wrap (x + 1) = x + 1 := wrap_id (by omega) (by omega)
    have w2 : IntKind.i64.wrap (x + 1 + 1) = x + 1 + 1 := wrap_id (by omega) (by omega)
    have w3 : IntKind.i64.wrap (x + 1 + 1 + 1) = x + 1 + 1 + 1 := wrap_id (by omega) (by omega)
    have w4 : IntKind.i64.wrap (x + 1 + 1 + 1 + 1) = x + 1 + 1 + 1 + 1 := wrap_id (by omega) (by omega)
    have w5 : IntKind.i64.wrap (x + 1 + 1 + 1 + 1 + 1) = x + 1 + 1 + 1 + 1 + 1 := wrap_id (by omega) (by omega)
    have hnx : IntKind.i64.wrap ((([] : List PV).length : Int) + 1) = ((([] : List PV).length + 1 : Nat) : Int) := nat_wrap (by simp) (by simp)
    have z0 : (0 : Int) = (([] : List PV).length : Int) := rfl
    have z1 : affsP (a :: rest) = PV.list ([] ++ affP a :: rest.map affP) := rfl
    rw [z0, z1]
    simp only [laws_markAffixS.l0_eq, items_list, lt_mid, stk, Int.reduceEq, Nat.reduceEqDiff, Int.reduceLE, Int.reduceLT]
    refine Ev2.bind (markText_ev x (by omega)) ?_
    simp only [three_zero, w1, w2, lt_mid, set_mid2, elem_mid, getD_mid, aff_parts, List.set_cons_zero, stk, Int.reduceEq, Nat.reduceEqDiff, Int.reduceLE, Int.reduceLT]
    refine Ev2.bind (markText_ev (x + 1 + 1) (by omega)) ?_
    simp only [w3, lt_mid, set_mid2, elem_mid, getD_mid, parts_agg, List.set_cons_zero, List.set_cons_succ, stk, Int.reduceEq, Nat.reduceEqDiff, Int.reduceLE, Int.reduceLT]
    refine Ev2.bind (markText_ev (x + 1 + 1 + 1) (by omega)) ?_
    simp only [w4, lt_mid, set_mid2, elem_mid, getD_mid, parts_agg, List.set_cons_zero, List.set_cons_succ, stk, Int.reduceEq, Nat.reduceEqDiff, Int.reduceLE, Int.reduceLT]
    refine Ev2.bind (markText_ev (x + 1 + 1 + 1 + 1) (by omega)) ?_
    simp only [w5, hnx, lt_mid, set_mid2, elem_mid, getD_mid, parts_agg, List.set_cons_zero, List.set_cons_succ, stk, Int.reduceEq, Nat.reduceEqDiff, Int.reduceLE, Int.reduceLT]
    have := markA_l1 rest [amP x] (x + 1 + 1 + 1 + 1 + 1) (by simp; omega) (by omega) (by omega)
    refine Ev2.ext this ?_
    simp only [List.length_cons, markA, List.cons_append, List.nil_append]
    congr 2
    omega
theorem markE_l1 : ∀ (rest : List Ent) (D : List PV) (x : Int), D.length + rest.length ≤ 1000000000 → 0 ≤ x → x + 2 * rest.length < 4000000000000000000 →
    Ev2 (fun N n => laws_markEntryS.l1 N n x (D.length : Int) (D ++ rest.map entP)) [intP (x + 2 * rest.length), PV.list (D ++ markE x rest.length)] := by
  intro rest
  induction rest with
  | nil =>
    intro D x h1 h2 h3
    have hp : D ++ ([] : List Ent).map entP = D ++ [] := rfl
    refine Ev2.succ ?_
    simp only [laws_markEntryS.l1_eq, at_end hp, stk, Int.reduceEq, Nat.reduceEqDiff, Int.reduceLE, Int.reduceLT]
    refine Ev2.ext (Ev2.now _) ?_
    simp [markE]
  | cons a rest ih =>
    intro D x h1 h2 h3
    rw [List.length_cons] at h1 h3
    have w1 : IntKind.i64.wrap (x + 1) = x + 1 := wrap_id (by omega) (by omega)
    have w2 : IntKind.i64.wrap (x + 1 + 1) = x + 1 + 1 := wrap_id (by omega) (by omega)
    have hnx : IntKind.i64.wrap ((D.length : Int) + 1) = ((D.length + 1 : Nat) : Int) := nat_wrap (by omega) (by omega)
    refine Ev2.succ ?_
    simp only [List.map_cons, laws_markEntryS.l1_eq, lt_mid, stk, Int.reduceEq, Nat.reduceEqDiff, Int.reduceLE, Int.reduceLT]
    refine Ev2.bind (markText_ev x (by omega)) ?_
    simp only [w1, stk, Int.reduceEq, Nat.reduceEqDiff, Int.reduceLE, Int.reduceLT]
    refine Ev2.bind (markText_ev (x + 1) (by omega)) ?_
    simp only [w2, hnx, lt_mid, set_mid2, elem_mid, getD_mid, ent_parts, parts_agg, List.set_cons_zero, List.set_cons_succ, stk, Int.reduceEq, Nat.reduceEqDiff, Int.reduceLE, Int.reduceLT]
    have := ih (D ++ [emP x]) (x + 1 + 1) (by simp; omega) (by omega) (by omega)
    have hl1 : (D ++ [emP x]).length = D.length + 1 := by simp
    rw [hl1, List.append_assoc, List.append_assoc] at this
    refine Ev2.ext this ?_
    simp only [List.length_cons, markE, List.cons_append, List.nil_append]
    congr 2
    omega
theorem markE_ev (l : List Ent) (x : Int) (hl : l.length ≤ 1000000000) (h0 : 0 ≤ x) (h1 : x ≤ 100000000000) : Ev (fun N => laws_markEntryS.f N [entsP l, intP x]) [intP (x + 2 * l.length), PV.list (markE x l.length)] := by
  simp only [laws_markEntryS.f_eq, stk, Int.reduceEq, Nat.reduceEqDiff, Int.reduceLE, Int.reduceLT]
  refine Ev2.diag (g := fun N n => laws_markEntryS.l0 N n x 0 (entsP l)) (Ev2.succ ?_)
  cases l with
  | nil =>
    have c0 : ((0 : Int) < (([] : List Ent).length : Int)) = False := fls (by simp)
    simp only [laws_markEntryS.l0_eq, ents_len, c0, stk, Int.reduceEq, Nat.reduceEqDiff, Int.reduceLE, Int.reduceLT]
    refine Ev2.ext (Ev2.now _) ?_
    simp [markE, entsP]
  | cons a rest =>
    rw [List.length_cons] at hl
    have w1 : IntKind.i64.wrap (x + 1) = x + 1 := wrap_id (by omega) (by omega)
    have w2 : IntKind.i64.wrap (x + 1 + 1) = x + 1 + 1 := wrap_id (by omega) (by omega)
    have hnx : IntKind.i64.wrap ((([] : List PV).length : Int) + 1) = ((([] : List PV).length + 1 : Nat) : Int) := nat_wrap (by simp) (by simp)
    have z0 : (0 : Int) = (([] : List PV).length : Int) := rfl
    have z1 : entsP (a :: rest) = PV.list ([] ++ entP a :: rest.map entP) := rfl
    rw [z0, z1]
    simp only [laws_markEntryS.l0_eq, items_list, lt_mid, stk, Int.reduceEq, Nat.reduceEqDiff, Int.reduceLE, Int.reduceLT]
    refine Ev2.bind (markText_ev x (by omega)) ?_
    simp only [w1, stk, Int.reduceEq, Nat.reduceEqDiff, Int.reduceLE, Int.reduceLT]
    refine Ev2.bind (markText_ev (x + 1) (by omega)) ?_
    simp only [w2, hnx, lt_mid, set_mid2, elem_mid, getD_mid, ent_parts, parts_agg, List.set_cons_zero, List.set_cons_succ, stk, Int.reduceEq, Nat.reduceEqDiff, Int.reduceLE, Int.reduceLT]
    have := markE_l1 rest [emP x] (x + 1 + 1) (by simp; omega) (by omega) (by omega)
    refine Ev2.ext this ?_
    simp only [List.length_cons, markE, List.cons_append, List.nil_append]
    congr 2
    omega
theorem am_f0 (k : Int) : (amP k).fld 0 = strP (mt k) := rfl
theorem am_f1 (k : Int) : (amP k).fld 1 = boolP (decide (Int.tmod (k + 1) 3 = 0)) := rfl
theorem am_f2 (k : Int) : (amP k).fld 2 = strP (mt (k + 1 + 1)) := rfl
theorem am_f3 (k : Int) : (amP k).fld 3 = strP (mt (k + 1 + 1 + 1)) := rfl
theorem am_f4 (k : Int) : (amP k).fld 4 = strP (mt (k + 1 + 1 + 1 + 1)) := rfl
theorem em_f0 (k : Int) : (emP k).fld 0 = strP (mt k) := rfl
theorem em_f1 (k : Int) : (emP k).fld 1 = strP (mt (k + 1)) := rfl
theorem heldA_l0 : ∀ (n : Nat) (D : List PV) (x : Int), D.length + n ≤ 1000000000 → 0 ≤ x → x + 5 * n < 4000000000000000000 →
    Ev2 (fun N m => laws_heldAffixS.l0 N m (PV.list (D ++ markA x n)) x (D.length : Int)) [intP (x + 5 * n)] := by
  intro n
  induction n with
  | zero =>
    intro D x h1 h2 h3
    have hp : D ++ markA x 0 = D ++ [] := rfl
    refine Ev2.succ ?_
    simp only [laws_heldAffixS.l0_eq, at_end hp, stk, Int.reduceEq, Nat.reduceEqDiff, Int.reduceLE, Int.reduceLT]
    refine Ev2.ext (Ev2.now _) ?_
    simp
  | succ n ih =>
    intro D x h1 h2 h3
    have w1 : IntKind.i64.wrap (x + 1) = x + 1 := wrap_id (by omega) (by omega)
    have w2 : IntKind.i64.wrap (x + 1 + 1) = x + 1 + 1 := wrap_id (by omega) (by omega)
    have w3 : IntKind.i64.wrap (x + 1 + 1 + 1) = x + 1 + 1 + 1 := wrap_id (by omega) (by omega)
    have w4 : IntKind.i64.wrap (x + 1 + 1 + 1 + 1) = x + 1 + 1 + 1 + 1 := wrap_id (by omega) (by omega)
    have w5 : IntKind.i64.wrap (x + 1 + 1 + 1 + 1 + 1) = x + 1 + 1 + 1 + 1 + 1 := wrap_id (by omega) (by omega)
    have hnx : IntKind.i64.wrap ((D.length : Int) + 1) = ((D.length + 1 : Nat) : Int) := nat_wrap (by omega) (by omega)
    have hp : markA x (n + 1) = amP x :: markA (x + 1 + 1 + 1 + 1 + 1) n := rfl
    refine Ev2.succ ?_
    simp only [laws_heldAffixS.l0_eq, hp, items_list, lt_mid, nat_int, elem_mid, getD_mid, am_f0, am_f1, am_f2, am_f3, am_f4, stk, Int.reduceEq, Nat.reduceEqDiff, Int.reduceLE, Int.reduceLT]
    refine Ev2.bind (markText_ev x (by omega)) ?_
    simp only [three_zero, w1, w2, eq_self, stk, Int.reduceEq, Nat.reduceEqDiff, Int.reduceLE, Int.reduceLT]
    refine Ev2.bind (markText_ev (x + 1 + 1) (by omega)) ?_
    simp only [w3, eq_self, stk, Int.reduceEq, Nat.reduceEqDiff, Int.reduceLE, Int.reduceLT]
    refine Ev2.bind (markText_ev (x + 1 + 1 + 1) (by omega)) ?_
    simp only [w4, eq_self, stk, Int.reduceEq, Nat.reduceEqDiff, Int.reduceLE, Int.reduceLT]
    refine Ev2.bind (markText_ev (x + 1 + 1 + 1 + 1) (by omega)) ?_
    simp only [w5, hnx, eq_self, stk, Int.reduceEq, Nat.reduceEqDiff, Int.reduceLE, Int.reduceLT]
    have := ih (D ++ [amP x]) (x + 1 + 1 + 1 + 1 + 1) (by simp; omega) (by omega) (by omega)
    have hl1 : (D ++ [amP x]).length = D.length + 1 := by simp
    rw [hl1, List.append_assoc] at this
    refine Ev2.ext this ?_
    congr 2
    omega
theorem heldE_l0 : ∀ (n : Nat) (D : List PV) (x : Int), D.length + n ≤ 1000000000 → 0 ≤ x → x + 2 * n < 4000000000000000000 →
    Ev2 (fun N m => laws_heldEntryS.l0 N m (PV.list (D ++ markE x n)) x (D.length : Int)) [intP (x + 2 * n)] := by
  intro n
  induction n with
  | zero =>
    intro D x h1 h2 h3
    have hp : D ++ markE x 0 = D ++ [] := rfl
    refine Ev2.succ ?_
    simp only [laws_heldEntryS.l0_eq, at_end hp, stk, Int.reduceEq, Nat.reduceEqDiff, Int.reduceLE, Int.reduceLT]
    refine Ev2.ext (Ev2.now _) ?_
    simp
  | succ n ih =>
    intro D x h1 h2 h3
    have w1 : IntKind.i64.wrap (x + 1) = x + 1 := wrap_id (by omega) (by omega)
    have w2 : IntKind.i64.wrap (x + 1 + 1) = x + 1 + 1 := wrap_id (by omega) (by omega)
    have hnx : IntKind.i64.wrap ((D.length : Int) + 1) = ((D.length + 1 : Nat) : Int) := nat_wrap (by omega) (by omega)
    have hp : markE x (n + 1) = emP x :: markE (x + 1 + 1) n := rfl
    refine Ev2.succ ?_
    simp only [laws_heldEntryS.l0_eq, hp, items_list, lt_mid, nat_int, elem_mid, getD_mid, em_f0, em_f1, stk, Int.reduceEq, Nat.reduceEqDiff, Int.reduceLE, Int.reduceLT]
    refine Ev2.bind (markText_ev x (by omega)) ?_
    simp only [w1, eq_self, stk, Int.reduceEq, Nat.reduceEqDiff, Int.reduceLE, Int.reduceLT]
    refine Ev2.bind (markText_ev (x + 1) (by omega)) ?_
    simp only [w2, hnx, eq_self, stk, Int.reduceEq, Nat.reduceEqDiff, Int.reduceLE, Int.reduceLT]
    have := ih (D ++ [emP x]) (x + 1 + 1) (by simp; omega) (by omega) (by omega)
    have hl1 : (D ++ [emP x]).length = D.length + 1 := by simp
    rw [hl1, List.append_assoc] at this
    refine Ev2.ext this ?_
    congr 2
    omega
theorem markBookX_ev (af : List Aff) (es : List Ent) (x : Int) (h1 : af.length ≤ 100000000) (h2 : es.length ≤ 100000000) (h0 : 0 ≤ x) (h9 : x ≤ 10000000000) :
    Ev (fun N => laws_markBook.f N [bookP af es, intP x]) [intP (x + 5 * af.length + 2 * es.length), PV.list (markA x af.length), PV.list (markE (x + 5 * af.length) es.length)] := by
  simp only [laws_markBook.f_eq, book_f0, book_f1, stk, Int.reduceEq, Nat.reduceEqDiff, Int.reduceLE, Int.reduceLT]
  refine Ev.bind (markA_ev af x (by omega) h0 (by omega)) ?_
  simp only [stk, Int.reduceEq, Nat.reduceEqDiff, Int.reduceLE, Int.reduceLT]
  refine Ev.bind (markE_ev es (x + 5 * af.length) (by omega) (by omega) (by omega)) ?_
  simp only [stk, Int.reduceEq, Nat.reduceEqDiff, Int.reduceLE, Int.reduceLT]
  exact Ev.now _
theorem ring_arg {P : Program} {t ts ti x y : TypeId} (ht : tk P t = .struct [ts, ti]) (hs : tk P ts = .slice x) (hi : tk P ti = .slice y) (hx : tk P x = .str) (hy : tk P y = .int .i64) {n : Nat} {p : PV} (h : PvOk P (n + 5) t p) : ∃ ks fs, p = ringP ks fs ∧ ks.length ≤ reachBytes ∧ fs.length ≤ reachBytes ∧ ∀ s ∈ ks, s.size ≤ reachBytes := by
  obtain ⟨qs, rfl, h2⟩ := pvOk_struct ht h
  obtain ⟨a, b, rfl, h3, h4⟩ := pvOkL2 h2
  obtain ⟨ks, rfl, k1, k2⟩ := pvOk_strs hs hx h3
  obtain ⟨fs, rfl, f1, _⟩ := pvOk_ints hi hy h4
  exact ⟨ks, fs, rfl, k1, f1, k2⟩
structure DelR (d : Del) : Prop where
  gl : d.goes.length ≤ reachBytes
  g : ∀ s ∈ d.goes, s.size ≤ reachBytes
  cl : d.comes.length ≤ reachBytes
  c : ∀ e ∈ d.comes, e.stem.size ≤ reachBytes ∧ e.flags.size ≤ reachBytes
  ll : d.list.length ≤ reachBytes
  l : ∀ a ∈ d.list, (a.flag.size ≤ reachBytes ∧ a.strip.size ≤ reachBytes) ∧ a.add.size ≤ reachBytes ∧ a.cond.size ≤ reachBytes
structure DelL (d : Del) : Prop where
  gl : d.goes.length ≤ 1048576
  cl : d.comes.length ≤ 1048576
  ll : d.list.length ≤ 1048576
theorem eqRel_ev (r : Rel) (h : DelL r.del) : Ev (fun N => laws_eqRelease.f N [relP r, relP r]) [boolP true] := by
  have a1 := h.gl; have a2 := h.cl; have a3 := h.ll
  simp only [laws_eqRelease.f_eq, laws_eqDelta.f_eq, rel_f0, rel_f1, rel_f2, rel_f3, del_f0, del_f1, del_f2, del_f3, eq_self, stk, Int.reduceEq, Nat.reduceEqDiff, Int.reduceLE, Int.reduceLT]
  refine Ev.bind (s := [boolP true]) ?_ ?_
  · refine Ev.bind (eqStringS_ev r.del.goes (by omega)) ?_
    simp only [stk, Int.reduceEq, Nat.reduceEqDiff, Int.reduceLE, Int.reduceLT]
    refine Ev.bind (eqEntS_ev r.del.comes (by omega)) ?_
    simp only [stk, Int.reduceEq, Nat.reduceEqDiff, Int.reduceLE, Int.reduceLT]
    refine Ev.bind (eqAffS_ev r.del.list (by omega)) ?_
    simp only [stk, Int.reduceEq, Nat.reduceEqDiff, Int.reduceLE, Int.reduceLT]
    exact Ev.now _
  · simp only [stk, Int.reduceEq, Nat.reduceEqDiff, Int.reduceLE, Int.reduceLT]
    exact Ev.now _
theorem eqE_turn (e x : Ent) : (decide (e.stem = x.stem) && decide (e.flags = x.flags)) = eqE x e := by
  unfold eqE
  rw [show decide (e.stem = x.stem) = decide (x.stem = e.stem) from by rw [decide_eq_decide]; exact eq_comm, show decide (e.flags = x.flags) = decide (x.flags = e.flags) from by rw [decide_eq_decide]; exact eq_comm]
theorem entIndex_loop {l : List Ent} (hl : l.length ≤ 1000000000) (e : Ent) : ∀ (rest pre : List Ent), l = pre ++ rest →
    ∃ r : Int, Ev2 (fun N n => slices_Index_impl_Entry.l0 N n (entsP l) (l.length : Int) (pre.length : Int) e.stem e.flags) [intP r] ∧ (0 ≤ r ↔ memE e rest = true) := by
  intro rest
  induction rest with
  | nil =>
    intro pre hp
    refine ⟨-1, Ev2.succ ?_, by simp [memE]⟩
    simp only [slices_Index_impl_Entry.l0_eq, at_end hp, stk, Int.reduceEq, Nat.reduceEqDiff, Int.reduceLE, Int.reduceLT]
    exact Ev2.now _
  | cons x rest ih =>
    intro pre hp
    rcases Bool.eq_false_or_eq_true (eqE x e) with he | he
    · refine ⟨pre.length, Ev2.succ ?_, by simp [memE, he]⟩
      simp only [slices_Index_impl_Entry.l0_eq, ents_len, ents_elem hp, at_lt hp, ent_f0, ent_f1, stk, Int.reduceEq, Nat.reduceEqDiff, Int.reduceLE, Int.reduceLT]
      simp only [eqE_turn, he, stk, Int.reduceEq, Nat.reduceEqDiff, Int.reduceLE, Int.reduceLT]
      exact Ev2.now _
    · obtain ⟨r, h1, h2⟩ := ih _ (at_step hp)
      refine ⟨r, Ev2.succ ?_, by rw [h2]; simp [memE, he]⟩
      simp only [slices_Index_impl_Entry.l0_eq, ents_len, ents_elem hp, at_lt hp, ent_f0, ent_f1, stk, Int.reduceEq, Nat.reduceEqDiff, Int.reduceLE, Int.reduceLT]
      simp only [eqE_turn, he, at_next hp (by omega), stk, Int.reduceEq, Nat.reduceEqDiff, Int.reduceLE, Int.reduceLT]
      exact h1
theorem entContains_ev {l : List Ent} (hl : l.length ≤ 1000000000) (e : Ent) : Ev (fun N => slices_Contains_impl_Entry.f N [entsP l, entP e]) [boolP (memE e l)] := by
  obtain ⟨r, h1, h2⟩ := entIndex_loop hl e l [] rfl
  simp only [slices_Contains_impl_Entry.f_eq, slices_Index_impl_Entry.f_eq, ents_len, ent_f0, ent_f1, ent_agg, stk, Int.reduceEq, Nat.reduceEqDiff, Int.reduceLE, Int.reduceLT]
  refine Ev.bind h1.diag ?_
  have : decide (0 ≤ r) = memE e l := by
    apply Bool.eq_iff_iff.2; rw [decide_eq_true_eq]; exact h2
  simp only [this, stk, Int.reduceEq, Nat.reduceEqDiff, Int.reduceLE, Int.reduceLT]
  exact Ev.now _
theorem eqAffs_loop {a b : List Aff} (hl : a.length = b.length) (ha : a.length ≤ 1000000000) : ∀ (ra pa rb pb : List Aff), a = pa ++ ra → b = pb ++ rb → pb.length = pa.length →
    Ev2 (fun N n => slices_Equal_impl_Affix.l0 N n (affsP a) (affsP b) (a.length : Int) (pa.length : Int)) [boolP (eqAs ra rb)] := by
  intro ra
  induction ra with
  | nil =>
    intro pa rb pb h1 h2 h3
    have e : rb = [] := by
      have l1 := congrArg List.length h1
      have l2 := congrArg List.length h2
      simp at l1 l2
      exact List.eq_nil_of_length_eq_zero (by omega)
    subst e
    refine Ev2.succ ?_
    simp only [slices_Equal_impl_Affix.l0_eq, affs_len, at_end h1, eqAs, stk, Int.reduceEq, Nat.reduceEqDiff, Int.reduceLE, Int.reduceLT]
    exact Ev2.now _
  | cons x ra ih =>
    intro pa rb pb h1 h2 h3
    cases rb with
    | nil =>
      exfalso
      have l1 := congrArg List.length h1
      have l2 := congrArg List.length h2
      simp at l1 l2; omega
    | cons y rb =>
      have s2 := at_lt h2
      have e2 := affs_elem h2
      rw [h3] at s2 e2
      refine Ev2.succ ?_
      simp only [slices_Equal_impl_Affix.l0_eq, affs_len, affs_elem h1, e2, at_lt h1, s2, at_next h1 (by omega), aff_f0, aff_f1, aff_f2, aff_f3, aff_f4, eqAs, stk, Int.reduceEq, Nat.reduceEqDiff, Int.reduceLE, Int.reduceLT]
      simp only [eqA_fold]
      have hih := ih _ _ _ (at_step h1) (at_step h2) (by simp [h3])
      rcases Bool.eq_false_or_eq_true (eqA x y) with he | he
      · simp only [he, stk, Int.reduceEq, Nat.reduceEqDiff, Int.reduceLE, Int.reduceLT]; exact hih
      · simp only [he, stk, Int.reduceEq, Nat.reduceEqDiff, Int.reduceLE, Int.reduceLT]; exact Ev2.now _
theorem eqAffs_ev (a b : List Aff) (ha : a.length ≤ 1000000000) : Ev (fun N => slices_Equal_impl_Affix.f N [affsP a, affsP b]) [boolP (eqAs a b)] := by
  by_cases hl : a.length = b.length
  · have c : ((a.length : Int) = (b.length : Int)) = True := tru (by omega)
    simp only [slices_Equal_impl_Affix.f_eq, affs_len, c, stk, Int.reduceEq, Nat.reduceEqDiff, Int.reduceLE, Int.reduceLT]
    exact (eqAffs_loop hl ha a [] b [] rfl rfl rfl).diag
  · have c : ((a.length : Int) = (b.length : Int)) = False := fls (by omega)
    simp only [slices_Equal_impl_Affix.f_eq, affs_len, c, eqAs_len a b hl, stk, Int.reduceEq, Nat.reduceEqDiff, Int.reduceLE, Int.reduceLT]
    exact Ev.now _
theorem implDelta_l1 {aa ab : List Aff} {ea eb : List Ent} (haa : aa.length ≤ 1000000000) (hab : ab.length ≤ 1000000000) (hea : ea.length ≤ 1000000000) (heb : eb.length ≤ 1000000000) (gs : List ByteArray) : ∀ (rest pre cs : List Ent), eb = pre ++ rest → cs.length + rest.length ≤ 1000000000 →
    Ev2 (fun N n => impl_DeltaOf.l1 N n (entsP eb) (eb.length : Int) (pre.length : Int) (affsP aa) (entsP ea) (affsP ab) (entsP eb) false false (gs.map strP) (cs.map entP) []) [delP (endD aa ab gs (cs ++ newE ea rest))] := by
  intro rest
  induction rest with
  | nil =>
    intro pre cs hp hz
    refine Ev2.succ ?_
    simp only [impl_DeltaOf.l1_eq, ents_len, affs_len, at_end hp, stk, Int.reduceEq, Nat.reduceEqDiff, Int.reduceLE, Int.reduceLT]
    refine Ev2.bind (eqAffs_ev aa ab haa) ?_
    have en : newE ea [] = [] := rfl
    rw [en, List.append_nil]
    unfold endD
    have c0 : (0 + ab.length ≤ 1954687338268) = True := tru (by omega)
    have e4 : PV.list (affsP ab).items = affsP ab := rfl
    cases eqAs aa ab with
    | false => simp only [List.length_nil, c0, List.nil_append, e4, stk, Int.reduceEq, Nat.reduceEqDiff, Int.reduceLE, Int.reduceLT]; exact Ev2.now _
    | true => simp only [stk, Int.reduceEq, Nat.reduceEqDiff, Int.reduceLE, Int.reduceLT]; exact Ev2.now _
  | cons e rest ih =>
    intro pre cs hp hz
    rw [List.length_cons] at hz
    have hcl : ((cs.map entP).length + 1 ≤ 4398046511104) = True := tru (by rw [List.length_map]; omega)
    refine Ev2.succ ?_
    simp only [impl_DeltaOf.l1_eq, ents_len, ents_elem hp, at_lt hp, at_next hp (by omega), ent_f0, ent_f1, ent_agg, stk, Int.reduceEq, Nat.reduceEqDiff, Int.reduceLE, Int.reduceLT]
    refine Ev2.bind (entContains_ev hea e) ?_
    rcases Bool.eq_false_or_eq_true (memE e ea) with hm | hm
    · rw [newE_yes rest hm]
      have := ih (pre ++ [e]) cs (at_step hp) (by omega)
      simp only [hm, stk, Int.reduceEq, Nat.reduceEqDiff, Int.reduceLE, Int.reduceLT]
      exact this
    · rw [newE_no rest hm]
      have := ih (pre ++ [e]) (cs ++ [e]) (at_step hp) (by rw [List.length_append, List.length_singleton]; omega)
      rw [List.map_append, List.append_assoc] at this
      simp only [hcl, hm, stk, Int.reduceEq, Nat.reduceEqDiff, Int.reduceLE, Int.reduceLT]
      exact this
theorem implDelta_l0 {aa ab : List Aff} {ea eb : List Ent} (haa : aa.length ≤ 1000000000) (hab : ab.length ≤ 1000000000) (hea : ea.length ≤ 1000000000) (heb : eb.length ≤ 1000000000) : ∀ (rest pre : List Ent) (gs : List ByteArray), ea = pre ++ rest → gs.length + rest.length ≤ 1000000000 →
    Ev2 (fun N n => impl_DeltaOf.l0 N n (entsP ea) (ea.length : Int) (pre.length : Int) (affsP aa) (entsP ea) (affsP ab) (entsP eb) false false (gs.map strP) [] []) [delP (endD aa ab (gs ++ goE eb rest) (newE ea eb))] := by
  intro rest
  induction rest with
  | nil =>
    intro pre gs hp hz
    have en : goE eb [] = [] := rfl
    rw [en, List.append_nil]
    refine Ev2.succ ?_
    simp only [impl_DeltaOf.l0_eq, ents_len, at_end hp, stk, Int.reduceEq, Nat.reduceEqDiff, Int.reduceLE, Int.reduceLT]
    exact (implDelta_l1 haa hab hea heb gs eb [] [] rfl (by simp; omega)).after
  | cons e rest ih =>
    intro pre gs hp hz
    rw [List.length_cons] at hz
    have hcl : ((gs.map strP).length + 1 ≤ 8796093022208) = True := tru (by rw [List.length_map]; omega)
    refine Ev2.succ ?_
    refine Ev2.congr (g' := fun N n => if ¬ e.stem ∈ stems eb then impl_DeltaOf.l0 N n (entsP ea) (ea.length : Int) ((pre ++ [e]).length : Int) (affsP aa) (entsP ea) (affsP ab) (entsP eb) false false (gs.map strP ++ [strP e.stem]) [] [] else impl_DeltaOf.l0 N n (entsP ea) (ea.length : Int) ((pre ++ [e]).length : Int) (affsP aa) (entsP ea) (affsP ab) (entsP eb) false false (gs.map strP) [] []) (fun N n => ?_) ?_
    · obtain ⟨r, h1, -, h3⟩ := entryAt_val eb e.stem heb N
      simp only [impl_DeltaOf.l0_eq, ents_len, ents_elem hp, at_lt hp, at_next hp (by omega), ent_f0, h1, h3, hcl, stk, Int.reduceEq, Nat.reduceEqDiff, Int.reduceLE, Int.reduceLT]
    · by_cases hst : e.stem ∈ stems eb
      · rw [goE_yes rest hst]
        have := ih (pre ++ [e]) gs (at_step hp) (by omega)
        have hst2 : (e.stem ∈ stems eb) = True := tru hst
        simp only [hst2, stk, Int.reduceEq, Nat.reduceEqDiff, Int.reduceLE, Int.reduceLT]
        exact this
      · rw [goE_no rest hst]
        have := ih (pre ++ [e]) (gs ++ [e.stem]) (at_step hp) (by rw [List.length_append, List.length_singleton]; omega)
        rw [List.map_append, List.append_assoc] at this
        simp only [hst, stk, Int.reduceEq, Nat.reduceEqDiff, Int.reduceLE, Int.reduceLT]
        exact this
theorem implDelta_ev {aa ab : List Aff} {ea eb : List Ent} (hA : BookS aa ea) (hB : BookS ab eb) (ha : bookB aa ea = true) (hb : bookB ab eb = true) : Ev (fun N => impl_DeltaOf.f N [bookP aa ea, bookP ab eb]) [delP (deltaM aa ea ab eb)] := by
  have := (implDelta_l0 hA.al hB.al hA.el hB.el ea [] [] rfl (by have := hA.el; simp; omega)).diag
  rw [List.nil_append, endD_eq] at this
  simp only [impl_DeltaOf.f_eq, book_f0, book_f1, book_agg, ents_len, stk, Int.reduceEq, Nat.reduceEqDiff, Int.reduceLE, Int.reduceLT]
  refine Ev.bind (implBookOk_ev hA) ?_
  simp only [ha, stk, Int.reduceEq, Nat.reduceEqDiff, Int.reduceLE, Int.reduceLT]
  refine Ev.bind (implBookOk_ev hB) ?_
  simp only [hb, stk, Int.reduceEq, Nat.reduceEqDiff, Int.reduceLE, Int.reduceLT]
  exact this
theorem implRelOf_ev {aa ab : List Aff} {ea eb : List Ent} (hA : BookS aa ea) (hB : BookS ab eb) (k : ByteArray) (hk : k.size ≤ 1000000000) (n : Int) : Ev (fun N => impl_ReleaseOf.f N [strP k, intP n, bookP aa ea, bookP ab eb]) (relOfR k n aa ea ab eb) := by
  have hkv := implKey_val k (by omega)
  simp only [strP] at hkv
  simp only [impl_ReleaseOf.f_eq, book_f0, book_f1, book_agg, hkv, implWithin_val, noRel_agg, stk, Int.reduceEq, Nat.reduceEqDiff, Int.reduceLE, Int.reduceLT]
  unfold relOfR
  cases h0 : keyM k with
  | false => simp only [stk, Int.reduceEq, Nat.reduceEqDiff, Int.reduceLE, Int.reduceLT]; exact Ev.now _
  | true =>
    by_cases hn : 0 ≤ n ∧ n ≤ 999998
    · have hw : IntKind.i64.wrap (n + 1) = n + 1 := wrap_id (by omega) (by omega)
      simp only [hn, hw, stk, Int.reduceEq, Nat.reduceEqDiff, Int.reduceLE, Int.reduceLT]
      refine Ev.bind (implBookOk_ev hA) ?_
      cases ha : bookB aa ea with
      | false => simp only [stk, Int.reduceEq, Nat.reduceEqDiff, Int.reduceLE, Int.reduceLT]; exact Ev.now _
      | true =>
        simp only [stk, Int.reduceEq, Nat.reduceEqDiff, Int.reduceLE, Int.reduceLT]
        refine Ev.bind (implBookOk_ev hB) ?_
        cases hb : bookB ab eb with
        | false => simp only [stk, Int.reduceEq, Nat.reduceEqDiff, Int.reduceLE, Int.reduceLT]; exact Ev.now _
        | true =>
          have hdo := deltaM_ok ha hb
          have hdS := deltaM_S hA hB
          have hsm := smallB_of hb
          have hz := bookT_size hsm
          have hse := implSum_ev (bookT ab eb) (by omega)
          have hnum : numB (n + 1) = true := by simp only [numB, decide_eq_true_eq]; omega
          have ht := implRelText_ev (r := ⟨n + 1, deltaM aa ea ab eb, sumB (bookT ab eb), ⟨#[]⟩⟩) hnum hdS hdo (by show (sumB _).size ≤ 64; rw [sumB_size]; omega)
          have hsz := relT_size (n := (n + 1).toNat) (by omega) (delW_of hdo) (sum := sumB (bookT ab eb)) (by rw [sumB_size]; omega)
          have hsl := implSeal_ev k (relT (n + 1).toNat (deltaM aa ea ab eb) (sumB (bookT ab eb))) (by omega) (by omega)
          have hfo := implForm_ev (r := madeR k n aa ea ab eb) hdS
          have ea1 : relP ⟨n + 1, deltaM aa ea ab eb, sumB (bookT ab eb), ⟨#[]⟩⟩ = PV.agg [PV.sc (.int .i64 (n + 1)), delP (deltaM aa ea ab eb), PV.sc (.string (sumB (bookT ab eb))), PV.sc (.string (ByteArray.mk #[]))] := rfl
          have ea2 : relP (madeR k n aa ea ab eb) = PV.agg [PV.sc (.int .i64 (n + 1)), delP (deltaM aa ea ab eb), PV.sc (.string (sumB (bookT ab eb))), PV.sc (.string (sealM k (relT (n + 1).toNat (deltaM aa ea ab eb) (sumB (bookT ab eb)))))] := rfl
          rw [ea1] at ht
          rw [ea2] at hfo
          simp only [strP] at hse hsl
          simp only [stk, Int.reduceEq, Nat.reduceEqDiff, Int.reduceLE, Int.reduceLT]
          refine Ev.bind (implDelta_ev hA hB ha hb) ?_
          simp only [del_f0, del_f1, del_f2, del_f3, del_agg, stk, Int.reduceEq, Nat.reduceEqDiff, Int.reduceLE, Int.reduceLT]
          refine Ev.bind (implPutB_ev hB hb) ?_
          simp only [stk, Int.reduceEq, Nat.reduceEqDiff, Int.reduceLE, Int.reduceLT]
          refine Ev.bind hse ?_
          simp only [stk, Int.reduceEq, Nat.reduceEqDiff, Int.reduceLE, Int.reduceLT]
          refine Ev.bind ht ?_
          simp only [stk, Int.reduceEq, Nat.reduceEqDiff, Int.reduceLE, Int.reduceLT]
          refine Ev.bind hsl ?_
          simp only [stk, Int.reduceEq, Nat.reduceEqDiff, Int.reduceLE, Int.reduceLT]
          refine Ev.bind hfo ?_
          rw [ea2]
          cases frmB (madeR k n aa ea ab eb) with
          | false => simp only [stk, Int.reduceEq, Nat.reduceEqDiff, Int.reduceLE, Int.reduceLT]; exact Ev.now _
          | true => simp only [stk, Int.reduceEq, Nat.reduceEqDiff, Int.reduceLE, Int.reduceLT]; exact Ev.now _
    · simp only [hn, stk, Int.reduceEq, Nat.reduceEqDiff, Int.reduceLE, Int.reduceLT]; exact Ev.now _
theorem implRingRel_ev {ks : List ByteArray} {fs : List Int} (hf : fs.length ≤ 1000000000) (hk : ks.length ≤ 1000000000) (hks : ∀ k ∈ ks, k.size ≤ 1000000000) {aa ab : List Aff} {ea eb : List Ent} (hA : BookS aa ea) (hB : BookS ab eb) (n : Int) :
    Ev (fun N => impl_RingRelease.f N [ringP ks fs, intP n, bookP aa ea, bookP ab eb]) (ringRelR ks fs n aa ea ab eb) := by
  have hks' : ∀ k ∈ ks, k.size ≤ 9223372036854775807 := fun k h => by have := hks k h; omega
  simp only [impl_RingRelease.f_eq, ring_f0, ring_f1, ring_agg, book_f0, book_f1, book_agg, noRel_agg, implWithin_val, stk, Int.reduceEq, Nat.reduceEqDiff, Int.reduceLE, Int.reduceLT]
  unfold ringRelR
  refine Ev.bind (implRingOk_ev ks fs (by omega) (by omega) hks') ?_
  cases hr : ringM ks fs with
  | false => simp only [stk, Int.reduceEq, Nat.reduceEqDiff, Int.reduceLE, Int.reduceLT]; exact Ev.now _
  | true =>
    by_cases hn : 0 ≤ n ∧ n ≤ 999998
    · have hw : IntKind.i64.wrap (n + 1) = n + 1 := wrap_id (by omega) (by omega)
      have hkey := implRingKey_ev ks fs (n + 1) (by omega) (by omega) hks'
      unfold ringKeyM at hkey
      rw [if_pos hr] at hkey
      have hd := implRelOf_ev hA hB (lastKey (n + 1) ⟨#[]⟩ ks fs) (lastKey_size _ _ _ _ (by rw [c_zero]; omega) hks) n
      obtain ⟨r, b, he, -⟩ := relOfR_two (lastKey (n + 1) ⟨#[]⟩ ks fs) n aa ea ab eb
      rw [he] at hd ⊢
      simp only [strP, intP] at hkey hd
      simp only [hn, hw, stk, Int.reduceEq, Nat.reduceEqDiff, Int.reduceLE, Int.reduceLT]
      refine Ev.bind hkey ?_
      simp only [stk, Int.reduceEq, Nat.reduceEqDiff, Int.reduceLE, Int.reduceLT]
      refine Ev.bind hd ?_
      simp only [rel_f0, rel_f1, rel_f2, rel_f3, del_f0, del_f1, del_f2, del_f3, del_agg, rel_agg, stk, Int.reduceEq, Nat.reduceEqDiff, Int.reduceLE, Int.reduceLT]
      exact Ev.now _
    · simp only [hn, stk, Int.reduceEq, Nat.reduceEqDiff, Int.reduceLE, Int.reduceLT]; exact Ev.now _
theorem markRelX_ev (r : Rel) (h : DelL r.del) (x : Int) (h0 : 0 ≤ x) (h1 : x ≤ 1000000000) : Ev (fun N => laws_markRelease.f N [relP r, intP x]) [intP (x + r.del.goes.length + 2 * r.del.comes.length + 5 * r.del.list.length), strsP (markStrs x r.del.goes), PV.list (markE (x + r.del.goes.length) r.del.comes.length), PV.list (markA (x + r.del.goes.length + 2 * r.del.comes.length) r.del.list.length)] := by
  have a1 := h.gl; have a2 := h.cl; have a3 := h.ll
  simp only [laws_markRelease.f_eq, laws_markDelta.f_eq, rel_f0, rel_f1, rel_f2, rel_f3, del_f0, del_f1, del_f2, del_f3, stk, Int.reduceEq, Nat.reduceEqDiff, Int.reduceLE, Int.reduceLT]
  refine Ev.bind (s := [intP (x + r.del.goes.length + 2 * r.del.comes.length + 5 * r.del.list.length), strsP (markStrs x r.del.goes), PV.list (markE (x + r.del.goes.length) r.del.comes.length), PV.list (markA (x + r.del.goes.length + 2 * r.del.comes.length) r.del.list.length)]) ?_ ?_
  · refine Ev.bind (markStringS_ev r.del.goes x (by omega) (by omega) (by omega)) ?_
    simp only [stk, Int.reduceEq, Nat.reduceEqDiff, Int.reduceLE, Int.reduceLT]
    refine Ev.bind (markE_ev r.del.comes _ (by omega) (by omega) (by omega)) ?_
    simp only [stk, Int.reduceEq, Nat.reduceEqDiff, Int.reduceLE, Int.reduceLT]
    refine Ev.bind (markA_ev r.del.list _ (by omega) (by omega) (by omega)) ?_
    simp only [stk, Int.reduceEq, Nat.reduceEqDiff, Int.reduceLE, Int.reduceLT]
    exact Ev.now _
  · simp only [stk, Int.reduceEq, Nat.reduceEqDiff, Int.reduceLE, Int.reduceLT]
    exact Ev.now _
theorem heldRelX_ev (num : Int) (af : Bool) (su si : ByteArray) (l : List ByteArray) (m n : Nat) (hl : l.length ≤ 100000000) (hm : m ≤ 100000000) (hn : n ≤ 100000000) :
    Ev (fun N => laws_heldRelease.f N [PV.agg [intP num, PV.agg [strsP (markStrs 1 l), PV.list (markE (1 + l.length) m), boolP af, PV.list (markA (1 + l.length + 2 * m) n)], strP su, strP si], intP 1]) [intP (1 + l.length + 2 * m + 5 * n)] := by
  have c1 : (1 + (l.length : Int) < 0) = False := fls (by omega)
  have c2 : (1 + (l.length : Int) + 2 * (m : Int) < 0) = False := fls (by omega)
  have c3 : (1 + (l.length : Int) + 2 * (m : Int) + 5 * (n : Int) < 0) = False := fls (by omega)
  have f1 : (PV.agg [intP num, PV.agg [strsP (markStrs 1 l), PV.list (markE (1 + l.length) m), boolP af, PV.list (markA (1 + l.length + 2 * m) n)], strP su, strP si]).fld 1 = PV.agg [strsP (markStrs 1 l), PV.list (markE (1 + l.length) m), boolP af, PV.list (markA (1 + l.length + 2 * m) n)] := rfl
  have g0 : (PV.agg [strsP (markStrs 1 l), PV.list (markE (1 + l.length) m), boolP af, PV.list (markA (1 + l.length + 2 * m) n)]).fld 0 = strsP (markStrs 1 l) := rfl
  have g1 : (PV.agg [strsP (markStrs 1 l), PV.list (markE (1 + l.length) m), boolP af, PV.list (markA (1 + l.length + 2 * m) n)]).fld 1 = PV.list (markE (1 + l.length) m) := rfl
  have g3 : (PV.agg [strsP (markStrs 1 l), PV.list (markE (1 + l.length) m), boolP af, PV.list (markA (1 + l.length + 2 * m) n)]).fld 3 = PV.list (markA (1 + l.length + 2 * m) n) := rfl
  have g2 : (PV.agg [strsP (markStrs 1 l), PV.list (markE (1 + l.length) m), boolP af, PV.list (markA (1 + l.length + 2 * m) n)]).fld 2 = boolP af := rfl
  have q0 : ∀ a b c d : PV, (PV.agg [a, b, c, d]).fld 0 = a := fun _ _ _ _ => rfl
  have q1 : ∀ a b c d : PV, (PV.agg [a, b, c, d]).fld 1 = b := fun _ _ _ _ => rfl
  have q3 : ∀ a b c d : PV, (PV.agg [a, b, c, d]).fld 3 = d := fun _ _ _ _ => rfl
  simp only [laws_heldRelease.f_eq, laws_heldDelta.f_eq, f1, g0, g1, g2, g3, q0, q1, q3, stk, Int.reduceEq, Nat.reduceEqDiff, Int.reduceLE, Int.reduceLT]
  refine Ev.bind (s := [intP (1 + l.length + 2 * m + 5 * n)]) ?_ ?_
  · refine Ev.bind (heldStringS_ev l 1 (by omega) (by omega) (by omega)) ?_
    simp only [c1, laws_heldEntryS.f_eq, laws_heldAffixS.f_eq, stk, Int.reduceEq, Nat.reduceEqDiff, Int.reduceLE, Int.reduceLT]
    refine Ev.bind (heldE_l0 m [] (1 + l.length) (by simp; omega) (by omega) (by omega)).diag ?_
    simp only [c2, stk, Int.reduceEq, Nat.reduceEqDiff, Int.reduceLE, Int.reduceLT]
    refine Ev.bind (heldA_l0 n [] (1 + l.length + 2 * m) (by simp; omega) (by omega) (by omega)).diag ?_
    simp only [c3, stk, Int.reduceEq, Nat.reduceEqDiff, Int.reduceLE, Int.reduceLT]
    exact Ev.now _
  · simp only [c3, stk, Int.reduceEq, Nat.reduceEqDiff, Int.reduceLE, Int.reduceLT]
    exact Ev.now _
theorem ringRelR_len (ks : List ByteArray) (fs : List Int) (n : Int) {aa ab : List Aff} {ea eb : List Ent} (h1 : ea.length ≤ 1048576) (h2 : eb.length ≤ 1048576) (h3 : ab.length ≤ 1048576) : ∃ (r : Rel) (b : Bool), ringRelR ks fs n aa ea ab eb = [relP r, boolP b] ∧ DelL r.del := by
  have hno : DelL noRel.del := ⟨Nat.zero_le _, Nat.zero_le _, Nat.zero_le _⟩
  unfold ringRelR
  split
  · split
    · obtain ⟨r, b, he, hr⟩ := relOfR_two (lastKey (n + 1) ⟨#[]⟩ ks fs) n aa ea ab eb
      refine ⟨r, b, he, ?_⟩
      rcases hr with rfl | rfl
      · exact hno
      · have l1 := List.length_filter_le (fun e : Ent => !decide (e.stem ∈ stems eb)) ea
        have l2 := List.length_filter_le (fun e : Ent => !memE e ea) eb
        refine ⟨?_, ?_, ?_⟩
        · show (stems (ea.filter fun e : Ent => !decide (e.stem ∈ stems eb))).length ≤ _
          rw [stems, List.length_map]; omega
        · show (eb.filter fun e : Ent => !memE e ea).length ≤ _
          omega
        · show (if eqAs aa ab = true then [] else ab).length ≤ _
          split
          · simp
          · exact h3
    · exact ⟨noRel, false, rfl, hno⟩
  · exact ⟨noRel, false, rfl, hno⟩
theorem law (ps : List PV) (h : PvOkL (PvOk Tryz.prog 8) [25, 3, 29, 29] ps) : ∃ N, laws_FnExactRingRelease.f N ps = some [boolP true] := by
  obtain ⟨p0, ps, rfl, h0, h⟩ := pvOkL_cons h
  obtain ⟨p1, p2, p3, rfl, h1, h2, h3⟩ := pvOkL3 h
  obtain ⟨ks, fs, rfl, b1, b2, b3⟩ := ring_arg (P := Tryz.prog) (t := 25) (ts := 22) (ti := 23) (x := 9) (y := 3) (by kernel_rfl) (by kernel_rfl) (by kernel_rfl) (by kernel_rfl) (by kernel_rfl) h0
  obtain ⟨num, rfl, hnum⟩ := pvOk_int (P := Tryz.prog) (t := 3) (k := .i64) (by kernel_rfl) h1
  obtain ⟨aa, ea, rfl, c1, c2, c3, c4⟩ := book_arg (P := Tryz.prog) (t := 29) (ta := 26) (te := 27) (ea := 107) (ee := 109) (b := 4) (x := 9) (by kernel_rfl) (by kernel_rfl) (by kernel_rfl) (by kernel_rfl) (by kernel_rfl) (by kernel_rfl) (by kernel_rfl) h2
  obtain ⟨ab, eb, rfl, d1, d2, d3, d4⟩ := book_arg (P := Tryz.prog) (t := 29) (ta := 26) (te := 27) (ea := 107) (ee := 109) (b := 4) (x := 9) (by kernel_rfl) (by kernel_rfl) (by kernel_rfl) (by kernel_rfl) (by kernel_rfl) (by kernel_rfl) (by kernel_rfl) h3
  have hm : reachBytes = 140737488351232 := rfl
  rw [hm] at b1 b2 c1 c2 d1 d2
  refine Ev.some ?_
  simp only [laws_FnExactRingRelease.f_eq, ring_f0, ring_f1, ring_agg, book_f0, book_f1, book_agg, stk, Int.reduceEq, Nat.reduceEqDiff, Int.reduceLE, Int.reduceLT]
  obtain ⟨l1, g1, g2, g3⟩ := szRing_ev ks fs (by omega) (by omega) (fun s hs => by have := b3 s hs; rw [hm] at this; omega) 1048576 (by omega) (by omega)
  refine Ev.bind g1 ?_
  simp only [stk, Int.reduceEq, Nat.reduceEqDiff, Int.reduceLE, Int.reduceLT]
  by_cases n1 : l1 < 0
  · simp only [n1, stk, Int.reduceEq, Nat.reduceEqDiff, Int.reduceLE, Int.reduceLT]; exact Ev.now _
  simp only [n1, stk, Int.reduceEq, Nat.reduceEqDiff, Int.reduceLE, Int.reduceLT]
  obtain ⟨l2, k1, k2, k3, k4⟩ := szBook_ev aa ea (by omega) (by omega) (fun a ha => by have := c3 a ha; rw [hm] at this; omega) (fun e he => by have := c4 e he; rw [hm] at this; omega) l1 (by omega) (by omega)
  refine Ev.bind k1 ?_
  simp only [stk, Int.reduceEq, Nat.reduceEqDiff, Int.reduceLE, Int.reduceLT]
  by_cases n2 : l2 < 0
  · simp only [n2, stk, Int.reduceEq, Nat.reduceEqDiff, Int.reduceLE, Int.reduceLT]; exact Ev.now _
  simp only [n2, stk, Int.reduceEq, Nat.reduceEqDiff, Int.reduceLE, Int.reduceLT]
  obtain ⟨l3, m1, m2, m3, m4⟩ := szBook_ev ab eb (by omega) (by omega) (fun a ha => by have := d3 a ha; rw [hm] at this; omega) (fun e he => by have := d4 e he; rw [hm] at this; omega) l2 (by omega) (by omega)
  refine Ev.bind m1 ?_
  simp only [stk, Int.reduceEq, Nat.reduceEqDiff, Int.reduceLE, Int.reduceLT]
  by_cases n3 : l3 < 0
  · simp only [n3, stk, Int.reduceEq, Nat.reduceEqDiff, Int.reduceLE, Int.reduceLT]; exact Ev.now _
  simp only [n3, stk, Int.reduceEq, Nat.reduceEqDiff, Int.reduceLE, Int.reduceLT]
  have g4 := g3 (by omega)
  have g5 := szStrs_len ks
  have hks : ∀ k ∈ ks, k.size ≤ 1000000000 := fun k hk => by have := szStrs_mem ks k hk; omega
  have hkl : ks.length ≤ 1048576 := by omega
  have hfl : fs.length ≤ 1048576 := by have := szStrs_len ks; omega
  obtain ⟨⟨k5, k6⟩, hA⟩ := k4 (by omega)
  obtain ⟨⟨m5, m6⟩, hB⟩ := m4 (by omega)
  have htr := toRing_ev ks fs (by omega) (by omega)
  have hta := toBook_ev aa ea (by omega) (by omega)
  have htb := toBook_ev ab eb (by omega) (by omega)
  have hsp := specRingRel_ev (by omega) (by omega) hks hA hB num (ks := ks) (fs := fs)
  have him := implRingRel_ev (by omega) (by omega) hks hA hB num (ks := ks) (fs := fs)
  obtain ⟨r, b, hR, hL⟩ := ringRelR_len ks fs num (aa := aa) (ab := ab) k6 m6 m5
  rw [hR] at hsp him
  have hel := eqRel_ev r hL
  have a1 := hL.gl; have a2 := hL.cl; have a3 := hL.ll
  have q5 := markBookX_ev aa ea (1 + (ks.length : Int) + fs.length) (by omega) (by omega) (by omega) (by omega)
  have q6 := markBookX_ev ab eb (1 + (ks.length : Int) + fs.length + 5 * aa.length + 2 * ea.length) (by omega) (by omega) (by omega) (by omega)
  have e5 : (1 + (ks.length : Int) + fs.length + 5 * aa.length + 2 * ea.length + 5 * ab.length + 2 * eb.length < 0) = False := fls (by omega)
  have e6 : ((1 : Int) + r.del.goes.length + 2 * r.del.comes.length + 5 * r.del.list.length < 0) = False := fls (by omega)
  have hmk := markRelX_ev r hL 1 (by omega) (by omega)
  have hhe := heldRelX_ev r.num r.del.aff r.sum r.sig r.del.goes r.del.comes.length r.del.list.length (by omega) (by omega) (by omega)
  simp only [strP, intP, boolP] at hsp him hhe
  refine Ev.bind htr ?_
  refine Ev.bind hta ?_
  refine Ev.bind htb ?_
  simp only [ring_f0, ring_f1, ring_agg, book_f0, book_f1, book_agg, stk, Int.reduceEq, Nat.reduceEqDiff, Int.reduceLE, Int.reduceLT]
  refine Ev.bind hsp ?_
  refine Ev.bind htr ?_
  refine Ev.bind hta ?_
  refine Ev.bind htb ?_
  simp only [ring_f0, ring_f1, ring_agg, book_f0, book_f1, book_agg, stk, Int.reduceEq, Nat.reduceEqDiff, Int.reduceLE, Int.reduceLT]
  refine Ev.bind him ?_
  simp only [rel_f0, rel_f1, rel_f2, rel_f3, del_f0, del_f1, del_f2, del_f3, del_agg, rel_agg, stk, Int.reduceEq, Nat.reduceEqDiff, Int.reduceLE, Int.reduceLT]
  refine Ev.bind hel ?_
  simp only [stk, Int.reduceEq, Nat.reduceEqDiff, Int.reduceLE, Int.reduceLT]
  refine Ev.bind htr ?_
  simp only [ring_f0, ring_f1, ring_agg, stk, Int.reduceEq, Nat.reduceEqDiff, Int.reduceLE, Int.reduceLT]
  refine Ev.bind (eqRing_ev ks fs (by omega) (by omega)) ?_
  simp only [stk, Int.reduceEq, Nat.reduceEqDiff, Int.reduceLE, Int.reduceLT]
  refine Ev.bind hta ?_
  simp only [book_f0, book_f1, book_agg, stk, Int.reduceEq, Nat.reduceEqDiff, Int.reduceLE, Int.reduceLT]
  refine Ev.bind (eqBook_ev aa ea (by omega) (by omega)) ?_
  simp only [stk, Int.reduceEq, Nat.reduceEqDiff, Int.reduceLE, Int.reduceLT]
  refine Ev.bind htb ?_
  simp only [book_f0, book_f1, book_agg, stk, Int.reduceEq, Nat.reduceEqDiff, Int.reduceLE, Int.reduceLT]
  refine Ev.bind (eqBook_ev ab eb (by omega) (by omega)) ?_
  simp only [stk, Int.reduceEq, Nat.reduceEqDiff, Int.reduceLE, Int.reduceLT]
  refine Ev.bind (markRing_ev ks fs (by omega) (by omega)) ?_
  simp only [stk, Int.reduceEq, Nat.reduceEqDiff, Int.reduceLE, Int.reduceLT]
  refine Ev.bind q5 ?_
  simp only [stk, Int.reduceEq, Nat.reduceEqDiff, Int.reduceLE, Int.reduceLT]
  refine Ev.bind q6 ?_
  simp only [e5, stk, Int.reduceEq, Nat.reduceEqDiff, Int.reduceLE, Int.reduceLT]
  refine Ev.bind hel ?_
  simp only [stk, Int.reduceEq, Nat.reduceEqDiff, Int.reduceLE, Int.reduceLT]
  refine Ev.bind hmk ?_
  simp only [stk, Int.reduceEq, Nat.reduceEqDiff, Int.reduceLE, Int.reduceLT]
  refine Ev.bind hhe ?_
  simp only [e6, eq_self, stk, Int.reduceEq, Nat.reduceEqDiff, Int.reduceLE, Int.reduceLT]
  refine Ev.bind htr ?_
  refine Ev.bind hta ?_
  refine Ev.bind htb ?_
  simp only [ring_f0, ring_f1, ring_agg, book_f0, book_f1, book_agg, stk, Int.reduceEq, Nat.reduceEqDiff, Int.reduceLE, Int.reduceLT]
  refine Ev.bind him ?_
  simp only [rel_f0, rel_f1, rel_f2, rel_f3, del_f0, del_f1, del_f2, del_f3, del_agg, rel_agg, stk, Int.reduceEq, Nat.reduceEqDiff, Int.reduceLE, Int.reduceLT]
  refine Ev.bind hel ?_
  simp only [stk, Int.reduceEq, Nat.reduceEqDiff, Int.reduceLE, Int.reduceLT]
  refine Ev.bind hhe ?_
  simp only [e6, eq_self, stk, Int.reduceEq, Nat.reduceEqDiff, Int.reduceLE, Int.reduceLT]
  exact Ev.now _
end Go.Proofs.YtjfigkikhmffpaaGreatDoor.FnExactRingRelease
